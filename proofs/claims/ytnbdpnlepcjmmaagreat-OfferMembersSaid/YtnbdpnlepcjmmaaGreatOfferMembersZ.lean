/-
  OfferMembers, for every input: the law returns true, and the argument reads behind the call as it read before. No condition.
-/
import Derived.Test.YtnbdpnlepcjmmaaGreatOfferMembersK4
namespace Go.Proofs.YtnbdpnlepcjmmaaGreat
open Go.ChangeShapes Go.WideShapes Go.ChangeAt Go.RowKit
theorem validM_len {m : List Int} (h : validM m = true) : m.length ≤ 8 := by
 unfold validM at h
 simp only [Bool.and_eq_true, decide_eq_true_eq] at h
 exact h.1.2
theorem okb_fine {b : Bx} (h : FB b) : OKB b := by
 obtain ⟨f1, f2, f3, f4⟩ := fineB_all.1 h.1
 obtain ⟨g1, g2, g3, g4⟩ := maps_iff.1 f4
 have h1 := ((okS_iff b.r).1 h.r).2.2
 have h2 := ((okS_iff b.s).1 h.s).2.2
 exact ⟨by omega, by omega, by omega, fun x hx => by have := validM_len (g3 x hx); omega⟩
theorem fl_fine {l : List Bx} (h : Fine l) (hl : l.length ≤ 64) : FL l := ⟨fun b hb => ⟨(h b hb).1, (h b hb).2.2.1⟩, hl⟩
theorem small_fine {l : List Bx} (h : Fine l) : Small l := fun b hb => by have := (h b hb).2.2.2; unfold Few at this; omega
theorem FL.okb {l : List Bx} (h : FL l) : ∀ b ∈ l, OKB b := fun b hb => okb_fine (h.1 b hb)
namespace OfferMembers
set_option maxHeartbeats 32000000 in
set_option maxRecDepth 10000 in
theorem walk (A : Option Addr) (c0 : Nat) (sd : List Int) (w : World) (h0 : Reads w w.heap.size 1 A sd.length (sd.map (Value.int .u8))) (hc : sd.length ≤ c0) (hl : sd.length ≤ 9223372036854775807) (hwf : ∀ x ∈ sd, 0 ≤ x ∧ x ≤ 255) :
 Calls Tryz.prog 6 #[.slice A sd.length c0] w fun e w' => e = .returned (.bool true) ∧ Grows w w' := by
 have hB := Below.refl w.heap.size w
 go_enter Tryz.func6, Tryz.ntmps6
 go_wp2_with fail
 refine (sane_any w).mono ?_
 rintro e w1 ⟨rfl, hq⟩
 replace hB := below_grows hB (Nat.le_refl _) hq
 replace h0 := Reads.grows h0 hq
 have hs1 := hB.size
 clear hq
 go_wp2_with fail
 refine (made_any A c0 sd w1 h0 hc hl hwf).mono ?_
 rintro e w2 ⟨⟨g, a, b, c, A1, c1, A2, c2, v, rfl, hxa, hxb, hc1, hc2, hfa, hfb, hla, hlb, ⟨A3, n3, rfl, hn3, hic⟩, hokc, hD, hsz⟩, hq⟩
 replace hB := below_grows hB (Nat.le_refl _) hq
 clear hq h0
 have HFA := Lib.hid hfa
 have HFB := Lib.hid hfb
 have fla := fl_fine hfa (by omega)
 have flb := fl_fine hfb (by omega)
 have sma := small_fine hfa
 have smb := small_fine hfb
 clear hfa hfb
 have hg2 := hD.lt
 obtain ⟨i1, i2, i3, -⟩ := has_interP fla flb sma smb (by have := Nat.mul_le_mul hla hlb; omega)
 have HRA : Hid (reduceF a = (reduceL a, 0)) := Lib.hid (if_pos fla.valid)
 have HR1 := Lib.hid (has_reduce fla)
 have HR2 := Lib.hid fla.reduce
 have hrl := reduce_len a
 have HOA := Lib.hid fla.okb
 have HOB := Lib.hid flb.okb
 have hin := fun (q0 : Nat) (w0 : World) h1 h2 => pinter_any (w := w0) (ba := Btw (g + 1) q0) (bb := Btw (g + 1) q0) (A := A1) (B := A2) (c := c1) (d := c2) rfl rfl h1 h2 (by omega) (by omega) fla.okb flb.okb
 have hrd := fun (q0 : Nat) (w0 : World) h1 => preduce_any (w := w0) (base := Btw (g + 1) q0) (A := A1) (c := c1) rfl h1 (by omega) fla.okb
 rw [HRA.out] at hrd
 generalize hI : (interP a b).1 = I at *
 rw [i2] at hin
 generalize hR : reduceL a = R at *
 have HI1 := Lib.hid i3
 have HI2 := Lib.hid i1
 have HIN := Lib.hid hin
 have HRD := Lib.hid hrd
 clear i1 i2 i3 hin hrd hI hR HRA fla flb sma smb
 go_wp2_with fail
 replace hxa : Bxs w2 (Btw (g + 1) w2.heap.size) A1 a := hxa.bd
 replace hxb : Bxs w2 (Btw (g + 1) w2.heap.size) A2 b := hxb.bd
 have hic2 : InB w2 (fun k => g < k ∧ k ≠ w2.heap.size) A3 c.m := (RdB.bd hic).mono (fun k hk => ⟨hk.1, Nat.ne_of_lt hk.2⟩)
 clear hic
 have hic := hic2
 clear hic2
 have k5 := Blk.new w2 27 #[.int .i64 c.k, .int .i64 c.r, .slice A3 c.m.length n3, .int .i64 c.s]
 have hq := (Below.refl w2.heap.size w2).alloc (Nat.le_refl _) (Obj.cells #[.int .i64 c.k, .int .i64 c.r, .slice A3 c.m.length n3, .int .i64 c.s] 27)
 replace hB := below_grows hB (Nat.le_refl _) hq
 replace hxa := hxa.grows hq
 replace hxb := hxb.grows hq
 replace hic := hic.grows hq
 replace hD := hD.grows hq
 clear hq
 generalize w2.heap.size = q5 at *
 generalize World.alloc w2 _ = w3 at *
 have hg5 : g < q5 := hg2
 refine (HIN.out _ _ hxa hxb).mono ?_
 rintro e w4 ⟨⟨v, rfl, hwi⟩, hq⟩
 have hs4 := k5.lt
 have hg3 := hD.lt
 obtain ⟨A7, c7, rfl, hc7, hxi⟩ := hwi.read
 replace hxi : Bxs w4 (fun k => q5 < k) A7 I := hxi.mono (fun k hk => by unfold Ge at *; omega)
 replace hB := below_grows hB (Nat.le_refl _) hq
 replace k5 := k5.grows hq
 replace hxa := hxa.grows hq
 replace hxb := hxb.grows hq
 replace hic := hic.grows hq
 replace hD := hD.grows hq
 clear hq
 clear hwi hs4 hg3
 go_wp2_with fail
 refine (HRD.out _ _ hxa).mono ?_
 rintro e w5 ⟨⟨v, rfl, hwi⟩, hq⟩
 have hs4 := k5.lt
 have hg3 := hD.lt
 obtain ⟨A9, c9, rfl, hc9, hxr⟩ := hwi.read
 replace hxr : Bxs w5 (fun k => q5 < k) A9 R := hxr.mono (fun k hk => by unfold Ge at *; omega)
 replace hB := below_grows hB (Nat.le_refl _) hq
 replace k5 := k5.grows hq
 replace hxa := hxa.grows hq
 replace hxb := hxb.grows hq
 replace hxi := hxi.grows hq
 replace hic := hic.grows hq
 replace hD := hD.grows hq
 clear hq
 clear hwi hs4 hg3 HIN HRD
 go_wp2_with fail
 go_loopw [11] (fun i wr => ∃ (n : Nat) (c : Ch) (A3 : Option Addr) (n3 : Nat), n ≤ 6 ∧ i = .int .i64 n ∧ Blk wr q5 27 #[.int .i64 c.k, .int .i64 c.r, .slice A3 c.m.length n3, .int .i64 c.s] ∧ InB wr (fun k => g < k ∧ k ≠ q5) A3 c.m ∧ OKC c ∧ Bxs wr (Btw (g + 1) q5) A1 a ∧ Bxs wr (Btw (g + 1) q5) A2 b ∧ Bxs wr (fun k => q5 < k) A7 I ∧ Bxs wr (fun k => q5 < k) A9 R ∧ DR wr w1.heap.size g ∧ Below w.heap.size w wr) (fun i _ => 6 - (intOf i).toNat)
 case atStart => exact ⟨0, c, A3, n3, by omega, rfl, k5, hic, hokc, hxa, hxb, hxi, hxr, hD, hB⟩
 case round =>
  clear k5 hxa hxb hic hxi hxr hD hB hokc hn3
  obtain ⟨n, c, A3, n3, hn6, rfl, k5, hic, hokc, hxa, hxb, hxi, hxr, hD, hB⟩ := hrel
  by_cases hlt : n < 6
  ·have d1 : decide ((n : Int) < 6) = true := by simp only [decide_eq_true_eq]; omega
   have hwn : IntKind.i64.wrap ((n : Int) + 1) = ((n + 1 : Nat) : Int) := by rw [IntWalk.i64_in _ (by omega)]; rfl
   have CI := fun (w0 : World) (h : Grows wr w0) => phasl_any (x := c) (I := A3) (ci := n3) (c := c7) (hxi.grows h) (by have := HI2.out.2; omega) hc7 HI2.out.okb (InB.ints (hic.grows h)) hokc.2.2
   have CA := fun (w0 : World) (h : Grows wr w0) => phasl_any (x := c) (I := A3) (ci := n3) (c := c1) (hxa.grows h) (by omega) hc1 HOA.out (InB.ints (hic.grows h)) hokc.2.2
   have CB := fun (w0 : World) (h : Grows wr w0) => phasl_any (x := c) (I := A3) (ci := n3) (c := c2) (hxb.grows h) (by omega) hc2 HOB.out (InB.ints (hic.grows h)) hokc.2.2
   have CR := fun (w0 : World) (h : Grows wr w0) => phasl_any (x := c) (I := A3) (ci := n3) (c := c9) (hxr.grows h) (by have := HR2.out.2; omega) hc9 HR2.out.okb (InB.ints (hic.grows h)) hokc.2.2
   simp only [HI1.out c] at CI
   simp only [HR1.out c] at CR
   generalize hasL a c = va at *
   generalize hasL b c = vb at *
   have HCI := Lib.hid CI
   have HCA := Lib.hid CA
   have HCB := Lib.hid CB
   have HCR := Lib.hid CR
   clear CI CA CB CR
   go_upto_region 9 with fail
   cases va
   ·replace HCI : Hid (∀ w0, Grows wr w0 → Calls Tryz.prog 22 #[.slice A7 I.length c7, .agg #[.int .i64 c.k, .int .i64 c.r, .slice A3 c.m.length n3, .int .i64 c.s]] w0 fun e w' => e = .returned (.bool false) ∧ Grows w0 w') := Lib.hid (by simpa using HCI.out)
    refine wp_region_mix (fun w' => Grows wr w') [] 21 77 (by kernel_rfl) (by kernel_rfl) rfl ?_ float_none ?_ ?_
    ·exact fun w1 w2 h0 hg => below_grows h0 (Nat.le_refl _) hg
    ·exact Grows.drew' _
    ·skip
     simp only [List.take_succ_cons, List.take_zero, List.drop_succ_cons, List.drop_zero]
     iterate 21
      first
       | (refine calm_no rfl rfl (a' := ?_) ?_ ?_
          rotate_left 1
          ·simp only [Act.put, List.setIfInBounds_toArray, List.set_cons_succ, List.set_cons_zero]
           rfl)
       | (first | refine calm_plain rfl rfl (v := ?_) (a' := ?_) (fun w1 hw1 => ?_) ?_ ?_ | refine calm_yes rfl rfl (v := ?_) (a' := ?_) (fun w1 hw1 => ?_) ?_ ?_
        rotate_left 2
        ·have h0 := hw1
         have x5 := (k5.grows h0).cell
         go_simp
         first | exact calm_val | (refine calm_call ?_; with_reducible exact HCI.out _ h0) | (refine calm_call ?_; with_reducible exact HCA.out _ h0) | (refine calm_call ?_; with_reducible exact HCB.out _ h0) | (refine calm_call ?_; with_reducible exact HCR.out _ h0)
        ·simp only [Act.put, List.setIfInBounds_toArray, List.set_cons_succ, List.set_cons_zero]
         rfl)
     refine calm_done (end_none ?_)
     intro wq hgw
     replace hB := below_grows hB (Nat.le_refl _) hgw
     replace k5 := k5.grows hgw
     replace hxa := hxa.grows hgw
     replace hxb := hxb.grows hgw
     replace hxi := hxi.grows hgw
     replace hxr := hxr.grows hgw
     replace hD := hD.grows hgw
     clear hgw hic HCI HCA HCB HCR
     go_wp2_with fail
     refine (choice_anyq w1.heap.size g _ hD hxb (by omega) hc2 HFB.out (fun k hk => by unfold Btw at hk; omega)).mono ?_
     rintro e w6 ⟨⟨y, v, rfl, ⟨A5, n5, rfl, hn5, hiy⟩, hoky⟩, hDn, hq⟩
     have hsz9 := hD.lt
     have hsq := k5.lt
     replace k5 := k5.grown hq (by intro e; injection e; omega)
     replace hxa := hxa.grown hq (fun q e hh => by injection e with e; unfold Btw at hh; omega)
     replace hxb := hxb.grown hq (fun q e hh => by injection e with e; unfold Btw at hh; omega)
     replace hxi := hxi.grown hq (fun q e hh => by injection e with e; omega)
     replace hxr := hxr.grown hq (fun q e hh => by injection e with e; omega)
     replace hB := hB.grown hq hB.size (fun q e => by injection e; omega)
     replace hD := hDn
     replace hiy : InB w6 (fun k => g < k ∧ k ≠ q5) A5 y.m := RdB.mono hiy (fun k hk => hk.elim (fun hk => by unfold Btw at hk; omega) (fun hk => by omega))
     clear hDn hq
     have x5 := k5.cell
     have hf5 := k5.frozen
     have hw0 := hB.size
     have k5n := ((((k5.set_ 0 (.int .i64 y.k)).set_ 1 (.int .i64 y.r)).set_ 2 (.slice A5 y.m.length n5)).set_ 3 (.int .i64 y.s))
     have hBn := ((((hB.setCell (p := ⟨q5, 0, none⟩) (show w.heap.size ≤ q5 by omega) (.int .i64 y.k)).setCell (p := ⟨q5, 1, none⟩) (show w.heap.size ≤ q5 by omega) (.int .i64 y.r)).setCell (p := ⟨q5, 2, none⟩) (show w.heap.size ≤ q5 by omega) (.slice A5 y.m.length n5)).setCell (p := ⟨q5, 3, none⟩) (show w.heap.size ≤ q5 by omega) (.int .i64 y.s))
     have hDn := ((((hD.put (p := ⟨q5, 0, none⟩) (show w1.heap.size ≤ q5 by omega) (show g ≠ q5 by omega) (.int .i64 y.k)).put (p := ⟨q5, 1, none⟩) (show w1.heap.size ≤ q5 by omega) (show g ≠ q5 by omega) (.int .i64 y.r)).put (p := ⟨q5, 2, none⟩) (show w1.heap.size ≤ q5 by omega) (show g ≠ q5 by omega) (.slice A5 y.m.length n5)).put (p := ⟨q5, 3, none⟩) (show w1.heap.size ≤ q5 by omega) (show g ≠ q5 by omega) (.int .i64 y.s))
     have hiyn := RdB.grown hiy (d_only_set (d_only_set (d_only_set (d_only_set (World.grownBy.refl _ (some q5)) 0 (.int .i64 y.k)) 1 (.int .i64 y.r)) 2 (.slice A5 y.m.length n5)) 3 (.int .i64 y.s)) (fun q e hh => by injection e with e; omega)
     replace hxa := hxa.grown (d_only_set (d_only_set (d_only_set (d_only_set (World.grownBy.refl _ (some q5)) 0 (.int .i64 y.k)) 1 (.int .i64 y.r)) 2 (.slice A5 y.m.length n5)) 3 (.int .i64 y.s)) (fun q e hh => by injection e with e; unfold Btw at hh; omega)
     replace hxb := hxb.grown (d_only_set (d_only_set (d_only_set (d_only_set (World.grownBy.refl _ (some q5)) 0 (.int .i64 y.k)) 1 (.int .i64 y.r)) 2 (.slice A5 y.m.length n5)) 3 (.int .i64 y.s)) (fun q e hh => by injection e with e; unfold Btw at hh; omega)
     replace hxi := hxi.grown (d_only_set (d_only_set (d_only_set (d_only_set (World.grownBy.refl _ (some q5)) 0 (.int .i64 y.k)) 1 (.int .i64 y.r)) 2 (.slice A5 y.m.length n5)) 3 (.int .i64 y.s)) (fun q e hh => by injection e with e; omega)
     replace hxr := hxr.grown (d_only_set (d_only_set (d_only_set (d_only_set (World.grownBy.refl _ (some q5)) 0 (.int .i64 y.k)) 1 (.int .i64 y.r)) 2 (.slice A5 y.m.length n5)) 3 (.int .i64 y.s)) (fun q e hh => by injection e with e; omega)
     clear k5 hB hD hiy
     go_wp2
     generalize World.setCell (World.setCell (World.setCell (World.setCell w6 _ _) _ _) _ _) _ _ = w8 at *
     have k5 : Blk w8 q5 27 #[.int .i64 y.k, .int .i64 y.r, .slice A5 y.m.length n5, .int .i64 y.s] := k5n
     go_roundw
     case rel => exact ⟨n + 1, y, A5, n5, by omega, by go_num, k5, hiyn, hoky, hxa, hxb, hxi, hxr, hDn, hBn⟩
     case measure => simp [intOf]; omega
   ·replace HCI : Hid (∀ w0, Grows wr w0 → Calls Tryz.prog 22 #[.slice A7 I.length c7, .agg #[.int .i64 c.k, .int .i64 c.r, .slice A3 c.m.length n3, .int .i64 c.s]] w0 fun e w' => e = .returned (.bool vb) ∧ Grows w0 w') := Lib.hid (by simpa using HCI.out)
    refine wp_region_mix (fun w' => Grows wr w') [] 21 77 (by kernel_rfl) (by kernel_rfl) rfl ?_ float_none ?_ ?_
    ·exact fun w1 w2 h0 hg => below_grows h0 (Nat.le_refl _) hg
    ·exact Grows.drew' _
    ·skip
     simp only [List.take_succ_cons, List.take_zero, List.drop_succ_cons, List.drop_zero]
     iterate 21
      first
       | (refine calm_no rfl rfl (a' := ?_) ?_ ?_
          rotate_left 1
          ·simp only [Act.put, List.setIfInBounds_toArray, List.set_cons_succ, List.set_cons_zero]
           rfl)
       | (first | refine calm_plain rfl rfl (v := ?_) (a' := ?_) (fun w1 hw1 => ?_) ?_ ?_ | refine calm_yes rfl rfl (v := ?_) (a' := ?_) (fun w1 hw1 => ?_) ?_ ?_
        rotate_left 2
        ·have h0 := hw1
         have x5 := (k5.grows h0).cell
         go_simp
         first | exact calm_val | (refine calm_call ?_; with_reducible exact HCI.out _ h0) | (refine calm_call ?_; with_reducible exact HCA.out _ h0) | (refine calm_call ?_; with_reducible exact HCB.out _ h0) | (refine calm_call ?_; with_reducible exact HCR.out _ h0)
        ·simp only [Act.put, List.setIfInBounds_toArray, List.set_cons_succ, List.set_cons_zero]
         rfl)
     refine calm_done (end_none ?_)
     intro wq hgw
     replace hB := below_grows hB (Nat.le_refl _) hgw
     replace k5 := k5.grows hgw
     replace hxa := hxa.grows hgw
     replace hxb := hxb.grows hgw
     replace hxi := hxi.grows hgw
     replace hxr := hxr.grows hgw
     replace hD := hD.grows hgw
     clear hgw hic HCI HCA HCB HCR
     go_wp2_with fail
     refine (choice_anyq w1.heap.size g _ hD hxb (by omega) hc2 HFB.out (fun k hk => by unfold Btw at hk; omega)).mono ?_
     rintro e w6 ⟨⟨y, v, rfl, ⟨A5, n5, rfl, hn5, hiy⟩, hoky⟩, hDn, hq⟩
     have hsz9 := hD.lt
     have hsq := k5.lt
     replace k5 := k5.grown hq (by intro e; injection e; omega)
     replace hxa := hxa.grown hq (fun q e hh => by injection e with e; unfold Btw at hh; omega)
     replace hxb := hxb.grown hq (fun q e hh => by injection e with e; unfold Btw at hh; omega)
     replace hxi := hxi.grown hq (fun q e hh => by injection e with e; omega)
     replace hxr := hxr.grown hq (fun q e hh => by injection e with e; omega)
     replace hB := hB.grown hq hB.size (fun q e => by injection e; omega)
     replace hD := hDn
     replace hiy : InB w6 (fun k => g < k ∧ k ≠ q5) A5 y.m := RdB.mono hiy (fun k hk => hk.elim (fun hk => by unfold Btw at hk; omega) (fun hk => by omega))
     clear hDn hq
     have x5 := k5.cell
     have hf5 := k5.frozen
     have hw0 := hB.size
     have k5n := ((((k5.set_ 0 (.int .i64 y.k)).set_ 1 (.int .i64 y.r)).set_ 2 (.slice A5 y.m.length n5)).set_ 3 (.int .i64 y.s))
     have hBn := ((((hB.setCell (p := ⟨q5, 0, none⟩) (show w.heap.size ≤ q5 by omega) (.int .i64 y.k)).setCell (p := ⟨q5, 1, none⟩) (show w.heap.size ≤ q5 by omega) (.int .i64 y.r)).setCell (p := ⟨q5, 2, none⟩) (show w.heap.size ≤ q5 by omega) (.slice A5 y.m.length n5)).setCell (p := ⟨q5, 3, none⟩) (show w.heap.size ≤ q5 by omega) (.int .i64 y.s))
     have hDn := ((((hD.put (p := ⟨q5, 0, none⟩) (show w1.heap.size ≤ q5 by omega) (show g ≠ q5 by omega) (.int .i64 y.k)).put (p := ⟨q5, 1, none⟩) (show w1.heap.size ≤ q5 by omega) (show g ≠ q5 by omega) (.int .i64 y.r)).put (p := ⟨q5, 2, none⟩) (show w1.heap.size ≤ q5 by omega) (show g ≠ q5 by omega) (.slice A5 y.m.length n5)).put (p := ⟨q5, 3, none⟩) (show w1.heap.size ≤ q5 by omega) (show g ≠ q5 by omega) (.int .i64 y.s))
     have hiyn := RdB.grown hiy (d_only_set (d_only_set (d_only_set (d_only_set (World.grownBy.refl _ (some q5)) 0 (.int .i64 y.k)) 1 (.int .i64 y.r)) 2 (.slice A5 y.m.length n5)) 3 (.int .i64 y.s)) (fun q e hh => by injection e with e; omega)
     replace hxa := hxa.grown (d_only_set (d_only_set (d_only_set (d_only_set (World.grownBy.refl _ (some q5)) 0 (.int .i64 y.k)) 1 (.int .i64 y.r)) 2 (.slice A5 y.m.length n5)) 3 (.int .i64 y.s)) (fun q e hh => by injection e with e; unfold Btw at hh; omega)
     replace hxb := hxb.grown (d_only_set (d_only_set (d_only_set (d_only_set (World.grownBy.refl _ (some q5)) 0 (.int .i64 y.k)) 1 (.int .i64 y.r)) 2 (.slice A5 y.m.length n5)) 3 (.int .i64 y.s)) (fun q e hh => by injection e with e; unfold Btw at hh; omega)
     replace hxi := hxi.grown (d_only_set (d_only_set (d_only_set (d_only_set (World.grownBy.refl _ (some q5)) 0 (.int .i64 y.k)) 1 (.int .i64 y.r)) 2 (.slice A5 y.m.length n5)) 3 (.int .i64 y.s)) (fun q e hh => by injection e with e; omega)
     replace hxr := hxr.grown (d_only_set (d_only_set (d_only_set (d_only_set (World.grownBy.refl _ (some q5)) 0 (.int .i64 y.k)) 1 (.int .i64 y.r)) 2 (.slice A5 y.m.length n5)) 3 (.int .i64 y.s)) (fun q e hh => by injection e with e; omega)
     clear k5 hB hD hiy
     go_wp2
     generalize World.setCell (World.setCell (World.setCell (World.setCell w6 _ _) _ _) _ _) _ _ = w8 at *
     have k5 : Blk w8 q5 27 #[.int .i64 y.k, .int .i64 y.r, .slice A5 y.m.length n5, .int .i64 y.s] := k5n
     go_roundw
     case rel => exact ⟨n + 1, y, A5, n5, by omega, by go_num, k5, hiyn, hoky, hxa, hxb, hxi, hxr, hDn, hBn⟩
     case measure => simp [intOf]; omega
  ·obtain rfl : n = 6 := by omega
   have CV := fun (w0 : World) (h : Grows wr w0) => pvalidl_any A7 c7 (fun k => q5 < k) I w0 (hxi.grows h) (by have := HI2.out.2; omega) HI2.out.okb
   simp only [HI2.out.valid] at CV
   have HCV := Lib.hid CV
   clear CV
   have dl : decide ((R.length : Int) ≤ (a.length : Int)) = true := by simp only [decide_eq_true_eq]; omega
   have dl2 : decide (R.length ≤ a.length) = true := by simp only [decide_eq_true_eq]; omega
   go_wp2_with fail
   refine (HCV.out _ (Below.refl _ _)).mono ?_
   rintro e w6 ⟨rfl, hq⟩
   replace hB := below_grows hB (Nat.le_refl _) hq
   clear hq hxa hxb hxi hxr hD k5
   go_wp2
   go_ret
   exact ⟨rfl, hB⟩
end OfferMembers
namespace OfferMembers
set_option maxRecDepth 100000 in
theorem contract (H : Type) (enc : TypeId × Value → H) (W : World) (base : Nat) (args : Array Value) (ds gs : List (DataW H)) (before : List MemPlace)
 (hval0 : ∀ (j : Nat) t v, Tryz.f6.params[j]? = some t → args[j]? = some v → Value.okWide Tryz.prog W .any base t v)
 (hW : DataW.Whole enc Tryz.prog Tryz.f6.params.toList Rows.offerMembersSpec.vars false W args.toList ds gs before)
 (hsz0 : (DataW.weightsEach Tryz.prog (Tryz.f6.params.toList ++ Rows.offerMembersSpec.plain.varTypes Tryz.prog) (ds ++ gs)).all (· ≤ reachBytes) = true) :
 Calls Tryz.prog 6 args W fun e W' => ∃ v, e = .returned v ∧ Rows.offerMembersSpec.post enc Tryz.prog Tryz.f6 false true false false W args v W' := by
 have key : Calls Tryz.prog 6 args W fun e W' => e = .returned (.bool true) ∧ Below W.heap.size W W' := by
  have hval : ∀ (j : Nat) t v, Tryz.f6.params[j]? = some t → args[j]? = some v → Value.okWide Tryz.prog W .any base t v := hval0
  obtain ⟨p, q, hA0, hV, hbe, hfz, hnd⟩ := hW
  have hA : DataW.TrodAll enc Tryz.prog W 0 (fun _ => true) true Tryz.f6.params.toList args.toList ds p := hA0
  rw [Tryz.params6] at hA hval
  clear hA0 hval0
  obtain ⟨v0, vs0, d0, ds0, p0, q0, hargs, rfl, rfl, h0, r0⟩ := trodAll_cons hA
  obtain ⟨rfl, rfl, rfl⟩ := trodAll_nil r0
  obtain rfl : args = #[v0] := by cases args; simp_all
  obtain ⟨rfl, rfl⟩ := trodVars_none hV
  have hsz : (DataW.weightsEach Tryz.prog (Tryz.f6.params.toList ++ Rows.offerMembersSpec.plain.varTypes Tryz.prog) ([d0] ++ [])).all (· ≤ reachBytes) = true := hsz0
  rw [Tryz.params6] at hsz
  clear hsz0
  obtain ⟨A, c, l, rfl, hI0, hl0, hlen0, hw0⟩ := open_slice_kind Tryz.underlying28 Tryz.underlying5 (by kernel_rfl) (hval 0 28 v0 rfl rfl) h0
  exact OfferMembers.walk A c l W hI0 hlen0 hl0 (fun x hx => u8_bd (hw0 x hx))
 refine key.mono fun e W' ⟨he, hb⟩ => ⟨_, he, law_post laid_out hW ?_ rfl (by kernel_rfl) Tryz.underlying4 ?_ hb⟩
 ·rw [Tryz.params6]
  intro t ht
  simp only [List.mem_cons, List.not_mem_nil, or_false] at ht
  rcases ht with rfl <;> exact ⟨by kernel_rfl, of_decide_eq_true (by kernel_rfl)⟩
 ·rw [Tryz.params6]
  intro ds hl
  match ds, hl with
  | [_], _ => rfl
set_option maxRecDepth 100000 in
theorem lifted (os : Os) (started : os.Started) (H : Type) (enc : TypeId × Value → H) :
 ReturnsInHanded {} Tryz.checked os 6 .any (Rows.offerMembersSpec.pre6 enc Tryz.prog Tryz.f6 Rows.offerMembersRow.domain false) (Rows.offerMembersSpec.post enc Tryz.prog Tryz.f6 false true false false) := by
 refine returnsInHanded_of_change_sized (C := Tryz.checked) own_knob started (by kernel_rfl) Tryz.func6
  (ChangeSpec.witness6 (enc := enc) (C := Tryz.checked) false ⟨#[], #[.slice none 0 0], []⟩ 8 (by kernel_rfl) (by kernel_rfl) (by kernel_rfl) (by kernel_rfl)) ?_
 intro W base args ds gs before hval0 hW _ hsz0 _
 exact contract H enc W base args ds gs before hval0 hW hsz0
theorem over : Rows.offerMembersRow.holds Tryz.pinned (OpenSpec.ofChange Rows.offerMembersSpec) :=
 OpenClaim.holds_of_wide 6 Tryz.f6 rfl rfl rfl rfl rfl rfl rfl ⟨rfl, rfl, rfl, rfl, rfl⟩ rfl rfl rfl rfl rfl (by kernel_rfl) Tryz.func6 (by kernel_rfl)
  (of_decide_eq_true (by kernel_rfl)) (by unfold Func.isWrapper; first | (rw [if_pos (by decide +kernel)]; kernel_rfl) | (rw [if_neg (by decide +kernel)]; exact ⟨rfl, rfl⟩))
  (fun os started H enc _ => lifted os started H enc)
/-- The given statement. -/
theorem proved : Rows.OfferMembersSaid := over
end OfferMembers
#print axioms OfferMembers.proved
end Go.Proofs.YtnbdpnlepcjmmaaGreat
