/-
  NegotiateForward, for every input: the law returns true, and the argument reads behind the call as it read before. No condition.
-/
import Derived.Test.YtjbkjgmcfommgaaGreatNegotiateForwardK4
namespace Go.Proofs.YtjbkjgmcfommgaaGreat
open Go.RowKit
/-- Whether choices fit up to a port. -/
def fitAt (l : List Pt) (cs : List Ch) (i : Nat) : Bool := hasL (l.getD i noPt).b (cs.getD i zeroC) && (decide (i = 0) || agD (keptD (l.getD (i - 1) noPt)) (cs.getD (i - 1) zeroC) (cs.getD i zeroC))
theorem fits_no {l : List Pt} {cs : List Ch} {i : Nat} (hi : i < l.length) (h : fitAt l cs i = false) : fitsF l cs = false := by
 unfold fitsF
 have : ((List.range l.length).all fun i => hasL (l.getD i noPt).b (cs.getD i zeroC) && (decide (i = 0) || agD (keptD (l.getD (i - 1) noPt)) (cs.getD (i - 1) zeroC) (cs.getD i zeroC))) = false := List.all_eq_false.2 ⟨i, List.mem_range.2 hi, by
  have h : (hasL (l.getD i noPt).b (cs.getD i zeroC) && (decide (i = 0) || agD (keptD (l.getD (i - 1) noPt)) (cs.getD (i - 1) zeroC) (cs.getD i zeroC))) = false := h
  rw [h]
  simp⟩
 rw [this, Bool.and_false]
theorem fits_yes {l : List Pt} {cs : List Ch} (hv : validC l = true) (hn : cs.length = l.length) (h : ∀ i, i < l.length → fitAt l cs i = true) : fitsF l cs = true := by
 unfold fitsF
 rw [hv, decide_eq_true hn, Bool.true_and, Bool.true_and, List.all_eq_true]
 exact fun i hi => h i (List.mem_range.1 hi)
theorem fits_bad {l : List Pt} {cs : List Ch} (h : validC l = false) : fitsF l cs = false := by unfold fitsF; rw [h]; rfl
theorem fits_len {l : List Pt} {cs : List Ch} (h : cs.length ≠ l.length) : fitsF l cs = false := by unfold fitsF; rw [decide_eq_false h, Bool.and_false]; rfl
theorem fit_at {l : List Pt} {cs : List Ch} {k : Nat} {p : Pt} {x : Ch} (hp : l[k]? = some p) (hx : cs[k]? = some x) : fitAt l cs k = (hasL p.b x && (decide (k = 0) || agD (keptD (l.getD (k - 1) noPt)) (cs.getD (k - 1) zeroC) x)) := by
 unfold fitAt
 rw [show l.getD k noPt = p by rw [List.getD_eq_getElem?_getD, hp]; rfl, show cs.getD k zeroC = x by rw [List.getD_eq_getElem?_getD, hx]; rfl]
theorem fit_ag {l : List Pt} {cs : List Ch} {k : Nat} {p : Pt} {x : Ch} (hp : l[k]? = some p) (hx : cs[k]? = some x) : agD (keptD (l.getD k noPt)) (cs.getD k zeroC) = agD (bits .andNot .i64 15 p.v) x := by
 rw [show l.getD k noPt = p by rw [List.getD_eq_getElem?_getD, hp]; rfl, show cs.getD k zeroC = x by rw [List.getD_eq_getElem?_getD, hx]; rfl]
 rfl
theorem ge_of {w : World} {ok : Nat → Prop} {A : Option Addr} {x : List Int} (h : InB w ok A x) : Ints w A x := h.1
set_option maxHeartbeats 64000000 in
set_option maxRecDepth 10000 in
theorem fits_any {ok ow : Nat → Prop} {A B : Option Addr} {c d n m : Nat} {l : List Pt} {cs : List Ch} {w : World} (hn : n = l.length) (hm : m = cs.length) (h : Pts w ok A l) (hc : Chs w ow B cs) (hl : l.length ≤ 1000000) (hcl : cs.length ≤ 9223372036854775807) (ho : ∀ p ∈ l, (∀ b ∈ p.b, OKB b) ∧ p.b.length ≤ 1000000) (hco : ∀ x ∈ cs, x.m.length ≤ 1000000) :
 Calls Tryz.prog 19 #[.slice A n c, .slice B m d] w fun e w' => e = .returned (.bool (fitsF l cs)) ∧ Grows w w' := by
 subst hn hm
 have HO := Lib.hid ho
 have HCO := Lib.hid hco
 clear ho hco
 have hB := Below.refl w.heap.size w
 go_enter Tryz.func19, Tryz.ntmps19
 go_wp2_with fail
 refine (nvalid_any rfl (h.grows hB) hl (fun p hp => HO.out p hp)).mono ?_
 rintro e w2 ⟨rfl, hq⟩
 replace hB := below_grows hB (Nat.le_refl _) hq
 clear hq
 cases hv : validC l with
 | false =>
  have HE := Lib.hid (fits_bad (cs := cs) hv)
  clear hv
  go_wp2
  go_ret
  exact ⟨ret_bool HE.out.symm, hB⟩
 | true =>
 have HV := Lib.hid hv
 have hl16 := (valid_ports hv).2.2
 clear hv
 by_cases hcn : cs.length = l.length
 case neg =>
  have HE := Lib.hid (fits_len hcn)
  have e1 : ((cs.length : Int) != (l.length : Int)) = true := by rw [bne_iff_ne]; omega
  have e2 : decide ((cs.length : Int) = (l.length : Int)) = false := by simp only [decide_eq_false_iff_not]; omega
  have e3 : decide (cs.length = l.length) = false := by simp only [decide_eq_false_iff_not]; omega
  clear hcn
  go_wp2
  go_ret
  exact ⟨ret_bool HE.out.symm, hB⟩
 have HCN := Lib.hid hcn
 have e1 : ((cs.length : Int) != (l.length : Int)) = false := by rw [hcn]; simp
 have e2 : decide ((cs.length : Int) = (l.length : Int)) = true := by simp only [decide_eq_true_eq]; omega
 have e3 : decide (cs.length = l.length) = true := by simp only [decide_eq_true_eq]; omega
 clear hcn
 go_upto_region 3 with fail
 clear e1 e2 e3
 go_wp2_with fail
 go_loopw [19] (fun i wr => ∃ k : Nat, k ≤ l.length ∧ i = .int .i64 k ∧ Hid (∀ i, i < k → fitAt l cs i = true) ∧ Below w.heap.size w wr) (fun i _ => l.length - (intOf i).toNat)
 case atStart => exact ⟨0, by omega, rfl, Lib.hid (fun i hi => absurd hi (by omega)), hB⟩
 case round =>
  clear hB
  obtain ⟨k, hk, rfl, HK, hB⟩ := hrel
  by_cases hlt : k < l.length
  ·obtain ⟨ad, p, BP, cp, ea, had, hp, hbx, hcp, q0, q1⟩ := h.elem hB hlt
   subst ea
   obtain ⟨ad2, x, BX, dX, eb, had2, hx, hdX, hix, hcx⟩ := hc.elem hB (show k < cs.length by have := HCN.out; omega)
   subst eb
   have HP := Lib.hid hp
   have HX := Lib.hid hx
   have HPO := Lib.hid (HO.out p (List.mem_of_getElem? hp))
   have HXO := Lib.hid (HCO.out x (List.mem_of_getElem? hx))
   have HAT := Lib.hid (fit_at (l := l) (cs := cs) hp hx)
   have HNO := Lib.hid (fun h => fits_no (l := l) (cs := cs) (i := k) hlt h)
   clear hp hx
   have k6 := Blk.new wr 47 #[.slice BP p.b.length cp, .int .i64 p.v]
   have hq := (Below.refl wr.heap.size wr).alloc (Nat.le_refl _) (Obj.cells #[.slice BP p.b.length cp, .int .i64 p.v] 47)
   go_upto_region 6 with fail
   replace hB := below_grows hB (Nat.le_refl _) hq
   replace hcx := hcx.grows hq (by rw [block_of_add]; exact had2)
   replace hbx := hbx.grows hB
   replace hix := RdB.grows hix hB
   have hszq := hq.size
   clear hq q0 q1
   have had3 : ad.block < (World.alloc wr (Obj.cells #[.slice BP p.b.length cp, .int .i64 p.v] 47)).heap.size := by omega
   have had4 : ad2.block < (World.alloc wr (Obj.cells #[.slice BP p.b.length cp, .int .i64 p.v] 47)).heap.size := by omega
   generalize World.alloc wr _ = w5 at *
   generalize wr.heap.size = G6 at *
   have c1 : (0 : Int) ≤ (k : Int) := by omega
   have c2 : (k : Int) < (l.length : Int) := by omega
   have c3 : (k : Int) < (cs.length : Int) := by have := HCN.out; omega
   have c4 : k < cs.length := by have := HCN.out; omega
   have had5 : (ad2.add (k * 4)).block < w5.heap.size := by rw [block_of_add]; exact had4
   have HH := Lib.hid (fun (w0 : World) (hg : Grows w5 w0) => phasl_any (x := x) (ci := dX) (w := w0) (hbx.grows hg) HPO.out.2 hcp HPO.out.1 (ge_of (RdB.grows hix hg)) HXO.out)
   cases hh : hasL p.b x with
   | false =>
    have HE := Lib.hid (HNO.out (by rw [HAT.out, hh]; rfl))
    rw [hh] at HH
    clear hh
    refine wp_region_mix (fun w' => Grows w5 w') [] 32 57 (by kernel_rfl) (by kernel_rfl) rfl ?_ float_none ?_ ?_
    ·exact fun w1 w2 h0 hg => below_grows h0 (Nat.le_refl _) hg
    ·exact Grows.drew' _
    ·skip
     simp only [List.take_succ_cons, List.take_zero, List.drop_succ_cons, List.drop_zero]
     iterate 32
      first
       | (refine calm_no rfl rfl (a' := ?_) ?_ ?_
          rotate_left 1
          ·simp only [Act.put, List.setIfInBounds_toArray, List.set_cons_succ, List.set_cons_zero]
           rfl)
       | (first | refine calm_plain rfl rfl (v := ?_) (a' := ?_) (fun w1 hw1 => ?_) ?_ ?_ | refine calm_yes rfl rfl (v := ?_) (a' := ?_) (fun w1 hw1 => ?_) ?_ ?_
          rotate_left 2
          ·have h0 := hw1
           have x6 := (k6.grows h0).cell
           obtain ⟨y0, y1, y2, y3⟩ := hcx.grows h0 had5
           go_simp
           first | exact calm_val | (refine calm_call ?_; with_reducible exact HH.out _ h0)
          ·simp only [Act.put, List.setIfInBounds_toArray, List.set_cons_succ, List.set_cons_zero]
           rfl)
     refine calm_done (end_none ?_)
     rintro W2 h0
     replace hB := below_grows hB (Nat.le_refl _) h0
     go_wp2
     go_ret
     exact ⟨ret_bool HE.out.symm, hB⟩
   | true =>
   rw [hh] at HH
   by_cases hk0 : k = 0
   ·have HE : Hid (fitAt l cs k = true) := Lib.hid (by rw [HAT.out, hh, decide_eq_true hk0]; rfl)
    have d1 : decide ((0 : Int) < (k : Int)) = false := by simp only [decide_eq_false_iff_not]; omega
    have d2 : decide (0 < k) = false := by simp only [decide_eq_false_iff_not]; omega
    clear hh hk0
    refine wp_region_mix (fun w' => Grows w5 w') [] 32 57 (by kernel_rfl) (by kernel_rfl) rfl ?_ float_none ?_ ?_
    ·exact fun w1 w2 h0 hg => below_grows h0 (Nat.le_refl _) hg
    ·exact Grows.drew' _
    ·skip
     simp only [List.take_succ_cons, List.take_zero, List.drop_succ_cons, List.drop_zero]
     iterate 32
      first
       | (refine calm_no rfl rfl (a' := ?_) ?_ ?_
          rotate_left 1
          ·simp only [Act.put, List.setIfInBounds_toArray, List.set_cons_succ, List.set_cons_zero]
           rfl)
       | (first | refine calm_plain rfl rfl (v := ?_) (a' := ?_) (fun w1 hw1 => ?_) ?_ ?_ | refine calm_yes rfl rfl (v := ?_) (a' := ?_) (fun w1 hw1 => ?_) ?_ ?_
          rotate_left 2
          ·have h0 := hw1
           have x6 := (k6.grows h0).cell
           obtain ⟨y0, y1, y2, y3⟩ := hcx.grows h0 had5
           go_simp
           first | exact calm_val | (refine calm_call ?_; with_reducible exact HH.out _ h0)
          ·simp only [Act.put, List.setIfInBounds_toArray, List.set_cons_succ, List.set_cons_zero]
           rfl)
     refine calm_done (end_none ?_)
     rintro W2 h0
     replace hB := below_grows hB (Nat.le_refl _) h0
     go_wp2
     go_roundw
     case rel => exact ⟨k + 1, by omega, by go_num, Lib.hid (fun i hi => by
      rcases Nat.lt_or_ge i k with h | h
      ·exact HK.out i h
      ·obtain rfl : i = k := by omega
       exact HE.out), hB⟩
     case measure => simp [intOf]; omega
   ·have d1 : decide ((0 : Int) < (k : Int)) = true := by simp only [decide_eq_true_eq]; omega
    have d2 : decide (0 < k) = true := by simp only [decide_eq_true_eq]; omega
    obtain ⟨j, hj⟩ : ∃ j, k = j + 1 := ⟨k - 1, by omega⟩
    have HJ := Lib.hid hj
    have hwj : IntKind.i64.wrap ((k : Int) - 1) = (j : Int) := by rw [IntWalk.i64_in _ (by omega)]; omega
    have c5 : (0 : Int) ≤ (j : Int) := by omega
    have c6 : (j : Int) < (l.length : Int) := by omega
    have c7 : (j : Int) < (cs.length : Int) := by have := HCN.out; omega
    have c8 : j < l.length := by omega
    have c9 : j < cs.length := by have := HCN.out; omega
    obtain ⟨ad9, p2, BP2, cp2, ea, -, hp2, -, -, q20, q21⟩ := h.elem hB c8
    injection ea with ea
    subst ea
    obtain ⟨ad9, y, BY, dY, eb, -, hy, hdY, hiy, hcy⟩ := hc.elem hB c9
    injection eb with eb
    subst eb
    have hyo := HCO.out y (List.mem_of_getElem? hy)
    have HAG : Hid (fitAt l cs k = agD (bits .andNot .i64 15 p2.v) y x) := Lib.hid (by
     rw [HAT.out, hh, decide_eq_false hk0, hj, Nat.add_sub_cancel, fit_ag hp2 hy]
     rfl)
    have HA := Lib.hid (fun (w0 : World) (hg : Grows w5 w0) => agree_any (a := y) (b := x) (c := dY) (d := dX) (w := w0) (bits .andNot .i64 15 p2.v) (ge_of (RdB.grows hiy (below_grows hB (Nat.le_refl _) hg))) (ge_of (RdB.grows hix hg)) hyo HXO.out)
    have had7 : (ad2.add (j * 4)).block < w5.heap.size := by rw [block_of_add]; exact had4
    have had8 : (ad.add (j * 2)).block < w5.heap.size := by rw [block_of_add]; exact had3
    clear hh hk0 hj hp2 hy
    cases ha : agD (bits .andNot .i64 15 p2.v) y x with
    | false =>
     have HE := Lib.hid (HNO.out (HAG.out.trans ha))
     rw [ha] at HA
     clear ha
     refine wp_region_mix (fun w' => Grows w5 w') [] 32 57 (by kernel_rfl) (by kernel_rfl) rfl ?_ float_none ?_ ?_
     ·exact fun w1 w2 h0 hg => below_grows h0 (Nat.le_refl _) hg
     ·exact Grows.drew' _
     ·skip
      simp only [List.take_succ_cons, List.take_zero, List.drop_succ_cons, List.drop_zero]
      iterate 32
       first
        | (refine calm_no rfl rfl (a' := ?_) ?_ ?_
           rotate_left 1
           ·simp only [Act.put, List.setIfInBounds_toArray, List.set_cons_succ, List.set_cons_zero]
            rfl)
        | (first | refine calm_plain rfl rfl (v := ?_) (a' := ?_) (fun w1 hw1 => ?_) ?_ ?_ | refine calm_yes rfl rfl (v := ?_) (a' := ?_) (fun w1 hw1 => ?_) ?_ ?_
           rotate_left 2
           ·have h0 := hw1
            have x6 := (k6.grows h0).cell
            obtain ⟨y0, y1, y2, y3⟩ := hcx.grows h0 had5
            obtain ⟨z0, z1, z2, z3⟩ := hcy.grows h0 had7
            have zz := (Below.cell (p := ⟨(ad.add (j * 2)).block, (ad.add (j * 2)).off + 1, none⟩) h0 had8).trans q21
            go_simp
            first | exact calm_val | (refine calm_call ?_; with_reducible exact HH.out _ h0) | (refine calm_call ?_; with_reducible exact HA.out _ h0)
           ·simp only [Act.put, List.setIfInBounds_toArray, List.set_cons_succ, List.set_cons_zero]
            rfl)
      refine calm_done (end_none ?_)
      rintro W2 h0
      replace hB := below_grows hB (Nat.le_refl _) h0
      go_wp2
      go_ret
      exact ⟨ret_bool HE.out.symm, hB⟩
    | true =>
     have HE : Hid (fitAt l cs k = true) := Lib.hid (HAG.out.trans ha)
     rw [ha] at HA
     clear ha
     refine wp_region_mix (fun w' => Grows w5 w') [] 32 57 (by kernel_rfl) (by kernel_rfl) rfl ?_ float_none ?_ ?_
     ·exact fun w1 w2 h0 hg => below_grows h0 (Nat.le_refl _) hg
     ·exact Grows.drew' _
     ·skip
      simp only [List.take_succ_cons, List.take_zero, List.drop_succ_cons, List.drop_zero]
      iterate 32
       first
        | (refine calm_no rfl rfl (a' := ?_) ?_ ?_
           rotate_left 1
           ·simp only [Act.put, List.setIfInBounds_toArray, List.set_cons_succ, List.set_cons_zero]
            rfl)
        | (first | refine calm_plain rfl rfl (v := ?_) (a' := ?_) (fun w1 hw1 => ?_) ?_ ?_ | refine calm_yes rfl rfl (v := ?_) (a' := ?_) (fun w1 hw1 => ?_) ?_ ?_
           rotate_left 2
           ·have h0 := hw1
            have x6 := (k6.grows h0).cell
            obtain ⟨y0, y1, y2, y3⟩ := hcx.grows h0 had5
            obtain ⟨z0, z1, z2, z3⟩ := hcy.grows h0 had7
            have zz := (Below.cell (p := ⟨(ad.add (j * 2)).block, (ad.add (j * 2)).off + 1, none⟩) h0 had8).trans q21
            go_simp
            first | exact calm_val | (refine calm_call ?_; with_reducible exact HH.out _ h0) | (refine calm_call ?_; with_reducible exact HA.out _ h0)
           ·simp only [Act.put, List.setIfInBounds_toArray, List.set_cons_succ, List.set_cons_zero]
            rfl)
      refine calm_done (end_none ?_)
      rintro W2 h0
      replace hB := below_grows hB (Nat.le_refl _) h0
      go_wp2
      go_roundw
      case rel => exact ⟨k + 1, by omega, by go_num, Lib.hid (fun i hi => by
       rcases Nat.lt_or_ge i k with h | h
       ·exact HK.out i h
       ·obtain rfl : i = k := by omega
        exact HE.out), hB⟩
      case measure => simp [intOf]; omega
  ·have HE := Lib.hid (fits_yes HV.out HCN.out (fun i hi => HK.out i (by omega)))
   go_wp2
   go_ret
   exact ⟨ret_bool HE.out.symm, hB⟩
end Go.Proofs.YtjbkjgmcfommgaaGreat

namespace Go.Proofs.YtjbkjgmcfommgaaGreat
open Go.RowKit
def ptC (p : Pt) (B : Option Addr) (c : Nat) : List Value := [.slice B p.b.length c, .int .i64 p.v]
/-- A row of ports of one's own, apart from what its members take. -/
def OwnPq (w : World) (base : Nat) (ok : Nat → Prop) (v : Value) (l : List Pt) : Prop :=
 ∃ vs, w.ownsRow base 47 2 v l.length vs ∧ ∀ (i : Nat) (p : Pt), l[i]? = some p → ∃ B c, Bxs w (Aq ok v) B p.b ∧ p.b.length ≤ c ∧ ∀ j < 2, vs[i * 2 + j]? = (ptC p B c)[j]?
set_option maxRecDepth 100000 in
theorem port_info : ∃ i : TypeInfo, Tryz.prog.info? 47 = some i ∧ i.size = 2 ∧ i.bytes = 32 ∧ i.zero = some (.agg #[.slice none 0 0, .int .i64 0]) ∧ (Value.agg #[.slice none 0 0, .int .i64 0]).cells.size = 2 := ⟨_, by first | exact Tryz.info47 | rfl, rfl, rfl, rfl, rfl⟩
section
variable {w w' : World} {base g : Nat} {ok : Nat → Prop} {v : Value} {l : List Pt}
theorem OwnPq.nil : OwnPq w base ok (.slice none 0 0) [] := ⟨[], World.ownsRow_nil w base _ 2, fun i x h => by simp at h⟩
theorem OwnPq.grows (h : OwnPq w base ok v l) (hg : Grows w w') : OwnPq w' base ok v l := by
 obtain ⟨vs, h1, h2⟩ := h
 exact ⟨vs, own_grows h1 hg, fun i x hx => by obtain ⟨B, c, hb, r⟩ := h2 i x hx; exact ⟨B, c, hb.grows hg, r⟩⟩
theorem OwnPq.only (h : OwnPq w base ok v l) (hg : w.grownBy w' (some g)) (hb : g < base) (hl : ¬ ok g) : OwnPq w' base ok v l := by
 obtain ⟨vs, h1, h2⟩ := h
 refine ⟨vs, World.ownsRow.kept h1 hg ?_, fun i x hx => by obtain ⟨B, c, hi, r⟩ := h2 i x hx; exact ⟨B, c, hi.onlyq hg hl, r⟩⟩
 cases e : v.ownBlock with
 | none => exact .inl rfl
 | some q =>
  refine .inr fun e2 => ?_
  have := (World.ownsRow.lt h1 q e).1
  injection e2 with e2
  omega
theorem OwnPq.lt (h : OwnPq w base ok v l) : ∀ q, v.ownBlock = some q → base ≤ q ∧ q < w.heap.size := by
 obtain ⟨vs, h1, -⟩ := h
 exact World.ownsRow.lt h1
theorem OwnPq.read (h : OwnPq w base ok v l) : ∃ A c, v = .slice A l.length c ∧ l.length ≤ c ∧ Pts w (fun k => ok k ∨ base ≤ k) A l := by
 obtain ⟨vs, h1, h2⟩ := h
 have h3 : ∀ (i : Nat) (p : Pt), l[i]? = some p → ∃ B c, Bxs w (fun k => ok k ∨ base ≤ k) B p.b ∧ p.b.length ≤ c ∧ vs[i * 2]? = some (.slice B p.b.length c) ∧ vs[i * 2 + 1]? = some (.int .i64 p.v) := fun i p hx => by
  obtain ⟨B, c, hb, hc, r⟩ := h2 i p hx
  exact ⟨B, c, hb.mono (fun k hk => .inl hk.1), hc, r 0 (by omega), r 1 (by omega)⟩
 rcases h1.2 with ⟨rfl, hn⟩ | ⟨q, cap, cur, rfl, hbq, hg, hnc, hm, hs, ht⟩
 ·have e := List.eq_nil_of_length_eq_zero hn
  subst e
  exact ⟨none, 0, rfl, Nat.le_refl _, Pts.nil⟩
 ·refine ⟨_, cap, rfl, hnc, vs, ⟨Reads.of_own h1, fun _ ad e => ?_⟩, h3⟩
  injection e with e
  subst e
  exact Or.inr hbq
end
theorem ptC_one (p : Pt) (B : Option Addr) (c : Nat) : ∀ u ∈ ptC p B c, u.oneCell' = true := by
 intro u hu
 simp only [ptC, List.mem_cons, List.not_mem_nil, or_false] at hu
 rcases hu with rfl | rfl <;> rfl
theorem pts_one {l : List Pt} {vs : List Value} (hl : vs.length = l.length * 2) (h : ∀ (i : Nat) (p : Pt), l[i]? = some p → ∃ B c, ∀ j < 2, vs[i * 2 + j]? = (ptC p B c)[j]?) : ∀ u ∈ vs, u.oneCell' = true := by
 intro u hu
 obtain ⟨k, hk, e⟩ := List.mem_iff_getElem.1 hu
 have hi : k / 2 < l.length := by omega
 obtain ⟨B, c, hc⟩ := h (k / 2) _ (List.getElem?_eq_getElem hi)
 have h2 := hc (k % 2) (Nat.mod_lt _ (by omega))
 rw [show k / 2 * 2 + k % 2 = k by omega, List.getElem?_eq_getElem hk, e] at h2
 exact ptC_one _ B c u (List.mem_of_getElem? h2.symm)
theorem Pts.cells {w : World} {ok : Nat → Prop} {A : Option Addr} {l : List Pt} (h : Pts w ok A l) : ∃ vs : List Value, RdB w ok 2 A l.length vs ∧ ∀ (i : Nat) (p : Pt), l[i]? = some p → ∃ B c, Bxs w ok B p.b ∧ p.b.length ≤ c ∧ ∀ j < 2, vs[i * 2 + j]? = (ptC p B c)[j]? := by
 obtain ⟨vs, h1, h2⟩ := h
 refine ⟨vs, h1, fun i p hp => ?_⟩
 obtain ⟨B, c, hb, hc, r0, r1⟩ := h2 i p hp
 exact ⟨B, c, hb, hc, fun j hj => match j, hj with | 0, _ => r0 | 1, _ => r1⟩
theorem wpList_append_ports {ops : Array Oper} {rest : List Oper} {o : Oper} {a : Act} {w : World} {Q : Exit → Act → World → Prop} (hgd : o.guard = none) (s x : Operand) (ho : o.op = .call { callee := .builtin .append, args := #[s, x], argTypes := #[22, 22] })
 {base : Nat} {ok : Nat → Prop} {v : Value} {l m : List Pt} {A : Option Addr} {c n : Nat} (hn : n = m.length) (hs : a.eval s = v) (hown : OwnPq w base ok v l) (hx : a.eval x = .slice A n c) (hr : Pts w (Aq ok v) A m) (hlen : l.length + m.length ≤ 1000000) (hbase : base ≤ w.heap.size)
 (h : ∀ v' w', OwnPq w' base ok v' (l ++ m) → w.grownBy w' v.ownBlock → (v'.ownBlock = v.ownBlock ∨ v'.ownBlock = some w.heap.size) → wpList Tryz.prog ops Q rest (a.put o.dst v') w') : wpList Tryz.prog ops Q (o :: rest) a w := by
 obtain ⟨i0, hi0, hi1, hi2, hi3, hi4⟩ := port_info
 obtain ⟨vs, h1, h2⟩ := hown
 obtain ⟨us, r1, r2⟩ := hr.cells
 subst hn
 have hul := r1.1.1
 have hvl := h1.1
 refine wpList_append_any w hgd s x 22 ho base 47 i0 _ 2 32 Tryz.underlying22 hi0 hi3 hi1 hi2 hi4 (by omega) v l.length vs hs h1 w.heap.size A m.length c us hx r1.1 (pts_one hul fun i b hb => by obtain ⟨B, c, _, _, hc⟩ := r2 i b hb; exact ⟨B, c, hc⟩) (by simp only [maxLen]; omega) (by omega) hbase fun v' w' h3 h4 h5 => h v' w' ⟨vs ++ us, by rw [List.length_append]; exact h3, fun i p hp => ?_⟩ h4 h5
 by_cases hi : i < l.length
 ·rw [List.getElem?_append_left hi] at hp
  obtain ⟨B, c, hb, hc, r⟩ := h2 i p hp
  exact ⟨B, c, hb.aq h4 h5, hc, fun j hj => by rw [List.getElem?_append_left (by omega)]; exact r j hj⟩
 ·rw [List.getElem?_append_right (by omega)] at hp
  obtain ⟨B, c, hb, hc, r⟩ := r2 _ p hp
  exact ⟨B, c, hb.aq h4 h5, hc, fun j hj => by rw [List.getElem?_append_right (by omega), show i * 2 + j - vs.length = (i - l.length) * 2 + j by omega]; exact r j hj⟩
/-- A chain of one port, laid by a literal. -/
theorem pts_lit {w : World} {ok : Nat → Prop} {p : Pt} {B : Option Addr} {c : Nat} (hb : Bxs w ok B p.b) (hc : p.b.length ≤ c) (hw : ok w.heap.size) : Pts (w.alloc (.cells #[.slice B p.b.length c, .int .i64 p.v] 47)) ok (some ⟨w.heap.size, 0, none⟩) [p] := by
 have hk := Blk.new w 47 #[.slice B p.b.length c, .int .i64 p.v]
 have hq := (Below.refl w.heap.size w).alloc (Nat.le_refl _) (Obj.cells #[.slice B p.b.length c, .int .i64 p.v] 47)
 refine ⟨ptC p B c, ⟨⟨rfl, fun _ => ⟨_, rfl, hk.lt, fun j u hu => ?_⟩⟩, fun _ ad e => by injection e with e; subst e; exact hw⟩, fun i x hx => ?_⟩
 ·rw [add_head, hk.cell, ← Array.getElem?_toList]
  exact hu
 ·have hi0 : i = 0 := by
   have := (List.getElem?_eq_some_iff.1 hx).1
   simp only [List.length_singleton] at this
   omega
  subst hi0
  simp only [List.getElem?_cons_zero, Option.some.injEq] at hx
  subst hx
  exact ⟨B, c, hb.grows hq, hc, rfl, rfl⟩
/-- Ports that the maker makes. -/
def FineP (l : List Pt) : Prop := ∀ p ∈ l, Fine p.b ∧ 1 ≤ p.b.length ∧ p.b.length ≤ 2 ∧ 0 ≤ p.v ∧ p.v ≤ 15
theorem finep_app {l m : List Pt} (h : FineP l) (h2 : FineP m) : FineP (l ++ m) := fun b hb => (List.mem_append.1 hb).elim (h b) (h2 b)
set_option maxHeartbeats 8000000 in
theorem ports_any (B g : Nat) (w : World) (h : DR w B g) : Calls Tryz.prog 8 #[.pointer (some ⟨g, 0, none⟩)] w fun e w' => (∃ l v, e = .returned v ∧ OwnPq w' w.heap.size (Ge w.heap.size) v l ∧ MadeP l) ∧ DR w' B g ∧ w.grownBy w' (some g) := by
 have hgl := h.lt
 go_enter Tryz.func8, Tryz.ntmps8
 go_wp2_with fail
 refine (rolls_any B g 5 _ h (by omega) (by omega)).mono ?_
 rintro e w1 ⟨⟨r, rfl, r0, r1⟩, hD, hO⟩
 obtain ⟨n0, hn0⟩ : ∃ n0 : Nat, 1 + r = (n0 : Int) := ⟨(1 + r).toNat, by omega⟩
 have hw3 : IntKind.i64.wrap (1 + r) = (n0 : Int) := by rw [IntWalk.i64_in _ (by omega)]; exact hn0
 have hn1 : 1 ≤ n0 ∧ n0 ≤ 5 := by omega
 clear hn0 h
 have hsz := hO.size
 go_wp2_with fail
 go_loopw [3, 4] (fun v i wr => ∃ (n : Nat) (l : List Pt), n ≤ n0 ∧ i = .int .i64 n ∧ l.length + n = n0 ∧ Hid (FineP l) ∧ OwnPq wr w.heap.size (Ge w.heap.size) v l ∧ DR wr B g ∧ w.grownBy wr (some g)) (fun _ i _ => (intOf i).toNat)
 case atStart => exact ⟨n0, [], by omega, rfl, by simp, Lib.hid (fun b hb => by cases hb), OwnPq.nil, hD, hO⟩
 case round =>
  clear hD hO hsz
  obtain ⟨n, l, hn, rfl, hln, HF, ho, hD, hO⟩ := hrel
  have hsz := hO.size
  by_cases hpos : 0 < n
  ·have d1 : decide ((0 : Int) < (n : Int)) = true := by simp only [decide_eq_true_eq]; omega
   have d2 : decide (0 < n) = true := by simp only [decide_eq_true_eq]; omega
   have hwn : IntKind.i64.wrap ((n : Int) - 1) = ((n - 1 : Nat) : Int) := by rw [IntWalk.i64_in _ (by omega)]; omega
   go_upto_region 5 with fail
   refine wp_region_lit ?_
   iterate 2
    refine wpList_plain rfl (fun K hK => ?_)
    go_simp
    refine hK _ _ ?_
    clear hK K
   refine wpList_plain rfl (fun K hK => ?_)
   go_simp
   have hown := ho.lt
   refine (boxes_any B g 1 2 _ hD (by omega) (by omega)).mono ?_
   rintro e wb ⟨⟨b, vb, rfl, hb, hfb, hb1, hb2⟩, hDn, hq⟩
   obtain ⟨A1, c1, rfl, hc1, hbx⟩ := hb.read (Nat.le_refl _)
   have HFB := Lib.hid hfb
   clear hfb
   refine hK _ _ ?_
   clear hK K
   have hszb := hq.size
   replace hbx : Bxs wb (Aq (Ge w.heap.size) _) A1 b := hbx.mono fun k hk => ⟨by unfold Ge at *; omega, fun e => by have := (hown _ e).2; unfold Ge at hk; omega⟩
   replace ho := ho.only hq (by omega) (by unfold Ge; omega)
   replace hO := only_trans hO hq
   replace hsz := Nat.le_trans hsz hq.size
   replace hown := ho.lt
   clear hD hq hb
   refine wpList_plain rfl (fun K hK => ?_)
   go_simp
   refine hK _ _ ?_
   clear hK K
   refine wpList_plain rfl (fun K hK => ?_)
   go_simp
   refine (rolls_any B g 16 _ hDn (by omega) (by omega)).mono ?_
   rintro e wc ⟨⟨v, rfl, v0, v1⟩, hD, hq⟩
   refine hK _ _ ?_
   clear hK K
   replace hbx : Bxs wc (Aq (Ge w.heap.size) _) A1 b := hbx.grown hq (fun q e hh => by injection e with e; have := hh.1; unfold Ge at this; omega)
   replace ho := ho.only hq (by omega) (by unfold Ge; omega)
   replace hO := only_trans hO hq
   replace hsz := Nat.le_trans hsz hq.size
   replace hown := ho.lt
   clear hDn hq
   have HFP : Hid (FineP [⟨b, v⟩]) := Lib.hid fun p hp => by simp only [List.mem_singleton] at hp; subst hp; exact ⟨HFB.out, hb1, hb2, v0, by show v ≤ 15; omega⟩
   iterate 2
    refine wpList_plain rfl (fun K hK => ?_)
    go_simp
    refine hK _ _ ?_
    clear hK K
   have hL := pts_lit (p := ⟨b, v⟩) hbx hc1 ⟨by unfold Ge; omega, fun e => by have := (hown _ e).2; omega⟩
   have hq := (Below.refl wc.heap.size wc).alloc (Nat.le_refl _) (Obj.cells #[.slice A1 b.length c1, .int .i64 v] 47)
   replace ho := ho.grows hq
   replace hD := hD.grows hq
   replace hO := d_only_grows hO hq
   replace hsz := Nat.le_trans hsz hq.size
   replace hown := ho.lt
   clear hq hbx
   refine wpList_append_ports rfl (.tmp 12) (.tmp 18) rfl (m := [⟨b, v⟩]) rfl rfl ho rfl hL (by simp only [List.length_singleton]; omega) hsz ?_
   intro v5 w12 ho2 hgr _
   replace hD := hD.grown hgr (fun q e => by have := (hown q e).1; omega)
   replace hO := only_own hO hgr (fun q e => (hown q e).1)
   have HF2 := Lib.hid (finep_app HF.out HFP.out)
   have hl2 : (l ++ [Pt.mk b v]).length + (n - 1) = n0 := by rw [List.length_append, List.length_singleton]; omega
   clear hown hgr ho hL hsz HFB HF HFP v0 v1
   generalize l ++ [Pt.mk b v] = l2 at *
   go_wp2
   go_roundw
   case rel => exact ⟨n - 1, l2, by omega, by go_num, hl2, HF2, ho2, hD, hO⟩
   case measure => simp [intOf]; omega
  ·obtain rfl : n = 0 := by omega
   have d2 : decide ((0 : Int) < ((0 : Nat) : Int)) = false := by decide
   go_wp2
   go_ret
   exact ⟨⟨l, _, rfl, ho, by omega, by omega, HF.out⟩, hD, hO⟩
end Go.Proofs.YtjbkjgmcfommgaaGreat

namespace Go.Proofs.YtjbkjgmcfommgaaGreat
open Go.RowKit
def nA : List Pt := [⟨[ptB 44100 [3]], 0⟩, ⟨[ptB 48000 [3]], 0⟩]
def nB : List Pt := [⟨[ptB 44100 [3]], 2⟩, ⟨[ptB 48000 [3]], 0⟩]
def nX : List Ch := [⟨2, 44100, [3], 64⟩, ⟨2, 48000, [3], 64⟩]
theorem nsane1 : chooseF nA zeroC = ([], (1, 2), 13) := by decide +kernel
theorem nsane2 : chooseF nB zeroC = (nX, (0, 0), 0) := by decide +kernel
theorem nsane3 : fitsF nB nX = true := by decide +kernel
theorem nsane4 : validC nB = true := by decide +kernel
theorem okbN (r : Int) : OKB (ptB r [3]) := ⟨by show (1 : Nat) ≤ _; decide, by show (1 : Nat) ≤ _; decide, by show (1 : Nat) ≤ _; decide, fun m hm => by
 have : m = [3] := by simpa [ptB] using hm
 subst this
 decide⟩
theorem okN {v u : Int} : ∀ p ∈ ([⟨[ptB 44100 [3]], v⟩, ⟨[ptB 48000 [3]], u⟩] : List Pt), (∀ b ∈ p.b, OKB b ∧ I64 b.k) ∧ p.b.length ≤ 1000000 := by
 intro p hp
 simp only [List.mem_cons, List.not_mem_nil, or_false] at hp
 rcases hp with rfl | rfl <;> exact ⟨fun b hb => by
  simp only [List.mem_singleton] at hb
  subst hb
  exact ⟨okbN _, (by unfold I64; show (-9223372036854775808 : Int) ≤ 4 ∧ (4 : Int) ≤ 9223372036854775807; decide)⟩, (by show 1 ≤ 1000000; decide)⟩
/-- A chain of two ports in a block. -/
theorem pts_blk2 {w : World} {ok : Nat → Prop} {G : Nat} {p q : Pt} {B C : Option Addr} {c d : Nat} (hk : Blk w G 47 #[.slice B p.b.length c, .int .i64 p.v, .slice C q.b.length d, .int .i64 q.v]) (hb : Bxs w ok B p.b) (hc : p.b.length ≤ c) (hb2 : Bxs w ok C q.b) (hd : q.b.length ≤ d) (hw : ok G) : Pts w ok (some ⟨G, 0, none⟩) [p, q] := by
 refine ⟨[.slice B p.b.length c, .int .i64 p.v, .slice C q.b.length d, .int .i64 q.v], ⟨⟨rfl, fun _ => ⟨_, rfl, hk.lt, fun j u hu => ?_⟩⟩, fun _ ad e => by injection e with e; subst e; exact hw⟩, fun i x hx => ?_⟩
 ·rw [add_head, hk.cell, ← Array.getElem?_toList]
  exact hu
 ·have hi := (List.getElem?_eq_some_iff.1 hx).1
  simp only [List.length_cons, List.length_nil] at hi
  rcases (show i = 0 ∨ i = 1 by omega) with rfl | rfl
  ·simp only [List.getElem?_cons_zero, Option.some.injEq] at hx
   subst hx
   exact ⟨B, c, hb, hc, rfl, rfl⟩
  ·simp only [List.getElem?_cons_succ, List.getElem?_cons_zero, Option.some.injEq] at hx
   subst hx
   exact ⟨C, d, hb2, hd, rfl, rfl⟩
set_option maxHeartbeats 8000000 in
theorem lbox_any (r : Int) (w : World) : Calls Tryz.prog 23 #[.int .i64 r] w fun e w' => (∃ v, e = .returned v ∧ BoxV w' AnyB (ptB r [3]) v) ∧ Grows w w' := by
 have k0 := Blk.new w 61 #[.int .i64 0, .slice none 0 0, .slice none 0 0, .slice none 0 0]
 have hB := (Below.refl w.heap.size w).alloc (Nat.le_refl _) (Obj.cells #[.int .i64 0, .slice none 0 0, .slice none 0 0, .slice none 0 0] 61)
 go_enter Tryz.func23, Tryz.ntmps23
 go_upto_region 1 with fail
 generalize World.alloc w _ = w1 at *
 have hs1 := k0.lt
 refine wp_region_lit ?_
 iterate 4
  refine BigFrame.wpList_want (by first | rfl | kernel_rfl) (fun K hK => ?_)
  go_simp
  refine hK _ _ ?_
  clear hK K
 have hr := rd_lit w1 (ok := fun k => k ≠ w.heap.size) 86 #[.int .i64 r, .int .i64 r] 2 1 rfl (by omega)
 have hq := (Below.refl w1.heap.size w1).alloc (Nat.le_refl _) (Obj.cells #[.int .i64 r, .int .i64 r] 86)
 replace k0 := k0.grows hq
 replace hB := below_grows hB (Nat.le_refl _) hq
 clear hq
 generalize w1.heap.size = n1 at *
 generalize World.alloc w1 _ = w2 at *
 replace hs1 := k0.lt
 iterate 2
  refine BigFrame.wpList_want (by first | rfl | kernel_rfl) (fun K hK => ?_)
  go_simp
  refine hK _ _ ?_
  clear hK K
 have hm : InB _ (fun k => k ≠ w.heap.size) _ [3] := rd_lit w2 3 #[.int .i64 3] 1 1 rfl (by omega)
 have hq := (Below.refl w2.heap.size w2).alloc (Nat.le_refl _) (Obj.cells #[.int .i64 3] 3)
 replace k0 := k0.grows hq
 replace hr := hr.grows hq
 replace hB := below_grows hB (Nat.le_refl _) hq
 clear hq
 generalize w2.heap.size = n5 at *
 generalize World.alloc w2 _ = w5 at *
 replace hs1 := k0.lt
 iterate 1
  refine BigFrame.wpList_want (by first | rfl | kernel_rfl) (fun K hK => ?_)
  go_simp
  refine hK _ _ ?_
  clear hK K
 have hmm := maps_lit1 w5 (c := 1) hm (by decide) (by omega)
 have hq := (Below.refl w5.heap.size w5).alloc (Nat.le_refl _) (Obj.cells #[.slice (some ⟨n5, 0, none⟩) 1 1] 38)
 replace k0 := k0.grows hq
 replace hr := hr.grows hq
 replace hB := below_grows hB (Nat.le_refl _) hq
 clear hq hm
 have hmm : MapsR (w5.alloc (.cells #[.slice (some ⟨n5, 0, none⟩) 1 1] 38)) (fun k => k ≠ w.heap.size) (some ⟨w5.heap.size, 0, none⟩) [[3]] := hmm
 generalize w5.heap.size = n2 at *
 generalize World.alloc w5 _ = w3 at *
 replace hs1 := k0.lt
 iterate 2
  refine BigFrame.wpList_want (by first | rfl | kernel_rfl) (fun K hK => ?_)
  go_simp
  refine hK _ _ ?_
  clear hK K
 have hs := rd_lit w3 (ok := fun k => k ≠ w.heap.size) 86 #[.int .i64 64, .int .i64 64] 2 1 rfl (by omega)
 have hq := (Below.refl w3.heap.size w3).alloc (Nat.le_refl _) (Obj.cells #[.int .i64 64, .int .i64 64] 86)
 replace k0 := k0.grows hq
 replace hr := hr.grows hq
 replace hmm := hmm.grows hq
 replace hB := below_grows hB (Nat.le_refl _) hq
 clear hq
 generalize w3.heap.size = n3 at *
 generalize World.alloc w3 _ = w4 at *
 have y0 := ((((k0.set_ 0 (.int .i64 4)).set_ 1 (.slice (some ⟨n1, 0, none⟩) 1 1)).set_ 2 (.slice (some ⟨n2, 0, none⟩) 1 1)).set_ 3 (.slice (some ⟨n3, 0, none⟩) 1 1))
 have yB := ((((hB.setCell (p := ⟨w.heap.size, 0, none⟩) (Nat.le_refl _) (.int .i64 4)).setCell (p := ⟨w.heap.size, 1, none⟩) (Nat.le_refl _) (.slice (some ⟨n1, 0, none⟩) 1 1)).setCell (p := ⟨w.heap.size, 2, none⟩) (Nat.le_refl _) (.slice (some ⟨n2, 0, none⟩) 1 1)).setCell (p := ⟨w.heap.size, 3, none⟩) (Nat.le_refl _) (.slice (some ⟨n3, 0, none⟩) 1 1))
 have hgq := (d_only_set (d_only_set (d_only_set (d_only_set (World.grownBy.refl w4 (some w.heap.size)) 0 (.int .i64 4)) 1 (.slice (some ⟨n1, 0, none⟩) 1 1)) 2 (.slice (some ⟨n2, 0, none⟩) 1 1)) 3 (.slice (some ⟨n3, 0, none⟩) 1 1))
 have yr := RdB.grown hr hgq (fun q e hh => by injection e with e; exact hh e.symm)
 have ym := MapsR.grown hmm hgq (fun q e hh => by injection e with e; exact hh e.symm)
 have ys := RdB.grown hs hgq (fun q e hh => by injection e with e; exact hh e.symm)
 have y6 := y0.cell
 have x0 := k0.cell
 have hf0 := k0.frozen
 clear k0 hB hr hmm hs
 go_wp2
 refine bodyPost_ret (v := .agg #[.int .i64 4, .slice (some ⟨n1, 0, none⟩) 1 1, .slice (some ⟨n2, 0, none⟩) 1 1, .slice (some ⟨n3, 0, none⟩) 1 1]) (by simp [results, Tryz.results23, go_sem, y6]) rfl ⟨⟨_, rfl, ⟨some ⟨n1, 0, none⟩, 1, some ⟨n2, 0, none⟩, 1, some ⟨n3, 0, none⟩, 1, rfl, ⟨RdB.mono yr (fun _ _ => trivial), MapsR.mono ym (fun _ _ => trivial), RdB.mono ys (fun _ _ => trivial), Nat.le_refl _, Nat.le_refl _, Nat.le_refl _⟩⟩⟩, yB⟩
set_option maxHeartbeats 16000000 in
set_option maxRecDepth 10000 in
theorem nsane_any (w : World) : Calls Tryz.prog 6 #[] w fun e w' => e = .returned (.bool true) ∧ Grows w w' := by
 have hB := Below.refl w.heap.size w
 go_enter Tryz.func6, Tryz.ntmps6
 go_wp2_with fail
 refine (lbox_any 44100 _).mono ?_
 rintro e w3 ⟨⟨v, rfl, A1, c1, A2, c2, A3, c3, rfl, hp0⟩, hq⟩
 replace hB := below_grows hB (Nat.le_refl _) hq
 clear hq
 have ha : Bxs _ AnyB _ [ptB 44100 [3]] := bxs_lit hp0 trivial
 have hq := (Below.refl w3.heap.size w3).alloc (Nat.le_refl _) (Obj.cells #[.int .i64 (ptB 44100 [3]).k, .slice A1 (ptB 44100 [3]).r.length c1, .slice A2 (ptB 44100 [3]).m.length c2, .slice A3 (ptB 44100 [3]).s.length c3] 61)
 replace hB := below_grows hB (Nat.le_refl _) hq
 clear hq hp0
 go_wp2_with fail
 generalize w3.heap.size = n3 at *
 generalize World.alloc w3 _ = v3 at *
 refine (lbox_any 48000 _).mono ?_
 rintro e w4 ⟨⟨v, rfl, A4, c4, A5, c5, A6, c6, rfl, hp1⟩, hq⟩
 replace hB := below_grows hB (Nat.le_refl _) hq
 replace ha := ha.grows hq
 clear hq
 have hb : Bxs _ AnyB _ [ptB 48000 [3]] := bxs_lit hp1 trivial
 have hq := (Below.refl w4.heap.size w4).alloc (Nat.le_refl _) (Obj.cells #[.int .i64 (ptB 48000 [3]).k, .slice A4 (ptB 48000 [3]).r.length c4, .slice A5 (ptB 48000 [3]).m.length c5, .slice A6 (ptB 48000 [3]).s.length c6] 61)
 replace hB := below_grows hB (Nat.le_refl _) hq
 replace ha := ha.grows hq
 clear hq hp1
 go_upto_region 2 with fail
 have hG1 : (World.alloc w4 (Obj.cells #[.int .i64 (ptB 48000 [3]).k, .slice A4 (ptB 48000 [3]).r.length c4, .slice A5 (ptB 48000 [3]).m.length c5, .slice A6 (ptB 48000 [3]).s.length c6] 61)).heap.size = w4.heap.size + 1 := by simp
 generalize w4.heap.size = n4 at *
 generalize World.alloc w4 _ = v4 at *
 have k1 := Blk.new v4 47 #[.slice (some ⟨n3, 0, none⟩) 1 1, .int .i64 0, .slice (some ⟨n4, 0, none⟩) 1 1, .int .i64 0]
 have hq := (Below.refl v4.heap.size v4).alloc (Nat.le_refl _) (Obj.cells #[.slice (some ⟨n3, 0, none⟩) 1 1, .int .i64 0, .slice (some ⟨n4, 0, none⟩) 1 1, .int .i64 0] 47)
 replace ha := ha.under.grows hq
 replace hb := hb.under.grows hq
 have hGw := hB.size
 replace hB := below_grows hB (Nat.le_refl _) hq
 clear hq
 rw [hG1] at k1 ha hb hGw
 clear hG1
 generalize World.alloc v4 _ = v5 at *
 generalize n4 + 1 = G at *
 go_wp2_with fail
 have h2 : Pts v5 (fun k => k ≤ G) (some ⟨G, 0, none⟩) nA := pts_blk2 (p := ⟨[ptB 44100 [3]], 0⟩) (q := ⟨[ptB 48000 [3]], 0⟩) k1 (ha.mono (fun k hk => Nat.le_of_lt hk)) (by decide) (hb.mono (fun k hk => Nat.le_of_lt hk)) (by decide) (Nat.le_refl _)
 have hcon : Calls Tryz.prog 16 #[.slice (some ⟨G, 0, none⟩) 2 2, .agg #[.int .i64 0, .int .i64 0, .slice none 0 0, .int .i64 0]] v5 fun e w' => (∃ A' c', e = .returned (.tuple #[.slice A' 0 c', .agg #[.int .i64 1, .int .i64 2], .int .i64 13]) ∧ 0 ≤ c' ∧ Chs w' (Ge v5.heap.size) A' []) ∧ Grows v5 w' := by
  have := choose_any (w := v5) (c := 2) (ci := 0) (n := 2) (l := nA) (want := zeroC) (I := none) (ow := AnyB) rfl h2 (by decide) okN RdB.nil okc_zero
  rw [nsane1] at this
  exact this
 refine hcon.mono ?_
 rintro e w6 ⟨⟨A7, c7, rfl, -, -⟩, hq⟩
 replace hB := below_grows hB (Nat.le_refl _) hq
 replace ha := ha.grows hq
 replace hb := hb.grows hq
 replace k1 := k1.grows hq
 clear hq hcon h2
 have k3 := Blk.new w6 32 #[.int .i64 1, .int .i64 2]
 have hq := (Below.refl w6.heap.size w6).alloc (Nat.le_refl _) (Obj.cells #[.int .i64 1, .int .i64 2] 32)
 go_upto_region 3 with fail
 replace hB := below_grows hB (Nat.le_refl _) hq
 replace ha := ha.grows hq
 replace hb := hb.grows hq
 replace k1 := k1.grows hq
 have hne : w6.heap.size ≠ G := by have := k1.lt; intro e; subst e; exact absurd (Blk.ne_ k1 k3 (by decide)) (by simp)
 clear hq
 generalize w6.heap.size = n6 at *
 generalize World.alloc w6 _ = v6 at *
 have x1 := k1.cell
 have f1 := k1.frozen
 have hg6 := d_only_set (World.grownBy.refl v6 (some G)) 1 (.int .i64 2)
 have hB2 := hB.setCell (p := ⟨G, 1, none⟩) hGw (.int .i64 2)
 have ha2 := ha.grown hg6 (fun g e hh => by injection e with e; unfold Under at hh; omega)
 have hb2 := hb.grown hg6 (fun g e hh => by injection e with e; unfold Under at hh; omega)
 have k12 : Blk (v6.setCell ⟨G, 1, none⟩ (.int .i64 2)) G 47 #[.slice (some ⟨n3, 0, none⟩) 1 1, .int .i64 2, .slice (some ⟨n4, 0, none⟩) 1 1, .int .i64 0] := k1.set_ 1 (.int .i64 2)
 have k32 := k3.far (p := ⟨G, 1, none⟩) hne (.int .i64 2)
 go_upto_region 4 with fail
 clear x1 f1 hg6 hB ha hb k1 k3 hne
 generalize v6.setCell _ _ = v7 at *
 go_wp2_with fail
 have h2 : Pts v7 (fun k => k ≤ G) (some ⟨G, 0, none⟩) nB := pts_blk2 (p := ⟨[ptB 44100 [3]], 2⟩) (q := ⟨[ptB 48000 [3]], 0⟩) k12 (ha2.mono (fun k hk => Nat.le_of_lt hk)) (by decide) (hb2.mono (fun k hk => Nat.le_of_lt hk)) (by decide) (Nat.le_refl _)
 have hcon : Calls Tryz.prog 16 #[.slice (some ⟨G, 0, none⟩) 2 2, .agg #[.int .i64 0, .int .i64 0, .slice none 0 0, .int .i64 0]] v7 fun e w' => (∃ A' c', e = .returned (.tuple #[.slice A' 2 c', .agg #[.int .i64 0, .int .i64 0], .int .i64 0]) ∧ 2 ≤ c' ∧ Chs w' (Ge v7.heap.size) A' nX) ∧ Grows v7 w' := by
  have := choose_any (w := v7) (c := 2) (ci := 0) (n := 2) (l := nB) (want := zeroC) (I := none) (ow := AnyB) rfl h2 (by decide) okN RdB.nil okc_zero
  rw [nsane2] at this
  exact this
 refine hcon.mono ?_
 rintro e w8 ⟨⟨A8, c8, rfl, -, hx⟩, hq⟩
 have hB := below_grows hB2 (Nat.le_refl _) hq
 replace h2 := h2.grows hq
 replace k32 := k32.grows hq
 clear hq hcon hB2 ha2 hb2 k12
 have k6 := Blk.new w8 32 #[.int .i64 0, .int .i64 0]
 have hq := (Below.refl w8.heap.size w8).alloc (Nat.le_refl _) (Obj.cells #[.int .i64 0, .int .i64 0] 32)
 go_upto_region 5 with fail
 replace hB := below_grows hB (Nat.le_refl _) hq
 replace h2 := h2.grows hq
 replace hx := hx.grows hq
 replace k32 := k32.grows hq
 clear hq
 generalize w8.heap.size = n8 at *
 generalize World.alloc w8 _ = v8 at *
 obtain ⟨ad, x, BX, dX, e7, had, hx0, hdX, hix, hcx⟩ := hx.elem (Grows.rfl' v8) (k := 0) (by decide)
 subst e7
 obtain ⟨ad2, y, BY, dY, e7, -, hy0, hdY, hiy, hcy⟩ := hx.elem (Grows.rfl' v8) (k := 1) (by decide)
 injection e7 with e7
 subst e7
 obtain rfl : (⟨2, 44100, [3], 64⟩ : Ch) = x := Option.some.inj hx0
 obtain rfl : (⟨2, 48000, [3], 64⟩ : Ch) = y := Option.some.inj hy0
 obtain ⟨x0, x1, x2, x3⟩ := hcx
 obtain ⟨y0, y1, y2, y3⟩ := hcy
 have z3 := k32.cell
 have e0 : ad.add (0 * 4) = ad := by simp [Addr.add]
 rw [e0] at x0 x1
 have y1b : v8.cell? { block := ad.block, off := ad.off + 4 + 1 } = some (.int .i64 48000) := y1
 clear e0 y0 y2 y3 x2 x3
 go_wp2_with fail
 have hF : Calls Tryz.prog 19 #[.slice (some ⟨G, 0, none⟩) 2 2, .slice (some ad) 2 c8] v8 fun e w' => e = .returned (.bool true) ∧ Grows v8 w' := by
  have := fits_any (w := v8) (c := 2) (d := c8) (n := 2) (m := 2) (l := nB) (cs := nX) rfl rfl h2 hx (by decide) (by decide) (fun p hp => ⟨fun b hb => ((okN p hp).1 b hb).1, (okN p hp).2⟩) (fun x hx => by simp only [nX, List.mem_cons, List.not_mem_nil, or_false] at hx; rcases hx with rfl | rfl <;> decide)
  rw [nsane3] at this
  exact this
 refine hF.mono ?_
 rintro e w9 ⟨rfl, hq⟩
 replace hB := below_grows hB (Nat.le_refl _) hq
 replace h2 := h2.grows hq
 clear hq hF x0 x1 y1 y1b z3
 go_wp2_with fail
 have hV : Calls Tryz.prog 12 #[.slice (some ⟨G, 0, none⟩) 2 2] w9 fun e w' => e = .returned (.bool true) ∧ Grows w9 w' := by
  have := nvalid_any (w := w9) (c := 2) (n := 2) (l := nB) rfl h2 (by decide) (fun p hp => ⟨fun b hb => ((okN p hp).1 b hb).1, (okN p hp).2⟩)
  rw [nsane4] at this
  exact this
 refine hV.mono ?_
 rintro e w10 ⟨rfl, hq⟩
 replace hB := below_grows hB (Nat.le_refl _) hq
 go_wp2
 go_ret
 exact ⟨rfl, hB⟩
end Go.Proofs.YtjbkjgmcfommgaaGreat

namespace Go.Proofs.YtjbkjgmcfommgaaGreat
open Go.RowKit
theorem MadeP.oks {l : List Pt} (h : MadeP l) : ∀ p ∈ l, (∀ b ∈ p.b, OKB b ∧ I64 b.k) ∧ p.b.length ≤ 1000000 := fun p hp => ⟨fun b hb => ⟨((h.2.2 p hp).1 b hb).2.1, ((h.2.2 p hp).1 b hb).2.2.1⟩, by have := (h.2.2 p hp).2.2.1; omega⟩
theorem MadeP.fw {l : List Pt} (h : MadeP l) : forwardF l = fwUp l l.length := by
 unfold forwardF
 rw [if_pos h.valid]
theorem MadeP.take {l : List Pt} (h : MadeP l) {m : Nat} (h1 : 1 ≤ m) : MadeP (l.take m) := ⟨by rw [List.length_take]; have := h.1; omega, by rw [List.length_take]; have := h.2.1; omega, fun p hp => h.2.2 p (List.mem_of_mem_take hp)⟩
theorem forward_at {ok : Nat → Prop} {A : Option Addr} {c n : Nat} {l : List Pt} {w : World} {ls : List (List Bx)} {a b e0 : Int} (hf : forwardF l = (ls, (a, b), e0)) (hn : n = l.length) (h : Pts w ok A l) (hl : l.length ≤ 1000000) (ho : ∀ p ∈ l, (∀ b ∈ p.b, OKB b ∧ I64 b.k) ∧ p.b.length ≤ 1000000) :
 Calls Tryz.prog 10 #[.slice A n c] w fun e w' => (∃ A' c', e = .returned (.tuple #[.slice A' ls.length c', .agg #[.int .i64 a, .int .i64 b], .int .i64 e0]) ∧ ls.length ≤ c' ∧ Lbx w' (Ge w.heap.size) A' ls) ∧ Grows w w' := by
 have := forward_any (c := c) hn h hl ho
 rw [hf] at this
 refine this.mono ?_
 rintro e w1 ⟨⟨v, rfl, hw⟩, hq⟩
 obtain ⟨A', c', rfl, hc, hb⟩ := hw.lbx
 exact ⟨⟨A', c', rfl, hc, hb.mono (fun k hk => hk.elim id id)⟩, hq⟩
/-- Whether a made chain is met. -/
theorem MadeP.met {l : List Pt} (h : MadeP l) : ((forwardF l).2.2 = 0 ↔ ∃ c, Rch l (l.length - 1) c) ∧ ((forwardF l).2.2 = 0 ∨ (forwardF l).2.2 = 13) ∧ (forwardF l).2.2 ≠ 3 := by
 obtain ⟨n, hn⟩ : ∃ n, l.length = n + 1 := ⟨l.length - 1, by have := h.1; omega⟩
 have hs := h.small (n := n + 1) (by omega)
 have := fw_ok h.ok h.k (n := n) (by omega) hs
 rw [h.fw, hn]
 exact ⟨this.1, this.2, hs⟩
end Go.Proofs.YtjbkjgmcfommgaaGreat

namespace Go.Proofs.YtjbkjgmcfommgaaGreat
open Go.RowKit
theorem okb_dims {x y : Bx} {d : Int} (hx : OKB x) : OKB (dimsF d x y) := by
  obtain ⟨h1, h2, h3, h4⟩ := hx
  have hb : ∀ u v : List Sp, (interF (spansF u) (spansF v)).length ≤ 4096 := fun u v => Nat.le_trans (interF_len _ _) (Nat.le_trans (Nat.mul_le_mul (spansF_len u) (spansF_len v)) (by omega))
  refine ⟨?_, ?_, ?_, fun m hm => ?_⟩
  · show (if bitZ d 2 = true then interF (spansF x.r) (spansF y.r) else x.r).length ≤ 1000000
    split
    · have := hb x.r y.r
      omega
    · exact h1
  · show (if bitZ d 8 = true then interF (spansF x.s) (spansF y.s) else x.s).length ≤ 1000000
    split
    · have := hb x.s y.s
      omega
    · exact h2
  · show (if bitZ d 4 = true then x.m.filter (fun z => decide (z ∈ y.m)) else x.m).length ≤ 1000000
    split
    · have := List.length_filter_le (fun z => decide (z ∈ y.m)) x.m
      omega
    · exact h3
  · have hm : m ∈ (if bitZ d 4 = true then x.m.filter (fun z => decide (z ∈ y.m)) else x.m) := hm
    split at hm
    · exact h4 m (List.mem_filter.1 hm).1
    · exact h4 m hm
theorem product_lim {d : Int} {a b : List Bx} (h : prodF d a b = none) : productF d a b = ([], 3) := by unfold productF; rw [h]
theorem product_ok {d : Int} {a b out : List Bx} (h : prodF d a b = some out) : productF d a b = reduceF out := by unfold productF; rw [h]
end Go.Proofs.YtjbkjgmcfommgaaGreat


namespace Go.Proofs.YtjbkjgmcfommgaaGreat
open Go.RowKit
/-- What was allowed before, or is new. -/
def Nk (n : Nat) (ba : Nat → Prop) : Nat → Prop := fun k => (ba k ∧ k < n) ∨ n ≤ k
set_option maxHeartbeats 32000000 in
set_option maxRecDepth 10000 in
theorem rreduceq_any {base : Nat → Prop} {A : Option Addr} {c n : Nat} {l : List Bx} {w : World} (hn : n = l.length) (h : Bxs w base A l) (hl : l.length ≤ 100000) (ho : ∀ b ∈ l, OKB b) :
 Calls Tryz.prog 30 #[.slice A n c] w fun e w' => (∃ v, e = .returned (.tuple #[v, .int .i64 (reduceF l).2]) ∧ OwnBq w' w.heap.size (Nk w.heap.size base) v (reduceF l).1) ∧ Grows w w' := by
 subst hn
 have HO := Lib.hid ho
 clear ho
 go_enter Tryz.func30, Tryz.ntmps30
 have hB := Below.refl w.heap.size w
 go_wp2_with fail
 refine (rvalidl_any A c base l _ h (by omega) HO.out).mono ?_
 cases hv : validL l
 ·have HE : Hid (reduceF l = ([], 1)) := Lib.hid (if_neg (by rw [hv]; decide))
  clear hv
  rintro e w2 ⟨rfl, hq⟩
  go_wp2
  refine bodyPost_ret (v := .tuple #[.slice none 0 0, .int .i64 1]) (by simp [results, Tryz.results30, go_sem]) rfl ?_
  rw [HE.out]
  exact ⟨⟨_, rfl, OwnBq.nil⟩, hq⟩
 have HR : Hid (reduceF l = (keepUp l l.length, 0)) := Lib.hid (if_pos hv)
 clear hv
 rintro e w2 ⟨rfl, hq⟩
 replace hB := below_grows hB (Nat.le_refl _) hq
 clear hq
 go_wp2_with fail
 go_loopw [4, 15] (fun v i wr => ∃ k : Nat, k ≤ l.length ∧ i = .int .i64 k ∧ OwnBq wr w.heap.size (Nk w.heap.size base) v (keepUp l k) ∧ Below w.heap.size w wr) (fun _ i _ => l.length - (intOf i).toNat)
 case atStart => exact ⟨0, by omega, rfl, OwnBq.nil, hB⟩
 case round =>
  clear hB
  obtain ⟨k, hk, rfl, hw, hB⟩ := hrel
  by_cases hlt : k < l.length
  ·obtain ⟨ad, b, A1, c1, A2, c2, A3, c3, e1, had, hx, hp0, q0, q1, q2, q3⟩ := h.bd.elem hlt
   have had2 := Nat.lt_of_lt_of_le had hB.size
   replace q0 := (hB.cell (p := ad.add (k * 4)) (by rw [block_of_add]; exact had)).trans q0
   replace q1 := (hB.cell (p := ⟨(ad.add (k * 4)).block, (ad.add (k * 4)).off + 1, none⟩) (by simp only [block_of_add]; exact had)).trans q1
   replace q2 := (hB.cell (p := ⟨(ad.add (k * 4)).block, (ad.add (k * 4)).off + 2, none⟩) (by simp only [block_of_add]; exact had)).trans q2
   replace q3 := (hB.cell (p := ⟨(ad.add (k * 4)).block, (ad.add (k * 4)).off + 3, none⟩) (by simp only [block_of_add]; exact had)).trans q3
   have hp := hp0.grows hB
   subst e1
   have HX := Lib.hid hx
   clear hx
   have hob := HO.out b (List.mem_of_getElem? HX.out)
   have hkl : (keepUp l k).length + 1 ≤ 1000000 := by have := keep_len l k; omega
   have k5 := Blk.new wr 61 #[.int .i64 b.k, .slice A1 b.r.length c1, .slice A2 b.m.length c2, .slice A3 b.s.length c3]
   have hq := (Below.refl wr.heap.size wr).alloc (Nat.le_refl _) (Obj.cells #[.int .i64 b.k, .slice A1 b.r.length c1, .slice A2 b.m.length c2, .slice A3 b.s.length c3] 61)
   go_upto_region 7 with fail
   replace hB := below_grows hB (Nat.le_refl _) hq
   replace hw := hw.grows hq
   replace hp := hp.grows hq
   clear hq q0 q1 q2 q3
   generalize World.alloc wr _ = w5 at *
   generalize wr.heap.size = G5 at *
   go_wp2_with fail
   go_loopw [7, 22] (fun t i wq => ∃ j : Nat, j ≤ l.length ∧ i = .int .i64 j ∧ t = .bool (!(dropUp l k b j)) ∧ Blk wq G5 61 #[.int .i64 b.k, .slice A1 b.r.length c1, .slice A2 b.m.length c2, .slice A3 b.s.length c3] ∧ Grows w5 wq) (fun _ i _ => l.length - (intOf i).toNat)
   case atStart => exact ⟨0, by omega, rfl, rfl, k5, Below.refl _ _⟩
   case round =>
    clear k5
    obtain ⟨j, hj, rfl, rfl, k5, hg⟩ := hrel
    by_cases hjt : j < l.length
    ·have hB2 := below_grows hB (Nat.le_refl _) hg
     obtain ⟨ad2, z, B1, d1, B2, d2, B3, d3, e2, had2, hy, hp2, q0, q1, q2, q3⟩ := (h.grows hB2).elem hjt
     have HY := Lib.hid (drop_next (i := k) (b := b) hy)
     have hoz := HO.out z (List.mem_of_getElem? hy)
     have e3 := e2
     injection e3 with e3
     subst e3
     clear e2 hy
     have k8 := Blk.new wr 61 #[.int .i64 z.k, .slice B1 z.r.length d1, .slice B2 z.m.length d2, .slice B3 z.s.length d3]
     have hq := (Below.refl wr.heap.size wr).alloc (Nat.le_refl _) (Obj.cells #[.int .i64 z.k, .slice B1 z.r.length d1, .slice B2 z.m.length d2, .slice B3 z.s.length d3] 61)
     go_upto_region 11 with fail
     replace hg := below_grows hg (Nat.le_refl _) hq
     replace k5 := k5.grows hq
     replace hp2 := hp2.grows hq
     clear hq q0 q1 q2 q3 hB2
     generalize World.alloc wr _ = w6 at *
     generalize wr.heap.size = G8 at *
     have hpb := hp.grows hg
     have HV : Hid (dropUp l k b (j + 1) = (dropUp l k b j || dropAt k b j z)) := Lib.hid HY.out
     clear HY
     generalize dropUp l k b j = du at *
     by_cases hjk : j = k
     case pos =>
      have HE : Hid (dropUp l k b (j + 1) = du) := Lib.hid (by rw [HV.out, show dropAt k b j z = false from (hjk ▸ dropAt_self j b z)]; simp)
      clear HV
      have dn : ((k : Int) != (j : Int)) = false := by simp only [bne_eq_false_iff_eq]; omega
      clear hjk
      go_wp2
      go_roundw
      case rel => exact ⟨j + 1, by omega, by go_num, by rw [HE.out]; try rfl, k5, hg⟩
      case measure => simp [intOf]; omega
     have dn : ((k : Int) != (j : Int)) = true := by simp only [bne_iff_ne, ne_eq]; omega
     have x5 := k5.cell
     have x8 := k8.cell
     go_wp2_with fail
     refine (rinsb_any hpb hp2 hob hoz).mono ?_
     cases hv : insideB b z
     case false =>
      have HE : Hid (dropUp l k b (j + 1) = du) := Lib.hid (by rw [HV.out, show dropAt k b j z = false from dropAt_not hv]; simp)
      clear HV
      clear hv
      rintro e w7 ⟨rfl, hq⟩
      replace hg := below_grows hg (Nat.le_refl _) hq
      replace k5 := k5.grows hq
      clear hq x5 x8 k8 hp2 hpb
      go_wp2
      go_roundw
      case rel => exact ⟨j + 1, by omega, by go_num, by rw [HE.out]; try rfl, k5, hg⟩
      case measure => simp [intOf]; omega
     rintro e w7 ⟨rfl, hq⟩
     replace hg := below_grows hg (Nat.le_refl _) hq
     replace k5 := k5.grows hq
     replace k8 := k8.grows hq
     replace hp2 := hp2.grows hq
     replace hpb := hpb.grows hq
     clear hq x5 x8
     have x5 := k5.cell
     have x8 := k8.cell
     by_cases hjl : j < k
     case pos =>
      have HE : Hid (dropUp l k b (j + 1) = true) := Lib.hid (by rw [HV.out, show dropAt k b j z = true from dropAt_lt hjk hv hjl]; simp)
      clear HV
      have dl : decide ((j : Int) < (k : Int)) = true := by simp only [decide_eq_true_eq]; omega
      have dl2 : decide (j < k) = true := by simpa using hjl
      clear hv hjl hjk
      go_wp2
      go_roundw
      case rel => exact ⟨j + 1, by omega, by go_num, by rw [HE.out]; try rfl, k5, hg⟩
      case measure => simp [intOf]; omega
     have dl : decide ((j : Int) < (k : Int)) = false := by simp only [decide_eq_false_iff_not]; omega
     have dl2 : decide (j < k) = false := by simpa using hjl
     have HD : Hid (dropAt k b j z = !insideB z b) := Lib.hid (dropAt_ge hjk hv hjl)
     clear hv hjl
     go_wp2_with fail
     refine (rinsb_any hp2 hpb hoz hob).mono ?_
     cases hv : insideB z b
     case false =>
      have HE : Hid (dropUp l k b (j + 1) = true) := Lib.hid (by rw [HV.out, show dropAt k b j z = true from (by rw [HD.out, hv]; rfl)]; simp)
      clear HV
      clear hv HD
      rintro e w8 ⟨rfl, hq⟩
      replace hg := below_grows hg (Nat.le_refl _) hq
      replace k5 := k5.grows hq
      clear hq x5 x8 k8 hp2 hpb
      go_wp2
      go_roundw
      case rel => exact ⟨j + 1, by omega, by go_num, by rw [HE.out]; try rfl, k5, hg⟩
      case measure => simp [intOf]; omega
     have HE : Hid (dropUp l k b (j + 1) = du) := Lib.hid (by rw [HV.out, show dropAt k b j z = false from (by rw [HD.out, hv]; rfl)]; simp)
     clear HV
     clear hv HD
     rintro e w8 ⟨rfl, hq⟩
     replace hg := below_grows hg (Nat.le_refl _) hq
     replace k5 := k5.grows hq
     clear hq x5 x8 k8 hp2 hpb
     go_wp2
     go_roundw
     case rel => exact ⟨j + 1, by omega, by go_num, by rw [HE.out]; try rfl, k5, hg⟩
     case measure => simp [intOf]; omega
    ·have HK := Lib.hid (keep_next HX.out)
     obtain rfl : j = l.length := by omega
     have hB2 := below_grows hB (Nat.le_refl _) hg
     replace hw := hw.grows hg
     cases hv : dropUp l k b l.length
     case true =>
      have HK2 : Hid (keepUp l (k + 1) = keepUp l k) := Lib.hid (by rw [HK.out, if_pos hv, List.append_nil])
      clear hv HK
      go_wp2
      go_roundw
      case rel => exact ⟨k + 1, by omega, by go_num, by rw [HK2.out]; exact hw, hB2⟩
      case measure => simp [intOf]; omega
     have HK2 : Hid (keepUp l (k + 1) = keepUp l k ++ [b]) := Lib.hid (by rw [HK.out, if_neg (by rw [hv]; decide)])
     clear hv HK
     have x5 := k5.cell
     generalize keepUp l k = ks at *
     go_upto_region 15 with fail
     refine wp_region_lit ?_
     iterate 2
      refine wpList_plain rfl (fun K hK => ?_)
      go_simp
      refine hK _ _ ?_
      clear hK K
     have hown := hw.lt
     have hpn0 := hp0.grows hB2
     have hpn : BoxP _ (Aq (Nk w.heap.size base) _) b A1 c1 A2 c2 A3 c3 := hpn0.mono fun k hk => ⟨.inl hk, fun e => by have := (hown _ e).1; have := hk.2; omega⟩
     clear hpn0 k5 x5 hp hg hB
     refine wpList_plain rfl (fun K hK => ?_)
     go_simp
     refine hK _ _ ?_
     clear hK K
     have hL := bxs_lit hpn ⟨.inr hB2.size, fun e => by have := (hown _ e).2; omega⟩
     have hq := (Below.refl wr.heap.size wr).alloc (Nat.le_refl _) (Obj.cells #[.int .i64 b.k, .slice A1 b.r.length c1, .slice A2 b.m.length c2, .slice A3 b.s.length c3] 61)
     replace hw := hw.grows hq
     have hB3 := below_grows hB2 (Nat.le_refl _) hq
     have hown3 := hw.lt
     clear hq hpn hown hB2
     refine wpList_append_boxesq rfl (.tmp 48) (.tmp 50) rfl (m := [b]) rfl rfl hw rfl hL (by simp only [List.length_singleton]; omega) hB3.size ?_
     intro v5 w12 ho2 hgr _
     replace hB3 := hB3.grown hgr hB3.size (fun q e => (hown3 q e).1)
     clear hown3 hgr hw hL
     generalize ks ++ [b] = ks2 at *
     go_wp2
     go_roundw
     case rel => exact ⟨k + 1, by omega, by go_num, by rw [HK2.out]; exact ho2, hB3⟩
     case measure => simp [intOf]; omega
  ·obtain rfl : k = l.length := by omega
   obtain ⟨A9, c9, e9, hc9, -⟩ := hw.read
   rw [e9] at hw ⊢
   generalize hks : keepUp l l.length = ks at *
   have HKS := Lib.hid hks
   clear hks
   go_wp2
   refine bodyPost_ret (v := .tuple #[.slice A9 ks.length c9, .int .i64 0]) (by simp [results, Tryz.results30, go_sem]) rfl ?_
   rw [HR.out]
   exact ⟨⟨_, rfl, hw⟩, hB⟩
set_option maxHeartbeats 64000000 in
set_option maxRecDepth 10000 in
theorem rproductq_any {ba bb : Nat → Prop} {A B : Option Addr} {c d n m : Nat} {a b : List Bx} {w : World} (dd : Int) (hn : n = a.length) (hm : m = b.length) (ha : Bxs w ba A a) (hb : Bxs w bb B b) (hla : a.length ≤ 100000) (hlb : b.length ≤ 100000) (hoa : ∀ x ∈ a, OKB x) (hob : ∀ x ∈ b, OKB x) :
 Calls Tryz.prog 31 #[.slice A n c, .slice B m d, .int .i64 dd] w fun e w' => (∃ v, e = .returned (.tuple #[v, .int .i64 (productF dd a b).2]) ∧ OwnBq w' w.heap.size (Nk w.heap.size ba) v (productF dd a b).1) ∧ Grows w w' := by
 subst hn hm
 have HOA := Lib.hid hoa
 have HOB := Lib.hid hob
 clear hoa hob
 replace ha := ha.bd
 have hB := Below.refl w.heap.size w
 go_enter Tryz.func31, Tryz.ntmps31
 go_wp2_with fail
 go_loopw [8, 18] (fun v i wr => ∃ (k : Nat) (out : List Bx), k ≤ a.length ∧ i = .int .i64 k ∧ Hid ((a.take k).foldl (prodRow dd b) (some []) = some out) ∧ Hid (∀ z ∈ out, OKB z) ∧ out.length ≤ 64 ∧ OwnBq wr w.heap.size (Nk w.heap.size ba) v out ∧ Below w.heap.size w wr) (fun _ i _ => a.length - (intOf i).toNat)
 case atStart => exact ⟨0, [], by omega, rfl, Lib.hid rfl, Lib.hid (fun z hz => by cases hz), by simp, OwnBq.nil, hB⟩
 case round =>
  clear hB
  obtain ⟨k, out0, hk, rfl, HK, HOO, hol, hw, hB⟩ := hrel
  by_cases hlt : k < a.length
  ·obtain ⟨ad, x, A1, c1, A2, c2, A3, c3, e1, had, hx, hpx, q0, q1, q2, q3⟩ := ha.elemB hB hlt
   subst e1
   have HX := Lib.hid hx
   have hox := HOA.out x (List.mem_of_getElem? hx)
   clear hx
   have k8 := Blk.new wr 61 #[.int .i64 x.k, .slice A1 x.r.length c1, .slice A2 x.m.length c2, .slice A3 x.s.length c3]
   have hne := fun e => Nat.lt_irrefl _ (hw.lt _ e).2
   have hq := (Below.refl wr.heap.size wr).alloc (Nat.le_refl _) (Obj.cells #[.int .i64 x.k, .slice A1 x.r.length c1, .slice A2 x.m.length c2, .slice A3 x.s.length c3] 61)
   go_upto_region 5 with fail
   replace hB := below_grows hB (Nat.le_refl _) hq
   replace hw := hw.grows hq
   clear hq q0 q1 q2 q3
   generalize World.alloc wr _ = w5 at *
   generalize wr.heap.size = G8 at *
   have hB5 := hB
   clear hB
   go_wp2_with fail
   go_loopw [8, 24] (fun v i wq => ∃ (j : Nat) (out : List Bx), j ≤ b.length ∧ i = .int .i64 j ∧ Hid ((b.take j).foldl (prodStep dd x) (some out0) = some out) ∧ Hid (∀ z ∈ out, OKB z) ∧ out.length ≤ 64 ∧ OwnBq wq w.heap.size (Nk w.heap.size ba) v out ∧ v.ownBlock ≠ some G8 ∧ Blk wq G8 61 #[.int .i64 x.k, .slice A1 x.r.length c1, .slice A2 x.m.length c2, .slice A3 x.s.length c3] ∧ Below w.heap.size w wq) (fun _ i _ => b.length - (intOf i).toNat)
   case atStart => exact ⟨0, out0, by omega, rfl, Lib.hid rfl, HOO, hol, hw, hne, k8, hB5⟩
   case round =>
    clear hw k8 hB5 HOO hol hne
    obtain ⟨j, out, hj, rfl, HJ, HOO, hol, hw, hne, k8, hB⟩ := hrel
    by_cases hjt : j < b.length
    ·obtain ⟨ad2, y, B1, d1, B2, d2, B3, d3, e2, had2, hy, hpy, q0, q1, q2, q3⟩ := hb.elemB hB hjt
     subst e2
     have HY := Lib.hid hy
     have hoy := HOB.out y (List.mem_of_getElem? hy)
     clear hy
     have k10 := Blk.new wr 61 #[.int .i64 y.k, .slice B1 y.r.length d1, .slice B2 y.m.length d2, .slice B3 y.s.length d3]
     have hq := (Below.refl wr.heap.size wr).alloc (Nat.le_refl _) (Obj.cells #[.int .i64 y.k, .slice B1 y.r.length d1, .slice B2 y.m.length d2, .slice B3 y.s.length d3] 61)
     go_upto_region 8 with fail
     replace hB := below_grows hB (Nat.le_refl _) hq
     replace hw := hw.grows hq
     replace k8 := k8.grows hq
     clear hq q0 q1 q2 q3
     generalize World.alloc wr _ = w6 at *
     generalize wr.heap.size = G10 at *
     have x8 := k8.cell
     have x10 := k10.cell
     have hown := hw.lt
     go_wp2_with fail
     refine (rdims_any (hpx.grows hB) (hpy.grows hB) hox hoy dd).mono ?_
     have hoz := okb_dims (y := y) (d := dd) hox
     have HPS : Hid (someB (dimsF dd x y) = false → prodStep dd x (some out) y = some out) := Lib.hid prodStep_no
     have HPY : Hid (someB (dimsF dd x y) = true → manyB dd (dimsF dd x y) = false → out.length < 64 → prodStep dd x (some out) y = some (out ++ [dimsF dd x y])) := Lib.hid prodStep_yes
     have HPN : Hid (someB (dimsF dd x y) = true → (manyB dd (dimsF dd x y) = true ∨ 64 ≤ out.length) → prodStep dd x (some out) y = none) := Lib.hid prodStep_stop
     generalize dimsF dd x y = z at *
     rintro e w7 ⟨⟨v2, rfl, E1, f1, E2, f2, E3, f3, rfl, hpz⟩, hq⟩
     have hs6 := hB.size
     replace hpz : BoxP w7 (Aq (Nk w.heap.size ba) _) z E1 f1 E2 f2 E3 f3 := hpz.mono fun k hk => ⟨hk.elim (fun h => .inl h.1) (fun h => .inr (by omega)), fun e => by
      have h9 := hown _ e
      rcases hk with h | h
      ·have := h.1.2; omega
      ·omega⟩
     replace hB := below_grows hB (Nat.le_refl _) hq
     replace hw := hw.grows hq
     replace k8 := k8.grows hq
     clear hq x8 x10 k10 hown hs6
     have k13 := Blk.new w7 61 #[.int .i64 z.k, .slice E1 z.r.length f1, .slice E2 z.m.length f2, .slice E3 z.s.length f3]
     have hq := (Below.refl w7.heap.size w7).alloc (Nat.le_refl _) (Obj.cells #[.int .i64 z.k, .slice E1 z.r.length f1, .slice E2 z.m.length f2, .slice E3 z.s.length f3] 61)
     replace hB := below_grows hB (Nat.le_refl _) hq
     replace hw := hw.grows hq
     replace k8 := k8.grows hq
     replace hpz := hpz.grows hq
     go_upto_region 9 with fail
     clear hq
     generalize World.alloc w7 _ = w8 at *
     generalize w7.heap.size = G13 at *
     cases hs : someB z
     case false =>
      have HN : Hid ((b.take (j + 1)).foldl (prodStep dd x) (some out0) = some out) := Lib.hid (by rw [fold_next HY.out, HJ.out]; exact HPS.out hs)
      clear hs k13 hpz
      go_wp2
      go_roundw
      case rel => exact ⟨j + 1, out, by omega, by go_num, HN, HOO, hol, hw, hne, k8, hB⟩
      case measure => simp [intOf]; omega
     have HS := Lib.hid hs
     clear hs
     obtain ⟨A9, c9, rfl, hc9, -⟩ := hw.read
     cases hm : manyB dd z
     case true =>
      have HE : Hid (productF dd a b = ([], 3)) := Lib.hid (product_lim (prod_stop HX.out HY.out HK.out HJ.out (HPN.out HS.out (.inl hm))))
      clear hm k13 hpz
      go_wp2
      refine bodyPost_ret (v := .tuple #[.slice none 0 0, .int .i64 3]) (by simp [results, Tryz.results31, go_sem]) rfl ?_
      rw [HE.out]
      exact ⟨⟨_, rfl, OwnBq.nil⟩, hB⟩
     have HM := Lib.hid hm
     clear hm
     by_cases h1 : 64 ≤ out.length
     case pos =>
      have dq : decide ((64 : Int) ≤ (out.length : Int)) = true := by simp only [decide_eq_true_eq]; omega
      have dq2 : decide (64 ≤ out.length) = true := by simpa using h1
      have HE : Hid (productF dd a b = ([], 3)) := Lib.hid (product_lim (prod_stop HX.out HY.out HK.out HJ.out (HPN.out HS.out (.inr h1))))
      clear h1 k13 hpz
      go_wp2
      refine bodyPost_ret (v := .tuple #[.slice none 0 0, .int .i64 3]) (by simp [results, Tryz.results31, go_sem]) rfl ?_
      rw [HE.out]
      exact ⟨⟨_, rfl, OwnBq.nil⟩, hB⟩
     have dq : decide ((64 : Int) ≤ (out.length : Int)) = false := by simp only [decide_eq_false_iff_not]; omega
     have dq2 : decide (64 ≤ out.length) = false := by simpa using h1
     have HN : Hid ((b.take (j + 1)).foldl (prodStep dd x) (some out0) = some (out ++ [z])) := Lib.hid (by rw [fold_next HY.out, HJ.out]; exact HPY.out HS.out HM.out (by omega))
     have hol2 : (out ++ [z]).length ≤ 64 := by rw [List.length_append, List.length_singleton]; omega
     have HOO2 := Lib.hid (okb_snoc HOO.out hoz)
     clear h1 HJ HPS HPY HPN
     have x13 := k13.cell
     go_upto_region 12 with fail
     refine wp_region_lit ?_
     iterate 3
      refine wpList_plain rfl (fun K hK => ?_)
      go_simp
      refine hK _ _ ?_
      clear hK K
     have hown := hw.lt
     have hL := bxs_lit hpz ⟨.inr hB.size, fun e => by have := (hown _ e).2; omega⟩
     have hq := (Below.refl w8.heap.size w8).alloc (Nat.le_refl _) (Obj.cells #[.int .i64 z.k, .slice E1 z.r.length f1, .slice E2 z.m.length f2, .slice E3 z.s.length f3] 61)
     replace hw := hw.grows hq
     replace hB := below_grows hB (Nat.le_refl _) hq
     replace k8 := k8.grows hq
     have hown3 := hw.lt
     clear hq hpz hown x13 k13
     refine wpList_append_boxesq rfl (.tmp 44) (.tmp 46) rfl (m := [z]) rfl rfl hw rfl hL (by simp only [List.length_singleton]; omega) hB.size ?_
     intro v5 w12 ho2 hgr hv5
     have hne2 : v5.ownBlock ≠ some G8 := by
      rcases hv5 with e | e
      ·rw [e]; exact hne
      ·rw [e]; intro e2; injection e2 with e2; have := k8.lt; omega
     replace hB := hB.grown hgr hB.size (fun q e => (hown3 q e).1)
     replace k8 := k8.grown hgr (fun e => hne e.symm)
     clear hown3 hgr hw hL
     generalize out ++ [z] = out2 at *
     go_wp2
     go_roundw
     case rel => exact ⟨j + 1, out2, by omega, by go_num, HN, HOO2, hol2, ho2, hne2, k8, hB⟩
     case measure => simp [intOf]; omega
    ·have HN : Hid ((a.take (k + 1)).foldl (prodRow dd b) (some []) = some out) := Lib.hid (by rw [fold_next HX.out, HK.out]; have := HJ.out; rwa [List.take_of_length_le (by omega)] at this)
     go_wp2
     go_roundw
     case rel => exact ⟨k + 1, out, by omega, by go_num, HN, HOO, hol, hw, hB⟩
     case measure => simp [intOf]; omega
  ·have HE : Hid (productF dd a b = reduceF out0) := Lib.hid (product_ok (by have := HK.out; rwa [List.take_of_length_le (by omega)] at this))
   obtain ⟨A9, c9, rfl, hc9, hxo⟩ := hw.read
   go_wp2_with fail
   refine (rreduceq_any rfl hxo (by omega) HOO.out).mono ?_
   rintro e w3 ⟨⟨v, rfl, hw2⟩, hq2⟩
   have hs := hB.size
   replace hB := below_grows hB (Nat.le_refl _) hq2
   go_wp2
   refine bodyPost_ret (v := .tuple #[v, .int .i64 (reduceF out0).2]) (by simp [results, Tryz.results31, go_sem]) rfl ?_
   rw [HE.out]
   exact ⟨⟨_, rfl, hw2.lower hs (fun k hk => hk.elim (fun h => h.1.elim id .inr) (fun h => .inr (by omega)))⟩, hB⟩
set_option maxHeartbeats 16000000 in
theorem rnvalid_any {ok : Nat → Prop} {A : Option Addr} {c n : Nat} {l : List Pt} {w : World} (hn : n = l.length) (h : Pts w ok A l) (hl : l.length ≤ 1000000) (ho : ∀ p ∈ l, (∀ b ∈ p.b, OKB b) ∧ p.b.length ≤ 1000000) :
 Calls Tryz.prog 13 #[.slice A n c] w fun e w' => e = .returned (.bool (validC l)) ∧ Grows w w' := by
 subst hn
 have HO := Lib.hid ho
 clear ho
 have HV : Hid (validC l = (l.all portOk && decide (1 ≤ l.length) && decide (l.length ≤ 16))) := Lib.hid rfl
 have hB := Below.refl w.heap.size w
 go_enter Tryz.func13, Tryz.ntmps13
 go_wp2_with fail
 go_loopw [7] (fun i wr => ∃ k : Nat, k ≤ l.length ∧ i = .int .i64 k ∧ Hid ((l.take k).all portOk = true) ∧ Below w.heap.size w wr) (fun i _ => l.length - (intOf i).toNat)
 case atStart => exact ⟨0, by omega, rfl, Lib.hid rfl, hB⟩
 case round =>
  clear hB
  obtain ⟨k, hk, rfl, HK, hB⟩ := hrel
  by_cases hlt : k < l.length
  ·obtain ⟨ad, p, B, cp, e1, had, hp, hbx, hcp, q0, q1⟩ := h.elem hB hlt
   subst e1
   have HP := Lib.hid hp
   obtain ⟨ob, ol⟩ := HO.out p (List.mem_of_getElem? hp)
   have HOB := Lib.hid ob
   clear hp ob
   have HNO : Hid (portOk p = false → validC l = false) := Lib.hid (fun hf => by
    rw [HV.out, Bool.and_assoc]
    have : l.all portOk = false := List.all_eq_false.2 ⟨p, List.mem_of_getElem? HP.out, by rw [hf]; simp⟩
    rw [this, Bool.false_and])
   have HYE : Hid (portOk p = true → (l.take (k + 1)).all portOk = true) := Lib.hid (fun hf => by rw [all_next HP.out, HK.out, hf]; rfl)
   have HPO : Hid (portOk p = (decide (p.b.length ≤ 8) && validL p.b && decide (0 ≤ p.v) && decide (p.v ≤ 15))) := Lib.hid rfl
   have k8 := Blk.new wr 47 #[.slice B p.b.length cp, .int .i64 p.v]
   have hq := (Below.refl wr.heap.size wr).alloc (Nat.le_refl _) (Obj.cells #[.slice B p.b.length cp, .int .i64 p.v] 47)
   go_upto_region 4 with fail
   replace hB := below_grows hB (Nat.le_refl _) hq
   clear hq q0 q1
   generalize World.alloc wr _ = w5 at *
   generalize wr.heap.size = G8 at *
   have x8 := k8.cell
   by_cases h1 : p.b.length ≤ 8
   case neg =>
    have HE : Hid (validC l = false) := Lib.hid (HNO.out (by rw [HPO.out, decide_eq_false h1]; rfl))
    have e1 : decide ((8 : Int) < (p.b.length : Int)) = true := by simp only [decide_eq_true_eq]; omega
    have e2 : decide (8 < p.b.length) = true := by simp only [decide_eq_true_eq]; omega
    clear h1
    go_wp2
    go_ret
    exact ⟨ret_bool HE.out.symm, hB⟩
   have e1 : decide ((8 : Int) < (p.b.length : Int)) = false := by simp only [decide_eq_false_iff_not]; omega
   have e2 : decide (8 < p.b.length) = false := by simp only [decide_eq_false_iff_not]; omega
   go_wp2_with fail
   refine (rvalidl_any B cp ok p.b _ (hbx.grows hB) (by omega) HOB.out).mono ?_
   rintro e w6 ⟨rfl, hq⟩
   replace hB := below_grows hB (Nat.le_refl _) hq
   replace k8 := k8.grows hq
   clear hq x8
   have x8 := k8.cell
   cases hv : validL p.b
   ·have HE : Hid (validC l = false) := Lib.hid (HNO.out (by rw [HPO.out, hv, Bool.and_false]; rfl))
    clear hv
    go_wp2
    go_ret
    exact ⟨ret_bool HE.out.symm, hB⟩
   by_cases h2 : 0 ≤ p.v
   case neg =>
    have HE : Hid (validC l = false) := Lib.hid (HNO.out (by rw [HPO.out, decide_eq_false h2, Bool.and_false]; rfl))
    have e3 : decide (p.v < 0) = true := by simp only [decide_eq_true_eq]; omega
    clear h2 hv
    go_wp2
    go_ret
    exact ⟨ret_bool HE.out.symm, hB⟩
   have e3 : decide (p.v < 0) = false := by simp only [decide_eq_false_iff_not]; omega
   by_cases h3 : p.v ≤ 15
   case neg =>
    have HE : Hid (validC l = false) := Lib.hid (HNO.out (by rw [HPO.out, decide_eq_false h3, Bool.and_false]))
    have e4 : decide (15 < p.v) = true := by simp only [decide_eq_true_eq]; omega
    clear h2 h3 hv
    go_wp2
    go_ret
    exact ⟨ret_bool HE.out.symm, hB⟩
   have e4 : decide (15 < p.v) = false := by simp only [decide_eq_false_iff_not]; omega
   have HE := Lib.hid (HYE.out (by rw [HPO.out, hv, decide_eq_true h1, decide_eq_true h2, decide_eq_true h3]; rfl))
   clear h1 h2 h3 hv
   go_wp2
   go_roundw
   case rel => exact ⟨k + 1, by omega, by go_num, HE, hB⟩
   case measure => simp [intOf]; omega
  ·have HA : Hid (validC l = (decide (1 ≤ l.length) && decide (l.length ≤ 16))) := Lib.hid (by
    have := HK.out
    rw [List.take_of_length_le (by omega)] at this
    rw [HV.out, this, Bool.true_and])
   by_cases h1 : 1 ≤ l.length
   ·have e1 : decide ((1 : Int) ≤ (l.length : Int)) = true := by simp only [decide_eq_true_eq]; omega
    have e2 : decide ((l.length : Int) ≤ 16) = decide (l.length ≤ 16) := by rw [decide_eq_decide]; omega
    have HE : Hid (validC l = decide (l.length ≤ 16)) := Lib.hid (by rw [HA.out, decide_eq_true h1, Bool.true_and])
    clear h1
    go_wp2
    go_ret
    exact ⟨ret_bool (by first | exact HE.out.symm | (rw [HE.out, decide_eq_decide]; omega)), hB⟩
   ·have e1 : decide ((1 : Int) ≤ (l.length : Int)) = false := by simp only [decide_eq_false_iff_not]; omega
    have HE : Hid (validC l = false) := Lib.hid (by rw [HA.out, decide_eq_false h1]; rfl)
    clear h1
    go_wp2
    go_ret
    exact ⟨ret_bool HE.out.symm, hB⟩
end Go.Proofs.YtjbkjgmcfommgaaGreat

namespace Go.Proofs.YtjbkjgmcfommgaaGreat
open Go.RowKit
def rowM (n : Nat) : Nat → List Int
 | 0 => []
 | k + 1 => rowM n k ++ (if ones ((k + 1 : Nat) : Int) = (n : Int) then [((k + 1 : Nat) : Int)] else [])
def outM : Nat → List Int
 | 0 => []
 | n + 1 => outM n ++ rowM (n + 1) 15
theorem out_masks : outM 4 = masksL := by decide +kernel
theorem row_len (n : Nat) : ∀ k, (rowM n k).length ≤ k := by
 intro k
 induction k with
 | zero => exact Nat.le_refl _
 | succ k ih =>
  show (rowM n k ++ _).length ≤ _
  rw [List.length_append]
  split <;> simp <;> omega
theorem out_len : ∀ n, (outM n).length ≤ n * 15 := by
 intro n
 induction n with
 | zero => exact Nat.le_refl _
 | succ n ih =>
  show (outM n ++ _).length ≤ _
  rw [List.length_append]
  have := row_len (n + 1) 15
  omega
theorem mask_fin : ∀ s : Fin 16, (bits .andNot .i64 (s.val : Int) 15 == 0) = true ∧ 0 ≤ bits .and .i64 (s.val : Int) 1 ∧ bits .and .i64 (s.val : Int) 1 ≤ 1 ∧ 0 ≤ bits .and .i64 ((s.val : Int) / 2) 1 ∧ bits .and .i64 ((s.val : Int) / 2) 1 ≤ 1 ∧ 0 ≤ bits .and .i64 ((s.val : Int) / 4) 1 ∧ bits .and .i64 ((s.val : Int) / 4) 1 ≤ 1 ∧ 0 ≤ bits .and .i64 ((s.val : Int) / 8) 1 ∧ bits .and .i64 ((s.val : Int) / 8) 1 ≤ 1 ∧ bits .and .i64 (s.val : Int) 1 + bits .and .i64 ((s.val : Int) / 2) 1 + bits .and .i64 ((s.val : Int) / 4) 1 + bits .and .i64 ((s.val : Int) / 8) 1 = ones (s.val : Int) := by decide +kernel
theorem mask_at {s : Nat} (h : s ≤ 15) : (bits .andNot .i64 (s : Int) 15 == 0) = true ∧ 0 ≤ bits .and .i64 (s : Int) 1 ∧ bits .and .i64 (s : Int) 1 ≤ 1 ∧ 0 ≤ bits .and .i64 ((s : Int) / 2) 1 ∧ bits .and .i64 ((s : Int) / 2) 1 ≤ 1 ∧ 0 ≤ bits .and .i64 ((s : Int) / 4) 1 ∧ bits .and .i64 ((s : Int) / 4) 1 ≤ 1 ∧ 0 ≤ bits .and .i64 ((s : Int) / 8) 1 ∧ bits .and .i64 ((s : Int) / 8) 1 ≤ 1 ∧ bits .and .i64 (s : Int) 1 + bits .and .i64 ((s : Int) / 2) 1 + bits .and .i64 ((s : Int) / 4) 1 + bits .and .i64 ((s : Int) / 8) 1 = ones (s : Int) := mask_fin ⟨s, by omega⟩
end Go.Proofs.YtjbkjgmcfommgaaGreat

namespace Go.Proofs.YtjbkjgmcfommgaaGreat
open Go.RowKit
theorem find_here {p : Int → Bool} {M : List Int} {k : Nat} {z : Int} (h : M[k]? = some z) (hb : ∀ y ∈ M.take k, p y = false) (hz : p z = true) : M.find? p = some z := by
 have hk := (List.getElem?_eq_some_iff.1 h).1
 have e : M = M.take k ++ (z :: M.drop (k + 1)) := by
  have h1 := (List.take_append_drop k M).symm
  rw [List.drop_eq_getElem_cons hk] at h1
  have h2 := (List.getElem?_eq_some_iff.1 h).2
  rw [h2] at h1
  exact h1
 have h1 : (M.take k).find? p = none := List.find?_eq_none.2 (fun y hy => by rw [hb y hy]; simp)
 rw [e, List.find?_append, h1, List.find?_cons, hz]
 rfl
theorem any_next {α : Type} {l : List α} {p : α → Bool} {k : Nat} {x : α} (h : l[k]? = some x) : (l.take (k + 1)).any p = ((l.take k).any p || p x) := by
 rw [take_snoc h, List.any_append, List.any_cons, List.any_nil, Bool.or_false]
end Go.Proofs.YtjbkjgmcfommgaaGreat

namespace Go.Proofs.YtjbkjgmcfommgaaGreat
open Go.RowKit
/-- Whether a set lies in some dimensions. -/
def inDim (d s : Int) : Bool := bits .andNot .i64 s d == 0
theorem filt_snoc (p : Int → Bool) (l m : List Int) (s : Int) : (l ++ (m ++ [s])).filter p = (l ++ m).filter p ++ (if p s = true then [s] else []) := by
 rw [← List.append_assoc, List.filter_append]
 congr 1
 cases h : p s <;> simp [h]
theorem row_filt (p : Int → Bool) (q : List Int) (z k : Nat) : (q ++ rowM z (k + 1)).filter p = (q ++ rowM z k).filter p ++ (if (p ((k + 1 : Nat) : Int) && decide (ones ((k + 1 : Nat) : Int) = (z : Int))) = true then [((k + 1 : Nat) : Int)] else []) := by
 show (q ++ (rowM z k ++ (if ones ((k + 1 : Nat) : Int) = (z : Int) then [((k + 1 : Nat) : Int)] else []))).filter p = _
 by_cases h : ones ((k + 1 : Nat) : Int) = (z : Int)
 ·rw [if_pos h, filt_snoc, decide_eq_true h, Bool.and_true]
 ·rw [if_neg h, List.append_nil, decide_eq_false h, Bool.and_false, if_neg (by simp), List.append_nil]
set_option maxHeartbeats 16000000 in
set_option maxRecDepth 100000 in
theorem masksd_any (dd : Int) (w : World) :
 Calls Tryz.prog 57 #[.int .i64 dd] w fun e w' => (∃ A c, e = .returned (.slice A (masksD dd).length c) ∧ Ints w' A (masksD dd)) ∧ Grows w w' := by
 have hB := Below.refl w.heap.size w
 have HMD : Hid (masksD dd = masksL.filter (inDim dd)) := Lib.hid rfl
 go_enter Tryz.func57, Tryz.ntmps57
 go_wp2_with fail
 go_loopw [3, 4] (fun v i wr => ∃ n z : Nat, z = n + 1 ∧ n ≤ 4 ∧ i = .int .i64 z ∧ OwnI wr w.heap.size v ((outM n).filter (inDim dd)) ∧ Below w.heap.size w wr) (fun _ i _ => 5 - (intOf i).toNat)
 case atStart => exact ⟨0, 1, rfl, by omega, rfl, ownI_nil _ _, hB⟩
 case round =>
  clear hB
  obtain ⟨n, z, hz, hn, rfl, ho, hB⟩ := hrel
  by_cases hlt : n < 4
  ·have d1 : decide ((z : Int) ≤ 4) = true := by simp only [decide_eq_true_eq]; omega
   have hwn : IntKind.i64.wrap ((z : Int) + 1) = ((z + 1 : Nat) : Int) := by rw [IntWalk.i64_in _ (by omega)]; rfl
   have hol := out_len n
   have hz5 : z ≤ 4 := by omega
   have HZ := Lib.hid hz
   clear hz hlt
   go_wp2_with fail
   go_loopw [3, 5] (fun v i wq => ∃ k s : Nat, s = k + 1 ∧ k ≤ 15 ∧ i = .int .i64 s ∧ OwnI wq w.heap.size v ((outM n ++ rowM z k).filter (inDim dd)) ∧ Below w.heap.size w wq) (fun _ i _ => 16 - (intOf i).toNat)
   case atStart => exact ⟨0, 1, rfl, by omega, rfl, by rw [show rowM z 0 = [] from rfl, List.append_nil]; exact ho, hB⟩
   case round =>
    clear ho hB
    obtain ⟨k, s, hs, hk, rfl, ho, hB⟩ := hrel
    by_cases hkt : k < 15
    ·have d2 : decide ((s : Int) ≤ 15) = true := by simp only [decide_eq_true_eq]; omega
     have hws : IntKind.i64.wrap ((s : Int) + 1) = ((s + 1 : Nat) : Int) := by rw [IntWalk.i64_in _ (by omega)]; rfl
     obtain ⟨-, a1, a2, a3, a4, a5, a6, a7, a8, m2⟩ := mask_at (s := s) (by omega)
     have hrl := row_len z k
     have HR := Lib.hid (row_filt (inDim dd) (outM n) z k)
     rw [← hs] at HR
     have HS := Lib.hid hs
     have HN : s ≤ 15 := by omega
     have HL : ((outM n ++ rowM z k).filter (inDim dd)).length ≤ 1000 := Nat.le_trans (List.length_filter_le _ _) (by rw [List.length_append]; omega)
     have w1 : wrap64 (bits .and .i64 (s : Int) 1 + bits .and .i64 ((s : Int) / 2) 1) = bits .and .i64 (s : Int) 1 + bits .and .i64 ((s : Int) / 2) 1 := IntWalk.wrap64_in _ (by omega)
     have w2 : wrap64 (bits .and .i64 (s : Int) 1 + bits .and .i64 ((s : Int) / 2) 1 + bits .and .i64 ((s : Int) / 4) 1) = bits .and .i64 (s : Int) 1 + bits .and .i64 ((s : Int) / 2) 1 + bits .and .i64 ((s : Int) / 4) 1 := IntWalk.wrap64_in _ (by omega)
     have w3 : wrap64 (bits .and .i64 (s : Int) 1 + bits .and .i64 ((s : Int) / 2) 1 + bits .and .i64 ((s : Int) / 4) 1 + bits .and .i64 ((s : Int) / 8) 1) = ones (s : Int) := (IntWalk.wrap64_in _ (by omega)).trans m2
     clear a1 a2 a3 a4 a5 a6 a7 a8 m2 hs hrl hol hkt
     cases hp : inDim dd (s : Int) with
     | false =>
      have HQ : Hid ((outM n ++ rowM z s).filter (inDim dd) = (outM n ++ rowM z k).filter (inDim dd)) := Lib.hid (by rw [HR.out, hp, Bool.false_and, if_neg (by simp), List.append_nil])
      have m1 : (bits .andNot .i64 (s : Int) dd == 0) = false := hp
      have m3 : decide (bits .andNot .i64 (s : Int) dd = 0) = false := by simpa using m1
      clear hp HR
      rw [← HQ.out] at ho
      go_wp2
      go_roundw
      case rel => exact ⟨s, s + 1, rfl, HN, by go_num, ho, hB⟩
      case measure => simp [intOf]; omega
     | true =>
     have m1 : (bits .andNot .i64 (s : Int) dd == 0) = true := hp
     have m3 : decide (bits .andNot .i64 (s : Int) dd = 0) = true := by simpa using m1
     by_cases hoz : ones (s : Int) = (z : Int)
     ·have e3 : (ones (s : Int) == (z : Int)) = true := by simpa using hoz
      have HQ : Hid ((outM n ++ rowM z s).filter (inDim dd) = (outM n ++ rowM z k).filter (inDim dd) ++ [(s : Int)]) := Lib.hid (by rw [HR.out, hp, decide_eq_true hoz]; rfl)
      clear hoz HR hp
      generalize ho1 : (outM n ++ rowM z k).filter (inDim dd) = q at *
      clear ho1
      go_upto_region 9 with fail
      refine wp_region_lit ?_
      iterate 2
       refine wpList_plain rfl (fun K hK => ?_)
       go_simp
       refine hK _ _ ?_
       clear hK K
      have hr := ints_lits wr [(s : Int)] #[.int .i64 (s : Int)] 3 rfl
      have hq := (Below.refl wr.heap.size wr).alloc (Nat.le_refl _) (Obj.cells #[.int .i64 (s : Int)] 3)
      iterate 1
       refine wpList_plain rfl (fun K hK => ?_)
       go_simp
       refine hK _ _ ?_
       clear hK K
      have ho1 := ho.grows hq
      refine wpList_append_int rfl (.tmp 36) (.tmp 38) rfl (l := q) (m := [(s : Int)]) rfl rfl ho1 rfl hr (by simp only [List.length_cons, List.length_nil]; omega) (Nat.le_trans hB.size hq.size) ?_
      intro v5 w12 ho2 hgr _
      have hB2 := ho1.below (below_grows hB (Nat.le_refl _) hq) hgr (Nat.le_trans hB.size hq.size)
      clear hq hgr ho ho1 hB hr
      rw [← HQ.out] at ho2
      go_wp2
      go_roundw
      case rel => exact ⟨s, s + 1, rfl, HN, by go_num, ho2, hB2⟩
      case measure => simp [intOf]; omega
     ·have e3 : (ones (s : Int) == (z : Int)) = false := by simpa using hoz
      have HQ : Hid ((outM n ++ rowM z s).filter (inDim dd) = (outM n ++ rowM z k).filter (inDim dd)) := Lib.hid (by rw [HR.out, hp, decide_eq_false hoz, Bool.and_false, if_neg (by simp), List.append_nil])
      clear hoz HR hp
      rw [← HQ.out] at ho
      go_wp2
      go_roundw
      case rel => exact ⟨s, s + 1, rfl, HN, by go_num, ho, hB⟩
      case measure => simp [intOf]; omega
    ·obtain rfl : k = 15 := by omega
     subst hs
     have HQ : Hid (outM z = outM n ++ rowM z 15) := Lib.hid (by rw [HZ.out]; rfl)
     rw [← HQ.out] at ho
     clear hol
     go_wp2
     go_roundw
     case rel => exact ⟨z, z + 1, rfl, hz5, by go_num, ho, hB⟩
     case measure => simp [intOf]; omega
  ·obtain rfl : n = 4 := by omega
   subst hz
   rw [out_masks, ← HMD.out] at ho
   obtain ⟨A, c, rfl, hc, hi⟩ := ho.read
   go_wp2
   go_ret
   exact ⟨⟨A, c, rfl, hi⟩, hB⟩
set_option maxHeartbeats 64000000 in
set_option maxRecDepth 10000 in
theorem rapartd_any {ba bb : Nat → Prop} {A B : Option Addr} {c d n m : Nat} {a b : List Bx} {w : World} (dm : Int) (hn : n = a.length) (hm : m = b.length) (ha : Bxs w ba A a) (hb : Bxs w bb B b) (hla : a.length ≤ 100000) (hlb : b.length ≤ 100000) (hoa : ∀ x ∈ a, OKB x) (hob : ∀ x ∈ b, OKB x) :
 Calls Tryz.prog 32 #[.slice A n c, .slice B m d, .int .i64 dm] w fun e w' => e = .returned (.int .i64 (apartD dm a b)) ∧ Grows w w' := by
 subst hn hm
 have HOA := Lib.hid hoa
 have HOB := Lib.hid hob
 clear hoa hob
 have HAZ : Hid (apartD dm a b = ((masksD dm).find? fun s => !metD s a b).getD 0) := Lib.hid rfl
 have hml : (masksD dm).length ≤ 15 := List.length_filter_le _ masksL
 have hB := Below.refl w.heap.size w
 have HMC := Lib.hid (masksd_any dm)
 go_enter Tryz.func32, Tryz.ntmps32
 go_wp2_with fail
 refine (HMC.out _).mono ?_
 clear HMC
 generalize (masksD dm) = M at *
 rintro e w1 ⟨⟨A4, c4, rfl, hi⟩, hq⟩
 replace hB := below_grows hB (Nat.le_refl _) hq
 clear hq
 have hB0 := hB
 clear hB
 go_wp2_with fail
 go_loopw [20] (fun i wr => ∃ k : Nat, k ≤ M.length ∧ i = .int .i64 k ∧ Hid (∀ s ∈ M.take k, (!metD s a b) = false) ∧ Grows w1 wr) (fun i _ => M.length - (intOf i).toNat)
 case atStart => exact ⟨0, by omega, rfl, Lib.hid (by simp), Below.refl _ _⟩
 case round =>
  obtain ⟨k, hk, rfl, HK, hg⟩ := hrel
  by_cases hlt : k < M.length
  ·obtain ⟨ad, dd, rfl, had, hx, q0⟩ := (hi.grows hg).at_ hlt
   have HD := Lib.hid hx
   have hB := below_grows hB0 (Nat.le_refl _) hg
   clear hx
   have HME : Hid (metD dd a b = a.any fun x => b.any fun y => someB (dimsF dd x y)) := Lib.hid rfl
   go_wp2_with fail
   clear q0
   have hg0 := hg
   clear hg
   go_loopw [9, 26] (fun v i wq => ∃ j : Nat, j ≤ a.length ∧ i = .int .i64 j ∧ v = .bool ((a.take j).any fun x => b.any fun y => someB (dimsF dd x y)) ∧ Grows w1 wq ∧ Below w.heap.size w wq) (fun _ i _ => a.length - (intOf i).toNat)
   case atStart => exact ⟨0, by omega, rfl, rfl, hg0, hB⟩
   case round =>
    clear hB
    obtain ⟨j, hj, rfl, rfl, hg, hB⟩ := hrel
    by_cases hjt : j < a.length
    ·obtain ⟨ad2, x, A1, c1, A2, c2, A3, c3, e1, had2, hx, hpx, q0, q1, q2, q3⟩ := ha.elemB hB hjt
     subst e1
     have HX := Lib.hid hx
     have hox := HOA.out x (List.mem_of_getElem? hx)
     have HNX : Hid (((a.take (j + 1)).any fun x => b.any fun y => someB (dimsF dd x y)) = (((a.take j).any fun x => b.any fun y => someB (dimsF dd x y)) || (b.any fun y => someB (dimsF dd x y)))) := Lib.hid (any_next hx)
     generalize ((a.take j).any fun x => b.any fun y => someB (dimsF dd x y)) = v0 at *
     clear hx
     have k8 := Blk.new wr 61 #[.int .i64 x.k, .slice A1 x.r.length c1, .slice A2 x.m.length c2, .slice A3 x.s.length c3]
     have hq := (Below.refl wr.heap.size wr).alloc (Nat.le_refl _) (Obj.cells #[.int .i64 x.k, .slice A1 x.r.length c1, .slice A2 x.m.length c2, .slice A3 x.s.length c3] 61)
     go_upto_region 8 with fail
     replace hB := below_grows hB (Nat.le_refl _) hq
     replace hg := below_grows hg (Nat.le_refl _) hq
     clear hq q0 q1 q2 q3
     generalize World.alloc wr _ = w5 at *
     generalize wr.heap.size = G8 at *
     have hB5 := hB
     have hg5 := hg
     clear hB hg
     go_wp2_with fail
     go_loopw [9, 32] (fun v i wq => ∃ h : Nat, h ≤ b.length ∧ i = .int .i64 h ∧ v = .bool (v0 || (b.take h).any fun y => someB (dimsF dd x y)) ∧ Blk wq G8 61 #[.int .i64 x.k, .slice A1 x.r.length c1, .slice A2 x.m.length c2, .slice A3 x.s.length c3] ∧ Grows w1 wq ∧ Below w.heap.size w wq) (fun _ i _ => b.length - (intOf i).toNat)
     case atStart => exact ⟨0, by omega, rfl, by simp, k8, hg5, hB5⟩
     case round =>
      clear k8 hB5 hg5
      obtain ⟨h, hh, rfl, rfl, k8, hg, hB⟩ := hrel
      by_cases hht : h < b.length
      ·obtain ⟨ad3, y, B1, d1, B2, d2, B3, d3, e2, had3, hy, hpy, q0, q1, q2, q3⟩ := hb.elemB hB hht
       subst e2
       have hoy := HOB.out y (List.mem_of_getElem? hy)
       have HNY : Hid (((b.take (h + 1)).any fun y => someB (dimsF dd x y)) = (((b.take h).any fun y => someB (dimsF dd x y)) || someB (dimsF dd x y))) := Lib.hid (any_next hy)
       generalize ((b.take h).any fun y => someB (dimsF dd x y)) = v1 at *
       clear hy
       have l8 := k8.lt
       have k10 := Blk.new wr 61 #[.int .i64 y.k, .slice B1 y.r.length d1, .slice B2 y.m.length d2, .slice B3 y.s.length d3]
       have hq := (Below.refl wr.heap.size wr).alloc (Nat.le_refl _) (Obj.cells #[.int .i64 y.k, .slice B1 y.r.length d1, .slice B2 y.m.length d2, .slice B3 y.s.length d3] 61)
       go_upto_region 11 with fail
       replace hB := below_grows hB (Nat.le_refl _) hq
       replace hg := below_grows hg (Nat.le_refl _) hq
       replace k8 := k8.grows hq
       clear hq q0 q1 q2 q3
       generalize World.alloc wr _ = w6 at *
       generalize wr.heap.size = G10 at *
       have x8 := k8.cell
       have x10 := k10.cell
       go_wp2_with fail
       refine (rdims_any (hpx.grows hB) (hpy.grows hB) hox hoy dd).mono ?_
       rintro e w7 ⟨⟨v, rfl, ⟨E1, f1, E2, f2, E3, f3, rfl, -⟩⟩, hq⟩
       replace hB := below_grows hB (Nat.le_refl _) hq
       replace hg := below_grows hg (Nat.le_refl _) hq
       replace k8 := k8.grows hq
       clear hq x8 x10 k10
       generalize dimsF dd x y = z at *
       have hq := (Below.refl w7.heap.size w7).alloc (Nat.le_refl _) (Obj.cells #[.int .i64 z.k, .slice E1 z.r.length f1, .slice E2 z.m.length f2, .slice E3 z.s.length f3] 61)
       go_upto_region 12 with fail
       replace hB := below_grows hB (Nat.le_refl _) hq
       replace hg := below_grows hg (Nat.le_refl _) hq
       replace k8 := k8.grows hq
       clear hq
       generalize World.alloc w7 _ = w8 at *
       generalize hsv : someB z = sv at *
       have HN : Hid ((v0 || v1 || sv) = (v0 || ((b.take (h + 1)).any fun y => someB (dimsF dd x y)))) := Lib.hid (by rw [HNY.out, Bool.or_assoc])
       generalize hvv : (v0 || v1) = vv at *
       clear hsv hvv HNY
       cases vv
       ·rw [Bool.false_or] at HN
        go_wp2
        go_roundw
        case rel => exact ⟨h + 1, by omega, by go_num, by rw [HN.out], k8, hg, hB⟩
        case measure => simp [intOf]; omega
       ·rw [Bool.true_or] at HN
        go_wp2
        go_roundw
        case rel => exact ⟨h + 1, by omega, by go_num, by rw [← HN.out], k8, hg, hB⟩
        case measure => simp [intOf]; omega
      ·rw [List.take_of_length_le (by omega), ← HNX.out]
       go_wp2
       go_roundw
       case rel => exact ⟨j + 1, by omega, by go_num, rfl, hg, hB⟩
       case measure => simp [intOf]; omega
    ·rw [List.take_of_length_le (by omega), ← HME.out]
     cases hv : metD dd a b
     ·have HE : Hid (apartD dm a b = dd) := Lib.hid (by rw [HAZ.out, find_here HD.out HK.out (by rw [hv]; rfl)]; rfl)
      clear hv
      go_wp2
      go_ret
      rw [HE.out]
      exact ⟨rfl, hB⟩
     ·have HN : Hid (∀ s ∈ M.take (k + 1), (!metD s a b) = false) := Lib.hid (by
       rw [take_snoc HD.out]
       intro s hs
       rcases List.mem_append.1 hs with hs | hs
       ·exact HK.out s hs
       ·simp only [List.mem_singleton] at hs
        subst hs
        rw [hv]
        rfl)
      clear hv
      go_wp2
      go_roundw
      case rel => exact ⟨k + 1, by omega, by go_num, HN, hg⟩
      case measure => simp [intOf]; omega
  ·have HE : Hid (apartD dm a b = 0) := Lib.hid (by
    rw [HAZ.out, List.find?_eq_none.2 (fun s hs => by rw [HK.out s (by rwa [List.take_of_length_le (by omega)])]; simp)]
    rfl)
   go_wp2
   go_ret
   rw [HE.out]
   exact ⟨rfl, below_grows hB0 (Nat.le_refl _) hg⟩
end Go.Proofs.YtjbkjgmcfommgaaGreat

namespace Go.Proofs.YtjbkjgmcfommgaaGreat
open Go.RowKit
/-- Not the block n. -/
def Nq (n : Nat) : Nat → Prop := fun k => k ≠ n
theorem nk_new {n m k : Nat} (h : Nk n (Under m) k ∨ n ≤ k) : k < m ∨ n ≤ k := by
 unfold Nk Under at h
 omega
def PsTo (ok : Nat → Prop) (s : List Bx) (e : Int) : GP := ⟨fun w v => ∃ A c, v = .tuple #[.slice A s.length c, .int .i64 e] ∧ s.length ≤ c ∧ Bxs w ok A s, fun w w' v h hg => by obtain ⟨A, c, e, hc, hx⟩ := h; exact ⟨A, c, e, hc, hx.grows hg⟩⟩
def PsNo (ok : Nat → Prop) (s : List Bx) : GP := ⟨fun w v => ∃ A c, v = .slice A s.length c ∧ s.length ≤ c ∧ Bxs w ok A s, fun w w' v h hg => by obtain ⟨A, c, e, hc, hx⟩ := h; exact ⟨A, c, e, hc, hx.grows hg⟩⟩
set_option maxHeartbeats 64000000 in
set_option maxRecDepth 10000 in
theorem rforward_any {ok : Nat → Prop} {A : Option Addr} {c n : Nat} {l : List Pt} {w : World} (hn : n = l.length) (h : Pts w ok A l) (hl : l.length ≤ 1000000) (ho : ∀ p ∈ l, (∀ b ∈ p.b, OKB b ∧ I64 b.k) ∧ p.b.length ≤ 1000000) :
 Calls Tryz.prog 11 #[.slice A n c] w fun e w' => (∃ v, e = .returned (.tuple #[v, .agg #[.int .i64 (forwardF l).2.1.1, .int .i64 (forwardF l).2.1.2], .int .i64 (forwardF l).2.2]) ∧ OwnLq w' w.heap.size (fun _ => True) v (forwardF l).1) ∧ Grows w w' := by
 subst hn
 have HO := Lib.hid ho
 clear ho
 replace h := h.under
 have k3 := Blk.new w 32 #[.int .i64 0, .int .i64 0]
 have hB := (Below.refl w.heap.size w).alloc (Nat.le_refl _) (Obj.cells #[.int .i64 0, .int .i64 0] 32)
 go_enter Tryz.func11, Tryz.ntmps11
 go_upto_region 1 with fail
 generalize World.alloc w _ = w1 at *
 have hs1 := k3.lt
 go_wp2_with fail
 refine (rnvalid_any rfl (h.grows hB) hl (fun p hp => ⟨fun b hb => ((HO.out p hp).1 b hb).1, (HO.out p hp).2⟩)).mono ?_
 rintro e w2 ⟨rfl, hq⟩
 replace hB := below_grows hB (Nat.le_refl _) hq
 replace k3 := k3.grows hq
 clear hq
 cases hv : validC l
 ·have HE : Hid (forwardF l = ([], (0, 0), 1)) := Lib.hid (fw_bad hv)
  clear hv h
  have x3 := k3.cell
  have f3 := k3.frozen
  have hB3 := (hB.setCell (p := ⟨w.heap.size, 0, none⟩) (Nat.le_refl _) (.int .i64 0)).setCell (p := ⟨w.heap.size, 1, none⟩) (Nat.le_refl _) (.int .i64 0)
  have x3z := ((k3.set_ 0 (.int .i64 0)).set_ 1 (.int .i64 0)).cell
  go_wp2
  generalize World.setCell (World.setCell w2 _ _) _ _ = wz at *
  refine bodyPost_ret (v := .tuple #[.slice none 0 0, .agg #[.int .i64 0, .int .i64 0], .int .i64 1]) (by simp [results, Tryz.results11, go_sem, x3z]) rfl ?_
  rw [HE.out]
  exact ⟨⟨_, rfl, OwnLq.nil⟩, hB3⟩
 have HV := Lib.hid hv
 clear hv
 go_wp2_with fail
 go_loopw [5, 19] (fun v i wr => ∃ (k : Nat) (ls : List (List Bx)), k ≤ l.length ∧ i = .int .i64 k ∧ Hid (ls.length = k) ∧ Hid (fwUp l k = (ls, (0, 0), 0)) ∧ OwnLq wr (w.heap.size + 1) (Nq w.heap.size) v ls ∧ Blk wr w.heap.size 32 #[.int .i64 0, .int .i64 0] ∧ Below w.heap.size w wr) (fun _ i _ => l.length - (intOf i).toNat)
 case atStart => exact ⟨0, [], by omega, rfl, Lib.hid rfl, Lib.hid rfl, OwnLq.nil, k3, hB⟩
 case round =>
  clear k3 hB hs1
  obtain ⟨k, ls, hk, rfl, HLN, HK, hw, k3, hB⟩ := hrel
  have hs1 := k3.lt
  by_cases hlt : k < l.length
  ·obtain ⟨ad, p, B, cp, e1, had, hp, hbx, hcp, q0, q1⟩ := h.elem hB hlt
   subst e1
   have HP := Lib.hid hp
   have HKO := Lib.hid (fun b hb => ((HO.out p (List.mem_of_getElem? hp)).1 b hb).2)
   obtain ⟨hfl, hv0, hv15, hp8⟩ := port_fl HV.out hp HKO.out
   have HFL := Lib.hid hfl
   clear hp hfl
   have hne8 := fun e => Nat.lt_irrefl _ (hw.lt _ e).2
   have k8 := Blk.new wr 47 #[.slice B p.b.length cp, .int .i64 p.v]
   have hq := (Below.refl wr.heap.size wr).alloc (Nat.le_refl _) (Obj.cells #[.slice B p.b.length cp, .int .i64 p.v] 47)
   go_upto_region 7 with fail
   replace hB := below_grows hB (Nat.le_refl _) hq
   replace hw := hw.grows hq
   replace k3 := k3.grows hq
   replace hbx := hbx.grows hB
   clear hq q0 q1
   have hs8 : wr.heap.size ≠ w.heap.size := by omega
   have hs9 := k8.lt
   generalize World.alloc wr _ = w5 at *
   generalize wr.heap.size = G8 at *
   have x8 := k8.cell
   by_cases hb0 : p.b.length = 0
   ·have HE : Hid (forwardF l = ([], ((k : Int), 15), 13)) := Lib.hid (fw_none HV.out HP.out HK.out hb0)
    have e1 : ((p.b.length : Int) == 0) = true := by rw [hb0]; rfl
    have e2 : decide ((p.b.length : Int) = 0) = true := by rw [hb0]; rfl
    clear hb0 h hw
    have x3 := k3.cell
    have f3 := k3.frozen
    have hB3 := (hB.setCell (p := ⟨w.heap.size, 0, none⟩) (Nat.le_refl _) (.int .i64 k)).setCell (p := ⟨w.heap.size, 1, none⟩) (Nat.le_refl _) (.int .i64 15)
    have x3z := ((k3.set_ 0 (.int .i64 k)).set_ 1 (.int .i64 15)).cell
    go_wp2
    generalize World.setCell (World.setCell w5 _ _) _ _ = wz at *
    refine bodyPost_ret (v := .tuple #[.slice none 0 0, .agg #[.int .i64 k, .int .i64 15], .int .i64 13]) (by simp [results, Tryz.results11, go_sem, x3z]) rfl ?_
    rw [HE.out]
    exact ⟨⟨_, rfl, OwnLq.nil⟩, hB3⟩
   have e1 : ((p.b.length : Int) == 0) = false := by simp only [beq_eq_false_iff_ne, ne_eq]; omega
   have e2 : decide ((p.b.length : Int) = 0) = false := by simp only [decide_eq_false_iff_not]; omega
   have HB0 := Lib.hid hb0
   clear hb0
   by_cases hk0 : k = 0
   ·subst hk0
    go_wp2_with fail
    refine (rreduceq_any rfl hbx (by omega) (fun b hb => okb_fine (HFL.out.1 b hb))).mono ?_
    rintro e w6 ⟨⟨v6, rfl, hw6⟩, hq⟩
    have hsz5 := hB.size
    have hown := hw.lt
    obtain ⟨A9, c9, rfl, hc9, hx9⟩ := hw6.read
    replace hx9 : Bxs w6 (Aq (Nq w.heap.size) _) A9 _ := hx9.mono fun k hk => ⟨by have := nk_new hk; show k ≠ w.heap.size; omega, fun e => by have h9 := hown _ e; have := nk_new hk; omega⟩
    replace hB := below_grows hB (Nat.le_refl _) hq
    replace hw := hw.grows hq
    replace k3 := k3.grows hq
    have HN0 : Hid (fwUp l (0 + 1) = (ls ++ [(reduceF p.b).1], (0, 0), 0)) := Lib.hid (fw_first HP.out HK.out HB0.out)
    generalize (reduceF p.b).1 = x9 at *
    clear hq hown hw6 x8 k8
    go_upto_region 11 with fail
    refine wp_region_lit ?_
    iterate 3
     refine wpList_plain rfl (fun K hK => ?_)
     go_simp
     refine hK _ _ ?_
     clear hK K
    have hk0_ := Blk.new w6 45 #[.slice A9 x9.length c9]
    have hq := (Below.refl w6.heap.size w6).alloc (Nat.le_refl _) (Obj.cells #[.slice A9 x9.length c9] 45)
    have hrd : Reads (w6.alloc (Obj.cells #[.slice A9 x9.length c9] 45)) (w6.alloc (Obj.cells #[.slice A9 x9.length c9] 45)).heap.size 1 (some ⟨w6.heap.size, 0, none⟩) 1 [.slice A9 x9.length c9] := ⟨rfl, fun _ => ⟨_, rfl, hk0_.lt, fun j u hu => by rw [add_head, hk0_.cell, ← Array.getElem?_toList]; exact hu⟩⟩
    replace hB := below_grows hB (Nat.le_refl _) hq
    replace k3 := k3.grows hq
    replace hw := hw.grows hq
    replace hx9 := hx9.grows hq
    have hs1 := k3.lt
    have hol := hw.lt
    clear hq hk0_
    refine wpList_append_lq rfl (.tmp 38) (.tmp 40) rfl rfl hw rfl hrd (by have := HLN.out; omega) (by omega) hx9 hc9 ?_
    intro v7 w7 ho2 hgr hv7
    replace hB := hB.grown hgr hB.size (fun q e => by have := (hol q e).1; omega)
    replace k3 := k3.grown hgr (fun e => by have := (hol _ e.symm).1; omega)
    have HL2 : Hid ((ls ++ [x9]).length = ls.length + 1) := Lib.hid (by rw [List.length_append, List.length_singleton])
    clear hrd hgr hw hol hx9
    generalize ls ++ [x9] = ls2 at *
    go_wp2
    go_roundw
    case rel => exact ⟨0 + 1, ls2, by omega, by go_num, Lib.hid (by rw [HL2.out, HLN.out]), HN0, ho2, k3, hB⟩
    case measure => simp [intOf]; omega
   ·have hk1 : IntKind.i64.wrap ((k : Int) - 1) = ((k - 1 : Nat) : Int) := by rw [IntWalk.i64_in _ (by omega)]; omega
    have e3 : ((k : Int) == 0) = false := by simp only [beq_eq_false_iff_ne, ne_eq]; omega
    have e4 : decide ((k : Int) = 0) = false := by simp only [decide_eq_false_iff_not]; omega
    obtain ⟨ad2, p2, B2, cp2, ead, had2, hp2, -, -, q20, q21⟩ := h.elem hB (show k - 1 < l.length by omega)
    injection ead with ead
    subst ead
    obtain ⟨ad7, c7, x7, B7, d7, rfl, hc7, had7, hba7, hx7, hd7, hcell7, hbx7⟩ := hw.elem (show k - 1 < ls.length by have := HLN.out; omega)
    obtain ⟨hf7, hn7, hg7, hkd, dF, hdF⟩ := fw_prev HV.out (fun p hp b hb => ((HO.out p hp).1 b hb).2) hk hk0 HK.out hx7 hp2
    have HF7 := Lib.hid hf7
    have b0 : (0 : Int) ≤ ((k - 1 : Nat) : Int) := by omega
    have b1 : ((k - 1 : Nat) : Int) < (l.length : Int) := by omega
    have b2 : ((k - 1 : Nat) : Int) < (ls.length : Int) := by have := HLN.out; omega
    have b3 : k - 1 < l.length := by omega
    have b4 : k - 1 < ls.length := by have := HLN.out; omega
    have hl7 := hf7.2
    have hl8 := HFL.out.2
    have HPR : Hid (prodAt l k p ls = productF (bits .andNot .i64 15 p2.v) p.b x7) := Lib.hid (by unfold prodAt; rw [hkd, hg7])
    have HBL : Hid ((productF (bits .andNot .i64 15 p2.v) p.b x7).2 = 0 → (productF (bits .andNot .i64 15 p2.v) p.b x7).1.length = 0 → apartD (keptD (l.getD (k - 1) noPt)) p.b (ls.getD (k - 1) []) = apartD (bits .andNot .i64 15 p2.v) p.b x7) := Lib.hid (fun _ _ => by rw [hkd, hg7])
    have hszB := hB.size
    have HLIM := Lib.hid (fun h => fw_lim HV.out HP.out HK.out HB0.out hk0 h)
    have HREF := Lib.hid (fun h h2 => fw_refuse HV.out HP.out HK.out HB0.out hk0 h h2)
    have HMORE := Lib.hid (fun h h2 => fw_more HP.out HK.out HB0.out hk0 h h2)
    rw [HPR.out] at HLIM HREF HMORE
    clear hkd hg7 hdF hn7 hx7 hp2 hf7
    go_upto_region 13 with fail
    clear e3 e4 q20 q21
    generalize bits .andNot .i64 15 p2.v = dd at *
    have HR := Lib.hid (fun (w0 : World) (hg : Grows w5 w0) => rproductq_any (w := w0) (c := cp) (d := d7) dd rfl rfl (hbx.grows hg) (hbx7.grows hg) (by omega) (by omega) HFL.out.okb HF7.out.okb)
    have HNB := Lib.hid (fun (w0 : World) (hg : Grows w5 w0) => rapartd_any (w := w0) (c := cp) (d := d7) dd rfl rfl (hbx.grows hg) (hbx7.grows hg) (by omega) (by omega) HFL.out.okb HF7.out.okb)
    generalize productF dd p.b x7 = pr at *
    obtain ⟨pl, pe⟩ := pr
    have had7c : (ad7.add (k - 1)).block < w5.heap.size := by rw [block_of_add]; exact had7
    obtain ⟨S, HI, HO⟩ := hideS fun (L : Ran) (vs : Nat → Value) (w' : World) => (Grows w5 w' ∧ KnS [some (.pointer (some ⟨G8, 0, none⟩)), some (.slice B p.b.length cp), some (.slice (some ad7) ls.length c7), some (.int .i64 k), some (.int .i64 ((k - 1 : Nat) : Int)), some (.pointer (some (ad7.add (k - 1)))), some (.slice B7 x7.length d7), some (.int .i64 dd), none, none, none, some (.int .i64 pe), none, some (.int .i64 pe)] L vs ∧ DsS [none, none, none, none, none, none, none, none, some (PsTo (Nk w5.heap.size (Under w.heap.size)) pl pe), some (PsTo (Nk w5.heap.size (Under w.heap.size)) pl pe), some (PsNo (Nk w5.heap.size (Under w.heap.size)) pl), none, some (PsNo (Nk w5.heap.size (Under w.heap.size)) pl), none] L vs w')
    refine wp_region_genT S 14 86 (by kernel_rfl) (by kernel_rfl) rfl ?_ ?_
    ·exact HI.out _ _ _ ⟨Grows.drew' _, kn_none _ _, ds_none _ _ _⟩
    simp only [List.take_succ_cons, List.take_zero, List.drop_succ_cons, List.drop_zero]
    refine gent_consR (fun vs L w1 hL hw1 => ?_) ?_
    ·obtain ⟨q0, q1, q2⟩ := HO.out _ _ _ hw1
     refine gen_plain rfl ?_
     go_simp
     exact gr_val (HI.out _ _ _ ⟨q0, kn_known q1 rfl, ds_free q2 rfl⟩)
    refine gent_consR (fun vs L w1 hL hw1 => ?_) ?_
    ·obtain ⟨q0, q1, q2⟩ := HO.out _ _ _ hw1
     refine gen_plain rfl ?_
     have l0 : L 0 = true := hL.need 0 (by kernel_rfl)
     have e0 := q1 0 _ rfl l0
     simp only [e0]
     have xb := (k8.grows q0).cell
     go_simp
     exact gr_val (HI.out _ _ _ ⟨q0, kn_known q1 rfl, ds_free q2 rfl⟩)
    refine gent_consR (fun vs L w1 hL hw1 => ?_) ?_
    ·obtain ⟨q0, q1, q2⟩ := HO.out _ _ _ hw1
     refine gen_plain rfl ?_
     go_simp
     exact gr_val (HI.out _ _ _ ⟨q0, kn_known q1 rfl, ds_free q2 rfl⟩)
    refine gent_consR (fun vs L w1 hL hw1 => ?_) ?_
    ·obtain ⟨q0, q1, q2⟩ := HO.out _ _ _ hw1
     refine gen_plain rfl ?_
     go_simp
     exact gr_val (HI.out _ _ _ ⟨q0, kn_known q1 rfl, ds_free q2 rfl⟩)
    refine gent_consR (fun vs L w1 hL hw1 => ?_) ?_
    ·obtain ⟨q0, q1, q2⟩ := HO.out _ _ _ hw1
     refine gen_plain rfl ?_
     have l3 : L 3 = true := hL.need 3 (by kernel_rfl)
     have e3 := q1 3 _ rfl l3
     simp only [e3]
     go_simp
     exact gr_val (HI.out _ _ _ ⟨q0, kn_known q1 rfl, ds_free q2 rfl⟩)
    refine gent_consR (fun vs L w1 hL hw1 => ?_) ?_
    ·obtain ⟨q0, q1, q2⟩ := HO.out _ _ _ hw1
     refine gen_plain rfl ?_
     have l2 : L 2 = true := hL.need 2 (by kernel_rfl)
     have e2 := q1 2 _ rfl l2
     have l4 : L 4 = true := hL.need 4 (by kernel_rfl)
     have e4 := q1 4 _ rfl l4
     simp only [e2, e4]
     go_simp
     exact gr_val (HI.out _ _ _ ⟨q0, kn_known q1 rfl, ds_free q2 rfl⟩)
    refine gent_consR (fun vs L w1 hL hw1 => ?_) ?_
    ·obtain ⟨q0, q1, q2⟩ := HO.out _ _ _ hw1
     refine gen_plain rfl ?_
     have l5 : L 5 = true := hL.need 5 (by kernel_rfl)
     have e5 := q1 5 _ rfl l5
     simp only [e5]
     have xb := (Below.cell q0 had7c).trans hcell7
     go_simp
     exact gr_val (HI.out _ _ _ ⟨q0, kn_known q1 rfl, ds_free q2 rfl⟩)
    refine gent_consR (fun vs L w1 hL hw1 => ?_) ?_
    ·obtain ⟨q0, q1, q2⟩ := HO.out _ _ _ hw1
     refine gen_plain rfl ?_
     go_simp
     exact gr_val (HI.out _ _ _ ⟨q0, kn_known q1 rfl, ds_free q2 rfl⟩)
    refine gent_consR (fun vs L w1 hL hw1 => ?_) ?_
    ·obtain ⟨q0, q1, q2⟩ := HO.out _ _ _ hw1
     refine gen_plain rfl ?_
     have l1 : L 1 = true := hL.need 1 (by kernel_rfl)
     have e1 := q1 1 _ rfl l1
     have l6 : L 6 = true := hL.need 6 (by kernel_rfl)
     have e6 := q1 6 _ rfl l6
     have l7 : L 7 = true := hL.need 7 (by kernel_rfl)
     have e7 := q1 7 _ rfl l7
     simp only [e1, e6, e7]
     go_simp
     refine gr_call ?_
     refine (HR.out _ q0).mono ?_
     rintro e w6 ⟨⟨v6, rfl, hw6⟩, hg⟩
     obtain ⟨A9, c9, rfl, hc9, hx9⟩ := hw6.read
     have hsz := q0.size
     exact ⟨_, rfl, HI.out _ _ _ ⟨below_grows q0 (Nat.le_refl _) hg, kn_free q1 rfl, ds_put (q2.grows hg) rfl ⟨A9, c9, rfl, hc9, hx9.mono (fun k hk => by have := nk_new hk; unfold Nk Under; omega)⟩⟩⟩
    refine gent_consR (fun vs L w1 hL hw1 => ?_) ?_
    ·obtain ⟨q0, q1, q2⟩ := HO.out _ _ _ hw1
     refine gen_plain rfl ?_
     have l8 : L 8 = true := hL.need 8 (by kernel_rfl)
     have p8 := q2 8 _ rfl l8
     go_simp
     exact gr_val (HI.out _ _ _ ⟨q0, kn_free q1 rfl, ds_put q2 rfl p8⟩)
    refine gent_consR (fun vs L w1 hL hw1 => ?_) ?_
    ·obtain ⟨q0, q1, q2⟩ := HO.out _ _ _ hw1
     refine gen_plain rfl ?_
     have l9 : L 9 = true := hL.need 9 (by kernel_rfl)
     obtain ⟨A9, c9, e9, hc9, hx9⟩ := q2 9 _ rfl l9
     simp only [e9]
     go_simp
     exact gr_val (HI.out _ _ _ ⟨q0, kn_free q1 rfl, ds_put q2 rfl ⟨A9, c9, rfl, hc9, hx9⟩⟩)
    refine gent_consR (fun vs L w1 hL hw1 => ?_) ?_
    ·obtain ⟨q0, q1, q2⟩ := HO.out _ _ _ hw1
     refine gen_plain rfl ?_
     have l9 : L 9 = true := hL.need 9 (by kernel_rfl)
     obtain ⟨A9, c9, e9, hc9, hx9⟩ := q2 9 _ rfl l9
     simp only [e9]
     go_simp
     exact gr_val (HI.out _ _ _ ⟨q0, kn_known q1 rfl, ds_free q2 rfl⟩)
    refine gent_consR (fun vs L w1 hL hw1 => ?_) ?_
    ·obtain ⟨q0, q1, q2⟩ := HO.out _ _ _ hw1
     refine gen_plain rfl ?_
     have l10 : L 10 = true := hL.need 10 (by kernel_rfl)
     have p10 := q2 10 _ rfl l10
     go_simp
     exact gr_val (HI.out _ _ _ ⟨q0, kn_free q1 rfl, ds_put q2 rfl p10⟩)
    refine gent_consR (fun vs L w1 hL hw1 => ?_) ?_
    ·obtain ⟨q0, q1, q2⟩ := HO.out _ _ _ hw1
     refine gen_plain rfl ?_
     have l11 : L 11 = true := hL.need 11 (by kernel_rfl)
     have e11 := q1 11 _ rfl l11
     simp only [e11]
     go_simp
     exact gr_val (HI.out _ _ _ ⟨q0, kn_known q1 rfl, ds_free q2 rfl⟩)
    refine gent_nil ?_
    intro vs L W2 hall hS
    obtain ⟨q0, q1, q2⟩ := HO.out _ _ _ hS
    have e13 := q1 13 _ rfl (hall 13 (by omega))
    have e11 := q1 11 _ rfl (hall 11 (by omega))
    obtain ⟨A9, c9, e12, hc9, hx9⟩ := q2 12 _ rfl (hall 12 (by omega))
    have e0 := q1 0 _ rfl (hall 0 (by omega))
    clear hall hS HI HO q1 q2
    have hw5 := hw.lt
    have hw6 := q0.size
    replace hx9 : Bxs W2 (Aq (Nq w.heap.size) (.slice (some ad7) ls.length c7)) A9 pl := hx9.mono fun k hk => ⟨by have := nk_new (.inl hk); show k ≠ w.heap.size; omega, fun e => by have h9 := hw5 _ e; have := nk_new (.inl hk); omega⟩
    replace hB := below_grows hB (Nat.le_refl _) q0
    replace k3 := k3.grows q0
    replace k8 := k8.grows q0
    replace hw := hw.grows q0
    replace HNB := Lib.hid (fun (w0 : World) (hg : Grows W2 w0) => HNB.out w0 (below_grows q0 (Nat.le_refl _) hg))
    replace hcell7 := (Below.cell q0 had7c).trans hcell7
    clear hw5 HR hbx hbx7 x8
    have x8 := k8.cell
    simp only [e0, e11, e12, e13]
    by_cases hpe : pe = 0
    ·subst hpe
     have e5 : ((0 : Int) != 0) = false := rfl
     have e6 : decide ((0 : Int) = 0) = true := rfl
     by_cases hpl : pl.length = 0
     ·have HE : Hid (forwardF l = ([], ((k : Int), apartD dd p.b x7), 13)) := Lib.hid (by rw [HREF.out rfl hpl, HBL.out rfl hpl])
      have e7 : ((pl.length : Int) == 0) = true := by rw [hpl]; rfl
      have e8 : decide ((pl.length : Int) = 0) = true := by rw [hpl]; rfl
      clear hpl hx9 h HLIM HREF HMORE HBL HPR
      go_upto_region 17 with fail
      generalize apartD dd p.b x7 = nb at *
      have had7d : (ad7.add (k - 1)).block < W2.heap.size := Nat.lt_of_lt_of_le had7c hw6
      obtain ⟨S, HI, HO⟩ := hideS fun (L : Ran) (vs : Nat → Value) (w' : World) => (Grows W2 w' ∧ KnS [some (.int .i64 k), some (.pointer (some ⟨G8, 0, none⟩)), some (.slice B p.b.length cp), some (.slice (some ad7) ls.length c7), some (.int .i64 k), some (.int .i64 ((k - 1 : Nat) : Int)), some (.pointer (some (ad7.add (k - 1)))), some (.slice B7 x7.length d7), some (.int .i64 dd), some (.int .i64 nb), some (.agg #[.int .i64 k, .int .i64 nb]), some (.slice none 0 0)] L vs ∧ DsS [none, none, none, none, none, none, none, none, none, none, none, none] L vs w')
      refine wp_region_genT S 12 86 (by kernel_rfl) (by kernel_rfl) rfl ?_ ?_
      ·exact HI.out _ _ _ ⟨Grows.drew' _, kn_none _ _, ds_none _ _ _⟩
      simp only [List.take_succ_cons, List.take_zero, List.drop_succ_cons, List.drop_zero]
      refine gent_consR (fun vs L w1 hL hw1 => ?_) ?_
      ·obtain ⟨q0, q1, q2⟩ := HO.out _ _ _ hw1
       refine gen_plain rfl ?_
       go_simp
       exact gr_val (HI.out _ _ _ ⟨q0, kn_known q1 rfl, ds_free q2 rfl⟩)
      refine gent_consR (fun vs L w1 hL hw1 => ?_) ?_
      ·obtain ⟨q0, q1, q2⟩ := HO.out _ _ _ hw1
       refine gen_plain rfl ?_
       go_simp
       exact gr_val (HI.out _ _ _ ⟨q0, kn_known q1 rfl, ds_free q2 rfl⟩)
      refine gent_consR (fun vs L w1 hL hw1 => ?_) ?_
      ·obtain ⟨q0, q1, q2⟩ := HO.out _ _ _ hw1
       refine gen_plain rfl ?_
       have l1 : L 1 = true := hL.need 1 (by kernel_rfl)
       have e1 := q1 1 _ rfl l1
       simp only [e1]
       have xb := (k8.grows q0).cell
       go_simp
       exact gr_val (HI.out _ _ _ ⟨q0, kn_known q1 rfl, ds_free q2 rfl⟩)
      refine gent_consR (fun vs L w1 hL hw1 => ?_) ?_
      ·obtain ⟨q0, q1, q2⟩ := HO.out _ _ _ hw1
       refine gen_plain rfl ?_
       go_simp
       exact gr_val (HI.out _ _ _ ⟨q0, kn_known q1 rfl, ds_free q2 rfl⟩)
      refine gent_consR (fun vs L w1 hL hw1 => ?_) ?_
      ·obtain ⟨q0, q1, q2⟩ := HO.out _ _ _ hw1
       refine gen_plain rfl ?_
       go_simp
       exact gr_val (HI.out _ _ _ ⟨q0, kn_known q1 rfl, ds_free q2 rfl⟩)
      refine gent_consR (fun vs L w1 hL hw1 => ?_) ?_
      ·obtain ⟨q0, q1, q2⟩ := HO.out _ _ _ hw1
       refine gen_plain rfl ?_
       have l4 : L 4 = true := hL.need 4 (by kernel_rfl)
       have e4 := q1 4 _ rfl l4
       simp only [e4]
       go_simp
       exact gr_val (HI.out _ _ _ ⟨q0, kn_known q1 rfl, ds_free q2 rfl⟩)
      refine gent_consR (fun vs L w1 hL hw1 => ?_) ?_
      ·obtain ⟨q0, q1, q2⟩ := HO.out _ _ _ hw1
       refine gen_plain rfl ?_
       have l3 : L 3 = true := hL.need 3 (by kernel_rfl)
       have e3 := q1 3 _ rfl l3
       have l5 : L 5 = true := hL.need 5 (by kernel_rfl)
       have e5 := q1 5 _ rfl l5
       simp only [e3, e5]
       go_simp
       exact gr_val (HI.out _ _ _ ⟨q0, kn_known q1 rfl, ds_free q2 rfl⟩)
      refine gent_consR (fun vs L w1 hL hw1 => ?_) ?_
      ·obtain ⟨q0, q1, q2⟩ := HO.out _ _ _ hw1
       refine gen_plain rfl ?_
       have l6 : L 6 = true := hL.need 6 (by kernel_rfl)
       have e6 := q1 6 _ rfl l6
       simp only [e6]
       have xb := (Below.cell q0 had7d).trans hcell7
       go_simp
       exact gr_val (HI.out _ _ _ ⟨q0, kn_known q1 rfl, ds_free q2 rfl⟩)
      refine gent_consR (fun vs L w1 hL hw1 => ?_) ?_
      ·obtain ⟨q0, q1, q2⟩ := HO.out _ _ _ hw1
       refine gen_plain rfl ?_
       go_simp
       exact gr_val (HI.out _ _ _ ⟨q0, kn_known q1 rfl, ds_free q2 rfl⟩)
      refine gent_consR (fun vs L w1 hL hw1 => ?_) ?_
      ·obtain ⟨q0, q1, q2⟩ := HO.out _ _ _ hw1
       refine gen_plain rfl ?_
       have l2 : L 2 = true := hL.need 2 (by kernel_rfl)
       have e2 := q1 2 _ rfl l2
       have l7 : L 7 = true := hL.need 7 (by kernel_rfl)
       have e7 := q1 7 _ rfl l7
       have l8 : L 8 = true := hL.need 8 (by kernel_rfl)
       have e8 := q1 8 _ rfl l8
       simp only [e2, e7, e8]
       go_simp
       refine gr_call ?_
       refine (HNB.out _ q0).mono ?_
       rintro e w6 ⟨rfl, hg⟩
       exact ⟨_, rfl, HI.out _ _ _ ⟨below_grows q0 (Nat.le_refl _) hg, kn_known q1 rfl, ds_free (q2.grows hg) rfl⟩⟩
      refine gent_consR (fun vs L w1 hL hw1 => ?_) ?_
      ·obtain ⟨q0, q1, q2⟩ := HO.out _ _ _ hw1
       refine gen_plain rfl ?_
       have l0 : L 0 = true := hL.need 0 (by kernel_rfl)
       have e0 := q1 0 _ rfl l0
       have l9 : L 9 = true := hL.need 9 (by kernel_rfl)
       have e9 := q1 9 _ rfl l9
       simp only [e0, e9]
       go_simp
       exact gr_val (HI.out _ _ _ ⟨q0, kn_known q1 rfl, ds_free q2 rfl⟩)
      refine gent_consR (fun vs L w1 hL hw1 => ?_) ?_
      ·obtain ⟨q0, q1, q2⟩ := HO.out _ _ _ hw1
       refine gen_plain rfl ?_
       go_simp
       exact gr_val (HI.out _ _ _ ⟨q0, kn_known q1 rfl, ds_free q2 rfl⟩)
      refine gent_nil ?_
      intro vs L W3 hall hS
      obtain ⟨q0, q1, q2⟩ := HO.out _ _ _ hS
      have e10 := q1 10 _ rfl (hall 10 (by omega))
      have e11_ := q1 11 _ rfl (hall 11 (by omega))
      clear hall hS HI HO q1 q2
      replace hB := below_grows hB (Nat.le_refl _) q0
      replace k3 := k3.grows q0
      have x3 := k3.cell
      have f3 := k3.frozen
      have hB3 := (hB.setCell (p := ⟨w.heap.size, 0, none⟩) (Nat.le_refl _) (.int .i64 k)).setCell (p := ⟨w.heap.size, 1, none⟩) (Nat.le_refl _) (.int .i64 nb)
      have x3z := ((k3.set_ 0 (.int .i64 k)).set_ 1 (.int .i64 nb)).cell
      clear q0 hw
      simp only [e10, e11_]
      go_wp2
      generalize World.setCell (World.setCell W3 _ _) _ _ = wz at *
      refine bodyPost_ret (v := .tuple #[.slice none 0 0, .agg #[.int .i64 k, .int .i64 nb], .int .i64 13]) (by simp [results, Tryz.results11, go_sem, x3z]) rfl ?_
      rw [HE.out]
      exact ⟨⟨_, rfl, OwnLq.nil⟩, hB3⟩
     ·have HN0 := Lib.hid (HMORE.out rfl hpl)
      have e7 : ((pl.length : Int) == 0) = false := by simp only [beq_eq_false_iff_ne, ne_eq]; omega
      have e8 : decide ((pl.length : Int) = 0) = false := by simp only [decide_eq_false_iff_not]; omega
      clear hpl HLIM HREF HMORE HBL HPR HNB k8 x8
      go_upto_region 18 with fail
      refine wp_region_lit ?_
      iterate 3
       refine wpList_plain rfl (fun K hK => ?_)
       go_simp
       refine hK _ _ ?_
       clear hK K
      have hk0_ := Blk.new W2 45 #[.slice A9 pl.length c9]
      have hq := (Below.refl W2.heap.size W2).alloc (Nat.le_refl _) (Obj.cells #[.slice A9 pl.length c9] 45)
      have hrd : Reads (W2.alloc (Obj.cells #[.slice A9 pl.length c9] 45)) (W2.alloc (Obj.cells #[.slice A9 pl.length c9] 45)).heap.size 1 (some ⟨W2.heap.size, 0, none⟩) 1 [.slice A9 pl.length c9] := ⟨rfl, fun _ => ⟨_, rfl, hk0_.lt, fun j u hu => by rw [add_head, hk0_.cell, ← Array.getElem?_toList]; exact hu⟩⟩
      replace hB := below_grows hB (Nat.le_refl _) hq
      replace k3 := k3.grows hq
      replace hw := hw.grows hq
      replace hx9 := hx9.grows hq
      have hs1 := k3.lt
      have hol := hw.lt
      clear hq hk0_
      refine wpList_append_lq rfl (.tmp 79) (.tmp 81) rfl rfl hw rfl hrd (by have := HLN.out; omega) (by omega) hx9 hc9 ?_
      intro v7 w7 ho2 hgr hv7
      replace hB := hB.grown hgr hB.size (fun q e => by have := (hol q e).1; omega)
      replace k3 := k3.grown hgr (fun e => by have := (hol _ e.symm).1; omega)
      have HL2 : Hid ((ls ++ [pl]).length = ls.length + 1) := Lib.hid (by rw [List.length_append, List.length_singleton])
      clear hrd hgr hw hol hx9
      generalize ls ++ [pl] = ls2 at *
      go_wp2
      go_roundw
      case rel => exact ⟨k + 1, ls2, by omega, by go_num, Lib.hid (by rw [HL2.out, HLN.out]), HN0, ho2, k3, hB⟩
      case measure => simp [intOf]; omega
    ·have HE := Lib.hid (HLIM.out hpe)
     have e5 : (pe != 0) = true := bne_iff_ne.2 hpe
     have e6 : decide (pe = 0) = false := decide_eq_false hpe
     clear hpe hx9 h HLIM HREF HMORE HBL HPR
     have x3 := k3.cell
     have f3 := k3.frozen
     have hB3 := (hB.setCell (p := ⟨w.heap.size, 0, none⟩) (Nat.le_refl _) (.int .i64 0)).setCell (p := ⟨w.heap.size, 1, none⟩) (Nat.le_refl _) (.int .i64 0)
     have x3z := ((k3.set_ 0 (.int .i64 0)).set_ 1 (.int .i64 0)).cell
     go_wp2
     generalize World.setCell (World.setCell W2 _ _) _ _ = wz at *
     refine bodyPost_ret (v := .tuple #[.slice none 0 0, .agg #[.int .i64 0, .int .i64 0], .int .i64 pe]) (by simp [results, Tryz.results11, go_sem, x3z]) rfl ?_
     rw [HE.out]
     exact ⟨⟨_, rfl, OwnLq.nil⟩, hB3⟩
  ·obtain rfl : k = l.length := by omega
   have HE := Lib.hid (fw_whole HV.out HK.out)
   have x3 := k3.cell
   have f3 := k3.frozen
   have hB3 := (hB.setCell (p := ⟨w.heap.size, 0, none⟩) (Nat.le_refl _) (.int .i64 0)).setCell (p := ⟨w.heap.size, 1, none⟩) (Nat.le_refl _) (.int .i64 0)
   have x3z := ((k3.set_ 0 (.int .i64 0)).set_ 1 (.int .i64 0)).cell
   have hw3 := hw.only (d_only_set (d_only_set (World.grownBy.refl wr (some w.heap.size)) 0 (.int .i64 0)) 1 (.int .i64 0)) (by omega) (by unfold Nq; simp)
   obtain ⟨A9, c9, rfl, hc9, -⟩ := hw.read
   clear h
   go_wp2
   generalize World.setCell (World.setCell wr _ _) _ _ = wz at *
   refine bodyPost_ret (v := .tuple #[.slice A9 ls.length c9, .agg #[.int .i64 0, .int .i64 0], .int .i64 0]) (by simp [results, Tryz.results11, go_sem, x3z]) rfl ?_
   rw [HE.out]
   exact ⟨⟨_, rfl, hw3.lower (by omega) (fun _ _ => trivial)⟩, hB3⟩
theorem rforward_at {ok : Nat → Prop} {A : Option Addr} {c n : Nat} {l : List Pt} {w : World} {ls : List (List Bx)} {a b e0 : Int} (hf : forwardF l = (ls, (a, b), e0)) (hn : n = l.length) (h : Pts w ok A l) (hl : l.length ≤ 1000000) (ho : ∀ p ∈ l, (∀ b ∈ p.b, OKB b ∧ I64 b.k) ∧ p.b.length ≤ 1000000) :
 Calls Tryz.prog 11 #[.slice A n c] w fun e w' => (∃ A' c', e = .returned (.tuple #[.slice A' ls.length c', .agg #[.int .i64 a, .int .i64 b], .int .i64 e0]) ∧ ls.length ≤ c' ∧ Lbx w' AnyB A' ls) ∧ Grows w w' := by
 have := rforward_any (c := c) hn h hl ho
 rw [hf] at this
 refine this.mono ?_
 rintro e w1 ⟨⟨v, rfl, hw⟩, hq⟩
 obtain ⟨A', c', rfl, hc, hb⟩ := hw.lbx
 exact ⟨⟨A', c', rfl, hc, hb.mono (fun _ _ => trivial)⟩, hq⟩
end Go.Proofs.YtjbkjgmcfommgaaGreat

namespace Go.Proofs.YtjbkjgmcfommgaaGreat
open Go.RowKit
theorem kset_any (A : Option Addr) (c : Nat) (l : List Sp) (w : World) (hl : l.length ≤ 9223372036854775807) : Calls Tryz.prog 48 #[.agg #[.slice A l.length c]] w fun e w' => e = .returned (.bool (decide (l.length ≤ 70))) ∧ Grows w w' := by
 have k2 := Blk.new w 58 #[.slice A l.length c]
 have hB := (Below.refl w.heap.size w).alloc (Nat.le_refl _) (Obj.cells #[.slice A l.length c] 58)
 go_enter Tryz.func48, Tryz.ntmps48
 go_wp2
 go_ret
 exact ⟨ret_bool (by rw [decide_eq_decide]; omega), hB⟩
def KeptB (b : Bx) : Prop := b.r.length ≤ 70 ∧ b.s.length ≤ 70 ∧ b.m.length ≤ 20 ∧ ∀ x ∈ b.m, x.length ≤ 12
def LimB (b : Bx) : Prop := b.r.length ≤ 9223372036854775807 ∧ b.s.length ≤ 9223372036854775807 ∧ b.m.length ≤ 9223372036854775807 ∧ ∀ x ∈ b.m, x.length ≤ 9223372036854775807
theorem KeptB.okb {b : Bx} (h : KeptB b) : OKB b := by
 obtain ⟨h1, h2, h3, h4⟩ := h
 exact ⟨by omega, by omega, by omega, fun x hx => by have := h4 x hx; omega⟩
set_option maxHeartbeats 16000000 in
theorem kboxes_any {base : Nat → Prop} {A : Option Addr} {c : Nat} {l : List Bx} {w : World} (n : Nat) (hn : n ≤ 100) {z : Int} (hz : z = n) (h : Bxs w base A l) (hl : l.length ≤ 9223372036854775807) (ho : ∀ b ∈ l, LimB b) :
 Calls Tryz.prog 24 #[.slice A l.length c, .int .i64 z] w fun e w' => ((e = .returned (.bool true) ∧ l.length ≤ n ∧ ∀ b ∈ l, KeptB b) ∨ e = .returned (.bool false)) ∧ Grows w w' := by
 have HO := Lib.hid ho
 clear ho
 subst hz
 have hB := Below.refl w.heap.size w
 go_enter Tryz.func24, Tryz.ntmps24
 by_cases h1 : n < l.length
 ·have d1 : decide ((n : Int) < (l.length : Int)) = true := by simp only [decide_eq_true_eq]; omega
  have d2 : decide (n < l.length) = true := by simp only [decide_eq_true_eq]; omega
  clear h1
  go_wp2
  go_ret
  exact ⟨.inr rfl, hB⟩
 have d1 : decide ((n : Int) < (l.length : Int)) = false := by simp only [decide_eq_false_iff_not]; omega
 have d2 : decide (n < l.length) = false := by simp only [decide_eq_false_iff_not]; omega
 go_wp2_with fail
 clear d1 d2
 go_loopw [15] (fun i wr => ∃ k : Nat, k ≤ l.length ∧ i = .int .i64 k ∧ Hid (∀ y ∈ l.take k, KeptB y) ∧ Below w.heap.size w wr) (fun i _ => l.length - (intOf i).toNat)
 case atStart => exact ⟨0, by omega, rfl, Lib.hid (by simp), hB⟩
 case round =>
  clear hB
  obtain ⟨k, hk, rfl, HA, hB⟩ := hrel
  by_cases hlt : k < l.length
  ·obtain ⟨ad, y, A1, c1, A2, c2, A3, c3, ea, had, hy, hp, q0, q1, q2, q3⟩ := h.elemB hB hlt
   subst ea
   have HY := Lib.hid hy
   obtain ⟨o1, o2, o3, o4⟩ := HO.out y (List.mem_of_getElem? hy)
   have HO4 := Lib.hid o4
   clear hy o4
   have k8 := Blk.new wr 61 #[.int .i64 y.k, .slice A1 y.r.length c1, .slice A2 y.m.length c2, .slice A3 y.s.length c3]
   have hq := (Below.refl wr.heap.size wr).alloc (Nat.le_refl _) (Obj.cells #[.int .i64 y.k, .slice A1 y.r.length c1, .slice A2 y.m.length c2, .slice A3 y.s.length c3] 61)
   go_upto_region 6 with fail
   replace hB := below_grows hB (Nat.le_refl _) hq
   clear hq q0 q1 q2 q3
   generalize World.alloc wr _ = w5 at *
   generalize wr.heap.size = G8 at *
   have x8 := k8.cell
   go_wp2_with fail
   refine (kset_any A1 c1 y.r _ o1).mono ?_
   rintro e w6 ⟨rfl, hq⟩
   clear x8
   replace hB := below_grows hB (Nat.le_refl _) hq
   replace k8 := k8.grows hq
   clear hq
   have x8 := k8.cell
   by_cases p1 : y.r.length ≤ 70
   case neg =>
    rw [decide_eq_false p1]
    clear p1
    go_wp2
    go_ret
    exact ⟨.inr rfl, hB⟩
   rw [decide_eq_true p1]
   go_wp2_with fail
   refine (kset_any A3 c3 y.s _ o2).mono ?_
   rintro e w7 ⟨rfl, hq⟩
   clear x8
   replace hB := below_grows hB (Nat.le_refl _) hq
   replace k8 := k8.grows hq
   clear hq
   have x8 := k8.cell
   by_cases p2 : y.s.length ≤ 70
   case neg =>
    rw [decide_eq_false p2]
    clear p2
    go_wp2
    go_ret
    exact ⟨.inr rfl, hB⟩
   rw [decide_eq_true p2]
   by_cases p3 : y.m.length ≤ 20
   case neg =>
    have d1 : decide ((20 : Int) < (y.m.length : Int)) = true := by simp only [decide_eq_true_eq]; omega
    have d2 : decide (20 < y.m.length) = true := by simp only [decide_eq_true_eq]; omega
    clear p3
    go_wp2
    go_ret
    exact ⟨.inr rfl, hB⟩
   have d1 : decide ((20 : Int) < (y.m.length : Int)) = false := by simp only [decide_eq_false_iff_not]; omega
   have d2 : decide (20 < y.m.length) = false := by simp only [decide_eq_false_iff_not]; omega
   go_wp2_with fail
   clear d1 d2 x8 k8
   go_loopw [38] (fun i wq => ∃ j : Nat, j ≤ y.m.length ∧ i = .int .i64 j ∧ Hid (∀ z ∈ y.m.take j, z.length ≤ 12) ∧ Below w.heap.size w wq) (fun i _ => y.m.length - (intOf i).toNat)
   case atStart => exact ⟨0, by omega, rfl, Lib.hid (by simp), hB⟩
   case round =>
    clear hB
    obtain ⟨j, hj, rfl, HJ, hB⟩ := hrel
    by_cases hjt : j < y.m.length
    ·obtain ⟨ad2, z, B, cz, ez, had2, hz, z0, hcz, hiz⟩ := (hp.m.grows hB).elem hjt
     have HZ := Lib.hid hz
     have oz := HO4.out z (List.mem_of_getElem? hz)
     subst ez
     clear hz hiz
     by_cases p4 : z.length ≤ 12
     ·have d1 : decide ((12 : Int) < (z.length : Int)) = false := by simp only [decide_eq_false_iff_not]; omega
      have d2 : decide (12 < z.length) = false := by simp only [decide_eq_false_iff_not]; omega
      have HN : Hid (∀ q ∈ y.m.take (j + 1), q.length ≤ 12) := Lib.hid (by
       rw [take_snoc HZ.out]
       intro q hq
       rcases List.mem_append.1 hq with hq | hq
       ·exact HJ.out q hq
       ·simp only [List.mem_singleton] at hq
        exact hq ▸ p4)
      clear p4
      go_wp2
      go_roundw
      case rel => exact ⟨j + 1, by omega, by go_num, HN, hB⟩
      case measure => simp [intOf]; omega
     ·have d1 : decide ((12 : Int) < (z.length : Int)) = true := by simp only [decide_eq_true_eq]; omega
      have d2 : decide (12 < z.length) = true := by simp only [decide_eq_true_eq]; omega
      clear p4
      go_wp2
      go_ret
      exact ⟨.inr rfl, hB⟩
    ·have HN : Hid (∀ q ∈ l.take (k + 1), KeptB q) := Lib.hid (by
      rw [take_snoc HY.out]
      intro q hq
      rcases List.mem_append.1 hq with hq | hq
      ·exact HA.out q hq
      ·simp only [List.mem_singleton] at hq
       subst hq
       refine ⟨p1, p2, p3, fun x hx => HJ.out x (by rwa [List.take_of_length_le (by omega)])⟩)
     go_wp2
     go_roundw
     case rel => exact ⟨k + 1, by omega, by go_num, HN, hB⟩
     case measure => simp [intOf]; omega
  ·have HE : Hid (∀ b ∈ l, KeptB b) := Lib.hid (fun b hb => HA.out b (by rwa [List.take_of_length_le (by omega)]))
   go_wp2
   go_ret
   exact ⟨.inl ⟨rfl, by omega, HE.out⟩, hB⟩
end Go.Proofs.YtjbkjgmcfommgaaGreat

namespace Go.Proofs.YtjbkjgmcfommgaaGreat
open Go.ChangeShapes Go.WideShapes Go.RowKit Go.Deep
section
variable {H : Type} {enc : TypeId × Value → H} {P : Program} {w : World} {base : Nat} {spare : Nat → Bool} {held : Bool} {fs : Array Field} {cs : List Value} {xs : List (DataW H × List MemPlace)} {n : Nat}
set_option maxRecDepth 100000 in
theorem part_int (hg : ∀ (i : Nat) (f : Field), fs[i]? = some f → DataW.trod enc P w base spare held n f.type ((cs.drop f.offset).take (P.cellsOf f.type)) = xs[i]?) (hlen : xs.length = fs.size) (i o c : Nat) (k : IntKind)
 (hi : (fs[i]?).map (fun f => (f.offset, P.cellsOf f.type, P.underlying f.type)) = some (o, c, some (.int k))) : ∃ a : Int, (cs.drop o).take c = [.int k a] ∧ (Lit.int k a).wf = true := by
 obtain ⟨f, hf, he⟩ := Option.map_eq_some_iff.1 hi
 simp only [Prod.mk.injEq] at he
 obtain ⟨h1, h2, h3⟩ := he
 have hil : i < fs.size := (Array.getElem?_eq_some_iff.1 hf).1
 have hx := hg i f hf
 rw [List.getElem?_eq_getElem (by omega), h1, h2] at hx
 obtain ⟨a, ha, _, hw⟩ := DataW.trod_int h3 hx
 exact ⟨a, ha, hw⟩
end
end Go.Proofs.YtjbkjgmcfommgaaGreat

namespace Go.Proofs.YtjbkjgmcfommgaaGreat
open Go.ChangeShapes Go.WideShapes Go.RowKit Go.Deep
set_option maxRecDepth 100000
theorem part_any {H : Type} {enc : TypeId × Value → H} {P : Program} {w : World} {base : Nat} {spare : Nat → Bool} {held : Bool} {fs : Array Field} {cs : List Value} {xs : List (DataW H × List MemPlace)} {n : Nat} (hg : ∀ (i : Nat) (f : Field), fs[i]? = some f → DataW.trod enc P w base spare held n f.type ((cs.drop f.offset).take (P.cellsOf f.type)) = xs[i]?) (hlen : xs.length = fs.size) (i o c : Nat) (t : TypeId)
 (hi : (fs[i]?).map (fun f => (f.offset, P.cellsOf f.type, f.type)) = some (o, c, t)) : ∃ y, DataW.trod enc P w base spare held n t ((cs.drop o).take c) = some y := by
 obtain ⟨f, hff, he⟩ := Option.map_eq_some_iff.1 hi
 simp only [Prod.mk.injEq] at he
 obtain ⟨h1, h2, h3⟩ := he
 have hil := (Array.getElem?_eq_some_iff.1 hff).1
 have hx := hg i f hff
 rw [List.getElem?_eq_getElem (by omega), h1, h2, h3] at hx
 exact ⟨_, hx⟩
section
variable {H : Type} {enc : TypeId × Value → H} {w : World} {base : Nat} {spare : Nat → Bool} {held : Bool}
theorem span_of {n : Nat} {cs : List Value} {y : DataW H × List MemPlace} (h : DataW.trod enc Tryz.prog w base spare held n 86 cs = some y) : ∃ g : Sp, cs = lsS g := by
 obtain ⟨xs, m, _, _, hl, hlen, hg⟩ := DataW.trod_struct Tryz.underlying86 h
 obtain ⟨k, e0, _⟩ := part_int hg hlen 0 0 1 .i64 (by kernel_rfl)
 obtain ⟨a, e1, _⟩ := part_int hg hlen 1 1 1 .i64 (by kernel_rfl)
 have hl2 : cs.length = 2 := hl.trans (by kernel_rfl)
 refine ⟨(k, a), ?_⟩
 match cs, hl2 with
 | [c0, c1], _ =>
  simp only [List.drop_zero, List.take_succ_cons, List.take_zero, List.drop_succ_cons, List.cons.injEq, and_true] at e0 e1
  rw [e0, e1]
  rfl
theorem spans_of {n : Nat} {cs : List Value} {y : DataW H × List MemPlace} (h : DataW.trod enc Tryz.prog w base spare held n 56 cs = some y) : ∃ (A : Option Addr) (cp : Nat) (l : List Sp), cs = [.slice A l.length cp] ∧ Sps w A l ∧ l.length ≤ maxLen ∧ l.length ≤ cp := by
 rcases DataW.trod_slice Tryz.underlying56 h with ⟨rfl, _⟩ | ⟨a, len, cap, elems, rest, m, _, rfl, _, hb, hl, hm, hlen, hel, _, _⟩
 ·exact ⟨none, 0, [], rfl, Reads.none_, by simp, by simp⟩
 ·have hc2 : Tryz.prog.cellsOf 86 = 2 := by kernel_rfl
  rw [hc2] at hel
  have each : ∀ i, i < len → ∃ g : Sp, w.cells? base (a.add (i * 2)) 2 = some (lsS g) := by
   intro i hi
   have h1 := hel i hi
   rw [List.getElem?_eq_getElem (by omega), Option.bind_eq_some_iff] at h1
   obtain ⟨cs', hcs, hy⟩ := h1
   obtain ⟨g, rfl⟩ := span_of hy
   exact ⟨g, hcs⟩
  have lst : ∀ j, j ≤ len → ∃ l : List Sp, l.length = j ∧ ∀ i (g : Sp), l[i]? = some g → w.cells? base (a.add (i * 2)) 2 = some (lsS g) := by
   intro j
   induction j with
   | zero => exact fun _ => ⟨[], rfl, by simp⟩
   | succ j ih =>
    intro hj
    obtain ⟨l, h1, h2⟩ := ih (by omega)
    obtain ⟨g, hg⟩ := each j (by omega)
    refine ⟨l ++ [g], by simp [h1], fun i x hx => ?_⟩
    by_cases hi : i < l.length
    ·exact h2 i x (by rwa [List.getElem?_append_left hi] at hx)
    ·have hij : i = j := by
      have := (List.getElem?_eq_some_iff.1 hx).1
      simp at this
      omega
     subst hij
     rw [List.getElem?_append_right (by omega)] at hx
     simp [h1] at hx
     subst hx
     exact hg
  obtain ⟨l, h1, h2⟩ := lst len (Nat.le_refl _)
  refine ⟨some a, cap, l, by rw [h1], ⟨scells_len l, fun hn => ?_⟩, by omega, by omega⟩
  refine ⟨a, rfl, ?_, fun j u hu => ?_⟩
  ·have h3 := h2 0 l[0] (List.getElem?_eq_getElem hn)
   have := World.cells?_block h3 (by omega)
   rwa [block_of_add] at this
  ·have hj : j < l.length * 2 := by rw [← scells_len]; exact (List.getElem?_eq_some_iff.1 hu).1
   have hi : j / 2 < l.length := by omega
   have hx := List.getElem?_eq_getElem hi
   have h3 := h2 (j / 2) l[j / 2] hx
   obtain ⟨_, _, h4⟩ := World.cells?_some h3
   have hjm : j = j / 2 * 2 + j % 2 := by omega
   rw [hjm, scells_at l (j / 2) _ hx (j % 2) (by omega)] at hu
   have := h4 (j % 2) (by omega)
   rw [add_of_add, ← hjm] at this
   rw [this]
   exact hu
theorem set_of {n : Nat} {cs : List Value} {y : DataW H × List MemPlace} (h : DataW.trod enc Tryz.prog w base spare held n 58 cs = some y) : ∃ (A : Option Addr) (cp : Nat) (l : List Sp), cs = [.slice A l.length cp] ∧ Sps w A l ∧ l.length ≤ maxLen ∧ l.length ≤ cp := by
 obtain ⟨xs, m, _, _, hl, hlen, hg⟩ := DataW.trod_struct Tryz.underlying58 h
 have hl1 : cs.length = 1 := hl.trans (by kernel_rfl)
 obtain ⟨y1, t1⟩ := part_any hg hlen 0 0 1 56 (by kernel_rfl)
 obtain ⟨A, cp, l, e1, hs, hm, hc⟩ := spans_of t1
 rw [List.drop_zero, List.take_of_length_le (by omega)] at e1
 exact ⟨A, cp, l, e1, hs, hm, hc⟩
theorem list_of {α : Type} {R : Nat → α → Prop} (len : Nat) (each : ∀ i, i < len → ∃ g, R i g) : ∃ l : List α, l.length = len ∧ ∀ (i : Nat) (x : α), l[i]? = some x → R i x := by
 induction len with
 | zero => exact ⟨[], rfl, by simp⟩
 | succ j ih =>
  obtain ⟨l, h1, h2⟩ := ih (fun i hi => each i (by omega))
  obtain ⟨g, hg⟩ := each j (by omega)
  refine ⟨l ++ [g], by simp [h1], fun i x hx => ?_⟩
  by_cases hi : i < l.length
  ·exact h2 i x (by rwa [List.getElem?_append_left hi] at hx)
  ·have hij : i = j := by
    have := (List.getElem?_eq_some_iff.1 hx).1
    simp at this
    omega
   subst hij
   rw [List.getElem?_append_right (by omega)] at hx
   simp [h1] at hx
   subst hx
   exact hg
theorem reads_of {a : Addr} {size len : Nat} {f : Nat → List Value} (hs : 0 < size) (hf : ∀ i, i < len → w.cells? base (a.add (i * size)) size = some (f i)) : ∃ vs : List Value, RdB w (fun _ => True) size (some a) len vs ∧ ∀ i, i < len → ∀ j, j < size → vs[i * size + j]? = (f i)[j]? := by
 have hlt : ∀ n, n < len * size → n / size < len := fun n hn => Nat.div_lt_of_lt_mul (by rw [Nat.mul_comm]; exact hn)
 have hlen : ∀ i, i < len → (f i).length = size := fun i hi => (World.cells?_some (hf i hi)).2.1
 refine ⟨(List.range (len * size)).map fun n => (f (n / size)).getD (n % size) undef, ⟨⟨by simp, fun hn => ⟨a, rfl, ?_, fun j u hu => ?_⟩⟩, fun _ _ _ => trivial⟩, fun i hi j hj => ?_⟩
 ·have h3 := hf 0 hn
  have := World.cells?_block h3 hs
  rwa [block_of_add] at this
 ·have hj : j < len * size := by simpa using (List.getElem?_eq_some_iff.1 hu).1
  rw [List.getElem?_map, List.getElem?_range hj] at hu
  have hu : (f (j / size)).getD (j % size) undef = u := by simpa using hu
  have h3 := hf (j / size) (hlt j hj)
  obtain ⟨_, h5, h4⟩ := World.cells?_some h3
  have hm := Nat.mod_lt j hs
  have hjm : j / size * size + j % size = j := by rw [Nat.mul_comm]; exact Nat.div_add_mod j size
  have := h4 (j % size) hm
  rw [add_of_add, hjm] at this
  rw [this, ← hu, List.getD_eq_getElem?_getD, List.getElem?_eq_getElem (by omega)]
  rfl
 ·have hn : i * size + j < len * size := by
   have := Nat.mul_le_mul_right size (show i + 1 ≤ len by omega)
   rw [Nat.add_mul, Nat.one_mul] at this
   omega
  have e1 : (i * size + j) / size = i := by rw [Nat.mul_comm, Nat.mul_add_div hs, Nat.div_eq_of_lt hj, Nat.add_zero]
  have e2 : (i * size + j) % size = j := by rw [Nat.mul_comm, Nat.mul_add_mod, Nat.mod_eq_of_lt hj]
  have hfl := hlen i hi
  rw [List.getElem?_map, List.getElem?_range hn]
  show some ((f ((i * size + j) / size)).getD ((i * size + j) % size) undef) = _
  rw [e1, e2, List.getD_eq_getElem?_getD, List.getElem?_eq_getElem (by omega)]
  rfl
theorem ints_of {n : Nat} {cs : List Value} {y : DataW H × List MemPlace} (h : DataW.trod enc Tryz.prog w base spare held n 38 cs = some y) : ∃ (A : Option Addr) (cp : Nat) (l : List Int), cs = [.slice A l.length cp] ∧ InB w (fun _ => True) A l ∧ l.length ≤ maxLen ∧ l.length ≤ cp := by
 rcases DataW.trod_slice Tryz.underlying38 h with ⟨rfl, _⟩ | ⟨a, len, cap, elems, rest, m, _, rfl, _, hb, hl, hm, hlen, hel, _, _⟩
 ·exact ⟨none, 0, [], rfl, RdB.nil, by simp, by simp⟩
 ·have hc : Tryz.prog.cellsOf 3 = 1 := by kernel_rfl
  rw [hc] at hel
  have each : ∀ i, i < len → ∃ g : Int, w.cells? base (a.add (i * 1)) 1 = some [.int .i64 g] := by
   intro i hi
   have h1 := hel i hi
   rw [List.getElem?_eq_getElem (by omega), Option.bind_eq_some_iff] at h1
   obtain ⟨cs', hcs, hy⟩ := h1
   obtain ⟨g, rfl, _⟩ := DataW.trod_int Tryz.underlying3 hy
   exact ⟨g, hcs⟩
  obtain ⟨l, h1, h2⟩ := list_of len each
  obtain ⟨vs, hr, hv⟩ := reads_of (f := fun i => [Value.int .i64 (l.getD i 0)]) (size := 1) (len := len) (a := a) (w := w) (base := base) (by omega) (fun i hi => by
   rw [List.getD_eq_getElem?_getD, List.getElem?_eq_getElem (by omega)]
   exact h2 i _ (List.getElem?_eq_getElem (by omega)))
  have hvl : vs.length = len := by have := hr.1.1; omega
  have e : vs = l.map (Value.int .i64) := by
   refine List.ext_getElem? fun i => ?_
   by_cases hi : i < len
   ·have := hv i hi 0 (by omega)
    rw [Nat.mul_one, Nat.add_zero] at this
    rw [this, List.getElem?_map, List.getElem?_eq_getElem (show i < l.length by omega), List.getD_eq_getElem?_getD, List.getElem?_eq_getElem (show i < l.length by omega)]
    rfl
   ·rw [List.getElem?_eq_none (by omega), List.getElem?_eq_none (by simp; omega)]
  refine ⟨some a, cap, l, by rw [h1], ?_, by omega, by omega⟩
  show RdB w (fun _ => True) 1 (some a) l.length (l.map (Value.int .i64))
  rw [← e, h1]
  exact hr
theorem maps_of {n : Nat} {cs : List Value} {y : DataW H × List MemPlace} (h : DataW.trod enc Tryz.prog w base spare held n 59 cs = some y) : ∃ (A : Option Addr) (cp : Nat) (l : List (List Int)), cs = [.slice A l.length cp] ∧ MapsR w (fun _ => True) A l ∧ l.length ≤ maxLen ∧ l.length ≤ cp ∧ ∀ x ∈ l, x.length ≤ maxLen := by
 rcases DataW.trod_slice Tryz.underlying59 h with ⟨rfl, _⟩ | ⟨a, len, cap, elems, rest, m, _, rfl, _, hb, hl, hm, hlen, hel, _, _⟩
 ·exact ⟨none, 0, [], rfl, MapsR.nil, by simp, by simp, by simp⟩
 ·have hc : Tryz.prog.cellsOf 38 = 1 := by kernel_rfl
  rw [hc] at hel
  have each : ∀ i, i < len → ∃ g : List Int × Value, w.cells? base (a.add (i * 1)) 1 = some [g.2] ∧ (∃ B c, g.2 = .slice B g.1.length c ∧ g.1.length ≤ c ∧ InB w (fun _ => True) B g.1) ∧ g.1.length ≤ maxLen := by
   intro i hi
   have h1 := hel i hi
   rw [List.getElem?_eq_getElem (by omega), Option.bind_eq_some_iff] at h1
   obtain ⟨cs', hcs, hy⟩ := h1
   obtain ⟨B, c, g, rfl, h3, h4, h5⟩ := ints_of hy
   exact ⟨(g, _), hcs, ⟨B, c, rfl, h5, h3⟩, h4⟩
  obtain ⟨l, h1, h2⟩ := list_of len each
  have hat : ∀ i, i < len → ∃ g, l[i]? = some g := fun i hi => ⟨_, List.getElem?_eq_getElem (show i < l.length by omega)⟩
  obtain ⟨vs, hr, hv⟩ := reads_of (f := fun i => [((l[i]?).getD ([], undef)).2]) (size := 1) (len := len) (a := a) (w := w) (base := base) (by omega) (fun i hi => by
   obtain ⟨g, hg⟩ := hat i hi
   rw [hg]
   exact (h2 i g hg).1)
  refine ⟨some a, cap, l.map (·.1), by simp [h1], ⟨vs, by rw [List.length_map, h1]; exact hr, fun i x hx => ?_⟩, by simp; omega, by simp; omega, fun x hx => ?_⟩
  ·rw [List.getElem?_map] at hx
   obtain ⟨g, hg, rfl⟩ := Option.map_eq_some_iff.1 hx
   have hi : i < len := by have := (List.getElem?_eq_some_iff.1 hg).1; omega
   obtain ⟨_, ⟨B, c, e, hc2, hi2⟩, _⟩ := h2 i g hg
   refine ⟨B, c, ?_, hc2, hi2⟩
   have := hv i hi 0 (by omega)
   rw [Nat.mul_one, Nat.add_zero, hg] at this
   rw [this, ← e]
   rfl
  ·obtain ⟨g, hg, rfl⟩ := List.mem_map.1 hx
   obtain ⟨i, hi⟩ := List.mem_iff_getElem?.1 hg
   exact (h2 i g hi).2.2
theorem box_of {n : Nat} {cs : List Value} {y : DataW H × List MemPlace} (h : DataW.trod enc Tryz.prog w base spare held n 61 cs = some y) : ∃ (b : Bx) (A1 : Option Addr) (c1 : Nat) (A2 : Option Addr) (c2 : Nat) (A3 : Option Addr) (c3 : Nat), cs = b.cs A1 c1 A2 c2 A3 c3 ∧ BoxP w (fun _ => True) b A1 c1 A2 c2 A3 c3 ∧ LimB b ∧ I64 b.k := by
 obtain ⟨xs, m, _, _, hl, hlen, hg⟩ := DataW.trod_struct Tryz.underlying61 h
 obtain ⟨k, e0, hk⟩ := part_int hg hlen 0 0 1 .i64 (by kernel_rfl)
 obtain ⟨y1, t1⟩ := part_any hg hlen 1 1 1 58 (by kernel_rfl)
 obtain ⟨y2, t2⟩ := part_any hg hlen 2 2 1 59 (by kernel_rfl)
 obtain ⟨y3, t3⟩ := part_any hg hlen 3 3 1 58 (by kernel_rfl)
 obtain ⟨A1, c1, r, e1, hr, mr, cr⟩ := set_of t1
 obtain ⟨A2, c2, ms, e2, hm, mm, cm, mx⟩ := maps_of t2
 obtain ⟨A3, c3, s, e3, hs, msx, csx⟩ := set_of t3
 have hl4 : cs.length = 4 := hl.trans (by kernel_rfl)
 refine ⟨⟨k, r, ms, s⟩, A1, c1, A2, c2, A3, c3, ?_, ⟨⟨hr, fun _ _ _ => trivial⟩, hm, ⟨hs, fun _ _ _ => trivial⟩, cr, cm, csx⟩, ⟨mr, msx, mm, mx⟩, i64_bd hk⟩
 match cs, hl4 with
 | [d0, d1, d2, d3], _ =>
  simp only [List.drop_zero, List.take_succ_cons, List.take_zero, List.drop_succ_cons, List.cons.injEq, and_true] at e0 e1 e2 e3
  rw [e0, e1, e2, e3]
  rfl
theorem boxes_of {n : Nat} {cs : List Value} {y : DataW H × List MemPlace} (h : DataW.trod enc Tryz.prog w base spare held n 45 cs = some y) : ∃ (A : Option Addr) (cp : Nat) (l : List Bx), cs = [.slice A l.length cp] ∧ Bxs w (fun _ => True) A l ∧ l.length ≤ maxLen ∧ l.length ≤ cp ∧ ∀ x ∈ l, LimB x ∧ I64 x.k := by
 rcases DataW.trod_slice Tryz.underlying45 h with ⟨rfl, _⟩ | ⟨a, len, cap, elems, rest, m, _, rfl, _, hb, hl, hm, hlen, hel, _, _⟩
 ·exact ⟨none, 0, [], rfl, Bxs.nil, by simp, by simp, by simp⟩
 ·have hc : Tryz.prog.cellsOf 61 = 4 := by kernel_rfl
  rw [hc] at hel
  have each : ∀ i, i < len → ∃ g : Bx × List Value, w.cells? base (a.add (i * 4)) 4 = some g.2 ∧ (∃ A1 c1 A2 c2 A3 c3, g.2 = g.1.cs A1 c1 A2 c2 A3 c3 ∧ BoxP w (fun _ => True) g.1 A1 c1 A2 c2 A3 c3) ∧ LimB g.1 ∧ I64 g.1.k := by
   intro i hi
   have h1 := hel i hi
   rw [List.getElem?_eq_getElem (by omega), Option.bind_eq_some_iff] at h1
   obtain ⟨cs', hcs, hy⟩ := h1
   obtain ⟨b, A1, c1, A2, c2, A3, c3, rfl, h3, h4, h5⟩ := box_of hy
   exact ⟨(b, _), hcs, ⟨A1, c1, A2, c2, A3, c3, rfl, h3⟩, h4, h5⟩
  obtain ⟨l, h1, h2⟩ := list_of len each
  have hat : ∀ i, i < len → ∃ g, l[i]? = some g := fun i hi => ⟨_, List.getElem?_eq_getElem (show i < l.length by omega)⟩
  obtain ⟨vs, hr, hv⟩ := reads_of (f := fun i => ((l[i]?).getD (⟨0, [], [], []⟩, [])).2) (size := 4) (len := len) (a := a) (w := w) (base := base) (by omega) (fun i hi => by
   obtain ⟨g, hg⟩ := hat i hi
   rw [hg]
   exact (h2 i g hg).1)
  refine ⟨some a, cap, l.map (·.1), by simp [h1], ⟨vs, by rw [List.length_map, h1]; exact hr, fun i x hx => ?_⟩, by simp; omega, by simp; omega, fun x hx => ?_⟩
  ·rw [List.getElem?_map] at hx
   obtain ⟨g, hg, rfl⟩ := Option.map_eq_some_iff.1 hx
   have hi : i < len := by have := (List.getElem?_eq_some_iff.1 hg).1; omega
   obtain ⟨_, ⟨A1, c1, A2, c2, A3, c3, e, hp⟩, _⟩ := h2 i g hg
   refine ⟨A1, c1, A2, c2, A3, c3, hp, fun j hj => ?_⟩
   rw [hv i hi j hj, hg, ← e]
   rfl
  ·obtain ⟨g, hg, rfl⟩ := List.mem_map.1 hx
   obtain ⟨i, hi⟩ := List.mem_iff_getElem?.1 hg
   exact (h2 i g hi).2.2
end
end Go.Proofs.YtjbkjgmcfommgaaGreat

namespace Go.Proofs.YtjbkjgmcfommgaaGreat
open Go.RowKit
set_option maxHeartbeats 16000000 in
theorem samesets_eq {ba bb : Nat → Prop} {A B : Option Addr} {c d n m : Nat} {l : List (List Bx)} {w : World} (hn : n = l.length) (hm : m = l.length) (ha : Lbx w ba A l) (hb : Lbx w bb B l) (hl : l.length ≤ 1000000) (ho : ∀ x ∈ l, x.length ≤ 1000000 ∧ ∀ b ∈ x, OKB b) :
 Calls Tryz.prog 14 #[.slice A n c, .slice B m d] w fun e w' => e = .returned (.bool true) ∧ Grows w w' := by
 subst hn hm
 have HO := Lib.hid ho
 clear ho
 have hB := Below.refl w.heap.size w
 go_enter Tryz.func14, Tryz.ntmps14
 go_wp2_with fail
 go_loopw [13] (fun i wr => ∃ k : Nat, k ≤ l.length ∧ i = .int .i64 k ∧ Below w.heap.size w wr) (fun i _ => l.length - (intOf i).toNat)
 case atStart => exact ⟨0, by omega, rfl, hB⟩
 case round =>
  clear hB
  obtain ⟨k, hk, rfl, hB⟩ := hrel
  by_cases hlt : k < l.length
  ·obtain ⟨ad, x, B1, d1, ea, had, hx, -, hcx, hb1⟩ := ha.elem hB hlt
   subst ea
   obtain ⟨ad2, y, B2, d2, eb, had2, hy, -, hcy, hb2⟩ := hb.elem hB hlt
   subst eb
   obtain rfl : x = y := Option.some.inj (hx.symm.trans hy)
   have c1_ : (0 : Int) ≤ (k : Int) := by omega
   have c2_ : (k : Int) < (l.length : Int) := by omega
   have hox := HO.out x (List.mem_of_getElem? hx)
   have HC := Lib.hid (fun w0 (h : Grows wr w0) => same_eq (w := w0) (c := d1) (d := d2) (l := x) rfl rfl ((hb1.grows hB).grows h) ((hb2.grows hB).grows h) hox.1 hox.2)
   have had3 : (ad.add k).block < wr.heap.size := by rw [block_of_add]; exact had
   have had4 : (ad2.add k).block < wr.heap.size := by rw [block_of_add]; exact had2
   clear hx hy
   go_upto_region 6 with fail
   refine wp_region_mix (fun w' => Grows wr w') [] 10 27 (by kernel_rfl) (by kernel_rfl) rfl ?_ float_none ?_ ?_
   ·exact fun w1 w2 h0 hg => below_grows h0 (Nat.le_refl _) hg
   ·exact Grows.drew' _
   ·skip
    simp only [List.take_succ_cons, List.take_zero, List.drop_succ_cons, List.drop_zero]
    iterate 10
     refine calm_plain rfl rfl (v := ?_) (a' := ?_) (fun w1 hw1 => ?_) ?_ ?_
     rotate_left 2
     ·have h0 := hw1
      have x0 := (Below.cell h0 had3).trans hcx
      have y0 := (Below.cell h0 had4).trans hcy
      go_simp
      first | exact calm_val | (refine calm_call ?_; with_reducible exact HC.out _ h0)
     ·simp only [Act.put, List.setIfInBounds_toArray, List.set_cons_succ, List.set_cons_zero]
      rfl
    refine calm_done (end_none ?_)
    intro wq hgw
    replace hB := below_grows hB (Nat.le_refl _) hgw
    go_wp2
    go_roundw
    case rel => exact ⟨k + 1, by omega, by go_num, hB⟩
    case measure => simp [intOf]; omega
  ·go_wp2
   go_ret
   exact ⟨rfl, hB⟩
def LimP (p : Pt) : Prop := p.b.length ≤ 9223372036854775807 ∧ ∀ b ∈ p.b, LimB b ∧ I64 b.k
def KeptP (p : Pt) : Prop := p.b.length ≤ 9 ∧ ∀ b ∈ p.b, KeptB b
set_option maxHeartbeats 16000000 in
theorem kports_any {base : Nat → Prop} {A : Option Addr} {c : Nat} {l : List Pt} {w : World} (h : Pts w base A l) (hl : l.length ≤ 9223372036854775807) (ho : ∀ p ∈ l, LimP p) :
 Calls Tryz.prog 7 #[.slice A l.length c] w fun e w' => ((e = .returned (.bool true) ∧ l.length ≤ 18 ∧ ∀ p ∈ l, KeptP p) ∨ e = .returned (.bool false)) ∧ Grows w w' := by
 have HO := Lib.hid ho
 clear ho
 have hB := Below.refl w.heap.size w
 go_enter Tryz.func7, Tryz.ntmps7
 go_wp2_with fail
 go_loopw [7] (fun i wr => ∃ k : Nat, k ≤ l.length ∧ i = .int .i64 k ∧ Hid (∀ y ∈ l.take k, KeptP y) ∧ Below w.heap.size w wr) (fun i _ => l.length - (intOf i).toNat)
 case atStart => exact ⟨0, by omega, rfl, Lib.hid (by simp), hB⟩
 case round =>
  clear hB
  obtain ⟨k, hk, rfl, HA, hB⟩ := hrel
  by_cases hlt : k < l.length
  ·obtain ⟨ad, p, B, cp, ea, had, hp, hbx, -, q0, q1⟩ := h.elem hB hlt
   subst ea
   have HP := Lib.hid hp
   have hlp := HO.out p (List.mem_of_getElem? hp)
   have HLP := Lib.hid hlp
   clear hp hlp
   have k8 := Blk.new wr 47 #[.slice B p.b.length cp, .int .i64 p.v]
   have hq := (Below.refl wr.heap.size wr).alloc (Nat.le_refl _) (Obj.cells #[.slice B p.b.length cp, .int .i64 p.v] 47)
   go_upto_region 4 with fail
   replace hB := below_grows hB (Nat.le_refl _) hq
   clear hq q0 q1
   generalize World.alloc wr _ = w5 at *
   generalize wr.heap.size = G8 at *
   have x8 := k8.cell
   go_wp2_with fail
   refine (kboxes_any (c := cp) 9 (by omega) (z := 9) rfl (hbx.grows hB) HLP.out.1 (fun b hb => (HLP.out.2 b hb).1)).mono ?_
   rintro e w6 ⟨hk9, hq⟩
   replace hB := below_grows hB (Nat.le_refl _) hq
   clear x8 k8 hq
   rcases hk9 with ⟨rfl, h9, hkb⟩ | rfl
   ·have HA2 : Hid (∀ y ∈ l.take (k + 1), KeptP y) := Lib.hid (by
     rw [take_snoc HP.out]
     intro y hy
     rcases List.mem_append.1 hy with hy | hy
     ·exact HA.out y hy
     ·simp only [List.mem_singleton] at hy
      subst hy
      exact ⟨h9, hkb⟩)
    clear h9 hkb
    go_wp2
    go_roundw
    case rel => exact ⟨k + 1, by omega, by go_num, HA2, hB⟩
    case measure => simp [intOf]; omega
   ·go_wp2
    go_ret
    exact ⟨.inr rfl, hB⟩
  ·have hall : ∀ p ∈ l, KeptP p := by have := HA.out; rwa [List.take_of_length_le (by omega)] at this
   by_cases h18 : l.length ≤ 18
   ·have d1 : decide ((l.length : Int) ≤ 18) = true := by simp only [decide_eq_true_eq]; omega
    have d2 : decide (l.length ≤ 18) = true := decide_eq_true h18
    go_wp2
    go_ret
    exact ⟨.inl ⟨by first | rfl | simp [d1, d2, h18], h18, hall⟩, hB⟩
   ·have d1 : decide ((l.length : Int) ≤ 18) = false := by simp only [decide_eq_false_iff_not]; omega
    have d2 : decide (l.length ≤ 18) = false := decide_eq_false h18
    go_wp2
    go_ret
    exact ⟨.inr (by first | rfl | simp [d1, d2, h18]), hB⟩
end Go.Proofs.YtjbkjgmcfommgaaGreat

namespace Go.Proofs.YtjbkjgmcfommgaaGreat
open Go.ChangeShapes Go.WideShapes Go.RowKit Go.Deep
set_option maxRecDepth 100000
section
variable {H : Type} {enc : TypeId × Value → H} {w : World} {base : Nat} {spare : Nat → Bool} {held : Bool}
theorem port_of {n : Nat} {cs : List Value} {y : DataW H × List MemPlace} (h : DataW.trod enc Tryz.prog w base spare held n 47 cs = some y) : ∃ (p : Pt) (B : Option Addr) (c : Nat), cs = ptC p B c ∧ Bxs w (fun _ => True) B p.b ∧ p.b.length ≤ c ∧ LimP p := by
 obtain ⟨xs, m, _, _, hl, hlen, hg⟩ := DataW.trod_struct Tryz.underlying47 h
 obtain ⟨y0, t0⟩ := part_any hg hlen 0 0 1 45 (by kernel_rfl)
 obtain ⟨v, e1, _⟩ := part_int hg hlen 1 1 1 .i64 (by kernel_rfl)
 obtain ⟨B, c, b, e0, hb, hm, hc, hx⟩ := boxes_of t0
 have hl2 : cs.length = 2 := hl.trans (by kernel_rfl)
 refine ⟨⟨b, v⟩, B, c, ?_, hb, hc, hm, hx⟩
 match cs, hl2 with
 | [d0, d1], _ =>
  simp only [List.drop_zero, List.take_succ_cons, List.take_zero, List.drop_succ_cons, List.cons.injEq, and_true] at e0 e1
  rw [e0, e1]
  rfl
theorem ports_of {n : Nat} {cs : List Value} {y : DataW H × List MemPlace} (h : DataW.trod enc Tryz.prog w base spare held n 22 cs = some y) : ∃ (A : Option Addr) (cp : Nat) (l : List Pt), cs = [.slice A l.length cp] ∧ Pts w (fun _ => True) A l ∧ l.length ≤ maxLen ∧ l.length ≤ cp ∧ ∀ p ∈ l, LimP p := by
 rcases DataW.trod_slice Tryz.underlying22 h with ⟨rfl, _⟩ | ⟨a, len, cap, elems, rest, m, _, rfl, _, hb, hl, hm, hlen, hel, _, _⟩
 ·exact ⟨none, 0, [], rfl, Pts.nil, by simp, by simp, by simp⟩
 ·have hc : Tryz.prog.cellsOf 47 = 2 := by kernel_rfl
  rw [hc] at hel
  have each : ∀ i, i < len → ∃ g : Pt × List Value, w.cells? base (a.add (i * 2)) 2 = some g.2 ∧ (∃ B c, g.2 = ptC g.1 B c ∧ Bxs w (fun _ => True) B g.1.b ∧ g.1.b.length ≤ c) ∧ LimP g.1 := by
   intro i hi
   have h1 := hel i hi
   rw [List.getElem?_eq_getElem (by omega), Option.bind_eq_some_iff] at h1
   obtain ⟨cs', hcs, hy⟩ := h1
   obtain ⟨p, B, c, rfl, h3, h4, h5⟩ := port_of hy
   exact ⟨(p, _), hcs, ⟨B, c, rfl, h3, h4⟩, h5⟩
  obtain ⟨l, h1, h2⟩ := list_of len each
  have hat : ∀ i, i < len → ∃ g, l[i]? = some g := fun i hi => ⟨_, List.getElem?_eq_getElem (show i < l.length by omega)⟩
  obtain ⟨vs, hr, hv⟩ := reads_of (f := fun i => ((l[i]?).getD (noPt, [])).2) (size := 2) (len := len) (a := a) (w := w) (base := base) (by omega) (fun i hi => by
   obtain ⟨g, hg⟩ := hat i hi
   rw [hg]
   exact (h2 i g hg).1)
  refine ⟨some a, cap, l.map (·.1), by simp [h1], ⟨vs, by rw [List.length_map, h1]; exact hr, fun i x hx => ?_⟩, by simp; omega, by simp; omega, fun x hx => ?_⟩
  ·rw [List.getElem?_map] at hx
   obtain ⟨g, hg, rfl⟩ := Option.map_eq_some_iff.1 hx
   have hi : i < len := by have := (List.getElem?_eq_some_iff.1 hg).1; omega
   obtain ⟨_, ⟨B, c, e, hb2, hc2⟩, _⟩ := h2 i g hg
   have k0 := hv i hi 0 (by omega)
   have k1 := hv i hi 1 (by omega)
   rw [hg] at k0 k1
   refine ⟨B, c, hb2, hc2, ?_, ?_⟩
   ·rw [Nat.add_zero] at k0
    rw [k0]
    show g.2[0]? = _
    rw [e]
    rfl
   ·rw [k1]
    show g.2[1]? = _
    rw [e]
    rfl
  ·obtain ⟨g, hg, rfl⟩ := List.mem_map.1 hx
   obtain ⟨i, hi⟩ := List.mem_iff_getElem?.1 hg
   exact (h2 i g hi).2.2
end
theorem open_ports {H : Type} {enc : TypeId × Value → H} {w : World} {r : Reach} {b0 : Nat} {v : Value} {d : DataW H} {p : List MemPlace} (hv : Value.okWide Tryz.prog w r b0 22 v) (h : DataW.Trod enc Tryz.prog w 0 (fun _ => true) true 22 v d p) :
 ∃ (A : Option Addr) (c : Nat) (l : List Pt), v = .slice A l.length c ∧ Pts w (fun _ => True) A l ∧ l.length ≤ maxLen ∧ l.length ≤ c ∧ ∀ p ∈ l, LimP p := by
 obtain ⟨a0, len, cap, rfl⟩ := okWide_slice Tryz.underlying22 hv
 obtain ⟨fuel, hf⟩ := h
 obtain ⟨A, cp, l, e, hs, hm, hc, hx⟩ := ports_of hf
 have e2 : (Value.slice a0 len cap).cells.toList = [.slice a0 len cap] := rfl
 rw [e2] at e
 injection e with e
 exact ⟨A, cp, l, e, hs, hm, hc, hx⟩
/-- What Forward hands back is valid. -/
theorem forward_lists {l : List Pt} (hk : ∀ p ∈ l, ∀ b ∈ p.b, I64 b.k) : (forwardF l).1.length ≤ 16 ∧ ∀ x ∈ (forwardF l).1, FL x := by
 cases hv : validC l with
 | false =>
  rw [fw_bad hv]
  exact ⟨Nat.zero_le _, fun x hx => by cases hx⟩
 | true =>
  have e : forwardF l = fwUp l l.length := if_pos hv
  rw [e]
  rcases fw_is (valid_ports hv).1 hk l.length (Nat.le_refl _) with ⟨-, h2, h3⟩ | h1 | ⟨k, d, -, h2, -, -⟩
  ·refine ⟨by rw [h2]; exact (valid_ports hv).2.2, fun x hx => ?_⟩
   obtain ⟨i, hi⟩ := List.mem_iff_getElem?.1 hx
   have hil := (List.getElem?_eq_some_iff.1 hi).1
   have := (h3 i (by omega)).1
   rwa [List.getD_eq_getElem?_getD, hi] at this
  ·rw [h1]
   exact ⟨Nat.zero_le _, fun x hx => by cases hx⟩
  ·rw [h2]
   exact ⟨Nat.zero_le _, fun x hx => by cases hx⟩
theorem keptP_oks {p : Pt} (h : KeptP p) (hl : LimP p) : (∀ b ∈ p.b, OKB b ∧ I64 b.k) ∧ p.b.length ≤ 1000000 := ⟨fun b hb => ⟨(h.2 b hb).okb, (hl.2 b hb).2⟩, by have := h.1; omega⟩
end Go.Proofs.YtjbkjgmcfommgaaGreat

namespace Go.Proofs.YtjbkjgmcfommgaaGreat
open Go.ChangeShapes Go.WideShapes Go.ChangeAt Go.RowKit
namespace NegotiateForward
set_option maxHeartbeats 64000000 in
set_option maxRecDepth 10000 in
theorem walk (A0 : Option Addr) (c0 : Nat) (l0 : List Pt) (A : Option Addr) (c9 : Nat) (sd : List Int) (w : World) (hr : Pts w (fun _ => True) A0 l0) (hrl : l0.length ≤ 9223372036854775807) (hrc : l0.length ≤ c0) (hrp : ∀ p ∈ l0, LimP p) (h0 : Reads w w.heap.size 1 A sd.length (sd.map (Value.int .u8))) (hc : sd.length ≤ c9) (hl : sd.length ≤ 9223372036854775807) (hwf : ∀ x ∈ sd, 0 ≤ x ∧ x ≤ 255) :
    Calls Tryz.prog 3 #[.slice A0 l0.length c0, .slice A sd.length c9] w fun e w' => e = .returned (.bool true) ∧ Grows w w' := by
  have hB := Below.refl w.heap.size w
  have HRP := Lib.hid hrp
  clear hrp
  go_enter Tryz.func3, Tryz.ntmps3
  go_wp2_with fail
  refine (nsane_any w).mono ?_
  rintro e w1 ⟨rfl, hq⟩
  replace hB := below_grows hB (Nat.le_refl _) hq
  replace h0 := Reads.grows h0 hq
  replace hr := hr.grows hq
  clear hq
  go_wp2_with fail
  refine (kports_any hr hrl HRP.out).mono ?_
  rintro e w2 ⟨hk, hq⟩
  replace hB := below_grows hB (Nat.le_refl _) hq
  replace h0 := Reads.grows h0 hq
  replace hr := hr.grows hq
  clear hq
  rcases hk with ⟨rfl, h18, hkp⟩ | rfl
  case inr =>
    go_wp2
    go_ret
    exact ⟨rfl, hB⟩
  have HR0 := Lib.hid (fun p hp => keptP_oks (hkp p hp) (HRP.out p hp))
  have HRK : Hid (∀ p ∈ l0, ∀ b ∈ p.b, I64 b.k) := Lib.hid (fun p hp b hb => ((HR0.out p hp).1 b hb).2)
  clear hkp HRP
  have hs1 := hB.size
  go_wp2_with fail
  refine (dice_low w2.heap.size A c9 sd w2 h0 (Nat.le_refl _) hc hl hwf).mono ?_
  rintro e w3 ⟨rfl, hD, hq⟩
  replace hB := below_grows hB (Nat.le_refl _) hq
  replace hr := hr.under.grows hq
  have hs2 := hD.lt
  clear hq h0
  generalize w2.heap.size = g at *
  go_wp2_with fail
  refine (ports_any _ g _ hD).mono ?_
  rintro e w4 ⟨⟨l, v, rfl, ho, hm⟩, hD3, hq⟩
  obtain ⟨A1, c1, rfl, hc1, hp⟩ := ho.read
  replace hp : Pts w4 (fun _ => True) A1 l := hp.mono (fun _ _ => trivial)
  replace hr : Pts w4 (fun _ => True) A0 l0 := (hr.grown hq (fun q e hh => by injection e with e; unfold Under at hh; omega)).mono (fun _ _ => trivial)
  replace hB := hB.grown hq hB.size (fun q e => by injection e with e; omega)
  have hl5 := hm.2.1
  have HM1 := Lib.hid hm.oks
  have HM2 : Hid (∀ p ∈ l, ∀ b ∈ p.b, I64 b.k) := Lib.hid hm.k
  clear ho hq hD hD3 hm
  go_wp2_with fail
  have k22 := Blk.new w4 22 #[.slice A0 l0.length c0, .slice A1 l.length c1]
  have hq := (Below.refl w4.heap.size w4).alloc (Nat.le_refl _) (Obj.cells #[.slice A0 l0.length c0, .slice A1 l.length c1] 22)
  replace hB := below_grows hB (Nat.le_refl _) hq
  replace hr := hr.grows hq
  replace hp := hp.grows hq
  clear hq
  generalize World.alloc w4 _ = w5 at *
  generalize w4.heap.size = q22 at *
  have hrd : Reads w5 w5.heap.size 1 (some ⟨q22, 0, none⟩) 2 [.slice A0 l0.length c0, .slice A1 l.length c1] := ⟨rfl, fun _ => ⟨_, rfl, k22.lt, fun j u hu => by rw [add_head, k22.cell, ← Array.getElem?_toList]; exact hu⟩⟩
  obtain ⟨ad, hade⟩ : ∃ ad : Addr, (⟨q22, 0, none⟩ : Addr) = ad := ⟨_, rfl⟩
  rw [hade] at hrd ⊢
  clear hade k22
  have HZ : Hid (∀ k, k < 2 → ∃ (Az : Option Addr) (cz : Nat) (z : List Pt), ([.slice A0 l0.length c0, .slice A1 l.length c1] : List Value)[k]? = some (.slice Az z.length cz) ∧ z.length ≤ 18 ∧ (∀ p ∈ z, (∀ b ∈ p.b, OKB b ∧ I64 b.k) ∧ p.b.length ≤ 1000000) ∧ (∀ p ∈ z, ∀ b ∈ p.b, I64 b.k) ∧ Pts w5 (fun _ => True) Az z) := Lib.hid (fun k hk => by
    have : k = 0 ∨ k = 1 := by omega
    rcases this with rfl | rfl
    · exact ⟨A0, c0, l0, rfl, h18, HR0.out, HRK.out, hr⟩
    · exact ⟨A1, c1, l, rfl, by omega, HM1.out, HM2.out, hp⟩)
  clear hr hp HR0 HRK HM1 HM2
  go_loopw [24] (fun i wr => ∃ k : Nat, k ≤ 2 ∧ i = .int .i64 k ∧ Grows w5 wr) (fun i _ => 2 - (intOf i).toNat)
  case atStart => exact ⟨0, by omega, rfl, Below.refl _ _⟩
  case round =>
    obtain ⟨k, hk, rfl, hg⟩ := hrel
    by_cases hlt : k < 2
    · have dk : decide ((k : Int) < 2) = true := by simp only [decide_eq_true_eq]; omega
      obtain ⟨Az, cz, z, hzv, hz18, hzo, hzk, hpz⟩ := HZ.out k hlt
      obtain ⟨ad2, u, ea, had, hu, hcell⟩ := (Reads.grows hrd hg).at_ hlt
      rw [hzv] at hu
      injection hu with hu
      injection ea with ea
      subst hu ea
      replace hpz := hpz.grows hg
      have HZO := Lib.hid hzo
      obtain ⟨hl16, hfl⟩ := forward_lists hzk
      obtain ⟨⟨ls, ⟨fa, fb⟩, fe⟩, hf⟩ : ∃ f, forwardF z = f := ⟨_, rfl⟩
      rw [hf] at hfl hl16
      have hl16 : ls.length ≤ 16 := hl16
      have HFL : Hid (∀ x ∈ ls, x.length ≤ 1000000 ∧ ∀ b ∈ x, OKB b) := Lib.hid (fun x hx => ⟨by have := (hfl x hx).2; omega, (hfl x hx).okb⟩)
      have HF := Lib.hid hf
      clear hzv hzo hzk hfl hf
      have hB := below_grows hB (Nat.le_refl _) hg
      have hg2 := hg
      clear hg
      go_wp2_with fail
      refine (forward_at (c := cz) HF.out rfl hpz (by omega) HZO.out).mono ?_
      rintro e w6 ⟨⟨A8, c8, rfl, hc8, hr8⟩, hq⟩
      replace hB := below_grows hB (Nat.le_refl _) hq
      replace hg2 := below_grows hg2 (Nat.le_refl _) hq
      replace hpz := hpz.grows hq
      clear hq hcell
      have k8 := Blk.new w6 32 #[.int .i64 fa, .int .i64 fb]
      have hq := (Below.refl w6.heap.size w6).alloc (Nat.le_refl _) (Obj.cells #[.int .i64 fa, .int .i64 fb] 32)
      go_upto_region 9 with fail
      replace hB := below_grows hB (Nat.le_refl _) hq
      replace hg2 := below_grows hg2 (Nat.le_refl _) hq
      replace hpz := hpz.grows hq
      replace hr8 := hr8.grows hq
      clear hq
      generalize w6.heap.size = q8 at *
      generalize World.alloc w6 _ = w6b at *
      go_wp2_with fail
      refine (rforward_at (c := cz) HF.out rfl hpz (by omega) HZO.out).mono ?_
      rintro e w7 ⟨⟨A11, c11, rfl, hc11, hr11⟩, hq⟩
      replace hB := below_grows hB (Nat.le_refl _) hq
      replace hg2 := below_grows hg2 (Nat.le_refl _) hq
      replace hpz := hpz.grows hq
      replace hr8 := hr8.grows hq
      replace k8 := k8.grows hq
      clear hq
      have k11 := Blk.new w7 32 #[.int .i64 fa, .int .i64 fb]
      have hq := (Below.refl w7.heap.size w7).alloc (Nat.le_refl _) (Obj.cells #[.int .i64 fa, .int .i64 fb] 32)
      go_upto_region 10 with fail
      replace hB := below_grows hB (Nat.le_refl _) hq
      replace hg2 := below_grows hg2 (Nat.le_refl _) hq
      replace hpz := hpz.grows hq
      replace hr8 := hr8.grows hq
      replace hr11 := hr11.grows hq
      replace k8 := k8.grows hq
      clear hq
      generalize w7.heap.size = q11 at *
      generalize World.alloc w7 _ = w8 at *
      have hcv1 := fun (w0 : World) (h : Grows w8 w0) => nvalid_any (w := w0) (c := cz) rfl (hpz.grows h) (by omega) (fun p hp => ⟨fun b hb => ((HZO.out p hp).1 b hb).1, (HZO.out p hp).2⟩)
      have hcv2 := fun (w0 : World) (h : Grows w8 w0) => rnvalid_any (w := w0) (c := cz) rfl (hpz.grows h) (by omega) (fun p hp => ⟨fun b hb => ((HZO.out p hp).1 b hb).1, (HZO.out p hp).2⟩)
      have HCS := Lib.hid (fun (w0 : World) (h : Grows w8 w0) => samesets_eq (w := w0) (c := c8) (d := c11) rfl rfl (hr8.grows h) (hr11.grows h) (by omega) HFL.out)
      generalize validC z = vz at *
      have HCV1 := Lib.hid hcv1
      have HCV2 := Lib.hid hcv2
      clear hcv1 hcv2
      have x8 := k8.cell
      have x11 := k11.cell
      have n1 : (vz != vz) = false := by simp
      have n2 : (fe != fe) = false := by simp
      have n3 : decide (fe = fe) = true := by simp
      go_wp2_with fail
      refine (HCV1.out _ (Below.refl _ _)).mono ?_
      rintro e w9 ⟨rfl, hq⟩
      have hg9 := hq
      clear hq
      go_wp2_with fail
      refine (HCV2.out _ hg9).mono ?_
      rintro e w10 ⟨rfl, hq⟩
      replace hg9 := below_grows hg9 (Nat.le_refl _) hq
      clear hq x8 x11
      have x8 := (k8.grows hg9).cell
      have x11 := (k11.grows hg9).cell
      go_wp2_with fail
      refine (HCS.out _ hg9).mono ?_
      rintro e w11 ⟨rfl, hq⟩
      replace hg9 := below_grows hg9 (Nat.le_refl _) hq
      replace hB := below_grows hB (Nat.le_refl _) hg9
      replace hg2 := below_grows hg2 (Nat.le_refl _) hg9
      clear hq x8 x11 hg9 hr8 hr11 hpz
      go_wp2
      go_roundw
      case rel => exact ⟨k + 1, by omega, by go_num, hg2⟩
      case measure => simp [intOf]; omega
    · obtain rfl : k = 2 := by omega
      have hB := below_grows hB (Nat.le_refl _) hg
      go_wp2
      go_ret
      exact ⟨rfl, hB⟩
end NegotiateForward
namespace NegotiateForward
set_option maxRecDepth 100000 in
theorem contract (H : Type) (enc : TypeId × Value → H) (W : World) (base : Nat) (args : Array Value) (ds gs : List (DataW H)) (before : List MemPlace)
    (hval0 : ∀ (j : Nat) t v, Tryz.f3.params[j]? = some t → args[j]? = some v → Value.okWide Tryz.prog W .any base t v)
    (hW : DataW.Whole enc Tryz.prog Tryz.f3.params.toList Rows.negotiateForwardSpec.vars false W args.toList ds gs before)
    (hsz0 : (DataW.weightsEach Tryz.prog (Tryz.f3.params.toList ++ Rows.negotiateForwardSpec.plain.varTypes Tryz.prog) (ds ++ gs)).all (· ≤ reachBytes) = true) :
    Calls Tryz.prog 3 args W fun e W' => ∃ v, e = .returned v ∧ Rows.negotiateForwardSpec.post enc Tryz.prog Tryz.f3 false true false false W args v W' := by
  have key : Calls Tryz.prog 3 args W fun e W' => e = .returned (.bool true) ∧ Below W.heap.size W W' := by
    have hval : ∀ (j : Nat) t v, Tryz.f3.params[j]? = some t → args[j]? = some v → Value.okWide Tryz.prog W .any base t v := hval0
    obtain ⟨p, q, hA0, hV, hbe, hfz, hnd⟩ := hW
    have hA : DataW.TrodAll enc Tryz.prog W 0 (fun _ => true) true Tryz.f3.params.toList args.toList ds p := hA0
    rw [Tryz.params3] at hA hval
    clear hA0 hval0
    obtain ⟨v0, vs0, d0, ds0, p0, q0, hargs, rfl, rfl, h0, r0⟩ := trodAll_cons hA
    obtain ⟨v1, vs1, d1, ds1, p1, q1, rfl, rfl, rfl, h1, r1⟩ := trodAll_cons r0
    obtain ⟨rfl, rfl, rfl⟩ := trodAll_nil r1
    obtain rfl : args = #[v0, v1] := by cases args; simp_all
    obtain ⟨rfl, rfl⟩ := trodVars_none hV
    have hsz : (DataW.weightsEach Tryz.prog (Tryz.f3.params.toList ++ Rows.negotiateForwardSpec.plain.varTypes Tryz.prog) ([d0, d1] ++ [])).all (· ≤ reachBytes) = true := hsz0
    rw [Tryz.params3] at hsz
    clear hsz0
    obtain ⟨A0, c0, l0, rfl, hp0, hl0, hc0, hx0⟩ := open_ports (hval 0 22 v0 rfl rfl) h0
    obtain ⟨A, c, l, rfl, hI1, hl1, hlen1, hw1⟩ := open_slice_kind Tryz.underlying23 Tryz.underlying5 (by kernel_rfl) (hval 1 23 v1 rfl rfl) h1
    exact NegotiateForward.walk A0 c0 l0 A c l W hp0 hl0 hc0 hx0 hI1 hlen1 hl1 (fun x hx => u8_bd (hw1 x hx))
  refine key.mono fun e W' ⟨he, hb⟩ => ⟨_, he, law_post laid_out hW ?_ rfl (by kernel_rfl) Tryz.underlying4 ?_ hb⟩
  · rw [Tryz.params3]
    intro t ht
    simp only [List.mem_cons, List.not_mem_nil, or_false] at ht
    rcases ht with rfl | rfl <;> exact ⟨by kernel_rfl, of_decide_eq_true (by kernel_rfl)⟩
  · rw [Tryz.params3]
    intro ds hl
    match ds, hl with
    | [_, _], _ => rfl

set_option maxRecDepth 100000 in
theorem lifted (os : Os) (started : os.Started) (H : Type) (enc : TypeId × Value → H) :
    ReturnsInHanded {} Tryz.checked os 3 .any (Rows.negotiateForwardSpec.pre6 enc Tryz.prog Tryz.f3 Rows.negotiateForwardRow.domain false) (Rows.negotiateForwardSpec.post enc Tryz.prog Tryz.f3 false true false false) := by
  refine returnsInHanded_of_change_sized (C := Tryz.checked) own_knob started (by kernel_rfl) Tryz.func3
    (ChangeSpec.witness6 (enc := enc) (C := Tryz.checked) false ⟨#[], #[.slice none 0 0, .slice none 0 0], []⟩ 8 (by kernel_rfl) (by kernel_rfl) (by kernel_rfl) (by kernel_rfl)) ?_
  intro W base args ds gs before hval0 hW _ hsz0 _
  exact contract H enc W base args ds gs before hval0 hW hsz0

theorem over : Rows.negotiateForwardRow.holds Tryz.pinned (OpenSpec.ofChange Rows.negotiateForwardSpec) :=
  OpenClaim.holds_of_wide 3 Tryz.f3 rfl rfl rfl rfl rfl rfl rfl ⟨rfl, rfl, rfl, rfl, rfl⟩ rfl rfl rfl rfl rfl (by kernel_rfl) Tryz.func3 (by kernel_rfl)
    (of_decide_eq_true (by kernel_rfl)) (by unfold Func.isWrapper; first | (rw [if_pos (by decide +kernel)]; kernel_rfl) | (rw [if_neg (by decide +kernel)]; exact ⟨rfl, rfl⟩))
    (fun os started H enc _ => lifted os started H enc)

/-- The given statement. -/
theorem proved : Rows.NegotiateForwardSaid := over
end NegotiateForward
#print axioms NegotiateForward.proved
end Go.Proofs.YtjbkjgmcfommgaaGreat

