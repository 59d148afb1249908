/-
  YtjbkjgmcfommgaaGreatNegotiateChooses: shared parts, 3. Plain theorems.
-/
import Derived.Test.YtjbkjgmcfommgaaGreatNegotiateChoosesK2
namespace Go.Proofs.YtjbkjgmcfommgaaGreat
open Go.RowKit
theorem sps_lits (w : World) (l : List Sp) (cs : Array Value) (t : TypeId) (h : cs.toList = scells l) : Sps (w.alloc (.cells cs t)) (some ⟨w.heap.size, 0, none⟩) l := by
 have hb := Blk.new w t cs
 refine ⟨by rw [scells_len], fun _ => ⟨_, rfl, by simp, fun j u hu => ?_⟩⟩
 have := hb.cell j
 have e : (⟨w.heap.size, 0, none⟩ : Addr).add j = ⟨w.heap.size, j, none⟩ := by unfold Addr.add; split <;> simp_all
 rw [e, this, ← Array.getElem?_toList, h]
 exact hu
/-- Few spans. -/
def Few (b : Bx) : Prop := b.r.length ≤ 5 ∧ b.s.length ≤ 5
set_option maxHeartbeats 32000000 in
set_option maxRecDepth 10000 in
theorem box_any (B g : Nat) (w : World) (h : DR w B g) : Calls Tryz.prog 49 #[.pointer (some ⟨g, 0, none⟩)] w fun e w' => (∃ (b : Bx) (v : Value), e = .returned v ∧ BoxV w' (Ge w.heap.size) b v ∧ fineB b = true ∧ OKB b ∧ I64 b.k ∧ Few b) ∧ DR w' B g ∧ w.grownBy w' (some g) := by
 have hgl := h.lt
 have hBg := h.lo
 have k0 := Blk.new w 61 #[.int .i64 0, .slice none 0 0, .slice none 0 0, .slice none 0 0]
 have hB := (Below.refl w.heap.size w).alloc (Nat.le_refl _) (Obj.cells #[.int .i64 0, .slice none 0 0, .slice none 0 0, .slice none 0 0] 61)
 go_enter Tryz.func49, Tryz.ntmps49
 go_upto_region 1 with fail
 have hD := h.grows hB
 have hO := d_only_grows (World.grownBy.refl w (some g)) hB
 clear hB h
 generalize World.alloc w _ = w1 at *
 go_wp2_with fail
 refine (rolls_any B g 7 _ hD (by omega) (by omega)).mono ?_
 rintro e w2 ⟨⟨r, rfl, r0, r1⟩, hDn, hq⟩
 replace hD := hDn
 replace k0 := k0.grown hq (by intro e; injection e; omega)
 replace hO := only_trans hO hq
 clear hq hDn
 have hw : IntKind.i64.wrap (1 + r) = 1 + r := IntWalk.i64_in _ (by omega)
 have hK := kp_shl r0 r1
 have k3 := Blk.new w2 61 #[.int .i64 (wrap64 (2 ^ (1 + r).toNat)), .slice none 0 0, .slice none 0 0, .slice none 0 0]
 have hq := (Below.refl w2.heap.size w2).alloc (Nat.le_refl _) (Obj.cells #[.int .i64 (wrap64 (2 ^ (1 + r).toNat)), .slice none 0 0, .slice none 0 0, .slice none 0 0] 61)
 have l03 := k0.lt
 go_upto_region 2 with fail
 generalize wrap64 (2 ^ (1 + r).toNat) = K at *
 have HK := Lib.hid hK
 clear hK hw
 replace hD := hD.grows hq
 replace k0 := k0.grows hq
 replace hO := d_only_grows hO hq
 clear hq
 generalize World.alloc w2 _ = w3 at *
 generalize w2.heap.size = G3 at *
 go_wp2_with fail
 refine (rolls_any B g 3 _ hD (by omega) (by omega)).mono ?_
 rintro e w4 ⟨⟨n0, rfl, n00, n01⟩, hDn, hq⟩
 replace hD := hDn
 replace k0 := k0.grown hq (by intro e; injection e; omega)
 replace k3 := k3.grown hq (by intro e; injection e; omega)
 replace hO := only_trans hO hq
 clear hq hDn
 obtain ⟨m0, rfl⟩ : ∃ m0 : Nat, n0 = (m0 : Int) := ⟨n0.toNat, by omega⟩
 go_wp2_with fail
 go_loopw [4] (fun i wr => ∃ (n : Nat) (K : Int), n ≤ 2 ∧ i = .int .i64 n ∧ Hid (KP K) ∧ Blk wr w.heap.size 61 #[.int .i64 0, .slice none 0 0, .slice none 0 0, .slice none 0 0] ∧ Blk wr G3 61 #[.int .i64 K, .slice none 0 0, .slice none 0 0, .slice none 0 0] ∧ DR wr B g ∧ w.grownBy wr (some g)) (fun i _ => (intOf i).toNat)
 case atStart => exact ⟨m0, K, by omega, rfl, HK, k0, k3, hD, hO⟩
 case round =>
  clear k0 k3 hD hO HK
  obtain ⟨n, K, hn, rfl, HK, k0, k3, hD, hO⟩ := hrel
  by_cases hpos : 0 < n
  ·have d1 : decide ((0 : Int) < (n : Int)) = true := by simp only [decide_eq_true_eq]; omega
   have d2 : decide (0 < n) = true := by simp only [decide_eq_true_eq]; omega
   obtain ⟨l, hD⟩ := hD
   have hrb := rollV_bd l (n := 7) (by omega)
   have hw : IntKind.i64.wrap (1 + rollV l 7) = 1 + rollV l 7 := IntWalk.i64_in _ (by omega)
   have HK2 : Hid (KP (bits .or .i64 K (IntKind.i64.wrap (2 ^ (1 + rollV l 7).toNat)))) := Lib.hid (kp_or HK.out (by rw [IntWalk.i64_left]; exact kp_shl hrb.1 hrb.2))
   have hwn : IntKind.i64.wrap ((n : Int) - 1) = ((n - 1 : Nat) : Int) := by rw [IntWalk.i64_in _ (by omega)]; omega
   go_upto_region 5 with fail
   obtain ⟨S, HI, HO⟩ : ∃ S : Nat → World → Prop, Hid (∀ p w', (w.grownBy w' (some g) ∧ Blk w' w.heap.size 61 #[.int .i64 0, .slice none 0 0, .slice none 0 0, .slice none 0 0] ∧ (p ≤ 1 → Blk w' G3 61 #[.int .i64 K, .slice none 0 0, .slice none 0 0, .slice none 0 0]) ∧ (2 ≤ p → Blk w' G3 61 #[.int .i64 (bits .or .i64 K (IntKind.i64.wrap (2 ^ (1 + rollV l 7).toNat))), .slice none 0 0, .slice none 0 0, .slice none 0 0]) ∧ (p = 0 → Dice w' B g l) ∧ (1 ≤ p → Dice w' B g l.tail)) → S p w') ∧ Hid (∀ p w', S p w' → (w.grownBy w' (some g) ∧ Blk w' w.heap.size 61 #[.int .i64 0, .slice none 0 0, .slice none 0 0, .slice none 0 0] ∧ (p ≤ 1 → Blk w' G3 61 #[.int .i64 K, .slice none 0 0, .slice none 0 0, .slice none 0 0]) ∧ (2 ≤ p → Blk w' G3 61 #[.int .i64 (bits .or .i64 K (IntKind.i64.wrap (2 ^ (1 + rollV l 7).toNat))), .slice none 0 0, .slice none 0 0, .slice none 0 0]) ∧ (p = 0 → Dice w' B g l) ∧ (1 ≤ p → Dice w' B g l.tail))) := ⟨fun p w' => w.grownBy w' (some g) ∧ Blk w' w.heap.size 61 #[.int .i64 0, .slice none 0 0, .slice none 0 0, .slice none 0 0] ∧ (p ≤ 1 → Blk w' G3 61 #[.int .i64 K, .slice none 0 0, .slice none 0 0, .slice none 0 0]) ∧ (2 ≤ p → Blk w' G3 61 #[.int .i64 (bits .or .i64 K (IntKind.i64.wrap (2 ^ (1 + rollV l 7).toNat))), .slice none 0 0, .slice none 0 0, .slice none 0 0]) ∧ (p = 0 → Dice w' B g l) ∧ (1 ≤ p → Dice w' B g l.tail), Lib.hid fun _ _ h => h, Lib.hid fun _ _ h => h⟩
   refine wp_region_step S [3, 8] 9 89 (by kernel_rfl) (by kernel_rfl) rfl ?_ ?_ ?_
   ·exact fun p w1 w2 hs hg => HI.out _ _ (by obtain ⟨h0, h1, h2, h3, h4, h5⟩ := HO.out _ _ hs; exact ⟨d_only_grows h0 hg, h1.grows hg, fun e => (h2 e).grows hg, fun e => (h3 e).grows hg, fun e => (h4 e).grows hg, fun e => (h5 e).grows hg⟩)
   ·exact HI.out _ _ ⟨d_only_grows hO (Grows.drew' _), k0.grows (Grows.drew' _), fun _ => k3.grows (Grows.drew' _), fun e => by omega, fun _ => hD.grows (Grows.drew' _), fun e => by omega⟩
   simp only [List.take_succ_cons, List.take_zero, List.drop_succ_cons, List.drop_zero]
   refine st_plain rfl rfl (v := ?_) (a' := ?_) (fun w1 hw1 => ?_) ?_ ?_
   rotate_left 2
   ·obtain ⟨p, -⟩ := hw1
    go_simp
    exact calm_val
   ·simp only [Act.put, List.setIfInBounds_toArray, List.set_cons_succ, List.set_cons_zero]
    rfl
   refine st_upto (j := 1) (by kernel_rfl) rfl rfl (v := ?_) (a' := ?_) (fun w1 hw1 => ?_) ?_ ?_
   rotate_left 2
   ·obtain ⟨p, hp, hs⟩ := hw1
    obtain ⟨-, -, h2, -, -, -⟩ := HO.out _ _ hs
    have x3 := (h2 hp).cell
    go_simp
    exact calm_val
   ·simp only [Act.put, List.setIfInBounds_toArray, List.set_cons_succ, List.set_cons_zero]
    rfl
   refine st_plain rfl rfl (v := ?_) (a' := ?_) (fun w1 hw1 => ?_) ?_ ?_
   rotate_left 2
   ·obtain ⟨p, -⟩ := hw1
    go_simp
    exact calm_val
   ·simp only [Act.put, List.setIfInBounds_toArray, List.set_cons_succ, List.set_cons_zero]
    rfl
   refine st_step (j := 0) rfl rfl (v := ?_) (a' := ?_) (fun w1 hw1 => ?_) ?_ ?_
   rotate_left 2
   ·obtain ⟨h0, h1, h2, h3, h4, h5⟩ := HO.out _ _ hw1
    go_simp
    refine step_call ?_
    refine (roll_any B g l 7 _ (h4 rfl) (by omega) (by omega)).mono ?_
    rintro e w2 ⟨rfl, hd2, hq, -⟩
    refine ⟨?_, ?_⟩
    ·exact rfl
    ·exact HI.out _ _ ⟨only_trans h0 hq, h1.grown hq (by intro e; injection e; omega), fun _ => (h2 (by omega)).grown hq (by intro e; injection e; omega), fun e => by omega, fun e => by omega, fun _ => hd2⟩
   ·simp only [Act.put, List.setIfInBounds_toArray, List.set_cons_succ, List.set_cons_zero]
    rfl
   refine st_plain rfl rfl (v := ?_) (a' := ?_) (fun w1 hw1 => ?_) ?_ ?_
   rotate_left 2
   ·obtain ⟨p, -⟩ := hw1
    go_simp
    exact calm_val
   ·simp only [Act.put, List.setIfInBounds_toArray, List.set_cons_succ, List.set_cons_zero]
    rfl
   refine st_plain rfl rfl (v := ?_) (a' := ?_) (fun w1 hw1 => ?_) ?_ ?_
   rotate_left 2
   ·obtain ⟨p, -⟩ := hw1
    go_simp
    exact calm_val
   ·simp only [Act.put, List.setIfInBounds_toArray, List.set_cons_succ, List.set_cons_zero]
    rfl
   refine st_plain rfl rfl (v := ?_) (a' := ?_) (fun w1 hw1 => ?_) ?_ ?_
   rotate_left 2
   ·obtain ⟨p, -⟩ := hw1
    go_simp
    exact calm_val
   ·simp only [Act.put, List.setIfInBounds_toArray, List.set_cons_succ, List.set_cons_zero]
    rfl
   refine st_plain rfl rfl (v := ?_) (a' := ?_) (fun w1 hw1 => ?_) ?_ ?_
   rotate_left 2
   ·obtain ⟨p, -⟩ := hw1
    go_simp
    exact calm_val
   ·simp only [Act.put, List.setIfInBounds_toArray, List.set_cons_succ, List.set_cons_zero]
    rfl
   refine st_step (j := 1) rfl rfl (v := undef) (a' := ?_) (fun w1 hw1 => ?_) ?_ ?_
   rotate_left 1
   ·obtain ⟨h0, h1, h2, h3, h4, h5⟩ := HO.out _ _ hw1
    have kk := h2 (by omega)
    have x3 := kk.cell
    have hf3 := kk.frozen
    go_simp
    refine step_skip ?_
    exact HI.out _ _ ⟨only_set h0 (p := ⟨G3, 0, none⟩) (Nat.le_of_lt l03) _, h1.far (p := ⟨G3, 0, none⟩) (Nat.ne_of_lt l03) _, fun e => by omega, fun _ => kk.set_ 0 _, fun e => by omega, fun _ => (h5 (by omega)).put (p := ⟨G3, 0, none⟩) (Nat.le_trans hBg (Nat.le_of_lt (Nat.lt_trans hgl l03))) (Nat.ne_of_lt (Nat.lt_trans hgl l03)) _⟩
   ·rfl
   refine st_done ?_
   intro w7 hs
   obtain ⟨h0, h1, -, h3, -, h5⟩ := HO.out _ _ hs
   have k3b := h3 (Nat.le_refl 2)
   have hDb : DR w7 B g := ⟨_, h5 (by decide)⟩
   clear HI HO hs h3 h5
   generalize (bits .or .i64 K (IntKind.i64.wrap (2 ^ (1 + rollV l 7).toNat))) = K3 at *
   go_wp2
   go_roundw
   case rel => exact ⟨n - 1, K3, by omega, by go_num, HK2, h1, k3b, hDb, h0⟩
   case measure => simp [intOf]; omega
  ·obtain rfl : n = 0 := by omega
   have d2 : decide ((0 : Int) < ((0 : Nat) : Int)) = false := by decide
   generalize wr = wa at *
   go_upto_region 6 with fail
   have hgw := k3.lt
   have hL := sps_lits wa [(44100, 44100), (48000, 48000), (8000, 8000), (32000, 50000), (96000, 192000)] #[.int .i64 44100, .int .i64 44100, .int .i64 48000, .int .i64 48000, .int .i64 8000, .int .i64 8000, .int .i64 32000, .int .i64 50000, .int .i64 96000, .int .i64 192000] 86 rfl
   have hq := (Below.refl wa.heap.size wa).alloc (Nat.le_refl _) (Obj.cells #[.int .i64 44100, .int .i64 44100, .int .i64 48000, .int .i64 48000, .int .i64 8000, .int .i64 8000, .int .i64 32000, .int .i64 50000, .int .i64 96000, .int .i64 192000] 86)
   have hLb : SpB (wa.alloc (Obj.cells #[.int .i64 44100, .int .i64 44100, .int .i64 48000, .int .i64 48000, .int .i64 8000, .int .i64 8000, .int .i64 32000, .int .i64 50000, .int .i64 96000, .int .i64 192000] 86)) (Ge (g + 1)) (some ⟨wa.heap.size, 0, none⟩) ([(44100, 44100), (48000, 48000), (8000, 8000), (32000, 50000), (96000, 192000)] : List Sp) := ⟨hL, fun _ ad e => by injection e with e; subst e; show g + 1 ≤ wa.heap.size; omega⟩
   replace hD := hD.grows hq
   replace k0 := k0.grows hq
   replace k3 := k3.grows hq
   replace hO := d_only_grows hO hq
   have hsz := hq.size
   clear hq hL
   go_wp2_with fail
   refine (set_any B g _ 5 [(44100, 44100), (48000, 48000), (8000, 8000), (32000, 50000), (96000, 192000)] 1000 768000 _ hD hLb (by decide) (by decide) (by decide)).mono ?_
   rintro e wb ⟨⟨r, A1, c1, rfl, hcr, hlr, hr, hwr⟩, hDn, hq⟩
   have HWr := Lib.hid hwr
   replace hlr : r.length ≤ 5 := hlr
   replace hr : RdB wb (Ge (G3 + 1)) 2 A1 r.length (scells r) := RdB.mono hr (fun k hk => by unfold Ge at *; omega)
   clear hLb hwr
   replace hD := hDn
   replace k0 := k0.grown hq (by intro e; injection e; omega)
   replace k3 := k3.grown hq (by intro e; injection e; omega)
   replace hO := only_trans hO hq
   clear hq hDn
   have y3 := k3.cell
   have hf3 := k3.frozen
   replace k0 := k0.far (p := ⟨G3, 1, none⟩) (Nat.ne_of_lt l03) (.slice A1 r.length c1)
   replace k3 := k3.set_ 1 (.slice A1 r.length c1)
   replace hD := hD.put (p := ⟨G3, 1, none⟩) (Nat.le_trans hBg (Nat.le_of_lt (Nat.lt_trans hgl l03))) (Nat.ne_of_lt (Nat.lt_trans hgl l03)) (.slice A1 r.length c1)
   replace hO := only_set hO (p := ⟨G3, 1, none⟩) (Nat.le_of_lt l03) (.slice A1 r.length c1)
   replace hr := RdB.grown hr (d_only_set (World.grownBy.refl _ (some G3)) 1 (.slice A1 r.length c1)) (fun q e => by injection e with e; unfold Ge; omega)
   go_upto_region 7 with fail
   clear y3 hf3 hgw hsz
   generalize World.setCell wb _ _ = wc at *
   have hgw := k3.lt
   have hL := sps_lits wc [(16, 64), (64, 1024), (2048, 2048), (1, 65536)] #[.int .i64 16, .int .i64 64, .int .i64 64, .int .i64 1024, .int .i64 2048, .int .i64 2048, .int .i64 1, .int .i64 65536] 86 rfl
   have hq := (Below.refl wc.heap.size wc).alloc (Nat.le_refl _) (Obj.cells #[.int .i64 16, .int .i64 64, .int .i64 64, .int .i64 1024, .int .i64 2048, .int .i64 2048, .int .i64 1, .int .i64 65536] 86)
   have hLb : SpB (wc.alloc (Obj.cells #[.int .i64 16, .int .i64 64, .int .i64 64, .int .i64 1024, .int .i64 2048, .int .i64 2048, .int .i64 1, .int .i64 65536] 86)) (Ge (g + 1)) (some ⟨wc.heap.size, 0, none⟩) ([(16, 64), (64, 1024), (2048, 2048), (1, 65536)] : List Sp) := ⟨hL, fun _ ad e => by injection e with e; subst e; show g + 1 ≤ wc.heap.size; omega⟩
   replace hD := hD.grows hq
   replace k0 := k0.grows hq
   replace k3 := k3.grows hq
   replace hr := RdB.grows hr hq
   replace hO := d_only_grows hO hq
   have hsz := hq.size
   clear hq hL
   go_wp2_with fail
   refine (set_any B g _ 4 [(16, 64), (64, 1024), (2048, 2048), (1, 65536)] 1 65536 _ hD hLb (by decide) (by decide) (by decide)).mono ?_
   rintro e wb ⟨⟨s, A3, c3, rfl, hcs, hls, hs, hws⟩, hDn, hq⟩
   replace hls : s.length ≤ 4 := hls
   have HWs := Lib.hid hws
   replace hs : RdB wb (Ge (G3 + 1)) 2 A3 s.length (scells s) := RdB.mono hs (fun k hk => by unfold Ge at *; omega)
   replace hr := RdB.grown hr hq (fun q e => by injection e with e; unfold Ge; omega)
   clear hLb hws
   replace hD := hDn
   replace k0 := k0.grown hq (by intro e; injection e; omega)
   replace k3 := k3.grown hq (by intro e; injection e; omega)
   replace hO := only_trans hO hq
   clear hq hDn
   have y3 := k3.cell
   have hf3 := k3.frozen
   replace k0 := k0.far (p := ⟨G3, 3, none⟩) (Nat.ne_of_lt l03) (.slice A3 s.length c3)
   replace k3 := k3.set_ 3 (.slice A3 s.length c3)
   replace hD := hD.put (p := ⟨G3, 3, none⟩) (Nat.le_trans hBg (Nat.le_of_lt (Nat.lt_trans hgl l03))) (Nat.ne_of_lt (Nat.lt_trans hgl l03)) (.slice A3 s.length c3)
   replace hO := only_set hO (p := ⟨G3, 3, none⟩) (Nat.le_of_lt l03) (.slice A3 s.length c3)
   replace hr := RdB.grown hr (d_only_set (World.grownBy.refl _ (some G3)) 3 (.slice A3 s.length c3)) (fun q e => by injection e with e; unfold Ge; omega)
   replace hs := RdB.grown hs (d_only_set (World.grownBy.refl _ (some G3)) 3 (.slice A3 s.length c3)) (fun q e => by injection e with e; unfold Ge; omega)
   go_upto_region 8 with fail
   clear y3 hf3 hgw hsz
   generalize World.setCell wb _ _ = wd at *
   go_wp2_with fail
   refine (rolls_any B g 3 _ hD (by omega) (by omega)).mono ?_
   rintro e we ⟨⟨n1, rfl, n10, n11⟩, hDn, hq⟩
   replace hr := RdB.grown hr hq (fun q e => by injection e with e; unfold Ge; omega)
   replace hs := RdB.grown hs hq (fun q e => by injection e with e; unfold Ge; omega)
   replace hD := hDn
   replace k0 := k0.grown hq (by intro e; injection e; omega)
   replace k3 := k3.grown hq (by intro e; injection e; omega)
   replace hO := only_trans hO hq
   clear hq hDn
   obtain ⟨m1, rfl⟩ : ∃ m1 : Nat, n1 = (m1 : Int) := ⟨n1.toNat, by omega⟩
   have hw1 : IntKind.i64.wrap (1 + (m1 : Int)) = ((m1 + 1 : Nat) : Int) := by rw [IntWalk.i64_in _ (by omega)]; omega
   have k3b : Blk we G3 61 #[.int .i64 K, .slice A1 r.length c1, .slice none 0 0, .slice A3 s.length c3] := k3
   clear k3
   have hszG := k3b.lt
   replace hr : RdB we (Btw (G3 + 1) we.heap.size) 2 A1 r.length (scells r) := ⟨hr.1, fun hn ad e => ⟨hr.2 hn ad e, (RdB.under hr).2 hn ad e⟩⟩
   replace hs : RdB we (Btw (G3 + 1) we.heap.size) 2 A3 s.length (scells s) := ⟨hs.1, fun hn ad e => ⟨hs.2 hn ad e, (RdB.under hs).2 hn ad e⟩⟩
   obtain ⟨G9, hG9⟩ : ∃ G9, we.heap.size = G9 := ⟨_, rfl⟩
   have hsz9 : G9 ≤ we.heap.size := Nat.le_of_eq hG9.symm
   rw [hG9] at hszG hr hs
   clear hG9
   go_wp2_with fail
   go_loopw [5] (fun i wr => ∃ (n : Nat) (ms : List (List Int)) (v2 : Value), n ≤ m1 + 1 ∧ i = .int .i64 n ∧ Hid (∀ m ∈ ms, m ∈ mapsL) ∧ Hid ms.Nodup ∧ ms.length + n ≤ m1 + 1 ∧ (n < m1 + 1 → 0 < ms.length) ∧ G9 ≤ wr.heap.size ∧ OwnM wr G9 (G3 + 1) v2 ms ∧ RdB wr (Btw (G3 + 1) G9) 2 A1 r.length (scells r) ∧ RdB wr (Btw (G3 + 1) G9) 2 A3 s.length (scells s) ∧ Blk wr w.heap.size 61 #[.int .i64 0, .slice none 0 0, .slice none 0 0, .slice none 0 0] ∧ Blk wr G3 61 #[.int .i64 K, .slice A1 r.length c1, v2, .slice A3 s.length c3] ∧ DR wr B g ∧ w.grownBy wr (some g)) (fun i _ => (intOf i).toNat)
   case atStart => exact ⟨m1 + 1, [], .slice none 0 0, by omega, by first | rfl | go_num, Lib.hid (by simp), Lib.hid (by simp), by simp, fun h => by omega, hsz9, OwnM.nil, hr, hs, k0, k3b, hD, hO⟩
   case round =>
    clear k0 k3b hD hO hr hs hsz9
    obtain ⟨n, ms, v2, hn, rfl, HMS, HND, hlen, hne, hsz9, ho, hr, hs, k0, k3, hD, hO⟩ := hrel
    obtain ⟨A2, c2, e2, hc2, -⟩ := ho.read (by omega)
    subst e2
    have hgw := k3.lt
    by_cases hpos : 0 < n
    ·have d1 : decide ((0 : Int) < (n : Int)) = true := by simp only [decide_eq_true_eq]; omega
     have d2 : decide (0 < n) = true := by simp only [decide_eq_true_eq]; omega
     have hwn : IntKind.i64.wrap ((n : Int) - 1) = ((n - 1 : Nat) : Int) := by rw [IntWalk.i64_in _ (by omega)]; omega
     go_wp2_with fail
     refine (map_any B g _ hD).mono ?_
     rintro e wb ⟨⟨m, M, cm, rfl, hml, hcm, him⟩, hDn, hq⟩
     have hown := ho.lt
     have him0 := him
     replace him : InB wb (Ge (G3 + 1)) M m := RdB.mono him (fun k hk => by unfold Ge at *; omega)
     have hapart : Hid (∀ ad, M = some ad → 0 < m.length → (Value.slice A2 ms.length c2).ownBlock ≠ some ad.block) := Lib.hid (fun ad e hl e2 => by
      have h8 := (hown _ e2).2
      have h9 := him0.2 hl ad e
      unfold Ge at h9
      omega)
     clear him0 hown
     replace ho := ho.only hq (by omega) (by omega)
     replace hr := RdB.grown hr hq (fun q e => by injection e with e; unfold Btw; omega)
     replace hs := RdB.grown hs hq (fun q e => by injection e with e; unfold Btw; omega)
     replace hsz9 := Nat.le_trans hsz9 hq.size
     replace hD := hDn
     replace k0 := k0.grown hq (by intro e; injection e; omega)
     replace k3 := k3.grown hq (by intro e; injection e; omega)
     replace hO := only_trans hO hq
     clear hq hDn
     have HML := Lib.hid hml
     obtain ⟨hvm, hm0, hm8⟩ := mapsL_ok m hml
     have HVM := Lib.hid hvm
     clear hml hvm
     obtain ⟨A9, c9, e9, hc9, hmr⟩ := ho.read (by omega)
     injection e9 with e9 _ e10
     subst e9
     subst e10
     have x3 := k3.cell
     go_wp2_with fail
     go_loopw [7, 58] (fun t i wq => ∃ k : Nat, k ≤ ms.length ∧ i = .int .i64 k ∧ t = .bool ((ms.take k).any fun y => simM y m) ∧ Grows wb wq) (fun _ i _ => ms.length - (intOf i).toNat)
     case atStart => exact ⟨0, by omega, rfl, rfl, Below.refl _ _⟩
     case round =>
      obtain ⟨k, hk, rfl, rfl, hg⟩ := hrel
      by_cases hlt : k < ms.length
      ·obtain ⟨ad, y, C, cy, e1, had, hy, q0, hcy, hiy⟩ := (hmr.grows hg).elem hlt
       subst e1
       have hyl := mapsL_ok y (HMS.out y (List.mem_of_getElem? hy))
       obtain ⟨-, hy0, hy8⟩ := hyl
       have HS := Lib.hid (sim_next (m := m) hy)
       clear hy
       obtain ⟨ady, y0, e5, -, hyy, q5⟩ := hiy.ints.at_ hy0
       obtain ⟨adm, u0, e6, -, hmm, p0⟩ := (him.grows hg).ints.at_ hm0
       have hyh : y.headD 0 = y0 := by cases y with | nil => simp at hyy | cons a b => simpa using hyy
       have hmh : m.headD 0 = u0 := by cases m with | nil => simp at hmm | cons a b => simpa using hmm
       have ea : ady.add 0 = ady := by simp [Addr.add]
       have eb : adm.add 0 = adm := by simp [Addr.add]
       rw [ea] at q5
       rw [eb] at p0
       have HSV : Hid (simM y m = (decide (y.length = m.length) && decide (y0 = u0))) := Lib.hid (by unfold simM; rw [hyh, hmh])
       subst e5
       subst e6
       clear hyy hmm hyh hmh ea eb hiy
       go_upto_region 16 with fail
       cases hv : (ms.take k).any fun y => simM y m
       case true =>
        have HE : Hid ((ms.take (k + 1)).any (fun y => simM y m) = true) := Lib.hid (by rw [HS.out, hv]; rfl)
        clear hv HS HSV
        go_region
        have hq : Grows wr wr.drew := Grows.drew' _
        generalize wr.drew = w9 at *
        replace hg := below_grows hg (Nat.le_refl _) hq
        clear hq q0 p0 q5
        go_wp2
        go_roundw
        case rel => exact ⟨k + 1, by omega, by go_num, by rw [HE.out], hg⟩
        case measure => simp [intOf]; omega
       have HV := Lib.hid hv
       clear hv
       by_cases h1 : y.length = m.length
       case neg =>
        have HE : Hid ((ms.take (k + 1)).any (fun y => simM y m) = false) := Lib.hid (by rw [HS.out, HV.out, HSV.out, decide_eq_false h1]; rfl)
        have d5 : ((y.length : Int) == (m.length : Int)) = false := by simp only [beq_eq_false_iff_ne, ne_eq]; omega
        clear h1 HS HSV HV
        go_region
        have hq : Grows wr wr.drew := Grows.drew' _
        generalize wr.drew = w9 at *
        replace hg := below_grows hg (Nat.le_refl _) hq
        clear hq q0 p0 q5
        go_wp2
        go_roundw
        case rel => exact ⟨k + 1, by omega, by go_num, by rw [HE.out], hg⟩
        case measure => simp [intOf]; omega
       have d5 : ((y.length : Int) == (m.length : Int)) = true := by simp only [beq_iff_eq]; omega
       by_cases h2 : y0 = u0
       ·have HE : Hid ((ms.take (k + 1)).any (fun y => simM y m) = true) := Lib.hid (by rw [HS.out, HV.out, HSV.out, decide_eq_true h1, decide_eq_true h2]; rfl)
        have d6 : (y0 == u0) = true := by simpa using h2
        clear h1 h2 HS HSV HV
        go_region
        have hq : Grows wr wr.drew := Grows.drew' _
        generalize wr.drew = w9 at *
        replace hg := below_grows hg (Nat.le_refl _) hq
        clear hq q0 p0 q5
        go_wp2
        go_roundw
        case rel => exact ⟨k + 1, by omega, by go_num, by rw [HE.out], hg⟩
        case measure => simp [intOf]; omega
       ·have HE : Hid ((ms.take (k + 1)).any (fun y => simM y m) = false) := Lib.hid (by rw [HS.out, HV.out, HSV.out, decide_eq_true h1, decide_eq_false h2]; rfl)
        have d6 : (y0 == u0) = false := by simpa using h2
        clear h1 h2 HS HSV HV
        go_region
        have hq : Grows wr wr.drew := Grows.drew' _
        generalize wr.drew = w9 at *
        replace hg := below_grows hg (Nat.le_refl _) hq
        clear hq q0 p0 q5
        go_wp2
        go_roundw
        case rel => exact ⟨k + 1, by omega, by go_num, by rw [HE.out], hg⟩
        case measure => simp [intOf]; omega
      ·obtain rfl : k = ms.length := by omega
       rw [List.take_length]
       replace ho := ho.grows hg
       replace hr := RdB.grows hr hg
       replace hs := RdB.grows hs hg
       replace hD := hD.grows hg
       replace k0 := k0.grows hg
       replace k3 := k3.grows hg
       replace hO := d_only_grows hO hg
       replace hsz9 := Nat.le_trans hsz9 hg.size
       replace him := him.grows hg
       clear hg hmr
       cases hv : ms.any fun y => simM y m
       case true =>
        have hpl : 0 < ms.length := by
         obtain ⟨y, hy, -⟩ := List.any_eq_true.1 hv
         exact List.length_pos_of_mem hy
        clear hv
        go_wp2
        go_roundw
        case rel => exact ⟨n - 1, ms, _, by omega, by go_num, HMS, HND, by omega, fun _ => hpl, hsz9, ho, hr, hs, k0, k3, hD, hO⟩
        case measure => simp [intOf]; omega
       have hnm := sim_not hv
       have HMS2 : Hid (∀ y ∈ ms ++ [m], y ∈ mapsL) := Lib.hid (by
        intro y hy
        rcases List.mem_append.1 hy with hy | hy
        ·exact HMS.out y hy
        ·simp only [List.mem_singleton] at hy
         exact hy ▸ HML.out)
       have HND2 : Hid (ms ++ [m]).Nodup := Lib.hid (by
        rw [List.nodup_append]
        exact ⟨HND.out, by simp, fun a ha b hb e => by simp only [List.mem_singleton] at hb; subst hb; exact hnm (e ▸ ha)⟩)
       clear hv hnm
       have x3 := k3.cell
       go_upto_region 19 with fail
       refine wp_region_lit ?_
       iterate 4
        refine wpList_plain rfl (fun K hK => ?_)
        go_simp
        refine hK _ _ ?_
        clear hK K
       have hk9 := Blk.new wr 38 #[.slice M m.length cm]
       have hq := (Below.refl wr.heap.size wr).alloc (Nat.le_refl _) (Obj.cells #[.slice M m.length cm] 38)
       have hr9 : Reads (wr.alloc (Obj.cells #[.slice M m.length cm] 38)) (wr.alloc (Obj.cells #[.slice M m.length cm] 38)).heap.size 1 (some ⟨wr.heap.size, 0, none⟩) 1 [.slice M m.length cm] := ⟨rfl, fun _ => ⟨_, rfl, hk9.lt, fun j u hu => by rw [add_head, hk9.cell, ← Array.getElem?_toList]; exact hu⟩⟩
       replace ho := ho.grows hq
       replace hr := RdB.grows hr hq
       replace hs := RdB.grows hs hq
       replace hD := hD.grows hq
       replace k0 := k0.grows hq
       replace k3 := k3.grows hq
       replace hO := d_only_grows hO hq
       replace hsz9 := Nat.le_trans hsz9 hq.size
       replace him := him.grows hq
       clear hq hk9 x3
       refine wpList_append_map rfl (.tmp 83) (.tmp 85) rfl rfl ho rfl hr9 (by omega) hsz9 him hcm hapart.out ?_
       intro v5 w12 ho2 hgr
       have hob := ho.lt
       replace k0 := k0.grown hgr (fun e => by have := (hob _ e.symm).1; omega)
       replace k3 := k3.grown hgr (fun e => by have := (hob _ e.symm).1; omega)
       replace hD := hD.grown hgr (fun q e => by have := (hob q e).1; omega)
       replace hO := only_own hO hgr (fun q e => by have := (hob q e).1; omega)
       replace hr := RdB.grown hr hgr (fun q e => by have := (hob q e).1; unfold Btw; omega)
       replace hs := RdB.grown hs hgr (fun q e => by have := (hob q e).1; unfold Btw; omega)
       replace hsz9 := Nat.le_trans hsz9 hgr.size
       have hln : (ms ++ [m]).length = ms.length + 1 := by simp
       have hlen2 : (ms ++ [m]).length + (n - 1) ≤ m1 + 1 := by omega
       have hpl : 0 < (ms ++ [m]).length := by omega
       clear hob hgr hr9 ho him hln hlen
       generalize ms ++ [m] = ms2 at *
       obtain ⟨A7, c7, e7, hc7, -⟩ := ho2.read (by omega)
       subst e7
       have y3 := k3.cell
       have hf3 := k3.frozen
       have ho3 := ho2.only (d_only_set (World.grownBy.refl _ (some G3)) 2 (.slice A7 ms2.length c7)) (by omega) (by omega)
       have hsz10 : G9 ≤ (w12.setCell ⟨G3, 2, none⟩ (.slice A7 ms2.length c7)).heap.size := by simpa [World.setCell] using hsz9
       clear ho2
       replace k0 := k0.far (p := ⟨G3, 2, none⟩) (Nat.ne_of_lt l03) (.slice A7 ms2.length c7)
       replace k3 := k3.set_ 2 (.slice A7 ms2.length c7)
       replace hD := hD.put (p := ⟨G3, 2, none⟩) (Nat.le_trans hBg (Nat.le_of_lt (Nat.lt_trans hgl l03))) (Nat.ne_of_lt (Nat.lt_trans hgl l03)) (.slice A7 ms2.length c7)
       replace hO := only_set hO (p := ⟨G3, 2, none⟩) (Nat.le_of_lt l03) (.slice A7 ms2.length c7)
       replace hr := RdB.grown hr (d_only_set (World.grownBy.refl _ (some G3)) 2 (.slice A7 ms2.length c7)) (fun q e => by injection e with e; unfold Btw; omega)
       replace hs := RdB.grown hs (d_only_set (World.grownBy.refl _ (some G3)) 2 (.slice A7 ms2.length c7)) (fun q e => by injection e with e; unfold Btw; omega)
       go_wp2
       go_roundw
       case rel => exact ⟨n - 1, ms2, _, by omega, by go_num, HMS2, HND2, hlen2, fun _ => hpl, hsz10, ho3, hr, hs, k0, k3, hD, hO⟩
       case measure => simp [intOf]; omega
    ·obtain rfl : n = 0 := by omega
     obtain ⟨A9, c9, e9, hc9, hmr⟩ := ho.read (by omega)
     injection e9 with e9 _ e10
     subst e9
     subst e10
     have hml := hne (by omega)
     have d2 : decide ((0 : Int) < ((0 : Nat) : Int)) = false := by decide
     have x3 := k3.cell
     have x0 := k0.cell
     have hf0 := k0.frozen
     have y0 := ((((k0.set_ 0 (.int .i64 K)).set_ 1 (.slice A1 r.length c1)).set_ 2 (.slice A2 ms.length c2)).set_ 3 (.slice A3 s.length c3))
     have yD := ((((hD.put (p := ⟨w.heap.size, 0, none⟩) (Nat.le_trans hBg (Nat.le_of_lt hgl)) (Nat.ne_of_lt hgl) (.int .i64 K)).put (p := ⟨w.heap.size, 1, none⟩) (Nat.le_trans hBg (Nat.le_of_lt hgl)) (Nat.ne_of_lt hgl) (.slice A1 r.length c1)).put (p := ⟨w.heap.size, 2, none⟩) (Nat.le_trans hBg (Nat.le_of_lt hgl)) (Nat.ne_of_lt hgl) (.slice A2 ms.length c2)).put (p := ⟨w.heap.size, 3, none⟩) (Nat.le_trans hBg (Nat.le_of_lt hgl)) (Nat.ne_of_lt hgl) (.slice A3 s.length c3))
     have yO := (only_set (only_set (only_set (only_set hO (p := ⟨w.heap.size, 0, none⟩) (Nat.le_refl _) (.int .i64 K)) (p := ⟨w.heap.size, 1, none⟩) (Nat.le_refl _) (.slice A1 r.length c1)) (p := ⟨w.heap.size, 2, none⟩) (Nat.le_refl _) (.slice A2 ms.length c2)) (p := ⟨w.heap.size, 3, none⟩) (Nat.le_refl _) (.slice A3 s.length c3))
     have yR := RdB.mono (RdB.grown hr (d_only_set (d_only_set (d_only_set (d_only_set (World.grownBy.refl _ (some w.heap.size)) 0 (.int .i64 K)) 1 (.slice A1 r.length c1)) 2 (.slice A2 ms.length c2)) 3 (.slice A3 s.length c3)) (fun q e => by injection e with e; unfold Btw; omega)) (b2 := Ge w.heap.size) (fun k hk => by unfold Ge Btw at *; omega)
     have yS := RdB.mono (RdB.grown hs (d_only_set (d_only_set (d_only_set (d_only_set (World.grownBy.refl _ (some w.heap.size)) 0 (.int .i64 K)) 1 (.slice A1 r.length c1)) 2 (.slice A2 ms.length c2)) 3 (.slice A3 s.length c3)) (fun q e => by injection e with e; unfold Btw; omega)) (b2 := Ge w.heap.size) (fun k hk => by unfold Ge Btw at *; omega)
     have yM := MapsR.mono (MapsR.grown hmr (d_only_set (d_only_set (d_only_set (d_only_set (World.grownBy.refl _ (some w.heap.size)) 0 (.int .i64 K)) 1 (.slice A1 r.length c1)) 2 (.slice A2 ms.length c2)) 3 (.slice A3 s.length c3)) (fun q e => by injection e with e; unfold Ge; omega)) (b2 := Ge w.heap.size) (fun k hk => by unfold Ge at *; omega)
     have y6 := y0.cell
     have HFI : Hid (fineB ⟨K, r, ms, s⟩ = true) := Lib.hid (fineB_yes (kinds_of HK.out) HWr.out HWs.out (mapsOk_yes (by show 1 ≤ ms.length; omega) (by show ms.length ≤ 16; omega) (by unfold uniqOk; rw [decide_eq_true HND.out, Bool.and_true, List.all_eq_true]; exact fun m hm => (mapsL_ok m (HMS.out m hm)).1)))
     have HOK : Hid (OKB ⟨K, r, ms, s⟩) := Lib.hid ⟨by show r.length ≤ 1000000; omega, by show s.length ≤ 1000000; omega, by show ms.length ≤ 1000000; omega, fun x hx => by have := (mapsL_ok x (HMS.out x hx)).2.2; omega⟩
     have HFEW : Hid (Few ⟨K, r, ms, s⟩) := Lib.hid ⟨by show r.length ≤ 5; omega, by show s.length ≤ 5; omega⟩
     have HI64 : Hid (I64 K) := Lib.hid (by have := HK.out; unfold KP at this; unfold I64; omega)
     clear k0 k3 hD hO hr hs hmr ho
     go_wp2
     refine bodyPost_ret (v := .agg #[.int .i64 K, .slice A1 r.length c1, .slice A2 ms.length c2, .slice A3 s.length c3]) (by simp [results, Tryz.results49, go_sem, y6]) rfl ⟨⟨⟨K, r, ms, s⟩, _, rfl, ⟨A1, c1, A2, c2, A3, c3, rfl, yR, yM, yS, hcr, hc9, hcs⟩, HFI.out, HOK.out, HI64.out, HFEW.out⟩, yD, yO⟩
end Go.Proofs.YtjbkjgmcfommgaaGreat

namespace Go.Proofs.YtjbkjgmcfommgaaGreat
open Go.RowKit
def Ap (lo : Nat) (v : Value) : Nat → Prop := fun k => lo ≤ k ∧ v.ownBlock ≠ some k
section
variable {w w' : World} {ok : Nat → Prop} {size n : Nat} {A : Option Addr} {xs : List Value}
theorem RdB.band (h : RdB w ok size A n xs) : RdB w (fun k => ok k ∧ k < w.heap.size) size A n xs := ⟨h.1, fun hn ad e => ⟨h.2 hn ad e, h.under.2 hn ad e⟩⟩
theorem MapsR.band {m : List (List Int)} (h : MapsR w ok A m) : MapsR w (fun k => ok k ∧ k < w.heap.size) A m := by
 obtain ⟨vs, h1, h2⟩ := h
 exact ⟨vs, h1.band, fun i x hx => by obtain ⟨B, c, e, hc, hi⟩ := h2 i x hx; exact ⟨B, c, e, hc, RdB.band hi⟩⟩
end
section
variable {w w' : World} {ok : Nat → Prop} {b : Bx} {A1 A2 A3 : Option Addr} {c1 c2 c3 : Nat}
theorem BoxP.band (h : BoxP w ok b A1 c1 A2 c2 A3 c3) : BoxP w (fun k => ok k ∧ k < w.heap.size) b A1 c1 A2 c2 A3 c3 := ⟨RdB.band h.r, h.m.band, RdB.band h.s, h.cr, h.cm, h.cs⟩
end
theorem Bxs.band {w : World} {ok : Nat → Prop} {A : Option Addr} {l : List Bx} (h : Bxs w ok A l) : Bxs w (fun k => ok k ∧ k < w.heap.size) A l := by
 obtain ⟨vs, h1, h2⟩ := h
 exact ⟨vs, h1.band, fun i x hx => by obtain ⟨A1, c1, A2, c2, A3, c3, hp, hc⟩ := h2 i x hx; exact ⟨A1, c1, A2, c2, A3, c3, hp.band, hc⟩⟩
def OwnB (w : World) (base lo : Nat) (v : Value) (l : List Bx) : Prop :=
 ∃ vs, w.ownsRow base 61 4 v l.length vs ∧ ∀ (i : Nat) (b : Bx), l[i]? = some b → ∃ A1 c1 A2 c2 A3 c3, BoxP w (Ap lo v) b A1 c1 A2 c2 A3 c3 ∧ ∀ j < 4, vs[i * 4 + j]? = (b.cs A1 c1 A2 c2 A3 c3)[j]?
section
variable {w w' : World} {base lo g : Nat} {v : Value} {l : List Bx}
theorem OwnB.nil : OwnB w base lo (.slice none 0 0) [] := ⟨[], World.ownsRow_nil w base _ 4, fun i x h => by simp at h⟩
theorem OwnB.grows (h : OwnB w base lo v l) (hg : Grows w w') : OwnB w' base lo v l := by
 obtain ⟨vs, h1, h2⟩ := h
 exact ⟨vs, own_grows h1 hg, fun i x hx => by obtain ⟨A1, c1, A2, c2, A3, c3, hp, hc⟩ := h2 i x hx; exact ⟨A1, c1, A2, c2, A3, c3, hp.grows hg, hc⟩⟩
theorem OwnB.only (h : OwnB w base lo v l) (hg : w.grownBy w' (some g)) (hb : g < base) (hl : g < lo) : OwnB w' base lo v l := by
 obtain ⟨vs, h1, h2⟩ := h
 refine ⟨vs, World.ownsRow.kept h1 hg ?_, fun i x hx => by obtain ⟨A1, c1, A2, c2, A3, c3, hp, hc⟩ := h2 i x hx; exact ⟨A1, c1, A2, c2, A3, c3, hp.grown hg (fun q e hq => by injection e with e; unfold Ap at hq; omega), hc⟩⟩
 cases e : v.ownBlock with
 | none => exact .inl rfl
 | some q =>
  refine .inr fun e2 => ?_
  have := (World.ownsRow.lt h1 q e).1
  injection e2 with e2
  omega
theorem OwnB.lt (h : OwnB w base lo v l) : ∀ q, v.ownBlock = some q → base ≤ q ∧ q < w.heap.size := by
 obtain ⟨vs, h1, -⟩ := h
 exact World.ownsRow.lt h1
theorem OwnB.read (h : OwnB w base lo v l) (hb : lo ≤ base) : ∃ A c, v = .slice A l.length c ∧ l.length ≤ c ∧ Bxs w (Ge lo) A l := by
 obtain ⟨vs, h1, h2⟩ := h
 have h3 : ∀ (i : Nat) (b : Bx), l[i]? = some b → ∃ A1 c1 A2 c2 A3 c3, BoxP w (Ge lo) b A1 c1 A2 c2 A3 c3 ∧ ∀ j < 4, vs[i * 4 + j]? = (b.cs A1 c1 A2 c2 A3 c3)[j]? := fun i b hx => by
  obtain ⟨A1, c1, A2, c2, A3, c3, hp, hc⟩ := h2 i b hx
  exact ⟨A1, c1, A2, c2, A3, c3, hp.mono (fun k hk => hk.1), hc⟩
 rcases h1.2 with ⟨rfl, hn⟩ | ⟨q, cap, cur, rfl, hbq, hg, hnc, hm, hs, ht⟩
 ·have e := List.eq_nil_of_length_eq_zero hn
  subst e
  exact ⟨none, 0, rfl, Nat.le_refl _, Bxs.nil⟩
 ·refine ⟨_, cap, rfl, hnc, vs, ⟨Reads.of_own h1, fun _ ad e => ?_⟩, h3⟩
  injection e with e
  subst e
  exact Nat.le_trans hb hbq
end
set_option maxRecDepth 100000 in
theorem box_info : ∃ i : TypeInfo, Tryz.prog.info? 61 = some i ∧ i.size = 4 ∧ i.bytes = 80 ∧ i.zero = some (.agg #[.int .i64 0, .slice none 0 0, .slice none 0 0, .slice none 0 0]) ∧ (Value.agg #[.int .i64 0, .slice none 0 0, .slice none 0 0, .slice none 0 0]).cells.size = 4 := ⟨_, by first | exact Tryz.info61 | rfl, rfl, rfl, rfl, rfl⟩
theorem cs_one (b : Bx) (A1 : Option Addr) (c1 : Nat) (A2 : Option Addr) (c2 : Nat) (A3 : Option Addr) (c3 : Nat) : ∀ u ∈ b.cs A1 c1 A2 c2 A3 c3, u.oneCell' = true := by
 intro u hu
 simp only [Bx.cs, List.mem_cons, List.not_mem_nil, or_false] at hu
 rcases hu with rfl | rfl | rfl | rfl <;> rfl
theorem bxs_one {l : List Bx} {vs : List Value} (hl : vs.length = l.length * 4) (h : ∀ (i : Nat) (b : Bx), l[i]? = some b → ∃ A1 c1 A2 c2 A3 c3, ∀ j < 4, vs[i * 4 + j]? = (b.cs A1 c1 A2 c2 A3 c3)[j]?) : ∀ u ∈ vs, u.oneCell' = true := by
 intro u hu
 obtain ⟨k, hk, e⟩ := List.mem_iff_getElem.1 hu
 have hi : k / 4 < l.length := by omega
 obtain ⟨A1, c1, A2, c2, A3, c3, hc⟩ := h (k / 4) _ (List.getElem?_eq_getElem hi)
 have h2 := hc (k % 4) (Nat.mod_lt _ (by omega))
 rw [show k / 4 * 4 + k % 4 = k by omega, List.getElem?_eq_getElem hk, e] at h2
 exact cs_one _ A1 c1 A2 c2 A3 c3 u (List.mem_of_getElem? h2.symm)
theorem wpList_append_boxes {ops : Array Oper} {rest : List Oper} {o : Oper} {a : Act} {w : World} {Q : Exit → Act → World → Prop} (hgd : o.guard = none) (s x : Operand) (ho : o.op = .call { callee := .builtin .append, args := #[s, x], argTypes := #[45, 45] })
 {base lo : Nat} {v : Value} {l m : List Bx} {A : Option Addr} {c n : Nat} (hn : n = m.length) (hs : a.eval s = v) (hown : OwnB w base lo v l) (hx : a.eval x = .slice A n c) (hr : Bxs w (Ap lo v) A m) (hlen : l.length + m.length ≤ 1000000) (hbase : base ≤ w.heap.size)
 (h : ∀ v' w', OwnB w' base lo v' (l ++ m) → w.grownBy w' v.ownBlock → (v'.ownBlock = v.ownBlock ∨ v'.ownBlock = some w.heap.size) → wpList Tryz.prog ops Q rest (a.put o.dst v') w') : wpList Tryz.prog ops Q (o :: rest) a w := by
 obtain ⟨i0, hi0, hi1, hi2, hi3, hi4⟩ := box_info
 obtain ⟨vs, h1, h2⟩ := hown
 obtain ⟨us, r1, r2⟩ := hr
 subst hn
 have hul := r1.1.1
 have hvl := h1.1
 refine wpList_append_any w hgd s x 45 ho base 61 i0 _ 4 80 Tryz.underlying45 hi0 hi3 hi1 hi2 hi4 (by omega) v l.length vs hs h1 w.heap.size A m.length c us hx r1.1 (bxs_one hul fun i b hb => by obtain ⟨A1, c1, A2, c2, A3, c3, _, hc⟩ := r2 i b hb; exact ⟨A1, c1, A2, c2, A3, c3, hc⟩) (by simp only [maxLen]; omega) (by omega) hbase fun v' w' h3 h4 h5 => h v' w' ⟨vs ++ us, by rw [List.length_append]; exact h3, fun i b hb => ?_⟩ h4 h5
 have hto : ∀ (b : Bx) (A1 : Option Addr) (c1 : Nat) (A2 : Option Addr) (c2 : Nat) (A3 : Option Addr) (c3 : Nat), BoxP w (Ap lo v) b A1 c1 A2 c2 A3 c3 → BoxP w' (Ap lo v') b A1 c1 A2 c2 A3 c3 := by
  intro b A1 c1 A2 c2 A3 c3 hp
  refine (hp.band.grown h4 (fun q e hq => hq.1.2 e)).mono fun k hk => ⟨hk.1.1, fun e => ?_⟩
  rcases h5 with h5 | h5
  ·exact hk.1.2 (h5 ▸ e)
  ·rw [h5] at e
   injection e with e
   have := hk.2
   omega
 by_cases hi : i < l.length
 ·rw [List.getElem?_append_left hi] at hb
  obtain ⟨A1, c1, A2, c2, A3, c3, hp, hc⟩ := h2 i b hb
  exact ⟨A1, c1, A2, c2, A3, c3, hto _ _ _ _ _ _ _ hp, fun j hj => by rw [List.getElem?_append_left (by omega)]; exact hc j hj⟩
 ·rw [List.getElem?_append_right (by omega)] at hb
  obtain ⟨A1, c1, A2, c2, A3, c3, hp, hc⟩ := r2 _ b hb
  exact ⟨A1, c1, A2, c2, A3, c3, hto _ _ _ _ _ _ _ hp, fun j hj => by rw [List.getElem?_append_right (by omega), show i * 4 + j - vs.length = (i - l.length) * 4 + j by omega]; exact hc j hj⟩
/-- A list with one box, laid by a literal. -/
theorem bxs_lit {w : World} {ok : Nat → Prop} {b : Bx} {A1 A2 A3 : Option Addr} {c1 c2 c3 : Nat} (hp : BoxP w ok b A1 c1 A2 c2 A3 c3) (hw : ok w.heap.size) : Bxs (w.alloc (.cells #[.int .i64 b.k, .slice A1 b.r.length c1, .slice A2 b.m.length c2, .slice A3 b.s.length c3] 61)) ok (some ⟨w.heap.size, 0, none⟩) [b] := by
 have hk := Blk.new w 61 #[.int .i64 b.k, .slice A1 b.r.length c1, .slice A2 b.m.length c2, .slice A3 b.s.length c3]
 have hq := (Below.refl w.heap.size w).alloc (Nat.le_refl _) (Obj.cells #[.int .i64 b.k, .slice A1 b.r.length c1, .slice A2 b.m.length c2, .slice A3 b.s.length c3] 61)
 refine ⟨b.cs A1 c1 A2 c2 A3 c3, ⟨⟨rfl, fun _ => ⟨_, rfl, hk.lt, fun j u hu => ?_⟩⟩, fun _ ad e => by injection e with e; subst e; exact hw⟩, fun i x hx => ?_⟩
 ·rw [add_head, hk.cell, ← Array.getElem?_toList]
  exact hu
 ·have hi0 : i = 0 := by
   have := (List.getElem?_eq_some_iff.1 hx).1
   simp only [List.length_singleton] at this
   omega
  subst hi0
  simp only [List.getElem?_cons_zero, Option.some.injEq] at hx
  subst hx
  exact ⟨A1, c1, A2, c2, A3, c3, hp.grows hq, fun j hj => by rw [Nat.zero_mul, Nat.zero_add]⟩
/-- Boxes that the maker makes. -/
def Fine (l : List Bx) : Prop := ∀ b ∈ l, fineB b = true ∧ OKB b ∧ I64 b.k ∧ Few b
theorem fine_nil : Fine [] := fun b hb => by cases hb
theorem fine_app {l m : List Bx} (h : Fine l) (h2 : Fine m) : Fine (l ++ m) := fun b hb => (List.mem_append.1 hb).elim (h b) (h2 b)
set_option maxHeartbeats 8000000 in
theorem boxes_any (B g least most : Nat) (w : World) (h : DR w B g) (hlm : least ≤ most) (hm : most ≤ 100) : Calls Tryz.prog 26 #[.pointer (some ⟨g, 0, none⟩), .int .i64 (least : Int), .int .i64 (most : Int)] w fun e w' => (∃ l v, e = .returned v ∧ OwnB w' w.heap.size w.heap.size v l ∧ Fine l ∧ least ≤ l.length ∧ l.length ≤ most) ∧ DR w' B g ∧ w.grownBy w' (some g) := by
 have hgl := h.lt
 have hw1 : IntKind.i64.wrap ((most : Int) - (least : Int)) = (most : Int) - (least : Int) := IntWalk.i64_in _ (by omega)
 have hw2 : IntKind.i64.wrap ((most : Int) - (least : Int) + 1) = (most : Int) - (least : Int) + 1 := IntWalk.i64_in _ (by omega)
 go_enter Tryz.func26, Tryz.ntmps26
 go_wp2_with fail
 refine (rolls_any B g ((most : Int) - (least : Int) + 1) _ h (by omega) (by omega)).mono ?_
 rintro e w1 ⟨⟨r, rfl, r0, r1⟩, hD, hO⟩
 obtain ⟨n0, hn0⟩ : ∃ n0 : Nat, (least : Int) + r = (n0 : Int) := ⟨((least : Int) + r).toNat, by omega⟩
 have hw3 : IntKind.i64.wrap ((least : Int) + r) = (n0 : Int) := by rw [IntWalk.i64_in _ (by omega)]; exact hn0
 have hn1 : least ≤ n0 ∧ n0 ≤ most := by omega
 clear hn0 h hw1 hw2
 have hsz := hO.size
 go_wp2_with fail
 go_loopw [7, 8] (fun v i wr => ∃ (n : Nat) (l : List Bx), n ≤ n0 ∧ i = .int .i64 n ∧ l.length + n = n0 ∧ Hid (Fine l) ∧ OwnB wr w.heap.size w.heap.size v l ∧ DR wr B g ∧ w.grownBy wr (some g)) (fun _ i _ => (intOf i).toNat)
 case atStart => exact ⟨n0, [], by omega, rfl, by simp, Lib.hid fine_nil, OwnB.nil, hD, hO⟩
 case round =>
  clear hD hO hsz
  obtain ⟨n, l, hn, rfl, hln, HF, ho, hD, hO⟩ := hrel
  have hsz := hO.size
  by_cases hpos : 0 < n
  ·have d1 : decide ((0 : Int) < (n : Int)) = true := by simp only [decide_eq_true_eq]; omega
   have d2 : decide (0 < n) = true := by simp only [decide_eq_true_eq]; omega
   have hwn : IntKind.i64.wrap ((n : Int) - 1) = ((n - 1 : Nat) : Int) := by rw [IntWalk.i64_in _ (by omega)]; omega
   go_upto_region 5 with fail
   refine wp_region_lit ?_
   iterate 2
    refine wpList_plain rfl (fun K hK => ?_)
    go_simp
    refine hK _ _ ?_
    clear hK K
   refine wpList_plain rfl (fun K hK => ?_)
   go_simp
   have hown := ho.lt
   refine (box_any B g _ hD).mono ?_
   rintro e wb ⟨⟨b, v2, rfl, ⟨A1, c1, A2, c2, A3, c3, rfl, hp⟩, hfb, hob, hib⟩, hDn, hq⟩
   have HFB : Hid (Fine [b]) := Lib.hid fun x hx => by simp only [List.mem_singleton] at hx; subst hx; exact ⟨hfb, hob, hib⟩
   clear hfb hob hib
   refine hK _ _ ?_
   clear hK K
   replace hp : BoxP wb (Ap w.heap.size _) b A1 c1 A2 c2 A3 c3 := hp.mono fun k hk => ⟨by unfold Ge at hk; omega, fun e => by have := (hown _ e).2; unfold Ge at hk; omega⟩
   replace ho := ho.only hq (by omega) (by omega)
   replace hO := only_trans hO hq
   replace hsz := Nat.le_trans hsz hq.size
   replace hown : ∀ q, _ = some q → w.heap.size ≤ q ∧ q < wb.heap.size := ho.lt
   clear hD hq
   refine wpList_plain rfl (fun K hK => ?_)
   go_simp
   refine hK _ _ ?_
   clear hK K
   have hL := bxs_lit hp ⟨hsz, fun e => by have := (hown _ e).2; omega⟩
   have hq := (Below.refl wb.heap.size wb).alloc (Nat.le_refl _) (Obj.cells #[.int .i64 b.k, .slice A1 b.r.length c1, .slice A2 b.m.length c2, .slice A3 b.s.length c3] 61)
   replace ho := ho.grows hq
   replace hDn := hDn.grows hq
   replace hO := d_only_grows hO hq
   replace hsz := Nat.le_trans hsz hq.size
   replace hown := ho.lt
   clear hq hp
   refine wpList_append_boxes rfl (.tmp 21) (.tmp 24) rfl (m := [b]) rfl rfl ho rfl hL (by simp only [List.length_singleton]; omega) hsz ?_
   intro v5 w12 ho2 hgr _
   replace hDn := hDn.grown hgr (fun q e => by have := (hown q e).1; omega)
   replace hO := only_own hO hgr (fun q e => (hown q e).1)
   have HF2 := Lib.hid (fine_app HF.out HFB.out)
   have hl2 : (l ++ [b]).length + (n - 1) = n0 := by rw [List.length_append, List.length_singleton]; omega
   clear hown hgr ho hL hsz HFB HF
   generalize l ++ [b] = l2 at *
   go_wp2
   go_roundw
   case rel => exact ⟨n - 1, l2, by omega, by go_num, hl2, HF2, ho2, hDn, hO⟩
   case measure => simp [intOf]; omega
  ·obtain rfl : n = 0 := by omega
   have d2 : decide ((0 : Int) < ((0 : Nat) : Int)) = false := by decide
   go_wp2
   go_ret
   exact ⟨⟨l, _, rfl, ho, HF.out, by omega, by omega⟩, hD, hO⟩
end Go.Proofs.YtjbkjgmcfommgaaGreat

namespace Go.Proofs.YtjbkjgmcfommgaaGreat
open Go.RowKit
/-- A list of ints in a block of its own, behind g. -/
def IB (g : Nat) (w : World) (q : Nat) (l : List Int) : Prop := g < q ∧ Blk w q 3 (l.map (Value.int .i64)).toArray
theorem IB.ints {g : Nat} {w : World} {q : Nat} {l : List Int} (h : IB g w q l) : Ints w (some ⟨q, 0, none⟩) l := by
 refine ⟨by simp, fun _ => ⟨_, rfl, h.2.lt, fun j u hu => ?_⟩⟩
 rw [add_head, h.2.cell, ← Array.getElem?_toList]
 exact hu
set_option maxHeartbeats 4000000 in
theorem maps_blk (w : World) : ∃ W A, Calls Tryz.prog 63 #[] w (fun e w' => e = .returned (.slice (some A) 7 7) ∧ w' = W) ∧ (∀ (k : Nat) (m : List Int), mapsL[k]? = some m → W.cell? (A.add k) = some (.slice (some ⟨w.heap.size + k, 0, none⟩) m.length m.length) ∧ Blk W (w.heap.size + k) 3 (m.map (Value.int .i64)).toArray) ∧ A.block < W.heap.size ∧ w.heap.size ≤ A.block ∧ Grows w W := by
 obtain ⟨W1, hW1⟩ : ∃ W, W = w.alloc (Obj.cells #[.int .i64 3] 3) := ⟨_, rfl⟩
 have s1 : W1.heap.size = w.heap.size + 1 := by rw [hW1]; simp
 have i1 : Blk W1 (w.heap.size + 0) 3 #[.int .i64 3] := by rw [hW1]; exact Blk.new _ _ _
 have g1 : Grows w W1 := by rw [hW1]; exact (Below.refl _ _).alloc (Nat.le_refl _) _
 obtain ⟨W2, hW2⟩ : ∃ W, W = W1.alloc (Obj.cells #[.int .i64 1, .int .i64 2] 3) := ⟨_, rfl⟩
 have s2 : W2.heap.size = w.heap.size + 2 := by rw [hW2]; simp [s1]
 have i2 : Blk W2 (w.heap.size + 1) 3 #[.int .i64 1, .int .i64 2] := by rw [← s1, hW2]; exact Blk.new _ _ _
 have g2 : Grows W1 W2 := by rw [hW2]; exact (Below.refl _ _).alloc (Nat.le_refl _) _
 obtain ⟨W3, hW3⟩ : ∃ W, W = W2.alloc (Obj.cells #[.int .i64 1, .int .i64 2, .int .i64 3, .int .i64 4, .int .i64 5, .int .i64 6] 3) := ⟨_, rfl⟩
 have s3 : W3.heap.size = w.heap.size + 3 := by rw [hW3]; simp [s2]
 have i3 : Blk W3 (w.heap.size + 2) 3 #[.int .i64 1, .int .i64 2, .int .i64 3, .int .i64 4, .int .i64 5, .int .i64 6] := by rw [← s2, hW3]; exact Blk.new _ _ _
 have g3 : Grows W2 W3 := by rw [hW3]; exact (Below.refl _ _).alloc (Nat.le_refl _) _
 obtain ⟨W4, hW4⟩ : ∃ W, W = W3.alloc (Obj.cells #[.int .i64 2, .int .i64 1] 3) := ⟨_, rfl⟩
 have s4 : W4.heap.size = w.heap.size + 4 := by rw [hW4]; simp [s3]
 have i4 : Blk W4 (w.heap.size + 3) 3 #[.int .i64 2, .int .i64 1] := by rw [← s3, hW4]; exact Blk.new _ _ _
 have g4 : Grows W3 W4 := by rw [hW4]; exact (Below.refl _ _).alloc (Nat.le_refl _) _
 obtain ⟨W5, hW5⟩ : ∃ W, W = W4.alloc (Obj.cells #[.int .i64 1, .int .i64 2, .int .i64 7, .int .i64 8] 3) := ⟨_, rfl⟩
 have s5 : W5.heap.size = w.heap.size + 5 := by rw [hW5]; simp [s4]
 have i5 : Blk W5 (w.heap.size + 4) 3 #[.int .i64 1, .int .i64 2, .int .i64 7, .int .i64 8] := by rw [← s4, hW5]; exact Blk.new _ _ _
 have g5 : Grows W4 W5 := by rw [hW5]; exact (Below.refl _ _).alloc (Nat.le_refl _) _
 obtain ⟨W6, hW6⟩ : ∃ W, W = W5.alloc (Obj.cells #[.int .i64 4] 3) := ⟨_, rfl⟩
 have s6 : W6.heap.size = w.heap.size + 6 := by rw [hW6]; simp [s5]
 have i6 : Blk W6 (w.heap.size + 5) 3 #[.int .i64 4] := by rw [← s5, hW6]; exact Blk.new _ _ _
 have g6 : Grows W5 W6 := by rw [hW6]; exact (Below.refl _ _).alloc (Nat.le_refl _) _
 obtain ⟨W7, hW7⟩ : ∃ W, W = W6.alloc (Obj.cells #[.int .i64 1, .int .i64 3] 3) := ⟨_, rfl⟩
 have s7 : W7.heap.size = w.heap.size + 7 := by rw [hW7]; simp [s6]
 have i7 : Blk W7 (w.heap.size + 6) 3 #[.int .i64 1, .int .i64 3] := by rw [← s6, hW7]; exact Blk.new _ _ _
 have g7 : Grows W6 W7 := by rw [hW7]; exact (Below.refl _ _).alloc (Nat.le_refl _) _
 obtain ⟨W8, hW8⟩ : ∃ W, W = W7.alloc (Obj.cells #[.slice (some ⟨w.heap.size, 0, none⟩) 1 1, .slice (some ⟨w.heap.size + 1, 0, none⟩) 2 2, .slice (some ⟨w.heap.size + 2, 0, none⟩) 6 6, .slice (some ⟨w.heap.size + 3, 0, none⟩) 2 2, .slice (some ⟨w.heap.size + 4, 0, none⟩) 4 4, .slice (some ⟨w.heap.size + 5, 0, none⟩) 1 1, .slice (some ⟨w.heap.size + 6, 0, none⟩) 2 2] 38) := ⟨_, rfl⟩
 have k8 : Blk W8 (w.heap.size + 7) 38 #[.slice (some ⟨w.heap.size, 0, none⟩) 1 1, .slice (some ⟨w.heap.size + 1, 0, none⟩) 2 2, .slice (some ⟨w.heap.size + 2, 0, none⟩) 6 6, .slice (some ⟨w.heap.size + 3, 0, none⟩) 2 2, .slice (some ⟨w.heap.size + 4, 0, none⟩) 4 4, .slice (some ⟨w.heap.size + 5, 0, none⟩) 1 1, .slice (some ⟨w.heap.size + 6, 0, none⟩) 2 2] := by rw [hW8, ← s7]; exact Blk.new _ _ _
 have g8 : Grows W7 W8 := by rw [hW8]; exact (Below.refl _ _).alloc (Nat.le_refl _) _
 have s8 : W8.heap.size = w.heap.size + 8 := by rw [hW8]; simp [s7]
 have j1 := (((((((i1.grows g2).grows g3).grows g4).grows g5).grows g6).grows g7).grows g8)
 have j2 := ((((((i2.grows g3).grows g4).grows g5).grows g6).grows g7).grows g8)
 have j3 := (((((i3.grows g4).grows g5).grows g6).grows g7).grows g8)
 have j4 := ((((i4.grows g5).grows g6).grows g7).grows g8)
 have j5 := (((i5.grows g6).grows g7).grows g8)
 have j6 := ((i6.grows g7).grows g8)
 have j7 := (i7.grows g8)
 have gA : Grows w W8 := (below_grows (below_grows (below_grows (below_grows (below_grows (below_grows (below_grows g1 (Nat.le_refl _) g2) (Nat.le_refl _) g3) (Nat.le_refl _) g4) (Nat.le_refl _) g5) (Nat.le_refl _) g6) (Nat.le_refl _) g7) (Nat.le_refl _) g8)
 refine ⟨W8, ⟨w.heap.size + 7, 0, none⟩, ?_, fun k m hm => ?_, by rw [s8]; exact Nat.lt_succ_self _, Nat.le_add_right _ _, gA⟩
 ·clear gA k8 i1 i2 i3 i4 i5 i6 i7 j1 j2 j3 j4 j5 j6 j7 g1 g2 g3 g4 g5 g6 g7 g8 s1 s2 s3 s4 s5 s6 s7 s8
  subst hW1 hW2 hW3 hW4 hW5 hW6 hW7 hW8
  go_enter Tryz.func63, Tryz.ntmps63
  go_wp2
  go_ret
  exact ⟨rfl, rfl⟩
 ·rw [add_head, k8.cell]
  match k, hm with
  | 0, hm => (injection hm with hm; subst hm; exact ⟨rfl, j1⟩)
  | 1, hm => (injection hm with hm; subst hm; exact ⟨rfl, j2⟩)
  | 2, hm => (injection hm with hm; subst hm; exact ⟨rfl, j3⟩)
  | 3, hm => (injection hm with hm; subst hm; exact ⟨rfl, j4⟩)
  | 4, hm => (injection hm with hm; subst hm; exact ⟨rfl, j5⟩)
  | 5, hm => (injection hm with hm; subst hm; exact ⟨rfl, j6⟩)
  | 6, hm => (injection hm with hm; subst hm; exact ⟨rfl, j7⟩)
  | i + 7, hm => exact absurd (List.getElem?_eq_some_iff.1 hm).1 (by rw [mapsL_len]; omega)
set_option maxHeartbeats 4000000 in
theorem mapb_any (B g : Nat) (w : World) (h : DR w B g) : Calls Tryz.prog 36 #[.pointer (some ⟨g, 0, none⟩)] w fun e w' => (∃ m q, e = .returned (.slice (some ⟨q, 0, none⟩) (m : List Int).length m.length) ∧ m ∈ mapsL ∧ w.heap.size ≤ q ∧ IB g w' q m) ∧ DR w' B g ∧ w.grownBy w' (some g) := by
 have hgl := h.lt
 obtain ⟨W, A, hcall, hm, hA, hA2, hg⟩ := maps_blk w
 replace h := h.grows hg
 have hq := d_only_grows (World.grownBy.refl w (some g)) hg
 go_enter Tryz.func36, Tryz.ntmps36
 go_wp2_with fail
 refine hcall.mono ?_
 rintro e w1 ⟨rfl, rfl⟩
 clear hcall
 go_wp2_with fail
 refine (rolls_any B g 7 _ h (by omega) (by omega)).mono ?_
 rintro e w2 ⟨⟨r, rfl, hr0, hr1⟩, hD, hq2⟩
 replace hq := only_trans hq hq2
 obtain ⟨k, rfl⟩ : ∃ k : Nat, r = (k : Int) := ⟨r.toNat, by omega⟩
 have hk7 : k < mapsL.length := by rw [mapsL_len]; omega
 obtain ⟨hc, hb⟩ := hm k _ (List.getElem?_eq_getElem hk7)
 have HX := Lib.hid (List.getElem_mem hk7)
 generalize mapsL[k] = m at *
 replace hb := hb.grown hq2 (by intro e; injection e; omega)
 have q0 : w2.cell? (A.add k) = some (.slice (some ⟨w.heap.size + k, 0, none⟩) m.length m.length) := by
  rw [← hc]
  exact World.cell?_of_block (hq2.block _ (by rw [block_of_add]; exact hA) (by rw [block_of_add]; intro e; injection e; omega))
 clear hq2 h hg hm hc
 go_wp2
 go_ret
 exact ⟨⟨m, _, rfl, HX.out, Nat.le_add_right _ _, by omega, hb⟩, hD, hq⟩
/-- What leaves the blocks of ints alone, but for g. -/
def TrI (g : Nat) (w w' : World) : Prop := ∀ (q : Nat) (l : List Int), IB g w q l → IB g w' q l
theorem tr_grows {g : Nat} {w w' : World} (h : Grows w w') : TrI g w w' := fun _ _ hb => ⟨hb.1, hb.2.grows h⟩
theorem tr_onlyq {g eb : Nat} {w w' : World} (hg : g ≤ eb) (h : w.grownBy w' (some g)) : TrI eb w w' := fun _ _ hb => ⟨hb.1, hb.2.grown h (by intro e; injection e with e; have := hb.1; omega)⟩
theorem tr_set {g q : Nat} {w : World} {t : TypeId} {cs : Array Value} (h : Blk w q t cs) (hne : 3 ≠ t) (i : Nat) (u : Value) : TrI g w (w.setCell ⟨q, i, none⟩ u) := fun _ _ hb => ⟨hb.1, hb.2.far (p := ⟨q, i, none⟩) (Blk.ne_ hb.2 h hne) u⟩
theorem tr_trans {g : Nat} {a b c : World} (h : TrI g a b) (h2 : TrI g b c) : TrI g a c := fun q l hb => h2 q l (h q l hb)
structure GT (g : Nat) where
 P : World → Value → Prop
 cl : ∀ w w' v, P w v → TrI g w w' → P w' v
def DtS {g : Nat} (DS : List (Option (GT g))) (L : Ran) (vs : Nat → Value) (w : World) : Prop := ∀ (j : Nat) (p : GT g), DS[j]? = some (some p) → L j = true → p.P w (vs j)
section
variable {g : Nat} {DS : List (Option (GT g))} {L : Ran} {vs : Nat → Value} {w w' : World} {k : Nat} {u : Value}
theorem dt_none (DS : List (Option (GT g))) (vs : Nat → Value) (w : World) : DtS DS (fun _ => false) vs w := fun _ _ _ h => by cases h
theorem DtS.tr (h : DtS DS L vs w) (hg : TrI g w w') : DtS DS L vs w' := fun j P hj hL => P.cl w w' (vs j) (h j P hj hL) hg
theorem dt_free (h : DtS DS L vs w) (hk : DS[k]? = some none) : DtS DS (upd L k) (setV vs k u) w := by
 intro j P hj hL
 unfold setV
 unfold upd at hL
 by_cases e : j = k
 ·subst e
  rw [hk] at hj
  cases hj
 ·rw [if_neg e] at hL ⊢
  exact h j P hj hL
theorem dt_put {p : GT g} (h : DtS DS L vs w) (hk : DS[k]? = some (some p)) (hP : p.P w u) : DtS DS (upd L k) (setV vs k u) w := by
 intro j P' hj hL
 unfold setV
 unfold upd at hL
 by_cases e : j = k
 ·subst e
  rw [hk] at hj
  injection hj with hj
  injection hj with hj
  subst hj
  rw [if_pos rfl]
  exact hP
 ·rw [if_neg e] at hL ⊢
  exact h j P' hj hL
end
def gInt (g : Nat) (lo hi : Int) : GT g := ⟨fun _ v => ∃ r, v = .int .i64 r ∧ lo ≤ r ∧ r ≤ hi, fun _ _ _ h _ => h⟩
def gIdx (g n : Nat) : GT g := ⟨fun _ v => ∃ k : Nat, v = .int .i64 (k : Int) ∧ k < n, fun _ _ _ h _ => h⟩
def gLit (g : Nat) (l : List Int) : GT g := ⟨fun w v => ∃ q, v = .slice (some ⟨q, 0, none⟩) 5 5 ∧ IB g w q l, fun _ _ _ ⟨q, e, h⟩ t => ⟨q, e, t q l h⟩⟩
def gPtr (g : Nat) (l : List Int) : GT g := ⟨fun w v => ∃ q k, v = .pointer (some ⟨q, k, none⟩) ∧ k < 5 ∧ IB g w q l, fun _ _ _ ⟨q, k, e, hk, h⟩ t => ⟨q, k, e, hk, t q l h⟩⟩
def gMap (g : Nat) : GT g := ⟨fun w v => ∃ (m : List Int) (q : Nat), v = .slice (some ⟨q, 0, none⟩) m.length m.length ∧ m ∈ mapsL ∧ IB g w q m, fun _ _ _ ⟨m, q, e, hm, h⟩ t => ⟨m, q, e, hm, t q m h⟩⟩
def gFmt (g : Nat) : GT g := ⟨fun w v => ∃ (a b : Int) (m : List Int) (q : Nat), v = .agg #[.int .i64 a, .int .i64 b, .slice (some ⟨q, 0, none⟩) m.length m.length] ∧ 0 ≤ b ∧ b ≤ 100000 ∧ m ∈ mapsL ∧ IB g w q m, fun _ _ _ ⟨a, b, m, q, e, h1, h2, hm, h⟩ t => ⟨a, b, m, q, e, h1, h2, hm, t q m h⟩⟩
def CQ (c : Ch) (q : Nat) : Array Value := #[.int .i64 c.k, .int .i64 c.r, .slice (some ⟨q, 0, none⟩) c.m.length c.m.length, .int .i64 c.s]
def gCho (g : Nat) : GT g := ⟨fun w v => ∃ (c : Ch) (q : Nat), v = .agg (CQ c q) ∧ OKC c ∧ c.m ∈ mapsL ∧ IB g w q c.m, fun _ _ _ ⟨c, q, e, h1, hm, h⟩ t => ⟨c, q, e, h1, hm, t q c.m h⟩⟩
end Go.Proofs.YtjbkjgmcfommgaaGreat

namespace Go.Proofs.YtjbkjgmcfommgaaGreat
open Go.RowKit
theorem bestL_okc {c : Ch} {l : List Bx} (h : ∀ b ∈ l, OKB b) : OKC (bestL (bestR c) c l).1 := by
 unfold bestL
 have key : ∀ (m : List Bx) (s : Ch × Bool), (∀ b ∈ m, OKB b) → OKC s.1 → OKC (m.foldl (bestStep (bestR c) c) s).1 := by
  intro m
  induction m with
  | nil => exact fun s _ hs => hs
  | cons b m ih =>
   intro s hm hs
   refine ih _ (fun b hb => hm b (List.mem_cons_of_mem _ hb)) ?_
   unfold bestStep
   split
   ·exact okc_bestR (hm b (List.mem_cons_self ..))
   ·exact hs
 exact key _ _ (boxes_ok h) okc_zero
set_option maxHeartbeats 32000000 in
set_option maxRecDepth 10000 in
theorem choice_anyq (B g : Nat) {ok : Nat → Prop} {A : Option Addr} {c0 : Nat} {l : List Bx} (w : World) (h : DR w B g) (hl : Bxs w ok A l) (hln : l.length ≤ 1000000) (hlc : l.length ≤ c0) (hf : Fine l) (hxg : ∀ k, ok k → g < k) : Calls Tryz.prog 15 #[.pointer (some ⟨g, 0, none⟩), .slice A l.length c0] w fun e w' => (∃ c v, e = .returned v ∧ ChV w' (fun k => ok k ∨ w.heap.size ≤ k) c v ∧ OKC c) ∧ DR w' B g ∧ w.grownBy w' (some g) := by
 have HF := Lib.hid hf
 clear hf
 have hgl := h.lt
 obtain ⟨eb, heb⟩ : ∃ eb, eb + 1 = w.heap.size := ⟨w.heap.size - 1, by omega⟩
 have hgeb : g ≤ eb := by omega
 have hBg := h.lo
 have k4 := Blk.new w 42 #[.int .i64 0, .int .i64 0, .slice none 0 0, .int .i64 0]
 have hB := (Below.refl w.heap.size w).alloc (Nat.le_refl _) (Obj.cells #[.int .i64 0, .int .i64 0, .slice none 0 0, .int .i64 0] 42)
 have hbw := hl.bd
 clear hl
 go_enter Tryz.func15, Tryz.ntmps15
 go_upto_region 1 with fail
 have hD := h.grows hB
 have hO := d_only_grows (World.grownBy.refl w (some g)) hB
 clear hB h
 generalize World.alloc w _ = w0 at *
 obtain ⟨S, HI, HO⟩ := hideS fun (L : Ran) (vs : Nat → Value) (w' : World) => Blk w' w.heap.size 42 #[.int .i64 0, .int .i64 0, .slice none 0 0, .int .i64 0] ∧ DR w' B g ∧ w.grownBy w' (some g) ∧ KnS [some (.pointer (some ⟨g, 0, none⟩)), none, none, none, some (.pointer (some ⟨g, 0, none⟩)), none, none, none, some (.pointer (some ⟨g, 0, none⟩)), none, none, none, some (.pointer (some ⟨g, 0, none⟩)), none, none, none, none, none, none] L vs ∧ DtS ([none, some (gInt eb 0 6), some (gInt eb 1 7), some (gLit eb [44100, 48000, 8000, 40000, 96000]), none, some (gIdx eb 5), some (gPtr eb [44100, 48000, 8000, 40000, 96000]), some (gInt eb 0 100000), none, some (gMap eb), some (gFmt eb), some (gLit eb [16, 64, 100, 1024, 2048]), none, some (gIdx eb 5), some (gPtr eb [16, 64, 100, 1024, 2048]), some (gInt eb 0 100000), some (gCho eb), none, none] : List (Option (GT eb))) L vs w' ∧ (L 17 = true → ∃ q5, vs 17 = .pointer (some ⟨q5, 0, none⟩) ∧ w.heap.size < q5 ∧ (L 18 = false → Blk w' q5 42 #[.int .i64 0, .int .i64 0, .slice none 0 0, .int .i64 0]) ∧ (L 18 = true → ∃ (c : Ch) (q : Nat), Blk w' q5 42 (CQ c q) ∧ OKC c ∧ c.m ∈ mapsL ∧ IB eb w' q c.m)) ∧ (L 18 = true → L 17 = true)
 refine wp_region_genW S 47 (by kernel_rfl) (by kernel_rfl) rfl ?_ ?_
 ·exact HI.out _ _ _ ⟨k4.grows (Grows.drew' _), hD.grows (Grows.drew' _), d_only_grows hO (Grows.drew' _), kn_none _ _, dt_none _ _ _, (fun h => by cases h), (fun h => by cases h)⟩
 refine gen_consR (fun vs L w1 hL hw1 => ?_) ?_
 ·obtain ⟨q0, qd, qo, q1, q2, qp, qs⟩ := HO.out _ _ _ hw1
  refine gen_plain rfl ?_
  go_simp
  exact gr_val (HI.out _ _ _ ⟨q0, qd, qo, kn_known q1 rfl, dt_free q2 rfl, qp, qs⟩)
 refine gen_consR (fun vs L w1 hL hw1 => ?_) ?_
 ·obtain ⟨q0, qd, qo, q1, q2, qp, qs⟩ := HO.out _ _ _ hw1
  refine gen_plain rfl ?_
  have l0 : L 0 = true := hL.need 0 (by kernel_rfl)
  have e0 := q1 0 _ rfl l0
  simp only [e0]
  go_simp
  refine gr_call ?_
  refine (rolls_any B g 7 _ qd (by omega) (by omega)).mono ?_
  rintro e w2 ⟨⟨r, rfl, hr0, hr1⟩, hd2, hq⟩
  exact ⟨_, rfl, HI.out _ _ _ ⟨q0.grown hq (by intro e; injection e; omega), hd2, only_trans qo hq, kn_free q1 rfl, dt_put (q2.tr (tr_onlyq hgeb hq)) rfl (⟨r, rfl, hr0, by omega⟩), (fun h => by obtain ⟨q5, e5, h5, hz, hc⟩ := qp h; exact ⟨q5, e5, h5, fun h0 => (hz h0).grown hq (by intro e; injection e; omega), fun h0 => by obtain ⟨c, q, hb, hok, hm, hi⟩ := hc h0; exact ⟨c, q, hb.grown hq (by intro e; injection e; omega), hok, hm, tr_onlyq hgeb hq _ _ hi⟩⟩), qs⟩⟩
 refine gen_consR (fun vs L w1 hL hw1 => ?_) ?_
 ·obtain ⟨q0, qd, qo, q1, q2, qp, qs⟩ := HO.out _ _ _ hw1
  refine gen_plain rfl ?_
  have l1 : L 1 = true := hL.need 1 (by kernel_rfl)
  obtain ⟨r, e1, hr0, hr1⟩ := q2 1 _ rfl l1
  have hwr : IntKind.i64.wrap (1 + r) = 1 + r := IntWalk.i64_in _ (by omega)
  simp only [e1]
  go_simp
  exact gr_val (HI.out _ _ _ ⟨q0, qd, qo, kn_free q1 rfl, dt_put q2 rfl (⟨1 + r, rfl, by omega, by omega⟩), qp, qs⟩)
 refine gen_consR (fun vs L w1 hL hw1 => ?_) ?_
 ·obtain ⟨q0, qd, qo, q1, q2, qp, qs⟩ := HO.out _ _ _ hw1
  refine gen_plain rfl ?_
  have hk := Blk.new w1 3 #[.int .i64 44100, .int .i64 48000, .int .i64 8000, .int .i64 40000, .int .i64 96000]
  have hg := (Below.refl w1.heap.size w1).alloc (Nat.le_refl _) (Obj.cells #[.int .i64 44100, .int .i64 48000, .int .i64 8000, .int .i64 40000, .int .i64 96000] 3)
  have hsz := qo.size
  have hgl1 : eb < w1.heap.size := by omega
  go_simp
  exact gr_val (HI.out _ _ _ ⟨q0.grows hg, qd.grows hg, d_only_grows qo hg, kn_free q1 rfl, dt_put (q2.tr (tr_grows hg)) rfl ⟨_, rfl, hgl1, hk⟩, (fun h => by obtain ⟨q5, e5, h5, hz, hc⟩ := qp h; exact ⟨q5, e5, h5, fun h0 => (hz h0).grows hg, fun h0 => by obtain ⟨c, q, hb, hok, hm, hi⟩ := hc h0; exact ⟨c, q, hb.grows hg, hok, hm, tr_grows hg _ _ hi⟩⟩), qs⟩)
 refine gen_consR (fun vs L w1 hL hw1 => ?_) ?_
 ·obtain ⟨q0, qd, qo, q1, q2, qp, qs⟩ := HO.out _ _ _ hw1
  refine gen_plain rfl ?_
  go_simp
  exact gr_val (HI.out _ _ _ ⟨q0, qd, qo, kn_known q1 rfl, dt_free q2 rfl, qp, qs⟩)
 refine gen_consR (fun vs L w1 hL hw1 => ?_) ?_
 ·obtain ⟨q0, qd, qo, q1, q2, qp, qs⟩ := HO.out _ _ _ hw1
  refine gen_plain rfl ?_
  have l4 : L 4 = true := hL.need 4 (by kernel_rfl)
  have e4 := q1 4 _ rfl l4
  simp only [e4]
  go_simp
  refine gr_call ?_
  refine (rolls_any B g 5 _ qd (by omega) (by omega)).mono ?_
  rintro e w2 ⟨⟨r, rfl, hr0, hr1⟩, hd2, hq⟩
  exact ⟨_, rfl, HI.out _ _ _ ⟨q0.grown hq (by intro e; injection e; omega), hd2, only_trans qo hq, kn_free q1 rfl, dt_put (q2.tr (tr_onlyq hgeb hq)) rfl (⟨r.toNat, by rw [Int.toNat_of_nonneg hr0], by omega⟩), (fun h => by obtain ⟨q5, e5, h5, hz, hc⟩ := qp h; exact ⟨q5, e5, h5, fun h0 => (hz h0).grown hq (by intro e; injection e; omega), fun h0 => by obtain ⟨c, q, hb, hok, hm, hi⟩ := hc h0; exact ⟨c, q, hb.grown hq (by intro e; injection e; omega), hok, hm, tr_onlyq hgeb hq _ _ hi⟩⟩), qs⟩⟩
 refine gen_consR (fun vs L w1 hL hw1 => ?_) ?_
 ·obtain ⟨q0, qd, qo, q1, q2, qp, qs⟩ := HO.out _ _ _ hw1
  refine gen_plain rfl ?_
  have l3 : L 3 = true := hL.need 3 (by kernel_rfl)
  obtain ⟨qa, e3, hib⟩ := q2 3 _ rfl l3
  have l5 : L 5 = true := hL.need 5 (by kernel_rfl)
  obtain ⟨kb, e5, hkb⟩ := q2 5 _ rfl l5
  have hkb2 : (kb : Int) < 5 := by omega
  simp only [e3, e5]
  go_simp
  exact gr_val (HI.out _ _ _ ⟨q0, qd, qo, kn_free q1 rfl, dt_put q2 rfl (⟨qa, kb, rfl, hkb, hib⟩), qp, qs⟩)
 refine gen_consR (fun vs L w1 hL hw1 => ?_) ?_
 ·obtain ⟨q0, qd, qo, q1, q2, qp, qs⟩ := HO.out _ _ _ hw1
  refine gen_plain rfl ?_
  have l6 : L 6 = true := hL.need 6 (by kernel_rfl)
  obtain ⟨qa, kb, e6, hkb, hib⟩ := q2 6 _ rfl l6
  have hx : w1.cell? ⟨qa, kb, none⟩ = some (.int .i64 (([44100, 48000, 8000, 40000, 96000] : List Int).getD kb 0)) := by
   rw [hib.2.cell]
   match kb, hkb with
   | 0, _ => rfl
   | 1, _ => rfl
   | 2, _ => rfl
   | 3, _ => rfl
   | 4, _ => rfl
  have hr : 0 ≤ ([44100, 48000, 8000, 40000, 96000] : List Int).getD kb 0 ∧ ([44100, 48000, 8000, 40000, 96000] : List Int).getD kb 0 ≤ 100000 := by
   match kb, hkb with
   | 0, _ => decide
   | 1, _ => decide
   | 2, _ => decide
   | 3, _ => decide
   | 4, _ => decide
  generalize ([44100, 48000, 8000, 40000, 96000] : List Int).getD kb 0 = rv at *
  simp only [e6]
  go_simp
  exact gr_val (HI.out _ _ _ ⟨q0, qd, qo, kn_free q1 rfl, dt_put q2 rfl (⟨rv, rfl, hr.1, hr.2⟩), qp, qs⟩)
 refine gen_consR (fun vs L w1 hL hw1 => ?_) ?_
 ·obtain ⟨q0, qd, qo, q1, q2, qp, qs⟩ := HO.out _ _ _ hw1
  refine gen_plain rfl ?_
  go_simp
  exact gr_val (HI.out _ _ _ ⟨q0, qd, qo, kn_known q1 rfl, dt_free q2 rfl, qp, qs⟩)
 refine gen_consR (fun vs L w1 hL hw1 => ?_) ?_
 ·obtain ⟨q0, qd, qo, q1, q2, qp, qs⟩ := HO.out _ _ _ hw1
  refine gen_plain rfl ?_
  have l8 : L 8 = true := hL.need 8 (by kernel_rfl)
  have e8 := q1 8 _ rfl l8
  simp only [e8]
  go_simp
  refine gr_call ?_
  refine (mapb_any B g _ qd).mono ?_
  rintro e w2 ⟨⟨m, q, rfl, hm, hq1, hib⟩, hd2, hq⟩
  replace hib : IB eb w2 q m := ⟨by have := qo.size; omega, hib.2⟩
  exact ⟨_, rfl, HI.out _ _ _ ⟨q0.grown hq (by intro e; injection e; omega), hd2, only_trans qo hq, kn_free q1 rfl, dt_put (q2.tr (tr_onlyq hgeb hq)) rfl (⟨m, q, rfl, hm, hib⟩), (fun h => by obtain ⟨q5, e5, h5, hz, hc⟩ := qp h; exact ⟨q5, e5, h5, fun h0 => (hz h0).grown hq (by intro e; injection e; omega), fun h0 => by obtain ⟨c, q, hb, hok, hm, hi⟩ := hc h0; exact ⟨c, q, hb.grown hq (by intro e; injection e; omega), hok, hm, tr_onlyq hgeb hq _ _ hi⟩⟩), qs⟩⟩
 refine gen_consR (fun vs L w1 hL hw1 => ?_) ?_
 ·obtain ⟨q0, qd, qo, q1, q2, qp, qs⟩ := HO.out _ _ _ hw1
  refine gen_plain rfl ?_
  have l2 : L 2 = true := hL.need 2 (by kernel_rfl)
  obtain ⟨r2, e2, h20, h21⟩ := q2 2 _ rfl l2
  have l7 : L 7 = true := hL.need 7 (by kernel_rfl)
  obtain ⟨r7, e7, h70, h71⟩ := q2 7 _ rfl l7
  have l9 : L 9 = true := hL.need 9 (by kernel_rfl)
  obtain ⟨m, q, e9, hm, hib⟩ := q2 9 _ rfl l9
  simp only [e2, e7, e9]
  go_simp
  exact gr_val (HI.out _ _ _ ⟨q0, qd, qo, kn_free q1 rfl, dt_put q2 rfl (⟨r2, r7, m, q, rfl, h70, h71, hm, hib⟩), qp, qs⟩)
 refine gen_consR (fun vs L w1 hL hw1 => ?_) ?_
 ·obtain ⟨q0, qd, qo, q1, q2, qp, qs⟩ := HO.out _ _ _ hw1
  refine gen_plain rfl ?_
  have hk := Blk.new w1 3 #[.int .i64 16, .int .i64 64, .int .i64 100, .int .i64 1024, .int .i64 2048]
  have hg := (Below.refl w1.heap.size w1).alloc (Nat.le_refl _) (Obj.cells #[.int .i64 16, .int .i64 64, .int .i64 100, .int .i64 1024, .int .i64 2048] 3)
  have hsz := qo.size
  have hgl1 : eb < w1.heap.size := by omega
  go_simp
  exact gr_val (HI.out _ _ _ ⟨q0.grows hg, qd.grows hg, d_only_grows qo hg, kn_free q1 rfl, dt_put (q2.tr (tr_grows hg)) rfl ⟨_, rfl, hgl1, hk⟩, (fun h => by obtain ⟨q5, e5, h5, hz, hc⟩ := qp h; exact ⟨q5, e5, h5, fun h0 => (hz h0).grows hg, fun h0 => by obtain ⟨c, q, hb, hok, hm, hi⟩ := hc h0; exact ⟨c, q, hb.grows hg, hok, hm, tr_grows hg _ _ hi⟩⟩), qs⟩)
 refine gen_consR (fun vs L w1 hL hw1 => ?_) ?_
 ·obtain ⟨q0, qd, qo, q1, q2, qp, qs⟩ := HO.out _ _ _ hw1
  refine gen_plain rfl ?_
  go_simp
  exact gr_val (HI.out _ _ _ ⟨q0, qd, qo, kn_known q1 rfl, dt_free q2 rfl, qp, qs⟩)
 refine gen_consR (fun vs L w1 hL hw1 => ?_) ?_
 ·obtain ⟨q0, qd, qo, q1, q2, qp, qs⟩ := HO.out _ _ _ hw1
  refine gen_plain rfl ?_
  have l12 : L 12 = true := hL.need 12 (by kernel_rfl)
  have e12 := q1 12 _ rfl l12
  simp only [e12]
  go_simp
  refine gr_call ?_
  refine (rolls_any B g 5 _ qd (by omega) (by omega)).mono ?_
  rintro e w2 ⟨⟨r, rfl, hr0, hr1⟩, hd2, hq⟩
  exact ⟨_, rfl, HI.out _ _ _ ⟨q0.grown hq (by intro e; injection e; omega), hd2, only_trans qo hq, kn_free q1 rfl, dt_put (q2.tr (tr_onlyq hgeb hq)) rfl (⟨r.toNat, by rw [Int.toNat_of_nonneg hr0], by omega⟩), (fun h => by obtain ⟨q5, e5, h5, hz, hc⟩ := qp h; exact ⟨q5, e5, h5, fun h0 => (hz h0).grown hq (by intro e; injection e; omega), fun h0 => by obtain ⟨c, q, hb, hok, hm, hi⟩ := hc h0; exact ⟨c, q, hb.grown hq (by intro e; injection e; omega), hok, hm, tr_onlyq hgeb hq _ _ hi⟩⟩), qs⟩⟩
 refine gen_consR (fun vs L w1 hL hw1 => ?_) ?_
 ·obtain ⟨q0, qd, qo, q1, q2, qp, qs⟩ := HO.out _ _ _ hw1
  refine gen_plain rfl ?_
  have l11 : L 11 = true := hL.need 11 (by kernel_rfl)
  obtain ⟨qa, e11, hib⟩ := q2 11 _ rfl l11
  have l13 : L 13 = true := hL.need 13 (by kernel_rfl)
  obtain ⟨kb, e13, hkb⟩ := q2 13 _ rfl l13
  have hkb2 : (kb : Int) < 5 := by omega
  simp only [e11, e13]
  go_simp
  exact gr_val (HI.out _ _ _ ⟨q0, qd, qo, kn_free q1 rfl, dt_put q2 rfl (⟨qa, kb, rfl, hkb, hib⟩), qp, qs⟩)
 refine gen_consR (fun vs L w1 hL hw1 => ?_) ?_
 ·obtain ⟨q0, qd, qo, q1, q2, qp, qs⟩ := HO.out _ _ _ hw1
  refine gen_plain rfl ?_
  have l14 : L 14 = true := hL.need 14 (by kernel_rfl)
  obtain ⟨qa, kb, e14, hkb, hib⟩ := q2 14 _ rfl l14
  have hx : w1.cell? ⟨qa, kb, none⟩ = some (.int .i64 (([16, 64, 100, 1024, 2048] : List Int).getD kb 0)) := by
   rw [hib.2.cell]
   match kb, hkb with
   | 0, _ => rfl
   | 1, _ => rfl
   | 2, _ => rfl
   | 3, _ => rfl
   | 4, _ => rfl
  have hr : 0 ≤ ([16, 64, 100, 1024, 2048] : List Int).getD kb 0 ∧ ([16, 64, 100, 1024, 2048] : List Int).getD kb 0 ≤ 100000 := by
   match kb, hkb with
   | 0, _ => decide
   | 1, _ => decide
   | 2, _ => decide
   | 3, _ => decide
   | 4, _ => decide
  generalize ([16, 64, 100, 1024, 2048] : List Int).getD kb 0 = rv at *
  simp only [e14]
  go_simp
  exact gr_val (HI.out _ _ _ ⟨q0, qd, qo, kn_free q1 rfl, dt_put q2 rfl (⟨rv, rfl, hr.1, hr.2⟩), qp, qs⟩)
 refine gen_consR (fun vs L w1 hL hw1 => ?_) ?_
 ·obtain ⟨q0, qd, qo, q1, q2, qp, qs⟩ := HO.out _ _ _ hw1
  refine gen_plain rfl ?_
  have l10 : L 10 = true := hL.need 10 (by kernel_rfl)
  obtain ⟨a, b, m, q, e10, hb0, hb1, hm, hib⟩ := q2 10 _ rfl l10
  have l15 : L 15 = true := hL.need 15 (by kernel_rfl)
  obtain ⟨r7, e15, h70, h71⟩ := q2 15 _ rfl l15
  simp only [e10, e15]
  go_simp
  exact gr_val (HI.out _ _ _ ⟨q0, qd, qo, kn_free q1 rfl, dt_put q2 rfl (⟨⟨a, b, m, r7⟩, q, rfl, ⟨by show I64 b; unfold I64; omega, by show I64 r7; unfold I64; omega, by have := (mapsL_ok m hm).2.2; show m.length ≤ 1000000; omega⟩, hm, hib⟩), qp, qs⟩)
 refine gen_consR (fun vs L w1 hL hw1 => ?_) ?_
 ·obtain ⟨q0, qd, qo, q1, q2, qp, qs⟩ := HO.out _ _ _ hw1
  refine gen_plain rfl ?_
  have n17 : L 17 = false := hL.1
  have n18 : L 18 = false := by
   cases h : L 18
   ·rfl
   ·rw [qs h] at n17; cases n17
  have hk := Blk.new w1 42 #[.int .i64 0, .int .i64 0, .slice none 0 0, .int .i64 0]
  have hg := (Below.refl w1.heap.size w1).alloc (Nat.le_refl _) (Obj.cells #[.int .i64 0, .int .i64 0, .slice none 0 0, .int .i64 0] 42)
  have hlt := q0.lt
  go_simp
  exact gr_val (HI.out _ _ _ ⟨q0.grows hg, qd.grows hg, d_only_grows qo hg, kn_free q1 rfl, dt_free (q2.tr (tr_grows hg)) rfl, (fun _ => ⟨_, rfl, hlt, fun _ => hk, fun h => by rw [show L 18 = true from h] at n18; cases n18⟩), (fun h => by rw [show L 18 = true from h] at n18; cases n18)⟩)
 refine gen_consR (fun vs L w1 hL hw1 => ?_) ?_
 ·obtain ⟨q0, qd, qo, q1, q2, qp, qs⟩ := HO.out _ _ _ hw1
  refine gen_plain rfl ?_
  have n18 : L 18 = false := hL.1
  have l17 : L 17 = true := hL.need 17 (by kernel_rfl)
  have l16 : L 16 = true := hL.need 16 (by kernel_rfl)
  obtain ⟨q5, e17, h5, hz, -⟩ := qp l17
  obtain ⟨c, q, e16, hok, hm, hib⟩ := q2 16 _ rfl l16
  have hk := hz n18
  have hcl := hk.cell
  have hfz := hk.frozen
  unfold CQ at e16
  simp only [e17, e16]
  go_simp
  refine gr_skip (show S (upd L 18) (setV vs 18 undef) _ from HI.out _ _ _ ?_)
  have hT : TrI eb w1 _ := (tr_trans (tr_trans (tr_trans (tr_set hk (by decide) 0 (.int .i64 c.k)) (tr_set (hk.set_ 0 (.int .i64 c.k)) (by decide) 1 (.int .i64 c.r))) (tr_set ((hk.set_ 0 (.int .i64 c.k)).set_ 1 (.int .i64 c.r)) (by decide) 2 (.slice (some ⟨q, 0, none⟩) c.m.length c.m.length))) (tr_set (((hk.set_ 0 (.int .i64 c.k)).set_ 1 (.int .i64 c.r)).set_ 2 (.slice (some ⟨q, 0, none⟩) c.m.length c.m.length)) (by decide) 3 (.int .i64 c.s)))
  exact ⟨((((q0.far (p := ⟨q5, 0, none⟩) (Nat.ne_of_lt h5) (.int .i64 c.k)).far (p := ⟨q5, 1, none⟩) (Nat.ne_of_lt h5) (.int .i64 c.r)).far (p := ⟨q5, 2, none⟩) (Nat.ne_of_lt h5) (.slice (some ⟨q, 0, none⟩) c.m.length c.m.length)).far (p := ⟨q5, 3, none⟩) (Nat.ne_of_lt h5) (.int .i64 c.s)), ((((qd.put (p := ⟨q5, 0, none⟩) (Nat.le_trans hBg (Nat.le_of_lt (Nat.lt_trans hgl h5))) (Nat.ne_of_lt (Nat.lt_trans hgl h5)) (.int .i64 c.k)).put (p := ⟨q5, 1, none⟩) (Nat.le_trans hBg (Nat.le_of_lt (Nat.lt_trans hgl h5))) (Nat.ne_of_lt (Nat.lt_trans hgl h5)) (.int .i64 c.r)).put (p := ⟨q5, 2, none⟩) (Nat.le_trans hBg (Nat.le_of_lt (Nat.lt_trans hgl h5))) (Nat.ne_of_lt (Nat.lt_trans hgl h5)) (.slice (some ⟨q, 0, none⟩) c.m.length c.m.length)).put (p := ⟨q5, 3, none⟩) (Nat.le_trans hBg (Nat.le_of_lt (Nat.lt_trans hgl h5))) (Nat.ne_of_lt (Nat.lt_trans hgl h5)) (.int .i64 c.s)), (only_set (only_set (only_set (only_set qo (p := ⟨q5, 0, none⟩) (Nat.le_of_lt h5) (.int .i64 c.k)) (p := ⟨q5, 1, none⟩) (Nat.le_of_lt h5) (.int .i64 c.r)) (p := ⟨q5, 2, none⟩) (Nat.le_of_lt h5) (.slice (some ⟨q, 0, none⟩) c.m.length c.m.length)) (p := ⟨q5, 3, none⟩) (Nat.le_of_lt h5) (.int .i64 c.s)), kn_free q1 rfl, dt_free (q2.tr hT) rfl, (fun _ => ⟨q5, e17, h5, (fun h => by cases h), fun _ => ⟨c, q, ((((hk.set_ 0 (.int .i64 c.k)).set_ 1 (.int .i64 c.r)).set_ 2 (.slice (some ⟨q, 0, none⟩) c.m.length c.m.length)).set_ 3 (.int .i64 c.s)), hok, hm, hT _ _ hib⟩⟩), (fun _ => l17)⟩
 refine gen_nil ?_
 intro vs L W2 hall hS
 obtain ⟨k4, hD, hO, -, -, qp, -⟩ := HO.out _ _ _ hS
 obtain ⟨q5, e17, h5, -, hc⟩ := qp (hall 17 (by simp))
 obtain ⟨c, q, k5, hokc, hm, hib⟩ := hc (hall 18 (by simp))
 clear hall hS HI HO qp hc
 simp only [e17]
 generalize vs 0 = y0 at *
 generalize vs 1 = y1 at *
 generalize vs 2 = y2 at *
 generalize vs 3 = y3 at *
 generalize vs 4 = y4 at *
 generalize vs 5 = y5 at *
 generalize vs 6 = y6 at *
 generalize vs 7 = y7 at *
 generalize vs 8 = y8 at *
 generalize vs 9 = y9 at *
 generalize vs 10 = y10 at *
 generalize vs 11 = y11 at *
 generalize vs 12 = y12 at *
 generalize vs 13 = y13 at *
 generalize vs 14 = y14 at *
 generalize vs 15 = y15 at *
 generalize vs 16 = y16 at *
 clear e17
 have hb2 : Below w.heap.size w W2 ∨ True := .inr trivial
 clear hb2
 by_cases h0 : l.length = 0
 ·have d1 : decide (0 < l.length) = false := by simp only [decide_eq_false_iff_not]; omega
  obtain rfl := List.eq_nil_of_length_eq_zero h0
  have xc := k5.cell
  unfold CQ at xc
  have x4 := k4.cell
  have hf4 := k4.frozen
  have y4 := ((((k4.set_ 0 (.int .i64 c.k)).set_ 1 (.int .i64 c.r)).set_ 2 (.slice (some ⟨q, 0, none⟩) c.m.length c.m.length)).set_ 3 (.int .i64 c.s))
  have yD := ((((hD.put (p := ⟨w.heap.size, 0, none⟩) (Nat.le_trans hBg (Nat.le_of_lt hgl)) (Nat.ne_of_lt hgl) (.int .i64 c.k)).put (p := ⟨w.heap.size, 1, none⟩) (Nat.le_trans hBg (Nat.le_of_lt hgl)) (Nat.ne_of_lt hgl) (.int .i64 c.r)).put (p := ⟨w.heap.size, 2, none⟩) (Nat.le_trans hBg (Nat.le_of_lt hgl)) (Nat.ne_of_lt hgl) (.slice (some ⟨q, 0, none⟩) c.m.length c.m.length)).put (p := ⟨w.heap.size, 3, none⟩) (Nat.le_trans hBg (Nat.le_of_lt hgl)) (Nat.ne_of_lt hgl) (.int .i64 c.s))
  have yO := (only_set (only_set (only_set (only_set hO (p := ⟨w.heap.size, 0, none⟩) (Nat.le_refl _) (.int .i64 c.k)) (p := ⟨w.heap.size, 1, none⟩) (Nat.le_refl _) (.int .i64 c.r)) (p := ⟨w.heap.size, 2, none⟩) (Nat.le_refl _) (.slice (some ⟨q, 0, none⟩) c.m.length c.m.length)) (p := ⟨w.heap.size, 3, none⟩) (Nat.le_refl _) (.int .i64 c.s))
  have hT : TrI eb _ _ := (tr_trans (tr_trans (tr_trans (tr_set k4 (by decide) 0 (.int .i64 c.k)) (tr_set (k4.set_ 0 (.int .i64 c.k)) (by decide) 1 (.int .i64 c.r))) (tr_set ((k4.set_ 0 (.int .i64 c.k)).set_ 1 (.int .i64 c.r)) (by decide) 2 (.slice (some ⟨q, 0, none⟩) c.m.length c.m.length))) (tr_set (((k4.set_ 0 (.int .i64 c.k)).set_ 1 (.int .i64 c.r)).set_ 2 (.slice (some ⟨q, 0, none⟩) c.m.length c.m.length)) (by decide) 3 (.int .i64 c.s)))
  have yI := hT _ _ hib
  have y6 := y4.cell
  clear k4 hD hO k5
  go_wp2
  refine bodyPost_ret (v := .agg #[.int .i64 c.k, .int .i64 c.r, .slice (some ⟨q, 0, none⟩) c.m.length c.m.length, .int .i64 c.s]) (by simp [results, Tryz.results15, go_sem, y6]) rfl ⟨⟨c, _, rfl, ⟨some ⟨q, 0, none⟩, c.m.length, rfl, Nat.le_refl _, ⟨yI.ints, fun _ ad e => by injection e with e; subst e; exact Or.inr (by have := yI.1; show w.heap.size ≤ q; omega)⟩⟩, hokc⟩, yD, yO⟩
 have d1 : decide (0 < l.length) = true := by simp only [decide_eq_true_eq]; omega
 have d1b : decide ((0 : Int) < (l.length : Int)) = true := by simp only [decide_eq_true_eq]; omega
 go_wp2_with fail
 refine (rolls_any B g 4 _ hD (by omega) (by omega)).mono ?_
 rintro e W3 ⟨⟨r4, rfl, hr40, hr41⟩, hDn, hq⟩
 replace hD := hDn
 replace k4 := k4.grown hq (by intro e; injection e; omega)
 replace k5 := k5.grown hq (by intro e; injection e; omega)
 replace hib := tr_onlyq hgeb hq _ _ hib
 replace hO := only_trans hO hq
 clear hq hDn
 by_cases h4 : 0 < r4
 case neg =>
  have d2 : decide (0 < r4) = false := by simpa using h4
  have xc := k5.cell
  unfold CQ at xc
  have x4 := k4.cell
  have hf4 := k4.frozen
  have y4 := ((((k4.set_ 0 (.int .i64 c.k)).set_ 1 (.int .i64 c.r)).set_ 2 (.slice (some ⟨q, 0, none⟩) c.m.length c.m.length)).set_ 3 (.int .i64 c.s))
  have yD := ((((hD.put (p := ⟨w.heap.size, 0, none⟩) (Nat.le_trans hBg (Nat.le_of_lt hgl)) (Nat.ne_of_lt hgl) (.int .i64 c.k)).put (p := ⟨w.heap.size, 1, none⟩) (Nat.le_trans hBg (Nat.le_of_lt hgl)) (Nat.ne_of_lt hgl) (.int .i64 c.r)).put (p := ⟨w.heap.size, 2, none⟩) (Nat.le_trans hBg (Nat.le_of_lt hgl)) (Nat.ne_of_lt hgl) (.slice (some ⟨q, 0, none⟩) c.m.length c.m.length)).put (p := ⟨w.heap.size, 3, none⟩) (Nat.le_trans hBg (Nat.le_of_lt hgl)) (Nat.ne_of_lt hgl) (.int .i64 c.s))
  have yO := (only_set (only_set (only_set (only_set hO (p := ⟨w.heap.size, 0, none⟩) (Nat.le_refl _) (.int .i64 c.k)) (p := ⟨w.heap.size, 1, none⟩) (Nat.le_refl _) (.int .i64 c.r)) (p := ⟨w.heap.size, 2, none⟩) (Nat.le_refl _) (.slice (some ⟨q, 0, none⟩) c.m.length c.m.length)) (p := ⟨w.heap.size, 3, none⟩) (Nat.le_refl _) (.int .i64 c.s))
  have hT : TrI eb _ _ := (tr_trans (tr_trans (tr_trans (tr_set k4 (by decide) 0 (.int .i64 c.k)) (tr_set (k4.set_ 0 (.int .i64 c.k)) (by decide) 1 (.int .i64 c.r))) (tr_set ((k4.set_ 0 (.int .i64 c.k)).set_ 1 (.int .i64 c.r)) (by decide) 2 (.slice (some ⟨q, 0, none⟩) c.m.length c.m.length))) (tr_set (((k4.set_ 0 (.int .i64 c.k)).set_ 1 (.int .i64 c.r)).set_ 2 (.slice (some ⟨q, 0, none⟩) c.m.length c.m.length)) (by decide) 3 (.int .i64 c.s)))
  have yI := hT _ _ hib
  have y6 := y4.cell
  clear k4 hD hO k5
  go_wp2
  refine bodyPost_ret (v := .agg #[.int .i64 c.k, .int .i64 c.r, .slice (some ⟨q, 0, none⟩) c.m.length c.m.length, .int .i64 c.s]) (by simp [results, Tryz.results15, go_sem, y6]) rfl ⟨⟨c, _, rfl, ⟨some ⟨q, 0, none⟩, c.m.length, rfl, Nat.le_refl _, ⟨yI.ints, fun _ ad e => by injection e with e; subst e; exact Or.inr (by have := yI.1; show w.heap.size ≤ q; omega)⟩⟩, hokc⟩, yD, yO⟩
 have d2 : decide (0 < r4) = true := by simpa using h4
 have hbx : Bxs W3 (Bd ok w.heap.size) A l := hbw.grown hO (fun q e => by injection e with e; intro hh; have := hxg _ hh.1; omega)
 obtain ⟨ad, -, -, -, -, -, -, -, e0, -⟩ := hbx.elem (show 0 < l.length by omega)
 subst e0
 clear hbw
 go_upto_region 3 with fail
 obtain ⟨S, HI, HO⟩ := hideS fun (L : Ran) (vs : Nat → Value) (w' : World) => Blk w' w.heap.size 42 #[.int .i64 0, .int .i64 0, .slice none 0 0, .int .i64 0] ∧ DR w' B g ∧ w.grownBy w' (some g) ∧ Blk w' q5 42 (CQ c q) ∧ IB eb w' q c.m ∧ KnS [some (.slice (some ad) l.length c0), some (.pointer (some ⟨g, 0, none⟩)), some (.slice (some ad) l.length c0), some (.int .i64 (l.length : Int)), none, none, some (.agg (CQ c q)), none, none, none, none, none, none, none] L vs ∧ Bxs w' (Bd ok w.heap.size) (some ad) l ∧ (L 4 = true → ∃ k : Nat, vs 4 = .int .i64 (k : Int) ∧ k < l.length) ∧ (L 5 = true → ∃ k : Nat, k < l.length ∧ vs 5 = .slice (some (ad.add (k * 4))) (l.length - k) (c0 - k)) ∧ (L 7 = true → ∃ (cb : Ch) (sb : Bool) (A' : Option Addr) (n : Nat), vs 7 = .tuple #[.agg #[.int .i64 cb.k, .int .i64 cb.r, .slice A' cb.m.length n, .int .i64 cb.s], .bool sb] ∧ OKC cb ∧ cb.m.length ≤ n ∧ InB w' (Bd ok w.heap.size) A' cb.m) ∧ (L 8 = true → ∃ (cb : Ch) (sb : Bool) (A' : Option Addr) (n : Nat), vs 8 = .tuple #[.agg #[.int .i64 cb.k, .int .i64 cb.r, .slice A' cb.m.length n, .int .i64 cb.s], .bool sb] ∧ OKC cb ∧ cb.m.length ≤ n ∧ InB w' (Bd ok w.heap.size) A' cb.m) ∧ (L 9 = true → ∃ (cb : Ch) (A' : Option Addr) (n : Nat), vs 9 = .agg #[.int .i64 cb.k, .int .i64 cb.r, .slice A' cb.m.length n, .int .i64 cb.s] ∧ OKC cb ∧ cb.m.length ≤ n ∧ InB w' (Bd ok w.heap.size) A' cb.m) ∧ (L 10 = true → ∃ sb, vs 10 = .bool sb) ∧ (L 11 = true → ∃ q6, vs 11 = .pointer (some ⟨q6, 0, none⟩) ∧ w.heap.size < q6 ∧ q5 < q6 ∧ (L 12 = false → Blk w' q6 42 #[.int .i64 0, .int .i64 0, .slice none 0 0, .int .i64 0]) ∧ (L 12 = true → ∃ (cb : Ch) (A' : Option Addr) (n : Nat), Blk w' q6 42 #[.int .i64 cb.k, .int .i64 cb.r, .slice A' cb.m.length n, .int .i64 cb.s] ∧ OKC cb ∧ cb.m.length ≤ n ∧ InB w' (Bd ok w.heap.size) A' cb.m)) ∧ (L 12 = true → L 11 = true)
 refine wp_region_genT S 13 47 (by kernel_rfl) (by kernel_rfl) rfl ?_ ?_
 ·exact HI.out _ _ _ ⟨k4.grows (Grows.drew' _), hD.grows (Grows.drew' _), d_only_grows hO (Grows.drew' _), k5.grows (Grows.drew' _), tr_grows (Grows.drew' _) _ _ hib, kn_none _ _, hbx.grows (Grows.drew' _), (fun h => by cases h), (fun h => by cases h), (fun h => by cases h), (fun h => by cases h), (fun h => by cases h), (fun h => by cases h), (fun h => by cases h), (fun h => by cases h)⟩
 simp only [List.take_succ_cons, List.take_zero, List.drop_succ_cons, List.drop_zero]
 refine gent_consR (fun vs L w1 hL hw1 => ?_) ?_
 ·obtain ⟨q0, qd, qo, qk, qi, q1, qx, p4, p5, p7, p8, p9, pt, p11, ps⟩ := HO.out _ _ _ hw1
  refine gen_plain rfl ?_
  go_simp
  exact gr_val (HI.out _ _ _ ⟨q0, qd, qo, qk, qi, kn_known q1 rfl, qx, p4, p5, p7, p8, p9, pt, p11, ps⟩)
 refine gent_consR (fun vs L w1 hL hw1 => ?_) ?_
 ·obtain ⟨q0, qd, qo, qk, qi, q1, qx, p4, p5, p7, p8, p9, pt, p11, ps⟩ := HO.out _ _ _ hw1
  refine gen_plain rfl ?_
  go_simp
  exact gr_val (HI.out _ _ _ ⟨q0, qd, qo, qk, qi, kn_known q1 rfl, qx, p4, p5, p7, p8, p9, pt, p11, ps⟩)
 refine gent_consR (fun vs L w1 hL hw1 => ?_) ?_
 ·obtain ⟨q0, qd, qo, qk, qi, q1, qx, p4, p5, p7, p8, p9, pt, p11, ps⟩ := HO.out _ _ _ hw1
  refine gen_plain rfl ?_
  go_simp
  exact gr_val (HI.out _ _ _ ⟨q0, qd, qo, qk, qi, kn_known q1 rfl, qx, p4, p5, p7, p8, p9, pt, p11, ps⟩)
 refine gent_consR (fun vs L w1 hL hw1 => ?_) ?_
 ·obtain ⟨q0, qd, qo, qk, qi, q1, qx, p4, p5, p7, p8, p9, pt, p11, ps⟩ := HO.out _ _ _ hw1
  refine gen_plain rfl ?_
  have l2 : L 2 = true := hL.need 2 (by kernel_rfl)
  have e2 := q1 2 _ rfl l2
  simp only [e2]
  go_simp
  exact gr_val (HI.out _ _ _ ⟨q0, qd, qo, qk, qi, kn_known q1 rfl, qx, p4, p5, p7, p8, p9, pt, p11, ps⟩)
 refine gent_consR (fun vs L w1 hL hw1 => ?_) ?_
 ·obtain ⟨q0, qd, qo, qk, qi, q1, qx, p4, p5, p7, p8, p9, pt, p11, ps⟩ := HO.out _ _ _ hw1
  refine gen_plain rfl ?_
  have l1 : L 1 = true := hL.need 1 (by kernel_rfl)
  have e1 := q1 1 _ rfl l1
  have l3 : L 3 = true := hL.need 3 (by kernel_rfl)
  have e3 := q1 3 _ rfl l3
  simp only [e1, e3]
  go_simp
  refine gr_call ?_
  refine (rolls_any B g (l.length : Int) _ qd (by omega) (by omega)).mono ?_
  rintro e w2 ⟨⟨r, rfl, hr0, hr1⟩, hd2, hq⟩
  exact ⟨_, rfl, HI.out _ _ _ ⟨q0.grown hq (by intro e; injection e; omega), hd2, only_trans qo hq, qk.grown hq (by intro e; injection e; omega), tr_onlyq hgeb hq _ _ qi, kn_free q1 rfl, qx.grown hq (fun q e => by injection e with e; intro hh; have := hxg _ hh.1; omega), (fun _ => ⟨r.toNat, by rw [Int.toNat_of_nonneg hr0]; rfl, by omega⟩), p5, (fun h => by obtain ⟨cb, sb, A', n, e, h1, h2, h3⟩ := p7 h; exact ⟨cb, sb, A', n, e, h1, h2, RdB.grown h3 hq (fun q e => by injection e with e; intro hh; have := hxg _ hh.1; omega)⟩), (fun h => by obtain ⟨cb, sb, A', n, e, h1, h2, h3⟩ := p8 h; exact ⟨cb, sb, A', n, e, h1, h2, RdB.grown h3 hq (fun q e => by injection e with e; intro hh; have := hxg _ hh.1; omega)⟩), (fun h => by obtain ⟨cb, A', n, e, h1, h2, h3⟩ := p9 h; exact ⟨cb, A', n, e, h1, h2, RdB.grown h3 hq (fun q e => by injection e with e; intro hh; have := hxg _ hh.1; omega)⟩), pt, (fun h => by obtain ⟨q6, e6, h6, h65, hz, hc⟩ := p11 h; exact ⟨q6, e6, h6, h65, fun h0 => (hz h0).grown hq (by intro e; injection e; omega), fun h0 => by obtain ⟨cb, A', n, hb, h1, h2, h3⟩ := hc h0; exact ⟨cb, A', n, hb.grown hq (by intro e; injection e; omega), h1, h2, RdB.grown h3 hq (fun q e => by injection e with e; intro hh; have := hxg _ hh.1; omega)⟩⟩), ps⟩⟩
 refine gent_consR (fun vs L w1 hL hw1 => ?_) ?_
 ·obtain ⟨q0, qd, qo, qk, qi, q1, qx, p4, p5, p7, p8, p9, pt, p11, ps⟩ := HO.out _ _ _ hw1
  refine gen_plain rfl ?_
  have l0 : L 0 = true := hL.need 0 (by kernel_rfl)
  have e0 := q1 0 _ rfl l0
  have l4 : L 4 = true := hL.need 4 (by kernel_rfl)
  obtain ⟨kx, e4, hkx⟩ := p4 l4
  have hb1 : (0 : Int) ≤ (kx : Int) ∧ (kx : Int) ≤ (l.length : Int) := by omega
  have hb2 : kx ≤ l.length := by omega
  have hne : ¬ c0 = kx := by omega
  simp only [e0, e4]
  go_simp
  exact gr_val (HI.out _ _ _ ⟨q0, qd, qo, qk, qi, kn_free q1 rfl, qx, p4, (fun _ => ⟨kx, hkx, rfl⟩), p7, p8, p9, pt, p11, ps⟩)
 refine gent_consR (fun vs L w1 hL hw1 => ?_) ?_
 ·obtain ⟨q0, qd, qo, qk, qi, q1, qx, p4, p5, p7, p8, p9, pt, p11, ps⟩ := HO.out _ _ _ hw1
  refine gen_plain rfl ?_
  have x5 := qk.cell
  unfold CQ at x5
  go_simp
  exact gr_val (HI.out _ _ _ ⟨q0, qd, qo, qk, qi, kn_known q1 rfl, qx, p4, p5, p7, p8, p9, pt, p11, ps⟩)
 refine gent_consR (fun vs L w1 hL hw1 => ?_) ?_
 ·obtain ⟨q0, qd, qo, qk, qi, q1, qx, p4, p5, p7, p8, p9, pt, p11, ps⟩ := HO.out _ _ _ hw1
  refine gen_plain rfl ?_
  have n7 : L 7 = false := hL.1
  have l5 : L 5 = true := hL.need 5 (by kernel_rfl)
  have l6 : L 6 = true := hL.need 6 (by kernel_rfl)
  have e6 := q1 6 _ rfl l6
  obtain ⟨kx, hkx, e5⟩ := p5 l5
  have hdr := Bxs.drop qx (Nat.le_of_lt hkx) hlc
  rw [if_neg (by omega : ¬ c0 = kx)] at hdr
  replace hdr : Bxs w1 _ (some (ad.add (kx * 4))) (l.drop kx) := hdr
  have hdl : (l.drop kx).length = l.length - kx := List.length_drop
  unfold CQ at e6
  simp only [e5, e6]
  go_simp
  refine gr_call ?_
  have hcon := rbestl_any (I := some ⟨q, 0, none⟩) (ci := c.m.length) (c := c0 - kx) (want := c) hdr (by rw [hdl]; omega) (by rw [hdl]; omega) (fun b hb => (HF.out b (List.mem_of_mem_drop hb)).2.1) qi.ints hokc
  rw [hdl] at hcon
  refine hcon.mono ?_
  rintro e w2 ⟨⟨v, rfl, A', n, rfl, hn, hi⟩, hg⟩
  have hcb : OKC (bestL (bestR c) c (l.drop kx)).1 := bestL_okc (fun b hb => (HF.out b (List.mem_of_mem_drop hb)).2.1)
  generalize bestL (bestR c) c (l.drop kx) = bs at *
  exact ⟨_, rfl, HI.out _ _ _ ⟨q0.grows hg, qd.grows hg, d_only_grows qo hg, qk.grows hg, tr_grows hg _ _ qi, kn_free q1 rfl, qx.grows hg, p4, p5, (fun _ => ⟨bs.1, bs.2, A', n, rfl, hcb, hn, RdB.mono hi (fun k hk => hk.1)⟩), (fun h => by obtain ⟨cb, sb, A', n, e, h1, h2, h3⟩ := p8 h; exact ⟨cb, sb, A', n, e, h1, h2, h3.grows hg⟩), (fun h => by obtain ⟨cb, A', n, e, h1, h2, h3⟩ := p9 h; exact ⟨cb, A', n, e, h1, h2, h3.grows hg⟩), pt, (fun h => by obtain ⟨q6, e6, h6, h65, hz, hc⟩ := p11 h; exact ⟨q6, e6, h6, h65, fun h0 => (hz h0).grows hg, fun h0 => by obtain ⟨cb, A', n, hb, h1, h2, h3⟩ := hc h0; exact ⟨cb, A', n, hb.grows hg, h1, h2, h3.grows hg⟩⟩), ps⟩⟩
 refine gent_consR (fun vs L w1 hL hw1 => ?_) ?_
 ·obtain ⟨q0, qd, qo, qk, qi, q1, qx, p4, p5, p7, p8, p9, pt, p11, ps⟩ := HO.out _ _ _ hw1
  refine gen_plain rfl ?_
  have l7 : L 7 = true := hL.need 7 (by kernel_rfl)
  go_simp
  obtain ⟨cb, sb, A', n, e7, h1, h2, h3⟩ := p7 l7
  exact gr_val (HI.out _ _ _ ⟨q0, qd, qo, qk, qi, kn_free q1 rfl, qx, p4, p5, p7, (fun _ => ⟨cb, sb, A', n, e7, h1, h2, h3⟩), p9, pt, p11, ps⟩)
 refine gent_consR (fun vs L w1 hL hw1 => ?_) ?_
 ·obtain ⟨q0, qd, qo, qk, qi, q1, qx, p4, p5, p7, p8, p9, pt, p11, ps⟩ := HO.out _ _ _ hw1
  refine gen_plain rfl ?_
  have l8 : L 8 = true := hL.need 8 (by kernel_rfl)
  obtain ⟨cb, sb, A', n, e8, h1, h2, h3⟩ := p8 l8
  simp only [e8]
  go_simp
  exact gr_val (HI.out _ _ _ ⟨q0, qd, qo, qk, qi, kn_free q1 rfl, qx, p4, p5, p7, p8, (fun _ => ⟨cb, A', n, rfl, h1, h2, h3⟩), pt, p11, ps⟩)
 refine gent_consR (fun vs L w1 hL hw1 => ?_) ?_
 ·obtain ⟨q0, qd, qo, qk, qi, q1, qx, p4, p5, p7, p8, p9, pt, p11, ps⟩ := HO.out _ _ _ hw1
  refine gen_plain rfl ?_
  have l8 : L 8 = true := hL.need 8 (by kernel_rfl)
  obtain ⟨cb, sb, A', n, e8, h1, h2, h3⟩ := p8 l8
  simp only [e8]
  go_simp
  exact gr_val (HI.out _ _ _ ⟨q0, qd, qo, qk, qi, kn_free q1 rfl, qx, p4, p5, p7, p8, p9, (fun _ => ⟨sb, rfl⟩), p11, ps⟩)
 refine gent_consR (fun vs L w1 hL hw1 => ?_) ?_
 ·obtain ⟨q0, qd, qo, qk, qi, q1, qx, p4, p5, p7, p8, p9, pt, p11, ps⟩ := HO.out _ _ _ hw1
  refine gen_plain rfl ?_
  have n11 : L 11 = false := hL.1
  have n12 : L 12 = false := by
   cases h : L 12
   ·rfl
   ·rw [ps h] at n11; cases n11
  have hk := Blk.new w1 42 #[.int .i64 0, .int .i64 0, .slice none 0 0, .int .i64 0]
  have hg := (Below.refl w1.heap.size w1).alloc (Nat.le_refl _) (Obj.cells #[.int .i64 0, .int .i64 0, .slice none 0 0, .int .i64 0] 42)
  have hlt := q0.lt
  have hlt5 := qk.lt
  go_simp
  exact gr_val (HI.out _ _ _ ⟨q0.grows hg, qd.grows hg, d_only_grows qo hg, qk.grows hg, tr_grows hg _ _ qi, kn_free q1 rfl, qx.grows hg, p4, p5, (fun h => by obtain ⟨cb, sb, A', n, e, h1, h2, h3⟩ := p7 h; exact ⟨cb, sb, A', n, e, h1, h2, h3.grows hg⟩), (fun h => by obtain ⟨cb, sb, A', n, e, h1, h2, h3⟩ := p8 h; exact ⟨cb, sb, A', n, e, h1, h2, h3.grows hg⟩), (fun h => by obtain ⟨cb, A', n, e, h1, h2, h3⟩ := p9 h; exact ⟨cb, A', n, e, h1, h2, h3.grows hg⟩), pt, (fun _ => ⟨_, rfl, hlt, hlt5, fun _ => hk, fun h => by rw [show L 12 = true from h] at n12; cases n12⟩), (fun h => by rw [show L 12 = true from h] at n12; cases n12)⟩)
 refine gent_consR (fun vs L w1 hL hw1 => ?_) ?_
 ·obtain ⟨q0, qd, qo, qk, qi, q1, qx, p4, p5, p7, p8, p9, pt, p11, ps⟩ := HO.out _ _ _ hw1
  refine gen_plain rfl ?_
  have n12 : L 12 = false := hL.1
  have l11 : L 11 = true := hL.need 11 (by kernel_rfl)
  have l9 : L 9 = true := hL.need 9 (by kernel_rfl)
  obtain ⟨q6, e11, h6, h65, hz, -⟩ := p11 l11
  obtain ⟨cb, A', n, e9, h1, h2, h3⟩ := p9 l9
  have hk := hz n12
  have hcl := hk.cell
  have hfz := hk.frozen
  simp only [e11, e9]
  go_simp
  refine gr_skip (show S (upd L 12) (setV vs 12 undef) _ from HI.out _ _ _ ?_)
  have hT : TrI eb w1 _ := (tr_trans (tr_trans (tr_trans (tr_set hk (by decide) 0 (.int .i64 cb.k)) (tr_set (hk.set_ 0 (.int .i64 cb.k)) (by decide) 1 (.int .i64 cb.r))) (tr_set ((hk.set_ 0 (.int .i64 cb.k)).set_ 1 (.int .i64 cb.r)) (by decide) 2 (.slice A' cb.m.length n))) (tr_set (((hk.set_ 0 (.int .i64 cb.k)).set_ 1 (.int .i64 cb.r)).set_ 2 (.slice A' cb.m.length n)) (by decide) 3 (.int .i64 cb.s)))
  have hgq := (d_only_set (d_only_set (d_only_set (d_only_set (World.grownBy.refl w1 (some q6)) 0 (.int .i64 cb.k)) 1 (.int .i64 cb.r)) 2 (.slice A' cb.m.length n)) 3 (.int .i64 cb.s))
  exact ⟨((((q0.far (p := ⟨q6, 0, none⟩) (Nat.ne_of_lt h6) (.int .i64 cb.k)).far (p := ⟨q6, 1, none⟩) (Nat.ne_of_lt h6) (.int .i64 cb.r)).far (p := ⟨q6, 2, none⟩) (Nat.ne_of_lt h6) (.slice A' cb.m.length n)).far (p := ⟨q6, 3, none⟩) (Nat.ne_of_lt h6) (.int .i64 cb.s)), ((((qd.put (p := ⟨q6, 0, none⟩) (Nat.le_trans hBg (Nat.le_of_lt (Nat.lt_trans hgl h6))) (Nat.ne_of_lt (Nat.lt_trans hgl h6)) (.int .i64 cb.k)).put (p := ⟨q6, 1, none⟩) (Nat.le_trans hBg (Nat.le_of_lt (Nat.lt_trans hgl h6))) (Nat.ne_of_lt (Nat.lt_trans hgl h6)) (.int .i64 cb.r)).put (p := ⟨q6, 2, none⟩) (Nat.le_trans hBg (Nat.le_of_lt (Nat.lt_trans hgl h6))) (Nat.ne_of_lt (Nat.lt_trans hgl h6)) (.slice A' cb.m.length n)).put (p := ⟨q6, 3, none⟩) (Nat.le_trans hBg (Nat.le_of_lt (Nat.lt_trans hgl h6))) (Nat.ne_of_lt (Nat.lt_trans hgl h6)) (.int .i64 cb.s)), (only_set (only_set (only_set (only_set qo (p := ⟨q6, 0, none⟩) (Nat.le_of_lt h6) (.int .i64 cb.k)) (p := ⟨q6, 1, none⟩) (Nat.le_of_lt h6) (.int .i64 cb.r)) (p := ⟨q6, 2, none⟩) (Nat.le_of_lt h6) (.slice A' cb.m.length n)) (p := ⟨q6, 3, none⟩) (Nat.le_of_lt h6) (.int .i64 cb.s)), ((((qk.far (p := ⟨q6, 0, none⟩) (Nat.ne_of_lt h65) (.int .i64 cb.k)).far (p := ⟨q6, 1, none⟩) (Nat.ne_of_lt h65) (.int .i64 cb.r)).far (p := ⟨q6, 2, none⟩) (Nat.ne_of_lt h65) (.slice A' cb.m.length n)).far (p := ⟨q6, 3, none⟩) (Nat.ne_of_lt h65) (.int .i64 cb.s)), hT _ _ qi, kn_free q1 rfl, qx.grown hgq (fun q e => by injection e with e; intro hh; have := hh.2; omega), p4, p5, (fun h => by obtain ⟨cb, sb, A', n, e, h1, h2, h3⟩ := p7 h; exact ⟨cb, sb, A', n, e, h1, h2, RdB.grown h3 hgq (fun q e => by injection e with e; intro hh; have := hh.2; omega)⟩), (fun h => by obtain ⟨cb, sb, A', n, e, h1, h2, h3⟩ := p8 h; exact ⟨cb, sb, A', n, e, h1, h2, RdB.grown h3 hgq (fun q e => by injection e with e; intro hh; have := hh.2; omega)⟩), (fun h => by obtain ⟨cb, A', n, e, h1, h2, h3⟩ := p9 h; exact ⟨cb, A', n, e, h1, h2, RdB.grown h3 hgq (fun q e => by injection e with e; intro hh; have := hh.2; omega)⟩), pt, (fun _ => ⟨q6, e11, h6, h65, (fun h => by cases h), fun _ => ⟨cb, A', n, ((((hk.set_ 0 (.int .i64 cb.k)).set_ 1 (.int .i64 cb.r)).set_ 2 (.slice A' cb.m.length n)).set_ 3 (.int .i64 cb.s)), h1, h2, RdB.grown h3 hgq (fun q e => by injection e with e; intro hh; have := hh.2; omega)⟩⟩), (fun _ => l11)⟩
 refine gent_nil ?_
 intro vs L W2 hall hS
 obtain ⟨k4, hD, hO, k5, hib, -, -, -, -, -, -, -, pt, p11, -⟩ := HO.out _ _ _ hS
 obtain ⟨q6, e11, h6, h65, -, hc⟩ := p11 (hall 11 (by simp))
 obtain ⟨cb, A', n, k6, hokb, hnb, hib6⟩ := hc (hall 12 (by simp))
 obtain ⟨sb, e10⟩ := pt (hall 10 (by simp))
 clear hall hS HI HO pt p11 hc
 simp only [e11, e10]
 generalize vs 0 = z0 at *
 generalize vs 1 = z1 at *
 generalize vs 2 = z2 at *
 generalize vs 3 = z3 at *
 generalize vs 4 = z4 at *
 generalize vs 5 = z5 at *
 generalize vs 6 = z6 at *
 generalize vs 7 = z7 at *
 generalize vs 8 = z8 at *
 generalize vs 9 = z9 at *
 generalize vs 12 = z12 at *
 clear e11 e10
 cases sb
 ·skip
  have xc := k5.cell
  unfold CQ at xc
  have x4 := k4.cell
  have hf4 := k4.frozen
  have y4 := ((((k4.set_ 0 (.int .i64 c.k)).set_ 1 (.int .i64 c.r)).set_ 2 (.slice (some ⟨q, 0, none⟩) c.m.length c.m.length)).set_ 3 (.int .i64 c.s))
  have yD := ((((hD.put (p := ⟨w.heap.size, 0, none⟩) (Nat.le_trans hBg (Nat.le_of_lt hgl)) (Nat.ne_of_lt hgl) (.int .i64 c.k)).put (p := ⟨w.heap.size, 1, none⟩) (Nat.le_trans hBg (Nat.le_of_lt hgl)) (Nat.ne_of_lt hgl) (.int .i64 c.r)).put (p := ⟨w.heap.size, 2, none⟩) (Nat.le_trans hBg (Nat.le_of_lt hgl)) (Nat.ne_of_lt hgl) (.slice (some ⟨q, 0, none⟩) c.m.length c.m.length)).put (p := ⟨w.heap.size, 3, none⟩) (Nat.le_trans hBg (Nat.le_of_lt hgl)) (Nat.ne_of_lt hgl) (.int .i64 c.s))
  have yO := (only_set (only_set (only_set (only_set hO (p := ⟨w.heap.size, 0, none⟩) (Nat.le_refl _) (.int .i64 c.k)) (p := ⟨w.heap.size, 1, none⟩) (Nat.le_refl _) (.int .i64 c.r)) (p := ⟨w.heap.size, 2, none⟩) (Nat.le_refl _) (.slice (some ⟨q, 0, none⟩) c.m.length c.m.length)) (p := ⟨w.heap.size, 3, none⟩) (Nat.le_refl _) (.int .i64 c.s))
  have hT : TrI eb _ _ := (tr_trans (tr_trans (tr_trans (tr_set k4 (by decide) 0 (.int .i64 c.k)) (tr_set (k4.set_ 0 (.int .i64 c.k)) (by decide) 1 (.int .i64 c.r))) (tr_set ((k4.set_ 0 (.int .i64 c.k)).set_ 1 (.int .i64 c.r)) (by decide) 2 (.slice (some ⟨q, 0, none⟩) c.m.length c.m.length))) (tr_set (((k4.set_ 0 (.int .i64 c.k)).set_ 1 (.int .i64 c.r)).set_ 2 (.slice (some ⟨q, 0, none⟩) c.m.length c.m.length)) (by decide) 3 (.int .i64 c.s)))
  have yI := hT _ _ hib
  have y6 := y4.cell
  clear k4 hD hO k5
  go_wp2
  refine bodyPost_ret (v := .agg #[.int .i64 c.k, .int .i64 c.r, .slice (some ⟨q, 0, none⟩) c.m.length c.m.length, .int .i64 c.s]) (by simp [results, Tryz.results15, go_sem, y6]) rfl ⟨⟨c, _, rfl, ⟨some ⟨q, 0, none⟩, c.m.length, rfl, Nat.le_refl _, ⟨yI.ints, fun _ ad e => by injection e with e; subst e; exact Or.inr (by have := yI.1; show w.heap.size ≤ q; omega)⟩⟩, hokc⟩, yD, yO⟩
 ·skip
  have xc := k6.cell
  have x4 := k4.cell
  have hf4 := k4.frozen
  have y4 := ((((k4.set_ 0 (.int .i64 cb.k)).set_ 1 (.int .i64 cb.r)).set_ 2 (.slice A' cb.m.length n)).set_ 3 (.int .i64 cb.s))
  have yD := ((((hD.put (p := ⟨w.heap.size, 0, none⟩) (Nat.le_trans hBg (Nat.le_of_lt hgl)) (Nat.ne_of_lt hgl) (.int .i64 cb.k)).put (p := ⟨w.heap.size, 1, none⟩) (Nat.le_trans hBg (Nat.le_of_lt hgl)) (Nat.ne_of_lt hgl) (.int .i64 cb.r)).put (p := ⟨w.heap.size, 2, none⟩) (Nat.le_trans hBg (Nat.le_of_lt hgl)) (Nat.ne_of_lt hgl) (.slice A' cb.m.length n)).put (p := ⟨w.heap.size, 3, none⟩) (Nat.le_trans hBg (Nat.le_of_lt hgl)) (Nat.ne_of_lt hgl) (.int .i64 cb.s))
  have yO := (only_set (only_set (only_set (only_set hO (p := ⟨w.heap.size, 0, none⟩) (Nat.le_refl _) (.int .i64 cb.k)) (p := ⟨w.heap.size, 1, none⟩) (Nat.le_refl _) (.int .i64 cb.r)) (p := ⟨w.heap.size, 2, none⟩) (Nat.le_refl _) (.slice A' cb.m.length n)) (p := ⟨w.heap.size, 3, none⟩) (Nat.le_refl _) (.int .i64 cb.s))
  have yI := RdB.grown hib6 (d_only_set (d_only_set (d_only_set (d_only_set (World.grownBy.refl _ (some w.heap.size)) 0 (.int .i64 cb.k)) 1 (.int .i64 cb.r)) 2 (.slice A' cb.m.length n)) 3 (.int .i64 cb.s)) (fun q e => by injection e with e; intro hh; have := hh.2; omega)
  have y6 := y4.cell
  clear k4 hD hO k5 k6
  go_wp2
  refine bodyPost_ret (v := .agg #[.int .i64 cb.k, .int .i64 cb.r, .slice A' cb.m.length n, .int .i64 cb.s]) (by simp [results, Tryz.results15, go_sem, y6]) rfl ⟨⟨cb, _, rfl, ⟨A', n, rfl, hnb, RdB.mono yI (fun k hk => Or.inl hk.1)⟩, hokb⟩, yD, yO⟩
theorem ChV.mono {w : World} {ok ok2 : Nat → Prop} {c : Ch} {v : Value} (h : ChV w ok c v) (hk : ∀ k, ok k → ok2 k) : ChV w ok2 c v := by
 obtain ⟨A, n, e, hn, hi⟩ := h
 exact ⟨A, n, e, hn, RdB.mono hi hk⟩
end Go.Proofs.YtjbkjgmcfommgaaGreat

namespace Go.Proofs.YtjbkjgmcfommgaaGreat
open Go.RowKit
theorem OwnB.lower {w : World} {base lo lo2 : Nat} {v : Value} {l : List Bx} (h : OwnB w base lo v l) (hl : lo2 ≤ lo) : OwnB w base lo2 v l := by
 obtain ⟨vs, h1, h2⟩ := h
 exact ⟨vs, h1, fun i x hx => by obtain ⟨A1, c1, A2, c2, A3, c3, hp, hc⟩ := h2 i x hx; exact ⟨A1, c1, A2, c2, A3, c3, hp.mono (fun k hk => ⟨Nat.le_trans hl hk.1, hk.2⟩), hc⟩⟩
theorem dice_low (B : Nat) (A : Option Addr) (c : Nat) (l : List Int) (w : World) (h : Reads w B 1 A l.length (l.map (Value.int .u8))) (hB : B ≤ w.heap.size) (hc : l.length ≤ c) (hl : l.length ≤ 9223372036854775807) (hwf : ∀ x ∈ l, 0 ≤ x ∧ x ≤ 255) :
 Calls Tryz.prog 9 #[.slice A l.length c] w fun e w' => e = .returned (.pointer (some ⟨w.heap.size, 0, none⟩)) ∧ DR w' B w.heap.size ∧ Grows w w' := by
 have key : ∀ (m : Nat) (w1 : World) (v : Value), m = min l.length 300 → w1 = w.alloc (.cells #[.slice A m c] DiceT) → v = .pointer (some ⟨w.heap.size, 0, none⟩) → Ending.returned v = .returned (.pointer (some ⟨w.heap.size, 0, none⟩)) ∧ DR w1 B w.heap.size ∧ Grows w w1 := by
  intro m w1 v hm hw hv
  subst hw hv
  have hlen : (l.take m).length = m := by simp; omega
  refine ⟨rfl, ⟨l.take m, A, c, ?_, ?_, by rw [hlen]; omega, hB, fun x hx => hwf x (List.mem_of_mem_take hx), by rw [hlen]; omega⟩, (Below.refl _ _).alloc (Nat.le_refl _) _⟩
  ·rw [hlen]; exact Blk.new _ _ _
  ·rw [hlen, List.map_take]; exact (h.take_ (by omega)).alloc hB _
 go_enter Tryz.func9, Tryz.ntmps9
 by_cases h3 : l.length ≤ 300
 ·have e1 : min (l.length : Int) 300 = l.length := by omega
  go_wp2
  go_ret
  exact key l.length _ _ (by omega) rfl rfl
 ·have e1 : min (l.length : Int) 300 = 300 := by omega
  go_wp2
  go_ret
  exact key 300 _ _ (by omega) rfl rfl
end Go.Proofs.YtjbkjgmcfommgaaGreat

namespace Go.Proofs.YtjbkjgmcfommgaaGreat
open Go.RowKit
def AnyB : Nat → Prop := fun _ => True
def ptB (r : Int) (m : List Int) : Bx := ⟨4, [(r, r)], [m], [(64, 64)]⟩
theorem rd_lit (w : World) {ok : Nat → Prop} (T : TypeId) (xs : Array Value) (size n : Nat) (hl : xs.toList.length = n * size) (hw : ok w.heap.size) : RdB (w.alloc (.cells xs T)) ok size (some ⟨w.heap.size, 0, none⟩) n xs.toList := by
 have hk := Blk.new w T xs
 refine ⟨⟨hl, fun _ => ⟨_, rfl, hk.lt, fun j u hu => ?_⟩⟩, fun _ ad e => by injection e with e; subst e; exact hw⟩
 rw [add_head, hk.cell, ← Array.getElem?_toList]
 exact hu
theorem maps_lit1 (w : World) {ok : Nat → Prop} {A : Option Addr} {c : Nat} {m : List Int} (h : InB w ok A m) (hc : m.length ≤ c) (hw : ok w.heap.size) : MapsR (w.alloc (.cells #[.slice A m.length c] 38)) ok (some ⟨w.heap.size, 0, none⟩) [m] := by
 have hq := (Below.refl w.heap.size w).alloc (Nat.le_refl _) (Obj.cells #[.slice A m.length c] 38)
 refine ⟨_, rd_lit w _ #[.slice A m.length c] 1 1 rfl hw, fun i x hx => ?_⟩
 have hi0 : i = 0 := by
  have := (List.getElem?_eq_some_iff.1 hx).1
  simp only [List.length_singleton] at this
  omega
 subst hi0
 simp only [List.getElem?_cons_zero, Option.some.injEq] at hx
 subst hx
 exact ⟨A, c, rfl, hc, h.grows hq⟩
end Go.Proofs.YtjbkjgmcfommgaaGreat

namespace Go.Proofs.YtjbkjgmcfommgaaGreat
open Go.RowKit
end Go.Proofs.YtjbkjgmcfommgaaGreat

namespace Go.Proofs.YtjbkjgmcfommgaaGreat
open Go.RowKit
end Go.Proofs.YtjbkjgmcfommgaaGreat

namespace Go.Proofs.YtjbkjgmcfommgaaGreat
open Go.RowKit
structure Tot {α : Type} (f : α → α → Int) : Prop where
 anti : ∀ a b, f a b = -f b a
 trans : ∀ a b c, f a b ≤ 0 → f b c ≤ 0 → f a c ≤ 0
 bd : ∀ a b, -1 ≤ f a b ∧ f a b ≤ 1
theorem Tot.tri {α : Type} {f : α → α → Int} (h : Tot f) (a b c : α) : 0 < f a b ∨ 0 < f b c ∨ f a c ≤ 0 := by
 have t := h.trans a b c
 by_cases h1 : f a b ≤ 0
 ·by_cases h2 : f b c ≤ 0
  ·exact .inr (.inr (t h1 h2))
  ·exact .inr (.inl (by omega))
 ·exact .inl (by omega)
theorem Tot.or {α : Type} {f g : α → α → Int} (hf : Tot f) (hg : Tot g) : Tot fun a b => if f a b = 0 then g a b else f a b := by
 refine ⟨fun a b => ?_, fun a b c h1 h2 => ?_, fun a b => ?_⟩
 ·show (if f a b = 0 then g a b else f a b) = -(if f b a = 0 then g b a else f b a)
  have h1 := hf.anti a b
  have h2 := hg.anti a b
  split <;> split <;> omega
 ·replace h1 : (if f a b = 0 then g a b else f a b) ≤ 0 := h1
  replace h2 : (if f b c = 0 then g b c else f b c) ≤ 0 := h2
  show (if f a c = 0 then g a c else f a c) ≤ 0
  have k1 := hf.anti a b
  have k2 := hf.anti b c
  have k3 := hf.anti a c
  have t1 := hf.tri a b c
  have t2 := hf.tri c a b
  have t3 := hf.tri b c a
  have t4 := hg.tri a b c
  split at h1 <;> split at h2 <;> split <;> omega
 ·show -1 ≤ (if f a b = 0 then g a b else f a b) ∧ (if f a b = 0 then g a b else f a b) ≤ 1
  have h1 := hf.bd a b
  have h2 := hg.bd a b
  split <;> omega
theorem Tot.comap {α β : Type} {f : β → β → Int} (h : Tot f) (u : α → β) : Tot fun a b => f (u a) (u b) := ⟨fun _a _b => h.anti _ _, fun _a _b _c => h.trans _ _ _, fun _a _b => h.bd _ _⟩
theorem Tot.flip {α : Type} {f : α → α → Int} (h : Tot f) : Tot fun a b => f b a := ⟨fun _a _b => h.anti _ _, fun _a _b _c h1 h2 => h.trans _ _ _ h2 h1, fun _a _b => h.bd _ _⟩
theorem Tot.self {α : Type} {f : α → α → Int} (h : Tot f) (a : α) : f a a = 0 := by have := h.anti a a; omega
theorem cmpZ_spec (a b : Int) : (a < b ∧ cmpZ a b = -1) ∨ (a = b ∧ cmpZ a b = 0) ∨ (b < a ∧ cmpZ a b = 1) := by
 unfold cmpZ
 by_cases h1 : a < b
 ·rw [if_pos h1]; omega
 ·rw [if_neg h1]
  by_cases h2 : b < a
  ·rw [if_pos h2]; omega
  ·rw [if_neg h2]; omega
theorem tot_cmpZ : Tot cmpZ := by
 refine ⟨fun a b => ?_, fun a b c h1 h2 => ?_, fun a b => ?_⟩
 ·have := cmpZ_spec a b; have := cmpZ_spec b a; omega
 ·have := cmpZ_spec a b; have := cmpZ_spec b c; have := cmpZ_spec a c; omega
 ·have := cmpZ_spec a b; omega
theorem cmpZ_eq0 {a b : Int} : cmpZ a b = 0 ↔ a = b := by
 have := cmpZ_spec a b
 omega
theorem kindZ_spec (w a b : Int) : (a = b ∧ kindZ w a b = 0) ∨ (a ≠ b ∧ (a = w ∨ (b ≠ w ∧ b < a)) ∧ kindZ w a b = -1) ∨ (a ≠ b ∧ a ≠ w ∧ (b = w ∨ a < b) ∧ kindZ w a b = 1) := by
 unfold kindZ
 by_cases h1 : a = b
 ·rw [if_pos h1]; omega
 ·rw [if_neg h1]
  by_cases h2 : a = w ∨ (b ≠ w ∧ b < a)
  ·rw [if_pos h2]; omega
  ·rw [if_neg h2]; omega
theorem tot_kindZ (want : Int) : Tot (kindZ want) := by
 refine ⟨fun a b => ?_, fun a b c h1 h2 => ?_, fun a b => ?_⟩
 ·have := kindZ_spec want a b; have := kindZ_spec want b a; omega
 ·have := kindZ_spec want a b; have := kindZ_spec want b c; have := kindZ_spec want a c; omega
 ·have := kindZ_spec want a b; omega
theorem kindZ_zero {want a b : Int} : kindZ want a b = 0 ↔ a = b := by
 have := kindZ_spec want a b
 omega
theorem tot_closer (want : Int) : Tot (closerF want) := by
 have e : closerF want = fun a b => if cmpZ (farD a want) (farD b want) = 0 then cmpZ a b else cmpZ (farD a want) (farD b want) := by
  funext a b
  exact closer_eq want a b
 rw [e]
 exact Tot.or (tot_cmpZ.comap fun a => farD a want) tot_cmpZ
theorem closer_zero {want a b : Int} : closerF want a b = 0 ↔ a = b := by
 constructor
 ·intro h
  rw [closer_eq] at h
  split at h
  ·exact cmpZ_eq0.1 h
  ·omega
 ·intro h
  subst h
  exact (tot_closer want).self a
theorem tot_lex : Tot lexZ := by
 refine ⟨?_, ?_, ?_⟩
 ·intro a
  induction a with
  | nil => intro b; cases b <;> rfl
  | cons x a ih =>
   intro b
   cases b with
   | nil => rfl
   | cons y b =>
    show (if cmpZ x y = 0 then lexZ a b else cmpZ x y) = -(if cmpZ y x = 0 then lexZ b a else cmpZ y x)
    have h1 := tot_cmpZ.anti x y
    have h2 := ih b
    split <;> split <;> omega
 ·intro a
  induction a with
  | nil => intro b c _ _; cases c <;> (unfold lexZ; omega)
  | cons x a ih =>
   intro b c h1 h2
   cases b with
   | nil => replace h1 : (1 : Int) ≤ 0 := h1; omega
   | cons y b =>
    cases c with
    | nil => replace h2 : (1 : Int) ≤ 0 := h2; omega
    | cons z c =>
     replace h1 : (if cmpZ x y = 0 then lexZ a b else cmpZ x y) ≤ 0 := h1
     replace h2 : (if cmpZ y z = 0 then lexZ b c else cmpZ y z) ≤ 0 := h2
     show (if cmpZ x z = 0 then lexZ a c else cmpZ x z) ≤ 0
     have k1 := tot_cmpZ.anti x y
     have k2 := tot_cmpZ.anti y z
     have k3 := tot_cmpZ.anti x z
     have t1 := tot_cmpZ.tri x y z
     have t2 := tot_cmpZ.tri z x y
     have t3 := tot_cmpZ.tri y z x
     have t4 : 0 < lexZ a b ∨ 0 < lexZ b c ∨ lexZ a c ≤ 0 := by
      by_cases e1 : lexZ a b ≤ 0
      ·by_cases e2 : lexZ b c ≤ 0
       ·exact .inr (.inr (ih b c e1 e2))
       ·exact .inr (.inl (by omega))
      ·exact .inl (by omega)
     split at h1 <;> split at h2 <;> split <;> omega
 ·intro a
  induction a with
  | nil => intro b; cases b <;> (unfold lexZ; omega)
  | cons x a ih =>
   intro b
   cases b with
   | nil => unfold lexZ; omega
   | cons y b =>
    show -1 ≤ (if cmpZ x y = 0 then lexZ a b else cmpZ x y) ∧ (if cmpZ x y = 0 then lexZ a b else cmpZ x y) ≤ 1
    have h1 := tot_cmpZ.bd x y
    have h2 := ih b
    split <;> omega
theorem lex_zero {a b : List Int} : lexZ a b = 0 ↔ a = b := by
 constructor
 ·induction a generalizing b with
  | nil => intro h; cases b with
   | nil => rfl
   | cons y b => replace h : (-1 : Int) = 0 := h; omega
  | cons x a ih =>
   intro h
   cases b with
   | nil => replace h : (1 : Int) = 0 := h; omega
   | cons y b =>
    replace h : (if cmpZ x y = 0 then lexZ a b else cmpZ x y) = 0 := h
    split at h
    ·rename_i e; rw [cmpZ_eq0.1 e, ih h]
    ·omega
 ·intro h
  subst h
  exact tot_lex.self a
def rankM (want a : List Int) : Int := if a = want then 0 else 1
def mapsG (want a b : List Int) : Int := if cmpZ ((commonL want b).length : Int) ((commonL want a).length : Int) = 0 then (if cmpZ (a.length : Int) (b.length : Int) = 0 then lexZ a b else cmpZ (a.length : Int) (b.length : Int)) else cmpZ ((commonL want b).length : Int) ((commonL want a).length : Int)
theorem orZ_one (x : Int) : orZ [x] = x := by
 rw [orZ_cons]
 split
 ·rename_i h; rw [h]; rfl
 ·rfl
theorem maps_eq (want a b : List Int) : mapsF want a b = if cmpZ (rankM want a) (rankM want b) = 0 then mapsG want a b else cmpZ (rankM want a) (rankM want b) := by
 have e : orZ [cmpZ ((commonL want b).length : Int) ((commonL want a).length : Int), cmpZ (a.length : Int) (b.length : Int), lexZ a b] = mapsG want a b := by
  rw [orZ_cons, orZ_cons, orZ_one]
  rfl
 unfold mapsF
 rw [e]
 unfold rankM
 by_cases h1 : a = want <;> by_cases h2 : b = want <;> simp [h1, h2, cmpZ]
theorem tot_maps (want : List Int) : Tot (mapsF want) := by
 have e : mapsF want = fun a b => if cmpZ (rankM want a) (rankM want b) = 0 then mapsG want a b else cmpZ (rankM want a) (rankM want b) := by
  funext a b
  exact maps_eq want a b
 have e2 : Tot (mapsG want) := Tot.or (tot_cmpZ.comap fun a : List Int => ((commonL want a).length : Int)).flip (Tot.or (tot_cmpZ.comap fun a : List Int => (a.length : Int)) tot_lex)
 rw [e]
 exact Tot.or (tot_cmpZ.comap fun a => rankM want a) e2
theorem maps_zero {want a b : List Int} : mapsF want a b = 0 ↔ a = b := by
 constructor
 ·intro h
  rw [maps_eq] at h
  split at h
  ·unfold mapsG at h
   split at h
   ·split at h
    ·exact lex_zero.1 h
    ·omega
   ·omega
  ·omega
 ·intro h
  subst h
  exact (tot_maps want).self a
theorem cmp_eq (w a b : Ch) : cmpF w a b = if kindZ w.k a.k b.k = 0 then (if closerF w.r a.r b.r = 0 then (if mapsF w.m a.m b.m = 0 then closerF w.s a.s b.s else mapsF w.m a.m b.m) else closerF w.r a.r b.r) else kindZ w.k a.k b.k := by
 unfold cmpF cmpL
 rw [orZ_cons, orZ_cons, orZ_cons, orZ_one]
theorem tot_cmp (w : Ch) : Tot (cmpF w) := by
 have e : cmpF w = fun a b => if kindZ w.k a.k b.k = 0 then (if closerF w.r a.r b.r = 0 then (if mapsF w.m a.m b.m = 0 then closerF w.s a.s b.s else mapsF w.m a.m b.m) else closerF w.r a.r b.r) else kindZ w.k a.k b.k := by
  funext a b
  exact cmp_eq w a b
 rw [e]
 exact Tot.or ((tot_kindZ w.k).comap Ch.k) (Tot.or ((tot_closer w.r).comap Ch.r) (Tot.or ((tot_maps w.m).comap Ch.m) ((tot_closer w.s).comap Ch.s)))
theorem cmp_zero {w a b : Ch} : cmpF w a b = 0 ↔ a = b := by
 constructor
 ·intro h
  rw [cmp_eq] at h
  split at h
  ·rename_i h1
   split at h
   ·rename_i h2
    split at h
    ·rename_i h3
     have e1 := kindZ_zero.1 h1
     have e2 := closer_zero.1 h2
     have e3 := maps_zero.1 h3
     have e4 := closer_zero.1 h
     cases a
     cases b
     simp only at e1 e2 e3 e4
     rw [e1, e2, e3, e4]
    ·omega
   ·omega
  ·omega
 ·intro h
  subst h
  exact (tot_cmp w).self a
theorem kind_least (w b : Int) : kindZ w w b ≤ 0 := by
 have := kindZ_spec w w b
 omega
theorem closer_least (w b : Int) : closerF w w b ≤ 0 := by
 rw [closer_eq]
 have h1 : cmpZ (farD w w) (farD b w) ≤ 0 := by
  have e1 : farD w w = 0 := by unfold farD; rw [if_neg (by omega)]; omega
  have e2 : 0 ≤ farD b w := by unfold farD; split <;> omega
  have := cmpZ_spec (farD w w) (farD b w)
  omega
 split
 ·rename_i h
  have h2 := cmpZ_eq0.1 h
  have h3 : w = b := by
   unfold farD at h2
   split at h2 <;> split at h2 <;> omega
  rw [cmpZ_eq0.2 h3]
  omega
 ·exact h1
theorem maps_least (w b : List Int) : mapsF w w b ≤ 0 := by
 by_cases h : b = w
 ·subst h
  rw [maps_zero.2 rfl]
  omega
 ·rw [maps_eq]
  unfold rankM
  rw [if_pos rfl, if_neg h]
  simp [cmpZ]
theorem cmp_least (w b : Ch) : cmpF w w b ≤ 0 := by
 have h1 := kind_least w.k b.k
 have h2 := closer_least w.r b.r
 have h3 := maps_least w.m b.m
 have h4 := closer_least w.s b.s
 rw [cmp_eq]
 split
 ·split
  ·split <;> omega
  ·omega
 ·omega
end Go.Proofs.YtjbkjgmcfommgaaGreat

namespace Go.Proofs.YtjbkjgmcfommgaaGreat
open Go.RowKit
theorem kind_fin : ∀ b : Fin 256, 2 ≤ b.val → b.val % 2 = 0 → kindB (b.val : Int) ((Lib.bitLen b.val : Int) - 1) = true ∧ ∀ y : Fin 8, kindB (b.val : Int) (y.val : Int) = true → (y.val : Int) ≤ (Lib.bitLen b.val : Int) - 1 := by decide +kernel
theorem kindB_rng {b k : Int} (h : kindB b k = true) : 1 ≤ k ∧ k ≤ 7 := by
 unfold kindB at h
 rw [Bool.and_eq_true, Bool.and_eq_true, decide_eq_true_eq, decide_eq_true_eq] at h
 exact h.1
theorem topK_in {b : Int} (hb : I64 b) (h : kindsOk b = true) (w : Int) : kindB b (topK w b) = true := by
 obtain ⟨h1, h2, h3⟩ := kinds_range hb h
 unfold topK
 split
 ·assumption
 ·obtain ⟨n, rfl⟩ : ∃ n : Nat, b = (n : Int) := ⟨b.toNat, by omega⟩
  have := (kind_fin ⟨n, by omega⟩ (by show 2 ≤ n; omega) (by show n % 2 = 0; omega)).1
  exact this
theorem topK_least {b : Int} (hb : I64 b) (h : kindsOk b = true) (w y : Int) (hy : kindB b y = true) : kindZ w (topK w b) y ≤ 0 := by
 obtain ⟨h1, h2, h3⟩ := kinds_range hb h
 unfold topK
 split
 ·exact kind_least w y
 ·rename_i hw
  obtain ⟨n, rfl⟩ : ∃ n : Nat, b = (n : Int) := ⟨b.toNat, by omega⟩
  obtain ⟨r1, r2⟩ := kindB_rng hy
  obtain ⟨j, rfl⟩ : ∃ j : Nat, y = (j : Int) := ⟨y.toNat, by omega⟩
  obtain ⟨k1, k2⟩ := kind_fin ⟨n, by omega⟩ (by show 2 ≤ n; omega) (by show n % 2 = 0; omega)
  have k3 := k2 ⟨j, by omega⟩ hy
  replace k3 : (j : Int) ≤ (Lib.bitLen n : Int) - 1 := k3
  replace k1 : kindB (n : Int) ((Lib.bitLen n : Int) - 1) = true := k1
  have e1 : (j : Int) ≠ w := fun e => hw (e ▸ hy)
  have e2 : (Lib.bitLen n : Int) - 1 ≠ w := fun e => hw (e ▸ k1)
  show kindZ w ((Lib.bitLen n : Int) - 1) (j : Int) ≤ 0
  have := kindZ_spec w ((Lib.bitLen n : Int) - 1) (j : Int)
  omega
theorem clamp_near (lo hi n m : Int) (h1 : lo ≤ m) (h2 : m ≤ hi) : farD (max lo (min hi n)) n ≤ farD m n ∧ (farD (max lo (min hi n)) n = farD m n → max lo (min hi n) ≤ m) := by
 unfold farD
 split <;> split <;> omega
theorem near_key (n : Int) : ∀ (l : List Sp) (p : Int) (E : Int → Prop), Canon l → E p → (∀ m, E m → farD p n ≤ farD m n ∧ (farD p n = farD m n → p ≤ m)) → (∀ m, ∀ x ∈ l, E m → m < x.1) →
 (E (l.foldl (nearS n) (p, true)).1 ∨ ∃ x ∈ l, x.1 ≤ (l.foldl (nearS n) (p, true)).1 ∧ (l.foldl (nearS n) (p, true)).1 ≤ x.2) ∧ ∀ m, (E m ∨ ∃ x ∈ l, x.1 ≤ m ∧ m ≤ x.2) → farD (l.foldl (nearS n) (p, true)).1 n ≤ farD m n ∧ (farD (l.foldl (nearS n) (p, true)).1 n = farD m n → (l.foldl (nearS n) (p, true)).1 ≤ m) := by
 intro l
 induction l with
 | nil => exact fun p E _ hp hm _ => ⟨.inl hp, fun m h => h.elim (hm m) (fun ⟨x, hx, _⟩ => by cases hx)⟩
 | cons x l ih =>
  intro p E hc hp hm hlt
  obtain ⟨hx, hgap, hcl⟩ := canon_cons.1 hc
  have hK1 : x.1 ≤ max x.1 (min x.2 n) := by omega
  have hK2 : max x.1 (min x.2 n) ≤ x.2 := by omega
  have hstep : ∃ q, nearS n (p, true) x = (q, true) ∧ ((q = max x.1 (min x.2 n) ∧ farD q n < farD p n) ∨ (q = p ∧ farD p n ≤ farD (max x.1 (min x.2 n)) n)) := by
   by_cases h : farD (max x.1 (min x.2 n)) n < farD p n
   ·exact ⟨_, if_pos (.inr h), .inl ⟨rfl, h⟩⟩
   ·exact ⟨p, if_neg (fun hh => hh.elim (fun e => by cases e) h), .inr ⟨rfl, by omega⟩⟩
  obtain ⟨q, hq, hcase⟩ := hstep
  have hpx := hlt p x (List.mem_cons_self ..) hp
  have e : (x :: l).foldl (nearS n) (p, true) = l.foldl (nearS n) (q, true) := by rw [List.foldl_cons, hq]
  rw [e]
  have hmain := ih q (fun m => E m ∨ (x.1 ≤ m ∧ m ≤ x.2)) hcl ?_ ?_ ?_
  ·refine ⟨?_, fun m h => hmain.2 m ?_⟩
   ·rcases hmain.1 with (h | h) | ⟨z, hz, h⟩
    ·exact .inl h
    ·exact .inr ⟨x, List.mem_cons_self .., h⟩
    ·exact .inr ⟨z, List.mem_cons_of_mem _ hz, h⟩
   ·rcases h with h | ⟨z, hz, h⟩
    ·exact .inl (.inl h)
    ·rcases List.mem_cons.1 hz with rfl | hz
     ·exact .inl (.inr h)
     ·exact .inr ⟨z, hz, h⟩
  ·rcases hcase with ⟨rfl, _⟩ | ⟨rfl, _⟩
   ·exact .inr ⟨hK1, hK2⟩
   ·exact .inl hp
  ·intro m h
   rcases h with h | ⟨h1, h2⟩
   ·have h9 := hm m h
    rcases hcase with ⟨e1, h3⟩ | ⟨e1, h3⟩
    ·omega
    ·rw [e1]; exact h9
   ·have h9 := clamp_near x.1 x.2 n m h1 h2
    rcases hcase with ⟨e1, h3⟩ | ⟨e1, h3⟩
    ·rw [e1]; exact h9
    ·rw [e1]; omega
  ·intro m z hz h
   have hg := hgap z hz
   rcases h with h | ⟨h1, h2⟩
   ·have := hlt m x (List.mem_cons_self ..) h; omega
   ·omega
theorem hasF_mem {l : List Sp} (h : okS l = true) {m : Int} : hasF l m = true ↔ ∃ x ∈ l, x.1 ≤ m ∧ m ≤ x.2 := by
 unfold hasF spansF
 rw [if_pos h, List.any_eq_true]
 constructor
 ·rintro ⟨x, hx, hp⟩
  unfold hasP at hp
  rw [Bool.and_eq_true, decide_eq_true_eq, decide_eq_true_eq] at hp
  exact ⟨x, hx, hp⟩
 ·rintro ⟨x, hx, hp⟩
  refine ⟨x, hx, ?_⟩
  unfold hasP
  rw [Bool.and_eq_true, decide_eq_true_eq, decide_eq_true_eq]
  exact hp
theorem near_is {l : List Sp} (h : okS l = true) (hl : 0 < l.length) (n : Int) : hasF l (nearF l n).1 = true ∧ ∀ m, hasF l m = true → closerF n (nearF l n).1 m ≤ 0 := by
 obtain ⟨-, hc, -⟩ := (okS_iff l).1 h
 have hs : spansF l = l := if_pos h
 cases l with
 | nil => simp at hl
 | cons x l =>
  obtain ⟨hx, hgap, hcl⟩ := canon_cons.1 hc
  have e : nearF (x :: l) n = l.foldl (nearS n) (max x.1 (min x.2 n), true) := by
   unfold nearF
   rw [hs, List.foldl_cons]
   congr 1
  obtain ⟨k1, k2⟩ := near_key n l (max x.1 (min x.2 n)) (fun m => x.1 ≤ m ∧ m ≤ x.2) hcl (by omega) (fun m hm => clamp_near x.1 x.2 n m hm.1 hm.2) (fun m z hz hm => by have := hgap z hz; omega)
  rw [e]
  refine ⟨(hasF_mem h).2 ?_, fun m hm => ?_⟩
  ·rcases k1 with k1 | ⟨z, hz, k1⟩
   ·exact ⟨x, List.mem_cons_self .., k1⟩
   ·exact ⟨z, List.mem_cons_of_mem _ hz, k1⟩
  ·obtain ⟨z, hz, hp⟩ := (hasF_mem h).1 hm
   have k3 := k2 m (by
    rcases List.mem_cons.1 hz with rfl | hz
    ·exact .inl hp
    ·exact .inr ⟨z, hz, hp⟩)
   generalize (l.foldl (nearS n) (max x.1 (min x.2 n), true)).1 = p at *
   rw [closer_eq]
   have s1 := cmpZ_spec (farD p n) (farD m n)
   have s2 := cmpZ_spec p m
   split <;> omega
theorem minUp_is (w : List Int) (ms : List (List Int)) : ∀ n, 1 ≤ n → n ≤ ms.length → minUp w ms n ∈ ms ∧ ∀ i, i < n → mapsF w (minUp w ms n) (ms.getD i []) ≤ 0 := by
 intro n
 induction n with
 | zero => intro h; omega
 | succ n ih =>
  intro _ hn
  have hmem : ms.getD n [] ∈ ms := by
   rw [List.getD_eq_getElem?_getD, List.getElem?_eq_getElem (by omega)]
   exact List.getElem_mem (by omega)
  have hself := (tot_maps w).self (ms.getD n [])
  by_cases h0 : n = 0
  ·have e : minUp w ms (n + 1) = ms.getD n [] := if_pos (.inl h0)
   rw [e]
   refine ⟨hmem, fun i hi => ?_⟩
   obtain rfl : i = n := by omega
   omega
  ·obtain ⟨k1, k2⟩ := ih (by omega) (by omega)
   by_cases h1 : mapsF w (ms.getD n []) (minUp w ms n) < 0
   ·have e : minUp w ms (n + 1) = ms.getD n [] := if_pos (.inr h1)
    rw [e]
    refine ⟨hmem, fun i hi => ?_⟩
    by_cases hi2 : i = n
    ·subst hi2; omega
    ·exact (tot_maps w).trans _ _ _ (by omega) (k2 i (by omega))
   ·have e : minUp w ms (n + 1) = minUp w ms n := if_neg (fun h => h.elim h0 h1)
    rw [e]
    refine ⟨k1, fun i hi => ?_⟩
    by_cases hi2 : i = n
    ·subst hi2
     have := (tot_maps w).anti (ms.getD i []) (minUp w ms i)
     omega
    ·exact k2 i (by omega)
theorem minUp_least {w : List Int} {ms : List (List Int)} (h : 1 ≤ ms.length) {y : List Int} (hy : y ∈ ms) : mapsF w (minUp w ms ms.length) y ≤ 0 := by
 obtain ⟨i, hi, rfl⟩ := List.getElem_of_mem hy
 have := (minUp_is w ms ms.length h (Nat.le_refl _)).2 i hi
 rw [List.getD_eq_getElem?_getD, List.getElem?_eq_getElem hi] at this
 exact this
theorem fineB_parts {b : Bx} (h : fineB b = true) : kindsOk b.k = true ∧ (okS b.r = true ∧ 0 < b.r.length) ∧ (okS b.s = true ∧ 0 < b.s.length) ∧ 1 ≤ b.m.length := by
 unfold fineB withinS mapsOk at h
 simp only [Bool.and_eq_true, decide_eq_true_eq] at h
 obtain ⟨⟨⟨h1, ⟨⟨h2, h3⟩, h4⟩, h5⟩, ⟨⟨h6, h7⟩, h8⟩, h9⟩, ⟨h10, h11⟩, h12⟩ := h
 exact ⟨h1, ⟨h2, h3⟩, ⟨h6, h7⟩, h10⟩
theorem top_in {b : Bx} (h : fineB b = true) (hk : I64 b.k) (w : Ch) : inB b (topP w b) = true := by
 obtain ⟨h1, ⟨h2, h3⟩, ⟨h4, h5⟩, h6⟩ := fineB_parts h
 exact inB_yes (topK_in hk h1 w.k) (near_is h2 h3 w.r).1 (minUp_is w.m b.m b.m.length h6 (Nat.le_refl _)).1 (near_is h4 h5 w.s).1
theorem top_least {b : Bx} (h : fineB b = true) (hk : I64 b.k) (w y : Ch) (hy : inB b y = true) : cmpF w (topP w b) y ≤ 0 := by
 obtain ⟨h1, ⟨h2, h3⟩, ⟨h4, h5⟩, h6⟩ := fineB_parts h
 unfold inB at hy
 simp only [Bool.and_eq_true, decide_eq_true_eq] at hy
 obtain ⟨⟨⟨y1, y2⟩, y3⟩, y4⟩ := hy
 have k1 : kindZ w.k (topP w b).k y.k ≤ 0 := topK_least hk h1 w.k y.k y1
 have k2 : closerF w.r (topP w b).r y.r ≤ 0 := (near_is h2 h3 w.r).2 y.r y2
 have k3 : mapsF w.m (topP w b).m y.m ≤ 0 := minUp_least h6 y3
 have k4 : closerF w.s (topP w b).s y.s ≤ 0 := (near_is h4 h5 w.s).2 y.s y4
 rw [cmp_eq]
 split
 ·split
  ·split <;> omega
  ·omega
 ·omega
theorem fold_best (w : Ch) (f : Bx → Ch) : ∀ (l : List Bx) (s : Ch × Bool), ((s.2 = true ∨ l ≠ []) → (l.foldl (bestStep f w) s).2 = true) ∧ (s.2 = true → cmpF w (l.foldl (bestStep f w) s).1 s.1 ≤ 0) ∧ (∀ b ∈ l, cmpF w (l.foldl (bestStep f w) s).1 (f b) ≤ 0) ∧ ((s.2 = true ∧ (l.foldl (bestStep f w) s).1 = s.1) ∨ l = [] ∨ ∃ b ∈ l, (l.foldl (bestStep f w) s).1 = f b) := by
 intro l
 induction l with
 | nil => exact fun s => ⟨fun h => h.elim id (fun h => absurd rfl h), fun _ => Int.le_of_eq ((tot_cmp w).self s.1), (fun b hb => by cases hb), Or.inr (Or.inl rfl)⟩
 | cons b l ih =>
  intro s
  obtain ⟨i1, i2, i3, i4⟩ := ih (bestStep f w s b)
  have i5 : l = [] → l.foldl (bestStep f w) (bestStep f w s b) = bestStep f w s b := fun e => by rw [e]; rfl
  rw [List.foldl_cons]
  generalize l.foldl (bestStep f w) (bestStep f w s b) = r at *
  have hstep : (bestStep f w s b).2 = true ∧ cmpF w (bestStep f w s b).1 (f b) ≤ 0 ∧ (s.2 = true → cmpF w (bestStep f w s b).1 s.1 ≤ 0) ∧ ((s.2 = true ∧ (bestStep f w s b).1 = s.1) ∨ (bestStep f w s b).1 = f b) := by
   unfold bestStep
   have hself := (tot_cmp w).self (f b)
   by_cases h : s.2 = false ∨ cmpF w (f b) s.1 < 0
   ·rw [if_pos h]
    refine ⟨rfl, by show cmpF w (f b) (f b) ≤ 0; omega, fun hs => ?_, .inr rfl⟩
    rcases h with h | h
    ·rw [hs] at h; cases h
    ·exact Int.le_of_lt h
   ·rw [if_neg h]
    have hs : s.2 = true := by
     cases e : s.2
     ·exact absurd (.inl e) h
     ·rfl
    refine ⟨hs, ?_, fun _ => ?_, .inl ⟨hs, rfl⟩⟩
    ·have h2 : ¬ cmpF w (f b) s.1 < 0 := fun hh => h (.inr hh)
     have := (tot_cmp w).anti (f b) s.1
     omega
    ·have := (tot_cmp w).self s.1
     omega
  obtain ⟨t1, t2, t3, t4⟩ := hstep
  have i2' := i2 t1
  refine ⟨fun _ => i1 (.inl t1), fun hs => (tot_cmp w).trans _ _ _ i2' (t3 hs), fun c hc => ?_, ?_⟩
  ·rcases List.mem_cons.1 hc with rfl | hc
   ·exact (tot_cmp w).trans _ _ _ i2' t2
   ·exact i3 c hc
  ·rcases i4 with ⟨_, i4⟩ | i4 | ⟨c, hc, i4⟩
   ·rcases t4 with ⟨hs, t4⟩ | t4
    ·exact .inl ⟨hs, i4.trans t4⟩
    ·exact .inr (.inr ⟨b, List.mem_cons_self .., i4.trans t4⟩)
   ·rcases t4 with ⟨hs, t4⟩ | t4
    ·exact .inl ⟨hs, by rw [i5 i4]; exact t4⟩
    ·exact .inr (.inr ⟨b, List.mem_cons_self .., by rw [i5 i4]; exact t4⟩)
   ·exact .inr (.inr ⟨c, List.mem_cons_of_mem _ hc, i4⟩)
end Go.Proofs.YtjbkjgmcfommgaaGreat

namespace Go.Proofs.YtjbkjgmcfommgaaGreat
open Go.RowKit
section
variable {P : Program} {ops : Array Oper} {S : Ran → (Nat → Value) → World → Prop} {md : Region.Mode} {n N : Nat} {a0 : Act}
end
end Go.Proofs.YtjbkjgmcfommgaaGreat

namespace Go.Proofs.YtjbkjgmcfommgaaGreat
open Go.RowKit
def cutsS (x : Sp) (b : List Sp) : List Sp := b.flatMap fun y => cutS x y
theorem cutsS_snoc (x y : Sp) (b : List Sp) : cutsS x (b ++ [y]) = cutsS x b ++ cutS x y := by simp [cutsS]
theorem interF_snoc (a b : List Sp) (x : Sp) : interF (a ++ [x]) b = interF a b ++ cutsS x b := by simp [interF, cutsS]
theorem cutsS_len (x : Sp) (b : List Sp) : (cutsS x b).length ≤ b.length := by
  induction b with
  | nil => simp [cutsS]
  | cons y b ih =>
    have : (cutS x y).length ≤ 1 := by unfold cutS; split <;> simp
    simp only [cutsS, List.flatMap_cons, List.length_append, List.length_cons] at *
    omega
theorem interF_len (a b : List Sp) : (interF a b).length ≤ a.length * b.length := by
  induction a with
  | nil => simp [interF]
  | cons x a ih =>
    have h1 := cutsS_len x b
    have : interF (x :: a) b = cutsS x b ++ interF a b := rfl
    rw [this, List.length_append, List.length_cons, Nat.succ_mul]
    omega
section
variable {ops : Array Oper} {rest : List Oper} {o : Oper} {a : Act} {w : World} {Q : Exit → Act → World → Prop}
theorem wpList_append_sp2 (hgd : o.guard = none) (s x : Operand) (ho : o.op = .call { callee := .builtin .append, args := #[s, x], argTypes := #[56, 56] })
    {base : Nat} {v : Value} {l m : List Sp} {A : Option Addr} {c n : Nat} (hn : n = m.length) (hs : a.eval s = v) (hown : Own w base v l) (hx : a.eval x = .slice A n c) (hr : Sps w A m) (hlen : l.length + m.length ≤ 1000000) (hbase : base ≤ w.heap.size)
    (h : ∀ v' w', Own w' base v' (l ++ m) → w.grownBy w' v.ownBlock → (v'.ownBlock = v.ownBlock ∨ v'.ownBlock = some w.heap.size) → wpList Tryz.prog ops Q rest (a.put o.dst v') w') : wpList Tryz.prog ops Q (o :: rest) a w := by
  obtain ⟨i0, hi0, hi1, hi2, hi3, hi4⟩ := sinfo
  subst hn
  refine wpList_append_any w hgd s x 56 ho base 86 i0 _ 2 16 Tryz.underlying56 hi0 hi3 hi1 hi2 hi4 (by omega) v l.length (scells l) hs hown w.heap.size A m.length c (scells m) hx hr (scells_one m) (by simp only [maxLen]; omega) (by omega) hbase fun v' w' h1 h2 h3 => h v' w' ?_ h2 h3
  unfold Own
  rw [scells_append, List.length_append]
  exact h1
end
set_option maxHeartbeats 4000000 in
theorem rspans_at (A : Option Addr) (c : Nat) (l : List Sp) (w : World) (h : Sps w A l) (hl : l.length ≤ 9223372036854775807) :
    Calls Tryz.prog 110 #[.agg #[.slice A l.length c]] w fun e w' => (∃ A2 c2, e = .returned (.slice A2 (spansF l).length c2) ∧ (∀ w0, Sps w0 A l → Sps w0 A2 (spansF l)) ∧ (l.length ≤ c → (spansF l).length ≤ c2)) ∧ Grows w w' := by
  have k2 := Blk.new w 58 #[.slice A l.length c]
  have hB := (Below.refl w.heap.size w).alloc (Nat.le_refl _) (Obj.cells #[.slice A l.length c] 58)
  go_enter Tryz.func110, Tryz.ntmps110
  go_upto_region 1 with fail
  have h1 := h.grows hB
  generalize World.alloc w _ = w1 at *
  have x2 := k2.cell 0
  go_wp2_with fail
  refine (rvalid_any A c l _ h1 hl).mono ?_
  rintro e w2 ⟨rfl, hq⟩
  replace hB := below_grows hB (Nat.le_refl _) hq
  replace k2 := k2.grows hq
  clear x2 hq
  have x2 := k2.cell 0
  cases hok : okS l
  · have e : spansF l = [] := if_neg (by rw [hok]; simp)
    have HE := Lib.hid e
    clear e
    go_wp2
    go_ret
    rw [HE.out]
    exact ⟨⟨none, 0, rfl, fun _ _ => sps_nil _, fun _ => Nat.le_refl _⟩, hB⟩
  · have e : spansF l = l := if_pos hok
    have HE := Lib.hid e
    clear e
    go_wp2
    go_ret
    rw [HE.out]
    exact ⟨⟨A, c, rfl, fun _ h => h, id⟩, hB⟩
set_option maxRecDepth 100000 in
set_option maxHeartbeats 16000000 in
theorem all_any (A : Option Addr) (c : Nat) (l : List Sp) (B : Option Addr) (cb : Nat) (m : List Sp) (w : World) (h : Sps w A l) (hl : l.length ≤ 9223372036854775807) (hm : Sps w B m) (hml : m.length ≤ 9223372036854775807) :
    Calls Tryz.prog 72 #[.agg #[.slice A l.length c], .agg #[.slice B m.length cb]] w fun e w' => (∃ v, e = .returned v ∧ Own w' w.heap.size v (interF (spansF l) (spansF m))) ∧ Grows w w' := by
  have k2 := (Blk.new w 58 #[.slice A l.length c]).alloc (Obj.cells #[.slice B m.length cb] 58)
  have k3 := blk_new_at (X := w.alloc (Obj.cells #[.slice A l.length c] 58)) (n := w.heap.size + 1) (t := 58) (cs := #[.slice B m.length cb]) (by simp)
  have hB := ((Below.refl w.heap.size w).alloc (Nat.le_refl _) (Obj.cells #[.slice A l.length c] 58)).alloc (by simp) (Obj.cells #[.slice B m.length cb] 58)
  go_enter Tryz.func72, Tryz.ntmps72
  go_upto_region 1 with fail
  generalize World.alloc (World.alloc w _) _ = w1 at *
  have x2 := k2.cell 0
  go_wp2_with fail
  refine (rspans_at A c l _ (h.grows hB) hl).mono ?_
  rintro e w2 ⟨⟨A2, c2, rfl, hat, -⟩, hq⟩
  replace hB := below_grows hB (Nat.le_refl _) hq
  replace k3 := k3.grows hq
  have h2 := hat w h
  have hl2 := spansF_len l
  have hm2 := spansF_len m
  generalize hA : spansF l = a at *
  have HA := Lib.hid hA
  clear x2 k2 hq h hat hA
  go_wp2_with fail
  go_loopw [5, 15] (fun v i wr => ∃ k : Nat, k ≤ a.length ∧ i = .int .i64 k ∧ Own wr w.heap.size v (interF (a.take k) (spansF m)) ∧ Below w.heap.size w wr ∧ Blk wr (w.heap.size + 1) 58 #[.slice B m.length cb]) (fun _ i _ => a.length - (intOf i).toNat)
  case atStart => exact ⟨0, by omega, rfl, own_nil _ _, hB, k3⟩
  case round =>
    clear hB k3
    obtain ⟨k, hk, rfl, hown, hB, k3⟩ := hrel
    by_cases hlt : k < a.length
    · obtain ⟨ad, x, rfl, had, hx, c0, c1⟩ := (h2.grows hB).elem hlt
      have HX : Hid (interF (a.take (k + 1)) (spansF m) = interF (a.take k) (spansF m) ++ cutsS x (spansF m)) := Lib.hid (by rw [take_snoc hx, interF_snoc])
      clear hx
      have hin : (interF (a.take k) (spansF m)).length ≤ 4096 := Nat.le_trans (interF_len _ _) (Nat.le_trans (Nat.mul_le_mul (by rw [List.length_take]; omega : (a.take k).length ≤ 64) hm2) (by omega))
      generalize interF (a.take k) (spansF m) = p at *
      have k7 := Blk.new wr 86 #[.int .i64 x.1, .int .i64 x.2]
      have hno : ∀ v : Value, Own wr w.heap.size v p → v.ownBlock ≠ some wr.heap.size := fun v ho e => by have := (ho.lt _ e).2; omega
      replace hno := hno _ hown
      have hq := (Below.refl wr.heap.size wr).alloc (Nat.le_refl _) (Obj.cells #[.int .i64 x.1, .int .i64 x.2] 86)
      replace hB := below_grows hB (Nat.le_refl _) hq
      replace k3 := k3.grows hq
      replace hown := hown.grows hq
      clear hq
      go_upto_region 5 with fail
      clear c0 c1
      generalize World.alloc wr _ = w4 at *
      generalize wr.heap.size = G7 at *
      have x3 := k3.cell 0
      go_wp2_with fail
      refine (rspans_at B cb m _ (hm.grows hB) hml).mono ?_
      rintro e w5 ⟨⟨B2, c5, rfl, hat, -⟩, hq⟩
      replace hown := hown.grows hq
      replace k7 := k7.grows hq
      replace k3 := k3.grows hq
      replace hB := below_grows hB (Nat.le_refl _) hq
      have h5 := hat w hm
      clear hq x3 hat
      generalize hMM : spansF m = mm at *
      have HMM := Lib.hid hMM
      clear hMM
      go_wp2_with fail
      go_loopw [5, 22] (fun v i wr => ∃ j : Nat, j ≤ mm.length ∧ i = .int .i64 j ∧ Own wr w.heap.size v (p ++ cutsS x (mm.take j)) ∧ v.ownBlock ≠ some G7 ∧ Below w.heap.size w wr ∧ Blk wr (w.heap.size + 1) 58 #[.slice B m.length cb] ∧ Blk wr G7 86 #[.int .i64 x.1, .int .i64 x.2]) (fun _ i _ => mm.length - (intOf i).toNat)
      case atStart => exact ⟨0, by omega, rfl, by simpa [cutsS] using hown, hno, hB, k3, k7⟩
      case round =>
        clear hown hB hno k3 k7
        obtain ⟨j, hj, rfl, hown, hno, hB, k3, k7⟩ := hrel
        by_cases hjt : j < mm.length
        · obtain ⟨ad2, y, rfl, had2, hy, d0, d1⟩ := (h5.grows hB).elem hjt
          have HY : Hid (cutsS x (mm.take (j + 1)) = cutsS x (mm.take j) ++ cutS x y) := Lib.hid (by rw [take_snoc hy, cutsS_snoc])
          clear hy
          have hcl : (cutsS x (mm.take j)).length ≤ 64 := Nat.le_trans (cutsS_len _ _) (by rw [List.length_take]; omega)
          generalize cutsS x (mm.take j) = r at *
          have k9 := Blk.new wr 86 #[.int .i64 y.1, .int .i64 y.2]
          have hq := (Below.refl wr.heap.size wr).alloc (Nat.le_refl _) (Obj.cells #[.int .i64 y.1, .int .i64 y.2] 86)
          replace hB := below_grows hB (Nat.le_refl _) hq
          replace hown := hown.grows hq
          replace k3 := k3.grows hq
          replace k7 := k7.grows hq
          clear hq
          go_upto_region 8 with fail
          clear d0 d1
          generalize World.alloc wr _ = w6 at *
          generalize wr.heap.size = G9 at *
          have e0 := k7.cell 0
          have e1 := k7.cell 1
          have f0 := k9.cell 0
          have f1 := k9.cell 1
          go_region
          have HC : Hid (cutS x y = if max x.1 y.1 ≤ min x.2 y.2 then [(max x.1 y.1, min x.2 y.2)] else []) := Lib.hid rfl
          generalize max x.1 y.1 = lo at *
          generalize min x.2 y.2 = hi at *
          have hq := Grows.drew' w6
          replace hB := below_grows hB (Nat.le_refl _) hq
          replace hown := hown.grows hq
          replace k3 := k3.grows hq
          replace k7 := k7.grows hq
          clear hq e0 e1 f0 f1 k9
          generalize World.drew _ = w7 at *
          by_cases hlh : lo ≤ hi
          · go_upto_region 10 with fail
            refine wp_region_lit ?_
            iterate 5
              refine wpList_plain rfl (fun K hK => ?_)
              go_simp
              refine hK _ _ ?_
              clear hK K
            have hq := (Below.refl w7.heap.size w7).alloc (Nat.le_refl _) (Obj.cells #[.int .i64 lo, .int .i64 hi] 86)
            replace hB := below_grows hB (Nat.le_refl _) hq
            replace hown := hown.grows hq
            replace k3 := k3.grows hq
            replace k7 := k7.grows hq
            refine wpList_append_sp2 rfl (.tmp 39) (.tmp 43) rfl (m := [(lo, hi)]) rfl rfl hown rfl (sps_lit w7 (lo, hi)) (by simp; omega) hB.size ?_
            intro v3 w8 hown3 hgr3 hv3
            have hB5 := hown.below hB hgr3 hB.size
            have k35 := k3.grown hgr3 (fun e => own_blk_ne hown k3 (by decide) e.symm)
            have k75 := k7.grown hgr3 (fun e => hno e.symm)
            have hno5 : v3.ownBlock ≠ some G7 := by
              rcases hv3 with e | e
              · rw [e]; exact hno
              · rw [e]; intro e2; injection e2 with e2; have := k7.lt; omega
            have e : p ++ cutsS x (mm.take (j + 1)) = p ++ r ++ [(lo, hi)] := by rw [HY.out, HC.out, if_pos hlh, List.append_assoc]
            rw [← e] at hown3
            clear e HY HC hown hq hB hgr3 k3 k7 hno hv3
            go_wp2
            go_roundw
            case rel => exact ⟨j + 1, by omega, by go_num, hown3, hno5, hB5, k35, k75⟩
            case measure => simp [intOf]; omega
          · have e : p ++ cutsS x (mm.take (j + 1)) = p ++ r := by rw [HY.out, HC.out, if_neg hlh, List.append_nil]
            rw [← e] at hown
            clear e HY HC
            go_wp2
            go_roundw
            case rel => exact ⟨j + 1, by omega, by go_num, hown, hno, hB, k3, k7⟩
            case measure => simp [intOf]; omega
        · have e : mm.take j = mm := List.take_of_length_le (by omega)
          rw [e, ← HX.out] at hown
          clear e HX hno k7
          go_wp2
          go_roundw
          case rel => exact ⟨k + 1, by omega, by go_num, by rw [HMM.out]; exact hown, hB, k3⟩
          case measure => simp [intOf]; omega
    · have e : a.take k = a := List.take_of_length_le (by omega)
      rw [e, ← HA.out] at hown
      clear e
      go_wp2
      go_ret
      exact ⟨⟨_, rfl, hown⟩, hB⟩
/-- What spans gives, as a value. -/
def SpV (A : Option Addr) (c : Nat) (l : List Sp) : Value := if okS l = true then .slice A l.length c else .slice none 0 0
theorem spV_is (A : Option Addr) (c : Nat) (l : List Sp) : ∃ A2 c2, SpV A c l = .slice A2 (spansF l).length c2 ∧ (∀ w0, Sps w0 A l → Sps w0 A2 (spansF l)) := by
  cases hok : okS l
  · exact ⟨none, 0, by unfold SpV spansF; rw [if_neg (by rw [hok]; simp), if_neg (by rw [hok]; simp)]; rfl, fun _ _ => by unfold spansF; rw [if_neg (by rw [hok]; simp)]; exact sps_nil _⟩
  · exact ⟨A, c, by unfold SpV spansF; rw [if_pos hok, if_pos hok], fun _ h => by unfold spansF; rw [if_pos hok]; exact h⟩
theorem meas_i (n m i k : Nat) (h : i < n) : n - (intOf (.int .i64 ((i : Int) + 1))).toNat + (m - (intOf (.int .i64 (k : Int))).toNat) < n - (intOf (.int .i64 (i : Int))).toNat + (m - (intOf (.int .i64 (k : Int))).toNat) := by
  simp [intOf]
  omega
theorem meas_k (n m i k : Nat) (h : k < m) : n - (intOf (.int .i64 (i : Int))).toNat + (m - (intOf (.int .i64 ((k : Int) + 1))).toNat) < n - (intOf (.int .i64 (i : Int))).toNat + (m - (intOf (.int .i64 (k : Int))).toNat) := by
  simp [intOf]
  omega
theorem canon_drop {l : List Sp} (h : Canon l) (i : Nat) : Canon (l.drop i) := ⟨fun x hx => h.1 x (List.mem_of_mem_drop hx), h.2.sublist (List.drop_sublist _ _)⟩
set_option maxHeartbeats 4000000 in
theorem spans_val (A : Option Addr) (c : Nat) (l : List Sp) (w : World) (h : Sps w A l) (hl : l.length ≤ 9223372036854775807) :
    Calls Tryz.prog 112 #[.agg #[.slice A l.length c]] w fun e w' => e = .returned (SpV A c l) ∧ Grows w w' := by
  have k2 := Blk.new w 58 #[.slice A l.length c]
  have hB := (Below.refl w.heap.size w).alloc (Nat.le_refl _) (Obj.cells #[.slice A l.length c] 58)
  go_enter Tryz.func112, Tryz.ntmps112
  go_upto_region 1 with fail
  have h1 := h.grows hB
  generalize World.alloc w _ = w1 at *
  have x2 := k2.cell 0
  go_wp2_with fail
  refine (valid_any A c l _ h1 hl).mono ?_
  rintro e w2 ⟨rfl, hq⟩
  replace hB := below_grows hB (Nat.le_refl _) hq
  replace k2 := k2.grows hq
  clear x2 hq
  have x2 := k2.cell 0
  cases hok : okS l
  · have e : SpV A c l = .slice none 0 0 := if_neg (by rw [hok]; simp)
    have HE := Lib.hid e
    clear e
    go_wp2
    go_ret
    rw [HE.out]
    exact ⟨rfl, hB⟩
  · have e : SpV A c l = .slice A l.length c := if_pos hok
    have HE := Lib.hid e
    clear e
    go_wp2
    go_ret
    rw [HE.out]
    exact ⟨rfl, hB⟩
set_option maxHeartbeats 4000000 in
theorem rspans_val (A : Option Addr) (c : Nat) (l : List Sp) (w : World) (h : Sps w A l) (hl : l.length ≤ 9223372036854775807) :
    Calls Tryz.prog 110 #[.agg #[.slice A l.length c]] w fun e w' => e = .returned (SpV A c l) ∧ Grows w w' := by
  have k2 := Blk.new w 58 #[.slice A l.length c]
  have hB := (Below.refl w.heap.size w).alloc (Nat.le_refl _) (Obj.cells #[.slice A l.length c] 58)
  go_enter Tryz.func110, Tryz.ntmps110
  go_upto_region 1 with fail
  have h1 := h.grows hB
  generalize World.alloc w _ = w1 at *
  have x2 := k2.cell 0
  go_wp2_with fail
  refine (rvalid_any A c l _ h1 hl).mono ?_
  rintro e w2 ⟨rfl, hq⟩
  replace hB := below_grows hB (Nat.le_refl _) hq
  replace k2 := k2.grows hq
  clear x2 hq
  have x2 := k2.cell 0
  cases hok : okS l
  · have e : SpV A c l = .slice none 0 0 := if_neg (by rw [hok]; simp)
    have HE := Lib.hid e
    clear e
    go_wp2
    go_ret
    rw [HE.out]
    exact ⟨rfl, hB⟩
  · have e : SpV A c l = .slice A l.length c := if_pos hok
    have HE := Lib.hid e
    clear e
    go_wp2
    go_ret
    rw [HE.out]
    exact ⟨rfl, hB⟩
set_option maxRecDepth 100000 in
set_option maxHeartbeats 16000000 in
theorem inter_own (A : Option Addr) (c : Nat) (l : List Sp) (B : Option Addr) (cb : Nat) (m : List Sp) (w : World) (h : Sps w A l) (hl : l.length ≤ 9223372036854775807) (hm : Sps w B m) (hml : m.length ≤ 9223372036854775807) :
    Calls Tryz.prog 143 #[.agg #[.slice A l.length c], .agg #[.slice B m.length cb]] w fun e w' => (∃ A5 c5, e = .returned (.agg #[.slice A5 ((interF (spansF l) (spansF m)).take 64).length c5]) ∧ ((interF (spansF l) (spansF m)).take 64).length ≤ c5 ∧ SpB w' (Ge w.heap.size) A5 ((interF (spansF l) (spansF m)).take 64)) ∧ Grows w w' := by
  have k2 := ((Blk.new w 58 #[.slice A l.length c]).alloc (Obj.cells #[.slice B m.length cb] 58)).alloc (Obj.cells #[.slice none 0 0] 58)
  have k3 := (blk_new_at (X := w.alloc (Obj.cells #[.slice A l.length c] 58)) (n := w.heap.size + 1) (t := 58) (cs := #[.slice B m.length cb]) (by simp)).alloc (Obj.cells #[.slice none 0 0] 58)
  have k4 := blk_new_at (X := (w.alloc (Obj.cells #[.slice A l.length c] 58)).alloc (Obj.cells #[.slice B m.length cb] 58)) (n := w.heap.size + 2) (t := 58) (cs := #[.slice none 0 0]) (by simp)
  have hB := (((Below.refl w.heap.size w).alloc (Nat.le_refl _) (Obj.cells #[.slice A l.length c] 58)).alloc (by simp) (Obj.cells #[.slice B m.length cb] 58)).alloc (by simp; omega) (Obj.cells #[.slice none 0 0] 58)
  go_enter Tryz.func143, Tryz.ntmps143
  go_upto_region 1 with fail
  generalize World.alloc (World.alloc (World.alloc w _) _) _ = w1 at *
  obtain ⟨S, HI, HO⟩ := hideS fun (L : Ran) (vs : Nat → Value) (w' : World) => Grows w1 w' ∧ KnS [some (.agg #[.slice A l.length c]), some (SpV A c l), some (.agg #[.slice B m.length cb]), some (SpV B cb m), some (SpV A c l), some (SpV B cb m)] L vs
  refine wp_region_genW S 79 (by kernel_rfl) (by kernel_rfl) rfl ?_ ?_
  · exact HI.out _ _ _ ⟨Grows.drew' _, kn_none _ _⟩
  refine gen_consR (fun vs L w1 hL hw1 => ?_) ?_
  · obtain ⟨q0, q1⟩ := HO.out _ _ _ hw1
    refine gen_plain rfl ?_
    have x := (k2.grows q0).cell 0
    go_simp
    exact gr_val (HI.out _ _ _ ⟨q0, kn_known q1 rfl⟩)
  refine gen_consR (fun vs L w1 hL hw1 => ?_) ?_
  · obtain ⟨q0, q1⟩ := HO.out _ _ _ hw1
    refine gen_plain rfl ?_
    have l0 : L 0 = true := hL.need 0 (by kernel_rfl)
    have e0 := q1 0 _ rfl l0
    simp only [e0]
    go_simp
    refine gr_call ?_
    refine (spans_val A c l _ (h.grows (below_grows hB (Nat.le_refl _) q0)) hl).mono ?_
    rintro e w2 ⟨rfl, hg⟩
    exact ⟨_, rfl, HI.out _ _ _ ⟨below_grows q0 (Nat.le_refl _) hg, kn_known q1 rfl⟩⟩
  refine gen_consR (fun vs L w1 hL hw1 => ?_) ?_
  · obtain ⟨q0, q1⟩ := HO.out _ _ _ hw1
    refine gen_plain rfl ?_
    have x := (k3.grows q0).cell 0
    go_simp
    exact gr_val (HI.out _ _ _ ⟨q0, kn_known q1 rfl⟩)
  refine gen_consR (fun vs L w1 hL hw1 => ?_) ?_
  · obtain ⟨q0, q1⟩ := HO.out _ _ _ hw1
    refine gen_plain rfl ?_
    have l2 : L 2 = true := hL.need 2 (by kernel_rfl)
    have e2 := q1 2 _ rfl l2
    simp only [e2]
    go_simp
    refine gr_call ?_
    refine (spans_val B cb m _ (hm.grows (below_grows hB (Nat.le_refl _) q0)) hml).mono ?_
    rintro e w2 ⟨rfl, hg⟩
    exact ⟨_, rfl, HI.out _ _ _ ⟨below_grows q0 (Nat.le_refl _) hg, kn_known q1 rfl⟩⟩
  refine gen_consR (fun vs L w1 hL hw1 => ?_) ?_
  · obtain ⟨q0, q1⟩ := HO.out _ _ _ hw1
    refine gen_plain rfl ?_
    have l1 : L 1 = true := hL.need 1 (by kernel_rfl)
    have e1 := q1 1 _ rfl l1
    simp only [e1]
    go_simp
    exact gr_val (HI.out _ _ _ ⟨q0, kn_known q1 rfl⟩)
  refine gen_consR (fun vs L w1 hL hw1 => ?_) ?_
  · obtain ⟨q0, q1⟩ := HO.out _ _ _ hw1
    refine gen_plain rfl ?_
    have l3 : L 3 = true := hL.need 3 (by kernel_rfl)
    have e3 := q1 3 _ rfl l3
    simp only [e3]
    go_simp
    exact gr_val (HI.out _ _ _ ⟨q0, kn_known q1 rfl⟩)
  refine gen_nil ?_
  intro vs L W6 hall hS
  obtain ⟨hq, q1⟩ := HO.out _ _ _ hS
  have eL := q1 5 _ rfl (hall 5 (by simp))
  have eX4 := q1 4 _ rfl (hall 4 (by simp))
  clear hall hS HI HO q1
  simp only [eL, eX4]
  replace hB := below_grows hB (Nat.le_refl _) hq
  replace k4 := k4.grows hq
  clear hq
  obtain ⟨A2, c2, ev2, hat⟩ := spV_is A c l
  obtain ⟨A3, c3, ev3, hbt⟩ := spV_is B cb m
  rw [ev2, ev3]
  have h2 := hat w h
  have h3 := hbt w hm
  have hca := spansF_canon l
  have hcb := spansF_canon m
  have hla := spansF_len l
  have hlb := spansF_len m
  generalize hA : spansF l = a at *
  generalize hM : spansF m = b at *
  have HA := Lib.hid hA
  have HM := Lib.hid hM
  clear hA hM hat hbt ev2 ev3 eL eX4 h hm k2 k3
  generalize vs 0 = y0 at *
  generalize vs (0 + 1) = y1 at *
  generalize vs (0 + 1 + 1) = y2 at *
  generalize vs (0 + 1 + 1 + 1) = y3 at *
  clear vs
  have hz2 : w.heap.size + 2 < W6.heap.size := k4.lt
  go_upto_region 4 with fail
  go_loopw [7, 8, 9] (fun v x y wr => ∃ (i k : Nat) (p : List Sp), i ≤ a.length ∧ k ≤ b.length ∧ p.length ≤ 64 ∧ x = .int .i64 i ∧ y = .int .i64 k ∧ Own wr (w.heap.size + 3) v p ∧ p ++ interF (a.drop i) (b.drop k) = interF a b ∧ Below w.heap.size w wr ∧ Blk wr (w.heap.size + 2) 58 #[.slice none 0 0]) (fun _ x y _ => (a.length - (intOf x).toNat) + (b.length - (intOf y).toNat))
  case atStart => exact ⟨0, 0, [], by omega, by omega, by simp, rfl, rfl, own_nil _ _, by simp, hB, k4⟩
  case round =>
    clear hB k4
    obtain ⟨i, k, p, hi, hk, hp, rfl, rfl, hown, hpe, hB, k4⟩ := hrel
    have HPE := Lib.hid hpe
    clear hpe
    obtain ⟨A5, c5, rfl, hc5, hr5, hge5⟩ := hown.read
    by_cases hia : i < a.length
    rotate_left
    · as_aux_lemma =>
      have hfin : (interF a b).take 64 = p := by rw [← HPE.out, List.drop_of_length_le (by omega), show interF [] (b.drop k) = [] from rfl, List.append_nil, List.take_of_length_le hp]
      have HFN := Lib.hid hfin
      clear hfin HPE
      have x4 := k4.cell 0
      have f4 := k4.frozen 0
      go_wp2
      have k5 := k4.set_ 0 (.slice A5 p.length c5)
      have hB4 := hB.setCell (p := ⟨w.heap.size + 2, 0, none⟩) (by simp) (.slice A5 p.length c5)
      have hr6 := hr5.setOther k4 (.slice A5 p.length c5)
      generalize World.setCell _ _ _ = w5 at *
      have x5 : w5.cell? ⟨w.heap.size + 2, 0, none⟩ = some (.slice A5 p.length c5) := by rw [k5.cell]; rfl
      clear x4 f4 k4 k5
      exact bodyPost_ret (v := .agg #[.slice A5 p.length c5]) (by simp [results, Tryz.results143, go_sem, x5]) rfl ⟨⟨A5, c5, by rw [HA.out, HM.out, HFN.out], by rw [HA.out, HM.out, HFN.out]; exact hc5, by rw [HA.out, HM.out, HFN.out]; exact ⟨hr6, fun _ ad e => by have := hge5 ad e; unfold Ge; omega⟩⟩, hB4⟩
    by_cases hkb : k < b.length
    rotate_left
    · as_aux_lemma =>
      have hfin : (interF a b).take 64 = p := by rw [← HPE.out, List.drop_of_length_le (l := b) (by omega), inter_nil_right, List.append_nil, List.take_of_length_le hp]
      have HFN := Lib.hid hfin
      clear hfin HPE
      have x4 := k4.cell 0
      have f4 := k4.frozen 0
      go_wp2
      have k5 := k4.set_ 0 (.slice A5 p.length c5)
      have hB4 := hB.setCell (p := ⟨w.heap.size + 2, 0, none⟩) (by simp) (.slice A5 p.length c5)
      have hr6 := hr5.setOther k4 (.slice A5 p.length c5)
      generalize World.setCell _ _ _ = w5 at *
      have x5 : w5.cell? ⟨w.heap.size + 2, 0, none⟩ = some (.slice A5 p.length c5) := by rw [k5.cell]; rfl
      clear x4 f4 k4 k5
      exact bodyPost_ret (v := .agg #[.slice A5 p.length c5]) (by simp [results, Tryz.results143, go_sem, x5]) rfl ⟨⟨A5, c5, by rw [HA.out, HM.out, HFN.out], by rw [HA.out, HM.out, HFN.out]; exact hc5, by rw [HA.out, HM.out, HFN.out]; exact ⟨hr6, fun _ ad e => by have := hge5 ad e; unfold Ge; omega⟩⟩, hB4⟩
    by_cases hp64 : p.length < 64
    rotate_left
    · as_aux_lemma =>
      have hfin : (interF a b).take 64 = p := by rw [← HPE.out, List.take_left' (by omega)]
      have HFN := Lib.hid hfin
      clear hfin HPE
      have x4 := k4.cell 0
      have f4 := k4.frozen 0
      go_wp2
      have k5 := k4.set_ 0 (.slice A5 p.length c5)
      have hB4 := hB.setCell (p := ⟨w.heap.size + 2, 0, none⟩) (by simp) (.slice A5 p.length c5)
      have hr6 := hr5.setOther k4 (.slice A5 p.length c5)
      generalize World.setCell _ _ _ = w5 at *
      have x5 : w5.cell? ⟨w.heap.size + 2, 0, none⟩ = some (.slice A5 p.length c5) := by rw [k5.cell]; rfl
      clear x4 f4 k4 k5
      exact bodyPost_ret (v := .agg #[.slice A5 p.length c5]) (by simp [results, Tryz.results143, go_sem, x5]) rfl ⟨⟨A5, c5, by rw [HA.out, HM.out, HFN.out], by rw [HA.out, HM.out, HFN.out]; exact hc5, by rw [HA.out, HM.out, HFN.out]; exact ⟨hr6, fun _ ad e => by have := hge5 ad e; unfold Ge; omega⟩⟩, hB4⟩
    obtain ⟨ad, x, rfl, had, hx, c0, c1⟩ := h2.elem hia
    obtain ⟨ad2, y, rfl, had2, hy, d0, d1⟩ := h3.elem hkb
    have HDA : a.drop i = x :: a.drop (i + 1) := by
      obtain ⟨hj2, hyy⟩ := List.getElem?_eq_some_iff.1 hx
      rw [← hyy]
      exact List.drop_eq_getElem_cons hj2
    have HDB : b.drop k = y :: b.drop (k + 1) := by
      obtain ⟨hj2, hyy⟩ := List.getElem?_eq_some_iff.1 hy
      rw [← hyy]
      exact List.drop_eq_getElem_cons hj2
    have HIS : Hid (p ++ (cutS x y ++ if x.2 < y.2 then interF (a.drop (i + 1)) (b.drop k) else interF (a.drop i) (b.drop (k + 1))) = interF a b) := Lib.hid (by
      rw [← HPE.out, HDA, HDB, inter_step (by rw [← HDA]; exact canon_drop hca i) (by rw [← HDB]; exact canon_drop hcb k)])
    clear hx hy HDA HDB HPE
    have hcx0 : ∀ w', Below w.heap.size w w' → w'.cell? (ad.add (i * 2)) = some (.int .i64 x.1) := fun w' hb => (hb.cell (p := ad.add (i * 2)) (by rw [block_of_add]; exact had)).trans c0
    have hcx1 : ∀ w', Below w.heap.size w w' → w'.cell? ⟨(ad.add (i * 2)).block, (ad.add (i * 2)).off + 1, none⟩ = some (.int .i64 x.2) := fun w' hb => (hb.cell (p := ⟨(ad.add (i * 2)).block, (ad.add (i * 2)).off + 1, none⟩) (by simp only [block_of_add]; exact had)).trans c1
    have hcy0 : ∀ w', Below w.heap.size w w' → w'.cell? (ad2.add (k * 2)) = some (.int .i64 y.1) := fun w' hb => (hb.cell (p := ad2.add (k * 2)) (by rw [block_of_add]; exact had2)).trans d0
    have hcy1 : ∀ w', Below w.heap.size w w' → w'.cell? ⟨(ad2.add (k * 2)).block, (ad2.add (k * 2)).off + 1, none⟩ = some (.int .i64 y.2) := fun w' hb => (hb.cell (p := ⟨(ad2.add (k * 2)).block, (ad2.add (k * 2)).off + 1, none⟩) (by simp only [block_of_add]; exact had2)).trans d1
    clear c0 c1 d0 d1
    have c0 := hcx0 _ hB
    have c1 := hcx1 _ hB
    have d0 := hcy0 _ hB
    have d1 := hcy1 _ hB
    have hb1 : (ad.add (i * 2)).block < wr.heap.size := by rw [block_of_add]; have := hB.size; omega
    have hb2 : (ad2.add (k * 2)).block < wr.heap.size := by rw [block_of_add]; have := hB.size; omega
    go_upto_region 5 with fail
    go_region
    clear c0 c1 d0 d1 hb1 hb2 hcx0 hcy0
    have HC : Hid (cutS x y = if max x.1 y.1 ≤ min x.2 y.2 then [(max x.1 y.1, min x.2 y.2)] else []) := Lib.hid rfl
    generalize max x.1 y.1 = lo at *
    generalize min x.2 y.2 = hi' at *
    have k10 := (Blk.new wr 86 #[.int .i64 lo, .int .i64 hi']).drew
    have hq := below_grows ((Below.refl wr.heap.size wr).alloc (Nat.le_refl _) (Obj.cells #[.int .i64 lo, .int .i64 hi'] 86)) (Nat.le_refl _) (Grows.drew' _)
    replace hB := below_grows hB (Nat.le_refl _) hq
    replace hown := hown.grows hq
    replace k4 := k4.grows hq
    clear hq
    generalize World.drew _ = w7 at *
    generalize wr.heap.size = G10 at *
    have e0 := k10.cell 0
    have e1 := k10.cell 1
    clear hr5 hge5
    by_cases hlh : lo ≤ hi'
    · as_aux_lemma =>
      have HS : Hid ((p ++ [(lo, hi')]) ++ (if x.2 < y.2 then interF (a.drop (i + 1)) (b.drop k) else interF (a.drop i) (b.drop (k + 1))) = interF a b) := Lib.hid (by rw [← HIS.out, HC.out, if_pos hlh, List.append_assoc])
      clear HIS HC
      go_upto_region 7 with fail
      refine wp_region_lit ?_
      iterate 3
        refine wpList_plain rfl (fun K hK => ?_)
        go_simp
        refine hK _ _ ?_
        clear hK K
      have hq := (Below.refl w7.heap.size w7).alloc (Nat.le_refl _) (Obj.cells #[.int .i64 lo, .int .i64 hi'] 86)
      replace hB := below_grows hB (Nat.le_refl _) hq
      replace hown := hown.grows hq
      replace k4 := k4.grows hq
      have hz5 := k4.lt
      refine wpList_append_sp rfl (.tmp 58) (.tmp 60) rfl (m := [(lo, hi')]) rfl rfl hown rfl (sps_lit w7 (lo, hi')) (by simp; omega) (by omega) ?_
      intro v3 w8 hown3 hgr3
      have hB5 := (hown.mono (show w.heap.size ≤ w.heap.size + 3 by omega)).below hB hgr3 hB.size
      have k45 := k4.grown hgr3 (fun e => by have := (hown.lt _ e.symm).1; omega)
      have hp1 : (p ++ [(lo, hi')]).length ≤ 64 := by simp; omega
      clear hown hq hB hgr3 k4 hz5 e0 e1 k10 hp64 hp hlh hc5
      generalize p ++ [(lo, hi')] = p1 at *
      have c1 := hcx1 _ hB5
      have d1 := hcy1 _ hB5
      go_upto_region 8 with fail
      by_cases hxy : x.2 < y.2
      · go_region
        have hq := Grows.drew' w8
        have hB9 := below_grows hB5 (Nat.le_refl _) hq
        have k49 := k45.grows hq
        have hown9 := hown3.grows hq
        have HS9 : Hid (p1 ++ interF (a.drop (i + 1)) (b.drop k) = interF a b) := Lib.hid (by have := HS.out; rwa [if_pos hxy] at this)
        clear HS hq c1 d1
        generalize World.drew _ = w9 at *
        go_wp2
        go_roundw
        case rel => exact ⟨i + 1, k, p1, by omega, by omega, hp1, by go_num, rfl, hown9, HS9.out, hB9, k49⟩
        case measure => exact meas_i a.length b.length i k hia
      · go_region
        have hq := Grows.drew' w8
        have hB9 := below_grows hB5 (Nat.le_refl _) hq
        have k49 := k45.grows hq
        have hown9 := hown3.grows hq
        have HS9 : Hid (p1 ++ interF (a.drop i) (b.drop (k + 1)) = interF a b) := Lib.hid (by have := HS.out; rwa [if_neg hxy] at this)
        clear HS hq c1 d1
        generalize World.drew _ = w9 at *
        go_wp2
        go_roundw
        case rel => exact ⟨i, k + 1, p1, by omega, by omega, hp1, rfl, by go_num, hown9, HS9.out, hB9, k49⟩
        case measure => exact meas_k a.length b.length i k hkb
    · as_aux_lemma =>
      have HS : Hid (p ++ (if x.2 < y.2 then interF (a.drop (i + 1)) (b.drop k) else interF (a.drop i) (b.drop (k + 1))) = interF a b) := Lib.hid (by rw [← HIS.out, HC.out, if_neg hlh, List.nil_append])
      clear HIS HC k10
      go_upto_region 8 with fail
      clear e0 e1 hlh
      have c1 := hcx1 _ hB
      have d1 := hcy1 _ hB
      by_cases hxy : x.2 < y.2
      · go_region
        have hq := Grows.drew' w7
        have hB9 := below_grows hB (Nat.le_refl _) hq
        have k49 := k4.grows hq
        have hown9 := hown.grows hq
        have HS9 : Hid (p ++ interF (a.drop (i + 1)) (b.drop k) = interF a b) := Lib.hid (by have := HS.out; rwa [if_pos hxy] at this)
        clear HS hq c1 d1
        generalize World.drew _ = w9 at *
        go_wp2
        go_roundw
        case rel => exact ⟨i + 1, k, p, by omega, by omega, hp, by go_num, rfl, hown9, HS9.out, hB9, k49⟩
        case measure => exact meas_i a.length b.length i k hia
      · go_region
        have hq := Grows.drew' w7
        have hB9 := below_grows hB (Nat.le_refl _) hq
        have k49 := k4.grows hq
        have hown9 := hown.grows hq
        have HS9 : Hid (p ++ interF (a.drop i) (b.drop (k + 1)) = interF a b) := Lib.hid (by have := HS.out; rwa [if_neg hxy] at this)
        clear HS hq c1 d1
        generalize World.drew _ = w9 at *
        go_wp2
        go_roundw
        case rel => exact ⟨i, k + 1, p, by omega, by omega, hp, rfl, by go_num, hown9, HS9.out, hB9, k49⟩
        case measure => exact meas_k a.length b.length i k hkb
def insP (z x : Sp) : Bool := (decide (x.1 ≤ z.1) && decide (z.2 ≤ x.2))
/-- Each span of l lies in one of m. -/
def insideF (l m : List Sp) : Bool := (spansF l).all fun z => (spansF m).any fun x => insP z x
theorem ins_p (z : Sp) (x : Sp) (B : Nat) (w : World) (kn : Blk w B 86 #[.int .i64 z.1, .int .i64 z.2]) : Calls Tryz.prog 142 #[.agg #[.int .i64 x.1, .int .i64 x.2], .pointer (some ⟨B, 0, none⟩)] w fun e w' => e = .returned (.bool (insP z x)) ∧ Grows w w' := by
  have k2 := Blk.new w 86 #[.int .i64 x.1, .int .i64 x.2]
  have hB := (Below.refl w.heap.size w).alloc (Nat.le_refl _) (Obj.cells #[.int .i64 x.1, .int .i64 x.2] 86)
  replace kn := kn.grows hB
  go_enter Tryz.func142, Tryz.ntmps142
  go_upto_region 1 with fail
  have x0 := kn.cell 0
  have x1 := kn.cell 1
  have y0 := k2.cell 0
  have y1 := k2.cell 1
  have hgg : Grows w (w.alloc (Obj.cells #[.int .i64 x.1, .int .i64 x.2] 86)) := hB
  clear hB
  generalize World.alloc w _ = w1 at *
  generalize w.heap.size = G2 at *
  by_cases h1 : x.1 ≤ z.1
  · by_cases h2 : z.2 ≤ x.2
    · have HE : Hid (insP z x = true) := Lib.hid (by simp [insP, h1, h2])
      go_wp2
      go_ret
      exact ⟨ret_bool HE.out.symm, hgg⟩
    · have HE : Hid (insP z x = false) := Lib.hid (by simp [insP, h2])
      go_wp2
      go_ret
      exact ⟨ret_bool HE.out.symm, hgg⟩
  · have HE : Hid (insP z x = false) := Lib.hid (by simp [insP, h1])
    go_wp2
    go_ret
    exact ⟨ret_bool HE.out.symm, hgg⟩
def Found_ins (z : Sp) (l : List Sp) (r : Int) : Prop := (r = -1 ∧ ∀ x ∈ l, insP z x = false) ∨ (0 ≤ r ∧ ∃ x ∈ l, insP z x = true)
set_option maxHeartbeats 4000000 in
theorem index_ins (z : Sp) (A : Option Addr) (c : Nat) (l : List Sp) (w : World) (B : Nat) (kn : Blk w B 86 #[.int .i64 z.1, .int .i64 z.2]) (h : Sps w A l) (hl : l.length ≤ 9223372036854775807) (F : Value) (hF : F = .func (.func 142) #[] #[.pointer (some ⟨B, 0, none⟩)]) :
    Calls Tryz.prog 139 #[.slice A l.length c, F] w fun e w' => (∃ r, Found_ins z l r ∧ e = .returned (.int .i64 r)) ∧ Grows w w' := by
  subst hF
  go_enter Tryz.func139, Tryz.ntmps139
  go_wp2
  go_loopw [8] (fun i wr => ∃ k : Nat, k ≤ l.length ∧ i = .int .i64 k ∧ Grows w wr ∧ ∀ x ∈ l.take k, insP z x = false) (fun i _ => l.length - (intOf i).toNat)
  case atStart => exact ⟨0, by omega, rfl, Below.refl _ _, by simp⟩
  case round =>
    obtain ⟨k, hk, rfl, hB, hall⟩ := hrel
    by_cases hlt : k < l.length
    · obtain ⟨ad, x, rfl, had, hx, c0, c1⟩ := (h.grows hB).elem hlt
      have HX : Hid (l.take (k + 1) = l.take k ++ [x]) := take_snoc hx
      have HM : Hid (x ∈ l) := List.mem_of_getElem? hx
      clear hx
      go_wp2_with fail
      refine (ins_p z x B _ (kn.grows hB)).mono ?_
      rintro e w2 ⟨rfl, hq⟩
      replace hB := below_grows hB (Nat.le_refl _) hq
      clear c0 c1 hq
      cases ho : insP z x
      · go_wp2
        go_roundw
        case rel =>
          refine ⟨k + 1, by omega, by go_num, hB, ?_⟩
          rw [HX.out]
          intro y hy
          rcases List.mem_append.1 hy with hy | hy
          · exact hall y hy
          · simp at hy; subst hy; exact ho
        case measure => simp [intOf]; omega
      · go_wp2
        go_ret
        exact ⟨⟨_, .inr ⟨by omega, x, HM.out, ho⟩, rfl⟩, hB⟩
    · have e : l.take k = l := List.take_of_length_le (by omega)
      rw [e] at hall
      go_wp2
      go_ret
      exact ⟨⟨-1, .inl ⟨rfl, hall⟩, rfl⟩, hB⟩
set_option maxHeartbeats 4000000 in
theorem cont_ins (z : Sp) (A : Option Addr) (c : Nat) (l : List Sp) (w : World) (B : Nat) (kn : Blk w B 86 #[.int .i64 z.1, .int .i64 z.2]) (h : Sps w A l) (hl : l.length ≤ 9223372036854775807) :
    Calls Tryz.prog 111 #[.slice A l.length c, .func (.func 142) #[] #[.pointer (some ⟨B, 0, none⟩)]] w fun e w' => e = .returned (.bool (l.any fun x => insP z x)) ∧ Grows w w' := by
  go_enter Tryz.func111, Tryz.ntmps111
  go_wp2_with fail
  refine (index_ins z A c l _ B kn h hl _ rfl).mono ?_
  rintro e w2 ⟨⟨r, hr, rfl⟩, hB⟩
  have hd : decide (0 ≤ r) = l.any fun x => insP z x := by
    rcases hr with ⟨rfl, ha⟩ | ⟨h0, x, hx, ho⟩
    · rw [show decide ((0 : Int) ≤ -1) = false from rfl]
      symm
      rw [List.any_eq_false]
      intro x hx
      rw [ha x hx]
      simp
    · rw [show decide (0 ≤ r) = true from by simpa using h0]
      symm
      exact List.any_eq_true.2 ⟨x, hx, ho⟩
  go_wp2
  go_ret
  exact ⟨rfl, hB⟩
theorem inside_no {l m : List Sp} {z : Sp} (hz : z ∈ spansF l) (hc : ((spansF m).any fun x => insP z x) = false) : insideF l m = false := by
  unfold insideF
  rw [List.all_eq_false]
  exact ⟨z, hz, by rw [hc]; simp⟩
theorem any_snoc {m : List Sp} {j : Nat} {y : Sp} (p : Sp → Bool) (h : m[j]? = some y) : ((m.take (j + 1)).any p) = ((m.take j).any p || p y) := by
  rw [take_snoc h]
  simp
theorem all_snoc' {m : List Sp} {j : Nat} {y : Sp} (p : Sp → Bool) (h : m[j]? = some y) : ((m.take (j + 1)).all p) = ((m.take j).all p && p y) := by
  rw [take_snoc h]
  simp
set_option maxRecDepth 100000 in
set_option maxHeartbeats 16000000 in
theorem inside_any (A : Option Addr) (c : Nat) (l : List Sp) (B : Option Addr) (cb : Nat) (m : List Sp) (w : World) (h : Sps w A l) (hl : l.length ≤ 9223372036854775807) (hm : Sps w B m) (hml : m.length ≤ 9223372036854775807) :
    Calls Tryz.prog 118 #[.agg #[.slice A l.length c], .agg #[.slice B m.length cb]] w fun e w' => e = .returned (.bool (insideF l m)) ∧ Grows w w' := by
  have k2 := (Blk.new w 58 #[.slice A l.length c]).alloc (Obj.cells #[.slice B m.length cb] 58)
  have k3 := blk_new_at (X := w.alloc (Obj.cells #[.slice A l.length c] 58)) (n := w.heap.size + 1) (t := 58) (cs := #[.slice B m.length cb]) (by simp)
  have hB := ((Below.refl w.heap.size w).alloc (Nat.le_refl _) (Obj.cells #[.slice A l.length c] 58)).alloc (by simp) (Obj.cells #[.slice B m.length cb] 58)
  go_enter Tryz.func118, Tryz.ntmps118
  go_upto_region 1 with fail
  generalize World.alloc (World.alloc w _) _ = w1 at *
  have x3 := k3.cell 0
  obtain ⟨A2, c2, ev2, hat⟩ := spV_is A c l
  obtain ⟨A3, c3, ev3, hbt⟩ := spV_is B cb m
  go_wp2_with fail
  refine (spans_val B cb m _ (hm.grows hB) hml).mono ?_
  rw [ev3]
  rintro e w2 ⟨rfl, hq⟩
  replace hB := below_grows hB (Nat.le_refl _) hq
  replace k2 := k2.grows hq
  have h3 := hbt w hm
  clear x3 k3 hq hbt ev3
  have x2 := k2.cell 0
  go_wp2_with fail
  refine (spans_val A c l _ (h.grows hB) hl).mono ?_
  rw [ev2]
  rintro e w3 ⟨rfl, hq⟩
  replace hB := below_grows hB (Nat.le_refl _) hq
  have h2 := hat w h
  clear x2 k2 hq hat ev2
  have hla := spansF_len l
  have hlb := spansF_len m
  have HF : Hid (insideF l m = (spansF l).all fun z => (spansF m).any fun x => insP z x) := Lib.hid rfl
  have HN : Hid (∀ z ∈ spansF l, ((spansF m).any fun x => insP z x) = false → insideF l m = false) := Lib.hid fun z hz hc => inside_no hz hc
  generalize spansF l = a at *
  generalize spansF m = b at *
  go_wp2_with fail
  go_loopw [13] (fun i wr => ∃ k : Nat, k ≤ a.length ∧ i = .int .i64 k ∧ Hid (((a.take k).all fun z => b.any fun x => insP z x) = true) ∧ Below w.heap.size w wr) (fun i _ => a.length - (intOf i).toNat)
  case atStart => exact ⟨0, by omega, rfl, Lib.hid rfl, hB⟩
  case round =>
    clear hB
    obtain ⟨k, hk, rfl, hall, hB⟩ := hrel
    by_cases hlt : k < a.length
    · obtain ⟨ad, z, rfl, had, hx, c0, c1⟩ := (h2.grows hB).elem hlt
      have HX := Lib.hid (all_snoc' (fun z => b.any fun x => insP z x) hx)
      have HM : Hid (z ∈ a) := Lib.hid (List.mem_of_getElem? hx)
      clear hx
      have k7 := Blk.new wr 86 #[.int .i64 z.1, .int .i64 z.2]
      have hq := (Below.refl wr.heap.size wr).alloc (Nat.le_refl _) (Obj.cells #[.int .i64 z.1, .int .i64 z.2] 86)
      replace hB := below_grows hB (Nat.le_refl _) hq
      clear hq
      go_upto_region 5 with fail
      generalize World.alloc wr _ = w4 at *
      generalize wr.heap.size = G7 at *
      clear c0 c1
      go_wp2_with fail
      refine (cont_ins z A3 c3 b _ _ k7 (h3.grows hB) (by omega)).mono ?_
      rintro e w5 ⟨rfl, hq⟩
      replace hB := below_grows hB (Nat.le_refl _) hq
      clear hq k7
      cases hc : b.any fun x => insP z x
      · have HR : Hid (insideF l m = false) := Lib.hid (HN.out z HM.out hc)
        go_wp2
        go_ret
        exact ⟨ret_bool HR.out.symm, hB⟩
      · have HK : Hid (((a.take (k + 1)).all fun z => b.any fun x => insP z x) = true) := Lib.hid (by rw [HX.out, hall.out, hc]; rfl)
        go_wp2
        go_roundw
        case rel => exact ⟨k + 1, by omega, by go_num, HK, hB⟩
        case measure => simp [intOf]; omega
    · have e : a.take k = a := List.take_of_length_le (by omega)
      rw [e] at hall
      have HR : Hid (insideF l m = true) := Lib.hid (by rw [HF.out, hall.out])
      clear e
      go_wp2
      go_ret
      exact ⟨ret_bool HR.out.symm, hB⟩
set_option maxRecDepth 100000 in
set_option maxHeartbeats 16000000 in
theorem rinside_any (A : Option Addr) (c : Nat) (l : List Sp) (B : Option Addr) (cb : Nat) (m : List Sp) (w : World) (h : Sps w A l) (hl : l.length ≤ 9223372036854775807) (hm : Sps w B m) (hml : m.length ≤ 9223372036854775807) :
    Calls Tryz.prog 89 #[.agg #[.slice A l.length c], .agg #[.slice B m.length cb]] w fun e w' => e = .returned (.bool (insideF l m)) ∧ Grows w w' := by
  have k2 := (Blk.new w 58 #[.slice A l.length c]).alloc (Obj.cells #[.slice B m.length cb] 58)
  have k3 := blk_new_at (X := w.alloc (Obj.cells #[.slice A l.length c] 58)) (n := w.heap.size + 1) (t := 58) (cs := #[.slice B m.length cb]) (by simp)
  have hB := ((Below.refl w.heap.size w).alloc (Nat.le_refl _) (Obj.cells #[.slice A l.length c] 58)).alloc (by simp) (Obj.cells #[.slice B m.length cb] 58)
  go_enter Tryz.func89, Tryz.ntmps89
  go_upto_region 1 with fail
  generalize World.alloc (World.alloc w _) _ = w1 at *
  have x2 := k2.cell 0
  obtain ⟨A2, c2, ev2, hat⟩ := spV_is A c l
  obtain ⟨A3, c3, ev3, hbt⟩ := spV_is B cb m
  go_wp2_with fail
  refine (rspans_val A c l _ (h.grows hB) hl).mono ?_
  rw [ev2]
  rintro e w2 ⟨rfl, hq⟩
  replace hB := below_grows hB (Nat.le_refl _) hq
  replace k3 := k3.grows hq
  have h2 := hat w h
  have h3 := hbt w hm
  clear x2 k2 hq hat ev2 hbt
  have hla := spansF_len l
  have hlb := spansF_len m
  have HF : Hid (insideF l m = (spansF l).all fun z => (spansF m).any fun x => insP z x) := Lib.hid rfl
  have HN : Hid (∀ z ∈ spansF l, ((spansF m).any fun x => insP z x) = false → insideF l m = false) := Lib.hid fun z hz hc => inside_no hz hc
  have CB : ∀ w0, Sps w0 B m → Calls Tryz.prog 110 #[.agg #[.slice B m.length cb]] w0 fun e w' => e = .returned (.slice A3 (spansF m).length c3) ∧ Grows w0 w' := fun w0 h0 => by
    rw [← ev3]
    exact rspans_val B cb m w0 h0 hml
  clear ev3
  generalize spansF l = a at *
  generalize spansF m = b at *
  go_wp2_with fail
  go_loopw [13] (fun i wr => ∃ k : Nat, k ≤ a.length ∧ i = .int .i64 k ∧ Hid (((a.take k).all fun z => b.any fun x => insP z x) = true) ∧ Below w.heap.size w wr ∧ Blk wr (w.heap.size + 1) 58 #[.slice B m.length cb]) (fun i _ => a.length - (intOf i).toNat)
  case atStart => exact ⟨0, by omega, rfl, Lib.hid rfl, hB, k3⟩
  case round =>
    clear hB k3
    obtain ⟨k, hk, rfl, hall, hB, k3⟩ := hrel
    by_cases hlt : k < a.length
    · obtain ⟨ad, z, rfl, had, hx, c0, c1⟩ := (h2.grows hB).elem hlt
      have HX := Lib.hid (all_snoc' (fun z => b.any fun x => insP z x) hx)
      have HM : Hid (z ∈ a) := Lib.hid (List.mem_of_getElem? hx)
      clear hx
      have k6 := Blk.new wr 86 #[.int .i64 z.1, .int .i64 z.2]
      have hq := (Below.refl wr.heap.size wr).alloc (Nat.le_refl _) (Obj.cells #[.int .i64 z.1, .int .i64 z.2] 86)
      replace hB := below_grows hB (Nat.le_refl _) hq
      replace k3 := k3.grows hq
      clear hq
      go_upto_region 5 with fail
      generalize World.alloc wr _ = w4 at *
      generalize wr.heap.size = G7 at *
      clear c0 c1
      have x3 := k3.cell 0
      go_wp2_with fail
      refine (CB _ (hm.grows hB)).mono ?_
      rintro e w5 ⟨rfl, hq⟩
      replace hB := below_grows hB (Nat.le_refl _) hq
      replace k3 := k3.grows hq
      replace k6 := k6.grows hq
      clear hq x3
      go_wp2_with fail
      go_loopw [7, 20] (fun t i wr => ∃ j : Nat, j ≤ b.length ∧ i = .int .i64 j ∧ t = .bool ((b.take j).any fun x => insP z x) ∧ Below w5.heap.size w5 wr) (fun _ i _ => b.length - (intOf i).toNat)
      case atStart => exact ⟨0, by omega, rfl, rfl, Below.refl _ _⟩
      case round =>
        obtain ⟨j, hj, rfl, rfl, hg⟩ := hrel
        by_cases hjt : j < b.length
        · obtain ⟨ad2, y, rfl, had2, hy, d0, d1⟩ := (h3.grows (below_grows hB (Nat.le_refl _) hg)).elem hjt
          have HY := Lib.hid (any_snoc (fun x => insP z x) hy)
          clear hy
          have k9 := Blk.new wr 86 #[.int .i64 y.1, .int .i64 y.2]
          have hq := (Below.refl wr.heap.size wr).alloc (Nat.le_refl _) (Obj.cells #[.int .i64 y.1, .int .i64 y.2] 86)
          replace hg := below_grows hg (Nat.le_refl _) hq
          clear hq
          go_upto_region 8 with fail
          clear d0 d1
          generalize World.alloc wr _ = w6 at *
          generalize wr.heap.size = G9 at *
          have k6' := k6.grows hg
          have e0 := k6'.cell 0
          have e1 := k6'.cell 1
          have f0 := k9.cell 0
          have f1 := k9.cell 1
          generalize hT : ((b.take j).any fun x => insP z x) = t at *
          cases t
          · by_cases h1 : y.1 ≤ z.1
            · by_cases h2 : z.2 ≤ y.2
              · have HV : Hid (((b.take (j + 1)).any fun x => insP z x) = true) := Lib.hid (by rw [HY.out]; simp [insP, h1, h2])
                clear HY hT
                go_wp2
                go_roundw
                case rel => exact ⟨j + 1, by omega, by go_num, by rw [HV.out], hg⟩
                case measure => simp [intOf]; omega
              · have HV : Hid (((b.take (j + 1)).any fun x => insP z x) = false) := Lib.hid (by rw [HY.out]; simp [insP, h2])
                clear HY hT
                go_wp2
                go_roundw
                case rel => exact ⟨j + 1, by omega, by go_num, by rw [HV.out], hg⟩
                case measure => simp [intOf]; omega
            · have HV : Hid (((b.take (j + 1)).any fun x => insP z x) = false) := Lib.hid (by rw [HY.out]; simp [insP, h1])
              clear HY hT
              go_wp2
              go_roundw
              case rel => exact ⟨j + 1, by omega, by go_num, by rw [HV.out], hg⟩
              case measure => simp [intOf]; omega
          · have HV : Hid (((b.take (j + 1)).any fun x => insP z x) = true) := Lib.hid (by rw [HY.out]; rfl)
            clear HY hT
            go_wp2
            go_roundw
            case rel => exact ⟨j + 1, by omega, by go_num, by rw [HV.out], hg⟩
            case measure => simp [intOf]; omega
        · have e : b.take j = b := List.take_of_length_le (by omega)
          rw [e]
          clear e
          replace hB := below_grows hB (Nat.le_refl _) hg
          replace k3 := k3.grows hg
          cases hc : b.any fun x => insP z x
          · have HR : Hid (insideF l m = false) := Lib.hid (HN.out z HM.out hc)
            go_wp2
            go_ret
            exact ⟨ret_bool HR.out.symm, hB⟩
          · have HK : Hid (((a.take (k + 1)).all fun z => b.any fun x => insP z x) = true) := Lib.hid (by rw [HX.out, hall.out, hc]; rfl)
            go_wp2
            go_roundw
            case rel => exact ⟨k + 1, by omega, by go_num, HK, hB, k3⟩
            case measure => simp [intOf]; omega
    · have e : a.take k = a := List.take_of_length_le (by omega)
      rw [e] at hall
      have HR : Hid (insideF l m = true) := Lib.hid (by rw [HF.out, hall.out])
      clear e
      go_wp2
      go_ret
      exact ⟨ret_bool HR.out.symm, hB⟩
end Go.Proofs.YtjbkjgmcfommgaaGreat


namespace Go.Proofs.YtjbkjgmcfommgaaGreat
open Go.RowKit
/-- A row of channel maps of one's own, apart from what its members take, which lies at or above lo. -/
def OwnMq (w : World) (base : Nat) (ok : Nat → Prop) (v : Value) (ms : List (List Int)) : Prop :=
  ∃ vs, w.ownsRow base 38 1 v ms.length vs ∧ ∀ (i : Nat) (x : List Int), ms[i]? = some x → ∃ B c, vs[i]? = some (.slice B x.length c) ∧ x.length ≤ c ∧ InB w ok B x ∧ (∀ ad, B = some ad → 0 < x.length → v.ownBlock ≠ some ad.block)
section
variable {w w' : World} {base g : Nat} {ok : Nat → Prop} {v : Value} {ms : List (List Int)}
theorem OwnMq.nil : OwnMq w base ok (.slice none 0 0) [] := ⟨[], World.ownsRow_nil w base _ 1, fun i x h => by simp at h⟩
theorem OwnMq.grows (h : OwnMq w base ok v ms) (hg : Grows w w') : OwnMq w' base ok v ms := by
  obtain ⟨vs, h1, h2⟩ := h
  exact ⟨vs, own_grows h1 hg, fun i x hx => by obtain ⟨B, c, e, hc, hi, hn⟩ := h2 i x hx; exact ⟨B, c, e, hc, hi.grows hg, hn⟩⟩
theorem OwnMq.only (h : OwnMq w base ok v ms) (hg : w.grownBy w' (some g)) (hb : g < base) (hl : ¬ ok g) : OwnMq w' base ok v ms := by
  obtain ⟨vs, h1, h2⟩ := h
  refine ⟨vs, World.ownsRow.kept h1 hg ?_, fun i x hx => by obtain ⟨B, c, e, hc, hi, hn⟩ := h2 i x hx; exact ⟨B, c, e, hc, RdB.grown hi hg (fun q e => by injection e with e; exact e ▸ hl), hn⟩⟩
  cases e : v.ownBlock with
  | none => exact .inl rfl
  | some q =>
    refine .inr fun e2 => ?_
    have := (World.ownsRow.lt h1 q e).1
    injection e2 with e2
    omega
theorem OwnMq.lt (h : OwnMq w base ok v ms) : ∀ q, v.ownBlock = some q → base ≤ q ∧ q < w.heap.size := by
  obtain ⟨vs, h1, -⟩ := h
  exact World.ownsRow.lt h1
theorem OwnMq.read (h : OwnMq w base ok v ms) : ∃ A c, v = .slice A ms.length c ∧ ms.length ≤ c ∧ MapsR w (fun k => ok k ∨ base ≤ k) A ms := by
  obtain ⟨vs, h1, h2⟩ := h
  have hlt := World.ownsRow.lt h1
  rcases h1.2 with ⟨rfl, hn⟩ | ⟨q, cap, cur, rfl, hbq, hg, hnc, hm, hs, ht⟩
  · have e := List.eq_nil_of_length_eq_zero hn
    subst e
    exact ⟨none, 0, rfl, Nat.le_refl _, MapsR.nil⟩
  · refine ⟨_, cap, rfl, hnc, vs, ⟨Reads.of_own h1, fun _ ad e => ?_⟩, fun i x hx => by obtain ⟨B, c, e, hc, hi, _⟩ := h2 i x hx; exact ⟨B, c, e, hc, hi.mono (fun k hk => Or.inl hk)⟩⟩
    injection e with e
    subst e
    exact Or.inr hbq
end
theorem wpList_append_mapq {ops : Array Oper} {rest : List Oper} {o : Oper} {a : Act} {w : World} {Q : Exit → Act → World → Prop} (hgd : o.guard = none) (s x : Operand) (ho : o.op = .call { callee := .builtin .append, args := #[s, x], argTypes := #[59, 59] })
    {base : Nat} {ok : Nat → Prop} {v : Value} {ms : List (List Int)} {m : List Int} {A B : Option Addr} {c cm : Nat} (hs : a.eval s = v) (hown : OwnMq w base ok v ms) (hx : a.eval x = .slice A 1 c) (hr : Reads w w.heap.size 1 A 1 [.slice B m.length cm]) (hlen : ms.length + 1 ≤ 1000000) (hbase : base ≤ w.heap.size)
    (hm : InB w ok B m) (hcm : m.length ≤ cm) (hne : ∀ ad, B = some ad → 0 < m.length → v.ownBlock ≠ some ad.block)
    (h : ∀ v' w', OwnMq w' base ok v' (ms ++ [m]) → w.grownBy w' v.ownBlock → wpList Tryz.prog ops Q rest (a.put o.dst v') w') : wpList Tryz.prog ops Q (o :: rest) a w := by
  obtain ⟨i0, hi0, hi1, hi2, hi3, hi4⟩ := ms_info
  obtain ⟨vs, h1, h2⟩ := hown
  refine wpList_append_any w hgd s x 59 ho base 38 i0 _ 1 24 Tryz.underlying59 hi0 hi3 hi1 hi2 hi4 (by omega) v ms.length vs hs h1 w.heap.size A 1 c [.slice B m.length cm] hx hr (by intro u hu; simp only [List.mem_singleton] at hu; subst hu; rfl) (by simp only [maxLen]; omega) (by omega) hbase fun v' w' h3 h4 h5 => h v' w' ⟨vs ++ [.slice B m.length cm], by rw [List.length_append]; exact h3, fun i y hy => ?_⟩ h4
  have hapart : ∀ (y : List Int) (C : Option Addr), InB w ok C y → (∀ ad, C = some ad → 0 < y.length → v.ownBlock ≠ some ad.block) → ∀ ad, C = some ad → 0 < y.length → v'.ownBlock ≠ some ad.block := by
    intro y C hy hn ad e hl e2
    rcases h5 with h5 | h5
    · exact hn ad e hl (h5 ▸ e2)
    · rw [h5] at e2
      injection e2 with e2
      obtain ⟨ad0, e0, hb, _⟩ := hy.1.2 hl
      rw [e] at e0
      injection e0 with e0
      subst e0
      omega
  have hvl : vs.length = ms.length := by have := h1.1; omega
  by_cases hi : i < ms.length
  · rw [List.getElem?_append_left hi] at hy
    obtain ⟨C, cy, e, hc, hi6, hn⟩ := h2 i y hy
    exact ⟨C, cy, by rw [List.getElem?_append_left (by omega)]; exact e, hc, hi6.away h4 hn, hapart y C hi6 hn⟩
  · rw [List.getElem?_append_right (by omega)] at hy
    have hi0 : i - ms.length = 0 := by
      have := (List.getElem?_eq_some_iff.1 hy).1
      simp only [List.length_singleton] at this
      omega
    rw [hi0] at hy
    simp only [List.getElem?_cons_zero, Option.some.injEq] at hy
    subst hy
    exact ⟨B, cm, by rw [List.getElem?_append_right (by omega), show i - vs.length = 0 by omega]; rfl, hcm, hm.away h4 hne, hapart m B hm hne⟩
def Aq (ok : Nat → Prop) (v : Value) : Nat → Prop := fun k => ok k ∧ v.ownBlock ≠ some k
def OwnBq (w : World) (base : Nat) (ok : Nat → Prop) (v : Value) (l : List Bx) : Prop :=
  ∃ vs, w.ownsRow base 61 4 v l.length vs ∧ ∀ (i : Nat) (b : Bx), l[i]? = some b → ∃ A1 c1 A2 c2 A3 c3, BoxP w (Aq ok v) b A1 c1 A2 c2 A3 c3 ∧ ∀ j < 4, vs[i * 4 + j]? = (b.cs A1 c1 A2 c2 A3 c3)[j]?
section
variable {w w' : World} {base g : Nat} {ok : Nat → Prop} {v : Value} {l : List Bx}
theorem OwnBq.nil : OwnBq w base ok (.slice none 0 0) [] := ⟨[], World.ownsRow_nil w base _ 4, fun i x h => by simp at h⟩
theorem OwnBq.grows (h : OwnBq w base ok v l) (hg : Grows w w') : OwnBq w' base ok v l := by
  obtain ⟨vs, h1, h2⟩ := h
  exact ⟨vs, own_grows h1 hg, fun i x hx => by obtain ⟨A1, c1, A2, c2, A3, c3, hp, hc⟩ := h2 i x hx; exact ⟨A1, c1, A2, c2, A3, c3, hp.grows hg, hc⟩⟩
theorem OwnBq.only (h : OwnBq w base ok v l) (hg : w.grownBy w' (some g)) (hb : g < base) (hl : ¬ ok g) : OwnBq w' base ok v l := by
  obtain ⟨vs, h1, h2⟩ := h
  refine ⟨vs, World.ownsRow.kept h1 hg ?_, fun i x hx => by obtain ⟨A1, c1, A2, c2, A3, c3, hp, hc⟩ := h2 i x hx; exact ⟨A1, c1, A2, c2, A3, c3, hp.grown hg (fun q e hq => by injection e with e; exact hl (e ▸ hq.1)), hc⟩⟩
  cases e : v.ownBlock with
  | none => exact .inl rfl
  | some q =>
    refine .inr fun e2 => ?_
    have := (World.ownsRow.lt h1 q e).1
    injection e2 with e2
    omega
theorem OwnBq.lt (h : OwnBq w base ok v l) : ∀ q, v.ownBlock = some q → base ≤ q ∧ q < w.heap.size := by
  obtain ⟨vs, h1, -⟩ := h
  exact World.ownsRow.lt h1
theorem OwnBq.read (h : OwnBq w base ok v l) : ∃ A c, v = .slice A l.length c ∧ l.length ≤ c ∧ Bxs w (fun k => ok k ∨ base ≤ k) A l := by
  obtain ⟨vs, h1, h2⟩ := h
  have h3 : ∀ (i : Nat) (b : Bx), l[i]? = some b → ∃ A1 c1 A2 c2 A3 c3, BoxP w (fun k => ok k ∨ base ≤ k) b A1 c1 A2 c2 A3 c3 ∧ ∀ j < 4, vs[i * 4 + j]? = (b.cs A1 c1 A2 c2 A3 c3)[j]? := fun i b hx => by
    obtain ⟨A1, c1, A2, c2, A3, c3, hp, hc⟩ := h2 i b hx
    exact ⟨A1, c1, A2, c2, A3, c3, hp.mono (fun k hk => Or.inl hk.1), hc⟩
  rcases h1.2 with ⟨rfl, hn⟩ | ⟨q, cap, cur, rfl, hbq, hg, hnc, hm, hs, ht⟩
  · have e := List.eq_nil_of_length_eq_zero hn
    subst e
    exact ⟨none, 0, rfl, Nat.le_refl _, Bxs.nil⟩
  · refine ⟨_, cap, rfl, hnc, vs, ⟨Reads.of_own h1, fun _ ad e => ?_⟩, h3⟩
    injection e with e
    subst e
    exact Or.inr hbq
end
theorem wpList_append_boxesq {ops : Array Oper} {rest : List Oper} {o : Oper} {a : Act} {w : World} {Q : Exit → Act → World → Prop} (hgd : o.guard = none) (s x : Operand) (ho : o.op = .call { callee := .builtin .append, args := #[s, x], argTypes := #[45, 45] })
    {base : Nat} {ok : Nat → Prop} {v : Value} {l m : List Bx} {A : Option Addr} {c n : Nat} (hn : n = m.length) (hs : a.eval s = v) (hown : OwnBq w base ok v l) (hx : a.eval x = .slice A n c) (hr : Bxs w (Aq ok v) A m) (hlen : l.length + m.length ≤ 1000000) (hbase : base ≤ w.heap.size)
    (h : ∀ v' w', OwnBq w' base ok v' (l ++ m) → w.grownBy w' v.ownBlock → (v'.ownBlock = v.ownBlock ∨ v'.ownBlock = some w.heap.size) → wpList Tryz.prog ops Q rest (a.put o.dst v') w') : wpList Tryz.prog ops Q (o :: rest) a w := by
  obtain ⟨i0, hi0, hi1, hi2, hi3, hi4⟩ := box_info
  obtain ⟨vs, h1, h2⟩ := hown
  obtain ⟨us, r1, r2⟩ := hr
  subst hn
  have hul := r1.1.1
  have hvl := h1.1
  refine wpList_append_any w hgd s x 45 ho base 61 i0 _ 4 80 Tryz.underlying45 hi0 hi3 hi1 hi2 hi4 (by omega) v l.length vs hs h1 w.heap.size A m.length c us hx r1.1 (bxs_one hul fun i b hb => by obtain ⟨A1, c1, A2, c2, A3, c3, _, hc⟩ := r2 i b hb; exact ⟨A1, c1, A2, c2, A3, c3, hc⟩) (by simp only [maxLen]; omega) (by omega) hbase fun v' w' h3 h4 h5 => h v' w' ⟨vs ++ us, by rw [List.length_append]; exact h3, fun i b hb => ?_⟩ h4 h5
  have hto : ∀ (b : Bx) (A1 : Option Addr) (c1 : Nat) (A2 : Option Addr) (c2 : Nat) (A3 : Option Addr) (c3 : Nat), BoxP w (Aq ok v) b A1 c1 A2 c2 A3 c3 → BoxP w' (Aq ok v') b A1 c1 A2 c2 A3 c3 := by
    intro b A1 c1 A2 c2 A3 c3 hp
    refine (hp.band.grown h4 (fun q e hq => hq.1.2 e)).mono fun k hk => ⟨hk.1.1, fun e => ?_⟩
    rcases h5 with h5 | h5
    · exact hk.1.2 (h5 ▸ e)
    · rw [h5] at e
      injection e with e
      have := hk.2
      omega
  by_cases hi : i < l.length
  · rw [List.getElem?_append_left hi] at hb
    obtain ⟨A1, c1, A2, c2, A3, c3, hp, hc⟩ := h2 i b hb
    exact ⟨A1, c1, A2, c2, A3, c3, hto _ _ _ _ _ _ _ hp, fun j hj => by rw [List.getElem?_append_left (by omega)]; exact hc j hj⟩
  · rw [List.getElem?_append_right (by omega)] at hb
    obtain ⟨A1, c1, A2, c2, A3, c3, hp, hc⟩ := r2 _ b hb
    exact ⟨A1, c1, A2, c2, A3, c3, hto _ _ _ _ _ _ _ hp, fun j hj => by rw [List.getElem?_append_right (by omega), show i * 4 + j - vs.length = (i - l.length) * 4 + j by omega]; exact hc j hj⟩
end Go.Proofs.YtjbkjgmcfommgaaGreat


namespace Go.Proofs.YtjbkjgmcfommgaaGreat
open Go.RowKit
def insideB (a b : Bx) : Bool := (a.m.all fun x => decide (x ∈ b.m)) && ((bits .andNot .i64 a.k b.k == 0) && insideF a.r b.r && insideF a.s b.s)
theorem insB_m {a b : Bx} {x : List Int} (hx : x ∈ a.m) (h : x ∉ b.m) : insideB a b = false := by
  unfold insideB
  have : (a.m.all fun x => decide (x ∈ b.m)) = false := List.all_eq_false.2 ⟨x, hx, by simp [h]⟩
  rw [this, Bool.false_and]
theorem insB_k {a b : Bx} (h : bits .andNot .i64 a.k b.k ≠ 0) : insideB a b = false := by
  unfold insideB
  rw [beq_eq_false_iff_ne.2 h]
  simp
theorem insB_r {a b : Bx} (h : insideF a.r b.r = false) : insideB a b = false := by unfold insideB; rw [h]; simp
theorem insB_yes {a b : Bx} (hm : ∀ x ∈ a.m, x ∈ b.m) (hk : bits .andNot .i64 a.k b.k = 0) (hr : insideF a.r b.r = true) : insideB a b = insideF a.s b.s := by
  unfold insideB
  have : (a.m.all fun x => decide (x ∈ b.m)) = true := List.all_eq_true.2 fun x hx => decide_eq_true (hm x hx)
  rw [this, hk, hr]
  rfl
theorem mem_next {a b : List (List Int)} {x : List Int} {k : Nat} (h : ∀ y ∈ a.take k, y ∈ b) (hx : a[k]? = some x) (hb : x ∈ b) : ∀ y ∈ a.take (k + 1), y ∈ b := by
  rw [take_snoc hx]
  intro y hy
  rcases List.mem_append.1 hy with hy | hy
  · exact h y hy
  · simp only [List.mem_singleton] at hy
    exact hy ▸ hb
/-- Box c at k makes that box b at i falls away. -/
def dropAt (i : Nat) (b : Bx) (k : Nat) (c : Bx) : Bool := (decide (k ≠ i) && insideB b c) && (decide (k < i) || !insideB c b)
def dropUp (l : List Bx) (i : Nat) (b : Bx) : Nat → Bool
  | 0 => false
  | n + 1 => dropUp l i b n || (match l[n]? with | some c => dropAt i b n c | none => false)
theorem drop_next {l : List Bx} {i k : Nat} {b c : Bx} (h : l[k]? = some c) : dropUp l i b (k + 1) = (dropUp l i b k || dropAt i b k c) := by
  show (dropUp l i b k || (match l[k]? with | some c => dropAt i b k c | none => false)) = _
  rw [h]
theorem dropAt_self (i : Nat) (b c : Bx) : dropAt i b i c = false := by unfold dropAt; simp
theorem dropAt_not {i k : Nat} {b c : Bx} (h : insideB b c = false) : dropAt i b k c = false := by unfold dropAt; rw [h]; simp
theorem dropAt_lt {i k : Nat} {b c : Bx} (hi : k ≠ i) (h : insideB b c = true) (hk : k < i) : dropAt i b k c = true := by unfold dropAt; rw [h, decide_eq_true hi, decide_eq_true hk]; rfl
theorem dropAt_ge {i k : Nat} {b c : Bx} (hi : k ≠ i) (h : insideB b c = true) (hk : ¬ k < i) : dropAt i b k c = !insideB c b := by unfold dropAt; rw [h, decide_eq_true hi, decide_eq_false hk]; simp
def keepUp (l : List Bx) : Nat → List Bx
  | 0 => []
  | n + 1 => keepUp l n ++ (match l[n]? with | some b => if dropUp l n b l.length = true then [] else [b] | none => [])
theorem keep_next {l : List Bx} {k : Nat} {b : Bx} (h : l[k]? = some b) : keepUp l (k + 1) = keepUp l k ++ (if dropUp l k b l.length = true then [] else [b]) := by
  show keepUp l k ++ (match l[k]? with | some b => if dropUp l k b l.length = true then [] else [b] | none => []) = _
  rw [h]
theorem keep_len (l : List Bx) (n : Nat) : (keepUp l n).length ≤ n := by
  induction n with
  | zero => exact Nat.le_refl _
  | succ n ih =>
    show (keepUp l n ++ _).length ≤ n + 1
    rw [List.length_append]
    have : (match l[n]? with | some b => if dropUp l n b l.length = true then [] else [b] | none => []).length ≤ 1 := by
      split
      · split <;> simp
      · simp
    omega
def reduceL (l : List Bx) : List Bx := keepUp l l.length
theorem reduce_len (l : List Bx) : (reduceL l).length ≤ l.length := keep_len l l.length
theorem keep_mem {l : List Bx} {n : Nat} : ∀ b ∈ keepUp l n, b ∈ l := by
  induction n with
  | zero => exact fun b hb => by cases hb
  | succ n ih =>
    intro b hb
    have hb : b ∈ keepUp l n ++ (match l[n]? with | some b => if dropUp l n b l.length = true then [] else [b] | none => []) := hb
    rcases List.mem_append.1 hb with hb | hb
    · exact ih b hb
    · split at hb
      · rename_i x e
        split at hb
        · cases hb
        · simp only [List.mem_singleton] at hb
          exact hb ▸ List.mem_of_getElem? e
      · cases hb
theorem reduce_mem {l : List Bx} : ∀ b ∈ reduceL l, b ∈ l := keep_mem
/-- A list reduced, and the error. -/
def reduceF (l : List Bx) : List Bx × Int := if validL l = true then (reduceL l, 0) else ([], 1)
/-- Whether dimension j is one of d. -/
def bitZ (d j : Int) : Bool := bits .and .i64 d j != 0
/-- Two boxes intersected in some dimensions. -/
def dimsF (d : Int) (a b : Bx) : Bx := ⟨if bitZ d 1 = true then bits .and .i64 a.k b.k else a.k, if bitZ d 2 = true then interF (spansF a.r) (spansF b.r) else a.r, if bitZ d 4 = true then a.m.filter (fun x => decide (x ∈ b.m)) else a.m, if bitZ d 8 = true then interF (spansF a.s) (spansF b.s) else a.s⟩
def someB (z : Bx) : Bool := (z.k != 0) && decide (0 < z.m.length) && decide (0 < z.r.length) && decide (0 < z.s.length)
def manyB (d : Int) (z : Bx) : Bool := (bitZ d 2 && decide (64 < z.r.length)) || (bitZ d 8 && decide (64 < z.s.length))
def prodStep (d : Int) (x : Bx) (s : Option (List Bx)) (y : Bx) : Option (List Bx) := match s with
  | none => none
  | some out => if someB (dimsF d x y) = true then (if manyB d (dimsF d x y) = true ∨ 64 ≤ out.length then none else some (out ++ [dimsF d x y])) else some out
def prodRow (d : Int) (b : List Bx) (s : Option (List Bx)) (x : Bx) : Option (List Bx) := b.foldl (prodStep d x) s
def prodF (d : Int) (a b : List Bx) : Option (List Bx) := a.foldl (prodRow d b) (some [])
/-- The program's intersection of two boxes. -/
def bothF (a b : Bx) : Bx := ⟨bits .and .i64 a.k b.k, (interF (spansF a.r) (spansF b.r)).take 64, a.m.filter (fun x => decide (x ∈ b.m)), (interF (spansF a.s) (spansF b.s)).take 64⟩
def intStep (x : Bx) (s : Option (List Bx)) (y : Bx) : Option (List Bx) := match s with
  | none => none
  | some out => if someB (bothF x y) = true then (if 64 < piecesN x.r y.r ∨ 64 < piecesN x.s y.s ∨ out.length = 64 then none else some (out ++ [bothF x y])) else some out
def intRow (b : List Bx) (s : Option (List Bx)) (x : Bx) : Option (List Bx) := b.foldl (intStep x) s
def intF (a b : List Bx) : Option (List Bx) := a.foldl (intRow b) (some [])
def interP (a b : List Bx) : List Bx × Int := if validL a = true ∧ validL b = true then (match intF a b with | none => ([], 3) | some out => (reduceL out, 0)) else ([], 1)
def productF (d : Int) (a b : List Bx) : List Bx × Int := match prodF d a b with | none => ([], 3) | some out => reduceF out
def interR (a b : List Bx) : List Bx × Int := if validL a = true ∧ validL b = true then productF 15 a b else ([], 1)
section
variable {α β : Type} {f : Option β → α → Option β} {l : List α} {s : Option β} {k : Nat} {x : α}
theorem fold_next (hx : l[k]? = some x) : (l.take (k + 1)).foldl f s = f ((l.take k).foldl f s) x := by
  rw [take_snoc hx, List.foldl_append]
  rfl
theorem fold_none (h : ∀ x, f none x = none) (l : List α) : l.foldl f none = none := by
  induction l with
  | nil => rfl
  | cons x l ih => rw [List.foldl_cons, h, ih]
/-- Where a loop has stopped early. -/
theorem fold_stop (h : ∀ x, f none x = none) (hx : l[k]? = some x) (hn : f ((l.take k).foldl f s) x = none) : l.foldl f s = none := by
  have e : l = l.take (k + 1) ++ l.drop (k + 1) := (List.take_append_drop _ _).symm
  rw [e, List.foldl_append, fold_next hx, hn, fold_none h]
end
theorem prodStep_none (d : Int) (x y : Bx) : prodStep d x none y = none := rfl
theorem intStep_none (x y : Bx) : intStep x none y = none := rfl
theorem prodRow_none (d : Int) (b : List Bx) (x : Bx) : prodRow d b none x = none := fold_none (prodStep_none d x) b
theorem intRow_none (b : List Bx) (x : Bx) : intRow b none x = none := fold_none (intStep_none x) b
theorem prodStep_no {d : Int} {x y : Bx} {out : List Bx} (h : someB (dimsF d x y) = false) : prodStep d x (some out) y = some out := by
  show (if someB (dimsF d x y) = true then _ else _) = _
  rw [if_neg (by rw [h]; simp)]
theorem prodStep_stop {d : Int} {x y : Bx} {out : List Bx} (h : someB (dimsF d x y) = true) (h2 : manyB d (dimsF d x y) = true ∨ 64 ≤ out.length) : prodStep d x (some out) y = none := by
  show (if someB (dimsF d x y) = true then _ else _) = _
  rw [if_pos h, if_pos h2]
theorem prodStep_yes {d : Int} {x y : Bx} {out : List Bx} (h : someB (dimsF d x y) = true) (h2 : manyB d (dimsF d x y) = false) (h3 : out.length < 64) : prodStep d x (some out) y = some (out ++ [dimsF d x y]) := by
  show (if someB (dimsF d x y) = true then _ else _) = _
  rw [if_pos h, if_neg (fun h => h.elim (fun h => by rw [h2] at h; cases h) (fun h => by omega))]
theorem intStep_no {x y : Bx} {out : List Bx} (h : someB (bothF x y) = false) : intStep x (some out) y = some out := by
  show (if someB (bothF x y) = true then _ else _) = _
  rw [if_neg (by rw [h]; simp)]
theorem intStep_stop {x y : Bx} {out : List Bx} (h : someB (bothF x y) = true) (h2 : 64 < piecesN x.r y.r ∨ 64 < piecesN x.s y.s ∨ out.length = 64) : intStep x (some out) y = none := by
  show (if someB (bothF x y) = true then _ else _) = _
  rw [if_pos h, if_pos h2]
theorem intStep_yes {x y : Bx} {out : List Bx} (h : someB (bothF x y) = true) (h2 : ¬ 64 < piecesN x.r y.r) (h3 : ¬ 64 < piecesN x.s y.s) (h4 : out.length ≠ 64) : intStep x (some out) y = some (out ++ [bothF x y]) := by
  show (if someB (bothF x y) = true then _ else _) = _
  rw [if_pos h, if_neg (fun h => h.elim h2 fun h => h.elim h3 h4)]
/-- The list of the one box with one choice. -/
def oneB (c : Ch) : Bx := ⟨2 ^ c.k.toNat, [(c.r, c.r)], [c.m], [(c.s, c.s)]⟩
def singleF (c : Ch) : List Bx := if 1 ≤ c.k ∧ c.k ≤ 7 ∧ fineB (oneB c) = true then [oneB c] else []
theorem filter_next {a : List (List Int)} {p : List Int → Bool} {k : Nat} {x : List Int} (hx : a[k]? = some x) : (a.take (k + 1)).filter p = (a.take k).filter p ++ (if p x = true then [x] else []) := by
  rw [take_snoc hx, List.filter_append]
  by_cases h : p x = true
  · rw [if_pos h]
    simp [h]
  · rw [if_neg h]
    simp [h]
end Go.Proofs.YtjbkjgmcfommgaaGreat


namespace Go.Proofs.YtjbkjgmcfommgaaGreat
open Go.RowKit
def FineL (l : List Sp) : Prop := ∀ x ∈ l, fineS x = true
theorem ok_fine {l : List Sp} (h : okS l = true) : FineL l := ((okS_iff l).1 h).1
theorem ok_canon {l : List Sp} (h : okS l = true) : Canon l := ((okS_iff l).1 h).2.1
theorem ok_spans {l : List Sp} (h : okS l = true) : spansF l = l := if_pos h
theorem inter_fine {a b : List Sp} (ha : FineL a) : FineL (interF a b) := by
  intro z hz
  unfold interF at hz
  obtain ⟨x, hx, hz⟩ := List.mem_flatMap.1 hz
  obtain ⟨y, hy, hz⟩ := List.mem_flatMap.1 hz
  unfold cutS at hz
  have hf := (fineS_iff x).1 (ha x hx)
  split at hz
  · simp only [List.mem_cons, List.not_mem_nil, or_false] at hz
    subst hz
    rw [fineS_iff]
    simp only []
    omega
  · cases hz
theorem same_of {a b : List Sp} (ha : Canon a) (hb : Canon b) (h : ∀ n, Mem a n ↔ Mem b n) : a = b := canon_unique ha hb h
theorem hasF_iff {l : List Sp} (h : okS l = true) (n : Int) : hasF l n = true ↔ Mem l n := by
  unfold hasF
  rw [show spansF l = l from if_pos h, List.any_eq_true]
  unfold Mem hasP
  simp
/-- Kinds as bits. -/
def KR (k : Int) : Prop := 0 ≤ k ∧ k ≤ 255
theorem kr_of {k : Int} (hk : I64 k) (h : kindsOk k = true) : KR k := by
  have := kinds_range hk h
  unfold KR
  omega
theorem ofInt_nat {n : Nat} (h : n < 256) : (BitVec.ofInt 64 (n : Int)).toNat = n := by rw [BitVec.toNat_ofInt]; omega
theorem and_nat {n m : Nat} (hn : n < 256) (hm : m < 256) : bits .and .i64 (n : Int) (m : Int) = ((n &&& m : Nat) : Int) := by
  show IntKind.i64.wrap (((BitVec.ofInt 64 (n : Int)) &&& (BitVec.ofInt 64 (m : Int))).toNat : Int) = _
  rw [BitVec.toNat_and, ofInt_nat hn, ofInt_nat hm]
  have : n &&& m ≤ n := Nat.and_le_left
  exact IntWalk.i64_in _ (by omega)
theorem wrap_zero {n : Nat} (h : n < 18446744073709551616) : IntKind.i64.wrap (n : Int) = 0 ↔ n = 0 := by
  rw [IntWalk.i64_left]
  unfold wrap64
  omega
theorem andNot_iff (a b : Int) : bits .andNot .i64 a b = 0 ↔ BitVec.ofInt 64 a &&& ~~~BitVec.ofInt 64 b = 0#64 := by
  have h : bits .andNot .i64 a b = IntKind.i64.wrap (((BitVec.ofInt 64 a &&& ~~~BitVec.ofInt 64 b).toNat : Nat) : Int) := rfl
  rw [h, wrap_zero (BitVec.isLt _)]
  constructor
  · exact fun h => BitVec.eq_of_toNat_eq (by simpa using h)
  · exact fun h => by rw [h]; rfl
theorem sub_trans {a b c : BitVec 64} (h1 : a &&& ~~~b = 0#64) (h2 : b &&& ~~~c = 0#64) : a &&& ~~~c = 0#64 := by
  ext i hi
  have e1 := congrArg (fun x : BitVec 64 => x[i]) h1
  have e2 := congrArg (fun x : BitVec 64 => x[i]) h2
  simp only [BitVec.getElem_and, BitVec.getElem_not, BitVec.getElem_zero] at *
  revert e1 e2
  cases a[i] <;> cases b[i] <;> cases c[i] <;> simp
theorem sub_and {a b : BitVec 64} (h : a &&& ~~~b = 0#64) : a &&& b = a := by
  ext i hi
  have e1 := congrArg (fun x : BitVec 64 => x[i]) h
  simp only [BitVec.getElem_and, BitVec.getElem_not, BitVec.getElem_zero] at *
  revert e1
  cases a[i] <;> cases b[i] <;> simp
theorem sub_self (a : BitVec 64) : a &&& ~~~a = 0#64 := by
  ext i hi
  simp only [BitVec.getElem_and, BitVec.getElem_not, BitVec.getElem_zero]
  cases a[i] <;> rfl
theorem andNot_self (a : Int) : bits .andNot .i64 a a = 0 := (andNot_iff a a).2 (sub_self _)
theorem andNot_trans {a b c : Int} (h1 : bits .andNot .i64 a b = 0) (h2 : bits .andNot .i64 b c = 0) : bits .andNot .i64 a c = 0 := (andNot_iff a c).2 (sub_trans ((andNot_iff a b).1 h1) ((andNot_iff b c).1 h2))
theorem andNot_nat {n m : Nat} (hn : n < 256) (hm : m < 256) (h : bits .andNot .i64 (n : Int) (m : Int) = 0) : n &&& m = n := by
  have h1 := congrArg BitVec.toNat (sub_and ((andNot_iff _ _).1 h))
  rw [BitVec.toNat_and, ofInt_nat hn, ofInt_nat hm] at h1
  exact h1
theorem kind_bit_ : ∀ n : Fin 256, ∀ k : Fin 8, kindB (n.val : Int) (k.val : Int) = (decide (1 ≤ k.val) && n.val.testBit k.val) := by decide +kernel
theorem kind_bit {n k : Nat} (hn : n < 256) (hk : k < 8) : kindB (n : Int) (k : Int) = (decide (1 ≤ k) && n.testBit k) := kind_bit_ ⟨n, hn⟩ ⟨k, hk⟩
theorem kind_out {b k : Int} (h : ¬ (1 ≤ k ∧ k ≤ 7)) : kindB b k = false := by
  cases e : kindB b k
  · rfl
  · exact absurd (kindB_rng e) h
theorem kind_and {a b : Int} (ha : KR a) (hb : KR b) (k : Int) : kindB (bits .and .i64 a b) k = (kindB a k && kindB b k) := by
  by_cases hk : 1 ≤ k ∧ k ≤ 7
  · unfold KR at ha hb
    obtain ⟨n, rfl⟩ : ∃ n : Nat, a = (n : Int) := ⟨a.toNat, by omega⟩
    obtain ⟨m, rfl⟩ : ∃ m : Nat, b = (m : Int) := ⟨b.toNat, by omega⟩
    obtain ⟨j, rfl⟩ : ∃ j : Nat, k = (j : Int) := ⟨k.toNat, by omega⟩
    have h1 : n &&& m ≤ n := Nat.and_le_left
    rw [and_nat (by omega) (by omega), kind_bit (by omega) (by omega), kind_bit (by omega) (by omega), kind_bit (by omega) (by omega), Nat.testBit_and]
    cases decide (1 ≤ j) <;> simp
  · rw [kind_out hk, kind_out hk]
    rfl
theorem kind_sub {a b : Int} (ha : KR a) (hb : KR b) (h : bits .andNot .i64 a b = 0) {k : Int} (hk : kindB a k = true) : kindB b k = true := by
  have hr := kindB_rng hk
  unfold KR at ha hb
  obtain ⟨n, rfl⟩ : ∃ n : Nat, a = (n : Int) := ⟨a.toNat, by omega⟩
  obtain ⟨m, rfl⟩ : ∃ m : Nat, b = (m : Int) := ⟨b.toNat, by omega⟩
  obtain ⟨j, rfl⟩ : ∃ j : Nat, k = (j : Int) := ⟨k.toNat, by omega⟩
  have e := andNot_nat (by omega) (by omega) h
  rw [kind_bit (by omega) (by omega), Bool.and_eq_true] at *
  rw [← e, Nat.testBit_and, Bool.and_eq_true] at hk
  exact ⟨hk.1, hk.2.2⟩
theorem kinds_and {a b : Int} (ha : I64 a) (hb : I64 b) (h1 : kindsOk a = true) (h2 : kindsOk b = true) (hn : bits .and .i64 a b ≠ 0) : kindsOk (bits .and .i64 a b) = true ∧ I64 (bits .and .i64 a b) := by
  obtain ⟨a1, a2, a3⟩ := kinds_range ha h1
  obtain ⟨b1, b2, b3⟩ := kinds_range hb h2
  obtain ⟨n, rfl⟩ : ∃ n : Nat, a = (n : Int) := ⟨a.toNat, by omega⟩
  obtain ⟨m, rfl⟩ : ∃ m : Nat, b = (m : Int) := ⟨b.toNat, by omega⟩
  have h3 : n &&& m ≤ n := Nat.and_le_left
  rw [and_nat (by omega) (by omega)] at *
  have h4 := Nat.testBit_and n m 0
  rw [Nat.testBit_zero, Nat.testBit_zero, Nat.testBit_zero, decide_eq_false (show ¬ n % 2 = 1 by omega), Bool.false_and, decide_eq_false_iff_not] at h4
  refine ⟨kinds_of ?_, ?_⟩
  · unfold KP
    omega
  · unfold I64
    omega
/-- Sets within others. -/
theorem insF_iff {l m : List Sp} : insideF l m = true ↔ ∀ z ∈ spansF l, ∃ x ∈ spansF m, x.1 ≤ z.1 ∧ z.2 ≤ x.2 := by
  unfold insideF
  rw [List.all_eq_true]
  constructor
  · intro h z hz
    obtain ⟨x, hx, hp⟩ := List.any_eq_true.1 (h z hz)
    unfold insP at hp
    rw [Bool.and_eq_true, decide_eq_true_eq, decide_eq_true_eq] at hp
    exact ⟨x, hx, hp⟩
  · intro h z hz
    obtain ⟨x, hx, h1, h2⟩ := h z hz
    exact List.any_eq_true.2 ⟨x, hx, by unfold insP; rw [decide_eq_true h1, decide_eq_true h2]; rfl⟩
theorem insF_self (l : List Sp) : insideF l l = true := insF_iff.2 fun z hz => ⟨z, hz, Int.le_refl _, Int.le_refl _⟩
theorem insF_trans {a b c : List Sp} (h1 : insideF a b = true) (h2 : insideF b c = true) : insideF a c = true := by
  refine insF_iff.2 fun z hz => ?_
  obtain ⟨x, hx, e1, e2⟩ := insF_iff.1 h1 z hz
  obtain ⟨y, hy, e3, e4⟩ := insF_iff.1 h2 x hx
  exact ⟨y, hy, by omega, by omega⟩
theorem insF_has {a b : List Sp} (h : insideF a b = true) {n : Int} (hn : hasF a n = true) : hasF b n = true := by
  unfold hasF at *
  obtain ⟨z, hz, hp⟩ := List.any_eq_true.1 hn
  obtain ⟨x, hx, e1, e2⟩ := insF_iff.1 h z hz
  unfold hasP at *
  rw [Bool.and_eq_true, decide_eq_true_eq, decide_eq_true_eq] at hp
  exact List.any_eq_true.2 ⟨x, hx, by rw [Bool.and_eq_true, decide_eq_true_eq, decide_eq_true_eq]; omega⟩
theorem inter_ok2 {a b : List Sp} (ha : okS a = true) (hb : okS b = true) (h : (interF a b).length ≤ 64) : okS (interF a b) = true :=
  (okS_iff _).2 ⟨inter_fine (ok_fine ha), (inter_form a b (ok_canon ha) (ok_canon hb)).1, h⟩
theorem has_inter2 {a b : List Sp} (ha : okS a = true) (hb : okS b = true) (h : (interF a b).length ≤ 64) (n : Int) : hasF (interF a b) n = (hasF a n && hasF b n) := by
  rw [Bool.eq_iff_iff, Bool.and_eq_true, hasF_iff (inter_ok2 ha hb h), hasF_iff ha, hasF_iff hb, mem_inter]
theorem inter_self2 {a : List Sp} (ha : okS a = true) : interF a a = a :=
  same_of (inter_form a a (ok_canon ha) (ok_canon ha)).1 (ok_canon ha) fun n => by rw [mem_inter]; exact and_self_iff
theorem within_iff {l : List Sp} {lo hi : Int} : withinS l lo hi = true ↔ okS l = true ∧ 0 < l.length ∧ ∀ x ∈ l, lo ≤ x.1 ∧ x.2 ≤ hi := by
  unfold withinS
  rw [Bool.and_eq_true, Bool.and_eq_true, Bool.and_eq_true, decide_eq_true_eq, decide_eq_true_eq, decide_eq_true_eq]
  constructor
  · rintro ⟨⟨⟨h1, h2⟩, h3⟩, h4⟩
    refine ⟨h1, h2, fun x hx => ?_⟩
    obtain ⟨c1, c2⟩ := ok_canon h1
    constructor
    · cases l with
      | nil => cases hx
      | cons y l =>
        have h3 : lo ≤ y.1 := h3
        rcases List.mem_cons.1 hx with rfl | hx
        · exact h3
        · have := (List.pairwise_cons.1 c2).1 x hx
          have := c1 y (List.mem_cons_self ..)
          omega
    · have hne : l ≠ [] := fun e => by subst e; cases hx
      rw [List.getLastD_eq_getLast?, List.getLast?_eq_some_getLast hne] at h4
      have h4 : (l.getLast hne).2 ≤ hi := h4
      have hsp := List.dropLast_concat_getLast hne
      rw [← hsp] at hx c2
      rcases List.mem_append.1 hx with hx | hx
      · have := (List.pairwise_append.1 c2).2.2 x hx _ (List.mem_singleton.2 rfl)
        have := c1 _ (List.getLast_mem hne)
        omega
      · rw [List.mem_singleton.1 hx]
        exact h4
  · rintro ⟨h1, h2, h3⟩
    have hne : l ≠ [] := fun e => by subst e; simp at h2
    refine ⟨⟨⟨h1, h2⟩, ?_⟩, ?_⟩
    · cases l with
      | nil => exact absurd rfl hne
      | cons y l => exact (h3 y (List.mem_cons_self ..)).1
    · rw [List.getLastD_eq_getLast?, List.getLast?_eq_some_getLast hne]
      exact (h3 _ (List.getLast_mem hne)).2
theorem within_inter {a b : List Sp} {lo hi : Int} (ha : withinS a lo hi = true) (hb : okS b = true) (h0 : 0 < (interF a b).length) (h : (interF a b).length ≤ 64) : withinS (interF a b) lo hi = true := by
  obtain ⟨a1, a2, a3⟩ := within_iff.1 ha
  refine within_iff.2 ⟨inter_ok2 a1 hb h, h0, fun z hz => ?_⟩
  obtain ⟨x, hx, e1, e2⟩ := ((inter_form a b (ok_canon a1) (ok_canon hb)).2.2 z hz).1
  have := a3 x hx
  omega
/-- A box that lies in another one. -/
theorem insB_iff {a b : Bx} : insideB a b = true ↔ (∀ x ∈ a.m, x ∈ b.m) ∧ bits .andNot .i64 a.k b.k = 0 ∧ insideF a.r b.r = true ∧ insideF a.s b.s = true := by
  unfold insideB
  simp only [Bool.and_eq_true, List.all_eq_true, decide_eq_true_eq, beq_iff_eq]
  constructor
  · rintro ⟨h1, ⟨h2, h3⟩, h4⟩
    exact ⟨h1, h2, h3, h4⟩
  · rintro ⟨h1, h2, h3, h4⟩
    exact ⟨h1, ⟨h2, h3⟩, h4⟩
theorem insB_self (a : Bx) : insideB a a = true := insB_iff.2 ⟨fun _ h => h, andNot_self _, insF_self _, insF_self _⟩
theorem insB_trans {a b c : Bx} (h1 : insideB a b = true) (h2 : insideB b c = true) : insideB a c = true := by
  obtain ⟨a1, a2, a3, a4⟩ := insB_iff.1 h1
  obtain ⟨b1, b2, b3, b4⟩ := insB_iff.1 h2
  exact insB_iff.2 ⟨fun x hx => b1 x (a1 x hx), andNot_trans a2 b2, insF_trans a3 b3, insF_trans a4 b4⟩
/-- A valid box with numbers that a machine holds. -/
def FB (b : Bx) : Prop := fineB b = true ∧ I64 b.k
theorem FB.kr {b : Bx} (h : FB b) : KR b.k := kr_of h.2 (fineB_parts h.1).1
theorem inB_iff {b : Bx} {c : Ch} : inB b c = true ↔ kindB b.k c.k = true ∧ hasF b.r c.r = true ∧ c.m ∈ b.m ∧ hasF b.s c.s = true := by
  unfold inB
  simp only [Bool.and_eq_true, decide_eq_true_eq]
  exact ⟨fun ⟨⟨⟨h1, h2⟩, h3⟩, h4⟩ => ⟨h1, h2, h3, h4⟩, fun ⟨h1, h2, h3, h4⟩ => ⟨⟨⟨h1, h2⟩, h3⟩, h4⟩⟩
theorem insB_has {a b : Bx} (ha : FB a) (hb : FB b) (h : insideB a b = true) {c : Ch} (hc : inB a c = true) : inB b c = true := by
  obtain ⟨h1, h2, h3, h4⟩ := insB_iff.1 h
  obtain ⟨c1, c2, c3, c4⟩ := inB_iff.1 hc
  exact inB_iff.2 ⟨kind_sub ha.kr hb.kr h2 c1, insF_has h3 c2, h1 _ c3, insF_has h4 c4⟩
end Go.Proofs.YtjbkjgmcfommgaaGreat


namespace Go.Proofs.YtjbkjgmcfommgaaGreat
open Go.RowKit
set_option maxRecDepth 100000 in
set_option maxHeartbeats 4000000 in
theorem sclone_any (A : Option Addr) (c : Nat) (l : List Sp) (w : World) (h : Sps w A l) (hl : l.length ≤ 1000000) :
    Calls Tryz.prog 119 #[.slice A l.length c] w fun e w' => (∃ v, e = .returned v ∧ Own w' w.heap.size v l) ∧ Grows w w' := by
  go_enter Tryz.func119, Tryz.ntmps119
  go_wp2_with fail
  rw [Lib.run_eql_slice_nil (P := Tryz.prog) w 56 86 _ _ _ _ _ Tryz.underlying56]
  rcases A with _ | ad
  · have h0 : l.length = 0 := by
      rcases Nat.eq_zero_or_pos l.length with h0 | h0
      · exact h0
      · obtain ⟨ad, hh, _⟩ := h.2 h0
        cases hh
    obtain rfl : l = [] := List.length_eq_zero_iff.1 h0
    go_wp2
    go_ret
    exact ⟨⟨_, rfl, own_nil w w.heap.size⟩, Below.refl _ _⟩
  · go_upto_region 3 with fail
    refine wp_region_lit ?_
    iterate 2
      refine wpList_plain rfl (fun K hK => ?_)
      go_simp
      refine hK _ _ ?_
      clear hK K
    have hB1 := (Below.refl w.heap.size w).alloc (Nat.le_refl _) (Obj.cells #[] 86)
    have how : Own (w.alloc (Obj.cells #[] 86)) w.heap.size (.slice (some ⟨w.heap.size, 0, none⟩) 0 0) [] := World.ownsRow_lit w #[] 0 (Nat.le_refl _) (by simp [maxLen]) rfl
    have h1 := h.grows hB1
    generalize hW : World.alloc w _ = w1 at *
    refine wpList_append_sp rfl (.tmp 5) (.tmp 6) rfl (m := l) rfl rfl how rfl h1 (by simpa using hl) hB1.size ?_
    intro v' w2 hown hgr
    have hB2 := how.below hB1 hgr hB1.size
    rw [List.nil_append] at hown
    clear how hgr h1 h hB1 hW
    go_wp2
    go_ret
    exact ⟨⟨_, rfl, hown⟩, hB2⟩
set_option maxHeartbeats 16000000 in
theorem pinsb_any {ba bb : Nat → Prop} {a b : Bx} {A1 A2 A3 B1 B2 B3 : Option Addr} {c1 c2 c3 d1 d2 d3 : Nat} {w : World} (hpa : BoxP w ba a A1 c1 A2 c2 A3 c3) (hpb : BoxP w bb b B1 d1 B2 d2 B3 d3) (hla : OKB a) (hlb : OKB b) :
    Calls Tryz.prog 82 #[.agg #[.int .i64 a.k, .slice A1 a.r.length c1, .slice A2 a.m.length c2, .slice A3 a.s.length c3], .agg #[.int .i64 b.k, .slice B1 b.r.length d1, .slice B2 b.m.length d2, .slice B3 b.s.length d3]] w fun e w' => e = .returned (.bool (insideB a b)) ∧ Grows w w' := by
  obtain ⟨har, has_, ham, hax⟩ := hla
  obtain ⟨hbr, hbs, hbm, hbx⟩ := hlb
  have HAX := Lib.hid hax
  have HBX := Lib.hid hbx
  clear hax hbx
  have ka := ((Blk.new w 61 #[.int .i64 a.k, .slice A1 a.r.length c1, .slice A2 a.m.length c2, .slice A3 a.s.length c3]).alloc (Obj.cells #[.int .i64 b.k, .slice B1 b.r.length d1, .slice B2 b.m.length d2, .slice B3 b.s.length d3] 61))
  have kb := (Blk.new (w.alloc (Obj.cells #[.int .i64 a.k, .slice A1 a.r.length c1, .slice A2 a.m.length c2, .slice A3 a.s.length c3] 61)) 61 #[.int .i64 b.k, .slice B1 b.r.length d1, .slice B2 b.m.length d2, .slice B3 b.s.length d3])
  have hB := (((Below.refl w.heap.size w).alloc (Nat.le_refl _) (Obj.cells #[.int .i64 a.k, .slice A1 a.r.length c1, .slice A2 a.m.length c2, .slice A3 a.s.length c3] 61)).alloc (by simp) (Obj.cells #[.int .i64 b.k, .slice B1 b.r.length d1, .slice B2 b.m.length d2, .slice B3 b.s.length d3] 61))
  go_enter Tryz.func82, Tryz.ntmps82
  go_upto_region 1 with fail
  have hs1 : (w.alloc (Obj.cells #[.int .i64 a.k, .slice A1 a.r.length c1, .slice A2 a.m.length c2, .slice A3 a.s.length c3] 61)).heap.size = w.heap.size + 1 := by simp
  rw [hs1] at kb
  clear hs1
  generalize World.alloc (World.alloc w _) _ = w2 at *
  generalize hG1 : w.heap.size + 1 = G1 at *
  have HG1 := Lib.hid hG1
  clear hG1
  have xa := ka.cell
  go_wp2_with fail
  clear xa
  have hB2 := hB
  clear hB
  go_loopw [10] (fun i wr => ∃ k : Nat, k ≤ a.m.length ∧ i = .int .i64 k ∧ Hid (∀ y ∈ a.m.take k, y ∈ b.m) ∧ Blk wr w.heap.size 61 #[.int .i64 a.k, .slice A1 a.r.length c1, .slice A2 a.m.length c2, .slice A3 a.s.length c3] ∧ Blk wr G1 61 #[.int .i64 b.k, .slice B1 b.r.length d1, .slice B2 b.m.length d2, .slice B3 b.s.length d3] ∧ Below w.heap.size w wr) (fun i _ => a.m.length - (intOf i).toNat)
  case atStart => exact ⟨0, by omega, rfl, Lib.hid (by simp), ka, kb, hB2⟩
  case round =>
    clear ka kb hB2
    obtain ⟨k, hk, rfl, HF, ka, kb, hB⟩ := hrel
    by_cases hlt : k < a.m.length
    · obtain ⟨ad, x, C, cx, e1, had, hx, q0, hcx, hix⟩ := (hpa.m.grows hB).elem hlt
      subst e1
      have HX := Lib.hid hx
      clear hx
      have xb := kb.cell
      go_wp2_with fail
      refine (phas_any B2 C d2 cx b.m x _ rfl (hpb.m.grows hB) hbm HBX.out hix.ints (HAX.out x (List.mem_of_getElem? HX.out))).mono ?_
      by_cases h5 : x ∈ b.m
      · have HN : Hid (∀ y ∈ a.m.take (k + 1), y ∈ b.m) := Lib.hid (mem_next HF.out HX.out h5)
        rw [decide_eq_true h5]
        clear h5
        rintro e w3 ⟨rfl, hq⟩
        replace hB := below_grows hB (Nat.le_refl _) hq
        replace ka := ka.grows hq
        replace kb := kb.grows hq
        clear hq xb q0
        go_wp2
        go_roundw
        case rel => exact ⟨k + 1, by omega, by go_num, HN, ka, kb, hB⟩
        case measure => simp [intOf]; omega
      · have HE : Hid (insideB a b = false) := Lib.hid (insB_m (List.mem_of_getElem? HX.out) h5)
        rw [decide_eq_false h5]
        clear h5
        rintro e w3 ⟨rfl, hq⟩
        replace hB := below_grows hB (Nat.le_refl _) hq
        clear hq xb q0
        go_wp2
        go_ret
        exact ⟨ret_bool HE.out.symm, hB⟩
    · have HM : Hid (∀ y ∈ a.m, y ∈ b.m) := Lib.hid (by have := HF.out; rwa [List.take_of_length_le (by omega)] at this)
      have xa := ka.cell
      have xb := kb.cell
      by_cases h1 : bits .andNot .i64 a.k b.k = 0
      case neg =>
        have HE : Hid (insideB a b = false) := Lib.hid (insB_k h1)
        have dk : (bits .andNot .i64 a.k b.k == 0) = false := by simpa using h1
        clear h1
        go_wp2
        go_ret
        exact ⟨ret_bool HE.out.symm, hB⟩
      have dk : (bits .andNot .i64 a.k b.k == 0) = true := by simpa using h1
      have HK := Lib.hid h1
      clear h1
      go_wp2_with fail
      refine (inside_any A1 c1 a.r B1 d1 b.r _ (hpa.r.grows hB).sps (by omega) (hpb.r.grows hB).sps (by omega)).mono ?_
      cases hv : insideF a.r b.r
      · have HE : Hid (insideB a b = false) := Lib.hid (insB_r hv)
        clear hv
        rintro e w3 ⟨rfl, hq⟩
        replace hB := below_grows hB (Nat.le_refl _) hq
        clear hq xa xb
        go_wp2
        go_ret
        exact ⟨ret_bool HE.out.symm, hB⟩
      · have HR := Lib.hid hv
        clear hv
        rintro e w3 ⟨rfl, hq⟩
        replace hB := below_grows hB (Nat.le_refl _) hq
        replace ka := ka.grows hq
        replace kb := kb.grows hq
        clear hq xa xb
        have xa := ka.cell
        have xb := kb.cell
        go_wp2_with fail
        have HE : Hid (insideB a b = insideF a.s b.s) := Lib.hid (insB_yes HM.out HK.out HR.out)
        refine (inside_any A3 c3 a.s B3 d3 b.s _ (hpa.s.grows hB).sps (by omega) (hpb.s.grows hB).sps (by omega)).mono ?_
        rintro e w4 ⟨rfl, hq⟩
        replace hB := below_grows hB (Nat.le_refl _) hq
        clear hq xa xb
        generalize insideF a.s b.s = ibs at *
        go_wp2
        go_ret
        exact ⟨ret_bool HE.out.symm, hB⟩
set_option maxHeartbeats 16000000 in
theorem rinsb_any {ba bb : Nat → Prop} {a b : Bx} {A1 A2 A3 B1 B2 B3 : Option Addr} {c1 c2 c3 d1 d2 d3 : Nat} {w : World} (hpa : BoxP w ba a A1 c1 A2 c2 A3 c3) (hpb : BoxP w bb b B1 d1 B2 d2 B3 d3) (hla : OKB a) (hlb : OKB b) :
    Calls Tryz.prog 56 #[.agg #[.int .i64 a.k, .slice A1 a.r.length c1, .slice A2 a.m.length c2, .slice A3 a.s.length c3], .agg #[.int .i64 b.k, .slice B1 b.r.length d1, .slice B2 b.m.length d2, .slice B3 b.s.length d3]] w fun e w' => e = .returned (.bool (insideB a b)) ∧ Grows w w' := by
  obtain ⟨har, has_, ham, hax⟩ := hla
  obtain ⟨hbr, hbs, hbm, hbx⟩ := hlb
  have HAX := Lib.hid hax
  have HBX := Lib.hid hbx
  clear hax hbx
  have ka := ((Blk.new w 61 #[.int .i64 a.k, .slice A1 a.r.length c1, .slice A2 a.m.length c2, .slice A3 a.s.length c3]).alloc (Obj.cells #[.int .i64 b.k, .slice B1 b.r.length d1, .slice B2 b.m.length d2, .slice B3 b.s.length d3] 61))
  have kb := (Blk.new (w.alloc (Obj.cells #[.int .i64 a.k, .slice A1 a.r.length c1, .slice A2 a.m.length c2, .slice A3 a.s.length c3] 61)) 61 #[.int .i64 b.k, .slice B1 b.r.length d1, .slice B2 b.m.length d2, .slice B3 b.s.length d3])
  have hB := (((Below.refl w.heap.size w).alloc (Nat.le_refl _) (Obj.cells #[.int .i64 a.k, .slice A1 a.r.length c1, .slice A2 a.m.length c2, .slice A3 a.s.length c3] 61)).alloc (by simp) (Obj.cells #[.int .i64 b.k, .slice B1 b.r.length d1, .slice B2 b.m.length d2, .slice B3 b.s.length d3] 61))
  go_enter Tryz.func56, Tryz.ntmps56
  go_upto_region 1 with fail
  have hs1 : (w.alloc (Obj.cells #[.int .i64 a.k, .slice A1 a.r.length c1, .slice A2 a.m.length c2, .slice A3 a.s.length c3] 61)).heap.size = w.heap.size + 1 := by simp
  rw [hs1] at kb
  clear hs1
  generalize World.alloc (World.alloc w _) _ = w2 at *
  generalize hG1 : w.heap.size + 1 = G1 at *
  have HG1 := Lib.hid hG1
  clear hG1
  have xa := ka.cell
  go_wp2_with fail
  clear xa
  have hB2 := hB
  clear hB
  go_loopw [10] (fun i wr => ∃ k : Nat, k ≤ a.m.length ∧ i = .int .i64 k ∧ Hid (∀ y ∈ a.m.take k, y ∈ b.m) ∧ Blk wr w.heap.size 61 #[.int .i64 a.k, .slice A1 a.r.length c1, .slice A2 a.m.length c2, .slice A3 a.s.length c3] ∧ Blk wr G1 61 #[.int .i64 b.k, .slice B1 b.r.length d1, .slice B2 b.m.length d2, .slice B3 b.s.length d3] ∧ Below w.heap.size w wr) (fun i _ => a.m.length - (intOf i).toNat)
  case atStart => exact ⟨0, by omega, rfl, Lib.hid (by simp), ka, kb, hB2⟩
  case round =>
    clear ka kb hB2
    obtain ⟨k, hk, rfl, HF, ka, kb, hB⟩ := hrel
    by_cases hlt : k < a.m.length
    · obtain ⟨ad, x, C, cx, e1, had, hx, q0, hcx, hix⟩ := (hpa.m.grows hB).elem hlt
      subst e1
      have HX := Lib.hid hx
      clear hx
      have xb := kb.cell
      go_wp2_with fail
      refine (rhas_any B2 C d2 cx b.m x _ rfl (hpb.m.grows hB) hbm HBX.out hix.ints (HAX.out x (List.mem_of_getElem? HX.out))).mono ?_
      by_cases h5 : x ∈ b.m
      · have HN : Hid (∀ y ∈ a.m.take (k + 1), y ∈ b.m) := Lib.hid (mem_next HF.out HX.out h5)
        rw [decide_eq_true h5]
        clear h5
        rintro e w3 ⟨rfl, hq⟩
        replace hB := below_grows hB (Nat.le_refl _) hq
        replace ka := ka.grows hq
        replace kb := kb.grows hq
        clear hq xb q0
        go_wp2
        go_roundw
        case rel => exact ⟨k + 1, by omega, by go_num, HN, ka, kb, hB⟩
        case measure => simp [intOf]; omega
      · have HE : Hid (insideB a b = false) := Lib.hid (insB_m (List.mem_of_getElem? HX.out) h5)
        rw [decide_eq_false h5]
        clear h5
        rintro e w3 ⟨rfl, hq⟩
        replace hB := below_grows hB (Nat.le_refl _) hq
        clear hq xb q0
        go_wp2
        go_ret
        exact ⟨ret_bool HE.out.symm, hB⟩
    · have HM : Hid (∀ y ∈ a.m, y ∈ b.m) := Lib.hid (by have := HF.out; rwa [List.take_of_length_le (by omega)] at this)
      have xa := ka.cell
      have xb := kb.cell
      by_cases h1 : bits .andNot .i64 a.k b.k = 0
      case neg =>
        have HE : Hid (insideB a b = false) := Lib.hid (insB_k h1)
        have dk : (bits .andNot .i64 a.k b.k == 0) = false := by simpa using h1
        clear h1
        go_wp2
        go_ret
        exact ⟨ret_bool HE.out.symm, hB⟩
      have dk : (bits .andNot .i64 a.k b.k == 0) = true := by simpa using h1
      have HK := Lib.hid h1
      clear h1
      go_wp2_with fail
      refine (rinside_any A1 c1 a.r B1 d1 b.r _ (hpa.r.grows hB).sps (by omega) (hpb.r.grows hB).sps (by omega)).mono ?_
      cases hv : insideF a.r b.r
      · have HE : Hid (insideB a b = false) := Lib.hid (insB_r hv)
        clear hv
        rintro e w3 ⟨rfl, hq⟩
        replace hB := below_grows hB (Nat.le_refl _) hq
        clear hq xa xb
        go_wp2
        go_ret
        exact ⟨ret_bool HE.out.symm, hB⟩
      · have HR := Lib.hid hv
        clear hv
        rintro e w3 ⟨rfl, hq⟩
        replace hB := below_grows hB (Nat.le_refl _) hq
        replace ka := ka.grows hq
        replace kb := kb.grows hq
        clear hq xa xb
        have xa := ka.cell
        have xb := kb.cell
        go_wp2_with fail
        have HE : Hid (insideB a b = insideF a.s b.s) := Lib.hid (insB_yes HM.out HK.out HR.out)
        refine (rinside_any A3 c3 a.s B3 d3 b.s _ (hpa.s.grows hB).sps (by omega) (hpb.s.grows hB).sps (by omega)).mono ?_
        rintro e w4 ⟨rfl, hq⟩
        replace hB := below_grows hB (Nat.le_refl _) hq
        clear hq xa xb
        generalize insideF a.s b.s = ibs at *
        go_wp2
        go_ret
        exact ⟨ret_bool HE.out.symm, hB⟩
end Go.Proofs.YtjbkjgmcfommgaaGreat


namespace Go.Proofs.YtjbkjgmcfommgaaGreat
open Go.RowKit
theorem gr_append_mapq {o : Oper} {ev : Operand → Value} {w : World} {T : Value → World → Prop} (s x : Operand) (ho : o.op = .call { callee := .builtin .append, args := #[s, x], argTypes := #[59, 59] })
    {base : Nat} {ok : Nat → Prop} {v : Value} {ms : List (List Int)} {m : List Int} {A B : Option Addr} {c cm : Nat} (hs : ev s = v) (hown : OwnMq w base ok v ms) (hx : ev x = .slice A 1 c) (hr : Reads w w.heap.size 1 A 1 [.slice B m.length cm]) (hlen : ms.length + 1 ≤ 1000000) (hbase : base ≤ w.heap.size)
    (hm : InB w ok B m) (hcm : m.length ≤ cm) (hne : ∀ ad, B = some ad → 0 < m.length → v.ownBlock ≠ some ad.block)
    (h : ∀ v' w', OwnMq w' base ok v' (ms ++ [m]) → w.grownBy w' v.ownBlock → T v' w') : genR Tryz.prog T ((execOp ev o).run Tryz.prog w) := by
  obtain ⟨i0, hi0, hi1, hi2, hi3, hi4⟩ := ms_info
  obtain ⟨vs, h1, h2⟩ := hown
  obtain ⟨v', w', hrun, h3, h4, h5⟩ := run_append_any (P := Tryz.prog) w base 59 o.type 38 i0 _ 1 24 Tryz.underlying59 hi0 hi3 hi1 hi2 hi4 (by omega) v ms.length vs h1 w.heap.size A 1 c [.slice B m.length cm] hr (by intro u hu; simp only [List.mem_singleton] at hu; subst hu; rfl) (by simp only [maxLen]; omega) (by omega) hbase
  unfold execOp
  simp only [ho, resolve, invoke, builtin, Sem.run_bind, Sem.run_pure, Result.andThen_ok, List.map_toArray, List.map_cons, List.map_nil, hs, hx, hrun]
  refine h v' w' ⟨vs ++ [.slice B m.length cm], by rw [List.length_append]; exact h3, fun i y hy => ?_⟩ h4
  have hapart : ∀ (y : List Int) (C : Option Addr), InB w ok C y → (∀ ad, C = some ad → 0 < y.length → v.ownBlock ≠ some ad.block) → ∀ ad, C = some ad → 0 < y.length → v'.ownBlock ≠ some ad.block := by
    intro y C hy hn ad e hl e2
    rcases h5 with h5 | h5
    · exact hn ad e hl (h5 ▸ e2)
    · rw [h5] at e2
      injection e2 with e2
      obtain ⟨ad0, e0, hb, _⟩ := hy.1.2 hl
      rw [e] at e0
      injection e0 with e0
      subst e0
      omega
  have hvl : vs.length = ms.length := by have := h1.1; omega
  by_cases hi : i < ms.length
  · rw [List.getElem?_append_left hi] at hy
    obtain ⟨C, cy, e, hc, hi6, hn⟩ := h2 i y hy
    exact ⟨C, cy, by rw [List.getElem?_append_left (by omega)]; exact e, hc, hi6.away h4 hn, hapart y C hi6 hn⟩
  · rw [List.getElem?_append_right (by omega)] at hy
    have hi0 : i - ms.length = 0 := by
      have := (List.getElem?_eq_some_iff.1 hy).1
      simp only [List.length_singleton] at this
      omega
    rw [hi0] at hy
    simp only [List.getElem?_cons_zero, Option.some.injEq] at hy
    subst hy
    exact ⟨B, cm, by rw [List.getElem?_append_right (by omega), show i - vs.length = 0 by omega]; rfl, hcm, hm.away h4 hne, hapart m B hm hne⟩
set_option maxHeartbeats 32000000 in
set_option maxRecDepth 10000 in
theorem copied_any {ba : Nat → Prop} {b : Bx} {A1 A2 A3 : Option Addr} {c1 c2 c3 : Nat} {w : World} (hp : BoxP w ba b A1 c1 A2 c2 A3 c3) (hl : OKB b) :
    Calls Tryz.prog 83 #[.agg #[.int .i64 b.k, .slice A1 b.r.length c1, .slice A2 b.m.length c2, .slice A3 b.s.length c3]] w fun e w' => (∃ v, e = .returned v ∧ BoxV w' (Ge w.heap.size) b v) ∧ Grows w w' := by
  obtain ⟨hlr, hls, hlm, hlx⟩ := hl
  have HLX := Lib.hid hlx
  clear hlx
  have k1 := (Blk.new w 61 #[.int .i64 b.k, .slice A1 b.r.length c1, .slice A2 b.m.length c2, .slice A3 b.s.length c3]).alloc (Obj.cells #[.int .i64 0, .slice none 0 0, .slice none 0 0, .slice none 0 0] 61)
  have k2 := blk_new_at (X := w.alloc (Obj.cells #[.int .i64 b.k, .slice A1 b.r.length c1, .slice A2 b.m.length c2, .slice A3 b.s.length c3] 61)) (n := w.heap.size + 1) (t := 61) (cs := #[.int .i64 0, .slice none 0 0, .slice none 0 0, .slice none 0 0]) (by simp)
  have hB := ((Below.refl w.heap.size w).alloc (Nat.le_refl _) (Obj.cells #[.int .i64 b.k, .slice A1 b.r.length c1, .slice A2 b.m.length c2, .slice A3 b.s.length c3] 61)).alloc (by simp) (Obj.cells #[.int .i64 0, .slice none 0 0, .slice none 0 0, .slice none 0 0] 61)
  go_enter Tryz.func83, Tryz.ntmps83
  go_upto_region 1 with fail
  generalize World.alloc (World.alloc w _) _ = w1 at *
  have l2 := k2.lt
  have x1 := k1.cell
  have k3 := Blk.new w1 61 #[.int .i64 b.k, .slice none 0 0, .slice none 0 0, .slice none 0 0]
  have hq := (Below.refl w1.heap.size w1).alloc (Nat.le_refl _) (Obj.cells #[.int .i64 b.k, .slice none 0 0, .slice none 0 0, .slice none 0 0] 61)
  go_upto_region 2 with fail
  replace hB := below_grows hB (Nat.le_refl _) hq
  replace k1 := k1.grows hq
  replace k2 := k2.grows hq
  clear hq x1
  generalize World.alloc w1 _ = w3 at *
  generalize w1.heap.size = G3 at *
  have l3 := k3.lt
  have x1 := k1.cell
  go_wp2_with fail
  refine (sclone_any A1 c1 b.r _ (hp.r.grows hB).sps hlr).mono ?_
  rintro e w4 ⟨⟨v, rfl, hown⟩, hq⟩
  obtain ⟨A5, c5, rfl, hc5, hr⟩ := SpB.of_own hown
  replace hr : RdB w4 (Ge (G3 + 1)) 2 A5 b.r.length (scells b.r) := RdB.mono hr (fun k hk => by unfold Ge at *; omega)
  replace hB := below_grows hB (Nat.le_refl _) hq
  replace k1 := k1.grows hq
  replace k2 := k2.grows hq
  replace k3 := k3.grows hq
  clear hq hown x1 l3
  have y3 := k3.cell
  have hf3 := k3.frozen
  replace k1 := k1.far (p := ⟨G3, 1, none⟩) (show w.heap.size ≠ G3 by omega) (.slice A5 b.r.length c5)
  replace k2 := k2.far (p := ⟨G3, 1, none⟩) (show w.heap.size + 1 ≠ G3 by omega) (.slice A5 b.r.length c5)
  replace k3 := k3.set_ 1 (.slice A5 b.r.length c5)
  replace hB := hB.setCell (p := ⟨G3, 1, none⟩) (show w.heap.size ≤ G3 by omega) (.slice A5 b.r.length c5)
  replace hr := RdB.grown hr (d_only_set (World.grownBy.refl _ (some G3)) 1 (.slice A5 b.r.length c5)) (fun q e => by injection e with e; unfold Ge; omega)
  go_upto_region 3 with fail
  clear y3 hf3
  generalize World.setCell w4 _ _ = w5 at *
  have l3 := k3.lt
  have x1 := k1.cell
  go_wp2_with fail
  refine (sclone_any A3 c3 b.s _ (hp.s.grows hB).sps hls).mono ?_
  rintro e w6 ⟨⟨v, rfl, hown⟩, hq⟩
  obtain ⟨A6, c6, rfl, hc6, hs⟩ := SpB.of_own hown
  replace hs : RdB w6 (Ge (G3 + 1)) 2 A6 b.s.length (scells b.s) := RdB.mono hs (fun k hk => by unfold Ge at *; omega)
  replace hB := below_grows hB (Nat.le_refl _) hq
  replace hr := RdB.grows hr hq
  replace k1 := k1.grows hq
  replace k2 := k2.grows hq
  replace k3 := k3.grows hq
  clear hq hown x1 l3
  have y3 := k3.cell
  have hf3 := k3.frozen
  replace k1 := k1.far (p := ⟨G3, 3, none⟩) (show w.heap.size ≠ G3 by omega) (.slice A6 b.s.length c6)
  replace k2 := k2.far (p := ⟨G3, 3, none⟩) (show w.heap.size + 1 ≠ G3 by omega) (.slice A6 b.s.length c6)
  replace k3 := k3.set_ 3 (.slice A6 b.s.length c6)
  replace hB := hB.setCell (p := ⟨G3, 3, none⟩) (show w.heap.size ≤ G3 by omega) (.slice A6 b.s.length c6)
  replace hr := RdB.grown hr (d_only_set (World.grownBy.refl _ (some G3)) 3 (.slice A6 b.s.length c6)) (fun q e => by injection e with e; unfold Ge; omega)
  replace hs := RdB.grown hs (d_only_set (World.grownBy.refl _ (some G3)) 3 (.slice A6 b.s.length c6)) (fun q e => by injection e with e; unfold Ge; omega)
  go_upto_region 4 with fail
  clear y3 hf3
  generalize World.setCell w6 _ _ = w7 at *
  have l3 := k3.lt
  have x1 := k1.cell
  go_wp2_with fail
  clear x1
  obtain ⟨b2, hb2⟩ : ∃ b2, b2 = w7.heap.size := ⟨_, rfl⟩
  have hb3 : b2 ≤ w7.heap.size := by omega
  rw [← hb2] at l3
  replace hr : RdB w7 (Btw (G3 + 1) b2) 2 A5 b.r.length (scells b.r) := ⟨hr.1, fun hn ad e => ⟨hr.2 hn ad e, by rw [hb2]; exact (RdB.under hr).2 hn ad e⟩⟩
  replace hs : RdB w7 (Btw (G3 + 1) b2) 2 A6 b.s.length (scells b.s) := ⟨hs.1, fun hn ad e => ⟨hs.2 hn ad e, by rw [hb2]; exact (RdB.under hs).2 hn ad e⟩⟩
  clear hb2
  go_loopw [24] (fun i wr => ∃ (k : Nat) (V : Value), k ≤ b.m.length ∧ i = .int .i64 k ∧ b2 ≤ wr.heap.size ∧ OwnMq wr b2 (Ge b2) V (b.m.take k) ∧ RdB wr (Btw (G3 + 1) b2) 2 A5 b.r.length (scells b.r) ∧ RdB wr (Btw (G3 + 1) b2) 2 A6 b.s.length (scells b.s) ∧ Blk wr w.heap.size 61 #[.int .i64 b.k, .slice A1 b.r.length c1, .slice A2 b.m.length c2, .slice A3 b.s.length c3] ∧ Blk wr (w.heap.size + 1) 61 #[.int .i64 0, .slice none 0 0, .slice none 0 0, .slice none 0 0] ∧ Blk wr G3 61 #[.int .i64 b.k, .slice A5 b.r.length c5, V, .slice A6 b.s.length c6] ∧ Below w.heap.size w wr) (fun i _ => b.m.length - (intOf i).toNat)
  case atStart => exact ⟨0, _, by omega, rfl, hb3, OwnMq.nil, hr, hs, k1, k2, k3, hB⟩
  case round =>
    clear hr hs k1 k2 k3 hB hb3
    obtain ⟨k, V, hk, rfl, hb3, ho, hr, hs, k1, k2, k3, hB⟩ := hrel
    obtain ⟨A2', c2', rfl, hc2', -⟩ := ho.read
    have hkl : (b.m.take k).length ≤ 1000000 := by rw [List.length_take]; omega
    by_cases hlt : k < b.m.length
    · obtain ⟨ad, x, B0, cm, e1, had, hx, q0, hcm, hix⟩ := hp.m.elem hlt
      replace q0 := (hB.cell (p := ad.add k) (by rw [block_of_add]; exact had)).trans q0
      subst e1
      have HT : Hid (b.m.take (k + 1) = b.m.take k ++ [x]) := Lib.hid (take_snoc hx)
      have hxl : x.length ≤ 1000000 := HLX.out x (List.mem_of_getElem? hx)
      clear hx
      replace hkl : (b.m.take k).length + 1 ≤ 1000000 := by rw [List.length_take]; omega
      generalize b.m.take k = ms at *
      go_upto_region 7 with fail
      clear q0
      have qB := hB
      have qr := hr
      have qs := hs
      have qk1 := k1
      have qk2 := k2
      have qk3 := k3
      have qh := hb3
      clear hB hr hs k1 k2 k3 hb3
      obtain ⟨S, HI, HO⟩ := hideS fun (L : Ran) (vs : Nat → Value) (w' : World) => ((Below w.heap.size w w' ∧ RdB w' (Btw (G3 + 1) b2) 2 A5 b.r.length (scells b.r) ∧ RdB w' (Btw (G3 + 1) b2) 2 A6 b.s.length (scells b.s) ∧ Blk w' w.heap.size 61 #[.int .i64 b.k, .slice A1 b.r.length c1, .slice (some ad) b.m.length c2, .slice A3 b.s.length c3] ∧ Blk w' (w.heap.size + 1) 61 #[.int .i64 0, .slice none 0 0, .slice none 0 0, .slice none 0 0] ∧ Blk w' G3 61 #[.int .i64 b.k, .slice A5 b.r.length c5, .slice A2' ms.length c2', .slice A6 b.s.length c6] ∧ b2 ≤ w'.heap.size) ∧ KnS [some (.pointer (some ⟨G3, 2, none⟩)), some (Value.slice A2' ms.length c2'), some (.slice B0 x.length cm), none, none, none] L vs ∧ (L 5 = true → L 4 = true) ∧ (L 4 = true → L 3 = true) ∧ (L 5 = false → OwnMq w' b2 (Ge b2) (Value.slice A2' ms.length c2') (ms)) ∧ (L 3 = true → L 5 = false → ∃ (B : Option Addr) (cx : Nat), vs 3 = .slice B x.length cx ∧ x.length ≤ cx ∧ InB w' (Ge b2) B x ∧ ∀ ad, B = some ad → 0 < x.length → (Value.slice A2' ms.length c2' : Value).ownBlock ≠ some ad.block) ∧ (L 4 = true → L 5 = false → ∃ gb : Nat, vs 4 = .slice (some ⟨gb, 0, none⟩) 1 1 ∧ Blk w' gb 38 #[vs 3]) ∧ (L 5 = true → OwnMq w' b2 (Ge b2) (vs 5) (ms ++ [x])))
      refine wp_region_genT S 6 37 (by kernel_rfl) (by kernel_rfl) rfl ?_ ?_
      · have hg := Grows.drew' wr
        exact HI.out _ _ _ ⟨⟨below_grows qB (Nat.le_refl _) hg, RdB.grows qr hg, RdB.grows qs hg, qk1.grows hg, qk2.grows hg, qk3.grows hg, Nat.le_trans qh hg.size⟩, kn_none _ _, (fun h => by cases h), (fun h => by cases h), (fun _ => ho.grows hg), (fun h => by cases h), (fun h => by cases h), (fun h => by cases h)⟩
      simp only [List.take_succ_cons, List.take_zero, List.drop_succ_cons, List.drop_zero]
      refine gent_consR (fun vs L w1 hL hw1 => ?_) ?_
      · obtain ⟨⟨qB, qr, qs, qk1, qk2, qk3, qh⟩, q1, c5, c4, o5, q3, q4, q5⟩ := HO.out _ _ _ hw1
        refine gen_plain rfl ?_
        go_simp
        exact gr_val (HI.out _ _ _ ⟨⟨qB, qr, qs, qk1, qk2, qk3, qh⟩, kn_known q1 rfl, c5, c4, o5, q3, q4, q5⟩)
      refine gent_consR (fun vs L w1 hL hw1 => ?_) ?_
      · obtain ⟨⟨qB, qr, qs, qk1, qk2, qk3, qh⟩, q1, c5, c4, o5, q3, q4, q5⟩ := HO.out _ _ _ hw1
        have l0 : L 0 = true := hL.need 0 (by kernel_rfl)
        have e0 := q1 0 _ rfl l0
        have xc := qk3.cell 2
        refine gen_plain rfl ?_
        simp only [e0]
        go_simp
        exact gr_val (HI.out _ _ _ ⟨⟨qB, qr, qs, qk1, qk2, qk3, qh⟩, kn_known q1 rfl, c5, c4, o5, q3, q4, q5⟩)
      refine gent_consR (fun vs L w1 hL hw1 => ?_) ?_
      · obtain ⟨⟨qB, qr, qs, qk1, qk2, qk3, qh⟩, q1, c5, c4, o5, q3, q4, q5⟩ := HO.out _ _ _ hw1
        refine gen_plain rfl ?_
        go_simp
        exact gr_val (HI.out _ _ _ ⟨⟨qB, qr, qs, qk1, qk2, qk3, qh⟩, kn_known q1 rfl, c5, c4, o5, q3, q4, q5⟩)
      refine gent_consR (fun vs L w1 hL hw1 => ?_) ?_
      · obtain ⟨⟨qB, qr, qs, qk1, qk2, qk3, qh⟩, q1, c5, c4, o5, q3, q4, q5⟩ := HO.out _ _ _ hw1
        have n3 : L 3 = false := hL.1
        have n4 : L 4 = false := by
          cases h : L 4
          · rfl
          · rw [c4 h] at n3; cases n3
        have n5 : L 5 = false := by
          cases h : L 5
          · rfl
          · rw [c5 h] at n4; cases n4
        have l2 : L 2 = true := hL.need 2 (by kernel_rfl)
        have e2 := q1 2 _ rfl l2
        refine gen_plain rfl ?_
        simp only [e2]
        go_simp
        refine gr_call ?_
        refine (iclone_any B0 cm x _ (hix.ints.grows qB) hxl).mono ?_
        rintro e wc ⟨⟨v, rfl, hown⟩, hg⟩
        obtain ⟨B, cx, rfl, hcx, hib⟩ := InB.of_own hown
        have hlt := (o5 n5).lt
        have hap : ∀ ad, B = some ad → 0 < x.length → (Value.slice A2' ms.length c2' : Value).ownBlock ≠ some ad.block := fun ad e hl e2 => by
          have h8 := (hlt _ e2).2
          have h9 := hib.2 hl ad e
          unfold Ge at h9
          omega
        exact ⟨_, rfl, HI.out _ _ _ ⟨⟨below_grows qB (Nat.le_refl _) hg, RdB.grows qr hg, RdB.grows qs hg, qk1.grows hg, qk2.grows hg, qk3.grows hg, Nat.le_trans qh hg.size⟩, kn_free q1 rfl, c5, (fun _ => rfl), (fun _ => (o5 n5).grows hg), (fun _ _ => ⟨B, cx, rfl, hcx, hib.mono (fun k hk => by unfold Ge at *; omega), hap⟩), (fun h => by rw [show L 4 = true from h] at n4; cases n4), (fun h => by rw [show L 5 = true from h] at n5; cases n5)⟩⟩
      refine gent_consR (fun vs L w1 hL hw1 => ?_) ?_
      · obtain ⟨⟨qB, qr, qs, qk1, qk2, qk3, qh⟩, q1, c5, c4, o5, q3, q4, q5⟩ := HO.out _ _ _ hw1
        have n4 : L 4 = false := hL.1
        have n5 : L 5 = false := by
          cases h : L 5
          · rfl
          · rw [c5 h] at n4; cases n4
        have l3 : L 3 = true := hL.need 3 (by kernel_rfl)
        obtain ⟨B, cx, e3, hcx, hib, hap⟩ := q3 l3 n5
        refine gen_plain rfl ?_
        simp only [e3]
        go_simp
        have hg := (Below.refl w1.heap.size w1).alloc (Nat.le_refl _) (Obj.cells #[.slice B x.length cx] 38)
        have hk := Blk.new w1 38 #[.slice B x.length cx]
        exact gr_val (HI.out _ _ _ ⟨⟨below_grows qB (Nat.le_refl _) hg, RdB.grows qr hg, RdB.grows qs hg, qk1.grows hg, qk2.grows hg, qk3.grows hg, Nat.le_trans qh hg.size⟩, kn_free q1 rfl, (fun _ => rfl), (fun _ => l3), (fun _ => (o5 n5).grows hg), (fun _ _ => ⟨B, cx, e3, hcx, hib.grows hg, hap⟩), (fun _ _ => ⟨w1.heap.size, rfl, by rw [show setV vs 4 _ 3 = vs 3 from rfl, e3]; exact hk⟩), (fun h => by rw [show L 5 = true from h] at n5; cases n5)⟩)
      refine gent_consR (fun vs L w1 hL hw1 => ?_) ?_
      · obtain ⟨⟨qB, qr, qs, qk1, qk2, qk3, qh⟩, q1, c5, c4, o5, q3, q4, q5⟩ := HO.out _ _ _ hw1
        have n5 : L 5 = false := hL.1
        have l4 : L 4 = true := hL.need 4 (by kernel_rfl)
        have l3 := c4 l4
        have l1 : L 1 = true := hL.need 1 (by kernel_rfl)
        have e1 := q1 1 _ rfl l1
        obtain ⟨B, cx, e3, hcx, hib, hap⟩ := q3 l3 n5
        obtain ⟨gb, e4, hk⟩ := q4 l4 n5
        rw [e3] at hk
        have o6 := o5 n5
        have hob := o6.lt
        refine gen_plain rfl ?_
        have hrd : Reads w1 w1.heap.size 1 (some ⟨gb, 0, none⟩) 1 [.slice B x.length cx] := ⟨rfl, fun _ => ⟨_, rfl, hk.lt, fun j u hu => by rw [add_head, hk.cell, ← Array.getElem?_toList]; exact hu⟩⟩
        refine gr_append_mapq (.tmp 29) (.tmp 32) rfl e1 o6 e4 hrd (by omega) qh hib hcx hap ?_
        intro v3 w3 o7 g3
        exact HI.out _ _ _ ⟨⟨qB.grown g3 qB.size (fun q e => by have := (hob q e).1; omega), RdB.grown qr g3 (fun q e => by have := (hob q e).1; unfold Btw; omega), RdB.grown qs g3 (fun q e => by have := (hob q e).1; unfold Btw; omega), qk1.grown g3 (fun e => by have := (hob _ e.symm).1; omega), qk2.grown g3 (fun e => by have := (hob _ e.symm).1; omega), qk3.grown g3 (fun e => by have := (hob _ e.symm).1; omega), Nat.le_trans qh g3.size⟩, kn_free q1 rfl, (fun _ => l4), c4, (fun h => by cases h), (fun _ h => by cases h), (fun _ h => by cases h), (fun _ => o7)⟩
      refine gent_nil ?_
      intro vs L W2 hall hS
      obtain ⟨⟨qB, qr, qs, qk1, qk2, qk3, qh⟩, q1, -, -, -, -, -, q5⟩ := HO.out _ _ _ hS
      have ho := q5 (hall 5 (by omega))
      have e0 := q1 0 _ rfl (hall 0 (by omega))
      have e1 := q1 1 _ rfl (hall 1 (by omega))
      have e2 := q1 2 _ rfl (hall 2 (by omega))
      clear hall hS HI HO q1 q5
      simp only [e0, e1, e2]
      obtain ⟨A7, c7, e7, hc7, -⟩ := ho.read
      rw [e7] at ho
      simp only [e7]
      clear e7 e0 e1 e2
      generalize vs 3 = y3 at *
      generalize vs 4 = y4 at *
      clear vs
      generalize ms ++ [x] = ms2 at *
      have y3 := qk3.cell
      have hf3 := qk3.frozen
      replace qB := qB.setCell (p := ⟨G3, 2, none⟩) (show w.heap.size ≤ G3 by omega) (.slice A7 ms2.length c7)
      replace qk1 := qk1.far (p := ⟨G3, 2, none⟩) (show w.heap.size ≠ G3 by omega) (.slice A7 ms2.length c7)
      replace qk2 := qk2.far (p := ⟨G3, 2, none⟩) (show w.heap.size + 1 ≠ G3 by omega) (.slice A7 ms2.length c7)
      replace qk3 := qk3.set_ 2 (.slice A7 ms2.length c7)
      replace qr := RdB.grown qr (d_only_set (World.grownBy.refl _ (some G3)) 2 (.slice A7 ms2.length c7)) (fun q e => by injection e with e; unfold Btw; omega)
      replace qs := RdB.grown qs (d_only_set (World.grownBy.refl _ (some G3)) 2 (.slice A7 ms2.length c7)) (fun q e => by injection e with e; unfold Btw; omega)
      replace ho := ho.only (d_only_set (World.grownBy.refl _ (some G3)) 2 (.slice A7 ms2.length c7)) (by omega) (by unfold Ge; omega)
      have qh2 : b2 ≤ (W2.setCell ⟨G3, 2, none⟩ (.slice A7 ms2.length c7)).heap.size := by simpa [World.setCell] using qh
      clear qh
      have qh := qh2
      clear qh2
      go_wp2
      generalize World.setCell W2 _ _ = w8 at *
      go_wp2
      go_roundw
      case rel => exact ⟨k + 1, _, by omega, by go_num, qh, by rw [HT.out]; exact ho, qr, qs, qk1, qk2, qk3, qB⟩
      case measure => simp [intOf]; omega
    · rw [List.take_of_length_le (by omega)] at *
      obtain ⟨A9, c9, e9, hc9, hmr⟩ := ho.read
      injection e9 with e9 _ e10
      subst e9
      subst e10
      have x3 := k3.cell
      have x0 := k2.cell
      have hf0 := k2.frozen
      have y0 := ((((k2.set_ 0 (.int .i64 b.k)).set_ 1 (.slice A5 b.r.length c5)).set_ 2 (.slice A2' b.m.length c2')).set_ 3 (.slice A6 b.s.length c6))
      have yB := ((((hB.setCell (p := ⟨w.heap.size + 1, 0, none⟩) (show w.heap.size ≤ w.heap.size + 1 by omega) (.int .i64 b.k)).setCell (p := ⟨w.heap.size + 1, 1, none⟩) (show w.heap.size ≤ w.heap.size + 1 by omega) (.slice A5 b.r.length c5)).setCell (p := ⟨w.heap.size + 1, 2, none⟩) (show w.heap.size ≤ w.heap.size + 1 by omega) (.slice A2' b.m.length c2')).setCell (p := ⟨w.heap.size + 1, 3, none⟩) (show w.heap.size ≤ w.heap.size + 1 by omega) (.slice A6 b.s.length c6))
      have yR := RdB.grown hr (d_only_set (d_only_set (d_only_set (d_only_set (World.grownBy.refl _ (some (w.heap.size + 1))) 0 (.int .i64 b.k)) 1 (.slice A5 b.r.length c5)) 2 (.slice A2' b.m.length c2')) 3 (.slice A6 b.s.length c6)) (fun q e => by injection e with e; unfold Btw; omega)
      have yS := RdB.grown hs (d_only_set (d_only_set (d_only_set (d_only_set (World.grownBy.refl _ (some (w.heap.size + 1))) 0 (.int .i64 b.k)) 1 (.slice A5 b.r.length c5)) 2 (.slice A2' b.m.length c2')) 3 (.slice A6 b.s.length c6)) (fun q e => by injection e with e; unfold Btw; omega)
      have yM := MapsR.grown hmr (d_only_set (d_only_set (d_only_set (d_only_set (World.grownBy.refl _ (some (w.heap.size + 1))) 0 (.int .i64 b.k)) 1 (.slice A5 b.r.length c5)) 2 (.slice A2' b.m.length c2')) 3 (.slice A6 b.s.length c6)) (fun q e => by injection e with e; unfold Ge; omega)
      have y6 := y0.cell
      clear k1 k2 k3 hr hs hmr ho
      go_wp2
      refine bodyPost_ret (v := .agg #[.int .i64 b.k, .slice A5 b.r.length c5, .slice A2' b.m.length c2', .slice A6 b.s.length c6]) (by simp [results, Tryz.results83, go_sem, y6]) rfl ⟨⟨_, rfl, A5, c5, A2', c2', A6, c6, rfl, ⟨RdB.mono yR (fun k hk => by unfold Btw at hk; unfold Ge; omega), yM.mono (fun k hk => by unfold Ge at *; omega), RdB.mono yS (fun k hk => by unfold Btw at hk; unfold Ge; omega), hc5, hc9, hc6⟩⟩, yB⟩
end Go.Proofs.YtjbkjgmcfommgaaGreat

