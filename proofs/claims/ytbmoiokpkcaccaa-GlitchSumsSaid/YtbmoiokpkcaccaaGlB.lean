/-
  Layer 37: glitches joined. Plain contracts of the program and of the reference.
-/
import Derived.Test.YtbmoiokpkcaccaaGlA
import Derived.Deep.DeepCutAuto
import Derived.Deep.CutBlock
namespace Go.Proofs.Ytbmoiokpkcaccaa
open Go.RowKit
def joinF (g h : Gl) : Option Gl :=
  if (okG g && okG h && kinG g h && (h.a == g.a + g.q) && decide (g.q + h.q ≤ 4096) && decide (g.f + h.f ≤ 1099511627776)) = true then some ⟨g.k, g.a, g.q + h.q, g.s, g.d, g.f + h.f⟩ else none
def joinV : Option Gl → Value
  | some g => .tuple #[.agg g.cs, .bool true]
  | none => .tuple #[.agg #[.int .i64 0, .int .i64 0, .int .i64 0, .int .i64 0, .int .u64 0, .int .i64 0], .bool false]
theorem okG_bd {k a q s d f : Int} (h : okG ⟨k, a, q, s, d, f⟩ = true) : 0 ≤ a ∧ a ≤ 1099511627776 ∧ 1 ≤ q ∧ q ≤ 4096 ∧ 1 ≤ f ∧ f ≤ 1099511627776 := by
  simp only [okG, Bool.and_eq_true, decide_eq_true_eq] at h
  exact ⟨h.1.1.1.1.1.1, h.1.1.1.1.1.2, h.1.1.1.1.2, h.1.1.1.2, h.1.1.2, h.1.2⟩
set_option maxHeartbeats 8000000 in
theorem join_no1 (k a q s d f kk aa qq ss dd ff : Int) (w : World) (h1 : okG ⟨k, a, q, s, d, f⟩ = false) : Calls Try.prog 13 #[.agg #[.int .i64 k, .int .i64 a, .int .i64 q, .int .i64 s, .int .u64 d, .int .i64 f], .agg #[.int .i64 kk, .int .i64 aa, .int .i64 qq, .int .i64 ss, .int .u64 dd, .int .i64 ff]] w fun e w' => e = .returned (joinV none) ∧ Grows w w' := by
  have v1 : ∀ w1, Calls Try.prog 12 #[.agg #[.int .i64 k, .int .i64 a, .int .i64 q, .int .i64 s, .int .u64 d, .int .i64 f]] w1 fun e w' => e = .returned (.bool false) ∧ Grows w1 w' := fun w1 => by
    have := gvalid_any k a q s d f w1
    rw [h1] at this
    exact this
  clear h1
  go_enter Try.func13, Try.ntmps13
  go_upto_region 1 with fail
  have k1 := ((Blk.new w 28 #[.int .i64 k, .int .i64 a, .int .i64 q, .int .i64 s, .int .u64 d, .int .i64 f]).alloc (Obj.cells #[.int .i64 kk, .int .i64 aa, .int .i64 qq, .int .i64 ss, .int .u64 dd, .int .i64 ff] 28)).alloc (Obj.cells #[.int .i64 0, .int .i64 0, .int .i64 0, .int .i64 0, .int .u64 0, .int .i64 0] 28)
  have k2 := (blk_new_at (X := w.alloc (Obj.cells #[.int .i64 k, .int .i64 a, .int .i64 q, .int .i64 s, .int .u64 d, .int .i64 f] 28)) (n := w.heap.size + 1) (t := 28) (cs := #[.int .i64 kk, .int .i64 aa, .int .i64 qq, .int .i64 ss, .int .u64 dd, .int .i64 ff]) (by simp)).alloc (Obj.cells #[.int .i64 0, .int .i64 0, .int .i64 0, .int .i64 0, .int .u64 0, .int .i64 0] 28)
  have k3 := blk_new_at (X := (w.alloc (Obj.cells #[.int .i64 k, .int .i64 a, .int .i64 q, .int .i64 s, .int .u64 d, .int .i64 f] 28)).alloc (Obj.cells #[.int .i64 kk, .int .i64 aa, .int .i64 qq, .int .i64 ss, .int .u64 dd, .int .i64 ff] 28)) (n := w.heap.size + 2) (t := 28) (cs := #[.int .i64 0, .int .i64 0, .int .i64 0, .int .i64 0, .int .u64 0, .int .i64 0]) (by simp)
  have hB := (((Below.refl w.heap.size w).alloc (Nat.le_refl _) (Obj.cells #[.int .i64 k, .int .i64 a, .int .i64 q, .int .i64 s, .int .u64 d, .int .i64 f] 28)).alloc (by simp) (Obj.cells #[.int .i64 kk, .int .i64 aa, .int .i64 qq, .int .i64 ss, .int .u64 dd, .int .i64 ff] 28)).alloc (by simp; omega) (Obj.cells #[.int .i64 0, .int .i64 0, .int .i64 0, .int .i64 0, .int .u64 0, .int .i64 0] 28)
  generalize World.alloc (World.alloc (World.alloc w _) _) _ = w1 at *
  refine wp_region_mix (fun w' => Below w.heap.size w w' ∧ Blk w' w.heap.size 28 #[.int .i64 k, .int .i64 a, .int .i64 q, .int .i64 s, .int .u64 d, .int .i64 f] ∧ Blk w' (w.heap.size + 1) 28 #[.int .i64 kk, .int .i64 aa, .int .i64 qq, .int .i64 ss, .int .u64 dd, .int .i64 ff] ∧ Blk w' (w.heap.size + 2) 28 #[.int .i64 0, .int .i64 0, .int .i64 0, .int .i64 0, .int .u64 0, .int .i64 0]) [] 25 49 (by kernel_rfl) (by kernel_rfl) rfl ?_ float_none ?_ ?_
  · exact fun w1 w2 ⟨h0, h1, h2, h3⟩ hg => ⟨below_grows h0 (Nat.le_refl _) hg, h1.grows hg, h2.grows hg, h3.grows hg⟩
  · exact ⟨hB.drew, k1.drew, k2.drew, k3.drew⟩
  simp only [List.take_succ_cons, List.take_zero, List.drop_succ_cons, List.drop_zero]
  iterate 25
    first
      | (refine calm_no rfl rfl (a' := ?_) ?_ ?_
         rotate_left 1
         · simp only [Act.put, List.setIfInBounds_toArray, List.set_cons_succ, List.set_cons_zero]
           rfl)
      | (first | refine calm_plain rfl rfl (v := ?_) (a' := ?_) (fun w1 hw1 => ?_) ?_ ?_ | refine calm_yes rfl rfl (v := ?_) (a' := ?_) (fun w1 hw1 => ?_) ?_ ?_
         rotate_left 2
         · obtain ⟨h0, h1, h2, h3⟩ := hw1
           have c1 := h1.cell
           have c2 := h2.cell
           go_simp
           first | exact calm_val | (refine calm_call ?_; with_reducible exact v1 _)
         · simp only [Act.put, List.setIfInBounds_toArray, List.set_cons_succ, List.set_cons_zero]
           rfl)
  refine calm_done (end_none ?_)
  rintro w7 ⟨hB7, k7, k8, k9⟩
  have x9 := k9.cell
  have y9 := k9.frozen
  go_wp2
  refine bodyPost_ret (v := .tuple #[.agg #[.int .i64 0, .int .i64 0, .int .i64 0, .int .i64 0, .int .u64 0, .int .i64 0], .bool false]) (by simp [results, Try.results13, go_sem, x9]) rfl ⟨rfl, ?_⟩
  iterate 6 refine Below.setCell ?_ (by simp; omega) _
  exact hB7
set_option maxHeartbeats 8000000 in
theorem join_no2 (k a q s d f kk aa qq ss dd ff : Int) (w : World) (h1 : okG ⟨k, a, q, s, d, f⟩ = true) (h2 : okG ⟨kk, aa, qq, ss, dd, ff⟩ = false) : Calls Try.prog 13 #[.agg #[.int .i64 k, .int .i64 a, .int .i64 q, .int .i64 s, .int .u64 d, .int .i64 f], .agg #[.int .i64 kk, .int .i64 aa, .int .i64 qq, .int .i64 ss, .int .u64 dd, .int .i64 ff]] w fun e w' => e = .returned (joinV none) ∧ Grows w w' := by
  have v1 : ∀ w1, Calls Try.prog 12 #[.agg #[.int .i64 k, .int .i64 a, .int .i64 q, .int .i64 s, .int .u64 d, .int .i64 f]] w1 fun e w' => e = .returned (.bool true) ∧ Grows w1 w' := fun w1 => by
    have := gvalid_any k a q s d f w1
    rw [h1] at this
    exact this
  have v2 : ∀ w1, Calls Try.prog 12 #[.agg #[.int .i64 kk, .int .i64 aa, .int .i64 qq, .int .i64 ss, .int .u64 dd, .int .i64 ff]] w1 fun e w' => e = .returned (.bool false) ∧ Grows w1 w' := fun w1 => by
    have := gvalid_any kk aa qq ss dd ff w1
    rw [h2] at this
    exact this
  clear h1 h2
  go_enter Try.func13, Try.ntmps13
  go_upto_region 1 with fail
  have k1 := ((Blk.new w 28 #[.int .i64 k, .int .i64 a, .int .i64 q, .int .i64 s, .int .u64 d, .int .i64 f]).alloc (Obj.cells #[.int .i64 kk, .int .i64 aa, .int .i64 qq, .int .i64 ss, .int .u64 dd, .int .i64 ff] 28)).alloc (Obj.cells #[.int .i64 0, .int .i64 0, .int .i64 0, .int .i64 0, .int .u64 0, .int .i64 0] 28)
  have k2 := (blk_new_at (X := w.alloc (Obj.cells #[.int .i64 k, .int .i64 a, .int .i64 q, .int .i64 s, .int .u64 d, .int .i64 f] 28)) (n := w.heap.size + 1) (t := 28) (cs := #[.int .i64 kk, .int .i64 aa, .int .i64 qq, .int .i64 ss, .int .u64 dd, .int .i64 ff]) (by simp)).alloc (Obj.cells #[.int .i64 0, .int .i64 0, .int .i64 0, .int .i64 0, .int .u64 0, .int .i64 0] 28)
  have k3 := blk_new_at (X := (w.alloc (Obj.cells #[.int .i64 k, .int .i64 a, .int .i64 q, .int .i64 s, .int .u64 d, .int .i64 f] 28)).alloc (Obj.cells #[.int .i64 kk, .int .i64 aa, .int .i64 qq, .int .i64 ss, .int .u64 dd, .int .i64 ff] 28)) (n := w.heap.size + 2) (t := 28) (cs := #[.int .i64 0, .int .i64 0, .int .i64 0, .int .i64 0, .int .u64 0, .int .i64 0]) (by simp)
  have hB := (((Below.refl w.heap.size w).alloc (Nat.le_refl _) (Obj.cells #[.int .i64 k, .int .i64 a, .int .i64 q, .int .i64 s, .int .u64 d, .int .i64 f] 28)).alloc (by simp) (Obj.cells #[.int .i64 kk, .int .i64 aa, .int .i64 qq, .int .i64 ss, .int .u64 dd, .int .i64 ff] 28)).alloc (by simp; omega) (Obj.cells #[.int .i64 0, .int .i64 0, .int .i64 0, .int .i64 0, .int .u64 0, .int .i64 0] 28)
  generalize World.alloc (World.alloc (World.alloc w _) _) _ = w1 at *
  refine wp_region_mix (fun w' => Below w.heap.size w w' ∧ Blk w' w.heap.size 28 #[.int .i64 k, .int .i64 a, .int .i64 q, .int .i64 s, .int .u64 d, .int .i64 f] ∧ Blk w' (w.heap.size + 1) 28 #[.int .i64 kk, .int .i64 aa, .int .i64 qq, .int .i64 ss, .int .u64 dd, .int .i64 ff] ∧ Blk w' (w.heap.size + 2) 28 #[.int .i64 0, .int .i64 0, .int .i64 0, .int .i64 0, .int .u64 0, .int .i64 0]) [] 25 49 (by kernel_rfl) (by kernel_rfl) rfl ?_ float_none ?_ ?_
  · exact fun w1 w2 ⟨h0, h1, h2, h3⟩ hg => ⟨below_grows h0 (Nat.le_refl _) hg, h1.grows hg, h2.grows hg, h3.grows hg⟩
  · exact ⟨hB.drew, k1.drew, k2.drew, k3.drew⟩
  simp only [List.take_succ_cons, List.take_zero, List.drop_succ_cons, List.drop_zero]
  iterate 25
    first
      | (refine calm_no rfl rfl (a' := ?_) ?_ ?_
         rotate_left 1
         · simp only [Act.put, List.setIfInBounds_toArray, List.set_cons_succ, List.set_cons_zero]
           rfl)
      | (first | refine calm_plain rfl rfl (v := ?_) (a' := ?_) (fun w1 hw1 => ?_) ?_ ?_ | refine calm_yes rfl rfl (v := ?_) (a' := ?_) (fun w1 hw1 => ?_) ?_ ?_
         rotate_left 2
         · obtain ⟨h0, h1, h2, h3⟩ := hw1
           have c1 := h1.cell
           have c2 := h2.cell
           go_simp
           first | exact calm_val | (refine calm_call ?_; with_reducible exact v1 _) | (refine calm_call ?_; with_reducible exact v2 _)
         · simp only [Act.put, List.setIfInBounds_toArray, List.set_cons_succ, List.set_cons_zero]
           rfl)
  refine calm_done (end_none ?_)
  rintro w7 ⟨hB7, k7, k8, k9⟩
  have x9 := k9.cell
  have y9 := k9.frozen
  go_wp2
  refine bodyPost_ret (v := .tuple #[.agg #[.int .i64 0, .int .i64 0, .int .i64 0, .int .i64 0, .int .u64 0, .int .i64 0], .bool false]) (by simp [results, Try.results13, go_sem, x9]) rfl ⟨rfl, ?_⟩
  iterate 6 refine Below.setCell ?_ (by simp; omega) _
  exact hB7
set_option maxHeartbeats 8000000 in
theorem join_no3 (k a q s d f kk aa qq ss dd ff : Int) (w : World) (h1 : okG ⟨k, a, q, s, d, f⟩ = true) (h2 : okG ⟨kk, aa, qq, ss, dd, ff⟩ = true) (h3 : kinG ⟨k, a, q, s, d, f⟩ ⟨kk, aa, qq, ss, dd, ff⟩ = false) : Calls Try.prog 13 #[.agg #[.int .i64 k, .int .i64 a, .int .i64 q, .int .i64 s, .int .u64 d, .int .i64 f], .agg #[.int .i64 kk, .int .i64 aa, .int .i64 qq, .int .i64 ss, .int .u64 dd, .int .i64 ff]] w fun e w' => e = .returned (joinV none) ∧ Grows w w' := by
  have v1 : ∀ w1, Calls Try.prog 12 #[.agg #[.int .i64 k, .int .i64 a, .int .i64 q, .int .i64 s, .int .u64 d, .int .i64 f]] w1 fun e w' => e = .returned (.bool true) ∧ Grows w1 w' := fun w1 => by
    have := gvalid_any k a q s d f w1
    rw [h1] at this
    exact this
  have v2 : ∀ w1, Calls Try.prog 12 #[.agg #[.int .i64 kk, .int .i64 aa, .int .i64 qq, .int .i64 ss, .int .u64 dd, .int .i64 ff]] w1 fun e w' => e = .returned (.bool true) ∧ Grows w1 w' := fun w1 => by
    have := gvalid_any kk aa qq ss dd ff w1
    rw [h2] at this
    exact this
  have b1 := okG_bd h1
  have b2 := okG_bd h2
  clear h1 h2
  simp only [kinG] at h3
  go_enter Try.func13, Try.ntmps13
  go_upto_region 1 with fail
  have k1 := ((Blk.new w 28 #[.int .i64 k, .int .i64 a, .int .i64 q, .int .i64 s, .int .u64 d, .int .i64 f]).alloc (Obj.cells #[.int .i64 kk, .int .i64 aa, .int .i64 qq, .int .i64 ss, .int .u64 dd, .int .i64 ff] 28)).alloc (Obj.cells #[.int .i64 0, .int .i64 0, .int .i64 0, .int .i64 0, .int .u64 0, .int .i64 0] 28)
  have k2 := (blk_new_at (X := w.alloc (Obj.cells #[.int .i64 k, .int .i64 a, .int .i64 q, .int .i64 s, .int .u64 d, .int .i64 f] 28)) (n := w.heap.size + 1) (t := 28) (cs := #[.int .i64 kk, .int .i64 aa, .int .i64 qq, .int .i64 ss, .int .u64 dd, .int .i64 ff]) (by simp)).alloc (Obj.cells #[.int .i64 0, .int .i64 0, .int .i64 0, .int .i64 0, .int .u64 0, .int .i64 0] 28)
  have k3 := blk_new_at (X := (w.alloc (Obj.cells #[.int .i64 k, .int .i64 a, .int .i64 q, .int .i64 s, .int .u64 d, .int .i64 f] 28)).alloc (Obj.cells #[.int .i64 kk, .int .i64 aa, .int .i64 qq, .int .i64 ss, .int .u64 dd, .int .i64 ff] 28)) (n := w.heap.size + 2) (t := 28) (cs := #[.int .i64 0, .int .i64 0, .int .i64 0, .int .i64 0, .int .u64 0, .int .i64 0]) (by simp)
  have hB := (((Below.refl w.heap.size w).alloc (Nat.le_refl _) (Obj.cells #[.int .i64 k, .int .i64 a, .int .i64 q, .int .i64 s, .int .u64 d, .int .i64 f] 28)).alloc (by simp) (Obj.cells #[.int .i64 kk, .int .i64 aa, .int .i64 qq, .int .i64 ss, .int .u64 dd, .int .i64 ff] 28)).alloc (by simp; omega) (Obj.cells #[.int .i64 0, .int .i64 0, .int .i64 0, .int .i64 0, .int .u64 0, .int .i64 0] 28)
  generalize World.alloc (World.alloc (World.alloc w _) _) _ = w1 at *
  refine wp_region_mix (fun w' => Below w.heap.size w w' ∧ Blk w' w.heap.size 28 #[.int .i64 k, .int .i64 a, .int .i64 q, .int .i64 s, .int .u64 d, .int .i64 f] ∧ Blk w' (w.heap.size + 1) 28 #[.int .i64 kk, .int .i64 aa, .int .i64 qq, .int .i64 ss, .int .u64 dd, .int .i64 ff] ∧ Blk w' (w.heap.size + 2) 28 #[.int .i64 0, .int .i64 0, .int .i64 0, .int .i64 0, .int .u64 0, .int .i64 0]) [] 25 49 (by kernel_rfl) (by kernel_rfl) rfl ?_ float_none ?_ ?_
  · exact fun w1 w2 ⟨h0, h1, h2, h3⟩ hg => ⟨below_grows h0 (Nat.le_refl _) hg, h1.grows hg, h2.grows hg, h3.grows hg⟩
  · exact ⟨hB.drew, k1.drew, k2.drew, k3.drew⟩
  simp only [List.take_succ_cons, List.take_zero, List.drop_succ_cons, List.drop_zero]
  iterate 13
    first
      | (refine calm_no rfl rfl (a' := ?_) ?_ ?_
         rotate_left 1
         · simp only [Act.put, List.setIfInBounds_toArray, List.set_cons_succ, List.set_cons_zero]
           rfl)
      | (first | refine calm_plain rfl rfl (v := ?_) (a' := ?_) (fun w1 hw1 => ?_) ?_ ?_ | refine calm_yes rfl rfl (v := ?_) (a' := ?_) (fun w1 hw1 => ?_) ?_ ?_
         rotate_left 2
         · obtain ⟨h0, h1, h2, h3⟩ := hw1
           have c1 := h1.cell
           have c2 := h2.cell
           go_simp
           first | exact calm_val | (refine calm_call ?_; with_reducible exact v1 _) | (refine calm_call ?_; with_reducible exact v2 _) | (refine calm_call ?_; with_reducible exact of_any _ _ _ _ _ _ _)
         · simp only [Act.put, List.setIfInBounds_toArray, List.set_cons_succ, List.set_cons_zero]
           rfl)
  refine calm_yes rfl rfl (v := .bool true) (a' := ?_) (fun w1 hw1 => ?_) ?_ ?_
  rotate_left 1
  · obtain ⟨h0, h1, h2, h3⟩ := hw1
    have c1 := h1.cell
    have c2 := h2.cell
    go_simp
    split
    · split
      · split
        · exfalso; simp_all
        · exact calm_val
      · exact calm_val
    · exact calm_val
  · simp only [Act.put, List.setIfInBounds_toArray, List.set_cons_succ, List.set_cons_zero]
    rfl
  iterate 11
    first
      | (refine calm_no rfl rfl (a' := ?_) ?_ ?_
         rotate_left 1
         · simp only [Act.put, List.setIfInBounds_toArray, List.set_cons_succ, List.set_cons_zero]
           rfl)
      | (first | refine calm_plain rfl rfl (v := ?_) (a' := ?_) (fun w1 hw1 => ?_) ?_ ?_ | refine calm_yes rfl rfl (v := ?_) (a' := ?_) (fun w1 hw1 => ?_) ?_ ?_
         rotate_left 2
         · obtain ⟨h0, h1, h2, h3⟩ := hw1
           have c1 := h1.cell
           have c2 := h2.cell
           go_simp
           first | exact calm_val | (refine calm_call ?_; with_reducible exact v1 _) | (refine calm_call ?_; with_reducible exact v2 _) | (refine calm_call ?_; with_reducible exact of_any _ _ _ _ _ _ _)
         · simp only [Act.put, List.setIfInBounds_toArray, List.set_cons_succ, List.set_cons_zero]
           rfl)
  refine calm_done (end_none ?_)
  rintro w7 ⟨hB7, k7, k8, k9⟩
  have x9 := k9.cell
  have y9 := k9.frozen
  go_wp2
  refine bodyPost_ret (v := .tuple #[.agg #[.int .i64 0, .int .i64 0, .int .i64 0, .int .i64 0, .int .u64 0, .int .i64 0], .bool false]) (by simp [results, Try.results13, go_sem, x9]) rfl ⟨rfl, ?_⟩
  iterate 6 refine Below.setCell ?_ (by simp; omega) _
  exact hB7
set_option maxHeartbeats 8000000 in
theorem join_no4 (k a q s d f aa qq ff : Int) (w : World) (h1 : okG ⟨k, a, q, s, d, f⟩ = true) (h2 : okG ⟨k, aa, qq, s, d, ff⟩ = true) (hne : aa ≠ a + q) : Calls Try.prog 13 #[.agg #[.int .i64 k, .int .i64 a, .int .i64 q, .int .i64 s, .int .u64 d, .int .i64 f], .agg #[.int .i64 k, .int .i64 aa, .int .i64 qq, .int .i64 s, .int .u64 d, .int .i64 ff]] w fun e w' => e = .returned (joinV none) ∧ Grows w w' := by
  have v1 : ∀ w1, Calls Try.prog 12 #[.agg #[.int .i64 k, .int .i64 a, .int .i64 q, .int .i64 s, .int .u64 d, .int .i64 f]] w1 fun e w' => e = .returned (.bool true) ∧ Grows w1 w' := fun w1 => by
    have := gvalid_any k a q s d f w1
    rw [h1] at this
    exact this
  have v2 : ∀ w1, Calls Try.prog 12 #[.agg #[.int .i64 k, .int .i64 aa, .int .i64 qq, .int .i64 s, .int .u64 d, .int .i64 ff]] w1 fun e w' => e = .returned (.bool true) ∧ Grows w1 w' := fun w1 => by
    have := gvalid_any k aa qq s d ff w1
    rw [h2] at this
    exact this
  have b1 := okG_bd h1
  have b2 := okG_bd h2
  clear h1 h2
  have e1 : IntKind.i64.wrap (a + q) = a + q := IntWalk.i64_in _ (by omega)
  go_enter Try.func13, Try.ntmps13
  go_upto_region 1 with fail
  have k1 := ((Blk.new w 28 #[.int .i64 k, .int .i64 a, .int .i64 q, .int .i64 s, .int .u64 d, .int .i64 f]).alloc (Obj.cells #[.int .i64 k, .int .i64 aa, .int .i64 qq, .int .i64 s, .int .u64 d, .int .i64 ff] 28)).alloc (Obj.cells #[.int .i64 0, .int .i64 0, .int .i64 0, .int .i64 0, .int .u64 0, .int .i64 0] 28)
  have k2 := (blk_new_at (X := w.alloc (Obj.cells #[.int .i64 k, .int .i64 a, .int .i64 q, .int .i64 s, .int .u64 d, .int .i64 f] 28)) (n := w.heap.size + 1) (t := 28) (cs := #[.int .i64 k, .int .i64 aa, .int .i64 qq, .int .i64 s, .int .u64 d, .int .i64 ff]) (by simp)).alloc (Obj.cells #[.int .i64 0, .int .i64 0, .int .i64 0, .int .i64 0, .int .u64 0, .int .i64 0] 28)
  have k3 := blk_new_at (X := (w.alloc (Obj.cells #[.int .i64 k, .int .i64 a, .int .i64 q, .int .i64 s, .int .u64 d, .int .i64 f] 28)).alloc (Obj.cells #[.int .i64 k, .int .i64 aa, .int .i64 qq, .int .i64 s, .int .u64 d, .int .i64 ff] 28)) (n := w.heap.size + 2) (t := 28) (cs := #[.int .i64 0, .int .i64 0, .int .i64 0, .int .i64 0, .int .u64 0, .int .i64 0]) (by simp)
  have hB := (((Below.refl w.heap.size w).alloc (Nat.le_refl _) (Obj.cells #[.int .i64 k, .int .i64 a, .int .i64 q, .int .i64 s, .int .u64 d, .int .i64 f] 28)).alloc (by simp) (Obj.cells #[.int .i64 k, .int .i64 aa, .int .i64 qq, .int .i64 s, .int .u64 d, .int .i64 ff] 28)).alloc (by simp; omega) (Obj.cells #[.int .i64 0, .int .i64 0, .int .i64 0, .int .i64 0, .int .u64 0, .int .i64 0] 28)
  generalize World.alloc (World.alloc (World.alloc w _) _) _ = w1 at *
  refine wp_region_mix (fun w' => Below w.heap.size w w' ∧ Blk w' w.heap.size 28 #[.int .i64 k, .int .i64 a, .int .i64 q, .int .i64 s, .int .u64 d, .int .i64 f] ∧ Blk w' (w.heap.size + 1) 28 #[.int .i64 k, .int .i64 aa, .int .i64 qq, .int .i64 s, .int .u64 d, .int .i64 ff] ∧ Blk w' (w.heap.size + 2) 28 #[.int .i64 0, .int .i64 0, .int .i64 0, .int .i64 0, .int .u64 0, .int .i64 0]) [] 25 49 (by kernel_rfl) (by kernel_rfl) rfl ?_ float_none ?_ ?_
  · exact fun w1 w2 ⟨h0, h1, h2, h3⟩ hg => ⟨below_grows h0 (Nat.le_refl _) hg, h1.grows hg, h2.grows hg, h3.grows hg⟩
  · exact ⟨hB.drew, k1.drew, k2.drew, k3.drew⟩
  simp only [List.take_succ_cons, List.take_zero, List.drop_succ_cons, List.drop_zero]
  iterate 23
    first
      | (refine calm_no rfl rfl (a' := ?_) ?_ ?_
         rotate_left 1
         · simp only [Act.put, List.setIfInBounds_toArray, List.set_cons_succ, List.set_cons_zero]
           rfl)
      | (first | refine calm_plain rfl rfl (v := ?_) (a' := ?_) (fun w1 hw1 => ?_) ?_ ?_ | refine calm_yes rfl rfl (v := ?_) (a' := ?_) (fun w1 hw1 => ?_) ?_ ?_
         rotate_left 2
         · obtain ⟨h0, h1, h2, h3⟩ := hw1
           have c1 := h1.cell
           have c2 := h2.cell
           go_simp
           first | exact calm_val | (refine calm_call ?_; with_reducible exact v1 _) | (refine calm_call ?_; with_reducible exact v2 _) | (refine calm_call ?_; with_reducible exact of_any _ _ _ _ _ _ _)
         · simp only [Act.put, List.setIfInBounds_toArray, List.set_cons_succ, List.set_cons_zero]
           rfl)
  refine calm_yes rfl rfl (v := .bool true) (a' := ?_) (fun w1 hw1 => ?_) ?_ ?_
  rotate_left 1
  · obtain ⟨h0, h1, h2, h3⟩ := hw1
    have c1 := h1.cell
    have c2 := h2.cell
    go_simp
    rw [show (aa != a + q) = true by simpa using hne]
    exact calm_val
  · simp only [Act.put, List.setIfInBounds_toArray, List.set_cons_succ, List.set_cons_zero]
    rfl
  iterate 1
    first
      | (refine calm_no rfl rfl (a' := ?_) ?_ ?_
         rotate_left 1
         · simp only [Act.put, List.setIfInBounds_toArray, List.set_cons_succ, List.set_cons_zero]
           rfl)
      | (first | refine calm_plain rfl rfl (v := ?_) (a' := ?_) (fun w1 hw1 => ?_) ?_ ?_ | refine calm_yes rfl rfl (v := ?_) (a' := ?_) (fun w1 hw1 => ?_) ?_ ?_
         rotate_left 2
         · obtain ⟨h0, h1, h2, h3⟩ := hw1
           have c1 := h1.cell
           have c2 := h2.cell
           go_simp
           first | exact calm_val | (refine calm_call ?_; with_reducible exact v1 _) | (refine calm_call ?_; with_reducible exact v2 _) | (refine calm_call ?_; with_reducible exact of_any _ _ _ _ _ _ _)
         · simp only [Act.put, List.setIfInBounds_toArray, List.set_cons_succ, List.set_cons_zero]
           rfl)
  refine calm_done (end_none ?_)
  rintro w7 ⟨hB7, k7, k8, k9⟩
  have x9 := k9.cell
  have y9 := k9.frozen
  go_wp2
  refine bodyPost_ret (v := .tuple #[.agg #[.int .i64 0, .int .i64 0, .int .i64 0, .int .i64 0, .int .u64 0, .int .i64 0], .bool false]) (by simp [results, Try.results13, go_sem, x9]) rfl ⟨rfl, ?_⟩
  iterate 6 refine Below.setCell ?_ (by simp; omega) _
  exact hB7
set_option maxHeartbeats 8000000 in
theorem join_no5 (k a q s d f qq ff : Int) (w : World) (h1 : okG ⟨k, a, q, s, d, f⟩ = true) (h2 : okG ⟨k, a + q, qq, s, d, ff⟩ = true) (h3 : okG ⟨k, a, q + qq, s, d, f + ff⟩ = false) : Calls Try.prog 13 #[.agg #[.int .i64 k, .int .i64 a, .int .i64 q, .int .i64 s, .int .u64 d, .int .i64 f], .agg #[.int .i64 k, .int .i64 (a + q), .int .i64 qq, .int .i64 s, .int .u64 d, .int .i64 ff]] w fun e w' => e = .returned (joinV none) ∧ Grows w w' := by
  have v1 : ∀ w1, Calls Try.prog 12 #[.agg #[.int .i64 k, .int .i64 a, .int .i64 q, .int .i64 s, .int .u64 d, .int .i64 f]] w1 fun e w' => e = .returned (.bool true) ∧ Grows w1 w' := fun w1 => by
    have := gvalid_any k a q s d f w1
    rw [h1] at this
    exact this
  have v2 : ∀ w1, Calls Try.prog 12 #[.agg #[.int .i64 k, .int .i64 (a + q), .int .i64 qq, .int .i64 s, .int .u64 d, .int .i64 ff]] w1 fun e w' => e = .returned (.bool true) ∧ Grows w1 w' := fun w1 => by
    have := gvalid_any k (a + q) qq s d ff w1
    rw [h2] at this
    exact this
  have v3 : ∀ w1, Calls Try.prog 12 #[.agg #[.int .i64 k, .int .i64 a, .int .i64 (q + qq), .int .i64 s, .int .u64 d, .int .i64 (f + ff)]] w1 fun e w' => e = .returned (.bool false) ∧ Grows w1 w' := fun w1 => by
    have := gvalid_any k a (q + qq) s d (f + ff) w1
    rw [h3] at this
    exact this
  have b1 := okG_bd h1
  have b2 := okG_bd h2
  clear h1 h2
  clear h3
  have e1 : IntKind.i64.wrap (a + q) = a + q := IntWalk.i64_in _ (by omega)
  go_enter Try.func13, Try.ntmps13
  go_upto_region 1 with fail
  have k1 := ((Blk.new w 28 #[.int .i64 k, .int .i64 a, .int .i64 q, .int .i64 s, .int .u64 d, .int .i64 f]).alloc (Obj.cells #[.int .i64 k, .int .i64 (a + q), .int .i64 qq, .int .i64 s, .int .u64 d, .int .i64 ff] 28)).alloc (Obj.cells #[.int .i64 0, .int .i64 0, .int .i64 0, .int .i64 0, .int .u64 0, .int .i64 0] 28)
  have k2 := (blk_new_at (X := w.alloc (Obj.cells #[.int .i64 k, .int .i64 a, .int .i64 q, .int .i64 s, .int .u64 d, .int .i64 f] 28)) (n := w.heap.size + 1) (t := 28) (cs := #[.int .i64 k, .int .i64 (a + q), .int .i64 qq, .int .i64 s, .int .u64 d, .int .i64 ff]) (by simp)).alloc (Obj.cells #[.int .i64 0, .int .i64 0, .int .i64 0, .int .i64 0, .int .u64 0, .int .i64 0] 28)
  have k3 := blk_new_at (X := (w.alloc (Obj.cells #[.int .i64 k, .int .i64 a, .int .i64 q, .int .i64 s, .int .u64 d, .int .i64 f] 28)).alloc (Obj.cells #[.int .i64 k, .int .i64 (a + q), .int .i64 qq, .int .i64 s, .int .u64 d, .int .i64 ff] 28)) (n := w.heap.size + 2) (t := 28) (cs := #[.int .i64 0, .int .i64 0, .int .i64 0, .int .i64 0, .int .u64 0, .int .i64 0]) (by simp)
  have hB := (((Below.refl w.heap.size w).alloc (Nat.le_refl _) (Obj.cells #[.int .i64 k, .int .i64 a, .int .i64 q, .int .i64 s, .int .u64 d, .int .i64 f] 28)).alloc (by simp) (Obj.cells #[.int .i64 k, .int .i64 (a + q), .int .i64 qq, .int .i64 s, .int .u64 d, .int .i64 ff] 28)).alloc (by simp; omega) (Obj.cells #[.int .i64 0, .int .i64 0, .int .i64 0, .int .i64 0, .int .u64 0, .int .i64 0] 28)
  generalize World.alloc (World.alloc (World.alloc w _) _) _ = w1 at *
  refine wp_region_mix (fun w' => Below w.heap.size w w' ∧ Blk w' w.heap.size 28 #[.int .i64 k, .int .i64 a, .int .i64 q, .int .i64 s, .int .u64 d, .int .i64 f] ∧ Blk w' (w.heap.size + 1) 28 #[.int .i64 k, .int .i64 (a + q), .int .i64 qq, .int .i64 s, .int .u64 d, .int .i64 ff] ∧ Blk w' (w.heap.size + 2) 28 #[.int .i64 0, .int .i64 0, .int .i64 0, .int .i64 0, .int .u64 0, .int .i64 0]) [] 25 49 (by kernel_rfl) (by kernel_rfl) rfl ?_ float_none ?_ ?_
  · exact fun w1 w2 ⟨h0, h1, h2, h3⟩ hg => ⟨below_grows h0 (Nat.le_refl _) hg, h1.grows hg, h2.grows hg, h3.grows hg⟩
  · exact ⟨hB.drew, k1.drew, k2.drew, k3.drew⟩
  simp only [List.take_succ_cons, List.take_zero, List.drop_succ_cons, List.drop_zero]
  iterate 23
    first
      | (refine calm_no rfl rfl (a' := ?_) ?_ ?_
         rotate_left 1
         · simp only [Act.put, List.setIfInBounds_toArray, List.set_cons_succ, List.set_cons_zero]
           rfl)
      | (first | refine calm_plain rfl rfl (v := ?_) (a' := ?_) (fun w1 hw1 => ?_) ?_ ?_ | refine calm_yes rfl rfl (v := ?_) (a' := ?_) (fun w1 hw1 => ?_) ?_ ?_
         rotate_left 2
         · obtain ⟨h0, h1, h2, h3⟩ := hw1
           have c1 := h1.cell
           have c2 := h2.cell
           go_simp
           first | exact calm_val | (refine calm_call ?_; with_reducible exact v1 _) | (refine calm_call ?_; with_reducible exact v2 _) | (refine calm_call ?_; with_reducible exact of_any _ _ _ _ _ _ _)
         · simp only [Act.put, List.setIfInBounds_toArray, List.set_cons_succ, List.set_cons_zero]
           rfl)
  refine calm_yes rfl rfl (v := .bool false) (a' := ?_) (fun w1 hw1 => ?_) ?_ ?_
  rotate_left 1
  · obtain ⟨h0, h1, h2, h3⟩ := hw1
    have c1 := h1.cell
    have c2 := h2.cell
    go_simp
    exact calm_val
  · simp only [Act.put, List.setIfInBounds_toArray, List.set_cons_succ, List.set_cons_zero]
    rfl
  iterate 1
    first
      | (refine calm_no rfl rfl (a' := ?_) ?_ ?_
         rotate_left 1
         · simp only [Act.put, List.setIfInBounds_toArray, List.set_cons_succ, List.set_cons_zero]
           rfl)
      | (first | refine calm_plain rfl rfl (v := ?_) (a' := ?_) (fun w1 hw1 => ?_) ?_ ?_ | refine calm_yes rfl rfl (v := ?_) (a' := ?_) (fun w1 hw1 => ?_) ?_ ?_
         rotate_left 2
         · obtain ⟨h0, h1, h2, h3⟩ := hw1
           have c1 := h1.cell
           have c2 := h2.cell
           go_simp
           first | exact calm_val | (refine calm_call ?_; with_reducible exact v1 _) | (refine calm_call ?_; with_reducible exact v2 _) | (refine calm_call ?_; with_reducible exact of_any _ _ _ _ _ _ _)
         · simp only [Act.put, List.setIfInBounds_toArray, List.set_cons_succ, List.set_cons_zero]
           rfl)
  refine calm_done (end_none ?_)
  rintro w7 ⟨hB7, k7, k8, k9⟩
  have x7 := k7.cell
  have y7 := k7.frozen
  have x8 := k8.cell
  go_wp2_with fail
  clear x7 y7 x8
  replace k7 := (k7.set_ 2 (.int .i64 (q + qq))).set_ 5 (.int .i64 (f + ff))
  replace k9 := (k9.far (p := ⟨w.heap.size, 2, none⟩) (by simp) (.int .i64 (q + qq))).far (p := ⟨w.heap.size, 5, none⟩) (by simp) (.int .i64 (f + ff))
  replace hB7 := (hB7.setCell (p := ⟨w.heap.size, 2, none⟩) (Nat.le_refl _) (.int .i64 (q + qq))).setCell (p := ⟨w.heap.size, 5, none⟩) (Nat.le_refl _) (.int .i64 (f + ff))
  generalize World.setCell (World.setCell w7 _ _) _ _ = w8 at *
  refine (v3 _).mono ?_
  rintro e w9 ⟨rfl, hq⟩
  replace k7 := k7.grows hq
  replace k9 := k9.grows hq
  replace hB7 := below_grows hB7 (Nat.le_refl _) hq
  clear hq
  have x9 := k9.cell
  have y9 := k9.frozen
  go_wp2
  refine bodyPost_ret (v := .tuple #[.agg #[.int .i64 0, .int .i64 0, .int .i64 0, .int .i64 0, .int .u64 0, .int .i64 0], .bool false]) (by simp [results, Try.results13, go_sem, x9]) rfl ⟨rfl, ?_⟩
  iterate 6 refine Below.setCell ?_ (by simp; omega) _
  exact hB7
set_option maxHeartbeats 8000000 in
theorem join_yes (k a q s d f qq ff : Int) (w : World) (h1 : okG ⟨k, a, q, s, d, f⟩ = true) (h2 : okG ⟨k, a + q, qq, s, d, ff⟩ = true) (h3 : okG ⟨k, a, q + qq, s, d, f + ff⟩ = true) : Calls Try.prog 13 #[.agg #[.int .i64 k, .int .i64 a, .int .i64 q, .int .i64 s, .int .u64 d, .int .i64 f], .agg #[.int .i64 k, .int .i64 (a + q), .int .i64 qq, .int .i64 s, .int .u64 d, .int .i64 ff]] w fun e w' => e = .returned (joinV (some ⟨k, a, q + qq, s, d, f + ff⟩)) ∧ Grows w w' := by
  have v1 : ∀ w1, Calls Try.prog 12 #[.agg #[.int .i64 k, .int .i64 a, .int .i64 q, .int .i64 s, .int .u64 d, .int .i64 f]] w1 fun e w' => e = .returned (.bool true) ∧ Grows w1 w' := fun w1 => by
    have := gvalid_any k a q s d f w1
    rw [h1] at this
    exact this
  have v2 : ∀ w1, Calls Try.prog 12 #[.agg #[.int .i64 k, .int .i64 (a + q), .int .i64 qq, .int .i64 s, .int .u64 d, .int .i64 ff]] w1 fun e w' => e = .returned (.bool true) ∧ Grows w1 w' := fun w1 => by
    have := gvalid_any k (a + q) qq s d ff w1
    rw [h2] at this
    exact this
  have v3 : ∀ w1, Calls Try.prog 12 #[.agg #[.int .i64 k, .int .i64 a, .int .i64 (q + qq), .int .i64 s, .int .u64 d, .int .i64 (f + ff)]] w1 fun e w' => e = .returned (.bool true) ∧ Grows w1 w' := fun w1 => by
    have := gvalid_any k a (q + qq) s d (f + ff) w1
    rw [h3] at this
    exact this
  have b1 := okG_bd h1
  have b2 := okG_bd h2
  clear h1 h2
  clear h3
  have e1 : IntKind.i64.wrap (a + q) = a + q := IntWalk.i64_in _ (by omega)
  go_enter Try.func13, Try.ntmps13
  go_upto_region 1 with fail
  have k1 := ((Blk.new w 28 #[.int .i64 k, .int .i64 a, .int .i64 q, .int .i64 s, .int .u64 d, .int .i64 f]).alloc (Obj.cells #[.int .i64 k, .int .i64 (a + q), .int .i64 qq, .int .i64 s, .int .u64 d, .int .i64 ff] 28)).alloc (Obj.cells #[.int .i64 0, .int .i64 0, .int .i64 0, .int .i64 0, .int .u64 0, .int .i64 0] 28)
  have k2 := (blk_new_at (X := w.alloc (Obj.cells #[.int .i64 k, .int .i64 a, .int .i64 q, .int .i64 s, .int .u64 d, .int .i64 f] 28)) (n := w.heap.size + 1) (t := 28) (cs := #[.int .i64 k, .int .i64 (a + q), .int .i64 qq, .int .i64 s, .int .u64 d, .int .i64 ff]) (by simp)).alloc (Obj.cells #[.int .i64 0, .int .i64 0, .int .i64 0, .int .i64 0, .int .u64 0, .int .i64 0] 28)
  have k3 := blk_new_at (X := (w.alloc (Obj.cells #[.int .i64 k, .int .i64 a, .int .i64 q, .int .i64 s, .int .u64 d, .int .i64 f] 28)).alloc (Obj.cells #[.int .i64 k, .int .i64 (a + q), .int .i64 qq, .int .i64 s, .int .u64 d, .int .i64 ff] 28)) (n := w.heap.size + 2) (t := 28) (cs := #[.int .i64 0, .int .i64 0, .int .i64 0, .int .i64 0, .int .u64 0, .int .i64 0]) (by simp)
  have hB := (((Below.refl w.heap.size w).alloc (Nat.le_refl _) (Obj.cells #[.int .i64 k, .int .i64 a, .int .i64 q, .int .i64 s, .int .u64 d, .int .i64 f] 28)).alloc (by simp) (Obj.cells #[.int .i64 k, .int .i64 (a + q), .int .i64 qq, .int .i64 s, .int .u64 d, .int .i64 ff] 28)).alloc (by simp; omega) (Obj.cells #[.int .i64 0, .int .i64 0, .int .i64 0, .int .i64 0, .int .u64 0, .int .i64 0] 28)
  generalize World.alloc (World.alloc (World.alloc w _) _) _ = w1 at *
  refine wp_region_mix (fun w' => Below w.heap.size w w' ∧ Blk w' w.heap.size 28 #[.int .i64 k, .int .i64 a, .int .i64 q, .int .i64 s, .int .u64 d, .int .i64 f] ∧ Blk w' (w.heap.size + 1) 28 #[.int .i64 k, .int .i64 (a + q), .int .i64 qq, .int .i64 s, .int .u64 d, .int .i64 ff] ∧ Blk w' (w.heap.size + 2) 28 #[.int .i64 0, .int .i64 0, .int .i64 0, .int .i64 0, .int .u64 0, .int .i64 0]) [] 25 49 (by kernel_rfl) (by kernel_rfl) rfl ?_ float_none ?_ ?_
  · exact fun w1 w2 ⟨h0, h1, h2, h3⟩ hg => ⟨below_grows h0 (Nat.le_refl _) hg, h1.grows hg, h2.grows hg, h3.grows hg⟩
  · exact ⟨hB.drew, k1.drew, k2.drew, k3.drew⟩
  simp only [List.take_succ_cons, List.take_zero, List.drop_succ_cons, List.drop_zero]
  iterate 23
    first
      | (refine calm_no rfl rfl (a' := ?_) ?_ ?_
         rotate_left 1
         · simp only [Act.put, List.setIfInBounds_toArray, List.set_cons_succ, List.set_cons_zero]
           rfl)
      | (first | refine calm_plain rfl rfl (v := ?_) (a' := ?_) (fun w1 hw1 => ?_) ?_ ?_ | refine calm_yes rfl rfl (v := ?_) (a' := ?_) (fun w1 hw1 => ?_) ?_ ?_
         rotate_left 2
         · obtain ⟨h0, h1, h2, h3⟩ := hw1
           have c1 := h1.cell
           have c2 := h2.cell
           go_simp
           first | exact calm_val | (refine calm_call ?_; with_reducible exact v1 _) | (refine calm_call ?_; with_reducible exact v2 _) | (refine calm_call ?_; with_reducible exact of_any _ _ _ _ _ _ _)
         · simp only [Act.put, List.setIfInBounds_toArray, List.set_cons_succ, List.set_cons_zero]
           rfl)
  refine calm_yes rfl rfl (v := .bool false) (a' := ?_) (fun w1 hw1 => ?_) ?_ ?_
  rotate_left 1
  · obtain ⟨h0, h1, h2, h3⟩ := hw1
    have c1 := h1.cell
    have c2 := h2.cell
    go_simp
    exact calm_val
  · simp only [Act.put, List.setIfInBounds_toArray, List.set_cons_succ, List.set_cons_zero]
    rfl
  iterate 1
    first
      | (refine calm_no rfl rfl (a' := ?_) ?_ ?_
         rotate_left 1
         · simp only [Act.put, List.setIfInBounds_toArray, List.set_cons_succ, List.set_cons_zero]
           rfl)
      | (first | refine calm_plain rfl rfl (v := ?_) (a' := ?_) (fun w1 hw1 => ?_) ?_ ?_ | refine calm_yes rfl rfl (v := ?_) (a' := ?_) (fun w1 hw1 => ?_) ?_ ?_
         rotate_left 2
         · obtain ⟨h0, h1, h2, h3⟩ := hw1
           have c1 := h1.cell
           have c2 := h2.cell
           go_simp
           first | exact calm_val | (refine calm_call ?_; with_reducible exact v1 _) | (refine calm_call ?_; with_reducible exact v2 _) | (refine calm_call ?_; with_reducible exact of_any _ _ _ _ _ _ _)
         · simp only [Act.put, List.setIfInBounds_toArray, List.set_cons_succ, List.set_cons_zero]
           rfl)
  refine calm_done (end_none ?_)
  rintro w7 ⟨hB7, k7, k8, k9⟩
  have x7 := k7.cell
  have y7 := k7.frozen
  have x8 := k8.cell
  go_wp2_with fail
  clear x7 y7 x8
  replace k7 := (k7.set_ 2 (.int .i64 (q + qq))).set_ 5 (.int .i64 (f + ff))
  replace k9 := (k9.far (p := ⟨w.heap.size, 2, none⟩) (by simp) (.int .i64 (q + qq))).far (p := ⟨w.heap.size, 5, none⟩) (by simp) (.int .i64 (f + ff))
  replace hB7 := (hB7.setCell (p := ⟨w.heap.size, 2, none⟩) (Nat.le_refl _) (.int .i64 (q + qq))).setCell (p := ⟨w.heap.size, 5, none⟩) (Nat.le_refl _) (.int .i64 (f + ff))
  generalize World.setCell (World.setCell w7 _ _) _ _ = w8 at *
  refine (v3 _).mono ?_
  rintro e w9 ⟨rfl, hq⟩
  replace k7 := k7.grows hq
  replace k9 := k9.grows hq
  replace hB7 := below_grows hB7 (Nat.le_refl _) hq
  clear hq
  have x7 := k7.cell
  have x9 := k9.cell
  have y9 := k9.frozen
  go_wp2
  refine bodyPost_ret (v := .tuple #[.agg #[.int .i64 k, .int .i64 a, .int .i64 (q + qq), .int .i64 s, .int .u64 d, .int .i64 (f + ff)], .bool true]) (by simp [results, Try.results13, go_sem, x9]) rfl ⟨rfl, ?_⟩
  iterate 6 refine Below.setCell ?_ (by simp; omega) _
  exact hB7
set_option maxHeartbeats 8000000 in
theorem rjoin_no1 (k a q s d f kk aa qq ss dd ff : Int) (w : World) (h1 : okG ⟨k, a, q, s, d, f⟩ = false) : Calls Try.prog 14 #[.agg #[.int .i64 k, .int .i64 a, .int .i64 q, .int .i64 s, .int .u64 d, .int .i64 f], .agg #[.int .i64 kk, .int .i64 aa, .int .i64 qq, .int .i64 ss, .int .u64 dd, .int .i64 ff]] w fun e w' => e = .returned (joinV none) ∧ Grows w w' := by
  have v1 : ∀ w1, Calls Try.prog 8 #[.agg #[.int .i64 k, .int .i64 a, .int .i64 q, .int .i64 s, .int .u64 d, .int .i64 f]] w1 fun e w' => e = .returned (.bool false) ∧ Grows w1 w' := fun w1 => by
    have := grvalid_any k a q s d f w1
    rw [h1] at this
    exact this
  clear h1
  go_enter Try.func14, Try.ntmps14
  go_upto_region 1 with fail
  have k1 := ((Blk.new w 28 #[.int .i64 k, .int .i64 a, .int .i64 q, .int .i64 s, .int .u64 d, .int .i64 f]).alloc (Obj.cells #[.int .i64 kk, .int .i64 aa, .int .i64 qq, .int .i64 ss, .int .u64 dd, .int .i64 ff] 28)).alloc (Obj.cells #[.int .i64 0, .int .i64 0, .int .i64 0, .int .i64 0, .int .u64 0, .int .i64 0] 28)
  have k2 := (blk_new_at (X := w.alloc (Obj.cells #[.int .i64 k, .int .i64 a, .int .i64 q, .int .i64 s, .int .u64 d, .int .i64 f] 28)) (n := w.heap.size + 1) (t := 28) (cs := #[.int .i64 kk, .int .i64 aa, .int .i64 qq, .int .i64 ss, .int .u64 dd, .int .i64 ff]) (by simp)).alloc (Obj.cells #[.int .i64 0, .int .i64 0, .int .i64 0, .int .i64 0, .int .u64 0, .int .i64 0] 28)
  have k3 := blk_new_at (X := (w.alloc (Obj.cells #[.int .i64 k, .int .i64 a, .int .i64 q, .int .i64 s, .int .u64 d, .int .i64 f] 28)).alloc (Obj.cells #[.int .i64 kk, .int .i64 aa, .int .i64 qq, .int .i64 ss, .int .u64 dd, .int .i64 ff] 28)) (n := w.heap.size + 2) (t := 28) (cs := #[.int .i64 0, .int .i64 0, .int .i64 0, .int .i64 0, .int .u64 0, .int .i64 0]) (by simp)
  have hB := (((Below.refl w.heap.size w).alloc (Nat.le_refl _) (Obj.cells #[.int .i64 k, .int .i64 a, .int .i64 q, .int .i64 s, .int .u64 d, .int .i64 f] 28)).alloc (by simp) (Obj.cells #[.int .i64 kk, .int .i64 aa, .int .i64 qq, .int .i64 ss, .int .u64 dd, .int .i64 ff] 28)).alloc (by simp; omega) (Obj.cells #[.int .i64 0, .int .i64 0, .int .i64 0, .int .i64 0, .int .u64 0, .int .i64 0] 28)
  generalize World.alloc (World.alloc (World.alloc w _) _) _ = w1 at *
  have x1 := k1.cell
  have x2 := k2.cell
  go_wp2_with fail
  clear x1 x2
  refine (v1 _).mono ?_
  rintro e w2 ⟨rfl, hq⟩
  replace k1 := k1.grows hq
  replace k2 := k2.grows hq
  replace k3 := k3.grows hq
  replace hB := below_grows hB (Nat.le_refl _) hq
  clear hq
  generalize w2 = w1 at *
  have x1 := k1.cell
  have x2 := k2.cell
  have x9 := k3.cell
  have y9 := k3.frozen
  go_wp2
  refine bodyPost_ret (v := .tuple #[.agg #[.int .i64 0, .int .i64 0, .int .i64 0, .int .i64 0, .int .u64 0, .int .i64 0], .bool false]) (by simp [results, Try.results14, go_sem, x9]) rfl ⟨rfl, ?_⟩
  iterate 6 refine Below.setCell ?_ (by simp; omega) _
  exact hB
set_option maxHeartbeats 8000000 in
theorem rjoin_no2 (k a q s d f kk aa qq ss dd ff : Int) (w : World) (h1 : okG ⟨k, a, q, s, d, f⟩ = true) (h2 : okG ⟨kk, aa, qq, ss, dd, ff⟩ = false) : Calls Try.prog 14 #[.agg #[.int .i64 k, .int .i64 a, .int .i64 q, .int .i64 s, .int .u64 d, .int .i64 f], .agg #[.int .i64 kk, .int .i64 aa, .int .i64 qq, .int .i64 ss, .int .u64 dd, .int .i64 ff]] w fun e w' => e = .returned (joinV none) ∧ Grows w w' := by
  have v1 : ∀ w1, Calls Try.prog 8 #[.agg #[.int .i64 k, .int .i64 a, .int .i64 q, .int .i64 s, .int .u64 d, .int .i64 f]] w1 fun e w' => e = .returned (.bool true) ∧ Grows w1 w' := fun w1 => by
    have := grvalid_any k a q s d f w1
    rw [h1] at this
    exact this
  have v2 : ∀ w1, Calls Try.prog 8 #[.agg #[.int .i64 kk, .int .i64 aa, .int .i64 qq, .int .i64 ss, .int .u64 dd, .int .i64 ff]] w1 fun e w' => e = .returned (.bool false) ∧ Grows w1 w' := fun w1 => by
    have := grvalid_any kk aa qq ss dd ff w1
    rw [h2] at this
    exact this
  clear h1 h2
  go_enter Try.func14, Try.ntmps14
  go_upto_region 1 with fail
  have k1 := ((Blk.new w 28 #[.int .i64 k, .int .i64 a, .int .i64 q, .int .i64 s, .int .u64 d, .int .i64 f]).alloc (Obj.cells #[.int .i64 kk, .int .i64 aa, .int .i64 qq, .int .i64 ss, .int .u64 dd, .int .i64 ff] 28)).alloc (Obj.cells #[.int .i64 0, .int .i64 0, .int .i64 0, .int .i64 0, .int .u64 0, .int .i64 0] 28)
  have k2 := (blk_new_at (X := w.alloc (Obj.cells #[.int .i64 k, .int .i64 a, .int .i64 q, .int .i64 s, .int .u64 d, .int .i64 f] 28)) (n := w.heap.size + 1) (t := 28) (cs := #[.int .i64 kk, .int .i64 aa, .int .i64 qq, .int .i64 ss, .int .u64 dd, .int .i64 ff]) (by simp)).alloc (Obj.cells #[.int .i64 0, .int .i64 0, .int .i64 0, .int .i64 0, .int .u64 0, .int .i64 0] 28)
  have k3 := blk_new_at (X := (w.alloc (Obj.cells #[.int .i64 k, .int .i64 a, .int .i64 q, .int .i64 s, .int .u64 d, .int .i64 f] 28)).alloc (Obj.cells #[.int .i64 kk, .int .i64 aa, .int .i64 qq, .int .i64 ss, .int .u64 dd, .int .i64 ff] 28)) (n := w.heap.size + 2) (t := 28) (cs := #[.int .i64 0, .int .i64 0, .int .i64 0, .int .i64 0, .int .u64 0, .int .i64 0]) (by simp)
  have hB := (((Below.refl w.heap.size w).alloc (Nat.le_refl _) (Obj.cells #[.int .i64 k, .int .i64 a, .int .i64 q, .int .i64 s, .int .u64 d, .int .i64 f] 28)).alloc (by simp) (Obj.cells #[.int .i64 kk, .int .i64 aa, .int .i64 qq, .int .i64 ss, .int .u64 dd, .int .i64 ff] 28)).alloc (by simp; omega) (Obj.cells #[.int .i64 0, .int .i64 0, .int .i64 0, .int .i64 0, .int .u64 0, .int .i64 0] 28)
  generalize World.alloc (World.alloc (World.alloc w _) _) _ = w1 at *
  have x1 := k1.cell
  have x2 := k2.cell
  go_wp2_with fail
  clear x1 x2
  refine (v1 _).mono ?_
  rintro e w2 ⟨rfl, hq⟩
  replace k1 := k1.grows hq
  replace k2 := k2.grows hq
  replace k3 := k3.grows hq
  replace hB := below_grows hB (Nat.le_refl _) hq
  clear hq
  generalize w2 = w1 at *
  have x1 := k1.cell
  have x2 := k2.cell
  go_wp2_with fail
  clear x1 x2
  refine (v2 _).mono ?_
  rintro e w2 ⟨rfl, hq⟩
  replace k1 := k1.grows hq
  replace k2 := k2.grows hq
  replace k3 := k3.grows hq
  replace hB := below_grows hB (Nat.le_refl _) hq
  clear hq
  generalize w2 = w1 at *
  have x1 := k1.cell
  have x2 := k2.cell
  have x9 := k3.cell
  have y9 := k3.frozen
  go_wp2
  refine bodyPost_ret (v := .tuple #[.agg #[.int .i64 0, .int .i64 0, .int .i64 0, .int .i64 0, .int .u64 0, .int .i64 0], .bool false]) (by simp [results, Try.results14, go_sem, x9]) rfl ⟨rfl, ?_⟩
  iterate 6 refine Below.setCell ?_ (by simp; omega) _
  exact hB
set_option maxHeartbeats 8000000 in
theorem rjoin_no3 (k a q s d f kk aa qq ss dd ff : Int) (w : World) (h1 : okG ⟨k, a, q, s, d, f⟩ = true) (h2 : okG ⟨kk, aa, qq, ss, dd, ff⟩ = true) (h3 : kinG ⟨k, a, q, s, d, f⟩ ⟨kk, aa, qq, ss, dd, ff⟩ = false) : Calls Try.prog 14 #[.agg #[.int .i64 k, .int .i64 a, .int .i64 q, .int .i64 s, .int .u64 d, .int .i64 f], .agg #[.int .i64 kk, .int .i64 aa, .int .i64 qq, .int .i64 ss, .int .u64 dd, .int .i64 ff]] w fun e w' => e = .returned (joinV none) ∧ Grows w w' := by
  have v1 : ∀ w1, Calls Try.prog 8 #[.agg #[.int .i64 k, .int .i64 a, .int .i64 q, .int .i64 s, .int .u64 d, .int .i64 f]] w1 fun e w' => e = .returned (.bool true) ∧ Grows w1 w' := fun w1 => by
    have := grvalid_any k a q s d f w1
    rw [h1] at this
    exact this
  have v2 : ∀ w1, Calls Try.prog 8 #[.agg #[.int .i64 kk, .int .i64 aa, .int .i64 qq, .int .i64 ss, .int .u64 dd, .int .i64 ff]] w1 fun e w' => e = .returned (.bool true) ∧ Grows w1 w' := fun w1 => by
    have := grvalid_any kk aa qq ss dd ff w1
    rw [h2] at this
    exact this
  have v3 : ∀ w1, Calls Try.prog 26 #[.agg #[.int .i64 k, .int .i64 a, .int .i64 q, .int .i64 s, .int .u64 d, .int .i64 f], .agg #[.int .i64 kk, .int .i64 aa, .int .i64 qq, .int .i64 ss, .int .u64 dd, .int .i64 ff]] w1 fun e w' => e = .returned (.bool false) ∧ Grows w1 w' := fun w1 => by
    have := kin_any k a q s d f kk aa qq ss dd ff w1
    rw [h3] at this
    exact this
  clear h1 h2 h3
  go_enter Try.func14, Try.ntmps14
  go_upto_region 1 with fail
  have k1 := ((Blk.new w 28 #[.int .i64 k, .int .i64 a, .int .i64 q, .int .i64 s, .int .u64 d, .int .i64 f]).alloc (Obj.cells #[.int .i64 kk, .int .i64 aa, .int .i64 qq, .int .i64 ss, .int .u64 dd, .int .i64 ff] 28)).alloc (Obj.cells #[.int .i64 0, .int .i64 0, .int .i64 0, .int .i64 0, .int .u64 0, .int .i64 0] 28)
  have k2 := (blk_new_at (X := w.alloc (Obj.cells #[.int .i64 k, .int .i64 a, .int .i64 q, .int .i64 s, .int .u64 d, .int .i64 f] 28)) (n := w.heap.size + 1) (t := 28) (cs := #[.int .i64 kk, .int .i64 aa, .int .i64 qq, .int .i64 ss, .int .u64 dd, .int .i64 ff]) (by simp)).alloc (Obj.cells #[.int .i64 0, .int .i64 0, .int .i64 0, .int .i64 0, .int .u64 0, .int .i64 0] 28)
  have k3 := blk_new_at (X := (w.alloc (Obj.cells #[.int .i64 k, .int .i64 a, .int .i64 q, .int .i64 s, .int .u64 d, .int .i64 f] 28)).alloc (Obj.cells #[.int .i64 kk, .int .i64 aa, .int .i64 qq, .int .i64 ss, .int .u64 dd, .int .i64 ff] 28)) (n := w.heap.size + 2) (t := 28) (cs := #[.int .i64 0, .int .i64 0, .int .i64 0, .int .i64 0, .int .u64 0, .int .i64 0]) (by simp)
  have hB := (((Below.refl w.heap.size w).alloc (Nat.le_refl _) (Obj.cells #[.int .i64 k, .int .i64 a, .int .i64 q, .int .i64 s, .int .u64 d, .int .i64 f] 28)).alloc (by simp) (Obj.cells #[.int .i64 kk, .int .i64 aa, .int .i64 qq, .int .i64 ss, .int .u64 dd, .int .i64 ff] 28)).alloc (by simp; omega) (Obj.cells #[.int .i64 0, .int .i64 0, .int .i64 0, .int .i64 0, .int .u64 0, .int .i64 0] 28)
  generalize World.alloc (World.alloc (World.alloc w _) _) _ = w1 at *
  have x1 := k1.cell
  have x2 := k2.cell
  go_wp2_with fail
  clear x1 x2
  refine (v1 _).mono ?_
  rintro e w2 ⟨rfl, hq⟩
  replace k1 := k1.grows hq
  replace k2 := k2.grows hq
  replace k3 := k3.grows hq
  replace hB := below_grows hB (Nat.le_refl _) hq
  clear hq
  generalize w2 = w1 at *
  have x1 := k1.cell
  have x2 := k2.cell
  go_wp2_with fail
  clear x1 x2
  refine (v2 _).mono ?_
  rintro e w2 ⟨rfl, hq⟩
  replace k1 := k1.grows hq
  replace k2 := k2.grows hq
  replace k3 := k3.grows hq
  replace hB := below_grows hB (Nat.le_refl _) hq
  clear hq
  generalize w2 = w1 at *
  have x1 := k1.cell
  have x2 := k2.cell
  go_wp2_with fail
  clear x1 x2
  refine (v3 _).mono ?_
  rintro e w2 ⟨rfl, hq⟩
  replace k1 := k1.grows hq
  replace k2 := k2.grows hq
  replace k3 := k3.grows hq
  replace hB := below_grows hB (Nat.le_refl _) hq
  clear hq
  generalize w2 = w1 at *
  have x1 := k1.cell
  have x2 := k2.cell
  have x9 := k3.cell
  have y9 := k3.frozen
  go_wp2
  refine bodyPost_ret (v := .tuple #[.agg #[.int .i64 0, .int .i64 0, .int .i64 0, .int .i64 0, .int .u64 0, .int .i64 0], .bool false]) (by simp [results, Try.results14, go_sem, x9]) rfl ⟨rfl, ?_⟩
  iterate 6 refine Below.setCell ?_ (by simp; omega) _
  exact hB
set_option maxHeartbeats 8000000 in
theorem rjoin_no4 (k a q s d f kk aa qq ss dd ff : Int) (w : World) (h1 : okG ⟨k, a, q, s, d, f⟩ = true) (h2 : okG ⟨kk, aa, qq, ss, dd, ff⟩ = true) (h3 : kinG ⟨k, a, q, s, d, f⟩ ⟨kk, aa, qq, ss, dd, ff⟩ = true) (h4 : aa = a + q → q + qq ≤ 4096 → 1099511627776 < f + ff) : Calls Try.prog 14 #[.agg #[.int .i64 k, .int .i64 a, .int .i64 q, .int .i64 s, .int .u64 d, .int .i64 f], .agg #[.int .i64 kk, .int .i64 aa, .int .i64 qq, .int .i64 ss, .int .u64 dd, .int .i64 ff]] w fun e w' => e = .returned (joinV none) ∧ Grows w w' := by
  have v1 : ∀ w1, Calls Try.prog 8 #[.agg #[.int .i64 k, .int .i64 a, .int .i64 q, .int .i64 s, .int .u64 d, .int .i64 f]] w1 fun e w' => e = .returned (.bool true) ∧ Grows w1 w' := fun w1 => by
    have := grvalid_any k a q s d f w1
    rw [h1] at this
    exact this
  have v2 : ∀ w1, Calls Try.prog 8 #[.agg #[.int .i64 kk, .int .i64 aa, .int .i64 qq, .int .i64 ss, .int .u64 dd, .int .i64 ff]] w1 fun e w' => e = .returned (.bool true) ∧ Grows w1 w' := fun w1 => by
    have := grvalid_any kk aa qq ss dd ff w1
    rw [h2] at this
    exact this
  have v3 : ∀ w1, Calls Try.prog 26 #[.agg #[.int .i64 k, .int .i64 a, .int .i64 q, .int .i64 s, .int .u64 d, .int .i64 f], .agg #[.int .i64 kk, .int .i64 aa, .int .i64 qq, .int .i64 ss, .int .u64 dd, .int .i64 ff]] w1 fun e w' => e = .returned (.bool true) ∧ Grows w1 w' := fun w1 => by
    have := kin_any k a q s d f kk aa qq ss dd ff w1
    rw [h3] at this
    exact this
  have b1 := okG_bd h1
  have b2 := okG_bd h2
  clear h1 h2 h3
  go_enter Try.func14, Try.ntmps14
  go_upto_region 1 with fail
  have k1 := ((Blk.new w 28 #[.int .i64 k, .int .i64 a, .int .i64 q, .int .i64 s, .int .u64 d, .int .i64 f]).alloc (Obj.cells #[.int .i64 kk, .int .i64 aa, .int .i64 qq, .int .i64 ss, .int .u64 dd, .int .i64 ff] 28)).alloc (Obj.cells #[.int .i64 0, .int .i64 0, .int .i64 0, .int .i64 0, .int .u64 0, .int .i64 0] 28)
  have k2 := (blk_new_at (X := w.alloc (Obj.cells #[.int .i64 k, .int .i64 a, .int .i64 q, .int .i64 s, .int .u64 d, .int .i64 f] 28)) (n := w.heap.size + 1) (t := 28) (cs := #[.int .i64 kk, .int .i64 aa, .int .i64 qq, .int .i64 ss, .int .u64 dd, .int .i64 ff]) (by simp)).alloc (Obj.cells #[.int .i64 0, .int .i64 0, .int .i64 0, .int .i64 0, .int .u64 0, .int .i64 0] 28)
  have k3 := blk_new_at (X := (w.alloc (Obj.cells #[.int .i64 k, .int .i64 a, .int .i64 q, .int .i64 s, .int .u64 d, .int .i64 f] 28)).alloc (Obj.cells #[.int .i64 kk, .int .i64 aa, .int .i64 qq, .int .i64 ss, .int .u64 dd, .int .i64 ff] 28)) (n := w.heap.size + 2) (t := 28) (cs := #[.int .i64 0, .int .i64 0, .int .i64 0, .int .i64 0, .int .u64 0, .int .i64 0]) (by simp)
  have hB := (((Below.refl w.heap.size w).alloc (Nat.le_refl _) (Obj.cells #[.int .i64 k, .int .i64 a, .int .i64 q, .int .i64 s, .int .u64 d, .int .i64 f] 28)).alloc (by simp) (Obj.cells #[.int .i64 kk, .int .i64 aa, .int .i64 qq, .int .i64 ss, .int .u64 dd, .int .i64 ff] 28)).alloc (by simp; omega) (Obj.cells #[.int .i64 0, .int .i64 0, .int .i64 0, .int .i64 0, .int .u64 0, .int .i64 0] 28)
  generalize World.alloc (World.alloc (World.alloc w _) _) _ = w1 at *
  have x1 := k1.cell
  have x2 := k2.cell
  go_wp2_with fail
  clear x1 x2
  refine (v1 _).mono ?_
  rintro e w2 ⟨rfl, hq⟩
  replace k1 := k1.grows hq
  replace k2 := k2.grows hq
  replace k3 := k3.grows hq
  replace hB := below_grows hB (Nat.le_refl _) hq
  clear hq
  generalize w2 = w1 at *
  have x1 := k1.cell
  have x2 := k2.cell
  go_wp2_with fail
  clear x1 x2
  refine (v2 _).mono ?_
  rintro e w2 ⟨rfl, hq⟩
  replace k1 := k1.grows hq
  replace k2 := k2.grows hq
  replace k3 := k3.grows hq
  replace hB := below_grows hB (Nat.le_refl _) hq
  clear hq
  generalize w2 = w1 at *
  have x1 := k1.cell
  have x2 := k2.cell
  go_wp2_with fail
  clear x1 x2
  refine (v3 _).mono ?_
  rintro e w2 ⟨rfl, hq⟩
  replace k1 := k1.grows hq
  replace k2 := k2.grows hq
  replace k3 := k3.grows hq
  replace hB := below_grows hB (Nat.le_refl _) hq
  clear hq
  generalize w2 = w1 at *
  have x1 := k1.cell
  have x2 := k2.cell
  have x3 := k3.cell
  have y3 := k3.frozen
  go_wp2
  all_goals first
    | (exfalso; omega)
    | (refine bodyPost_ret (v := .tuple #[.agg #[.int .i64 0, .int .i64 0, .int .i64 0, .int .i64 0, .int .u64 0, .int .i64 0], .bool false]) (by simp [results, Try.results14, go_sem, x3]) rfl ⟨rfl, ?_⟩
       iterate 6 refine Below.setCell ?_ (by simp; omega) _
       exact hB)
end Go.Proofs.Ytbmoiokpkcaccaa
