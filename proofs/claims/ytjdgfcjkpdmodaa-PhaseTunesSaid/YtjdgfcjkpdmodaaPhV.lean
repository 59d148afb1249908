/-
  Valid of layer 14, the program.
-/
import Derived.Test.YtjdgfcjkpdmodaaPhA
import Derived.Test.YtjdgfcjkpdmodaaMix
namespace Go.Proofs.Ytjdgfcjkpdmodaa
open Go.RowKit

set_option maxHeartbeats 8000000 in
theorem valid_0 (n d a p f : Int) (w : World) (h0 : okR n d = false) : Calls Try.prog 17 #[.agg #[.int .i64 n, .int .i64 d, .int .i64 a, .int .i64 p, .int .i64 f]] w fun e w' => e = .returned (.bool false) ∧ Grows w w' := by
  have hB := (Below.refl w.heap.size w).alloc (Nat.le_refl _) (Obj.cells #[.int .i64 n, .int .i64 d, .int .i64 a, .int .i64 p, .int .i64 f] 27)
  have k1 := Blk.new w 27 #[.int .i64 n, .int .i64 d, .int .i64 a, .int .i64 p, .int .i64 f]
  go_enter Try.func17, Try.ntmps17
  go_wp2
  generalize World.alloc w _ = w1 at *
  refine wp_region_mix (fun w' => Below w.heap.size w w' ∧ Blk w' w.heap.size 27 #[.int .i64 n, .int .i64 d, .int .i64 a, .int .i64 p, .int .i64 f]) [] 43 45 (by kernel_rfl) (by kernel_rfl) rfl ?_ float_none ?_ ?_
  · exact fun w1 w2 ⟨h0, h1⟩ hg => ⟨below_grows h0 (Nat.le_refl _) hg, h1.grows hg⟩
  · exact ⟨hB.drew, k1.drew⟩
  · clear hB k1
    simp only [List.take_succ_cons, List.take_zero, List.drop_succ_cons, List.drop_zero]
    iterate 43
      first
        | (refine calm_no rfl rfl (a' := ?_) ?_ ?_
           rotate_left 1
           · simp only [Act.put, List.setIfInBounds_toArray, List.set_cons_succ, List.set_cons_zero]
             rfl)
        | (first | refine calm_plain rfl rfl (v := ?_) (a' := ?_) (fun w1 hw1 => ?_) ?_ ?_ | refine calm_yes rfl rfl (v := ?_) (a' := ?_) (fun w1 hw1 => ?_) ?_ ?_
           rotate_left 2
           · obtain ⟨_, j1⟩ := hw1
             have c1 := j1.cell
             go_simp
             first | exact calm_val | (refine calm_call ?_; exact ratio_any _ _ _) | (refine calm_quiet ?_; exact tuned_any _ _) | (refine calm_call ?_; refine parts_any _ _ _ _ _ _ ?_ ?_ <;> omega)
           · simp only [Act.put, List.setIfInBounds_toArray, List.set_cons_succ, List.set_cons_zero]
             rfl)
    refine calm_done (end_none ?_)
    rintro w7 ⟨hB, -⟩
    go_wp2
    go_ret
    exact ⟨rfl, hB⟩

set_option maxHeartbeats 8000000 in
theorem valid_1 (n d a p f : Int) (w : World) (h0 : okR n d = true) (h1 : 768000 < n) : Calls Try.prog 17 #[.agg #[.int .i64 n, .int .i64 d, .int .i64 a, .int .i64 p, .int .i64 f]] w fun e w' => e = .returned (.bool false) ∧ Grows w w' := by
  have q1 : decide (n ≤ 768000) = false := by simp; omega
  obtain ⟨g1, g2, -⟩ := okR_bd h0
  have hB := (Below.refl w.heap.size w).alloc (Nat.le_refl _) (Obj.cells #[.int .i64 n, .int .i64 d, .int .i64 a, .int .i64 p, .int .i64 f] 27)
  have k1 := Blk.new w 27 #[.int .i64 n, .int .i64 d, .int .i64 a, .int .i64 p, .int .i64 f]
  go_enter Try.func17, Try.ntmps17
  go_wp2
  generalize World.alloc w _ = w1 at *
  refine wp_region_mix (fun w' => Below w.heap.size w w' ∧ Blk w' w.heap.size 27 #[.int .i64 n, .int .i64 d, .int .i64 a, .int .i64 p, .int .i64 f]) [] 43 45 (by kernel_rfl) (by kernel_rfl) rfl ?_ float_none ?_ ?_
  · exact fun w1 w2 ⟨h0, h1⟩ hg => ⟨below_grows h0 (Nat.le_refl _) hg, h1.grows hg⟩
  · exact ⟨hB.drew, k1.drew⟩
  · clear hB k1
    simp only [List.take_succ_cons, List.take_zero, List.drop_succ_cons, List.drop_zero]
    iterate 43
      first
        | (refine calm_no rfl rfl (a' := ?_) ?_ ?_
           rotate_left 1
           · simp only [Act.put, List.setIfInBounds_toArray, List.set_cons_succ, List.set_cons_zero]
             rfl)
        | (first | refine calm_plain rfl rfl (v := ?_) (a' := ?_) (fun w1 hw1 => ?_) ?_ ?_ | refine calm_yes rfl rfl (v := ?_) (a' := ?_) (fun w1 hw1 => ?_) ?_ ?_
           rotate_left 2
           · obtain ⟨_, j1⟩ := hw1
             have c1 := j1.cell
             go_simp
             first | exact calm_val | (refine calm_call ?_; exact ratio_any _ _ _) | (refine calm_quiet ?_; exact tuned_any _ _) | (refine calm_call ?_; refine parts_any _ _ _ _ _ _ ?_ ?_ <;> omega)
           · simp only [Act.put, List.setIfInBounds_toArray, List.set_cons_succ, List.set_cons_zero]
             rfl)
    refine calm_done (end_none ?_)
    rintro w7 ⟨hB, -⟩
    go_wp2
    go_ret
    exact ⟨rfl, hB⟩

set_option maxHeartbeats 8000000 in
theorem valid_2 (n d a p f : Int) (w : World) (h0 : okR n d = true) (h1 : n ≤ 768000) (h2 : 768000 < d) : Calls Try.prog 17 #[.agg #[.int .i64 n, .int .i64 d, .int .i64 a, .int .i64 p, .int .i64 f]] w fun e w' => e = .returned (.bool false) ∧ Grows w w' := by
  have q1 : decide (n ≤ 768000) = true := by simp; omega
  have q2 : decide (d ≤ 768000) = false := by simp; omega
  obtain ⟨g1, g2, -⟩ := okR_bd h0
  have hB := (Below.refl w.heap.size w).alloc (Nat.le_refl _) (Obj.cells #[.int .i64 n, .int .i64 d, .int .i64 a, .int .i64 p, .int .i64 f] 27)
  have k1 := Blk.new w 27 #[.int .i64 n, .int .i64 d, .int .i64 a, .int .i64 p, .int .i64 f]
  go_enter Try.func17, Try.ntmps17
  go_wp2
  generalize World.alloc w _ = w1 at *
  refine wp_region_mix (fun w' => Below w.heap.size w w' ∧ Blk w' w.heap.size 27 #[.int .i64 n, .int .i64 d, .int .i64 a, .int .i64 p, .int .i64 f]) [] 43 45 (by kernel_rfl) (by kernel_rfl) rfl ?_ float_none ?_ ?_
  · exact fun w1 w2 ⟨h0, h1⟩ hg => ⟨below_grows h0 (Nat.le_refl _) hg, h1.grows hg⟩
  · exact ⟨hB.drew, k1.drew⟩
  · clear hB k1
    simp only [List.take_succ_cons, List.take_zero, List.drop_succ_cons, List.drop_zero]
    iterate 43
      first
        | (refine calm_no rfl rfl (a' := ?_) ?_ ?_
           rotate_left 1
           · simp only [Act.put, List.setIfInBounds_toArray, List.set_cons_succ, List.set_cons_zero]
             rfl)
        | (first | refine calm_plain rfl rfl (v := ?_) (a' := ?_) (fun w1 hw1 => ?_) ?_ ?_ | refine calm_yes rfl rfl (v := ?_) (a' := ?_) (fun w1 hw1 => ?_) ?_ ?_
           rotate_left 2
           · obtain ⟨_, j1⟩ := hw1
             have c1 := j1.cell
             go_simp
             first | exact calm_val | (refine calm_call ?_; exact ratio_any _ _ _) | (refine calm_quiet ?_; exact tuned_any _ _) | (refine calm_call ?_; refine parts_any _ _ _ _ _ _ ?_ ?_ <;> omega)
           · simp only [Act.put, List.setIfInBounds_toArray, List.set_cons_succ, List.set_cons_zero]
             rfl)
    refine calm_done (end_none ?_)
    rintro w7 ⟨hB, -⟩
    go_wp2
    go_ret
    exact ⟨rfl, hB⟩

set_option maxHeartbeats 8000000 in
theorem valid_3 (n d a p f : Int) (w : World) (h0 : okR n d = true) (h1 : n ≤ 768000) (h2 : d ≤ 768000) (h3 : okA a = false) : Calls Try.prog 17 #[.agg #[.int .i64 n, .int .i64 d, .int .i64 a, .int .i64 p, .int .i64 f]] w fun e w' => e = .returned (.bool false) ∧ Grows w w' := by
  have q1 : decide (n ≤ 768000) = true := by simp; omega
  have q2 : decide (d ≤ 768000) = true := by simp; omega
  obtain ⟨g1, g2, -⟩ := okR_bd h0
  have hB := (Below.refl w.heap.size w).alloc (Nat.le_refl _) (Obj.cells #[.int .i64 n, .int .i64 d, .int .i64 a, .int .i64 p, .int .i64 f] 27)
  have k1 := Blk.new w 27 #[.int .i64 n, .int .i64 d, .int .i64 a, .int .i64 p, .int .i64 f]
  go_enter Try.func17, Try.ntmps17
  go_wp2
  generalize World.alloc w _ = w1 at *
  refine wp_region_mix (fun w' => Below w.heap.size w w' ∧ Blk w' w.heap.size 27 #[.int .i64 n, .int .i64 d, .int .i64 a, .int .i64 p, .int .i64 f]) [] 43 45 (by kernel_rfl) (by kernel_rfl) rfl ?_ float_none ?_ ?_
  · exact fun w1 w2 ⟨h0, h1⟩ hg => ⟨below_grows h0 (Nat.le_refl _) hg, h1.grows hg⟩
  · exact ⟨hB.drew, k1.drew⟩
  · clear hB k1
    simp only [List.take_succ_cons, List.take_zero, List.drop_succ_cons, List.drop_zero]
    iterate 43
      first
        | (refine calm_no rfl rfl (a' := ?_) ?_ ?_
           rotate_left 1
           · simp only [Act.put, List.setIfInBounds_toArray, List.set_cons_succ, List.set_cons_zero]
             rfl)
        | (first | refine calm_plain rfl rfl (v := ?_) (a' := ?_) (fun w1 hw1 => ?_) ?_ ?_ | refine calm_yes rfl rfl (v := ?_) (a' := ?_) (fun w1 hw1 => ?_) ?_ ?_
           rotate_left 2
           · obtain ⟨_, j1⟩ := hw1
             have c1 := j1.cell
             go_simp
             first | exact calm_val | (refine calm_call ?_; exact ratio_any _ _ _) | (refine calm_quiet ?_; exact tuned_any _ _) | (refine calm_call ?_; refine parts_any _ _ _ _ _ _ ?_ ?_ <;> omega)
           · simp only [Act.put, List.setIfInBounds_toArray, List.set_cons_succ, List.set_cons_zero]
             rfl)
    refine calm_done (end_none ?_)
    rintro w7 ⟨hB, -⟩
    go_wp2
    go_ret
    exact ⟨rfl, hB⟩

set_option maxHeartbeats 8000000 in
theorem valid_4 (n d a p f : Int) (w : World) (h0 : okR n d = true) (h1 : n ≤ 768000) (h2 : d ≤ 768000) (h3 : okA a = true) (h4 : p < 0) : Calls Try.prog 17 #[.agg #[.int .i64 n, .int .i64 d, .int .i64 a, .int .i64 p, .int .i64 f]] w fun e w' => e = .returned (.bool false) ∧ Grows w w' := by
  have q1 : decide (n ≤ 768000) = true := by simp; omega
  have q2 : decide (d ≤ 768000) = true := by simp; omega
  have q4 : decide (0 ≤ p) = false := by simp; omega
  obtain ⟨g1, g2, -⟩ := okR_bd h0
  have hB := (Below.refl w.heap.size w).alloc (Nat.le_refl _) (Obj.cells #[.int .i64 n, .int .i64 d, .int .i64 a, .int .i64 p, .int .i64 f] 27)
  have k1 := Blk.new w 27 #[.int .i64 n, .int .i64 d, .int .i64 a, .int .i64 p, .int .i64 f]
  go_enter Try.func17, Try.ntmps17
  go_wp2
  generalize World.alloc w _ = w1 at *
  refine wp_region_mix (fun w' => Below w.heap.size w w' ∧ Blk w' w.heap.size 27 #[.int .i64 n, .int .i64 d, .int .i64 a, .int .i64 p, .int .i64 f]) [] 43 45 (by kernel_rfl) (by kernel_rfl) rfl ?_ float_none ?_ ?_
  · exact fun w1 w2 ⟨h0, h1⟩ hg => ⟨below_grows h0 (Nat.le_refl _) hg, h1.grows hg⟩
  · exact ⟨hB.drew, k1.drew⟩
  · clear hB k1
    simp only [List.take_succ_cons, List.take_zero, List.drop_succ_cons, List.drop_zero]
    iterate 43
      first
        | (refine calm_no rfl rfl (a' := ?_) ?_ ?_
           rotate_left 1
           · simp only [Act.put, List.setIfInBounds_toArray, List.set_cons_succ, List.set_cons_zero]
             rfl)
        | (first | refine calm_plain rfl rfl (v := ?_) (a' := ?_) (fun w1 hw1 => ?_) ?_ ?_ | refine calm_yes rfl rfl (v := ?_) (a' := ?_) (fun w1 hw1 => ?_) ?_ ?_
           rotate_left 2
           · obtain ⟨_, j1⟩ := hw1
             have c1 := j1.cell
             go_simp
             first | exact calm_val | (refine calm_call ?_; exact ratio_any _ _ _) | (refine calm_quiet ?_; exact tuned_any _ _) | (refine calm_call ?_; refine parts_any _ _ _ _ _ _ ?_ ?_ <;> omega)
           · simp only [Act.put, List.setIfInBounds_toArray, List.set_cons_succ, List.set_cons_zero]
             rfl)
    refine calm_done (end_none ?_)
    rintro w7 ⟨hB, -⟩
    go_wp2
    go_ret
    exact ⟨rfl, hB⟩

set_option maxHeartbeats 8000000 in
theorem valid_5 (n d a p f : Int) (w : World) (h0 : okR n d = true) (h1 : n ≤ 768000) (h2 : d ≤ 768000) (h3 : okA a = true) (h4 : 0 ≤ p) (h5 : 1125899906842624 < p) : Calls Try.prog 17 #[.agg #[.int .i64 n, .int .i64 d, .int .i64 a, .int .i64 p, .int .i64 f]] w fun e w' => e = .returned (.bool false) ∧ Grows w w' := by
  have q1 : decide (n ≤ 768000) = true := by simp; omega
  have q2 : decide (d ≤ 768000) = true := by simp; omega
  have q4 : decide (0 ≤ p) = true := by simp; omega
  have q5 : decide (p ≤ 1125899906842624) = false := by simp; omega
  obtain ⟨g1, g2, -⟩ := okR_bd h0
  have hB := (Below.refl w.heap.size w).alloc (Nat.le_refl _) (Obj.cells #[.int .i64 n, .int .i64 d, .int .i64 a, .int .i64 p, .int .i64 f] 27)
  have k1 := Blk.new w 27 #[.int .i64 n, .int .i64 d, .int .i64 a, .int .i64 p, .int .i64 f]
  go_enter Try.func17, Try.ntmps17
  go_wp2
  generalize World.alloc w _ = w1 at *
  refine wp_region_mix (fun w' => Below w.heap.size w w' ∧ Blk w' w.heap.size 27 #[.int .i64 n, .int .i64 d, .int .i64 a, .int .i64 p, .int .i64 f]) [] 43 45 (by kernel_rfl) (by kernel_rfl) rfl ?_ float_none ?_ ?_
  · exact fun w1 w2 ⟨h0, h1⟩ hg => ⟨below_grows h0 (Nat.le_refl _) hg, h1.grows hg⟩
  · exact ⟨hB.drew, k1.drew⟩
  · clear hB k1
    simp only [List.take_succ_cons, List.take_zero, List.drop_succ_cons, List.drop_zero]
    iterate 43
      first
        | (refine calm_no rfl rfl (a' := ?_) ?_ ?_
           rotate_left 1
           · simp only [Act.put, List.setIfInBounds_toArray, List.set_cons_succ, List.set_cons_zero]
             rfl)
        | (first | refine calm_plain rfl rfl (v := ?_) (a' := ?_) (fun w1 hw1 => ?_) ?_ ?_ | refine calm_yes rfl rfl (v := ?_) (a' := ?_) (fun w1 hw1 => ?_) ?_ ?_
           rotate_left 2
           · obtain ⟨_, j1⟩ := hw1
             have c1 := j1.cell
             go_simp
             first | exact calm_val | (refine calm_call ?_; exact ratio_any _ _ _) | (refine calm_quiet ?_; exact tuned_any _ _) | (refine calm_call ?_; refine parts_any _ _ _ _ _ _ ?_ ?_ <;> omega)
           · simp only [Act.put, List.setIfInBounds_toArray, List.set_cons_succ, List.set_cons_zero]
             rfl)
    refine calm_done (end_none ?_)
    rintro w7 ⟨hB, -⟩
    go_wp2
    go_ret
    exact ⟨rfl, hB⟩

set_option maxHeartbeats 8000000 in
theorem valid_6 (n d a p f : Int) (w : World) (h0 : okR n d = true) (h1 : n ≤ 768000) (h2 : d ≤ 768000) (h3 : okA a = true) (h4 : 0 ≤ p) (h5 : p ≤ 1125899906842624) (h6 : f < 0) : Calls Try.prog 17 #[.agg #[.int .i64 n, .int .i64 d, .int .i64 a, .int .i64 p, .int .i64 f]] w fun e w' => e = .returned (.bool false) ∧ Grows w w' := by
  have q1 : decide (n ≤ 768000) = true := by simp; omega
  have q2 : decide (d ≤ 768000) = true := by simp; omega
  have q4 : decide (0 ≤ p) = true := by simp; omega
  have q5 : decide (p ≤ 1125899906842624) = true := by simp; omega
  have q6 : decide (0 ≤ f) = false := by simp; omega
  obtain ⟨g1, g2, -⟩ := okR_bd h0
  have hB := (Below.refl w.heap.size w).alloc (Nat.le_refl _) (Obj.cells #[.int .i64 n, .int .i64 d, .int .i64 a, .int .i64 p, .int .i64 f] 27)
  have k1 := Blk.new w 27 #[.int .i64 n, .int .i64 d, .int .i64 a, .int .i64 p, .int .i64 f]
  go_enter Try.func17, Try.ntmps17
  go_wp2
  generalize World.alloc w _ = w1 at *
  refine wp_region_mix (fun w' => Below w.heap.size w w' ∧ Blk w' w.heap.size 27 #[.int .i64 n, .int .i64 d, .int .i64 a, .int .i64 p, .int .i64 f]) [] 43 45 (by kernel_rfl) (by kernel_rfl) rfl ?_ float_none ?_ ?_
  · exact fun w1 w2 ⟨h0, h1⟩ hg => ⟨below_grows h0 (Nat.le_refl _) hg, h1.grows hg⟩
  · exact ⟨hB.drew, k1.drew⟩
  · clear hB k1
    simp only [List.take_succ_cons, List.take_zero, List.drop_succ_cons, List.drop_zero]
    iterate 43
      first
        | (refine calm_no rfl rfl (a' := ?_) ?_ ?_
           rotate_left 1
           · simp only [Act.put, List.setIfInBounds_toArray, List.set_cons_succ, List.set_cons_zero]
             rfl)
        | (first | refine calm_plain rfl rfl (v := ?_) (a' := ?_) (fun w1 hw1 => ?_) ?_ ?_ | refine calm_yes rfl rfl (v := ?_) (a' := ?_) (fun w1 hw1 => ?_) ?_ ?_
           rotate_left 2
           · obtain ⟨_, j1⟩ := hw1
             have c1 := j1.cell
             go_simp
             first | exact calm_val | (refine calm_call ?_; exact ratio_any _ _ _) | (refine calm_quiet ?_; exact tuned_any _ _) | (refine calm_call ?_; refine parts_any _ _ _ _ _ _ ?_ ?_ <;> omega)
           · simp only [Act.put, List.setIfInBounds_toArray, List.set_cons_succ, List.set_cons_zero]
             rfl)
    refine calm_done (end_none ?_)
    rintro w7 ⟨hB, -⟩
    go_wp2
    go_ret
    exact ⟨rfl, hB⟩

set_option maxHeartbeats 8000000 in
theorem valid_7 (n d a p f : Int) (w : World) (h0 : okR n d = true) (h1 : n ≤ 768000) (h2 : d ≤ 768000) (h3 : okA a = true) (h4 : 0 ≤ p) (h5 : p ≤ 1125899906842624) (h6 : 0 ≤ f) (h7 : d * 65536 ≤ f) : Calls Try.prog 17 #[.agg #[.int .i64 n, .int .i64 d, .int .i64 a, .int .i64 p, .int .i64 f]] w fun e w' => e = .returned (.bool false) ∧ Grows w w' := by
  have q1 : decide (n ≤ 768000) = true := by simp; omega
  have q2 : decide (d ≤ 768000) = true := by simp; omega
  have q4 : decide (0 ≤ p) = true := by simp; omega
  have q5 : decide (p ≤ 1125899906842624) = true := by simp; omega
  have q6 : decide (0 ≤ f) = true := by simp; omega
  have q7 : decide (f < d * 65536) = false := by simp; omega
  obtain ⟨g1, g2, -⟩ := okR_bd h0
  have hB := (Below.refl w.heap.size w).alloc (Nat.le_refl _) (Obj.cells #[.int .i64 n, .int .i64 d, .int .i64 a, .int .i64 p, .int .i64 f] 27)
  have k1 := Blk.new w 27 #[.int .i64 n, .int .i64 d, .int .i64 a, .int .i64 p, .int .i64 f]
  go_enter Try.func17, Try.ntmps17
  go_wp2
  generalize World.alloc w _ = w1 at *
  refine wp_region_mix (fun w' => Below w.heap.size w w' ∧ Blk w' w.heap.size 27 #[.int .i64 n, .int .i64 d, .int .i64 a, .int .i64 p, .int .i64 f]) [] 43 45 (by kernel_rfl) (by kernel_rfl) rfl ?_ float_none ?_ ?_
  · exact fun w1 w2 ⟨h0, h1⟩ hg => ⟨below_grows h0 (Nat.le_refl _) hg, h1.grows hg⟩
  · exact ⟨hB.drew, k1.drew⟩
  · clear hB k1
    simp only [List.take_succ_cons, List.take_zero, List.drop_succ_cons, List.drop_zero]
    iterate 43
      first
        | (refine calm_no rfl rfl (a' := ?_) ?_ ?_
           rotate_left 1
           · simp only [Act.put, List.setIfInBounds_toArray, List.set_cons_succ, List.set_cons_zero]
             rfl)
        | (first | refine calm_plain rfl rfl (v := ?_) (a' := ?_) (fun w1 hw1 => ?_) ?_ ?_ | refine calm_yes rfl rfl (v := ?_) (a' := ?_) (fun w1 hw1 => ?_) ?_ ?_
           rotate_left 2
           · obtain ⟨_, j1⟩ := hw1
             have c1 := j1.cell
             go_simp
             first | exact calm_val | (refine calm_call ?_; exact ratio_any _ _ _) | (refine calm_quiet ?_; exact tuned_any _ _) | (refine calm_call ?_; refine parts_any _ _ _ _ _ _ ?_ ?_ <;> omega)
           · simp only [Act.put, List.setIfInBounds_toArray, List.set_cons_succ, List.set_cons_zero]
             rfl)
    refine calm_done (end_none ?_)
    rintro w7 ⟨hB, -⟩
    go_wp2
    go_ret
    exact ⟨rfl, hB⟩

set_option maxHeartbeats 8000000 in
theorem valid_8 (n d a p f : Int) (w : World) (h0 : okR n d = true) (h1 : n ≤ 768000) (h2 : d ≤ 768000) (h3 : okA a = true) (h4 : 0 ≤ p) (h5 : p ≤ 1125899906842624) (h6 : 0 ≤ f) (h7 : f < d * 65536) : Calls Try.prog 17 #[.agg #[.int .i64 n, .int .i64 d, .int .i64 a, .int .i64 p, .int .i64 f]] w fun e w' => e = .returned (.bool true) ∧ Grows w w' := by
  have q1 : decide (n ≤ 768000) = true := by simp; omega
  have q2 : decide (d ≤ 768000) = true := by simp; omega
  have q4 : decide (0 ≤ p) = true := by simp; omega
  have q5 : decide (p ≤ 1125899906842624) = true := by simp; omega
  have q6 : decide (0 ≤ f) = true := by simp; omega
  have q7 : decide (f < d * 65536) = true := by simp; omega
  obtain ⟨g1, g2, -⟩ := okR_bd h0
  have hB := (Below.refl w.heap.size w).alloc (Nat.le_refl _) (Obj.cells #[.int .i64 n, .int .i64 d, .int .i64 a, .int .i64 p, .int .i64 f] 27)
  have k1 := Blk.new w 27 #[.int .i64 n, .int .i64 d, .int .i64 a, .int .i64 p, .int .i64 f]
  go_enter Try.func17, Try.ntmps17
  go_wp2
  generalize World.alloc w _ = w1 at *
  refine wp_region_mix (fun w' => Below w.heap.size w w' ∧ Blk w' w.heap.size 27 #[.int .i64 n, .int .i64 d, .int .i64 a, .int .i64 p, .int .i64 f]) [] 43 45 (by kernel_rfl) (by kernel_rfl) rfl ?_ float_none ?_ ?_
  · exact fun w1 w2 ⟨h0, h1⟩ hg => ⟨below_grows h0 (Nat.le_refl _) hg, h1.grows hg⟩
  · exact ⟨hB.drew, k1.drew⟩
  · clear hB k1
    simp only [List.take_succ_cons, List.take_zero, List.drop_succ_cons, List.drop_zero]
    iterate 43
      first
        | (refine calm_no rfl rfl (a' := ?_) ?_ ?_
           rotate_left 1
           · simp only [Act.put, List.setIfInBounds_toArray, List.set_cons_succ, List.set_cons_zero]
             rfl)
        | (first | refine calm_plain rfl rfl (v := ?_) (a' := ?_) (fun w1 hw1 => ?_) ?_ ?_ | refine calm_yes rfl rfl (v := ?_) (a' := ?_) (fun w1 hw1 => ?_) ?_ ?_
           rotate_left 2
           · obtain ⟨_, j1⟩ := hw1
             have c1 := j1.cell
             go_simp
             first | exact calm_val | (refine calm_call ?_; exact ratio_any _ _ _) | (refine calm_quiet ?_; exact tuned_any _ _) | (refine calm_call ?_; refine parts_any _ _ _ _ _ _ ?_ ?_ <;> omega)
           · simp only [Act.put, List.setIfInBounds_toArray, List.set_cons_succ, List.set_cons_zero]
             rfl)
    refine calm_done (end_none ?_)
    rintro w7 ⟨hB, -⟩
    go_wp2
    go_ret
    exact ⟨rfl, hB⟩

theorem valid_any (n d a p f : Int) (w : World) : Calls Try.prog 17 #[.agg #[.int .i64 n, .int .i64 d, .int .i64 a, .int .i64 p, .int .i64 f]] w fun e w' => e = .returned (.bool (okP n d a p f)) ∧ Grows w w' := by
  cases h0 : okR n d
  · rw [show okP n d a p f = false from by simp [okP, h0]]; exact valid_0 n d a p f w h0
  by_cases h1 : n ≤ 768000
  case neg => rw [show okP n d a p f = false from by simp only [okP, okA, Bool.and_eq_false_iff, decide_eq_false_iff_not]; simp [h1]]; exact valid_1 n d a p f w h0 (by omega)
  by_cases h2 : d ≤ 768000
  case neg => rw [show okP n d a p f = false from by simp only [okP, okA, Bool.and_eq_false_iff, decide_eq_false_iff_not]; simp [h2]]; exact valid_2 n d a p f w h0 h1 (by omega)
  cases h3 : okA a
  · rw [show okP n d a p f = false from by simp [okP, h3]]; exact valid_3 n d a p f w h0 h1 h2 h3
  by_cases h4 : 0 ≤ p
  case neg => rw [show okP n d a p f = false from by simp only [okP, okA, Bool.and_eq_false_iff, decide_eq_false_iff_not]; simp [h4]]; exact valid_4 n d a p f w h0 h1 h2 h3 (by omega)
  by_cases h5 : p ≤ 1125899906842624
  case neg => rw [show okP n d a p f = false from by simp only [okP, okA, Bool.and_eq_false_iff, decide_eq_false_iff_not]; simp [h5]]; exact valid_5 n d a p f w h0 h1 h2 h3 h4 (by omega)
  by_cases h6 : 0 ≤ f
  case neg => rw [show okP n d a p f = false from by simp only [okP, okA, Bool.and_eq_false_iff, decide_eq_false_iff_not]; simp [h6]]; exact valid_6 n d a p f w h0 h1 h2 h3 h4 h5 (by omega)
  by_cases h7 : f < d * 65536
  case neg => rw [show okP n d a p f = false from by simp only [okP, okA, Bool.and_eq_false_iff, decide_eq_false_iff_not]; simp [h7]]; exact valid_7 n d a p f w h0 h1 h2 h3 h4 h5 h6 (by omega)
  rw [show okP n d a p f = true from by simp_all [okP, okA]]; exact valid_8 n d a p f w h0 h1 h2 h3 h4 h5 h6 h7
end Go.Proofs.Ytjdgfcjkpdmodaa
