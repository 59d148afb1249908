/-
  Valid of layer 14, the reference.
-/
import Derived.Test.YtjdgfcjkpdmodaaPhA
import Derived.Test.YtjdgfcjkpdmodaaMix
namespace Go.Proofs.Ytjdgfcjkpdmodaa
open Go.RowKit

set_option maxHeartbeats 8000000 in
theorem rvalid_0 (n d a p f : Int) (w : World) (h0 : okR n d = false) : Calls Try.prog 18 #[.agg #[.int .i64 n, .int .i64 d, .int .i64 a, .int .i64 p, .int .i64 f]] w fun e w' => e = .returned (.bool false) ∧ Grows w w' := by
  have hB := (Below.refl w.heap.size w).alloc (Nat.le_refl _) (Obj.cells #[.int .i64 n, .int .i64 d, .int .i64 a, .int .i64 p, .int .i64 f] 27)
  have k1 := Blk.new w 27 #[.int .i64 n, .int .i64 d, .int .i64 a, .int .i64 p, .int .i64 f]
  go_enter Try.func18, Try.ntmps18
  go_wp2
  generalize World.alloc w _ = w1 at *
  refine wp_region_mix (fun w' => Below w.heap.size w w' ∧ Blk w' w.heap.size 27 #[.int .i64 n, .int .i64 d, .int .i64 a, .int .i64 p, .int .i64 f]) [] 48 50 (by kernel_rfl) (by kernel_rfl) rfl ?_ float_none ?_ ?_
  · exact fun w1 w2 ⟨h0, h1⟩ hg => ⟨below_grows h0 (Nat.le_refl _) hg, h1.grows hg⟩
  · exact ⟨hB.drew, k1.drew⟩
  · clear hB k1
    simp only [List.take_succ_cons, List.take_zero, List.drop_succ_cons, List.drop_zero]
    iterate 48
      first
        | (refine calm_no rfl rfl (a' := ?_) ?_ ?_
           rotate_left 1
           · simp only [Act.put, List.setIfInBounds_toArray, List.set_cons_succ, List.set_cons_zero]
             rfl)
        | (first | refine calm_plain rfl rfl (v := ?_) (a' := ?_) (fun w1 hw1 => ?_) ?_ ?_ | refine calm_yes rfl rfl (v := ?_) (a' := ?_) (fun w1 hw1 => ?_) ?_ ?_
           rotate_left 2
           · obtain ⟨_, j1⟩ := hw1
             have c1 := j1.cell
             go_simp
             first | exact calm_val | (refine calm_call ?_; exact rratio_any _ _ _) | (refine calm_call ?_; refine rparts_any _ _ _ _ _ _ ?_ ?_ <;> omega)
           · simp only [Act.put, List.setIfInBounds_toArray, List.set_cons_succ, List.set_cons_zero]
             rfl)
    refine calm_done (end_none ?_)
    rintro w7 ⟨hB, -⟩
    go_wp2
    go_ret
    exact ⟨rfl, hB⟩

set_option maxHeartbeats 8000000 in
theorem rvalid_1 (n d a p f : Int) (w : World) (h0 : okR n d = true) (h1 : 768000 < n) : Calls Try.prog 18 #[.agg #[.int .i64 n, .int .i64 d, .int .i64 a, .int .i64 p, .int .i64 f]] w fun e w' => e = .returned (.bool false) ∧ Grows w w' := by
  have q1 : decide (n ≤ 768000) = false := by simp; omega
  obtain ⟨g1, g2, -⟩ := okR_bd h0
  have hB := (Below.refl w.heap.size w).alloc (Nat.le_refl _) (Obj.cells #[.int .i64 n, .int .i64 d, .int .i64 a, .int .i64 p, .int .i64 f] 27)
  have k1 := Blk.new w 27 #[.int .i64 n, .int .i64 d, .int .i64 a, .int .i64 p, .int .i64 f]
  go_enter Try.func18, Try.ntmps18
  go_wp2
  generalize World.alloc w _ = w1 at *
  refine wp_region_mix (fun w' => Below w.heap.size w w' ∧ Blk w' w.heap.size 27 #[.int .i64 n, .int .i64 d, .int .i64 a, .int .i64 p, .int .i64 f]) [] 48 50 (by kernel_rfl) (by kernel_rfl) rfl ?_ float_none ?_ ?_
  · exact fun w1 w2 ⟨h0, h1⟩ hg => ⟨below_grows h0 (Nat.le_refl _) hg, h1.grows hg⟩
  · exact ⟨hB.drew, k1.drew⟩
  · clear hB k1
    simp only [List.take_succ_cons, List.take_zero, List.drop_succ_cons, List.drop_zero]
    iterate 48
      first
        | (refine calm_no rfl rfl (a' := ?_) ?_ ?_
           rotate_left 1
           · simp only [Act.put, List.setIfInBounds_toArray, List.set_cons_succ, List.set_cons_zero]
             rfl)
        | (first | refine calm_plain rfl rfl (v := ?_) (a' := ?_) (fun w1 hw1 => ?_) ?_ ?_ | refine calm_yes rfl rfl (v := ?_) (a' := ?_) (fun w1 hw1 => ?_) ?_ ?_
           rotate_left 2
           · obtain ⟨_, j1⟩ := hw1
             have c1 := j1.cell
             go_simp
             first | exact calm_val | (refine calm_call ?_; exact rratio_any _ _ _) | (refine calm_call ?_; refine rparts_any _ _ _ _ _ _ ?_ ?_ <;> omega)
           · simp only [Act.put, List.setIfInBounds_toArray, List.set_cons_succ, List.set_cons_zero]
             rfl)
    refine calm_done (end_none ?_)
    rintro w7 ⟨hB, -⟩
    go_wp2
    go_ret
    exact ⟨rfl, hB⟩

set_option maxHeartbeats 8000000 in
theorem rvalid_2 (n d a p f : Int) (w : World) (h0 : okR n d = true) (h1 : n ≤ 768000) (h2 : 768000 < d) : Calls Try.prog 18 #[.agg #[.int .i64 n, .int .i64 d, .int .i64 a, .int .i64 p, .int .i64 f]] w fun e w' => e = .returned (.bool false) ∧ Grows w w' := by
  have q1 : decide (n ≤ 768000) = true := by simp; omega
  have q2 : decide (d ≤ 768000) = false := by simp; omega
  obtain ⟨g1, g2, -⟩ := okR_bd h0
  have hB := (Below.refl w.heap.size w).alloc (Nat.le_refl _) (Obj.cells #[.int .i64 n, .int .i64 d, .int .i64 a, .int .i64 p, .int .i64 f] 27)
  have k1 := Blk.new w 27 #[.int .i64 n, .int .i64 d, .int .i64 a, .int .i64 p, .int .i64 f]
  go_enter Try.func18, Try.ntmps18
  go_wp2
  generalize World.alloc w _ = w1 at *
  refine wp_region_mix (fun w' => Below w.heap.size w w' ∧ Blk w' w.heap.size 27 #[.int .i64 n, .int .i64 d, .int .i64 a, .int .i64 p, .int .i64 f]) [] 48 50 (by kernel_rfl) (by kernel_rfl) rfl ?_ float_none ?_ ?_
  · exact fun w1 w2 ⟨h0, h1⟩ hg => ⟨below_grows h0 (Nat.le_refl _) hg, h1.grows hg⟩
  · exact ⟨hB.drew, k1.drew⟩
  · clear hB k1
    simp only [List.take_succ_cons, List.take_zero, List.drop_succ_cons, List.drop_zero]
    iterate 48
      first
        | (refine calm_no rfl rfl (a' := ?_) ?_ ?_
           rotate_left 1
           · simp only [Act.put, List.setIfInBounds_toArray, List.set_cons_succ, List.set_cons_zero]
             rfl)
        | (first | refine calm_plain rfl rfl (v := ?_) (a' := ?_) (fun w1 hw1 => ?_) ?_ ?_ | refine calm_yes rfl rfl (v := ?_) (a' := ?_) (fun w1 hw1 => ?_) ?_ ?_
           rotate_left 2
           · obtain ⟨_, j1⟩ := hw1
             have c1 := j1.cell
             go_simp
             first | exact calm_val | (refine calm_call ?_; exact rratio_any _ _ _) | (refine calm_call ?_; refine rparts_any _ _ _ _ _ _ ?_ ?_ <;> omega)
           · simp only [Act.put, List.setIfInBounds_toArray, List.set_cons_succ, List.set_cons_zero]
             rfl)
    refine calm_done (end_none ?_)
    rintro w7 ⟨hB, -⟩
    go_wp2
    go_ret
    exact ⟨rfl, hB⟩

set_option maxHeartbeats 8000000 in
theorem rvalid_3 (n d a p f : Int) (w : World) (h0 : okR n d = true) (h1 : n ≤ 768000) (h2 : d ≤ 768000) (h3 : a < -4096) : Calls Try.prog 18 #[.agg #[.int .i64 n, .int .i64 d, .int .i64 a, .int .i64 p, .int .i64 f]] w fun e w' => e = .returned (.bool false) ∧ Grows w w' := by
  have q1 : decide (n ≤ 768000) = true := by simp; omega
  have q2 : decide (d ≤ 768000) = true := by simp; omega
  have q3 : decide (-4096 ≤ a) = false := by simp; omega
  obtain ⟨g1, g2, -⟩ := okR_bd h0
  have hB := (Below.refl w.heap.size w).alloc (Nat.le_refl _) (Obj.cells #[.int .i64 n, .int .i64 d, .int .i64 a, .int .i64 p, .int .i64 f] 27)
  have k1 := Blk.new w 27 #[.int .i64 n, .int .i64 d, .int .i64 a, .int .i64 p, .int .i64 f]
  go_enter Try.func18, Try.ntmps18
  go_wp2
  generalize World.alloc w _ = w1 at *
  refine wp_region_mix (fun w' => Below w.heap.size w w' ∧ Blk w' w.heap.size 27 #[.int .i64 n, .int .i64 d, .int .i64 a, .int .i64 p, .int .i64 f]) [] 48 50 (by kernel_rfl) (by kernel_rfl) rfl ?_ float_none ?_ ?_
  · exact fun w1 w2 ⟨h0, h1⟩ hg => ⟨below_grows h0 (Nat.le_refl _) hg, h1.grows hg⟩
  · exact ⟨hB.drew, k1.drew⟩
  · clear hB k1
    simp only [List.take_succ_cons, List.take_zero, List.drop_succ_cons, List.drop_zero]
    iterate 48
      first
        | (refine calm_no rfl rfl (a' := ?_) ?_ ?_
           rotate_left 1
           · simp only [Act.put, List.setIfInBounds_toArray, List.set_cons_succ, List.set_cons_zero]
             rfl)
        | (first | refine calm_plain rfl rfl (v := ?_) (a' := ?_) (fun w1 hw1 => ?_) ?_ ?_ | refine calm_yes rfl rfl (v := ?_) (a' := ?_) (fun w1 hw1 => ?_) ?_ ?_
           rotate_left 2
           · obtain ⟨_, j1⟩ := hw1
             have c1 := j1.cell
             go_simp
             first | exact calm_val | (refine calm_call ?_; exact rratio_any _ _ _) | (refine calm_call ?_; refine rparts_any _ _ _ _ _ _ ?_ ?_ <;> omega)
           · simp only [Act.put, List.setIfInBounds_toArray, List.set_cons_succ, List.set_cons_zero]
             rfl)
    refine calm_done (end_none ?_)
    rintro w7 ⟨hB, -⟩
    go_wp2
    go_ret
    exact ⟨rfl, hB⟩

set_option maxHeartbeats 8000000 in
theorem rvalid_4 (n d a p f : Int) (w : World) (h0 : okR n d = true) (h1 : n ≤ 768000) (h2 : d ≤ 768000) (h3 : -4096 ≤ a) (h4 : 4096 < a) : Calls Try.prog 18 #[.agg #[.int .i64 n, .int .i64 d, .int .i64 a, .int .i64 p, .int .i64 f]] w fun e w' => e = .returned (.bool false) ∧ Grows w w' := by
  have q1 : decide (n ≤ 768000) = true := by simp; omega
  have q2 : decide (d ≤ 768000) = true := by simp; omega
  have q3 : decide (-4096 ≤ a) = true := by simp; omega
  have q4 : decide (a ≤ 4096) = false := by simp; omega
  obtain ⟨g1, g2, -⟩ := okR_bd h0
  have hB := (Below.refl w.heap.size w).alloc (Nat.le_refl _) (Obj.cells #[.int .i64 n, .int .i64 d, .int .i64 a, .int .i64 p, .int .i64 f] 27)
  have k1 := Blk.new w 27 #[.int .i64 n, .int .i64 d, .int .i64 a, .int .i64 p, .int .i64 f]
  go_enter Try.func18, Try.ntmps18
  go_wp2
  generalize World.alloc w _ = w1 at *
  refine wp_region_mix (fun w' => Below w.heap.size w w' ∧ Blk w' w.heap.size 27 #[.int .i64 n, .int .i64 d, .int .i64 a, .int .i64 p, .int .i64 f]) [] 48 50 (by kernel_rfl) (by kernel_rfl) rfl ?_ float_none ?_ ?_
  · exact fun w1 w2 ⟨h0, h1⟩ hg => ⟨below_grows h0 (Nat.le_refl _) hg, h1.grows hg⟩
  · exact ⟨hB.drew, k1.drew⟩
  · clear hB k1
    simp only [List.take_succ_cons, List.take_zero, List.drop_succ_cons, List.drop_zero]
    iterate 48
      first
        | (refine calm_no rfl rfl (a' := ?_) ?_ ?_
           rotate_left 1
           · simp only [Act.put, List.setIfInBounds_toArray, List.set_cons_succ, List.set_cons_zero]
             rfl)
        | (first | refine calm_plain rfl rfl (v := ?_) (a' := ?_) (fun w1 hw1 => ?_) ?_ ?_ | refine calm_yes rfl rfl (v := ?_) (a' := ?_) (fun w1 hw1 => ?_) ?_ ?_
           rotate_left 2
           · obtain ⟨_, j1⟩ := hw1
             have c1 := j1.cell
             go_simp
             first | exact calm_val | (refine calm_call ?_; exact rratio_any _ _ _) | (refine calm_call ?_; refine rparts_any _ _ _ _ _ _ ?_ ?_ <;> omega)
           · simp only [Act.put, List.setIfInBounds_toArray, List.set_cons_succ, List.set_cons_zero]
             rfl)
    refine calm_done (end_none ?_)
    rintro w7 ⟨hB, -⟩
    go_wp2
    go_ret
    exact ⟨rfl, hB⟩

set_option maxHeartbeats 8000000 in
theorem rvalid_5 (n d a p f : Int) (w : World) (h0 : okR n d = true) (h1 : n ≤ 768000) (h2 : d ≤ 768000) (h3 : -4096 ≤ a) (h4 : a ≤ 4096) (h5 : p < 0) : Calls Try.prog 18 #[.agg #[.int .i64 n, .int .i64 d, .int .i64 a, .int .i64 p, .int .i64 f]] w fun e w' => e = .returned (.bool false) ∧ Grows w w' := by
  have q1 : decide (n ≤ 768000) = true := by simp; omega
  have q2 : decide (d ≤ 768000) = true := by simp; omega
  have q3 : decide (-4096 ≤ a) = true := by simp; omega
  have q4 : decide (a ≤ 4096) = true := by simp; omega
  have q5 : decide (0 ≤ p) = false := by simp; omega
  obtain ⟨g1, g2, -⟩ := okR_bd h0
  have hB := (Below.refl w.heap.size w).alloc (Nat.le_refl _) (Obj.cells #[.int .i64 n, .int .i64 d, .int .i64 a, .int .i64 p, .int .i64 f] 27)
  have k1 := Blk.new w 27 #[.int .i64 n, .int .i64 d, .int .i64 a, .int .i64 p, .int .i64 f]
  go_enter Try.func18, Try.ntmps18
  go_wp2
  generalize World.alloc w _ = w1 at *
  refine wp_region_mix (fun w' => Below w.heap.size w w' ∧ Blk w' w.heap.size 27 #[.int .i64 n, .int .i64 d, .int .i64 a, .int .i64 p, .int .i64 f]) [] 48 50 (by kernel_rfl) (by kernel_rfl) rfl ?_ float_none ?_ ?_
  · exact fun w1 w2 ⟨h0, h1⟩ hg => ⟨below_grows h0 (Nat.le_refl _) hg, h1.grows hg⟩
  · exact ⟨hB.drew, k1.drew⟩
  · clear hB k1
    simp only [List.take_succ_cons, List.take_zero, List.drop_succ_cons, List.drop_zero]
    iterate 48
      first
        | (refine calm_no rfl rfl (a' := ?_) ?_ ?_
           rotate_left 1
           · simp only [Act.put, List.setIfInBounds_toArray, List.set_cons_succ, List.set_cons_zero]
             rfl)
        | (first | refine calm_plain rfl rfl (v := ?_) (a' := ?_) (fun w1 hw1 => ?_) ?_ ?_ | refine calm_yes rfl rfl (v := ?_) (a' := ?_) (fun w1 hw1 => ?_) ?_ ?_
           rotate_left 2
           · obtain ⟨_, j1⟩ := hw1
             have c1 := j1.cell
             go_simp
             first | exact calm_val | (refine calm_call ?_; exact rratio_any _ _ _) | (refine calm_call ?_; refine rparts_any _ _ _ _ _ _ ?_ ?_ <;> omega)
           · simp only [Act.put, List.setIfInBounds_toArray, List.set_cons_succ, List.set_cons_zero]
             rfl)
    refine calm_done (end_none ?_)
    rintro w7 ⟨hB, -⟩
    go_wp2
    go_ret
    exact ⟨rfl, hB⟩

set_option maxHeartbeats 8000000 in
theorem rvalid_6 (n d a p f : Int) (w : World) (h0 : okR n d = true) (h1 : n ≤ 768000) (h2 : d ≤ 768000) (h3 : -4096 ≤ a) (h4 : a ≤ 4096) (h5 : 0 ≤ p) (h6 : 1125899906842624 < p) : Calls Try.prog 18 #[.agg #[.int .i64 n, .int .i64 d, .int .i64 a, .int .i64 p, .int .i64 f]] w fun e w' => e = .returned (.bool false) ∧ Grows w w' := by
  have q1 : decide (n ≤ 768000) = true := by simp; omega
  have q2 : decide (d ≤ 768000) = true := by simp; omega
  have q3 : decide (-4096 ≤ a) = true := by simp; omega
  have q4 : decide (a ≤ 4096) = true := by simp; omega
  have q5 : decide (0 ≤ p) = true := by simp; omega
  have q6 : decide (p ≤ 1125899906842624) = false := by simp; omega
  obtain ⟨g1, g2, -⟩ := okR_bd h0
  have hB := (Below.refl w.heap.size w).alloc (Nat.le_refl _) (Obj.cells #[.int .i64 n, .int .i64 d, .int .i64 a, .int .i64 p, .int .i64 f] 27)
  have k1 := Blk.new w 27 #[.int .i64 n, .int .i64 d, .int .i64 a, .int .i64 p, .int .i64 f]
  go_enter Try.func18, Try.ntmps18
  go_wp2
  generalize World.alloc w _ = w1 at *
  refine wp_region_mix (fun w' => Below w.heap.size w w' ∧ Blk w' w.heap.size 27 #[.int .i64 n, .int .i64 d, .int .i64 a, .int .i64 p, .int .i64 f]) [] 48 50 (by kernel_rfl) (by kernel_rfl) rfl ?_ float_none ?_ ?_
  · exact fun w1 w2 ⟨h0, h1⟩ hg => ⟨below_grows h0 (Nat.le_refl _) hg, h1.grows hg⟩
  · exact ⟨hB.drew, k1.drew⟩
  · clear hB k1
    simp only [List.take_succ_cons, List.take_zero, List.drop_succ_cons, List.drop_zero]
    iterate 48
      first
        | (refine calm_no rfl rfl (a' := ?_) ?_ ?_
           rotate_left 1
           · simp only [Act.put, List.setIfInBounds_toArray, List.set_cons_succ, List.set_cons_zero]
             rfl)
        | (first | refine calm_plain rfl rfl (v := ?_) (a' := ?_) (fun w1 hw1 => ?_) ?_ ?_ | refine calm_yes rfl rfl (v := ?_) (a' := ?_) (fun w1 hw1 => ?_) ?_ ?_
           rotate_left 2
           · obtain ⟨_, j1⟩ := hw1
             have c1 := j1.cell
             go_simp
             first | exact calm_val | (refine calm_call ?_; exact rratio_any _ _ _) | (refine calm_call ?_; refine rparts_any _ _ _ _ _ _ ?_ ?_ <;> omega)
           · simp only [Act.put, List.setIfInBounds_toArray, List.set_cons_succ, List.set_cons_zero]
             rfl)
    refine calm_done (end_none ?_)
    rintro w7 ⟨hB, -⟩
    go_wp2
    go_ret
    exact ⟨rfl, hB⟩

set_option maxHeartbeats 8000000 in
theorem rvalid_7 (n d a p f : Int) (w : World) (h0 : okR n d = true) (h1 : n ≤ 768000) (h2 : d ≤ 768000) (h3 : -4096 ≤ a) (h4 : a ≤ 4096) (h5 : 0 ≤ p) (h6 : p ≤ 1125899906842624) (h7 : f < 0) : Calls Try.prog 18 #[.agg #[.int .i64 n, .int .i64 d, .int .i64 a, .int .i64 p, .int .i64 f]] w fun e w' => e = .returned (.bool false) ∧ Grows w w' := by
  have q1 : decide (n ≤ 768000) = true := by simp; omega
  have q2 : decide (d ≤ 768000) = true := by simp; omega
  have q3 : decide (-4096 ≤ a) = true := by simp; omega
  have q4 : decide (a ≤ 4096) = true := by simp; omega
  have q5 : decide (0 ≤ p) = true := by simp; omega
  have q6 : decide (p ≤ 1125899906842624) = true := by simp; omega
  have q7 : decide (0 ≤ f) = false := by simp; omega
  obtain ⟨g1, g2, -⟩ := okR_bd h0
  have hB := (Below.refl w.heap.size w).alloc (Nat.le_refl _) (Obj.cells #[.int .i64 n, .int .i64 d, .int .i64 a, .int .i64 p, .int .i64 f] 27)
  have k1 := Blk.new w 27 #[.int .i64 n, .int .i64 d, .int .i64 a, .int .i64 p, .int .i64 f]
  go_enter Try.func18, Try.ntmps18
  go_wp2
  generalize World.alloc w _ = w1 at *
  refine wp_region_mix (fun w' => Below w.heap.size w w' ∧ Blk w' w.heap.size 27 #[.int .i64 n, .int .i64 d, .int .i64 a, .int .i64 p, .int .i64 f]) [] 48 50 (by kernel_rfl) (by kernel_rfl) rfl ?_ float_none ?_ ?_
  · exact fun w1 w2 ⟨h0, h1⟩ hg => ⟨below_grows h0 (Nat.le_refl _) hg, h1.grows hg⟩
  · exact ⟨hB.drew, k1.drew⟩
  · clear hB k1
    simp only [List.take_succ_cons, List.take_zero, List.drop_succ_cons, List.drop_zero]
    iterate 48
      first
        | (refine calm_no rfl rfl (a' := ?_) ?_ ?_
           rotate_left 1
           · simp only [Act.put, List.setIfInBounds_toArray, List.set_cons_succ, List.set_cons_zero]
             rfl)
        | (first | refine calm_plain rfl rfl (v := ?_) (a' := ?_) (fun w1 hw1 => ?_) ?_ ?_ | refine calm_yes rfl rfl (v := ?_) (a' := ?_) (fun w1 hw1 => ?_) ?_ ?_
           rotate_left 2
           · obtain ⟨_, j1⟩ := hw1
             have c1 := j1.cell
             go_simp
             first | exact calm_val | (refine calm_call ?_; exact rratio_any _ _ _) | (refine calm_call ?_; refine rparts_any _ _ _ _ _ _ ?_ ?_ <;> omega)
           · simp only [Act.put, List.setIfInBounds_toArray, List.set_cons_succ, List.set_cons_zero]
             rfl)
    refine calm_done (end_none ?_)
    rintro w7 ⟨hB, -⟩
    go_wp2
    go_ret
    exact ⟨rfl, hB⟩

set_option maxHeartbeats 8000000 in
theorem rvalid_8 (n d a p f : Int) (w : World) (h0 : okR n d = true) (h1 : n ≤ 768000) (h2 : d ≤ 768000) (h3 : -4096 ≤ a) (h4 : a ≤ 4096) (h5 : 0 ≤ p) (h6 : p ≤ 1125899906842624) (h7 : 0 ≤ f) (h8 : d * 65536 ≤ f) : Calls Try.prog 18 #[.agg #[.int .i64 n, .int .i64 d, .int .i64 a, .int .i64 p, .int .i64 f]] w fun e w' => e = .returned (.bool false) ∧ Grows w w' := by
  have q1 : decide (n ≤ 768000) = true := by simp; omega
  have q2 : decide (d ≤ 768000) = true := by simp; omega
  have q3 : decide (-4096 ≤ a) = true := by simp; omega
  have q4 : decide (a ≤ 4096) = true := by simp; omega
  have q5 : decide (0 ≤ p) = true := by simp; omega
  have q6 : decide (p ≤ 1125899906842624) = true := by simp; omega
  have q7 : decide (0 ≤ f) = true := by simp; omega
  have q8 : decide (f < d * 65536) = false := by simp; omega
  obtain ⟨g1, g2, -⟩ := okR_bd h0
  have hB := (Below.refl w.heap.size w).alloc (Nat.le_refl _) (Obj.cells #[.int .i64 n, .int .i64 d, .int .i64 a, .int .i64 p, .int .i64 f] 27)
  have k1 := Blk.new w 27 #[.int .i64 n, .int .i64 d, .int .i64 a, .int .i64 p, .int .i64 f]
  go_enter Try.func18, Try.ntmps18
  go_wp2
  generalize World.alloc w _ = w1 at *
  refine wp_region_mix (fun w' => Below w.heap.size w w' ∧ Blk w' w.heap.size 27 #[.int .i64 n, .int .i64 d, .int .i64 a, .int .i64 p, .int .i64 f]) [] 48 50 (by kernel_rfl) (by kernel_rfl) rfl ?_ float_none ?_ ?_
  · exact fun w1 w2 ⟨h0, h1⟩ hg => ⟨below_grows h0 (Nat.le_refl _) hg, h1.grows hg⟩
  · exact ⟨hB.drew, k1.drew⟩
  · clear hB k1
    simp only [List.take_succ_cons, List.take_zero, List.drop_succ_cons, List.drop_zero]
    iterate 48
      first
        | (refine calm_no rfl rfl (a' := ?_) ?_ ?_
           rotate_left 1
           · simp only [Act.put, List.setIfInBounds_toArray, List.set_cons_succ, List.set_cons_zero]
             rfl)
        | (first | refine calm_plain rfl rfl (v := ?_) (a' := ?_) (fun w1 hw1 => ?_) ?_ ?_ | refine calm_yes rfl rfl (v := ?_) (a' := ?_) (fun w1 hw1 => ?_) ?_ ?_
           rotate_left 2
           · obtain ⟨_, j1⟩ := hw1
             have c1 := j1.cell
             go_simp
             first | exact calm_val | (refine calm_call ?_; exact rratio_any _ _ _) | (refine calm_call ?_; refine rparts_any _ _ _ _ _ _ ?_ ?_ <;> omega)
           · simp only [Act.put, List.setIfInBounds_toArray, List.set_cons_succ, List.set_cons_zero]
             rfl)
    refine calm_done (end_none ?_)
    rintro w7 ⟨hB, -⟩
    go_wp2
    go_ret
    exact ⟨rfl, hB⟩

set_option maxHeartbeats 8000000 in
theorem rvalid_9 (n d a p f : Int) (w : World) (h0 : okR n d = true) (h1 : n ≤ 768000) (h2 : d ≤ 768000) (h3 : -4096 ≤ a) (h4 : a ≤ 4096) (h5 : 0 ≤ p) (h6 : p ≤ 1125899906842624) (h7 : 0 ≤ f) (h8 : f < d * 65536) : Calls Try.prog 18 #[.agg #[.int .i64 n, .int .i64 d, .int .i64 a, .int .i64 p, .int .i64 f]] w fun e w' => e = .returned (.bool true) ∧ Grows w w' := by
  have q1 : decide (n ≤ 768000) = true := by simp; omega
  have q2 : decide (d ≤ 768000) = true := by simp; omega
  have q3 : decide (-4096 ≤ a) = true := by simp; omega
  have q4 : decide (a ≤ 4096) = true := by simp; omega
  have q5 : decide (0 ≤ p) = true := by simp; omega
  have q6 : decide (p ≤ 1125899906842624) = true := by simp; omega
  have q7 : decide (0 ≤ f) = true := by simp; omega
  have q8 : decide (f < d * 65536) = true := by simp; omega
  obtain ⟨g1, g2, -⟩ := okR_bd h0
  have hB := (Below.refl w.heap.size w).alloc (Nat.le_refl _) (Obj.cells #[.int .i64 n, .int .i64 d, .int .i64 a, .int .i64 p, .int .i64 f] 27)
  have k1 := Blk.new w 27 #[.int .i64 n, .int .i64 d, .int .i64 a, .int .i64 p, .int .i64 f]
  go_enter Try.func18, Try.ntmps18
  go_wp2
  generalize World.alloc w _ = w1 at *
  refine wp_region_mix (fun w' => Below w.heap.size w w' ∧ Blk w' w.heap.size 27 #[.int .i64 n, .int .i64 d, .int .i64 a, .int .i64 p, .int .i64 f]) [] 48 50 (by kernel_rfl) (by kernel_rfl) rfl ?_ float_none ?_ ?_
  · exact fun w1 w2 ⟨h0, h1⟩ hg => ⟨below_grows h0 (Nat.le_refl _) hg, h1.grows hg⟩
  · exact ⟨hB.drew, k1.drew⟩
  · clear hB k1
    simp only [List.take_succ_cons, List.take_zero, List.drop_succ_cons, List.drop_zero]
    iterate 48
      first
        | (refine calm_no rfl rfl (a' := ?_) ?_ ?_
           rotate_left 1
           · simp only [Act.put, List.setIfInBounds_toArray, List.set_cons_succ, List.set_cons_zero]
             rfl)
        | (first | refine calm_plain rfl rfl (v := ?_) (a' := ?_) (fun w1 hw1 => ?_) ?_ ?_ | refine calm_yes rfl rfl (v := ?_) (a' := ?_) (fun w1 hw1 => ?_) ?_ ?_
           rotate_left 2
           · obtain ⟨_, j1⟩ := hw1
             have c1 := j1.cell
             go_simp
             first | exact calm_val | (refine calm_call ?_; exact rratio_any _ _ _) | (refine calm_call ?_; refine rparts_any _ _ _ _ _ _ ?_ ?_ <;> omega)
           · simp only [Act.put, List.setIfInBounds_toArray, List.set_cons_succ, List.set_cons_zero]
             rfl)
    refine calm_done (end_none ?_)
    rintro w7 ⟨hB, -⟩
    go_wp2
    go_ret
    exact ⟨rfl, hB⟩

theorem rvalid_any (n d a p f : Int) (w : World) : Calls Try.prog 18 #[.agg #[.int .i64 n, .int .i64 d, .int .i64 a, .int .i64 p, .int .i64 f]] w fun e w' => e = .returned (.bool (okP n d a p f)) ∧ Grows w w' := by
  cases h0 : okR n d
  · rw [show okP n d a p f = false from by simp [okP, h0]]; exact rvalid_0 n d a p f w h0
  by_cases h1 : n ≤ 768000
  case neg => rw [show okP n d a p f = false from by simp only [okP, okA, Bool.and_eq_false_iff, decide_eq_false_iff_not]; simp [h1]]; exact rvalid_1 n d a p f w h0 (by omega)
  by_cases h2 : d ≤ 768000
  case neg => rw [show okP n d a p f = false from by simp only [okP, okA, Bool.and_eq_false_iff, decide_eq_false_iff_not]; simp [h2]]; exact rvalid_2 n d a p f w h0 h1 (by omega)
  by_cases h3 : -4096 ≤ a
  case neg => rw [show okP n d a p f = false from by simp only [okP, okA, Bool.and_eq_false_iff, decide_eq_false_iff_not]; simp [h3]]; exact rvalid_3 n d a p f w h0 h1 h2 (by omega)
  by_cases h4 : a ≤ 4096
  case neg => rw [show okP n d a p f = false from by simp only [okP, okA, Bool.and_eq_false_iff, decide_eq_false_iff_not]; simp [h4]]; exact rvalid_4 n d a p f w h0 h1 h2 h3 (by omega)
  by_cases h5 : 0 ≤ p
  case neg => rw [show okP n d a p f = false from by simp only [okP, okA, Bool.and_eq_false_iff, decide_eq_false_iff_not]; simp [h5]]; exact rvalid_5 n d a p f w h0 h1 h2 h3 h4 (by omega)
  by_cases h6 : p ≤ 1125899906842624
  case neg => rw [show okP n d a p f = false from by simp only [okP, okA, Bool.and_eq_false_iff, decide_eq_false_iff_not]; simp [h6]]; exact rvalid_6 n d a p f w h0 h1 h2 h3 h4 h5 (by omega)
  by_cases h7 : 0 ≤ f
  case neg => rw [show okP n d a p f = false from by simp only [okP, okA, Bool.and_eq_false_iff, decide_eq_false_iff_not]; simp [h7]]; exact rvalid_7 n d a p f w h0 h1 h2 h3 h4 h5 h6 (by omega)
  by_cases h8 : f < d * 65536
  case neg => rw [show okP n d a p f = false from by simp only [okP, okA, Bool.and_eq_false_iff, decide_eq_false_iff_not]; simp [h8]]; exact rvalid_8 n d a p f w h0 h1 h2 h3 h4 h5 h6 h7 (by omega)
  rw [show okP n d a p f = true from by simp_all [okP, okA]]; exact rvalid_9 n d a p f w h0 h1 h2 h3 h4 h5 h6 h7 h8
end Go.Proofs.Ytjdgfcjkpdmodaa
