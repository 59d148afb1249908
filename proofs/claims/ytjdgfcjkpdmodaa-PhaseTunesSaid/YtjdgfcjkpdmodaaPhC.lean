/-
  Layer 14: what output frames need; the sanity check; plain laws.
-/
import Derived.Test.YtjdgfcjkpdmodaaPhO
import Derived.Test.YtjdgfcjkpdmodaaSliceK
namespace Go.Proofs.Ytjdgfcjkpdmodaa
open Go.RowKit
def needF (n d a f k : Int) : Int := if k = 0 then 0 else max (aheadF n a f (k - 1) / (d * 65536) + 2) (aheadF n a f k / (d * 65536))

set_option maxHeartbeats 8000000 in
theorem need_less (n d a p f k : Int) (w : World) (H : okP n d a p f = true) (h1 : 1 ≤ k) (h2 : k ≤ 65537) (hm : aheadF n a f k / (d * 65536) ≤ aheadF n a f (k - 1) / (d * 65536) + 2) : Calls Try.prog 35 #[.agg #[.int .i64 n, .int .i64 d, .int .i64 a, .int .i64 p, .int .i64 f], .int .i64 k] w fun e w' => e = .returned (.int .i64 (aheadF n a f (k - 1) / (d * 65536) + 2)) ∧ Grows w w' := by
  obtain ⟨-, -, -, -, c5, c6, -, -, -⟩ := ahead_bd H (by omega : 0 ≤ k) h2
  obtain ⟨-, -, -, -, g5, g6, -, -, -⟩ := ahead_bd H (by omega : 0 ≤ k - 1) (by omega)
  obtain ⟨b1, b2, b3, b4, b5, b6, b7, b8, b9, b10⟩ := okP_bd H
  have hd0 : 0 ≤ d := by omega
  have hk0 : 0 ≤ k - 1 := by omega
  have hk1 : k - 1 ≤ 65537 := by omega
  have hk2 : 0 ≤ k := by omega
  have kz : (k == 0) = false := by simp; omega
  have wk : IntKind.i64.wrap (k - 1) = k - 1 := IntWalk.i64_in _ (by omega)
  have t3 : (d * 65536 == 0) = false := by simp; omega
  have t4 : ¬ d * 65536 = 0 := by omega
  have t5 : ¬ d * 65536 = -1 := by omega
  have d1 : 0 ≤ aheadF n a f k / (d * 65536) := Int.ediv_nonneg c5 (by omega)
  have d2 : aheadF n a f k / (d * 65536) ≤ aheadF n a f k := Int.ediv_le_self _ c5
  have d3 : 0 ≤ aheadF n a f (k - 1) / (d * 65536) := Int.ediv_nonneg g5 (by omega)
  have d4 : aheadF n a f (k - 1) / (d * 65536) ≤ aheadF n a f (k - 1) := Int.ediv_le_self _ g5
  have t1 : Int.tdiv (aheadF n a f k) (d * 65536) = aheadF n a f k / (d * 65536) := Int.tdiv_eq_ediv_of_nonneg c5
  have t2 : Int.tdiv (aheadF n a f (k - 1)) (d * 65536) = aheadF n a f (k - 1) / (d * 65536) := Int.tdiv_eq_ediv_of_nonneg g5
  have t6 : IntKind.i64.wrap (aheadF n a f k / (d * 65536)) = aheadF n a f k / (d * 65536) := IntWalk.i64_in _ (by omega)
  have t7 : IntKind.i64.wrap (aheadF n a f (k - 1) / (d * 65536)) = aheadF n a f (k - 1) / (d * 65536) := IntWalk.i64_in _ (by omega)
  have t8 : IntKind.i64.wrap (aheadF n a f (k - 1) / (d * 65536) + 2) = aheadF n a f (k - 1) / (d * 65536) + 2 := IntWalk.i64_in _ (by omega)
  have q1 : decide (aheadF n a f (k - 1) / (d * 65536) + 2 < aheadF n a f k / (d * 65536)) = false := by simp; omega
  have q2 : ¬ aheadF n a f (k - 1) / (d * 65536) + 2 < aheadF n a f k / (d * 65536) := by omega
  have hB := (Below.refl w.heap.size w).alloc (Nat.le_refl _) (Obj.cells #[.int .i64 n, .int .i64 d, .int .i64 a, .int .i64 p, .int .i64 f] 27)
  have k2 := Blk.new w 27 #[.int .i64 n, .int .i64 d, .int .i64 a, .int .i64 p, .int .i64 f]
  go_enter Try.func35, Try.ntmps35
  go_wp2
  generalize World.alloc w _ = w1 at *
  refine wp_region_mix (fun w' => Below w.heap.size w w' ∧ Blk w' w.heap.size 27 #[.int .i64 n, .int .i64 d, .int .i64 a, .int .i64 p, .int .i64 f]) [] 16 22 (by kernel_rfl) (by kernel_rfl) rfl ?_ float_none ?_ ?_
  · exact fun w1 w2 ⟨h0, h1⟩ hg => ⟨below_grows h0 (Nat.le_refl _) hg, h1.grows hg⟩
  · exact ⟨hB.drew, k2.drew⟩
  · clear hB k2
    simp only [List.take_succ_cons, List.take_zero, List.drop_succ_cons, List.drop_zero]
    iterate 16
      refine calm_plain rfl rfl (v := ?_) (a' := ?_) (fun w1 hw1 => ?_) ?_ ?_
      rotate_left 2
      · obtain ⟨_, j1⟩ := hw1
        have c1 := j1.cell
        go_simp
        first | exact calm_val | (refine calm_call ?_; refine ahead_any _ _ _ _ _ _ _ ?_ ?_ ?_ <;> first | assumption | omega) | (refine calm_call ?_; refine parts_any _ _ _ _ _ _ ?_ ?_ <;> assumption)
      · simp only [Act.put, List.setIfInBounds_toArray, List.set_cons_succ, List.set_cons_zero]
        rfl
    refine calm_done (end_none ?_)
    rintro w7 ⟨hB, -⟩
    go_wp2
    go_ret
    exact ⟨rfl, hB⟩

set_option maxHeartbeats 8000000 in
theorem need_more (n d a p f k : Int) (w : World) (H : okP n d a p f = true) (h1 : 1 ≤ k) (h2 : k ≤ 65537) (hm : aheadF n a f (k - 1) / (d * 65536) + 2 < aheadF n a f k / (d * 65536)) : Calls Try.prog 35 #[.agg #[.int .i64 n, .int .i64 d, .int .i64 a, .int .i64 p, .int .i64 f], .int .i64 k] w fun e w' => e = .returned (.int .i64 (aheadF n a f k / (d * 65536))) ∧ Grows w w' := by
  obtain ⟨-, -, -, -, c5, c6, -, -, -⟩ := ahead_bd H (by omega : 0 ≤ k) h2
  obtain ⟨-, -, -, -, g5, g6, -, -, -⟩ := ahead_bd H (by omega : 0 ≤ k - 1) (by omega)
  obtain ⟨b1, b2, b3, b4, b5, b6, b7, b8, b9, b10⟩ := okP_bd H
  have hd0 : 0 ≤ d := by omega
  have hk0 : 0 ≤ k - 1 := by omega
  have hk1 : k - 1 ≤ 65537 := by omega
  have hk2 : 0 ≤ k := by omega
  have kz : (k == 0) = false := by simp; omega
  have wk : IntKind.i64.wrap (k - 1) = k - 1 := IntWalk.i64_in _ (by omega)
  have t3 : (d * 65536 == 0) = false := by simp; omega
  have t4 : ¬ d * 65536 = 0 := by omega
  have t5 : ¬ d * 65536 = -1 := by omega
  have d1 : 0 ≤ aheadF n a f k / (d * 65536) := Int.ediv_nonneg c5 (by omega)
  have d2 : aheadF n a f k / (d * 65536) ≤ aheadF n a f k := Int.ediv_le_self _ c5
  have d3 : 0 ≤ aheadF n a f (k - 1) / (d * 65536) := Int.ediv_nonneg g5 (by omega)
  have d4 : aheadF n a f (k - 1) / (d * 65536) ≤ aheadF n a f (k - 1) := Int.ediv_le_self _ g5
  have t1 : Int.tdiv (aheadF n a f k) (d * 65536) = aheadF n a f k / (d * 65536) := Int.tdiv_eq_ediv_of_nonneg c5
  have t2 : Int.tdiv (aheadF n a f (k - 1)) (d * 65536) = aheadF n a f (k - 1) / (d * 65536) := Int.tdiv_eq_ediv_of_nonneg g5
  have t6 : IntKind.i64.wrap (aheadF n a f k / (d * 65536)) = aheadF n a f k / (d * 65536) := IntWalk.i64_in _ (by omega)
  have t7 : IntKind.i64.wrap (aheadF n a f (k - 1) / (d * 65536)) = aheadF n a f (k - 1) / (d * 65536) := IntWalk.i64_in _ (by omega)
  have t8 : IntKind.i64.wrap (aheadF n a f (k - 1) / (d * 65536) + 2) = aheadF n a f (k - 1) / (d * 65536) + 2 := IntWalk.i64_in _ (by omega)
  have q1 : decide (aheadF n a f (k - 1) / (d * 65536) + 2 < aheadF n a f k / (d * 65536)) = true := by simpa using hm
  have hB := (Below.refl w.heap.size w).alloc (Nat.le_refl _) (Obj.cells #[.int .i64 n, .int .i64 d, .int .i64 a, .int .i64 p, .int .i64 f] 27)
  have k2 := Blk.new w 27 #[.int .i64 n, .int .i64 d, .int .i64 a, .int .i64 p, .int .i64 f]
  go_enter Try.func35, Try.ntmps35
  go_wp2
  generalize World.alloc w _ = w1 at *
  refine wp_region_mix (fun w' => Below w.heap.size w w' ∧ Blk w' w.heap.size 27 #[.int .i64 n, .int .i64 d, .int .i64 a, .int .i64 p, .int .i64 f]) [] 16 22 (by kernel_rfl) (by kernel_rfl) rfl ?_ float_none ?_ ?_
  · exact fun w1 w2 ⟨h0, h1⟩ hg => ⟨below_grows h0 (Nat.le_refl _) hg, h1.grows hg⟩
  · exact ⟨hB.drew, k2.drew⟩
  · clear hB k2
    simp only [List.take_succ_cons, List.take_zero, List.drop_succ_cons, List.drop_zero]
    iterate 16
      refine calm_plain rfl rfl (v := ?_) (a' := ?_) (fun w1 hw1 => ?_) ?_ ?_
      rotate_left 2
      · obtain ⟨_, j1⟩ := hw1
        have c1 := j1.cell
        go_simp
        first | exact calm_val | (refine calm_call ?_; refine ahead_any _ _ _ _ _ _ _ ?_ ?_ ?_ <;> first | assumption | omega) | (refine calm_call ?_; refine parts_any _ _ _ _ _ _ ?_ ?_ <;> assumption)
      · simp only [Act.put, List.setIfInBounds_toArray, List.set_cons_succ, List.set_cons_zero]
        rfl
    refine calm_done (end_none ?_)
    rintro w7 ⟨hB, -⟩
    go_wp2
    go_ret
    exact ⟨rfl, hB⟩

theorem need_any (n d a p f k : Int) (w : World) (H : okP n d a p f = true) (h1 : 0 ≤ k) (h2 : k ≤ 65537) : Calls Try.prog 35 #[.agg #[.int .i64 n, .int .i64 d, .int .i64 a, .int .i64 p, .int .i64 f], .int .i64 k] w fun e w' => e = .returned (.int .i64 (needF n d a f k)) ∧ Grows w w' := by
  unfold needF
  by_cases h0 : k = 0
  · subst h0
    go_enter Try.func35, Try.ntmps35
    go_wp2
    go_ret
    exact ⟨rfl, (Below.refl _ _).alloc (Nat.le_refl _) _⟩
  · rw [if_neg h0]
    by_cases hm : aheadF n a f k / (d * 65536) ≤ aheadF n a f (k - 1) / (d * 65536) + 2
    · rw [Int.max_eq_left hm]; exact need_less n d a p f k w H (by omega) h2 hm
    · rw [Int.max_eq_right (by omega)]; exact need_more n d a p f k w H (by omega) h2 (by omega)
def needP (n d a p f k : Int) : Int := if errF n d a p f k = 0 then needF n d a f k else 0
set_option maxHeartbeats 4000000 in
theorem neede_any (n d a p f k : Int) (w : World) : Calls Try.prog 21 #[.agg #[.int .i64 n, .int .i64 d, .int .i64 a, .int .i64 p, .int .i64 f], .int .i64 k] w fun e w' => e = .returned (.tuple #[.int .i64 (needP n d a p f k), .int .i64 (errF n d a p f k)]) ∧ Grows w w' := by
  unfold needP
  by_cases he : errF n d a p f k = 0
  · rw [if_pos he, he]
    have ⟨H, h1, h2⟩ : okP n d a p f = true ∧ 0 ≤ k ∧ k ≤ 65536 := by
      rcases errF_cases n d a p f k with ⟨H, e⟩ | ⟨H, hk, e⟩ | ⟨H, h1, h2, e⟩
      · omega
      · omega
      · exact ⟨H, h1, h2⟩
    go_enter Try.func21, Try.ntmps21
    go_wp2_with fail
    refine (check_any n d a p f k _).mono ?_
    rintro e w1 ⟨rfl, hq⟩
    have k2 := Blk.grows (Blk.new _ _ _) hq
    have hB := below_grows ((Below.refl w.heap.size w).alloc (Nat.le_refl _) _) (by simp) hq
    have x2 := k2.cell
    have f2 := k2.frozen
    have z2 := k2.lt
    clear hq
    rw [he]
    go_wp2_with fail
    refine (need_any n d a p f k _ H h1 (by omega)).mono ?_
    rintro e w2 ⟨rfl, hq⟩
    replace hB := below_grows hB (Nat.le_refl _) hq
    go_wp2
    go_ret2
    exact ⟨rfl, hB⟩
  · rw [if_neg he]
    have hne : (errF n d a p f k == 0) = false := by simpa using he
    go_enter Try.func21, Try.ntmps21
    go_wp2_with fail
    refine (check_any n d a p f k _).mono ?_
    rintro e w1 ⟨rfl, hq⟩
    have k2 := Blk.grows (Blk.new _ _ _) hq
    have hB := below_grows ((Below.refl w.heap.size w).alloc (Nat.le_refl _) _) (by simp) hq
    have x2 := k2.cell
    have f2 := k2.frozen
    have z2 := k2.lt
    clear hq
    go_wp2
    go_ret2
    exact ⟨rfl, hB⟩

set_option maxHeartbeats 4000000 in
theorem sane_any (w : World) : Calls Try.prog 9 #[] w fun e w' => e = .returned (.bool true) ∧ Grows w w' := by
  have e1 : newF 1 1 = ⟨1, 1, 0, 0, 0, 0⟩ := by unfold newF; rw [if_pos (by decide)]
  have e2 : needP 1 1 0 0 0 4 = 5 := by decide
  have e3 : errF 1 1 0 0 0 4 = 0 := by decide
  have e4 : newF 147 160 = ⟨147, 160, 0, 0, 0, 0⟩ := by unfold newF; rw [if_pos (by decide)]
  have e5 : atF 147 160 0 0 0 160 = ⟨147, 0, 0⟩ := by unfold atF; rw [if_pos (by decide)]; simp only [AtV.mk.injEq]; decide
  have e6 : okP 1 1 0 0 0 = true := by decide
  go_enter Try.func9, Try.ntmps9
  go_wp2_with fail
  refine (new_any 1 1 _).mono ?_
  rintro e w1 ⟨rfl, hB⟩
  simp only [e1]
  go_wp2_with fail
  refine (neede_any 1 1 0 0 0 4 _).mono ?_
  rintro e w2 ⟨rfl, hq⟩
  rw [e2, e3]
  have k1 := Blk.grows (Blk.new _ _ _) hq
  replace hB := below_grows (hB.alloc hB.size _) (by simp <;> omega) hq
  clear hq
  have x1 := k1.cell
  have z1 := k1.lt
  go_wp2_with fail
  refine (new_any 147 160 _).mono ?_
  rintro e w3 ⟨rfl, hq⟩
  simp only [e4]
  replace k1 := k1.grows hq
  replace hB := below_grows hB (Nat.le_refl _) hq
  clear hq
  go_wp2_with fail
  refine (at_any 147 160 0 0 0 160 _).mono ?_
  rintro e w4 ⟨rfl, hq⟩
  simp only [e5]
  replace k1 := Blk.grows (k1.alloc _) hq
  replace hB := below_grows (hB.alloc hB.size _) (by simp <;> omega) hq
  replace x1 := k1.cell
  clear hq
  go_wp2_with fail
  refine (valid_any 1 1 0 0 0 _).mono ?_
  rintro e w5 ⟨rfl, hq⟩
  rw [e6]
  replace hB := below_grows hB (Nat.le_refl _) hq
  go_wp2
  go_ret
  exact ⟨rfl, hB⟩

/-- Not too far ahead, a phase can be advanced. -/
theorem adv_val {n d a p f k : Int} (h : okP n d a p f = true) (hp : p ≤ 500000000000000) (h1 : 0 ≤ k) (h2 : k ≤ 4000) :
    advF n d a p f k = ⟨n, d, a, p + aheadF n a f k / (d * 65536), aheadF n a f k % (d * 65536), 0⟩ ∧ okP n d a (p + aheadF n a f k / (d * 65536)) (aheadF n a f k % (d * 65536)) = true ∧ p + aheadF n a f k / (d * 65536) ≤ p + 214000000000000 := by
  obtain ⟨b1, b2, b3, b4, b5, b6, b7, b8, b9, b10⟩ := okP_bd h
  obtain ⟨c1, c2, c3, c4, c5, c6, -, -, -⟩ := ahead_bd h h1 (by omega)
  have he : errF n d a p f k = 0 := by unfold errF; rw [if_neg (by simp [h]), if_neg (by omega)]
  have ha : atF n d a p f k = ⟨p + aheadF n a f k / (d * 65536), aheadF n a f k % (d * 65536), 0⟩ := by unfold atF; rw [if_pos he]
  obtain ⟨d1, d2⟩ := mul_bd h1 h2 (by omega : 0 ≤ n) b2
  obtain ⟨d3, d4⟩ := mul_bd d1 d2 (by omega : 0 ≤ 65536 + a) (by omega : 65536 + a ≤ 69632)
  have hx : aheadF n a f k ≤ 214000000000000 := by unfold aheadF; omega
  have hq := Int.ediv_le_self (a := aheadF n a f k) (d * 65536) c5
  have hp0 := Int.ediv_nonneg c5 (show 0 ≤ d * 65536 by omega)
  have t8 := Int.emod_nonneg (aheadF n a f k) (show d * 65536 ≠ 0 by omega)
  have t9 := Int.emod_lt_of_pos (aheadF n a f k) (show 0 < d * 65536 by omega)
  have hv : advE n d a p f k = 0 := by unfold advE; rw [ha, if_neg (by simp only; omega), he]
  refine ⟨by unfold advF; rw [if_pos hv, ha], okP_mk (okP_r h) b2 b4 ⟨b5, b6⟩ ⟨by omega, by omega⟩ ⟨t8, t9⟩, by omega⟩
/-- Advancing twice is advancing by the sum. -/
theorem adv_add {n d a p f j k : Int} (hd : 0 < d) : p + aheadF n a f j / (d * 65536) + aheadF n a (aheadF n a f j % (d * 65536)) k / (d * 65536) = p + aheadF n a f (j + k) / (d * 65536) ∧
    aheadF n a (aheadF n a f j % (d * 65536)) k % (d * 65536) = aheadF n a f (j + k) % (d * 65536) := by
  have e1 : aheadF n a f (j + k) = aheadF n a (aheadF n a f j % (d * 65536)) k + d * 65536 * (aheadF n a f j / (d * 65536)) := by
    have h := Int.emod_add_mul_ediv (aheadF n a f j) (d * 65536)
    have h2 : (j + k) * n * (65536 + a) = j * n * (65536 + a) + k * n * (65536 + a) := by rw [Int.add_mul, Int.add_mul]
    unfold aheadF at *
    rw [h2]
    omega
  rw [e1, Int.add_mul_ediv_left _ _ (by omega : d * 65536 ≠ 0), Int.add_mul_emod_self_left]
  exact ⟨by omega, rfl⟩
/-- Over its whole period a conversion is exact. -/
theorem adv_period {n d f : Int} (hd : 0 < d) (h1 : 0 ≤ f) (h2 : f < d * 65536) : aheadF n 0 f d / (d * 65536) = n ∧ aheadF n 0 f d % (d * 65536) = f := by
  have e : aheadF n 0 f d = f + d * 65536 * n := by
    unfold aheadF
    rw [Int.add_zero, Int.mul_assoc, Int.mul_comm n 65536, ← Int.mul_assoc]
  rw [e, Int.add_mul_ediv_left _ _ (by omega : d * 65536 ≠ 0), Int.add_mul_emod_self_left, Int.ediv_eq_zero_of_lt h1 h2, Int.emod_eq_of_lt h1 h2]
  exact ⟨by omega, rfl⟩
end Go.Proofs.Ytjdgfcjkpdmodaa
