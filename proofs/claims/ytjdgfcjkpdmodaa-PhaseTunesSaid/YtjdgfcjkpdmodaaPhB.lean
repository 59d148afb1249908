/-
  Layer 14: positions, advanced and retuned phases, program and reference.
-/
import Derived.Test.YtjdgfcjkpdmodaaPhV
import Derived.Test.YtjdgfcjkpdmodaaPhW
import Derived.Test.YtjdgfcjkpdmodaaMix
namespace Go.Proofs.Ytjdgfcjkpdmodaa
open Go.RowKit

theorem mul_bd {x y a b : Int} (h1 : 0 ≤ x) (h2 : x ≤ a) (h3 : 0 ≤ y) (h4 : y ≤ b) : 0 ≤ x * y ∧ x * y ≤ a * b :=
  ⟨Int.mul_nonneg h1 h3, Int.mul_le_mul h2 h4 h3 (by omega)⟩
def aheadF (n a f k : Int) : Int := f + k * n * (65536 + a)
def errF (n d a p f k : Int) : Int := if okP n d a p f = false then 1 else if k < 0 ∨ 65536 < k then 2 else 0
structure AtV where
  p : Int
  f : Int
  e : Int
def atF (n d a p f k : Int) : AtV := if errF n d a p f k = 0 then ⟨p + aheadF n a f k / (d * 65536), aheadF n a f k % (d * 65536), 0⟩ else ⟨0, 0, errF n d a p f k⟩
structure PhV where
  n : Int
  d : Int
  a : Int
  p : Int
  f : Int
  e : Int
def advE (n d a p f k : Int) : Int := if errF n d a p f k = 0 ∧ 1125899906842624 < (atF n d a p f k).p then 2 else errF n d a p f k
def advF (n d a p f k : Int) : PhV := if advE n d a p f k = 0 then ⟨n, d, a, (atF n d a p f k).p, (atF n d a p f k).f, 0⟩ else ⟨0, 0, 0, 0, 0, advE n d a p f k⟩
def newF (n d : Int) : PhV := if okP n d 0 0 0 then ⟨n, d, 0, 0, 0, 0⟩ else ⟨0, 0, 0, 0, 0, 1⟩
def tuneF (n d a p f k : Int) : PhV := if okP n d a p f = false then ⟨0, 0, 0, 0, 0, 1⟩ else if okA k = false then ⟨0, 0, 0, 0, 0, 2⟩ else ⟨n, d, k, p, f, 0⟩
theorem errF_cases (n d a p f k : Int) : (okP n d a p f = false ∧ errF n d a p f k = 1) ∨ (okP n d a p f = true ∧ (k < 0 ∨ 65536 < k) ∧ errF n d a p f k = 2) ∨ (okP n d a p f = true ∧ 0 ≤ k ∧ k ≤ 65536 ∧ errF n d a p f k = 0) := by
  unfold errF
  cases h : okP n d a p f
  · exact .inl ⟨rfl, by simp⟩
  · by_cases hk : k < 0 ∨ 65536 < k
    · exact .inr (.inl ⟨rfl, hk, by simp [hk]⟩)
    · exact .inr (.inr ⟨rfl, by omega, by omega, by simp [hk]⟩)
/-- The bounds of what lies ahead. -/
theorem ahead_bd {n d a p f k : Int} (h : okP n d a p f = true) (h1 : 0 ≤ k) (h2 : k ≤ 65537) :
    0 ≤ k * n ∧ k * n ≤ 50332416000 ∧ 0 ≤ k * n * (65536 + a) ∧ k * n * (65536 + a) ≤ 3504746790912000 ∧ 0 ≤ aheadF n a f k ∧ aheadF n a f k ≤ 3504797122560000 ∧ 0 ≤ n * (65536 + a) ∧ n * (65536 + a) ≤ 53477376000 ∧ k * (n * (65536 + a)) = k * n * (65536 + a) := by
  obtain ⟨b1, b2, b3, b4, b5, b6, b7, b8, b9, b10⟩ := okP_bd h
  obtain ⟨c1, c2⟩ := mul_bd h1 h2 (by omega : 0 ≤ n) b2
  obtain ⟨c3, c4⟩ := mul_bd c1 c2 (by omega : 0 ≤ 65536 + a) (by omega : 65536 + a ≤ 69632)
  obtain ⟨c5, c6⟩ := mul_bd (by omega : 0 ≤ n) b2 (by omega : 0 ≤ 65536 + a) (by omega : 65536 + a ≤ 69632)
  unfold aheadF
  refine ⟨c1, by omega, c3, by omega, by omega, by omega, c5, by omega, (Int.mul_assoc _ _ _).symm⟩

set_option maxHeartbeats 2000000 in
theorem ahead_any (n d a p f k : Int) (w : World) (h : okP n d a p f = true) (h1 : 0 ≤ k) (h2 : k ≤ 65537) : Calls Try.prog 28 #[.agg #[.int .i64 n, .int .i64 d, .int .i64 a, .int .i64 p, .int .i64 f], .int .i64 k] w fun e w' => e = .returned (.int .i64 (aheadF n a f k)) ∧ Grows w w' := by
  obtain ⟨c1, c2, c3, c4, c5, c6, -, -, -⟩ := ahead_bd h h1 h2
  obtain ⟨b1, b2, b3, b4, b5, b6, b7, b8, b9, b10⟩ := okP_bd h
  unfold aheadF at *
  have wa : IntKind.i64.wrap (k * n) = k * n := IntWalk.i64_in _ (by omega)
  have wb : IntKind.i64.wrap (65536 + a) = 65536 + a := IntWalk.i64_in _ (by omega)
  have wc : IntKind.i64.wrap (k * n * (65536 + a)) = k * n * (65536 + a) := IntWalk.i64_in _ (by omega)
  have wd : IntKind.i64.wrap (f + k * n * (65536 + a)) = f + k * n * (65536 + a) := IntWalk.i64_in _ (by omega)
  go_enter Try.func28, Try.ntmps28
  go_wp2
  go_ret
  exact ⟨rfl, (Below.refl _ _).alloc (Nat.le_refl _) _⟩
theorem step_any (n d a p f : Int) (w : World) (h : okP n d a p f = true) : Calls Try.prog 30 #[.agg #[.int .i64 n, .int .i64 d, .int .i64 a, .int .i64 p, .int .i64 f]] w fun e w' => e = .returned (.int .i64 (n * (65536 + a))) ∧ Grows w w' := by
  obtain ⟨-, -, -, -, -, -, c1, c2, -⟩ := ahead_bd (k := 0) h (by omega) (by omega)
  obtain ⟨b1, b2, b3, b4, b5, b6, b7, b8, b9, b10⟩ := okP_bd h
  have wb : IntKind.i64.wrap (65536 + a) = 65536 + a := IntWalk.i64_in _ (by omega)
  have wc : IntKind.i64.wrap (n * (65536 + a)) = n * (65536 + a) := IntWalk.i64_in _ (by omega)
  go_enter Try.func30, Try.ntmps30
  go_wp2
  go_ret
  exact ⟨rfl, (Below.refl _ _).alloc (Nat.le_refl _) _⟩

set_option maxHeartbeats 4000000 in
theorem check_any (n d a p f k : Int) (w : World) : Calls Try.prog 27 #[.agg #[.int .i64 n, .int .i64 d, .int .i64 a, .int .i64 p, .int .i64 f], .int .i64 k] w fun e w' => e = .returned (.int .i64 (errF n d a p f k)) ∧ Grows w w' := by
  rcases errF_cases n d a p f k with ⟨H, he⟩ | ⟨H, hk, he⟩ | ⟨H, h1, h2, he⟩
  all_goals
    rw [he]
    go_enter Try.func27, Try.ntmps27
    go_wp2_with fail
    refine (valid_any n d a p f _).mono ?_
    rintro e w1 ⟨rfl, hq⟩
    rw [H]
    have hB := below_grows ((Below.refl w.heap.size w).alloc (Nat.le_refl _) _) (by simp) hq
    clear hq
    go_wp2
    all_goals first
      | (go_ret; exact ⟨rfl, hB⟩)
      | (exfalso; omega)

set_option maxHeartbeats 8000000 in
theorem at_bad (n d a p f k : Int) (w : World) (he : errF n d a p f k ≠ 0) : Calls Try.prog 12 #[.agg #[.int .i64 n, .int .i64 d, .int .i64 a, .int .i64 p, .int .i64 f], .int .i64 k] w fun e w' => e = .returned (.tuple #[.int .i64 0, .int .i64 0, .int .i64 (errF n d a p f k)]) ∧ Grows w w' := by
  go_enter Try.func12, Try.ntmps12
  have hne : (errF n d a p f k == 0) = false := by simpa using he
  go_wp2_with fail
  refine (check_any n d a p f k _).mono ?_
  rintro e w1 ⟨rfl, hq⟩
  have k2 := Blk.grows (Blk.new _ _ _) hq
  have hB := below_grows ((Below.refl w.heap.size w).alloc (Nat.le_refl _) _) (by simp) hq
  have x2 := k2.cell
  have f2 := k2.frozen
  have z2 := k2.lt
  clear hq
  go_wp2
  refine bodyPost_ret (v := .tuple #[.int .i64 0, .int .i64 0, .int .i64 (errF n d a p f k)]) (by simp [results, Try.results12, go_sem]) rfl ⟨rfl, hB⟩

set_option maxHeartbeats 8000000 in
theorem at_good (n d a p f k : Int) (w : World) (H : okP n d a p f = true) (h1 : 0 ≤ k) (h2 : k ≤ 65536) : Calls Try.prog 12 #[.agg #[.int .i64 n, .int .i64 d, .int .i64 a, .int .i64 p, .int .i64 f], .int .i64 k] w fun e w' => e = .returned (.tuple #[.int .i64 (p + aheadF n a f k / (d * 65536)), .int .i64 (aheadF n a f k % (d * 65536)), .int .i64 0]) ∧ Grows w w' := by
  obtain ⟨c1, c2, c3, c4, c5, c6, -, -, c7⟩ := ahead_bd H h1 (by omega : k ≤ 65537)
  obtain ⟨b1, b2, b3, b4, b5, b6, b7, b8, b9, b10⟩ := okP_bd H
  have d1 : 0 ≤ aheadF n a f k / (d * 65536) := Int.ediv_nonneg c5 (by omega)
  have d2 : aheadF n a f k / (d * 65536) ≤ aheadF n a f k := Int.ediv_le_self _ c5
  have we : IntKind.i64.wrap (p + aheadF n a f k / (d * 65536)) = p + aheadF n a f k / (d * 65536) := IntWalk.i64_in _ (by omega)
  have t1 : Int.tdiv (aheadF n a f k) (d * 65536) = aheadF n a f k / (d * 65536) := Int.tdiv_eq_ediv_of_nonneg c5
  have t2 : Int.tmod (aheadF n a f k) (d * 65536) = aheadF n a f k % (d * 65536) := Int.tmod_eq_emod_of_nonneg c5
  have t3 : (d * 65536 == 0) = false := by simp; omega
  have t4 : ¬ d * 65536 = 0 := by omega
  have t5 : ¬ d * 65536 = -1 := by omega
  have t6 : IntKind.i64.wrap (aheadF n a f k / (d * 65536)) = aheadF n a f k / (d * 65536) := IntWalk.i64_in _ (by omega)
  have t8 := Int.emod_nonneg (aheadF n a f k) t4
  have t9 := Int.emod_lt_of_pos (aheadF n a f k) (show 0 < d * 65536 by omega)
  have t7 : IntKind.i64.wrap (aheadF n a f k % (d * 65536)) = aheadF n a f k % (d * 65536) := IntWalk.i64_in _ (by omega)
  have he : errF n d a p f k = 0 := by unfold errF; rw [if_neg (by simp [H]), if_neg (by omega)]
  go_enter Try.func12, Try.ntmps12
  go_wp2_with fail
  refine (check_any n d a p f k _).mono ?_
  rintro e w1 ⟨rfl, hq⟩
  have k2 := Blk.grows (Blk.new _ _ _) hq
  have hB := below_grows ((Below.refl w.heap.size w).alloc (Nat.le_refl _) _) (by simp) hq
  have x2 := k2.cell
  have f2 := k2.frozen
  have z2 := k2.lt
  clear hq
  rw [he]
  go_wp2_with fail
  refine (ahead_any n d a p f k _ H h1 (by omega)).mono ?_
  rintro e w2 ⟨rfl, hq⟩
  replace k2 := k2.grows hq
  replace hB := below_grows hB (Nat.le_refl _) hq
  clear hq x2 f2 z2
  go_wp2
  generalize hx : aheadF n a f k = x at *
  have hd0 : 0 ≤ d := by omega
  refine wp_region_mix (fun w' => Below w.heap.size w w' ∧ Blk w' w.heap.size 27 #[.int .i64 n, .int .i64 d, .int .i64 a, .int .i64 p, .int .i64 f]) [] 14 29 (by kernel_rfl) (by kernel_rfl) rfl ?_ float_none ?_ ?_
  · exact fun w1 w2 ⟨h0, h1⟩ hg => ⟨below_grows h0 (Nat.le_refl _) hg, h1.grows hg⟩
  · exact ⟨hB.drew, k2.drew⟩
  · clear hB k2
    simp only [List.take_succ_cons, List.take_zero, List.drop_succ_cons, List.drop_zero]
    iterate 14
      refine calm_plain rfl rfl (v := ?_) (a' := ?_) (fun w1 hw1 => ?_) ?_ ?_
      rotate_left 2
      · obtain ⟨_, j1⟩ := hw1
        have c1 := j1.cell
        go_simp
        first | exact calm_val | (refine calm_call ?_; refine parts_any _ _ _ _ _ _ ?_ ?_ <;> assumption)
      · simp only [Act.put, List.setIfInBounds_toArray, List.set_cons_succ, List.set_cons_zero]
        rfl
    refine calm_done (end_none ?_)
    rintro w7 ⟨hB, -⟩
    go_wp2
    refine bodyPost_ret (v := .tuple #[.int .i64 (p + x / (d * 65536)), .int .i64 (x % (d * 65536)), .int .i64 0]) (by simp [results, Try.results12, go_sem]) rfl ⟨by rw [hx], hB⟩

set_option maxHeartbeats 8000000 in
theorem rat_bad (n d a p f k : Int) (w : World) (H : okP n d a p f = false) : Calls Try.prog 13 #[.agg #[.int .i64 n, .int .i64 d, .int .i64 a, .int .i64 p, .int .i64 f], .int .i64 k] w fun e w' => e = .returned (.tuple #[.int .i64 0, .int .i64 0, .int .i64 1]) ∧ Grows w w' := by
  go_enter Try.func13, Try.ntmps13
  go_wp2_with fail
  refine (rvalid_any n d a p f _).mono ?_
  rintro e w1 ⟨rfl, hq⟩
  have k2 := Blk.grows (Blk.new _ _ _) hq
  have hB := below_grows ((Below.refl w.heap.size w).alloc (Nat.le_refl _) _) (by simp) hq
  have x2 := k2.cell
  have f2 := k2.frozen
  have z2 := k2.lt
  clear hq
  rw [H]
  go_wp2
  refine bodyPost_ret (v := .tuple #[.int .i64 0, .int .i64 0, .int .i64 1]) (by simp [results, Try.results13, go_sem]) rfl ⟨rfl, hB⟩

set_option maxHeartbeats 8000000 in
theorem rat_rng (n d a p f k : Int) (w : World) (H : okP n d a p f = true) (hk : k < 0 ∨ 65536 < k) : Calls Try.prog 13 #[.agg #[.int .i64 n, .int .i64 d, .int .i64 a, .int .i64 p, .int .i64 f], .int .i64 k] w fun e w' => e = .returned (.tuple #[.int .i64 0, .int .i64 0, .int .i64 2]) ∧ Grows w w' := by
  go_enter Try.func13, Try.ntmps13
  go_wp2_with fail
  refine (rvalid_any n d a p f _).mono ?_
  rintro e w1 ⟨rfl, hq⟩
  have k2 := Blk.grows (Blk.new _ _ _) hq
  have hB := below_grows ((Below.refl w.heap.size w).alloc (Nat.le_refl _) _) (by simp) hq
  have x2 := k2.cell
  have f2 := k2.frozen
  have z2 := k2.lt
  clear hq
  rw [H]
  go_wp2
  all_goals first
    | (exfalso; omega)
    | (refine bodyPost_ret (v := .tuple #[.int .i64 0, .int .i64 0, .int .i64 2]) (by simp [results, Try.results13, go_sem]) rfl ⟨rfl, hB⟩)

set_option maxHeartbeats 8000000 in
theorem rat_good (n d a p f k : Int) (w : World) (H : okP n d a p f = true) (h1 : 0 ≤ k) (h2 : k ≤ 65536) : Calls Try.prog 13 #[.agg #[.int .i64 n, .int .i64 d, .int .i64 a, .int .i64 p, .int .i64 f], .int .i64 k] w fun e w' => e = .returned (.tuple #[.int .i64 (p + aheadF n a f k / (d * 65536)), .int .i64 (aheadF n a f k % (d * 65536)), .int .i64 0]) ∧ Grows w w' := by
  obtain ⟨c1, c2, c3, c4, c5, c6, -, -, c7⟩ := ahead_bd H h1 (by omega : k ≤ 65537)
  obtain ⟨b1, b2, b3, b4, b5, b6, b7, b8, b9, b10⟩ := okP_bd H
  have d1 : 0 ≤ aheadF n a f k / (d * 65536) := Int.ediv_nonneg c5 (by omega)
  have d2 : aheadF n a f k / (d * 65536) ≤ aheadF n a f k := Int.ediv_le_self _ c5
  have we : IntKind.i64.wrap (p + aheadF n a f k / (d * 65536)) = p + aheadF n a f k / (d * 65536) := IntWalk.i64_in _ (by omega)
  have t1 : Int.tdiv (aheadF n a f k) (d * 65536) = aheadF n a f k / (d * 65536) := Int.tdiv_eq_ediv_of_nonneg c5
  have t2 : Int.tmod (aheadF n a f k) (d * 65536) = aheadF n a f k % (d * 65536) := Int.tmod_eq_emod_of_nonneg c5
  have t3 : (d * 65536 == 0) = false := by simp; omega
  have t4 : ¬ d * 65536 = 0 := by omega
  have t5 : ¬ d * 65536 = -1 := by omega
  have t6 : IntKind.i64.wrap (aheadF n a f k / (d * 65536)) = aheadF n a f k / (d * 65536) := IntWalk.i64_in _ (by omega)
  have t8 := Int.emod_nonneg (aheadF n a f k) t4
  have t9 := Int.emod_lt_of_pos (aheadF n a f k) (show 0 < d * 65536 by omega)
  have t7 : IntKind.i64.wrap (aheadF n a f k % (d * 65536)) = aheadF n a f k % (d * 65536) := IntWalk.i64_in _ (by omega)
  go_enter Try.func13, Try.ntmps13
  go_wp2_with fail
  refine (rvalid_any n d a p f _).mono ?_
  rintro e w1 ⟨rfl, hq⟩
  have k2 := Blk.grows (Blk.new _ _ _) hq
  have hB := below_grows ((Below.refl w.heap.size w).alloc (Nat.le_refl _) _) (by simp) hq
  have x2 := k2.cell
  have f2 := k2.frozen
  have z2 := k2.lt
  clear hq
  rw [H]
  have hd0 : 0 ≤ d := by omega
  have wx : IntKind.i64.wrap (k * n * (65536 + a)) = k * n * (65536 + a) := IntWalk.i64_in _ (by omega)
  have wy : IntKind.i64.wrap (f + k * n * (65536 + a)) = f + k * n * (65536 + a) := IntWalk.i64_in _ (by unfold aheadF at *; omega)
  go_wp2
  refine wp_region_mix (fun w' => Below w.heap.size w w' ∧ Blk w' w.heap.size 27 #[.int .i64 n, .int .i64 d, .int .i64 a, .int .i64 p, .int .i64 f]) [] 8 35 (by kernel_rfl) (by kernel_rfl) rfl ?_ float_none ?_ ?_
  · exact fun w1 w2 ⟨h0, h1⟩ hg => ⟨below_grows h0 (Nat.le_refl _) hg, h1.grows hg⟩
  · exact ⟨hB.drew, k2.drew⟩
  · clear hB k2 x2 f2 z2
    simp only [List.take_succ_cons, List.take_zero, List.drop_succ_cons, List.drop_zero]
    iterate 8
      refine calm_plain rfl rfl (v := ?_) (a' := ?_) (fun w1 hw1 => ?_) ?_ ?_
      rotate_left 2
      · obtain ⟨_, j1⟩ := hw1
        have c1 := j1.cell
        go_simp
        first | exact calm_val | (refine calm_call ?_; exact step_any _ _ _ _ _ _ H)
      · simp only [Act.put, List.setIfInBounds_toArray, List.set_cons_succ, List.set_cons_zero]
        rfl
    refine calm_done (end_none ?_)
    rintro w7 ⟨hB, k2⟩
    go_wp2
    rw [show f + k * n * (65536 + a) = aheadF n a f k from rfl]
    generalize hx : aheadF n a f k = x at *
    refine wp_region_mix (fun w' => Below w.heap.size w w' ∧ Blk w' w.heap.size 27 #[.int .i64 n, .int .i64 d, .int .i64 a, .int .i64 p, .int .i64 f]) [] 14 35 (by kernel_rfl) (by kernel_rfl) rfl ?_ float_none ?_ ?_
    · exact fun w1 w2 ⟨h0, h1⟩ hg => ⟨below_grows h0 (Nat.le_refl _) hg, h1.grows hg⟩
    · exact ⟨hB.drew, k2.drew⟩
    · clear hB k2
      simp only [List.take_succ_cons, List.take_zero, List.drop_succ_cons, List.drop_zero]
      iterate 14
        refine calm_plain rfl rfl (v := ?_) (a' := ?_) (fun w1 hw1 => ?_) ?_ ?_
        rotate_left 2
        · obtain ⟨_, j1⟩ := hw1
          have c1 := j1.cell
          go_simp
          first | exact calm_val | (refine calm_call ?_; refine rparts_any _ _ _ _ _ _ ?_ ?_ <;> assumption)
        · simp only [Act.put, List.setIfInBounds_toArray, List.set_cons_succ, List.set_cons_zero]
          rfl
      refine calm_done (end_none ?_)
      rintro w8 ⟨hB, -⟩
      go_wp2
      refine bodyPost_ret (v := .tuple #[.int .i64 (p + x / (d * 65536)), .int .i64 (x % (d * 65536)), .int .i64 0]) (by simp [results, Try.results13, go_sem]) rfl ⟨by rw [hx], hB⟩

theorem at_any (n d a p f k : Int) (w : World) : Calls Try.prog 12 #[.agg #[.int .i64 n, .int .i64 d, .int .i64 a, .int .i64 p, .int .i64 f], .int .i64 k] w fun e w' => e = .returned (.tuple #[.int .i64 (atF n d a p f k).p, .int .i64 (atF n d a p f k).f, .int .i64 (atF n d a p f k).e]) ∧ Grows w w' := by
  unfold atF
  rcases errF_cases n d a p f k with ⟨H, he⟩ | ⟨H, hk, he⟩ | ⟨H, h1, h2, he⟩
  · rw [if_neg (by omega)]
    exact at_bad n d a p f k w (by omega)
  · rw [if_neg (by omega)]
    exact at_bad n d a p f k w (by omega)
  · rw [if_pos he]
    exact at_good n d a p f k w H h1 h2

theorem rat_any (n d a p f k : Int) (w : World) : Calls Try.prog 13 #[.agg #[.int .i64 n, .int .i64 d, .int .i64 a, .int .i64 p, .int .i64 f], .int .i64 k] w fun e w' => e = .returned (.tuple #[.int .i64 (atF n d a p f k).p, .int .i64 (atF n d a p f k).f, .int .i64 (atF n d a p f k).e]) ∧ Grows w w' := by
  unfold atF
  rcases errF_cases n d a p f k with ⟨H, he⟩ | ⟨H, hk, he⟩ | ⟨H, h1, h2, he⟩
  · rw [if_neg (by omega)]
    simp only [he]; exact rat_bad n d a p f k w H
  · rw [if_neg (by omega)]
    simp only [he]; exact rat_rng n d a p f k w H hk
  · rw [if_pos he]
    exact rat_good n d a p f k w H h1 h2

set_option maxHeartbeats 4000000 in
theorem adv_bad (n d a p f k ap af ae : Int) (w : World) (h1 : (atF n d a p f k).p = ap) (h2 : (atF n d a p f k).f = af) (h3 : (atF n d a p f k).e = ae) (he : ¬ ae = 0) : Calls Try.prog 11 #[.agg #[.int .i64 n, .int .i64 d, .int .i64 a, .int .i64 p, .int .i64 f], .int .i64 k] w fun e w' => e = .returned (.tuple #[.agg #[.int .i64 0, .int .i64 0, .int .i64 0, .int .i64 0, .int .i64 0], .int .i64 ae]) ∧ Grows w w' := by
  have hne : (ae == 0) = false := by simpa using he
  go_enter Try.func11, Try.ntmps11
  go_wp2_with fail
  refine (at_any n d a p f k _).mono ?_
  rintro e w1 ⟨rfl, hq⟩
  rw [h1, h2, h3]
  clear h1 h2 h3
  have k2 := Blk.grows (Blk.alloc (Blk.new _ _ _) _) hq
  have k4 := Blk.grows (blk_new_at (n := w.heap.size + 1) (by simp)) hq
  have hB := below_grows (((Below.refl w.heap.size w).alloc (Nat.le_refl _) _).alloc (by simp) _) (by simp) hq
  have x2 := k2.cell
  have f2 := k2.frozen
  have z2 := k2.lt
  have x4 := k4.cell
  have f4 := k4.frozen
  have z4 := k4.lt
  clear hq
  go_wp2
  refine bodyPost_ret (v := .tuple #[.agg #[.int .i64 0, .int .i64 0, .int .i64 0, .int .i64 0, .int .i64 0], .int .i64 ae]) (by simp [results, Try.results11, go_sem, x4]) rfl ⟨rfl, ?_⟩
  repeat (first | refine Below.setCell ?_ (by simp <;> omega) _ | refine Below.alloc ?_ (by simp <;> omega) _)
  exact hB

set_option maxHeartbeats 4000000 in
theorem adv_rng (n d a p f k ap af ae : Int) (w : World) (h1 : (atF n d a p f k).p = ap) (h2 : (atF n d a p f k).f = af) (h3 : (atF n d a p f k).e = ae) (he : ae = 0) (hp : 1125899906842624 < ap) : Calls Try.prog 11 #[.agg #[.int .i64 n, .int .i64 d, .int .i64 a, .int .i64 p, .int .i64 f], .int .i64 k] w fun e w' => e = .returned (.tuple #[.agg #[.int .i64 0, .int .i64 0, .int .i64 0, .int .i64 0, .int .i64 0], .int .i64 2]) ∧ Grows w w' := by
  subst he
  go_enter Try.func11, Try.ntmps11
  go_wp2_with fail
  refine (at_any n d a p f k _).mono ?_
  rintro e w1 ⟨rfl, hq⟩
  rw [h1, h2, h3]
  clear h1 h2 h3
  have k2 := Blk.grows (Blk.alloc (Blk.new _ _ _) _) hq
  have k4 := Blk.grows (blk_new_at (n := w.heap.size + 1) (by simp)) hq
  have hB := below_grows (((Below.refl w.heap.size w).alloc (Nat.le_refl _) _).alloc (by simp) _) (by simp) hq
  have x2 := k2.cell
  have f2 := k2.frozen
  have z2 := k2.lt
  have x4 := k4.cell
  have f4 := k4.frozen
  have z4 := k4.lt
  clear hq
  go_wp2
  refine bodyPost_ret (v := .tuple #[.agg #[.int .i64 0, .int .i64 0, .int .i64 0, .int .i64 0, .int .i64 0], .int .i64 2]) (by simp [results, Try.results11, go_sem, x4]) rfl ⟨rfl, ?_⟩
  repeat (first | refine Below.setCell ?_ (by simp <;> omega) _ | refine Below.alloc ?_ (by simp <;> omega) _)
  exact hB

set_option maxHeartbeats 4000000 in
theorem adv_good (n d a p f k ap af ae : Int) (w : World) (h1 : (atF n d a p f k).p = ap) (h2 : (atF n d a p f k).f = af) (h3 : (atF n d a p f k).e = ae) (he : ae = 0) (hp : ap ≤ 1125899906842624) : Calls Try.prog 11 #[.agg #[.int .i64 n, .int .i64 d, .int .i64 a, .int .i64 p, .int .i64 f], .int .i64 k] w fun e w' => e = .returned (.tuple #[.agg #[.int .i64 n, .int .i64 d, .int .i64 a, .int .i64 ap, .int .i64 af], .int .i64 0]) ∧ Grows w w' := by
  subst he
  go_enter Try.func11, Try.ntmps11
  go_wp2_with fail
  refine (at_any n d a p f k _).mono ?_
  rintro e w1 ⟨rfl, hq⟩
  rw [h1, h2, h3]
  clear h1 h2 h3
  have k2 := Blk.grows (Blk.alloc (Blk.new _ _ _) _) hq
  have k4 := Blk.grows (blk_new_at (n := w.heap.size + 1) (by simp)) hq
  have hB := below_grows (((Below.refl w.heap.size w).alloc (Nat.le_refl _) _).alloc (by simp) _) (by simp) hq
  have x2 := k2.cell
  have f2 := k2.frozen
  have z2 := k2.lt
  have x4 := k4.cell
  have f4 := k4.frozen
  have z4 := k4.lt
  clear hq
  go_wp2
  refine bodyPost_ret (v := .tuple #[.agg #[.int .i64 n, .int .i64 d, .int .i64 a, .int .i64 ap, .int .i64 af], .int .i64 0]) (by simp [results, Try.results11, go_sem, x4]) rfl ⟨rfl, ?_⟩
  repeat (first | refine Below.setCell ?_ (by simp <;> omega) _ | refine Below.alloc ?_ (by simp <;> omega) _)
  exact hB

theorem adv_any (n d a p f k : Int) (w : World) : Calls Try.prog 11 #[.agg #[.int .i64 n, .int .i64 d, .int .i64 a, .int .i64 p, .int .i64 f], .int .i64 k] w fun e w' => e = .returned (.tuple #[.agg #[.int .i64 (advF n d a p f k).n, .int .i64 (advF n d a p f k).d, .int .i64 (advF n d a p f k).a, .int .i64 (advF n d a p f k).p, .int .i64 (advF n d a p f k).f], .int .i64 (advF n d a p f k).e]) ∧ Grows w w' := by
  have hee : (atF n d a p f k).e = errF n d a p f k := by unfold atF; split <;> simp_all
  by_cases he : errF n d a p f k = 0
  · by_cases hp : 1125899906842624 < (atF n d a p f k).p
    · have e1 : advE n d a p f k = 2 := by unfold advE; rw [if_pos ⟨he, hp⟩]
      have key : advF n d a p f k = ⟨0, 0, 0, 0, 0, 2⟩ := by unfold advF; rw [if_neg (by omega), e1]
      rw [key]
      exact adv_rng n d a p f k _ _ _ w rfl rfl rfl (by rw [hee]; exact he) hp
    · have e1 : advE n d a p f k = 0 := by unfold advE; rw [if_neg (by omega), he]
      have key : advF n d a p f k = ⟨n, d, a, (atF n d a p f k).p, (atF n d a p f k).f, 0⟩ := by unfold advF; rw [if_pos e1]
      rw [key]
      exact adv_good n d a p f k _ _ _ w rfl rfl rfl (by rw [hee]; exact he) (Int.not_lt.1 hp)
  · have e1 : advE n d a p f k = errF n d a p f k := by unfold advE; rw [if_neg (by omega)]
    have key : advF n d a p f k = ⟨0, 0, 0, 0, 0, (atF n d a p f k).e⟩ := by unfold advF; rw [if_neg (by omega), e1, hee]
    rw [key]
    exact adv_bad n d a p f k _ _ _ w rfl rfl rfl (by rw [hee]; exact he)

set_option maxHeartbeats 4000000 in
theorem radv_bad (n d a p f k ap af ae : Int) (w : World) (h1 : (atF n d a p f k).p = ap) (h2 : (atF n d a p f k).f = af) (h3 : (atF n d a p f k).e = ae) (he : ¬ ae = 0) : Calls Try.prog 14 #[.agg #[.int .i64 n, .int .i64 d, .int .i64 a, .int .i64 p, .int .i64 f], .int .i64 k] w fun e w' => e = .returned (.tuple #[.agg #[.int .i64 0, .int .i64 0, .int .i64 0, .int .i64 0, .int .i64 0], .int .i64 ae]) ∧ Grows w w' := by
  have hne : (ae == 0) = false := by simpa using he
  go_enter Try.func14, Try.ntmps14
  go_wp2_with fail
  refine (rat_any n d a p f k _).mono ?_
  rintro e w1 ⟨rfl, hq⟩
  rw [h1, h2, h3]
  clear h1 h2 h3
  have k2 := Blk.grows (Blk.alloc (Blk.new _ _ _) _) hq
  have k4 := Blk.grows (blk_new_at (n := w.heap.size + 1) (by simp)) hq
  have hB := below_grows (((Below.refl w.heap.size w).alloc (Nat.le_refl _) _).alloc (by simp) _) (by simp) hq
  have x2 := k2.cell
  have f2 := k2.frozen
  have z2 := k2.lt
  have x4 := k4.cell
  have f4 := k4.frozen
  have z4 := k4.lt
  clear hq
  go_wp2
  refine bodyPost_ret (v := .tuple #[.agg #[.int .i64 0, .int .i64 0, .int .i64 0, .int .i64 0, .int .i64 0], .int .i64 ae]) (by simp [results, Try.results14, go_sem, x4]) rfl ⟨rfl, ?_⟩
  repeat (first | refine Below.setCell ?_ (by simp <;> omega) _ | refine Below.alloc ?_ (by simp <;> omega) _)
  exact hB

set_option maxHeartbeats 4000000 in
theorem radv_rng (n d a p f k ap af ae : Int) (w : World) (h1 : (atF n d a p f k).p = ap) (h2 : (atF n d a p f k).f = af) (h3 : (atF n d a p f k).e = ae) (he : ae = 0) (hp : 1125899906842624 < ap) : Calls Try.prog 14 #[.agg #[.int .i64 n, .int .i64 d, .int .i64 a, .int .i64 p, .int .i64 f], .int .i64 k] w fun e w' => e = .returned (.tuple #[.agg #[.int .i64 0, .int .i64 0, .int .i64 0, .int .i64 0, .int .i64 0], .int .i64 2]) ∧ Grows w w' := by
  subst he
  go_enter Try.func14, Try.ntmps14
  go_wp2_with fail
  refine (rat_any n d a p f k _).mono ?_
  rintro e w1 ⟨rfl, hq⟩
  rw [h1, h2, h3]
  clear h1 h2 h3
  have k2 := Blk.grows (Blk.alloc (Blk.new _ _ _) _) hq
  have k4 := Blk.grows (blk_new_at (n := w.heap.size + 1) (by simp)) hq
  have hB := below_grows (((Below.refl w.heap.size w).alloc (Nat.le_refl _) _).alloc (by simp) _) (by simp) hq
  have x2 := k2.cell
  have f2 := k2.frozen
  have z2 := k2.lt
  have x4 := k4.cell
  have f4 := k4.frozen
  have z4 := k4.lt
  clear hq
  go_wp2
  refine bodyPost_ret (v := .tuple #[.agg #[.int .i64 0, .int .i64 0, .int .i64 0, .int .i64 0, .int .i64 0], .int .i64 2]) (by simp [results, Try.results14, go_sem, x4]) rfl ⟨rfl, ?_⟩
  repeat (first | refine Below.setCell ?_ (by simp <;> omega) _ | refine Below.alloc ?_ (by simp <;> omega) _)
  exact hB

set_option maxHeartbeats 4000000 in
theorem radv_good (n d a p f k ap af ae : Int) (w : World) (h1 : (atF n d a p f k).p = ap) (h2 : (atF n d a p f k).f = af) (h3 : (atF n d a p f k).e = ae) (he : ae = 0) (hp : ap ≤ 1125899906842624) : Calls Try.prog 14 #[.agg #[.int .i64 n, .int .i64 d, .int .i64 a, .int .i64 p, .int .i64 f], .int .i64 k] w fun e w' => e = .returned (.tuple #[.agg #[.int .i64 n, .int .i64 d, .int .i64 a, .int .i64 ap, .int .i64 af], .int .i64 0]) ∧ Grows w w' := by
  subst he
  go_enter Try.func14, Try.ntmps14
  go_wp2_with fail
  refine (rat_any n d a p f k _).mono ?_
  rintro e w1 ⟨rfl, hq⟩
  rw [h1, h2, h3]
  clear h1 h2 h3
  have k2 := Blk.grows (Blk.alloc (Blk.new _ _ _) _) hq
  have k4 := Blk.grows (blk_new_at (n := w.heap.size + 1) (by simp)) hq
  have hB := below_grows (((Below.refl w.heap.size w).alloc (Nat.le_refl _) _).alloc (by simp) _) (by simp) hq
  have x2 := k2.cell
  have f2 := k2.frozen
  have z2 := k2.lt
  have x4 := k4.cell
  have f4 := k4.frozen
  have z4 := k4.lt
  clear hq
  go_wp2
  refine bodyPost_ret (v := .tuple #[.agg #[.int .i64 n, .int .i64 d, .int .i64 a, .int .i64 ap, .int .i64 af], .int .i64 0]) (by simp [results, Try.results14, go_sem, x4]) rfl ⟨rfl, ?_⟩
  repeat (first | refine Below.setCell ?_ (by simp <;> omega) _ | refine Below.alloc ?_ (by simp <;> omega) _)
  exact hB

theorem radv_any (n d a p f k : Int) (w : World) : Calls Try.prog 14 #[.agg #[.int .i64 n, .int .i64 d, .int .i64 a, .int .i64 p, .int .i64 f], .int .i64 k] w fun e w' => e = .returned (.tuple #[.agg #[.int .i64 (advF n d a p f k).n, .int .i64 (advF n d a p f k).d, .int .i64 (advF n d a p f k).a, .int .i64 (advF n d a p f k).p, .int .i64 (advF n d a p f k).f], .int .i64 (advF n d a p f k).e]) ∧ Grows w w' := by
  have hee : (atF n d a p f k).e = errF n d a p f k := by unfold atF; split <;> simp_all
  by_cases he : errF n d a p f k = 0
  · by_cases hp : 1125899906842624 < (atF n d a p f k).p
    · have e1 : advE n d a p f k = 2 := by unfold advE; rw [if_pos ⟨he, hp⟩]
      have key : advF n d a p f k = ⟨0, 0, 0, 0, 0, 2⟩ := by unfold advF; rw [if_neg (by omega), e1]
      rw [key]
      exact radv_rng n d a p f k _ _ _ w rfl rfl rfl (by rw [hee]; exact he) hp
    · have e1 : advE n d a p f k = 0 := by unfold advE; rw [if_neg (by omega), he]
      have key : advF n d a p f k = ⟨n, d, a, (atF n d a p f k).p, (atF n d a p f k).f, 0⟩ := by unfold advF; rw [if_pos e1]
      rw [key]
      exact radv_good n d a p f k _ _ _ w rfl rfl rfl (by rw [hee]; exact he) (Int.not_lt.1 hp)
  · have e1 : advE n d a p f k = errF n d a p f k := by unfold advE; rw [if_neg (by omega)]
    have key : advF n d a p f k = ⟨0, 0, 0, 0, 0, (atF n d a p f k).e⟩ := by unfold advF; rw [if_neg (by omega), e1, hee]
    rw [key]
    exact radv_bad n d a p f k _ _ _ w rfl rfl rfl (by rw [hee]; exact he)

set_option maxHeartbeats 4000000 in
theorem new_no (n d : Int) (w : World) (H : okP n d 0 0 0 = false) : Calls Try.prog 19 #[.agg #[.int .i64 n, .int .i64 d]] w fun e w' => e = .returned (.tuple #[.agg #[.int .i64 0, .int .i64 0, .int .i64 0, .int .i64 0, .int .i64 0], .int .i64 1]) ∧ Grows w w' := by
  go_enter Try.func19, Try.ntmps19
  go_wp2_with fail
  refine (valid_any n d 0 0 0 _).mono ?_
  rintro e w1 ⟨rfl, hq⟩
  rw [H]
  have k2 := Blk.grows (Blk.alloc (blk_new_at (n := w.heap.size + 1) (by simp)) _) hq
  have k4 := Blk.grows (blk_new_at (n := w.heap.size + 2) (by simp)) hq
  have hB := below_grows ((((Below.refl w.heap.size w).alloc (Nat.le_refl _) _).alloc (by simp) _).alloc (by simp <;> omega) _) (by simp <;> omega) hq
  have x2 := k2.cell
  have f2 := k2.frozen
  have z2 := k2.lt
  have x4 := k4.cell
  have z4 := k4.lt
  clear hq
  go_wp2
  refine bodyPost_ret (v := .tuple #[.agg #[.int .i64 0, .int .i64 0, .int .i64 0, .int .i64 0, .int .i64 0], .int .i64 1]) (by simp [results, Try.results19, go_sem, x2]) rfl ⟨rfl, ?_⟩
  repeat (first | refine Below.setCell ?_ (by simp <;> omega) _ | refine Below.alloc ?_ (by simp <;> omega) _)
  exact hB

set_option maxHeartbeats 4000000 in
theorem new_yes (n d : Int) (w : World) (H : okP n d 0 0 0 = true) : Calls Try.prog 19 #[.agg #[.int .i64 n, .int .i64 d]] w fun e w' => e = .returned (.tuple #[.agg #[.int .i64 n, .int .i64 d, .int .i64 0, .int .i64 0, .int .i64 0], .int .i64 0]) ∧ Grows w w' := by
  go_enter Try.func19, Try.ntmps19
  go_wp2_with fail
  refine (valid_any n d 0 0 0 _).mono ?_
  rintro e w1 ⟨rfl, hq⟩
  rw [H]
  have k2 := Blk.grows (Blk.alloc (blk_new_at (n := w.heap.size + 1) (by simp)) _) hq
  have k4 := Blk.grows (blk_new_at (n := w.heap.size + 2) (by simp)) hq
  have hB := below_grows ((((Below.refl w.heap.size w).alloc (Nat.le_refl _) _).alloc (by simp) _).alloc (by simp <;> omega) _) (by simp <;> omega) hq
  have x2 := k2.cell
  have f2 := k2.frozen
  have z2 := k2.lt
  have x4 := k4.cell
  have z4 := k4.lt
  clear hq
  go_wp2
  refine bodyPost_ret (v := .tuple #[.agg #[.int .i64 n, .int .i64 d, .int .i64 0, .int .i64 0, .int .i64 0], .int .i64 0]) (by simp [results, Try.results19, go_sem, x2]) rfl ⟨rfl, ?_⟩
  repeat (first | refine Below.setCell ?_ (by simp <;> omega) _ | refine Below.alloc ?_ (by simp <;> omega) _)
  exact hB

theorem new_any (n d : Int) (w : World) : Calls Try.prog 19 #[.agg #[.int .i64 n, .int .i64 d]] w fun e w' => e = .returned (.tuple #[.agg #[.int .i64 (newF n d).n, .int .i64 (newF n d).d, .int .i64 (newF n d).a, .int .i64 (newF n d).p, .int .i64 (newF n d).f], .int .i64 (newF n d).e]) ∧ Grows w w' := by
  unfold newF
  cases H : okP n d 0 0 0
  · exact new_no n d w H
  · exact new_yes n d w H

set_option maxHeartbeats 4000000 in
theorem tune_bad (n d a p f k : Int) (w : World) (H : okP n d a p f = false) : Calls Try.prog 15 #[.agg #[.int .i64 n, .int .i64 d, .int .i64 a, .int .i64 p, .int .i64 f], .int .i64 k] w fun e w' => e = .returned (.tuple #[.agg #[.int .i64 0, .int .i64 0, .int .i64 0, .int .i64 0, .int .i64 0], .int .i64 1]) ∧ Grows w w' := by
  go_enter Try.func15, Try.ntmps15
  go_wp2_with fail
  refine (valid_any n d a p f _).mono ?_
  rintro e w1 ⟨rfl, hq⟩
  rw [H]
  have k2 := Blk.grows (Blk.alloc (Blk.new _ _ _) _) hq
  have k4 := Blk.grows (blk_new_at (n := w.heap.size + 1) (by simp)) hq
  have hB := below_grows (((Below.refl w.heap.size w).alloc (Nat.le_refl _) _).alloc (by simp) _) (by simp) hq
  have x2 := k2.cell
  have f2 := k2.frozen
  have z2 := k2.lt
  have x4 := k4.cell
  have f4 := k4.frozen
  have z4 := k4.lt
  clear hq
  go_wp2_with (go_at_call 32; refine (tuned_any _ _).mono ?_; rintro e w' ⟨rfl, rfl⟩)
  refine bodyPost_ret (v := .tuple #[.agg #[.int .i64 0, .int .i64 0, .int .i64 0, .int .i64 0, .int .i64 0], .int .i64 1]) (by simp [results, Try.results15, go_sem, x4]) rfl ⟨rfl, ?_⟩
  repeat (first | refine Below.setCell ?_ (by simp <;> omega) _ | refine Below.alloc ?_ (by simp <;> omega) _)
  exact hB

set_option maxHeartbeats 4000000 in
theorem tune_rng (n d a p f k : Int) (w : World) (H : okP n d a p f = true) (HA : okA k = false) : Calls Try.prog 15 #[.agg #[.int .i64 n, .int .i64 d, .int .i64 a, .int .i64 p, .int .i64 f], .int .i64 k] w fun e w' => e = .returned (.tuple #[.agg #[.int .i64 0, .int .i64 0, .int .i64 0, .int .i64 0, .int .i64 0], .int .i64 2]) ∧ Grows w w' := by
  go_enter Try.func15, Try.ntmps15
  go_wp2_with fail
  refine (valid_any n d a p f _).mono ?_
  rintro e w1 ⟨rfl, hq⟩
  rw [H]
  have k2 := Blk.grows (Blk.alloc (Blk.new _ _ _) _) hq
  have k4 := Blk.grows (blk_new_at (n := w.heap.size + 1) (by simp)) hq
  have hB := below_grows (((Below.refl w.heap.size w).alloc (Nat.le_refl _) _).alloc (by simp) _) (by simp) hq
  have x2 := k2.cell
  have f2 := k2.frozen
  have z2 := k2.lt
  have x4 := k4.cell
  have f4 := k4.frozen
  have z4 := k4.lt
  clear hq
  go_wp2_with (go_at_call 32; refine (tuned_any _ _).mono ?_; rintro e w' ⟨rfl, rfl⟩)
  refine bodyPost_ret (v := .tuple #[.agg #[.int .i64 0, .int .i64 0, .int .i64 0, .int .i64 0, .int .i64 0], .int .i64 2]) (by simp [results, Try.results15, go_sem, x4]) rfl ⟨rfl, ?_⟩
  repeat (first | refine Below.setCell ?_ (by simp <;> omega) _ | refine Below.alloc ?_ (by simp <;> omega) _)
  exact hB

set_option maxHeartbeats 4000000 in
theorem tune_good (n d a p f k : Int) (w : World) (H : okP n d a p f = true) (HA : okA k = true) : Calls Try.prog 15 #[.agg #[.int .i64 n, .int .i64 d, .int .i64 a, .int .i64 p, .int .i64 f], .int .i64 k] w fun e w' => e = .returned (.tuple #[.agg #[.int .i64 n, .int .i64 d, .int .i64 k, .int .i64 p, .int .i64 f], .int .i64 0]) ∧ Grows w w' := by
  have ⟨ha1, ha2⟩ : -4096 ≤ k ∧ k ≤ 4096 := by simpa [okA] using HA
  go_enter Try.func15, Try.ntmps15
  go_wp2_with fail
  refine (valid_any n d a p f _).mono ?_
  rintro e w1 ⟨rfl, hq⟩
  rw [H]
  have k2 := Blk.grows (Blk.alloc (Blk.new _ _ _) _) hq
  have k4 := Blk.grows (blk_new_at (n := w.heap.size + 1) (by simp)) hq
  have hB := below_grows (((Below.refl w.heap.size w).alloc (Nat.le_refl _) _).alloc (by simp) _) (by simp) hq
  have x2 := k2.cell
  have f2 := k2.frozen
  have z2 := k2.lt
  have x4 := k4.cell
  have f4 := k4.frozen
  have z4 := k4.lt
  clear hq
  go_wp2_with (go_at_call 32; refine (tuned_any _ _).mono ?_; rintro e w' ⟨rfl, rfl⟩)
  refine bodyPost_ret (v := .tuple #[.agg #[.int .i64 n, .int .i64 d, .int .i64 k, .int .i64 p, .int .i64 f], .int .i64 0]) (by simp [results, Try.results15, go_sem, x4]) rfl ⟨rfl, ?_⟩
  repeat (first | refine Below.setCell ?_ (by simp <;> omega) _ | refine Below.alloc ?_ (by simp <;> omega) _)
  exact hB

theorem tune_any (n d a p f k : Int) (w : World) : Calls Try.prog 15 #[.agg #[.int .i64 n, .int .i64 d, .int .i64 a, .int .i64 p, .int .i64 f], .int .i64 k] w fun e w' => e = .returned (.tuple #[.agg #[.int .i64 (tuneF n d a p f k).n, .int .i64 (tuneF n d a p f k).d, .int .i64 (tuneF n d a p f k).a, .int .i64 (tuneF n d a p f k).p, .int .i64 (tuneF n d a p f k).f], .int .i64 (tuneF n d a p f k).e]) ∧ Grows w w' := by
  unfold tuneF
  cases H : okP n d a p f
  · exact tune_bad n d a p f k w H
  · cases HA : okA k
    · exact tune_rng n d a p f k w H HA
    · exact tune_good n d a p f k w H HA

set_option maxHeartbeats 4000000 in
theorem rnew_no (n d : Int) (w : World) (H : okP n d 0 0 0 = false) : Calls Try.prog 20 #[.agg #[.int .i64 n, .int .i64 d]] w fun e w' => e = .returned (.tuple #[.agg #[.int .i64 0, .int .i64 0, .int .i64 0, .int .i64 0, .int .i64 0], .int .i64 1]) ∧ Grows w w' := by
  go_enter Try.func20, Try.ntmps20
  go_wp2_with fail
  refine (rvalid_any n d 0 0 0 _).mono ?_
  rintro e w1 ⟨rfl, hq⟩
  rw [H]
  have k2 := Blk.grows (Blk.alloc (blk_new_at (n := w.heap.size + 1) (by simp)) _) hq
  have k4 := Blk.grows (blk_new_at (n := w.heap.size + 2) (by simp)) hq
  have hB := below_grows ((((Below.refl w.heap.size w).alloc (Nat.le_refl _) _).alloc (by simp) _).alloc (by simp <;> omega) _) (by simp <;> omega) hq
  have x2 := k2.cell
  have f2 := k2.frozen
  have z2 := k2.lt
  have x4 := k4.cell
  have z4 := k4.lt
  clear hq
  go_wp2
  refine bodyPost_ret (v := .tuple #[.agg #[.int .i64 0, .int .i64 0, .int .i64 0, .int .i64 0, .int .i64 0], .int .i64 1]) (by simp [results, Try.results20, go_sem, x2]) rfl ⟨rfl, ?_⟩
  repeat (first | refine Below.setCell ?_ (by simp <;> omega) _ | refine Below.alloc ?_ (by simp <;> omega) _)
  exact hB

set_option maxHeartbeats 4000000 in
theorem rnew_yes (n d : Int) (w : World) (H : okP n d 0 0 0 = true) : Calls Try.prog 20 #[.agg #[.int .i64 n, .int .i64 d]] w fun e w' => e = .returned (.tuple #[.agg #[.int .i64 n, .int .i64 d, .int .i64 0, .int .i64 0, .int .i64 0], .int .i64 0]) ∧ Grows w w' := by
  go_enter Try.func20, Try.ntmps20
  go_wp2_with fail
  refine (rvalid_any n d 0 0 0 _).mono ?_
  rintro e w1 ⟨rfl, hq⟩
  rw [H]
  have k2 := Blk.grows (Blk.alloc (blk_new_at (n := w.heap.size + 1) (by simp)) _) hq
  have k4 := Blk.grows (blk_new_at (n := w.heap.size + 2) (by simp)) hq
  have hB := below_grows ((((Below.refl w.heap.size w).alloc (Nat.le_refl _) _).alloc (by simp) _).alloc (by simp <;> omega) _) (by simp <;> omega) hq
  have x2 := k2.cell
  have f2 := k2.frozen
  have z2 := k2.lt
  have x4 := k4.cell
  have z4 := k4.lt
  clear hq
  go_wp2
  refine bodyPost_ret (v := .tuple #[.agg #[.int .i64 n, .int .i64 d, .int .i64 0, .int .i64 0, .int .i64 0], .int .i64 0]) (by simp [results, Try.results20, go_sem, x2]) rfl ⟨rfl, ?_⟩
  repeat (first | refine Below.setCell ?_ (by simp <;> omega) _ | refine Below.alloc ?_ (by simp <;> omega) _)
  exact hB

theorem rnew_any (n d : Int) (w : World) : Calls Try.prog 20 #[.agg #[.int .i64 n, .int .i64 d]] w fun e w' => e = .returned (.tuple #[.agg #[.int .i64 (newF n d).n, .int .i64 (newF n d).d, .int .i64 (newF n d).a, .int .i64 (newF n d).p, .int .i64 (newF n d).f], .int .i64 (newF n d).e]) ∧ Grows w w' := by
  unfold newF
  cases H : okP n d 0 0 0
  · exact rnew_no n d w H
  · exact rnew_yes n d w H

set_option maxHeartbeats 4000000 in
theorem rtune_bad (n d a p f k : Int) (w : World) (H : okP n d a p f = false) : Calls Try.prog 16 #[.agg #[.int .i64 n, .int .i64 d, .int .i64 a, .int .i64 p, .int .i64 f], .int .i64 k] w fun e w' => e = .returned (.tuple #[.agg #[.int .i64 0, .int .i64 0, .int .i64 0, .int .i64 0, .int .i64 0], .int .i64 1]) ∧ Grows w w' := by
  go_enter Try.func16, Try.ntmps16
  go_wp2_with fail
  refine (rvalid_any n d a p f _).mono ?_
  rintro e w1 ⟨rfl, hq⟩
  rw [H]
  have k2 := Blk.grows (Blk.alloc (Blk.new _ _ _) _) hq
  have k4 := Blk.grows (blk_new_at (n := w.heap.size + 1) (by simp)) hq
  have hB := below_grows (((Below.refl w.heap.size w).alloc (Nat.le_refl _) _).alloc (by simp) _) (by simp) hq
  have x2 := k2.cell
  have f2 := k2.frozen
  have z2 := k2.lt
  have x4 := k4.cell
  have f4 := k4.frozen
  have z4 := k4.lt
  clear hq
  go_wp2_with fail
  refine bodyPost_ret (v := .tuple #[.agg #[.int .i64 0, .int .i64 0, .int .i64 0, .int .i64 0, .int .i64 0], .int .i64 1]) (by simp [results, Try.results16, go_sem, x4]) rfl ⟨rfl, ?_⟩
  repeat (first | refine Below.setCell ?_ (by simp <;> omega) _ | refine Below.alloc ?_ (by simp <;> omega) _)
  exact hB

set_option maxHeartbeats 4000000 in
theorem rtune_rng (n d a p f k : Int) (w : World) (H : okP n d a p f = true) (HA : okA k = false) : Calls Try.prog 16 #[.agg #[.int .i64 n, .int .i64 d, .int .i64 a, .int .i64 p, .int .i64 f], .int .i64 k] w fun e w' => e = .returned (.tuple #[.agg #[.int .i64 0, .int .i64 0, .int .i64 0, .int .i64 0, .int .i64 0], .int .i64 2]) ∧ Grows w w' := by
  go_enter Try.func16, Try.ntmps16
  go_wp2_with fail
  refine (rvalid_any n d a p f _).mono ?_
  rintro e w1 ⟨rfl, hq⟩
  rw [H]
  have k2 := Blk.grows (Blk.alloc (Blk.new _ _ _) _) hq
  have k4 := Blk.grows (blk_new_at (n := w.heap.size + 1) (by simp)) hq
  have hB := below_grows (((Below.refl w.heap.size w).alloc (Nat.le_refl _) _).alloc (by simp) _) (by simp) hq
  have x2 := k2.cell
  have f2 := k2.frozen
  have z2 := k2.lt
  have x4 := k4.cell
  have f4 := k4.frozen
  have z4 := k4.lt
  clear hq
  go_wp2_with fail
  all_goals first
    | (exfalso; have hA := HA; simp only [okA, Bool.and_eq_false_iff, decide_eq_false_iff_not] at hA; omega)
    | (refine bodyPost_ret (v := .tuple #[.agg #[.int .i64 0, .int .i64 0, .int .i64 0, .int .i64 0, .int .i64 0], .int .i64 2]) (by simp [results, Try.results16, go_sem, x4]) rfl ⟨rfl, ?_⟩
       repeat (first | refine Below.setCell ?_ (by simp <;> omega) _ | refine Below.alloc ?_ (by simp <;> omega) _)
       exact hB)

set_option maxHeartbeats 4000000 in
theorem rtune_good (n d a p f k : Int) (w : World) (H : okP n d a p f = true) (HA : okA k = true) : Calls Try.prog 16 #[.agg #[.int .i64 n, .int .i64 d, .int .i64 a, .int .i64 p, .int .i64 f], .int .i64 k] w fun e w' => e = .returned (.tuple #[.agg #[.int .i64 n, .int .i64 d, .int .i64 k, .int .i64 p, .int .i64 f], .int .i64 0]) ∧ Grows w w' := by
  have ⟨ha1, ha2⟩ : -4096 ≤ k ∧ k ≤ 4096 := by simpa [okA] using HA
  go_enter Try.func16, Try.ntmps16
  go_wp2_with fail
  refine (rvalid_any n d a p f _).mono ?_
  rintro e w1 ⟨rfl, hq⟩
  rw [H]
  have k2 := Blk.grows (Blk.alloc (Blk.new _ _ _) _) hq
  have k4 := Blk.grows (blk_new_at (n := w.heap.size + 1) (by simp)) hq
  have hB := below_grows (((Below.refl w.heap.size w).alloc (Nat.le_refl _) _).alloc (by simp) _) (by simp) hq
  have x2 := k2.cell
  have f2 := k2.frozen
  have z2 := k2.lt
  have x4 := k4.cell
  have f4 := k4.frozen
  have z4 := k4.lt
  clear hq
  go_wp2_with fail
  refine bodyPost_ret (v := .tuple #[.agg #[.int .i64 n, .int .i64 d, .int .i64 k, .int .i64 p, .int .i64 f], .int .i64 0]) (by simp [results, Try.results16, go_sem, x4]) rfl ⟨rfl, ?_⟩
  repeat (first | refine Below.setCell ?_ (by simp <;> omega) _ | refine Below.alloc ?_ (by simp <;> omega) _)
  exact hB

theorem rtune_any (n d a p f k : Int) (w : World) : Calls Try.prog 16 #[.agg #[.int .i64 n, .int .i64 d, .int .i64 a, .int .i64 p, .int .i64 f], .int .i64 k] w fun e w' => e = .returned (.tuple #[.agg #[.int .i64 (tuneF n d a p f k).n, .int .i64 (tuneF n d a p f k).d, .int .i64 (tuneF n d a p f k).a, .int .i64 (tuneF n d a p f k).p, .int .i64 (tuneF n d a p f k).f], .int .i64 (tuneF n d a p f k).e]) ∧ Grows w w' := by
  unfold tuneF
  cases H : okP n d a p f
  · exact rtune_bad n d a p f k w H
  · cases HA : okA k
    · exact rtune_rng n d a p f k w H HA
    · exact rtune_good n d a p f k w H HA

end Go.Proofs.Ytjdgfcjkpdmodaa
