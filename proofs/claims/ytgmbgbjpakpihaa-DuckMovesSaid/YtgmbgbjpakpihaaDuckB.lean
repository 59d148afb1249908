/-
  Contracts of layer 32 (duck), second part: Step, Quanta, the maker of inputs, the sanity check.
-/
import Derived.Test.YtgmbgbjpakpihaaDuckA
import Derived.RegionTactic
import Derived.ChangeAlike
import Derived.Deep.QuietTactic
import Derived.BigQuiet
import Derived.Test.YtgmbgbjpakpihaaStep
namespace Go.Proofs.Ytgmbgbjpakpihaa
open Go.RowKit

theorem nextE_ok {g q a r h t : Int} (H : okD g q a r h = true) (h1 : 0 ≤ t) (h2 : t ≤ 262144) : okD (nextE g q a r h t).1 (nextE g q a r h t).2 a r h = true := by
  obtain ⟨b1, b2, b3, b4, b5, b6, b7, b8, b9, b10⟩ := okD_bd H
  unfold nextE
  split
  · exact okD_mk (by simp only; omega)
  · split
    · split
      · exact okD_mk (by simp only; omega)
      · exact okD_mk (by simp only; omega)
    · exact okD_mk (by simp only; omega)
theorem div_step (x : Int) {a : Int} (h : 1 ≤ a) : (x + a) / a = x / a + 1 := by
  have := Int.add_mul_ediv_right x 1 (c := a) (by omega)
  rwa [Int.one_mul] at this
theorem quanta_zero {g q a r h : Int} : quantaF g q a r h g = 0 := by simp [quantaF]
theorem quanta_down {g q a r h t : Int} (H : okD g q a r h = true) (h1 : 0 ≤ t) (h2 : t ≤ 262144) (h3 : t < g) : quantaF g q a r h t = (g - t - 1) / a + 1 := by
  obtain ⟨b1, b2, b3, b4, b5, b6, b7, b8, b9, b10⟩ := okD_bd H
  unfold quantaF
  rw [if_neg (by rw [H]; simp; omega), if_pos h3, show g - t + a - 1 = (g - t - 1) + a by omega, div_step _ b7]
theorem quanta_up {g q a r h t : Int} (H : okD g q a r h = true) (h1 : 0 ≤ t) (h2 : t ≤ 262144) (h3 : g < t) : quantaF g q a r h t = q + ((t - g - 1) / r + 1) := by
  obtain ⟨b1, b2, b3, b4, b5, b6, b7, b8, b9, b10⟩ := okD_bd H
  unfold quantaF
  rw [if_neg (by rw [H]; simp; omega), if_neg (by omega), show t - g + r - 1 = (t - g - 1) + r by omega, div_step _ b9]
theorem quanta_next {g q a r h t : Int} (H : okD g q a r h = true) (h1 : 0 ≤ t) (h2 : t ≤ 262144) (hne : g ≠ t) : quantaF (nextE g q a r h t).1 (nextE g q a r h t).2 a r h t + 1 = quantaF g q a r h t := by
  have H2 := nextE_ok H h1 h2
  obtain ⟨b1, b2, b3, b4, b5, b6, b7, b8, b9, b10⟩ := okD_bd H
  by_cases c1 : t < g
  · rw [quanta_down H h1 h2 c1]
    have e : nextE g q a r h t = (max t (g - a), h) := by unfold nextE; rw [if_pos c1]
    rw [e] at H2 ⊢
    by_cases c2 : g - a ≤ t
    · have e2 : max t (g - a) = t := by omega
      simp only [e2, quanta_zero]
      rw [Int.ediv_eq_zero_of_lt (by omega) (by omega)]
    · have e2 : max t (g - a) = g - a := by omega
      simp only [e2] at H2 ⊢
      rw [quanta_down H2 h1 h2 (by omega)]
      have := div_step (g - a - t - 1) b7
      rw [show g - a - t - 1 + a = g - t - 1 by omega] at this
      omega
  · have c2 : g < t := by omega
    rw [quanta_up H h1 h2 c2]
    by_cases c3 : 0 < q
    · have e : nextE g q a r h t = (g, q - 1) := by unfold nextE; rw [if_neg c1, if_pos c2, if_pos c3]
      rw [e] at H2 ⊢
      simp only at H2 ⊢
      rw [quanta_up H2 h1 h2 c2]
      omega
    · have e : nextE g q a r h t = (min t (g + r), 0) := by unfold nextE; rw [if_neg c1, if_pos c2, if_neg c3]
      rw [e] at H2 ⊢
      by_cases c4 : t ≤ g + r
      · have e2 : min t (g + r) = t := by omega
        simp only [e2, quanta_zero]
        rw [Int.ediv_eq_zero_of_lt (by omega) (by omega)]
        omega
      · have e2 : min t (g + r) = g + r := by omega
        simp only [e2] at H2 ⊢
        rw [quanta_up H2 h1 h2 (by omega)]
        have := div_step (t - (g + r) - 1) b9
        rw [show t - (g + r) - 1 + r = t - g - 1 by omega] at this
        omega
theorem quanta_bd {g q a r h t : Int} (H : okD g q a r h = true) (h1 : 0 ≤ t) (h2 : t ≤ 262144) : 0 ≤ quantaF g q a r h t ∧ quantaF g q a r h t ≤ 266241 := by
  obtain ⟨b1, b2, b3, b4, b5, b6, b7, b8, b9, b10⟩ := okD_bd H
  by_cases c1 : t < g
  · rw [quanta_down H h1 h2 c1]
    have x1 := Int.ediv_nonneg (show 0 ≤ g - t - 1 by omega) (show 0 ≤ a by omega)
    have x2 := Int.ediv_le_self a (show 0 ≤ g - t - 1 by omega)
    omega
  · by_cases c2 : g < t
    · rw [quanta_up H h1 h2 c2]
      have x1 := Int.ediv_nonneg (show 0 ≤ t - g - 1 by omega) (show 0 ≤ r by omega)
      have x2 := Int.ediv_le_self r (show 0 ≤ t - g - 1 by omega)
      omega
    · have : t = g := by omega
      subst this
      rw [quanta_zero]
      omega
theorem quanta_pos {g q a r h t : Int} (H : okD g q a r h = true) (h1 : 0 ≤ t) (h2 : t ≤ 262144) (hne : g ≠ t) : 0 < quantaF g q a r h t := by
  have := quanta_next H h1 h2 hne
  have := (quanta_bd (nextE_ok H h1 h2) h1 h2).1
  omega

set_option maxHeartbeats 8000000 in
theorem step_bad (g q a r h t p : Int) (w : World) (H : okD g q a r h = false) : Calls Try.prog 11 #[.agg #[.int .i64 g, .int .i64 q], .agg #[.int .i64 a, .int .i64 r, .int .i64 h], .int .i64 t, .int .i64 p] w fun e w' => e = .returned (.tuple #[.agg #[.int .i64 0, .int .i64 0], .agg #[.int .i64 0, .int .i64 0, .int .i64 0, .int .i64 0], .int .i64 1]) ∧ Grows w w' := by
  go_enter Try.func11, Try.ntmps11
  go_wp2_with (first | (go_at_call 8; refine (valid_any _ _ _ _ _ _).mono ?_; rintro e w1 ⟨rfl, hq⟩; have k1 := Blk.grows (Blk.alloc (Blk.alloc (Blk.alloc (Blk.new _ _ _) _) _) _) hq; have k2 := Blk.grows (Blk.alloc (Blk.alloc (blk_new_at (n := w.heap.size + 1) (by simp)) _) _) hq; have k3 := Blk.grows (Blk.alloc (blk_new_at (n := w.heap.size + 2) (by simp)) _) hq; have k4 := Blk.grows (blk_new_at (n := w.heap.size + 3) (by simp)) hq; have hz := k4.lt; have x1 := k1.cell; have x2 := k2.cell; have x3 := k3.cell; have x4 := k4.cell; have f3 := k3.frozen; have f4 := k4.frozen; have hB := below_grows (Below.alloc (Below.alloc (Below.alloc (Below.alloc (Below.refl w.heap.size w) (Nat.le_refl _) _) (by simp) _) (by simp <;> omega) _) (by simp <;> omega) _) (by simp <;> omega) hq) | (go_at_call 19; refine (within_any _ _ _ _).mono ?_; rintro e w' ⟨rfl, rfl⟩))
  refine bodyPost_ret (v := .tuple #[.agg #[.int .i64 0, .int .i64 0], .agg #[.int .i64 0, .int .i64 0, .int .i64 0, .int .i64 0], .int .i64 1]) (by simp [results, Try.results11, go_sem, x3, x4]) rfl ⟨rfl, ?_⟩
  repeat (first | refine Below.setCell ?_ (by simp <;> omega) _ | refine Below.alloc ?_ (by simp <;> omega) _)
  exact hB

set_option maxHeartbeats 8000000 in
theorem step_r1 (g q a r h t p : Int) (w : World) (H : okD g q a r h = true) (h11 : t < 0) : Calls Try.prog 11 #[.agg #[.int .i64 g, .int .i64 q], .agg #[.int .i64 a, .int .i64 r, .int .i64 h], .int .i64 t, .int .i64 p] w fun e w' => e = .returned (.tuple #[.agg #[.int .i64 0, .int .i64 0], .agg #[.int .i64 0, .int .i64 0, .int .i64 0, .int .i64 0], .int .i64 2]) ∧ Grows w w' := by
  go_enter Try.func11, Try.ntmps11
  go_wp2_with (first | (go_at_call 8; refine (valid_any _ _ _ _ _ _).mono ?_; rintro e w1 ⟨rfl, hq⟩; have k1 := Blk.grows (Blk.alloc (Blk.alloc (Blk.alloc (Blk.new _ _ _) _) _) _) hq; have k2 := Blk.grows (Blk.alloc (Blk.alloc (blk_new_at (n := w.heap.size + 1) (by simp)) _) _) hq; have k3 := Blk.grows (Blk.alloc (blk_new_at (n := w.heap.size + 2) (by simp)) _) hq; have k4 := Blk.grows (blk_new_at (n := w.heap.size + 3) (by simp)) hq; have hz := k4.lt; have x1 := k1.cell; have x2 := k2.cell; have x3 := k3.cell; have x4 := k4.cell; have f3 := k3.frozen; have f4 := k4.frozen; have hB := below_grows (Below.alloc (Below.alloc (Below.alloc (Below.alloc (Below.refl w.heap.size w) (Nat.le_refl _) _) (by simp) _) (by simp <;> omega) _) (by simp <;> omega) _) (by simp <;> omega) hq) | (go_at_call 19; refine (within_any _ _ _ _).mono ?_; rintro e w' ⟨rfl, rfl⟩))
  refine bodyPost_ret (v := .tuple #[.agg #[.int .i64 0, .int .i64 0], .agg #[.int .i64 0, .int .i64 0, .int .i64 0, .int .i64 0], .int .i64 2]) (by simp [results, Try.results11, go_sem, x3, x4]) rfl ⟨rfl, ?_⟩
  repeat (first | refine Below.setCell ?_ (by simp <;> omega) _ | refine Below.alloc ?_ (by simp <;> omega) _)
  exact hB

set_option maxHeartbeats 8000000 in
theorem step_r2 (g q a r h t p : Int) (w : World) (H : okD g q a r h = true) (h11 : 0 ≤ t) (h12 : 262144 < t) : Calls Try.prog 11 #[.agg #[.int .i64 g, .int .i64 q], .agg #[.int .i64 a, .int .i64 r, .int .i64 h], .int .i64 t, .int .i64 p] w fun e w' => e = .returned (.tuple #[.agg #[.int .i64 0, .int .i64 0], .agg #[.int .i64 0, .int .i64 0, .int .i64 0, .int .i64 0], .int .i64 2]) ∧ Grows w w' := by
  go_enter Try.func11, Try.ntmps11
  go_wp2_with (first | (go_at_call 8; refine (valid_any _ _ _ _ _ _).mono ?_; rintro e w1 ⟨rfl, hq⟩; have k1 := Blk.grows (Blk.alloc (Blk.alloc (Blk.alloc (Blk.new _ _ _) _) _) _) hq; have k2 := Blk.grows (Blk.alloc (Blk.alloc (blk_new_at (n := w.heap.size + 1) (by simp)) _) _) hq; have k3 := Blk.grows (Blk.alloc (blk_new_at (n := w.heap.size + 2) (by simp)) _) hq; have k4 := Blk.grows (blk_new_at (n := w.heap.size + 3) (by simp)) hq; have hz := k4.lt; have x1 := k1.cell; have x2 := k2.cell; have x3 := k3.cell; have x4 := k4.cell; have f3 := k3.frozen; have f4 := k4.frozen; have hB := below_grows (Below.alloc (Below.alloc (Below.alloc (Below.alloc (Below.refl w.heap.size w) (Nat.le_refl _) _) (by simp) _) (by simp <;> omega) _) (by simp <;> omega) _) (by simp <;> omega) hq) | (go_at_call 19; refine (within_any _ _ _ _).mono ?_; rintro e w' ⟨rfl, rfl⟩))
  refine bodyPost_ret (v := .tuple #[.agg #[.int .i64 0, .int .i64 0], .agg #[.int .i64 0, .int .i64 0, .int .i64 0, .int .i64 0], .int .i64 2]) (by simp [results, Try.results11, go_sem, x3, x4]) rfl ⟨rfl, ?_⟩
  repeat (first | refine Below.setCell ?_ (by simp <;> omega) _ | refine Below.alloc ?_ (by simp <;> omega) _)
  exact hB

set_option maxHeartbeats 8000000 in
theorem step_r3 (g q a r h t p : Int) (w : World) (H : okD g q a r h = true) (h11 : 0 ≤ t) (h12 : t ≤ 262144) (h13 : p < 16) : Calls Try.prog 11 #[.agg #[.int .i64 g, .int .i64 q], .agg #[.int .i64 a, .int .i64 r, .int .i64 h], .int .i64 t, .int .i64 p] w fun e w' => e = .returned (.tuple #[.agg #[.int .i64 0, .int .i64 0], .agg #[.int .i64 0, .int .i64 0, .int .i64 0, .int .i64 0], .int .i64 2]) ∧ Grows w w' := by
  have e1 : decide (16 ≤ p) = false := by simp; omega
  go_enter Try.func11, Try.ntmps11
  go_wp2_with (first | (go_at_call 8; refine (valid_any _ _ _ _ _ _).mono ?_; rintro e w1 ⟨rfl, hq⟩; have k1 := Blk.grows (Blk.alloc (Blk.alloc (Blk.alloc (Blk.new _ _ _) _) _) _) hq; have k2 := Blk.grows (Blk.alloc (Blk.alloc (blk_new_at (n := w.heap.size + 1) (by simp)) _) _) hq; have k3 := Blk.grows (Blk.alloc (blk_new_at (n := w.heap.size + 2) (by simp)) _) hq; have k4 := Blk.grows (blk_new_at (n := w.heap.size + 3) (by simp)) hq; have hz := k4.lt; have x1 := k1.cell; have x2 := k2.cell; have x3 := k3.cell; have x4 := k4.cell; have f3 := k3.frozen; have f4 := k4.frozen; have hB := below_grows (Below.alloc (Below.alloc (Below.alloc (Below.alloc (Below.refl w.heap.size w) (Nat.le_refl _) _) (by simp) _) (by simp <;> omega) _) (by simp <;> omega) _) (by simp <;> omega) hq) | (go_at_call 19; refine (within_any _ _ _ _).mono ?_; rintro e w' ⟨rfl, rfl⟩))
  refine bodyPost_ret (v := .tuple #[.agg #[.int .i64 0, .int .i64 0], .agg #[.int .i64 0, .int .i64 0, .int .i64 0, .int .i64 0], .int .i64 2]) (by simp [results, Try.results11, go_sem, x3, x4]) rfl ⟨rfl, ?_⟩
  repeat (first | refine Below.setCell ?_ (by simp <;> omega) _ | refine Below.alloc ?_ (by simp <;> omega) _)
  exact hB

set_option maxHeartbeats 8000000 in
theorem step_r4 (g q a r h t p : Int) (w : World) (H : okD g q a r h = true) (h11 : 0 ≤ t) (h12 : t ≤ 262144) (h13 : 16 ≤ p) (h14 : 8192 < p) : Calls Try.prog 11 #[.agg #[.int .i64 g, .int .i64 q], .agg #[.int .i64 a, .int .i64 r, .int .i64 h], .int .i64 t, .int .i64 p] w fun e w' => e = .returned (.tuple #[.agg #[.int .i64 0, .int .i64 0], .agg #[.int .i64 0, .int .i64 0, .int .i64 0, .int .i64 0], .int .i64 2]) ∧ Grows w w' := by
  have e1 : decide (p ≤ 8192) = false := by simp; omega
  go_enter Try.func11, Try.ntmps11
  go_wp2_with (first | (go_at_call 8; refine (valid_any _ _ _ _ _ _).mono ?_; rintro e w1 ⟨rfl, hq⟩; have k1 := Blk.grows (Blk.alloc (Blk.alloc (Blk.alloc (Blk.new _ _ _) _) _) _) hq; have k2 := Blk.grows (Blk.alloc (Blk.alloc (blk_new_at (n := w.heap.size + 1) (by simp)) _) _) hq; have k3 := Blk.grows (Blk.alloc (blk_new_at (n := w.heap.size + 2) (by simp)) _) hq; have k4 := Blk.grows (blk_new_at (n := w.heap.size + 3) (by simp)) hq; have hz := k4.lt; have x1 := k1.cell; have x2 := k2.cell; have x3 := k3.cell; have x4 := k4.cell; have f3 := k3.frozen; have f4 := k4.frozen; have hB := below_grows (Below.alloc (Below.alloc (Below.alloc (Below.alloc (Below.refl w.heap.size w) (Nat.le_refl _) _) (by simp) _) (by simp <;> omega) _) (by simp <;> omega) _) (by simp <;> omega) hq) | (go_at_call 19; refine (within_any _ _ _ _).mono ?_; rintro e w' ⟨rfl, rfl⟩))
  refine bodyPost_ret (v := .tuple #[.agg #[.int .i64 0, .int .i64 0], .agg #[.int .i64 0, .int .i64 0, .int .i64 0, .int .i64 0], .int .i64 2]) (by simp [results, Try.results11, go_sem, x3, x4]) rfl ⟨rfl, ?_⟩
  repeat (first | refine Below.setCell ?_ (by simp <;> omega) _ | refine Below.alloc ?_ (by simp <;> omega) _)
  exact hB

set_option maxHeartbeats 8000000 in
theorem step_good (g q a r h t p : Int) (w : World) (H : okD g q a r h = true) (h11 : 0 ≤ t) (h12 : t ≤ 262144) (h13 : 16 ≤ p) (h14 : p ≤ 8192) : Calls Try.prog 11 #[.agg #[.int .i64 g, .int .i64 q], .agg #[.int .i64 a, .int .i64 r, .int .i64 h], .int .i64 t, .int .i64 p] w fun e w' => e = .returned (.tuple #[.agg #[.int .i64 (nextE g q a r h t).1, .int .i64 (nextE g q a r h t).2], .agg #[.int .i64 g, .int .i64 (nextE g q a r h t).1, .int .i64 p, .int .i64 0], .int .i64 0]) ∧ Grows w w' := by
  go_enter Try.func11, Try.ntmps11
  go_wp2_with (first | (go_at_call 8; refine (valid_any _ _ _ _ _ _).mono ?_; rintro e w1 ⟨rfl, hq⟩; have k1 := Blk.grows (Blk.alloc (Blk.alloc (Blk.alloc (Blk.new _ _ _) _) _) _) hq; have k2 := Blk.grows (Blk.alloc (Blk.alloc (blk_new_at (n := w.heap.size + 1) (by simp)) _) _) hq; have k3 := Blk.grows (Blk.alloc (blk_new_at (n := w.heap.size + 2) (by simp)) _) hq; have k4 := Blk.grows (blk_new_at (n := w.heap.size + 3) (by simp)) hq; have hz := k4.lt; have x1 := k1.cell; have x2 := k2.cell; have x3 := k3.cell; have x4 := k4.cell; have f3 := k3.frozen; have f4 := k4.frozen; have hB := below_grows (Below.alloc (Below.alloc (Below.alloc (Below.alloc (Below.refl w.heap.size w) (Nat.le_refl _) _) (by simp) _) (by simp <;> omega) _) (by simp <;> omega) _) (by simp <;> omega) hq) | (go_at_call 19; refine (within_any _ _ _ _).mono ?_; rintro e w' ⟨rfl, rfl⟩) | (go_at_call 20; refine (next_any' g q a r h t _ H).mono ?_; rintro e w2 ⟨rfl, hq2⟩; replace k1 := k1.grows hq2; replace k2 := k2.grows hq2; replace k3 := k3.grows hq2; replace k4 := k4.grows hq2; replace hz := k4.lt; replace x1 := k1.cell; replace x2 := k2.cell; replace x3 := k3.cell; replace x4 := k4.cell; replace f3 := k3.frozen; replace f4 := k4.frozen; replace hB := below_grows hB (Nat.le_refl _) hq2))
  have k5 := Blk.new w2 24 #[Value.int IntKind.i64 (nextE g q a r h t).1, Value.int IntKind.i64 (nextE g q a r h t).2]
  replace k1 := k1.alloc (Obj.cells #[Value.int IntKind.i64 (nextE g q a r h t).1, Value.int IntKind.i64 (nextE g q a r h t).2] 24)
  replace k3 := k3.alloc (Obj.cells #[Value.int IntKind.i64 (nextE g q a r h t).1, Value.int IntKind.i64 (nextE g q a r h t).2] 24)
  replace k4 := k4.alloc (Obj.cells #[Value.int IntKind.i64 (nextE g q a r h t).1, Value.int IntKind.i64 (nextE g q a r h t).2] 24)
  replace hB := hB.alloc (by omega) (Obj.cells #[Value.int IntKind.i64 (nextE g q a r h t).1, Value.int IntKind.i64 (nextE g q a r h t).2] 24)
  generalize hg5 : w2.heap.size = g5 at *
  have hz5 : w.heap.size + 3 < g5 := by omega
  generalize w2.alloc _ = w3 at *
  clear x1 x2 x3 x4 f3 f4 hq hq2 k2 hg5
  have x1 := k1.cell
  have x3 := k3.cell
  have x4 := k4.cell
  have x5 := k5.cell
  have f3 := k3.frozen
  have f4 := k4.frozen
  go_region
  go_wp2
  refine bodyPost_ret (v := .tuple #[.agg #[.int .i64 (nextE g q a r h t).1, .int .i64 (nextE g q a r h t).2], .agg #[.int .i64 g, .int .i64 (nextE g q a r h t).1, .int .i64 p, .int .i64 0], .int .i64 0]) (by simp [results, Try.results11, go_sem, x3, x4]) rfl ⟨rfl, ?_⟩
  refine Below.drew ?_
  repeat (first | refine Below.setCell ?_ (by simp <;> omega) _ | refine Below.alloc ?_ (by simp <;> omega) _)
  exact hB

theorem step_any (g q a r h t p : Int) (w : World) : Calls Try.prog 11 #[.agg #[.int .i64 g, .int .i64 q], .agg #[.int .i64 a, .int .i64 r, .int .i64 h], .int .i64 t, .int .i64 p] w fun e w' => e = .returned (.tuple #[.agg #[.int .i64 (stepF g q a r h t p).g, .int .i64 (stepF g q a r h t p).q], .agg #[.int .i64 (stepF g q a r h t p).x, .int .i64 (stepF g q a r h t p).y, .int .i64 (stepF g q a r h t p).n, .int .i64 0], .int .i64 (stepF g q a r h t p).e]) ∧ Grows w w' := by
  cases H : okD g q a r h
  · have e : stepF g q a r h t p = ⟨0, 0, 0, 0, 0, 1⟩ := by simp [stepF, H]
    rw [e]; exact step_bad g q a r h t p w H
  · by_cases c : t < 0 ∨ 262144 < t ∨ p < 16 ∨ 8192 < p
    · have e : stepF g q a r h t p = ⟨0, 0, 0, 0, 0, 2⟩ := by unfold stepF; rw [if_neg (by simp [H]), if_pos c]
      rw [e]
      by_cases c1 : t < 0
      · exact step_r1 g q a r h t p w H c1
      by_cases c2 : 262144 < t
      · exact step_r2 g q a r h t p w H (by omega) c2
      by_cases c3 : p < 16
      · exact step_r3 g q a r h t p w H (by omega) (by omega) c3
      exact step_r4 g q a r h t p w H (by omega) (by omega) (by omega) (by omega)
    · have e : stepF g q a r h t p = ⟨(nextE g q a r h t).1, (nextE g q a r h t).2, g, (nextE g q a r h t).1, p, 0⟩ := by unfold stepF; rw [if_neg (by simp [H]), if_neg c]
      rw [e]; exact step_good g q a r h t p w H (by omega) (by omega) (by omega) (by omega)

set_option maxHeartbeats 8000000 in
theorem rstep_bad (g q a r h t p : Int) (w : World) (H : okD g q a r h = false) : Calls Try.prog 12 #[.agg #[.int .i64 g, .int .i64 q], .agg #[.int .i64 a, .int .i64 r, .int .i64 h], .int .i64 t, .int .i64 p] w fun e w' => e = .returned (.tuple #[.agg #[.int .i64 0, .int .i64 0], .agg #[.int .i64 0, .int .i64 0, .int .i64 0, .int .i64 0], .int .i64 1]) ∧ Grows w w' := by
  go_enter Try.func12, Try.ntmps12
  go_wp2_with (first | (go_at_call 9; refine (rvalid_any _ _ _ _ _ _).mono ?_; rintro e w1 ⟨rfl, hq⟩; have k1 := Blk.grows (Blk.alloc (Blk.alloc (Blk.alloc (Blk.new _ _ _) _) _) _) hq; have k2 := Blk.grows (Blk.alloc (Blk.alloc (blk_new_at (n := w.heap.size + 1) (by simp)) _) _) hq; have k3 := Blk.grows (Blk.alloc (blk_new_at (n := w.heap.size + 2) (by simp)) _) hq; have k4 := Blk.grows (blk_new_at (n := w.heap.size + 3) (by simp)) hq; have hz := k4.lt; have x1 := k1.cell; have x2 := k2.cell; have x3 := k3.cell; have x4 := k4.cell; have f3 := k3.frozen; have f4 := k4.frozen; have hB := below_grows (Below.alloc (Below.alloc (Below.alloc (Below.alloc (Below.refl w.heap.size w) (Nat.le_refl _) _) (by simp) _) (by simp <;> omega) _) (by simp <;> omega) _) (by simp <;> omega) hq))
  refine bodyPost_ret (v := .tuple #[.agg #[.int .i64 0, .int .i64 0], .agg #[.int .i64 0, .int .i64 0, .int .i64 0, .int .i64 0], .int .i64 1]) (by simp [results, Try.results12, go_sem, x3, x4]) rfl ⟨rfl, ?_⟩
  repeat (first | refine Below.setCell ?_ (by simp <;> omega) _ | refine Below.alloc ?_ (by simp <;> omega) _)
  exact hB

set_option maxHeartbeats 8000000 in
theorem rstep_r1 (g q a r h t p : Int) (w : World) (H : okD g q a r h = true) (h11 : t < 0) : Calls Try.prog 12 #[.agg #[.int .i64 g, .int .i64 q], .agg #[.int .i64 a, .int .i64 r, .int .i64 h], .int .i64 t, .int .i64 p] w fun e w' => e = .returned (.tuple #[.agg #[.int .i64 0, .int .i64 0], .agg #[.int .i64 0, .int .i64 0, .int .i64 0, .int .i64 0], .int .i64 2]) ∧ Grows w w' := by
  go_enter Try.func12, Try.ntmps12
  go_wp2_with (first | (go_at_call 9; refine (rvalid_any _ _ _ _ _ _).mono ?_; rintro e w1 ⟨rfl, hq⟩; have k1 := Blk.grows (Blk.alloc (Blk.alloc (Blk.alloc (Blk.new _ _ _) _) _) _) hq; have k2 := Blk.grows (Blk.alloc (Blk.alloc (blk_new_at (n := w.heap.size + 1) (by simp)) _) _) hq; have k3 := Blk.grows (Blk.alloc (blk_new_at (n := w.heap.size + 2) (by simp)) _) hq; have k4 := Blk.grows (blk_new_at (n := w.heap.size + 3) (by simp)) hq; have hz := k4.lt; have x1 := k1.cell; have x2 := k2.cell; have x3 := k3.cell; have x4 := k4.cell; have f3 := k3.frozen; have f4 := k4.frozen; have hB := below_grows (Below.alloc (Below.alloc (Below.alloc (Below.alloc (Below.refl w.heap.size w) (Nat.le_refl _) _) (by simp) _) (by simp <;> omega) _) (by simp <;> omega) _) (by simp <;> omega) hq))
  refine bodyPost_ret (v := .tuple #[.agg #[.int .i64 0, .int .i64 0], .agg #[.int .i64 0, .int .i64 0, .int .i64 0, .int .i64 0], .int .i64 2]) (by simp [results, Try.results12, go_sem, x3, x4]) rfl ⟨rfl, ?_⟩
  repeat (first | refine Below.setCell ?_ (by simp <;> omega) _ | refine Below.alloc ?_ (by simp <;> omega) _)
  exact hB

set_option maxHeartbeats 8000000 in
theorem rstep_r2 (g q a r h t p : Int) (w : World) (H : okD g q a r h = true) (h11 : 0 ≤ t) (h12 : 262144 < t) : Calls Try.prog 12 #[.agg #[.int .i64 g, .int .i64 q], .agg #[.int .i64 a, .int .i64 r, .int .i64 h], .int .i64 t, .int .i64 p] w fun e w' => e = .returned (.tuple #[.agg #[.int .i64 0, .int .i64 0], .agg #[.int .i64 0, .int .i64 0, .int .i64 0, .int .i64 0], .int .i64 2]) ∧ Grows w w' := by
  go_enter Try.func12, Try.ntmps12
  go_wp2_with (first | (go_at_call 9; refine (rvalid_any _ _ _ _ _ _).mono ?_; rintro e w1 ⟨rfl, hq⟩; have k1 := Blk.grows (Blk.alloc (Blk.alloc (Blk.alloc (Blk.new _ _ _) _) _) _) hq; have k2 := Blk.grows (Blk.alloc (Blk.alloc (blk_new_at (n := w.heap.size + 1) (by simp)) _) _) hq; have k3 := Blk.grows (Blk.alloc (blk_new_at (n := w.heap.size + 2) (by simp)) _) hq; have k4 := Blk.grows (blk_new_at (n := w.heap.size + 3) (by simp)) hq; have hz := k4.lt; have x1 := k1.cell; have x2 := k2.cell; have x3 := k3.cell; have x4 := k4.cell; have f3 := k3.frozen; have f4 := k4.frozen; have hB := below_grows (Below.alloc (Below.alloc (Below.alloc (Below.alloc (Below.refl w.heap.size w) (Nat.le_refl _) _) (by simp) _) (by simp <;> omega) _) (by simp <;> omega) _) (by simp <;> omega) hq))
  refine bodyPost_ret (v := .tuple #[.agg #[.int .i64 0, .int .i64 0], .agg #[.int .i64 0, .int .i64 0, .int .i64 0, .int .i64 0], .int .i64 2]) (by simp [results, Try.results12, go_sem, x3, x4]) rfl ⟨rfl, ?_⟩
  repeat (first | refine Below.setCell ?_ (by simp <;> omega) _ | refine Below.alloc ?_ (by simp <;> omega) _)
  exact hB

set_option maxHeartbeats 8000000 in
theorem rstep_r3 (g q a r h t p : Int) (w : World) (H : okD g q a r h = true) (h11 : 0 ≤ t) (h12 : t ≤ 262144) (h13 : p < 16) : Calls Try.prog 12 #[.agg #[.int .i64 g, .int .i64 q], .agg #[.int .i64 a, .int .i64 r, .int .i64 h], .int .i64 t, .int .i64 p] w fun e w' => e = .returned (.tuple #[.agg #[.int .i64 0, .int .i64 0], .agg #[.int .i64 0, .int .i64 0, .int .i64 0, .int .i64 0], .int .i64 2]) ∧ Grows w w' := by
  have e1 : decide (16 ≤ p) = false := by simp; omega
  go_enter Try.func12, Try.ntmps12
  go_wp2_with (first | (go_at_call 9; refine (rvalid_any _ _ _ _ _ _).mono ?_; rintro e w1 ⟨rfl, hq⟩; have k1 := Blk.grows (Blk.alloc (Blk.alloc (Blk.alloc (Blk.new _ _ _) _) _) _) hq; have k2 := Blk.grows (Blk.alloc (Blk.alloc (blk_new_at (n := w.heap.size + 1) (by simp)) _) _) hq; have k3 := Blk.grows (Blk.alloc (blk_new_at (n := w.heap.size + 2) (by simp)) _) hq; have k4 := Blk.grows (blk_new_at (n := w.heap.size + 3) (by simp)) hq; have hz := k4.lt; have x1 := k1.cell; have x2 := k2.cell; have x3 := k3.cell; have x4 := k4.cell; have f3 := k3.frozen; have f4 := k4.frozen; have hB := below_grows (Below.alloc (Below.alloc (Below.alloc (Below.alloc (Below.refl w.heap.size w) (Nat.le_refl _) _) (by simp) _) (by simp <;> omega) _) (by simp <;> omega) _) (by simp <;> omega) hq))
  refine bodyPost_ret (v := .tuple #[.agg #[.int .i64 0, .int .i64 0], .agg #[.int .i64 0, .int .i64 0, .int .i64 0, .int .i64 0], .int .i64 2]) (by simp [results, Try.results12, go_sem, x3, x4]) rfl ⟨rfl, ?_⟩
  repeat (first | refine Below.setCell ?_ (by simp <;> omega) _ | refine Below.alloc ?_ (by simp <;> omega) _)
  exact hB

set_option maxHeartbeats 8000000 in
theorem rstep_r4 (g q a r h t p : Int) (w : World) (H : okD g q a r h = true) (h11 : 0 ≤ t) (h12 : t ≤ 262144) (h13 : 16 ≤ p) (h14 : 8192 < p) : Calls Try.prog 12 #[.agg #[.int .i64 g, .int .i64 q], .agg #[.int .i64 a, .int .i64 r, .int .i64 h], .int .i64 t, .int .i64 p] w fun e w' => e = .returned (.tuple #[.agg #[.int .i64 0, .int .i64 0], .agg #[.int .i64 0, .int .i64 0, .int .i64 0, .int .i64 0], .int .i64 2]) ∧ Grows w w' := by
  have e1 : decide (p ≤ 8192) = false := by simp; omega
  go_enter Try.func12, Try.ntmps12
  go_wp2_with (first | (go_at_call 9; refine (rvalid_any _ _ _ _ _ _).mono ?_; rintro e w1 ⟨rfl, hq⟩; have k1 := Blk.grows (Blk.alloc (Blk.alloc (Blk.alloc (Blk.new _ _ _) _) _) _) hq; have k2 := Blk.grows (Blk.alloc (Blk.alloc (blk_new_at (n := w.heap.size + 1) (by simp)) _) _) hq; have k3 := Blk.grows (Blk.alloc (blk_new_at (n := w.heap.size + 2) (by simp)) _) hq; have k4 := Blk.grows (blk_new_at (n := w.heap.size + 3) (by simp)) hq; have hz := k4.lt; have x1 := k1.cell; have x2 := k2.cell; have x3 := k3.cell; have x4 := k4.cell; have f3 := k3.frozen; have f4 := k4.frozen; have hB := below_grows (Below.alloc (Below.alloc (Below.alloc (Below.alloc (Below.refl w.heap.size w) (Nat.le_refl _) _) (by simp) _) (by simp <;> omega) _) (by simp <;> omega) _) (by simp <;> omega) hq))
  refine bodyPost_ret (v := .tuple #[.agg #[.int .i64 0, .int .i64 0], .agg #[.int .i64 0, .int .i64 0, .int .i64 0, .int .i64 0], .int .i64 2]) (by simp [results, Try.results12, go_sem, x3, x4]) rfl ⟨rfl, ?_⟩
  repeat (first | refine Below.setCell ?_ (by simp <;> omega) _ | refine Below.alloc ?_ (by simp <;> omega) _)
  exact hB

set_option maxHeartbeats 8000000 in
theorem rstep_good (g q a r h t p : Int) (w : World) (H : okD g q a r h = true) (h11 : 0 ≤ t) (h12 : t ≤ 262144) (h13 : 16 ≤ p) (h14 : p ≤ 8192) : Calls Try.prog 12 #[.agg #[.int .i64 g, .int .i64 q], .agg #[.int .i64 a, .int .i64 r, .int .i64 h], .int .i64 t, .int .i64 p] w fun e w' => e = .returned (.tuple #[.agg #[.int .i64 (nextE g q a r h t).1, .int .i64 (nextE g q a r h t).2], .agg #[.int .i64 g, .int .i64 (nextE g q a r h t).1, .int .i64 p, .int .i64 0], .int .i64 0]) ∧ Grows w w' := by
  go_enter Try.func12, Try.ntmps12
  go_wp2_with (first | (go_at_call 9; refine (rvalid_any _ _ _ _ _ _).mono ?_; rintro e w1 ⟨rfl, hq⟩; have k1 := Blk.grows (Blk.alloc (Blk.alloc (Blk.alloc (Blk.new _ _ _) _) _) _) hq; have k2 := Blk.grows (Blk.alloc (Blk.alloc (blk_new_at (n := w.heap.size + 1) (by simp)) _) _) hq; have k3 := Blk.grows (Blk.alloc (blk_new_at (n := w.heap.size + 2) (by simp)) _) hq; have k4 := Blk.grows (blk_new_at (n := w.heap.size + 3) (by simp)) hq; have hz := k4.lt; have x1 := k1.cell; have x2 := k2.cell; have x3 := k3.cell; have x4 := k4.cell; have f3 := k3.frozen; have f4 := k4.frozen; have hB := below_grows (Below.alloc (Below.alloc (Below.alloc (Below.alloc (Below.refl w.heap.size w) (Nat.le_refl _) _) (by simp) _) (by simp <;> omega) _) (by simp <;> omega) _) (by simp <;> omega) hq) | (go_at_call 21; refine (rnext_any' g q a r h t _ H).mono ?_; rintro e w2 ⟨rfl, hq2⟩; replace k1 := k1.grows hq2; replace k2 := k2.grows hq2; replace k3 := k3.grows hq2; replace k4 := k4.grows hq2; replace hz := k4.lt; replace x1 := k1.cell; replace x2 := k2.cell; replace x3 := k3.cell; replace x4 := k4.cell; replace f3 := k3.frozen; replace f4 := k4.frozen; replace hB := below_grows hB (Nat.le_refl _) hq2))
  have k5 := Blk.new w2 24 #[Value.int IntKind.i64 (nextE g q a r h t).1, Value.int IntKind.i64 (nextE g q a r h t).2]
  replace k1 := k1.alloc (Obj.cells #[Value.int IntKind.i64 (nextE g q a r h t).1, Value.int IntKind.i64 (nextE g q a r h t).2] 24)
  replace k3 := k3.alloc (Obj.cells #[Value.int IntKind.i64 (nextE g q a r h t).1, Value.int IntKind.i64 (nextE g q a r h t).2] 24)
  replace k4 := k4.alloc (Obj.cells #[Value.int IntKind.i64 (nextE g q a r h t).1, Value.int IntKind.i64 (nextE g q a r h t).2] 24)
  replace hB := hB.alloc (by omega) (Obj.cells #[Value.int IntKind.i64 (nextE g q a r h t).1, Value.int IntKind.i64 (nextE g q a r h t).2] 24)
  generalize hg5 : w2.heap.size = g5 at *
  have hz5 : w.heap.size + 3 < g5 := by omega
  generalize w2.alloc _ = w3 at *
  clear x1 x2 x3 x4 f3 f4 hq hq2 k2 hg5
  have x1 := k1.cell
  have x3 := k3.cell
  have x4 := k4.cell
  have x5 := k5.cell
  have f3 := k3.frozen
  have f4 := k4.frozen
  go_region
  go_wp2
  refine bodyPost_ret (v := .tuple #[.agg #[.int .i64 (nextE g q a r h t).1, .int .i64 (nextE g q a r h t).2], .agg #[.int .i64 g, .int .i64 (nextE g q a r h t).1, .int .i64 p, .int .i64 0], .int .i64 0]) (by simp [results, Try.results12, go_sem, x3, x4]) rfl ⟨rfl, ?_⟩
  refine Below.drew ?_
  repeat (first | refine Below.setCell ?_ (by simp <;> omega) _ | refine Below.alloc ?_ (by simp <;> omega) _)
  exact hB

theorem rstep_any (g q a r h t p : Int) (w : World) : Calls Try.prog 12 #[.agg #[.int .i64 g, .int .i64 q], .agg #[.int .i64 a, .int .i64 r, .int .i64 h], .int .i64 t, .int .i64 p] w fun e w' => e = .returned (.tuple #[.agg #[.int .i64 (stepF g q a r h t p).g, .int .i64 (stepF g q a r h t p).q], .agg #[.int .i64 (stepF g q a r h t p).x, .int .i64 (stepF g q a r h t p).y, .int .i64 (stepF g q a r h t p).n, .int .i64 0], .int .i64 (stepF g q a r h t p).e]) ∧ Grows w w' := by
  cases H : okD g q a r h
  · have e : stepF g q a r h t p = ⟨0, 0, 0, 0, 0, 1⟩ := by simp [stepF, H]
    rw [e]; exact rstep_bad g q a r h t p w H
  · by_cases c : t < 0 ∨ 262144 < t ∨ p < 16 ∨ 8192 < p
    · have e : stepF g q a r h t p = ⟨0, 0, 0, 0, 0, 2⟩ := by unfold stepF; rw [if_neg (by simp [H]), if_pos c]
      rw [e]
      by_cases c1 : t < 0
      · exact rstep_r1 g q a r h t p w H c1
      by_cases c2 : 262144 < t
      · exact rstep_r2 g q a r h t p w H (by omega) c2
      by_cases c3 : p < 16
      · exact rstep_r3 g q a r h t p w H (by omega) (by omega) c3
      exact rstep_r4 g q a r h t p w H (by omega) (by omega) (by omega) (by omega)
    · have e : stepF g q a r h t p = ⟨(nextE g q a r h t).1, (nextE g q a r h t).2, g, (nextE g q a r h t).1, p, 0⟩ := by unfold stepF; rw [if_neg (by simp [H]), if_neg c]
      rw [e]; exact rstep_good g q a r h t p w H (by omega) (by omega) (by omega) (by omega)

theorem steps_any (x s : Int) (w : World) (h1 : 0 ≤ x) (h2 : x ≤ 262144) (h3 : 1 ≤ s) (h4 : s ≤ 262144) : Calls Try.prog 22 #[.int .i64 x, .int .i64 s] w fun e w' => e = .returned (.int .i64 ((x + s - 1) / s)) ∧ w = w' := by
  go_enter Try.func22, Try.ntmps22
  go_wp2
  go_ret
  exact ⟨rfl, rfl⟩

set_option maxHeartbeats 8000000 in
theorem quanta_bad (g q a r h t : Int) (w : World) (H : okD g q a r h = false) : Calls Try.prog 13 #[.agg #[.int .i64 g, .int .i64 q], .agg #[.int .i64 a, .int .i64 r, .int .i64 h], .int .i64 t] w fun e w' => e = .returned (.int .i64 (0)) ∧ Grows w w' := by
  go_enter Try.func13, Try.ntmps13
  go_wp2_with (first | (go_at_call 8; refine (valid_any _ _ _ _ _ _).mono ?_; rintro e w1 ⟨rfl, hq⟩; have k1 := Blk.grows (Blk.alloc (Blk.new _ _ _) _) hq; have k2 := Blk.grows (blk_new_at (n := w.heap.size + 1) (by simp)) hq; have hz := k2.lt; have x1 := k1.cell; have x2 := k2.cell; have f1 := k1.frozen; have hB := below_grows (Below.alloc (Below.alloc (Below.refl w.heap.size w) (Nat.le_refl _) _) (by simp) _) (by simp <;> omega) hq) | (go_at_call 19; refine (within_any _ _ _ _).mono ?_; rintro e w' ⟨rfl, rfl⟩) | (go_at_call 22; refine (steps_any _ _ _ (by omega) (by omega) (by omega) (by omega)).mono ?_; rintro e w2 ⟨rfl, rfl⟩))
  go_ret
  exact ⟨rfl, hB⟩

set_option maxHeartbeats 8000000 in
theorem quanta_r1 (g q a r h t : Int) (w : World) (H : okD g q a r h = true) (h11 : t < 0) : Calls Try.prog 13 #[.agg #[.int .i64 g, .int .i64 q], .agg #[.int .i64 a, .int .i64 r, .int .i64 h], .int .i64 t] w fun e w' => e = .returned (.int .i64 (0)) ∧ Grows w w' := by
  go_enter Try.func13, Try.ntmps13
  go_wp2_with (first | (go_at_call 8; refine (valid_any _ _ _ _ _ _).mono ?_; rintro e w1 ⟨rfl, hq⟩; have k1 := Blk.grows (Blk.alloc (Blk.new _ _ _) _) hq; have k2 := Blk.grows (blk_new_at (n := w.heap.size + 1) (by simp)) hq; have hz := k2.lt; have x1 := k1.cell; have x2 := k2.cell; have f1 := k1.frozen; have hB := below_grows (Below.alloc (Below.alloc (Below.refl w.heap.size w) (Nat.le_refl _) _) (by simp) _) (by simp <;> omega) hq) | (go_at_call 19; refine (within_any _ _ _ _).mono ?_; rintro e w' ⟨rfl, rfl⟩) | (go_at_call 22; refine (steps_any _ _ _ (by omega) (by omega) (by omega) (by omega)).mono ?_; rintro e w2 ⟨rfl, rfl⟩))
  go_ret
  exact ⟨rfl, hB⟩

set_option maxHeartbeats 8000000 in
theorem quanta_r2 (g q a r h t : Int) (w : World) (H : okD g q a r h = true) (h11 : 0 ≤ t) (h12 : 262144 < t) : Calls Try.prog 13 #[.agg #[.int .i64 g, .int .i64 q], .agg #[.int .i64 a, .int .i64 r, .int .i64 h], .int .i64 t] w fun e w' => e = .returned (.int .i64 (0)) ∧ Grows w w' := by
  go_enter Try.func13, Try.ntmps13
  go_wp2_with (first | (go_at_call 8; refine (valid_any _ _ _ _ _ _).mono ?_; rintro e w1 ⟨rfl, hq⟩; have k1 := Blk.grows (Blk.alloc (Blk.new _ _ _) _) hq; have k2 := Blk.grows (blk_new_at (n := w.heap.size + 1) (by simp)) hq; have hz := k2.lt; have x1 := k1.cell; have x2 := k2.cell; have f1 := k1.frozen; have hB := below_grows (Below.alloc (Below.alloc (Below.refl w.heap.size w) (Nat.le_refl _) _) (by simp) _) (by simp <;> omega) hq) | (go_at_call 19; refine (within_any _ _ _ _).mono ?_; rintro e w' ⟨rfl, rfl⟩) | (go_at_call 22; refine (steps_any _ _ _ (by omega) (by omega) (by omega) (by omega)).mono ?_; rintro e w2 ⟨rfl, rfl⟩))
  go_ret
  exact ⟨rfl, hB⟩

set_option maxHeartbeats 8000000 in
theorem quanta_c0 (g q a r h t : Int) (w : World) (H : okD g q a r h = true) (h11 : 0 ≤ t) (h12 : t ≤ 262144) (h13 : t = g) : Calls Try.prog 13 #[.agg #[.int .i64 g, .int .i64 q], .agg #[.int .i64 a, .int .i64 r, .int .i64 h], .int .i64 t] w fun e w' => e = .returned (.int .i64 (0)) ∧ Grows w w' := by
  obtain ⟨h1, h2, h3, h4, h5, h6, h7, h8, h9, h10⟩ := okD_bd H
  subst h13
  go_enter Try.func13, Try.ntmps13
  go_wp2_with (first | (go_at_call 8; refine (valid_any _ _ _ _ _ _).mono ?_; rintro e w1 ⟨rfl, hq⟩; have k1 := Blk.grows (Blk.alloc (Blk.new _ _ _) _) hq; have k2 := Blk.grows (blk_new_at (n := w.heap.size + 1) (by simp)) hq; have hz := k2.lt; have x1 := k1.cell; have x2 := k2.cell; have f1 := k1.frozen; have hB := below_grows (Below.alloc (Below.alloc (Below.refl w.heap.size w) (Nat.le_refl _) _) (by simp) _) (by simp <;> omega) hq) | (go_at_call 19; refine (within_any _ _ _ _).mono ?_; rintro e w' ⟨rfl, rfl⟩) | (go_at_call 22; refine (steps_any _ _ _ (by omega) (by omega) (by omega) (by omega)).mono ?_; rintro e w2 ⟨rfl, rfl⟩))
  go_ret
  exact ⟨rfl, hB⟩

set_option maxHeartbeats 8000000 in
theorem quanta_c1 (g q a r h t : Int) (w : World) (H : okD g q a r h = true) (h11 : 0 ≤ t) (h12 : t ≤ 262144) (h13 : t < g) : Calls Try.prog 13 #[.agg #[.int .i64 g, .int .i64 q], .agg #[.int .i64 a, .int .i64 r, .int .i64 h], .int .i64 t] w fun e w' => e = .returned (.int .i64 ((g - t + a - 1) / a)) ∧ Grows w w' := by
  obtain ⟨h1, h2, h3, h4, h5, h6, h7, h8, h9, h10⟩ := okD_bd H
  go_enter Try.func13, Try.ntmps13
  go_wp2_with (first | (go_at_call 8; refine (valid_any _ _ _ _ _ _).mono ?_; rintro e w1 ⟨rfl, hq⟩; have k1 := Blk.grows (Blk.alloc (Blk.new _ _ _) _) hq; have k2 := Blk.grows (blk_new_at (n := w.heap.size + 1) (by simp)) hq; have hz := k2.lt; have x1 := k1.cell; have x2 := k2.cell; have f1 := k1.frozen; have hB := below_grows (Below.alloc (Below.alloc (Below.refl w.heap.size w) (Nat.le_refl _) _) (by simp) _) (by simp <;> omega) hq) | (go_at_call 19; refine (within_any _ _ _ _).mono ?_; rintro e w' ⟨rfl, rfl⟩) | (go_at_call 22; refine (steps_any _ _ _ (by omega) (by omega) (by omega) (by omega)).mono ?_; rintro e w2 ⟨rfl, rfl⟩))
  go_ret
  exact ⟨rfl, hB⟩

set_option maxHeartbeats 8000000 in
theorem quanta_c2 (g q a r h t : Int) (w : World) (H : okD g q a r h = true) (h11 : 0 ≤ t) (h12 : t ≤ 262144) (h13 : g < t) : Calls Try.prog 13 #[.agg #[.int .i64 g, .int .i64 q], .agg #[.int .i64 a, .int .i64 r, .int .i64 h], .int .i64 t] w fun e w' => e = .returned (.int .i64 (q + (t - g + r - 1) / r)) ∧ Grows w w' := by
  obtain ⟨h1, h2, h3, h4, h5, h6, h7, h8, h9, h10⟩ := okD_bd H
  have B1 : 0 ≤ (t - g + r - 1) / r := Int.ediv_nonneg (by omega) (by omega)
  have B2 : (t - g + r - 1) / r ≤ t - g + r - 1 := Int.ediv_le_self r (by omega)
  have wa : IntKind.i64.wrap (t - g) = t - g := IntWalk.i64_in _ (by omega)
  have wb : IntKind.i64.wrap (q + (t - g + r - 1) / r) = q + (t - g + r - 1) / r := IntWalk.i64_in _ (by omega)
  go_enter Try.func13, Try.ntmps13
  go_wp2_with (first | (go_at_call 8; refine (valid_any _ _ _ _ _ _).mono ?_; rintro e w1 ⟨rfl, hq⟩; have k1 := Blk.grows (Blk.alloc (Blk.new _ _ _) _) hq; have k2 := Blk.grows (blk_new_at (n := w.heap.size + 1) (by simp)) hq; have hz := k2.lt; have x1 := k1.cell; have x2 := k2.cell; have f1 := k1.frozen; have hB := below_grows (Below.alloc (Below.alloc (Below.refl w.heap.size w) (Nat.le_refl _) _) (by simp) _) (by simp <;> omega) hq) | (go_at_call 19; refine (within_any _ _ _ _).mono ?_; rintro e w' ⟨rfl, rfl⟩) | (go_at_call 22; refine (steps_any _ _ _ (by omega) (by omega) (by omega) (by omega)).mono ?_; rintro e w2 ⟨rfl, rfl⟩))
  refine wp_region_mix (fun w' => Below w.heap.size w w' ∧ Blk w' w.heap.size 24 #[.int .i64 g, .int .i64 q] ∧ Blk w' (w.heap.size + 1) 26 #[.int .i64 a, .int .i64 r, .int .i64 h]) [] 11 45 (by kernel_rfl) (by kernel_rfl) rfl ?_ float_none ?_ ?_
  · exact fun w1 w2 ⟨h0, h1, h2⟩ hg => ⟨below_grows h0 (Nat.le_refl _) hg, h1.grows hg, h2.grows hg⟩
  · exact ⟨hB.drew, k1.drew, k2.drew⟩
  · clear x1 x2 hz k1 k2 f1 hB hq
    simp only [List.take_succ_cons, List.take_zero, List.drop_succ_cons, List.drop_zero]
    iterate 11
      refine calm_plain rfl rfl (v := ?_) (a' := ?_) (fun w1 hw1 => ?_) ?_ ?_
      rotate_left 2
      · obtain ⟨_, j1, j2⟩ := hw1
        have c1 := j1.cell
        have c2 := j2.cell
        go_simp
        first | exact calm_val | (refine calm_quiet ?_; refine steps_any _ _ _ ?_ ?_ ?_ ?_ <;> omega)
      · simp only [Act.put, List.setIfInBounds_toArray, List.set_cons_succ, List.set_cons_zero]
        rfl
    refine calm_done (end_none ?_)
    rintro w7 ⟨hB, -, -⟩
    go_wp2
    go_ret
    exact ⟨rfl, hB⟩

theorem quanta_any (g q a r h t : Int) (w : World) : Calls Try.prog 13 #[.agg #[.int .i64 g, .int .i64 q], .agg #[.int .i64 a, .int .i64 r, .int .i64 h], .int .i64 t] w fun e w' => e = .returned (.int .i64 (quantaF g q a r h t)) ∧ Grows w w' := by
  unfold quantaF
  cases H : okD g q a r h
  · rw [if_pos (by simp)]; exact quanta_bad g q a r h t w H
  · by_cases c1 : t < 0
    · rw [if_pos (by simp [c1])]; exact quanta_r1 g q a r h t w H c1
    by_cases c2 : 262144 < t
    · rw [if_pos (by simp [c2])]; exact quanta_r2 g q a r h t w H (by omega) c2
    by_cases c3 : t = g
    · rw [if_pos (by simp [c3])]; exact quanta_c0 g q a r h t w H (by omega) (by omega) c3
    rw [if_neg (by simp; omega)]
    by_cases c4 : t < g
    · rw [if_pos c4]; exact quanta_c1 g q a r h t w H (by omega) (by omega) c4
    · rw [if_neg c4]; exact quanta_c2 g q a r h t w H (by omega) (by omega) (by omega)

set_option maxHeartbeats 8000000 in
theorem rquanta_bad (g q a r h t : Int) (w : World) (H : okD g q a r h = false) : Calls Try.prog 14 #[.agg #[.int .i64 g, .int .i64 q], .agg #[.int .i64 a, .int .i64 r, .int .i64 h], .int .i64 t] w fun e w' => e = .returned (.int .i64 (0)) ∧ Grows w w' := by
  go_enter Try.func14, Try.ntmps14
  go_wp2_with (first | (go_at_call 9; refine (rvalid_any _ _ _ _ _ _).mono ?_; rintro e w1 ⟨rfl, hq⟩; have k1 := Blk.grows (Blk.alloc (Blk.new _ _ _) _) hq; have k2 := Blk.grows (blk_new_at (n := w.heap.size + 1) (by simp)) hq; have hz := k2.lt; have x1 := k1.cell; have x2 := k2.cell; have f1 := k1.frozen; have hB := below_grows (Below.alloc (Below.alloc (Below.refl w.heap.size w) (Nat.le_refl _) _) (by simp) _) (by simp <;> omega) hq))
  go_ret
  exact ⟨rfl, hB⟩

set_option maxHeartbeats 8000000 in
theorem rquanta_r1 (g q a r h t : Int) (w : World) (H : okD g q a r h = true) (h11 : t < 0) : Calls Try.prog 14 #[.agg #[.int .i64 g, .int .i64 q], .agg #[.int .i64 a, .int .i64 r, .int .i64 h], .int .i64 t] w fun e w' => e = .returned (.int .i64 (0)) ∧ Grows w w' := by
  go_enter Try.func14, Try.ntmps14
  go_wp2_with (first | (go_at_call 9; refine (rvalid_any _ _ _ _ _ _).mono ?_; rintro e w1 ⟨rfl, hq⟩; have k1 := Blk.grows (Blk.alloc (Blk.new _ _ _) _) hq; have k2 := Blk.grows (blk_new_at (n := w.heap.size + 1) (by simp)) hq; have hz := k2.lt; have x1 := k1.cell; have x2 := k2.cell; have f1 := k1.frozen; have hB := below_grows (Below.alloc (Below.alloc (Below.refl w.heap.size w) (Nat.le_refl _) _) (by simp) _) (by simp <;> omega) hq))
  go_ret
  exact ⟨rfl, hB⟩

set_option maxHeartbeats 8000000 in
theorem rquanta_r2 (g q a r h t : Int) (w : World) (H : okD g q a r h = true) (h11 : 0 ≤ t) (h12 : 262144 < t) : Calls Try.prog 14 #[.agg #[.int .i64 g, .int .i64 q], .agg #[.int .i64 a, .int .i64 r, .int .i64 h], .int .i64 t] w fun e w' => e = .returned (.int .i64 (0)) ∧ Grows w w' := by
  go_enter Try.func14, Try.ntmps14
  go_wp2_with (first | (go_at_call 9; refine (rvalid_any _ _ _ _ _ _).mono ?_; rintro e w1 ⟨rfl, hq⟩; have k1 := Blk.grows (Blk.alloc (Blk.new _ _ _) _) hq; have k2 := Blk.grows (blk_new_at (n := w.heap.size + 1) (by simp)) hq; have hz := k2.lt; have x1 := k1.cell; have x2 := k2.cell; have f1 := k1.frozen; have hB := below_grows (Below.alloc (Below.alloc (Below.refl w.heap.size w) (Nat.le_refl _) _) (by simp) _) (by simp <;> omega) hq))
  go_ret
  exact ⟨rfl, hB⟩

set_option maxHeartbeats 8000000 in
theorem rquanta_good (g q a r h t : Int) (w : World) (H : okD g q a r h = true) (h11 : 0 ≤ t) (h12 : t ≤ 262144) : Calls Try.prog 14 #[.agg #[.int .i64 g, .int .i64 q], .agg #[.int .i64 a, .int .i64 r, .int .i64 h], .int .i64 t] w fun e w' => e = .returned (.int .i64 (quantaF g q a r h t)) ∧ Grows w w' := by
  have hb := quanta_bd H h11 h12
  go_enter Try.func14, Try.ntmps14
  go_wp2_with (first | (go_at_call 9; refine (rvalid_any _ _ _ _ _ _).mono ?_; rintro e w1 ⟨rfl, hq⟩; have k1 := Blk.grows (Blk.alloc (Blk.new _ _ _) _) hq; have k2 := Blk.grows (blk_new_at (n := w.heap.size + 1) (by simp)) hq; have hz := k2.lt; have x1 := k1.cell; have x2 := k2.cell; have f1 := k1.frozen; have hB := below_grows (Below.alloc (Below.alloc (Below.refl w.heap.size w) (Nat.le_refl _) _) (by simp) _) (by simp <;> omega) hq))
  go_loopw [7] (fun n wr => ∃ g' q' k : Int, okD g' q' a r h = true ∧ n = .int .i64 k ∧ 0 ≤ k ∧ k + quantaF g' q' a r h t = quantaF g q a r h t ∧ Below w.heap.size w wr ∧ Blk wr w.heap.size 24 #[.int .i64 g', .int .i64 q'] ∧ Blk wr (w.heap.size + 1) 26 #[.int .i64 a, .int .i64 r, .int .i64 h]) (fun n _ => (quantaF g q a r h t - intOf n).toNat)
  case atStart => exact ⟨g, q, 0, H, rfl, by omega, by omega, hB, k1, k2⟩
  case round =>
    clear k1 k2 x1 x2 hB hz f1 hq
    obtain ⟨g', q', k, H', rfl, hk, hsum, hB, k1, k2⟩ := hrel
    have x1 := k1.cell
    have x2 := k2.cell
    have f1 := k1.frozen
    have hz := k2.lt
    have hb' := quanta_bd H' h11 h12
    by_cases hne : g' = t
    · subst hne
      rw [quanta_zero] at hsum
      have hk2 : k = quantaF g q a r h g' := by omega
      subst hk2
      go_wp2
      go_ret
      exact ⟨rfl, hB⟩
    · have hn := quanta_next H' h11 h12 hne
      have hn2 := nextE_ok H' h11 h12
      have hb2 := quanta_bd hn2 h11 h12
      go_wp2_with (go_at_call 21; refine (rnext_any' g' q' a r h t _ H').mono ?_; rintro e w2 ⟨rfl, hq2⟩; replace k1 := k1.grows hq2; replace k2 := k2.grows hq2; replace x1 := k1.cell; replace x2 := k2.cell; replace f1 := k1.frozen; replace hB := below_grows hB (Nat.le_refl _) hq2)
      go_roundw
      case rel =>
        refine ⟨_, _, k + 1, hn2, by go_num, by omega, by omega, ?_, ?_, ?_⟩
        · repeat (refine Below.setCell ?_ (by simp) _)
          exact hB
        · have := (k1.set_ 0 (.int .i64 (nextE g' q' a r h t).1)).set_ 1 (.int .i64 (nextE g' q' a r h t).2)
          simpa using this
        · exact (k2.far (by simp) _).far (by simp) _
      case measure => simp [intOf]; omega
theorem rquanta_any (g q a r h t : Int) (w : World) : Calls Try.prog 14 #[.agg #[.int .i64 g, .int .i64 q], .agg #[.int .i64 a, .int .i64 r, .int .i64 h], .int .i64 t] w fun e w' => e = .returned (.int .i64 (quantaF g q a r h t)) ∧ Grows w w' := by
  cases H : okD g q a r h
  · unfold quantaF
    rw [H, if_pos (by simp)]; exact rquanta_bad g q a r h t w H
  · by_cases c1 : t < 0
    · unfold quantaF
      rw [H, if_pos (by simp [c1])]; exact rquanta_r1 g q a r h t w H c1
    by_cases c2 : 262144 < t
    · unfold quantaF
      rw [H, if_pos (by simp [c2])]; exact rquanta_r2 g q a r h t w H (by omega) c2
    exact rquanta_good g q a r h t w H (by omega) (by omega)

end Go.Proofs.Ytgmbgbjpakpihaa
