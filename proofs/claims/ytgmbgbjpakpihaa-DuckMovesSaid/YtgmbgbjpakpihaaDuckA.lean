/-
  Contracts of layer 32 (duck), of the program and of the reference.
-/
import Derived.Test.YtgmbgbjpakpihaaDeck
namespace Go.Proofs.Ytgmbgbjpakpihaa
open Go.RowKit

def okD (g q a r h : Int) : Bool := decide (0 ≤ g) && decide (g ≤ 262144) && decide (0 ≤ h) && decide (h ≤ 4096) && decide (0 ≤ q) && decide (q ≤ h) && decide (1 ≤ a) && decide (a ≤ 262144) && decide (1 ≤ r) && decide (r ≤ 262144)
theorem okD_bd {g q a r h : Int} (H : okD g q a r h = true) : 0 ≤ g ∧ g ≤ 262144 ∧ 0 ≤ h ∧ h ≤ 4096 ∧ 0 ≤ q ∧ q ≤ h ∧ 1 ≤ a ∧ a ≤ 262144 ∧ 1 ≤ r ∧ r ≤ 262144 := by
  simpa [okD, and_assoc] using H
theorem okD_mk {g q a r h : Int} (H : 0 ≤ g ∧ g ≤ 262144 ∧ 0 ≤ h ∧ h ≤ 4096 ∧ 0 ≤ q ∧ q ≤ h ∧ 1 ≤ a ∧ a ≤ 262144 ∧ 1 ≤ r ∧ r ≤ 262144) : okD g q a r h = true := by
  simpa [okD, and_assoc] using H
def nextE (g q a r h t : Int) : Int × Int :=
  if t < g then (max t (g - a), h) else if g < t then (if 0 < q then (g, q - 1) else (min t (g + r), 0)) else (g, q)
structure StepV where
  g : Int
  q : Int
  x : Int
  y : Int
  n : Int
  e : Int
def stepF (g q a r h t p : Int) : StepV :=
  if okD g q a r h = false then ⟨0, 0, 0, 0, 0, 1⟩ else if t < 0 ∨ 262144 < t ∨ p < 16 ∨ 8192 < p then ⟨0, 0, 0, 0, 0, 2⟩ else
    ⟨(nextE g q a r h t).1, (nextE g q a r h t).2, g, (nextE g q a r h t).1, p, 0⟩
def quantaF (g q a r h t : Int) : Int :=
  if okD g q a r h = false ∨ t < 0 ∨ 262144 < t ∨ t = g then 0 else if t < g then (g - t + a - 1) / a else q + (t - g + r - 1) / r

theorem within_any (n lo hi : Int) (w : World) : Calls Try.prog 19 #[.int .i64 n, .int .i64 lo, .int .i64 hi] w fun e w' => e = .returned (.bool (decide (lo ≤ n) && decide (n ≤ hi))) ∧ w = w' := by
  go_enter Try.func19, Try.ntmps19
  go_wp2
  all_goals (go_ret; refine ⟨ret_bool ?_, rfl⟩; simp_all; try omega)

set_option maxHeartbeats 8000000 in
theorem valid_any (g q a r h : Int) (w : World) : Calls Try.prog 8 #[.agg #[.int .i64 g, .int .i64 q], .agg #[.int .i64 a, .int .i64 r, .int .i64 h]] w fun e w' => e = .returned (.bool (okD g q a r h)) ∧ Grows w w' := by
  go_enter Try.func8, Try.ntmps8
  go_wp2_with ((go_at_call 19; refine (within_any _ _ _ _).mono ?_; rintro e w' ⟨rfl, rfl⟩))
  all_goals (go_ret; refine ⟨ret_bool ?_, by repeat (first | (with_reducible exact Below.refl _ _) | refine Below.alloc ?_ (by simp) _ | exact hB)⟩; simp_all [okD]; try omega)

set_option maxHeartbeats 8000000 in
theorem rvalid_any (g q a r h : Int) (w : World) : Calls Try.prog 9 #[.agg #[.int .i64 g, .int .i64 q], .agg #[.int .i64 a, .int .i64 r, .int .i64 h]] w fun e w' => e = .returned (.bool (okD g q a r h)) ∧ Grows w w' := by
  go_enter Try.func9, Try.ntmps9
  go_wp2_with (fail)
  all_goals (go_ret; refine ⟨ret_bool ?_, by repeat (first | (with_reducible exact Below.refl _ _) | refine Below.alloc ?_ (by simp) _ | exact hB)⟩; simp_all [okD]; try omega)

set_option maxHeartbeats 4000000 in
theorem next_down1 (g q a r h t : Int) (w : World) (H : okD g q a r h = true) (h11 : t < g) (h12 : g - a ≤ t) : Calls Try.prog 20 #[.agg #[.int .i64 g, .int .i64 q], .agg #[.int .i64 a, .int .i64 r, .int .i64 h], .int .i64 t] w fun e w' => e = .returned (.agg #[.int .i64 t, .int .i64 h]) ∧ Grows w w' := by
  obtain ⟨h1, h2, h3, h4, h5, h6, h7, h8, h9, h10⟩ := okD_bd H
  have e1 : max t (g - a) = t := by omega
  go_enter Try.func20, Try.ntmps20
  go_wp2
  refine bodyPost_ret (v := .agg #[.int .i64 t, .int .i64 h]) (by simp [results, Try.results20, go_sem]) rfl ⟨rfl, ?_⟩
  repeat (first | (with_reducible exact Below.refl _ _) | refine Below.setCell ?_ (by simp <;> omega) _ | refine Below.alloc ?_ (by simp <;> omega) _)

set_option maxHeartbeats 4000000 in
theorem next_down2 (g q a r h t : Int) (w : World) (H : okD g q a r h = true) (h11 : t < g) (h12 : t < g - a) : Calls Try.prog 20 #[.agg #[.int .i64 g, .int .i64 q], .agg #[.int .i64 a, .int .i64 r, .int .i64 h], .int .i64 t] w fun e w' => e = .returned (.agg #[.int .i64 (g - a), .int .i64 h]) ∧ Grows w w' := by
  obtain ⟨h1, h2, h3, h4, h5, h6, h7, h8, h9, h10⟩ := okD_bd H
  have e1 : max t (g - a) = g - a := by omega
  go_enter Try.func20, Try.ntmps20
  go_wp2
  refine bodyPost_ret (v := .agg #[.int .i64 (g - a), .int .i64 h]) (by simp [results, Try.results20, go_sem]) rfl ⟨rfl, ?_⟩
  repeat (first | (with_reducible exact Below.refl _ _) | refine Below.setCell ?_ (by simp <;> omega) _ | refine Below.alloc ?_ (by simp <;> omega) _)

set_option maxHeartbeats 4000000 in
theorem next_hold (g q a r h t : Int) (w : World) (H : okD g q a r h = true) (h11 : g < t) (h12 : 0 < q) : Calls Try.prog 20 #[.agg #[.int .i64 g, .int .i64 q], .agg #[.int .i64 a, .int .i64 r, .int .i64 h], .int .i64 t] w fun e w' => e = .returned (.agg #[.int .i64 g, .int .i64 (q - 1)]) ∧ Grows w w' := by
  obtain ⟨h1, h2, h3, h4, h5, h6, h7, h8, h9, h10⟩ := okD_bd H
  go_enter Try.func20, Try.ntmps20
  go_wp2
  refine bodyPost_ret (v := .agg #[.int .i64 g, .int .i64 (q - 1)]) (by simp [results, Try.results20, go_sem]) rfl ⟨rfl, ?_⟩
  repeat (first | (with_reducible exact Below.refl _ _) | refine Below.setCell ?_ (by simp <;> omega) _ | refine Below.alloc ?_ (by simp <;> omega) _)

set_option maxHeartbeats 4000000 in
theorem next_up1 (g q a r h t : Int) (w : World) (H : okD g q a r h = true) (h11 : g < t) (h12 : q = 0) (h13 : t ≤ g + r) : Calls Try.prog 20 #[.agg #[.int .i64 g, .int .i64 q], .agg #[.int .i64 a, .int .i64 r, .int .i64 h], .int .i64 t] w fun e w' => e = .returned (.agg #[.int .i64 t, .int .i64 0]) ∧ Grows w w' := by
  obtain ⟨h1, h2, h3, h4, h5, h6, h7, h8, h9, h10⟩ := okD_bd H
  subst h12
  have e1 : min t (g + r) = t := by omega
  go_enter Try.func20, Try.ntmps20
  go_wp2
  refine bodyPost_ret (v := .agg #[.int .i64 t, .int .i64 0]) (by simp [results, Try.results20, go_sem]) rfl ⟨rfl, ?_⟩
  repeat (first | (with_reducible exact Below.refl _ _) | refine Below.setCell ?_ (by simp <;> omega) _ | refine Below.alloc ?_ (by simp <;> omega) _)

set_option maxHeartbeats 4000000 in
theorem next_up2 (g q a r h t : Int) (w : World) (H : okD g q a r h = true) (h11 : g < t) (h12 : q = 0) (h13 : g + r < t) : Calls Try.prog 20 #[.agg #[.int .i64 g, .int .i64 q], .agg #[.int .i64 a, .int .i64 r, .int .i64 h], .int .i64 t] w fun e w' => e = .returned (.agg #[.int .i64 (g + r), .int .i64 0]) ∧ Grows w w' := by
  obtain ⟨h1, h2, h3, h4, h5, h6, h7, h8, h9, h10⟩ := okD_bd H
  subst h12
  have e1 : min t (g + r) = g + r := by omega
  go_enter Try.func20, Try.ntmps20
  go_wp2
  refine bodyPost_ret (v := .agg #[.int .i64 (g + r), .int .i64 0]) (by simp [results, Try.results20, go_sem]) rfl ⟨rfl, ?_⟩
  repeat (first | (with_reducible exact Below.refl _ _) | refine Below.setCell ?_ (by simp <;> omega) _ | refine Below.alloc ?_ (by simp <;> omega) _)

set_option maxHeartbeats 4000000 in
theorem next_same (g q a r h t : Int) (w : World) (H : okD g q a r h = true) (h11 : t = g) : Calls Try.prog 20 #[.agg #[.int .i64 g, .int .i64 q], .agg #[.int .i64 a, .int .i64 r, .int .i64 h], .int .i64 t] w fun e w' => e = .returned (.agg #[.int .i64 g, .int .i64 q]) ∧ Grows w w' := by
  obtain ⟨h1, h2, h3, h4, h5, h6, h7, h8, h9, h10⟩ := okD_bd H
  subst h11
  go_enter Try.func20, Try.ntmps20
  go_wp2
  refine bodyPost_ret (v := .agg #[.int .i64 t, .int .i64 q]) (by simp [results, Try.results20, go_sem]) rfl ⟨rfl, ?_⟩
  repeat (first | (with_reducible exact Below.refl _ _) | refine Below.setCell ?_ (by simp <;> omega) _ | refine Below.alloc ?_ (by simp <;> omega) _)

theorem next_any' (g q a r h t : Int) (w : World) (H : okD g q a r h = true) : Calls Try.prog 20 #[.agg #[.int .i64 g, .int .i64 q], .agg #[.int .i64 a, .int .i64 r, .int .i64 h], .int .i64 t] w fun e w' => e = .returned (.agg #[.int .i64 (nextE g q a r h t).1, .int .i64 (nextE g q a r h t).2]) ∧ Grows w w' := by
  obtain ⟨h1, h2, h3, h4, h5, h6, h7, h8, h9, h10⟩ := okD_bd H
  unfold nextE
  by_cases c1 : t < g
  · rw [if_pos c1]
    by_cases c2 : g - a ≤ t
    · rw [show max t (g - a) = t by omega]; exact next_down1 g q a r h t w H c1 c2
    · rw [show max t (g - a) = g - a by omega]; exact next_down2 g q a r h t w H c1 (by omega)
  · rw [if_neg c1]
    by_cases c2 : g < t
    · rw [if_pos c2]
      by_cases c3 : 0 < q
      · rw [if_pos c3]; exact next_hold g q a r h t w H c2 c3
      · rw [if_neg c3]
        by_cases c4 : t ≤ g + r
        · rw [show min t (g + r) = t by omega]; exact next_up1 g q a r h t w H c2 (by omega) c4
        · rw [show min t (g + r) = g + r by omega]; exact next_up2 g q a r h t w H c2 (by omega) (by omega)
    · rw [if_neg c2]; exact next_same g q a r h t w H (by omega)

set_option maxHeartbeats 4000000 in
theorem rnext_down1 (g q a r h t : Int) (w : World) (H : okD g q a r h = true) (h11 : t < g) (h12 : g - a ≤ t) : Calls Try.prog 21 #[.agg #[.int .i64 g, .int .i64 q], .agg #[.int .i64 a, .int .i64 r, .int .i64 h], .int .i64 t] w fun e w' => e = .returned (.agg #[.int .i64 t, .int .i64 h]) ∧ Grows w w' := by
  obtain ⟨h1, h2, h3, h4, h5, h6, h7, h8, h9, h10⟩ := okD_bd H
  have e1 : max t (g - a) = t := by omega
  go_enter Try.func21, Try.ntmps21
  go_wp2
  refine bodyPost_ret (v := .agg #[.int .i64 t, .int .i64 h]) (by simp [results, Try.results21, go_sem]) rfl ⟨rfl, ?_⟩
  repeat (first | (with_reducible exact Below.refl _ _) | refine Below.setCell ?_ (by simp <;> omega) _ | refine Below.alloc ?_ (by simp <;> omega) _)

set_option maxHeartbeats 4000000 in
theorem rnext_down2 (g q a r h t : Int) (w : World) (H : okD g q a r h = true) (h11 : t < g) (h12 : t < g - a) : Calls Try.prog 21 #[.agg #[.int .i64 g, .int .i64 q], .agg #[.int .i64 a, .int .i64 r, .int .i64 h], .int .i64 t] w fun e w' => e = .returned (.agg #[.int .i64 (g - a), .int .i64 h]) ∧ Grows w w' := by
  obtain ⟨h1, h2, h3, h4, h5, h6, h7, h8, h9, h10⟩ := okD_bd H
  have e1 : max t (g - a) = g - a := by omega
  go_enter Try.func21, Try.ntmps21
  go_wp2
  refine bodyPost_ret (v := .agg #[.int .i64 (g - a), .int .i64 h]) (by simp [results, Try.results21, go_sem]) rfl ⟨rfl, ?_⟩
  repeat (first | (with_reducible exact Below.refl _ _) | refine Below.setCell ?_ (by simp <;> omega) _ | refine Below.alloc ?_ (by simp <;> omega) _)

set_option maxHeartbeats 4000000 in
theorem rnext_hold (g q a r h t : Int) (w : World) (H : okD g q a r h = true) (h11 : g < t) (h12 : 0 < q) : Calls Try.prog 21 #[.agg #[.int .i64 g, .int .i64 q], .agg #[.int .i64 a, .int .i64 r, .int .i64 h], .int .i64 t] w fun e w' => e = .returned (.agg #[.int .i64 g, .int .i64 (q - 1)]) ∧ Grows w w' := by
  obtain ⟨h1, h2, h3, h4, h5, h6, h7, h8, h9, h10⟩ := okD_bd H
  go_enter Try.func21, Try.ntmps21
  go_wp2
  refine bodyPost_ret (v := .agg #[.int .i64 g, .int .i64 (q - 1)]) (by simp [results, Try.results21, go_sem]) rfl ⟨rfl, ?_⟩
  repeat (first | (with_reducible exact Below.refl _ _) | refine Below.setCell ?_ (by simp <;> omega) _ | refine Below.alloc ?_ (by simp <;> omega) _)

set_option maxHeartbeats 4000000 in
theorem rnext_up1 (g q a r h t : Int) (w : World) (H : okD g q a r h = true) (h11 : g < t) (h12 : q = 0) (h13 : t ≤ g + r) : Calls Try.prog 21 #[.agg #[.int .i64 g, .int .i64 q], .agg #[.int .i64 a, .int .i64 r, .int .i64 h], .int .i64 t] w fun e w' => e = .returned (.agg #[.int .i64 t, .int .i64 0]) ∧ Grows w w' := by
  obtain ⟨h1, h2, h3, h4, h5, h6, h7, h8, h9, h10⟩ := okD_bd H
  subst h12
  have e1 : min t (g + r) = t := by omega
  go_enter Try.func21, Try.ntmps21
  go_wp2
  refine bodyPost_ret (v := .agg #[.int .i64 t, .int .i64 0]) (by simp [results, Try.results21, go_sem]) rfl ⟨rfl, ?_⟩
  repeat (first | (with_reducible exact Below.refl _ _) | refine Below.setCell ?_ (by simp <;> omega) _ | refine Below.alloc ?_ (by simp <;> omega) _)

set_option maxHeartbeats 4000000 in
theorem rnext_up2 (g q a r h t : Int) (w : World) (H : okD g q a r h = true) (h11 : g < t) (h12 : q = 0) (h13 : g + r < t) : Calls Try.prog 21 #[.agg #[.int .i64 g, .int .i64 q], .agg #[.int .i64 a, .int .i64 r, .int .i64 h], .int .i64 t] w fun e w' => e = .returned (.agg #[.int .i64 (g + r), .int .i64 0]) ∧ Grows w w' := by
  obtain ⟨h1, h2, h3, h4, h5, h6, h7, h8, h9, h10⟩ := okD_bd H
  subst h12
  have e1 : min t (g + r) = g + r := by omega
  go_enter Try.func21, Try.ntmps21
  go_wp2
  refine bodyPost_ret (v := .agg #[.int .i64 (g + r), .int .i64 0]) (by simp [results, Try.results21, go_sem]) rfl ⟨rfl, ?_⟩
  repeat (first | (with_reducible exact Below.refl _ _) | refine Below.setCell ?_ (by simp <;> omega) _ | refine Below.alloc ?_ (by simp <;> omega) _)

set_option maxHeartbeats 4000000 in
theorem rnext_same (g q a r h t : Int) (w : World) (H : okD g q a r h = true) (h11 : t = g) : Calls Try.prog 21 #[.agg #[.int .i64 g, .int .i64 q], .agg #[.int .i64 a, .int .i64 r, .int .i64 h], .int .i64 t] w fun e w' => e = .returned (.agg #[.int .i64 g, .int .i64 q]) ∧ Grows w w' := by
  obtain ⟨h1, h2, h3, h4, h5, h6, h7, h8, h9, h10⟩ := okD_bd H
  subst h11
  go_enter Try.func21, Try.ntmps21
  go_wp2
  refine bodyPost_ret (v := .agg #[.int .i64 t, .int .i64 q]) (by simp [results, Try.results21, go_sem]) rfl ⟨rfl, ?_⟩
  repeat (first | (with_reducible exact Below.refl _ _) | refine Below.setCell ?_ (by simp <;> omega) _ | refine Below.alloc ?_ (by simp <;> omega) _)

theorem rnext_any' (g q a r h t : Int) (w : World) (H : okD g q a r h = true) : Calls Try.prog 21 #[.agg #[.int .i64 g, .int .i64 q], .agg #[.int .i64 a, .int .i64 r, .int .i64 h], .int .i64 t] w fun e w' => e = .returned (.agg #[.int .i64 (nextE g q a r h t).1, .int .i64 (nextE g q a r h t).2]) ∧ Grows w w' := by
  obtain ⟨h1, h2, h3, h4, h5, h6, h7, h8, h9, h10⟩ := okD_bd H
  unfold nextE
  by_cases c1 : t < g
  · rw [if_pos c1]
    by_cases c2 : g - a ≤ t
    · rw [show max t (g - a) = t by omega]; exact rnext_down1 g q a r h t w H c1 c2
    · rw [show max t (g - a) = g - a by omega]; exact rnext_down2 g q a r h t w H c1 (by omega)
  · rw [if_neg c1]
    by_cases c2 : g < t
    · rw [if_pos c2]
      by_cases c3 : 0 < q
      · rw [if_pos c3]; exact rnext_hold g q a r h t w H c2 c3
      · rw [if_neg c3]
        by_cases c4 : t ≤ g + r
        · rw [show min t (g + r) = t by omega]; exact rnext_up1 g q a r h t w H c2 (by omega) c4
        · rw [show min t (g + r) = g + r by omega]; exact rnext_up2 g q a r h t w H c2 (by omega) (by omega)
    · rw [if_neg c2]; exact rnext_same g q a r h t w H (by omega)

end Go.Proofs.Ytgmbgbjpakpihaa
