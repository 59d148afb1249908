/-
  Contracts of layer 36 (client), of the program and of the reference.
-/
import Derived.Test.YtmipggfcdmmpfaaMill
namespace Go.Proofs.Ytmipggfcdmmpfaa
open Go.RowKit

structure Cd where
  p : Int
  g : Int
  t : Int
  s : Int
  d : Bool
def Cd.zero : Cd := ⟨0, 0, 0, 0, false⟩
def Cd.ok (c : Cd) : Bool := decide (0 ≤ c.p) && decide (c.p ≤ 4096) && decide (0 ≤ c.t) && decide (c.t ≤ c.g) && decide (c.g ≤ 1099511627776) && decide (0 ≤ c.s) && decide (c.s ≤ 1099511627776)
def newF (p : Int) : Cd × Int := if 0 ≤ p ∧ p ≤ 4096 then (⟨p, 0, 0, 0, false⟩, 0) else (Cd.zero, 2)
def wroteF (c : Cd) (n : Int) : Cd × Int :=
  if c.ok = false then (Cd.zero, 1) else if c.d then (Cd.zero, 9) else if n < 0 then (Cd.zero, 2) else if 1099511627776 - c.g < n then (Cd.zero, 3) else (⟨c.p, c.g + n, c.t, c.s, c.d⟩, 0)
def tickF (c : Cd) (n : Int) : Cd × Int × Int :=
  if c.ok = false then (Cd.zero, 0, 1) else if n < 0 then (Cd.zero, 0, 2) else
    (⟨c.p, c.g, c.t + min n (c.g - c.t), if n - min n (c.g - c.t) = 0 then 0 else min (c.s + 1) 1099511627776, c.d⟩, n - min n (c.g - c.t), 0)
def dieF (c : Cd) : Cd := ⟨c.p, c.g, c.t, c.s, true⟩
def stateF (c : Cd) : Int := if c.ok = false then 0 else if c.d then 4 else if c.p < c.s then 3 else if 0 < c.s then 2 else 1
def wholeF (b fr : Int) : Int := if b < 0 ∨ fr < 1 then 0 else b / fr

theorem ok_bd {p g t s : Int} {d : Bool} (h : Cd.ok ⟨p, g, t, s, d⟩ = true) : 0 ≤ p ∧ p ≤ 4096 ∧ 0 ≤ t ∧ t ≤ g ∧ g ≤ 1099511627776 ∧ 0 ≤ s ∧ s ≤ 1099511627776 := by
  simpa [Cd.ok, and_assoc] using h

set_option maxHeartbeats 4000000 in
theorem valid_any (p g t s : Int) (d : Bool) (w : World) : Calls Try.prog 8 #[.agg #[.int .i64 p, .int .i64 g, .int .i64 t, .int .i64 s, .bool d]] w fun e w' => e = .returned (.bool (Cd.ok ⟨p, g, t, s, d⟩)) ∧ Grows w w' := by
  go_enter Try.func8, Try.ntmps8
  go_wp2
  all_goals (go_ret; refine ⟨ret_bool ?_, by repeat (first | (with_reducible exact Below.refl _ _) | refine Below.alloc ?_ (by simp) _ | exact hB)⟩; simp_all [Cd.ok]; try omega)

set_option maxHeartbeats 4000000 in
theorem wrote_bad (p g t s : Int) (d : Bool) (n : Int) (w : World) (h : Cd.ok ⟨p, g, t, s, d⟩ = false) : Calls Try.prog 15 #[.agg #[.int .i64 p, .int .i64 g, .int .i64 t, .int .i64 s, .bool d], .int .i64 n] w fun e w' => e = .returned (.tuple #[.agg #[.int .i64 0, .int .i64 0, .int .i64 0, .int .i64 0, .bool false], .int .i64 1]) ∧ Grows w w' := by
  go_enter Try.func15, Try.ntmps15
  go_wp2_with ((go_at_call 8; refine (valid_any _ _ _ _ _ _).mono ?_; rintro e w1 ⟨rfl, hq⟩; have hz : w.heap.size + 1 < w1.heap.size := Nat.lt_of_lt_of_le (by simp) hq.size; have k1 := Blk.grows (Blk.alloc (Blk.new _ _ _) _) hq; have k2 := Blk.grows (blk_new2 _ _ _ _) hq; have x1 := k1.cell; have x2 := k2.cell; have f1 := k1.frozen; have f2 := k2.frozen; have hB := Below.trans (Below.alloc (Below.alloc (Below.refl w.heap.size w) (Nat.le_refl _) _) (by simp) _) (hq.mono (by simp; omega))))
  refine bodyPost_ret (v := .tuple #[.agg #[.int .i64 0, .int .i64 0, .int .i64 0, .int .i64 0, .bool false], .int .i64 1]) (by simp [results, Try.results15, go_sem, x2]) rfl ⟨rfl, ?_⟩
  iterate 5 refine Below.setCell ?_ (by simp) _
  exact hB

set_option maxHeartbeats 4000000 in
theorem wrote_dead (p g t s n : Int) (w : World) (h : Cd.ok ⟨p, g, t, s, true⟩ = true) : Calls Try.prog 15 #[.agg #[.int .i64 p, .int .i64 g, .int .i64 t, .int .i64 s, .bool true], .int .i64 n] w fun e w' => e = .returned (.tuple #[.agg #[.int .i64 0, .int .i64 0, .int .i64 0, .int .i64 0, .bool false], .int .i64 9]) ∧ Grows w w' := by
  go_enter Try.func15, Try.ntmps15
  go_wp2_with ((go_at_call 8; refine (valid_any _ _ _ _ _ _).mono ?_; rintro e w1 ⟨rfl, hq⟩; have hz : w.heap.size + 1 < w1.heap.size := Nat.lt_of_lt_of_le (by simp) hq.size; have k1 := Blk.grows (Blk.alloc (Blk.new _ _ _) _) hq; have k2 := Blk.grows (blk_new2 _ _ _ _) hq; have x1 := k1.cell; have x2 := k2.cell; have f1 := k1.frozen; have f2 := k2.frozen; have hB := Below.trans (Below.alloc (Below.alloc (Below.refl w.heap.size w) (Nat.le_refl _) _) (by simp) _) (hq.mono (by simp; omega))))
  refine bodyPost_ret (v := .tuple #[.agg #[.int .i64 0, .int .i64 0, .int .i64 0, .int .i64 0, .bool false], .int .i64 9]) (by simp [results, Try.results15, go_sem, x2]) rfl ⟨rfl, ?_⟩
  iterate 5 refine Below.setCell ?_ (by simp) _
  exact hB

set_option maxHeartbeats 4000000 in
theorem wrote_neg (p g t s n : Int) (w : World) (h : Cd.ok ⟨p, g, t, s, false⟩ = true) (hn : n < 0) : Calls Try.prog 15 #[.agg #[.int .i64 p, .int .i64 g, .int .i64 t, .int .i64 s, .bool false], .int .i64 n] w fun e w' => e = .returned (.tuple #[.agg #[.int .i64 0, .int .i64 0, .int .i64 0, .int .i64 0, .bool false], .int .i64 2]) ∧ Grows w w' := by
  go_enter Try.func15, Try.ntmps15
  go_wp2_with ((go_at_call 8; refine (valid_any _ _ _ _ _ _).mono ?_; rintro e w1 ⟨rfl, hq⟩; have hz : w.heap.size + 1 < w1.heap.size := Nat.lt_of_lt_of_le (by simp) hq.size; have k1 := Blk.grows (Blk.alloc (Blk.new _ _ _) _) hq; have k2 := Blk.grows (blk_new2 _ _ _ _) hq; have x1 := k1.cell; have x2 := k2.cell; have f1 := k1.frozen; have f2 := k2.frozen; have hB := Below.trans (Below.alloc (Below.alloc (Below.refl w.heap.size w) (Nat.le_refl _) _) (by simp) _) (hq.mono (by simp; omega))))
  refine bodyPost_ret (v := .tuple #[.agg #[.int .i64 0, .int .i64 0, .int .i64 0, .int .i64 0, .bool false], .int .i64 2]) (by simp [results, Try.results15, go_sem, x2]) rfl ⟨rfl, ?_⟩
  iterate 5 refine Below.setCell ?_ (by simp) _
  exact hB

set_option maxHeartbeats 4000000 in
theorem wrote_lim (p g t s n : Int) (w : World) (h : Cd.ok ⟨p, g, t, s, false⟩ = true) (hn : 0 ≤ n) (hl : 1099511627776 - g < n) : Calls Try.prog 15 #[.agg #[.int .i64 p, .int .i64 g, .int .i64 t, .int .i64 s, .bool false], .int .i64 n] w fun e w' => e = .returned (.tuple #[.agg #[.int .i64 0, .int .i64 0, .int .i64 0, .int .i64 0, .bool false], .int .i64 3]) ∧ Grows w w' := by
  obtain ⟨h1, h2, h3, h4, h5, h6, h7⟩ := ok_bd h
  go_enter Try.func15, Try.ntmps15
  go_wp2_with ((go_at_call 8; refine (valid_any _ _ _ _ _ _).mono ?_; rintro e w1 ⟨rfl, hq⟩; have hz : w.heap.size + 1 < w1.heap.size := Nat.lt_of_lt_of_le (by simp) hq.size; have k1 := Blk.grows (Blk.alloc (Blk.new _ _ _) _) hq; have k2 := Blk.grows (blk_new2 _ _ _ _) hq; have x1 := k1.cell; have x2 := k2.cell; have f1 := k1.frozen; have f2 := k2.frozen; have hB := Below.trans (Below.alloc (Below.alloc (Below.refl w.heap.size w) (Nat.le_refl _) _) (by simp) _) (hq.mono (by simp; omega))))
  refine bodyPost_ret (v := .tuple #[.agg #[.int .i64 0, .int .i64 0, .int .i64 0, .int .i64 0, .bool false], .int .i64 3]) (by simp [results, Try.results15, go_sem, x2]) rfl ⟨rfl, ?_⟩
  iterate 5 refine Below.setCell ?_ (by simp) _
  exact hB

set_option maxHeartbeats 4000000 in
theorem wrote_good (p g t s n : Int) (w : World) (h : Cd.ok ⟨p, g, t, s, false⟩ = true) (hn : 0 ≤ n) (hl : n ≤ 1099511627776 - g) : Calls Try.prog 15 #[.agg #[.int .i64 p, .int .i64 g, .int .i64 t, .int .i64 s, .bool false], .int .i64 n] w fun e w' => e = .returned (.tuple #[.agg #[.int .i64 p, .int .i64 (g + n), .int .i64 t, .int .i64 s, .bool false], .int .i64 0]) ∧ Grows w w' := by
  obtain ⟨h1, h2, h3, h4, h5, h6, h7⟩ := ok_bd h
  go_enter Try.func15, Try.ntmps15
  go_wp2_with ((go_at_call 8; refine (valid_any _ _ _ _ _ _).mono ?_; rintro e w1 ⟨rfl, hq⟩; have hz : w.heap.size + 1 < w1.heap.size := Nat.lt_of_lt_of_le (by simp) hq.size; have k1 := Blk.grows (Blk.alloc (Blk.new _ _ _) _) hq; have k2 := Blk.grows (blk_new2 _ _ _ _) hq; have x1 := k1.cell; have x2 := k2.cell; have f1 := k1.frozen; have f2 := k2.frozen; have hB := Below.trans (Below.alloc (Below.alloc (Below.refl w.heap.size w) (Nat.le_refl _) _) (by simp) _) (hq.mono (by simp; omega))))
  refine bodyPost_ret (v := .tuple #[.agg #[.int .i64 p, .int .i64 (g + n), .int .i64 t, .int .i64 s, .bool false], .int .i64 0]) (by simp [results, Try.results15, go_sem, x2]) rfl ⟨rfl, ?_⟩
  iterate 6 refine Below.setCell ?_ (by simp) _
  exact hB

theorem wrote_any (p g t s n : Int) (d : Bool) (w : World) : Calls Try.prog 15 #[.agg #[.int .i64 p, .int .i64 g, .int .i64 t, .int .i64 s, .bool d], .int .i64 n] w fun e w' => e = .returned (.tuple #[.agg #[.int .i64 ((wroteF ⟨p, g, t, s, d⟩ n).1).p, .int .i64 ((wroteF ⟨p, g, t, s, d⟩ n).1).g, .int .i64 ((wroteF ⟨p, g, t, s, d⟩ n).1).t, .int .i64 ((wroteF ⟨p, g, t, s, d⟩ n).1).s, .bool ((wroteF ⟨p, g, t, s, d⟩ n).1).d], .int .i64 (wroteF ⟨p, g, t, s, d⟩ n).2]) ∧ Grows w w' := by
  cases h : Cd.ok ⟨p, g, t, s, d⟩
  · have e : wroteF ⟨p, g, t, s, d⟩ n = (Cd.zero, 1) := by simp [wroteF, h]
    rw [e]; exact wrote_bad p g t s d n w h
  · cases d
    · by_cases hn : n < 0
      · have e : wroteF ⟨p, g, t, s, false⟩ n = (Cd.zero, 2) := by simp [wroteF, h, hn]
        rw [e]; exact wrote_neg p g t s n w h hn
      · by_cases hl : 1099511627776 - g < n
        · have e : wroteF ⟨p, g, t, s, false⟩ n = (Cd.zero, 3) := by simp [wroteF, h, hn, hl]
          rw [e]; exact wrote_lim p g t s n w h (by omega) hl
        · have e : wroteF ⟨p, g, t, s, false⟩ n = (⟨p, g + n, t, s, false⟩, 0) := by simp [wroteF, h, hn, hl]
          rw [e]; exact wrote_good p g t s n w h (by omega) (by omega)
    · have e : wroteF ⟨p, g, t, s, true⟩ n = (Cd.zero, 9) := by simp [wroteF, h]
      rw [e]; exact wrote_dead p g t s n w h

set_option maxHeartbeats 4000000 in
theorem tick_bad (p g t s : Int) (d : Bool) (n : Int) (w : World) (h : Cd.ok ⟨p, g, t, s, d⟩ = false) : Calls Try.prog 17 #[.agg #[.int .i64 p, .int .i64 g, .int .i64 t, .int .i64 s, .bool d], .int .i64 n] w fun e w' => e = .returned (.tuple #[.agg #[.int .i64 0, .int .i64 0, .int .i64 0, .int .i64 0, .bool false], .int .i64 0, .int .i64 1]) ∧ Grows w w' := by
  go_enter Try.func17, Try.ntmps17
  go_wp2_with ((go_at_call 8; refine (valid_any _ _ _ _ _ _).mono ?_; rintro e w1 ⟨rfl, hq⟩; have hz : w.heap.size + 1 < w1.heap.size := Nat.lt_of_lt_of_le (by simp) hq.size; have k1 := Blk.grows (Blk.alloc (Blk.new _ _ _) _) hq; have k2 := Blk.grows (blk_new2 _ _ _ _) hq; have x1 := k1.cell; have x2 := k2.cell; have f1 := k1.frozen; have f2 := k2.frozen; have hB := Below.trans (Below.alloc (Below.alloc (Below.refl w.heap.size w) (Nat.le_refl _) _) (by simp) _) (hq.mono (by simp; omega))))
  refine bodyPost_ret (v := .tuple #[.agg #[.int .i64 0, .int .i64 0, .int .i64 0, .int .i64 0, .bool false], .int .i64 0, .int .i64 1]) (by simp [results, Try.results17, go_sem, x2]) rfl ⟨rfl, ?_⟩
  iterate 5 refine Below.setCell ?_ (by simp) _
  exact hB

set_option maxHeartbeats 4000000 in
theorem tick_neg (p g t s : Int) (d : Bool) (n : Int) (w : World) (h : Cd.ok ⟨p, g, t, s, d⟩ = true) (hn : n < 0) : Calls Try.prog 17 #[.agg #[.int .i64 p, .int .i64 g, .int .i64 t, .int .i64 s, .bool d], .int .i64 n] w fun e w' => e = .returned (.tuple #[.agg #[.int .i64 0, .int .i64 0, .int .i64 0, .int .i64 0, .bool false], .int .i64 0, .int .i64 2]) ∧ Grows w w' := by
  go_enter Try.func17, Try.ntmps17
  go_wp2_with ((go_at_call 8; refine (valid_any _ _ _ _ _ _).mono ?_; rintro e w1 ⟨rfl, hq⟩; have hz : w.heap.size + 1 < w1.heap.size := Nat.lt_of_lt_of_le (by simp) hq.size; have k1 := Blk.grows (Blk.alloc (Blk.new _ _ _) _) hq; have k2 := Blk.grows (blk_new2 _ _ _ _) hq; have x1 := k1.cell; have x2 := k2.cell; have f1 := k1.frozen; have f2 := k2.frozen; have hB := Below.trans (Below.alloc (Below.alloc (Below.refl w.heap.size w) (Nat.le_refl _) _) (by simp) _) (hq.mono (by simp; omega))))
  refine bodyPost_ret (v := .tuple #[.agg #[.int .i64 0, .int .i64 0, .int .i64 0, .int .i64 0, .bool false], .int .i64 0, .int .i64 2]) (by simp [results, Try.results17, go_sem, x2]) rfl ⟨rfl, ?_⟩
  iterate 5 refine Below.setCell ?_ (by simp) _
  exact hB

set_option maxHeartbeats 4000000 in
theorem tick_all (p g t s : Int) (d : Bool) (n : Int) (w : World) (h : Cd.ok ⟨p, g, t, s, d⟩ = true) (hn : 0 ≤ n) (hl : n ≤ g - t) : Calls Try.prog 17 #[.agg #[.int .i64 p, .int .i64 g, .int .i64 t, .int .i64 s, .bool d], .int .i64 n] w fun e w' => e = .returned (.tuple #[.agg #[.int .i64 p, .int .i64 g, .int .i64 (t + n), .int .i64 0, .bool d], .int .i64 0, .int .i64 0]) ∧ Grows w w' := by
  obtain ⟨h1, h2, h3, h4, h5, h6, h7⟩ := ok_bd h
  have e1 : min n (g - t) = n := by omega
  go_enter Try.func17, Try.ntmps17
  go_wp2_with ((go_at_call 8; refine (valid_any _ _ _ _ _ _).mono ?_; rintro e w1 ⟨rfl, hq⟩; have hz : w.heap.size + 1 < w1.heap.size := Nat.lt_of_lt_of_le (by simp) hq.size; have k1 := Blk.grows (Blk.alloc (Blk.new _ _ _) _) hq; have k2 := Blk.grows (blk_new2 _ _ _ _) hq; have x1 := k1.cell; have x2 := k2.cell; have f1 := k1.frozen; have f2 := k2.frozen; have hB := Below.trans (Below.alloc (Below.alloc (Below.refl w.heap.size w) (Nat.le_refl _) _) (by simp) _) (hq.mono (by simp; omega))))
  refine bodyPost_ret (v := .tuple #[.agg #[.int .i64 p, .int .i64 g, .int .i64 (t + n), .int .i64 0, .bool d], .int .i64 0, .int .i64 0]) (by simp [results, Try.results17, go_sem, x2]) rfl ⟨rfl, ?_⟩
  iterate 7 refine Below.setCell ?_ (by simp) _
  exact hB

set_option maxHeartbeats 4000000 in
theorem tick_miss (p g t s : Int) (d : Bool) (n : Int) (w : World) (h : Cd.ok ⟨p, g, t, s, d⟩ = true) (hn : 0 ≤ n) (hn2 : n ≤ 9223372036854775807) (hl : g - t < n) (hs : s < 1099511627776) : Calls Try.prog 17 #[.agg #[.int .i64 p, .int .i64 g, .int .i64 t, .int .i64 s, .bool d], .int .i64 n] w fun e w' => e = .returned (.tuple #[.agg #[.int .i64 p, .int .i64 g, .int .i64 g, .int .i64 (s + 1), .bool d], .int .i64 (n - (g - t)), .int .i64 0]) ∧ Grows w w' := by
  obtain ⟨h1, h2, h3, h4, h5, h6, h7⟩ := ok_bd h
  have e1 : min n (g - t) = g - t := by omega
  have e2 : (n - (g - t) == 0) = false := by simp; omega
  have e3 : t + (g - t) = g := by omega
  go_enter Try.func17, Try.ntmps17
  go_wp2_with ((go_at_call 8; refine (valid_any _ _ _ _ _ _).mono ?_; rintro e w1 ⟨rfl, hq⟩; have hz : w.heap.size + 1 < w1.heap.size := Nat.lt_of_lt_of_le (by simp) hq.size; have k1 := Blk.grows (Blk.alloc (Blk.new _ _ _) _) hq; have k2 := Blk.grows (blk_new2 _ _ _ _) hq; have x1 := k1.cell; have x2 := k2.cell; have f1 := k1.frozen; have f2 := k2.frozen; have hB := Below.trans (Below.alloc (Below.alloc (Below.refl w.heap.size w) (Nat.le_refl _) _) (by simp) _) (hq.mono (by simp; omega))))
  refine bodyPost_ret (v := .tuple #[.agg #[.int .i64 p, .int .i64 g, .int .i64 g, .int .i64 (s + 1), .bool d], .int .i64 (n - (g - t)), .int .i64 0]) (by simp [results, Try.results17, go_sem, x2]) rfl ⟨rfl, ?_⟩
  iterate 7 refine Below.setCell ?_ (by simp) _
  exact hB

set_option maxHeartbeats 4000000 in
theorem tick_full (p g t s : Int) (d : Bool) (n : Int) (w : World) (h : Cd.ok ⟨p, g, t, s, d⟩ = true) (hn : 0 ≤ n) (hn2 : n ≤ 9223372036854775807) (hl : g - t < n) (hs : ¬ s < 1099511627776) : Calls Try.prog 17 #[.agg #[.int .i64 p, .int .i64 g, .int .i64 t, .int .i64 s, .bool d], .int .i64 n] w fun e w' => e = .returned (.tuple #[.agg #[.int .i64 p, .int .i64 g, .int .i64 g, .int .i64 1099511627776, .bool d], .int .i64 (n - (g - t)), .int .i64 0]) ∧ Grows w w' := by
  obtain ⟨h1, h2, h3, h4, h5, h6, h7⟩ := ok_bd h
  have e1 : min n (g - t) = g - t := by omega
  have e2 : (n - (g - t) == 0) = false := by simp; omega
  have e3 : t + (g - t) = g := by omega
  go_enter Try.func17, Try.ntmps17
  go_wp2_with ((go_at_call 8; refine (valid_any _ _ _ _ _ _).mono ?_; rintro e w1 ⟨rfl, hq⟩; have hz : w.heap.size + 1 < w1.heap.size := Nat.lt_of_lt_of_le (by simp) hq.size; have k1 := Blk.grows (Blk.alloc (Blk.new _ _ _) _) hq; have k2 := Blk.grows (blk_new2 _ _ _ _) hq; have x1 := k1.cell; have x2 := k2.cell; have f1 := k1.frozen; have f2 := k2.frozen; have hB := Below.trans (Below.alloc (Below.alloc (Below.refl w.heap.size w) (Nat.le_refl _) _) (by simp) _) (hq.mono (by simp; omega))))
  refine bodyPost_ret (v := .tuple #[.agg #[.int .i64 p, .int .i64 g, .int .i64 g, .int .i64 1099511627776, .bool d], .int .i64 (n - (g - t)), .int .i64 0]) (by simp [results, Try.results17, go_sem, x2]) rfl ⟨rfl, ?_⟩
  iterate 7 refine Below.setCell ?_ (by simp) _
  exact hB

theorem tick_any (p g t s n : Int) (d : Bool) (w : World) (hn2 : n ≤ 9223372036854775807) : Calls Try.prog 17 #[.agg #[.int .i64 p, .int .i64 g, .int .i64 t, .int .i64 s, .bool d], .int .i64 n] w fun e w' => e = .returned (.tuple #[.agg #[.int .i64 ((tickF ⟨p, g, t, s, d⟩ n).1).p, .int .i64 ((tickF ⟨p, g, t, s, d⟩ n).1).g, .int .i64 ((tickF ⟨p, g, t, s, d⟩ n).1).t, .int .i64 ((tickF ⟨p, g, t, s, d⟩ n).1).s, .bool ((tickF ⟨p, g, t, s, d⟩ n).1).d], .int .i64 (tickF ⟨p, g, t, s, d⟩ n).2.1, .int .i64 (tickF ⟨p, g, t, s, d⟩ n).2.2]) ∧ Grows w w' := by
  cases h : Cd.ok ⟨p, g, t, s, d⟩
  · have e : tickF ⟨p, g, t, s, d⟩ n = (Cd.zero, 0, 1) := by simp [tickF, h]
    rw [e]; exact tick_bad p g t s d n w h
  · by_cases hn : n < 0
    · have e : tickF ⟨p, g, t, s, d⟩ n = (Cd.zero, 0, 2) := by simp [tickF, h, hn]
      rw [e]; exact tick_neg p g t s d n w h hn
    · by_cases hl : n ≤ g - t
      · have e : tickF ⟨p, g, t, s, d⟩ n = (⟨p, g, t + n, 0, d⟩, 0, 0) := by
          have e1 : min n (g - t) = n := by omega
          simp [tickF, h, hn, e1]
        rw [e]; exact tick_all p g t s d n w h (by omega) hl
      · have e : tickF ⟨p, g, t, s, d⟩ n = (⟨p, g, g, min (s + 1) 1099511627776, d⟩, n - (g - t), 0) := by
          have e1 : min n (g - t) = g - t := by omega
          have e2 : t + (g - t) = g := by omega
          have e3 : ¬ n - (g - t) = 0 := by omega
          simp [tickF, h, hn, e1, e2, e3]
        obtain ⟨h1, h2, h3, h4, h5, h6, h7⟩ := ok_bd h
        by_cases hs : s < 1099511627776
        · rw [e, show min (s + 1) 1099511627776 = s + 1 from by omega]; exact tick_miss p g t s d n w h (by omega) hn2 (by omega) hs
        · rw [e, show min (s + 1) 1099511627776 = 1099511627776 from by omega]; exact tick_full p g t s d n w h (by omega) hn2 (by omega) hs

set_option maxHeartbeats 4000000 in
theorem state_bad (p g t s : Int) (d : Bool) (w : World) (h : Cd.ok ⟨p, g, t, s, d⟩ = false) : Calls Try.prog 10 #[.agg #[.int .i64 p, .int .i64 g, .int .i64 t, .int .i64 s, .bool d]] w fun e w' => e = .returned (.int .i64 0) ∧ Grows w w' := by
  go_enter Try.func10, Try.ntmps10
  go_wp2_with ((go_at_call 8; refine (valid_any _ _ _ _ _ _).mono ?_; rintro e w1 ⟨rfl, hq⟩; have k1 := Blk.grows (Blk.new _ _ _) hq; have x1 := k1.cell; have hB := Below.trans (Below.alloc (Below.refl w.heap.size w) (Nat.le_refl _) _) (hq.mono (by simp))))
  go_ret
  exact ⟨rfl, hB⟩

set_option maxHeartbeats 4000000 in
theorem state_gone (p g t s : Int) (w : World) (h : Cd.ok ⟨p, g, t, s, true⟩ = true) : Calls Try.prog 10 #[.agg #[.int .i64 p, .int .i64 g, .int .i64 t, .int .i64 s, .bool true]] w fun e w' => e = .returned (.int .i64 4) ∧ Grows w w' := by
  go_enter Try.func10, Try.ntmps10
  go_wp2_with ((go_at_call 8; refine (valid_any _ _ _ _ _ _).mono ?_; rintro e w1 ⟨rfl, hq⟩; have k1 := Blk.grows (Blk.new _ _ _) hq; have x1 := k1.cell; have hB := Below.trans (Below.alloc (Below.refl w.heap.size w) (Nat.le_refl _) _) (hq.mono (by simp))))
  go_ret
  exact ⟨rfl, hB⟩

set_option maxHeartbeats 4000000 in
theorem state_stalled (p g t s : Int) (w : World) (h : Cd.ok ⟨p, g, t, s, false⟩ = true) (h1 : p < s) : Calls Try.prog 10 #[.agg #[.int .i64 p, .int .i64 g, .int .i64 t, .int .i64 s, .bool false]] w fun e w' => e = .returned (.int .i64 3) ∧ Grows w w' := by
  go_enter Try.func10, Try.ntmps10
  go_wp2_with ((go_at_call 8; refine (valid_any _ _ _ _ _ _).mono ?_; rintro e w1 ⟨rfl, hq⟩; have k1 := Blk.grows (Blk.new _ _ _) hq; have x1 := k1.cell; have hB := Below.trans (Below.alloc (Below.refl w.heap.size w) (Nat.le_refl _) _) (hq.mono (by simp))))
  go_ret
  exact ⟨rfl, hB⟩

set_option maxHeartbeats 4000000 in
theorem state_late (p g t s : Int) (w : World) (h : Cd.ok ⟨p, g, t, s, false⟩ = true) (h1 : ¬ p < s) (h2 : 0 < s) : Calls Try.prog 10 #[.agg #[.int .i64 p, .int .i64 g, .int .i64 t, .int .i64 s, .bool false]] w fun e w' => e = .returned (.int .i64 2) ∧ Grows w w' := by
  go_enter Try.func10, Try.ntmps10
  go_wp2_with ((go_at_call 8; refine (valid_any _ _ _ _ _ _).mono ?_; rintro e w1 ⟨rfl, hq⟩; have k1 := Blk.grows (Blk.new _ _ _) hq; have x1 := k1.cell; have hB := Below.trans (Below.alloc (Below.refl w.heap.size w) (Nat.le_refl _) _) (hq.mono (by simp))))
  go_ret
  exact ⟨rfl, hB⟩

set_option maxHeartbeats 4000000 in
theorem state_good (p g t s : Int) (w : World) (h : Cd.ok ⟨p, g, t, s, false⟩ = true) (h1 : ¬ p < s) (h2 : ¬ 0 < s) : Calls Try.prog 10 #[.agg #[.int .i64 p, .int .i64 g, .int .i64 t, .int .i64 s, .bool false]] w fun e w' => e = .returned (.int .i64 1) ∧ Grows w w' := by
  go_enter Try.func10, Try.ntmps10
  go_wp2_with ((go_at_call 8; refine (valid_any _ _ _ _ _ _).mono ?_; rintro e w1 ⟨rfl, hq⟩; have k1 := Blk.grows (Blk.new _ _ _) hq; have x1 := k1.cell; have hB := Below.trans (Below.alloc (Below.refl w.heap.size w) (Nat.le_refl _) _) (hq.mono (by simp))))
  go_ret
  exact ⟨rfl, hB⟩

theorem state_any (p g t s : Int) (d : Bool) (w : World) : Calls Try.prog 10 #[.agg #[.int .i64 p, .int .i64 g, .int .i64 t, .int .i64 s, .bool d]] w fun e w' => e = .returned (.int .i64 (stateF ⟨p, g, t, s, d⟩)) ∧ Grows w w' := by
  cases h : Cd.ok ⟨p, g, t, s, d⟩
  · have e : stateF ⟨p, g, t, s, d⟩ = 0 := by simp [stateF, h]
    rw [e]; exact state_bad p g t s d w h
  · cases d
    · by_cases h1 : p < s
      · have e : stateF ⟨p, g, t, s, false⟩ = 3 := by simp [stateF, h, h1]
        rw [e]; exact state_stalled p g t s w h h1
      · by_cases h2 : 0 < s
        · have e : stateF ⟨p, g, t, s, false⟩ = 2 := by simp [stateF, h, h1, h2]
          rw [e]; exact state_late p g t s w h h1 h2
        · have e : stateF ⟨p, g, t, s, false⟩ = 1 := by simp [stateF, h, h1, h2]
          rw [e]; exact state_good p g t s w h h1 h2
    · have e : stateF ⟨p, g, t, s, true⟩ = 4 := by simp [stateF, h]
      rw [e]; exact state_gone p g t s w h

set_option maxHeartbeats 4000000 in
theorem die_any (p g t s : Int) (d : Bool) (w : World) : Calls Try.prog 12 #[.agg #[.int .i64 p, .int .i64 g, .int .i64 t, .int .i64 s, .bool d]] w fun e w' => e = .returned (.agg #[.int .i64 p, .int .i64 g, .int .i64 t, .int .i64 s, .bool true]) ∧ Grows w w' := by
  go_enter Try.func12, Try.ntmps12
  go_wp2
  refine bodyPost_ret (v := .agg #[.int .i64 p, .int .i64 g, .int .i64 t, .int .i64 s, .bool true]) (by simp [results, Try.results12, go_sem]) rfl ⟨rfl, ?_⟩
  repeat (first | (with_reducible exact Below.refl _ _) | refine Below.alloc ?_ (by simp) _ | exact hB)
theorem new_yes (p : Int) (w : World) (h1 : 0 ≤ p) (h2 : p ≤ 4096) : Calls Try.prog 19 #[.int .i64 p] w fun e w' => e = .returned (.tuple #[.agg #[.int .i64 p, .int .i64 0, .int .i64 0, .int .i64 0, .bool false], .int .i64 0]) ∧ Grows w w' := by
  go_enter Try.func19, Try.ntmps19
  go_wp2
  refine bodyPost_ret (v := .tuple #[.agg #[.int .i64 p, .int .i64 0, .int .i64 0, .int .i64 0, .bool false], .int .i64 0]) (by simp [results, Try.results19, go_sem]) rfl ⟨rfl, ?_⟩
  repeat (first | (with_reducible exact Below.refl _ _) | refine Below.alloc ?_ (by simp) _ | exact hB)
theorem new_no (p : Int) (w : World) (h : p < 0 ∨ 4096 < p) : Calls Try.prog 19 #[.int .i64 p] w fun e w' => e = .returned (.tuple #[.agg #[.int .i64 0, .int .i64 0, .int .i64 0, .int .i64 0, .bool false], .int .i64 2]) ∧ Grows w w' := by
  rcases h with h | h
  · go_enter Try.func19, Try.ntmps19
    go_wp2
    refine bodyPost_ret (v := .tuple #[.agg #[.int .i64 0, .int .i64 0, .int .i64 0, .int .i64 0, .bool false], .int .i64 2]) (by simp [results, Try.results19, go_sem]) rfl ⟨rfl, ?_⟩
    repeat (first | (with_reducible exact Below.refl _ _) | refine Below.alloc ?_ (by simp) _ | exact hB)
  · have h' : 0 ≤ p := by omega
    go_enter Try.func19, Try.ntmps19
    go_wp2
    refine bodyPost_ret (v := .tuple #[.agg #[.int .i64 0, .int .i64 0, .int .i64 0, .int .i64 0, .bool false], .int .i64 2]) (by simp [results, Try.results19, go_sem]) rfl ⟨rfl, ?_⟩
    repeat (first | (with_reducible exact Below.refl _ _) | refine Below.alloc ?_ (by simp) _ | exact hB)
theorem new_any (p : Int) (w : World) : Calls Try.prog 19 #[.int .i64 p] w fun e w' => e = .returned (.tuple #[.agg #[.int .i64 ((newF p).1).p, .int .i64 ((newF p).1).g, .int .i64 ((newF p).1).t, .int .i64 ((newF p).1).s, .bool ((newF p).1).d], .int .i64 (newF p).2]) ∧ Grows w w' := by
  by_cases h : 0 ≤ p ∧ p ≤ 4096
  · rw [show newF p = (⟨p, 0, 0, 0, false⟩, 0) from by simp [newF, h]]; exact new_yes p w h.1 h.2
  · rw [show newF p = (Cd.zero, 2) from by simp [newF, h]]; exact new_no p w (by omega)
theorem whole_any (b fr : Int) (w : World) (hb : b ≤ 9223372036854775807) : Calls Try.prog 25 #[.int .i64 b, .int .i64 fr] w fun e w' => e = .returned (.int .i64 (wholeF b fr)) ∧ w = w' := by
  by_cases h : b < 0 ∨ fr < 1
  · rw [show wholeF b fr = 0 from by simp [wholeF, h]]
    by_cases h1 : b < 0
    · go_enter Try.func25, Try.ntmps25
      go_wp2
      go_ret
      exact ⟨rfl, rfl⟩
    · have h2 : fr < 1 := by omega
      go_enter Try.func25, Try.ntmps25
      go_wp2
      go_ret
      exact ⟨rfl, rfl⟩
  · rw [show wholeF b fr = b / fr from by simp [wholeF, h]]
    have h1 : 0 ≤ b := by omega
    have h2 : 1 ≤ fr := by omega
    clear h
    go_enter Try.func25, Try.ntmps25
    go_wp2
    go_ret
    exact ⟨rfl, rfl⟩

set_option maxHeartbeats 4000000 in
theorem rvalid_any (p g t s : Int) (d : Bool) (w : World) : Calls Try.prog 9 #[.agg #[.int .i64 p, .int .i64 g, .int .i64 t, .int .i64 s, .bool d]] w fun e w' => e = .returned (.bool (Cd.ok ⟨p, g, t, s, d⟩)) ∧ Grows w w' := by
  go_enter Try.func9, Try.ntmps9
  go_wp2
  all_goals (go_ret; refine ⟨ret_bool ?_, by repeat (first | (with_reducible exact Below.refl _ _) | refine Below.alloc ?_ (by simp) _ | exact hB)⟩; simp_all [Cd.ok]; try omega)

set_option maxHeartbeats 4000000 in
theorem rwrote_bad (p g t s : Int) (d : Bool) (n : Int) (w : World) (h : Cd.ok ⟨p, g, t, s, d⟩ = false) : Calls Try.prog 16 #[.agg #[.int .i64 p, .int .i64 g, .int .i64 t, .int .i64 s, .bool d], .int .i64 n] w fun e w' => e = .returned (.tuple #[.agg #[.int .i64 0, .int .i64 0, .int .i64 0, .int .i64 0, .bool false], .int .i64 1]) ∧ Grows w w' := by
  go_enter Try.func16, Try.ntmps16
  go_wp2_with ((go_at_call 9; refine (rvalid_any _ _ _ _ _ _).mono ?_; rintro e w1 ⟨rfl, hq⟩; have hz : w.heap.size + 1 < w1.heap.size := Nat.lt_of_lt_of_le (by simp) hq.size; have k1 := Blk.grows (Blk.alloc (Blk.new _ _ _) _) hq; have k2 := Blk.grows (blk_new2 _ _ _ _) hq; have x1 := k1.cell; have x2 := k2.cell; have f1 := k1.frozen; have f2 := k2.frozen; have hB := Below.trans (Below.alloc (Below.alloc (Below.refl w.heap.size w) (Nat.le_refl _) _) (by simp) _) (hq.mono (by simp; omega))))
  refine bodyPost_ret (v := .tuple #[.agg #[.int .i64 0, .int .i64 0, .int .i64 0, .int .i64 0, .bool false], .int .i64 1]) (by simp [results, Try.results16, go_sem, x2]) rfl ⟨rfl, ?_⟩
  iterate 5 refine Below.setCell ?_ (by simp) _
  exact hB

set_option maxHeartbeats 4000000 in
theorem rwrote_dead (p g t s n : Int) (w : World) (h : Cd.ok ⟨p, g, t, s, true⟩ = true) : Calls Try.prog 16 #[.agg #[.int .i64 p, .int .i64 g, .int .i64 t, .int .i64 s, .bool true], .int .i64 n] w fun e w' => e = .returned (.tuple #[.agg #[.int .i64 0, .int .i64 0, .int .i64 0, .int .i64 0, .bool false], .int .i64 9]) ∧ Grows w w' := by
  go_enter Try.func16, Try.ntmps16
  go_wp2_with ((go_at_call 9; refine (rvalid_any _ _ _ _ _ _).mono ?_; rintro e w1 ⟨rfl, hq⟩; have hz : w.heap.size + 1 < w1.heap.size := Nat.lt_of_lt_of_le (by simp) hq.size; have k1 := Blk.grows (Blk.alloc (Blk.new _ _ _) _) hq; have k2 := Blk.grows (blk_new2 _ _ _ _) hq; have x1 := k1.cell; have x2 := k2.cell; have f1 := k1.frozen; have f2 := k2.frozen; have hB := Below.trans (Below.alloc (Below.alloc (Below.refl w.heap.size w) (Nat.le_refl _) _) (by simp) _) (hq.mono (by simp; omega))))
  refine bodyPost_ret (v := .tuple #[.agg #[.int .i64 0, .int .i64 0, .int .i64 0, .int .i64 0, .bool false], .int .i64 9]) (by simp [results, Try.results16, go_sem, x2]) rfl ⟨rfl, ?_⟩
  iterate 5 refine Below.setCell ?_ (by simp) _
  exact hB

set_option maxHeartbeats 4000000 in
theorem rwrote_neg (p g t s n : Int) (w : World) (h : Cd.ok ⟨p, g, t, s, false⟩ = true) (hn : n < 0) : Calls Try.prog 16 #[.agg #[.int .i64 p, .int .i64 g, .int .i64 t, .int .i64 s, .bool false], .int .i64 n] w fun e w' => e = .returned (.tuple #[.agg #[.int .i64 0, .int .i64 0, .int .i64 0, .int .i64 0, .bool false], .int .i64 2]) ∧ Grows w w' := by
  go_enter Try.func16, Try.ntmps16
  go_wp2_with ((go_at_call 9; refine (rvalid_any _ _ _ _ _ _).mono ?_; rintro e w1 ⟨rfl, hq⟩; have hz : w.heap.size + 1 < w1.heap.size := Nat.lt_of_lt_of_le (by simp) hq.size; have k1 := Blk.grows (Blk.alloc (Blk.new _ _ _) _) hq; have k2 := Blk.grows (blk_new2 _ _ _ _) hq; have x1 := k1.cell; have x2 := k2.cell; have f1 := k1.frozen; have f2 := k2.frozen; have hB := Below.trans (Below.alloc (Below.alloc (Below.refl w.heap.size w) (Nat.le_refl _) _) (by simp) _) (hq.mono (by simp; omega))))
  refine bodyPost_ret (v := .tuple #[.agg #[.int .i64 0, .int .i64 0, .int .i64 0, .int .i64 0, .bool false], .int .i64 2]) (by simp [results, Try.results16, go_sem, x2]) rfl ⟨rfl, ?_⟩
  iterate 5 refine Below.setCell ?_ (by simp) _
  exact hB

set_option maxHeartbeats 4000000 in
theorem rwrote_lim (p g t s n : Int) (w : World) (h : Cd.ok ⟨p, g, t, s, false⟩ = true) (hn : 0 ≤ n) (hl : 1099511627776 - g < n) : Calls Try.prog 16 #[.agg #[.int .i64 p, .int .i64 g, .int .i64 t, .int .i64 s, .bool false], .int .i64 n] w fun e w' => e = .returned (.tuple #[.agg #[.int .i64 0, .int .i64 0, .int .i64 0, .int .i64 0, .bool false], .int .i64 3]) ∧ Grows w w' := by
  obtain ⟨h1, h2, h3, h4, h5, h6, h7⟩ := ok_bd h
  go_enter Try.func16, Try.ntmps16
  go_wp2_with ((go_at_call 9; refine (rvalid_any _ _ _ _ _ _).mono ?_; rintro e w1 ⟨rfl, hq⟩; have hz : w.heap.size + 1 < w1.heap.size := Nat.lt_of_lt_of_le (by simp) hq.size; have k1 := Blk.grows (Blk.alloc (Blk.new _ _ _) _) hq; have k2 := Blk.grows (blk_new2 _ _ _ _) hq; have x1 := k1.cell; have x2 := k2.cell; have f1 := k1.frozen; have f2 := k2.frozen; have hB := Below.trans (Below.alloc (Below.alloc (Below.refl w.heap.size w) (Nat.le_refl _) _) (by simp) _) (hq.mono (by simp; omega))))
  refine bodyPost_ret (v := .tuple #[.agg #[.int .i64 0, .int .i64 0, .int .i64 0, .int .i64 0, .bool false], .int .i64 3]) (by simp [results, Try.results16, go_sem, x2]) rfl ⟨rfl, ?_⟩
  iterate 5 refine Below.setCell ?_ (by simp) _
  exact hB

set_option maxHeartbeats 4000000 in
theorem rwrote_good (p g t s n : Int) (w : World) (h : Cd.ok ⟨p, g, t, s, false⟩ = true) (hn : 0 ≤ n) (hl : n ≤ 1099511627776 - g) : Calls Try.prog 16 #[.agg #[.int .i64 p, .int .i64 g, .int .i64 t, .int .i64 s, .bool false], .int .i64 n] w fun e w' => e = .returned (.tuple #[.agg #[.int .i64 p, .int .i64 (g + n), .int .i64 t, .int .i64 s, .bool false], .int .i64 0]) ∧ Grows w w' := by
  obtain ⟨h1, h2, h3, h4, h5, h6, h7⟩ := ok_bd h
  go_enter Try.func16, Try.ntmps16
  go_wp2_with ((go_at_call 9; refine (rvalid_any _ _ _ _ _ _).mono ?_; rintro e w1 ⟨rfl, hq⟩; have hz : w.heap.size + 1 < w1.heap.size := Nat.lt_of_lt_of_le (by simp) hq.size; have k1 := Blk.grows (Blk.alloc (Blk.new _ _ _) _) hq; have k2 := Blk.grows (blk_new2 _ _ _ _) hq; have x1 := k1.cell; have x2 := k2.cell; have f1 := k1.frozen; have f2 := k2.frozen; have hB := Below.trans (Below.alloc (Below.alloc (Below.refl w.heap.size w) (Nat.le_refl _) _) (by simp) _) (hq.mono (by simp; omega))))
  refine bodyPost_ret (v := .tuple #[.agg #[.int .i64 p, .int .i64 (g + n), .int .i64 t, .int .i64 s, .bool false], .int .i64 0]) (by simp [results, Try.results16, go_sem, x2]) rfl ⟨rfl, ?_⟩
  iterate 6 refine Below.setCell ?_ (by simp) _
  exact hB

theorem rwrote_any (p g t s n : Int) (d : Bool) (w : World) : Calls Try.prog 16 #[.agg #[.int .i64 p, .int .i64 g, .int .i64 t, .int .i64 s, .bool d], .int .i64 n] w fun e w' => e = .returned (.tuple #[.agg #[.int .i64 ((wroteF ⟨p, g, t, s, d⟩ n).1).p, .int .i64 ((wroteF ⟨p, g, t, s, d⟩ n).1).g, .int .i64 ((wroteF ⟨p, g, t, s, d⟩ n).1).t, .int .i64 ((wroteF ⟨p, g, t, s, d⟩ n).1).s, .bool ((wroteF ⟨p, g, t, s, d⟩ n).1).d], .int .i64 (wroteF ⟨p, g, t, s, d⟩ n).2]) ∧ Grows w w' := by
  cases h : Cd.ok ⟨p, g, t, s, d⟩
  · have e : wroteF ⟨p, g, t, s, d⟩ n = (Cd.zero, 1) := by simp [wroteF, h]
    rw [e]; exact rwrote_bad p g t s d n w h
  · cases d
    · by_cases hn : n < 0
      · have e : wroteF ⟨p, g, t, s, false⟩ n = (Cd.zero, 2) := by simp [wroteF, h, hn]
        rw [e]; exact rwrote_neg p g t s n w h hn
      · by_cases hl : 1099511627776 - g < n
        · have e : wroteF ⟨p, g, t, s, false⟩ n = (Cd.zero, 3) := by simp [wroteF, h, hn, hl]
          rw [e]; exact rwrote_lim p g t s n w h (by omega) hl
        · have e : wroteF ⟨p, g, t, s, false⟩ n = (⟨p, g + n, t, s, false⟩, 0) := by simp [wroteF, h, hn, hl]
          rw [e]; exact rwrote_good p g t s n w h (by omega) (by omega)
    · have e : wroteF ⟨p, g, t, s, true⟩ n = (Cd.zero, 9) := by simp [wroteF, h]
      rw [e]; exact rwrote_dead p g t s n w h

set_option maxHeartbeats 4000000 in
theorem rtick_bad (p g t s : Int) (d : Bool) (n : Int) (w : World) (h : Cd.ok ⟨p, g, t, s, d⟩ = false) : Calls Try.prog 18 #[.agg #[.int .i64 p, .int .i64 g, .int .i64 t, .int .i64 s, .bool d], .int .i64 n] w fun e w' => e = .returned (.tuple #[.agg #[.int .i64 0, .int .i64 0, .int .i64 0, .int .i64 0, .bool false], .int .i64 0, .int .i64 1]) ∧ Grows w w' := by
  go_enter Try.func18, Try.ntmps18
  go_wp2_with ((go_at_call 9; refine (rvalid_any _ _ _ _ _ _).mono ?_; rintro e w1 ⟨rfl, hq⟩; have hz : w.heap.size + 1 < w1.heap.size := Nat.lt_of_lt_of_le (by simp) hq.size; have k1 := Blk.grows (Blk.alloc (Blk.new _ _ _) _) hq; have k2 := Blk.grows (blk_new2 _ _ _ _) hq; have x1 := k1.cell; have x2 := k2.cell; have f1 := k1.frozen; have f2 := k2.frozen; have hB := Below.trans (Below.alloc (Below.alloc (Below.refl w.heap.size w) (Nat.le_refl _) _) (by simp) _) (hq.mono (by simp; omega))))
  refine bodyPost_ret (v := .tuple #[.agg #[.int .i64 0, .int .i64 0, .int .i64 0, .int .i64 0, .bool false], .int .i64 0, .int .i64 1]) (by simp [results, Try.results18, go_sem, x2]) rfl ⟨rfl, ?_⟩
  iterate 5 refine Below.setCell ?_ (by simp) _
  exact hB

set_option maxHeartbeats 4000000 in
theorem rtick_neg (p g t s : Int) (d : Bool) (n : Int) (w : World) (h : Cd.ok ⟨p, g, t, s, d⟩ = true) (hn : n < 0) : Calls Try.prog 18 #[.agg #[.int .i64 p, .int .i64 g, .int .i64 t, .int .i64 s, .bool d], .int .i64 n] w fun e w' => e = .returned (.tuple #[.agg #[.int .i64 0, .int .i64 0, .int .i64 0, .int .i64 0, .bool false], .int .i64 0, .int .i64 2]) ∧ Grows w w' := by
  go_enter Try.func18, Try.ntmps18
  go_wp2_with ((go_at_call 9; refine (rvalid_any _ _ _ _ _ _).mono ?_; rintro e w1 ⟨rfl, hq⟩; have hz : w.heap.size + 1 < w1.heap.size := Nat.lt_of_lt_of_le (by simp) hq.size; have k1 := Blk.grows (Blk.alloc (Blk.new _ _ _) _) hq; have k2 := Blk.grows (blk_new2 _ _ _ _) hq; have x1 := k1.cell; have x2 := k2.cell; have f1 := k1.frozen; have f2 := k2.frozen; have hB := Below.trans (Below.alloc (Below.alloc (Below.refl w.heap.size w) (Nat.le_refl _) _) (by simp) _) (hq.mono (by simp; omega))))
  refine bodyPost_ret (v := .tuple #[.agg #[.int .i64 0, .int .i64 0, .int .i64 0, .int .i64 0, .bool false], .int .i64 0, .int .i64 2]) (by simp [results, Try.results18, go_sem, x2]) rfl ⟨rfl, ?_⟩
  iterate 5 refine Below.setCell ?_ (by simp) _
  exact hB

set_option maxHeartbeats 4000000 in
theorem rtick_all (p g t s : Int) (d : Bool) (n : Int) (w : World) (h : Cd.ok ⟨p, g, t, s, d⟩ = true) (hn : 0 ≤ n) (hl : n ≤ g - t) : Calls Try.prog 18 #[.agg #[.int .i64 p, .int .i64 g, .int .i64 t, .int .i64 s, .bool d], .int .i64 n] w fun e w' => e = .returned (.tuple #[.agg #[.int .i64 p, .int .i64 g, .int .i64 (t + n), .int .i64 0, .bool d], .int .i64 0, .int .i64 0]) ∧ Grows w w' := by
  obtain ⟨h1, h2, h3, h4, h5, h6, h7⟩ := ok_bd h
  have e1 : min n (g - t) = n := by omega
  go_enter Try.func18, Try.ntmps18
  go_wp2_with ((go_at_call 9; refine (rvalid_any _ _ _ _ _ _).mono ?_; rintro e w1 ⟨rfl, hq⟩; have hz : w.heap.size + 1 < w1.heap.size := Nat.lt_of_lt_of_le (by simp) hq.size; have k1 := Blk.grows (Blk.alloc (Blk.new _ _ _) _) hq; have k2 := Blk.grows (blk_new2 _ _ _ _) hq; have x1 := k1.cell; have x2 := k2.cell; have f1 := k1.frozen; have f2 := k2.frozen; have hB := Below.trans (Below.alloc (Below.alloc (Below.refl w.heap.size w) (Nat.le_refl _) _) (by simp) _) (hq.mono (by simp; omega))))
  refine bodyPost_ret (v := .tuple #[.agg #[.int .i64 p, .int .i64 g, .int .i64 (t + n), .int .i64 0, .bool d], .int .i64 0, .int .i64 0]) (by simp [results, Try.results18, go_sem, x2]) rfl ⟨rfl, ?_⟩
  iterate 7 refine Below.setCell ?_ (by simp) _
  exact hB

set_option maxHeartbeats 4000000 in
theorem rtick_miss (p g t s : Int) (d : Bool) (n : Int) (w : World) (h : Cd.ok ⟨p, g, t, s, d⟩ = true) (hn : 0 ≤ n) (hn2 : n ≤ 9223372036854775807) (hl : g - t < n) (hs : s < 1099511627776) : Calls Try.prog 18 #[.agg #[.int .i64 p, .int .i64 g, .int .i64 t, .int .i64 s, .bool d], .int .i64 n] w fun e w' => e = .returned (.tuple #[.agg #[.int .i64 p, .int .i64 g, .int .i64 g, .int .i64 (s + 1), .bool d], .int .i64 (n - (g - t)), .int .i64 0]) ∧ Grows w w' := by
  obtain ⟨h1, h2, h3, h4, h5, h6, h7⟩ := ok_bd h
  have e1 : min n (g - t) = g - t := by omega
  have e2 : (n - (g - t) == 0) = false := by simp; omega
  have e3 : t + (g - t) = g := by omega
  go_enter Try.func18, Try.ntmps18
  go_wp2_with ((go_at_call 9; refine (rvalid_any _ _ _ _ _ _).mono ?_; rintro e w1 ⟨rfl, hq⟩; have hz : w.heap.size + 1 < w1.heap.size := Nat.lt_of_lt_of_le (by simp) hq.size; have k1 := Blk.grows (Blk.alloc (Blk.new _ _ _) _) hq; have k2 := Blk.grows (blk_new2 _ _ _ _) hq; have x1 := k1.cell; have x2 := k2.cell; have f1 := k1.frozen; have f2 := k2.frozen; have hB := Below.trans (Below.alloc (Below.alloc (Below.refl w.heap.size w) (Nat.le_refl _) _) (by simp) _) (hq.mono (by simp; omega))))
  refine bodyPost_ret (v := .tuple #[.agg #[.int .i64 p, .int .i64 g, .int .i64 g, .int .i64 (s + 1), .bool d], .int .i64 (n - (g - t)), .int .i64 0]) (by simp [results, Try.results18, go_sem, x2]) rfl ⟨rfl, ?_⟩
  iterate 7 refine Below.setCell ?_ (by simp) _
  exact hB

set_option maxHeartbeats 4000000 in
theorem rtick_full (p g t s : Int) (d : Bool) (n : Int) (w : World) (h : Cd.ok ⟨p, g, t, s, d⟩ = true) (hn : 0 ≤ n) (hn2 : n ≤ 9223372036854775807) (hl : g - t < n) (hs : ¬ s < 1099511627776) : Calls Try.prog 18 #[.agg #[.int .i64 p, .int .i64 g, .int .i64 t, .int .i64 s, .bool d], .int .i64 n] w fun e w' => e = .returned (.tuple #[.agg #[.int .i64 p, .int .i64 g, .int .i64 g, .int .i64 1099511627776, .bool d], .int .i64 (n - (g - t)), .int .i64 0]) ∧ Grows w w' := by
  obtain ⟨h1, h2, h3, h4, h5, h6, h7⟩ := ok_bd h
  have e1 : min n (g - t) = g - t := by omega
  have e2 : (n - (g - t) == 0) = false := by simp; omega
  have e3 : t + (g - t) = g := by omega
  go_enter Try.func18, Try.ntmps18
  go_wp2_with ((go_at_call 9; refine (rvalid_any _ _ _ _ _ _).mono ?_; rintro e w1 ⟨rfl, hq⟩; have hz : w.heap.size + 1 < w1.heap.size := Nat.lt_of_lt_of_le (by simp) hq.size; have k1 := Blk.grows (Blk.alloc (Blk.new _ _ _) _) hq; have k2 := Blk.grows (blk_new2 _ _ _ _) hq; have x1 := k1.cell; have x2 := k2.cell; have f1 := k1.frozen; have f2 := k2.frozen; have hB := Below.trans (Below.alloc (Below.alloc (Below.refl w.heap.size w) (Nat.le_refl _) _) (by simp) _) (hq.mono (by simp; omega))))
  refine bodyPost_ret (v := .tuple #[.agg #[.int .i64 p, .int .i64 g, .int .i64 g, .int .i64 1099511627776, .bool d], .int .i64 (n - (g - t)), .int .i64 0]) (by simp [results, Try.results18, go_sem, x2]) rfl ⟨rfl, ?_⟩
  iterate 7 refine Below.setCell ?_ (by simp) _
  exact hB

theorem rtick_any (p g t s n : Int) (d : Bool) (w : World) (hn2 : n ≤ 9223372036854775807) : Calls Try.prog 18 #[.agg #[.int .i64 p, .int .i64 g, .int .i64 t, .int .i64 s, .bool d], .int .i64 n] w fun e w' => e = .returned (.tuple #[.agg #[.int .i64 ((tickF ⟨p, g, t, s, d⟩ n).1).p, .int .i64 ((tickF ⟨p, g, t, s, d⟩ n).1).g, .int .i64 ((tickF ⟨p, g, t, s, d⟩ n).1).t, .int .i64 ((tickF ⟨p, g, t, s, d⟩ n).1).s, .bool ((tickF ⟨p, g, t, s, d⟩ n).1).d], .int .i64 (tickF ⟨p, g, t, s, d⟩ n).2.1, .int .i64 (tickF ⟨p, g, t, s, d⟩ n).2.2]) ∧ Grows w w' := by
  cases h : Cd.ok ⟨p, g, t, s, d⟩
  · have e : tickF ⟨p, g, t, s, d⟩ n = (Cd.zero, 0, 1) := by simp [tickF, h]
    rw [e]; exact rtick_bad p g t s d n w h
  · by_cases hn : n < 0
    · have e : tickF ⟨p, g, t, s, d⟩ n = (Cd.zero, 0, 2) := by simp [tickF, h, hn]
      rw [e]; exact rtick_neg p g t s d n w h hn
    · by_cases hl : n ≤ g - t
      · have e : tickF ⟨p, g, t, s, d⟩ n = (⟨p, g, t + n, 0, d⟩, 0, 0) := by
          have e1 : min n (g - t) = n := by omega
          simp [tickF, h, hn, e1]
        rw [e]; exact rtick_all p g t s d n w h (by omega) hl
      · have e : tickF ⟨p, g, t, s, d⟩ n = (⟨p, g, g, min (s + 1) 1099511627776, d⟩, n - (g - t), 0) := by
          have e1 : min n (g - t) = g - t := by omega
          have e2 : t + (g - t) = g := by omega
          have e3 : ¬ n - (g - t) = 0 := by omega
          simp [tickF, h, hn, e1, e2, e3]
        obtain ⟨h1, h2, h3, h4, h5, h6, h7⟩ := ok_bd h
        by_cases hs : s < 1099511627776
        · rw [e, show min (s + 1) 1099511627776 = s + 1 from by omega]; exact rtick_miss p g t s d n w h (by omega) hn2 (by omega) hs
        · rw [e, show min (s + 1) 1099511627776 = 1099511627776 from by omega]; exact rtick_full p g t s d n w h (by omega) hn2 (by omega) hs

set_option maxHeartbeats 4000000 in
theorem rstate_bad (p g t s : Int) (d : Bool) (w : World) (h : Cd.ok ⟨p, g, t, s, d⟩ = false) : Calls Try.prog 11 #[.agg #[.int .i64 p, .int .i64 g, .int .i64 t, .int .i64 s, .bool d]] w fun e w' => e = .returned (.int .i64 0) ∧ Grows w w' := by
  go_enter Try.func11, Try.ntmps11
  go_wp2_with ((go_at_call 9; refine (rvalid_any _ _ _ _ _ _).mono ?_; rintro e w1 ⟨rfl, hq⟩; have k1 := Blk.grows (Blk.new _ _ _) hq; have x1 := k1.cell; have hB := Below.trans (Below.alloc (Below.refl w.heap.size w) (Nat.le_refl _) _) (hq.mono (by simp))))
  go_ret
  exact ⟨rfl, hB⟩

set_option maxHeartbeats 4000000 in
theorem rstate_gone (p g t s : Int) (w : World) (h : Cd.ok ⟨p, g, t, s, true⟩ = true) : Calls Try.prog 11 #[.agg #[.int .i64 p, .int .i64 g, .int .i64 t, .int .i64 s, .bool true]] w fun e w' => e = .returned (.int .i64 4) ∧ Grows w w' := by
  go_enter Try.func11, Try.ntmps11
  go_wp2_with ((go_at_call 9; refine (rvalid_any _ _ _ _ _ _).mono ?_; rintro e w1 ⟨rfl, hq⟩; have k1 := Blk.grows (Blk.new _ _ _) hq; have x1 := k1.cell; have hB := Below.trans (Below.alloc (Below.refl w.heap.size w) (Nat.le_refl _) _) (hq.mono (by simp))))
  go_ret
  exact ⟨rfl, hB⟩

set_option maxHeartbeats 4000000 in
theorem rstate_stalled (p g t s : Int) (w : World) (h : Cd.ok ⟨p, g, t, s, false⟩ = true) (h1 : p < s) : Calls Try.prog 11 #[.agg #[.int .i64 p, .int .i64 g, .int .i64 t, .int .i64 s, .bool false]] w fun e w' => e = .returned (.int .i64 3) ∧ Grows w w' := by
  go_enter Try.func11, Try.ntmps11
  go_wp2_with ((go_at_call 9; refine (rvalid_any _ _ _ _ _ _).mono ?_; rintro e w1 ⟨rfl, hq⟩; have k1 := Blk.grows (Blk.new _ _ _) hq; have x1 := k1.cell; have hB := Below.trans (Below.alloc (Below.refl w.heap.size w) (Nat.le_refl _) _) (hq.mono (by simp))))
  go_ret
  exact ⟨rfl, hB⟩

set_option maxHeartbeats 4000000 in
theorem rstate_late (p g t s : Int) (w : World) (h : Cd.ok ⟨p, g, t, s, false⟩ = true) (h1 : ¬ p < s) (h2 : 0 < s) : Calls Try.prog 11 #[.agg #[.int .i64 p, .int .i64 g, .int .i64 t, .int .i64 s, .bool false]] w fun e w' => e = .returned (.int .i64 2) ∧ Grows w w' := by
  go_enter Try.func11, Try.ntmps11
  go_wp2_with ((go_at_call 9; refine (rvalid_any _ _ _ _ _ _).mono ?_; rintro e w1 ⟨rfl, hq⟩; have k1 := Blk.grows (Blk.new _ _ _) hq; have x1 := k1.cell; have hB := Below.trans (Below.alloc (Below.refl w.heap.size w) (Nat.le_refl _) _) (hq.mono (by simp))))
  go_ret
  exact ⟨rfl, hB⟩

set_option maxHeartbeats 4000000 in
theorem rstate_good (p g t s : Int) (w : World) (h : Cd.ok ⟨p, g, t, s, false⟩ = true) (h1 : ¬ p < s) (h2 : ¬ 0 < s) : Calls Try.prog 11 #[.agg #[.int .i64 p, .int .i64 g, .int .i64 t, .int .i64 s, .bool false]] w fun e w' => e = .returned (.int .i64 1) ∧ Grows w w' := by
  go_enter Try.func11, Try.ntmps11
  go_wp2_with ((go_at_call 9; refine (rvalid_any _ _ _ _ _ _).mono ?_; rintro e w1 ⟨rfl, hq⟩; have k1 := Blk.grows (Blk.new _ _ _) hq; have x1 := k1.cell; have hB := Below.trans (Below.alloc (Below.refl w.heap.size w) (Nat.le_refl _) _) (hq.mono (by simp))))
  go_ret
  exact ⟨rfl, hB⟩

theorem rstate_any (p g t s : Int) (d : Bool) (w : World) : Calls Try.prog 11 #[.agg #[.int .i64 p, .int .i64 g, .int .i64 t, .int .i64 s, .bool d]] w fun e w' => e = .returned (.int .i64 (stateF ⟨p, g, t, s, d⟩)) ∧ Grows w w' := by
  cases h : Cd.ok ⟨p, g, t, s, d⟩
  · have e : stateF ⟨p, g, t, s, d⟩ = 0 := by simp [stateF, h]
    rw [e]; exact rstate_bad p g t s d w h
  · cases d
    · by_cases h1 : p < s
      · have e : stateF ⟨p, g, t, s, false⟩ = 3 := by simp [stateF, h, h1]
        rw [e]; exact rstate_stalled p g t s w h h1
      · by_cases h2 : 0 < s
        · have e : stateF ⟨p, g, t, s, false⟩ = 2 := by simp [stateF, h, h1, h2]
          rw [e]; exact rstate_late p g t s w h h1 h2
        · have e : stateF ⟨p, g, t, s, false⟩ = 1 := by simp [stateF, h, h1, h2]
          rw [e]; exact rstate_good p g t s w h h1 h2
    · have e : stateF ⟨p, g, t, s, true⟩ = 4 := by simp [stateF, h]
      rw [e]; exact rstate_gone p g t s w h

set_option maxHeartbeats 4000000 in
theorem rdie_any (p g t s : Int) (d : Bool) (w : World) : Calls Try.prog 13 #[.agg #[.int .i64 p, .int .i64 g, .int .i64 t, .int .i64 s, .bool d]] w fun e w' => e = .returned (.agg #[.int .i64 p, .int .i64 g, .int .i64 t, .int .i64 s, .bool true]) ∧ Grows w w' := by
  go_enter Try.func13, Try.ntmps13
  go_wp2
  refine bodyPost_ret (v := .agg #[.int .i64 p, .int .i64 g, .int .i64 t, .int .i64 s, .bool true]) (by simp [results, Try.results13, go_sem]) rfl ⟨rfl, ?_⟩
  repeat (first | (with_reducible exact Below.refl _ _) | refine Below.alloc ?_ (by simp) _ | exact hB)
theorem rnew_yes (p : Int) (w : World) (h1 : 0 ≤ p) (h2 : p ≤ 4096) : Calls Try.prog 20 #[.int .i64 p] w fun e w' => e = .returned (.tuple #[.agg #[.int .i64 p, .int .i64 0, .int .i64 0, .int .i64 0, .bool false], .int .i64 0]) ∧ Grows w w' := by
  go_enter Try.func20, Try.ntmps20
  go_wp2
  refine bodyPost_ret (v := .tuple #[.agg #[.int .i64 p, .int .i64 0, .int .i64 0, .int .i64 0, .bool false], .int .i64 0]) (by simp [results, Try.results20, go_sem]) rfl ⟨rfl, ?_⟩
  repeat (first | (with_reducible exact Below.refl _ _) | refine Below.alloc ?_ (by simp) _ | exact hB)
theorem rnew_no (p : Int) (w : World) (h : p < 0 ∨ 4096 < p) : Calls Try.prog 20 #[.int .i64 p] w fun e w' => e = .returned (.tuple #[.agg #[.int .i64 0, .int .i64 0, .int .i64 0, .int .i64 0, .bool false], .int .i64 2]) ∧ Grows w w' := by
  rcases h with h | h
  · go_enter Try.func20, Try.ntmps20
    go_wp2
    refine bodyPost_ret (v := .tuple #[.agg #[.int .i64 0, .int .i64 0, .int .i64 0, .int .i64 0, .bool false], .int .i64 2]) (by simp [results, Try.results20, go_sem]) rfl ⟨rfl, ?_⟩
    repeat (first | (with_reducible exact Below.refl _ _) | refine Below.alloc ?_ (by simp) _ | exact hB)
  · have h' : 0 ≤ p := by omega
    go_enter Try.func20, Try.ntmps20
    go_wp2
    refine bodyPost_ret (v := .tuple #[.agg #[.int .i64 0, .int .i64 0, .int .i64 0, .int .i64 0, .bool false], .int .i64 2]) (by simp [results, Try.results20, go_sem]) rfl ⟨rfl, ?_⟩
    repeat (first | (with_reducible exact Below.refl _ _) | refine Below.alloc ?_ (by simp) _ | exact hB)
theorem rnew_any (p : Int) (w : World) : Calls Try.prog 20 #[.int .i64 p] w fun e w' => e = .returned (.tuple #[.agg #[.int .i64 ((newF p).1).p, .int .i64 ((newF p).1).g, .int .i64 ((newF p).1).t, .int .i64 ((newF p).1).s, .bool ((newF p).1).d], .int .i64 (newF p).2]) ∧ Grows w w' := by
  by_cases h : 0 ≤ p ∧ p ≤ 4096
  · rw [show newF p = (⟨p, 0, 0, 0, false⟩, 0) from by simp [newF, h]]; exact rnew_yes p w h.1 h.2
  · rw [show newF p = (Cd.zero, 2) from by simp [newF, h]]; exact rnew_no p w (by omega)
theorem rwhole_any (b fr : Int) (w : World) (hb : b ≤ 9223372036854775807) : Calls Try.prog 26 #[.int .i64 b, .int .i64 fr] w fun e w' => e = .returned (.int .i64 (wholeF b fr)) ∧ w = w' := by
  by_cases h : b < 0 ∨ fr < 1
  · rw [show wholeF b fr = 0 from by simp [wholeF, h]]
    by_cases h1 : b < 0
    · go_enter Try.func26, Try.ntmps26
      go_wp2
      go_ret
      exact ⟨rfl, rfl⟩
    · have h2 : fr < 1 := by omega
      go_enter Try.func26, Try.ntmps26
      go_wp2
      go_ret
      exact ⟨rfl, rfl⟩
  · rw [show wholeF b fr = b / fr from by simp [wholeF, h]]
    have h1 : 0 ≤ b := by omega
    have h2 : 1 ≤ fr := by omega
    clear h
    go_enter Try.func26, Try.ntmps26
    go_wp2
    go_ret
    exact ⟨rfl, rfl⟩

end Go.Proofs.Ytmipggfcdmmpfaa
