/-
  Contracts of layer 14 (phase): greatest common divisors, ratios, parts.
-/
import Derived.Test.YtjdgfcjkpdmodaaMill
import Derived.RegionTactic
import Derived.ChangeAlike
namespace Go.Proofs.Ytjdgfcjkpdmodaa
open Go.RowKit

def gF (n d : Int) : Int := Int.gcd n d
def okR (n d : Int) : Bool := decide (1 ≤ n) && decide (1 ≤ d) && decide (n ≤ 68719476736) && decide (d ≤ 68719476736) && (gF n d == 1)
def okA (a : Int) : Bool := decide (-4096 ≤ a) && decide (a ≤ 4096)
def okP (n d a p f : Int) : Bool := okR n d && decide (n ≤ 768000) && decide (d ≤ 768000) && okA a && decide (0 ≤ p) && decide (p ≤ 1125899906842624) && decide (0 ≤ f) && decide (f < d * 65536)
theorem okR_bd {n d : Int} (h : okR n d = true) : 1 ≤ n ∧ 1 ≤ d ∧ n ≤ 68719476736 ∧ d ≤ 68719476736 ∧ gF n d = 1 := by
  simpa [okR, and_assoc] using h
theorem okP_bd {n d a p f : Int} (h : okP n d a p f = true) : 1 ≤ n ∧ n ≤ 768000 ∧ 1 ≤ d ∧ d ≤ 768000 ∧ -4096 ≤ a ∧ a ≤ 4096 ∧ 0 ≤ p ∧ p ≤ 1125899906842624 ∧ 0 ≤ f ∧ f < d * 65536 := by
  simp only [okP, okA, Bool.and_eq_true, decide_eq_true_eq] at h
  obtain ⟨⟨⟨⟨⟨⟨⟨h1, h2⟩, h3⟩, h4, h5⟩, h6⟩, h7⟩, h8⟩, h9⟩ := h
  obtain ⟨g1, g2, -⟩ := okR_bd h1
  exact ⟨g1, h2, g2, h3, h4, h5, h6, h7, h8, h9⟩
theorem gcd_round (m n : Nat) : Nat.gcd n (m % n) = Nat.gcd m n := by
  rw [Nat.gcd_comm m n, Nat.gcd_rec n m, Nat.gcd_comm]
theorem tmod_cast (m n : Nat) : Int.tmod (m : Int) (n : Int) = ((m % n : Nat) : Int) := by
  rw [Int.tmod_eq_emod_of_nonneg (by omega)]
  exact (Int.natCast_emod m n).symm

set_option maxHeartbeats 2000000 in
theorem gcd_nat (a b : Nat) (w : World) (ha : a ≤ 9223372036854775807) (hb : b ≤ 9223372036854775807) : Calls Try.prog 40 #[.int .i64 a, .int .i64 b] w fun e w' => e = .returned (.int .i64 (Nat.gcd a b)) ∧ Grows w w' := by
  go_enter Try.func40, Try.ntmps40
  go_wp2
  go_loopw [0, 1] (fun x y wr => ∃ m n : Nat, x = .int .i64 m ∧ y = .int .i64 n ∧ Nat.gcd m n = Nat.gcd a b ∧ m ≤ 9223372036854775807 ∧ n ≤ 9223372036854775807 ∧ Grows w wr) (fun _ y _ => (intOf y).toNat)
  case atStart => exact ⟨a, b, rfl, rfl, rfl, ha, hb, Below.refl _ _⟩
  case round =>
    obtain ⟨m, n, rfl, rfl, hg, hm, hn, hB⟩ := hrel
    rcases Nat.eq_zero_or_pos n with h0 | h0
    · subst h0
      rw [Nat.gcd_zero_right] at hg
      subst hg
      go_wp2
      go_ret
      exact ⟨rfl, hB⟩
    · have hne : ((n : Int) == 0) = false := by simp; omega
      have hne' : ¬ (n : Int) = 0 := by omega
      have hlt := Nat.mod_lt m h0
      have ht := tmod_cast m n
      go_wp2
      go_region
      all_goals go_wp2
      all_goals
        go_roundw
        case rel => exact ⟨n, m % n, by first | rfl | go_num, by first | rfl | (rw [ht]) | go_num, by rw [gcd_round, hg], hn, by omega, hB.drew⟩
        case measure => simp [intOf] <;> omega
theorem gcd_any (a b : Int) (w : World) (h1 : 0 ≤ a) (h2 : 0 ≤ b) (ha : a ≤ 9223372036854775807) (hb : b ≤ 9223372036854775807) : Calls Try.prog 40 #[.int .i64 a, .int .i64 b] w fun e w' => e = .returned (.int .i64 (gF a b)) ∧ Grows w w' := by
  obtain ⟨m, rfl⟩ := Int.eq_ofNat_of_zero_le h1
  obtain ⟨n, rfl⟩ := Int.eq_ofNat_of_zero_le h2
  exact gcd_nat m n w (by omega) (by omega)

set_option maxHeartbeats 2000000 in
theorem rgcd_nat (a b : Nat) (w : World) (ha : a ≤ 9223372036854775807) (hb : b ≤ 9223372036854775807) : Calls Try.prog 41 #[.int .i64 a, .int .i64 b] w fun e w' => e = .returned (.int .i64 (Nat.gcd a b)) ∧ Grows w w' := by
  go_enter Try.func41, Try.ntmps41
  go_wp2
  go_loopw [0, 1] (fun x y wr => ∃ m n : Nat, x = .int .i64 m ∧ y = .int .i64 n ∧ Nat.gcd m n = Nat.gcd a b ∧ m ≤ 9223372036854775807 ∧ n ≤ 9223372036854775807 ∧ Grows w wr) (fun _ y _ => (intOf y).toNat)
  case atStart => exact ⟨a, b, rfl, rfl, rfl, ha, hb, Below.refl _ _⟩
  case round =>
    obtain ⟨m, n, rfl, rfl, hg, hm, hn, hB⟩ := hrel
    rcases Nat.eq_zero_or_pos n with h0 | h0
    · subst h0
      rw [Nat.gcd_zero_right] at hg
      subst hg
      go_wp2
      go_ret
      exact ⟨rfl, hB⟩
    · have hne : ((n : Int) == 0) = false := by simp; omega
      have hne' : ¬ (n : Int) = 0 := by omega
      have hlt := Nat.mod_lt m h0
      have ht := tmod_cast m n
      go_wp2
      go_region
      all_goals go_wp2
      all_goals
        go_roundw
        case rel => exact ⟨n, m % n, by first | rfl | go_num, by first | rfl | (rw [ht]) | go_num, by rw [gcd_round, hg], hn, by omega, hB.drew⟩
        case measure => simp [intOf] <;> omega
theorem rgcd_any (a b : Int) (w : World) (h1 : 0 ≤ a) (h2 : 0 ≤ b) (ha : a ≤ 9223372036854775807) (hb : b ≤ 9223372036854775807) : Calls Try.prog 41 #[.int .i64 a, .int .i64 b] w fun e w' => e = .returned (.int .i64 (gF a b)) ∧ Grows w w' := by
  obtain ⟨m, rfl⟩ := Int.eq_ofNat_of_zero_le h1
  obtain ⟨n, rfl⟩ := Int.eq_ofNat_of_zero_le h2
  exact rgcd_nat m n w (by omega) (by omega)

set_option maxHeartbeats 4000000 in
theorem ratio_any (n d : Int) (w : World) : Calls Try.prog 33 #[.agg #[.int .i64 n, .int .i64 d]] w fun e w' => e = .returned (.bool (okR n d)) ∧ Grows w w' := by
  have hB := (Below.refl w.heap.size w).alloc (Nat.le_refl _) (Obj.cells #[.int .i64 n, .int .i64 d] 25)
  go_enter Try.func33, Try.ntmps33
  go_wp2_with (go_at_call 40; refine (gcd_any _ _ _ (by omega) (by omega) (by omega) (by omega)).mono ?_; rintro e w1 ⟨rfl, hq⟩; replace hB := below_grows hB (by simp) hq)
  all_goals (go_ret; refine ⟨ret_bool ?_, by assumption⟩; simp_all [okR]; try omega)

set_option maxHeartbeats 4000000 in
theorem rratio_any (n d : Int) (w : World) : Calls Try.prog 34 #[.agg #[.int .i64 n, .int .i64 d]] w fun e w' => e = .returned (.bool (okR n d)) ∧ Grows w w' := by
  have hB := (Below.refl w.heap.size w).alloc (Nat.le_refl _) (Obj.cells #[.int .i64 n, .int .i64 d] 25)
  go_enter Try.func34, Try.ntmps34
  go_wp2_with (go_at_call 41; refine (rgcd_any _ _ _ (by omega) (by omega) (by omega) (by omega)).mono ?_; rintro e w1 ⟨rfl, hq⟩; replace hB := below_grows hB (by simp) hq)
  all_goals (go_ret; refine ⟨ret_bool ?_, by assumption⟩; simp_all [okR]; try omega)

theorem tuned_any (a : Int) (w : World) : Calls Try.prog 32 #[.int .i64 a] w fun e w' => e = .returned (.bool (okA a)) ∧ w = w' := by
  go_enter Try.func32, Try.ntmps32
  go_wp2
  all_goals (go_ret; refine ⟨ret_bool ?_, rfl⟩; simp_all [okA]; try omega)

theorem parts_any (n d a p f : Int) (w : World) (h1 : 0 ≤ d) (h2 : d ≤ 768000) : Calls Try.prog 29 #[.agg #[.int .i64 n, .int .i64 d, .int .i64 a, .int .i64 p, .int .i64 f]] w fun e w' => e = .returned (.int .i64 (d * 65536)) ∧ Grows w w' := by
  go_enter Try.func29, Try.ntmps29
  go_wp2
  go_ret
  exact ⟨rfl, (Below.refl _ _).alloc (Nat.le_refl _) _⟩

theorem rparts_any (n d a p f : Int) (w : World) (h1 : 0 ≤ d) (h2 : d ≤ 768000) : Calls Try.prog 31 #[.agg #[.int .i64 n, .int .i64 d, .int .i64 a, .int .i64 p, .int .i64 f]] w fun e w' => e = .returned (.int .i64 (d * 65536)) ∧ Grows w w' := by
  go_enter Try.func31, Try.ntmps31
  go_wp2
  go_ret
  exact ⟨rfl, (Below.refl _ _).alloc (Nat.le_refl _) _⟩

end Go.Proofs.Ytjdgfcjkpdmodaa
