/-
  Layer 38: counts in their range, over a slice of ints.
-/
import Derived.Test.YtbohbapheofpiaaMill
import Derived.Lib.Hide
namespace Go.Proofs.Ytbohbapheofpiaa
open Go.RowKit
def outT (n : Int) : Bool := decide (n < 0) || decide (1099511627776 < n)
def inT (n : Int) : Bool := !outT n
theorem clo_any (n : Int) (w : World) : Calls Try.prog 45 #[.int .i64 n] w fun e w' => e = .returned (.bool (outT n)) ∧ w = w' := by
  go_enter Try.func45, Try.ntmps45
  go_wp2
  all_goals (go_ret; refine ⟨ret_bool ?_, rfl⟩; simp_all [outT])
/-- Where the first bad number is; -1 if there is none. -/
def Found (l : List Int) (r : Int) : Prop := (r = -1 ∧ ∀ x ∈ l, outT x = false) ∨ (0 ≤ r ∧ ∃ x ∈ l, outT x = true)
set_option maxHeartbeats 2000000 in
theorem index_any (A : Option Addr) (c : Nat) (l : List Int) (w : World) (h : Ints w A l) (hl : l.length ≤ 9223372036854775807) (F : Value) (hF : F = .func (.func 45) #[] #[]) :
    Calls Try.prog 48 #[.slice A l.length c, F] w fun e w' => (∃ r, Found l r ∧ e = .returned (.int .i64 r)) ∧ w = w' := by
  subst hF
  go_enter Try.func48, Try.ntmps48
  go_wp2
  go_loopw [8] (fun i wr => ∃ k : Nat, k ≤ l.length ∧ i = .int .i64 k ∧ wr = w ∧ ∀ x ∈ l.take k, outT x = false) (fun i _ => l.length - (intOf i).toNat)
  case atStart => exact ⟨0, by omega, rfl, rfl, by simp⟩
  case round =>
    obtain ⟨k, hk, rfl, rfl, hall⟩ := hrel
    by_cases hlt : k < l.length
    · obtain ⟨ad, x, rfl, _, hx, hc⟩ := h.at_ hlt
      have HX : Hid (l.take (k + 1) = l.take k ++ [x]) := take_snoc hx
      have HM : Hid (x ∈ l) := List.mem_of_getElem? hx
      clear hx
      go_wp2_with fail
      refine (clo_any x _).mono ?_
      rintro e w2 ⟨rfl, rfl⟩
      cases ho : outT x
      · go_wp2
        go_roundw
        case rel =>
          refine ⟨k + 1, by omega, by go_num, by first | rfl | trivial, ?_⟩
          rw [HX.out]
          intro y hy
          rcases List.mem_append.1 hy with hy | hy
          · exact hall y hy
          · simp at hy; subst hy; exact ho
        case measure => simp [intOf]; omega
      · go_wp2
        go_ret
        exact ⟨⟨_, .inr ⟨by omega, x, HM.out, ho⟩, rfl⟩, rfl⟩
    · have e : l.take k = l := List.take_of_length_le (by omega)
      rw [e] at hall
      go_wp2
      go_ret
      exact ⟨⟨-1, .inl ⟨rfl, hall⟩, rfl⟩, rfl⟩
set_option maxHeartbeats 2000000 in
theorem contains_any (A : Option Addr) (c : Nat) (l : List Int) (w : World) (h : Ints w A l) (hl : l.length ≤ 9223372036854775807) :
    Calls Try.prog 44 #[.slice A l.length c, .func (.func 45) #[] #[]] w fun e w' => e = .returned (.bool (l.any outT)) ∧ w = w' := by
  go_enter Try.func44, Try.ntmps44
  go_wp2_with fail
  refine (index_any A c l _ h hl _ rfl).mono ?_
  rintro e w2 ⟨⟨r, hr, rfl⟩, rfl⟩
  have hd : decide (0 ≤ r) = l.any outT := by
    rcases hr with ⟨rfl, ha⟩ | ⟨h0, x, hx, ho⟩
    · rw [show decide ((0 : Int) ≤ -1) = false from rfl]
      symm
      rw [List.any_eq_false]
      intro x hx
      simp [ha x hx]
    · rw [show decide (0 ≤ r) = true from by simpa using h0]
      symm
      rw [List.any_eq_true]
      exact ⟨x, hx, ho⟩
  go_wp2
  go_ret
  exact ⟨rfl, rfl⟩
set_option maxHeartbeats 2000000 in
theorem counts_any (A : Option Addr) (c : Nat) (l : List Int) (w : World) (h : Ints w A l) (hl : l.length ≤ 9223372036854775807) :
    Calls Try.prog 36 #[.slice A l.length c] w fun e w' => e = .returned (.bool (!l.any outT)) ∧ w = w' := by
  go_enter Try.func36, Try.ntmps36
  go_wp2_with fail
  refine (contains_any A c l _ h hl).mono ?_
  rintro e w2 ⟨rfl, rfl⟩
  go_wp2
  go_ret
  exact ⟨rfl, rfl⟩
end Go.Proofs.Ytbohbapheofpiaa
