/-
  Graphs: the first node that passes a test (the library's IndexFunc). Plain contract.
-/
import Derived.Test.YtmokpiacioeohaaGrN
namespace Go.Proofs.Ytmokpiacioeohaa
open Go.RowKit Go.Maps
theorem idx_up {ns : List Q4} {p : Q4 → Bool} {k : Nat} {x : Q4} (h : (ns.take k).findIdx? p = none) (hx : ns[k]? = some x) (hne : p x = false) : (ns.take (k + 1)).findIdx? p = none := by
  rw [take_snoc hx]
  rw [List.findIdx?_eq_none_iff] at *
  intro y hy
  rcases List.mem_append.1 hy with hy | hy
  · exact h y hy
  · simp only [List.mem_singleton] at hy
    subst hy
    exact hne
theorem idx_at {ns : List Q4} {p : Q4 → Bool} {k : Nat} {x : Q4} (h : (ns.take k).findIdx? p = none) (hx : ns[k]? = some x) (he : p x = true) : ns.findIdx? p = some k := by
  rw [List.findIdx?_eq_none_iff] at h
  rw [List.findIdx?_eq_some_iff_getElem]
  obtain ⟨hk, hx⟩ := List.getElem?_eq_some_iff.1 hx
  refine ⟨hk, by rw [hx]; exact he, fun j hj => ?_⟩
  have := h (ns[j]'(by omega)) (by
    rw [List.mem_take_iff_getElem]
    exact ⟨j, by omega, rfl⟩)
  simp only [Bool.not_eq_true]
  exact this
set_option maxHeartbeats 4000000 in
theorem index_any (A : Option Addr) (c : Nat) (ns : List Q4) (p : Q4 → Bool) (Gd Gw : Nat) (w : World) (h : Qs w A ns) (hl : ns.length ≤ 9223372036854775807)
    (hp : ∀ x ∈ ns, ∀ w1, Grows w w1 → Calls Try.prog 55 #[.agg #[.int .i64 x.a, .int .i64 x.b, .int .i64 x.c, .int .i64 x.d], .pointer (some ⟨Gd, 0, none⟩), .pointer (some ⟨Gw, 0, none⟩)] w1 fun e w' => e = .returned (.bool (p x)) ∧ Grows w1 w') :
    Calls Try.prog 54 #[.slice A ns.length c, .func (.func 55) #[] #[.pointer (some ⟨Gd, 0, none⟩), .pointer (some ⟨Gw, 0, none⟩)]] w fun e w' => e = .returned (.int .i64 (placeV (ns.findIdx? p))) ∧ Grows w w' := by
  have HP := Lib.hid hp
  clear hp
  go_enter Try.func54, Try.ntmps54
  go_wp2_with fail
  go_loopw [8] (fun i wr => ∃ k : Nat, k ≤ ns.length ∧ i = .int .i64 k ∧ Hid ((ns.take k).findIdx? p = none) ∧ Grows w wr) (fun i _ => ns.length - (intOf i).toNat)
  case atStart => exact ⟨0, by omega, rfl, Lib.hid rfl, Below.refl _ _⟩
  case round =>
    obtain ⟨k, hk, rfl, hf, hB⟩ := hrel
    by_cases hlt : k < ns.length
    · obtain ⟨ad, x, rfl, had, hx, q0, q1, q2, q3⟩ := (h.grows hB).elem hlt
      have HX := Lib.hid hx
      clear hx
      go_wp2_with fail
      refine (HP.out x (List.mem_of_getElem? HX.out) _ hB).mono ?_
      rintro e w2 ⟨rfl, hq⟩
      replace hB := below_grows hB (Nat.le_refl _) hq
      clear hq q0 q1 q2 q3
      cases e : p x
      · have HE := Lib.hid (idx_up hf.out HX.out e)
        go_wp2
        go_roundw
        case rel => exact ⟨k + 1, by omega, by go_num, HE, hB⟩
        case measure => simp [intOf]; omega
      · have HE := Lib.hid (idx_at hf.out HX.out e)
        go_wp2
        go_ret
        rw [HE.out]
        exact ⟨rfl, hB⟩
    · have HE : Hid (ns.findIdx? p = none) := Lib.hid (by have := hf.out; rwa [List.take_of_length_le (by omega)] at this)
      go_wp2
      go_ret
      rw [HE.out]
      exact ⟨rfl, hB⟩
end Go.Proofs.Ytmokpiacioeohaa
