/-
  What every layer's law uses: slices of ints that are read; Mod.
-/
import Derived.Test.YtmokpiacioeohaaWords
import Derived.Test.YtmokpiacioeohaaFrame
import Derived.WalkLawsBesides
namespace Go.Proofs.Ytmokpiacioeohaa
open Go.RowKit

/-- The slice value at A reads as the ints l. -/
def Ints (w : World) (A : Option Addr) (l : List Int) : Prop := Reads w w.heap.size 1 A l.length (l.map (Value.int .i64))
theorem Ints.grows {w w' : World} {A : Option Addr} {l : List Int} (h : Ints w A l) (hg : Grows w w') : Ints w' A l := Reads.grows h hg
theorem Ints.at_ {w : World} {A : Option Addr} {l : List Int} (h : Ints w A l) {k : Nat} (hk : k < l.length) : ∃ ad x, A = some ad ∧ ad.block < w.heap.size ∧ l[k]? = some x ∧ w.cell? (ad.add k) = some (.int .i64 x) := by
  obtain ⟨ad, u, e, hb, hx, hc⟩ := Reads.at_ h hk
  refine ⟨ad, l[k], e, hb, List.getElem?_eq_getElem hk, ?_⟩
  rw [hc]
  rw [List.getElem?_map, List.getElem?_eq_getElem hk] at hx
  exact hx.symm
theorem take_snoc {α : Type} {l : List α} {k : Nat} {x : α} (h : l[k]? = some x) : l.take (k + 1) = l.take k ++ [x] := by
  obtain ⟨hk, rfl⟩ := List.getElem?_eq_some_iff.1 h
  exact List.take_succ_eq_append_getElem hk

theorem tmod_eq (v n : Int) (hn : 1 ≤ n) : (v.tmod n < 0 → v.tmod n + n = v % n) ∧ (0 ≤ v.tmod n → v.tmod n = v % n) := by
  have h1 : v.tmod n = if 0 ≤ v ∨ n ∣ v then v % n else v % n - n := by
    rw [Int.tmod_eq_emod]
    split <;> simp <;> omega
  have h2 := Int.emod_nonneg v (b := n) (by omega)
  have h3 := Int.emod_lt_of_pos v (b := n) (by omega)
  split at h1 <;> omega
theorem mod_any (v n : Int) (w : World) (hn : 1 ≤ n) (hn2 : n ≤ 9223372036854775807) : Calls Try.prog 8 #[.int .i64 v, .int .i64 n] w fun e w' => e = .returned (.int .i64 (v % n)) ∧ w = w' := by
  have h1 := Int.tmod_lt_of_pos v (show 0 < n by omega)
  have h2 := Int.lt_tmod_of_pos v (show 0 < n by omega)
  have H := tmod_eq v n hn
  obtain ⟨ha, hb⟩ := H
  have Ha := Lib.hid ha
  have Hb := Lib.hid hb
  clear ha hb
  go_enter Try.func8, Try.ntmps8
  go_wp2
  all_goals go_ret
  all_goals refine ⟨ret_int ?_, rfl⟩
  · exact Ha.out (by assumption)
  · exact Hb.out (by assumption)
end Go.Proofs.Ytmokpiacioeohaa
