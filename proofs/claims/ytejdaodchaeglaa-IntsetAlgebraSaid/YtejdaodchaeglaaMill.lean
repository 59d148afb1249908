/-
  What every layer's law uses: slices of ints that are read; Mod.
-/
import Derived.Test.YtejdaodchaeglaaWords
import Derived.Test.YtejdaodchaeglaaFrame
import Derived.WalkLawsBesides
namespace Go.Proofs.Ytejdaodchaeglaa
open Go.RowKit

/-- The slice value at A reads as the ints l. -/
def Ints (w : World) (A : Option Addr) (l : List Int) : Prop := Reads w w.heap.size 1 A l.length (l.map (Value.int .i64))
theorem Ints.grows {w w' : World} {A : Option Addr} {l : List Int} (h : Ints w A l) (hg : Grows w w') : Ints w' A l := Reads.grows h hg
theorem Ints.at_ {w : World} {A : Option Addr} {l : List Int} (h : Ints w A l) {k : Nat} (hk : k < l.length) : ∃ ad x, A = some ad ∧ ad.block < w.heap.size ∧ l[k]? = some x ∧ w.cell? (ad.add k) = some (.int .i64 x) := by
  obtain ⟨ad, u, e, hb, hx, hc⟩ := Reads.at_ h hk
  refine ⟨ad, l[k], e, hb, List.getElem?_eq_getElem hk, ?_⟩
  rw [hc]
  rw [List.getElem?_map, List.getElem?_eq_getElem hk] at hx
  exact hx.symm
theorem take_snoc {α : Type} {l : List α} {k : Nat} {x : α} (h : l[k]? = some x) : l.take (k + 1) = l.take k ++ [x] := by
  obtain ⟨hk, rfl⟩ := List.getElem?_eq_some_iff.1 h
  exact List.take_succ_eq_append_getElem hk

theorem tmod_eq (v n : Int) (hn : 1 ≤ n) : (v.tmod n < 0 → v.tmod n + n = v % n) ∧ (0 ≤ v.tmod n → v.tmod n = v % n) := by
  have h1 : v.tmod n = if 0 ≤ v ∨ n ∣ v then v % n else v % n - n := by
    rw [Int.tmod_eq_emod]
    split <;> simp <;> omega
  have h2 := Int.emod_nonneg v (b := n) (by omega)
  have h3 := Int.emod_lt_of_pos v (b := n) (by omega)
  split at h1 <;> omega
end Go.Proofs.Ytejdaodchaeglaa
