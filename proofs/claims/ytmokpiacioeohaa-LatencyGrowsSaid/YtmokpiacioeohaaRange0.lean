/-
  Decks: bounds of what a deck gives; many numbers one after the other.
-/
import Derived.Test.YtmokpiacioeohaaDeck
import Derived.Test.YtmokpiacioeohaaStep
namespace Go.Proofs.Ytmokpiacioeohaa
open Go.RowKit

theorem nextV_bd (l : List Int) (k : Nat) {n : Int} (h : 1 ≤ n) : 0 ≤ nextV l k n ∧ nextV l k n < n :=
  ⟨Int.emod_nonneg _ (by omega), Int.emod_lt_of_pos _ (by omega)⟩
theorem grown_trans {a b c : World} {row : Option Nat} (h : a.grownBy b row) (k : b.grownBy c row) : a.grownBy c row :=
  ⟨k.os.trans h.os, k.tape.trans h.tape, k.output.trans h.output, Nat.le_trans h.size k.size, fun j hj hn => (k.block j (Nat.lt_of_lt_of_le hj h.size) hn).trans (h.block j hj hn)⟩
theorem Deck.far {w : World} {g : Nat} {A : Option Addr} {c : Nat} {l : List Int} {k : Nat} (h : Deck w g A c l k) {p : Addr} (hp : g < p.block) (u : Value) : Deck (w.setCell p u) g A c l k :=
  ⟨h.blk.far (by omega) u, h.ints.setCell (by omega) u, h.le, h.len⟩
/-- A store into a block that is neither the deck's nor below the arguments' end. -/
theorem Deck.put {w w0 : World} {B g : Nat} {A : Option Addr} {c : Nat} {l : List Int} {k : Nat} (h : Deck w g A c l k) (hI : Reads w0 B 1 A l.length (l.map (Value.int .i64))) {p : Addr} (hp : B ≤ p.block) (hg : g ≠ p.block) (u : Value) : Deck (w.setCell p u) g A c l k := by
  refine ⟨h.blk.far hg u, ⟨h.ints.1, fun hn => ?_⟩, h.le, h.len⟩
  obtain ⟨ad, hA, hb, hc⟩ := h.ints.2 hn
  obtain ⟨ad', hA', hb', _⟩ := hI.2 hn
  have e : ad' = ad := by rw [hA] at hA'; exact (Option.some.inj hA').symm
  subst e
  refine ⟨ad', hA, hb, fun j u hu => ?_⟩
  rw [← hc j u hu]
  refine World.cell?_of_block (Below.heap_setCell w p _ _ ?_)
  rw [block_of_add]
  omega
def nextKs (l : List Int) (k : Nat) : Nat → Nat
  | 0 => k
  | p + 1 => nextK l (nextKs l k p)
end Go.Proofs.Ytmokpiacioeohaa
