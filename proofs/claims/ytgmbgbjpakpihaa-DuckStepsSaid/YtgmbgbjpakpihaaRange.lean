/-
  Decks: Range; bounds of what a deck gives; many numbers one after the other.
-/
import Derived.Test.YtgmbgbjpakpihaaDeck
import Derived.Test.YtgmbgbjpakpihaaStep
namespace Go.Proofs.Ytgmbgbjpakpihaa
open Go.RowKit

theorem nextV_bd (l : List Int) (k : Nat) {n : Int} (h : 1 ≤ n) : 0 ≤ nextV l k n ∧ nextV l k n < n :=
  ⟨Int.emod_nonneg _ (by omega), Int.emod_lt_of_pos _ (by omega)⟩
theorem grown_trans {a b c : World} {row : Option Nat} (h : a.grownBy b row) (k : b.grownBy c row) : a.grownBy c row :=
  ⟨k.os.trans h.os, k.tape.trans h.tape, k.output.trans h.output, Nat.le_trans h.size k.size, fun j hj hn => (k.block j (Nat.lt_of_lt_of_le hj h.size) hn).trans (h.block j hj hn)⟩
theorem Deck.far {w : World} {g : Nat} {A : Option Addr} {c : Nat} {l : List Int} {k : Nat} (h : Deck w g A c l k) {p : Addr} (hp : g < p.block) (u : Value) : Deck (w.setCell p u) g A c l k :=
  ⟨h.blk.far (by omega) u, h.ints.setCell (by omega) u, h.le, h.len⟩
/-- A store into a block that is neither the deck's nor below the arguments' end. -/
theorem Deck.put {w w0 : World} {B g : Nat} {A : Option Addr} {c : Nat} {l : List Int} {k : Nat} (h : Deck w g A c l k) (hI : Reads w0 B 1 A l.length (l.map (Value.int .i64))) {p : Addr} (hp : B ≤ p.block) (hg : g ≠ p.block) (u : Value) : Deck (w.setCell p u) g A c l k := by
  refine ⟨h.blk.far hg u, ⟨h.ints.1, fun hn => ?_⟩, h.le, h.len⟩
  obtain ⟨ad, hA, hb, hc⟩ := h.ints.2 hn
  obtain ⟨ad', hA', hb', _⟩ := hI.2 hn
  have e : ad' = ad := by rw [hA] at hA'; exact (Option.some.inj hA').symm
  subst e
  refine ⟨ad', hA, hb, fun j u hu => ?_⟩
  rw [← hc j u hu]
  refine World.cell?_of_block (Below.heap_setCell w p _ _ ?_)
  rw [block_of_add]
  omega
def nextKs (l : List Int) (k : Nat) : Nat → Nat
  | 0 => k
  | p + 1 => nextK l (nextKs l k p)
theorem range_any (g : Nat) (A : Option Addr) (c : Nat) (l : List Int) (k : Nat) (lo hi : Int) (w : World) (h : Deck w g A c l k) (h1 : lo ≤ hi) (h0 : 0 ≤ lo) (h2 : hi ≤ 4611686018427387904) :
    Calls Try.prog 17 #[.pointer (some ⟨g, 0, none⟩), .int .i64 lo, .int .i64 hi] w fun e w' => e = .returned (.int .i64 (lo + nextV l k (hi - lo + 1))) ∧ Deck w' g A c l (nextK l k) ∧ w.grownBy w' (some g) := by
  have hb := nextV_bd l k (n := hi - lo + 1) (by omega)
  have wa : IntKind.i64.wrap (hi - lo) = hi - lo := IntWalk.i64_in _ (by omega)
  have wb : IntKind.i64.wrap (hi - lo + 1) = hi - lo + 1 := IntWalk.i64_in _ (by omega)
  have wc : IntKind.i64.wrap (lo + nextV l k (hi - lo + 1)) = lo + nextV l k (hi - lo + 1) := IntWalk.i64_in _ (by omega)
  go_enter Try.func17, Try.ntmps17
  go_wp2_with (go_at_call 18; refine (next_any g A c l k _ _ h (by omega) (by omega)).mono ?_; rintro e w1 ⟨rfl, hD, hq⟩)
  go_ret
  exact ⟨rfl, hD, hq⟩
end Go.Proofs.Ytgmbgbjpakpihaa
