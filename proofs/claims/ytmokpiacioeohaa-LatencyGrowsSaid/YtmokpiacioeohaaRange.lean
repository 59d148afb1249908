/-
  Decks: Range.
-/
import Derived.Test.YtmokpiacioeohaaRange0
namespace Go.Proofs.Ytmokpiacioeohaa
open Go.RowKit

theorem range_any (g : Nat) (A : Option Addr) (c : Nat) (l : List Int) (k : Nat) (lo hi : Int) (w : World) (h : Deck w g A c l k) (h1 : lo ≤ hi) (h0 : 0 ≤ lo) (h2 : hi ≤ 4611686018427387904) :
    Calls Try.prog 24 #[.pointer (some ⟨g, 0, none⟩), .int .i64 lo, .int .i64 hi] w fun e w' => e = .returned (.int .i64 (lo + nextV l k (hi - lo + 1))) ∧ Deck w' g A c l (nextK l k) ∧ w.grownBy w' (some g) := by
  have hb := nextV_bd l k (n := hi - lo + 1) (by omega)
  have wa : IntKind.i64.wrap (hi - lo) = hi - lo := IntWalk.i64_in _ (by omega)
  have wb : IntKind.i64.wrap (hi - lo + 1) = hi - lo + 1 := IntWalk.i64_in _ (by omega)
  have wc : IntKind.i64.wrap (lo + nextV l k (hi - lo + 1)) = lo + nextV l k (hi - lo + 1) := IntWalk.i64_in _ (by omega)
  go_enter Try.func24, Try.ntmps24
  go_wp2_with (go_at_call 25; refine (next_any g A c l k _ _ h (by omega) (by omega)).mono ?_; rintro e w1 ⟨rfl, hD, hq⟩)
  go_ret
  exact ⟨rfl, hD, hq⟩
end Go.Proofs.Ytmokpiacioeohaa
