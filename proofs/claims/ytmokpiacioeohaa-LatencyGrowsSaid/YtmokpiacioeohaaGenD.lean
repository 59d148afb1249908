/-
  Drawn regions some of whose values are only described: a list of properties that stay when the world grows.
-/
import Derived.Test.YtmokpiacioeohaaGen
namespace Go.Proofs.Ytmokpiacioeohaa
open Go.RowKit
/-- A property of a value that stays when the world grows. -/
abbrev GP := {P : World → Value → Prop // ∀ w w' v, P w v → Grows w w' → P w' v}
/-- The values that are described. -/
def DsS (DS : List (Option GP)) (L : Ran) (vs : Nat → Value) (w : World) : Prop := ∀ j P, DS[j]? = some (some P) → L j = true → P.1 w (vs j)
section
variable {DS : List (Option GP)} {L : Ran} {vs : Nat → Value} {w w' : World} {k : Nat} {u : Value}
theorem ds_none (DS : List (Option GP)) (vs : Nat → Value) (w : World) : DsS DS (fun _ => false) vs w := fun _ _ _ h => by cases h
theorem DsS.grows (h : DsS DS L vs w) (hg : Grows w w') : DsS DS L vs w' := fun j P hj hL => P.2 w w' (vs j) (h j P hj hL) hg
theorem ds_free (h : DsS DS L vs w) (hk : DS[k]? = some none) : DsS DS (upd L k) (setV vs k u) w := by
  intro j P hj hL
  unfold setV
  unfold upd at hL
  by_cases e : j = k
  · subst e
    rw [hk] at hj
    cases hj
  · rw [if_neg e] at hL ⊢
    exact h j P hj hL
theorem ds_put {P : GP} (h : DsS DS L vs w) (hk : DS[k]? = some (some P)) (hP : P.1 w u) : DsS DS (upd L k) (setV vs k u) w := by
  intro j P' hj hL
  unfold setV
  unfold upd at hL
  by_cases e : j = k
  · subst e
    rw [hk] at hj
    injection hj with hj
    injection hj with hj
    subst hj
    rw [if_pos rfl]
    exact hP
  · rw [if_neg e] at hL ⊢
    exact h j P' hj hL
end
end Go.Proofs.Ytmokpiacioeohaa
