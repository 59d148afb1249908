/-
  RecorderFinds: its region of all comparisons.
-/
import Derived.Test.YtbohbapheofpiaaRgG
import Derived.Test.YtbohbapheofpiaaMill
namespace Go.Proofs.Ytbohbapheofpiaa
open Go.RowKit
theorem betF_len (R : Rec) (x y : Int) : (betF R x y).length ≤ R.l.length := by
  unfold betF
  split
  · exact List.length_filter_le _ _
  · simp
def rc2 (lim : Int) (v : Value) (c : Nat → Int) (fr : Int) (b : Nat → Int) (lim' : Int) (v' : Value) (c' : Nat → Int) (fr' : Int) (b' : Nat → Int) : Array Value := #[.int .i64 lim, v, .int .i64 (c 0), .int .i64 (c 1), .int .i64 (c 2), .int .i64 (c 3), .int .i64 (c 4), .int .i64 fr, .int .i64 (b 0), .int .i64 (b 1), .int .i64 (b 2), .int .i64 (b 3), .int .i64 (b 4), .int .i64 (b 5), .int .i64 (b 6), .int .i64 (b 7), .int .i64 (b 8), .int .i64 (b 9), .int .i64 (b 10), .int .i64 (b 11), .int .i64 (b 12), .int .i64 (b 13), .int .i64 (b 14), .int .i64 (b 15), .int .i64 (b 16), .int .i64 (b 17), .int .i64 (b 18), .int .i64 (b 19), .int .i64 (b 20), .int .i64 (b 21), .int .i64 (b 22), .int .i64 (b 23), .int .i64 lim', v', .int .i64 (c' 0), .int .i64 (c' 1), .int .i64 (c' 2), .int .i64 (c' 3), .int .i64 (c' 4), .int .i64 fr', .int .i64 (b' 0), .int .i64 (b' 1), .int .i64 (b' 2), .int .i64 (b' 3), .int .i64 (b' 4), .int .i64 (b' 5), .int .i64 (b' 6), .int .i64 (b' 7), .int .i64 (b' 8), .int .i64 (b' 9), .int .i64 (b' 10), .int .i64 (b' 11), .int .i64 (b' 12), .int .i64 (b' 13), .int .i64 (b' 14), .int .i64 (b' 15), .int .i64 (b' 16), .int .i64 (b' 17), .int .i64 (b' 18), .int .i64 (b' 19), .int .i64 (b' 20), .int .i64 (b' 21), .int .i64 (b' 22), .int .i64 (b' 23)]
theorem rc2_lo (lim : Int) (v : Value) (c : Nat → Int) (fr : Int) (b : Nat → Int) (lim' : Int) (v' : Value) (c' : Nat → Int) (fr' : Int) (b' : Nat → Int) (j : Nat) (u : Value) (h : (rcV lim v c fr b)[j]? = some u) : (rc2 lim v c fr b lim' v' c' fr' b')[j]? = some u := by
  have hj : j < 32 := (Array.getElem?_eq_some_iff.1 h).1
  rw [← h]
  have hh : j = 0 ∨ j = 1 ∨ j = 2 ∨ j = 3 ∨ j = 4 ∨ j = 5 ∨ j = 6 ∨ j = 7 ∨ j = 8 ∨ j = 9 ∨ j = 10 ∨ j = 11 ∨ j = 12 ∨ j = 13 ∨ j = 14 ∨ j = 15 ∨ j = 16 ∨ j = 17 ∨ j = 18 ∨ j = 19 ∨ j = 20 ∨ j = 21 ∨ j = 22 ∨ j = 23 ∨ j = 24 ∨ j = 25 ∨ j = 26 ∨ j = 27 ∨ j = 28 ∨ j = 29 ∨ j = 30 ∨ j = 31 := by omega
  rcases hh with rfl | rfl | rfl | rfl | rfl | rfl | rfl | rfl | rfl | rfl | rfl | rfl | rfl | rfl | rfl | rfl | rfl | rfl | rfl | rfl | rfl | rfl | rfl | rfl | rfl | rfl | rfl | rfl | rfl | rfl | rfl | rfl <;> rfl
theorem rc2_hi (lim : Int) (v : Value) (c : Nat → Int) (fr : Int) (b : Nat → Int) (lim' : Int) (v' : Value) (c' : Nat → Int) (fr' : Int) (b' : Nat → Int) (j : Nat) (u : Value) (h : (rcV lim' v' c' fr' b')[j]? = some u) : (rc2 lim v c fr b lim' v' c' fr' b')[32 + j]? = some u := by
  have hj : j < 32 := (Array.getElem?_eq_some_iff.1 h).1
  rw [← h]
  have hh : j = 0 ∨ j = 1 ∨ j = 2 ∨ j = 3 ∨ j = 4 ∨ j = 5 ∨ j = 6 ∨ j = 7 ∨ j = 8 ∨ j = 9 ∨ j = 10 ∨ j = 11 ∨ j = 12 ∨ j = 13 ∨ j = 14 ∨ j = 15 ∨ j = 16 ∨ j = 17 ∨ j = 18 ∨ j = 19 ∨ j = 20 ∨ j = 21 ∨ j = 22 ∨ j = 23 ∨ j = 24 ∨ j = 25 ∨ j = 26 ∨ j = 27 ∨ j = 28 ∨ j = 29 ∨ j = 30 ∨ j = 31 := by omega
  rcases hh with rfl | rfl | rfl | rfl | rfl | rfl | rfl | rfl | rfl | rfl | rfl | rfl | rfl | rfl | rfl | rfl | rfl | rfl | rfl | rfl | rfl | rfl | rfl | rfl | rfl | rfl | rfl | rfl | rfl | rfl | rfl | rfl <;> rfl
theorem mostR_ex (R : Rec) (p : Int) : ∃ r, MostR R p r := by
  by_cases hc : R.ok = true ∧ 0 ≤ p ∧ p ≤ 100
  · have hb : OKB R.b := ((okR_iff _ _ _ _ _).1 hc.1).2.2.2.2.2.2
    obtain ⟨r, hr⟩ := most_ex R.b hb p hc.2.2
    exact ⟨r, fun _ => hr, fun h => absurd hc h⟩
  · exact ⟨0, mostR_no hc⟩
end Go.Proofs.Ytbohbapheofpiaa
