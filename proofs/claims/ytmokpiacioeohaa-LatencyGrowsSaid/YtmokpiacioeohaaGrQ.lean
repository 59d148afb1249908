/-
  Graphs: how many links a node waits for. The plain law.
-/
import Derived.Test.YtmokpiacioeohaaGrP
namespace Go.Proofs.Ytmokpiacioeohaa
def cntW (ls : List Q4) (out : List Int) (x : Int) : Nat := (ls.filter fun l => l.c == x && !out.contains l.a).length
theorem cntW_append (a b : List Q4) (out : List Int) (x : Int) : cntW (a ++ b) out x = cntW a out x + cntW b out x := by simp [cntW]
theorem cntW_le (ls : List Q4) (out : List Int) (x : Int) : cntW ls out x ≤ ls.length := List.length_filter_le _ _
theorem free_cnt (ls : List Q4) (out : List Int) (n : Q4) : freeN ls out n = (!out.contains n.a && cntW ls out n.a == 0) := by
  unfold freeN cntW
  congr 1
  apply Bool.eq_iff_iff.2
  rw [beq_iff_eq, List.length_eq_zero_iff, List.filter_eq_nil_iff, List.all_eq_true]
  constructor
  · intro h l hl
    have := h l hl
    simp only [Bool.or_eq_true, bne_iff_ne, ne_eq, List.contains_eq_mem, decide_eq_true_eq, Bool.and_eq_true, beq_iff_eq, Bool.not_eq_true', decide_eq_false_iff_not, not_and, Decidable.not_not] at this ⊢
    rcases this with h1 | h1
    · exact fun e => absurd e h1
    · exact fun _ => h1
  · intro h l hl
    have := h l hl
    simp only [Bool.or_eq_true, bne_iff_ne, ne_eq, List.contains_eq_mem, decide_eq_true_eq, Bool.and_eq_true, beq_iff_eq, Bool.not_eq_true', decide_eq_false_iff_not, not_and, Decidable.not_not] at this ⊢
    by_cases e : l.c = n.a
    · exact .inr (this e)
    · exact .inl e
/-- While the links are gone through once more behind a new member. -/
def midW (ls : List Q4) (out : List Int) (id : Int) (k : Nat) (x : Int) : Nat := cntW (ls.take k) (out ++ [id]) x + cntW (ls.drop k) out x
theorem midW_zero (ls : List Q4) (out : List Int) (id x : Int) : midW ls out id 0 x = cntW ls out x := by simp [midW, cntW]
theorem midW_end (ls : List Q4) (out : List Int) (id x : Int) {k : Nat} (h : ls.length ≤ k) : midW ls out id k x = cntW ls (out ++ [id]) x := by
  unfold midW
  rw [List.take_of_length_le h, List.drop_of_length_le h]
  simp [cntW]
theorem midW_step {ls : List Q4} {out : List Int} {id x : Int} {k : Nat} {l : Q4} (h : ls[k]? = some l) (hn : id ∉ out) : midW ls out id k x = midW ls out id (k + 1) x + (if l.a = id ∧ l.c = x then 1 else 0) := by
  obtain ⟨hk, hx⟩ := List.getElem?_eq_some_iff.1 h
  have e1 : ls.take (k + 1) = ls.take k ++ [l] := take_snoc h
  have e2 : ls.drop k = [l] ++ ls.drop (k + 1) := by rw [← hx]; simp
  unfold midW
  rw [e1, e2, cntW_append, cntW_append]
  have : cntW [l] out x = cntW [l] (out ++ [id]) x + (if l.a = id ∧ l.c = x then 1 else 0) := by
    unfold cntW
    simp only [List.filter_cons, List.filter_nil]
    by_cases h1 : l.c = x
    · by_cases h2 : l.a = id
      · subst h2
        simp [h1, hn]
      · by_cases h3 : l.a ∈ out <;> simp [h1, h2, h3]
    · simp [h1]
  omega
end Go.Proofs.Ytmokpiacioeohaa
