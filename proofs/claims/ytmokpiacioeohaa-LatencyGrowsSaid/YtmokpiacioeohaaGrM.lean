/-
  Graphs: nodes in the order of their IDs: the last of an ID is the first. The plain law.
-/
import Derived.Test.YtmokpiacioeohaaGrE
import Derived.Test.YtmokpiacioeohaaGrH
namespace Go.Proofs.Ytmokpiacioeohaa
theorem okN_step {ns : List Q4} (h : okN ns = true) {k : Nat} (hk : k + 1 < ns.length) : (ns[k]'(by omega)).a < (ns[k + 1]'hk).a := by
  have := range_all_at h hk
  rw [stepN_at (List.getElem?_eq_getElem hk), getD_at (show ns[k + 1 - 1]? = some (ns[k]'(by omega)) from List.getElem?_eq_getElem (by omega))] at this
  simp only [Bool.and_eq_true, Bool.or_eq_true, beq_iff_eq, decide_eq_true_eq] at this
  omega
theorem okN_asc {ns : List Q4} (h : okN ns = true) : ns.Pairwise fun x y => x.a < y.a := by
  rw [List.pairwise_iff_getElem]
  intro i j hi hj hij
  induction j with
  | zero => omega
  | succ j ih =>
    have h1 := okN_step h hj
    by_cases e : i = j
    · subst e
      exact h1
    · have := ih (by omega) (by omega)
      omega
theorem last_find {ns : List Q4} (h : ns.Pairwise fun x y => x.a < y.a) (id : Int) : lastN ns id = findN ns id := by
  unfold lastN findN
  induction ns with
  | nil => rfl
  | cons x ns ih =>
    rw [List.pairwise_cons] at h
    rw [List.reverse_cons, List.find?_append, ih h.2, List.find?_cons]
    by_cases e : x.a = id
    · have h0 : ns.find? (fun n => n.a == id) = none := by
        rw [List.find?_eq_none]
        intro y hy
        have := h.1 y hy
        simp only [beq_iff_eq]
        omega
      rw [h0]
      simp [e]
    · have e2 : (x.a == id) = false := by simp [e]
      rw [e2]
      cases hf : ns.find? (fun n => n.a == id) <;> simp [e, hf]
theorem lastD_node {ns : List Q4} (h : okN ns = true) (id : Int) : lastD ns id = nodeN ns id := by
  unfold lastD nodeN
  rw [last_find (okN_asc h)]
end Go.Proofs.Ytmokpiacioeohaa
