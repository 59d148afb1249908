/-
  Arguments opened: spans, slices of spans, sets.
-/
import Derived.Test.YtejdaodchaeglaaSpA
import Derived.Test.YtejdaodchaeglaaOpen
import Derived.Test.YtejdaodchaeglaaNest
namespace Go.Proofs.Ytejdaodchaeglaa
open Go.ChangeShapes Go.WideShapes Go.RowKit Go.Deep
theorem part_any {H : Type} {enc : TypeId × Value → H} {P : Program} {w : World} {base : Nat} {spare : Nat → Bool} {held : Bool} {fs : Array Field} {cs : List Value} {xs : List (DataW H × List MemPlace)} {n : Nat} (hg : ∀ (i : Nat) (f : Field), fs[i]? = some f → DataW.trod enc P w base spare held n f.type ((cs.drop f.offset).take (P.cellsOf f.type)) = xs[i]?) (hlen : xs.length = fs.size) (i o c : Nat) (t : TypeId)
    (hi : (fs[i]?).map (fun f => (f.offset, P.cellsOf f.type, f.type)) = some (o, c, t)) : ∃ y, DataW.trod enc P w base spare held n t ((cs.drop o).take c) = some y := by
  obtain ⟨f, hff, he⟩ := Option.map_eq_some_iff.1 hi
  simp only [Prod.mk.injEq] at he
  obtain ⟨h1, h2, h3⟩ := he
  have hil := (Array.getElem?_eq_some_iff.1 hff).1
  have hx := hg i f hff
  rw [List.getElem?_eq_getElem (by omega), h1, h2, h3] at hx
  exact ⟨_, hx⟩
section
variable {H : Type} {enc : TypeId × Value → H} {w : World} {base : Nat} {spare : Nat → Bool} {held : Bool}
theorem span_of {n : Nat} {cs : List Value} {y : DataW H × List MemPlace} (h : DataW.trod enc Try.prog w base spare held n 40 cs = some y) : ∃ g : Sp, cs = lsS g := by
  obtain ⟨xs, m, _, _, hl, hlen, hg⟩ := DataW.trod_struct Try.underlying40 h
  obtain ⟨k, e0, _⟩ := part_int hg hlen 0 0 1 .i64 (by kernel_rfl)
  obtain ⟨a, e1, _⟩ := part_int hg hlen 1 1 1 .i64 (by kernel_rfl)
  have hl2 : cs.length = 2 := hl.trans (by kernel_rfl)
  refine ⟨(k, a), ?_⟩
  match cs, hl2 with
  | [c0, c1], _ =>
    simp only [List.drop_zero, List.take_succ_cons, List.take_zero, List.drop_succ_cons, List.cons.injEq, and_true] at e0 e1
    rw [e0, e1]
    rfl
theorem spans_of {n : Nat} {cs : List Value} {y : DataW H × List MemPlace} (h : DataW.trod enc Try.prog w base spare held n 22 cs = some y) : ∃ (A : Option Addr) (cp : Nat) (l : List Sp), cs = [.slice A l.length cp] ∧ Sps w A l ∧ l.length ≤ maxLen ∧ l.length ≤ cp := by
  rcases DataW.trod_slice Try.underlying22 h with ⟨rfl, _⟩ | ⟨a, len, cap, elems, rest, m, _, rfl, _, hb, hl, hm, hlen, hel, _, _⟩
  · exact ⟨none, 0, [], rfl, Reads.none_, by simp, by simp⟩
  · have hc2 : Try.prog.cellsOf 40 = 2 := by kernel_rfl
    rw [hc2] at hel
    have each : ∀ i, i < len → ∃ g : Sp, w.cells? base (a.add (i * 2)) 2 = some (lsS g) := by
      intro i hi
      have h1 := hel i hi
      rw [List.getElem?_eq_getElem (by omega), Option.bind_eq_some_iff] at h1
      obtain ⟨cs', hcs, hy⟩ := h1
      obtain ⟨g, rfl⟩ := span_of hy
      exact ⟨g, hcs⟩
    have lst : ∀ j, j ≤ len → ∃ l : List Sp, l.length = j ∧ ∀ i (g : Sp), l[i]? = some g → w.cells? base (a.add (i * 2)) 2 = some (lsS g) := by
      intro j
      induction j with
      | zero => exact fun _ => ⟨[], rfl, by simp⟩
      | succ j ih =>
        intro hj
        obtain ⟨l, h1, h2⟩ := ih (by omega)
        obtain ⟨g, hg⟩ := each j (by omega)
        refine ⟨l ++ [g], by simp [h1], fun i x hx => ?_⟩
        by_cases hi : i < l.length
        · exact h2 i x (by rwa [List.getElem?_append_left hi] at hx)
        · have hij : i = j := by
            have := (List.getElem?_eq_some_iff.1 hx).1
            simp at this
            omega
          subst hij
          rw [List.getElem?_append_right (by omega)] at hx
          simp [h1] at hx
          subst hx
          exact hg
    obtain ⟨l, h1, h2⟩ := lst len (Nat.le_refl _)
    refine ⟨some a, cap, l, by rw [h1], ⟨scells_len l, fun hn => ?_⟩, by omega, by omega⟩
    refine ⟨a, rfl, ?_, fun j u hu => ?_⟩
    · have h3 := h2 0 l[0] (List.getElem?_eq_getElem hn)
      have := World.cells?_block h3 (by omega)
      rwa [block_of_add] at this
    · have hj : j < l.length * 2 := by rw [← scells_len]; exact (List.getElem?_eq_some_iff.1 hu).1
      have hi : j / 2 < l.length := by omega
      have hx := List.getElem?_eq_getElem hi
      have h3 := h2 (j / 2) l[j / 2] hx
      obtain ⟨_, _, h4⟩ := World.cells?_some h3
      have hjm : j = j / 2 * 2 + j % 2 := by omega
      rw [hjm, scells_at l (j / 2) _ hx (j % 2) (by omega)] at hu
      have := h4 (j % 2) (by omega)
      rw [add_of_add, ← hjm] at this
      rw [this]
      exact hu
end
theorem open_spans {H : Type} {enc : TypeId × Value → H} {w : World} {r : Reach} {b0 : Nat} {v : Value} {d : DataW H} {p : List MemPlace} (hv : Value.okWide Try.prog w r b0 22 v) (h : DataW.Trod enc Try.prog w 0 (fun _ => true) true 22 v d p) :
    ∃ (A : Option Addr) (c : Nat) (l : List Sp), v = .slice A l.length c ∧ Sps w A l ∧ l.length ≤ maxLen ∧ l.length ≤ c := by
  obtain ⟨a0, len, cap, rfl⟩ := okWide_slice Try.underlying22 hv
  obtain ⟨fuel, hf⟩ := h
  obtain ⟨A, cp, l, e, hs, hm, hc⟩ := spans_of hf
  have e2 : (Value.slice a0 len cap).cells.toList = [.slice a0 len cap] := rfl
  rw [e2] at e
  injection e with e
  exact ⟨A, cp, l, e, hs, hm, hc⟩
theorem open_set {H : Type} {enc : TypeId × Value → H} {w : World} {r : Reach} {b0 : Nat} {v : Value} {d : DataW H} {p : List MemPlace} (hv : Value.okWide Try.prog w r b0 24 v) (h : DataW.Trod enc Try.prog w 0 (fun _ => true) true 24 v d p) :
    ∃ (A : Option Addr) (c : Nat) (l : List Sp), v = .agg #[.slice A l.length c] ∧ Sps w A l ∧ l.length ≤ maxLen ∧ l.length ≤ c := by
  obtain ⟨cs, rfl, hsz⟩ := okWide_struct Try.underlying24 hv
  obtain ⟨fuel, hf⟩ := h
  obtain ⟨xs, n, _, _, hcl, hlen, hg⟩ := DataW.trod_struct Try.underlying24 hf
  have hcs : (Value.agg cs).cells.toList = cs.toList := rfl
  rw [hcs] at hg hcl
  have hs1 : cs.size = 1 := hsz.trans (by kernel_rfl)
  obtain ⟨y1, t1⟩ := part_any hg hlen 0 0 1 22 (by kernel_rfl)
  obtain ⟨A, cp, l, e1, hs, hm, hc⟩ := spans_of t1
  refine ⟨A, cp, l, congrArg Value.agg ?_, hs, hm, hc⟩
  rw [List.drop_zero, List.take_of_length_le (by simp [hs1])] at e1
  apply Array.ext'
  rw [e1]
end Go.Proofs.Ytejdaodchaeglaa
