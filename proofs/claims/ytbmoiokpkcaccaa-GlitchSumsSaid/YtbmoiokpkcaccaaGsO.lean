/-
  Arguments opened: glitches, slices of glitches.
-/
import Derived.Test.YtbmoiokpkcaccaaGsD
import Derived.Test.YtbmoiokpkcaccaaOpen
import Derived.Test.YtbmoiokpkcaccaaNest
namespace Go.Proofs.Ytbmoiokpkcaccaa
open Go.ChangeShapes Go.WideShapes Go.RowKit Go.Deep
section
variable {H : Type} {enc : TypeId × Value → H} {w : World} {base : Nat} {spare : Nat → Bool} {held : Bool}
theorem glitch_of {n : Nat} {cs : List Value} {y : DataW H × List MemPlace} (h : DataW.trod enc Try.prog w base spare held n 28 cs = some y) : ∃ g : Gl, cs = g.ls ∧ WfG g := by
  obtain ⟨xs, m, _, _, hl, hlen, hg⟩ := DataW.trod_struct Try.underlying28 h
  obtain ⟨k, e0, _⟩ := part_int hg hlen 0 0 1 .i64 (by kernel_rfl)
  obtain ⟨a, e1, _⟩ := part_int hg hlen 1 1 1 .i64 (by kernel_rfl)
  obtain ⟨q, e2, _⟩ := part_int hg hlen 2 2 1 .i64 (by kernel_rfl)
  obtain ⟨s, e3, ws⟩ := part_int hg hlen 3 3 1 .i64 (by kernel_rfl)
  obtain ⟨d, e4, wd⟩ := part_int hg hlen 4 4 1 .u64 (by kernel_rfl)
  obtain ⟨f, e5, _⟩ := part_int hg hlen 5 5 1 .i64 (by kernel_rfl)
  have hl6 : cs.length = 6 := hl.trans (by kernel_rfl)
  refine ⟨⟨k, a, q, s, d, f⟩, ?_, i64_bd ws, bounds_u64 wd⟩
  match cs, hl6 with
  | [c0, c1, c2, c3, c4, c5], _ =>
    simp only [List.drop_zero, List.take_succ_cons, List.take_zero, List.drop_succ_cons, List.cons.injEq, and_true] at e0 e1 e2 e3 e4 e5
    rw [e0, e1, e2, e3, e4, e5]
    rfl
theorem glitches_of {n : Nat} {cs : List Value} {y : DataW H × List MemPlace} (h : DataW.trod enc Try.prog w base spare held n 24 cs = some y) : ∃ (A : Option Addr) (cp : Nat) (l : List Gl), cs = [.slice A l.length cp] ∧ Gls w A l ∧ l.length ≤ maxLen ∧ ∀ g ∈ l, WfG g := by
  rcases DataW.trod_slice Try.underlying24 h with ⟨rfl, _⟩ | ⟨a, len, cap, elems, rest, m, _, rfl, _, hb, hl, hm, hlen, hel, _, _⟩
  · exact ⟨none, 0, [], rfl, Reads.none_, by simp, by simp⟩
  · have hc6 : Try.prog.cellsOf 28 = 6 := by kernel_rfl
    rw [hc6] at hel
    have each : ∀ i, i < len → ∃ g : Gl, w.cells? base (a.add (i * 6)) 6 = some g.ls ∧ WfG g := by
      intro i hi
      have h1 := hel i hi
      rw [List.getElem?_eq_getElem (by omega), Option.bind_eq_some_iff] at h1
      obtain ⟨cs', hcs, hy⟩ := h1
      obtain ⟨g, rfl, hw⟩ := glitch_of hy
      exact ⟨g, hcs, hw⟩
    have lst : ∀ j, j ≤ len → ∃ l : List Gl, l.length = j ∧ (∀ i (g : Gl), l[i]? = some g → w.cells? base (a.add (i * 6)) 6 = some g.ls) ∧ ∀ g ∈ l, WfG g := by
      intro j
      induction j with
      | zero => exact fun _ => ⟨[], rfl, by simp, by simp⟩
      | succ j ih =>
        intro hj
        obtain ⟨l, h1, h2, hwl⟩ := ih (by omega)
        obtain ⟨g, hg, hgw⟩ := each j (by omega)
        refine ⟨l ++ [g], by simp [h1], fun i x hx => ?_, fun y hy => (List.mem_append.1 hy).elim (hwl y) (fun h => by simp only [List.mem_cons, List.not_mem_nil, or_false] at h; rw [h]; exact hgw)⟩
        by_cases hi : i < l.length
        · exact h2 i x (by rwa [List.getElem?_append_left hi] at hx)
        · have hij : i = j := by
            have := (List.getElem?_eq_some_iff.1 hx).1
            simp at this
            omega
          subst hij
          rw [List.getElem?_append_right (by omega)] at hx
          simp [h1] at hx
          subst hx
          exact hg
    obtain ⟨l, h1, h2, hwl⟩ := lst len (Nat.le_refl _)
    refine ⟨some a, cap, l, by rw [h1], ⟨gcells_len l, fun hn => ?_⟩, by omega, hwl⟩
    refine ⟨a, rfl, ?_, fun j u hu => ?_⟩
    · have h3 := h2 0 l[0] (List.getElem?_eq_getElem hn)
      have := World.cells?_block h3 (by omega)
      rwa [block_of_add] at this
    · have hj : j < l.length * 6 := by rw [← gcells_len]; exact (List.getElem?_eq_some_iff.1 hu).1
      have hi : j / 6 < l.length := by omega
      have hx := List.getElem?_eq_getElem hi
      have h3 := h2 (j / 6) l[j / 6] hx
      obtain ⟨_, _, h4⟩ := World.cells?_some h3
      have hjm : j = j / 6 * 6 + j % 6 := by omega
      rw [hjm, gcells_at l (j / 6) _ hx (j % 6) (by omega)] at hu
      have := h4 (j % 6) (by omega)
      rw [add_of_add, ← hjm] at this
      rw [this]
      exact hu
end
theorem open_glitches {H : Type} {enc : TypeId × Value → H} {w : World} {r : Reach} {b0 : Nat} {v : Value} {d : DataW H} {p : List MemPlace} (hv : Value.okWide Try.prog w r b0 24 v) (h : DataW.Trod enc Try.prog w 0 (fun _ => true) true 24 v d p) :
    ∃ (A : Option Addr) (c : Nat) (l : List Gl), v = .slice A l.length c ∧ Gls w A l ∧ l.length ≤ maxLen ∧ ∀ g ∈ l, WfG g := by
  obtain ⟨a0, len, cap, rfl⟩ := okWide_slice Try.underlying24 hv
  obtain ⟨fuel, hf⟩ := h
  obtain ⟨A, cp, l, e, hs, hm, hw⟩ := glitches_of hf
  have e2 : (Value.slice a0 len cap).cells.toList = [.slice a0 len cap] := rfl
  rw [e2] at e
  injection e with e
  exact ⟨A, cp, l, e, hs, hm, hw⟩
end Go.Proofs.Ytbmoiokpkcaccaa
