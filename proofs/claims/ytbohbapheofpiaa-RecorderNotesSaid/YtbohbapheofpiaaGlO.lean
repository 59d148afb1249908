/-
  Arguments opened: glitches, slices of glitches, recorders.
-/
import Derived.Test.YtbohbapheofpiaaRgA
import Derived.Test.YtbohbapheofpiaaOpen
import Derived.Test.YtbohbapheofpiaaNest
namespace Go.Proofs.Ytbohbapheofpiaa
open Go.ChangeShapes Go.WideShapes Go.RowKit Go.Deep
theorem take1_at {cs : List Value} {i : Nat} {v : Value} (h : (cs.drop i).take 1 = [v]) : cs[i]? = some v := by
  have := congrArg (fun l => l[0]?) h
  simp only [List.getElem?_take, List.getElem?_drop, Nat.add_zero, List.getElem?_cons_zero] at this
  simpa using this
theorem off1 {fs : Array Field} {P : Program} {i o c : Nat} {d : TypeDesc} (h : (fs[i]?).map (fun f => (f.offset, P.cellsOf f.type, P.underlying f.type)) = some (o, c, some d)) : i < fs.size := by
  obtain ⟨f, hf, _⟩ := Option.map_eq_some_iff.1 h
  exact (Array.getElem?_eq_some_iff.1 hf).1
section
variable {H : Type} {enc : TypeId × Value → H} {w : World} {base : Nat} {spare : Nat → Bool} {held : Bool}
theorem glitch_of {n : Nat} {cs : List Value} {y : DataW H × List MemPlace} (h : DataW.trod enc Try.prog w base spare held n 43 cs = some y) : ∃ g : Gl, cs = g.ls := by
  obtain ⟨xs, m, _, _, hl, hlen, hg⟩ := DataW.trod_struct Try.underlying43 h
  obtain ⟨k, e0, _⟩ := part_int hg hlen 0 0 1 .i64 (by kernel_rfl)
  obtain ⟨a, e1, _⟩ := part_int hg hlen 1 1 1 .i64 (by kernel_rfl)
  obtain ⟨q, e2, _⟩ := part_int hg hlen 2 2 1 .i64 (by kernel_rfl)
  obtain ⟨s, e3, _⟩ := part_int hg hlen 3 3 1 .i64 (by kernel_rfl)
  obtain ⟨d, e4, _⟩ := part_int hg hlen 4 4 1 .u64 (by kernel_rfl)
  obtain ⟨f, e5, _⟩ := part_int hg hlen 5 5 1 .i64 (by kernel_rfl)
  have hl6 : cs.length = 6 := hl.trans (by kernel_rfl)
  refine ⟨⟨k, a, q, s, d, f⟩, ?_⟩
  match cs, hl6 with
  | [c0, c1, c2, c3, c4, c5], _ =>
    simp only [List.drop_zero, List.take_succ_cons, List.take_zero, List.drop_succ_cons, List.cons.injEq, and_true] at e0 e1 e2 e3 e4 e5
    rw [e0, e1, e2, e3, e4, e5]
    rfl
theorem glitches_of {n : Nat} {cs : List Value} {y : DataW H × List MemPlace} (h : DataW.trod enc Try.prog w base spare held n 24 cs = some y) : ∃ (A : Option Addr) (cp : Nat) (l : List Gl), cs = [.slice A l.length cp] ∧ Gls w A l ∧ l.length ≤ maxLen := by
  rcases DataW.trod_slice Try.underlying24 h with ⟨rfl, _⟩ | ⟨a, len, cap, elems, rest, m, _, rfl, _, hb, hl, hm, hlen, hel, _, _⟩
  · exact ⟨none, 0, [], rfl, Reads.none_, by simp⟩
  · have hc6 : Try.prog.cellsOf 43 = 6 := by kernel_rfl
    rw [hc6] at hel
    have each : ∀ i, i < len → ∃ g : Gl, w.cells? base (a.add (i * 6)) 6 = some g.ls := by
      intro i hi
      have h1 := hel i hi
      rw [List.getElem?_eq_getElem (by omega), Option.bind_eq_some_iff] at h1
      obtain ⟨cs', hcs, hy⟩ := h1
      obtain ⟨g, rfl⟩ := glitch_of hy
      exact ⟨g, hcs⟩
    have lst : ∀ j, j ≤ len → ∃ l : List Gl, l.length = j ∧ ∀ i (g : Gl), l[i]? = some g → w.cells? base (a.add (i * 6)) 6 = some g.ls := by
      intro j
      induction j with
      | zero => exact fun _ => ⟨[], rfl, by simp⟩
      | succ j ih =>
        intro hj
        obtain ⟨l, h1, h2⟩ := ih (by omega)
        obtain ⟨g, hg⟩ := each j (by omega)
        refine ⟨l ++ [g], by simp [h1], fun i x hx => ?_⟩
        by_cases hi : i < l.length
        · exact h2 i x (by rwa [List.getElem?_append_left hi] at hx)
        · have hij : i = j := by
            have := (List.getElem?_eq_some_iff.1 hx).1
            simp at this
            omega
          subst hij
          rw [List.getElem?_append_right (by omega)] at hx
          simp [h1] at hx
          subst hx
          exact hg
    obtain ⟨l, h1, h2⟩ := lst len (Nat.le_refl _)
    refine ⟨some a, cap, l, by rw [h1], ⟨gcells_len l, fun hn => ?_⟩, by omega⟩
    refine ⟨a, rfl, ?_, fun j u hu => ?_⟩
    · have h3 := h2 0 l[0] (List.getElem?_eq_getElem hn)
      have := World.cells?_block h3 (by omega)
      rwa [block_of_add] at this
    · have hj : j < l.length * 6 := by rw [← gcells_len]; exact (List.getElem?_eq_some_iff.1 hu).1
      have hi : j / 6 < l.length := by omega
      have hx := List.getElem?_eq_getElem hi
      have h3 := h2 (j / 6) l[j / 6] hx
      obtain ⟨_, _, h4⟩ := World.cells?_some h3
      have hjm : j = j / 6 * 6 + j % 6 := by omega
      rw [hjm, gcells_at l (j / 6) _ hx (j % 6) (by omega)] at hu
      have := h4 (j % 6) (by omega)
      rw [add_of_add, ← hjm] at this
      rw [this]
      exact hu
end
theorem part_any {H : Type} {enc : TypeId × Value → H} {P : Program} {w : World} {base : Nat} {spare : Nat → Bool} {held : Bool} {fs : Array Field} {cs : List Value} {xs : List (DataW H × List MemPlace)} {n : Nat} (hg : ∀ (i : Nat) (f : Field), fs[i]? = some f → DataW.trod enc P w base spare held n f.type ((cs.drop f.offset).take (P.cellsOf f.type)) = xs[i]?) (hlen : xs.length = fs.size) (i o c : Nat) (t : TypeId)
    (hi : (fs[i]?).map (fun f => (f.offset, P.cellsOf f.type, f.type)) = some (o, c, t)) : ∃ y, DataW.trod enc P w base spare held n t ((cs.drop o).take c) = some y := by
  obtain ⟨f, hff, he⟩ := Option.map_eq_some_iff.1 hi
  simp only [Prod.mk.injEq] at he
  obtain ⟨h1, h2, h3⟩ := he
  have hil := (Array.getElem?_eq_some_iff.1 hff).1
  have hx := hg i f hff
  rw [List.getElem?_eq_getElem (by omega), h1, h2, h3] at hx
  exact ⟨_, hx⟩
theorem arr_of {H : Type} {enc : TypeId × Value → H} {w : World} {base : Nat} {spare : Nat → Bool} {held : Bool} {t : TypeId} {N n : Nat} {cs : List Value} {y : DataW H × List MemPlace} (ht : Try.prog.underlying t = some (.array N 3)) (h : DataW.trod enc Try.prog w base spare held n t cs = some y) :
    ∃ b : Nat → Int, ∀ i, i < N → cs[i]? = some (.int .i64 (b i)) := by
  obtain ⟨xs, m, _, _, hl, hlen, hel⟩ := DataW.trod_array ht h
  have hc : Try.prog.cellsOf 3 = 1 := by kernel_rfl
  have each : ∀ i, ∃ a : Int, i < N → cs[i]? = some (.int .i64 a) := by
    intro i
    by_cases hi : i < N
    · have h1 := hel i hi
      rw [List.getElem?_eq_getElem (by omega), hc, Nat.mul_one] at h1
      obtain ⟨a, ha, _⟩ := DataW.trod_int Try.underlying3 h1
      exact ⟨a, fun _ => take1_at ha⟩
    · exact ⟨0, fun h => absurd h hi⟩
  exact ⟨fun i => (each i).choose, fun i hi => (each i).choose_spec hi⟩
theorem open_rec {H : Type} {enc : TypeId × Value → H} {w : World} {r : Reach} {b0 : Nat} {v : Value} {d : DataW H} {p : List MemPlace} (hv : Value.okWide Try.prog w r b0 28 v) (h : DataW.Trod enc Try.prog w 0 (fun _ => true) true 28 v d p) :
    ∃ (lim fr : Int) (A : Option Addr) (cp : Nat) (l : List Gl) (c b : Nat → Int), v = .agg (rcV lim (.slice A l.length cp) c fr b) ∧ Gls w A l ∧ l.length ≤ maxLen := by
  obtain ⟨cs, rfl, hsz⟩ := okWide_struct Try.underlying28 hv
  obtain ⟨fuel, hf⟩ := h
  obtain ⟨xs, n, _, _, hcl, hlen, hg⟩ := DataW.trod_struct Try.underlying28 hf
  have hcs : (Value.agg cs).cells.toList = cs.toList := rfl
  rw [hcs] at hg hcl
  have h32 : Try.prog.cellsOf 28 = 32 := by kernel_rfl
  have hs32 : cs.size = 32 := hsz.trans h32
  obtain ⟨lim, e0, _⟩ := part_int hg hlen 0 0 1 .i64 (by kernel_rfl)
  obtain ⟨fr, e7, _⟩ := part_int hg hlen 3 7 1 .i64 (by kernel_rfl)
  obtain ⟨y1, t1⟩ := part_any hg hlen 1 1 1 24 (by kernel_rfl)
  obtain ⟨y2, t2⟩ := part_any hg hlen 2 2 5 25 (by kernel_rfl)
  obtain ⟨y4, t4⟩ := part_any hg hlen 4 8 24 26 (by kernel_rfl)
  obtain ⟨A, cp, l, e1, hgl, hml⟩ := glitches_of t1
  obtain ⟨c, e2⟩ := arr_of Try.underlying25 t2
  obtain ⟨b, e4⟩ := arr_of Try.underlying26 t4
  refine ⟨lim, fr, A, cp, l, c, b, congrArg Value.agg ?_, hgl, hml⟩
  refine Array.ext_getElem? fun j => ?_
  have hct : ∀ j : Nat, cs[j]? = cs.toList[j]? := fun j => by rw [Array.getElem?_toList]
  rw [hct]
  have g0 := take1_at e0
  have g1 := take1_at e1
  have g7 := take1_at e7
  have g2 : ∀ i, i < 5 → cs.toList[2 + i]? = some (.int .i64 (c i)) := fun i hi => by
    have := e2 i hi
    rwa [List.getElem?_take, if_pos hi, List.getElem?_drop] at this
  have g4 : ∀ i, i < 24 → cs.toList[8 + i]? = some (.int .i64 (b i)) := fun i hi => by
    have := e4 i hi
    rwa [List.getElem?_take, if_pos hi, List.getElem?_drop] at this
  by_cases hj : j < 32
  · by_cases h0 : j = 0
    · subst h0; exact g0
    by_cases h1 : j = 1
    · subst h1; exact g1
    by_cases h7 : j = 7
    · subst h7; exact g7
    by_cases h27 : j < 7
    · obtain ⟨i, rfl⟩ : ∃ i, j = 2 + i := ⟨j - 2, by omega⟩
      rw [g2 i (by omega), rcV_c _ _ _ _ _ i (by omega)]
    · obtain ⟨i, rfl⟩ : ∃ i, j = 8 + i := ⟨j - 8, by omega⟩
      rw [g4 i (by omega), rcV_b _ _ _ _ _ i (by omega)]
  · rw [List.getElem?_eq_none (by rw [Array.length_toList]; omega), Array.getElem?_eq_none (by rw [rcV_size]; omega)]
end Go.Proofs.Ytbohbapheofpiaa
