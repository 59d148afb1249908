/-
  Layer 37: slices of glitches: what they read, Same, those that are not valid. Plain contracts.
-/
import Derived.Test.YtbohbapheofpiaaGlC
import Derived.Test.YtbohbapheofpiaaRow
namespace Go.Proofs.Ytbohbapheofpiaa
open Go.RowKit
def Gl.ls (g : Gl) : List Value := [.int .i64 g.k, .int .i64 g.a, .int .i64 g.q, .int .i64 g.s, .int .u64 g.d, .int .i64 g.f]
def gcells (l : List Gl) : List Value := l.flatMap Gl.ls
theorem gcells_len (l : List Gl) : (gcells l).length = l.length * 6 := by
  induction l with
  | nil => rfl
  | cons g l ih => simp only [gcells, List.flatMap_cons, List.length_append, List.length_cons] at *; rw [ih]; simp [Gl.ls]; omega
theorem gcells_at (l : List Gl) (k : Nat) (g : Gl) (h : l[k]? = some g) (j : Nat) (hj : j < 6) : (gcells l)[k * 6 + j]? = g.ls[j]? := by
  induction l generalizing k with
  | nil => simp at h
  | cons x l ih =>
    simp only [gcells, List.flatMap_cons]
    cases k with
    | zero =>
      simp only [List.getElem?_cons_zero, Option.some.injEq] at h
      subst h
      rw [List.getElem?_append_left (by simp [Gl.ls]; omega)]
      simp
    | succ k =>
      rw [List.getElem?_append_right (by simp [Gl.ls]; omega)]
      have := ih k (by simpa using h)
      simp only [gcells] at this
      rw [← this]
      congr 1
      simp [Gl.ls]
      omega
def Gls (w : World) (A : Option Addr) (l : List Gl) : Prop := Reads w w.heap.size 6 A l.length (gcells l)
theorem Gls.grows {w w' : World} {A : Option Addr} {l : List Gl} (h : Gls w A l) (hg : Grows w w') : Gls w' A l := Reads.grows h hg
theorem Gls.at_ {w : World} {A : Option Addr} {l : List Gl} (h : Gls w A l) {k : Nat} (hk : k < l.length) :
    ∃ ad g, A = some ad ∧ ad.block < w.heap.size ∧ l[k]? = some g ∧ ∀ j v, g.cs[j]? = some v → w.cell? (ad.add (k * 6 + j)) = some v := by
  obtain ⟨ad, e, hb, hc⟩ := h.2 (by omega)
  refine ⟨ad, l[k], e, hb, List.getElem?_eq_getElem hk, fun j v hv => hc _ _ ?_⟩
  have hj : j < 6 := by
    have := (Array.getElem?_eq_some_iff.1 hv).1
    simpa [Gl.cs] using this
  rw [gcells_at l k _ (List.getElem?_eq_getElem hk) j hj]
  simpa [Gl.cs, Gl.ls] using hv
/-- The cells of an element, as a walk asks for them. -/
def CellsG (w : World) (p : Addr) (g : Gl) : Prop :=
  w.cell? p = some (.int .i64 g.k) ∧ w.cell? { block := p.block, off := p.off + 1 } = some (.int .i64 g.a) ∧ w.cell? { block := p.block, off := p.off + 2 } = some (.int .i64 g.q) ∧
    w.cell? { block := p.block, off := p.off + 3 } = some (.int .i64 g.s) ∧ w.cell? { block := p.block, off := p.off + 4 } = some (.int .u64 g.d) ∧ w.cell? { block := p.block, off := p.off + 5 } = some (.int .i64 g.f)
theorem Gls.elem {w : World} {A : Option Addr} {l : List Gl} (h : Gls w A l) {k : Nat} (hk : k < l.length) :
    ∃ ad g, A = some ad ∧ ad.block < w.heap.size ∧ l[k]? = some g ∧ CellsG w (ad.add (k * 6)) g := by
  obtain ⟨ad, g, e, hb, hg, hc⟩ := h.at_ hk
  refine ⟨ad, g, e, hb, hg, ?_⟩
  have e0 : (ad.add (k * 6)).add 0 = ad.add (k * 6) := by simp [Addr.add]
  have hj : ∀ j v, g.cs[j]? = some v → w.cell? ((ad.add (k * 6)).add j) = some v := fun j v hv => by rw [add_of_add]; exact hc j v hv
  have ej : ∀ j, j ≠ 0 → (ad.add (k * 6)).add j = { block := (ad.add (k * 6)).block, off := (ad.add (k * 6)).off + j } := fun j hj0 => by
    generalize ad.add (k * 6) = p
    unfold Addr.add
    rw [if_neg hj0]
  refine ⟨by have := hj 0 _ rfl; rwa [e0] at this, ?_, ?_, ?_, ?_, ?_⟩
  · have := hj 1 _ rfl; rwa [ej 1 (by omega)] at this
  · have := hj 2 _ rfl; rwa [ej 2 (by omega)] at this
  · have := hj 3 _ rfl; rwa [ej 3 (by omega)] at this
  · have := hj 4 _ rfl; rwa [ej 4 (by omega)] at this
  · have := hj 5 _ rfl; rwa [ej 5 (by omega)] at this
theorem clog_any (g : Gl) (w : World) : Calls Try.prog 33 #[.agg g.cs] w fun e w' => e = .returned (.bool (!okG g)) ∧ Grows w w' := by
  obtain ⟨k, a, q, s, d, f⟩ := g
  simp only [Gl.cs]
  have hB := (Below.refl w.heap.size w).alloc (Nat.le_refl _) (Obj.cells #[.int .i64 k, .int .i64 a, .int .i64 q, .int .i64 s, .int .u64 d, .int .i64 f] 43)
  go_enter Try.func33, Try.ntmps33
  go_wp2_with fail
  refine (gvalid_any k a q s d f _).mono ?_
  rintro e w1 ⟨rfl, hq⟩
  replace hB := below_grows hB (Nat.le_refl _) hq
  go_wp2
  go_ret
  exact ⟨rfl, hB⟩
def FoundG (l : List Gl) (r : Int) : Prop := (r = -1 ∧ ∀ x ∈ l, okG x = true) ∨ (0 ≤ r ∧ ∃ x ∈ l, okG x = false)
set_option maxHeartbeats 2000000 in
theorem indexg_any (A : Option Addr) (c : Nat) (l : List Gl) (w : World) (h : Gls w A l) (hl : l.length ≤ 9223372036854775807) (F : Value) (hF : F = .func (.func 33) #[] #[]) :
    Calls Try.prog 43 #[.slice A l.length c, F] w fun e w' => (∃ r, FoundG l r ∧ e = .returned (.int .i64 r)) ∧ Grows w w' := by
  subst hF
  go_enter Try.func43, Try.ntmps43
  go_wp2
  go_loopw [8] (fun i wr => ∃ k : Nat, k ≤ l.length ∧ i = .int .i64 k ∧ Grows w wr ∧ ∀ x ∈ l.take k, okG x = true) (fun i _ => l.length - (intOf i).toNat)
  case atStart => exact ⟨0, by omega, rfl, Below.refl _ _, by simp⟩
  case round =>
    obtain ⟨k, hk, rfl, hB, hall⟩ := hrel
    by_cases hlt : k < l.length
    · obtain ⟨ad, g, rfl, had, hx, c0, c1, c2, c3, c4, c5⟩ := (h.grows hB).elem hlt
      have HX : Hid (l.take (k + 1) = l.take k ++ [g]) := take_snoc hx
      have HM : Hid (g ∈ l) := List.mem_of_getElem? hx
      clear hx
      go_wp2_with fail
      refine (clog_any g _).mono ?_
      rintro e w2 ⟨rfl, hq⟩
      replace hB := below_grows hB (Nat.le_refl _) hq
      clear c0 c1 c2 c3 c4 c5 hq
      cases ho : okG g
      · go_wp2
        go_ret
        exact ⟨⟨_, .inr ⟨by omega, g, HM.out, ho⟩, rfl⟩, hB⟩
      · go_wp2
        go_roundw
        case rel =>
          refine ⟨k + 1, by omega, by go_num, hB, ?_⟩
          rw [HX.out]
          intro y hy
          rcases List.mem_append.1 hy with hy | hy
          · exact hall y hy
          · simp at hy; subst hy; exact ho
        case measure => simp [intOf]; omega
    · have e : l.take k = l := List.take_of_length_le (by omega)
      rw [e] at hall
      go_wp2
      go_ret
      exact ⟨⟨-1, .inl ⟨rfl, hall⟩, rfl⟩, hB⟩
end Go.Proofs.Ytbohbapheofpiaa
