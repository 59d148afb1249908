/-
  Arguments opened: a struct by value whose fields are ints and bools.
-/
import Derived.Test.YtmipggfcdmmpfaaOpen
namespace Go.Proofs.Ytmipggfcdmmpfaa
open Go.ChangeShapes Go.WideShapes Go.RowKit Go.Deep
inductive Kd where
  | i (k : IntKind)
  | b
def Fits : List Kd → List Value → Prop
  | [], [] => True
  | .i k :: ks, v :: l => (∃ a : Int, v = .int k a ∧ (Lit.int k a).wf = true) ∧ Fits ks l
  | .b :: ks, v :: l => (∃ a : Bool, v = .bool a) ∧ Fits ks l
  | _, _ => False
theorem Fits.len : ∀ {ks : List Kd} {l : List Value}, Fits ks l → l.length = ks.length
  | [], [], _ => rfl
  | [], _ :: _, h => h.elim
  | .i _ :: ks, v :: l, h => by simpa using Fits.len (ks := ks) h.2
  | .b :: ks, v :: l, h => by simpa using Fits.len (ks := ks) h.2
  | .i _ :: _, [], h => h.elim
  | .b :: _, [], h => h.elim
def kindB (P : Program) (f : Field) : Kd → Bool
  | .i k => match P.underlying f.type with | some (.int k') => decide (k' = k) | _ => false
  | .b => match P.underlying f.type with | some .bool => true | _ => false
def kindsB (P : Program) : List Field → List Kd → Bool
  | [], [] => true
  | f :: fs, k :: ks => kindB P f k && kindsB P fs ks
  | _, _ => false
section
variable {H : Type} {enc : TypeId × Value → H} {P : Program} {w : World} {base : Nat} {spare : Nat → Bool} {held : Bool} {r : Reach} {b0 : Nat}
theorem fits_of : ∀ (fs : List Field) (ks : List Kd) (l : List Value), kindsB P fs ks = true → l.length = fs.length →
    (∀ (i : Nat) (f : Field), fs[i]? = some f → ∃ (x : Value) (n : Nat) (y : DataW H × List MemPlace), l[i]? = some x ∧ DataW.trod enc P w base spare held n f.type [x] = some y) → Fits ks l
  | [], [], [], _, _, _ => trivial
  | [], [], _ :: _, _, h, _ => by simp at h
  | [], _ :: _, _, h, _, _ => by simp [kindsB] at h
  | _ :: _, [], _, h, _, _ => by simp [kindsB] at h
  | _ :: _, _ :: _, [], _, h, _ => by simp at h
  | f :: fs, k :: ks, v :: l, h, hl, hf => by
    simp only [kindsB, Bool.and_eq_true] at h
    have hrest := fits_of fs ks l h.2 (by simpa using hl) fun i f hi => by simpa using hf (i + 1) f (by simpa using hi)
    obtain ⟨x, n, y, hx, hy⟩ := hf 0 f rfl
    simp only [List.getElem?_cons_zero, Option.some.injEq] at hx
    subst hx
    have h1 := h.1
    cases k with
    | i k =>
      replace h1 : (match P.underlying f.type with | some (.int k') => decide (k' = k) | _ => false) = true := h1
      split at h1
      · rename_i k' hu
        have : k' = k := by simpa using h1
        subst this
        obtain ⟨a, h2, _, h3⟩ := DataW.trod_int hu hy
        simp only [List.cons.injEq, and_true] at h2
        exact ⟨⟨a, h2, h3⟩, hrest⟩
      · cases h1
    | b =>
      replace h1 : (match P.underlying f.type with | some .bool => true | _ => false) = true := h1
      split at h1
      · rename_i hu
        obtain ⟨a, h2, _⟩ := DataW.trod_bool hu hy
        simp only [List.cons.injEq, and_true] at h2
        exact ⟨⟨a, h2⟩, hrest⟩
      · cases h1
theorem open_kinds {t : TypeId} {fs : Array Field} {ks : List Kd} {v : Value} {d : DataW H} {p : List MemPlace} (ht : P.underlying t = some (.struct fs)) (hone : oneCellFields P fs = true) (hC : P.cellsOf t = fs.size) (hk : kindsB P fs.toList ks = true)
    (hv : Value.okWide P w r b0 t v) (h : DataW.Trod enc P w base spare held t v d p) : ∃ l : List Value, v = .agg l.toArray ∧ Fits ks l := by
  obtain ⟨l, rfl, hl, hf⟩ := open_flat ht hone hC hv h
  exact ⟨l, rfl, fits_of fs.toList ks l hk (by simpa using hl) fun i f hi => hf i f (by simpa using hi)⟩
end
end Go.Proofs.Ytmipggfcdmmpfaa
