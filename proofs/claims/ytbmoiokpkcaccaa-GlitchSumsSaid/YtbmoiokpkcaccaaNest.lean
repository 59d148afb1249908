/-
  Arguments opened: the parts of a struct, one by one.
-/
import Derived.Test.YtbmoiokpkcaccaaOpen
namespace Go.Proofs.Ytbmoiokpkcaccaa
open Go.ChangeShapes Go.WideShapes Go.RowKit Go.Deep
section
variable {H : Type} {enc : TypeId × Value → H} {P : Program} {w : World} {base : Nat} {spare : Nat → Bool} {held : Bool} {fs : Array Field} {cs : List Value} {xs : List (DataW H × List MemPlace)} {n : Nat}
theorem part_int (hg : ∀ (i : Nat) (f : Field), fs[i]? = some f → DataW.trod enc P w base spare held n f.type ((cs.drop f.offset).take (P.cellsOf f.type)) = xs[i]?) (hlen : xs.length = fs.size) (i o c : Nat) (k : IntKind)
    (hi : (fs[i]?).map (fun f => (f.offset, P.cellsOf f.type, P.underlying f.type)) = some (o, c, some (.int k))) : ∃ a : Int, (cs.drop o).take c = [.int k a] ∧ (Lit.int k a).wf = true := by
  obtain ⟨f, hf, he⟩ := Option.map_eq_some_iff.1 hi
  simp only [Prod.mk.injEq] at he
  obtain ⟨h1, h2, h3⟩ := he
  have hil : i < fs.size := (Array.getElem?_eq_some_iff.1 hf).1
  have hx := hg i f hf
  rw [List.getElem?_eq_getElem (by omega), h1, h2] at hx
  obtain ⟨a, ha, _, hw⟩ := DataW.trod_int h3 hx
  exact ⟨a, ha, hw⟩
theorem part_struct (hg : ∀ (i : Nat) (f : Field), fs[i]? = some f → DataW.trod enc P w base spare held n f.type ((cs.drop f.offset).take (P.cellsOf f.type)) = xs[i]?) (hlen : xs.length = fs.size) (i o c : Nat) (gs : Array Field)
    (hi : (fs[i]?).map (fun f => (f.offset, P.cellsOf f.type, P.underlying f.type)) = some (o, c, some (.struct gs))) :
    ∃ (ys : List (DataW H × List MemPlace)) (m : Nat), ys.length = gs.size ∧ ∀ (i : Nat) (f : Field), gs[i]? = some f → DataW.trod enc P w base spare held m f.type ((((cs.drop o).take c).drop f.offset).take (P.cellsOf f.type)) = ys[i]? := by
  obtain ⟨f, hf, he⟩ := Option.map_eq_some_iff.1 hi
  simp only [Prod.mk.injEq] at he
  obtain ⟨h1, h2, h3⟩ := he
  have hil : i < fs.size := (Array.getElem?_eq_some_iff.1 hf).1
  have hx := hg i f hf
  rw [List.getElem?_eq_getElem (by omega), h1, h2] at hx
  obtain ⟨ys, m, _, _, _, hl, h⟩ := DataW.trod_struct h3 hx
  exact ⟨ys, m, hl, h⟩
end
end Go.Proofs.Ytbmoiokpkcaccaa
