/-
  RecorderNotes: parts that no walk needs.
-/
import Derived.Test.YtbohbapheofpiaaRgG
import Derived.Test.YtbohbapheofpiaaRgH
import Derived.Test.YtbohbapheofpiaaRgI
import Derived.Test.YtbohbapheofpiaaRgJ
import Derived.Test.YtbohbapheofpiaaMill
namespace Go.Proofs.Ytbohbapheofpiaa
open Go.RowKit
def gc2 (g h : Gl) : Array Value := #[.int .i64 g.k, .int .i64 g.a, .int .i64 g.q, .int .i64 g.s, .int .u64 g.d, .int .i64 g.f, .int .i64 h.k, .int .i64 h.a, .int .i64 h.q, .int .i64 h.s, .int .u64 h.d, .int .i64 h.f]
theorem gc2_lo (g h : Gl) (j : Nat) (u : Value) (hu : g.cs[j]? = some u) : (gc2 g h)[j]? = some u := by
  have hj : j < 6 := (Array.getElem?_eq_some_iff.1 hu).1
  rw [← hu]
  have hh : j = 0 ∨ j = 1 ∨ j = 2 ∨ j = 3 ∨ j = 4 ∨ j = 5 := by omega
  rcases hh with rfl | rfl | rfl | rfl | rfl | rfl <;> rfl
theorem gc2_hi (g h : Gl) (j : Nat) (u : Value) (hu : h.cs[j]? = some u) : (gc2 g h)[6 + j]? = some u := by
  have hj : j < 6 := (Array.getElem?_eq_some_iff.1 hu).1
  rw [← hu]
  have hh : j = 0 ∨ j = 1 ∨ j = 2 ∨ j = 3 ∨ j = 4 ∨ j = 5 := by omega
  rcases hh with rfl | rfl | rfl | rfl | rfl | rfl <;> rfl
theorem newF_len (lim : Int) : (newF lim).1.l.length ≤ 1000000 := by
  unfold newF
  split <;> simp [Rec.zero]
theorem gls_cs (g : Gl) (cs : Array Value) (h : cs.toList = g.ls) : cs = g.cs := by
  apply Array.ext'
  rw [h]
  rfl
theorem gcs_one (g : Gl) : g.cs.all (·.oneCell') = true := by simp [Gl.cs, Value.oneCell']
/-- The step yields this value and leaves this world. -/
theorem wpList_ranw {P : Program} {ops : Array Oper} {rest : List Oper} {o : Oper} {a : Act} {w w' : World} {Q : Exit → Act → World → Prop} (hgd : Region.wanted o (yielded ops a.tmps) = true) {u : Value} (hr : (execOp a.eval o).run P w = .ok (.value u) w')
    (h : wpList P ops Q rest (a.put o.dst u) w') : wpList P ops Q (o :: rest) a w :=
  BigFrame.wpList_want hgd fun _ hK => by
    unfold Oper.wp
    rw [hr]
    exact hK _ _ h
theorem gr_ran {P : Program} {o : Oper} {ev : Operand → Value} {w : World} {u : Value} {T : Value → World → Prop} (hr : (execOp ev o).run P w = .ok (.value u) w) (h : T u w) : genR P T ((execOp ev o).run P w) := by
  rw [hr]
  exact gr_val h
theorem part_at {w : World} {g : Nat} {t : TypeId} {cs row : Array Value} (hb : Blk w g t cs) (o : Nat) (h : ∀ j u, row[j]? = some u → cs[o + j]? = some u) : ∀ j u, row[j]? = some u → w.cell? ((⟨g, o, none⟩ : Addr).add j) = some u := by
  intro j u hj
  have ha : (⟨g, o, none⟩ : Addr).add j = ⟨g, o + j, none⟩ := by
    unfold Addr.add
    split
    · simp_all
    · rfl
  rw [ha, hb.cell]
  exact h j u hj
end Go.Proofs.Ytbohbapheofpiaa
