/-
  Large structs: a whole block loaded, stored, handed back, without opening its cells. Plain lemmas over whatever program.
-/
import Derived.Test.YtmokpiacioeohaaWords
import Derived.Laws.Rows
import Derived.Laws.Tables
namespace Go.Proofs.Ytmokpiacioeohaa
open Go.RowKit
theorem Blk.row {w : World} {g : Nat} {t : TypeId} {old cs : Array Value} (h : Blk w g t old) : Blk (w.setRow g cs) g t cs := by
  unfold Blk at *
  simp [World.setRow, Array.getElem?_modify, h]
theorem Blk.row_far {w : World} {g k : Nat} {t : TypeId} {cs cs' : Array Value} (h : Blk w k t cs) (hne : k ≠ g) : Blk (w.setRow g cs') k t cs := by
  unfold Blk at *
  simp [World.setRow, Array.getElem?_modify, h, Ne.symm hne]
theorem below_row {B : Nat} {a w : World} (h : Below B a w) {g : Nat} (hg : B ≤ g) (cs : Array Value) : Below B a (w.setRow g cs) :=
  ⟨h.os, h.tape, h.output, by simpa [World.setRow] using h.size, fun k hk => by
    have hne : ¬ g = k := by omega
    rw [← h.block k hk]
    simp [World.setRow, Array.getElem?_modify, hne]⟩
section
variable {P : Program} {ops : Array Oper} {rest : List Oper} {o : Oper} {a : Act} {w : World} {Q : Exit → Act → World → Prop} {g : Nat} {t ty : TypeId} {cs old : Array Value} {d : TypeDesc}
theorem wpList_load_row (hgd : o.guard = none) (p : Operand) (ho : o.op = .load ty p) (hp : a.eval p = .pointer (some ⟨g, 0, none⟩)) (hb : Blk w g t cs)
    (hu : P.underlying ty = some d) (hd : (match d with | .struct _ | .array _ _ => true | _ => false) = true) (hi : (P.info? ty).map (·.size) = some cs.size)
    (h : wpList P ops Q rest (a.put o.dst (.agg cs)) w) : wpList P ops Q (o :: rest) a w :=
  wpList_plain hgd fun _ hK => by
    have hl := run_loadVar_row (P := P) w g t ty cs (0, 0) d hb hu hd hi
    unfold Oper.wp execOp
    simp only [ho, Instr.loadAt, Instr.sureAddr, Sem.run_bind, Sem.run_pure, Result.andThen_ok, hp, hl]
    exact hK _ _ h
theorem wpList_store_row (hgd : o.guard = none) (p v : Operand) (ho : o.op = .store ty p v) (hdst : o.dst = none) (hp : a.eval p = .pointer (some ⟨g, 0, none⟩)) (hv : a.eval v = .agg cs) (hb : Blk w g t old)
    (hi : (P.info? ty).map (·.size) = some cs.size) (hs : old.size = cs.size) (h1 : cs.all (·.oneCell') = true)
    (h : wpList P ops Q rest a (w.setRow g cs)) : wpList P ops Q (o :: rest) a w :=
  wpList_plain hgd fun _ hK => by
    have hl := run_storeVar_row (P := P) w g t ty old cs hb hi hs h1
    unfold Oper.wp execOp
    simp only [ho, Instr.storeAt, Instr.sureAddr, Sem.run_bind, Sem.run_pure, Result.andThen_ok, hp, hv, hl]
    first
      | exact hK _ _ (by rw [hdst]; exact h)
      | exact hK _ _ h
/-- A struct or an array read from the midst of a block. -/
theorem run_load_part (w : World) (A : Addr) (ty : TypeId) (cs : Array Value) (d : TypeDesc) (hc : ∀ j v, cs[j]? = some v → w.cell? (A.add j) = some v)
    (hu : P.underlying ty = some d) (hd : (match d with | .struct _ | .array _ _ => true | _ => false) = true) (hi : (P.info? ty).map (·.size) = some cs.size) :
    (loadVar ty A).run P w = .ok (.agg cs) w := by
  have hl : (loadCells A cs.toList.length).run P w = .ok cs.toList.toArray w :=
    run_loadCells_list (P := P) w A cs.toList (fun j v hv => hc j v (by simpa using hv))
  cases hq : P.info? ty with
  | none => simp [hq] at hi
  | some i =>
    have hs : i.size = cs.size := by simpa [hq] using hi
    have hagg : (isAgg ty).run P w = .ok true w := by
      unfold isAgg
      rw [Sem.run_bind, run_underlying hu w]
      cases d <;> simp_all
    simp only [Array.length_toList, Array.toArray_toList] at hl
    simp [loadVar, Sem.run_bind, hagg, sizeOf, typeInfo, hq, hs, hl]
theorem wpList_load_part (hgd : o.guard = none) (p : Operand) (ho : o.op = .load ty p) {A : Addr} (hp : a.eval p = .pointer (some A)) (hc : ∀ j v, cs[j]? = some v → w.cell? (A.add j) = some v)
    (hu : P.underlying ty = some d) (hd : (match d with | .struct _ | .array _ _ => true | _ => false) = true) (hi : (P.info? ty).map (·.size) = some cs.size)
    (h : wpList P ops Q rest (a.put o.dst (.agg cs)) w) : wpList P ops Q (o :: rest) a w :=
  wpList_plain hgd fun _ hK => by
    have hl := run_load_part (P := P) w A ty cs d hc hu hd hi
    unfold Oper.wp execOp
    simp only [ho, Instr.loadAt, Instr.sureAddr, Sem.run_bind, Sem.run_pure, Result.andThen_ok, hp, hl]
    exact hK _ _ h
/-- 'a[k]' of an array by value whose elements are numbers. -/
theorem run_index_arr (w : World) {t e : TypeId} {n : Nat} (cs : Array Value) {k : Nat} {kd kk : IntKind} {i : TypeInfo} {v : Value} (h : P.underlying t = some (.array n e)) (he : P.underlying e = some (.int kd)) (hi : P.info? e = some i) (h1 : i.size = 1) (hk : k < n) (hx : cs[k]? = some v) :
    (Instr.index t (.agg cs) (.int kk k)).run P w = .ok v w := by
  have hagg : (isAgg e).run P w = .ok false w := by
    unfold isAgg
    rw [Sem.run_bind, run_underlying he w]
    simp
  have hc : 0 ≤ (k : Int) ∧ (k : Int) < n := by omega
  simp [Instr.index, run_underlying h, asIntOf, hk, hc, part, sizeOf, typeInfo, hi, h1, hagg, hx]
/-- .. under a guard that says yes. -/
theorem wpList_load_rowg (hgd : Region.wanted o (yielded ops a.tmps) = true) (p : Operand) (ho : o.op = .load ty p) (hp : a.eval p = .pointer (some ⟨g, 0, none⟩)) (hb : Blk w g t cs)
    (hu : P.underlying ty = some d) (hd : (match d with | .struct _ | .array _ _ => true | _ => false) = true) (hi : (P.info? ty).map (·.size) = some cs.size)
    (h : wpList P ops Q rest (a.put o.dst (.agg cs)) w) : wpList P ops Q (o :: rest) a w :=
  BigFrame.wpList_want hgd fun _ hK => by
    have hl := run_loadVar_row (P := P) w g t ty cs (0, 0) d hb hu hd hi
    unfold Oper.wp execOp
    simp only [ho, Instr.loadAt, Instr.sureAddr, Sem.run_bind, Sem.run_pure, Result.andThen_ok, hp, hl]
    exact hK _ _ h
end
end Go.Proofs.Ytmokpiacioeohaa
