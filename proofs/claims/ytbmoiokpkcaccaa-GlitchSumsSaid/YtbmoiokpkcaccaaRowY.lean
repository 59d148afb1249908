/-
  Arrays by value compared with themselves; parts of rows loaded under guards. Plain lemmas over whatever program.
-/
import Derived.Test.YtbmoiokpkcaccaaRow
import Derived.ChangeKeysEq
namespace Go.Proofs.Ytbmoiokpkcaccaa
open Go.RowKit
theorem part_arr {P : Program} (w : World) {e : TypeId} (cs : Array Value) {k : Nat} {kd : IntKind} {i : TypeInfo} {v : Value} (he : P.underlying e = some (.int kd)) (hi : P.info? e = some i) (h1 : i.size = 1) (hx : cs[k]? = some v) :
    (part e cs k).run P w = .ok v w := by
  have hagg : (isAgg e).run P w = .ok false w := by
    unfold isAgg
    rw [Sem.run_bind, run_underlying he w]
    simp
  simp [part, sizeOf, typeInfo, hi, h1, hagg, hx]
theorem arr_same {P : Program} (w : World) (D d : Nat) (hD : D = d + 2) {t e : TypeId} {N : Nat} {i : TypeInfo} (cs : Array Value) (b : Nat → Int) (ht : P.underlying t = some (.array N e)) (he : P.underlying e = some (.int .i64)) (hi : P.info? e = some i) (h1 : i.size = 1) (hc1 : P.cellsOf e = 1) (hc : ∀ j, j < N → cs[j]? = some (.int .i64 (b j))) :
    (Op.equalIn D t (.agg cs) (.agg cs)).run P w = .ok true w := by
  subst hD
  rw [run_equalIn_array (P := P) (w := w) (d := d + 1) (xs := cs) (ys := cs) ht hi, hc1]
  have key : ∀ is : List Nat, (∀ j ∈ is, j < N) → (Op.eqItems (d + 1) e 1 cs cs is).run P w = .ok true w := by
    intro is
    induction is with
    | nil => intro _; simp [Op.eqItems]
    | cons j is ih =>
      intro h
      have hj := hc j (h j (by simp))
      have hp := part_arr (P := P) w cs he hi h1 hj
      have := ih fun k hk => h k (by simp [hk])
      simp [Op.eqItems, Sem.run_bind, hp, run_equalIn_int (w := w) d e .i64 .i64 (b j) (b j) he, this]
  exact key _ fun j hj => List.mem_range.1 hj
/-- 'a == a' and 'a != a' of an array of numbers. -/
theorem eql_arr {P : Program} (w : World) {t e : TypeId} {N : Nat} {i : TypeInfo} (cs : Array Value) (b : Nat → Int) (ht : P.underlying t = some (.array N e)) (he : P.underlying e = some (.int .i64)) (hi : P.info? e = some i) (h1 : i.size = 1) (hc1 : P.cellsOf e = 1) (hc : ∀ j, j < N → cs[j]? = some (.int .i64 (b j))) :
    (binOp .eql t (.agg cs) (.agg cs)).run P w = .ok (.bool true) w := by
  have := arr_same w 10000 9998 rfl cs b ht he hi h1 hc1 hc
  simp only [binOp]
  simp only [Op.equal, Op.maxDepth, Sem.run_bind, this, Result.andThen_ok, Sem.run_pure]
theorem neq_arr {P : Program} (w : World) {t e : TypeId} {N : Nat} {i : TypeInfo} (cs : Array Value) (b : Nat → Int) (ht : P.underlying t = some (.array N e)) (he : P.underlying e = some (.int .i64)) (hi : P.info? e = some i) (h1 : i.size = 1) (hc1 : P.cellsOf e = 1) (hc : ∀ j, j < N → cs[j]? = some (.int .i64 (b j))) :
    (binOp .neq t (.agg cs) (.agg cs)).run P w = .ok (.bool false) w := by
  have := arr_same w 10000 9998 rfl cs b ht he hi h1 hc1 hc
  simp only [binOp]
  simp only [Op.equal, Op.maxDepth, Sem.run_bind, this, Result.andThen_ok, Sem.run_pure, Bool.not_true]
section
variable {P : Program} {ops : Array Oper} {rest : List Oper} {o : Oper} {a : Act} {w : World} {Q : Exit → Act → World → Prop} {g : Nat} {t ty : TypeId} {cs old : Array Value} {d : TypeDesc}
theorem wpList_ran (hgd : Region.wanted o (yielded ops a.tmps) = true) {u : Value} (hr : (execOp a.eval o).run P w = .ok (.value u) w)
    (h : wpList P ops Q rest (a.put o.dst u) w) : wpList P ops Q (o :: rest) a w :=
  BigFrame.wpList_want hgd fun _ hK => by
    unfold Oper.wp
    rw [hr]
    exact hK _ _ h
theorem ran_part {ev : Operand → Value} (p : Operand) (ho : o.op = .load ty p) {A : Addr} (hp : ev p = .pointer (some A)) (hc : ∀ j v, cs[j]? = some v → w.cell? (A.add j) = some v)
    (hu : P.underlying ty = some d) (hd : (match d with | .struct _ | .array _ _ => true | _ => false) = true) (hi : (P.info? ty).map (·.size) = some cs.size) :
    (execOp ev o).run P w = .ok (.value (.agg cs)) w := by
  have hl := run_load_part (P := P) w A ty cs d hc hu hd hi
  unfold execOp
  simp only [ho, Instr.loadAt, Instr.sureAddr, Sem.run_bind, Sem.run_pure, Result.andThen_ok, hp, hl]
theorem guard_agg {b : BinOp} {p q : Operand} {xs ys : Array Value} (hg : P.eqGuardType P.depth t = false) : (eqGuard b t p q (.agg xs) (.agg ys)).run P w = .ok () w := by
  unfold eqGuard
  cases b <;> simp [hg]
theorem ran_bin {ev : Operand → Value} {b : BinOp} {t2 : TypeId} (p q : Operand) (ho : o.op = .binOp b t p q t2) {xs ys : Array Value} {v : Value} (hp : ev p = .agg xs) (hq : ev q = .agg ys) (hg : P.eqGuardType P.depth t = false) (h : (binOp b t (.agg xs) (.agg ys)).run P w = .ok v w) :
    (execOp ev o).run P w = .ok (.value v) w := by
  have hgu := guard_agg (P := P) (w := w) (t := t) (b := b) (p := p) (q := q) (xs := xs) (ys := ys) hg
  unfold execOp
  simp only [ho, Sem.run_bind, Sem.run_pure, Result.andThen_ok, hp, hq, h, hgu]
end
end Go.Proofs.Ytbmoiokpkcaccaa
