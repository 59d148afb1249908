/-
  Steps of a walk that do not split: max and min of two ints.
-/
import Derived.Test.YtmokpiacioeohaaWords
namespace Go.Proofs.Ytmokpiacioeohaa
open Go.RowKit
theorem run_max2 {P : Program} (w : World) (ts : Array TypeId) (ty : TypeId) (k : IntKind) (m n : Int) : (Builtin.max_ ts ty #[.int k m, .int k n]).run P w = .ok (.int k (max m n)) w := by
  have e : max m n = if m < n then n else m := by split <;> omega
  rw [e]
  simp [Builtin.max_, Builtin.max2, List.foldlM]
  try split <;> simp_all
theorem run_min2 {P : Program} (w : World) (ts : Array TypeId) (ty : TypeId) (k : IntKind) (m n : Int) : (Builtin.min_ ts ty #[.int k m, .int k n]).run P w = .ok (.int k (min m n)) w := by
  have e : min m n = if n < m then n else m := by split <;> omega
  rw [e]
  simp [Builtin.min_, Builtin.min2, List.foldlM]
  try split <;> simp_all
theorem wpList_max2 {P : Program} {ops : Array Oper} {rest : List Oper} {o : Oper} {a : Act} {w : World} {Q : Exit → Act → World → Prop} (hgd : o.guard = none) (x y : Operand) (ts : Array TypeId)
    (ho : o.op = .call { callee := .builtin .max, args := #[x, y], argTypes := ts }) (k : IntKind) (m n : Int) (hx : a.eval x = .int k m) (hy : a.eval y = .int k n)
    (h : wpList P ops Q rest (a.put o.dst (.int k (max m n))) w) : wpList P ops Q (o :: rest) a w :=
  wpList_plain hgd fun _ hK => by
    unfold Oper.wp execOp
    simp only [ho, resolve, invoke, builtin, Sem.run_bind, Sem.run_pure, Result.andThen_ok, List.map_toArray, List.map_cons, List.map_nil, hx, hy, run_max2]
    exact hK _ _ h
theorem wpList_min2 {P : Program} {ops : Array Oper} {rest : List Oper} {o : Oper} {a : Act} {w : World} {Q : Exit → Act → World → Prop} (hgd : o.guard = none) (x y : Operand) (ts : Array TypeId)
    (ho : o.op = .call { callee := .builtin .min, args := #[x, y], argTypes := ts }) (k : IntKind) (m n : Int) (hx : a.eval x = .int k m) (hy : a.eval y = .int k n)
    (h : wpList P ops Q rest (a.put o.dst (.int k (min m n))) w) : wpList P ops Q (o :: rest) a w :=
  wpList_plain hgd fun _ hK => by
    unfold Oper.wp execOp
    simp only [ho, resolve, invoke, builtin, Sem.run_bind, Sem.run_pure, Result.andThen_ok, List.map_toArray, List.map_cons, List.map_nil, hx, hy, run_min2]
    exact hK _ _ h
end Go.Proofs.Ytmokpiacioeohaa
