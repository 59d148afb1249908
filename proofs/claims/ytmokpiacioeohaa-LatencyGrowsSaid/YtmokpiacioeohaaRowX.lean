/-
  Whole rows loaded and stored in regions that draw their order. Plain lemmas over whatever program.
-/
import Derived.Test.YtmokpiacioeohaaRow
import Derived.Test.YtmokpiacioeohaaMix
import Derived.Test.YtmokpiacioeohaaStep
import Derived.Test.YtmokpiacioeohaaFree
import Derived.Test.YtmokpiacioeohaaOwn
namespace Go.Proofs.Ytmokpiacioeohaa
open Go.RowKit
section
variable {P : Program} {o : Oper} {ev : Operand → Value} {w : World} {g : Nat} {t ty : TypeId} {cs old : Array Value} {d : TypeDesc}
theorem step_load_row {T : World → Prop} (p : Operand) (ho : o.op = .load ty p) (hp : ev p = .pointer (some ⟨g, 0, none⟩)) (hb : Blk w g t cs)
    (hu : P.underlying ty = some d) (hd : (match d with | .struct _ | .array _ _ => true | _ => false) = true) (hi : (P.info? ty).map (·.size) = some cs.size) (h : T w) :
    stepR P T ((execOp ev o).run P w) (.agg cs) := by
  have hl := run_loadVar_row (P := P) w g t ty cs (0, 0) d hb hu hd hi
  unfold execOp
  simp only [ho, Instr.loadAt, Instr.sureAddr, Sem.run_bind, Sem.run_pure, Result.andThen_ok, hp, hl]
  exact step_val h
theorem calm_load_row (p : Operand) (ho : o.op = .load ty p) (hp : ev p = .pointer (some ⟨g, 0, none⟩)) (hb : Blk w g t cs)
    (hu : P.underlying ty = some d) (hd : (match d with | .struct _ | .array _ _ => true | _ => false) = true) (hi : (P.info? ty).map (·.size) = some cs.size) :
    calmR P w ((execOp ev o).run P w) (.agg cs) := by
  have hl := run_loadVar_row (P := P) w g t ty cs (0, 0) d hb hu hd hi
  unfold execOp
  simp only [ho, Instr.loadAt, Instr.sureAddr, Sem.run_bind, Sem.run_pure, Result.andThen_ok, hp, hl]
  exact calm_val
theorem step_store_row {T : World → Prop} (p v : Operand) (ho : o.op = .store ty p v) (hp : ev p = .pointer (some ⟨g, 0, none⟩)) (hv : ev v = .agg cs) (hb : Blk w g t old)
    (hi : (P.info? ty).map (·.size) = some cs.size) (hs : old.size = cs.size) (h1 : cs.all (·.oneCell') = true) (h : T (w.setRow g cs)) :
    stepR P T ((execOp ev o).run P w) undef := by
  have hl := run_storeVar_row (P := P) w g t ty old cs hb hi hs h1
  unfold execOp
  simp only [ho, Instr.storeAt, Instr.sureAddr, Sem.run_bind, Sem.run_pure, Result.andThen_ok, hp, hv, hl]
  exact step_skip h
/-- A cell that was there before is read as it was. -/
theorem below_cell {B : Nat} {a w : World} (h : Below B a w) {p : Addr} {v : Value} (hp : p.block < B) (hc : a.cell? p = some v) : w.cell? p = some v := by
  have hb := h.block p.block hp
  unfold World.cell? at hc ⊢
  rw [hb]
  exact hc
theorem row_only {w : World} {g : Nat} {cs : Array Value} : Only [g] w (w.setRow g cs) :=
  ⟨by simp [World.setRow], fun k _ hk => by
    have hne : ¬ g = k := fun e => hk (by simp [e])
    simp [World.setRow, Array.getElem?_modify, hne]⟩
end
end Go.Proofs.Ytmokpiacioeohaa
