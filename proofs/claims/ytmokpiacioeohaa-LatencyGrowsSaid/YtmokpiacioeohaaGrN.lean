/-
  Graphs: the test of the order's search (the program): not done, and nothing to wait for. Plain contract.
-/
import Derived.Test.YtmokpiacioeohaaGrM
namespace Go.Proofs.Ytmokpiacioeohaa
open Go.RowKit Go.Maps
theorem zeroB (w : World) : (zeroValue 4).run Try.prog w = .ok (.bool false) w := by kernel_rfl
theorem zeroI (w : World) : (zeroValue 3).run Try.prog w = .ok (.int .i64 0) w := by kernel_rfl
set_option maxHeartbeats 4000000 in
theorem order1_any (x : Q4) (Gd Gw bd bw nd nw : Nat) (D M : Int → Option Value) (b : Bool) (z : Int) (w : World) (k1 : Blk w Gd 87 #[.map (some bd)]) (k2 : Blk w Gw 67 #[.map (some bw)])
    (hd : MapT TI w bd nd D) (hm : MapT TI w bw nw M) (hx : In64 x.a) (hb : (D x.a).getD (.bool false) = .bool b) (hz : (M x.a).getD (.int .i64 0) = .int .i64 z) :
    Calls Try.prog 55 #[.agg #[.int .i64 x.a, .int .i64 x.b, .int .i64 x.c, .int .i64 x.d], .pointer (some ⟨Gd, 0, none⟩), .pointer (some ⟨Gw, 0, none⟩)] w fun e w' => e = .returned (.bool (!b && z == 0)) ∧ Grows w w' := by
  have k3 := Blk.new w 59 #[.int .i64 x.a, .int .i64 x.b, .int .i64 x.c, .int .i64 x.d]
  have hB := (Below.refl w.heap.size w).alloc (Nat.le_refl _) (Obj.cells #[.int .i64 x.a, .int .i64 x.b, .int .i64 x.c, .int .i64 x.d] 59)
  go_enter Try.func55, Try.ntmps55
  go_upto_region 1 with fail
  replace k1 := k1.grows hB
  replace k2 := k2.grows hB
  replace hd := hd.grows hB
  replace hm := hm.grows hB
  generalize World.alloc w _ = w1 at *
  have e1 := hd.look lawI Try.underlying87 (zeroB w1) (in64_ok hx)
  have e2 := hm.look lawI Try.underlying67 (zeroI w1) (in64_ok hx)
  rw [hb] at e1
  rw [hz] at e2
  change (Instr.lookup 87 (.map (some bd)) (.int .i64 x.a) false).run Try.prog w1 = _ at e1
  change (Instr.lookup 67 (.map (some bw)) (.int .i64 x.a) false).run Try.prog w1 = _ at e2
  clear hb hz hd hm
  have x1 := k1.cell 0
  have x2 := k2.cell 0
  have x3 := k3.cell 0
  cases b
  all_goals go_wp2
  all_goals go_ret
  all_goals (refine ⟨ret_bool ?_, hB⟩; simp_all)
end Go.Proofs.Ytmokpiacioeohaa
