/-
  Graphs: the ends of a link, links that clash (the program, out of the map of the nodes). Plain contracts.
-/
import Derived.Test.YtmokpiacioeohaaGrG
namespace Go.Proofs.Ytmokpiacioeohaa
open Go.RowKit Go.Maps
/-- The last node of an ID, or zeros. -/
def lastD (ns : List Q4) (id : Int) : Q4 := (lastN ns id).getD q0
theorem look_n {w : World} {b n : Nat} {ns : List Q4} (hm : MapT TI w b n (nodeM ns)) {id : Int} (hi : In64 id) {x : Q4} (hx : lastD ns id = x) : (Instr.lookup 79 (.map (some b)) (.int .i64 id) false).run Try.prog w = .ok (.agg #[.int .i64 x.a, .int .i64 x.b, .int .i64 x.c, .int .i64 x.d]) w := by
  have h := hm.look lawI Try.underlying79 (zeroQ w) (in64_ok hi)
  subst hx
  refine h.trans ?_
  unfold nodeM lastD
  cases lastN ns id <;> rfl
set_option maxHeartbeats 4000000 in
theorem ends_any (b n : Nat) (ns : List Q4) (l : Q4) (w : World) (hm : MapT TI w b n (nodeM ns)) (ha : In64 l.a) (hc : In64 l.c) :
    Calls Try.prog 46 #[.map (some b), .agg #[.int .i64 l.a, .int .i64 l.b, .int .i64 l.c, .int .i64 l.d]] w fun e w' => e = .returned (.bool (decide (0 ≤ l.b) && decide (l.b < (lastD ns l.a).d) && decide (0 ≤ l.d) && decide (l.d < (lastD ns l.c).c))) ∧ Grows w w' := by
  have k1 := Blk.new w 52 #[.int .i64 l.a, .int .i64 l.b, .int .i64 l.c, .int .i64 l.d]
  have hB := (Below.refl w.heap.size w).alloc (Nat.le_refl _) (Obj.cells #[.int .i64 l.a, .int .i64 l.b, .int .i64 l.c, .int .i64 l.d] 52)
  go_enter Try.func46, Try.ntmps46
  go_upto_region 1 with fail
  replace hm := hm.grows hB
  generalize World.alloc w _ = w1 at *
  generalize hn1 : lastD ns l.a = n1
  generalize hn2 : lastD ns l.c = n2
  have e1 := look_n hm ha hn1
  have e2 := look_n hm hc hn2
  have Hn1 := Lib.hid hn1
  have Hn2 := Lib.hid hn2
  clear hn1 hn2
  have x1 := k1.cell
  have hf1 : ∀ (a b c d : Int) (w : World), (Instr.field 59 (.agg #[.int .i64 a, .int .i64 b, .int .i64 c, .int .i64 d]) 1).run Try.prog w = .ok (.int .i64 b) w := fun _ _ _ _ _ => by kernel_rfl
  have hf2 : ∀ (a b c d : Int) (w : World), (Instr.field 59 (.agg #[.int .i64 a, .int .i64 b, .int .i64 c, .int .i64 d]) 2).run Try.prog w = .ok (.int .i64 c) w := fun _ _ _ _ _ => by kernel_rfl
  have hf3 : ∀ (a b c d : Int) (w : World), (Instr.field 59 (.agg #[.int .i64 a, .int .i64 b, .int .i64 c, .int .i64 d]) 3).run Try.prog w = .ok (.int .i64 d) w := fun _ _ _ _ _ => by kernel_rfl
  go_wp2
  all_goals go_ret
  all_goals (rw [Hn1.out, Hn2.out]; refine ⟨ret_bool ?_, hB⟩; apply Bool.eq_iff_iff.2; simp only [Bool.and_eq_true, Bool.false_eq_true, decide_eq_true_eq, false_iff] at *; try omega)
set_option maxHeartbeats 8000000 in
theorem clash_any (b n : Nat) (ns : List Q4) (x l : Q4) (w : World) (hm : MapT TI w b n (nodeM ns)) (ha : In64 x.a) (hc : In64 x.c) :
    Calls Try.prog 48 #[.map (some b), .agg #[.int .i64 x.a, .int .i64 x.b, .int .i64 x.c, .int .i64 x.d], .agg #[.int .i64 l.a, .int .i64 l.b, .int .i64 l.c, .int .i64 l.d]] w fun e w' => e = .returned (.bool ((x.c == l.c && x.d == l.d && (lastD ns x.c).b != 3) || (x.a == l.a && x.b == l.b && (lastD ns x.a).b != 5 && (lastD ns x.a).b != 1))) ∧ Grows w w' := by
  have k1 := (Blk.new w 52 #[.int .i64 x.a, .int .i64 x.b, .int .i64 x.c, .int .i64 x.d]).alloc (Obj.cells #[.int .i64 l.a, .int .i64 l.b, .int .i64 l.c, .int .i64 l.d] 52)
  have k2 := blk_new_at (X := w.alloc (Obj.cells #[.int .i64 x.a, .int .i64 x.b, .int .i64 x.c, .int .i64 x.d] 52)) (n := w.heap.size + 1) (t := 52) (cs := #[.int .i64 l.a, .int .i64 l.b, .int .i64 l.c, .int .i64 l.d]) (by simp)
  have hB := ((Below.refl w.heap.size w).alloc (Nat.le_refl _) (Obj.cells #[.int .i64 x.a, .int .i64 x.b, .int .i64 x.c, .int .i64 x.d] 52)).alloc (by simp) (Obj.cells #[.int .i64 l.a, .int .i64 l.b, .int .i64 l.c, .int .i64 l.d] 52)
  go_enter Try.func48, Try.ntmps48
  go_upto_region 1 with fail
  replace hm := hm.grows hB
  generalize World.alloc (World.alloc w _) _ = w1 at *
  generalize hn1 : lastD ns x.a = n1
  generalize hn2 : lastD ns x.c = n2
  have e1 : ∀ z, x.a = z → (Instr.lookup 79 (.map (some b)) (.int .i64 z) false).run Try.prog w1 = .ok (.agg #[.int .i64 n1.a, .int .i64 n1.b, .int .i64 n1.c, .int .i64 n1.d]) w1 := fun z hz => hz ▸ look_n hm ha hn1
  have e2 : ∀ z, x.c = z → (Instr.lookup 79 (.map (some b)) (.int .i64 z) false).run Try.prog w1 = .ok (.agg #[.int .i64 n2.a, .int .i64 n2.b, .int .i64 n2.c, .int .i64 n2.d]) w1 := fun z hz => hz ▸ look_n hm hc hn2
  have Hn1 := Lib.hid hn1
  have Hn2 := Lib.hid hn2
  clear hn1 hn2
  have x1 := k1.cell
  have x2 := k2.cell
  have hf1 : ∀ (a b c d : Int) (w : World), (Instr.field 59 (.agg #[.int .i64 a, .int .i64 b, .int .i64 c, .int .i64 d]) 1).run Try.prog w = .ok (.int .i64 b) w := fun _ _ _ _ _ => by kernel_rfl
  have hf2 : ∀ (a b c d : Int) (w : World), (Instr.field 59 (.agg #[.int .i64 a, .int .i64 b, .int .i64 c, .int .i64 d]) 2).run Try.prog w = .ok (.int .i64 c) w := fun _ _ _ _ _ => by kernel_rfl
  have hf3 : ∀ (a b c d : Int) (w : World), (Instr.field 59 (.agg #[.int .i64 a, .int .i64 b, .int .i64 c, .int .i64 d]) 3).run Try.prog w = .ok (.int .i64 d) w := fun _ _ _ _ _ => by kernel_rfl
  go_wp2
  all_goals go_ret
  all_goals (rw [Hn1.out, Hn2.out]; refine ⟨ret_bool ?_, hB⟩; simp_all)
end Go.Proofs.Ytmokpiacioeohaa
