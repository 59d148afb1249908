/-
  Layer 37: glitches: which are valid, which are alike. Plain contracts.
-/
import Derived.Test.YtbmoiokpkcaccaaMill
import Derived.Test.YtbmoiokpkcaccaaMix
import Derived.Test.YtbmoiokpkcaccaaWords
import Derived.Lib.Hide
namespace Go.Proofs.Ytbmoiokpkcaccaa
open Go.RowKit
structure Gl where
  k : Int
  a : Int
  q : Int
  s : Int
  d : Int
  f : Int
deriving DecidableEq
def Gl.cs (g : Gl) : Array Value := #[.int .i64 g.k, .int .i64 g.a, .int .i64 g.q, .int .i64 g.s, .int .u64 g.d, .int .i64 g.f]
def okG (g : Gl) : Bool := decide (0 ≤ g.a) && decide (g.a ≤ 1099511627776) && decide (1 ≤ g.q) && decide (g.q ≤ 4096) && decide (1 ≤ g.f) && decide (g.f ≤ 1099511627776) && (((g.k == 1 || g.k == 2) && decide (1 ≤ g.s) && g.d == 0) || ((g.k == 3 || g.k == 4) && decide (1 ≤ g.d) && g.s == 0))
def kinG (g h : Gl) : Bool := g.k == h.k && g.s == h.s && g.d == h.d
set_option maxHeartbeats 4000000 in
theorem gvalid_any (k a q s d f : Int) (w : World) : Calls Try.prog 12 #[.agg #[.int .i64 k, .int .i64 a, .int .i64 q, .int .i64 s, .int .u64 d, .int .i64 f]] w fun e w' => e = .returned (.bool (okG ⟨k, a, q, s, d, f⟩)) ∧ Grows w w' := by
  have hB := (Below.refl w.heap.size w).alloc (Nat.le_refl _) (Obj.cells #[.int .i64 k, .int .i64 a, .int .i64 q, .int .i64 s, .int .u64 d, .int .i64 f] 28)
  go_enter Try.func12, Try.ntmps12
  go_wp2
  all_goals (go_ret; refine ⟨ret_bool ?_, hB⟩; apply Bool.eq_iff_iff.2; simp only [okG, Bool.and_eq_true, Bool.or_eq_true, decide_eq_true_eq, beq_iff_eq, beq_eq_false_iff_ne, ne_eq, Bool.false_eq_true, false_iff] at * <;> omega)
set_option maxHeartbeats 4000000 in
theorem grvalid_any (k a q s d f : Int) (w : World) : Calls Try.prog 8 #[.agg #[.int .i64 k, .int .i64 a, .int .i64 q, .int .i64 s, .int .u64 d, .int .i64 f]] w fun e w' => e = .returned (.bool (okG ⟨k, a, q, s, d, f⟩)) ∧ Grows w w' := by
  have hB := (Below.refl w.heap.size w).alloc (Nat.le_refl _) (Obj.cells #[.int .i64 k, .int .i64 a, .int .i64 q, .int .i64 s, .int .u64 d, .int .i64 f] 28)
  go_enter Try.func8, Try.ntmps8
  go_wp2
  all_goals (go_ret; refine ⟨ret_bool ?_, hB⟩; apply Bool.eq_iff_iff.2; simp only [okG, Bool.and_eq_true, Bool.or_eq_true, decide_eq_true_eq, beq_iff_eq, beq_eq_false_iff_ne, ne_eq, Bool.false_eq_true, false_iff] at * <;> omega)
set_option maxHeartbeats 4000000 in
theorem kin_any (k a q s d f k2 a2 q2 s2 d2 f2 : Int) (w : World) : Calls Try.prog 26 #[.agg #[.int .i64 k, .int .i64 a, .int .i64 q, .int .i64 s, .int .u64 d, .int .i64 f], .agg #[.int .i64 k2, .int .i64 a2, .int .i64 q2, .int .i64 s2, .int .u64 d2, .int .i64 f2]] w fun e w' => e = .returned (.bool (kinG ⟨k, a, q, s, d, f⟩ ⟨k2, a2, q2, s2, d2, f2⟩)) ∧ Grows w w' := by
  go_enter Try.func26, Try.ntmps26
  go_wp2
  all_goals (go_ret; refine ⟨ret_bool ?_, ((Below.refl _ _).alloc (Nat.le_refl _) _).alloc (by simp) _⟩; simp_all [kinG])
set_option maxHeartbeats 4000000 in
theorem of_any (k a q s d f : Int) (w : World) : Calls Try.prog 23 #[.agg #[.int .i64 k, .int .i64 a, .int .i64 q, .int .i64 s, .int .u64 d, .int .i64 f]] w fun e w' => e = .returned (.agg #[.int .i64 k, .int .i64 s, .int .u64 d]) ∧ Grows w w' := by
  go_enter Try.func23, Try.ntmps23
  go_wp2
  refine bodyPost_ret (v := .agg #[.int .i64 k, .int .i64 s, .int .u64 d]) (by simp [results, Try.results23, go_sem]) rfl ⟨rfl, ?_⟩
  exact ((Below.refl _ _).alloc (Nat.le_refl _) _).alloc (by simp) _
end Go.Proofs.Ytbmoiokpkcaccaa
