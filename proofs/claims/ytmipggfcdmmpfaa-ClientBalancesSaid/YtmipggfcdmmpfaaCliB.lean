/-
  The sanity check of layer 36's laws returns true.
-/
import Derived.Test.YtmipggfcdmmpfaaCliA
namespace Go.Proofs.Ytmipggfcdmmpfaa
open Go.RowKit
theorem blk_put5 {w : World} {G : Nat} {t : TypeId} {a0 a1 a2 a3 a4 b0 b1 b2 b3 b4 : Value} (k : Blk w G t #[a0, a1, a2, a3, a4]) :
    Blk (((((w.setCell ⟨G, 0, none⟩ b0).setCell ⟨G, 1, none⟩ b1).setCell ⟨G, 2, none⟩ b2).setCell ⟨G, 3, none⟩ b3).setCell ⟨G, 4, none⟩ b4) G t #[b0, b1, b2, b3, b4] :=
  ((((k.set_ 0 b0).set_ 1 b1).set_ 2 b2).set_ 3 b3).set_ 4 b4
theorem below_put5 {B : Nat} {a w : World} {G : Nat} {b0 b1 b2 b3 b4 : Value} (h : Below B a w) (hG : B ≤ G) :
    Below B a (((((w.setCell ⟨G, 0, none⟩ b0).setCell ⟨G, 1, none⟩ b1).setCell ⟨G, 2, none⟩ b2).setCell ⟨G, 3, none⟩ b3).setCell ⟨G, 4, none⟩ b4) :=
  ((((h.setCell hG b0).setCell hG b1).setCell hG b2).setCell hG b3).setCell hG b4
set_option maxRecDepth 100000 in
set_option maxHeartbeats 8000000 in
theorem sane_any (w : World) : Calls Try.prog 6 #[] w fun e w' => e = .returned (.bool true) ∧ Grows w w' := by
  go_enter Try.func6, Try.ntmps6
  go_wp2_with fail
  refine (new_yes 1 _ (by omega) (by omega)).mono ?_
  rintro e w1 ⟨rfl, h1⟩
  have hG := h1.size
  go_wp2_with fail
  refine (wrote_good 1 0 0 0 100 _ rfl (by omega) (by omega)).mono ?_
  rintro e w2 ⟨rfl, h2⟩
  have k2 := Blk.grows (Blk.new _ _ _) h2
  have B2 := below_grows (h1.alloc h1.size _) (Nat.le_refl _) h2
  clear h1 h2
  have x2 := k2.cell
  have f2 := k2.frozen
  go_wp2_with fail
  refine (tick_all 1 100 0 0 false 64 _ rfl (by omega) (by omega)).mono ?_
  rintro e w3 ⟨rfl, h3⟩
  have k3 := Blk.grows (blk_put5 k2) h3
  have B3 := below_grows (below_put5 B2 hG) (Nat.le_refl _) h3
  clear h3 k2 B2 x2 f2
  have x3 := k3.cell
  have f3 := k3.frozen
  go_wp2_with fail
  refine (tick_miss 1 100 64 0 false 64 _ rfl (by omega) (by omega) (by omega) (by omega)).mono ?_
  rintro e w4 ⟨rfl, h4⟩
  have k4 := Blk.grows (blk_put5 k3) h4
  have B4 := below_grows (below_put5 B3 hG) (Nat.le_refl _) h4
  clear h4 k3 B3 x3 f3
  have x4 := k4.cell
  have f4 := k4.frozen
  go_wp2_with fail
  refine (tick_miss 1 100 100 1 false 64 _ rfl (by omega) (by omega) (by omega) (by omega)).mono ?_
  rintro e w5 ⟨rfl, h5⟩
  have k5 := Blk.grows (blk_put5 k4) h5
  have B5 := below_grows (below_put5 B4 hG) (Nat.le_refl _) h5
  have z5 := k5.lt
  clear h5 k4 B4 x4 f4
  have x5 := k5.cell
  go_wp2_with fail
  refine (state_late 1 100 100 1 _ rfl (by omega) (by omega)).mono ?_
  rintro e w6 ⟨rfl, h6⟩
  have k6 := Blk.grows (Blk.new _ _ _) h6
  have B6 := below_grows (B5.alloc B5.size _) (Nat.le_refl _) h6
  clear h6 k5 B5 x5
  have x6 := k6.cell
  go_wp2_with fail
  refine (state_stalled 1 100 100 2 _ rfl (by omega)).mono ?_
  rintro e w7 ⟨rfl, h7⟩
  have B7 := below_grows B6 (Nat.le_refl _) h7
  go_wp2_with fail
  go_ret
  exact ⟨rfl, B7⟩
end Go.Proofs.Ytmipggfcdmmpfaa
