/-
  Layer 9: the sanity check. Plain contract.
-/
import Derived.Test.YtejdaodchaeglaaSpI
namespace Go.Proofs.Ytejdaodchaeglaa
open Go.RowKit
theorem sane_make : makeF [(5, 9), (1, 4), (20, 20)] = ([(1, 9), (20, 20)], 0) := by
  have hf : ([(5, 9), (1, 4), (20, 20)] : List Sp).all fineS = true := by decide
  have e : formS [(5, 9), (1, 4), (20, 20)] = [(1, 9), (20, 20)] := by
    rw [← form_eq (l := [(5, 9), (1, 4), (20, 20)]) (d := [(1, 4), (5, 9), (20, 20)]) (List.all_eq_true.1 hf) (by decide) (by simp)]
    decide
  unfold makeF
  rw [if_pos hf, e]
  rfl
theorem sane_ok : okS [(1, 9), (20, 20)] = true := by decide
theorem sane_spans : spansF [(1, 9), (20, 20)] = [(1, 9), (20, 20)] := if_pos sane_ok
theorem sane_near14 : nearF [(1, 9), (20, 20)] 14 = (9, true) := by unfold nearF; rw [sane_spans]; decide
theorem sane_near15 : nearF [(1, 9), (20, 20)] 15 = (20, true) := by unfold nearF; rw [sane_spans]; decide
theorem sane_has20 : hasF [(1, 9), (20, 20)] 20 = true := by unfold hasF; rw [sane_spans]; decide
theorem sane_has10 : hasF [(1, 9), (20, 20)] 10 = false := by unfold hasF; rw [sane_spans]; decide
set_option maxHeartbeats 8000000 in
theorem sane_any (w : World) : Calls Try.prog 9 #[] w fun e w' => e = .returned (.bool true) ∧ Grows w w' := by
  have k0 := Blk.new w 40 #[.int .i64 5, .int .i64 9, .int .i64 1, .int .i64 4, .int .i64 20, .int .i64 20]
  have hB := (Below.refl w.heap.size w).alloc (Nat.le_refl _) (Obj.cells #[.int .i64 5, .int .i64 9, .int .i64 1, .int .i64 4, .int .i64 20, .int .i64 20] 40)
  have hs : Sps (w.alloc (Obj.cells #[.int .i64 5, .int .i64 9, .int .i64 1, .int .i64 4, .int .i64 20, .int .i64 20] 40)) (some ⟨w.heap.size, 0, none⟩) [(5, 9), (1, 4), (20, 20)] := by
    refine ⟨rfl, fun _ => ⟨_, rfl, by simp, fun j u hu => ?_⟩⟩
    have ha : (⟨w.heap.size, 0, none⟩ : Addr).add j = ⟨w.heap.size, j, none⟩ := by
      unfold Addr.add
      split
      · simp_all
      · simp
    rw [ha, k0.cell]
    simpa [scells, lsS] using hu
  go_enter Try.func9, Try.ntmps9
  go_wp2_with fail
  refine (make_any _ _ [(5, 9), (1, 4), (20, 20)] _ hs (by simp)).mono ?_
  rw [sane_make]
  rintro e w2 ⟨⟨v, rfl, A, c, rfl, hc, h2⟩, hq⟩
  replace hB := below_grows hB (Nat.le_refl _) hq
  clear hq hs k0
  simp only [List.length_cons, List.length_nil, Nat.zero_add, Nat.reduceAdd] at *
  have k1 := Blk.new w2 24 #[.slice A 2 c]
  have hq := (Below.refl w2.heap.size w2).alloc (Nat.le_refl _) (Obj.cells #[.slice A 2 c] 24)
  replace hB := below_grows hB (Nat.le_refl _) hq
  replace h2 := h2.grows hq
  clear hq
  go_upto_region 2 with fail
  generalize World.alloc w2 _ = w3 at *
  generalize w2.heap.size = G1 at *
  have x1 := k1.cell 0
  go_wp2_with fail
  refine (near_any A c [(1, 9), (20, 20)] 14 _ h2 (by simp) (by omega)).mono ?_
  rw [sane_near14]
  rintro e w4 ⟨rfl, hq⟩
  replace hB := below_grows hB (Nat.le_refl _) hq
  replace k1 := k1.grows hq
  replace h2 := h2.grows hq
  clear x1 hq
  have x1 := k1.cell 0
  go_wp2_with fail
  refine (near_any A c [(1, 9), (20, 20)] 15 _ h2 (by simp) (by omega)).mono ?_
  rw [sane_near15]
  rintro e w4 ⟨rfl, hq⟩
  replace hB := below_grows hB (Nat.le_refl _) hq
  replace k1 := k1.grows hq
  replace h2 := h2.grows hq
  clear x1 hq
  have x1 := k1.cell 0
  obtain ⟨ad, x, rfl, had, hx, c0, c1⟩ := h2.elem (k := 0) (by simp)
  obtain rfl : (1, 9) = x := by simpa using hx
  simp only [Nat.zero_mul] at c0 c1
  have ha0 : ad.add 0 = ad := by simp [Addr.add]
  rw [ha0] at c0 c1
  clear hx ha0
  go_wp2_with fail
  refine (valid_any (some ad) c [(1, 9), (20, 20)] _ h2 (by simp)).mono ?_
  rw [sane_ok]
  rintro e w4 ⟨rfl, hq⟩
  replace hB := below_grows hB (Nat.le_refl _) hq
  replace k1 := k1.grows hq
  replace h2 := h2.grows hq
  clear x1 hq
  have x1 := k1.cell 0
  clear c0 c1
  go_wp2_with fail
  refine (has_any (some ad) c [(1, 9), (20, 20)] 20 _ h2 (by simp)).mono ?_
  rw [sane_has20]
  rintro e w4 ⟨rfl, hq⟩
  replace hB := below_grows hB (Nat.le_refl _) hq
  replace k1 := k1.grows hq
  replace h2 := h2.grows hq
  clear x1 hq
  have x1 := k1.cell 0
  go_wp2_with fail
  refine (has_any (some ad) c [(1, 9), (20, 20)] 10 _ h2 (by simp)).mono ?_
  rw [sane_has10]
  rintro e w4 ⟨rfl, hq⟩
  replace hB := below_grows hB (Nat.le_refl _) hq
  replace k1 := k1.grows hq
  replace h2 := h2.grows hq
  clear x1 hq
  have x1 := k1.cell 0
  go_wp2
  go_ret
  exact ⟨rfl, hB⟩
end Go.Proofs.Ytejdaodchaeglaa
