/-
  Layer 14: the maker of ratios.
-/
import Derived.Test.YtjdgfcjkpdmodaaPhM
namespace Go.Proofs.Ytjdgfcjkpdmodaa
open Go.RowKit

set_option maxHeartbeats 8000000 in
theorem base_any (B g : Nat) (l : List Int) (w : World) (hd : Dice w B g l) : Calls Try.prog 38 #[.pointer (some ⟨g, 0, none⟩)] w fun e w' => (∃ n d : Int, okR n d = true ∧ n ≤ 768000 ∧ d ≤ 768000 ∧ e = .returned (.agg #[.int .i64 n, .int .i64 d])) ∧ Dice w' B g l.tail.tail ∧ w.grownBy w' (some g) := by
  have hgl := hd.lt
  have hBg : B ≤ g := by obtain ⟨_, _, h⟩ := hd; exact h.lo
  have v1 := rollV_bd l (n := 10) (by omega)
  have v2 := rollV_bd l.tail (n := 10) (by omega)
  obtain ⟨r1, e1, e2, e3⟩ := rates_at v1.1 v1.2
  obtain ⟨r2, e4, e5, e6⟩ := rates_at v2.1 v2.2
  go_enter Try.func38, Try.ntmps38
  go_wp2
  have k2 := (Blk.new w 25 #[.int .i64 0, .int .i64 0]).alloc (Obj.cells #[.int .i64 48000, .int .i64 48000, .int .i64 44100, .int .i64 96000, .int .i64 8000, .int .i64 32000, .int .i64 192000, .int .i64 1000, .int .i64 768000, .int .i64 47999] 2)
  have k3 := blk_new_at (X := w.alloc (Obj.cells #[.int .i64 0, .int .i64 0] 25)) (n := w.heap.size + 1) (t := 2) (cs := #[.int .i64 48000, .int .i64 48000, .int .i64 44100, .int .i64 96000, .int .i64 8000, .int .i64 32000, .int .i64 192000, .int .i64 1000, .int .i64 768000, .int .i64 47999]) (by simp)
  have hd2 := hd.grows (((Below.refl w.heap.size w).alloc (Nat.le_refl _) (Obj.cells #[.int .i64 0, .int .i64 0] 25)).alloc (by simp) (Obj.cells #[.int .i64 48000, .int .i64 48000, .int .i64 44100, .int .i64 96000, .int .i64 8000, .int .i64 32000, .int .i64 192000, .int .i64 1000, .int .i64 768000, .int .i64 47999] 2))
  have hb := grown_alloc (grown_alloc (World.grownBy.refl w (some g)) (Obj.cells #[.int .i64 0, .int .i64 0] 25)) (Obj.cells #[.int .i64 48000, .int .i64 48000, .int .i64 44100, .int .i64 96000, .int .i64 8000, .int .i64 32000, .int .i64 192000, .int .i64 1000, .int .i64 768000, .int .i64 47999] 2)
  generalize World.alloc (World.alloc w _) _ = w3 at *
  refine wp_region_own (fun L w' => w.grownBy w' (some g) ∧ Blk w' w.heap.size 25 #[.int .i64 0, .int .i64 0] ∧ Blk w' (w.heap.size + 1) 2 #[.int .i64 48000, .int .i64 48000, .int .i64 44100, .int .i64 96000, .int .i64 8000, .int .i64 32000, .int .i64 192000, .int .i64 1000, .int .i64 768000, .int .i64 47999] ∧ (L 7 = true → L 2 = true) ∧ (L 15 = true → L 14 = true) ∧ Dice w' B g (if L 7 then l.tail.tail else if L 2 then l.tail else l)) (Only [g]) 14 15 4 (fun L v w' => ∃ b, v = .pointer (some ⟨b, 0, none⟩) ∧ w.heap.size + 1 < b ∧ Blk w' b 25 (if L 15 then #[.int .i64 (r1 / gF r1 r2), .int .i64 (r2 / gF r1 r2)] else #[.int .i64 0, .int .i64 0])) 17 22 (by kernel_rfl) (by kernel_rfl) rfl ?_ ?_ ?_
  · rintro L i v w1 w2 hi1 hi2 _ _ ⟨b, rfl, hb, kb⟩ hr
    refine ⟨b, rfl, hb, ?_⟩
    have hu : upd L i 15 = L 15 := by unfold upd; rw [if_neg (Ne.symm hi2)]
    rw [hu]
    exact kb.only hr (by simp; omega)
  · exact ⟨d_only_grows hb (Grows.drew' _), k2.drew, k3.drew, fun h => h, (fun h => absurd h (by simp)), hd2.grows (Grows.drew' _)⟩
  simp only [List.take_succ_cons, List.take_zero, List.drop_succ_cons, List.drop_zero]
  clear k2 k3 hd2 hb
  iterate 2
    refine ow_plain (by decide) (by decide) rfl (v := ?_) (a' := ?_) (fun L w1 hL hw1 => ?_) ?_ ?_
    rotate_left 2
    · obtain ⟨q0, q2, q3, q4, q5, q6⟩ := id hw1
      go_simp
      first | (refine step_val ?_; exact ⟨hw1, Only.refl _ _⟩) | (refine fr_grow ?_ (fun w2 hg => ?_); (refine rmake_good _ _ _ ?_ ?_ ?_ ?_ <;> assumption); exact ⟨⟨d_only_grows q0 hg, q2.grows hg, q3.grows hg, q4, q5, q6.grows hg⟩, Only.grows hg⟩)
    · simp only [Act.put, List.setIfInBounds_toArray, List.set_cons_succ, List.set_cons_zero]
      rfl
  refine ow_plain (by decide) (by decide) rfl (v := ?_) (a' := ?_) (fun L w1 hL hw1 => ?_) ?_ ?_
  rotate_left 2
  · obtain ⟨q0, q2, q3, q4, q5, q6⟩ := id hw1
    have l2 : L 2 = false := hL.1
    have l7 : L 7 = false := by
      cases h : L 7
      · rfl
      · rw [q4 h] at l2; cases l2
    simp only [l7, l2, Bool.false_eq_true, if_false] at q6
    go_simp
    refine step_call ?_
    refine (roll_any B g l 10 _ q6 (by omega) (by omega)).mono ?_
    rintro e w2 ⟨rfl, jd2, hq, hs⟩
    refine ⟨?_, ?_⟩
    · exact rfl
    · refine ⟨⟨grown_trans' q0 hq, q2.grown hq (fun hh => by injection hh with hh; omega), q3.grown hq (fun hh => by injection hh with hh; omega), fun _ => rfl, q5, ?_⟩, Only.grown hq (by simp)⟩
      show Dice w2 B g (if L 7 = true then l.tail.tail else if true = true then l.tail else l)
      simpa [l7] using jd2
  · simp only [Act.put, List.setIfInBounds_toArray, List.set_cons_succ, List.set_cons_zero]
    rfl
  iterate 1
    refine ow_plain (by decide) (by decide) rfl (v := ?_) (a' := ?_) (fun L w1 hL hw1 => ?_) ?_ ?_
    rotate_left 2
    · obtain ⟨q0, q2, q3, q4, q5, q6⟩ := id hw1
      go_simp
      first | (refine step_val ?_; exact ⟨hw1, Only.refl _ _⟩) | (refine fr_grow ?_ (fun w2 hg => ?_); (refine rmake_good _ _ _ ?_ ?_ ?_ ?_ <;> assumption); exact ⟨⟨d_only_grows q0 hg, q2.grows hg, q3.grows hg, q4, q5, q6.grows hg⟩, Only.grows hg⟩)
    · simp only [Act.put, List.setIfInBounds_toArray, List.set_cons_succ, List.set_cons_zero]
      rfl
  iterate 1
    refine ow_plain (by decide) (by decide) rfl (v := ?_) (a' := ?_) (fun L w1 hL hw1 => ?_) ?_ ?_
    rotate_left 2
    · obtain ⟨q0, q2, q3, q4, q5, q6⟩ := id hw1
      have c4 := (q3.cell (rollV l 10).toNat).trans e1
      go_simp
      first | (refine step_val ?_; exact ⟨hw1, Only.refl _ _⟩) | (refine fr_grow ?_ (fun w2 hg => ?_); (refine rmake_good _ _ _ ?_ ?_ ?_ ?_ <;> assumption); exact ⟨⟨d_only_grows q0 hg, q2.grows hg, q3.grows hg, q4, q5, q6.grows hg⟩, Only.grows hg⟩)
    · simp only [Act.put, List.setIfInBounds_toArray, List.set_cons_succ, List.set_cons_zero]
      rfl
  iterate 2
    refine ow_plain (by decide) (by decide) rfl (v := ?_) (a' := ?_) (fun L w1 hL hw1 => ?_) ?_ ?_
    rotate_left 2
    · obtain ⟨q0, q2, q3, q4, q5, q6⟩ := id hw1
      go_simp
      first | (refine step_val ?_; exact ⟨hw1, Only.refl _ _⟩) | (refine fr_grow ?_ (fun w2 hg => ?_); (refine rmake_good _ _ _ ?_ ?_ ?_ ?_ <;> assumption); exact ⟨⟨d_only_grows q0 hg, q2.grows hg, q3.grows hg, q4, q5, q6.grows hg⟩, Only.grows hg⟩)
    · simp only [Act.put, List.setIfInBounds_toArray, List.set_cons_succ, List.set_cons_zero]
      rfl
  refine ow_plain (by decide) (by decide) rfl (v := ?_) (a' := ?_) (fun L w1 hL hw1 => ?_) ?_ ?_
  rotate_left 2
  · obtain ⟨q0, q2, q3, q4, q5, q6⟩ := id hw1
    have l7 : L 7 = false := hL.1
    have l2 : L 2 = true := hL.need 2 (by kernel_rfl)
    simp only [l7, l2, Bool.false_eq_true, if_false, if_true] at q6
    go_simp
    refine step_call ?_
    refine (roll_any B g l.tail 10 _ q6 (by omega) (by omega)).mono ?_
    rintro e w2 ⟨rfl, jd2, hq, hs⟩
    refine ⟨?_, ?_⟩
    · exact rfl
    · refine ⟨⟨grown_trans' q0 hq, q2.grown hq (fun hh => by injection hh with hh; omega), q3.grown hq (fun hh => by injection hh with hh; omega), fun _ => l2, q5, ?_⟩, Only.grown hq (by simp)⟩
      show Dice w2 B g (if true = true then l.tail.tail else _)
      simpa using jd2
  · simp only [Act.put, List.setIfInBounds_toArray, List.set_cons_succ, List.set_cons_zero]
    rfl
  iterate 1
    refine ow_plain (by decide) (by decide) rfl (v := ?_) (a' := ?_) (fun L w1 hL hw1 => ?_) ?_ ?_
    rotate_left 2
    · obtain ⟨q0, q2, q3, q4, q5, q6⟩ := id hw1
      go_simp
      first | (refine step_val ?_; exact ⟨hw1, Only.refl _ _⟩) | (refine fr_grow ?_ (fun w2 hg => ?_); (refine rmake_good _ _ _ ?_ ?_ ?_ ?_ <;> assumption); exact ⟨⟨d_only_grows q0 hg, q2.grows hg, q3.grows hg, q4, q5, q6.grows hg⟩, Only.grows hg⟩)
    · simp only [Act.put, List.setIfInBounds_toArray, List.set_cons_succ, List.set_cons_zero]
      rfl
  iterate 1
    refine ow_plain (by decide) (by decide) rfl (v := ?_) (a' := ?_) (fun L w1 hL hw1 => ?_) ?_ ?_
    rotate_left 2
    · obtain ⟨q0, q2, q3, q4, q5, q6⟩ := id hw1
      have c4 := (q3.cell (rollV l.tail 10).toNat).trans e4
      go_simp
      first | (refine step_val ?_; exact ⟨hw1, Only.refl _ _⟩) | (refine fr_grow ?_ (fun w2 hg => ?_); (refine rmake_good _ _ _ ?_ ?_ ?_ ?_ <;> assumption); exact ⟨⟨d_only_grows q0 hg, q2.grows hg, q3.grows hg, q4, q5, q6.grows hg⟩, Only.grows hg⟩)
    · simp only [Act.put, List.setIfInBounds_toArray, List.set_cons_succ, List.set_cons_zero]
      rfl
  iterate 4
    refine ow_plain (by decide) (by decide) rfl (v := ?_) (a' := ?_) (fun L w1 hL hw1 => ?_) ?_ ?_
    rotate_left 2
    · obtain ⟨q0, q2, q3, q4, q5, q6⟩ := id hw1
      go_simp
      first | (refine step_val ?_; exact ⟨hw1, Only.refl _ _⟩) | (refine fr_grow ?_ (fun w2 hg => ?_); (refine rmake_good _ _ _ ?_ ?_ ?_ ?_ <;> assumption); exact ⟨⟨d_only_grows q0 hg, q2.grows hg, q3.grows hg, q4, q5, q6.grows hg⟩, Only.grows hg⟩)
    · simp only [Act.put, List.setIfInBounds_toArray, List.set_cons_succ, List.set_cons_zero]
      rfl
  refine ow_float rfl rfl (fun L w1 hL hw1 => ?_) ?_
  · obtain ⟨q0, q2, q3, q4, q5, q6⟩ := id hw1
    have l14 : L 14 = false := hL.1
    have l15 : L 15 = false := by
      cases h : L 15
      · rfl
      · rw [q5 h] at l14; cases l14
    have hlt := q3.lt
    go_simp
    refine fr_some ⟨w1.heap.size, rfl, hlt, ?_⟩ ⟨⟨grown_alloc q0 _, q2.alloc _, q3.alloc _, q4, fun _ => rfl, q6.grows ((Below.refl _ _).alloc (Nat.le_refl _) _)⟩, Only.alloc (Only.refl _ _) _⟩
    show Blk _ _ 25 (if L 15 = true then #[.int .i64 (r1 / gF r1 r2), .int .i64 (r2 / gF r1 r2)] else #[.int .i64 0, .int .i64 0])
    rw [l15]
    exact Blk.new _ _ _
  refine ow_sink (by decide) rfl rfl rfl (fun v L w1 hL hw1 hd => ?_) ?_
  · obtain ⟨q0, q2, q3, q4, q5, q6⟩ := id hw1
    obtain ⟨b, rfl, hb, kb⟩ := hd
    have l15 : L 15 = false := hL.1
    have l14 : L 14 = true := hL.need 14 (by kernel_rfl)
    simp only [l15, Bool.false_eq_true, if_false] at kb
    have cb := kb.cell
    have fb := kb.frozen
    simp only [Act.put, List.setIfInBounds_toArray, List.set_cons_succ, List.set_cons_zero]
    go_simp
    refine step_skip ⟨⟨?_, ?_, ?_, q4, fun _ => l14, ?_⟩, ?_⟩
    · exact grown_set (grown_set q0 (by simp; omega) _) (by simp; omega) _
    · exact (q2.far (by simp; omega) _).far (by simp; omega) _
    · exact (q3.far (by simp; omega) _).far (by simp; omega) _
    · exact (q6.put (by simp; omega) (by simp; omega) _).put (by simp; omega) (by simp; omega) _
    · trace_state
      show Blk _ b 25 (if true = true then #[.int .i64 (r1 / gF r1 r2), .int .i64 (r2 / gF r1 r2)] else #[.int .i64 0, .int .i64 0])
      have := (kb.set_ 0 (.int .i64 (r1 / gF r1 r2))).set_ 1 (.int .i64 (r2 / gF r1 r2))
      simpa using this
  iterate 1
    refine ow_plain (by decide) (by decide) rfl (v := ?_) (a' := ?_) (fun L w1 hL hw1 => ?_) ?_ ?_
    rotate_left 2
    · obtain ⟨q0, q2, q3, q4, q5, q6⟩ := id hw1
      go_simp
      first | (refine step_val ?_; exact ⟨hw1, Only.refl _ _⟩) | (refine fr_grow ?_ (fun w2 hg => ?_); (refine rmake_good _ _ _ ?_ ?_ ?_ ?_ <;> assumption); exact ⟨⟨d_only_grows q0 hg, q2.grows hg, q3.grows hg, q4, q5, q6.grows hg⟩, Only.grows hg⟩)
    · simp only [Act.put, List.setIfInBounds_toArray, List.set_cons_succ, List.set_cons_zero]
      rfl
  refine ow_done ?_
  rintro v L w7 hall ⟨hb, k2, -, -, -, jd⟩ ⟨b, rfl, hbb, kb⟩
  rw [hall 7 (by omega), if_pos rfl] at jd
  rw [hall 15 (by omega), if_pos rfl] at kb
  simp only [Act.put, List.setIfInBounds_toArray]
  obtain ⟨o1, o2, o3, -, -⟩ := okR_div e2 e5 e3 e6
  have xb := kb.cell
  have x2 := k2.cell
  have f2 := k2.frozen
  generalize r1 / gF r1 r2 = n at *
  generalize r2 / gF r1 r2 = d at *
  go_wp2
  have kk := (k2.set_ 0 (.int .i64 n)).set_ 1 (.int .i64 d)
  have jd2 := (jd.put (p := ⟨w.heap.size, 0, none⟩) (by simp; omega) (by simp; omega) (.int .i64 n)).put (p := ⟨w.heap.size, 1, none⟩) (by simp; omega) (by simp; omega) (.int .i64 d)
  have hb2 := grown_set (grown_set hb (p := ⟨w.heap.size, 0, none⟩) (by simp) (.int .i64 n)) (p := ⟨w.heap.size, 1, none⟩) (by simp) (.int .i64 d)
  generalize World.setCell (World.setCell w7 _ _) _ _ = w8 at *
  have x8 := kk.cell
  refine bodyPost_ret (v := .agg #[.int .i64 n, .int .i64 d]) (by simp [results, Try.results38, go_sem, x8]) rfl ⟨⟨_, _, o1, o2, o3, rfl⟩, jd2, hb2⟩

end Go.Proofs.Ytjdgfcjkpdmodaa
