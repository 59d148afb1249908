/-
  Layer 14: the maker of phases gives a valid phase near the start.
-/
import Derived.Test.YtjdgfcjkpdmodaaPhN
namespace Go.Proofs.Ytjdgfcjkpdmodaa
open Go.RowKit

def AnyR (_ _ : World) : Prop := True
theorem AnyR.intro (a b : World) : AnyR a b := True.intro
theorem tune_ok {n d x7 : Int} (h : okP n d 0 0 0 = true) (h1 : -4096 ≤ x7) (h2 : x7 ≤ 4096) : tuneF n d 0 0 0 x7 = ⟨n, d, x7, 0, 0, 0⟩ ∧ okP n d x7 0 0 = true := by
  have ha : okA x7 = true := by simp [okA, h1, h2]
  unfold tuneF
  rw [if_neg (by simp [h]), if_neg (by simp [ha])]
  refine ⟨rfl, ?_⟩
  simp only [okP, Bool.and_eq_true] at h ⊢
  exact ⟨⟨⟨⟨⟨h.1.1.1.1.1, ha⟩, h.1.1.1.2⟩, h.1.1.2⟩, h.1.2⟩, h.2⟩
theorem okP_mk {n d a p f : Int} (h : okR n d = true) (h1 : n ≤ 768000) (h2 : d ≤ 768000) (h3 : -4096 ≤ a ∧ a ≤ 4096) (h4 : 0 ≤ p ∧ p ≤ 1125899906842624) (h5 : 0 ≤ f ∧ f < d * 65536) : okP n d a p f = true := by
  simp only [okP, okA, Bool.and_eq_true, decide_eq_true_eq]
  exact ⟨⟨⟨⟨⟨⟨⟨h, h1⟩, h2⟩, h3⟩, h4.1⟩, h4.2⟩, h5.1⟩, h5.2⟩
theorem okP_r {n d a p f : Int} (h : okP n d a p f = true) : okR n d = true := by
  simp only [okP, Bool.and_eq_true] at h
  exact h.1.1.1.1.1.1.1
theorem adv_ok {n d x7 k : Int} (h : okP n d x7 0 0 = true) (h1 : 0 ≤ k) (h2 : k < 60) : ∃ ap af : Int, advF n d x7 0 0 k = ⟨n, d, x7, ap, af, 0⟩ ∧ okP n d x7 ap af = true ∧ ap ≤ 50000000 := by
  obtain ⟨b1, b2, b3, b4, b5, b6, b7, b8, b9, b10⟩ := okP_bd h
  obtain ⟨c1, c2, c3, c4, c5, c6, -, -, -⟩ := ahead_bd h h1 (by omega)
  have he : errF n d x7 0 0 k = 0 := by unfold errF; rw [if_neg (by simp [h]), if_neg (by omega)]
  have ha : atF n d x7 0 0 k = ⟨0 + aheadF n x7 0 k / (d * 65536), aheadF n x7 0 k % (d * 65536), 0⟩ := by unfold atF; rw [if_pos he]
  obtain ⟨d1, d2⟩ := mul_bd h1 (by omega : k ≤ 59) (by omega : 0 ≤ n) b2
  obtain ⟨d3, d4⟩ := mul_bd d1 d2 (by omega : 0 ≤ 65536 + x7) (by omega : 65536 + x7 ≤ 69632)
  have hx : aheadF n x7 0 k < 50000000 * (d * 65536) := by unfold aheadF; omega
  have hp := Int.ediv_lt_of_lt_mul (show 0 < d * 65536 by omega) hx
  have hp0 := Int.ediv_nonneg c5 (show 0 ≤ d * 65536 by omega)
  have t8 := Int.emod_nonneg (aheadF n x7 0 k) (show d * 65536 ≠ 0 by omega)
  have t9 := Int.emod_lt_of_pos (aheadF n x7 0 k) (show 0 < d * 65536 by omega)
  have hv : advE n d x7 0 0 k = 0 := by unfold advE; rw [ha, if_neg (by simp only; omega), he]
  refine ⟨0 + aheadF n x7 0 k / (d * 65536), aheadF n x7 0 k % (d * 65536), ?_, ?_, by omega⟩
  · unfold advF; rw [if_pos hv, ha]
  · exact okP_mk (okP_r h) b2 b4 ⟨b5, b6⟩ ⟨by omega, by omega⟩ ⟨t8, t9⟩
set_option maxHeartbeats 16000000 in
theorem phase_any (B g : Nat) (l : List Int) (w : World) (hd : Dice w B g l) : Calls Try.prog 25 #[.pointer (some ⟨g, 0, none⟩)] w fun e w' => (∃ n d a p f : Int, okP n d a p f = true ∧ p ≤ 50000000 ∧ e = .returned (.agg #[.int .i64 n, .int .i64 d, .int .i64 a, .int .i64 p, .int .i64 f])) ∧ w.grownBy w' (some g) := by
  have hgl := hd.lt
  have hBg : B ≤ g := by obtain ⟨_, _, h⟩ := hd; exact h.lo
  go_enter Try.func25, Try.ntmps25
  go_wp2_with fail
  refine (base_any B g l _ (hd.grows ((Below.refl _ _).alloc (Nat.le_refl _) _))).mono ?_
  rintro e w1 ⟨⟨n, d, ho, hn, hdd, rfl⟩, jd, hq⟩
  have k2 := (Blk.new w 27 #[.int .i64 0, .int .i64 0, .int .i64 0, .int .i64 0, .int .i64 0]).grown hq (fun hh => by injection hh with hh; omega)
  have hb := grown_trans' (grown_alloc (World.grownBy.refl w (some g)) (Obj.cells #[.int .i64 0, .int .i64 0, .int .i64 0, .int .i64 0, .int .i64 0] 27)) hq
  generalize l.tail.tail = l2 at *
  clear hq hd
  obtain ⟨r1, r2, -, -, -⟩ := okR_bd ho
  have hok : okP n d 0 0 0 = true := okP_mk ho hn hdd (by omega) (by omega) (by omega)
  have en : newF n d = ⟨n, d, 0, 0, 0, 0⟩ := by unfold newF; rw [if_pos hok]
  go_wp2_with fail
  refine (rnew_any n d _).mono ?_
  rintro e w2 ⟨rfl, hq⟩
  simp only [en]
  replace k2 := k2.grows hq
  replace jd := jd.grows hq
  replace hb := d_only_grows hb hq
  clear hq
  have v7 := rollV_bd l2 (n := 7) (by omega)
  obtain ⟨x7, e7, e8, e9⟩ := seven_at v7.1 v7.2
  obtain ⟨et, hok7⟩ := tune_ok hok e8 e9
  go_wp2
  have k3 := Blk.new w2 27 #[.int .i64 n, .int .i64 d, .int .i64 0, .int .i64 0, .int .i64 0]
  have z2 := k2.lt
  have zg := jd.lt
  replace k2 := k2.alloc (Obj.cells #[.int .i64 n, .int .i64 d, .int .i64 0, .int .i64 0, .int .i64 0] 27)
  replace jd := jd.grows ((Below.refl _ _).alloc (Nat.le_refl _) (Obj.cells #[.int .i64 n, .int .i64 d, .int .i64 0, .int .i64 0, .int .i64 0] 27))
  replace hb := grown_alloc hb (Obj.cells #[.int .i64 n, .int .i64 d, .int .i64 0, .int .i64 0, .int .i64 0] 27)
  have hH : (w2.alloc (Obj.cells #[.int .i64 n, .int .i64 d, .int .i64 0, .int .i64 0, .int .i64 0] 27)).heap.size = w2.heap.size + 1 := by simp
  generalize hG : w2.heap.size = G3 at *
  clear hG
  generalize World.alloc w2 _ = w3 at *
  generalize hHH : G3 + 1 = H at *
  refine wp_region_free (fun L w' => w.grownBy w' (some g) ∧ Blk w' w.heap.size 27 #[.int .i64 0, .int .i64 0, .int .i64 0, .int .i64 0, .int .i64 0] ∧ Blk w' G3 27 (if L 10 then #[.int .i64 n, .int .i64 d, .int .i64 x7, .int .i64 0, .int .i64 0] else #[.int .i64 n, .int .i64 d, .int .i64 0, .int .i64 0, .int .i64 0]) ∧ (L 10 = true → L 0 = true) ∧ Dice w' B g (if L 3 then l2.tail else l2) ∧ (if L 1 then Blk w' H 3 #[.int .i64 0, .int .i64 0, .int .i64 1, .int .i64 (-1), .int .i64 4096, .int .i64 (-4096), .int .i64 100] else w'.heap.size = H)) AnyR [] 11 34 (by kernel_rfl) (by kernel_rfl) rfl (by intro k' D' h'; cases h') ?_ ?_
  · exact ⟨d_only_grows hb (Grows.drew' _), k2.drew, k3.drew, (fun h => absurd h (by simp)), jd.grows (Grows.drew' _), hH⟩
  simp only [List.take_succ_cons, List.take_zero, List.drop_succ_cons, List.drop_zero]
  clear k2 k3 jd hb hH
  refine fr_plain rfl rfl (v := ?_) (a' := ?_) (fun L w1 hL hw1 => ?_) ?_ ?_
  rotate_left 2
  · obtain ⟨q0, q2, q3, q4, q5, q6⟩ := id hw1
    have l10 : L 10 = false := by
      cases h : L 10
      · rfl
      · have h0 : L 0 = false := hL.1
        rw [q4 h] at h0; cases h0
    have c3 := q3.cell
    simp only [l10, Bool.false_eq_true, if_false] at c3
    go_simp
    refine step_val ?_
    exact ⟨⟨q0, q2, q3, fun _ => rfl, q5, q6⟩, AnyR.intro _ _⟩
  · simp only [Act.put, List.setIfInBounds_toArray, List.set_cons_succ, List.set_cons_zero]
    rfl
  refine fr_plain rfl rfl (v := ?_) (a' := ?_) (fun L w1 hL hw1 => ?_) ?_ ?_
  rotate_left 2
  · obtain ⟨q0, q2, q3, q4, q5, q6⟩ := id hw1
    have l1 : L 1 = false := hL.1
    simp only [l1, Bool.false_eq_true, if_false] at q6
    go_simp
    first | rw [q6] | skip
    refine step_val ?_
    refine ⟨⟨grown_alloc q0 _, q2.alloc _, q3.alloc _, q4, q5.grows ((Below.refl _ _).alloc (Nat.le_refl _) _), ?_⟩, AnyR.intro _ _⟩
    show (if true = true then Blk _ H 3 #[.int .i64 0, .int .i64 0, .int .i64 1, .int .i64 (-1), .int .i64 4096, .int .i64 (-4096), .int .i64 100] else _)
    rw [if_pos rfl]
    exact blk_new_at q6
  · simp only [Act.put, List.setIfInBounds_toArray, List.set_cons_succ, List.set_cons_zero]
    rfl
  refine fr_plain rfl rfl (v := ?_) (a' := ?_) (fun L w1 hL hw1 => ?_) ?_ ?_
  rotate_left 2
  · skip
    go_simp
    refine step_val ?_
    exact ⟨hw1, AnyR.intro _ _⟩
  · simp only [Act.put, List.setIfInBounds_toArray, List.set_cons_succ, List.set_cons_zero]
    rfl
  refine fr_plain rfl rfl (v := ?_) (a' := ?_) (fun L w1 hL hw1 => ?_) ?_ ?_
  rotate_left 2
  · obtain ⟨q0, q2, q3, q4, q5, q6⟩ := id hw1
    have l3 : L 3 = false := hL.1
    simp only [l3, Bool.false_eq_true, if_false] at q5
    go_simp
    refine step_call ?_
    refine (roll_any B g l2 7 _ q5 (by omega) (by omega)).mono ?_
    rintro e w2 ⟨rfl, jd2, hq, hs⟩
    refine ⟨?_, ?_⟩
    · exact rfl
    · refine ⟨⟨grown_trans' q0 hq, q2.grown hq (fun hh => by injection hh with hh; omega), q3.grown hq (fun hh => by injection hh with hh; omega), q4, ?_, ?_⟩, AnyR.intro _ _⟩
      · show Dice w2 B g (if true = true then l2.tail else l2)
        rw [if_pos rfl]; exact jd2
      · show (if L 1 = true then Blk w2 H 3 #[.int .i64 0, .int .i64 0, .int .i64 1, .int .i64 (-1), .int .i64 4096, .int .i64 (-4096), .int .i64 100] else w2.heap.size = H)
        cases h1 : L 1
        · simp only [h1, Bool.false_eq_true, if_false] at q6 ⊢
          rw [hs, q6]
        · simp only [h1, if_true] at q6 ⊢
          exact q6.grown hq (fun hh => by injection hh with hh; omega)
  · simp only [Act.put, List.setIfInBounds_toArray, List.set_cons_succ, List.set_cons_zero]
    rfl
  refine fr_plain rfl rfl (v := ?_) (a' := ?_) (fun L w1 hL hw1 => ?_) ?_ ?_
  rotate_left 2
  · skip
    go_simp
    refine step_val ?_
    exact ⟨hw1, AnyR.intro _ _⟩
  · simp only [Act.put, List.setIfInBounds_toArray, List.set_cons_succ, List.set_cons_zero]
    rfl
  refine fr_plain rfl rfl (v := ?_) (a' := ?_) (fun L w1 hL hw1 => ?_) ?_ ?_
  rotate_left 2
  · obtain ⟨q0, q2, q3, q4, q5, q6⟩ := id hw1
    have l1 : L 1 = true := hL.need 1 (by kernel_rfl)
    simp only [l1, if_true] at q6
    have c7 := (q6.cell (rollV l2 7).toNat).trans e7
    go_simp
    refine step_val ?_
    exact ⟨hw1, AnyR.intro _ _⟩
  · simp only [Act.put, List.setIfInBounds_toArray, List.set_cons_succ, List.set_cons_zero]
    rfl
  refine fr_plain rfl rfl (v := ?_) (a' := ?_) (fun L w1 hL hw1 => ?_) ?_ ?_
  rotate_left 2
  · obtain ⟨q0, q2, q3, q4, q5, q6⟩ := id hw1
    have l1 : L 1 = true := hL.need 1 (by kernel_rfl)
    rw [if_pos l1] at q6
    go_simp
    refine fr_grow ?_ (fun w2 hg => ?_)
    · have hrt := rtune_any n d 0 0 0 x7 w1
      rw [et] at hrt
      exact hrt
    · refine ⟨⟨d_only_grows q0 hg, q2.grows hg, q3.grows hg, q4, q5.grows hg, ?_⟩, AnyR.intro _ _⟩
      show (if L 1 = true then Blk w2 H 3 #[.int .i64 0, .int .i64 0, .int .i64 1, .int .i64 (-1), .int .i64 4096, .int .i64 (-4096), .int .i64 100] else w2.heap.size = H)
      rw [if_pos l1]
      exact q6.grows hg
  · simp only [Act.put, List.setIfInBounds_toArray, List.set_cons_succ, List.set_cons_zero]
    rfl
  refine fr_plain rfl rfl (v := ?_) (a' := ?_) (fun L w1 hL hw1 => ?_) ?_ ?_
  rotate_left 2
  · skip
    go_simp
    refine step_val ?_
    exact ⟨hw1, AnyR.intro _ _⟩
  · simp only [Act.put, List.setIfInBounds_toArray, List.set_cons_succ, List.set_cons_zero]
    rfl
  refine fr_plain rfl rfl (v := ?_) (a' := ?_) (fun L w1 hL hw1 => ?_) ?_ ?_
  rotate_left 2
  · skip
    go_simp
    refine step_val ?_
    exact ⟨hw1, AnyR.intro _ _⟩
  · simp only [Act.put, List.setIfInBounds_toArray, List.set_cons_succ, List.set_cons_zero]
    rfl
  refine fr_plain rfl rfl (v := ?_) (a' := ?_) (fun L w1 hL hw1 => ?_) ?_ ?_
  rotate_left 2
  · skip
    go_simp
    refine step_val ?_
    exact ⟨hw1, AnyR.intro _ _⟩
  · simp only [Act.put, List.setIfInBounds_toArray, List.set_cons_succ, List.set_cons_zero]
    rfl
  refine fr_plain rfl rfl (v := undef) (a' := ?_) (fun L w1 hL hw1 => ?_) ?_ ?_
  rotate_left 1
  · obtain ⟨q0, q2, q3, q4, q5, q6⟩ := id hw1
    have l10 : L 10 = false := hL.1
    have l1 : L 1 = true := hL.need 1 (by kernel_rfl)
    have l0 : L 0 = true := hL.need 0 (by kernel_rfl)
    rw [if_pos l1] at q6
    simp only [l10, Bool.false_eq_true, if_false] at q3
    have c3 := q3.cell
    have f3 := q3.frozen
    go_simp
    refine step_skip ⟨⟨?_, ?_, ?_, fun _ => l0, ?_, ?_⟩, AnyR.intro _ _⟩
    · exact grown_set (grown_set (grown_set (grown_set (grown_set q0 (by simp; omega) _) (by simp; omega) _) (by simp; omega) _) (by simp; omega) _) (by simp; omega) _
    · exact (((((q2.far (by simp; omega) _).far (by simp; omega) _).far (by simp; omega) _).far (by simp; omega) _).far (by simp; omega) _)
    · show Blk _ G3 27 (if true = true then #[.int .i64 n, .int .i64 d, .int .i64 x7, .int .i64 0, .int .i64 0] else #[.int .i64 n, .int .i64 d, .int .i64 0, .int .i64 0, .int .i64 0])
      rw [if_pos rfl]
      exact ((((q3.set_ 0 _).set_ 1 _).set_ 2 _).set_ 3 _).set_ 4 _
    · exact (((((q5.put (by simp; omega) (by simp; omega) _).put (by simp; omega) (by simp; omega) _).put (by simp; omega) (by simp; omega) _).put (by simp; omega) (by simp; omega) _).put (by simp; omega) (by simp; omega) _)
    · show (if L 1 = true then Blk _ H 3 #[.int .i64 0, .int .i64 0, .int .i64 1, .int .i64 (-1), .int .i64 4096, .int .i64 (-4096), .int .i64 100] else _)
      rw [if_pos l1]
      exact (((((q6.far (by simp; omega) _).far (by simp; omega) _).far (by simp; omega) _).far (by simp; omega) _).far (by simp; omega) _)
  · rfl
  refine fr_done (end_none ?_)
  rintro w4 ⟨L, hall, hb, k2, k3, -, jd, -⟩
  rw [hall 10 (by omega), if_pos rfl] at k3
  rw [hall 3 (by omega), if_pos rfl] at jd
  generalize l2.tail = l3 at *
  have v60 := rollV_bd l3 (n := 60) (by omega)
  obtain ⟨ap, af, ea, hfin, hap⟩ := adv_ok hok7 v60.1 v60.2
  have zg := jd.lt
  have z3 := k3.lt
  clear et e7
  go_wp2
  refine wp_region_own (fun L w' => w.grownBy w' (some g) ∧ Blk w' w.heap.size 27 #[.int .i64 0, .int .i64 0, .int .i64 0, .int .i64 0, .int .i64 0] ∧ Blk w' G3 27 #[.int .i64 n, .int .i64 d, .int .i64 x7, .int .i64 0, .int .i64 0] ∧ (L 8 = true → L 7 = true) ∧ Dice w' B g (if L 2 then l3.tail else l3)) (Only [g]) 7 8 5 (fun L v w' => ∃ b, v = .pointer (some ⟨b, 0, none⟩) ∧ G3 < b ∧ Blk w' b 27 (if L 8 then #[.int .i64 n, .int .i64 d, .int .i64 x7, .int .i64 ap, .int .i64 af] else #[.int .i64 0, .int .i64 0, .int .i64 0, .int .i64 0, .int .i64 0])) 10 34 (by kernel_rfl) (by kernel_rfl) rfl ?_ ?_ ?_
  · rintro L i v w1 w2 hi1 hi2 _ _ ⟨b, rfl, hb, kb⟩ hr
    refine ⟨b, rfl, hb, ?_⟩
    have hu : upd L i 8 = L 8 := by unfold upd; rw [if_neg (Ne.symm hi2)]
    rw [hu]
    exact kb.only hr (by simp; omega)
  · exact ⟨d_only_grows hb (Grows.drew' _), k2.drew, k3.drew, (fun h => absurd h (by simp)), jd.grows (Grows.drew' _)⟩
  simp only [List.take_succ_cons, List.take_zero, List.drop_succ_cons, List.drop_zero]
  clear k2 k3 jd hb
  iterate 1
    refine ow_plain (by decide) (by decide) rfl (v := ?_) (a' := ?_) (fun L w1 hL hw1 => ?_) ?_ ?_
    rotate_left 2
    · obtain ⟨q0, q2, q3, q4, q5⟩ := id hw1
      have c3 := q3.cell
      go_simp
      first | (refine step_val ?_; exact ⟨hw1, Only.refl _ _⟩)
    · simp only [Act.put, List.setIfInBounds_toArray, List.set_cons_succ, List.set_cons_zero]
      rfl
  iterate 1
    refine ow_plain (by decide) (by decide) rfl (v := ?_) (a' := ?_) (fun L w1 hL hw1 => ?_) ?_ ?_
    rotate_left 2
    · skip
      go_simp
      first | (refine step_val ?_; exact ⟨hw1, Only.refl _ _⟩)
    · simp only [Act.put, List.setIfInBounds_toArray, List.set_cons_succ, List.set_cons_zero]
      rfl
  refine ow_plain (by decide) (by decide) rfl (v := ?_) (a' := ?_) (fun L w1 hL hw1 => ?_) ?_ ?_
  rotate_left 2
  · obtain ⟨q0, q2, q3, q4, q5⟩ := id hw1
    have l2f : L 2 = false := hL.1
    simp only [l2f, Bool.false_eq_true, if_false] at q5
    go_simp
    refine step_call ?_
    refine (roll_any B g l3 60 _ q5 (by omega) (by omega)).mono ?_
    rintro e w2 ⟨rfl, jd2, hq, hs⟩
    refine ⟨?_, ?_⟩
    · exact rfl
    · refine ⟨⟨grown_trans' q0 hq, q2.grown hq (fun hh => by injection hh with hh; omega), q3.grown hq (fun hh => by injection hh with hh; omega), q4, ?_⟩, Only.grown hq (by simp)⟩
      show Dice w2 B g (if true = true then l3.tail else l3)
      rw [if_pos rfl]; exact jd2
  · simp only [Act.put, List.setIfInBounds_toArray, List.set_cons_succ, List.set_cons_zero]
    rfl
  refine ow_plain (by decide) (by decide) rfl (v := ?_) (a' := ?_) (fun L w1 hL hw1 => ?_) ?_ ?_
  rotate_left 2
  · obtain ⟨q0, q2, q3, q4, q5⟩ := id hw1
    go_simp
    refine fr_grow ?_ (fun w2 hg => ?_)
    · have hrt := radv_any n d x7 0 0 (rollV l3 60) w1
      rw [ea] at hrt
      exact hrt
    · exact ⟨⟨d_only_grows q0 hg, q2.grows hg, q3.grows hg, q4, q5.grows hg⟩, Only.grows hg⟩
  · simp only [Act.put, List.setIfInBounds_toArray, List.set_cons_succ, List.set_cons_zero]
    rfl
  iterate 3
    refine ow_plain (by decide) (by decide) rfl (v := ?_) (a' := ?_) (fun L w1 hL hw1 => ?_) ?_ ?_
    rotate_left 2
    · skip
      go_simp
      first | (refine step_val ?_; exact ⟨hw1, Only.refl _ _⟩)
    · simp only [Act.put, List.setIfInBounds_toArray, List.set_cons_succ, List.set_cons_zero]
      rfl
  refine ow_float rfl rfl (fun L w1 hL hw1 => ?_) ?_
  · obtain ⟨q0, q2, q3, q4, q5⟩ := id hw1
    have l7 : L 7 = false := hL.1
    have l8 : L 8 = false := by
      cases h : L 8
      · rfl
      · rw [q4 h] at l7; cases l7
    have hlt := q3.lt
    go_simp
    refine fr_some ⟨w1.heap.size, rfl, hlt, ?_⟩ ⟨⟨grown_alloc q0 _, q2.alloc _, q3.alloc _, fun _ => rfl, q5.grows ((Below.refl _ _).alloc (Nat.le_refl _) _)⟩, Only.alloc (Only.refl _ _) _⟩
    show Blk _ _ 27 (if L 8 = true then #[.int .i64 n, .int .i64 d, .int .i64 x7, .int .i64 ap, .int .i64 af] else #[.int .i64 0, .int .i64 0, .int .i64 0, .int .i64 0, .int .i64 0])
    rw [l8]
    exact Blk.new _ _ _
  refine ow_sink (by decide) rfl rfl rfl (fun v L w1 hL hw1 hd => ?_) ?_
  · obtain ⟨q0, q2, q3, q4, q5⟩ := id hw1
    obtain ⟨b, rfl, hb, kb⟩ := hd
    have l8 : L 8 = false := hL.1
    have l7 : L 7 = true := hL.need 7 (by kernel_rfl)
    simp only [l8, Bool.false_eq_true, if_false] at kb
    have cb := kb.cell
    have fb := kb.frozen
    simp only [Act.put, List.setIfInBounds_toArray, List.set_cons_succ, List.set_cons_zero]
    go_simp
    refine step_skip ⟨⟨?_, ?_, ?_, fun _ => l7, ?_⟩, ?_⟩
    · exact grown_set (grown_set (grown_set (grown_set (grown_set q0 (by simp; omega) _) (by simp; omega) _) (by simp; omega) _) (by simp; omega) _) (by simp; omega) _
    · exact ((((q2.far (by simp; omega) _).far (by simp; omega) _).far (by simp; omega) _).far (by simp; omega) _).far (by simp; omega) _
    · exact ((((q3.far (by simp; omega) _).far (by simp; omega) _).far (by simp; omega) _).far (by simp; omega) _).far (by simp; omega) _
    · exact ((((q5.put (by simp; omega) (by simp; omega) _).put (by simp; omega) (by simp; omega) _).put (by simp; omega) (by simp; omega) _).put (by simp; omega) (by simp; omega) _).put (by simp; omega) (by simp; omega) _
    · show Blk _ b 27 (if true = true then #[.int .i64 n, .int .i64 d, .int .i64 x7, .int .i64 ap, .int .i64 af] else #[.int .i64 0, .int .i64 0, .int .i64 0, .int .i64 0, .int .i64 0])
      rw [if_pos rfl]
      exact ((((kb.set_ 0 _).set_ 1 _).set_ 2 _).set_ 3 _).set_ 4 _
  iterate 1
    refine ow_plain (by decide) (by decide) rfl (v := ?_) (a' := ?_) (fun L w1 hL hw1 => ?_) ?_ ?_
    rotate_left 2
    · skip
      go_simp
      first | (refine step_val ?_; exact ⟨hw1, Only.refl _ _⟩)
    · simp only [Act.put, List.setIfInBounds_toArray, List.set_cons_succ, List.set_cons_zero]
      rfl
  refine ow_done ?_
  rintro v L w7 hall ⟨hb, k2, k3, -, -⟩ ⟨b, rfl, hbb, kb⟩
  rw [hall 8 (by omega), if_pos rfl] at kb
  simp only [Act.put, List.setIfInBounds_toArray]
  have xb := kb.cell
  have x3 := k3.cell
  have f3 := k3.frozen
  have x2 := k2.cell
  have f2 := k2.frozen
  go_wp2
  refine bodyPost_ret (v := .agg #[.int .i64 n, .int .i64 d, .int .i64 x7, .int .i64 ap, .int .i64 af]) (by simp [results, Try.results25, go_sem, x2]) rfl ⟨⟨_, _, _, _, _, hfin, hap, rfl⟩, ?_⟩
  repeat (refine grown_set ?_ (by simp <;> omega) _)
  exact hb
set_option maxHeartbeats 4000000 in
theorem made_any (A : Option Addr) (c : Nat) (l : List Int) (w : World) (hI : Reads w w.heap.size 1 A l.length (l.map (Value.int .u8))) (hc : l.length ≤ c) (hl : l.length ≤ 9223372036854775807) (hwf : ∀ x ∈ l, 0 ≤ x ∧ x ≤ 255) :
    Calls Try.prog 10 #[.slice A l.length c] w fun e w' => (∃ n d a p f : Int, okP n d a p f = true ∧ p ≤ 50000000 ∧ e = .returned (.agg #[.int .i64 n, .int .i64 d, .int .i64 a, .int .i64 p, .int .i64 f])) ∧ Grows w w' := by
  go_enter Try.func10, Try.ntmps10
  go_wp2_with fail
  refine (dice_new A c l _ (by have := (hI.grows ((Below.refl w.heap.size w).alloc (Nat.le_refl _) (Obj.cells #[.int .i64 0, .int .i64 0, .int .i64 0, .int .i64 0, .int .i64 0] 27))); exact this) hc hl hwf).mono ?_
  rintro e w1 ⟨rfl, ⟨l', jd⟩, hq⟩
  have k2 := Blk.grows (Blk.new _ _ _) hq
  have hB := below_grows ((Below.refl w.heap.size w).alloc (Nat.le_refl _) _) (by simp) hq
  have hsz : (w.alloc (Obj.cells #[.int .i64 0, .int .i64 0, .int .i64 0, .int .i64 0, .int .i64 0] 27)).heap.size = w.heap.size + 1 := by simp
  rw [hsz] at jd
  clear hq
  go_wp2_with fail
  refine (phase_any _ _ l' _ jd).mono ?_
  rintro e w2 ⟨⟨n, d, a, p, f, hok, hp, rfl⟩, hq⟩
  replace k2 := k2.grown hq (fun hh => by injection hh with hh; omega)
  replace hB := hB.grown hq hB.size (fun j hj => by injection hj with hj; omega)
  have x2 := k2.cell
  have f2 := k2.frozen
  go_wp2
  refine bodyPost_ret (v := .agg #[.int .i64 n, .int .i64 d, .int .i64 a, .int .i64 p, .int .i64 f]) (by simp [results, Try.results10, go_sem, x2]) rfl ⟨⟨_, _, _, _, _, hok, hp, rfl⟩, ?_⟩
  repeat (refine Below.setCell ?_ (by simp <;> omega) _)
  exact hB
end Go.Proofs.Ytjdgfcjkpdmodaa
