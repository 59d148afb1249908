/-
  Layer 36: the maker of inputs.
-/
import Derived.Test.YtmipggfcdmmpfaaCliB
import Derived.Test.YtmipggfcdmmpfaaRange0
namespace Go.Proofs.Ytmipggfcdmmpfaa
open Go.RowKit
set_option maxHeartbeats 8000000 in
theorem made_any (A : Option Addr) (c : Nat) (l : List Int) (w : World) (hI : Ints w A l) (hl : l.length ≤ 9223372036854775807) : Calls Try.prog 7 #[.slice A l.length c] w fun e w' =>
    (∃ (p g t s : Int) (d : Bool), e = .returned (.agg #[.int .i64 p, .int .i64 g, .int .i64 t, .int .i64 s, .bool d])) ∧ Grows w w' := by
  have b1 := nextV_bd l 0 (n := 4) (by omega)
  go_enter Try.func7, Try.ntmps7
  go_wp2_with (first | (go_at_call 22; refine (new_deck A c l _ (hI.grows (Below.alloc (Below.refl w.heap.size w) (Nat.le_refl _) _)) hl).mono ?_; rintro e w1 ⟨rfl, hD0, hq⟩; have hD : Deck w1 (w.heap.size + 1) A c l 0 := (by simpa using hD0); clear hD0; have k2 := Blk.grows (Blk.new _ _ _) hq; have hB := below_grows (Below.alloc (Below.refl w.heap.size w) (Nat.le_refl _) _) (by simp <;> omega) hq; clear hq) | (go_at_call 24; refine (next_any _ A c l _ _ _ hD (by omega) (by omega)).mono ?_; rintro e w2 ⟨rfl, hD2, hq2⟩; replace hD := hD2; clear hD2; (first | replace k4 := k4.grown hq2 (fun hh => by injection hh with hh; omega) | skip); replace k2 := k2.grown hq2 (fun hh => by injection hh with hh; omega); replace hB := hB.grown hq2 hB.size (fun j hj => by injection hj with hj; omega); clear hq2; (first | (have x4 := k4.cell; have f4 := k4.frozen) | skip)))
  refine (rnew_any _ _).mono ?_
  rintro e w3 ⟨rfl, hq⟩
  replace hD := hD.grows hq
  replace k2 := k2.grows hq
  replace hB := below_grows hB (Nat.le_refl _) hq
  clear hq
  obtain ⟨p0, g0, t0, s0, d0, hN⟩ : ∃ p0 g0 t0 s0 d0, (newF (nextV l 0 4)).1 = ⟨p0, g0, t0, s0, d0⟩ := ⟨_, _, _, _, _, rfl⟩
  simp only [hN]
  clear hN
  go_wp2_with fail
  have hz := hD.blk.lt
  have k4 := Blk.new w3 24 #[.int .i64 p0, .int .i64 g0, .int .i64 t0, .int .i64 s0, .bool d0]
  replace hD := hD.grows ((Below.refl _ _).alloc (Nat.le_refl _) (Obj.cells #[.int .i64 p0, .int .i64 g0, .int .i64 t0, .int .i64 s0, .bool d0] 24))
  replace k2 := k2.alloc (Obj.cells #[.int .i64 p0, .int .i64 g0, .int .i64 t0, .int .i64 s0, .bool d0] 24)
  replace hB := hB.alloc hB.size (Obj.cells #[.int .i64 p0, .int .i64 g0, .int .i64 t0, .int .i64 s0, .bool d0] 24)
  generalize hg : w3.heap.size = g4 at *
  generalize World.alloc w3 _ = w4 at *
  have b2 := nextV_bd l (nextK l 0) (n := 10) (by omega)
  refine (next_any _ A c l _ _ _ hD (by omega) (by omega)).mono ?_; rintro e w2 ⟨rfl, hD2, hq2⟩; replace hD := hD2; clear hD2; (first | replace k4 := k4.grown hq2 (fun hh => by injection hh with hh; omega) | skip); replace k2 := k2.grown hq2 (fun hh => by injection hh with hh; omega); replace hB := hB.grown hq2 hB.size (fun j hj => by injection hj with hj; omega); clear hq2; (first | (have x4 := k4.cell; have f4 := k4.frozen) | skip)
  go_wp2
  obtain ⟨m0, hm0⟩ := Int.eq_ofNat_of_zero_le b2.1
  go_loopw [6] (fun n wr => ∃ (m k : Nat) (p g t s : Int) (d : Bool), n = .int .i64 m ∧ m ≤ 10 ∧ Below w.heap.size w wr ∧ Blk wr w.heap.size 24 #[.int .i64 0, .int .i64 0, .int .i64 0, .int .i64 0, .bool false] ∧ Deck wr (w.heap.size + 1) A c l k ∧ Blk wr g4 24 #[.int .i64 p, .int .i64 g, .int .i64 t, .int .i64 s, .bool d]) (fun n _ => (intOf n).toNat)
  case atStart => exact ⟨m0, _, p0, g0, t0, s0, d0, by rw [hm0], by omega, hB, k2, hD, k4⟩
  case round =>
    clear hB k2 hD k4 x4 f4 b1 b2 hm0
    obtain ⟨m, k, p, g, t, s, d, rfl, hm, hB, k2, hD, k4⟩ := hrel
    have x4 := k4.cell
    have f4 := k4.frozen
    rcases m with _ | m
    · have b5 := nextV_bd l k (n := 6) (by omega)
      have x2 := k2.cell
      have f2 := k2.frozen
      by_cases h6 : nextV l k 6 = 0
      · go_wp2_with (first | (go_at_call 24; refine (next_any _ A c l _ _ _ hD (by omega) (by omega)).mono ?_; rintro e w2 ⟨rfl, hD2, hq2⟩; replace hD := hD2; clear hD2; (first | replace k4 := k4.grown hq2 (fun hh => by injection hh with hh; omega) | skip); replace k2 := k2.grown hq2 (fun hh => by injection hh with hh; omega); replace hB := hB.grown hq2 hB.size (fun j hj => by injection hj with hj; omega); clear hq2; (first | (have x4 := k4.cell; have f4 := k4.frozen) | skip); have x2 := k2.cell; have f2 := k2.frozen) | (go_at_call 13; refine (rdie_any _ _ _ _ _ _).mono ?_; rintro e w3 ⟨rfl, hq⟩; replace k4 := k4.grows hq; replace k2 := k2.grows hq; replace hB := below_grows hB (Nat.le_refl _) hq; have x4 := k4.cell; have f4 := k4.frozen; have x2 := k2.cell; have f2 := k2.frozen))
        refine bodyPost_ret (v := .agg #[.int .i64 p, .int .i64 g, .int .i64 t, .int .i64 s, .bool true]) (by simp [results, Try.results7, go_sem, x2]) rfl ⟨⟨_, _, _, _, _, rfl⟩, ?_⟩
        repeat (refine Below.setCell ?_ (by simp <;> omega) _)
        exact hB
      · go_wp2_with (first | (go_at_call 24; refine (next_any _ A c l _ _ _ hD (by omega) (by omega)).mono ?_; rintro e w2 ⟨rfl, hD2, hq2⟩; replace hD := hD2; clear hD2; (first | replace k4 := k4.grown hq2 (fun hh => by injection hh with hh; omega) | skip); replace k2 := k2.grown hq2 (fun hh => by injection hh with hh; omega); replace hB := hB.grown hq2 hB.size (fun j hj => by injection hj with hj; omega); clear hq2; (first | (have x4 := k4.cell; have f4 := k4.frozen) | skip); have x2 := k2.cell; have f2 := k2.frozen))
        refine bodyPost_ret (v := .agg #[.int .i64 p, .int .i64 g, .int .i64 t, .int .i64 s, .bool d]) (by simp [results, Try.results7, go_sem, x2]) rfl ⟨⟨_, _, _, _, _, rfl⟩, ?_⟩
        repeat (refine Below.setCell ?_ (by simp <;> omega) _)
        exact hB
    · have b3 := nextV_bd l k (n := 2) (by omega)
      by_cases h2 : nextV l k 2 = 0
      · go_wp2_with (first | (go_at_call 24; refine (next_any _ A c l _ _ _ hD (by omega) (by omega)).mono ?_; rintro e w2 ⟨rfl, hD2, hq2⟩; replace hD := hD2; clear hD2; (first | replace k4 := k4.grown hq2 (fun hh => by injection hh with hh; omega) | skip); replace k2 := k2.grown hq2 (fun hh => by injection hh with hh; omega); replace hB := hB.grown hq2 hB.size (fun j hj => by injection hj with hj; omega); clear hq2; (first | (have x4 := k4.cell; have f4 := k4.frozen) | skip)))
        generalize nextK l k = k at *
        have b4 := nextV_bd l k (n := 100) (by omega)
        refine wp_region_step (fun p' w' => Below w.heap.size w w' ∧ Blk w' w.heap.size 24 #[.int .i64 0, .int .i64 0, .int .i64 0, .int .i64 0, .bool false] ∧ Deck w' (w.heap.size + 1) A c l (nextKs l k (min p' 1)) ∧ Blk w' g4 24 (if p' ≤ 1 then #[.int .i64 p, .int .i64 g, .int .i64 t, .int .i64 s, .bool d] else #[.int .i64 ((wroteF ⟨p, g, t, s, d⟩ (nextV l k 100)).1).p, .int .i64 ((wroteF ⟨p, g, t, s, d⟩ (nextV l k 100)).1).g, .int .i64 ((wroteF ⟨p, g, t, s, d⟩ (nextV l k 100)).1).t, .int .i64 ((wroteF ⟨p, g, t, s, d⟩ (nextV l k 100)).1).s, .bool ((wroteF ⟨p, g, t, s, d⟩ (nextV l k 100)).1).d])) [2, 7] 8 45 (by kernel_rfl) (by kernel_rfl) rfl ?_ ?_ ?_
        · exact fun p w1 w2 ⟨h0, h1, h2, h3⟩ hg => ⟨below_grows h0 (Nat.le_refl _) hg, h1.grows hg, h2.grows hg, h3.grows hg⟩
        · exact ⟨hB.drew, k2.drew, hD.grows (Grows.drew' _), k4.drew⟩
        simp only [List.take_succ_cons, List.take_zero, List.drop_succ_cons, List.drop_zero]
        refine st_upto (j := 1) (by kernel_rfl) rfl rfl (v := ?_) (a' := ?_) (fun w1 hw1 => ?_) ?_ ?_
        rotate_left 2
        · obtain ⟨q, hq1, _, _, _, j4⟩ := hw1
          rw [if_pos hq1] at j4
          have c4 := j4.cell
          go_simp
          first | exact calm_val
        · simp only [Act.put, List.setIfInBounds_toArray, List.set_cons_succ, List.set_cons_zero]
          rfl
        iterate 1
          refine st_plain rfl rfl (v := ?_) (a' := ?_) (fun w1 hw1 => ?_) ?_ ?_
          rotate_left 2
          · obtain ⟨q, _, j2, _, _⟩ := hw1
            have c2 := j2.cell
            go_simp
            first | exact calm_val
          · simp only [Act.put, List.setIfInBounds_toArray, List.set_cons_succ, List.set_cons_zero]
            rfl
        refine st_step (j := 0) rfl rfl (v := ?_) (a' := ?_) (fun w1 hw1 => ?_) ?_ ?_
        rotate_left 2
        · obtain ⟨hb, j2, jd, j4⟩ := hw1
          replace jd : Deck w1 (w.heap.size + 1) A c l k := jd
          replace j4 : Blk w1 g4 24 #[.int .i64 p, .int .i64 g, .int .i64 t, .int .i64 s, .bool d] := j4
          go_simp
          refine step_call ?_
          refine (next_any _ A c l _ _ _ jd (by omega) (by omega)).mono ?_
          rintro e w2 ⟨rfl, jd2, hq⟩
          refine ⟨?_, ?_⟩
          · exact rfl
          · exact ⟨hb.grown hq hb.size (fun j hj => by injection hj with hj; omega), j2.grown hq (fun hh => by injection hh with hh; omega), jd2, j4.grown hq (fun hh => by injection hh with hh; omega)⟩
        · simp only [Act.put, List.setIfInBounds_toArray, List.set_cons_succ, List.set_cons_zero]
          rfl
        iterate 4
          refine st_plain rfl rfl (v := ?_) (a' := ?_) (fun w1 hw1 => ?_) ?_ ?_
          rotate_left 2
          · obtain ⟨q, _, j2, _, _⟩ := hw1
            have c2 := j2.cell
            go_simp
            first | exact calm_val | (refine calm_call ?_; exact rwrote_any _ _ _ _ _ _ _)
          · simp only [Act.put, List.setIfInBounds_toArray, List.set_cons_succ, List.set_cons_zero]
            rfl
        refine st_step (j := 1) rfl rfl (v := undef) (a' := ?_) (fun w1 hw1 => ?_) ?_ ?_
        rotate_left 1
        · obtain ⟨hb, j2, jd, j4⟩ := hw1
          replace j4 : Blk w1 g4 24 #[.int .i64 p, .int .i64 g, .int .i64 t, .int .i64 s, .bool d] := j4
          have c4 := j4.cell
          have f4 := j4.frozen
          go_simp
          refine step_skip ?_
          refine ⟨?_, ?_, ?_, ?_⟩
          · exact ((((hb.setCell (by simp; omega) _).setCell (by simp; omega) _).setCell (by simp; omega) _).setCell (by simp; omega) _).setCell (by simp; omega) _
          · exact ((((j2.far (by simp; omega) _).far (by simp; omega) _).far (by simp; omega) _).far (by simp; omega) _).far (by simp; omega) _
          · exact ((((jd.far (by simp; omega) _).far (by simp; omega) _).far (by simp; omega) _).far (by simp; omega) _).far (by simp; omega) _
          · exact ((((j4.set_ 0 _).set_ 1 _).set_ 2 _).set_ 3 _).set_ 4 _
        · rfl
        refine st_done ?_
        rintro w7 ⟨hb, j2, jd, j4⟩
        replace jd : Deck w7 (w.heap.size + 1) A c l (nextK l k) := jd
        replace j4 : Blk w7 g4 24 #[.int .i64 ((wroteF ⟨p, g, t, s, d⟩ (nextV l k 100)).1).p, .int .i64 ((wroteF ⟨p, g, t, s, d⟩ (nextV l k 100)).1).g, .int .i64 ((wroteF ⟨p, g, t, s, d⟩ (nextV l k 100)).1).t, .int .i64 ((wroteF ⟨p, g, t, s, d⟩ (nextV l k 100)).1).s, .bool ((wroteF ⟨p, g, t, s, d⟩ (nextV l k 100)).1).d] := j4
        go_wp2
        go_roundw
        case rel => exact ⟨m, nextK l k, _, _, _, _, _, by go_num, by omega, hb, j2, jd, j4⟩
        case measure => simp [intOf] <;> omega
      · go_wp2_with (first | (go_at_call 24; refine (next_any _ A c l _ _ _ hD (by omega) (by omega)).mono ?_; rintro e w2 ⟨rfl, hD2, hq2⟩; replace hD := hD2; clear hD2; (first | replace k4 := k4.grown hq2 (fun hh => by injection hh with hh; omega) | skip); replace k2 := k2.grown hq2 (fun hh => by injection hh with hh; omega); replace hB := hB.grown hq2 hB.size (fun j hj => by injection hj with hj; omega); clear hq2; (first | (have x4 := k4.cell; have f4 := k4.frozen) | skip)))
        generalize nextK l k = k at *
        have b4 := nextV_bd l k (n := 80) (by omega)
        refine wp_region_step (fun p' w' => Below w.heap.size w w' ∧ Blk w' w.heap.size 24 #[.int .i64 0, .int .i64 0, .int .i64 0, .int .i64 0, .bool false] ∧ Deck w' (w.heap.size + 1) A c l (nextKs l k (min p' 1)) ∧ Blk w' g4 24 (if p' ≤ 1 then #[.int .i64 p, .int .i64 g, .int .i64 t, .int .i64 s, .bool d] else #[.int .i64 ((tickF ⟨p, g, t, s, d⟩ (nextV l k 80)).1).p, .int .i64 ((tickF ⟨p, g, t, s, d⟩ (nextV l k 80)).1).g, .int .i64 ((tickF ⟨p, g, t, s, d⟩ (nextV l k 80)).1).t, .int .i64 ((tickF ⟨p, g, t, s, d⟩ (nextV l k 80)).1).s, .bool ((tickF ⟨p, g, t, s, d⟩ (nextV l k 80)).1).d])) [2, 8] 9 45 (by kernel_rfl) (by kernel_rfl) rfl ?_ ?_ ?_
        · exact fun p w1 w2 ⟨h0, h1, h2, h3⟩ hg => ⟨below_grows h0 (Nat.le_refl _) hg, h1.grows hg, h2.grows hg, h3.grows hg⟩
        · exact ⟨hB.drew, k2.drew, hD.grows (Grows.drew' _), k4.drew⟩
        simp only [List.take_succ_cons, List.take_zero, List.drop_succ_cons, List.drop_zero]
        refine st_upto (j := 1) (by kernel_rfl) rfl rfl (v := ?_) (a' := ?_) (fun w1 hw1 => ?_) ?_ ?_
        rotate_left 2
        · obtain ⟨q, hq1, _, _, _, j4⟩ := hw1
          rw [if_pos hq1] at j4
          have c4 := j4.cell
          go_simp
          first | exact calm_val
        · simp only [Act.put, List.setIfInBounds_toArray, List.set_cons_succ, List.set_cons_zero]
          rfl
        iterate 1
          refine st_plain rfl rfl (v := ?_) (a' := ?_) (fun w1 hw1 => ?_) ?_ ?_
          rotate_left 2
          · obtain ⟨q, _, j2, _, _⟩ := hw1
            have c2 := j2.cell
            go_simp
            first | exact calm_val
          · simp only [Act.put, List.setIfInBounds_toArray, List.set_cons_succ, List.set_cons_zero]
            rfl
        refine st_step (j := 0) rfl rfl (v := ?_) (a' := ?_) (fun w1 hw1 => ?_) ?_ ?_
        rotate_left 2
        · obtain ⟨hb, j2, jd, j4⟩ := hw1
          replace jd : Deck w1 (w.heap.size + 1) A c l k := jd
          replace j4 : Blk w1 g4 24 #[.int .i64 p, .int .i64 g, .int .i64 t, .int .i64 s, .bool d] := j4
          go_simp
          refine step_call ?_
          refine (next_any _ A c l _ _ _ jd (by omega) (by omega)).mono ?_
          rintro e w2 ⟨rfl, jd2, hq⟩
          refine ⟨?_, ?_⟩
          · exact rfl
          · exact ⟨hb.grown hq hb.size (fun j hj => by injection hj with hj; omega), j2.grown hq (fun hh => by injection hh with hh; omega), jd2, j4.grown hq (fun hh => by injection hh with hh; omega)⟩
        · simp only [Act.put, List.setIfInBounds_toArray, List.set_cons_succ, List.set_cons_zero]
          rfl
        iterate 5
          refine st_plain rfl rfl (v := ?_) (a' := ?_) (fun w1 hw1 => ?_) ?_ ?_
          rotate_left 2
          · obtain ⟨q, _, j2, _, _⟩ := hw1
            have c2 := j2.cell
            go_simp
            first | exact calm_val | (refine calm_call ?_; refine rtick_any _ _ _ _ _ _ _ ?_; omega)
          · simp only [Act.put, List.setIfInBounds_toArray, List.set_cons_succ, List.set_cons_zero]
            rfl
        refine st_step (j := 1) rfl rfl (v := undef) (a' := ?_) (fun w1 hw1 => ?_) ?_ ?_
        rotate_left 1
        · obtain ⟨hb, j2, jd, j4⟩ := hw1
          replace j4 : Blk w1 g4 24 #[.int .i64 p, .int .i64 g, .int .i64 t, .int .i64 s, .bool d] := j4
          have c4 := j4.cell
          have f4 := j4.frozen
          go_simp
          refine step_skip ?_
          refine ⟨?_, ?_, ?_, ?_⟩
          · exact ((((hb.setCell (by simp; omega) _).setCell (by simp; omega) _).setCell (by simp; omega) _).setCell (by simp; omega) _).setCell (by simp; omega) _
          · exact ((((j2.far (by simp; omega) _).far (by simp; omega) _).far (by simp; omega) _).far (by simp; omega) _).far (by simp; omega) _
          · exact ((((jd.far (by simp; omega) _).far (by simp; omega) _).far (by simp; omega) _).far (by simp; omega) _).far (by simp; omega) _
          · exact ((((j4.set_ 0 _).set_ 1 _).set_ 2 _).set_ 3 _).set_ 4 _
        · rfl
        refine st_done ?_
        rintro w7 ⟨hb, j2, jd, j4⟩
        replace jd : Deck w7 (w.heap.size + 1) A c l (nextK l k) := jd
        replace j4 : Blk w7 g4 24 #[.int .i64 ((tickF ⟨p, g, t, s, d⟩ (nextV l k 80)).1).p, .int .i64 ((tickF ⟨p, g, t, s, d⟩ (nextV l k 80)).1).g, .int .i64 ((tickF ⟨p, g, t, s, d⟩ (nextV l k 80)).1).t, .int .i64 ((tickF ⟨p, g, t, s, d⟩ (nextV l k 80)).1).s, .bool ((tickF ⟨p, g, t, s, d⟩ (nextV l k 80)).1).d] := j4
        go_wp2
        go_roundw
        case rel => exact ⟨m, nextK l k, _, _, _, _, _, by go_num, by omega, hb, j2, jd, j4⟩
        case measure => simp [intOf] <;> omega

end Go.Proofs.Ytmipggfcdmmpfaa
