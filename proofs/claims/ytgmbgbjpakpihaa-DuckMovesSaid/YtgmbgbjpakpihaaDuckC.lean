/-
  Layer 32: the maker of inputs, the sanity check, ramps.
-/
import Derived.Test.YtgmbgbjpakpihaaDuckB
import Derived.Test.YtgmbgbjpakpihaaRange
namespace Go.Proofs.Ytgmbgbjpakpihaa
open Go.RowKit

set_option maxHeartbeats 8000000 in
theorem made_any (A : Option Addr) (c : Nat) (l : List Int) (w : World) (hI : Ints w A l) (hl : l.length ≤ 9223372036854775807) : Calls Try.prog 7 #[.slice A l.length c] w fun e w' =>
    (∃ g q a r h : Int, okD g q a r h = true ∧ h ≤ 5 ∧ e = .returned (.tuple #[.agg #[.int .i64 g, .int .i64 q], .agg #[.int .i64 a, .int .i64 r, .int .i64 h]])) ∧ Grows w w' := by
  have b1 := nextV_bd l 0 (n := 262144) (by omega)
  have b2 := nextV_bd l (nextK l 0) (n := 90000) (by omega)
  have b3 := nextV_bd l (nextK l (nextK l 0)) (n := 6) (by omega)
  go_enter Try.func7, Try.ntmps7
  go_wp2_with (first | (go_at_call 16; refine (new_deck A c l _ (hI.grows ((Below.alloc (Below.alloc (Below.refl w.heap.size w) (Nat.le_refl _) _) (by simp) _))) hl).mono ?_; rintro e w1 ⟨rfl, hD0, hq⟩; have hD : Deck w1 (w.heap.size + 2) A c l 0 := (by simpa using hD0); clear hD0; have k1 := Blk.grows (Blk.alloc (Blk.new _ _ _) _) hq; have k2 := Blk.grows (blk_new_at (n := w.heap.size + 1) (by simp)) hq; have hB := below_grows (Below.alloc (Below.alloc (Below.refl w.heap.size w) (Nat.le_refl _) _) (by simp) _) (by simp <;> omega) hq; clear hq) | (go_at_call 17; refine (range_any _ A c l _ _ _ _ hD (by omega) (by omega) (by omega)).mono ?_; rintro e w2 ⟨rfl, hD2, hq2⟩; replace hD := hD2; clear hD2; (first | replace k5 := k5.grown hq2 (fun hh => by injection hh with hh; omega) | skip); replace k1 := k1.grown hq2 (fun hh => by injection hh with hh; omega); replace k2 := k2.grown hq2 (fun hh => by injection hh with hh; omega); replace hB := hB.grown hq2 hB.size (fun j hj => by injection hj with hj; omega); clear hq2; (first | (have x5 := k5.cell; have f5 := k5.frozen) | skip)) | (go_at_call 18; refine (next_any _ A c l _ _ _ hD (by omega) (by omega)).mono ?_; rintro e w2 ⟨rfl, hD2, hq2⟩; replace hD := hD2; clear hD2; (first | replace k5 := k5.grown hq2 (fun hh => by injection hh with hh; omega) | skip); replace k1 := k1.grown hq2 (fun hh => by injection hh with hh; omega); replace k2 := k2.grown hq2 (fun hh => by injection hh with hh; omega); replace hB := hB.grown hq2 hB.size (fun j hj => by injection hj with hj; omega); clear hq2; (first | (have x5 := k5.cell; have f5 := k5.frozen) | skip)))
  have ba : 1 ≤ 1 + nextV l 0 262144 ∧ 1 + nextV l 0 262144 ≤ 262144 := by omega
  have br : 1 ≤ 1 + nextV l (nextK l 0) 90000 ∧ 1 + nextV l (nextK l 0) 90000 ≤ 90000 := by omega
  clear b1 b2
  generalize 1 + nextV l 0 262144 = a0 at *
  generalize 1 + nextV l (nextK l 0) 90000 = r at *
  generalize nextV l (nextK l (nextK l 0)) 6 = h at *
  generalize nextK l (nextK l (nextK l 0)) = k0 at *
  have hz := hD.blk.lt
  have k5 : Blk (w2.alloc (Obj.cells #[.int .i64 a0, .int .i64 r, .int .i64 h] 26)) w2.heap.size 26 #[.int .i64 a0, .int .i64 r, .int .i64 h] := Blk.new _ _ _
  replace k1 := k1.alloc (Obj.cells #[.int .i64 a0, .int .i64 r, .int .i64 h] 26)
  replace k2 := k2.alloc (Obj.cells #[.int .i64 a0, .int .i64 r, .int .i64 h] 26)
  replace hD := hD.grows ((Below.refl _ _).alloc (Nat.le_refl _) (Obj.cells #[.int .i64 a0, .int .i64 r, .int .i64 h] 26))
  replace hB := hB.alloc hB.size (Obj.cells #[.int .i64 a0, .int .i64 r, .int .i64 h] 26)
  generalize hg5 : w2.heap.size = g5 at *
  clear hg5
  generalize w2.alloc (Obj.cells #[.int .i64 a0, .int .i64 r, .int .i64 h] 26) = w3 at *
  have b4 := nextV_bd l k0 (n := 3) (by omega)
  have b5 := nextV_bd l (nextK l k0) (n := 3000) (by omega)
  refine (next_any _ A c l _ _ _ hD (by omega) (by omega)).mono ?_; rintro e w2 ⟨rfl, hD2, hq2⟩; replace hD := hD2; clear hD2; (first | replace k5 := k5.grown hq2 (fun hh => by injection hh with hh; omega) | skip); replace k1 := k1.grown hq2 (fun hh => by injection hh with hh; omega); replace k2 := k2.grown hq2 (fun hh => by injection hh with hh; omega); replace hB := hB.grown hq2 hB.size (fun j hj => by injection hj with hj; omega); clear hq2; (first | (have x5 := k5.cell; have f5 := k5.frozen) | skip)
  by_cases h3 : nextV l k0 3 = 0
  · go_wp2_with (first | (go_at_call 17; refine (range_any _ A c l _ _ _ _ hD (by omega) (by omega) (by omega)).mono ?_; rintro e w2 ⟨rfl, hD2, hq2⟩; replace hD := hD2; clear hD2; (first | replace k5 := k5.grown hq2 (fun hh => by injection hh with hh; omega) | skip); replace k1 := k1.grown hq2 (fun hh => by injection hh with hh; omega); replace k2 := k2.grown hq2 (fun hh => by injection hh with hh; omega); replace hB := hB.grown hq2 hB.size (fun j hj => by injection hj with hj; omega); clear hq2; (first | (have x5 := k5.cell; have f5 := k5.frozen) | skip)) | (go_at_call 18; refine (next_any _ A c l _ _ _ hD (by omega) (by omega)).mono ?_; rintro e w2 ⟨rfl, hD2, hq2⟩; replace hD := hD2; clear hD2; (first | replace k5 := k5.grown hq2 (fun hh => by injection hh with hh; omega) | skip); replace k1 := k1.grown hq2 (fun hh => by injection hh with hh; omega); replace k2 := k2.grown hq2 (fun hh => by injection hh with hh; omega); replace hB := hB.grown hq2 hB.size (fun j hj => by injection hj with hj; omega); clear hq2; (first | (have x5 := k5.cell; have f5 := k5.frozen) | skip)))
    replace k1 := k1.far (p := ⟨g5, 0, none⟩) (by simp; omega) (.int .i64 (1 + nextV l (nextK l k0) 3000))
    replace k2 := k2.far (p := ⟨g5, 0, none⟩) (by simp; omega) (.int .i64 (1 + nextV l (nextK l k0) 3000))
    replace hD := hD.far (p := ⟨g5, 0, none⟩) (by simp; omega) (.int .i64 (1 + nextV l (nextK l k0) 3000))
    replace hB := hB.setCell (p := ⟨g5, 0, none⟩) (by simp; omega) (.int .i64 (1 + nextV l (nextK l k0) 3000))
    replace k5 := k5.set_ 0 (.int .i64 (1 + nextV l (nextK l k0) 3000))
    simp only [List.setIfInBounds_toArray, List.set_cons_zero] at k5
    generalize hg : 1 + nextV l (nextK l k0) 3000 = a at *
    generalize nextK l (nextK l k0) = k at *
    generalize World.setCell _ _ _ = w4 at *
    have ha : 1 ≤ a ∧ a ≤ 262144 := by omega
    clear b4 b5 x5 f5 h3 hg
    refine wp_region_step (fun p w' => Below w.heap.size w w' ∧ Blk w' g5 26 #[.int .i64 a, .int .i64 r, .int .i64 h] ∧ Deck w' (w.heap.size + 2) A c l (nextKs l k (min p 2)) ∧ Blk w' w.heap.size 24 (if p ≤ 2 then #[.int .i64 0, .int .i64 0] else #[.int .i64 (nextV l k 262145), .int .i64 (nextV l (nextK l k) (h + 1))]) ∧ Blk w' (w.heap.size + 1) 26 (if p ≤ 3 then #[.int .i64 0, .int .i64 0, .int .i64 0] else #[.int .i64 a, .int .i64 r, .int .i64 h])) [1, 6, 9, 10] 11 30 (by kernel_rfl) (by kernel_rfl) rfl ?_ ?_ ?_
    · exact fun p w1 w2 ⟨h0, h1, h2, h3, h4⟩ hg => ⟨below_grows h0 (Nat.le_refl _) hg, h1.grows hg, h2.grows hg, h3.grows hg, h4.grows hg⟩
    · exact ⟨hB.drew, k5.drew, hD.grows (Grows.drew' _), k1.drew, k2.drew⟩
    have bq := nextV_bd l k (n := 262145) (by omega)
    have bw := nextV_bd l (nextK l k) (n := h + 1) (by omega)
    have wh : IntKind.i64.wrap (h + 1) = h + 1 := IntWalk.i64_in _ (by omega)
    simp only [List.take_succ_cons, List.take_zero, List.drop_succ_cons, List.drop_zero]
    iterate 1
      refine st_plain rfl rfl (v := ?_) (a' := ?_) (fun w1 hw1 => ?_) ?_ ?_
      rotate_left 2
      · obtain ⟨p, _, j5, _, _, _⟩ := hw1
        have c5 := j5.cell
        go_simp
        first | exact calm_val
      · simp only [Act.put, List.setIfInBounds_toArray, List.set_cons_succ, List.set_cons_zero]
        rfl
    refine st_step (j := 0) rfl rfl (v := ?_) (a' := ?_) (fun w1 hw1 => ?_) ?_ ?_
    rotate_left 2
    · obtain ⟨hb, j5, jd, j1, j2⟩ := hw1
      replace jd : Deck w1 (w.heap.size + 2) A c l k := jd
      go_simp
      refine step_call ?_
      refine (next_any _ A c l _ _ _ jd (by omega) (by omega)).mono ?_
      rintro e w2 ⟨rfl, jd2, hq⟩
      refine ⟨?_, ?_⟩
      · exact rfl
      · exact ⟨hb.grown hq hb.size (fun j hj => by injection hj with hj; omega), j5.grown hq (fun hh => by injection hh with hh; omega), jd2, j1.grown hq (fun hh => by injection hh with hh; omega), j2.grown hq (fun hh => by injection hh with hh; omega)⟩
    · simp only [Act.put, List.setIfInBounds_toArray, List.set_cons_succ, List.set_cons_zero]
      rfl
    iterate 4
      refine st_plain rfl rfl (v := ?_) (a' := ?_) (fun w1 hw1 => ?_) ?_ ?_
      rotate_left 2
      · obtain ⟨p, _, j5, _, _, _⟩ := hw1
        have c5 := j5.cell
        go_simp
        first | exact calm_val
      · simp only [Act.put, List.setIfInBounds_toArray, List.set_cons_succ, List.set_cons_zero]
        rfl
    refine st_step (j := 1) rfl rfl (v := ?_) (a' := ?_) (fun w1 hw1 => ?_) ?_ ?_
    rotate_left 2
    · obtain ⟨hb, j5, jd, j1, j2⟩ := hw1
      replace jd : Deck w1 (w.heap.size + 2) A c l (nextK l k) := jd
      go_simp
      refine step_call ?_
      refine (next_any _ A c l _ _ _ jd (by omega) (by omega)).mono ?_
      rintro e w2 ⟨rfl, jd2, hq⟩
      refine ⟨?_, ?_⟩
      · exact rfl
      · exact ⟨hb.grown hq hb.size (fun j hj => by injection hj with hj; omega), j5.grown hq (fun hh => by injection hh with hh; omega), jd2, j1.grown hq (fun hh => by injection hh with hh; omega), j2.grown hq (fun hh => by injection hh with hh; omega)⟩
    · simp only [Act.put, List.setIfInBounds_toArray, List.set_cons_succ, List.set_cons_zero]
      rfl
    iterate 2
      refine st_plain rfl rfl (v := ?_) (a' := ?_) (fun w1 hw1 => ?_) ?_ ?_
      rotate_left 2
      · obtain ⟨p, _, j5, _, _, _⟩ := hw1
        have c5 := j5.cell
        go_simp
        first | exact calm_val
      · simp only [Act.put, List.setIfInBounds_toArray, List.set_cons_succ, List.set_cons_zero]
        rfl
    refine st_step (j := 2) rfl rfl (v := undef) (a' := ?_) (fun w1 hw1 => ?_) ?_ ?_
    rotate_left 1
    · obtain ⟨hb, j5, jd, j1, j2⟩ := hw1
      replace j1 : Blk w1 w.heap.size 24 #[.int .i64 0, .int .i64 0] := j1
      have c1 := j1.cell
      have f1 := j1.frozen
      go_simp
      refine step_skip ?_
      refine ⟨?_, ?_, ?_, ?_, ?_⟩
      · exact (hb.setCell (by simp) _).setCell (by simp) _
      · exact (j5.far (by simp; omega) _).far (by simp; omega) _
      · exact (jd.put hI (by simp) (by simp) _).put hI (by simp) (by simp) _
      · have := (j1.set_ 0 (.int .i64 (nextV l k 262145))).set_ 1 (.int .i64 (nextV l (nextK l k) (h + 1)))
        simpa using this
      · exact (j2.far (by simp) _).far (by simp) _
    · rfl
    refine st_step (j := 3) rfl rfl (v := undef) (a' := ?_) (fun w1 hw1 => ?_) ?_ ?_
    rotate_left 1
    · obtain ⟨hb, j5, jd, j1, j2⟩ := hw1
      replace j2 : Blk w1 (w.heap.size + 1) 26 #[.int .i64 0, .int .i64 0, .int .i64 0] := j2
      have c2 := j2.cell
      have f2 := j2.frozen
      go_simp
      refine step_skip ?_
      refine ⟨?_, ?_, ?_, ?_, ?_⟩
      · exact ((hb.setCell (by simp) _).setCell (by simp) _).setCell (by simp) _
      · exact ((j5.far (by simp; omega) _).far (by simp; omega) _).far (by simp; omega) _
      · exact ((jd.put hI (by simp) (by simp) _).put hI (by simp) (by simp) _).put hI (by simp) (by simp) _
      · exact ((j1.far (by simp) _).far (by simp) _).far (by simp) _
      · have := ((j2.set_ 0 (.int .i64 a)).set_ 1 (.int .i64 r)).set_ 2 (.int .i64 h)
        simpa using this
    · rfl
    refine st_done ?_
    rintro w7 ⟨hb, j5, jd, j1, j2⟩
    replace j1 : Blk w7 w.heap.size 24 #[.int .i64 (nextV l k 262145), .int .i64 (nextV l (nextK l k) (h + 1))] := j1
    replace j2 : Blk w7 (w.heap.size + 1) 26 #[.int .i64 a, .int .i64 r, .int .i64 h] := j2
    have c1 := j1.cell
    have c2 := j2.cell
    go_wp2
    refine bodyPost_ret (v := .tuple #[.agg #[.int .i64 (nextV l k 262145), .int .i64 (nextV l (nextK l k) (h + 1))], .agg #[.int .i64 a, .int .i64 r, .int .i64 h]]) (by simp [results, Try.results7, go_sem, c1, c2]) rfl ⟨⟨_, _, _, _, _, okD_mk ?_, ?_, rfl⟩, hb⟩
    all_goals omega
  · go_wp2_with fail
    generalize nextK l k0 = k at *
    have ha : 1 ≤ a0 ∧ a0 ≤ 262144 := by omega
    generalize a0 = a at *
    generalize w2 = w4 at *
    clear b4 b5 x5 f5 h3
    refine wp_region_step (fun p w' => Below w.heap.size w w' ∧ Blk w' g5 26 #[.int .i64 a, .int .i64 r, .int .i64 h] ∧ Deck w' (w.heap.size + 2) A c l (nextKs l k (min p 2)) ∧ Blk w' w.heap.size 24 (if p ≤ 2 then #[.int .i64 0, .int .i64 0] else #[.int .i64 (nextV l k 262145), .int .i64 (nextV l (nextK l k) (h + 1))]) ∧ Blk w' (w.heap.size + 1) 26 (if p ≤ 3 then #[.int .i64 0, .int .i64 0, .int .i64 0] else #[.int .i64 a, .int .i64 r, .int .i64 h])) [1, 6, 9, 10] 11 30 (by kernel_rfl) (by kernel_rfl) rfl ?_ ?_ ?_
    · exact fun p w1 w2 ⟨h0, h1, h2, h3, h4⟩ hg => ⟨below_grows h0 (Nat.le_refl _) hg, h1.grows hg, h2.grows hg, h3.grows hg, h4.grows hg⟩
    · exact ⟨hB.drew, k5.drew, hD.grows (Grows.drew' _), k1.drew, k2.drew⟩
    have bq := nextV_bd l k (n := 262145) (by omega)
    have bw := nextV_bd l (nextK l k) (n := h + 1) (by omega)
    have wh : IntKind.i64.wrap (h + 1) = h + 1 := IntWalk.i64_in _ (by omega)
    simp only [List.take_succ_cons, List.take_zero, List.drop_succ_cons, List.drop_zero]
    iterate 1
      refine st_plain rfl rfl (v := ?_) (a' := ?_) (fun w1 hw1 => ?_) ?_ ?_
      rotate_left 2
      · obtain ⟨p, _, j5, _, _, _⟩ := hw1
        have c5 := j5.cell
        go_simp
        first | exact calm_val
      · simp only [Act.put, List.setIfInBounds_toArray, List.set_cons_succ, List.set_cons_zero]
        rfl
    refine st_step (j := 0) rfl rfl (v := ?_) (a' := ?_) (fun w1 hw1 => ?_) ?_ ?_
    rotate_left 2
    · obtain ⟨hb, j5, jd, j1, j2⟩ := hw1
      replace jd : Deck w1 (w.heap.size + 2) A c l k := jd
      go_simp
      refine step_call ?_
      refine (next_any _ A c l _ _ _ jd (by omega) (by omega)).mono ?_
      rintro e w2 ⟨rfl, jd2, hq⟩
      refine ⟨?_, ?_⟩
      · exact rfl
      · exact ⟨hb.grown hq hb.size (fun j hj => by injection hj with hj; omega), j5.grown hq (fun hh => by injection hh with hh; omega), jd2, j1.grown hq (fun hh => by injection hh with hh; omega), j2.grown hq (fun hh => by injection hh with hh; omega)⟩
    · simp only [Act.put, List.setIfInBounds_toArray, List.set_cons_succ, List.set_cons_zero]
      rfl
    iterate 4
      refine st_plain rfl rfl (v := ?_) (a' := ?_) (fun w1 hw1 => ?_) ?_ ?_
      rotate_left 2
      · obtain ⟨p, _, j5, _, _, _⟩ := hw1
        have c5 := j5.cell
        go_simp
        first | exact calm_val
      · simp only [Act.put, List.setIfInBounds_toArray, List.set_cons_succ, List.set_cons_zero]
        rfl
    refine st_step (j := 1) rfl rfl (v := ?_) (a' := ?_) (fun w1 hw1 => ?_) ?_ ?_
    rotate_left 2
    · obtain ⟨hb, j5, jd, j1, j2⟩ := hw1
      replace jd : Deck w1 (w.heap.size + 2) A c l (nextK l k) := jd
      go_simp
      refine step_call ?_
      refine (next_any _ A c l _ _ _ jd (by omega) (by omega)).mono ?_
      rintro e w2 ⟨rfl, jd2, hq⟩
      refine ⟨?_, ?_⟩
      · exact rfl
      · exact ⟨hb.grown hq hb.size (fun j hj => by injection hj with hj; omega), j5.grown hq (fun hh => by injection hh with hh; omega), jd2, j1.grown hq (fun hh => by injection hh with hh; omega), j2.grown hq (fun hh => by injection hh with hh; omega)⟩
    · simp only [Act.put, List.setIfInBounds_toArray, List.set_cons_succ, List.set_cons_zero]
      rfl
    iterate 2
      refine st_plain rfl rfl (v := ?_) (a' := ?_) (fun w1 hw1 => ?_) ?_ ?_
      rotate_left 2
      · obtain ⟨p, _, j5, _, _, _⟩ := hw1
        have c5 := j5.cell
        go_simp
        first | exact calm_val
      · simp only [Act.put, List.setIfInBounds_toArray, List.set_cons_succ, List.set_cons_zero]
        rfl
    refine st_step (j := 2) rfl rfl (v := undef) (a' := ?_) (fun w1 hw1 => ?_) ?_ ?_
    rotate_left 1
    · obtain ⟨hb, j5, jd, j1, j2⟩ := hw1
      replace j1 : Blk w1 w.heap.size 24 #[.int .i64 0, .int .i64 0] := j1
      have c1 := j1.cell
      have f1 := j1.frozen
      go_simp
      refine step_skip ?_
      refine ⟨?_, ?_, ?_, ?_, ?_⟩
      · exact (hb.setCell (by simp) _).setCell (by simp) _
      · exact (j5.far (by simp; omega) _).far (by simp; omega) _
      · exact (jd.put hI (by simp) (by simp) _).put hI (by simp) (by simp) _
      · have := (j1.set_ 0 (.int .i64 (nextV l k 262145))).set_ 1 (.int .i64 (nextV l (nextK l k) (h + 1)))
        simpa using this
      · exact (j2.far (by simp) _).far (by simp) _
    · rfl
    refine st_step (j := 3) rfl rfl (v := undef) (a' := ?_) (fun w1 hw1 => ?_) ?_ ?_
    rotate_left 1
    · obtain ⟨hb, j5, jd, j1, j2⟩ := hw1
      replace j2 : Blk w1 (w.heap.size + 1) 26 #[.int .i64 0, .int .i64 0, .int .i64 0] := j2
      have c2 := j2.cell
      have f2 := j2.frozen
      go_simp
      refine step_skip ?_
      refine ⟨?_, ?_, ?_, ?_, ?_⟩
      · exact ((hb.setCell (by simp) _).setCell (by simp) _).setCell (by simp) _
      · exact ((j5.far (by simp; omega) _).far (by simp; omega) _).far (by simp; omega) _
      · exact ((jd.put hI (by simp) (by simp) _).put hI (by simp) (by simp) _).put hI (by simp) (by simp) _
      · exact ((j1.far (by simp) _).far (by simp) _).far (by simp) _
      · have := ((j2.set_ 0 (.int .i64 a)).set_ 1 (.int .i64 r)).set_ 2 (.int .i64 h)
        simpa using this
    · rfl
    refine st_done ?_
    rintro w7 ⟨hb, j5, jd, j1, j2⟩
    replace j1 : Blk w7 w.heap.size 24 #[.int .i64 (nextV l k 262145), .int .i64 (nextV l (nextK l k) (h + 1))] := j1
    replace j2 : Blk w7 (w.heap.size + 1) 26 #[.int .i64 a, .int .i64 r, .int .i64 h] := j2
    have c1 := j1.cell
    have c2 := j2.cell
    go_wp2
    refine bodyPost_ret (v := .tuple #[.agg #[.int .i64 (nextV l k 262145), .int .i64 (nextV l (nextK l k) (h + 1))], .agg #[.int .i64 a, .int .i64 r, .int .i64 h]]) (by simp [results, Try.results7, go_sem, c1, c2]) rfl ⟨⟨_, _, _, _, _, okD_mk ?_, ?_, rfl⟩, hb⟩
    all_goals omega

theorem gain_any (n : Int) (w : World) (h1 : 0 ≤ n) (h2 : n ≤ 262144) : Calls Try.prog 23 #[.int .i64 n] w fun e w' => e = .returned (.bool true) ∧ w = w' := by
  go_enter Try.func23, Try.ntmps23
  go_wp2
  go_ret
  exact ⟨rfl, rfl⟩
theorem ramp_any (x y n : Int) (w : World) (h1 : 0 ≤ x) (h2 : x ≤ 262144) (h3 : 0 ≤ y) (h4 : y ≤ 262144) (h5 : 0 ≤ n) (h6 : n ≤ 8192) : Calls Try.prog 15 #[.agg #[.int .i64 x, .int .i64 y, .int .i64 n, .int .i64 0]] w fun e w' => e = .returned (.bool true) ∧ Grows w w' := by
  go_enter Try.func15, Try.ntmps15
  go_wp2_with (go_at_call 23; refine (gain_any _ _ (by omega) (by omega)).mono ?_; rintro e w' ⟨rfl, rfl⟩)
  go_ret
  exact ⟨rfl, (Below.refl _ _).alloc (Nat.le_refl _) _⟩
set_option maxHeartbeats 4000000 in
theorem sane_any (w : World) : Calls Try.prog 6 #[] w fun e w' => e = .returned (.bool true) ∧ Grows w w' := by
  have e1 : (stepF 65536 0 32768 16384 2 0 64).g = 32768 := by decide
  have e2 : (stepF 65536 0 32768 16384 2 0 64).q = 2 := by decide
  have e3 : (stepF 65536 0 32768 16384 2 0 64).x = 65536 := by decide
  have e4 : (stepF 65536 0 32768 16384 2 0 64).y = 32768 := by decide
  have e5 : (stepF 65536 0 32768 16384 2 0 64).n = 64 := by decide
  have e6 : (stepF 65536 0 32768 16384 2 0 64).e = 0 := by decide
  have e7 : quantaF 0 2 32768 16384 2 65536 = 6 := by decide
  go_enter Try.func6, Try.ntmps6
  go_wp2_with fail
  refine (step_any 65536 0 32768 16384 2 0 64 _).mono ?_
  rintro e w1 ⟨rfl, hq⟩
  simp only [e1, e2, e3, e4, e5, e6]
  have k1 := Blk.grows (Blk.new _ _ _) hq
  have hB := below_grows ((Below.refl w.heap.size w).alloc (Nat.le_refl _) _) (by simp) hq
  have hz := k1.lt
  have x1 := k1.cell
  clear hq
  go_wp2_with fail
  refine (quanta_any _ _ _ _ _ _ _).mono ?_
  rintro e w2 ⟨rfl, hq⟩
  replace hB := below_grows ((hB.alloc hB.size _).alloc (by simp <;> omega) _) (by simp <;> omega) hq
  go_wp2
  go_ret
  exact ⟨rfl, hB⟩
end Go.Proofs.Ytgmbgbjpakpihaa
