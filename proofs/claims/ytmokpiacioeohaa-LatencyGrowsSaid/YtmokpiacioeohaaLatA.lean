/-
  Contracts of layer 26's small functions: rate, many, Mod, Frames, Of, Total, of the program and of the reference: what each returns, and that it writes to no old memory.
-/
import Derived.Test.YtmokpiacioeohaaWords
import Derived.Test.YtmokpiacioeohaaFrame
import Derived.WalkLawsBesides
namespace Go.Proofs.Ytmokpiacioeohaa
open Go.RowKit

def rateB (n : Int) : Bool := decide (1000 ≤ n) && decide (n ≤ 768000)
def manyB (n : Int) : Bool := decide (0 ≤ n) && decide (n ≤ 1099511627776)
theorem rateB_true {n : Int} (h : rateB n = true) : 1000 ≤ n ∧ n ≤ 768000 := by simpa [rateB] using h
theorem manyB_true {n : Int} (h : manyB n = true) : 0 ≤ n ∧ n ≤ 1099511627776 := by simpa [manyB] using h

theorem rate_any (n : Int) (w : World) : Calls Try.prog 20 #[.int .i64 n] w fun e w' => e = .returned (.bool (rateB n)) ∧ w = w' := by
  go_enter Try.func20, Try.ntmps20
  go_wp2
  all_goals (go_ret; refine ⟨ret_bool ?_, rfl⟩; simp [rateB]; try omega)

theorem few_any (n : Int) (w : World) : Calls Try.prog 23 #[.int .i64 n] w fun e w' => e = .returned (.bool (manyB n)) ∧ w = w' := by
  go_enter Try.func23, Try.ntmps23
  go_wp2
  all_goals (go_ret; refine ⟨ret_bool ?_, rfl⟩; simp [manyB]; try omega)

theorem rrate_any (n : Int) (w : World) : Calls Try.prog 22 #[.int .i64 n] w fun e w' => e = .returned (.bool (rateB n)) ∧ w = w' := by
  go_enter Try.func22, Try.ntmps22
  go_wp2
  all_goals (go_ret; refine ⟨ret_bool ?_, rfl⟩; simp [rateB]; try omega)

theorem rmany_any (n : Int) (w : World) : Calls Try.prog 21 #[.int .i64 n] w fun e w' => e = .returned (.bool (manyB n)) ∧ w = w' := by
  go_enter Try.func21, Try.ntmps21
  go_wp2
  all_goals (go_ret; refine ⟨ret_bool ?_, rfl⟩; simp [manyB]; try omega)

theorem tmod_eq (v n : Int) (hn : 1 ≤ n) : (v.tmod n < 0 → v.tmod n + n = v % n) ∧ (0 ≤ v.tmod n → v.tmod n = v % n) := by
  have h1 : v.tmod n = if 0 ≤ v ∨ n ∣ v then v % n else v % n - n := by
    rw [Int.tmod_eq_emod]
    split <;> simp <;> omega
  have h2 := Int.emod_nonneg v (b := n) (by omega)
  have h3 := Int.emod_lt_of_pos v (b := n) (by omega)
  split at h1 <;> omega
theorem mod_any (v n : Int) (w : World) (hn : 1 ≤ n) (hn2 : n ≤ 9223372036854775807) : Calls Try.prog 8 #[.int .i64 v, .int .i64 n] w fun e w' => e = .returned (.int .i64 (v % n)) ∧ w = w' := by
  have h1 := Int.tmod_lt_of_pos v (show 0 < n by omega)
  have h2 := Int.lt_tmod_of_pos v (show 0 < n by omega)
  have H := tmod_eq v n hn
  obtain ⟨ha, hb⟩ := H
  have Ha := Lib.hid ha
  have Hb := Lib.hid hb
  clear ha hb
  go_enter Try.func8, Try.ntmps8
  go_wp2
  all_goals go_ret
  all_goals refine ⟨ret_int ?_, rfl⟩
  · exact Ha.out (by assumption)
  · exact Hb.out (by assumption)

def framesF (n a b : Int) : Int := if manyB n && rateB a && rateB b then (n * b + a - 1) / a else 0
theorem mul_bd {n b : Int} (h0 : 0 ≤ n) (h1 : n ≤ 1099511627776) (h2 : 1000 ≤ b) (h3 : b ≤ 768000) : 0 ≤ n * b ∧ n * b ≤ 844424930131968000 :=
  ⟨Int.mul_nonneg h0 (by omega), by
    have := Int.mul_le_mul h1 h3 (by omega) (by omega)
    omega⟩

set_option maxHeartbeats 400000 in
theorem frames_any (n a b : Int) (w : World) : Calls Try.prog 9 #[.int .i64 n, .int .i64 a, .int .i64 b] w fun e w' => e = .returned (.int .i64 (framesF n a b)) ∧ w = w' := by
  by_cases hall : (manyB n && rateB a && rateB b) = true
  · have hf : framesF n a b = (n * b + a - 1) / a := by rw [framesF, if_pos hall]
    simp only [Bool.and_eq_true] at hall
    obtain ⟨⟨h1, h2⟩, h3⟩ := hall
    obtain ⟨h4, h5⟩ := manyB_true h1
    obtain ⟨h6, h7⟩ := rateB_true h2
    obtain ⟨h8, h9⟩ := rateB_true h3
    obtain ⟨h10, h11⟩ := mul_bd h4 h5 h8 h9
    rw [hf]
    clear hf
    go_enter Try.func9, Try.ntmps9
    go_wp2_with ((go_at_call 20; refine (rate_any _ _).mono ?_; rintro e w' ⟨rfl, rfl⟩))
    go_ret
    exact ⟨rfl, rfl⟩
  · have hf : framesF n a b = 0 := by rw [framesF, if_neg hall]
    rw [hf]
    have Hall := Lib.hid hall
    clear hf hall
    go_enter Try.func9, Try.ntmps9
    go_wp2_with ((go_at_call 20; refine (rate_any _ _).mono ?_; rintro e w' ⟨rfl, rfl⟩))
    all_goals first | (go_ret; exact ⟨rfl, rfl⟩) | (exfalso; go_tidy; have h := Hall.out; clear Hall; simp_all [manyB]; done)

set_option maxHeartbeats 400000 in
theorem rframes_any (n a b : Int) (w : World) : Calls Try.prog 10 #[.int .i64 n, .int .i64 a, .int .i64 b] w fun e w' => e = .returned (.int .i64 (framesF n a b)) ∧ w = w' := by
  by_cases hall : (manyB n && rateB a && rateB b) = true
  · have hf : framesF n a b = (n * b + a - 1) / a := by rw [framesF, if_pos hall]
    simp only [Bool.and_eq_true] at hall
    obtain ⟨⟨h1, h2⟩, h3⟩ := hall
    obtain ⟨h4, h5⟩ := manyB_true h1
    obtain ⟨h6, h7⟩ := rateB_true h2
    obtain ⟨h8, h9⟩ := rateB_true h3
    obtain ⟨h10, h11⟩ := mul_bd h4 h5 h8 h9
    rw [hf]
    clear hf
    go_enter Try.func10, Try.ntmps10
    go_wp2_with (first | (go_at_call 22; refine (rrate_any _ _).mono ?_; rintro e w' ⟨rfl, rfl⟩) | (go_at_call 21; refine (rmany_any _ _).mono ?_; rintro e w' ⟨rfl, rfl⟩))
    go_ret
    exact ⟨rfl, rfl⟩
  · have hf : framesF n a b = 0 := by rw [framesF, if_neg hall]
    rw [hf]
    have Hall := Lib.hid hall
    clear hf hall
    go_enter Try.func10, Try.ntmps10
    go_wp2_with (first | (go_at_call 22; refine (rrate_any _ _).mono ?_; rintro e w' ⟨rfl, rfl⟩) | (go_at_call 21; refine (rmany_any _ _).mono ?_; rintro e w' ⟨rfl, rfl⟩))
    all_goals first | (go_ret; exact ⟨rfl, rfl⟩) | (exfalso; go_tidy; have h := Hall.out; clear Hall; simp_all [manyB]; done)

def okJ (m r d ring per tgt lat : Int) : Bool := rateB m && rateB r && rateB d && decide (16 ≤ per) && decide (per ≤ 8192) && manyB ring && manyB tgt && manyB lat
def sel (o : Bool) (x : Int) : Int := if o then x else 0
def errJ (m r d ring per tgt lat : Int) : Int := if okJ m r d ring per tgt lat then 0 else 2

set_option maxHeartbeats 4000000 in
theorem of_any_yes (m r d ring per tgt lat : Int) (w : World) (h : okJ m r d ring per tgt lat = true) :
    Calls Try.prog 11 #[.agg #[.int .i64 m, .int .i64 r, .int .i64 d, .int .i64 ring, .int .i64 per, .int .i64 tgt, .int .i64 lat]] w fun e w' =>
      e = .returned (.tuple #[.agg #[.int .i64 (framesF ring r m), .int .i64 (framesF 2 r m), .int .i64 per, .int .i64 tgt, .int .i64 (framesF lat d m)], .int .i64 0]) ∧ Below w.heap.size w w' := by
  simp only [okJ, Bool.and_eq_true, decide_eq_true_eq] at h
  obtain ⟨⟨⟨⟨⟨⟨⟨h1, h2⟩, h3⟩, h4⟩, h5⟩, h6⟩, h7⟩, h8⟩ := h
  have d1 : decide (per < 16) = false := by simp; omega
  have d2 : decide (8192 < per) = false := by simp; omega
  have d3 := manyB_true h6
  have d4 := manyB_true h7
  have d5 := manyB_true h8
  obtain ⟨d31, d32⟩ := d3
  obtain ⟨d41, d42⟩ := d4
  obtain ⟨d51, d52⟩ := d5
  go_enter Try.func11, Try.ntmps11
  go_wp2_with (first | (go_at_call 20; refine (rate_any _ _).mono ?_; rintro e w' ⟨rfl, rfl⟩) | (go_at_call 23; refine (few_any _ _).mono ?_; rintro e w' ⟨rfl, rfl⟩))
  refine wp_region_mix (fun w' => Below w.heap.size w w' ∧ Blk w' w.heap.size 27 #[.int .i64 m, .int .i64 r, .int .i64 d, .int .i64 ring, .int .i64 per, .int .i64 tgt, .int .i64 lat] ∧ Blk w' (w.heap.size + 1) 29 #[.int .i64 0, .int .i64 0, .int .i64 0, .int .i64 0, .int .i64 0]) [] 24 77 (by kernel_rfl) (by kernel_rfl) rfl ?_ ?_ ?_ ?_
  · exact fun w1 w2 ⟨h1, h2, h3⟩ hg => ⟨below_grows h1 (Nat.le_refl _) hg, h2.grows hg, h3.grows hg⟩
  · intro k D h; cases h
  · exact ⟨((Below.refl _ _).alloc (Nat.le_refl _) _ |>.alloc (by simp) _).drew, ((Blk.new _ _ _).alloc _).drew, (blk_new2 _ _ _ _).drew⟩
  · simp only [List.take_succ_cons, List.take_zero, List.drop_succ_cons, List.drop_zero]
    iterate 24
      refine calm_plain rfl rfl (v := ?_) (a' := ?_) (fun w1 hw1 => ?_) ?_ ?_
      rotate_left 2
      · obtain ⟨hb, hk1, hk2⟩ := hw1
        have c1 := hk1.cell
        go_simp
        first | exact calm_val | (refine calm_quiet ?_; exact frames_any _ _ _ _)
      · simp only [Act.put, List.setIfInBounds_toArray, List.set_cons_succ, List.set_cons_zero]
        rfl
    refine calm_done ?_
    intro w1 ⟨hb, _, hk2⟩ _
    have c2 := hk2.cell
    have f2 := hk2.frozen
    go_wp2
    refine bodyPost_ret (v := .tuple #[.agg #[.int .i64 (framesF ring r m), .int .i64 (framesF 2 r m), .int .i64 per, .int .i64 tgt, .int .i64 (framesF lat d m)], .int .i64 0]) ?_ rfl ⟨rfl, ?_⟩
    · simp [results, Try.results11, go_sem, c2]
    · repeat refine Below.setCell ?_ (Nat.le_succ _) _
      exact hb
set_option maxHeartbeats 4000000 in
theorem of_any_no (m r d ring per tgt lat : Int) (w : World) (h : okJ m r d ring per tgt lat = false) :
    Calls Try.prog 11 #[.agg #[.int .i64 m, .int .i64 r, .int .i64 d, .int .i64 ring, .int .i64 per, .int .i64 tgt, .int .i64 lat]] w fun e w' => e = .returned (.tuple #[.agg #[.int .i64 0, .int .i64 0, .int .i64 0, .int .i64 0, .int .i64 0], .int .i64 2]) ∧ Below w.heap.size w w' := by
  have H := Lib.hid h
  clear h
  go_enter Try.func11, Try.ntmps11
  go_wp2_with (first | (go_at_call 20; refine (rate_any _ _).mono ?_; rintro e w' ⟨rfl, rfl⟩) | (go_at_call 23; refine (few_any _ _).mono ?_; rintro e w' ⟨rfl, rfl⟩))
  all_goals first
    | (refine bodyPost_ret (v := .tuple #[.agg #[.int .i64 0, .int .i64 0, .int .i64 0, .int .i64 0, .int .i64 0], .int .i64 2]) (by simp [results, Try.results11, go_sem]) rfl ⟨rfl, (Below.refl _ _).alloc (Nat.le_refl _) _ |>.alloc (by simp) _⟩)
    | (exfalso; go_tidy; have h := H.out; clear H; simp_all [okJ]; done)
theorem of_any (m r d ring per tgt lat : Int) (w : World) :
    Calls Try.prog 11 #[.agg #[.int .i64 m, .int .i64 r, .int .i64 d, .int .i64 ring, .int .i64 per, .int .i64 tgt, .int .i64 lat]] w fun e w' => e = .returned (.tuple #[.agg #[.int .i64 (sel (okJ m r d ring per tgt lat) (framesF ring r m)), .int .i64 (sel (okJ m r d ring per tgt lat) (framesF 2 r m)), .int .i64 (sel (okJ m r d ring per tgt lat) per), .int .i64 (sel (okJ m r d ring per tgt lat) tgt), .int .i64 (sel (okJ m r d ring per tgt lat) (framesF lat d m))], .int .i64 (errJ m r d ring per tgt lat)]) ∧ Below w.heap.size w w' := by
  cases h : okJ m r d ring per tgt lat
  · simp only [sel, errJ, h]
    exact of_any_no m r d ring per tgt lat w h
  · simp only [sel, errJ, h]
    exact of_any_yes m r d ring per tgt lat w h

set_option maxHeartbeats 4000000 in
theorem rof_any_yes (m r d ring per tgt lat : Int) (w : World) (h : okJ m r d ring per tgt lat = true) :
    Calls Try.prog 12 #[.agg #[.int .i64 m, .int .i64 r, .int .i64 d, .int .i64 ring, .int .i64 per, .int .i64 tgt, .int .i64 lat]] w fun e w' =>
      e = .returned (.tuple #[.agg #[.int .i64 (framesF ring r m), .int .i64 (framesF 2 r m), .int .i64 per, .int .i64 tgt, .int .i64 (framesF lat d m)], .int .i64 0]) ∧ Below w.heap.size w w' := by
  simp only [okJ, Bool.and_eq_true, decide_eq_true_eq] at h
  obtain ⟨⟨⟨⟨⟨⟨⟨h1, h2⟩, h3⟩, h4⟩, h5⟩, h6⟩, h7⟩, h8⟩ := h
  have d1 : decide (per < 16) = false := by simp; omega
  have d2 : decide (8192 < per) = false := by simp; omega
  have d3 := manyB_true h6
  have d4 := manyB_true h7
  have d5 := manyB_true h8
  obtain ⟨d31, d32⟩ := d3
  obtain ⟨d41, d42⟩ := d4
  obtain ⟨d51, d52⟩ := d5
  go_enter Try.func12, Try.ntmps12
  go_wp2_with (first | (go_at_call 22; refine (rrate_any _ _).mono ?_; rintro e w' ⟨rfl, rfl⟩) | (go_at_call 21; refine (rmany_any _ _).mono ?_; rintro e w' ⟨rfl, rfl⟩))
  refine wp_region_mix (fun w' => Below w.heap.size w w' ∧ Blk w' w.heap.size 27 #[.int .i64 m, .int .i64 r, .int .i64 d, .int .i64 ring, .int .i64 per, .int .i64 tgt, .int .i64 lat] ∧ Blk w' (w.heap.size + 1) 29 #[.int .i64 0, .int .i64 0, .int .i64 0, .int .i64 0, .int .i64 0]) [] 24 73 (by kernel_rfl) (by kernel_rfl) rfl ?_ ?_ ?_ ?_
  · exact fun w1 w2 ⟨h1, h2, h3⟩ hg => ⟨below_grows h1 (Nat.le_refl _) hg, h2.grows hg, h3.grows hg⟩
  · intro k D h; cases h
  · exact ⟨((Below.refl _ _).alloc (Nat.le_refl _) _ |>.alloc (by simp) _).drew, ((Blk.new _ _ _).alloc _).drew, (blk_new2 _ _ _ _).drew⟩
  · simp only [List.take_succ_cons, List.take_zero, List.drop_succ_cons, List.drop_zero]
    iterate 24
      refine calm_plain rfl rfl (v := ?_) (a' := ?_) (fun w1 hw1 => ?_) ?_ ?_
      rotate_left 2
      · obtain ⟨hb, hk1, hk2⟩ := hw1
        have c1 := hk1.cell
        go_simp
        first | exact calm_val | (refine calm_quiet ?_; exact rframes_any _ _ _ _)
      · simp only [Act.put, List.setIfInBounds_toArray, List.set_cons_succ, List.set_cons_zero]
        rfl
    refine calm_done ?_
    intro w1 ⟨hb, _, hk2⟩ _
    have c2 := hk2.cell
    have f2 := hk2.frozen
    go_wp2
    refine bodyPost_ret (v := .tuple #[.agg #[.int .i64 (framesF ring r m), .int .i64 (framesF 2 r m), .int .i64 per, .int .i64 tgt, .int .i64 (framesF lat d m)], .int .i64 0]) ?_ rfl ⟨rfl, ?_⟩
    · simp [results, Try.results12, go_sem, c2]
    · repeat refine Below.setCell ?_ (Nat.le_succ _) _
      exact hb
set_option maxHeartbeats 4000000 in
theorem rof_any_no (m r d ring per tgt lat : Int) (w : World) (h : okJ m r d ring per tgt lat = false) :
    Calls Try.prog 12 #[.agg #[.int .i64 m, .int .i64 r, .int .i64 d, .int .i64 ring, .int .i64 per, .int .i64 tgt, .int .i64 lat]] w fun e w' => e = .returned (.tuple #[.agg #[.int .i64 0, .int .i64 0, .int .i64 0, .int .i64 0, .int .i64 0], .int .i64 2]) ∧ Below w.heap.size w w' := by
  have H := Lib.hid h
  clear h
  go_enter Try.func12, Try.ntmps12
  go_wp2_with (first | (go_at_call 22; refine (rrate_any _ _).mono ?_; rintro e w' ⟨rfl, rfl⟩) | (go_at_call 21; refine (rmany_any _ _).mono ?_; rintro e w' ⟨rfl, rfl⟩))
  all_goals first
    | (refine bodyPost_ret (v := .tuple #[.agg #[.int .i64 0, .int .i64 0, .int .i64 0, .int .i64 0, .int .i64 0], .int .i64 2]) (by simp [results, Try.results12, go_sem]) rfl ⟨rfl, (Below.refl _ _).alloc (Nat.le_refl _) _ |>.alloc (by simp) _⟩)
    | (exfalso; go_tidy; have h := H.out; clear H; simp_all [okJ]; done)
theorem rof_any (m r d ring per tgt lat : Int) (w : World) :
    Calls Try.prog 12 #[.agg #[.int .i64 m, .int .i64 r, .int .i64 d, .int .i64 ring, .int .i64 per, .int .i64 tgt, .int .i64 lat]] w fun e w' => e = .returned (.tuple #[.agg #[.int .i64 (sel (okJ m r d ring per tgt lat) (framesF ring r m)), .int .i64 (sel (okJ m r d ring per tgt lat) (framesF 2 r m)), .int .i64 (sel (okJ m r d ring per tgt lat) per), .int .i64 (sel (okJ m r d ring per tgt lat) tgt), .int .i64 (sel (okJ m r d ring per tgt lat) (framesF lat d m))], .int .i64 (errJ m r d ring per tgt lat)]) ∧ Below w.heap.size w w' := by
  cases h : okJ m r d ring per tgt lat
  · simp only [sel, errJ, h]
    exact rof_any_no m r d ring per tgt lat w h
  · simp only [sel, errJ, h]
    exact rof_any_yes m r d ring per tgt lat w h

def totalF (a b c d e : Int) : Int := if manyB a && manyB b && manyB c && manyB d && manyB e then a + b + c + d + e else 0

set_option maxHeartbeats 4000000 in
theorem total_any (a b c d e : Int) (w : World) : Calls Try.prog 13 #[.agg #[.int .i64 a, .int .i64 b, .int .i64 c, .int .i64 d, .int .i64 e]] w fun r w' => r = .returned (.int .i64 (totalF a b c d e)) ∧ Below w.heap.size w w' := by
  have i0 : ∀ x0 x1 x2 x3 x4 w, (Instr.index 56 (.agg #[x0, x1, x2, x3, x4]) (.int .i64 0)).run Try.prog w = .ok x0 w := fun _ _ _ _ _ _ => by kernel_rfl
  have i1 : ∀ x0 x1 x2 x3 x4 w, (Instr.index 56 (.agg #[x0, x1, x2, x3, x4]) (.int .i64 1)).run Try.prog w = .ok x1 w := fun _ _ _ _ _ _ => by kernel_rfl
  have i2 : ∀ x0 x1 x2 x3 x4 w, (Instr.index 56 (.agg #[x0, x1, x2, x3, x4]) (.int .i64 2)).run Try.prog w = .ok x2 w := fun _ _ _ _ _ _ => by kernel_rfl
  have i3 : ∀ x0 x1 x2 x3 x4 w, (Instr.index 56 (.agg #[x0, x1, x2, x3, x4]) (.int .i64 3)).run Try.prog w = .ok x3 w := fun _ _ _ _ _ _ => by kernel_rfl
  have i4 : ∀ x0 x1 x2 x3 x4 w, (Instr.index 56 (.agg #[x0, x1, x2, x3, x4]) (.int .i64 4)).run Try.prog w = .ok x4 w := fun _ _ _ _ _ _ => by kernel_rfl
  go_enter Try.func13, Try.ntmps13
  go_wp2
  refine wp_loop_rounds 6 ?_
  rw [rounds_succ]; go_wp2
  iterate 5 all_goals (try (rw [rounds_succ]; go_wp2))
  all_goals (go_ret; refine ⟨ret_int ?_, ?_⟩)
  any_goals (simp only [totalF]; split <;> (rename_i h; simp only [manyB, Bool.and_eq_true, decide_eq_true_eq] at h; omega))
  all_goals repeat (first | exact Below.refl _ _ | refine Below.alloc ?_ (by simp) _ | apply Below.drew)

set_option maxHeartbeats 4000000 in
theorem rtotal_any (a b c d e : Int) (w : World) : Calls Try.prog 14 #[.agg #[.int .i64 a, .int .i64 b, .int .i64 c, .int .i64 d, .int .i64 e]] w fun r w' => r = .returned (.int .i64 (totalF a b c d e)) ∧ Below w.heap.size w w' := by
  go_enter Try.func14, Try.ntmps14
  go_wp2
  refine wp_loop_rounds 6 ?_
  rw [rounds_succ]; go_wp2
  iterate 5 all_goals (try (rw [rounds_succ]; go_wp2))
  all_goals (go_ret; refine ⟨ret_int ?_, ?_⟩)
  any_goals (simp only [totalF]; split <;> (rename_i h; simp only [manyB, Bool.and_eq_true, decide_eq_true_eq] at h; omega))
  all_goals repeat (first | exact Below.refl _ _ | refine Below.alloc ?_ (by simp) _ | apply Below.drew)

end Go.Proofs.Ytmokpiacioeohaa
