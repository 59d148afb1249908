/-
  IntsetMakes, for every input: the law returns true, and each argument reads behind the call as it read before. No condition.
-/
import Derived.Test.YtejdaodchaeglaaSpJ
import Derived.Test.YtejdaodchaeglaaSpO
namespace Go.Proofs.Ytejdaodchaeglaa
open Go.ChangeShapes Go.WideShapes Go.ChangeAt Go.RowKit
namespace IntsetMakes
theorem makeF_len (l : List Sp) : (makeF l).1.length ≤ 64 := by
  unfold makeF
  split
  · split
    · simp
    · simp only []; omega
  · simp
set_option maxRecDepth 100000 in
set_option maxHeartbeats 16000000 in
theorem walk (A : Option Addr) (c : Nat) (l : List Sp) (A2 : Option Addr) (c2 : Nat) (l2 : List Sp) (n : Int) (w : World) (hs : Sps w A l) (hl : l.length ≤ 9223372036854775807) (hs2 : Sps w A2 l2) (hl2 : l2.length ≤ 9223372036854775807) :
    Calls Try.prog 3 #[.slice A l.length c, .agg #[.slice A2 l2.length c2], .int .i64 n] w fun e w' => e = .returned (.bool true) ∧ Below w.heap.size w w' := by
  have k4 := Blk.new w 24 #[.slice A2 l2.length c2]
  have hB := (Below.refl w.heap.size w).alloc (Nat.le_refl _) (Obj.cells #[.slice A2 l2.length c2] 24)
  go_enter Try.func3, Try.ntmps3
  go_upto_region 1 with fail
  replace hs := hs.grows hB
  replace hs2 := hs2.grows hB
  generalize World.alloc w _ = w1 at *
  go_wp2_with fail
  refine (sane_any _).mono ?_
  rintro e w2 ⟨rfl, hq⟩
  replace hB := below_grows hB (Nat.le_refl _) hq
  replace k4 := k4.grows hq
  replace hs := hs.grows hq
  replace hs2 := hs2.grows hq
  clear hq
  have x4 := k4.cell 0
  by_cases h200 : 200 < l.length
  · go_wp2
    go_ret
    exact ⟨rfl, hB⟩
  go_wp2_with fail
  refine (keep_any A2 c2 l2 _ hl2).mono ?_
  rintro e w3 ⟨rfl, hq⟩
  replace hB := below_grows hB (Nat.le_refl _) hq
  replace k4 := k4.grows hq
  replace hs := hs.grows hq
  replace hs2 := hs2.grows hq
  clear hq x4
  by_cases h70 : l2.length ≤ 70
  rotate_left
  · have hf : decide (l2.length ≤ 70) = false := by simpa using h70
    simp only [hf]
    go_wp2
    go_ret
    exact ⟨rfl, hB⟩
  have hf : decide (l2.length ≤ 70) = true := by simpa using h70
  simp only [hf]
  clear hf h70
  have hol := makeF_len l
  obtain ⟨o, er, hm⟩ : ∃ o er, makeF l = (o, er) := ⟨_, _, rfl⟩
  rw [hm] at hol
  simp only [] at hol
  go_wp2_with fail
  refine (make_any A c l _ hs (by omega)).mono ?_
  rw [hm]
  rintro e W1 ⟨⟨v, rfl, A3, c3, rfl, -, hs3⟩, hq⟩
  simp only [] at hs3 ⊢
  replace hB := below_grows hB (Nat.le_refl _) hq
  replace k4 := k4.grows hq
  replace hs := hs.grows hq
  replace hs2 := hs2.grows hq
  clear hq
  have k7 := Blk.new W1 24 #[.slice A3 o.length c3]
  have hq := (Below.refl W1.heap.size W1).alloc (Nat.le_refl _) (Obj.cells #[.slice A3 o.length c3] 24)
  replace hB := below_grows hB (Nat.le_refl _) hq
  replace k4 := k4.grows hq
  replace hs := hs.grows hq
  replace hs2 := hs2.grows hq
  replace hs3 := hs3.grows hq
  clear hq
  go_upto_region 6 with fail
  generalize World.alloc W1 _ = W4 at *
  generalize W1.heap.size = G7 at *
  clear W1
  go_wp2_with fail
  refine (rmake_any A c l _ hs (by omega)).mono ?_
  rw [hm]
  rintro e W1 ⟨⟨v, rfl, A4, c4, rfl, -, hs4⟩, hq⟩
  simp only [] at hs4 ⊢
  replace hB := below_grows hB (Nat.le_refl _) hq
  replace k4 := k4.grows hq
  replace k7 := k7.grows hq
  replace hs := hs.grows hq
  replace hs2 := hs2.grows hq
  replace hs3 := hs3.grows hq
  clear hq
  have k9 := Blk.new W1 24 #[.slice A4 o.length c4]
  have hq := (Below.refl W1.heap.size W1).alloc (Nat.le_refl _) (Obj.cells #[.slice A4 o.length c4] 24)
  replace hB := below_grows hB (Nat.le_refl _) hq
  replace k4 := k4.grows hq
  replace k7 := k7.grows hq
  replace hs := hs.grows hq
  replace hs2 := hs2.grows hq
  replace hs3 := hs3.grows hq
  replace hs4 := hs4.grows hq
  clear hq
  go_upto_region 7 with fail
  generalize World.alloc W1 _ = W4 at *
  generalize W1.heap.size = G9 at *
  clear W1
  clear hm
  obtain ⟨S, HI, HO⟩ : ∃ S : Ran → (Nat → Value) → World → Prop, Hid (∀ L vs w', (Grows W4 w' ∧ KnS [some (.int .i64 er), some (.int .i64 er), some (.bool true), some (.bool true), some (.agg #[.slice A3 o.length c3]), some (.agg #[.slice A4 o.length c4]), some (.bool true), some (.bool true), some (.bool true), some (.agg #[.slice A2 l2.length c2]), some (.bool (okS l2)), some (.agg #[.slice A2 l2.length c2]), some (.bool (okS l2)), some (.bool true), some (.bool true), some (.bool true), some (.agg #[.slice A2 l2.length c2]), some (.int .i64 n), some (.bool (hasF l2 n)), some (.agg #[.slice A2 l2.length c2]), some (.int .i64 n), some (.bool (hasF l2 n)), some (.bool true), some (.bool true), some (.bool true), some (.agg #[.slice A4 o.length c4]), some (.int .i64 n), some (.bool (hasF o n)), some (.agg #[.slice A4 o.length c4]), some (.int .i64 n), some (.bool (hasF o n)), some (.bool true), some (.bool true), some (.bool true)] L vs) → S L vs w') ∧ Hid (∀ L vs w', S L vs w' → (Grows W4 w' ∧ KnS [some (.int .i64 er), some (.int .i64 er), some (.bool true), some (.bool true), some (.agg #[.slice A3 o.length c3]), some (.agg #[.slice A4 o.length c4]), some (.bool true), some (.bool true), some (.bool true), some (.agg #[.slice A2 l2.length c2]), some (.bool (okS l2)), some (.agg #[.slice A2 l2.length c2]), some (.bool (okS l2)), some (.bool true), some (.bool true), some (.bool true), some (.agg #[.slice A2 l2.length c2]), some (.int .i64 n), some (.bool (hasF l2 n)), some (.agg #[.slice A2 l2.length c2]), some (.int .i64 n), some (.bool (hasF l2 n)), some (.bool true), some (.bool true), some (.bool true), some (.agg #[.slice A4 o.length c4]), some (.int .i64 n), some (.bool (hasF o n)), some (.agg #[.slice A4 o.length c4]), some (.int .i64 n), some (.bool (hasF o n)), some (.bool true), some (.bool true), some (.bool true)] L vs)) := ⟨fun L vs w' => Grows W4 w' ∧ KnS [some (.int .i64 er), some (.int .i64 er), some (.bool true), some (.bool true), some (.agg #[.slice A3 o.length c3]), some (.agg #[.slice A4 o.length c4]), some (.bool true), some (.bool true), some (.bool true), some (.agg #[.slice A2 l2.length c2]), some (.bool (okS l2)), some (.agg #[.slice A2 l2.length c2]), some (.bool (okS l2)), some (.bool true), some (.bool true), some (.bool true), some (.agg #[.slice A2 l2.length c2]), some (.int .i64 n), some (.bool (hasF l2 n)), some (.agg #[.slice A2 l2.length c2]), some (.int .i64 n), some (.bool (hasF l2 n)), some (.bool true), some (.bool true), some (.bool true), some (.agg #[.slice A4 o.length c4]), some (.int .i64 n), some (.bool (hasF o n)), some (.agg #[.slice A4 o.length c4]), some (.int .i64 n), some (.bool (hasF o n)), some (.bool true), some (.bool true), some (.bool true)] L vs, fun _ _ _ h => h, fun _ _ _ h => h⟩
  refine wp_region_genW S 64 (by kernel_rfl) (by kernel_rfl) rfl ?_ ?_
  · exact HI.out _ _ _ ⟨Grows.drew' _, kn_none _ _⟩
  refine gen_cons (A' := ?_) (fun vs L w1 hL hw1 => ?_) ?_ ?_
  rotate_left 1
  · obtain ⟨q0, q1⟩ := HO.out _ _ _ hw1
    refine gen_plain rfl ?_
    go_simp
    exact gr_val (HI.out _ _ _ ⟨q0, kn_known q1 rfl⟩)
  · intro vs
    simp only [Act.put, List.setIfInBounds_toArray, List.set_cons_succ, List.set_cons_zero]
    rfl
  refine gen_cons (A' := ?_) (fun vs L w1 hL hw1 => ?_) ?_ ?_
  rotate_left 1
  · obtain ⟨q0, q1⟩ := HO.out _ _ _ hw1
    refine gen_plain rfl ?_
    go_simp
    exact gr_val (HI.out _ _ _ ⟨q0, kn_known q1 rfl⟩)
  · intro vs
    simp only [Act.put, List.setIfInBounds_toArray, List.set_cons_succ, List.set_cons_zero]
    rfl
  refine gen_cons (A' := ?_) (fun vs L w1 hL hw1 => ?_) ?_ ?_
  rotate_left 1
  · obtain ⟨q0, q1⟩ := HO.out _ _ _ hw1
    refine gen_plain rfl ?_
    have l0 : L 0 = true := hL.need 0 (by kernel_rfl)
    have e0 := q1 0 _ rfl l0
    have l1 : L 1 = true := hL.need 1 (by kernel_rfl)
    have e1 := q1 1 _ rfl l1
    simp only [e0, e1]
    go_simp
    exact gr_val (HI.out _ _ _ ⟨q0, kn_known q1 rfl⟩)
  · intro vs
    simp only [Act.put, List.setIfInBounds_toArray, List.set_cons_succ, List.set_cons_zero]
    rfl
  refine gen_cons (A' := ?_) (fun vs L w1 hL hw1 => ?_) ?_ ?_
  rotate_left 1
  · obtain ⟨q0, q1⟩ := HO.out _ _ _ hw1
    refine gen_plain rfl ?_
    have l2 : L 2 = true := hL.need 2 (by kernel_rfl)
    have e2 := q1 2 _ rfl l2
    simp only [e2]
    go_simp
    exact gr_val (HI.out _ _ _ ⟨q0, kn_known q1 rfl⟩)
  · intro vs
    simp only [Act.put, List.setIfInBounds_toArray, List.set_cons_succ, List.set_cons_zero]
    rfl
  refine gen_cons (A' := ?_) (fun vs L w1 hL hw1 => ?_) ?_ ?_
  rotate_left 1
  · obtain ⟨q0, q1⟩ := HO.out _ _ _ hw1
    have l3 : L 3 = true := hL.need 3 (by kernel_rfl)
    have e3 := q1 3 _ rfl l3
    refine gen_yes ?_ ?_
    · simp only [e3]
      rfl
    have x := (k7.grows q0).cell 0
    go_simp
    exact gr_val (HI.out _ _ _ ⟨q0, kn_known q1 rfl⟩)
  · intro vs
    simp only [Act.put, List.setIfInBounds_toArray, List.set_cons_succ, List.set_cons_zero]
    rfl
  refine gen_cons (A' := ?_) (fun vs L w1 hL hw1 => ?_) ?_ ?_
  rotate_left 1
  · obtain ⟨q0, q1⟩ := HO.out _ _ _ hw1
    have l3 : L 3 = true := hL.need 3 (by kernel_rfl)
    have e3 := q1 3 _ rfl l3
    refine gen_yes ?_ ?_
    · simp only [e3]
      rfl
    have x := (k9.grows q0).cell 0
    go_simp
    exact gr_val (HI.out _ _ _ ⟨q0, kn_known q1 rfl⟩)
  · intro vs
    simp only [Act.put, List.setIfInBounds_toArray, List.set_cons_succ, List.set_cons_zero]
    rfl
  refine gen_cons (A' := ?_) (fun vs L w1 hL hw1 => ?_) ?_ ?_
  rotate_left 1
  · obtain ⟨q0, q1⟩ := HO.out _ _ _ hw1
    have l3 : L 3 = true := hL.need 3 (by kernel_rfl)
    have e3 := q1 3 _ rfl l3
    refine gen_yes ?_ ?_
    · simp only [e3]
      rfl
    have l4 : L 4 = true := hL.need 4 (by kernel_rfl)
    have e4 := q1 4 _ rfl l4
    have l5 : L 5 = true := hL.need 5 (by kernel_rfl)
    have e5 := q1 5 _ rfl l5
    simp only [e4, e5]
    go_simp
    refine gr_call ?_
    refine (ssame_eq A3 A4 c3 c4 o w1 (hs3.grows q0) (hs4.grows q0) (by omega)).mono ?_
    rintro e w2 ⟨rfl, hg⟩
    exact ⟨_, rfl, HI.out _ _ _ ⟨below_grows q0 (Nat.le_refl _) hg, kn_known q1 rfl⟩⟩
  · intro vs
    simp only [Act.put, List.setIfInBounds_toArray, List.set_cons_succ, List.set_cons_zero]
    rfl
  refine gen_cons (A' := ?_) (fun vs L w1 hL hw1 => ?_) ?_ ?_
  rotate_left 1
  · obtain ⟨q0, q1⟩ := HO.out _ _ _ hw1
    refine gen_plain rfl ?_
    have l3 : L 3 = true := hL.need 3 (by kernel_rfl)
    have e3 := q1 3 _ rfl l3
    have l6 : L 6 = true := hL.need 6 (by kernel_rfl)
    have e6 := q1 6 _ rfl l6
    simp only [e3, e6]
    go_simp
    exact gr_val (HI.out _ _ _ ⟨q0, kn_known q1 rfl⟩)
  · intro vs
    simp only [Act.put, List.setIfInBounds_toArray, List.set_cons_succ, List.set_cons_zero]
    rfl
  refine gen_cons (A' := ?_) (fun vs L w1 hL hw1 => ?_) ?_ ?_
  rotate_left 1
  · obtain ⟨q0, q1⟩ := HO.out _ _ _ hw1
    refine gen_plain rfl ?_
    have l7 : L 7 = true := hL.need 7 (by kernel_rfl)
    have e7 := q1 7 _ rfl l7
    simp only [e7]
    go_simp
    exact gr_val (HI.out _ _ _ ⟨q0, kn_known q1 rfl⟩)
  · intro vs
    simp only [Act.put, List.setIfInBounds_toArray, List.set_cons_succ, List.set_cons_zero]
    rfl
  refine gen_cons (A' := ?_) (fun vs L w1 hL hw1 => ?_) ?_ ?_
  rotate_left 1
  · obtain ⟨q0, q1⟩ := HO.out _ _ _ hw1
    have l8 : L 8 = true := hL.need 8 (by kernel_rfl)
    have e8 := q1 8 _ rfl l8
    refine gen_yes ?_ ?_
    · simp only [e8]
      rfl
    have x := (k4.grows q0).cell 0
    go_simp
    exact gr_val (HI.out _ _ _ ⟨q0, kn_known q1 rfl⟩)
  · intro vs
    simp only [Act.put, List.setIfInBounds_toArray, List.set_cons_succ, List.set_cons_zero]
    rfl
  refine gen_cons (A' := ?_) (fun vs L w1 hL hw1 => ?_) ?_ ?_
  rotate_left 1
  · obtain ⟨q0, q1⟩ := HO.out _ _ _ hw1
    have l8 : L 8 = true := hL.need 8 (by kernel_rfl)
    have e8 := q1 8 _ rfl l8
    refine gen_yes ?_ ?_
    · simp only [e8]
      rfl
    have l9 : L 9 = true := hL.need 9 (by kernel_rfl)
    have e9 := q1 9 _ rfl l9
    simp only [e9]
    go_simp
    refine gr_call ?_
    refine (valid_any A2 c2 l2 w1 (hs2.grows q0) hl2).mono ?_
    rintro e w2 ⟨rfl, hg⟩
    exact ⟨_, rfl, HI.out _ _ _ ⟨below_grows q0 (Nat.le_refl _) hg, kn_known q1 rfl⟩⟩
  · intro vs
    simp only [Act.put, List.setIfInBounds_toArray, List.set_cons_succ, List.set_cons_zero]
    rfl
  refine gen_cons (A' := ?_) (fun vs L w1 hL hw1 => ?_) ?_ ?_
  rotate_left 1
  · obtain ⟨q0, q1⟩ := HO.out _ _ _ hw1
    have l8 : L 8 = true := hL.need 8 (by kernel_rfl)
    have e8 := q1 8 _ rfl l8
    refine gen_yes ?_ ?_
    · simp only [e8]
      rfl
    have x := (k4.grows q0).cell 0
    go_simp
    exact gr_val (HI.out _ _ _ ⟨q0, kn_known q1 rfl⟩)
  · intro vs
    simp only [Act.put, List.setIfInBounds_toArray, List.set_cons_succ, List.set_cons_zero]
    rfl
  refine gen_cons (A' := ?_) (fun vs L w1 hL hw1 => ?_) ?_ ?_
  rotate_left 1
  · obtain ⟨q0, q1⟩ := HO.out _ _ _ hw1
    have l8 : L 8 = true := hL.need 8 (by kernel_rfl)
    have e8 := q1 8 _ rfl l8
    refine gen_yes ?_ ?_
    · simp only [e8]
      rfl
    have l11 : L 11 = true := hL.need 11 (by kernel_rfl)
    have e11 := q1 11 _ rfl l11
    simp only [e11]
    go_simp
    refine gr_call ?_
    refine (rvalid_any A2 c2 l2 w1 (hs2.grows q0) hl2).mono ?_
    rintro e w2 ⟨rfl, hg⟩
    exact ⟨_, rfl, HI.out _ _ _ ⟨below_grows q0 (Nat.le_refl _) hg, kn_known q1 rfl⟩⟩
  · intro vs
    simp only [Act.put, List.setIfInBounds_toArray, List.set_cons_succ, List.set_cons_zero]
    rfl
  refine gen_cons (A' := ?_) (fun vs L w1 hL hw1 => ?_) ?_ ?_
  rotate_left 1
  · obtain ⟨q0, q1⟩ := HO.out _ _ _ hw1
    have l8 : L 8 = true := hL.need 8 (by kernel_rfl)
    have e8 := q1 8 _ rfl l8
    refine gen_yes ?_ ?_
    · simp only [e8]
      rfl
    have l10 : L 10 = true := hL.need 10 (by kernel_rfl)
    have e10 := q1 10 _ rfl l10
    have l12 : L 12 = true := hL.need 12 (by kernel_rfl)
    have e12 := q1 12 _ rfl l12
    simp only [e10, e12]
    go_simp
    exact gr_val (HI.out _ _ _ ⟨q0, kn_known q1 rfl⟩)
  · intro vs
    simp only [Act.put, List.setIfInBounds_toArray, List.set_cons_succ, List.set_cons_zero]
    rfl
  refine gen_cons (A' := ?_) (fun vs L w1 hL hw1 => ?_) ?_ ?_
  rotate_left 1
  · obtain ⟨q0, q1⟩ := HO.out _ _ _ hw1
    refine gen_plain rfl ?_
    have l8 : L 8 = true := hL.need 8 (by kernel_rfl)
    have e8 := q1 8 _ rfl l8
    have l13 : L 13 = true := hL.need 13 (by kernel_rfl)
    have e13 := q1 13 _ rfl l13
    simp only [e8, e13]
    go_simp
    exact gr_val (HI.out _ _ _ ⟨q0, kn_known q1 rfl⟩)
  · intro vs
    simp only [Act.put, List.setIfInBounds_toArray, List.set_cons_succ, List.set_cons_zero]
    rfl
  refine gen_cons (A' := ?_) (fun vs L w1 hL hw1 => ?_) ?_ ?_
  rotate_left 1
  · obtain ⟨q0, q1⟩ := HO.out _ _ _ hw1
    refine gen_plain rfl ?_
    have l14 : L 14 = true := hL.need 14 (by kernel_rfl)
    have e14 := q1 14 _ rfl l14
    simp only [e14]
    go_simp
    exact gr_val (HI.out _ _ _ ⟨q0, kn_known q1 rfl⟩)
  · intro vs
    simp only [Act.put, List.setIfInBounds_toArray, List.set_cons_succ, List.set_cons_zero]
    rfl
  refine gen_cons (A' := ?_) (fun vs L w1 hL hw1 => ?_) ?_ ?_
  rotate_left 1
  · obtain ⟨q0, q1⟩ := HO.out _ _ _ hw1
    have l15 : L 15 = true := hL.need 15 (by kernel_rfl)
    have e15 := q1 15 _ rfl l15
    refine gen_yes ?_ ?_
    · simp only [e15]
      rfl
    have x := (k4.grows q0).cell 0
    go_simp
    exact gr_val (HI.out _ _ _ ⟨q0, kn_known q1 rfl⟩)
  · intro vs
    simp only [Act.put, List.setIfInBounds_toArray, List.set_cons_succ, List.set_cons_zero]
    rfl
  refine gen_cons (A' := ?_) (fun vs L w1 hL hw1 => ?_) ?_ ?_
  rotate_left 1
  · obtain ⟨q0, q1⟩ := HO.out _ _ _ hw1
    have l15 : L 15 = true := hL.need 15 (by kernel_rfl)
    have e15 := q1 15 _ rfl l15
    refine gen_yes ?_ ?_
    · simp only [e15]
      rfl
    go_simp
    exact gr_val (HI.out _ _ _ ⟨q0, kn_known q1 rfl⟩)
  · intro vs
    simp only [Act.put, List.setIfInBounds_toArray, List.set_cons_succ, List.set_cons_zero]
    rfl
  refine gen_cons (A' := ?_) (fun vs L w1 hL hw1 => ?_) ?_ ?_
  rotate_left 1
  · obtain ⟨q0, q1⟩ := HO.out _ _ _ hw1
    have l15 : L 15 = true := hL.need 15 (by kernel_rfl)
    have e15 := q1 15 _ rfl l15
    refine gen_yes ?_ ?_
    · simp only [e15]
      rfl
    have l16 : L 16 = true := hL.need 16 (by kernel_rfl)
    have e16 := q1 16 _ rfl l16
    have l17 : L 17 = true := hL.need 17 (by kernel_rfl)
    have e17 := q1 17 _ rfl l17
    simp only [e16, e17]
    go_simp
    refine gr_call ?_
    refine (has_any A2 c2 l2 n w1 (hs2.grows q0) hl2).mono ?_
    rintro e w2 ⟨rfl, hg⟩
    exact ⟨_, rfl, HI.out _ _ _ ⟨below_grows q0 (Nat.le_refl _) hg, kn_known q1 rfl⟩⟩
  · intro vs
    simp only [Act.put, List.setIfInBounds_toArray, List.set_cons_succ, List.set_cons_zero]
    rfl
  refine gen_cons (A' := ?_) (fun vs L w1 hL hw1 => ?_) ?_ ?_
  rotate_left 1
  · obtain ⟨q0, q1⟩ := HO.out _ _ _ hw1
    have l15 : L 15 = true := hL.need 15 (by kernel_rfl)
    have e15 := q1 15 _ rfl l15
    refine gen_yes ?_ ?_
    · simp only [e15]
      rfl
    have x := (k4.grows q0).cell 0
    go_simp
    exact gr_val (HI.out _ _ _ ⟨q0, kn_known q1 rfl⟩)
  · intro vs
    simp only [Act.put, List.setIfInBounds_toArray, List.set_cons_succ, List.set_cons_zero]
    rfl
  refine gen_cons (A' := ?_) (fun vs L w1 hL hw1 => ?_) ?_ ?_
  rotate_left 1
  · obtain ⟨q0, q1⟩ := HO.out _ _ _ hw1
    have l15 : L 15 = true := hL.need 15 (by kernel_rfl)
    have e15 := q1 15 _ rfl l15
    refine gen_yes ?_ ?_
    · simp only [e15]
      rfl
    go_simp
    exact gr_val (HI.out _ _ _ ⟨q0, kn_known q1 rfl⟩)
  · intro vs
    simp only [Act.put, List.setIfInBounds_toArray, List.set_cons_succ, List.set_cons_zero]
    rfl
  refine gen_cons (A' := ?_) (fun vs L w1 hL hw1 => ?_) ?_ ?_
  rotate_left 1
  · obtain ⟨q0, q1⟩ := HO.out _ _ _ hw1
    have l15 : L 15 = true := hL.need 15 (by kernel_rfl)
    have e15 := q1 15 _ rfl l15
    refine gen_yes ?_ ?_
    · simp only [e15]
      rfl
    have l19 : L 19 = true := hL.need 19 (by kernel_rfl)
    have e19 := q1 19 _ rfl l19
    have l20 : L 20 = true := hL.need 20 (by kernel_rfl)
    have e20 := q1 20 _ rfl l20
    simp only [e19, e20]
    go_simp
    refine gr_call ?_
    refine (rhas_any A2 c2 l2 n w1 (hs2.grows q0) hl2).mono ?_
    rintro e w2 ⟨rfl, hg⟩
    exact ⟨_, rfl, HI.out _ _ _ ⟨below_grows q0 (Nat.le_refl _) hg, kn_known q1 rfl⟩⟩
  · intro vs
    simp only [Act.put, List.setIfInBounds_toArray, List.set_cons_succ, List.set_cons_zero]
    rfl
  refine gen_cons (A' := ?_) (fun vs L w1 hL hw1 => ?_) ?_ ?_
  rotate_left 1
  · obtain ⟨q0, q1⟩ := HO.out _ _ _ hw1
    have l15 : L 15 = true := hL.need 15 (by kernel_rfl)
    have e15 := q1 15 _ rfl l15
    refine gen_yes ?_ ?_
    · simp only [e15]
      rfl
    have l18 : L 18 = true := hL.need 18 (by kernel_rfl)
    have e18 := q1 18 _ rfl l18
    have l21 : L 21 = true := hL.need 21 (by kernel_rfl)
    have e21 := q1 21 _ rfl l21
    simp only [e18, e21]
    go_simp
    exact gr_val (HI.out _ _ _ ⟨q0, kn_known q1 rfl⟩)
  · intro vs
    simp only [Act.put, List.setIfInBounds_toArray, List.set_cons_succ, List.set_cons_zero]
    rfl
  refine gen_cons (A' := ?_) (fun vs L w1 hL hw1 => ?_) ?_ ?_
  rotate_left 1
  · obtain ⟨q0, q1⟩ := HO.out _ _ _ hw1
    refine gen_plain rfl ?_
    have l15 : L 15 = true := hL.need 15 (by kernel_rfl)
    have e15 := q1 15 _ rfl l15
    have l22 : L 22 = true := hL.need 22 (by kernel_rfl)
    have e22 := q1 22 _ rfl l22
    simp only [e15, e22]
    go_simp
    exact gr_val (HI.out _ _ _ ⟨q0, kn_known q1 rfl⟩)
  · intro vs
    simp only [Act.put, List.setIfInBounds_toArray, List.set_cons_succ, List.set_cons_zero]
    rfl
  refine gen_cons (A' := ?_) (fun vs L w1 hL hw1 => ?_) ?_ ?_
  rotate_left 1
  · obtain ⟨q0, q1⟩ := HO.out _ _ _ hw1
    refine gen_plain rfl ?_
    have l23 : L 23 = true := hL.need 23 (by kernel_rfl)
    have e23 := q1 23 _ rfl l23
    simp only [e23]
    go_simp
    exact gr_val (HI.out _ _ _ ⟨q0, kn_known q1 rfl⟩)
  · intro vs
    simp only [Act.put, List.setIfInBounds_toArray, List.set_cons_succ, List.set_cons_zero]
    rfl
  refine gen_cons (A' := ?_) (fun vs L w1 hL hw1 => ?_) ?_ ?_
  rotate_left 1
  · obtain ⟨q0, q1⟩ := HO.out _ _ _ hw1
    have l24 : L 24 = true := hL.need 24 (by kernel_rfl)
    have e24 := q1 24 _ rfl l24
    refine gen_yes ?_ ?_
    · simp only [e24]
      rfl
    have x := (k9.grows q0).cell 0
    go_simp
    exact gr_val (HI.out _ _ _ ⟨q0, kn_known q1 rfl⟩)
  · intro vs
    simp only [Act.put, List.setIfInBounds_toArray, List.set_cons_succ, List.set_cons_zero]
    rfl
  refine gen_cons (A' := ?_) (fun vs L w1 hL hw1 => ?_) ?_ ?_
  rotate_left 1
  · obtain ⟨q0, q1⟩ := HO.out _ _ _ hw1
    have l24 : L 24 = true := hL.need 24 (by kernel_rfl)
    have e24 := q1 24 _ rfl l24
    refine gen_yes ?_ ?_
    · simp only [e24]
      rfl
    go_simp
    exact gr_val (HI.out _ _ _ ⟨q0, kn_known q1 rfl⟩)
  · intro vs
    simp only [Act.put, List.setIfInBounds_toArray, List.set_cons_succ, List.set_cons_zero]
    rfl
  refine gen_cons (A' := ?_) (fun vs L w1 hL hw1 => ?_) ?_ ?_
  rotate_left 1
  · obtain ⟨q0, q1⟩ := HO.out _ _ _ hw1
    have l24 : L 24 = true := hL.need 24 (by kernel_rfl)
    have e24 := q1 24 _ rfl l24
    refine gen_yes ?_ ?_
    · simp only [e24]
      rfl
    have l25 : L 25 = true := hL.need 25 (by kernel_rfl)
    have e25 := q1 25 _ rfl l25
    have l26 : L 26 = true := hL.need 26 (by kernel_rfl)
    have e26 := q1 26 _ rfl l26
    simp only [e25, e26]
    go_simp
    refine gr_call ?_
    refine (has_any A4 c4 o n w1 (hs4.grows q0) (by omega)).mono ?_
    rintro e w2 ⟨rfl, hg⟩
    exact ⟨_, rfl, HI.out _ _ _ ⟨below_grows q0 (Nat.le_refl _) hg, kn_known q1 rfl⟩⟩
  · intro vs
    simp only [Act.put, List.setIfInBounds_toArray, List.set_cons_succ, List.set_cons_zero]
    rfl
  refine gen_cons (A' := ?_) (fun vs L w1 hL hw1 => ?_) ?_ ?_
  rotate_left 1
  · obtain ⟨q0, q1⟩ := HO.out _ _ _ hw1
    have l24 : L 24 = true := hL.need 24 (by kernel_rfl)
    have e24 := q1 24 _ rfl l24
    refine gen_yes ?_ ?_
    · simp only [e24]
      rfl
    have x := (k9.grows q0).cell 0
    go_simp
    exact gr_val (HI.out _ _ _ ⟨q0, kn_known q1 rfl⟩)
  · intro vs
    simp only [Act.put, List.setIfInBounds_toArray, List.set_cons_succ, List.set_cons_zero]
    rfl
  refine gen_cons (A' := ?_) (fun vs L w1 hL hw1 => ?_) ?_ ?_
  rotate_left 1
  · obtain ⟨q0, q1⟩ := HO.out _ _ _ hw1
    have l24 : L 24 = true := hL.need 24 (by kernel_rfl)
    have e24 := q1 24 _ rfl l24
    refine gen_yes ?_ ?_
    · simp only [e24]
      rfl
    go_simp
    exact gr_val (HI.out _ _ _ ⟨q0, kn_known q1 rfl⟩)
  · intro vs
    simp only [Act.put, List.setIfInBounds_toArray, List.set_cons_succ, List.set_cons_zero]
    rfl
  refine gen_cons (A' := ?_) (fun vs L w1 hL hw1 => ?_) ?_ ?_
  rotate_left 1
  · obtain ⟨q0, q1⟩ := HO.out _ _ _ hw1
    have l24 : L 24 = true := hL.need 24 (by kernel_rfl)
    have e24 := q1 24 _ rfl l24
    refine gen_yes ?_ ?_
    · simp only [e24]
      rfl
    have l28 : L 28 = true := hL.need 28 (by kernel_rfl)
    have e28 := q1 28 _ rfl l28
    have l29 : L 29 = true := hL.need 29 (by kernel_rfl)
    have e29 := q1 29 _ rfl l29
    simp only [e28, e29]
    go_simp
    refine gr_call ?_
    refine (rhas_any A4 c4 o n w1 (hs4.grows q0) (by omega)).mono ?_
    rintro e w2 ⟨rfl, hg⟩
    exact ⟨_, rfl, HI.out _ _ _ ⟨below_grows q0 (Nat.le_refl _) hg, kn_known q1 rfl⟩⟩
  · intro vs
    simp only [Act.put, List.setIfInBounds_toArray, List.set_cons_succ, List.set_cons_zero]
    rfl
  refine gen_cons (A' := ?_) (fun vs L w1 hL hw1 => ?_) ?_ ?_
  rotate_left 1
  · obtain ⟨q0, q1⟩ := HO.out _ _ _ hw1
    have l24 : L 24 = true := hL.need 24 (by kernel_rfl)
    have e24 := q1 24 _ rfl l24
    refine gen_yes ?_ ?_
    · simp only [e24]
      rfl
    have l27 : L 27 = true := hL.need 27 (by kernel_rfl)
    have e27 := q1 27 _ rfl l27
    have l30 : L 30 = true := hL.need 30 (by kernel_rfl)
    have e30 := q1 30 _ rfl l30
    simp only [e27, e30]
    go_simp
    exact gr_val (HI.out _ _ _ ⟨q0, kn_known q1 rfl⟩)
  · intro vs
    simp only [Act.put, List.setIfInBounds_toArray, List.set_cons_succ, List.set_cons_zero]
    rfl
  refine gen_cons (A' := ?_) (fun vs L w1 hL hw1 => ?_) ?_ ?_
  rotate_left 1
  · obtain ⟨q0, q1⟩ := HO.out _ _ _ hw1
    refine gen_plain rfl ?_
    have l24 : L 24 = true := hL.need 24 (by kernel_rfl)
    have e24 := q1 24 _ rfl l24
    have l31 : L 31 = true := hL.need 31 (by kernel_rfl)
    have e31 := q1 31 _ rfl l31
    simp only [e24, e31]
    go_simp
    exact gr_val (HI.out _ _ _ ⟨q0, kn_known q1 rfl⟩)
  · intro vs
    simp only [Act.put, List.setIfInBounds_toArray, List.set_cons_succ, List.set_cons_zero]
    rfl
  refine gen_cons (A' := ?_) (fun vs L w1 hL hw1 => ?_) ?_ ?_
  rotate_left 1
  · obtain ⟨q0, q1⟩ := HO.out _ _ _ hw1
    refine gen_plain rfl ?_
    have l32 : L 32 = true := hL.need 32 (by kernel_rfl)
    have e32 := q1 32 _ rfl l32
    simp only [e32]
    go_simp
    exact gr_val (HI.out _ _ _ ⟨q0, kn_known q1 rfl⟩)
  · intro vs
    simp only [Act.put, List.setIfInBounds_toArray, List.set_cons_succ, List.set_cons_zero]
    rfl
  refine gen_nil ?_
  intro vs L W6 hall hS
  obtain ⟨hq, q1⟩ := HO.out _ _ _ hS
  have eL := q1 33 _ rfl (hall 33 (by simp))
  clear hall hS HI HO q1
  simp only [eL]
  replace hB := below_grows hB (Nat.le_refl _) hq
  go_wp2
  go_ret
  exact ⟨rfl, hB⟩
end IntsetMakes
namespace IntsetMakes
theorem contract (H : Type) (enc : TypeId × Value → H) (W : World) (base : Nat) (args : Array Value) (ds gs : List (DataW H)) (before : List MemPlace)
    (hval0 : ∀ (j : Nat) t v, Try.f3.params[j]? = some t → args[j]? = some v → Value.okWide Try.prog W .any base t v)
    (hW : DataW.Whole enc Try.prog Try.f3.params.toList Rows.intsetMakesSpec.vars false W args.toList ds gs before)
    (hsz0 : (DataW.weightsEach Try.prog (Try.f3.params.toList ++ Rows.intsetMakesSpec.plain.varTypes Try.prog) (ds ++ gs)).all (· ≤ reachBytes) = true) :
    Calls Try.prog 3 args W fun e W' => ∃ v, e = .returned v ∧ Rows.intsetMakesSpec.post enc Try.prog Try.f3 false true false false W args v W' := by
  have key : Calls Try.prog 3 args W fun e W' => e = .returned (.bool true) ∧ Below W.heap.size W W' := by
    have hval : ∀ (j : Nat) t v, Try.f3.params[j]? = some t → args[j]? = some v → Value.okWide Try.prog W .any base t v := hval0
    obtain ⟨p, q, hA0, hV, hbe, hfz, hnd⟩ := hW
    have hA : DataW.TrodAll enc Try.prog W 0 (fun _ => true) true Try.f3.params.toList args.toList ds p := hA0
    rw [Try.params3] at hA hval
    clear hA0 hval0
    obtain ⟨v0, vs0, d0, ds0, p0, q0, hargs, rfl, rfl, h0, r0⟩ := trodAll_cons hA
    obtain ⟨v1, vs1, d1, ds1, p1, q1, rfl, rfl, rfl, h1, r1⟩ := trodAll_cons r0
    obtain ⟨v2, vs2, d2, ds2, p2, q2, rfl, rfl, rfl, h2, r2⟩ := trodAll_cons r1
    obtain ⟨rfl, rfl, rfl⟩ := trodAll_nil r2
    obtain rfl : args = #[v0, v1, v2] := by cases args; simp_all
    obtain ⟨rfl, rfl⟩ := trodVars_none hV
    have hsz : (DataW.weightsEach Try.prog (Try.f3.params.toList ++ Rows.intsetMakesSpec.plain.varTypes Try.prog) ([d0, d1, d2] ++ [])).all (· ≤ reachBytes) = true := hsz0
    rw [Try.params3] at hsz
    clear hsz0
    obtain ⟨A, c, l, rfl, hs0, hl0, _⟩ := open_spans (hval 0 22 v0 rfl rfl) h0
    obtain ⟨A2, c2, l2, rfl, hs1, hl1, _⟩ := open_set (hval 1 24 v1 rfl rfl) h1
    obtain ⟨a2, rfl, rfl, rfl, w2⟩ := open_int Try.underlying3 (hval 2 3 v2 rfl rfl) h2
    exact IntsetMakes.walk A c l A2 c2 l2 a2 W hs0 hl0 hs1 hl1
  refine key.mono fun e W' ⟨he, hb⟩ => ⟨_, he, law_post laid_out hW ?_ rfl (by kernel_rfl) Try.underlying4 ?_ hb⟩
  · rw [Try.params3]
    intro t ht
    simp only [List.mem_cons, List.not_mem_nil, or_false] at ht
    rcases ht with rfl | rfl | rfl <;> exact ⟨by kernel_rfl, of_decide_eq_true (by kernel_rfl)⟩
  · rw [Try.params3]
    intro ds hl
    match ds, hl with
    | [_, _, _], _ => rfl

set_option maxRecDepth 100000 in
theorem lifted (os : Os) (started : os.Started) (H : Type) (enc : TypeId × Value → H) :
    ReturnsInHanded {} Try.checked os 3 .any (Rows.intsetMakesSpec.pre6 enc Try.prog Try.f3 Rows.intsetMakesRow.domain false) (Rows.intsetMakesSpec.post enc Try.prog Try.f3 false true false false) := by
  refine returnsInHanded_of_change_sized (C := Try.checked) own_knob started (by kernel_rfl) Try.func3
    (ChangeSpec.witness6 (enc := enc) (C := Try.checked) false ⟨#[], #[.slice none 0 0, .agg #[.slice none 0 0], .int .i64 0], []⟩ 8 (by kernel_rfl) (by kernel_rfl) (by kernel_rfl) (by kernel_rfl)) ?_
  intro W base args ds gs before hval0 hW _ hsz0 _
  exact contract H enc W base args ds gs before hval0 hW hsz0

theorem over : Rows.intsetMakesRow.holds Try.pinned (OpenSpec.ofChange Rows.intsetMakesSpec) :=
  OpenClaim.holds_of_wide 3 Try.f3 rfl rfl rfl rfl rfl rfl rfl ⟨rfl, rfl, rfl, rfl, rfl⟩ rfl rfl rfl rfl rfl (by kernel_rfl) Try.func3 (by kernel_rfl)
    (of_decide_eq_true (by kernel_rfl)) (by unfold Func.isWrapper; first | (rw [if_pos (by decide +kernel)]; kernel_rfl) | (rw [if_neg (by decide +kernel)]; exact ⟨rfl, rfl⟩))
    (fun os started H enc _ => lifted os started H enc)

/-- The given statement. -/
theorem proved : Rows.IntsetMakesSaid := over
end IntsetMakes
#print axioms IntsetMakes.proved
end Go.Proofs.Ytejdaodchaeglaa
