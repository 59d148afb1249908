/-
  IntsetMembers, for every input: the law returns true, and each argument reads behind the call as it read before. No condition.
-/
import Derived.Test.YtejdaodchaeglaaSpW
import Derived.Test.YtejdaodchaeglaaSpO
import Derived.Test.YtejdaodchaeglaaSliceK
namespace Go.Proofs.Ytejdaodchaeglaa
open Go.ChangeShapes Go.WideShapes Go.ChangeAt Go.RowKit
namespace IntsetMembers
set_option maxRecDepth 100000 in
set_option maxHeartbeats 16000000 in
theorem walk (A : Option Addr) (c : Nat) (l : List Int) (A2 : Option Addr) (cc2 : Nat) (m : List Int) (n : Int) (w : World) (hI : U8s w A l) (hl : l.length ≤ 9223372036854775807) (hu : ∀ x ∈ l, 0 ≤ x ∧ x ≤ 255) (hI2 : U8s w A2 m) (hm : m.length ≤ 9223372036854775807) (hum : ∀ x ∈ m, 0 ≤ x ∧ x ≤ 255) (hn : 0 ≤ n ∧ n ≤ 255) :
    Calls Try.prog 8 #[.slice A l.length c, .slice A2 m.length cc2, .int .u8 n] w fun e w' => e = .returned (.bool true) ∧ Below w.heap.size w w' := by
  have hB := Below.refl w.heap.size w
  go_enter Try.func8, Try.ntmps8
  go_wp2_with fail
  refine (sane_any _).mono ?_
  rintro e w2 ⟨rfl, hq⟩
  replace hB := below_grows hB (Nat.le_refl _) hq
  replace hI := hI.grows hq
  replace hI2 := hI2.grows hq
  clear hq
  go_wp2_with fail
  refine (made9_any A c l _ hI hl hu).mono ?_
  rintro e W0 ⟨⟨s, v, rfl, ⟨A3, c3, rfl, -, hs⟩, hoks, hs20, -⟩, hq⟩
  replace hB := below_grows hB (Nat.le_refl _) hq
  replace hI2 := hI2.grows hq
  clear hq hI
  go_wp2_with fail
  refine (made9_any A2 cc2 m _ hI2 hm hum).mono ?_
  rintro e W1 ⟨⟨t, v, rfl, ⟨A4, c4, rfl, -, ht⟩, hokt, ht20, -⟩, hq⟩
  replace hB := below_grows hB (Nat.le_refl _) hq
  replace hs := hs.grows hq
  clear hq hI2
  have k5 := (Blk.new W1 24 #[.slice A3 s.length c3]).alloc (Obj.cells #[.slice A4 t.length c4] 24)
  have k6 := blk_new_at (X := W1.alloc (Obj.cells #[.slice A3 s.length c3] 24)) (n := W1.heap.size + 1) (t := 24) (cs := #[.slice A4 t.length c4]) (by simp)
  have hq := ((Below.refl W1.heap.size W1).alloc (Nat.le_refl _) (Obj.cells #[.slice A3 s.length c3] 24)).alloc (by simp) (Obj.cells #[.slice A4 t.length c4] 24)
  replace hB := below_grows hB (Nat.le_refl _) hq
  replace hs := hs.grows hq
  replace ht := ht.grows hq
  clear hq
  go_upto_region 4 with fail
  generalize World.alloc (World.alloc W1 _) _ = W4 at *
  generalize W1.heap.size + 1 = G6 at *
  generalize W1.heap.size = G5 at *
  clear W0
  clear hl hm hu hum
  have hini := inside_inter hoks hokt (by omega)
  have hinu := inside_union hoks hokt (by omega)
  have hoki := inter_ok hoks hokt (by omega)
  have hoku := union_ok (ok_fine hoks) (ok_fine hokt) (by omega)
  have hil := (inter_form s t (ok_canon hoks) (ok_canon hokt)).2.1
  have hul := union_len (ok_fine hoks) (ok_fine hokt)
  have HIV : Hid ((interF (spansF s) (spansF t)).take 64 = interF s t) := Lib.hid (inter_val hoks hokt (by omega))
  have HUV : Hid (uniF s t = (unionL s t, 0)) := Lib.hid (uni_val hoks hokt (by omega))
  generalize hiv : interF s t = i at *
  generalize huv : unionL s t = u at *
  have HIW := Lib.hid hiv
  have HUW := Lib.hid huv
  clear hiv huv
  have x5 := k5.cell 0
  have x6 := k6.cell 0
  go_wp2_with fail
  refine (inter_any A3 c3 s A4 c4 t _ hs (by omega) ht (by omega)).mono ?_
  rw [HIV.out]
  rintro e Wa ⟨⟨v, rfl, A7, c7, rfl, -, hi⟩, hq⟩
  clear x5 x6
  replace hB := below_grows hB (Nat.le_refl _) hq
  replace k5 := k5.grows hq
  replace k6 := k6.grows hq
  replace hs := hs.grows hq
  replace ht := ht.grows hq
  clear hq
  have k9 := Blk.new Wa 24 #[.slice A7 i.length c7]
  have hq := (Below.refl Wa.heap.size Wa).alloc (Nat.le_refl _) (Obj.cells #[.slice A7 i.length c7] 24)
  replace hB := below_grows hB (Nat.le_refl _) hq
  replace k5 := k5.grows hq
  replace k6 := k6.grows hq
  replace hs := hs.grows hq
  replace ht := ht.grows hq
  replace hi := hi.grows hq
  clear hq
  go_upto_region 5 with fail
  generalize World.alloc Wa _ = Wb at *
  generalize Wa.heap.size = G9 at *
  clear Wa
  have x5 := k5.cell 0
  have x6 := k6.cell 0
  go_wp2_with fail
  refine (union_any A3 c3 s A4 c4 t _ hs (by omega) ht (by omega)).mono ?_
  rw [HUV.out]
  rintro e Wa ⟨⟨v, rfl, A8, c8, rfl, -, hu8⟩, hq⟩
  clear x5 x6
  replace hB := below_grows hB (Nat.le_refl _) hq
  replace k5 := k5.grows hq
  replace k6 := k6.grows hq
  replace k9 := k9.grows hq
  replace hs := hs.grows hq
  replace ht := ht.grows hq
  replace hi := hi.grows hq
  clear hq
  have k10 := Blk.new Wa 24 #[.slice A8 u.length c8]
  have hq := (Below.refl Wa.heap.size Wa).alloc (Nat.le_refl _) (Obj.cells #[.slice A8 u.length c8] 24)
  replace hB := below_grows hB (Nat.le_refl _) hq
  replace k5 := k5.grows hq
  replace k6 := k6.grows hq
  replace k9 := k9.grows hq
  replace hs := hs.grows hq
  replace ht := ht.grows hq
  replace hi := hi.grows hq
  replace hu8 := hu8.grows hq
  clear hq
  go_upto_region 7 with fail
  generalize World.alloc Wa _ = Wb at *
  generalize Wa.heap.size = G10 at *
  clear Wa
  have x5 := k5.cell 0
  have x6 := k6.cell 0
  clear HIV HUV
  have hiv := HIW.out
  have huv := HUW.out
  clear HIW HUW
  have HP2 : hasF i n = (hasF s n && hasF t n) := by rw [← hiv]; exact has_inter hoks hokt (by omega) n
  have HU2 : hasF u n = (hasF s n || hasF t n) := by rw [← huv]; exact has_union hoks hokt (by omega) n
  generalize hHP : hasF s n = p at *
  generalize hHQ : hasF t n = q at *
  have HP := Lib.hid hHP
  have HQ := Lib.hid hHQ
  clear hHP hHQ x5 x6 hiv huv
  cases p
  · have HVI : Hid (hasF i n = false) := Lib.hid HP2
    have HVU : Hid (hasF u n = q) := Lib.hid HU2
    clear HP2 HU2
    obtain ⟨S, HI, HO⟩ : ∃ S : Ran → (Nat → Value) → World → Prop, Hid (∀ L vs w', (Grows Wb w' ∧ KnS [some (.int .i64 0), some (.bool true), some (.bool true), some (.agg #[.slice A7 i.length c7]), some (.bool true), some (.bool true), some (.bool true), some (.agg #[.slice A8 u.length c8]), some (.bool true), some (.bool true), some (.bool true), some (.agg #[.slice A7 i.length c7]), some (.int .i64 n), some (.bool false), some (.agg #[.slice A3 s.length c3]), some (.int .i64 n), some (.bool false), some (.bool false), none, none, none, some (.bool false), some (.bool true), some (.bool true), some (.bool true), some (.agg #[.slice A8 u.length c8]), some (.int .i64 n), some (.bool q), some (.agg #[.slice A3 s.length c3]), some (.int .i64 n), some (.bool false), some (.bool false), some (.agg #[.slice A4 t.length c4]), some (.int .i64 n), some (.bool q), some (.bool q), some (.bool true), some (.bool true), some (.bool true), some (.agg #[.slice A7 i.length c7]), some (.agg #[.slice A3 s.length c3]), some (.bool true), some (.bool true), some (.bool true), some (.agg #[.slice A4 t.length c4]), some (.agg #[.slice A8 u.length c8]), some (.bool true), some (.bool true), some (.bool true)] L vs) → S L vs w') ∧ Hid (∀ L vs w', S L vs w' → (Grows Wb w' ∧ KnS [some (.int .i64 0), some (.bool true), some (.bool true), some (.agg #[.slice A7 i.length c7]), some (.bool true), some (.bool true), some (.bool true), some (.agg #[.slice A8 u.length c8]), some (.bool true), some (.bool true), some (.bool true), some (.agg #[.slice A7 i.length c7]), some (.int .i64 n), some (.bool false), some (.agg #[.slice A3 s.length c3]), some (.int .i64 n), some (.bool false), some (.bool false), none, none, none, some (.bool false), some (.bool true), some (.bool true), some (.bool true), some (.agg #[.slice A8 u.length c8]), some (.int .i64 n), some (.bool q), some (.agg #[.slice A3 s.length c3]), some (.int .i64 n), some (.bool false), some (.bool false), some (.agg #[.slice A4 t.length c4]), some (.int .i64 n), some (.bool q), some (.bool q), some (.bool true), some (.bool true), some (.bool true), some (.agg #[.slice A7 i.length c7]), some (.agg #[.slice A3 s.length c3]), some (.bool true), some (.bool true), some (.bool true), some (.agg #[.slice A4 t.length c4]), some (.agg #[.slice A8 u.length c8]), some (.bool true), some (.bool true), some (.bool true)] L vs)) := ⟨fun L vs w' => Grows Wb w' ∧ KnS [some (.int .i64 0), some (.bool true), some (.bool true), some (.agg #[.slice A7 i.length c7]), some (.bool true), some (.bool true), some (.bool true), some (.agg #[.slice A8 u.length c8]), some (.bool true), some (.bool true), some (.bool true), some (.agg #[.slice A7 i.length c7]), some (.int .i64 n), some (.bool false), some (.agg #[.slice A3 s.length c3]), some (.int .i64 n), some (.bool false), some (.bool false), none, none, none, some (.bool false), some (.bool true), some (.bool true), some (.bool true), some (.agg #[.slice A8 u.length c8]), some (.int .i64 n), some (.bool q), some (.agg #[.slice A3 s.length c3]), some (.int .i64 n), some (.bool false), some (.bool false), some (.agg #[.slice A4 t.length c4]), some (.int .i64 n), some (.bool q), some (.bool q), some (.bool true), some (.bool true), some (.bool true), some (.agg #[.slice A7 i.length c7]), some (.agg #[.slice A3 s.length c3]), some (.bool true), some (.bool true), some (.bool true), some (.agg #[.slice A4 t.length c4]), some (.agg #[.slice A8 u.length c8]), some (.bool true), some (.bool true), some (.bool true)] L vs, fun _ _ _ h => h, fun _ _ _ h => h⟩
    refine wp_region_genW S 78 (by kernel_rfl) (by kernel_rfl) rfl ?_ ?_
    · exact HI.out _ _ _ ⟨Grows.drew' _, kn_none _ _⟩
    refine gen_cons (A' := ?_) (fun vs L w1 hL hw1 => ?_) ?_ ?_
    rotate_left 1
    · obtain ⟨q0, q1⟩ := HO.out _ _ _ hw1
      refine gen_plain rfl ?_
      go_simp
      exact gr_val (HI.out _ _ _ ⟨q0, kn_known q1 rfl⟩)
    · intro vs
      simp only [Act.put, List.setIfInBounds_toArray, List.set_cons_succ, List.set_cons_zero]
      rfl
    refine gen_cons (A' := ?_) (fun vs L w1 hL hw1 => ?_) ?_ ?_
    rotate_left 1
    · obtain ⟨q0, q1⟩ := HO.out _ _ _ hw1
      refine gen_plain rfl ?_
      have l0 : L 0 = true := hL.need 0 (by kernel_rfl)
      have e0 := q1 0 _ rfl l0
      simp only [e0]
      go_simp
      exact gr_val (HI.out _ _ _ ⟨q0, kn_known q1 rfl⟩)
    · intro vs
      simp only [Act.put, List.setIfInBounds_toArray, List.set_cons_succ, List.set_cons_zero]
      rfl
    refine gen_cons (A' := ?_) (fun vs L w1 hL hw1 => ?_) ?_ ?_
    rotate_left 1
    · obtain ⟨q0, q1⟩ := HO.out _ _ _ hw1
      refine gen_plain rfl ?_
      have l1 : L 1 = true := hL.need 1 (by kernel_rfl)
      have e1 := q1 1 _ rfl l1
      simp only [e1]
      go_simp
      exact gr_val (HI.out _ _ _ ⟨q0, kn_known q1 rfl⟩)
    · intro vs
      simp only [Act.put, List.setIfInBounds_toArray, List.set_cons_succ, List.set_cons_zero]
      rfl
    refine gen_cons (A' := ?_) (fun vs L w1 hL hw1 => ?_) ?_ ?_
    rotate_left 1
    · obtain ⟨q0, q1⟩ := HO.out _ _ _ hw1
      have l2 : L 2 = true := hL.need 2 (by kernel_rfl)
      have e2 := q1 2 _ rfl l2
      refine gen_yes ?_ ?_
      · simp only [e2]
        rfl
      have x := (k9.grows q0).cell 0
      go_simp
      exact gr_val (HI.out _ _ _ ⟨q0, kn_known q1 rfl⟩)
    · intro vs
      simp only [Act.put, List.setIfInBounds_toArray, List.set_cons_succ, List.set_cons_zero]
      rfl
    refine gen_cons (A' := ?_) (fun vs L w1 hL hw1 => ?_) ?_ ?_
    rotate_left 1
    · obtain ⟨q0, q1⟩ := HO.out _ _ _ hw1
      have l2 : L 2 = true := hL.need 2 (by kernel_rfl)
      have e2 := q1 2 _ rfl l2
      refine gen_yes ?_ ?_
      · simp only [e2]
        rfl
      have l3 : L 3 = true := hL.need 3 (by kernel_rfl)
      have e3 := q1 3 _ rfl l3
      simp only [e3]
      go_simp
      refine gr_call ?_
      refine (valid_is A7 c7 i w1 (hi.grows q0) (by omega) hoki).mono ?_
      rintro e w2 ⟨rfl, hg⟩
      exact ⟨_, rfl, HI.out _ _ _ ⟨below_grows q0 (Nat.le_refl _) hg, kn_known q1 rfl⟩⟩
    · intro vs
      simp only [Act.put, List.setIfInBounds_toArray, List.set_cons_succ, List.set_cons_zero]
      rfl
    refine gen_cons (A' := ?_) (fun vs L w1 hL hw1 => ?_) ?_ ?_
    rotate_left 1
    · obtain ⟨q0, q1⟩ := HO.out _ _ _ hw1
      refine gen_plain rfl ?_
      have l2 : L 2 = true := hL.need 2 (by kernel_rfl)
      have e2 := q1 2 _ rfl l2
      have l4 : L 4 = true := hL.need 4 (by kernel_rfl)
      have e4 := q1 4 _ rfl l4
      simp only [e2, e4]
      go_simp
      exact gr_val (HI.out _ _ _ ⟨q0, kn_known q1 rfl⟩)
    · intro vs
      simp only [Act.put, List.setIfInBounds_toArray, List.set_cons_succ, List.set_cons_zero]
      rfl
    refine gen_cons (A' := ?_) (fun vs L w1 hL hw1 => ?_) ?_ ?_
    rotate_left 1
    · obtain ⟨q0, q1⟩ := HO.out _ _ _ hw1
      refine gen_plain rfl ?_
      have l5 : L 5 = true := hL.need 5 (by kernel_rfl)
      have e5 := q1 5 _ rfl l5
      simp only [e5]
      go_simp
      exact gr_val (HI.out _ _ _ ⟨q0, kn_known q1 rfl⟩)
    · intro vs
      simp only [Act.put, List.setIfInBounds_toArray, List.set_cons_succ, List.set_cons_zero]
      rfl
    refine gen_cons (A' := ?_) (fun vs L w1 hL hw1 => ?_) ?_ ?_
    rotate_left 1
    · obtain ⟨q0, q1⟩ := HO.out _ _ _ hw1
      have l6 : L 6 = true := hL.need 6 (by kernel_rfl)
      have e6 := q1 6 _ rfl l6
      refine gen_yes ?_ ?_
      · simp only [e6]
        rfl
      have x := (k10.grows q0).cell 0
      go_simp
      exact gr_val (HI.out _ _ _ ⟨q0, kn_known q1 rfl⟩)
    · intro vs
      simp only [Act.put, List.setIfInBounds_toArray, List.set_cons_succ, List.set_cons_zero]
      rfl
    refine gen_cons (A' := ?_) (fun vs L w1 hL hw1 => ?_) ?_ ?_
    rotate_left 1
    · obtain ⟨q0, q1⟩ := HO.out _ _ _ hw1
      have l6 : L 6 = true := hL.need 6 (by kernel_rfl)
      have e6 := q1 6 _ rfl l6
      refine gen_yes ?_ ?_
      · simp only [e6]
        rfl
      have l7 : L 7 = true := hL.need 7 (by kernel_rfl)
      have e7 := q1 7 _ rfl l7
      simp only [e7]
      go_simp
      refine gr_call ?_
      refine (valid_is A8 c8 u w1 (hu8.grows q0) (by omega) hoku).mono ?_
      rintro e w2 ⟨rfl, hg⟩
      exact ⟨_, rfl, HI.out _ _ _ ⟨below_grows q0 (Nat.le_refl _) hg, kn_known q1 rfl⟩⟩
    · intro vs
      simp only [Act.put, List.setIfInBounds_toArray, List.set_cons_succ, List.set_cons_zero]
      rfl
    refine gen_cons (A' := ?_) (fun vs L w1 hL hw1 => ?_) ?_ ?_
    rotate_left 1
    · obtain ⟨q0, q1⟩ := HO.out _ _ _ hw1
      refine gen_plain rfl ?_
      have l6 : L 6 = true := hL.need 6 (by kernel_rfl)
      have e6 := q1 6 _ rfl l6
      have l8 : L 8 = true := hL.need 8 (by kernel_rfl)
      have e8 := q1 8 _ rfl l8
      simp only [e6, e8]
      go_simp
      exact gr_val (HI.out _ _ _ ⟨q0, kn_known q1 rfl⟩)
    · intro vs
      simp only [Act.put, List.setIfInBounds_toArray, List.set_cons_succ, List.set_cons_zero]
      rfl
    refine gen_cons (A' := ?_) (fun vs L w1 hL hw1 => ?_) ?_ ?_
    rotate_left 1
    · obtain ⟨q0, q1⟩ := HO.out _ _ _ hw1
      refine gen_plain rfl ?_
      have l9 : L 9 = true := hL.need 9 (by kernel_rfl)
      have e9 := q1 9 _ rfl l9
      simp only [e9]
      go_simp
      exact gr_val (HI.out _ _ _ ⟨q0, kn_known q1 rfl⟩)
    · intro vs
      simp only [Act.put, List.setIfInBounds_toArray, List.set_cons_succ, List.set_cons_zero]
      rfl
    refine gen_cons (A' := ?_) (fun vs L w1 hL hw1 => ?_) ?_ ?_
    rotate_left 1
    · obtain ⟨q0, q1⟩ := HO.out _ _ _ hw1
      have l10 : L 10 = true := hL.need 10 (by kernel_rfl)
      have e10 := q1 10 _ rfl l10
      refine gen_yes ?_ ?_
      · simp only [e10]
        rfl
      have x := (k9.grows q0).cell 0
      go_simp
      exact gr_val (HI.out _ _ _ ⟨q0, kn_known q1 rfl⟩)
    · intro vs
      simp only [Act.put, List.setIfInBounds_toArray, List.set_cons_succ, List.set_cons_zero]
      rfl
    refine gen_cons (A' := ?_) (fun vs L w1 hL hw1 => ?_) ?_ ?_
    rotate_left 1
    · obtain ⟨q0, q1⟩ := HO.out _ _ _ hw1
      have l10 : L 10 = true := hL.need 10 (by kernel_rfl)
      have e10 := q1 10 _ rfl l10
      refine gen_yes ?_ ?_
      · simp only [e10]
        rfl
      go_simp
      exact gr_val (HI.out _ _ _ ⟨q0, kn_known q1 rfl⟩)
    · intro vs
      simp only [Act.put, List.setIfInBounds_toArray, List.set_cons_succ, List.set_cons_zero]
      rfl
    refine gen_cons (A' := ?_) (fun vs L w1 hL hw1 => ?_) ?_ ?_
    rotate_left 1
    · obtain ⟨q0, q1⟩ := HO.out _ _ _ hw1
      have l10 : L 10 = true := hL.need 10 (by kernel_rfl)
      have e10 := q1 10 _ rfl l10
      refine gen_yes ?_ ?_
      · simp only [e10]
        rfl
      have l11 : L 11 = true := hL.need 11 (by kernel_rfl)
      have e11 := q1 11 _ rfl l11
      have l12 : L 12 = true := hL.need 12 (by kernel_rfl)
      have e12 := q1 12 _ rfl l12
      simp only [e11, e12]
      go_simp
      refine gr_call ?_
      refine (has_is A7 c7 i n w1 (hi.grows q0) (by omega) HVI.out).mono ?_
      rintro e w2 ⟨rfl, hg⟩
      exact ⟨_, rfl, HI.out _ _ _ ⟨below_grows q0 (Nat.le_refl _) hg, kn_known q1 rfl⟩⟩
    · intro vs
      simp only [Act.put, List.setIfInBounds_toArray, List.set_cons_succ, List.set_cons_zero]
      rfl
    refine gen_cons (A' := ?_) (fun vs L w1 hL hw1 => ?_) ?_ ?_
    rotate_left 1
    · obtain ⟨q0, q1⟩ := HO.out _ _ _ hw1
      have l10 : L 10 = true := hL.need 10 (by kernel_rfl)
      have e10 := q1 10 _ rfl l10
      refine gen_yes ?_ ?_
      · simp only [e10]
        rfl
      have x := (k5.grows q0).cell 0
      go_simp
      exact gr_val (HI.out _ _ _ ⟨q0, kn_known q1 rfl⟩)
    · intro vs
      simp only [Act.put, List.setIfInBounds_toArray, List.set_cons_succ, List.set_cons_zero]
      rfl
    refine gen_cons (A' := ?_) (fun vs L w1 hL hw1 => ?_) ?_ ?_
    rotate_left 1
    · obtain ⟨q0, q1⟩ := HO.out _ _ _ hw1
      have l10 : L 10 = true := hL.need 10 (by kernel_rfl)
      have e10 := q1 10 _ rfl l10
      refine gen_yes ?_ ?_
      · simp only [e10]
        rfl
      go_simp
      exact gr_val (HI.out _ _ _ ⟨q0, kn_known q1 rfl⟩)
    · intro vs
      simp only [Act.put, List.setIfInBounds_toArray, List.set_cons_succ, List.set_cons_zero]
      rfl
    refine gen_cons (A' := ?_) (fun vs L w1 hL hw1 => ?_) ?_ ?_
    rotate_left 1
    · obtain ⟨q0, q1⟩ := HO.out _ _ _ hw1
      have l10 : L 10 = true := hL.need 10 (by kernel_rfl)
      have e10 := q1 10 _ rfl l10
      refine gen_yes ?_ ?_
      · simp only [e10]
        rfl
      have l14 : L 14 = true := hL.need 14 (by kernel_rfl)
      have e14 := q1 14 _ rfl l14
      have l15 : L 15 = true := hL.need 15 (by kernel_rfl)
      have e15 := q1 15 _ rfl l15
      simp only [e14, e15]
      go_simp
      refine gr_call ?_
      refine (has_is A3 c3 s n w1 (hs.grows q0) (by omega) HP.out).mono ?_
      rintro e w2 ⟨rfl, hg⟩
      exact ⟨_, rfl, HI.out _ _ _ ⟨below_grows q0 (Nat.le_refl _) hg, kn_known q1 rfl⟩⟩
    · intro vs
      simp only [Act.put, List.setIfInBounds_toArray, List.set_cons_succ, List.set_cons_zero]
      rfl
    refine gen_cons (A' := ?_) (fun vs L w1 hL hw1 => ?_) ?_ ?_
    rotate_left 1
    · obtain ⟨q0, q1⟩ := HO.out _ _ _ hw1
      have l10 : L 10 = true := hL.need 10 (by kernel_rfl)
      have e10 := q1 10 _ rfl l10
      refine gen_yes ?_ ?_
      · simp only [e10]
        rfl
      have l16 : L 16 = true := hL.need 16 (by kernel_rfl)
      have e16 := q1 16 _ rfl l16
      simp only [e16]
      go_simp
      exact gr_val (HI.out _ _ _ ⟨q0, kn_known q1 rfl⟩)
    · intro vs
      simp only [Act.put, List.setIfInBounds_toArray, List.set_cons_succ, List.set_cons_zero]
      rfl
    refine gen_cons (A' := ?_) (fun vs L w1 hL hw1 => ?_) ?_ ?_
    rotate_left 1
    · obtain ⟨q0, q1⟩ := HO.out _ _ _ hw1
      have l17 : L 17 = true := hL.need 17 (by kernel_rfl)
      have e17 := q1 17 _ rfl l17
      refine gen_no ?_ ?_
      · simp only [e17]
        rfl
      · exact HI.out _ _ _ ⟨q0, kn_free q1 rfl⟩
    · intro vs
      simp only [Act.put, List.setIfInBounds_toArray, List.set_cons_succ, List.set_cons_zero]
      rfl
    refine gen_cons (A' := ?_) (fun vs L w1 hL hw1 => ?_) ?_ ?_
    rotate_left 1
    · obtain ⟨q0, q1⟩ := HO.out _ _ _ hw1
      have l17 : L 17 = true := hL.need 17 (by kernel_rfl)
      have e17 := q1 17 _ rfl l17
      refine gen_no ?_ ?_
      · simp only [e17]
        rfl
      · exact HI.out _ _ _ ⟨q0, kn_free q1 rfl⟩
    · intro vs
      simp only [Act.put, List.setIfInBounds_toArray, List.set_cons_succ, List.set_cons_zero]
      rfl
    refine gen_cons (A' := ?_) (fun vs L w1 hL hw1 => ?_) ?_ ?_
    rotate_left 1
    · obtain ⟨q0, q1⟩ := HO.out _ _ _ hw1
      have l17 : L 17 = true := hL.need 17 (by kernel_rfl)
      have e17 := q1 17 _ rfl l17
      refine gen_no ?_ ?_
      · simp only [e17]
        rfl
      · exact HI.out _ _ _ ⟨q0, kn_free q1 rfl⟩
    · intro vs
      simp only [Act.put, List.setIfInBounds_toArray, List.set_cons_succ, List.set_cons_zero]
      rfl
    refine gen_cons (A' := ?_) (fun vs L w1 hL hw1 => ?_) ?_ ?_
    rotate_left 1
    · obtain ⟨q0, q1⟩ := HO.out _ _ _ hw1
      have l10 : L 10 = true := hL.need 10 (by kernel_rfl)
      have e10 := q1 10 _ rfl l10
      refine gen_yes ?_ ?_
      · simp only [e10]
        rfl
      have l17 : L 17 = true := hL.need 17 (by kernel_rfl)
      have e17 := q1 17 _ rfl l17
      simp only [e17]
      go_simp
      exact gr_val (HI.out _ _ _ ⟨q0, kn_known q1 rfl⟩)
    · intro vs
      simp only [Act.put, List.setIfInBounds_toArray, List.set_cons_succ, List.set_cons_zero]
      rfl
    refine gen_cons (A' := ?_) (fun vs L w1 hL hw1 => ?_) ?_ ?_
    rotate_left 1
    · obtain ⟨q0, q1⟩ := HO.out _ _ _ hw1
      have l10 : L 10 = true := hL.need 10 (by kernel_rfl)
      have e10 := q1 10 _ rfl l10
      refine gen_yes ?_ ?_
      · simp only [e10]
        rfl
      have l13 : L 13 = true := hL.need 13 (by kernel_rfl)
      have e13 := q1 13 _ rfl l13
      have l21 : L 21 = true := hL.need 21 (by kernel_rfl)
      have e21 := q1 21 _ rfl l21
      simp only [e13, e21]
      go_simp
      exact gr_val (HI.out _ _ _ ⟨q0, kn_known q1 rfl⟩)
    · intro vs
      simp only [Act.put, List.setIfInBounds_toArray, List.set_cons_succ, List.set_cons_zero]
      rfl
    refine gen_cons (A' := ?_) (fun vs L w1 hL hw1 => ?_) ?_ ?_
    rotate_left 1
    · obtain ⟨q0, q1⟩ := HO.out _ _ _ hw1
      refine gen_plain rfl ?_
      have l10 : L 10 = true := hL.need 10 (by kernel_rfl)
      have e10 := q1 10 _ rfl l10
      have l22 : L 22 = true := hL.need 22 (by kernel_rfl)
      have e22 := q1 22 _ rfl l22
      simp only [e10, e22]
      go_simp
      exact gr_val (HI.out _ _ _ ⟨q0, kn_known q1 rfl⟩)
    · intro vs
      simp only [Act.put, List.setIfInBounds_toArray, List.set_cons_succ, List.set_cons_zero]
      rfl
    refine gen_cons (A' := ?_) (fun vs L w1 hL hw1 => ?_) ?_ ?_
    rotate_left 1
    · obtain ⟨q0, q1⟩ := HO.out _ _ _ hw1
      refine gen_plain rfl ?_
      have l23 : L 23 = true := hL.need 23 (by kernel_rfl)
      have e23 := q1 23 _ rfl l23
      simp only [e23]
      go_simp
      exact gr_val (HI.out _ _ _ ⟨q0, kn_known q1 rfl⟩)
    · intro vs
      simp only [Act.put, List.setIfInBounds_toArray, List.set_cons_succ, List.set_cons_zero]
      rfl
    refine gen_cons (A' := ?_) (fun vs L w1 hL hw1 => ?_) ?_ ?_
    rotate_left 1
    · obtain ⟨q0, q1⟩ := HO.out _ _ _ hw1
      have l24 : L 24 = true := hL.need 24 (by kernel_rfl)
      have e24 := q1 24 _ rfl l24
      refine gen_yes ?_ ?_
      · simp only [e24]
        rfl
      have x := (k10.grows q0).cell 0
      go_simp
      exact gr_val (HI.out _ _ _ ⟨q0, kn_known q1 rfl⟩)
    · intro vs
      simp only [Act.put, List.setIfInBounds_toArray, List.set_cons_succ, List.set_cons_zero]
      rfl
    refine gen_cons (A' := ?_) (fun vs L w1 hL hw1 => ?_) ?_ ?_
    rotate_left 1
    · obtain ⟨q0, q1⟩ := HO.out _ _ _ hw1
      have l24 : L 24 = true := hL.need 24 (by kernel_rfl)
      have e24 := q1 24 _ rfl l24
      refine gen_yes ?_ ?_
      · simp only [e24]
        rfl
      go_simp
      exact gr_val (HI.out _ _ _ ⟨q0, kn_known q1 rfl⟩)
    · intro vs
      simp only [Act.put, List.setIfInBounds_toArray, List.set_cons_succ, List.set_cons_zero]
      rfl
    refine gen_cons (A' := ?_) (fun vs L w1 hL hw1 => ?_) ?_ ?_
    rotate_left 1
    · obtain ⟨q0, q1⟩ := HO.out _ _ _ hw1
      have l24 : L 24 = true := hL.need 24 (by kernel_rfl)
      have e24 := q1 24 _ rfl l24
      refine gen_yes ?_ ?_
      · simp only [e24]
        rfl
      have l25 : L 25 = true := hL.need 25 (by kernel_rfl)
      have e25 := q1 25 _ rfl l25
      have l26 : L 26 = true := hL.need 26 (by kernel_rfl)
      have e26 := q1 26 _ rfl l26
      simp only [e25, e26]
      go_simp
      refine gr_call ?_
      refine (has_is A8 c8 u n w1 (hu8.grows q0) (by omega) HVU.out).mono ?_
      rintro e w2 ⟨rfl, hg⟩
      exact ⟨_, rfl, HI.out _ _ _ ⟨below_grows q0 (Nat.le_refl _) hg, kn_known q1 rfl⟩⟩
    · intro vs
      simp only [Act.put, List.setIfInBounds_toArray, List.set_cons_succ, List.set_cons_zero]
      rfl
    refine gen_cons (A' := ?_) (fun vs L w1 hL hw1 => ?_) ?_ ?_
    rotate_left 1
    · obtain ⟨q0, q1⟩ := HO.out _ _ _ hw1
      have l24 : L 24 = true := hL.need 24 (by kernel_rfl)
      have e24 := q1 24 _ rfl l24
      refine gen_yes ?_ ?_
      · simp only [e24]
        rfl
      have x := (k5.grows q0).cell 0
      go_simp
      exact gr_val (HI.out _ _ _ ⟨q0, kn_known q1 rfl⟩)
    · intro vs
      simp only [Act.put, List.setIfInBounds_toArray, List.set_cons_succ, List.set_cons_zero]
      rfl
    refine gen_cons (A' := ?_) (fun vs L w1 hL hw1 => ?_) ?_ ?_
    rotate_left 1
    · obtain ⟨q0, q1⟩ := HO.out _ _ _ hw1
      have l24 : L 24 = true := hL.need 24 (by kernel_rfl)
      have e24 := q1 24 _ rfl l24
      refine gen_yes ?_ ?_
      · simp only [e24]
        rfl
      go_simp
      exact gr_val (HI.out _ _ _ ⟨q0, kn_known q1 rfl⟩)
    · intro vs
      simp only [Act.put, List.setIfInBounds_toArray, List.set_cons_succ, List.set_cons_zero]
      rfl
    refine gen_cons (A' := ?_) (fun vs L w1 hL hw1 => ?_) ?_ ?_
    rotate_left 1
    · obtain ⟨q0, q1⟩ := HO.out _ _ _ hw1
      have l24 : L 24 = true := hL.need 24 (by kernel_rfl)
      have e24 := q1 24 _ rfl l24
      refine gen_yes ?_ ?_
      · simp only [e24]
        rfl
      have l28 : L 28 = true := hL.need 28 (by kernel_rfl)
      have e28 := q1 28 _ rfl l28
      have l29 : L 29 = true := hL.need 29 (by kernel_rfl)
      have e29 := q1 29 _ rfl l29
      simp only [e28, e29]
      go_simp
      refine gr_call ?_
      refine (has_is A3 c3 s n w1 (hs.grows q0) (by omega) HP.out).mono ?_
      rintro e w2 ⟨rfl, hg⟩
      exact ⟨_, rfl, HI.out _ _ _ ⟨below_grows q0 (Nat.le_refl _) hg, kn_known q1 rfl⟩⟩
    · intro vs
      simp only [Act.put, List.setIfInBounds_toArray, List.set_cons_succ, List.set_cons_zero]
      rfl
    refine gen_cons (A' := ?_) (fun vs L w1 hL hw1 => ?_) ?_ ?_
    rotate_left 1
    · obtain ⟨q0, q1⟩ := HO.out _ _ _ hw1
      have l24 : L 24 = true := hL.need 24 (by kernel_rfl)
      have e24 := q1 24 _ rfl l24
      refine gen_yes ?_ ?_
      · simp only [e24]
        rfl
      have l30 : L 30 = true := hL.need 30 (by kernel_rfl)
      have e30 := q1 30 _ rfl l30
      simp only [e30]
      go_simp
      exact gr_val (HI.out _ _ _ ⟨q0, kn_known q1 rfl⟩)
    · intro vs
      simp only [Act.put, List.setIfInBounds_toArray, List.set_cons_succ, List.set_cons_zero]
      rfl
    refine gen_cons (A' := ?_) (fun vs L w1 hL hw1 => ?_) ?_ ?_
    rotate_left 1
    · obtain ⟨q0, q1⟩ := HO.out _ _ _ hw1
      have l31 : L 31 = true := hL.need 31 (by kernel_rfl)
      have e31 := q1 31 _ rfl l31
      refine gen_yes ?_ ?_
      · simp only [e31]
        rfl
      have x := (k6.grows q0).cell 0
      go_simp
      exact gr_val (HI.out _ _ _ ⟨q0, kn_known q1 rfl⟩)
    · intro vs
      simp only [Act.put, List.setIfInBounds_toArray, List.set_cons_succ, List.set_cons_zero]
      rfl
    refine gen_cons (A' := ?_) (fun vs L w1 hL hw1 => ?_) ?_ ?_
    rotate_left 1
    · obtain ⟨q0, q1⟩ := HO.out _ _ _ hw1
      have l31 : L 31 = true := hL.need 31 (by kernel_rfl)
      have e31 := q1 31 _ rfl l31
      refine gen_yes ?_ ?_
      · simp only [e31]
        rfl
      go_simp
      exact gr_val (HI.out _ _ _ ⟨q0, kn_known q1 rfl⟩)
    · intro vs
      simp only [Act.put, List.setIfInBounds_toArray, List.set_cons_succ, List.set_cons_zero]
      rfl
    refine gen_cons (A' := ?_) (fun vs L w1 hL hw1 => ?_) ?_ ?_
    rotate_left 1
    · obtain ⟨q0, q1⟩ := HO.out _ _ _ hw1
      have l31 : L 31 = true := hL.need 31 (by kernel_rfl)
      have e31 := q1 31 _ rfl l31
      refine gen_yes ?_ ?_
      · simp only [e31]
        rfl
      have l32 : L 32 = true := hL.need 32 (by kernel_rfl)
      have e32 := q1 32 _ rfl l32
      have l33 : L 33 = true := hL.need 33 (by kernel_rfl)
      have e33 := q1 33 _ rfl l33
      simp only [e32, e33]
      go_simp
      refine gr_call ?_
      refine (has_is A4 c4 t n w1 (ht.grows q0) (by omega) HQ.out).mono ?_
      rintro e w2 ⟨rfl, hg⟩
      exact ⟨_, rfl, HI.out _ _ _ ⟨below_grows q0 (Nat.le_refl _) hg, kn_known q1 rfl⟩⟩
    · intro vs
      simp only [Act.put, List.setIfInBounds_toArray, List.set_cons_succ, List.set_cons_zero]
      rfl
    refine gen_cons (A' := ?_) (fun vs L w1 hL hw1 => ?_) ?_ ?_
    rotate_left 1
    · obtain ⟨q0, q1⟩ := HO.out _ _ _ hw1
      have l24 : L 24 = true := hL.need 24 (by kernel_rfl)
      have e24 := q1 24 _ rfl l24
      refine gen_yes ?_ ?_
      · simp only [e24]
        rfl
      have l31 : L 31 = true := hL.need 31 (by kernel_rfl)
      have e31 := q1 31 _ rfl l31
      have l34 : L 34 = true := hL.need 34 (by kernel_rfl)
      have e34 := q1 34 _ rfl l34
      simp only [e31, e34]
      go_simp
      exact gr_val (HI.out _ _ _ ⟨q0, kn_known q1 rfl⟩)
    · intro vs
      simp only [Act.put, List.setIfInBounds_toArray, List.set_cons_succ, List.set_cons_zero]
      rfl
    refine gen_cons (A' := ?_) (fun vs L w1 hL hw1 => ?_) ?_ ?_
    rotate_left 1
    · obtain ⟨q0, q1⟩ := HO.out _ _ _ hw1
      have l24 : L 24 = true := hL.need 24 (by kernel_rfl)
      have e24 := q1 24 _ rfl l24
      refine gen_yes ?_ ?_
      · simp only [e24]
        rfl
      have l27 : L 27 = true := hL.need 27 (by kernel_rfl)
      have e27 := q1 27 _ rfl l27
      have l35 : L 35 = true := hL.need 35 (by kernel_rfl)
      have e35 := q1 35 _ rfl l35
      simp only [e27, e35]
      go_simp
      exact gr_val (HI.out _ _ _ ⟨q0, kn_known q1 rfl⟩)
    · intro vs
      simp only [Act.put, List.setIfInBounds_toArray, List.set_cons_succ, List.set_cons_zero]
      rfl
    refine gen_cons (A' := ?_) (fun vs L w1 hL hw1 => ?_) ?_ ?_
    rotate_left 1
    · obtain ⟨q0, q1⟩ := HO.out _ _ _ hw1
      refine gen_plain rfl ?_
      have l24 : L 24 = true := hL.need 24 (by kernel_rfl)
      have e24 := q1 24 _ rfl l24
      have l36 : L 36 = true := hL.need 36 (by kernel_rfl)
      have e36 := q1 36 _ rfl l36
      simp only [e24, e36]
      go_simp
      exact gr_val (HI.out _ _ _ ⟨q0, kn_known q1 rfl⟩)
    · intro vs
      simp only [Act.put, List.setIfInBounds_toArray, List.set_cons_succ, List.set_cons_zero]
      rfl
    refine gen_cons (A' := ?_) (fun vs L w1 hL hw1 => ?_) ?_ ?_
    rotate_left 1
    · obtain ⟨q0, q1⟩ := HO.out _ _ _ hw1
      refine gen_plain rfl ?_
      have l37 : L 37 = true := hL.need 37 (by kernel_rfl)
      have e37 := q1 37 _ rfl l37
      simp only [e37]
      go_simp
      exact gr_val (HI.out _ _ _ ⟨q0, kn_known q1 rfl⟩)
    · intro vs
      simp only [Act.put, List.setIfInBounds_toArray, List.set_cons_succ, List.set_cons_zero]
      rfl
    refine gen_cons (A' := ?_) (fun vs L w1 hL hw1 => ?_) ?_ ?_
    rotate_left 1
    · obtain ⟨q0, q1⟩ := HO.out _ _ _ hw1
      have l38 : L 38 = true := hL.need 38 (by kernel_rfl)
      have e38 := q1 38 _ rfl l38
      refine gen_yes ?_ ?_
      · simp only [e38]
        rfl
      have x := (k9.grows q0).cell 0
      go_simp
      exact gr_val (HI.out _ _ _ ⟨q0, kn_known q1 rfl⟩)
    · intro vs
      simp only [Act.put, List.setIfInBounds_toArray, List.set_cons_succ, List.set_cons_zero]
      rfl
    refine gen_cons (A' := ?_) (fun vs L w1 hL hw1 => ?_) ?_ ?_
    rotate_left 1
    · obtain ⟨q0, q1⟩ := HO.out _ _ _ hw1
      have l38 : L 38 = true := hL.need 38 (by kernel_rfl)
      have e38 := q1 38 _ rfl l38
      refine gen_yes ?_ ?_
      · simp only [e38]
        rfl
      have x := (k5.grows q0).cell 0
      go_simp
      exact gr_val (HI.out _ _ _ ⟨q0, kn_known q1 rfl⟩)
    · intro vs
      simp only [Act.put, List.setIfInBounds_toArray, List.set_cons_succ, List.set_cons_zero]
      rfl
    refine gen_cons (A' := ?_) (fun vs L w1 hL hw1 => ?_) ?_ ?_
    rotate_left 1
    · obtain ⟨q0, q1⟩ := HO.out _ _ _ hw1
      have l38 : L 38 = true := hL.need 38 (by kernel_rfl)
      have e38 := q1 38 _ rfl l38
      refine gen_yes ?_ ?_
      · simp only [e38]
        rfl
      have l39 : L 39 = true := hL.need 39 (by kernel_rfl)
      have e39 := q1 39 _ rfl l39
      have l40 : L 40 = true := hL.need 40 (by kernel_rfl)
      have e40 := q1 40 _ rfl l40
      simp only [e39, e40]
      go_simp
      refine gr_call ?_
      refine (inside_is A7 c7 i A3 c3 s w1 (hi.grows q0) (by omega) (hs.grows q0) (by omega) hini).mono ?_
      rintro e w2 ⟨rfl, hg⟩
      exact ⟨_, rfl, HI.out _ _ _ ⟨below_grows q0 (Nat.le_refl _) hg, kn_known q1 rfl⟩⟩
    · intro vs
      simp only [Act.put, List.setIfInBounds_toArray, List.set_cons_succ, List.set_cons_zero]
      rfl
    refine gen_cons (A' := ?_) (fun vs L w1 hL hw1 => ?_) ?_ ?_
    rotate_left 1
    · obtain ⟨q0, q1⟩ := HO.out _ _ _ hw1
      refine gen_plain rfl ?_
      have l38 : L 38 = true := hL.need 38 (by kernel_rfl)
      have e38 := q1 38 _ rfl l38
      have l41 : L 41 = true := hL.need 41 (by kernel_rfl)
      have e41 := q1 41 _ rfl l41
      simp only [e38, e41]
      go_simp
      exact gr_val (HI.out _ _ _ ⟨q0, kn_known q1 rfl⟩)
    · intro vs
      simp only [Act.put, List.setIfInBounds_toArray, List.set_cons_succ, List.set_cons_zero]
      rfl
    refine gen_cons (A' := ?_) (fun vs L w1 hL hw1 => ?_) ?_ ?_
    rotate_left 1
    · obtain ⟨q0, q1⟩ := HO.out _ _ _ hw1
      refine gen_plain rfl ?_
      have l42 : L 42 = true := hL.need 42 (by kernel_rfl)
      have e42 := q1 42 _ rfl l42
      simp only [e42]
      go_simp
      exact gr_val (HI.out _ _ _ ⟨q0, kn_known q1 rfl⟩)
    · intro vs
      simp only [Act.put, List.setIfInBounds_toArray, List.set_cons_succ, List.set_cons_zero]
      rfl
    refine gen_cons (A' := ?_) (fun vs L w1 hL hw1 => ?_) ?_ ?_
    rotate_left 1
    · obtain ⟨q0, q1⟩ := HO.out _ _ _ hw1
      have l43 : L 43 = true := hL.need 43 (by kernel_rfl)
      have e43 := q1 43 _ rfl l43
      refine gen_yes ?_ ?_
      · simp only [e43]
        rfl
      have x := (k6.grows q0).cell 0
      go_simp
      exact gr_val (HI.out _ _ _ ⟨q0, kn_known q1 rfl⟩)
    · intro vs
      simp only [Act.put, List.setIfInBounds_toArray, List.set_cons_succ, List.set_cons_zero]
      rfl
    refine gen_cons (A' := ?_) (fun vs L w1 hL hw1 => ?_) ?_ ?_
    rotate_left 1
    · obtain ⟨q0, q1⟩ := HO.out _ _ _ hw1
      have l43 : L 43 = true := hL.need 43 (by kernel_rfl)
      have e43 := q1 43 _ rfl l43
      refine gen_yes ?_ ?_
      · simp only [e43]
        rfl
      have x := (k10.grows q0).cell 0
      go_simp
      exact gr_val (HI.out _ _ _ ⟨q0, kn_known q1 rfl⟩)
    · intro vs
      simp only [Act.put, List.setIfInBounds_toArray, List.set_cons_succ, List.set_cons_zero]
      rfl
    refine gen_cons (A' := ?_) (fun vs L w1 hL hw1 => ?_) ?_ ?_
    rotate_left 1
    · obtain ⟨q0, q1⟩ := HO.out _ _ _ hw1
      have l43 : L 43 = true := hL.need 43 (by kernel_rfl)
      have e43 := q1 43 _ rfl l43
      refine gen_yes ?_ ?_
      · simp only [e43]
        rfl
      have l44 : L 44 = true := hL.need 44 (by kernel_rfl)
      have e44 := q1 44 _ rfl l44
      have l45 : L 45 = true := hL.need 45 (by kernel_rfl)
      have e45 := q1 45 _ rfl l45
      simp only [e44, e45]
      go_simp
      refine gr_call ?_
      refine (inside_is A4 c4 t A8 c8 u w1 (ht.grows q0) (by omega) (hu8.grows q0) (by omega) hinu).mono ?_
      rintro e w2 ⟨rfl, hg⟩
      exact ⟨_, rfl, HI.out _ _ _ ⟨below_grows q0 (Nat.le_refl _) hg, kn_known q1 rfl⟩⟩
    · intro vs
      simp only [Act.put, List.setIfInBounds_toArray, List.set_cons_succ, List.set_cons_zero]
      rfl
    refine gen_cons (A' := ?_) (fun vs L w1 hL hw1 => ?_) ?_ ?_
    rotate_left 1
    · obtain ⟨q0, q1⟩ := HO.out _ _ _ hw1
      refine gen_plain rfl ?_
      have l43 : L 43 = true := hL.need 43 (by kernel_rfl)
      have e43 := q1 43 _ rfl l43
      have l46 : L 46 = true := hL.need 46 (by kernel_rfl)
      have e46 := q1 46 _ rfl l46
      simp only [e43, e46]
      go_simp
      exact gr_val (HI.out _ _ _ ⟨q0, kn_known q1 rfl⟩)
    · intro vs
      simp only [Act.put, List.setIfInBounds_toArray, List.set_cons_succ, List.set_cons_zero]
      rfl
    refine gen_cons (A' := ?_) (fun vs L w1 hL hw1 => ?_) ?_ ?_
    rotate_left 1
    · obtain ⟨q0, q1⟩ := HO.out _ _ _ hw1
      refine gen_plain rfl ?_
      have l47 : L 47 = true := hL.need 47 (by kernel_rfl)
      have e47 := q1 47 _ rfl l47
      simp only [e47]
      go_simp
      exact gr_val (HI.out _ _ _ ⟨q0, kn_known q1 rfl⟩)
    · intro vs
      simp only [Act.put, List.setIfInBounds_toArray, List.set_cons_succ, List.set_cons_zero]
      rfl
    refine gen_nil ?_
    intro vs L W6 hall hS
    obtain ⟨hq, q1⟩ := HO.out _ _ _ hS
    have eX48 := q1 48 _ rfl (hall 48 (by simp))
    clear hall hS HI HO q1
    simp only [eX48]
    replace hB := below_grows hB (Nat.le_refl _) hq
    go_wp2
    go_ret
    exact ⟨rfl, hB⟩
  · have HVI : Hid (hasF i n = q) := Lib.hid HP2
    have HVU : Hid (hasF u n = true) := Lib.hid HU2
    clear HP2 HU2
    obtain ⟨S, HI, HO⟩ : ∃ S : Ran → (Nat → Value) → World → Prop, Hid (∀ L vs w', (Grows Wb w' ∧ KnS [some (.int .i64 0), some (.bool true), some (.bool true), some (.agg #[.slice A7 i.length c7]), some (.bool true), some (.bool true), some (.bool true), some (.agg #[.slice A8 u.length c8]), some (.bool true), some (.bool true), some (.bool true), some (.agg #[.slice A7 i.length c7]), some (.int .i64 n), some (.bool q), some (.agg #[.slice A3 s.length c3]), some (.int .i64 n), some (.bool true), some (.bool true), some (.agg #[.slice A4 t.length c4]), some (.int .i64 n), some (.bool q), some (.bool q), some (.bool true), some (.bool true), some (.bool true), some (.agg #[.slice A8 u.length c8]), some (.int .i64 n), some (.bool true), some (.agg #[.slice A3 s.length c3]), some (.int .i64 n), some (.bool true), some (.bool true), none, none, none, some (.bool true), some (.bool true), some (.bool true), some (.bool true), some (.agg #[.slice A7 i.length c7]), some (.agg #[.slice A3 s.length c3]), some (.bool true), some (.bool true), some (.bool true), some (.agg #[.slice A4 t.length c4]), some (.agg #[.slice A8 u.length c8]), some (.bool true), some (.bool true), some (.bool true)] L vs) → S L vs w') ∧ Hid (∀ L vs w', S L vs w' → (Grows Wb w' ∧ KnS [some (.int .i64 0), some (.bool true), some (.bool true), some (.agg #[.slice A7 i.length c7]), some (.bool true), some (.bool true), some (.bool true), some (.agg #[.slice A8 u.length c8]), some (.bool true), some (.bool true), some (.bool true), some (.agg #[.slice A7 i.length c7]), some (.int .i64 n), some (.bool q), some (.agg #[.slice A3 s.length c3]), some (.int .i64 n), some (.bool true), some (.bool true), some (.agg #[.slice A4 t.length c4]), some (.int .i64 n), some (.bool q), some (.bool q), some (.bool true), some (.bool true), some (.bool true), some (.agg #[.slice A8 u.length c8]), some (.int .i64 n), some (.bool true), some (.agg #[.slice A3 s.length c3]), some (.int .i64 n), some (.bool true), some (.bool true), none, none, none, some (.bool true), some (.bool true), some (.bool true), some (.bool true), some (.agg #[.slice A7 i.length c7]), some (.agg #[.slice A3 s.length c3]), some (.bool true), some (.bool true), some (.bool true), some (.agg #[.slice A4 t.length c4]), some (.agg #[.slice A8 u.length c8]), some (.bool true), some (.bool true), some (.bool true)] L vs)) := ⟨fun L vs w' => Grows Wb w' ∧ KnS [some (.int .i64 0), some (.bool true), some (.bool true), some (.agg #[.slice A7 i.length c7]), some (.bool true), some (.bool true), some (.bool true), some (.agg #[.slice A8 u.length c8]), some (.bool true), some (.bool true), some (.bool true), some (.agg #[.slice A7 i.length c7]), some (.int .i64 n), some (.bool q), some (.agg #[.slice A3 s.length c3]), some (.int .i64 n), some (.bool true), some (.bool true), some (.agg #[.slice A4 t.length c4]), some (.int .i64 n), some (.bool q), some (.bool q), some (.bool true), some (.bool true), some (.bool true), some (.agg #[.slice A8 u.length c8]), some (.int .i64 n), some (.bool true), some (.agg #[.slice A3 s.length c3]), some (.int .i64 n), some (.bool true), some (.bool true), none, none, none, some (.bool true), some (.bool true), some (.bool true), some (.bool true), some (.agg #[.slice A7 i.length c7]), some (.agg #[.slice A3 s.length c3]), some (.bool true), some (.bool true), some (.bool true), some (.agg #[.slice A4 t.length c4]), some (.agg #[.slice A8 u.length c8]), some (.bool true), some (.bool true), some (.bool true)] L vs, fun _ _ _ h => h, fun _ _ _ h => h⟩
    refine wp_region_genW S 78 (by kernel_rfl) (by kernel_rfl) rfl ?_ ?_
    · exact HI.out _ _ _ ⟨Grows.drew' _, kn_none _ _⟩
    refine gen_cons (A' := ?_) (fun vs L w1 hL hw1 => ?_) ?_ ?_
    rotate_left 1
    · obtain ⟨q0, q1⟩ := HO.out _ _ _ hw1
      refine gen_plain rfl ?_
      go_simp
      exact gr_val (HI.out _ _ _ ⟨q0, kn_known q1 rfl⟩)
    · intro vs
      simp only [Act.put, List.setIfInBounds_toArray, List.set_cons_succ, List.set_cons_zero]
      rfl
    refine gen_cons (A' := ?_) (fun vs L w1 hL hw1 => ?_) ?_ ?_
    rotate_left 1
    · obtain ⟨q0, q1⟩ := HO.out _ _ _ hw1
      refine gen_plain rfl ?_
      have l0 : L 0 = true := hL.need 0 (by kernel_rfl)
      have e0 := q1 0 _ rfl l0
      simp only [e0]
      go_simp
      exact gr_val (HI.out _ _ _ ⟨q0, kn_known q1 rfl⟩)
    · intro vs
      simp only [Act.put, List.setIfInBounds_toArray, List.set_cons_succ, List.set_cons_zero]
      rfl
    refine gen_cons (A' := ?_) (fun vs L w1 hL hw1 => ?_) ?_ ?_
    rotate_left 1
    · obtain ⟨q0, q1⟩ := HO.out _ _ _ hw1
      refine gen_plain rfl ?_
      have l1 : L 1 = true := hL.need 1 (by kernel_rfl)
      have e1 := q1 1 _ rfl l1
      simp only [e1]
      go_simp
      exact gr_val (HI.out _ _ _ ⟨q0, kn_known q1 rfl⟩)
    · intro vs
      simp only [Act.put, List.setIfInBounds_toArray, List.set_cons_succ, List.set_cons_zero]
      rfl
    refine gen_cons (A' := ?_) (fun vs L w1 hL hw1 => ?_) ?_ ?_
    rotate_left 1
    · obtain ⟨q0, q1⟩ := HO.out _ _ _ hw1
      have l2 : L 2 = true := hL.need 2 (by kernel_rfl)
      have e2 := q1 2 _ rfl l2
      refine gen_yes ?_ ?_
      · simp only [e2]
        rfl
      have x := (k9.grows q0).cell 0
      go_simp
      exact gr_val (HI.out _ _ _ ⟨q0, kn_known q1 rfl⟩)
    · intro vs
      simp only [Act.put, List.setIfInBounds_toArray, List.set_cons_succ, List.set_cons_zero]
      rfl
    refine gen_cons (A' := ?_) (fun vs L w1 hL hw1 => ?_) ?_ ?_
    rotate_left 1
    · obtain ⟨q0, q1⟩ := HO.out _ _ _ hw1
      have l2 : L 2 = true := hL.need 2 (by kernel_rfl)
      have e2 := q1 2 _ rfl l2
      refine gen_yes ?_ ?_
      · simp only [e2]
        rfl
      have l3 : L 3 = true := hL.need 3 (by kernel_rfl)
      have e3 := q1 3 _ rfl l3
      simp only [e3]
      go_simp
      refine gr_call ?_
      refine (valid_is A7 c7 i w1 (hi.grows q0) (by omega) hoki).mono ?_
      rintro e w2 ⟨rfl, hg⟩
      exact ⟨_, rfl, HI.out _ _ _ ⟨below_grows q0 (Nat.le_refl _) hg, kn_known q1 rfl⟩⟩
    · intro vs
      simp only [Act.put, List.setIfInBounds_toArray, List.set_cons_succ, List.set_cons_zero]
      rfl
    refine gen_cons (A' := ?_) (fun vs L w1 hL hw1 => ?_) ?_ ?_
    rotate_left 1
    · obtain ⟨q0, q1⟩ := HO.out _ _ _ hw1
      refine gen_plain rfl ?_
      have l2 : L 2 = true := hL.need 2 (by kernel_rfl)
      have e2 := q1 2 _ rfl l2
      have l4 : L 4 = true := hL.need 4 (by kernel_rfl)
      have e4 := q1 4 _ rfl l4
      simp only [e2, e4]
      go_simp
      exact gr_val (HI.out _ _ _ ⟨q0, kn_known q1 rfl⟩)
    · intro vs
      simp only [Act.put, List.setIfInBounds_toArray, List.set_cons_succ, List.set_cons_zero]
      rfl
    refine gen_cons (A' := ?_) (fun vs L w1 hL hw1 => ?_) ?_ ?_
    rotate_left 1
    · obtain ⟨q0, q1⟩ := HO.out _ _ _ hw1
      refine gen_plain rfl ?_
      have l5 : L 5 = true := hL.need 5 (by kernel_rfl)
      have e5 := q1 5 _ rfl l5
      simp only [e5]
      go_simp
      exact gr_val (HI.out _ _ _ ⟨q0, kn_known q1 rfl⟩)
    · intro vs
      simp only [Act.put, List.setIfInBounds_toArray, List.set_cons_succ, List.set_cons_zero]
      rfl
    refine gen_cons (A' := ?_) (fun vs L w1 hL hw1 => ?_) ?_ ?_
    rotate_left 1
    · obtain ⟨q0, q1⟩ := HO.out _ _ _ hw1
      have l6 : L 6 = true := hL.need 6 (by kernel_rfl)
      have e6 := q1 6 _ rfl l6
      refine gen_yes ?_ ?_
      · simp only [e6]
        rfl
      have x := (k10.grows q0).cell 0
      go_simp
      exact gr_val (HI.out _ _ _ ⟨q0, kn_known q1 rfl⟩)
    · intro vs
      simp only [Act.put, List.setIfInBounds_toArray, List.set_cons_succ, List.set_cons_zero]
      rfl
    refine gen_cons (A' := ?_) (fun vs L w1 hL hw1 => ?_) ?_ ?_
    rotate_left 1
    · obtain ⟨q0, q1⟩ := HO.out _ _ _ hw1
      have l6 : L 6 = true := hL.need 6 (by kernel_rfl)
      have e6 := q1 6 _ rfl l6
      refine gen_yes ?_ ?_
      · simp only [e6]
        rfl
      have l7 : L 7 = true := hL.need 7 (by kernel_rfl)
      have e7 := q1 7 _ rfl l7
      simp only [e7]
      go_simp
      refine gr_call ?_
      refine (valid_is A8 c8 u w1 (hu8.grows q0) (by omega) hoku).mono ?_
      rintro e w2 ⟨rfl, hg⟩
      exact ⟨_, rfl, HI.out _ _ _ ⟨below_grows q0 (Nat.le_refl _) hg, kn_known q1 rfl⟩⟩
    · intro vs
      simp only [Act.put, List.setIfInBounds_toArray, List.set_cons_succ, List.set_cons_zero]
      rfl
    refine gen_cons (A' := ?_) (fun vs L w1 hL hw1 => ?_) ?_ ?_
    rotate_left 1
    · obtain ⟨q0, q1⟩ := HO.out _ _ _ hw1
      refine gen_plain rfl ?_
      have l6 : L 6 = true := hL.need 6 (by kernel_rfl)
      have e6 := q1 6 _ rfl l6
      have l8 : L 8 = true := hL.need 8 (by kernel_rfl)
      have e8 := q1 8 _ rfl l8
      simp only [e6, e8]
      go_simp
      exact gr_val (HI.out _ _ _ ⟨q0, kn_known q1 rfl⟩)
    · intro vs
      simp only [Act.put, List.setIfInBounds_toArray, List.set_cons_succ, List.set_cons_zero]
      rfl
    refine gen_cons (A' := ?_) (fun vs L w1 hL hw1 => ?_) ?_ ?_
    rotate_left 1
    · obtain ⟨q0, q1⟩ := HO.out _ _ _ hw1
      refine gen_plain rfl ?_
      have l9 : L 9 = true := hL.need 9 (by kernel_rfl)
      have e9 := q1 9 _ rfl l9
      simp only [e9]
      go_simp
      exact gr_val (HI.out _ _ _ ⟨q0, kn_known q1 rfl⟩)
    · intro vs
      simp only [Act.put, List.setIfInBounds_toArray, List.set_cons_succ, List.set_cons_zero]
      rfl
    refine gen_cons (A' := ?_) (fun vs L w1 hL hw1 => ?_) ?_ ?_
    rotate_left 1
    · obtain ⟨q0, q1⟩ := HO.out _ _ _ hw1
      have l10 : L 10 = true := hL.need 10 (by kernel_rfl)
      have e10 := q1 10 _ rfl l10
      refine gen_yes ?_ ?_
      · simp only [e10]
        rfl
      have x := (k9.grows q0).cell 0
      go_simp
      exact gr_val (HI.out _ _ _ ⟨q0, kn_known q1 rfl⟩)
    · intro vs
      simp only [Act.put, List.setIfInBounds_toArray, List.set_cons_succ, List.set_cons_zero]
      rfl
    refine gen_cons (A' := ?_) (fun vs L w1 hL hw1 => ?_) ?_ ?_
    rotate_left 1
    · obtain ⟨q0, q1⟩ := HO.out _ _ _ hw1
      have l10 : L 10 = true := hL.need 10 (by kernel_rfl)
      have e10 := q1 10 _ rfl l10
      refine gen_yes ?_ ?_
      · simp only [e10]
        rfl
      go_simp
      exact gr_val (HI.out _ _ _ ⟨q0, kn_known q1 rfl⟩)
    · intro vs
      simp only [Act.put, List.setIfInBounds_toArray, List.set_cons_succ, List.set_cons_zero]
      rfl
    refine gen_cons (A' := ?_) (fun vs L w1 hL hw1 => ?_) ?_ ?_
    rotate_left 1
    · obtain ⟨q0, q1⟩ := HO.out _ _ _ hw1
      have l10 : L 10 = true := hL.need 10 (by kernel_rfl)
      have e10 := q1 10 _ rfl l10
      refine gen_yes ?_ ?_
      · simp only [e10]
        rfl
      have l11 : L 11 = true := hL.need 11 (by kernel_rfl)
      have e11 := q1 11 _ rfl l11
      have l12 : L 12 = true := hL.need 12 (by kernel_rfl)
      have e12 := q1 12 _ rfl l12
      simp only [e11, e12]
      go_simp
      refine gr_call ?_
      refine (has_is A7 c7 i n w1 (hi.grows q0) (by omega) HVI.out).mono ?_
      rintro e w2 ⟨rfl, hg⟩
      exact ⟨_, rfl, HI.out _ _ _ ⟨below_grows q0 (Nat.le_refl _) hg, kn_known q1 rfl⟩⟩
    · intro vs
      simp only [Act.put, List.setIfInBounds_toArray, List.set_cons_succ, List.set_cons_zero]
      rfl
    refine gen_cons (A' := ?_) (fun vs L w1 hL hw1 => ?_) ?_ ?_
    rotate_left 1
    · obtain ⟨q0, q1⟩ := HO.out _ _ _ hw1
      have l10 : L 10 = true := hL.need 10 (by kernel_rfl)
      have e10 := q1 10 _ rfl l10
      refine gen_yes ?_ ?_
      · simp only [e10]
        rfl
      have x := (k5.grows q0).cell 0
      go_simp
      exact gr_val (HI.out _ _ _ ⟨q0, kn_known q1 rfl⟩)
    · intro vs
      simp only [Act.put, List.setIfInBounds_toArray, List.set_cons_succ, List.set_cons_zero]
      rfl
    refine gen_cons (A' := ?_) (fun vs L w1 hL hw1 => ?_) ?_ ?_
    rotate_left 1
    · obtain ⟨q0, q1⟩ := HO.out _ _ _ hw1
      have l10 : L 10 = true := hL.need 10 (by kernel_rfl)
      have e10 := q1 10 _ rfl l10
      refine gen_yes ?_ ?_
      · simp only [e10]
        rfl
      go_simp
      exact gr_val (HI.out _ _ _ ⟨q0, kn_known q1 rfl⟩)
    · intro vs
      simp only [Act.put, List.setIfInBounds_toArray, List.set_cons_succ, List.set_cons_zero]
      rfl
    refine gen_cons (A' := ?_) (fun vs L w1 hL hw1 => ?_) ?_ ?_
    rotate_left 1
    · obtain ⟨q0, q1⟩ := HO.out _ _ _ hw1
      have l10 : L 10 = true := hL.need 10 (by kernel_rfl)
      have e10 := q1 10 _ rfl l10
      refine gen_yes ?_ ?_
      · simp only [e10]
        rfl
      have l14 : L 14 = true := hL.need 14 (by kernel_rfl)
      have e14 := q1 14 _ rfl l14
      have l15 : L 15 = true := hL.need 15 (by kernel_rfl)
      have e15 := q1 15 _ rfl l15
      simp only [e14, e15]
      go_simp
      refine gr_call ?_
      refine (has_is A3 c3 s n w1 (hs.grows q0) (by omega) HP.out).mono ?_
      rintro e w2 ⟨rfl, hg⟩
      exact ⟨_, rfl, HI.out _ _ _ ⟨below_grows q0 (Nat.le_refl _) hg, kn_known q1 rfl⟩⟩
    · intro vs
      simp only [Act.put, List.setIfInBounds_toArray, List.set_cons_succ, List.set_cons_zero]
      rfl
    refine gen_cons (A' := ?_) (fun vs L w1 hL hw1 => ?_) ?_ ?_
    rotate_left 1
    · obtain ⟨q0, q1⟩ := HO.out _ _ _ hw1
      have l10 : L 10 = true := hL.need 10 (by kernel_rfl)
      have e10 := q1 10 _ rfl l10
      refine gen_yes ?_ ?_
      · simp only [e10]
        rfl
      have l16 : L 16 = true := hL.need 16 (by kernel_rfl)
      have e16 := q1 16 _ rfl l16
      simp only [e16]
      go_simp
      exact gr_val (HI.out _ _ _ ⟨q0, kn_known q1 rfl⟩)
    · intro vs
      simp only [Act.put, List.setIfInBounds_toArray, List.set_cons_succ, List.set_cons_zero]
      rfl
    refine gen_cons (A' := ?_) (fun vs L w1 hL hw1 => ?_) ?_ ?_
    rotate_left 1
    · obtain ⟨q0, q1⟩ := HO.out _ _ _ hw1
      have l17 : L 17 = true := hL.need 17 (by kernel_rfl)
      have e17 := q1 17 _ rfl l17
      refine gen_yes ?_ ?_
      · simp only [e17]
        rfl
      have x := (k6.grows q0).cell 0
      go_simp
      exact gr_val (HI.out _ _ _ ⟨q0, kn_known q1 rfl⟩)
    · intro vs
      simp only [Act.put, List.setIfInBounds_toArray, List.set_cons_succ, List.set_cons_zero]
      rfl
    refine gen_cons (A' := ?_) (fun vs L w1 hL hw1 => ?_) ?_ ?_
    rotate_left 1
    · obtain ⟨q0, q1⟩ := HO.out _ _ _ hw1
      have l17 : L 17 = true := hL.need 17 (by kernel_rfl)
      have e17 := q1 17 _ rfl l17
      refine gen_yes ?_ ?_
      · simp only [e17]
        rfl
      go_simp
      exact gr_val (HI.out _ _ _ ⟨q0, kn_known q1 rfl⟩)
    · intro vs
      simp only [Act.put, List.setIfInBounds_toArray, List.set_cons_succ, List.set_cons_zero]
      rfl
    refine gen_cons (A' := ?_) (fun vs L w1 hL hw1 => ?_) ?_ ?_
    rotate_left 1
    · obtain ⟨q0, q1⟩ := HO.out _ _ _ hw1
      have l17 : L 17 = true := hL.need 17 (by kernel_rfl)
      have e17 := q1 17 _ rfl l17
      refine gen_yes ?_ ?_
      · simp only [e17]
        rfl
      have l18 : L 18 = true := hL.need 18 (by kernel_rfl)
      have e18 := q1 18 _ rfl l18
      have l19 : L 19 = true := hL.need 19 (by kernel_rfl)
      have e19 := q1 19 _ rfl l19
      simp only [e18, e19]
      go_simp
      refine gr_call ?_
      refine (has_is A4 c4 t n w1 (ht.grows q0) (by omega) HQ.out).mono ?_
      rintro e w2 ⟨rfl, hg⟩
      exact ⟨_, rfl, HI.out _ _ _ ⟨below_grows q0 (Nat.le_refl _) hg, kn_known q1 rfl⟩⟩
    · intro vs
      simp only [Act.put, List.setIfInBounds_toArray, List.set_cons_succ, List.set_cons_zero]
      rfl
    refine gen_cons (A' := ?_) (fun vs L w1 hL hw1 => ?_) ?_ ?_
    rotate_left 1
    · obtain ⟨q0, q1⟩ := HO.out _ _ _ hw1
      have l10 : L 10 = true := hL.need 10 (by kernel_rfl)
      have e10 := q1 10 _ rfl l10
      refine gen_yes ?_ ?_
      · simp only [e10]
        rfl
      have l17 : L 17 = true := hL.need 17 (by kernel_rfl)
      have e17 := q1 17 _ rfl l17
      have l20 : L 20 = true := hL.need 20 (by kernel_rfl)
      have e20 := q1 20 _ rfl l20
      simp only [e17, e20]
      go_simp
      exact gr_val (HI.out _ _ _ ⟨q0, kn_known q1 rfl⟩)
    · intro vs
      simp only [Act.put, List.setIfInBounds_toArray, List.set_cons_succ, List.set_cons_zero]
      rfl
    refine gen_cons (A' := ?_) (fun vs L w1 hL hw1 => ?_) ?_ ?_
    rotate_left 1
    · obtain ⟨q0, q1⟩ := HO.out _ _ _ hw1
      have l10 : L 10 = true := hL.need 10 (by kernel_rfl)
      have e10 := q1 10 _ rfl l10
      refine gen_yes ?_ ?_
      · simp only [e10]
        rfl
      have l13 : L 13 = true := hL.need 13 (by kernel_rfl)
      have e13 := q1 13 _ rfl l13
      have l21 : L 21 = true := hL.need 21 (by kernel_rfl)
      have e21 := q1 21 _ rfl l21
      simp only [e13, e21]
      go_simp
      exact gr_val (HI.out _ _ _ ⟨q0, kn_known q1 rfl⟩)
    · intro vs
      simp only [Act.put, List.setIfInBounds_toArray, List.set_cons_succ, List.set_cons_zero]
      rfl
    refine gen_cons (A' := ?_) (fun vs L w1 hL hw1 => ?_) ?_ ?_
    rotate_left 1
    · obtain ⟨q0, q1⟩ := HO.out _ _ _ hw1
      refine gen_plain rfl ?_
      have l10 : L 10 = true := hL.need 10 (by kernel_rfl)
      have e10 := q1 10 _ rfl l10
      have l22 : L 22 = true := hL.need 22 (by kernel_rfl)
      have e22 := q1 22 _ rfl l22
      simp only [e10, e22]
      go_simp
      exact gr_val (HI.out _ _ _ ⟨q0, kn_known q1 rfl⟩)
    · intro vs
      simp only [Act.put, List.setIfInBounds_toArray, List.set_cons_succ, List.set_cons_zero]
      rfl
    refine gen_cons (A' := ?_) (fun vs L w1 hL hw1 => ?_) ?_ ?_
    rotate_left 1
    · obtain ⟨q0, q1⟩ := HO.out _ _ _ hw1
      refine gen_plain rfl ?_
      have l23 : L 23 = true := hL.need 23 (by kernel_rfl)
      have e23 := q1 23 _ rfl l23
      simp only [e23]
      go_simp
      exact gr_val (HI.out _ _ _ ⟨q0, kn_known q1 rfl⟩)
    · intro vs
      simp only [Act.put, List.setIfInBounds_toArray, List.set_cons_succ, List.set_cons_zero]
      rfl
    refine gen_cons (A' := ?_) (fun vs L w1 hL hw1 => ?_) ?_ ?_
    rotate_left 1
    · obtain ⟨q0, q1⟩ := HO.out _ _ _ hw1
      have l24 : L 24 = true := hL.need 24 (by kernel_rfl)
      have e24 := q1 24 _ rfl l24
      refine gen_yes ?_ ?_
      · simp only [e24]
        rfl
      have x := (k10.grows q0).cell 0
      go_simp
      exact gr_val (HI.out _ _ _ ⟨q0, kn_known q1 rfl⟩)
    · intro vs
      simp only [Act.put, List.setIfInBounds_toArray, List.set_cons_succ, List.set_cons_zero]
      rfl
    refine gen_cons (A' := ?_) (fun vs L w1 hL hw1 => ?_) ?_ ?_
    rotate_left 1
    · obtain ⟨q0, q1⟩ := HO.out _ _ _ hw1
      have l24 : L 24 = true := hL.need 24 (by kernel_rfl)
      have e24 := q1 24 _ rfl l24
      refine gen_yes ?_ ?_
      · simp only [e24]
        rfl
      go_simp
      exact gr_val (HI.out _ _ _ ⟨q0, kn_known q1 rfl⟩)
    · intro vs
      simp only [Act.put, List.setIfInBounds_toArray, List.set_cons_succ, List.set_cons_zero]
      rfl
    refine gen_cons (A' := ?_) (fun vs L w1 hL hw1 => ?_) ?_ ?_
    rotate_left 1
    · obtain ⟨q0, q1⟩ := HO.out _ _ _ hw1
      have l24 : L 24 = true := hL.need 24 (by kernel_rfl)
      have e24 := q1 24 _ rfl l24
      refine gen_yes ?_ ?_
      · simp only [e24]
        rfl
      have l25 : L 25 = true := hL.need 25 (by kernel_rfl)
      have e25 := q1 25 _ rfl l25
      have l26 : L 26 = true := hL.need 26 (by kernel_rfl)
      have e26 := q1 26 _ rfl l26
      simp only [e25, e26]
      go_simp
      refine gr_call ?_
      refine (has_is A8 c8 u n w1 (hu8.grows q0) (by omega) HVU.out).mono ?_
      rintro e w2 ⟨rfl, hg⟩
      exact ⟨_, rfl, HI.out _ _ _ ⟨below_grows q0 (Nat.le_refl _) hg, kn_known q1 rfl⟩⟩
    · intro vs
      simp only [Act.put, List.setIfInBounds_toArray, List.set_cons_succ, List.set_cons_zero]
      rfl
    refine gen_cons (A' := ?_) (fun vs L w1 hL hw1 => ?_) ?_ ?_
    rotate_left 1
    · obtain ⟨q0, q1⟩ := HO.out _ _ _ hw1
      have l24 : L 24 = true := hL.need 24 (by kernel_rfl)
      have e24 := q1 24 _ rfl l24
      refine gen_yes ?_ ?_
      · simp only [e24]
        rfl
      have x := (k5.grows q0).cell 0
      go_simp
      exact gr_val (HI.out _ _ _ ⟨q0, kn_known q1 rfl⟩)
    · intro vs
      simp only [Act.put, List.setIfInBounds_toArray, List.set_cons_succ, List.set_cons_zero]
      rfl
    refine gen_cons (A' := ?_) (fun vs L w1 hL hw1 => ?_) ?_ ?_
    rotate_left 1
    · obtain ⟨q0, q1⟩ := HO.out _ _ _ hw1
      have l24 : L 24 = true := hL.need 24 (by kernel_rfl)
      have e24 := q1 24 _ rfl l24
      refine gen_yes ?_ ?_
      · simp only [e24]
        rfl
      go_simp
      exact gr_val (HI.out _ _ _ ⟨q0, kn_known q1 rfl⟩)
    · intro vs
      simp only [Act.put, List.setIfInBounds_toArray, List.set_cons_succ, List.set_cons_zero]
      rfl
    refine gen_cons (A' := ?_) (fun vs L w1 hL hw1 => ?_) ?_ ?_
    rotate_left 1
    · obtain ⟨q0, q1⟩ := HO.out _ _ _ hw1
      have l24 : L 24 = true := hL.need 24 (by kernel_rfl)
      have e24 := q1 24 _ rfl l24
      refine gen_yes ?_ ?_
      · simp only [e24]
        rfl
      have l28 : L 28 = true := hL.need 28 (by kernel_rfl)
      have e28 := q1 28 _ rfl l28
      have l29 : L 29 = true := hL.need 29 (by kernel_rfl)
      have e29 := q1 29 _ rfl l29
      simp only [e28, e29]
      go_simp
      refine gr_call ?_
      refine (has_is A3 c3 s n w1 (hs.grows q0) (by omega) HP.out).mono ?_
      rintro e w2 ⟨rfl, hg⟩
      exact ⟨_, rfl, HI.out _ _ _ ⟨below_grows q0 (Nat.le_refl _) hg, kn_known q1 rfl⟩⟩
    · intro vs
      simp only [Act.put, List.setIfInBounds_toArray, List.set_cons_succ, List.set_cons_zero]
      rfl
    refine gen_cons (A' := ?_) (fun vs L w1 hL hw1 => ?_) ?_ ?_
    rotate_left 1
    · obtain ⟨q0, q1⟩ := HO.out _ _ _ hw1
      have l24 : L 24 = true := hL.need 24 (by kernel_rfl)
      have e24 := q1 24 _ rfl l24
      refine gen_yes ?_ ?_
      · simp only [e24]
        rfl
      have l30 : L 30 = true := hL.need 30 (by kernel_rfl)
      have e30 := q1 30 _ rfl l30
      simp only [e30]
      go_simp
      exact gr_val (HI.out _ _ _ ⟨q0, kn_known q1 rfl⟩)
    · intro vs
      simp only [Act.put, List.setIfInBounds_toArray, List.set_cons_succ, List.set_cons_zero]
      rfl
    refine gen_cons (A' := ?_) (fun vs L w1 hL hw1 => ?_) ?_ ?_
    rotate_left 1
    · obtain ⟨q0, q1⟩ := HO.out _ _ _ hw1
      have l31 : L 31 = true := hL.need 31 (by kernel_rfl)
      have e31 := q1 31 _ rfl l31
      refine gen_no ?_ ?_
      · simp only [e31]
        rfl
      · exact HI.out _ _ _ ⟨q0, kn_free q1 rfl⟩
    · intro vs
      simp only [Act.put, List.setIfInBounds_toArray, List.set_cons_succ, List.set_cons_zero]
      rfl
    refine gen_cons (A' := ?_) (fun vs L w1 hL hw1 => ?_) ?_ ?_
    rotate_left 1
    · obtain ⟨q0, q1⟩ := HO.out _ _ _ hw1
      have l31 : L 31 = true := hL.need 31 (by kernel_rfl)
      have e31 := q1 31 _ rfl l31
      refine gen_no ?_ ?_
      · simp only [e31]
        rfl
      · exact HI.out _ _ _ ⟨q0, kn_free q1 rfl⟩
    · intro vs
      simp only [Act.put, List.setIfInBounds_toArray, List.set_cons_succ, List.set_cons_zero]
      rfl
    refine gen_cons (A' := ?_) (fun vs L w1 hL hw1 => ?_) ?_ ?_
    rotate_left 1
    · obtain ⟨q0, q1⟩ := HO.out _ _ _ hw1
      have l31 : L 31 = true := hL.need 31 (by kernel_rfl)
      have e31 := q1 31 _ rfl l31
      refine gen_no ?_ ?_
      · simp only [e31]
        rfl
      · exact HI.out _ _ _ ⟨q0, kn_free q1 rfl⟩
    · intro vs
      simp only [Act.put, List.setIfInBounds_toArray, List.set_cons_succ, List.set_cons_zero]
      rfl
    refine gen_cons (A' := ?_) (fun vs L w1 hL hw1 => ?_) ?_ ?_
    rotate_left 1
    · obtain ⟨q0, q1⟩ := HO.out _ _ _ hw1
      have l24 : L 24 = true := hL.need 24 (by kernel_rfl)
      have e24 := q1 24 _ rfl l24
      refine gen_yes ?_ ?_
      · simp only [e24]
        rfl
      have l31 : L 31 = true := hL.need 31 (by kernel_rfl)
      have e31 := q1 31 _ rfl l31
      simp only [e31]
      go_simp
      exact gr_val (HI.out _ _ _ ⟨q0, kn_known q1 rfl⟩)
    · intro vs
      simp only [Act.put, List.setIfInBounds_toArray, List.set_cons_succ, List.set_cons_zero]
      rfl
    refine gen_cons (A' := ?_) (fun vs L w1 hL hw1 => ?_) ?_ ?_
    rotate_left 1
    · obtain ⟨q0, q1⟩ := HO.out _ _ _ hw1
      have l24 : L 24 = true := hL.need 24 (by kernel_rfl)
      have e24 := q1 24 _ rfl l24
      refine gen_yes ?_ ?_
      · simp only [e24]
        rfl
      have l27 : L 27 = true := hL.need 27 (by kernel_rfl)
      have e27 := q1 27 _ rfl l27
      have l35 : L 35 = true := hL.need 35 (by kernel_rfl)
      have e35 := q1 35 _ rfl l35
      simp only [e27, e35]
      go_simp
      exact gr_val (HI.out _ _ _ ⟨q0, kn_known q1 rfl⟩)
    · intro vs
      simp only [Act.put, List.setIfInBounds_toArray, List.set_cons_succ, List.set_cons_zero]
      rfl
    refine gen_cons (A' := ?_) (fun vs L w1 hL hw1 => ?_) ?_ ?_
    rotate_left 1
    · obtain ⟨q0, q1⟩ := HO.out _ _ _ hw1
      refine gen_plain rfl ?_
      have l24 : L 24 = true := hL.need 24 (by kernel_rfl)
      have e24 := q1 24 _ rfl l24
      have l36 : L 36 = true := hL.need 36 (by kernel_rfl)
      have e36 := q1 36 _ rfl l36
      simp only [e24, e36]
      go_simp
      exact gr_val (HI.out _ _ _ ⟨q0, kn_known q1 rfl⟩)
    · intro vs
      simp only [Act.put, List.setIfInBounds_toArray, List.set_cons_succ, List.set_cons_zero]
      rfl
    refine gen_cons (A' := ?_) (fun vs L w1 hL hw1 => ?_) ?_ ?_
    rotate_left 1
    · obtain ⟨q0, q1⟩ := HO.out _ _ _ hw1
      refine gen_plain rfl ?_
      have l37 : L 37 = true := hL.need 37 (by kernel_rfl)
      have e37 := q1 37 _ rfl l37
      simp only [e37]
      go_simp
      exact gr_val (HI.out _ _ _ ⟨q0, kn_known q1 rfl⟩)
    · intro vs
      simp only [Act.put, List.setIfInBounds_toArray, List.set_cons_succ, List.set_cons_zero]
      rfl
    refine gen_cons (A' := ?_) (fun vs L w1 hL hw1 => ?_) ?_ ?_
    rotate_left 1
    · obtain ⟨q0, q1⟩ := HO.out _ _ _ hw1
      have l38 : L 38 = true := hL.need 38 (by kernel_rfl)
      have e38 := q1 38 _ rfl l38
      refine gen_yes ?_ ?_
      · simp only [e38]
        rfl
      have x := (k9.grows q0).cell 0
      go_simp
      exact gr_val (HI.out _ _ _ ⟨q0, kn_known q1 rfl⟩)
    · intro vs
      simp only [Act.put, List.setIfInBounds_toArray, List.set_cons_succ, List.set_cons_zero]
      rfl
    refine gen_cons (A' := ?_) (fun vs L w1 hL hw1 => ?_) ?_ ?_
    rotate_left 1
    · obtain ⟨q0, q1⟩ := HO.out _ _ _ hw1
      have l38 : L 38 = true := hL.need 38 (by kernel_rfl)
      have e38 := q1 38 _ rfl l38
      refine gen_yes ?_ ?_
      · simp only [e38]
        rfl
      have x := (k5.grows q0).cell 0
      go_simp
      exact gr_val (HI.out _ _ _ ⟨q0, kn_known q1 rfl⟩)
    · intro vs
      simp only [Act.put, List.setIfInBounds_toArray, List.set_cons_succ, List.set_cons_zero]
      rfl
    refine gen_cons (A' := ?_) (fun vs L w1 hL hw1 => ?_) ?_ ?_
    rotate_left 1
    · obtain ⟨q0, q1⟩ := HO.out _ _ _ hw1
      have l38 : L 38 = true := hL.need 38 (by kernel_rfl)
      have e38 := q1 38 _ rfl l38
      refine gen_yes ?_ ?_
      · simp only [e38]
        rfl
      have l39 : L 39 = true := hL.need 39 (by kernel_rfl)
      have e39 := q1 39 _ rfl l39
      have l40 : L 40 = true := hL.need 40 (by kernel_rfl)
      have e40 := q1 40 _ rfl l40
      simp only [e39, e40]
      go_simp
      refine gr_call ?_
      refine (inside_is A7 c7 i A3 c3 s w1 (hi.grows q0) (by omega) (hs.grows q0) (by omega) hini).mono ?_
      rintro e w2 ⟨rfl, hg⟩
      exact ⟨_, rfl, HI.out _ _ _ ⟨below_grows q0 (Nat.le_refl _) hg, kn_known q1 rfl⟩⟩
    · intro vs
      simp only [Act.put, List.setIfInBounds_toArray, List.set_cons_succ, List.set_cons_zero]
      rfl
    refine gen_cons (A' := ?_) (fun vs L w1 hL hw1 => ?_) ?_ ?_
    rotate_left 1
    · obtain ⟨q0, q1⟩ := HO.out _ _ _ hw1
      refine gen_plain rfl ?_
      have l38 : L 38 = true := hL.need 38 (by kernel_rfl)
      have e38 := q1 38 _ rfl l38
      have l41 : L 41 = true := hL.need 41 (by kernel_rfl)
      have e41 := q1 41 _ rfl l41
      simp only [e38, e41]
      go_simp
      exact gr_val (HI.out _ _ _ ⟨q0, kn_known q1 rfl⟩)
    · intro vs
      simp only [Act.put, List.setIfInBounds_toArray, List.set_cons_succ, List.set_cons_zero]
      rfl
    refine gen_cons (A' := ?_) (fun vs L w1 hL hw1 => ?_) ?_ ?_
    rotate_left 1
    · obtain ⟨q0, q1⟩ := HO.out _ _ _ hw1
      refine gen_plain rfl ?_
      have l42 : L 42 = true := hL.need 42 (by kernel_rfl)
      have e42 := q1 42 _ rfl l42
      simp only [e42]
      go_simp
      exact gr_val (HI.out _ _ _ ⟨q0, kn_known q1 rfl⟩)
    · intro vs
      simp only [Act.put, List.setIfInBounds_toArray, List.set_cons_succ, List.set_cons_zero]
      rfl
    refine gen_cons (A' := ?_) (fun vs L w1 hL hw1 => ?_) ?_ ?_
    rotate_left 1
    · obtain ⟨q0, q1⟩ := HO.out _ _ _ hw1
      have l43 : L 43 = true := hL.need 43 (by kernel_rfl)
      have e43 := q1 43 _ rfl l43
      refine gen_yes ?_ ?_
      · simp only [e43]
        rfl
      have x := (k6.grows q0).cell 0
      go_simp
      exact gr_val (HI.out _ _ _ ⟨q0, kn_known q1 rfl⟩)
    · intro vs
      simp only [Act.put, List.setIfInBounds_toArray, List.set_cons_succ, List.set_cons_zero]
      rfl
    refine gen_cons (A' := ?_) (fun vs L w1 hL hw1 => ?_) ?_ ?_
    rotate_left 1
    · obtain ⟨q0, q1⟩ := HO.out _ _ _ hw1
      have l43 : L 43 = true := hL.need 43 (by kernel_rfl)
      have e43 := q1 43 _ rfl l43
      refine gen_yes ?_ ?_
      · simp only [e43]
        rfl
      have x := (k10.grows q0).cell 0
      go_simp
      exact gr_val (HI.out _ _ _ ⟨q0, kn_known q1 rfl⟩)
    · intro vs
      simp only [Act.put, List.setIfInBounds_toArray, List.set_cons_succ, List.set_cons_zero]
      rfl
    refine gen_cons (A' := ?_) (fun vs L w1 hL hw1 => ?_) ?_ ?_
    rotate_left 1
    · obtain ⟨q0, q1⟩ := HO.out _ _ _ hw1
      have l43 : L 43 = true := hL.need 43 (by kernel_rfl)
      have e43 := q1 43 _ rfl l43
      refine gen_yes ?_ ?_
      · simp only [e43]
        rfl
      have l44 : L 44 = true := hL.need 44 (by kernel_rfl)
      have e44 := q1 44 _ rfl l44
      have l45 : L 45 = true := hL.need 45 (by kernel_rfl)
      have e45 := q1 45 _ rfl l45
      simp only [e44, e45]
      go_simp
      refine gr_call ?_
      refine (inside_is A4 c4 t A8 c8 u w1 (ht.grows q0) (by omega) (hu8.grows q0) (by omega) hinu).mono ?_
      rintro e w2 ⟨rfl, hg⟩
      exact ⟨_, rfl, HI.out _ _ _ ⟨below_grows q0 (Nat.le_refl _) hg, kn_known q1 rfl⟩⟩
    · intro vs
      simp only [Act.put, List.setIfInBounds_toArray, List.set_cons_succ, List.set_cons_zero]
      rfl
    refine gen_cons (A' := ?_) (fun vs L w1 hL hw1 => ?_) ?_ ?_
    rotate_left 1
    · obtain ⟨q0, q1⟩ := HO.out _ _ _ hw1
      refine gen_plain rfl ?_
      have l43 : L 43 = true := hL.need 43 (by kernel_rfl)
      have e43 := q1 43 _ rfl l43
      have l46 : L 46 = true := hL.need 46 (by kernel_rfl)
      have e46 := q1 46 _ rfl l46
      simp only [e43, e46]
      go_simp
      exact gr_val (HI.out _ _ _ ⟨q0, kn_known q1 rfl⟩)
    · intro vs
      simp only [Act.put, List.setIfInBounds_toArray, List.set_cons_succ, List.set_cons_zero]
      rfl
    refine gen_cons (A' := ?_) (fun vs L w1 hL hw1 => ?_) ?_ ?_
    rotate_left 1
    · obtain ⟨q0, q1⟩ := HO.out _ _ _ hw1
      refine gen_plain rfl ?_
      have l47 : L 47 = true := hL.need 47 (by kernel_rfl)
      have e47 := q1 47 _ rfl l47
      simp only [e47]
      go_simp
      exact gr_val (HI.out _ _ _ ⟨q0, kn_known q1 rfl⟩)
    · intro vs
      simp only [Act.put, List.setIfInBounds_toArray, List.set_cons_succ, List.set_cons_zero]
      rfl
    refine gen_nil ?_
    intro vs L W6 hall hS
    obtain ⟨hq, q1⟩ := HO.out _ _ _ hS
    have eX48 := q1 48 _ rfl (hall 48 (by simp))
    clear hall hS HI HO q1
    simp only [eX48]
    replace hB := below_grows hB (Nat.le_refl _) hq
    go_wp2
    go_ret
    exact ⟨rfl, hB⟩
end IntsetMembers
namespace IntsetMembers
theorem contract (H : Type) (enc : TypeId × Value → H) (W : World) (base : Nat) (args : Array Value) (ds gs : List (DataW H)) (before : List MemPlace)
    (hval0 : ∀ (j : Nat) t v, Try.f8.params[j]? = some t → args[j]? = some v → Value.okWide Try.prog W .any base t v)
    (hW : DataW.Whole enc Try.prog Try.f8.params.toList Rows.intsetMembersSpec.vars false W args.toList ds gs before)
    (hsz0 : (DataW.weightsEach Try.prog (Try.f8.params.toList ++ Rows.intsetMembersSpec.plain.varTypes Try.prog) (ds ++ gs)).all (· ≤ reachBytes) = true) :
    Calls Try.prog 8 args W fun e W' => ∃ v, e = .returned v ∧ Rows.intsetMembersSpec.post enc Try.prog Try.f8 false true false false W args v W' := by
  have key : Calls Try.prog 8 args W fun e W' => e = .returned (.bool true) ∧ Below W.heap.size W W' := by
    have hval : ∀ (j : Nat) t v, Try.f8.params[j]? = some t → args[j]? = some v → Value.okWide Try.prog W .any base t v := hval0
    obtain ⟨p, q, hA0, hV, hbe, hfz, hnd⟩ := hW
    have hA : DataW.TrodAll enc Try.prog W 0 (fun _ => true) true Try.f8.params.toList args.toList ds p := hA0
    rw [Try.params8] at hA hval
    clear hA0 hval0
    obtain ⟨v0, vs0, d0, ds0, p0, q0, hargs, rfl, rfl, h0, r0⟩ := trodAll_cons hA
    obtain ⟨v1, vs1, d1, ds1, p1, q1, rfl, rfl, rfl, h1, r1⟩ := trodAll_cons r0
    obtain ⟨v2, vs2, d2, ds2, p2, q2, rfl, rfl, rfl, h2, r2⟩ := trodAll_cons r1
    obtain ⟨rfl, rfl, rfl⟩ := trodAll_nil r2
    obtain rfl : args = #[v0, v1, v2] := by cases args; simp_all
    obtain ⟨rfl, rfl⟩ := trodVars_none hV
    have hsz : (DataW.weightsEach Try.prog (Try.f8.params.toList ++ Rows.intsetMembersSpec.plain.varTypes Try.prog) ([d0, d1, d2] ++ [])).all (· ≤ reachBytes) = true := hsz0
    rw [Try.params8] at hsz
    clear hsz0
    obtain ⟨A, c, l, rfl, hI0, hl0, _, hw0⟩ := open_slice_kind Try.underlying33 Try.underlying5 (by kernel_rfl) (hval 0 33 v0 rfl rfl) h0
    obtain ⟨A2, c2, m, rfl, hI1, hl1, _, hw1⟩ := open_slice_kind Try.underlying33 Try.underlying5 (by kernel_rfl) (hval 1 33 v1 rfl rfl) h1
    obtain ⟨a2, rfl, rfl, rfl, w2⟩ := open_int Try.underlying5 (hval 2 5 v2 rfl rfl) h2
    exact IntsetMembers.walk A c l A2 c2 m a2 W hI0 hl0 (fun x hx => u8_bd (hw0 x hx)) hI1 hl1 (fun x hx => u8_bd (hw1 x hx)) (u8_bd w2)
  refine key.mono fun e W' ⟨he, hb⟩ => ⟨_, he, law_post laid_out hW ?_ rfl (by kernel_rfl) Try.underlying4 ?_ hb⟩
  · rw [Try.params8]
    intro t ht
    simp only [List.mem_cons, List.not_mem_nil, or_false] at ht
    rcases ht with rfl | rfl | rfl <;> exact ⟨by kernel_rfl, of_decide_eq_true (by kernel_rfl)⟩
  · rw [Try.params8]
    intro ds hl
    match ds, hl with
    | [_, _, _], _ => rfl

set_option maxRecDepth 100000 in
theorem lifted (os : Os) (started : os.Started) (H : Type) (enc : TypeId × Value → H) :
    ReturnsInHanded {} Try.checked os 8 .any (Rows.intsetMembersSpec.pre6 enc Try.prog Try.f8 Rows.intsetMembersRow.domain false) (Rows.intsetMembersSpec.post enc Try.prog Try.f8 false true false false) := by
  refine returnsInHanded_of_change_sized (C := Try.checked) own_knob started (by kernel_rfl) Try.func8
    (ChangeSpec.witness6 (enc := enc) (C := Try.checked) false ⟨#[], #[.slice none 0 0, .slice none 0 0, .int .u8 0], []⟩ 8 (by kernel_rfl) (by kernel_rfl) (by kernel_rfl) (by kernel_rfl)) ?_
  intro W base args ds gs before hval0 hW _ hsz0 _
  exact contract H enc W base args ds gs before hval0 hW hsz0

theorem over : Rows.intsetMembersRow.holds Try.pinned (OpenSpec.ofChange Rows.intsetMembersSpec) :=
  OpenClaim.holds_of_wide 8 Try.f8 rfl rfl rfl rfl rfl rfl rfl ⟨rfl, rfl, rfl, rfl, rfl⟩ rfl rfl rfl rfl rfl (by kernel_rfl) Try.func8 (by kernel_rfl)
    (of_decide_eq_true (by kernel_rfl)) (by unfold Func.isWrapper; first | (rw [if_pos (by decide +kernel)]; kernel_rfl) | (rw [if_neg (by decide +kernel)]; exact ⟨rfl, rfl⟩))
    (fun os started H enc _ => lifted os started H enc)

/-- The given statement. -/
theorem proved : Rows.IntsetMembersSaid := over
end IntsetMembers
#print axioms IntsetMembers.proved
end Go.Proofs.Ytejdaodchaeglaa
