/-
  IntsetCombines, for every input: the law returns true, and each argument reads behind the call as it read before. No condition.
-/
import Derived.Test.YtejdaodchaeglaaSpW
import Derived.Test.YtejdaodchaeglaaSpO
import Derived.Test.YtejdaodchaeglaaSliceK
namespace Go.Proofs.Ytejdaodchaeglaa
open Go.ChangeShapes Go.WideShapes Go.ChangeAt Go.RowKit
theorem rinter_is (A : Option Addr) (c : Nat) (l : List Sp) (B : Option Addr) (cb : Nat) (m o : List Sp) (w : World) (h : Sps w A l) (hl : l.length ≤ 9223372036854775807) (hm : Sps w B m) (hml : m.length ≤ 9223372036854775807) (ho : (interF (spansF l) (spansF m)).take 64 = o) :
    Calls Try.prog 23 #[.agg #[.slice A l.length c], .agg #[.slice B m.length cb]] w fun e w' => (∃ v, e = .returned v ∧ SetV w' o v) ∧ Grows w w' := by rw [← ho]; exact rinter_any A c l B cb m w h hl hm hml
namespace IntsetCombines
theorem uni_len (l m : List Sp) : (uniF l m).1.length ≤ 64 := by
  unfold uniF
  split
  · simp
  · simp only []; omega
set_option maxRecDepth 100000 in
set_option maxHeartbeats 32000000 in
theorem walk (A0 : Option Addr) (c0 : Nat) (a : List Sp) (B0 : Option Addr) (b0 : Nat) (b : List Sp) (Al : Option Addr) (cl : Nat) (l : List Int) (Am : Option Addr) (cm : Nat) (m : List Int) (n : Int) (w : World)
    (ha : Sps w A0 a) (hal : a.length ≤ 9223372036854775807) (hb : Sps w B0 b) (hbl : b.length ≤ 9223372036854775807) (hI : U8s w Al l) (hl : l.length ≤ 9223372036854775807) (hu : ∀ x ∈ l, 0 ≤ x ∧ x ≤ 255) (hI2 : U8s w Am m) (hm : m.length ≤ 9223372036854775807) (hum : ∀ x ∈ m, 0 ≤ x ∧ x ≤ 255) (hn : -9223372036854775808 ≤ n ∧ n ≤ 9223372036854775807) :
    Calls Try.prog 7 #[.agg #[.slice A0 a.length c0], .agg #[.slice B0 b.length b0], .slice Al l.length cl, .slice Am m.length cm, .int .i64 n] w fun e w' => e = .returned (.bool true) ∧ Below w.heap.size w w' := by
  have k4 := (Blk.new w 24 #[.slice A0 a.length c0]).alloc (Obj.cells #[.slice B0 b.length b0] 24)
  have k5 := blk_new_at (X := w.alloc (Obj.cells #[.slice A0 a.length c0] 24)) (n := w.heap.size + 1) (t := 24) (cs := #[.slice B0 b.length b0]) (by simp)
  have hB := ((Below.refl w.heap.size w).alloc (Nat.le_refl _) (Obj.cells #[.slice A0 a.length c0] 24)).alloc (by simp) (Obj.cells #[.slice B0 b.length b0] 24)
  go_enter Try.func7, Try.ntmps7
  go_upto_region 1 with fail
  replace ha := ha.grows hB
  replace hb := hb.grows hB
  replace hI := hI.grows hB
  replace hI2 := hI2.grows hB
  generalize World.alloc (World.alloc w _) _ = w1 at *
  generalize w.heap.size + 1 = G5 at *
  have hz := hB.size
  obtain ⟨G4, hG4⟩ : ∃ G4, G4 = w.heap.size := ⟨_, rfl⟩
  go_wp2_with fail
  refine (sane_any _).mono ?_
  rintro e w2 ⟨rfl, hq⟩
  replace hB := below_grows hB (Nat.le_refl _) hq
  replace k4 := k4.grows hq
  replace k5 := k5.grows hq
  replace ha := ha.grows hq
  replace hb := hb.grows hq
  replace hI := hI.grows hq
  replace hI2 := hI2.grows hq
  clear hq hG4 hz
  have x4 := k4.cell 0
  have x5 := k5.cell 0
  go_wp2_with fail
  refine (keep_any A0 c0 a _ hal).mono ?_
  rintro e w3 ⟨rfl, hq⟩
  replace hB := below_grows hB (Nat.le_refl _) hq
  replace k4 := k4.grows hq
  replace k5 := k5.grows hq
  replace ha := ha.grows hq
  replace hb := hb.grows hq
  replace hI := hI.grows hq
  replace hI2 := hI2.grows hq
  clear hq x4 x5
  by_cases h70 : a.length ≤ 70
  rotate_left
  · have hf : decide (a.length ≤ 70) = false := by simpa using h70
    simp only [hf]
    go_wp2
    go_ret
    exact ⟨rfl, hB⟩
  have hf : decide (a.length ≤ 70) = true := by simpa using h70
  simp only [hf]
  clear hf h70
  have x5 := k5.cell 0
  go_wp2_with fail
  refine (keep_any B0 b0 b _ hbl).mono ?_
  rintro e w3 ⟨rfl, hq⟩
  replace hB := below_grows hB (Nat.le_refl _) hq
  replace k4 := k4.grows hq
  replace k5 := k5.grows hq
  replace ha := ha.grows hq
  replace hb := hb.grows hq
  replace hI := hI.grows hq
  replace hI2 := hI2.grows hq
  clear hq x5
  by_cases h70 : b.length ≤ 70
  rotate_left
  · have hf : decide (b.length ≤ 70) = false := by simpa using h70
    simp only [hf]
    go_wp2
    go_ret
    exact ⟨rfl, hB⟩
  have hf : decide (b.length ≤ 70) = true := by simpa using h70
  simp only [hf]
  clear hf h70
  go_upto_region 5 with fail
  obtain ⟨S, HI, HO⟩ : ∃ S : Ran → (Nat → Value) → World → Prop, Hid (∀ L vs w', (Grows w3 w' ∧ KnS [some (.agg #[.slice A0 a.length c0]), some (.slice Al l.length cl), none, none, some (.int .i64 2), some (.int .i64 0)] L vs ∧ DsS [none, none, some (gMade), some (gSets), none, none] L vs w') → S L vs w') ∧ Hid (∀ L vs w', S L vs w' → (Grows w3 w' ∧ KnS [some (.agg #[.slice A0 a.length c0]), some (.slice Al l.length cl), none, none, some (.int .i64 2), some (.int .i64 0)] L vs ∧ DsS [none, none, some (gMade), some (gSets), none, none] L vs w')) := ⟨fun L vs w' => Grows w3 w' ∧ KnS [some (.agg #[.slice A0 a.length c0]), some (.slice Al l.length cl), none, none, some (.int .i64 2), some (.int .i64 0)] L vs ∧ DsS [none, none, some (gMade), some (gSets), none, none] L vs w', fun _ _ _ h => h, fun _ _ _ h => h⟩
  refine wp_region_genW S 113 (by kernel_rfl) (by kernel_rfl) rfl ?_ ?_
  · exact HI.out _ _ _ ⟨Grows.drew' _, kn_none _ _, ds_none _ _ _⟩
  refine gen_cons (A' := ?_) (fun vs L w1 hL hw1 => ?_) ?_ ?_
  rotate_left 1
  · obtain ⟨q0, q1, q2⟩ := HO.out _ _ _ hw1
    refine gen_plain rfl ?_
    have x := (k4.grows q0).cell 0
    go_simp
    exact gr_val (HI.out _ _ _ ⟨q0, kn_known q1 rfl, ds_free q2 rfl⟩)
  · intro vs
    simp only [Act.put, List.setIfInBounds_toArray, List.set_cons_succ, List.set_cons_zero]
    rfl
  refine gen_cons (A' := ?_) (fun vs L w1 hL hw1 => ?_) ?_ ?_
  rotate_left 1
  · obtain ⟨q0, q1, q2⟩ := HO.out _ _ _ hw1
    refine gen_plain rfl ?_
    go_simp
    exact gr_val (HI.out _ _ _ ⟨q0, kn_known q1 rfl, ds_free q2 rfl⟩)
  · intro vs
    simp only [Act.put, List.setIfInBounds_toArray, List.set_cons_succ, List.set_cons_zero]
    rfl
  refine gen_cons (A' := ?_) (fun vs L w1 hL hw1 => ?_) ?_ ?_
  rotate_left 1
  · obtain ⟨q0, q1, q2⟩ := HO.out _ _ _ hw1
    refine gen_plain rfl ?_
    have l1 : L 1 = true := hL.need 1 (by kernel_rfl)
    have e1 := q1 1 _ rfl l1
    simp only [e1]
    go_simp
    refine gr_call ?_
    refine (made9_any Al cl l w1 (hI.grows q0) hl hu).mono ?_
    rintro e w2 ⟨⟨s, v, rfl, hv, -, h20, -⟩, hg⟩
    exact ⟨_, rfl, HI.out _ _ _ ⟨below_grows q0 (Nat.le_refl _) hg, kn_free q1 rfl, ds_put (q2.grows hg) rfl (⟨_, hv, h20⟩)⟩⟩
  · intro vs
    simp only [Act.put, List.setIfInBounds_toArray, List.set_cons_succ, List.set_cons_zero]
    rfl
  refine gen_cons (A' := ?_) (fun vs L w1 hL hw1 => ?_) ?_ ?_
  rotate_left 1
  · obtain ⟨q0, q1, q2⟩ := HO.out _ _ _ hw1
    refine gen_plain rfl ?_
    have l0 : L 0 = true := hL.need 0 (by kernel_rfl)
    have e0 := q1 0 _ rfl l0
    have l2 : L 2 = true := hL.need 2 (by kernel_rfl)
    obtain ⟨s2, ⟨A2, c2, e2, -, ss2⟩, hl2⟩ := q2 2 _ rfl l2
    simp only [e0, e2]
    go_simp
    have hg := (Below.refl w1.heap.size w1).alloc (Nat.le_refl _) (Obj.cells #[.slice A0 a.length c0, .slice A2 s2.length c2] 24)
    exact gr_val (HI.out _ _ _ ⟨below_grows q0 (Nat.le_refl _) hg, kn_free q1 rfl, ds_put (q2.grows hg) rfl (sets_lit (ha.grows q0) hal ss2 (by omega))⟩)
  · intro vs
    simp only [Act.put, List.setIfInBounds_toArray, List.set_cons_succ, List.set_cons_zero]
    rfl
  refine gen_cons (A' := ?_) (fun vs L w1 hL hw1 => ?_) ?_ ?_
  rotate_left 1
  · obtain ⟨q0, q1, q2⟩ := HO.out _ _ _ hw1
    refine gen_plain rfl ?_
    have l3 : L 3 = true := hL.need 3 (by kernel_rfl)
    obtain ⟨ad3, e3, -, -⟩ := q2 3 _ rfl l3
    simp only [e3]
    go_simp
    exact gr_val (HI.out _ _ _ ⟨q0, kn_known q1 rfl, ds_free q2 rfl⟩)
  · intro vs
    simp only [Act.put, List.setIfInBounds_toArray, List.set_cons_succ, List.set_cons_zero]
    rfl
  refine gen_cons (A' := ?_) (fun vs L w1 hL hw1 => ?_) ?_ ?_
  rotate_left 1
  · obtain ⟨q0, q1, q2⟩ := HO.out _ _ _ hw1
    refine gen_plain rfl ?_
    go_simp
    exact gr_val (HI.out _ _ _ ⟨q0, kn_known q1 rfl, ds_free q2 rfl⟩)
  · intro vs
    simp only [Act.put, List.setIfInBounds_toArray, List.set_cons_succ, List.set_cons_zero]
    rfl
  refine gen_nil ?_
  intro vs L W6 hall hS
  obtain ⟨hq, q1, q2⟩ := HO.out _ _ _ hS
  have eX5 := q1 5 _ rfl (hall 5 (by simp))
  have eX4 := q1 4 _ rfl (hall 4 (by simp))
  have dX3 := q2 3 _ rfl (hall 3 (by simp))
  clear hall hS HI HO q1 q2
  simp only [eX5, eX4]
  replace hB := below_grows hB (Nat.le_refl _) hq
  replace k5 := k5.grows hq
  replace hb := hb.grows hq
  replace hI2 := hI2.grows hq
  clear hq k4 ha hI hu hal hl eX5 eX4
  generalize vs 3 = vA at *
  obtain ⟨adA, rfl, hadA, helA⟩ := dX3
  generalize vs (0) = y0 at *
  generalize vs (0 + 1) = y1 at *
  generalize vs (0 + 1 + 1) = y2 at *
  generalize vs (0 + 1 + 1 + 1 + 1) = y4 at *
  generalize vs (0 + 1 + 1 + 1 + 1 + 1) = y5 at *
  clear vs
  clear w1 w2 w3
  generalize W6 = W5 at *
  go_wp2_with fail
  go_loopw [38] (fun i wr => ∃ k : Nat, k ≤ 2 ∧ i = .int .i64 k ∧ Grows W5 wr) (fun i _ => 2 - (intOf i).toNat)
  case atStart => exact ⟨0, by omega, rfl, Below.refl _ _⟩
  case round =>
    obtain ⟨k, hk, rfl, hg⟩ := hrel
    by_cases hlt : k < 2
    · obtain ⟨Ax, cx, x, hcx, hx, hxl⟩ := helA k hlt
      have cA := (hg.cell (p := adA.add k) (by rw [block_of_add]; exact hadA)).trans hcx
      replace hx := hx.grows hg
      have k12 := Blk.new wr 24 #[.slice Ax x.length cx]
      have hq := (Below.refl wr.heap.size wr).alloc (Nat.le_refl _) (Obj.cells #[.slice Ax x.length cx] 24)
      go_upto_region 8 with fail
      replace hg := below_grows hg (Nat.le_refl _) hq
      replace hx := hx.grows hq
      clear hq cA hcx
      generalize World.alloc wr _ = wo at *
      generalize wr.heap.size = G12 at *
      have k5' := k5.grows hg
      have hb' := hb.grows hg
      have hI2' := hI2.grows hg
      obtain ⟨S, HI, HO⟩ : ∃ S : Ran → (Nat → Value) → World → Prop, Hid (∀ L vs w', (Grows wo w' ∧ KnS [some (.agg #[.slice B0 b.length b0]), some (.slice Am m.length cm), none, none, some (.int .i64 2), some (.int .i64 0)] L vs ∧ DsS [none, none, some (gMade), some (gSets), none, none] L vs w') → S L vs w') ∧ Hid (∀ L vs w', S L vs w' → (Grows wo w' ∧ KnS [some (.agg #[.slice B0 b.length b0]), some (.slice Am m.length cm), none, none, some (.int .i64 2), some (.int .i64 0)] L vs ∧ DsS [none, none, some (gMade), some (gSets), none, none] L vs w')) := ⟨fun L vs w' => Grows wo w' ∧ KnS [some (.agg #[.slice B0 b.length b0]), some (.slice Am m.length cm), none, none, some (.int .i64 2), some (.int .i64 0)] L vs ∧ DsS [none, none, some (gMade), some (gSets), none, none] L vs w', fun _ _ _ h => h, fun _ _ _ h => h⟩
      refine wp_region_genW S 113 (by kernel_rfl) (by kernel_rfl) rfl ?_ ?_
      · exact HI.out _ _ _ ⟨Grows.drew' _, kn_none _ _, ds_none _ _ _⟩
      refine gen_cons (A' := ?_) (fun vs L w1 hL hw1 => ?_) ?_ ?_
      rotate_left 1
      · obtain ⟨q0, q1, q2⟩ := HO.out _ _ _ hw1
        refine gen_plain rfl ?_
        have x := (k5'.grows q0).cell 0
        go_simp
        exact gr_val (HI.out _ _ _ ⟨q0, kn_known q1 rfl, ds_free q2 rfl⟩)
      · intro vs
        simp only [Act.put, List.setIfInBounds_toArray, List.set_cons_succ, List.set_cons_zero]
        rfl
      refine gen_cons (A' := ?_) (fun vs L w1 hL hw1 => ?_) ?_ ?_
      rotate_left 1
      · obtain ⟨q0, q1, q2⟩ := HO.out _ _ _ hw1
        refine gen_plain rfl ?_
        go_simp
        exact gr_val (HI.out _ _ _ ⟨q0, kn_known q1 rfl, ds_free q2 rfl⟩)
      · intro vs
        simp only [Act.put, List.setIfInBounds_toArray, List.set_cons_succ, List.set_cons_zero]
        rfl
      refine gen_cons (A' := ?_) (fun vs L w1 hL hw1 => ?_) ?_ ?_
      rotate_left 1
      · obtain ⟨q0, q1, q2⟩ := HO.out _ _ _ hw1
        refine gen_plain rfl ?_
        have l1 : L 1 = true := hL.need 1 (by kernel_rfl)
        have e1 := q1 1 _ rfl l1
        simp only [e1]
        go_simp
        refine gr_call ?_
        refine (made9_any Am cm m w1 (hI2'.grows q0) hm hum).mono ?_
        rintro e w2 ⟨⟨s, v, rfl, hv, -, h20, -⟩, hg⟩
        exact ⟨_, rfl, HI.out _ _ _ ⟨below_grows q0 (Nat.le_refl _) hg, kn_free q1 rfl, ds_put (q2.grows hg) rfl (⟨_, hv, h20⟩)⟩⟩
      · intro vs
        simp only [Act.put, List.setIfInBounds_toArray, List.set_cons_succ, List.set_cons_zero]
        rfl
      refine gen_cons (A' := ?_) (fun vs L w1 hL hw1 => ?_) ?_ ?_
      rotate_left 1
      · obtain ⟨q0, q1, q2⟩ := HO.out _ _ _ hw1
        refine gen_plain rfl ?_
        have l0 : L 0 = true := hL.need 0 (by kernel_rfl)
        have e0 := q1 0 _ rfl l0
        have l2 : L 2 = true := hL.need 2 (by kernel_rfl)
        obtain ⟨s2, ⟨A2, c2, e2, -, ss2⟩, hl2⟩ := q2 2 _ rfl l2
        simp only [e0, e2]
        go_simp
        have hg := (Below.refl w1.heap.size w1).alloc (Nat.le_refl _) (Obj.cells #[.slice B0 b.length b0, .slice A2 s2.length c2] 24)
        exact gr_val (HI.out _ _ _ ⟨below_grows q0 (Nat.le_refl _) hg, kn_free q1 rfl, ds_put (q2.grows hg) rfl (sets_lit (hb'.grows q0) hbl ss2 (by omega))⟩)
      · intro vs
        simp only [Act.put, List.setIfInBounds_toArray, List.set_cons_succ, List.set_cons_zero]
        rfl
      refine gen_cons (A' := ?_) (fun vs L w1 hL hw1 => ?_) ?_ ?_
      rotate_left 1
      · obtain ⟨q0, q1, q2⟩ := HO.out _ _ _ hw1
        refine gen_plain rfl ?_
        have l3 : L 3 = true := hL.need 3 (by kernel_rfl)
        obtain ⟨ad3, e3, -, -⟩ := q2 3 _ rfl l3
        simp only [e3]
        go_simp
        exact gr_val (HI.out _ _ _ ⟨q0, kn_known q1 rfl, ds_free q2 rfl⟩)
      · intro vs
        simp only [Act.put, List.setIfInBounds_toArray, List.set_cons_succ, List.set_cons_zero]
        rfl
      refine gen_cons (A' := ?_) (fun vs L w1 hL hw1 => ?_) ?_ ?_
      rotate_left 1
      · obtain ⟨q0, q1, q2⟩ := HO.out _ _ _ hw1
        refine gen_plain rfl ?_
        go_simp
        exact gr_val (HI.out _ _ _ ⟨q0, kn_known q1 rfl, ds_free q2 rfl⟩)
      · intro vs
        simp only [Act.put, List.setIfInBounds_toArray, List.set_cons_succ, List.set_cons_zero]
        rfl
      refine gen_nil ?_
      intro vs L W6 hall hS
      obtain ⟨hq, q1, q2⟩ := HO.out _ _ _ hS
      have eX5 := q1 5 _ rfl (hall 5 (by simp))
      have eX4 := q1 4 _ rfl (hall 4 (by simp))
      have dX3 := q2 3 _ rfl (hall 3 (by simp))
      clear hall hS HI HO q1 q2
      simp only [eX5, eX4]
      replace hg := below_grows hg (Nat.le_refl _) hq
      replace k12 := k12.grows hq
      replace hx := hx.grows hq
      clear hq k5' hb' hI2' eX5 eX4
      generalize vs 3 = vB at *
      obtain ⟨adB, rfl, hadB, helB⟩ := dX3
      generalize vs (0) = y0 at *
      generalize vs (0 + 1) = y1 at *
      generalize vs (0 + 1 + 1) = y2 at *
      generalize vs (0 + 1 + 1 + 1 + 1) = y4 at *
      generalize vs (0 + 1 + 1 + 1 + 1 + 1) = y5 at *
      clear vs
      generalize W6 = Wi at *
      go_wp2_with fail
      go_loopw [47] (fun i wr => ∃ j : Nat, j ≤ 2 ∧ i = .int .i64 j ∧ Grows Wi wr) (fun i _ => 2 - (intOf i).toNat)
      case atStart => exact ⟨0, by omega, rfl, Below.refl _ _⟩
      case round =>
        have HG := Lib.hid hg
        clear hg
        obtain ⟨j, hj, rfl, hg⟩ := hrel
        replace k12 := k12.grows hg
        replace hx := hx.grows hg
        by_cases hlt2 : j < 2
        · obtain ⟨Ay, cy, y, hcy, hy, hyl⟩ := helB j hlt2
          have cB := (hg.cell (p := adB.add j) (by rw [block_of_add]; exact hadB)).trans hcy
          replace hy := hy.grows hg
          have k14 := Blk.new wr 24 #[.slice Ay y.length cy]
          have hq := (Below.refl wr.heap.size wr).alloc (Nat.le_refl _) (Obj.cells #[.slice Ay y.length cy] 24)
          go_upto_region 11 with fail
          replace hg := below_grows hg (Nat.le_refl _) hq
          replace hx := hx.grows hq
          replace hy := hy.grows hq
          replace k12 := k12.grows hq
          clear hq cB hcy helB hadB
          generalize World.alloc wr _ = w14 at *
          generalize wr.heap.size = G14 at *
          have hol := uni_len x y
          obtain ⟨o, er, hou⟩ : ∃ o er, uniF x y = (o, er) := ⟨_, _, rfl⟩
          rw [hou] at hol
          simp only [] at hol
          have HOU := Lib.hid hou
          clear hou
          have x0 := k12.cell 0
          have x1 := k14.cell 0
          go_wp2_with fail
          refine (union_any Ax cx x Ay cy y _ hx hxl hy hyl).mono ?_
          rw [HOU.out]
          rintro e Wa ⟨⟨v, rfl, Au, cu, rfl, -, hu5⟩, hq⟩
          simp only [] at hu5 ⊢
          clear x0 x1
          replace hg := below_grows hg (Nat.le_refl _) hq
          replace k12 := k12.grows hq
          replace k14 := k14.grows hq
          replace hx := hx.grows hq
          replace hy := hy.grows hq
          clear hq
          have k15 := Blk.new Wa 24 #[.slice Au o.length cu]
          have hq := (Below.refl Wa.heap.size Wa).alloc (Nat.le_refl _) (Obj.cells #[.slice Au o.length cu] 24)
          replace hg := below_grows hg (Nat.le_refl _) hq
          replace k12 := k12.grows hq
          replace k14 := k14.grows hq
          replace hx := hx.grows hq
          replace hy := hy.grows hq
          replace hu5 := hu5.grows hq
          clear hq
          go_upto_region 12 with fail
          generalize World.alloc Wa _ = w16 at *
          generalize Wa.heap.size = G15 at *
          clear Wa
          have x0 := k12.cell 0
          have x1 := k14.cell 0
          go_wp2_with fail
          refine (runion_any Ax cx x Ay cy y _ hx hxl hy hyl).mono ?_
          rw [HOU.out]
          rintro e Wa ⟨⟨v, rfl, Av, cv, rfl, -, hv5⟩, hq⟩
          simp only [] at hv5 ⊢
          clear x0 x1
          replace hg := below_grows hg (Nat.le_refl _) hq
          replace k12 := k12.grows hq
          replace k14 := k14.grows hq
          replace k15 := k15.grows hq
          replace hx := hx.grows hq
          replace hy := hy.grows hq
          replace hu5 := hu5.grows hq
          clear hq
          have k17 := Blk.new Wa 24 #[.slice Av o.length cv]
          have hq := (Below.refl Wa.heap.size Wa).alloc (Nat.le_refl _) (Obj.cells #[.slice Av o.length cv] 24)
          replace hg := below_grows hg (Nat.le_refl _) hq
          replace k12 := k12.grows hq
          replace k14 := k14.grows hq
          replace k15 := k15.grows hq
          replace hx := hx.grows hq
          replace hy := hy.grows hq
          replace hu5 := hu5.grows hq
          replace hv5 := hv5.grows hq
          clear hq
          go_upto_region 13 with fail
          generalize World.alloc Wa _ = W18 at *
          generalize Wa.heap.size = G17 at *
          clear Wa
          clear HOU
          have hitl : ((interF (spansF x) (spansF y)).take 64).length ≤ 64 := by simp; omega
          obtain ⟨it, hit⟩ : ∃ it, (interF (spansF x) (spansF y)).take 64 = it := ⟨_, rfl⟩
          rw [hit] at hitl
          have HIT := Lib.hid hit
          clear hit
          obtain ⟨S, HI, HO⟩ : ∃ S : Ran → (Nat → Value) → World → Prop, Hid (∀ L vs w', (Grows W18 w' ∧ KnS [some (.int .i64 er), some (.int .i64 er), some (.bool false), some (.bool false), some (.agg #[.slice Au o.length cu]), some (.agg #[.slice Av o.length cv]), some (.bool true), some (.bool false), some (.bool false), some (.bool false), some (.agg #[.slice Ax x.length cx]), some (.agg #[.slice Ay y.length cy]), none, some (.agg #[.slice Ax x.length cx]), some (.agg #[.slice Ay y.length cy]), none, some (.bool true), some (.bool false), some (.bool false), some (.bool false), some (.agg #[.slice Ax x.length cx]), some (.agg #[.slice Ay y.length cy]), some (.bool (insideF x y)), some (.agg #[.slice Ax x.length cx]), some (.agg #[.slice Ay y.length cy]), some (.bool (insideF x y)), some (.bool false), some (.bool false)] L vs ∧ DsS [none, none, none, none, none, none, none, none, none, none, none, none, some (gSet it), none, none, some (gSet it), none, none, none, none, none, none, none, none, none, none, none, none] L vs w') → S L vs w') ∧ Hid (∀ L vs w', S L vs w' → (Grows W18 w' ∧ KnS [some (.int .i64 er), some (.int .i64 er), some (.bool false), some (.bool false), some (.agg #[.slice Au o.length cu]), some (.agg #[.slice Av o.length cv]), some (.bool true), some (.bool false), some (.bool false), some (.bool false), some (.agg #[.slice Ax x.length cx]), some (.agg #[.slice Ay y.length cy]), none, some (.agg #[.slice Ax x.length cx]), some (.agg #[.slice Ay y.length cy]), none, some (.bool true), some (.bool false), some (.bool false), some (.bool false), some (.agg #[.slice Ax x.length cx]), some (.agg #[.slice Ay y.length cy]), some (.bool (insideF x y)), some (.agg #[.slice Ax x.length cx]), some (.agg #[.slice Ay y.length cy]), some (.bool (insideF x y)), some (.bool false), some (.bool false)] L vs ∧ DsS [none, none, none, none, none, none, none, none, none, none, none, none, some (gSet it), none, none, some (gSet it), none, none, none, none, none, none, none, none, none, none, none, none] L vs w')) := ⟨fun L vs w' => Grows W18 w' ∧ KnS [some (.int .i64 er), some (.int .i64 er), some (.bool false), some (.bool false), some (.agg #[.slice Au o.length cu]), some (.agg #[.slice Av o.length cv]), some (.bool true), some (.bool false), some (.bool false), some (.bool false), some (.agg #[.slice Ax x.length cx]), some (.agg #[.slice Ay y.length cy]), none, some (.agg #[.slice Ax x.length cx]), some (.agg #[.slice Ay y.length cy]), none, some (.bool true), some (.bool false), some (.bool false), some (.bool false), some (.agg #[.slice Ax x.length cx]), some (.agg #[.slice Ay y.length cy]), some (.bool (insideF x y)), some (.agg #[.slice Ax x.length cx]), some (.agg #[.slice Ay y.length cy]), some (.bool (insideF x y)), some (.bool false), some (.bool false)] L vs ∧ DsS [none, none, none, none, none, none, none, none, none, none, none, none, some (gSet it), none, none, some (gSet it), none, none, none, none, none, none, none, none, none, none, none, none] L vs w', fun _ _ _ h => h, fun _ _ _ h => h⟩
          refine wp_region_genW S 113 (by kernel_rfl) (by kernel_rfl) rfl ?_ ?_
          · exact HI.out _ _ _ ⟨Grows.drew' _, kn_none _ _, ds_none _ _ _⟩
          refine gen_cons (A' := ?_) (fun vs L w1 hL hw1 => ?_) ?_ ?_
          rotate_left 1
          · obtain ⟨q0, q1, q2⟩ := HO.out _ _ _ hw1
            refine gen_plain rfl ?_
            go_simp
            exact gr_val (HI.out _ _ _ ⟨q0, kn_known q1 rfl, ds_free q2 rfl⟩)
          · intro vs
            simp only [Act.put, List.setIfInBounds_toArray, List.set_cons_succ, List.set_cons_zero]
            rfl
          refine gen_cons (A' := ?_) (fun vs L w1 hL hw1 => ?_) ?_ ?_
          rotate_left 1
          · obtain ⟨q0, q1, q2⟩ := HO.out _ _ _ hw1
            refine gen_plain rfl ?_
            go_simp
            exact gr_val (HI.out _ _ _ ⟨q0, kn_known q1 rfl, ds_free q2 rfl⟩)
          · intro vs
            simp only [Act.put, List.setIfInBounds_toArray, List.set_cons_succ, List.set_cons_zero]
            rfl
          refine gen_cons (A' := ?_) (fun vs L w1 hL hw1 => ?_) ?_ ?_
          rotate_left 1
          · obtain ⟨q0, q1, q2⟩ := HO.out _ _ _ hw1
            refine gen_plain rfl ?_
            have l0 : L 0 = true := hL.need 0 (by kernel_rfl)
            have e0 := q1 0 _ rfl l0
            have l1 : L 1 = true := hL.need 1 (by kernel_rfl)
            have e1 := q1 1 _ rfl l1
            simp only [e0, e1]
            go_simp
            exact gr_val (HI.out _ _ _ ⟨q0, kn_known q1 rfl, ds_free q2 rfl⟩)
          · intro vs
            simp only [Act.put, List.setIfInBounds_toArray, List.set_cons_succ, List.set_cons_zero]
            rfl
          refine gen_cons (A' := ?_) (fun vs L w1 hL hw1 => ?_) ?_ ?_
          rotate_left 1
          · obtain ⟨q0, q1, q2⟩ := HO.out _ _ _ hw1
            refine gen_plain rfl ?_
            have l2 : L 2 = true := hL.need 2 (by kernel_rfl)
            have e2 := q1 2 _ rfl l2
            simp only [e2]
            go_simp
            exact gr_val (HI.out _ _ _ ⟨q0, kn_known q1 rfl, ds_free q2 rfl⟩)
          · intro vs
            simp only [Act.put, List.setIfInBounds_toArray, List.set_cons_succ, List.set_cons_zero]
            rfl
          refine gen_cons (A' := ?_) (fun vs L w1 hL hw1 => ?_) ?_ ?_
          rotate_left 1
          · obtain ⟨q0, q1, q2⟩ := HO.out _ _ _ hw1
            have l3 : L 3 = true := hL.need 3 (by kernel_rfl)
            have e3 := q1 3 _ rfl l3
            refine gen_yes ?_ ?_
            · simp only [e3]
              rfl
            have x := (k15.grows q0).cell 0
            go_simp
            exact gr_val (HI.out _ _ _ ⟨q0, kn_known q1 rfl, ds_free q2 rfl⟩)
          · intro vs
            simp only [Act.put, List.setIfInBounds_toArray, List.set_cons_succ, List.set_cons_zero]
            rfl
          refine gen_cons (A' := ?_) (fun vs L w1 hL hw1 => ?_) ?_ ?_
          rotate_left 1
          · obtain ⟨q0, q1, q2⟩ := HO.out _ _ _ hw1
            have l3 : L 3 = true := hL.need 3 (by kernel_rfl)
            have e3 := q1 3 _ rfl l3
            refine gen_yes ?_ ?_
            · simp only [e3]
              rfl
            have x := (k17.grows q0).cell 0
            go_simp
            exact gr_val (HI.out _ _ _ ⟨q0, kn_known q1 rfl, ds_free q2 rfl⟩)
          · intro vs
            simp only [Act.put, List.setIfInBounds_toArray, List.set_cons_succ, List.set_cons_zero]
            rfl
          refine gen_cons (A' := ?_) (fun vs L w1 hL hw1 => ?_) ?_ ?_
          rotate_left 1
          · obtain ⟨q0, q1, q2⟩ := HO.out _ _ _ hw1
            have l3 : L 3 = true := hL.need 3 (by kernel_rfl)
            have e3 := q1 3 _ rfl l3
            refine gen_yes ?_ ?_
            · simp only [e3]
              rfl
            have l4 : L 4 = true := hL.need 4 (by kernel_rfl)
            have e4 := q1 4 _ rfl l4
            have l5 : L 5 = true := hL.need 5 (by kernel_rfl)
            have e5 := q1 5 _ rfl l5
            simp only [e4, e5]
            go_simp
            refine gr_call ?_
            refine (ssame_eq Au Av cu cv o w1 (hu5.grows q0) (hv5.grows q0) (by omega)).mono ?_
            rintro e w2 ⟨rfl, hg⟩
            exact ⟨_, rfl, HI.out _ _ _ ⟨below_grows q0 (Nat.le_refl _) hg, kn_known q1 rfl, ds_free (q2.grows hg) rfl⟩⟩
          · intro vs
            simp only [Act.put, List.setIfInBounds_toArray, List.set_cons_succ, List.set_cons_zero]
            rfl
          refine gen_cons (A' := ?_) (fun vs L w1 hL hw1 => ?_) ?_ ?_
          rotate_left 1
          · obtain ⟨q0, q1, q2⟩ := HO.out _ _ _ hw1
            have l3 : L 3 = true := hL.need 3 (by kernel_rfl)
            have e3 := q1 3 _ rfl l3
            refine gen_yes ?_ ?_
            · simp only [e3]
              rfl
            have l6 : L 6 = true := hL.need 6 (by kernel_rfl)
            have e6 := q1 6 _ rfl l6
            simp only [e6]
            go_simp
            exact gr_val (HI.out _ _ _ ⟨q0, kn_known q1 rfl, ds_free q2 rfl⟩)
          · intro vs
            simp only [Act.put, List.setIfInBounds_toArray, List.set_cons_succ, List.set_cons_zero]
            rfl
          refine gen_cons (A' := ?_) (fun vs L w1 hL hw1 => ?_) ?_ ?_
          rotate_left 1
          · obtain ⟨q0, q1, q2⟩ := HO.out _ _ _ hw1
            refine gen_plain rfl ?_
            have l3 : L 3 = true := hL.need 3 (by kernel_rfl)
            have e3 := q1 3 _ rfl l3
            have l7 : L 7 = true := hL.need 7 (by kernel_rfl)
            have e7 := q1 7 _ rfl l7
            simp only [e3, e7]
            go_simp
            exact gr_val (HI.out _ _ _ ⟨q0, kn_known q1 rfl, ds_free q2 rfl⟩)
          · intro vs
            simp only [Act.put, List.setIfInBounds_toArray, List.set_cons_succ, List.set_cons_zero]
            rfl
          refine gen_cons (A' := ?_) (fun vs L w1 hL hw1 => ?_) ?_ ?_
          rotate_left 1
          · obtain ⟨q0, q1, q2⟩ := HO.out _ _ _ hw1
            refine gen_plain rfl ?_
            have l8 : L 8 = true := hL.need 8 (by kernel_rfl)
            have e8 := q1 8 _ rfl l8
            simp only [e8]
            go_simp
            exact gr_val (HI.out _ _ _ ⟨q0, kn_known q1 rfl, ds_free q2 rfl⟩)
          · intro vs
            simp only [Act.put, List.setIfInBounds_toArray, List.set_cons_succ, List.set_cons_zero]
            rfl
          refine gen_cons (A' := ?_) (fun vs L w1 hL hw1 => ?_) ?_ ?_
          rotate_left 1
          · obtain ⟨q0, q1, q2⟩ := HO.out _ _ _ hw1
            have l9 : L 9 = true := hL.need 9 (by kernel_rfl)
            have e9 := q1 9 _ rfl l9
            refine gen_yes ?_ ?_
            · simp only [e9]
              rfl
            have x := (k12.grows q0).cell 0
            go_simp
            exact gr_val (HI.out _ _ _ ⟨q0, kn_known q1 rfl, ds_free q2 rfl⟩)
          · intro vs
            simp only [Act.put, List.setIfInBounds_toArray, List.set_cons_succ, List.set_cons_zero]
            rfl
          refine gen_cons (A' := ?_) (fun vs L w1 hL hw1 => ?_) ?_ ?_
          rotate_left 1
          · obtain ⟨q0, q1, q2⟩ := HO.out _ _ _ hw1
            have l9 : L 9 = true := hL.need 9 (by kernel_rfl)
            have e9 := q1 9 _ rfl l9
            refine gen_yes ?_ ?_
            · simp only [e9]
              rfl
            have x := (k14.grows q0).cell 0
            go_simp
            exact gr_val (HI.out _ _ _ ⟨q0, kn_known q1 rfl, ds_free q2 rfl⟩)
          · intro vs
            simp only [Act.put, List.setIfInBounds_toArray, List.set_cons_succ, List.set_cons_zero]
            rfl
          refine gen_cons (A' := ?_) (fun vs L w1 hL hw1 => ?_) ?_ ?_
          rotate_left 1
          · obtain ⟨q0, q1, q2⟩ := HO.out _ _ _ hw1
            have l9 : L 9 = true := hL.need 9 (by kernel_rfl)
            have e9 := q1 9 _ rfl l9
            refine gen_yes ?_ ?_
            · simp only [e9]
              rfl
            have l10 : L 10 = true := hL.need 10 (by kernel_rfl)
            have e10 := q1 10 _ rfl l10
            have l11 : L 11 = true := hL.need 11 (by kernel_rfl)
            have e11 := q1 11 _ rfl l11
            simp only [e10, e11]
            go_simp
            refine gr_call ?_
            refine (inter_is Ax cx x Ay cy y it w1 (hx.grows q0) hxl (hy.grows q0) hyl HIT.out).mono ?_
            rintro e w2 ⟨⟨v, rfl, hv⟩, hg⟩
            exact ⟨_, rfl, HI.out _ _ _ ⟨below_grows q0 (Nat.le_refl _) hg, kn_free q1 rfl, ds_put (q2.grows hg) rfl (hv)⟩⟩
          · intro vs
            simp only [Act.put, List.setIfInBounds_toArray, List.set_cons_succ, List.set_cons_zero]
            rfl
          refine gen_cons (A' := ?_) (fun vs L w1 hL hw1 => ?_) ?_ ?_
          rotate_left 1
          · obtain ⟨q0, q1, q2⟩ := HO.out _ _ _ hw1
            have l9 : L 9 = true := hL.need 9 (by kernel_rfl)
            have e9 := q1 9 _ rfl l9
            refine gen_yes ?_ ?_
            · simp only [e9]
              rfl
            have x := (k12.grows q0).cell 0
            go_simp
            exact gr_val (HI.out _ _ _ ⟨q0, kn_known q1 rfl, ds_free q2 rfl⟩)
          · intro vs
            simp only [Act.put, List.setIfInBounds_toArray, List.set_cons_succ, List.set_cons_zero]
            rfl
          refine gen_cons (A' := ?_) (fun vs L w1 hL hw1 => ?_) ?_ ?_
          rotate_left 1
          · obtain ⟨q0, q1, q2⟩ := HO.out _ _ _ hw1
            have l9 : L 9 = true := hL.need 9 (by kernel_rfl)
            have e9 := q1 9 _ rfl l9
            refine gen_yes ?_ ?_
            · simp only [e9]
              rfl
            have x := (k14.grows q0).cell 0
            go_simp
            exact gr_val (HI.out _ _ _ ⟨q0, kn_known q1 rfl, ds_free q2 rfl⟩)
          · intro vs
            simp only [Act.put, List.setIfInBounds_toArray, List.set_cons_succ, List.set_cons_zero]
            rfl
          refine gen_cons (A' := ?_) (fun vs L w1 hL hw1 => ?_) ?_ ?_
          rotate_left 1
          · obtain ⟨q0, q1, q2⟩ := HO.out _ _ _ hw1
            have l9 : L 9 = true := hL.need 9 (by kernel_rfl)
            have e9 := q1 9 _ rfl l9
            refine gen_yes ?_ ?_
            · simp only [e9]
              rfl
            have l13 : L 13 = true := hL.need 13 (by kernel_rfl)
            have e13 := q1 13 _ rfl l13
            have l14 : L 14 = true := hL.need 14 (by kernel_rfl)
            have e14 := q1 14 _ rfl l14
            simp only [e13, e14]
            go_simp
            refine gr_call ?_
            refine (rinter_is Ax cx x Ay cy y it w1 (hx.grows q0) hxl (hy.grows q0) hyl HIT.out).mono ?_
            rintro e w2 ⟨⟨v, rfl, hv⟩, hg⟩
            exact ⟨_, rfl, HI.out _ _ _ ⟨below_grows q0 (Nat.le_refl _) hg, kn_free q1 rfl, ds_put (q2.grows hg) rfl (hv)⟩⟩
          · intro vs
            simp only [Act.put, List.setIfInBounds_toArray, List.set_cons_succ, List.set_cons_zero]
            rfl
          refine gen_cons (A' := ?_) (fun vs L w1 hL hw1 => ?_) ?_ ?_
          rotate_left 1
          · obtain ⟨q0, q1, q2⟩ := HO.out _ _ _ hw1
            have l9 : L 9 = true := hL.need 9 (by kernel_rfl)
            have e9 := q1 9 _ rfl l9
            refine gen_yes ?_ ?_
            · simp only [e9]
              rfl
            have l12 : L 12 = true := hL.need 12 (by kernel_rfl)
            obtain ⟨A12, c12, e12, -, s12⟩ := q2 12 _ rfl l12
            have l15 : L 15 = true := hL.need 15 (by kernel_rfl)
            obtain ⟨A15, c15, e15, -, s15⟩ := q2 15 _ rfl l15
            simp only [e12, e15]
            go_simp
            refine gr_call ?_
            refine (ssame_eq A12 A15 c12 c15 it w1 s12 s15 (by omega)).mono ?_
            rintro e w2 ⟨rfl, hg⟩
            exact ⟨_, rfl, HI.out _ _ _ ⟨below_grows q0 (Nat.le_refl _) hg, kn_known q1 rfl, ds_free (q2.grows hg) rfl⟩⟩
          · intro vs
            simp only [Act.put, List.setIfInBounds_toArray, List.set_cons_succ, List.set_cons_zero]
            rfl
          refine gen_cons (A' := ?_) (fun vs L w1 hL hw1 => ?_) ?_ ?_
          rotate_left 1
          · obtain ⟨q0, q1, q2⟩ := HO.out _ _ _ hw1
            have l9 : L 9 = true := hL.need 9 (by kernel_rfl)
            have e9 := q1 9 _ rfl l9
            refine gen_yes ?_ ?_
            · simp only [e9]
              rfl
            have l16 : L 16 = true := hL.need 16 (by kernel_rfl)
            have e16 := q1 16 _ rfl l16
            simp only [e16]
            go_simp
            exact gr_val (HI.out _ _ _ ⟨q0, kn_known q1 rfl, ds_free q2 rfl⟩)
          · intro vs
            simp only [Act.put, List.setIfInBounds_toArray, List.set_cons_succ, List.set_cons_zero]
            rfl
          refine gen_cons (A' := ?_) (fun vs L w1 hL hw1 => ?_) ?_ ?_
          rotate_left 1
          · obtain ⟨q0, q1, q2⟩ := HO.out _ _ _ hw1
            refine gen_plain rfl ?_
            have l9 : L 9 = true := hL.need 9 (by kernel_rfl)
            have e9 := q1 9 _ rfl l9
            have l17 : L 17 = true := hL.need 17 (by kernel_rfl)
            have e17 := q1 17 _ rfl l17
            simp only [e9, e17]
            go_simp
            exact gr_val (HI.out _ _ _ ⟨q0, kn_known q1 rfl, ds_free q2 rfl⟩)
          · intro vs
            simp only [Act.put, List.setIfInBounds_toArray, List.set_cons_succ, List.set_cons_zero]
            rfl
          refine gen_cons (A' := ?_) (fun vs L w1 hL hw1 => ?_) ?_ ?_
          rotate_left 1
          · obtain ⟨q0, q1, q2⟩ := HO.out _ _ _ hw1
            refine gen_plain rfl ?_
            have l18 : L 18 = true := hL.need 18 (by kernel_rfl)
            have e18 := q1 18 _ rfl l18
            simp only [e18]
            go_simp
            exact gr_val (HI.out _ _ _ ⟨q0, kn_known q1 rfl, ds_free q2 rfl⟩)
          · intro vs
            simp only [Act.put, List.setIfInBounds_toArray, List.set_cons_succ, List.set_cons_zero]
            rfl
          refine gen_cons (A' := ?_) (fun vs L w1 hL hw1 => ?_) ?_ ?_
          rotate_left 1
          · obtain ⟨q0, q1, q2⟩ := HO.out _ _ _ hw1
            have l19 : L 19 = true := hL.need 19 (by kernel_rfl)
            have e19 := q1 19 _ rfl l19
            refine gen_yes ?_ ?_
            · simp only [e19]
              rfl
            have x := (k12.grows q0).cell 0
            go_simp
            exact gr_val (HI.out _ _ _ ⟨q0, kn_known q1 rfl, ds_free q2 rfl⟩)
          · intro vs
            simp only [Act.put, List.setIfInBounds_toArray, List.set_cons_succ, List.set_cons_zero]
            rfl
          refine gen_cons (A' := ?_) (fun vs L w1 hL hw1 => ?_) ?_ ?_
          rotate_left 1
          · obtain ⟨q0, q1, q2⟩ := HO.out _ _ _ hw1
            have l19 : L 19 = true := hL.need 19 (by kernel_rfl)
            have e19 := q1 19 _ rfl l19
            refine gen_yes ?_ ?_
            · simp only [e19]
              rfl
            have x := (k14.grows q0).cell 0
            go_simp
            exact gr_val (HI.out _ _ _ ⟨q0, kn_known q1 rfl, ds_free q2 rfl⟩)
          · intro vs
            simp only [Act.put, List.setIfInBounds_toArray, List.set_cons_succ, List.set_cons_zero]
            rfl
          refine gen_cons (A' := ?_) (fun vs L w1 hL hw1 => ?_) ?_ ?_
          rotate_left 1
          · obtain ⟨q0, q1, q2⟩ := HO.out _ _ _ hw1
            have l19 : L 19 = true := hL.need 19 (by kernel_rfl)
            have e19 := q1 19 _ rfl l19
            refine gen_yes ?_ ?_
            · simp only [e19]
              rfl
            have l20 : L 20 = true := hL.need 20 (by kernel_rfl)
            have e20 := q1 20 _ rfl l20
            have l21 : L 21 = true := hL.need 21 (by kernel_rfl)
            have e21 := q1 21 _ rfl l21
            simp only [e20, e21]
            go_simp
            refine gr_call ?_
            refine (inside_any Ax cx x Ay cy y w1 (hx.grows q0) hxl (hy.grows q0) hyl).mono ?_
            rintro e w2 ⟨rfl, hg⟩
            exact ⟨_, rfl, HI.out _ _ _ ⟨below_grows q0 (Nat.le_refl _) hg, kn_known q1 rfl, ds_free (q2.grows hg) rfl⟩⟩
          · intro vs
            simp only [Act.put, List.setIfInBounds_toArray, List.set_cons_succ, List.set_cons_zero]
            rfl
          refine gen_cons (A' := ?_) (fun vs L w1 hL hw1 => ?_) ?_ ?_
          rotate_left 1
          · obtain ⟨q0, q1, q2⟩ := HO.out _ _ _ hw1
            have l19 : L 19 = true := hL.need 19 (by kernel_rfl)
            have e19 := q1 19 _ rfl l19
            refine gen_yes ?_ ?_
            · simp only [e19]
              rfl
            have x := (k12.grows q0).cell 0
            go_simp
            exact gr_val (HI.out _ _ _ ⟨q0, kn_known q1 rfl, ds_free q2 rfl⟩)
          · intro vs
            simp only [Act.put, List.setIfInBounds_toArray, List.set_cons_succ, List.set_cons_zero]
            rfl
          refine gen_cons (A' := ?_) (fun vs L w1 hL hw1 => ?_) ?_ ?_
          rotate_left 1
          · obtain ⟨q0, q1, q2⟩ := HO.out _ _ _ hw1
            have l19 : L 19 = true := hL.need 19 (by kernel_rfl)
            have e19 := q1 19 _ rfl l19
            refine gen_yes ?_ ?_
            · simp only [e19]
              rfl
            have x := (k14.grows q0).cell 0
            go_simp
            exact gr_val (HI.out _ _ _ ⟨q0, kn_known q1 rfl, ds_free q2 rfl⟩)
          · intro vs
            simp only [Act.put, List.setIfInBounds_toArray, List.set_cons_succ, List.set_cons_zero]
            rfl
          refine gen_cons (A' := ?_) (fun vs L w1 hL hw1 => ?_) ?_ ?_
          rotate_left 1
          · obtain ⟨q0, q1, q2⟩ := HO.out _ _ _ hw1
            have l19 : L 19 = true := hL.need 19 (by kernel_rfl)
            have e19 := q1 19 _ rfl l19
            refine gen_yes ?_ ?_
            · simp only [e19]
              rfl
            have l23 : L 23 = true := hL.need 23 (by kernel_rfl)
            have e23 := q1 23 _ rfl l23
            have l24 : L 24 = true := hL.need 24 (by kernel_rfl)
            have e24 := q1 24 _ rfl l24
            simp only [e23, e24]
            go_simp
            refine gr_call ?_
            refine (rinside_any Ax cx x Ay cy y w1 (hx.grows q0) hxl (hy.grows q0) hyl).mono ?_
            rintro e w2 ⟨rfl, hg⟩
            exact ⟨_, rfl, HI.out _ _ _ ⟨below_grows q0 (Nat.le_refl _) hg, kn_known q1 rfl, ds_free (q2.grows hg) rfl⟩⟩
          · intro vs
            simp only [Act.put, List.setIfInBounds_toArray, List.set_cons_succ, List.set_cons_zero]
            rfl
          refine gen_cons (A' := ?_) (fun vs L w1 hL hw1 => ?_) ?_ ?_
          rotate_left 1
          · obtain ⟨q0, q1, q2⟩ := HO.out _ _ _ hw1
            have l19 : L 19 = true := hL.need 19 (by kernel_rfl)
            have e19 := q1 19 _ rfl l19
            refine gen_yes ?_ ?_
            · simp only [e19]
              rfl
            have l22 : L 22 = true := hL.need 22 (by kernel_rfl)
            have e22 := q1 22 _ rfl l22
            have l25 : L 25 = true := hL.need 25 (by kernel_rfl)
            have e25 := q1 25 _ rfl l25
            simp only [e22, e25]
            go_simp
            exact gr_val (HI.out _ _ _ ⟨q0, kn_known q1 rfl, ds_free q2 rfl⟩)
          · intro vs
            simp only [Act.put, List.setIfInBounds_toArray, List.set_cons_succ, List.set_cons_zero]
            rfl
          refine gen_cons (A' := ?_) (fun vs L w1 hL hw1 => ?_) ?_ ?_
          rotate_left 1
          · obtain ⟨q0, q1, q2⟩ := HO.out _ _ _ hw1
            refine gen_plain rfl ?_
            have l19 : L 19 = true := hL.need 19 (by kernel_rfl)
            have e19 := q1 19 _ rfl l19
            have l26 : L 26 = true := hL.need 26 (by kernel_rfl)
            have e26 := q1 26 _ rfl l26
            simp only [e19, e26]
            go_simp
            exact gr_val (HI.out _ _ _ ⟨q0, kn_known q1 rfl, ds_free q2 rfl⟩)
          · intro vs
            simp only [Act.put, List.setIfInBounds_toArray, List.set_cons_succ, List.set_cons_zero]
            rfl
          refine gen_nil ?_
          intro vs L W6 hall hS
          obtain ⟨hq, q1, q2⟩ := HO.out _ _ _ hS
          have eX27 := q1 27 _ rfl (hall 27 (by simp))
          clear hall hS HI HO q1 q2
          simp only [eX27]
          replace hg := below_grows hg (Nat.le_refl _) hq
          clear hq k12 k14 k15 k17 hx hy hu5 hv5 HIT
          go_wp2
          go_roundw
          case rel => exact ⟨j + 1, by omega, by go_num, hg⟩
          case measure => simp [intOf]; omega
        · have x12 := k12.cell 0
          have hgo := below_grows HG.out (Nat.le_refl _) hg
          clear HG
          go_wp2_with fail
          refine (near_any Ax cx x n _ hx hxl hn).mono ?_
          rintro e w5 ⟨rfl, hq⟩
          replace hgo := below_grows hgo (Nat.le_refl _) hq
          replace k12 := k12.grows hq
          replace hx := hx.grows hq
          clear x12 hq
          have x12 := k12.cell 0
          go_wp2_with fail
          refine (rnear_any Ax cx x n _ hx hxl hn).mono ?_
          rintro e w6 ⟨rfl, hq⟩
          replace hgo := below_grows hgo (Nat.le_refl _) hq
          clear x12 hq k12 hx
          go_wp2
          go_roundw
          case rel => exact ⟨k + 1, by omega, by go_num, hgo⟩
          case measure => simp [intOf]; omega
    · replace hB := below_grows hB (Nat.le_refl _) hg
      go_wp2
      go_ret
      exact ⟨rfl, hB⟩
end IntsetCombines
namespace IntsetCombines
theorem contract (H : Type) (enc : TypeId × Value → H) (W : World) (base : Nat) (args : Array Value) (ds gs : List (DataW H)) (before : List MemPlace)
    (hval0 : ∀ (j : Nat) t v, Try.f7.params[j]? = some t → args[j]? = some v → Value.okWide Try.prog W .any base t v)
    (hW : DataW.Whole enc Try.prog Try.f7.params.toList Rows.intsetCombinesSpec.vars false W args.toList ds gs before)
    (hsz0 : (DataW.weightsEach Try.prog (Try.f7.params.toList ++ Rows.intsetCombinesSpec.plain.varTypes Try.prog) (ds ++ gs)).all (· ≤ reachBytes) = true) :
    Calls Try.prog 7 args W fun e W' => ∃ v, e = .returned v ∧ Rows.intsetCombinesSpec.post enc Try.prog Try.f7 false true false false W args v W' := by
  have key : Calls Try.prog 7 args W fun e W' => e = .returned (.bool true) ∧ Below W.heap.size W W' := by
    have hval : ∀ (j : Nat) t v, Try.f7.params[j]? = some t → args[j]? = some v → Value.okWide Try.prog W .any base t v := hval0
    obtain ⟨p, q, hA0, hV, hbe, hfz, hnd⟩ := hW
    have hA : DataW.TrodAll enc Try.prog W 0 (fun _ => true) true Try.f7.params.toList args.toList ds p := hA0
    rw [Try.params7] at hA hval
    clear hA0 hval0
    obtain ⟨v0, vs0, d0, ds0, p0, q0, hargs, rfl, rfl, h0, r0⟩ := trodAll_cons hA
    obtain ⟨v1, vs1, d1, ds1, p1, q1, rfl, rfl, rfl, h1, r1⟩ := trodAll_cons r0
    obtain ⟨v2, vs2, d2, ds2, p2, q2, rfl, rfl, rfl, h2, r2⟩ := trodAll_cons r1
    obtain ⟨v3, vs3, d3, ds3, p3, q3, rfl, rfl, rfl, h3, r3⟩ := trodAll_cons r2
    obtain ⟨v4, vs4, d4, ds4, p4, q4, rfl, rfl, rfl, h4, r4⟩ := trodAll_cons r3
    obtain ⟨rfl, rfl, rfl⟩ := trodAll_nil r4
    obtain rfl : args = #[v0, v1, v2, v3, v4] := by cases args; simp_all
    obtain ⟨rfl, rfl⟩ := trodVars_none hV
    have hsz : (DataW.weightsEach Try.prog (Try.f7.params.toList ++ Rows.intsetCombinesSpec.plain.varTypes Try.prog) ([d0, d1, d2, d3, d4] ++ [])).all (· ≤ reachBytes) = true := hsz0
    rw [Try.params7] at hsz
    clear hsz0
    obtain ⟨A, c, a, rfl, hs0, hl0, _⟩ := open_set (hval 0 24 v0 rfl rfl) h0
    obtain ⟨B, cb, b, rfl, hs1, hl1, _⟩ := open_set (hval 1 24 v1 rfl rfl) h1
    obtain ⟨A2, c2, l, rfl, hI2, hl2, _, hw2⟩ := open_slice_kind Try.underlying33 Try.underlying5 (by kernel_rfl) (hval 2 33 v2 rfl rfl) h2
    obtain ⟨A3, c3, m, rfl, hI3, hl3, _, hw3⟩ := open_slice_kind Try.underlying33 Try.underlying5 (by kernel_rfl) (hval 3 33 v3 rfl rfl) h3
    obtain ⟨a4, rfl, rfl, rfl, w4⟩ := open_int Try.underlying3 (hval 4 3 v4 rfl rfl) h4
    exact IntsetCombines.walk A c a B cb b A2 c2 l A3 c3 m a4 W hs0 hl0 hs1 hl1 hI2 hl2 (fun x hx => u8_bd (hw2 x hx)) hI3 hl3 (fun x hx => u8_bd (hw3 x hx)) (i64_bd w4)
  refine key.mono fun e W' ⟨he, hb⟩ => ⟨_, he, law_post laid_out hW ?_ rfl (by kernel_rfl) Try.underlying4 ?_ hb⟩
  · rw [Try.params7]
    intro t ht
    simp only [List.mem_cons, List.not_mem_nil, or_false] at ht
    rcases ht with rfl | rfl | rfl | rfl | rfl <;> exact ⟨by kernel_rfl, of_decide_eq_true (by kernel_rfl)⟩
  · rw [Try.params7]
    intro ds hl
    match ds, hl with
    | [_, _, _, _, _], _ => rfl

set_option maxRecDepth 100000 in
theorem lifted (os : Os) (started : os.Started) (H : Type) (enc : TypeId × Value → H) :
    ReturnsInHanded {} Try.checked os 7 .any (Rows.intsetCombinesSpec.pre6 enc Try.prog Try.f7 Rows.intsetCombinesRow.domain false) (Rows.intsetCombinesSpec.post enc Try.prog Try.f7 false true false false) := by
  refine returnsInHanded_of_change_sized (C := Try.checked) own_knob started (by kernel_rfl) Try.func7
    (ChangeSpec.witness6 (enc := enc) (C := Try.checked) false ⟨#[], #[.agg #[.slice none 0 0], .agg #[.slice none 0 0], .slice none 0 0, .slice none 0 0, .int .i64 0], []⟩ 8 (by kernel_rfl) (by kernel_rfl) (by kernel_rfl) (by kernel_rfl)) ?_
  intro W base args ds gs before hval0 hW _ hsz0 _
  exact contract H enc W base args ds gs before hval0 hW hsz0

theorem over : Rows.intsetCombinesRow.holds Try.pinned (OpenSpec.ofChange Rows.intsetCombinesSpec) :=
  OpenClaim.holds_of_wide 7 Try.f7 rfl rfl rfl rfl rfl rfl rfl ⟨rfl, rfl, rfl, rfl, rfl⟩ rfl rfl rfl rfl rfl (by kernel_rfl) Try.func7 (by kernel_rfl)
    (of_decide_eq_true (by kernel_rfl)) (by unfold Func.isWrapper; first | (rw [if_pos (by decide +kernel)]; kernel_rfl) | (rw [if_neg (by decide +kernel)]; exact ⟨rfl, rfl⟩))
    (fun os started H enc _ => lifted os started H enc)

/-- The given statement. -/
theorem proved : Rows.IntsetCombinesSaid := over
end IntsetCombines
#print axioms IntsetCombines.proved
end Go.Proofs.Ytejdaodchaeglaa
