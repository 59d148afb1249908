/-
  Layer 37: Merge of the reference. Plain contract.
-/
import Derived.Test.YtbmoiokpkcaccaaGsE
namespace Go.Proofs.Ytbmoiokpkcaccaa
open Go.RowKit Go.Maps
theorem kin_is (x g : Gl) (w : World) {b : Bool} (hb : kinG x g = b) : Calls Try.prog 26 #[.agg #[.int .i64 x.k, .int .i64 x.a, .int .i64 x.q, .int .i64 x.s, .int .u64 x.d, .int .i64 x.f], .agg #[.int .i64 g.k, .int .i64 g.a, .int .i64 g.q, .int .i64 g.s, .int .u64 g.d, .int .i64 g.f]] w fun e w' => e = .returned (.bool b) ∧ Grows w w' := by
  rw [← hb]; exact kin_any x.k x.a x.q x.s x.d x.f g.k g.a g.q g.s g.d g.f w
set_option maxRecDepth 100000 in
set_option maxHeartbeats 8000000 in
theorem rmerge_any (A : Option Addr) (c : Nat) (l : List Gl) (w : World) (h : Gls w A l) (hl : l.length ≤ 100000) :
    Calls Try.prog 19 #[.slice A l.length c] w fun e w' => (∃ v, e = .returned v ∧ OwnG w' w.heap.size v (mergeG l)) ∧ Grows w w' := by
  go_enter Try.func19, Try.ntmps19
  go_wp2_with fail
  refine (rsortf_any A c l _ h hl).mono ?_
  rintro e w2 ⟨⟨v, rfl, hown⟩, hB⟩
  obtain ⟨A2, c2, rfl, hc2, hs, -⟩ := hown.read
  have hsl : (sortG l).length ≤ 100000 := Nat.le_trans (sortG_len l) hl
  have HML : Hid (mergeG l = sortG (mergeL (sortG l))) := Lib.hid rfl
  have HMO := Lib.hid (mergeL_sort_ok l)
  clear hown h
  generalize sortG l = s at *
  go_wp2_with fail
  go_loopw [4, 5] (fun v i wr => ∃ k : Nat, k ≤ s.length ∧ i = .int .i64 k ∧ OwnG wr w2.heap.size v (mergeL (s.take k)) ∧ Grows w2 wr) (fun _ i _ => s.length - (intOf i).toNat)
  case atStart => exact ⟨0, by omega, rfl, ownG_nil _ _, Below.refl _ _⟩
  case round =>
    obtain ⟨k, hk, rfl, hown, hg⟩ := hrel
    have hol : (mergeL (s.take k)).length ≤ 100000 := Nat.le_trans (mergeL_len _) (by rw [List.length_take]; omega)
    by_cases hlt : k < s.length
    · obtain ⟨ad, g, rfl, had, hx, hcx⟩ := gls_addr hs hlt
      have HT := Lib.hid (mergeL_take hx)
      clear hx
      generalize mergeL (s.take k) = out at *
      obtain ⟨A3, c3, rfl, hc3, hr3, hge3⟩ := hown.read
      have hwr : IntKind.i64.wrap ((out.length : Int) - 1) = (out.length : Int) - 1 := IntWalk.i64_in _ (by omega)
      go_upto_region 7 with fail
      clear hwr
      go_loopw [6] (fun i wi => ∃ n : Nat, n ≤ out.length ∧ i = .int .i64 ((n : Int) - 1) ∧ (∀ j y, n ≤ j → out[j]? = some y → kinG y g = false) ∧ OwnG wi w2.heap.size (.slice A3 out.length c3) out ∧ Grows w2 wi) (fun i _ => (intOf i + 1).toNat)
      case atStart => exact ⟨out.length, Nat.le_refl _, rfl, (fun j y hj hy => by rw [List.getElem?_eq_none hj] at hy; cases hy), hown, hg⟩
      case round =>
        clear hown hg
        obtain ⟨n, hn, rfl, hno, hown, hg⟩ := hrel
        have HNO := Lib.hid hno
        clear hno
        by_cases hn0 : n = 0
        · subst hn0
          have HS : Hid (mergeL (s.take (k + 1)) = out ++ [g]) := Lib.hid (by
            rw [HT.out, mergeS_new]
            exact lastUp_nil fun j y _ hy => HNO.out j y (Nat.zero_le _) hy)
          clear HT HNO
          rw [show (((0 : Nat) : Int) - 1) = -1 from rfl]
          go_upto_region 7 with fail
          obtain ⟨S, HI, HO⟩ : ∃ S : Ran → (Nat → Value) → World → Prop, Hid (∀ L vs w', (Grows wr w' ∧ KnS [some (.int .i64 (-1)), some (.bool false), some (.bool false), none, none, none, none, none, none, none, none, none, none, some (.bool false)] L vs) → S L vs w') ∧ Hid (∀ L vs w', S L vs w' → (Grows wr w' ∧ KnS [some (.int .i64 (-1)), some (.bool false), some (.bool false), none, none, none, none, none, none, none, none, none, none, some (.bool false)] L vs)) := ⟨fun L vs w' => Grows wr w' ∧ KnS [some (.int .i64 (-1)), some (.bool false), some (.bool false), none, none, none, none, none, none, none, none, none, none, some (.bool false)] L vs, fun _ _ _ h => h, fun _ _ _ h => h⟩
          refine wp_region_genW S 64 (by kernel_rfl) (by kernel_rfl) rfl ?_ ?_
          · exact HI.out _ _ _ ⟨Grows.drew' _, kn_none _ _⟩
          refine gen_cons (A' := ?_) (fun vs L w1 hL hw1 => ?_) ?_ ?_
          rotate_left 1
          · obtain ⟨q0, q1⟩ := HO.out _ _ _ hw1
            refine gen_plain rfl ?_
            go_simp
            exact gr_val (HI.out _ _ _ ⟨q0, kn_known q1 rfl⟩)
          · intro vs
            simp only [Act.put, List.setIfInBounds_toArray, List.set_cons_succ, List.set_cons_zero]
            rfl
          refine gen_cons (A' := ?_) (fun vs L w1 hL hw1 => ?_) ?_ ?_
          rotate_left 1
          · obtain ⟨q0, q1⟩ := HO.out _ _ _ hw1
            refine gen_plain rfl ?_
            have l0 : L 0 = true := hL.need 0 (by kernel_rfl)
            have e0 := q1 0 _ rfl l0
            simp only [e0]
            go_simp
            exact gr_val (HI.out _ _ _ ⟨q0, kn_known q1 rfl⟩)
          · intro vs
            simp only [Act.put, List.setIfInBounds_toArray, List.set_cons_succ, List.set_cons_zero]
            rfl
          refine gen_cons (A' := ?_) (fun vs L w1 hL hw1 => ?_) ?_ ?_
          rotate_left 1
          · obtain ⟨q0, q1⟩ := HO.out _ _ _ hw1
            refine gen_plain rfl ?_
            have l1 : L 1 = true := hL.need 1 (by kernel_rfl)
            have e1 := q1 1 _ rfl l1
            simp only [e1]
            go_simp
            exact gr_val (HI.out _ _ _ ⟨q0, kn_known q1 rfl⟩)
          · intro vs
            simp only [Act.put, List.setIfInBounds_toArray, List.set_cons_succ, List.set_cons_zero]
            rfl
          refine gen_cons (A' := ?_) (fun vs L w1 hL hw1 => ?_) ?_ ?_
          rotate_left 1
          · obtain ⟨q0, q1⟩ := HO.out _ _ _ hw1
            have l2 : L 2 = true := hL.need 2 (by kernel_rfl)
            have e2 := q1 2 _ rfl l2
            refine gen_no ?_ ?_
            · simp only [e2]
              rfl
            · exact HI.out _ _ _ ⟨q0, kn_free q1 rfl⟩
          · intro vs
            simp only [Act.put, List.setIfInBounds_toArray, List.set_cons_succ, List.set_cons_zero]
            rfl
          refine gen_cons (A' := ?_) (fun vs L w1 hL hw1 => ?_) ?_ ?_
          rotate_left 1
          · obtain ⟨q0, q1⟩ := HO.out _ _ _ hw1
            have l2 : L 2 = true := hL.need 2 (by kernel_rfl)
            have e2 := q1 2 _ rfl l2
            refine gen_no ?_ ?_
            · simp only [e2]
              rfl
            · exact HI.out _ _ _ ⟨q0, kn_free q1 rfl⟩
          · intro vs
            simp only [Act.put, List.setIfInBounds_toArray, List.set_cons_succ, List.set_cons_zero]
            rfl
          refine gen_cons (A' := ?_) (fun vs L w1 hL hw1 => ?_) ?_ ?_
          rotate_left 1
          · obtain ⟨q0, q1⟩ := HO.out _ _ _ hw1
            have l2 : L 2 = true := hL.need 2 (by kernel_rfl)
            have e2 := q1 2 _ rfl l2
            refine gen_no ?_ ?_
            · simp only [e2]
              rfl
            · exact HI.out _ _ _ ⟨q0, kn_free q1 rfl⟩
          · intro vs
            simp only [Act.put, List.setIfInBounds_toArray, List.set_cons_succ, List.set_cons_zero]
            rfl
          refine gen_cons (A' := ?_) (fun vs L w1 hL hw1 => ?_) ?_ ?_
          rotate_left 1
          · obtain ⟨q0, q1⟩ := HO.out _ _ _ hw1
            have l2 : L 2 = true := hL.need 2 (by kernel_rfl)
            have e2 := q1 2 _ rfl l2
            refine gen_no ?_ ?_
            · simp only [e2]
              rfl
            · exact HI.out _ _ _ ⟨q0, kn_free q1 rfl⟩
          · intro vs
            simp only [Act.put, List.setIfInBounds_toArray, List.set_cons_succ, List.set_cons_zero]
            rfl
          refine gen_cons (A' := ?_) (fun vs L w1 hL hw1 => ?_) ?_ ?_
          rotate_left 1
          · obtain ⟨q0, q1⟩ := HO.out _ _ _ hw1
            have l2 : L 2 = true := hL.need 2 (by kernel_rfl)
            have e2 := q1 2 _ rfl l2
            refine gen_no ?_ ?_
            · simp only [e2]
              rfl
            · exact HI.out _ _ _ ⟨q0, kn_free q1 rfl⟩
          · intro vs
            simp only [Act.put, List.setIfInBounds_toArray, List.set_cons_succ, List.set_cons_zero]
            rfl
          refine gen_cons (A' := ?_) (fun vs L w1 hL hw1 => ?_) ?_ ?_
          rotate_left 1
          · obtain ⟨q0, q1⟩ := HO.out _ _ _ hw1
            have l2 : L 2 = true := hL.need 2 (by kernel_rfl)
            have e2 := q1 2 _ rfl l2
            refine gen_no ?_ ?_
            · simp only [e2]
              rfl
            · exact HI.out _ _ _ ⟨q0, kn_free q1 rfl⟩
          · intro vs
            simp only [Act.put, List.setIfInBounds_toArray, List.set_cons_succ, List.set_cons_zero]
            rfl
          refine gen_cons (A' := ?_) (fun vs L w1 hL hw1 => ?_) ?_ ?_
          rotate_left 1
          · obtain ⟨q0, q1⟩ := HO.out _ _ _ hw1
            have l2 : L 2 = true := hL.need 2 (by kernel_rfl)
            have e2 := q1 2 _ rfl l2
            refine gen_no ?_ ?_
            · simp only [e2]
              rfl
            · exact HI.out _ _ _ ⟨q0, kn_free q1 rfl⟩
          · intro vs
            simp only [Act.put, List.setIfInBounds_toArray, List.set_cons_succ, List.set_cons_zero]
            rfl
          refine gen_cons (A' := ?_) (fun vs L w1 hL hw1 => ?_) ?_ ?_
          rotate_left 1
          · obtain ⟨q0, q1⟩ := HO.out _ _ _ hw1
            have l2 : L 2 = true := hL.need 2 (by kernel_rfl)
            have e2 := q1 2 _ rfl l2
            refine gen_no ?_ ?_
            · simp only [e2]
              rfl
            · exact HI.out _ _ _ ⟨q0, kn_free q1 rfl⟩
          · intro vs
            simp only [Act.put, List.setIfInBounds_toArray, List.set_cons_succ, List.set_cons_zero]
            rfl
          refine gen_cons (A' := ?_) (fun vs L w1 hL hw1 => ?_) ?_ ?_
          rotate_left 1
          · obtain ⟨q0, q1⟩ := HO.out _ _ _ hw1
            have l2 : L 2 = true := hL.need 2 (by kernel_rfl)
            have e2 := q1 2 _ rfl l2
            refine gen_no ?_ ?_
            · simp only [e2]
              rfl
            · exact HI.out _ _ _ ⟨q0, kn_free q1 rfl⟩
          · intro vs
            simp only [Act.put, List.setIfInBounds_toArray, List.set_cons_succ, List.set_cons_zero]
            rfl
          refine gen_cons (A' := ?_) (fun vs L w1 hL hw1 => ?_) ?_ ?_
          rotate_left 1
          · obtain ⟨q0, q1⟩ := HO.out _ _ _ hw1
            have l2 : L 2 = true := hL.need 2 (by kernel_rfl)
            have e2 := q1 2 _ rfl l2
            refine gen_no ?_ ?_
            · simp only [e2]
              rfl
            · exact HI.out _ _ _ ⟨q0, kn_free q1 rfl⟩
          · intro vs
            simp only [Act.put, List.setIfInBounds_toArray, List.set_cons_succ, List.set_cons_zero]
            rfl
          refine gen_cons (A' := ?_) (fun vs L w1 hL hw1 => ?_) ?_ ?_
          rotate_left 1
          · obtain ⟨q0, q1⟩ := HO.out _ _ _ hw1
            refine gen_plain rfl ?_
            have l2 : L 2 = true := hL.need 2 (by kernel_rfl)
            have e2 := q1 2 _ rfl l2
            simp only [e2]
            go_simp
            exact gr_val (HI.out _ _ _ ⟨q0, kn_known q1 rfl⟩)
          · intro vs
            simp only [Act.put, List.setIfInBounds_toArray, List.set_cons_succ, List.set_cons_zero]
            rfl
          refine gen_nil ?_
          intro vs L W6 hall hS
          obtain ⟨hq, q1⟩ := HO.out _ _ _ hS
          have eX13 := q1 13 _ rfl (hall 13 (by simp))
          clear hall hS HI HO q1
          simp only [eX13]
          replace hown := own_grows hown hq
          replace hg := below_grows hg (Nat.le_refl _) hq
          clear hq
          obtain ⟨c0, c1, c2_, c3_, c4, c5⟩ := hcx _ hg
          go_upto_region 13 with fail
          refine wp_region_lit ?_
          iterate 6
            refine wpList_plain rfl (fun K hK => ?_)
            go_simp
            refine hK _ _ ?_
            clear hK K
          have hq8 := (Below.refl W6.heap.size W6).alloc (Nat.le_refl _) (Obj.cells #[.int .i64 g.k, .int .i64 g.a, .int .i64 g.q, .int .i64 g.s, .int .u64 g.d, .int .i64 g.f] 28)
          replace hown := own_grows hown hq8
          replace hg := below_grows hg (Nat.le_refl _) hq8
          refine wpList_append_gl rfl (.tmp 55) (.tmp 60) rfl (l := out) (m := [g]) rfl rfl hown (gls_lit W6 g) (by simp only [List.length_cons, List.length_nil]; omega) hg.size ?_
          intro v3 w10 hown3 hgr3
          have hg3 := OwnG.below hown hg hgr3 hg.size
          clear hown hgr3 hq8 hg c0 c1 c2_ c3_ c4 c5 hcx
          go_wp2
          go_roundw
          case rel => exact ⟨k + 1, by omega, by go_num, by rw [HS.out]; exact hown3, hg3⟩
          case measure => simp [intOf]; omega
        · obtain ⟨m, rfl⟩ : ∃ m, n = m + 1 := ⟨n - 1, by omega⟩
          have hil : m < out.length := by omega
          obtain ⟨ad3, rfl, -⟩ := hr3.2 (by omega)
          obtain ⟨x, hxi⟩ : ∃ x, out[m]? = some x := ⟨_, List.getElem?_eq_getElem hil⟩
          rw [show (((m + 1 : Nat) : Int) - 1) = (m : Int) by omega]
          have hm0 : (0 : Int) ≤ (m : Int) := by omega
          have hml : (m : Int) < (out.length : Int) := by omega
          have hks : (k : Int) < (s.length : Int) := by omega
          cases hkn : kinG x g
          · have HKN := Lib.hid hkn
            clear hkn
            go_upto_region 7 with fail
            obtain ⟨S, HI, HO⟩ : ∃ S : Ran → (Nat → Value) → World → Prop, Hid (∀ L vs w', (Grows wr w' ∧ KnS [some (.int .i64 (m : Int)), some (.bool true), some (.bool true), some (.slice (some ad3) out.length c3), some (.int .i64 (m : Int)), some (.pointer (some (ad3.add (m * 6)))), some (.agg #[.int .i64 x.k, .int .i64 x.a, .int .i64 x.q, .int .i64 x.s, .int .u64 x.d, .int .i64 x.f]), some (.slice (some ad) s.length c2), some (.int .i64 (k : Int)), some (.pointer (some (ad.add (k * 6)))), some (.agg #[.int .i64 g.k, .int .i64 g.a, .int .i64 g.q, .int .i64 g.s, .int .u64 g.d, .int .i64 g.f]), some (.bool false), some (.bool true), some (.bool true)] L vs) → S L vs w') ∧ Hid (∀ L vs w', S L vs w' → (Grows wr w' ∧ KnS [some (.int .i64 (m : Int)), some (.bool true), some (.bool true), some (.slice (some ad3) out.length c3), some (.int .i64 (m : Int)), some (.pointer (some (ad3.add (m * 6)))), some (.agg #[.int .i64 x.k, .int .i64 x.a, .int .i64 x.q, .int .i64 x.s, .int .u64 x.d, .int .i64 x.f]), some (.slice (some ad) s.length c2), some (.int .i64 (k : Int)), some (.pointer (some (ad.add (k * 6)))), some (.agg #[.int .i64 g.k, .int .i64 g.a, .int .i64 g.q, .int .i64 g.s, .int .u64 g.d, .int .i64 g.f]), some (.bool false), some (.bool true), some (.bool true)] L vs)) := ⟨fun L vs w' => Grows wr w' ∧ KnS [some (.int .i64 (m : Int)), some (.bool true), some (.bool true), some (.slice (some ad3) out.length c3), some (.int .i64 (m : Int)), some (.pointer (some (ad3.add (m * 6)))), some (.agg #[.int .i64 x.k, .int .i64 x.a, .int .i64 x.q, .int .i64 x.s, .int .u64 x.d, .int .i64 x.f]), some (.slice (some ad) s.length c2), some (.int .i64 (k : Int)), some (.pointer (some (ad.add (k * 6)))), some (.agg #[.int .i64 g.k, .int .i64 g.a, .int .i64 g.q, .int .i64 g.s, .int .u64 g.d, .int .i64 g.f]), some (.bool false), some (.bool true), some (.bool true)] L vs, fun _ _ _ h => h, fun _ _ _ h => h⟩
            refine wp_region_genW S 64 (by kernel_rfl) (by kernel_rfl) rfl ?_ ?_
            · exact HI.out _ _ _ ⟨Grows.drew' _, kn_none _ _⟩
            refine gen_cons (A' := ?_) (fun vs L w1 hL hw1 => ?_) ?_ ?_
            rotate_left 1
            · obtain ⟨q0, q1⟩ := HO.out _ _ _ hw1
              refine gen_plain rfl ?_
              go_simp
              exact gr_val (HI.out _ _ _ ⟨q0, kn_known q1 rfl⟩)
            · intro vs
              simp only [Act.put, List.setIfInBounds_toArray, List.set_cons_succ, List.set_cons_zero]
              rfl
            refine gen_cons (A' := ?_) (fun vs L w1 hL hw1 => ?_) ?_ ?_
            rotate_left 1
            · obtain ⟨q0, q1⟩ := HO.out _ _ _ hw1
              refine gen_plain rfl ?_
              have l0 : L 0 = true := hL.need 0 (by kernel_rfl)
              have e0 := q1 0 _ rfl l0
              simp only [e0]
              go_simp
              exact gr_val (HI.out _ _ _ ⟨q0, kn_known q1 rfl⟩)
            · intro vs
              simp only [Act.put, List.setIfInBounds_toArray, List.set_cons_succ, List.set_cons_zero]
              rfl
            refine gen_cons (A' := ?_) (fun vs L w1 hL hw1 => ?_) ?_ ?_
            rotate_left 1
            · obtain ⟨q0, q1⟩ := HO.out _ _ _ hw1
              refine gen_plain rfl ?_
              have l1 : L 1 = true := hL.need 1 (by kernel_rfl)
              have e1 := q1 1 _ rfl l1
              simp only [e1]
              go_simp
              exact gr_val (HI.out _ _ _ ⟨q0, kn_known q1 rfl⟩)
            · intro vs
              simp only [Act.put, List.setIfInBounds_toArray, List.set_cons_succ, List.set_cons_zero]
              rfl
            refine gen_cons (A' := ?_) (fun vs L w1 hL hw1 => ?_) ?_ ?_
            rotate_left 1
            · obtain ⟨q0, q1⟩ := HO.out _ _ _ hw1
              have l2 : L 2 = true := hL.need 2 (by kernel_rfl)
              have e2 := q1 2 _ rfl l2
              refine gen_yes ?_ ?_
              · simp only [e2]
                rfl
              go_simp
              exact gr_val (HI.out _ _ _ ⟨q0, kn_known q1 rfl⟩)
            · intro vs
              simp only [Act.put, List.setIfInBounds_toArray, List.set_cons_succ, List.set_cons_zero]
              rfl
            refine gen_cons (A' := ?_) (fun vs L w1 hL hw1 => ?_) ?_ ?_
            rotate_left 1
            · obtain ⟨q0, q1⟩ := HO.out _ _ _ hw1
              have l2 : L 2 = true := hL.need 2 (by kernel_rfl)
              have e2 := q1 2 _ rfl l2
              refine gen_yes ?_ ?_
              · simp only [e2]
                rfl
              go_simp
              exact gr_val (HI.out _ _ _ ⟨q0, kn_known q1 rfl⟩)
            · intro vs
              simp only [Act.put, List.setIfInBounds_toArray, List.set_cons_succ, List.set_cons_zero]
              rfl
            refine gen_cons (A' := ?_) (fun vs L w1 hL hw1 => ?_) ?_ ?_
            rotate_left 1
            · obtain ⟨q0, q1⟩ := HO.out _ _ _ hw1
              have l2 : L 2 = true := hL.need 2 (by kernel_rfl)
              have e2 := q1 2 _ rfl l2
              refine gen_yes ?_ ?_
              · simp only [e2]
                rfl
              have l3 : L 3 = true := hL.need 3 (by kernel_rfl)
              have e3 := q1 3 _ rfl l3
              have l4 : L 4 = true := hL.need 4 (by kernel_rfl)
              have e4 := q1 4 _ rfl l4
              simp only [e3, e4]
              go_simp
              exact gr_val (HI.out _ _ _ ⟨q0, kn_known q1 rfl⟩)
            · intro vs
              simp only [Act.put, List.setIfInBounds_toArray, List.set_cons_succ, List.set_cons_zero]
              rfl
            refine gen_cons (A' := ?_) (fun vs L w1 hL hw1 => ?_) ?_ ?_
            rotate_left 1
            · obtain ⟨q0, q1⟩ := HO.out _ _ _ hw1
              have l2 : L 2 = true := hL.need 2 (by kernel_rfl)
              have e2 := q1 2 _ rfl l2
              refine gen_yes ?_ ?_
              · simp only [e2]
                rfl
              have l5 : L 5 = true := hL.need 5 (by kernel_rfl)
              have e5 := q1 5 _ rfl l5
              simp only [e5]
              obtain ⟨y0, y1, y2, y3, y4, y5⟩ := own_cells (own_grows hown q0) hxi
              go_simp
              exact gr_val (HI.out _ _ _ ⟨q0, kn_known q1 rfl⟩)
            · intro vs
              simp only [Act.put, List.setIfInBounds_toArray, List.set_cons_succ, List.set_cons_zero]
              rfl
            refine gen_cons (A' := ?_) (fun vs L w1 hL hw1 => ?_) ?_ ?_
            rotate_left 1
            · obtain ⟨q0, q1⟩ := HO.out _ _ _ hw1
              have l2 : L 2 = true := hL.need 2 (by kernel_rfl)
              have e2 := q1 2 _ rfl l2
              refine gen_yes ?_ ?_
              · simp only [e2]
                rfl
              go_simp
              exact gr_val (HI.out _ _ _ ⟨q0, kn_known q1 rfl⟩)
            · intro vs
              simp only [Act.put, List.setIfInBounds_toArray, List.set_cons_succ, List.set_cons_zero]
              rfl
            refine gen_cons (A' := ?_) (fun vs L w1 hL hw1 => ?_) ?_ ?_
            rotate_left 1
            · obtain ⟨q0, q1⟩ := HO.out _ _ _ hw1
              have l2 : L 2 = true := hL.need 2 (by kernel_rfl)
              have e2 := q1 2 _ rfl l2
              refine gen_yes ?_ ?_
              · simp only [e2]
                rfl
              go_simp
              exact gr_val (HI.out _ _ _ ⟨q0, kn_known q1 rfl⟩)
            · intro vs
              simp only [Act.put, List.setIfInBounds_toArray, List.set_cons_succ, List.set_cons_zero]
              rfl
            refine gen_cons (A' := ?_) (fun vs L w1 hL hw1 => ?_) ?_ ?_
            rotate_left 1
            · obtain ⟨q0, q1⟩ := HO.out _ _ _ hw1
              have l2 : L 2 = true := hL.need 2 (by kernel_rfl)
              have e2 := q1 2 _ rfl l2
              refine gen_yes ?_ ?_
              · simp only [e2]
                rfl
              have l7 : L 7 = true := hL.need 7 (by kernel_rfl)
              have e7 := q1 7 _ rfl l7
              have l8 : L 8 = true := hL.need 8 (by kernel_rfl)
              have e8 := q1 8 _ rfl l8
              simp only [e7, e8]
              go_simp
              exact gr_val (HI.out _ _ _ ⟨q0, kn_known q1 rfl⟩)
            · intro vs
              simp only [Act.put, List.setIfInBounds_toArray, List.set_cons_succ, List.set_cons_zero]
              rfl
            refine gen_cons (A' := ?_) (fun vs L w1 hL hw1 => ?_) ?_ ?_
            rotate_left 1
            · obtain ⟨q0, q1⟩ := HO.out _ _ _ hw1
              have l2 : L 2 = true := hL.need 2 (by kernel_rfl)
              have e2 := q1 2 _ rfl l2
              refine gen_yes ?_ ?_
              · simp only [e2]
                rfl
              have l9 : L 9 = true := hL.need 9 (by kernel_rfl)
              have e9 := q1 9 _ rfl l9
              simp only [e9]
              obtain ⟨y0, y1, y2, y3, y4, y5⟩ := hcx _ (below_grows hg (Nat.le_refl _) q0)
              go_simp
              exact gr_val (HI.out _ _ _ ⟨q0, kn_known q1 rfl⟩)
            · intro vs
              simp only [Act.put, List.setIfInBounds_toArray, List.set_cons_succ, List.set_cons_zero]
              rfl
            refine gen_cons (A' := ?_) (fun vs L w1 hL hw1 => ?_) ?_ ?_
            rotate_left 1
            · obtain ⟨q0, q1⟩ := HO.out _ _ _ hw1
              have l2 : L 2 = true := hL.need 2 (by kernel_rfl)
              have e2 := q1 2 _ rfl l2
              refine gen_yes ?_ ?_
              · simp only [e2]
                rfl
              have l6 : L 6 = true := hL.need 6 (by kernel_rfl)
              have e6 := q1 6 _ rfl l6
              have l10 : L 10 = true := hL.need 10 (by kernel_rfl)
              have e10 := q1 10 _ rfl l10
              simp only [e6, e10]
              go_simp
              refine gr_call ?_
              refine (kin_is x g w1 HKN.out).mono ?_
              rintro e w2 ⟨rfl, hg⟩
              exact ⟨_, rfl, HI.out _ _ _ ⟨below_grows q0 (Nat.le_refl _) hg, kn_known q1 rfl⟩⟩
            · intro vs
              simp only [Act.put, List.setIfInBounds_toArray, List.set_cons_succ, List.set_cons_zero]
              rfl
            refine gen_cons (A' := ?_) (fun vs L w1 hL hw1 => ?_) ?_ ?_
            rotate_left 1
            · obtain ⟨q0, q1⟩ := HO.out _ _ _ hw1
              have l2 : L 2 = true := hL.need 2 (by kernel_rfl)
              have e2 := q1 2 _ rfl l2
              refine gen_yes ?_ ?_
              · simp only [e2]
                rfl
              have l11 : L 11 = true := hL.need 11 (by kernel_rfl)
              have e11 := q1 11 _ rfl l11
              simp only [e11]
              go_simp
              exact gr_val (HI.out _ _ _ ⟨q0, kn_known q1 rfl⟩)
            · intro vs
              simp only [Act.put, List.setIfInBounds_toArray, List.set_cons_succ, List.set_cons_zero]
              rfl
            refine gen_cons (A' := ?_) (fun vs L w1 hL hw1 => ?_) ?_ ?_
            rotate_left 1
            · obtain ⟨q0, q1⟩ := HO.out _ _ _ hw1
              refine gen_plain rfl ?_
              have l2 : L 2 = true := hL.need 2 (by kernel_rfl)
              have e2 := q1 2 _ rfl l2
              have l12 : L 12 = true := hL.need 12 (by kernel_rfl)
              have e12 := q1 12 _ rfl l12
              simp only [e2, e12]
              go_simp
              exact gr_val (HI.out _ _ _ ⟨q0, kn_known q1 rfl⟩)
            · intro vs
              simp only [Act.put, List.setIfInBounds_toArray, List.set_cons_succ, List.set_cons_zero]
              rfl
            refine gen_nil ?_
            intro vs L W6 hall hS
            obtain ⟨hq, q1⟩ := HO.out _ _ _ hS
            have eX13 := q1 13 _ rfl (hall 13 (by simp))
            clear hall hS HI HO q1
            simp only [eX13]
            replace hown := own_grows hown hq
            replace hg := below_grows hg (Nat.le_refl _) hq
            clear hq
            have hwm : IntKind.i64.wrap ((m : Int) - 1) = (m : Int) - 1 := IntWalk.i64_in _ (by omega)
            have HX := Lib.hid hxi
            clear hxi
            go_wp2
            go_roundw
            case rel =>
              refine ⟨m, by omega, rfl, fun j y hj hy => ?_, hown, hg⟩
              rcases Nat.lt_or_ge m j with h1 | h1
              · exact HNO.out j y h1 hy
              · obtain rfl : j = m := by omega
                rw [HX.out] at hy
                injection hy with hy
                rw [← hy]
                exact HKN.out
            case measure => simp [intOf] <;> omega
          · have HKN := Lib.hid hkn
            have HL := Lib.hid (lastUp_mk (out := out) (g := g) (n := out.length) hil hxi hkn fun j y h1 _ hy => HNO.out j y h1 hy)
            have HT2 := Lib.hid (mergeS_old (out := out) (g := g) HL.out hxi)
            clear hkn HL HNO
            go_upto_region 7 with fail
            obtain ⟨S, HI, HO⟩ : ∃ S : Ran → (Nat → Value) → World → Prop, Hid (∀ L vs w', (Grows wr w' ∧ KnS [some (.int .i64 (m : Int)), some (.bool true), some (.bool true), some (.slice (some ad3) out.length c3), some (.int .i64 (m : Int)), some (.pointer (some (ad3.add (m * 6)))), some (.agg #[.int .i64 x.k, .int .i64 x.a, .int .i64 x.q, .int .i64 x.s, .int .u64 x.d, .int .i64 x.f]), some (.slice (some ad) s.length c2), some (.int .i64 (k : Int)), some (.pointer (some (ad.add (k * 6)))), some (.agg #[.int .i64 g.k, .int .i64 g.a, .int .i64 g.q, .int .i64 g.s, .int .u64 g.d, .int .i64 g.f]), some (.bool true), some (.bool false), some (.bool false)] L vs) → S L vs w') ∧ Hid (∀ L vs w', S L vs w' → (Grows wr w' ∧ KnS [some (.int .i64 (m : Int)), some (.bool true), some (.bool true), some (.slice (some ad3) out.length c3), some (.int .i64 (m : Int)), some (.pointer (some (ad3.add (m * 6)))), some (.agg #[.int .i64 x.k, .int .i64 x.a, .int .i64 x.q, .int .i64 x.s, .int .u64 x.d, .int .i64 x.f]), some (.slice (some ad) s.length c2), some (.int .i64 (k : Int)), some (.pointer (some (ad.add (k * 6)))), some (.agg #[.int .i64 g.k, .int .i64 g.a, .int .i64 g.q, .int .i64 g.s, .int .u64 g.d, .int .i64 g.f]), some (.bool true), some (.bool false), some (.bool false)] L vs)) := ⟨fun L vs w' => Grows wr w' ∧ KnS [some (.int .i64 (m : Int)), some (.bool true), some (.bool true), some (.slice (some ad3) out.length c3), some (.int .i64 (m : Int)), some (.pointer (some (ad3.add (m * 6)))), some (.agg #[.int .i64 x.k, .int .i64 x.a, .int .i64 x.q, .int .i64 x.s, .int .u64 x.d, .int .i64 x.f]), some (.slice (some ad) s.length c2), some (.int .i64 (k : Int)), some (.pointer (some (ad.add (k * 6)))), some (.agg #[.int .i64 g.k, .int .i64 g.a, .int .i64 g.q, .int .i64 g.s, .int .u64 g.d, .int .i64 g.f]), some (.bool true), some (.bool false), some (.bool false)] L vs, fun _ _ _ h => h, fun _ _ _ h => h⟩
            refine wp_region_genW S 64 (by kernel_rfl) (by kernel_rfl) rfl ?_ ?_
            · exact HI.out _ _ _ ⟨Grows.drew' _, kn_none _ _⟩
            refine gen_cons (A' := ?_) (fun vs L w1 hL hw1 => ?_) ?_ ?_
            rotate_left 1
            · obtain ⟨q0, q1⟩ := HO.out _ _ _ hw1
              refine gen_plain rfl ?_
              go_simp
              exact gr_val (HI.out _ _ _ ⟨q0, kn_known q1 rfl⟩)
            · intro vs
              simp only [Act.put, List.setIfInBounds_toArray, List.set_cons_succ, List.set_cons_zero]
              rfl
            refine gen_cons (A' := ?_) (fun vs L w1 hL hw1 => ?_) ?_ ?_
            rotate_left 1
            · obtain ⟨q0, q1⟩ := HO.out _ _ _ hw1
              refine gen_plain rfl ?_
              have l0 : L 0 = true := hL.need 0 (by kernel_rfl)
              have e0 := q1 0 _ rfl l0
              simp only [e0]
              go_simp
              exact gr_val (HI.out _ _ _ ⟨q0, kn_known q1 rfl⟩)
            · intro vs
              simp only [Act.put, List.setIfInBounds_toArray, List.set_cons_succ, List.set_cons_zero]
              rfl
            refine gen_cons (A' := ?_) (fun vs L w1 hL hw1 => ?_) ?_ ?_
            rotate_left 1
            · obtain ⟨q0, q1⟩ := HO.out _ _ _ hw1
              refine gen_plain rfl ?_
              have l1 : L 1 = true := hL.need 1 (by kernel_rfl)
              have e1 := q1 1 _ rfl l1
              simp only [e1]
              go_simp
              exact gr_val (HI.out _ _ _ ⟨q0, kn_known q1 rfl⟩)
            · intro vs
              simp only [Act.put, List.setIfInBounds_toArray, List.set_cons_succ, List.set_cons_zero]
              rfl
            refine gen_cons (A' := ?_) (fun vs L w1 hL hw1 => ?_) ?_ ?_
            rotate_left 1
            · obtain ⟨q0, q1⟩ := HO.out _ _ _ hw1
              have l2 : L 2 = true := hL.need 2 (by kernel_rfl)
              have e2 := q1 2 _ rfl l2
              refine gen_yes ?_ ?_
              · simp only [e2]
                rfl
              go_simp
              exact gr_val (HI.out _ _ _ ⟨q0, kn_known q1 rfl⟩)
            · intro vs
              simp only [Act.put, List.setIfInBounds_toArray, List.set_cons_succ, List.set_cons_zero]
              rfl
            refine gen_cons (A' := ?_) (fun vs L w1 hL hw1 => ?_) ?_ ?_
            rotate_left 1
            · obtain ⟨q0, q1⟩ := HO.out _ _ _ hw1
              have l2 : L 2 = true := hL.need 2 (by kernel_rfl)
              have e2 := q1 2 _ rfl l2
              refine gen_yes ?_ ?_
              · simp only [e2]
                rfl
              go_simp
              exact gr_val (HI.out _ _ _ ⟨q0, kn_known q1 rfl⟩)
            · intro vs
              simp only [Act.put, List.setIfInBounds_toArray, List.set_cons_succ, List.set_cons_zero]
              rfl
            refine gen_cons (A' := ?_) (fun vs L w1 hL hw1 => ?_) ?_ ?_
            rotate_left 1
            · obtain ⟨q0, q1⟩ := HO.out _ _ _ hw1
              have l2 : L 2 = true := hL.need 2 (by kernel_rfl)
              have e2 := q1 2 _ rfl l2
              refine gen_yes ?_ ?_
              · simp only [e2]
                rfl
              have l3 : L 3 = true := hL.need 3 (by kernel_rfl)
              have e3 := q1 3 _ rfl l3
              have l4 : L 4 = true := hL.need 4 (by kernel_rfl)
              have e4 := q1 4 _ rfl l4
              simp only [e3, e4]
              go_simp
              exact gr_val (HI.out _ _ _ ⟨q0, kn_known q1 rfl⟩)
            · intro vs
              simp only [Act.put, List.setIfInBounds_toArray, List.set_cons_succ, List.set_cons_zero]
              rfl
            refine gen_cons (A' := ?_) (fun vs L w1 hL hw1 => ?_) ?_ ?_
            rotate_left 1
            · obtain ⟨q0, q1⟩ := HO.out _ _ _ hw1
              have l2 : L 2 = true := hL.need 2 (by kernel_rfl)
              have e2 := q1 2 _ rfl l2
              refine gen_yes ?_ ?_
              · simp only [e2]
                rfl
              have l5 : L 5 = true := hL.need 5 (by kernel_rfl)
              have e5 := q1 5 _ rfl l5
              simp only [e5]
              obtain ⟨y0, y1, y2, y3, y4, y5⟩ := own_cells (own_grows hown q0) hxi
              go_simp
              exact gr_val (HI.out _ _ _ ⟨q0, kn_known q1 rfl⟩)
            · intro vs
              simp only [Act.put, List.setIfInBounds_toArray, List.set_cons_succ, List.set_cons_zero]
              rfl
            refine gen_cons (A' := ?_) (fun vs L w1 hL hw1 => ?_) ?_ ?_
            rotate_left 1
            · obtain ⟨q0, q1⟩ := HO.out _ _ _ hw1
              have l2 : L 2 = true := hL.need 2 (by kernel_rfl)
              have e2 := q1 2 _ rfl l2
              refine gen_yes ?_ ?_
              · simp only [e2]
                rfl
              go_simp
              exact gr_val (HI.out _ _ _ ⟨q0, kn_known q1 rfl⟩)
            · intro vs
              simp only [Act.put, List.setIfInBounds_toArray, List.set_cons_succ, List.set_cons_zero]
              rfl
            refine gen_cons (A' := ?_) (fun vs L w1 hL hw1 => ?_) ?_ ?_
            rotate_left 1
            · obtain ⟨q0, q1⟩ := HO.out _ _ _ hw1
              have l2 : L 2 = true := hL.need 2 (by kernel_rfl)
              have e2 := q1 2 _ rfl l2
              refine gen_yes ?_ ?_
              · simp only [e2]
                rfl
              go_simp
              exact gr_val (HI.out _ _ _ ⟨q0, kn_known q1 rfl⟩)
            · intro vs
              simp only [Act.put, List.setIfInBounds_toArray, List.set_cons_succ, List.set_cons_zero]
              rfl
            refine gen_cons (A' := ?_) (fun vs L w1 hL hw1 => ?_) ?_ ?_
            rotate_left 1
            · obtain ⟨q0, q1⟩ := HO.out _ _ _ hw1
              have l2 : L 2 = true := hL.need 2 (by kernel_rfl)
              have e2 := q1 2 _ rfl l2
              refine gen_yes ?_ ?_
              · simp only [e2]
                rfl
              have l7 : L 7 = true := hL.need 7 (by kernel_rfl)
              have e7 := q1 7 _ rfl l7
              have l8 : L 8 = true := hL.need 8 (by kernel_rfl)
              have e8 := q1 8 _ rfl l8
              simp only [e7, e8]
              go_simp
              exact gr_val (HI.out _ _ _ ⟨q0, kn_known q1 rfl⟩)
            · intro vs
              simp only [Act.put, List.setIfInBounds_toArray, List.set_cons_succ, List.set_cons_zero]
              rfl
            refine gen_cons (A' := ?_) (fun vs L w1 hL hw1 => ?_) ?_ ?_
            rotate_left 1
            · obtain ⟨q0, q1⟩ := HO.out _ _ _ hw1
              have l2 : L 2 = true := hL.need 2 (by kernel_rfl)
              have e2 := q1 2 _ rfl l2
              refine gen_yes ?_ ?_
              · simp only [e2]
                rfl
              have l9 : L 9 = true := hL.need 9 (by kernel_rfl)
              have e9 := q1 9 _ rfl l9
              simp only [e9]
              obtain ⟨y0, y1, y2, y3, y4, y5⟩ := hcx _ (below_grows hg (Nat.le_refl _) q0)
              go_simp
              exact gr_val (HI.out _ _ _ ⟨q0, kn_known q1 rfl⟩)
            · intro vs
              simp only [Act.put, List.setIfInBounds_toArray, List.set_cons_succ, List.set_cons_zero]
              rfl
            refine gen_cons (A' := ?_) (fun vs L w1 hL hw1 => ?_) ?_ ?_
            rotate_left 1
            · obtain ⟨q0, q1⟩ := HO.out _ _ _ hw1
              have l2 : L 2 = true := hL.need 2 (by kernel_rfl)
              have e2 := q1 2 _ rfl l2
              refine gen_yes ?_ ?_
              · simp only [e2]
                rfl
              have l6 : L 6 = true := hL.need 6 (by kernel_rfl)
              have e6 := q1 6 _ rfl l6
              have l10 : L 10 = true := hL.need 10 (by kernel_rfl)
              have e10 := q1 10 _ rfl l10
              simp only [e6, e10]
              go_simp
              refine gr_call ?_
              refine (kin_is x g w1 HKN.out).mono ?_
              rintro e w2 ⟨rfl, hg⟩
              exact ⟨_, rfl, HI.out _ _ _ ⟨below_grows q0 (Nat.le_refl _) hg, kn_known q1 rfl⟩⟩
            · intro vs
              simp only [Act.put, List.setIfInBounds_toArray, List.set_cons_succ, List.set_cons_zero]
              rfl
            refine gen_cons (A' := ?_) (fun vs L w1 hL hw1 => ?_) ?_ ?_
            rotate_left 1
            · obtain ⟨q0, q1⟩ := HO.out _ _ _ hw1
              have l2 : L 2 = true := hL.need 2 (by kernel_rfl)
              have e2 := q1 2 _ rfl l2
              refine gen_yes ?_ ?_
              · simp only [e2]
                rfl
              have l11 : L 11 = true := hL.need 11 (by kernel_rfl)
              have e11 := q1 11 _ rfl l11
              simp only [e11]
              go_simp
              exact gr_val (HI.out _ _ _ ⟨q0, kn_known q1 rfl⟩)
            · intro vs
              simp only [Act.put, List.setIfInBounds_toArray, List.set_cons_succ, List.set_cons_zero]
              rfl
            refine gen_cons (A' := ?_) (fun vs L w1 hL hw1 => ?_) ?_ ?_
            rotate_left 1
            · obtain ⟨q0, q1⟩ := HO.out _ _ _ hw1
              refine gen_plain rfl ?_
              have l2 : L 2 = true := hL.need 2 (by kernel_rfl)
              have e2 := q1 2 _ rfl l2
              have l12 : L 12 = true := hL.need 12 (by kernel_rfl)
              have e12 := q1 12 _ rfl l12
              simp only [e2, e12]
              go_simp
              exact gr_val (HI.out _ _ _ ⟨q0, kn_known q1 rfl⟩)
            · intro vs
              simp only [Act.put, List.setIfInBounds_toArray, List.set_cons_succ, List.set_cons_zero]
              rfl
            refine gen_nil ?_
            intro vs L W6 hall hS
            obtain ⟨hq, q1⟩ := HO.out _ _ _ hS
            have eX13 := q1 13 _ rfl (hall 13 (by simp))
            clear hall hS HI HO q1
            simp only [eX13]
            replace hown := own_grows hown hq
            replace hg := below_grows hg (Nat.le_refl _) hq
            clear hq HKN
            generalize W6 = wi at *
            obtain ⟨Y, jb, hY0, hY6, hY1, hYc⟩ := join_cases x g
            have vj : ∀ w1, Calls Try.prog 14 #[.agg #[.int .i64 x.k, .int .i64 x.a, .int .i64 x.q, .int .i64 x.s, .int .u64 x.d, .int .i64 x.f], .agg #[.int .i64 g.k, .int .i64 g.a, .int .i64 g.q, .int .i64 g.s, .int .u64 g.d, .int .i64 g.f]] w1 fun e w' => e = .returned (.tuple #[.agg Y, .bool jb]) ∧ Grows w1 w' := fun w1 => by
              have := rjoin_any x g w1
              rw [hY0] at this
              exact this
            clear hY0
            have HYC := Lib.hid hYc
            clear hYc
            go_upto_region 10 with fail
            obtain ⟨S, HI, HO⟩ : ∃ S : Ran → World → Prop, Hid (∀ L w', (Grows wi w' ∧ (L 13 = true → L 12 = true)) → S L w') ∧ Hid (∀ L w', S L w' → (Grows wi w' ∧ (L 13 = true → L 12 = true))) := ⟨fun L w' => Grows wi w' ∧ (L 13 = true → L 12 = true), fun _ _ h => h, fun _ _ h => h⟩
            refine wp_region_own S (Only []) 12 13 7 (fun L v w' => ∃ b, v = .pointer (some ⟨b, 0, none⟩) ∧ wi.heap.size ≤ b ∧ Blk w' b 28 (if L 13 then Y else #[.int .i64 0, .int .i64 0, .int .i64 0, .int .i64 0, .int .u64 0, .int .i64 0])) 15 64 (by kernel_rfl) (by kernel_rfl) rfl ?_ ?_ ?_
            · rintro L i v w1 w2 hi1 hi2 _ _ ⟨b, rfl, hb, kb⟩ hr
              refine ⟨b, rfl, hb, ?_⟩
              have hu : upd L i 13 = L 13 := by unfold upd; rw [if_neg (Ne.symm hi2)]
              rw [hu]
              exact kb.only hr (by simp)
            · exact HI.out _ _ ⟨Grows.drew' _, fun h => absurd h (by simp)⟩
            simp only [List.take_succ_cons, List.take_zero, List.drop_succ_cons, List.drop_zero]
            iterate 1
              refine ow_plain (by decide) (by decide) rfl (v := ?_) (a' := ?_) (fun L w1 hL hw1 => ?_) ?_ ?_
              rotate_left 2
              · obtain ⟨q0, q6⟩ := HO.out _ _ hw1
                go_simp
                first | (refine step_val ?_; exact ⟨HI.out _ _ ⟨q0, q6⟩, Only.refl _ _⟩)
              · simp only [Act.put, List.setIfInBounds_toArray, List.set_cons_succ, List.set_cons_zero]
                rfl
            iterate 1
              refine ow_plain (by decide) (by decide) rfl (v := ?_) (a' := ?_) (fun L w1 hL hw1 => ?_) ?_ ?_
              rotate_left 2
              · obtain ⟨q0, q6⟩ := HO.out _ _ hw1
                go_simp
                first | (refine step_val ?_; exact ⟨HI.out _ _ ⟨q0, q6⟩, Only.refl _ _⟩)
              · simp only [Act.put, List.setIfInBounds_toArray, List.set_cons_succ, List.set_cons_zero]
                rfl
            iterate 1
              refine ow_plain (by decide) (by decide) rfl (v := ?_) (a' := ?_) (fun L w1 hL hw1 => ?_) ?_ ?_
              rotate_left 2
              · obtain ⟨q0, q6⟩ := HO.out _ _ hw1
                go_simp
                first | (refine step_val ?_; exact ⟨HI.out _ _ ⟨q0, q6⟩, Only.refl _ _⟩)
              · simp only [Act.put, List.setIfInBounds_toArray, List.set_cons_succ, List.set_cons_zero]
                rfl
            iterate 1
              refine ow_plain (by decide) (by decide) rfl (v := ?_) (a' := ?_) (fun L w1 hL hw1 => ?_) ?_ ?_
              rotate_left 2
              · obtain ⟨q0, q6⟩ := HO.out _ _ hw1
                obtain ⟨c0, c1, c2_, c3_, c4, c5⟩ := own_cells (own_grows hown q0) hxi
                go_simp
                first | (refine step_val ?_; exact ⟨HI.out _ _ ⟨q0, q6⟩, Only.refl _ _⟩)
              · simp only [Act.put, List.setIfInBounds_toArray, List.set_cons_succ, List.set_cons_zero]
                rfl
            iterate 1
              refine ow_plain (by decide) (by decide) rfl (v := ?_) (a' := ?_) (fun L w1 hL hw1 => ?_) ?_ ?_
              rotate_left 2
              · obtain ⟨q0, q6⟩ := HO.out _ _ hw1
                go_simp
                first | (refine step_val ?_; exact ⟨HI.out _ _ ⟨q0, q6⟩, Only.refl _ _⟩)
              · simp only [Act.put, List.setIfInBounds_toArray, List.set_cons_succ, List.set_cons_zero]
                rfl
            iterate 1
              refine ow_plain (by decide) (by decide) rfl (v := ?_) (a' := ?_) (fun L w1 hL hw1 => ?_) ?_ ?_
              rotate_left 2
              · obtain ⟨q0, q6⟩ := HO.out _ _ hw1
                go_simp
                first | (refine step_val ?_; exact ⟨HI.out _ _ ⟨q0, q6⟩, Only.refl _ _⟩)
              · simp only [Act.put, List.setIfInBounds_toArray, List.set_cons_succ, List.set_cons_zero]
                rfl
            iterate 1
              refine ow_plain (by decide) (by decide) rfl (v := ?_) (a' := ?_) (fun L w1 hL hw1 => ?_) ?_ ?_
              rotate_left 2
              · obtain ⟨q0, q6⟩ := HO.out _ _ hw1
                go_simp
                first | (refine step_val ?_; exact ⟨HI.out _ _ ⟨q0, q6⟩, Only.refl _ _⟩)
              · simp only [Act.put, List.setIfInBounds_toArray, List.set_cons_succ, List.set_cons_zero]
                rfl
            iterate 1
              refine ow_plain (by decide) (by decide) rfl (v := ?_) (a' := ?_) (fun L w1 hL hw1 => ?_) ?_ ?_
              rotate_left 2
              · obtain ⟨q0, q6⟩ := HO.out _ _ hw1
                obtain ⟨d0, d1, d2, d3, d4, d5⟩ := hcx _ (below_grows hg (Nat.le_refl _) q0)
                go_simp
                first | (refine step_val ?_; exact ⟨HI.out _ _ ⟨q0, q6⟩, Only.refl _ _⟩)
              · simp only [Act.put, List.setIfInBounds_toArray, List.set_cons_succ, List.set_cons_zero]
                rfl
            refine ow_plain (by decide) (by decide) rfl (v := .tuple #[.agg Y, .bool jb]) (a' := ?_) (fun L w1 hL hw1 => ?_) ?_ ?_
            rotate_left 1
            · obtain ⟨q0, q6⟩ := HO.out _ _ hw1
              go_simp
              refine fr_grow ?_ (fun w2 hg => ?_)
              · exact vj _
              · exact ⟨HI.out _ _ ⟨below_grows q0 (Nat.le_refl _) hg, q6⟩, Only.grows hg⟩
            · simp only [Act.put, List.setIfInBounds_toArray, List.set_cons_succ, List.set_cons_zero]
              rfl
            iterate 1
              refine ow_plain (by decide) (by decide) rfl (v := ?_) (a' := ?_) (fun L w1 hL hw1 => ?_) ?_ ?_
              rotate_left 2
              · obtain ⟨q0, q6⟩ := HO.out _ _ hw1
                go_simp
                first | (refine step_val ?_; exact ⟨HI.out _ _ ⟨q0, q6⟩, Only.refl _ _⟩)
              · simp only [Act.put, List.setIfInBounds_toArray, List.set_cons_succ, List.set_cons_zero]
                rfl
            iterate 1
              refine ow_plain (by decide) (by decide) rfl (v := ?_) (a' := ?_) (fun L w1 hL hw1 => ?_) ?_ ?_
              rotate_left 2
              · obtain ⟨q0, q6⟩ := HO.out _ _ hw1
                go_simp
                first | (refine step_val ?_; exact ⟨HI.out _ _ ⟨q0, q6⟩, Only.refl _ _⟩)
              · simp only [Act.put, List.setIfInBounds_toArray, List.set_cons_succ, List.set_cons_zero]
                rfl
            iterate 1
              refine ow_plain (by decide) (by decide) rfl (v := ?_) (a' := ?_) (fun L w1 hL hw1 => ?_) ?_ ?_
              rotate_left 2
              · obtain ⟨q0, q6⟩ := HO.out _ _ hw1
                go_simp
                first | (refine step_val ?_; exact ⟨HI.out _ _ ⟨q0, q6⟩, Only.refl _ _⟩)
              · simp only [Act.put, List.setIfInBounds_toArray, List.set_cons_succ, List.set_cons_zero]
                rfl
            refine ow_float rfl rfl (fun L w1 hL hw1 => ?_) ?_
            · obtain ⟨q0, q6⟩ := HO.out _ _ hw1
              have l7 : L 12 = false := hL.1
              have l8 : L 13 = false := by
                cases h : L 13
                · rfl
                · rw [q6 h] at l7; cases l7
              have hsz := q0.size
              go_simp
              refine fr_some ⟨w1.heap.size, rfl, hsz, ?_⟩ ⟨HI.out _ _ ⟨q0.alloc hsz _, fun _ => rfl⟩, Only.alloc (Only.refl _ _) _⟩
              show Blk _ _ 28 (if L 13 = true then _ else _)
              rw [l8]
              exact Blk.new _ _ _
            refine ow_sink (by decide) rfl rfl rfl (fun v L w1 hL hw1 hd => ?_) ?_
            · obtain ⟨q0, q6⟩ := HO.out _ _ hw1
              obtain ⟨b, rfl, hb, kb⟩ := hd
              have l8 : L 13 = false := hL.1
              have l7 : L 12 = true := hL.need 12 (by kernel_rfl)
              simp only [l8, Bool.false_eq_true, if_false] at kb
              refine step_store_row _ _ rfl rfl rfl kb (by rw [hY6]; exact ginfo6) (by rw [hY6]; rfl) hY1 ?_
              refine ⟨HI.out _ _ ⟨below_row q0 hb _, fun _ => l7⟩, b, rfl, hb, ?_⟩
              show Blk _ b 28 (if true = true then _ else _)
              rw [if_pos rfl]
              exact kb.row
            iterate 1
              refine ow_plain (by decide) (by decide) rfl (v := ?_) (a' := ?_) (fun L w1 hL hw1 => ?_) ?_ ?_
              rotate_left 2
              · obtain ⟨q0, q6⟩ := HO.out _ _ hw1
                go_simp
                first | (refine step_val ?_; exact ⟨HI.out _ _ ⟨q0, q6⟩, Only.refl _ _⟩)
              · simp only [Act.put, List.setIfInBounds_toArray, List.set_cons_succ, List.set_cons_zero]
                rfl
            refine ow_done ?_
            rintro v L w7 hall hS ⟨bq, rfl, hbb, kb⟩
            obtain ⟨hq, -⟩ := HO.out _ _ hS
            clear hS HI HO
            rw [if_pos (hall 13 (by omega))] at kb
            simp only [Act.put, List.setIfInBounds_toArray, List.set_cons_succ, List.set_cons_zero]
            clear vj
            replace hown := own_grows hown hq
            replace hg := below_grows hg (Nat.le_refl _) hq
            clear hq
            cases jb with
            | false =>
              have HS : Hid (mergeL (s.take (k + 1)) = out ++ [g]) := Lib.hid (by
                rw [HT.out, HT2.out]
                rcases HYC.out with ⟨hh, _⟩ | ⟨_, hh⟩
                · cases hh
                · rw [hh])
              clear HT HT2 HYC kb hY6 hY1 hxi
              obtain ⟨c0, c1, c2_, c3_, c4, c5⟩ := hcx _ hg
              go_upto_region 13 with fail
              refine wp_region_lit ?_
              iterate 6
                refine wpList_plain rfl (fun K hK => ?_)
                go_simp
                refine hK _ _ ?_
                clear hK K
              have hq8 := (Below.refl w7.heap.size w7).alloc (Nat.le_refl _) (Obj.cells #[.int .i64 g.k, .int .i64 g.a, .int .i64 g.q, .int .i64 g.s, .int .u64 g.d, .int .i64 g.f] 28)
              replace hown := own_grows hown hq8
              replace hg := below_grows hg (Nat.le_refl _) hq8
              refine wpList_append_gl rfl (.tmp 55) (.tmp 60) rfl (l := out) (m := [g]) rfl rfl hown (gls_lit w7 g) (by simp only [List.length_cons, List.length_nil]; omega) hg.size ?_
              intro v3 w10 hown3 hgr3
              have hg3 := OwnG.below hown hg hgr3 hg.size
              clear hown hgr3 hq8 hg c0 c1 c2_ c3_ c4 c5 hcx
              go_wp2
              go_roundw
              case rel => exact ⟨k + 1, by omega, by go_num, by rw [HS.out]; exact hown3, hg3⟩
              case measure => simp [intOf]; omega
            | true =>
              obtain ⟨y, hj, rfl⟩ : ∃ y, joinF x g = some y ∧ Y = y.cs := by
                rcases HYC.out with ⟨_, hh⟩ | ⟨hh, _⟩
                · exact hh
                · cases hh
              have HS : Hid (mergeL (s.take (k + 1)) = out.set m y) := Lib.hid (by rw [HT.out, HT2.out, hj])
              clear HT HT2 HYC hj hY6 hY1 hcx
              have xb := kb.cell
              simp only [Gl.cs] at xb
              obtain ⟨g2, rfl, hpa, hg2⟩ := own_addr hown (by omega) m
              have HC := own_cells hown hxi
              have HF := own_froz hown (by omega) m
              have hown2 := own_put hown hil y
              rw [hpa] at HC HF hown2
              simp only [CellsG, FrozG] at HC HF
              obtain ⟨c0, c1, c2, c3', c4, c5⟩ := HC
              obtain ⟨f0, f1, f2, f3, f4, f5⟩ := HF
              go_upto_region 12 with fail
              refine wp_region_lit ?_
              iterate 4
                refine wpList_plain rfl (fun K hK => ?_)
                go_simp
                refine hK _ _ ?_
                clear hK K
              refine wpList_plain rfl (fun K hK => ?_)
              go_simp
              refine hK _ _ ?_
              clear hK K
              change wpList _ _ _ _ _ (putG w7 ⟨g2, m * 6, none⟩ y)
              have hg3 : Grows w2 (putG w7 ⟨g2, m * 6, none⟩ y) := put_below hg (p := ⟨g2, m * 6, none⟩) hg2 y
              generalize putG w7 ⟨g2, m * 6, none⟩ y = w8 at *
              clear c0 c1 c2 c3' c4 c5 f0 f1 f2 f3 f4 f5 xb kb hown hg hpa
              go_wp2
              go_roundw
              case rel => exact ⟨k + 1, by omega, by go_num, by rw [HS.out]; exact hown2, hg3⟩
              case measure => simp [intOf]; omega
    · have e : s.take k = s := List.take_of_length_le (by omega)
      rw [e] at hown hol
      clear e
      have HD : Hid (mergeG l = sortG (mergeL s)) := Lib.hid HML.out
      clear HML HMO
      generalize mergeL s = out at *
      obtain ⟨A3, c3, rfl, hc3, hr3, hge3⟩ := hown.read
      replace hB := below_grows hB (Nat.le_refl _) hg
      go_wp2_with fail
      refine (rsortf_any A3 c3 out _ hr3 hol).mono ?_
      rintro e w3 ⟨⟨v4, rfl, hown4⟩, hq⟩
      rw [← HD.out] at hown4
      have hown5 := hown4.mono hB.size
      replace hB := below_grows hB (Nat.le_refl _) hq
      clear hown4 hq hown HD
      go_wp2
      go_ret
      exact ⟨⟨_, rfl, hown5⟩, hB⟩
end Go.Proofs.Ytbmoiokpkcaccaa
