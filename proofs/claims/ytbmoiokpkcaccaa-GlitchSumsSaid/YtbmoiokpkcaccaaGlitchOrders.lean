/-
  GlitchOrders, for every input: the law returns true, and each argument reads behind the call as it read before. No condition.
-/
import Derived.Test.YtbmoiokpkcaccaaGlitchTotal
import Derived.Test.YtbmoiokpkcaccaaGsF
import Derived.Test.YtbmoiokpkcaccaaGsO
namespace Go.Proofs.Ytbmoiokpkcaccaa
open Go.ChangeShapes Go.WideShapes Go.ChangeAt Go.RowKit
theorem row_at {w : World} {g : Nat} {t : TypeId} {cs : Array Value} (h : Blk w g t cs) : ∀ j v, cs[j]? = some v → w.cell? ((⟨g, 0, none⟩ : Addr).add j) = some v := by
  intro j v hv
  have ha : (⟨g, 0, none⟩ : Addr).add j = ⟨g, j, none⟩ := by
    unfold Addr.add
    split
    · simp_all
    · simp
  rw [ha, h.cell, hv]
theorem join_vals (x g : Gl) : ∃ (Y : Array Value) (jb : Bool), joinV (joinF x g) = .tuple #[.agg Y, .bool jb] ∧ Y.size = 6 ∧ Y.all (·.oneCell') = true ∧ ∃ y : Gl, Y = y.cs := by
  cases h : joinF x g with
  | none => exact ⟨_, false, rfl, rfl, by simp [Value.oneCell'], ⟨0, 0, 0, 0, 0, 0⟩, rfl⟩
  | some y => exact ⟨y.cs, true, rfl, rfl, by simp [Gl.cs, Value.oneCell'], y, rfl⟩
theorem gr_of_run {P : Program} {S : Value → World → Prop} {r : Result Next} {w : World} {u : Value} (h : r = .ok (.value u) w) (hS : S u w) : genR P S r := by rw [h]; exact gr_val hS
namespace GlitchOrders
set_option maxRecDepth 100000 in
set_option maxHeartbeats 16000000 in
theorem walk (A : Option Addr) (c : Nat) (l : List Int) (A0 : Option Addr) (c0 : Nat) (raw : List Gl) (w : World) (hI : Ints w A l) (hl : l.length ≤ 9223372036854775807) (h0 : Gls w A0 raw) (hl0 : raw.length ≤ 9223372036854775807) (hwf : ∀ g ∈ raw, WfG g) :
    Calls Try.prog 4 #[.slice A l.length c, .slice A0 raw.length c0] w fun e w' => e = .returned (.bool true) ∧ Below w.heap.size w w' := by
  have hB := Below.refl w.heap.size w
  go_enter Try.func4, Try.ntmps4
  go_wp2_with fail
  refine (gsane_any _).mono ?_
  rintro e w2 ⟨rfl, hq⟩
  replace hB := below_grows hB (Nat.le_refl _) hq
  replace hI := Reads.grows hI hq
  replace h0 := h0.grows hq
  clear hq
  by_cases h10 : 10 < raw.length
  · go_wp2
    go_ret
    exact ⟨rfl, hB⟩
  go_wp2_with fail
  refine (gmade_any A c l _ hI hl).mono ?_
  rintro e w3 ⟨⟨v, x0, rfl, hown, hx11, hxw⟩, hq⟩
  have hB3 := below_grows hB (Nat.le_refl _) hq
  replace h0 := h0.grows hq
  clear hI
  go_upto_region 6 with (at_builtin; refine wpList_append_gl rfl (.tmp 18) (.tmp 19) rfl (l := x0) (m := raw) rfl rfl hown h0 (by omega) hq.size ?_; intro v3 W hown3 hgr3)
  have hB4 : Below w.heap.size w W := hB3.grown hgr3 hB3.size (fun q e => Nat.le_trans hB.size (hown.lt q e).1)
  clear hB3 hown hgr3 hq
  have hB3 := hB4
  clear hB4 hB
  have hxl : (x0 ++ raw).length ≤ 100 := by rw [List.length_append]; omega
  have hxf : ∀ g ∈ x0 ++ raw, WfG g := fun g hg => (List.mem_append.1 hg).elim (hxw g) (hwf g)
  generalize x0 ++ raw = x at *
  obtain ⟨A2, c2, rfl, hc2, hr, -⟩ := hown3.read
  clear hown3 hx11 hxw h0 hwf hl0
  go_wp2_with fail
  go_loopw [23] (fun i wr => ∃ k : Nat, k ≤ x.length ∧ i = .int .i64 k ∧ Grows W wr) (fun i _ => x.length - (intOf i).toNat)
  case atStart => exact ⟨0, Nat.zero_le _, rfl, Below.refl _ _⟩
  case round =>
    obtain ⟨k, hk, rfl, hg⟩ := hrel
    by_cases hlt : k < x.length
    rotate_left
    · replace hB3 := below_grows hB3 (Nat.le_refl _) hg
      have hr2 := hr.grows hg
      obtain ⟨Aq, rfl⟩ : ∃ Aq, Aq = A2 := ⟨_, rfl⟩
      go_wp2_with fail
      refine (gsortf_any Aq c2 x _ hr2 (by omega)).mono ?_
      rintro e w5 ⟨⟨v5, rfl, ho5⟩, hq⟩
      replace hB3 := below_grows hB3 (Nat.le_refl _) hq
      have hr3 := hr2.grows hq
      clear hq
      go_wp2_with fail
      refine (rsortf_any Aq c2 x _ hr3 (by omega)).mono ?_
      rintro e w6 ⟨⟨v6, rfl, ho6⟩, hq⟩
      replace hB3 := below_grows hB3 (Nat.le_refl _) hq
      have hr4 := hr3.grows hq
      replace ho5 := ho5.grows hq
      clear hq
      have hsl := sortG_len x
      obtain ⟨A5, c5, rfl, -, h5, -⟩ := ho5.read
      obtain ⟨A6, c6, rfl, -, h6, -⟩ := ho6.read
      go_wp2_with fail
      refine (gsame_eq A5 A6 c5 c6 (sortG x) _ h5 h6 (by omega)).mono ?_
      rintro e w7 ⟨rfl, hq⟩
      replace hB3 := below_grows hB3 (Nat.le_refl _) hq
      have hr5 := hr4.grows hq
      clear hq ho5 ho6 h5 h6
      go_wp2_with fail
      refine (gmerge_any Aq c2 x _ hr5 (by omega) hxf).mono ?_
      rintro e w8 ⟨⟨v8, rfl, ho8⟩, hq⟩
      replace hB3 := below_grows hB3 (Nat.le_refl _) hq
      have hr6 := hr5.grows hq
      clear hq
      go_wp2_with fail
      refine (rmerge_any Aq c2 x _ hr6 (by omega)).mono ?_
      rintro e w9 ⟨⟨v9, rfl, ho9⟩, hq⟩
      replace hB3 := below_grows hB3 (Nat.le_refl _) hq
      replace ho8 := ho8.grows hq
      clear hq
      have hml := mergeG_len x
      obtain ⟨A8, c8, rfl, -, h8, -⟩ := ho8.read
      obtain ⟨A9, c9, rfl, -, h9, -⟩ := ho9.read
      go_wp2_with fail
      refine (gsame_eq A8 A9 c8 c9 (mergeG x) _ h8 h9 (by omega)).mono ?_
      rintro e w10 ⟨rfl, hq⟩
      replace hB3 := below_grows hB3 (Nat.le_refl _) hq
      clear hq ho8 ho9 h8 h9
      go_wp2
      go_ret
      exact ⟨rfl, hB3⟩
    obtain ⟨ad, a, rfl, had, hxa, hca⟩ := gls_addr hr hlt
    have hks : (k : Int) < (x.length : Int) := by omega
    clear hxa
    go_upto_region 9 with fail
    obtain ⟨S, HI, HO⟩ : ∃ S : Ran → (Nat → Value) → World → Prop, Hid (∀ L vs w', (Grows wr w' ∧ KnS [some (.slice (some ad) x.length c2), some (.int .i64 (k : Int)), some (.pointer (some (ad.add (k * 6)))), some (.agg #[.int .i64 a.k, .int .i64 a.a, .int .i64 a.q, .int .i64 a.s, .int .u64 a.d, .int .i64 a.f]), some (.bool (okG a)), some (.slice (some ad) x.length c2), some (.int .i64 (k : Int)), some (.pointer (some (ad.add (k * 6)))), some (.agg #[.int .i64 a.k, .int .i64 a.a, .int .i64 a.q, .int .i64 a.s, .int .u64 a.d, .int .i64 a.f]), some (.bool (okG a)), some (.bool false)] L vs) → S L vs w') ∧ Hid (∀ L vs w', S L vs w' → (Grows wr w' ∧ KnS [some (.slice (some ad) x.length c2), some (.int .i64 (k : Int)), some (.pointer (some (ad.add (k * 6)))), some (.agg #[.int .i64 a.k, .int .i64 a.a, .int .i64 a.q, .int .i64 a.s, .int .u64 a.d, .int .i64 a.f]), some (.bool (okG a)), some (.slice (some ad) x.length c2), some (.int .i64 (k : Int)), some (.pointer (some (ad.add (k * 6)))), some (.agg #[.int .i64 a.k, .int .i64 a.a, .int .i64 a.q, .int .i64 a.s, .int .u64 a.d, .int .i64 a.f]), some (.bool (okG a)), some (.bool false)] L vs)) := ⟨fun L vs w' => Grows wr w' ∧ KnS [some (.slice (some ad) x.length c2), some (.int .i64 (k : Int)), some (.pointer (some (ad.add (k * 6)))), some (.agg #[.int .i64 a.k, .int .i64 a.a, .int .i64 a.q, .int .i64 a.s, .int .u64 a.d, .int .i64 a.f]), some (.bool (okG a)), some (.slice (some ad) x.length c2), some (.int .i64 (k : Int)), some (.pointer (some (ad.add (k * 6)))), some (.agg #[.int .i64 a.k, .int .i64 a.a, .int .i64 a.q, .int .i64 a.s, .int .u64 a.d, .int .i64 a.f]), some (.bool (okG a)), some (.bool false)] L vs, fun _ _ _ h => h, fun _ _ _ h => h⟩
    refine wp_region_genW S 109 (by kernel_rfl) (by kernel_rfl) rfl ?_ ?_
    · exact HI.out _ _ _ ⟨Grows.drew' _, kn_none _ _⟩
    refine gen_cons (A' := ?_) (fun vs L w1 hL hw1 => ?_) ?_ ?_
    rotate_left 1
    · obtain ⟨q0, q1⟩ := HO.out _ _ _ hw1
      refine gen_plain rfl ?_
      go_simp
      exact gr_val (HI.out _ _ _ ⟨q0, kn_known q1 rfl⟩)
    · intro vs
      simp only [Act.put, List.setIfInBounds_toArray, List.set_cons_succ, List.set_cons_zero]
      rfl
    refine gen_cons (A' := ?_) (fun vs L w1 hL hw1 => ?_) ?_ ?_
    rotate_left 1
    · obtain ⟨q0, q1⟩ := HO.out _ _ _ hw1
      refine gen_plain rfl ?_
      go_simp
      exact gr_val (HI.out _ _ _ ⟨q0, kn_known q1 rfl⟩)
    · intro vs
      simp only [Act.put, List.setIfInBounds_toArray, List.set_cons_succ, List.set_cons_zero]
      rfl
    refine gen_cons (A' := ?_) (fun vs L w1 hL hw1 => ?_) ?_ ?_
    rotate_left 1
    · obtain ⟨q0, q1⟩ := HO.out _ _ _ hw1
      refine gen_plain rfl ?_
      have l0 : L 0 = true := hL.need 0 (by kernel_rfl)
      have e0 := q1 0 _ rfl l0
      have l1 : L 1 = true := hL.need 1 (by kernel_rfl)
      have e1 := q1 1 _ rfl l1
      simp only [e0, e1]
      go_simp
      exact gr_val (HI.out _ _ _ ⟨q0, kn_known q1 rfl⟩)
    · intro vs
      simp only [Act.put, List.setIfInBounds_toArray, List.set_cons_succ, List.set_cons_zero]
      rfl
    refine gen_cons (A' := ?_) (fun vs L w1 hL hw1 => ?_) ?_ ?_
    rotate_left 1
    · obtain ⟨q0, q1⟩ := HO.out _ _ _ hw1
      refine gen_plain rfl ?_
      have l2 : L 2 = true := hL.need 2 (by kernel_rfl)
      have e2 := q1 2 _ rfl l2
      simp only [e2]
      obtain ⟨y0, y1, y2, y3, y4, y5⟩ := hca _ (below_grows hg (Nat.le_refl _) q0)
      go_simp
      exact gr_val (HI.out _ _ _ ⟨q0, kn_known q1 rfl⟩)
    · intro vs
      simp only [Act.put, List.setIfInBounds_toArray, List.set_cons_succ, List.set_cons_zero]
      rfl
    refine gen_cons (A' := ?_) (fun vs L w1 hL hw1 => ?_) ?_ ?_
    rotate_left 1
    · obtain ⟨q0, q1⟩ := HO.out _ _ _ hw1
      refine gen_plain rfl ?_
      have l3 : L 3 = true := hL.need 3 (by kernel_rfl)
      have e3 := q1 3 _ rfl l3
      simp only [e3]
      go_simp
      refine gr_call ?_
      refine (gvalid_g a w1).mono ?_
      rintro e w2 ⟨rfl, hg⟩
      exact ⟨_, rfl, HI.out _ _ _ ⟨below_grows q0 (Nat.le_refl _) hg, kn_known q1 rfl⟩⟩
    · intro vs
      simp only [Act.put, List.setIfInBounds_toArray, List.set_cons_succ, List.set_cons_zero]
      rfl
    refine gen_cons (A' := ?_) (fun vs L w1 hL hw1 => ?_) ?_ ?_
    rotate_left 1
    · obtain ⟨q0, q1⟩ := HO.out _ _ _ hw1
      refine gen_plain rfl ?_
      go_simp
      exact gr_val (HI.out _ _ _ ⟨q0, kn_known q1 rfl⟩)
    · intro vs
      simp only [Act.put, List.setIfInBounds_toArray, List.set_cons_succ, List.set_cons_zero]
      rfl
    refine gen_cons (A' := ?_) (fun vs L w1 hL hw1 => ?_) ?_ ?_
    rotate_left 1
    · obtain ⟨q0, q1⟩ := HO.out _ _ _ hw1
      refine gen_plain rfl ?_
      go_simp
      exact gr_val (HI.out _ _ _ ⟨q0, kn_known q1 rfl⟩)
    · intro vs
      simp only [Act.put, List.setIfInBounds_toArray, List.set_cons_succ, List.set_cons_zero]
      rfl
    refine gen_cons (A' := ?_) (fun vs L w1 hL hw1 => ?_) ?_ ?_
    rotate_left 1
    · obtain ⟨q0, q1⟩ := HO.out _ _ _ hw1
      refine gen_plain rfl ?_
      have l5 : L 5 = true := hL.need 5 (by kernel_rfl)
      have e5 := q1 5 _ rfl l5
      have l6 : L 6 = true := hL.need 6 (by kernel_rfl)
      have e6 := q1 6 _ rfl l6
      simp only [e5, e6]
      go_simp
      exact gr_val (HI.out _ _ _ ⟨q0, kn_known q1 rfl⟩)
    · intro vs
      simp only [Act.put, List.setIfInBounds_toArray, List.set_cons_succ, List.set_cons_zero]
      rfl
    refine gen_cons (A' := ?_) (fun vs L w1 hL hw1 => ?_) ?_ ?_
    rotate_left 1
    · obtain ⟨q0, q1⟩ := HO.out _ _ _ hw1
      refine gen_plain rfl ?_
      have l7 : L 7 = true := hL.need 7 (by kernel_rfl)
      have e7 := q1 7 _ rfl l7
      simp only [e7]
      obtain ⟨y0, y1, y2, y3, y4, y5⟩ := hca _ (below_grows hg (Nat.le_refl _) q0)
      go_simp
      exact gr_val (HI.out _ _ _ ⟨q0, kn_known q1 rfl⟩)
    · intro vs
      simp only [Act.put, List.setIfInBounds_toArray, List.set_cons_succ, List.set_cons_zero]
      rfl
    refine gen_cons (A' := ?_) (fun vs L w1 hL hw1 => ?_) ?_ ?_
    rotate_left 1
    · obtain ⟨q0, q1⟩ := HO.out _ _ _ hw1
      refine gen_plain rfl ?_
      have l8 : L 8 = true := hL.need 8 (by kernel_rfl)
      have e8 := q1 8 _ rfl l8
      simp only [e8]
      go_simp
      refine gr_call ?_
      refine (grvalid_g a w1).mono ?_
      rintro e w2 ⟨rfl, hg⟩
      exact ⟨_, rfl, HI.out _ _ _ ⟨below_grows q0 (Nat.le_refl _) hg, kn_known q1 rfl⟩⟩
    · intro vs
      simp only [Act.put, List.setIfInBounds_toArray, List.set_cons_succ, List.set_cons_zero]
      rfl
    refine gen_cons (A' := ?_) (fun vs L w1 hL hw1 => ?_) ?_ ?_
    rotate_left 1
    · obtain ⟨q0, q1⟩ := HO.out _ _ _ hw1
      refine gen_plain rfl ?_
      have l4 : L 4 = true := hL.need 4 (by kernel_rfl)
      have e4 := q1 4 _ rfl l4
      have l9 : L 9 = true := hL.need 9 (by kernel_rfl)
      have e9 := q1 9 _ rfl l9
      simp only [e4, e9]
      go_simp
      exact gr_val (HI.out _ _ _ ⟨q0, kn_known q1 rfl⟩)
    · intro vs
      simp only [Act.put, List.setIfInBounds_toArray, List.set_cons_succ, List.set_cons_zero]
      rfl
    refine gen_nil ?_
    intro vs L W6 hall hS
    obtain ⟨hq, q1⟩ := HO.out _ _ _ hS
    have eX10 := q1 10 _ rfl (hall 10 (by simp))
    clear hall hS HI HO q1
    simp only [eX10]
    replace hg := below_grows hg (Nat.le_refl _) hq
    clear hq
    go_wp2_with fail
    generalize W6 = wa at *
    go_loopw [39] (fun i wr => ∃ j : Nat, j ≤ x.length ∧ i = .int .i64 j ∧ Grows wa wr) (fun i _ => x.length - (intOf i).toNat)
    case atStart => exact ⟨0, Nat.zero_le _, rfl, Below.refl _ _⟩
    case round =>
      have HG := Lib.hid hg
      clear hg
      obtain ⟨j, hj, rfl, hgi⟩ := hrel
      have hg := below_grows HG.out (Nat.le_refl _) hgi
      by_cases hlt2 : j < x.length
      rotate_left
      · clear HG hgi
        go_wp2
        go_roundw
        case rel => exact ⟨k + 1, by omega, by go_num, hg⟩
        case measure => simp [intOf]; omega
      clear HG
      obtain ⟨ad', b, e, had', hxb, hcb⟩ := gls_addr hr hlt2
      injection e with e
      subst e
      clear hxb
      have hjs : (j : Int) < (x.length : Int) := by omega
      obtain ⟨Y, jb, hY0, hY6, hY1, hYg⟩ := join_vals a b
      have vj0 : ∀ w1, Calls Try.prog 13 #[.agg #[.int .i64 a.k, .int .i64 a.a, .int .i64 a.q, .int .i64 a.s, .int .u64 a.d, .int .i64 a.f], .agg #[.int .i64 b.k, .int .i64 b.a, .int .i64 b.q, .int .i64 b.s, .int .u64 b.d, .int .i64 b.f]] w1 fun e w' => e = .returned (.tuple #[.agg Y, .bool jb]) ∧ Grows w1 w' := fun w1 => by
        have := join_any a b w1
        rw [hY0] at this
        exact this
      have vj1 : ∀ w1, Calls Try.prog 14 #[.agg #[.int .i64 a.k, .int .i64 a.a, .int .i64 a.q, .int .i64 a.s, .int .u64 a.d, .int .i64 a.f], .agg #[.int .i64 b.k, .int .i64 b.a, .int .i64 b.q, .int .i64 b.s, .int .u64 b.d, .int .i64 b.f]] w1 fun e w' => e = .returned (.tuple #[.agg Y, .bool jb]) ∧ Grows w1 w' := fun w1 => by
        have := rjoin_any a b w1
        rw [hY0] at this
        exact this
      have HNQ : Hid (∀ w1, (binOp .neq 28 (.agg Y) (.agg Y)).run Try.prog w1 = .ok (.bool false) w1) := Lib.hid fun w1 => by
        obtain ⟨y, rfl⟩ := hYg
        exact neq_gl_same y w1
      clear hY0 hYg
      go_upto_region 14 with fail
      have vj := vj0
      obtain ⟨S, HI, HO⟩ : ∃ S : Ran → World → Prop, Hid (∀ L w', (Grows wr w' ∧ (L 13 = true → L 12 = true)) → S L w') ∧ Hid (∀ L w', S L w' → (Grows wr w' ∧ (L 13 = true → L 12 = true))) := ⟨fun L w' => Grows wr w' ∧ (L 13 = true → L 12 = true), fun _ _ h => h, fun _ _ h => h⟩
      refine wp_region_own S (Only []) 12 13 8 (fun L v w' => ∃ b, v = .pointer (some ⟨b, 0, none⟩) ∧ wr.heap.size ≤ b ∧ Blk w' b 28 (if L 13 then Y else #[.int .i64 0, .int .i64 0, .int .i64 0, .int .i64 0, .int .u64 0, .int .i64 0])) 15 109 (by kernel_rfl) (by kernel_rfl) rfl ?_ ?_ ?_
      · rintro L i v w1 w2 hi1 hi2 _ _ ⟨b, rfl, hb, kb⟩ hr
        refine ⟨b, rfl, hb, ?_⟩
        have hu : upd L i 13 = L 13 := by unfold upd; rw [if_neg (Ne.symm hi2)]
        rw [hu]
        exact kb.only hr (by simp)
      · exact HI.out _ _ ⟨Grows.drew' _, fun h => absurd h (by simp)⟩
      simp only [List.take_succ_cons, List.take_zero, List.drop_succ_cons, List.drop_zero]
      iterate 1
        refine ow_plain (by decide) (by decide) rfl (v := ?_) (a' := ?_) (fun L w1 hL hw1 => ?_) ?_ ?_
        rotate_left 2
        · obtain ⟨q0, q6⟩ := HO.out _ _ hw1
          go_simp
          first | (refine step_val ?_; exact ⟨HI.out _ _ ⟨q0, q6⟩, Only.refl _ _⟩)
        · simp only [Act.put, List.setIfInBounds_toArray, List.set_cons_succ, List.set_cons_zero]
          rfl
      iterate 1
        refine ow_plain (by decide) (by decide) rfl (v := ?_) (a' := ?_) (fun L w1 hL hw1 => ?_) ?_ ?_
        rotate_left 2
        · obtain ⟨q0, q6⟩ := HO.out _ _ hw1
          go_simp
          first | (refine step_val ?_; exact ⟨HI.out _ _ ⟨q0, q6⟩, Only.refl _ _⟩)
        · simp only [Act.put, List.setIfInBounds_toArray, List.set_cons_succ, List.set_cons_zero]
          rfl
      iterate 1
        refine ow_plain (by decide) (by decide) rfl (v := ?_) (a' := ?_) (fun L w1 hL hw1 => ?_) ?_ ?_
        rotate_left 2
        · obtain ⟨q0, q6⟩ := HO.out _ _ hw1
          go_simp
          first | (refine step_val ?_; exact ⟨HI.out _ _ ⟨q0, q6⟩, Only.refl _ _⟩)
        · simp only [Act.put, List.setIfInBounds_toArray, List.set_cons_succ, List.set_cons_zero]
          rfl
      iterate 1
        refine ow_plain (by decide) (by decide) rfl (v := ?_) (a' := ?_) (fun L w1 hL hw1 => ?_) ?_ ?_
        rotate_left 2
        · obtain ⟨q0, q6⟩ := HO.out _ _ hw1
          obtain ⟨c0, c1, c2_, c3, c4, c5⟩ := hca _ (below_grows hg (Nat.le_refl _) q0)
          go_simp
          first | (refine step_val ?_; exact ⟨HI.out _ _ ⟨q0, q6⟩, Only.refl _ _⟩)
        · simp only [Act.put, List.setIfInBounds_toArray, List.set_cons_succ, List.set_cons_zero]
          rfl
      iterate 1
        refine ow_plain (by decide) (by decide) rfl (v := ?_) (a' := ?_) (fun L w1 hL hw1 => ?_) ?_ ?_
        rotate_left 2
        · obtain ⟨q0, q6⟩ := HO.out _ _ hw1
          go_simp
          first | (refine step_val ?_; exact ⟨HI.out _ _ ⟨q0, q6⟩, Only.refl _ _⟩)
        · simp only [Act.put, List.setIfInBounds_toArray, List.set_cons_succ, List.set_cons_zero]
          rfl
      iterate 1
        refine ow_plain (by decide) (by decide) rfl (v := ?_) (a' := ?_) (fun L w1 hL hw1 => ?_) ?_ ?_
        rotate_left 2
        · obtain ⟨q0, q6⟩ := HO.out _ _ hw1
          go_simp
          first | (refine step_val ?_; exact ⟨HI.out _ _ ⟨q0, q6⟩, Only.refl _ _⟩)
        · simp only [Act.put, List.setIfInBounds_toArray, List.set_cons_succ, List.set_cons_zero]
          rfl
      iterate 1
        refine ow_plain (by decide) (by decide) rfl (v := ?_) (a' := ?_) (fun L w1 hL hw1 => ?_) ?_ ?_
        rotate_left 2
        · obtain ⟨q0, q6⟩ := HO.out _ _ hw1
          go_simp
          first | (refine step_val ?_; exact ⟨HI.out _ _ ⟨q0, q6⟩, Only.refl _ _⟩)
        · simp only [Act.put, List.setIfInBounds_toArray, List.set_cons_succ, List.set_cons_zero]
          rfl
      iterate 1
        refine ow_plain (by decide) (by decide) rfl (v := ?_) (a' := ?_) (fun L w1 hL hw1 => ?_) ?_ ?_
        rotate_left 2
        · obtain ⟨q0, q6⟩ := HO.out _ _ hw1
          obtain ⟨d0, d1, d2, d3, d4, d5⟩ := hcb _ (below_grows hg (Nat.le_refl _) q0)
          go_simp
          first | (refine step_val ?_; exact ⟨HI.out _ _ ⟨q0, q6⟩, Only.refl _ _⟩)
        · simp only [Act.put, List.setIfInBounds_toArray, List.set_cons_succ, List.set_cons_zero]
          rfl
      refine ow_plain (by decide) (by decide) rfl (v := .tuple #[.agg Y, .bool jb]) (a' := ?_) (fun L w1 hL hw1 => ?_) ?_ ?_
      rotate_left 1
      · obtain ⟨q0, q6⟩ := HO.out _ _ hw1
        go_simp
        refine fr_grow ?_ (fun w2 hg => ?_)
        · exact vj _
        · exact ⟨HI.out _ _ ⟨below_grows q0 (Nat.le_refl _) hg, q6⟩, Only.grows hg⟩
      · simp only [Act.put, List.setIfInBounds_toArray, List.set_cons_succ, List.set_cons_zero]
        rfl
      iterate 1
        refine ow_plain (by decide) (by decide) rfl (v := ?_) (a' := ?_) (fun L w1 hL hw1 => ?_) ?_ ?_
        rotate_left 2
        · obtain ⟨q0, q6⟩ := HO.out _ _ hw1
          go_simp
          first | (refine step_val ?_; exact ⟨HI.out _ _ ⟨q0, q6⟩, Only.refl _ _⟩)
        · simp only [Act.put, List.setIfInBounds_toArray, List.set_cons_succ, List.set_cons_zero]
          rfl
      iterate 1
        refine ow_plain (by decide) (by decide) rfl (v := ?_) (a' := ?_) (fun L w1 hL hw1 => ?_) ?_ ?_
        rotate_left 2
        · obtain ⟨q0, q6⟩ := HO.out _ _ hw1
          go_simp
          first | (refine step_val ?_; exact ⟨HI.out _ _ ⟨q0, q6⟩, Only.refl _ _⟩)
        · simp only [Act.put, List.setIfInBounds_toArray, List.set_cons_succ, List.set_cons_zero]
          rfl
      iterate 1
        refine ow_plain (by decide) (by decide) rfl (v := ?_) (a' := ?_) (fun L w1 hL hw1 => ?_) ?_ ?_
        rotate_left 2
        · obtain ⟨q0, q6⟩ := HO.out _ _ hw1
          go_simp
          first | (refine step_val ?_; exact ⟨HI.out _ _ ⟨q0, q6⟩, Only.refl _ _⟩)
        · simp only [Act.put, List.setIfInBounds_toArray, List.set_cons_succ, List.set_cons_zero]
          rfl
      refine ow_float rfl rfl (fun L w1 hL hw1 => ?_) ?_
      · obtain ⟨q0, q6⟩ := HO.out _ _ hw1
        have l7 : L 12 = false := hL.1
        have l8 : L 13 = false := by
          cases h : L 13
          · rfl
          · rw [q6 h] at l7; cases l7
        have hsz := q0.size
        go_simp
        refine fr_some ⟨w1.heap.size, rfl, hsz, ?_⟩ ⟨HI.out _ _ ⟨q0.alloc hsz _, fun _ => rfl⟩, Only.alloc (Only.refl _ _) _⟩
        show Blk _ _ 28 (if L 13 = true then _ else _)
        rw [l8]
        exact Blk.new _ _ _
      refine ow_sink (by decide) rfl rfl rfl (fun v L w1 hL hw1 hd => ?_) ?_
      · obtain ⟨q0, q6⟩ := HO.out _ _ hw1
        obtain ⟨b, rfl, hb, kb⟩ := hd
        have l8 : L 13 = false := hL.1
        have l7 : L 12 = true := hL.need 12 (by kernel_rfl)
        simp only [l8, Bool.false_eq_true, if_false] at kb
        refine step_store_row _ _ rfl rfl rfl kb (by rw [hY6]; exact ginfo6) (by rw [hY6]; rfl) hY1 ?_
        refine ⟨HI.out _ _ ⟨below_row q0 hb _, fun _ => l7⟩, b, rfl, hb, ?_⟩
        show Blk _ b 28 (if true = true then _ else _)
        rw [if_pos rfl]
        exact kb.row
      iterate 1
        refine ow_plain (by decide) (by decide) rfl (v := ?_) (a' := ?_) (fun L w1 hL hw1 => ?_) ?_ ?_
        rotate_left 2
        · obtain ⟨q0, q6⟩ := HO.out _ _ hw1
          go_simp
          first | (refine step_val ?_; exact ⟨HI.out _ _ ⟨q0, q6⟩, Only.refl _ _⟩)
        · simp only [Act.put, List.setIfInBounds_toArray, List.set_cons_succ, List.set_cons_zero]
          rfl
      refine ow_done ?_
      rintro v L w7 hall hS ⟨bq, rfl, hbb, kb⟩
      obtain ⟨hq, -⟩ := HO.out _ _ hS
      clear hS HI HO
      rw [if_pos (hall 13 (by omega))] at kb
      simp only [Act.put, List.setIfInBounds_toArray, List.set_cons_succ, List.set_cons_zero]
      clear vj
      have k8 := kb
      clear kb hbb
      replace hg := below_grows hg (Nat.le_refl _) hq
      have hgi2 := below_grows hgi (Nat.le_refl _) hq
      clear hq hgi
      generalize bq = G8 at *
      go_upto_region 15 with fail
      have vj := vj1
      generalize w7 = w70 at *
      obtain ⟨S, HI, HO⟩ : ∃ S : Ran → World → Prop, Hid (∀ L w', (Grows w70 w' ∧ (L 13 = true → L 12 = true)) → S L w') ∧ Hid (∀ L w', S L w' → (Grows w70 w' ∧ (L 13 = true → L 12 = true))) := ⟨fun L w' => Grows w70 w' ∧ (L 13 = true → L 12 = true), fun _ _ h => h, fun _ _ h => h⟩
      refine wp_region_own S (Only []) 12 13 10 (fun L v w' => ∃ b, v = .pointer (some ⟨b, 0, none⟩) ∧ w70.heap.size ≤ b ∧ Blk w' b 28 (if L 13 then Y else #[.int .i64 0, .int .i64 0, .int .i64 0, .int .i64 0, .int .u64 0, .int .i64 0])) 15 109 (by kernel_rfl) (by kernel_rfl) rfl ?_ ?_ ?_
      · rintro L i v w1 w2 hi1 hi2 _ _ ⟨b, rfl, hb, kb⟩ hr
        refine ⟨b, rfl, hb, ?_⟩
        have hu : upd L i 13 = L 13 := by unfold upd; rw [if_neg (Ne.symm hi2)]
        rw [hu]
        exact kb.only hr (by simp)
      · exact HI.out _ _ ⟨Grows.drew' _, fun h => absurd h (by simp)⟩
      simp only [List.take_succ_cons, List.take_zero, List.drop_succ_cons, List.drop_zero]
      iterate 1
        refine ow_plain (by decide) (by decide) rfl (v := ?_) (a' := ?_) (fun L w1 hL hw1 => ?_) ?_ ?_
        rotate_left 2
        · obtain ⟨q0, q6⟩ := HO.out _ _ hw1
          go_simp
          first | (refine step_val ?_; exact ⟨HI.out _ _ ⟨q0, q6⟩, Only.refl _ _⟩)
        · simp only [Act.put, List.setIfInBounds_toArray, List.set_cons_succ, List.set_cons_zero]
          rfl
      iterate 1
        refine ow_plain (by decide) (by decide) rfl (v := ?_) (a' := ?_) (fun L w1 hL hw1 => ?_) ?_ ?_
        rotate_left 2
        · obtain ⟨q0, q6⟩ := HO.out _ _ hw1
          go_simp
          first | (refine step_val ?_; exact ⟨HI.out _ _ ⟨q0, q6⟩, Only.refl _ _⟩)
        · simp only [Act.put, List.setIfInBounds_toArray, List.set_cons_succ, List.set_cons_zero]
          rfl
      iterate 1
        refine ow_plain (by decide) (by decide) rfl (v := ?_) (a' := ?_) (fun L w1 hL hw1 => ?_) ?_ ?_
        rotate_left 2
        · obtain ⟨q0, q6⟩ := HO.out _ _ hw1
          go_simp
          first | (refine step_val ?_; exact ⟨HI.out _ _ ⟨q0, q6⟩, Only.refl _ _⟩)
        · simp only [Act.put, List.setIfInBounds_toArray, List.set_cons_succ, List.set_cons_zero]
          rfl
      iterate 1
        refine ow_plain (by decide) (by decide) rfl (v := ?_) (a' := ?_) (fun L w1 hL hw1 => ?_) ?_ ?_
        rotate_left 2
        · obtain ⟨q0, q6⟩ := HO.out _ _ hw1
          obtain ⟨c0, c1, c2_, c3, c4, c5⟩ := hca _ (below_grows hg (Nat.le_refl _) q0)
          go_simp
          first | (refine step_val ?_; exact ⟨HI.out _ _ ⟨q0, q6⟩, Only.refl _ _⟩)
        · simp only [Act.put, List.setIfInBounds_toArray, List.set_cons_succ, List.set_cons_zero]
          rfl
      iterate 1
        refine ow_plain (by decide) (by decide) rfl (v := ?_) (a' := ?_) (fun L w1 hL hw1 => ?_) ?_ ?_
        rotate_left 2
        · obtain ⟨q0, q6⟩ := HO.out _ _ hw1
          go_simp
          first | (refine step_val ?_; exact ⟨HI.out _ _ ⟨q0, q6⟩, Only.refl _ _⟩)
        · simp only [Act.put, List.setIfInBounds_toArray, List.set_cons_succ, List.set_cons_zero]
          rfl
      iterate 1
        refine ow_plain (by decide) (by decide) rfl (v := ?_) (a' := ?_) (fun L w1 hL hw1 => ?_) ?_ ?_
        rotate_left 2
        · obtain ⟨q0, q6⟩ := HO.out _ _ hw1
          go_simp
          first | (refine step_val ?_; exact ⟨HI.out _ _ ⟨q0, q6⟩, Only.refl _ _⟩)
        · simp only [Act.put, List.setIfInBounds_toArray, List.set_cons_succ, List.set_cons_zero]
          rfl
      iterate 1
        refine ow_plain (by decide) (by decide) rfl (v := ?_) (a' := ?_) (fun L w1 hL hw1 => ?_) ?_ ?_
        rotate_left 2
        · obtain ⟨q0, q6⟩ := HO.out _ _ hw1
          go_simp
          first | (refine step_val ?_; exact ⟨HI.out _ _ ⟨q0, q6⟩, Only.refl _ _⟩)
        · simp only [Act.put, List.setIfInBounds_toArray, List.set_cons_succ, List.set_cons_zero]
          rfl
      iterate 1
        refine ow_plain (by decide) (by decide) rfl (v := ?_) (a' := ?_) (fun L w1 hL hw1 => ?_) ?_ ?_
        rotate_left 2
        · obtain ⟨q0, q6⟩ := HO.out _ _ hw1
          obtain ⟨d0, d1, d2, d3, d4, d5⟩ := hcb _ (below_grows hg (Nat.le_refl _) q0)
          go_simp
          first | (refine step_val ?_; exact ⟨HI.out _ _ ⟨q0, q6⟩, Only.refl _ _⟩)
        · simp only [Act.put, List.setIfInBounds_toArray, List.set_cons_succ, List.set_cons_zero]
          rfl
      refine ow_plain (by decide) (by decide) rfl (v := .tuple #[.agg Y, .bool jb]) (a' := ?_) (fun L w1 hL hw1 => ?_) ?_ ?_
      rotate_left 1
      · obtain ⟨q0, q6⟩ := HO.out _ _ hw1
        go_simp
        refine fr_grow ?_ (fun w2 hg => ?_)
        · exact vj _
        · exact ⟨HI.out _ _ ⟨below_grows q0 (Nat.le_refl _) hg, q6⟩, Only.grows hg⟩
      · simp only [Act.put, List.setIfInBounds_toArray, List.set_cons_succ, List.set_cons_zero]
        rfl
      iterate 1
        refine ow_plain (by decide) (by decide) rfl (v := ?_) (a' := ?_) (fun L w1 hL hw1 => ?_) ?_ ?_
        rotate_left 2
        · obtain ⟨q0, q6⟩ := HO.out _ _ hw1
          go_simp
          first | (refine step_val ?_; exact ⟨HI.out _ _ ⟨q0, q6⟩, Only.refl _ _⟩)
        · simp only [Act.put, List.setIfInBounds_toArray, List.set_cons_succ, List.set_cons_zero]
          rfl
      iterate 1
        refine ow_plain (by decide) (by decide) rfl (v := ?_) (a' := ?_) (fun L w1 hL hw1 => ?_) ?_ ?_
        rotate_left 2
        · obtain ⟨q0, q6⟩ := HO.out _ _ hw1
          go_simp
          first | (refine step_val ?_; exact ⟨HI.out _ _ ⟨q0, q6⟩, Only.refl _ _⟩)
        · simp only [Act.put, List.setIfInBounds_toArray, List.set_cons_succ, List.set_cons_zero]
          rfl
      iterate 1
        refine ow_plain (by decide) (by decide) rfl (v := ?_) (a' := ?_) (fun L w1 hL hw1 => ?_) ?_ ?_
        rotate_left 2
        · obtain ⟨q0, q6⟩ := HO.out _ _ hw1
          go_simp
          first | (refine step_val ?_; exact ⟨HI.out _ _ ⟨q0, q6⟩, Only.refl _ _⟩)
        · simp only [Act.put, List.setIfInBounds_toArray, List.set_cons_succ, List.set_cons_zero]
          rfl
      refine ow_float rfl rfl (fun L w1 hL hw1 => ?_) ?_
      · obtain ⟨q0, q6⟩ := HO.out _ _ hw1
        have l7 : L 12 = false := hL.1
        have l8 : L 13 = false := by
          cases h : L 13
          · rfl
          · rw [q6 h] at l7; cases l7
        have hsz := q0.size
        go_simp
        refine fr_some ⟨w1.heap.size, rfl, hsz, ?_⟩ ⟨HI.out _ _ ⟨q0.alloc hsz _, fun _ => rfl⟩, Only.alloc (Only.refl _ _) _⟩
        show Blk _ _ 28 (if L 13 = true then _ else _)
        rw [l8]
        exact Blk.new _ _ _
      refine ow_sink (by decide) rfl rfl rfl (fun v L w1 hL hw1 hd => ?_) ?_
      · obtain ⟨q0, q6⟩ := HO.out _ _ hw1
        obtain ⟨b, rfl, hb, kb⟩ := hd
        have l8 : L 13 = false := hL.1
        have l7 : L 12 = true := hL.need 12 (by kernel_rfl)
        simp only [l8, Bool.false_eq_true, if_false] at kb
        refine step_store_row _ _ rfl rfl rfl kb (by rw [hY6]; exact ginfo6) (by rw [hY6]; rfl) hY1 ?_
        refine ⟨HI.out _ _ ⟨below_row q0 hb _, fun _ => l7⟩, b, rfl, hb, ?_⟩
        show Blk _ b 28 (if true = true then _ else _)
        rw [if_pos rfl]
        exact kb.row
      iterate 1
        refine ow_plain (by decide) (by decide) rfl (v := ?_) (a' := ?_) (fun L w1 hL hw1 => ?_) ?_ ?_
        rotate_left 2
        · obtain ⟨q0, q6⟩ := HO.out _ _ hw1
          go_simp
          first | (refine step_val ?_; exact ⟨HI.out _ _ ⟨q0, q6⟩, Only.refl _ _⟩)
        · simp only [Act.put, List.setIfInBounds_toArray, List.set_cons_succ, List.set_cons_zero]
          rfl
      refine ow_done ?_
      rintro v L w7 hall hS ⟨bq, rfl, hbb, kb⟩
      obtain ⟨hq, -⟩ := HO.out _ _ hS
      clear hS HI HO
      rw [if_pos (hall 13 (by omega))] at kb
      simp only [Act.put, List.setIfInBounds_toArray, List.set_cons_succ, List.set_cons_zero]
      clear vj vj0 vj1
      have k10 := kb
      replace k8 := k8.grows hq
      replace hg := below_grows hg (Nat.le_refl _) hq
      have hgi3 := below_grows hgi2 (Nat.le_refl _) hq
      clear hq hgi2 kb hbb
      generalize bq = G10 at *
      go_upto_region 16 with fail
      generalize w7 = W at *
      obtain ⟨S, HI, HO⟩ : ∃ S : Ran → (Nat → Value) → World → Prop, Hid (∀ L vs w', (Grows W w' ∧ KnS [some (.agg Y), some (.agg Y), some (.bool false), some (.bool false), some (.bool jb), some (.bool jb), some (.bool false), some (.bool false), some (.bool false), some (.slice (some ad) x.length c2), some (.int .i64 (k : Int)), some (.pointer (some (ad.add (k * 6)))), some (.agg #[.int .i64 a.k, .int .i64 a.a, .int .i64 a.q, .int .i64 a.s, .int .u64 a.d, .int .i64 a.f]), some (.slice (some ad) x.length c2), some (.int .i64 (j : Int)), some (.pointer (some (ad.add (j * 6)))), some (.agg #[.int .i64 b.k, .int .i64 b.a, .int .i64 b.q, .int .i64 b.s, .int .u64 b.d, .int .i64 b.f]), some (.bool (lessG a b)), some (.slice (some ad) x.length c2), some (.int .i64 (k : Int)), some (.pointer (some (ad.add (k * 6)))), some (.agg #[.int .i64 a.k, .int .i64 a.a, .int .i64 a.q, .int .i64 a.s, .int .u64 a.d, .int .i64 a.f]), some (.slice (some ad) x.length c2), some (.int .i64 (j : Int)), some (.pointer (some (ad.add (j * 6)))), some (.agg #[.int .i64 b.k, .int .i64 b.a, .int .i64 b.q, .int .i64 b.s, .int .u64 b.d, .int .i64 b.f]), some (.bool (lessG a b)), some (.bool false), some (.bool false)] L vs) → S L vs w') ∧ Hid (∀ L vs w', S L vs w' → (Grows W w' ∧ KnS [some (.agg Y), some (.agg Y), some (.bool false), some (.bool false), some (.bool jb), some (.bool jb), some (.bool false), some (.bool false), some (.bool false), some (.slice (some ad) x.length c2), some (.int .i64 (k : Int)), some (.pointer (some (ad.add (k * 6)))), some (.agg #[.int .i64 a.k, .int .i64 a.a, .int .i64 a.q, .int .i64 a.s, .int .u64 a.d, .int .i64 a.f]), some (.slice (some ad) x.length c2), some (.int .i64 (j : Int)), some (.pointer (some (ad.add (j * 6)))), some (.agg #[.int .i64 b.k, .int .i64 b.a, .int .i64 b.q, .int .i64 b.s, .int .u64 b.d, .int .i64 b.f]), some (.bool (lessG a b)), some (.slice (some ad) x.length c2), some (.int .i64 (k : Int)), some (.pointer (some (ad.add (k * 6)))), some (.agg #[.int .i64 a.k, .int .i64 a.a, .int .i64 a.q, .int .i64 a.s, .int .u64 a.d, .int .i64 a.f]), some (.slice (some ad) x.length c2), some (.int .i64 (j : Int)), some (.pointer (some (ad.add (j * 6)))), some (.agg #[.int .i64 b.k, .int .i64 b.a, .int .i64 b.q, .int .i64 b.s, .int .u64 b.d, .int .i64 b.f]), some (.bool (lessG a b)), some (.bool false), some (.bool false)] L vs)) := ⟨fun L vs w' => Grows W w' ∧ KnS [some (.agg Y), some (.agg Y), some (.bool false), some (.bool false), some (.bool jb), some (.bool jb), some (.bool false), some (.bool false), some (.bool false), some (.slice (some ad) x.length c2), some (.int .i64 (k : Int)), some (.pointer (some (ad.add (k * 6)))), some (.agg #[.int .i64 a.k, .int .i64 a.a, .int .i64 a.q, .int .i64 a.s, .int .u64 a.d, .int .i64 a.f]), some (.slice (some ad) x.length c2), some (.int .i64 (j : Int)), some (.pointer (some (ad.add (j * 6)))), some (.agg #[.int .i64 b.k, .int .i64 b.a, .int .i64 b.q, .int .i64 b.s, .int .u64 b.d, .int .i64 b.f]), some (.bool (lessG a b)), some (.slice (some ad) x.length c2), some (.int .i64 (k : Int)), some (.pointer (some (ad.add (k * 6)))), some (.agg #[.int .i64 a.k, .int .i64 a.a, .int .i64 a.q, .int .i64 a.s, .int .u64 a.d, .int .i64 a.f]), some (.slice (some ad) x.length c2), some (.int .i64 (j : Int)), some (.pointer (some (ad.add (j * 6)))), some (.agg #[.int .i64 b.k, .int .i64 b.a, .int .i64 b.q, .int .i64 b.s, .int .u64 b.d, .int .i64 b.f]), some (.bool (lessG a b)), some (.bool false), some (.bool false)] L vs, fun _ _ _ h => h, fun _ _ _ h => h⟩
      refine wp_region_genW S 109 (by kernel_rfl) (by kernel_rfl) rfl ?_ ?_
      · exact HI.out _ _ _ ⟨Grows.drew' _, kn_none _ _⟩
      refine gen_cons (A' := ?_) (fun vs L w1 hL hw1 => ?_) ?_ ?_
      rotate_left 1
      · obtain ⟨q0, q1⟩ := HO.out _ _ _ hw1
        refine gen_plain rfl ?_
        rw [ran_part (.tmp 8) rfl rfl (row_at (k8.grows q0)) Try.underlying28 rfl (by rw [hY6]; exact ginfo6)]
        exact gr_val (HI.out _ _ _ ⟨q0, kn_known q1 rfl⟩)
      · intro vs
        simp only [Act.put, List.setIfInBounds_toArray, List.set_cons_succ, List.set_cons_zero]
        rfl
      refine gen_cons (A' := ?_) (fun vs L w1 hL hw1 => ?_) ?_ ?_
      rotate_left 1
      · obtain ⟨q0, q1⟩ := HO.out _ _ _ hw1
        refine gen_plain rfl ?_
        rw [ran_part (.tmp 10) rfl rfl (row_at (k10.grows q0)) Try.underlying28 rfl (by rw [hY6]; exact ginfo6)]
        exact gr_val (HI.out _ _ _ ⟨q0, kn_known q1 rfl⟩)
      · intro vs
        simp only [Act.put, List.setIfInBounds_toArray, List.set_cons_succ, List.set_cons_zero]
        rfl
      refine gen_cons (A' := ?_) (fun vs L w1 hL hw1 => ?_) ?_ ?_
      rotate_left 1
      · obtain ⟨q0, q1⟩ := HO.out _ _ _ hw1
        refine gen_plain rfl ?_
        have l0 : L 0 = true := hL.need 0 (by kernel_rfl)
        have e0 := q1 0 _ rfl l0
        have l1 : L 1 = true := hL.need 1 (by kernel_rfl)
        have e1 := q1 1 _ rfl l1
        simp only [e0, e1]
        have hrb := HNQ.out w1
        refine gr_of_run (ran_bin (.tmp 66) (.tmp 67) rfl (xs := Y) (ys := Y) ?_ ?_ (by kernel_rfl) hrb) (HI.out _ _ _ ⟨q0, kn_known q1 rfl⟩)
        · first | exact e0 | (go_simp; done)
        · first | exact e1 | (go_simp; done) | (simp only [Act.eval]; exact e1)
      · intro vs
        simp only [Act.put, List.setIfInBounds_toArray, List.set_cons_succ, List.set_cons_zero]
        rfl
      refine gen_cons (A' := ?_) (fun vs L w1 hL hw1 => ?_) ?_ ?_
      rotate_left 1
      · obtain ⟨q0, q1⟩ := HO.out _ _ _ hw1
        refine gen_plain rfl ?_
        have l2 : L 2 = true := hL.need 2 (by kernel_rfl)
        have e2 := q1 2 _ rfl l2
        simp only [e2]
        go_simp
        exact gr_val (HI.out _ _ _ ⟨q0, kn_known q1 rfl⟩)
      · intro vs
        simp only [Act.put, List.setIfInBounds_toArray, List.set_cons_succ, List.set_cons_zero]
        rfl
      refine gen_cons (A' := ?_) (fun vs L w1 hL hw1 => ?_) ?_ ?_
      rotate_left 1
      · obtain ⟨q0, q1⟩ := HO.out _ _ _ hw1
        have l3 : L 3 = true := hL.need 3 (by kernel_rfl)
        have e3 := q1 3 _ rfl l3
        refine gen_yes ?_ ?_
        · simp only [e3]
          rfl
        go_simp
        exact gr_val (HI.out _ _ _ ⟨q0, kn_known q1 rfl⟩)
      · intro vs
        simp only [Act.put, List.setIfInBounds_toArray, List.set_cons_succ, List.set_cons_zero]
        rfl
      refine gen_cons (A' := ?_) (fun vs L w1 hL hw1 => ?_) ?_ ?_
      rotate_left 1
      · obtain ⟨q0, q1⟩ := HO.out _ _ _ hw1
        have l3 : L 3 = true := hL.need 3 (by kernel_rfl)
        have e3 := q1 3 _ rfl l3
        refine gen_yes ?_ ?_
        · simp only [e3]
          rfl
        go_simp
        exact gr_val (HI.out _ _ _ ⟨q0, kn_known q1 rfl⟩)
      · intro vs
        simp only [Act.put, List.setIfInBounds_toArray, List.set_cons_succ, List.set_cons_zero]
        rfl
      refine gen_cons (A' := ?_) (fun vs L w1 hL hw1 => ?_) ?_ ?_
      rotate_left 1
      · obtain ⟨q0, q1⟩ := HO.out _ _ _ hw1
        have l3 : L 3 = true := hL.need 3 (by kernel_rfl)
        have e3 := q1 3 _ rfl l3
        refine gen_yes ?_ ?_
        · simp only [e3]
          rfl
        have l4 : L 4 = true := hL.need 4 (by kernel_rfl)
        have e4 := q1 4 _ rfl l4
        have l5 : L 5 = true := hL.need 5 (by kernel_rfl)
        have e5 := q1 5 _ rfl l5
        simp only [e4, e5]
        go_simp
        exact gr_val (HI.out _ _ _ ⟨q0, kn_known q1 rfl⟩)
      · intro vs
        simp only [Act.put, List.setIfInBounds_toArray, List.set_cons_succ, List.set_cons_zero]
        rfl
      refine gen_cons (A' := ?_) (fun vs L w1 hL hw1 => ?_) ?_ ?_
      rotate_left 1
      · obtain ⟨q0, q1⟩ := HO.out _ _ _ hw1
        refine gen_plain rfl ?_
        have l3 : L 3 = true := hL.need 3 (by kernel_rfl)
        have e3 := q1 3 _ rfl l3
        have l6 : L 6 = true := hL.need 6 (by kernel_rfl)
        have e6 := q1 6 _ rfl l6
        simp only [e3, e6]
        go_simp
        exact gr_val (HI.out _ _ _ ⟨q0, kn_known q1 rfl⟩)
      · intro vs
        simp only [Act.put, List.setIfInBounds_toArray, List.set_cons_succ, List.set_cons_zero]
        rfl
      refine gen_cons (A' := ?_) (fun vs L w1 hL hw1 => ?_) ?_ ?_
      rotate_left 1
      · obtain ⟨q0, q1⟩ := HO.out _ _ _ hw1
        refine gen_plain rfl ?_
        have l7 : L 7 = true := hL.need 7 (by kernel_rfl)
        have e7 := q1 7 _ rfl l7
        simp only [e7]
        go_simp
        exact gr_val (HI.out _ _ _ ⟨q0, kn_known q1 rfl⟩)
      · intro vs
        simp only [Act.put, List.setIfInBounds_toArray, List.set_cons_succ, List.set_cons_zero]
        rfl
      refine gen_cons (A' := ?_) (fun vs L w1 hL hw1 => ?_) ?_ ?_
      rotate_left 1
      · obtain ⟨q0, q1⟩ := HO.out _ _ _ hw1
        have l8 : L 8 = true := hL.need 8 (by kernel_rfl)
        have e8 := q1 8 _ rfl l8
        refine gen_yes ?_ ?_
        · simp only [e8]
          rfl
        go_simp
        exact gr_val (HI.out _ _ _ ⟨q0, kn_known q1 rfl⟩)
      · intro vs
        simp only [Act.put, List.setIfInBounds_toArray, List.set_cons_succ, List.set_cons_zero]
        rfl
      refine gen_cons (A' := ?_) (fun vs L w1 hL hw1 => ?_) ?_ ?_
      rotate_left 1
      · obtain ⟨q0, q1⟩ := HO.out _ _ _ hw1
        have l8 : L 8 = true := hL.need 8 (by kernel_rfl)
        have e8 := q1 8 _ rfl l8
        refine gen_yes ?_ ?_
        · simp only [e8]
          rfl
        go_simp
        exact gr_val (HI.out _ _ _ ⟨q0, kn_known q1 rfl⟩)
      · intro vs
        simp only [Act.put, List.setIfInBounds_toArray, List.set_cons_succ, List.set_cons_zero]
        rfl
      refine gen_cons (A' := ?_) (fun vs L w1 hL hw1 => ?_) ?_ ?_
      rotate_left 1
      · obtain ⟨q0, q1⟩ := HO.out _ _ _ hw1
        have l8 : L 8 = true := hL.need 8 (by kernel_rfl)
        have e8 := q1 8 _ rfl l8
        refine gen_yes ?_ ?_
        · simp only [e8]
          rfl
        have l9 : L 9 = true := hL.need 9 (by kernel_rfl)
        have e9 := q1 9 _ rfl l9
        have l10 : L 10 = true := hL.need 10 (by kernel_rfl)
        have e10 := q1 10 _ rfl l10
        simp only [e9, e10]
        go_simp
        exact gr_val (HI.out _ _ _ ⟨q0, kn_known q1 rfl⟩)
      · intro vs
        simp only [Act.put, List.setIfInBounds_toArray, List.set_cons_succ, List.set_cons_zero]
        rfl
      refine gen_cons (A' := ?_) (fun vs L w1 hL hw1 => ?_) ?_ ?_
      rotate_left 1
      · obtain ⟨q0, q1⟩ := HO.out _ _ _ hw1
        have l8 : L 8 = true := hL.need 8 (by kernel_rfl)
        have e8 := q1 8 _ rfl l8
        refine gen_yes ?_ ?_
        · simp only [e8]
          rfl
        have l11 : L 11 = true := hL.need 11 (by kernel_rfl)
        have e11 := q1 11 _ rfl l11
        simp only [e11]
        obtain ⟨y0, y1, y2, y3, y4, y5⟩ := hca _ (below_grows hg (Nat.le_refl _) q0)
        go_simp
        exact gr_val (HI.out _ _ _ ⟨q0, kn_known q1 rfl⟩)
      · intro vs
        simp only [Act.put, List.setIfInBounds_toArray, List.set_cons_succ, List.set_cons_zero]
        rfl
      refine gen_cons (A' := ?_) (fun vs L w1 hL hw1 => ?_) ?_ ?_
      rotate_left 1
      · obtain ⟨q0, q1⟩ := HO.out _ _ _ hw1
        have l8 : L 8 = true := hL.need 8 (by kernel_rfl)
        have e8 := q1 8 _ rfl l8
        refine gen_yes ?_ ?_
        · simp only [e8]
          rfl
        go_simp
        exact gr_val (HI.out _ _ _ ⟨q0, kn_known q1 rfl⟩)
      · intro vs
        simp only [Act.put, List.setIfInBounds_toArray, List.set_cons_succ, List.set_cons_zero]
        rfl
      refine gen_cons (A' := ?_) (fun vs L w1 hL hw1 => ?_) ?_ ?_
      rotate_left 1
      · obtain ⟨q0, q1⟩ := HO.out _ _ _ hw1
        have l8 : L 8 = true := hL.need 8 (by kernel_rfl)
        have e8 := q1 8 _ rfl l8
        refine gen_yes ?_ ?_
        · simp only [e8]
          rfl
        go_simp
        exact gr_val (HI.out _ _ _ ⟨q0, kn_known q1 rfl⟩)
      · intro vs
        simp only [Act.put, List.setIfInBounds_toArray, List.set_cons_succ, List.set_cons_zero]
        rfl
      refine gen_cons (A' := ?_) (fun vs L w1 hL hw1 => ?_) ?_ ?_
      rotate_left 1
      · obtain ⟨q0, q1⟩ := HO.out _ _ _ hw1
        have l8 : L 8 = true := hL.need 8 (by kernel_rfl)
        have e8 := q1 8 _ rfl l8
        refine gen_yes ?_ ?_
        · simp only [e8]
          rfl
        have l13 : L 13 = true := hL.need 13 (by kernel_rfl)
        have e13 := q1 13 _ rfl l13
        have l14 : L 14 = true := hL.need 14 (by kernel_rfl)
        have e14 := q1 14 _ rfl l14
        simp only [e13, e14]
        go_simp
        exact gr_val (HI.out _ _ _ ⟨q0, kn_known q1 rfl⟩)
      · intro vs
        simp only [Act.put, List.setIfInBounds_toArray, List.set_cons_succ, List.set_cons_zero]
        rfl
      refine gen_cons (A' := ?_) (fun vs L w1 hL hw1 => ?_) ?_ ?_
      rotate_left 1
      · obtain ⟨q0, q1⟩ := HO.out _ _ _ hw1
        have l8 : L 8 = true := hL.need 8 (by kernel_rfl)
        have e8 := q1 8 _ rfl l8
        refine gen_yes ?_ ?_
        · simp only [e8]
          rfl
        have l15 : L 15 = true := hL.need 15 (by kernel_rfl)
        have e15 := q1 15 _ rfl l15
        simp only [e15]
        obtain ⟨y0, y1, y2, y3, y4, y5⟩ := hcb _ (below_grows hg (Nat.le_refl _) q0)
        go_simp
        exact gr_val (HI.out _ _ _ ⟨q0, kn_known q1 rfl⟩)
      · intro vs
        simp only [Act.put, List.setIfInBounds_toArray, List.set_cons_succ, List.set_cons_zero]
        rfl
      refine gen_cons (A' := ?_) (fun vs L w1 hL hw1 => ?_) ?_ ?_
      rotate_left 1
      · obtain ⟨q0, q1⟩ := HO.out _ _ _ hw1
        have l8 : L 8 = true := hL.need 8 (by kernel_rfl)
        have e8 := q1 8 _ rfl l8
        refine gen_yes ?_ ?_
        · simp only [e8]
          rfl
        have l12 : L 12 = true := hL.need 12 (by kernel_rfl)
        have e12 := q1 12 _ rfl l12
        have l16 : L 16 = true := hL.need 16 (by kernel_rfl)
        have e16 := q1 16 _ rfl l16
        simp only [e12, e16]
        go_simp
        refine gr_call ?_
        refine (less_is a b w1 rfl).mono ?_
        rintro e w2 ⟨rfl, hg⟩
        exact ⟨_, rfl, HI.out _ _ _ ⟨below_grows q0 (Nat.le_refl _) hg, kn_known q1 rfl⟩⟩
      · intro vs
        simp only [Act.put, List.setIfInBounds_toArray, List.set_cons_succ, List.set_cons_zero]
        rfl
      refine gen_cons (A' := ?_) (fun vs L w1 hL hw1 => ?_) ?_ ?_
      rotate_left 1
      · obtain ⟨q0, q1⟩ := HO.out _ _ _ hw1
        have l8 : L 8 = true := hL.need 8 (by kernel_rfl)
        have e8 := q1 8 _ rfl l8
        refine gen_yes ?_ ?_
        · simp only [e8]
          rfl
        go_simp
        exact gr_val (HI.out _ _ _ ⟨q0, kn_known q1 rfl⟩)
      · intro vs
        simp only [Act.put, List.setIfInBounds_toArray, List.set_cons_succ, List.set_cons_zero]
        rfl
      refine gen_cons (A' := ?_) (fun vs L w1 hL hw1 => ?_) ?_ ?_
      rotate_left 1
      · obtain ⟨q0, q1⟩ := HO.out _ _ _ hw1
        have l8 : L 8 = true := hL.need 8 (by kernel_rfl)
        have e8 := q1 8 _ rfl l8
        refine gen_yes ?_ ?_
        · simp only [e8]
          rfl
        go_simp
        exact gr_val (HI.out _ _ _ ⟨q0, kn_known q1 rfl⟩)
      · intro vs
        simp only [Act.put, List.setIfInBounds_toArray, List.set_cons_succ, List.set_cons_zero]
        rfl
      refine gen_cons (A' := ?_) (fun vs L w1 hL hw1 => ?_) ?_ ?_
      rotate_left 1
      · obtain ⟨q0, q1⟩ := HO.out _ _ _ hw1
        have l8 : L 8 = true := hL.need 8 (by kernel_rfl)
        have e8 := q1 8 _ rfl l8
        refine gen_yes ?_ ?_
        · simp only [e8]
          rfl
        have l18 : L 18 = true := hL.need 18 (by kernel_rfl)
        have e18 := q1 18 _ rfl l18
        have l19 : L 19 = true := hL.need 19 (by kernel_rfl)
        have e19 := q1 19 _ rfl l19
        simp only [e18, e19]
        go_simp
        exact gr_val (HI.out _ _ _ ⟨q0, kn_known q1 rfl⟩)
      · intro vs
        simp only [Act.put, List.setIfInBounds_toArray, List.set_cons_succ, List.set_cons_zero]
        rfl
      refine gen_cons (A' := ?_) (fun vs L w1 hL hw1 => ?_) ?_ ?_
      rotate_left 1
      · obtain ⟨q0, q1⟩ := HO.out _ _ _ hw1
        have l8 : L 8 = true := hL.need 8 (by kernel_rfl)
        have e8 := q1 8 _ rfl l8
        refine gen_yes ?_ ?_
        · simp only [e8]
          rfl
        have l20 : L 20 = true := hL.need 20 (by kernel_rfl)
        have e20 := q1 20 _ rfl l20
        simp only [e20]
        obtain ⟨y0, y1, y2, y3, y4, y5⟩ := hca _ (below_grows hg (Nat.le_refl _) q0)
        go_simp
        exact gr_val (HI.out _ _ _ ⟨q0, kn_known q1 rfl⟩)
      · intro vs
        simp only [Act.put, List.setIfInBounds_toArray, List.set_cons_succ, List.set_cons_zero]
        rfl
      refine gen_cons (A' := ?_) (fun vs L w1 hL hw1 => ?_) ?_ ?_
      rotate_left 1
      · obtain ⟨q0, q1⟩ := HO.out _ _ _ hw1
        have l8 : L 8 = true := hL.need 8 (by kernel_rfl)
        have e8 := q1 8 _ rfl l8
        refine gen_yes ?_ ?_
        · simp only [e8]
          rfl
        go_simp
        exact gr_val (HI.out _ _ _ ⟨q0, kn_known q1 rfl⟩)
      · intro vs
        simp only [Act.put, List.setIfInBounds_toArray, List.set_cons_succ, List.set_cons_zero]
        rfl
      refine gen_cons (A' := ?_) (fun vs L w1 hL hw1 => ?_) ?_ ?_
      rotate_left 1
      · obtain ⟨q0, q1⟩ := HO.out _ _ _ hw1
        have l8 : L 8 = true := hL.need 8 (by kernel_rfl)
        have e8 := q1 8 _ rfl l8
        refine gen_yes ?_ ?_
        · simp only [e8]
          rfl
        go_simp
        exact gr_val (HI.out _ _ _ ⟨q0, kn_known q1 rfl⟩)
      · intro vs
        simp only [Act.put, List.setIfInBounds_toArray, List.set_cons_succ, List.set_cons_zero]
        rfl
      refine gen_cons (A' := ?_) (fun vs L w1 hL hw1 => ?_) ?_ ?_
      rotate_left 1
      · obtain ⟨q0, q1⟩ := HO.out _ _ _ hw1
        have l8 : L 8 = true := hL.need 8 (by kernel_rfl)
        have e8 := q1 8 _ rfl l8
        refine gen_yes ?_ ?_
        · simp only [e8]
          rfl
        have l22 : L 22 = true := hL.need 22 (by kernel_rfl)
        have e22 := q1 22 _ rfl l22
        have l23 : L 23 = true := hL.need 23 (by kernel_rfl)
        have e23 := q1 23 _ rfl l23
        simp only [e22, e23]
        go_simp
        exact gr_val (HI.out _ _ _ ⟨q0, kn_known q1 rfl⟩)
      · intro vs
        simp only [Act.put, List.setIfInBounds_toArray, List.set_cons_succ, List.set_cons_zero]
        rfl
      refine gen_cons (A' := ?_) (fun vs L w1 hL hw1 => ?_) ?_ ?_
      rotate_left 1
      · obtain ⟨q0, q1⟩ := HO.out _ _ _ hw1
        have l8 : L 8 = true := hL.need 8 (by kernel_rfl)
        have e8 := q1 8 _ rfl l8
        refine gen_yes ?_ ?_
        · simp only [e8]
          rfl
        have l24 : L 24 = true := hL.need 24 (by kernel_rfl)
        have e24 := q1 24 _ rfl l24
        simp only [e24]
        obtain ⟨y0, y1, y2, y3, y4, y5⟩ := hcb _ (below_grows hg (Nat.le_refl _) q0)
        go_simp
        exact gr_val (HI.out _ _ _ ⟨q0, kn_known q1 rfl⟩)
      · intro vs
        simp only [Act.put, List.setIfInBounds_toArray, List.set_cons_succ, List.set_cons_zero]
        rfl
      refine gen_cons (A' := ?_) (fun vs L w1 hL hw1 => ?_) ?_ ?_
      rotate_left 1
      · obtain ⟨q0, q1⟩ := HO.out _ _ _ hw1
        have l8 : L 8 = true := hL.need 8 (by kernel_rfl)
        have e8 := q1 8 _ rfl l8
        refine gen_yes ?_ ?_
        · simp only [e8]
          rfl
        have l21 : L 21 = true := hL.need 21 (by kernel_rfl)
        have e21 := q1 21 _ rfl l21
        have l25 : L 25 = true := hL.need 25 (by kernel_rfl)
        have e25 := q1 25 _ rfl l25
        simp only [e21, e25]
        go_simp
        refine gr_call ?_
        refine (rless_is a b w1 rfl).mono ?_
        rintro e w2 ⟨rfl, hg⟩
        exact ⟨_, rfl, HI.out _ _ _ ⟨below_grows q0 (Nat.le_refl _) hg, kn_known q1 rfl⟩⟩
      · intro vs
        simp only [Act.put, List.setIfInBounds_toArray, List.set_cons_succ, List.set_cons_zero]
        rfl
      refine gen_cons (A' := ?_) (fun vs L w1 hL hw1 => ?_) ?_ ?_
      rotate_left 1
      · obtain ⟨q0, q1⟩ := HO.out _ _ _ hw1
        have l8 : L 8 = true := hL.need 8 (by kernel_rfl)
        have e8 := q1 8 _ rfl l8
        refine gen_yes ?_ ?_
        · simp only [e8]
          rfl
        have l17 : L 17 = true := hL.need 17 (by kernel_rfl)
        have e17 := q1 17 _ rfl l17
        have l26 : L 26 = true := hL.need 26 (by kernel_rfl)
        have e26 := q1 26 _ rfl l26
        simp only [e17, e26]
        go_simp
        exact gr_val (HI.out _ _ _ ⟨q0, kn_known q1 rfl⟩)
      · intro vs
        simp only [Act.put, List.setIfInBounds_toArray, List.set_cons_succ, List.set_cons_zero]
        rfl
      refine gen_cons (A' := ?_) (fun vs L w1 hL hw1 => ?_) ?_ ?_
      rotate_left 1
      · obtain ⟨q0, q1⟩ := HO.out _ _ _ hw1
        refine gen_plain rfl ?_
        have l8 : L 8 = true := hL.need 8 (by kernel_rfl)
        have e8 := q1 8 _ rfl l8
        have l27 : L 27 = true := hL.need 27 (by kernel_rfl)
        have e27 := q1 27 _ rfl l27
        simp only [e8, e27]
        go_simp
        exact gr_val (HI.out _ _ _ ⟨q0, kn_known q1 rfl⟩)
      · intro vs
        simp only [Act.put, List.setIfInBounds_toArray, List.set_cons_succ, List.set_cons_zero]
        rfl
      refine gen_nil ?_
      intro vs L W6 hall hS
      obtain ⟨hq, q1⟩ := HO.out _ _ _ hS
      have eX28 := q1 28 _ rfl (hall 28 (by simp))
      clear hall hS HI HO q1
      simp only [eX28]
      replace hgi3 := below_grows hgi3 (Nat.le_refl _) hq
      clear hq k8 k10
      go_wp2
      go_roundw
      case rel => exact ⟨j + 1, by omega, by go_num, hgi3⟩
      case measure => simp [intOf]; omega
end GlitchOrders
namespace GlitchOrders
theorem contract (H : Type) (enc : TypeId × Value → H) (W : World) (base : Nat) (args : Array Value) (ds gs : List (DataW H)) (before : List MemPlace)
    (hval0 : ∀ (j : Nat) t v, Try.f4.params[j]? = some t → args[j]? = some v → Value.okWide Try.prog W .any base t v)
    (hW : DataW.Whole enc Try.prog Try.f4.params.toList Rows.glitchOrdersSpec.vars false W args.toList ds gs before)
    (hsz0 : (DataW.weightsEach Try.prog (Try.f4.params.toList ++ Rows.glitchOrdersSpec.plain.varTypes Try.prog) (ds ++ gs)).all (· ≤ reachBytes) = true) :
    Calls Try.prog 4 args W fun e W' => ∃ v, e = .returned v ∧ Rows.glitchOrdersSpec.post enc Try.prog Try.f4 false true false false W args v W' := by
  have key : Calls Try.prog 4 args W fun e W' => e = .returned (.bool true) ∧ Below W.heap.size W W' := by
    have hval : ∀ (j : Nat) t v, Try.f4.params[j]? = some t → args[j]? = some v → Value.okWide Try.prog W .any base t v := hval0
    obtain ⟨p, q, hA0, hV, hbe, hfz, hnd⟩ := hW
    have hA : DataW.TrodAll enc Try.prog W 0 (fun _ => true) true Try.f4.params.toList args.toList ds p := hA0
    rw [Try.params4] at hA hval
    clear hA0 hval0
    obtain ⟨v0, vs0, d0, ds0, p0, q0, hargs, rfl, rfl, h0, r0⟩ := trodAll_cons hA
    obtain ⟨v1, vs1, d1, ds1, p1, q1, rfl, rfl, rfl, h1, r1⟩ := trodAll_cons r0
    obtain ⟨rfl, rfl, rfl⟩ := trodAll_nil r1
    obtain rfl : args = #[v0, v1] := by cases args; simp_all
    obtain ⟨rfl, rfl⟩ := trodVars_none hV
    have hsz : (DataW.weightsEach Try.prog (Try.f4.params.toList ++ Rows.glitchOrdersSpec.plain.varTypes Try.prog) ([d0, d1] ++ [])).all (· ≤ reachBytes) = true := hsz0
    rw [Try.params4] at hsz
    clear hsz0
    obtain ⟨A, c, l, rfl, hI0, hl0, _⟩ := open_slice_ints Try.underlying22 Try.underlying3 (by kernel_rfl) (hval 0 22 v0 rfl rfl) h0
    obtain ⟨A2, c2, raw, rfl, hI1, hl1, hw1⟩ := open_glitches (hval 1 24 v1 rfl rfl) h1
    exact GlitchOrders.walk A c l A2 c2 raw W hI0 hl0 hI1 hl1 hw1
  refine key.mono fun e W' ⟨he, hb⟩ => ⟨_, he, law_post laid_out hW ?_ rfl (by kernel_rfl) Try.underlying4 ?_ hb⟩
  · rw [Try.params4]
    intro t ht
    simp only [List.mem_cons, List.not_mem_nil, or_false] at ht
    rcases ht with rfl | rfl <;> exact ⟨by kernel_rfl, of_decide_eq_true (by kernel_rfl)⟩
  · rw [Try.params4]
    intro ds hl
    match ds, hl with
    | [_, _], _ => rfl

set_option maxRecDepth 100000 in
theorem lifted (os : Os) (started : os.Started) (H : Type) (enc : TypeId × Value → H) :
    ReturnsInHanded {} Try.checked os 4 .any (Rows.glitchOrdersSpec.pre6 enc Try.prog Try.f4 Rows.glitchOrdersRow.domain false) (Rows.glitchOrdersSpec.post enc Try.prog Try.f4 false true false false) := by
  refine returnsInHanded_of_change_sized (C := Try.checked) own_knob started (by kernel_rfl) Try.func4
    (ChangeSpec.witness6 (enc := enc) (C := Try.checked) false ⟨#[], #[.slice none 0 0, .slice none 0 0], []⟩ 8 (by kernel_rfl) (by kernel_rfl) (by kernel_rfl) (by kernel_rfl)) ?_
  intro W base args ds gs before hval0 hW _ hsz0 _
  exact contract H enc W base args ds gs before hval0 hW hsz0

theorem over : Rows.glitchOrdersRow.holds Try.pinned (OpenSpec.ofChange Rows.glitchOrdersSpec) :=
  OpenClaim.holds_of_wide 4 Try.f4 rfl rfl rfl rfl rfl rfl rfl ⟨rfl, rfl, rfl, rfl, rfl⟩ rfl rfl rfl rfl rfl (by kernel_rfl) Try.func4 (by kernel_rfl)
    (of_decide_eq_true (by kernel_rfl)) (by unfold Func.isWrapper; first | (rw [if_pos (by decide +kernel)]; kernel_rfl) | (rw [if_neg (by decide +kernel)]; exact ⟨rfl, rfl⟩))
    (fun os started H enc _ => lifted os started H enc)

/-- The given statement. -/
theorem proved : Rows.GlitchOrdersSaid := over
end GlitchOrders
#print axioms GlitchOrders.proved
end Go.Proofs.Ytbmoiokpkcaccaa
