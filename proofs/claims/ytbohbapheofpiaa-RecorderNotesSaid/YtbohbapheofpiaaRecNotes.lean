/-
  RecorderNotes, for every input: the law returns true, and each argument reads behind the call as it read before. No condition.
-/
import Derived.Test.YtbohbapheofpiaaRgK
import Derived.Test.YtbohbapheofpiaaGlO
import Derived.Test.YtbohbapheofpiaaSlice
namespace Go.Proofs.Ytbohbapheofpiaa
open Go.ChangeShapes Go.WideShapes Go.ChangeAt Go.RowKit
set_option maxRecDepth 100000
theorem open_glitch {H : Type} {enc : TypeId × Value → H} {w : World} {r : Reach} {b0 : Nat} {v : Value} {d : DataW H} {p : List MemPlace} (hv : Value.okWide Try.prog w r b0 43 v) (h : DataW.Trod enc Try.prog w 0 (fun _ => true) true 43 v d p) : ∃ g : Gl, v = .agg g.cs := by
  obtain ⟨cs, rfl, _⟩ := okWide_struct Try.underlying43 hv
  obtain ⟨fuel, hf⟩ := h
  obtain ⟨g, hg⟩ := glitch_of hf
  exact ⟨g, congrArg Value.agg (gls_cs g cs hg)⟩
namespace RecorderNotes
set_option maxHeartbeats 16000000 in
theorem walk (A : Option Addr) (cp : Nat) (l : List Int) (Am0 : Option Addr) (cpm : Nat) (lm : List Int) (R0 : Rec) (A0 : Option Addr) (cp0 : Nat) (g : Gl) (n lim : Int) (w : World) (hI : Ints w A l) (hl : l.length ≤ 9223372036854775807) (hM : Ints w Am0 lm) (hml : lm.length ≤ 9223372036854775807)
    (hraw : Gls w A0 R0.l) (hl0 : R0.l.length ≤ 9223372036854775807) (hn : -9223372036854775808 ≤ n ∧ n ≤ 9223372036854775807) :
    Calls Try.prog 5 #[.slice A l.length cp, .slice Am0 lm.length cpm, .agg (rcV R0.lim (.slice A0 R0.l.length cp0) R0.c R0.fr R0.b), .agg g.cs, .int .i64 n, .int .i64 lim] w fun e w' => e = .returned (.bool true) ∧ Below w.heap.size w w' := by
  have k6 := (Blk.new w 28 (rcV R0.lim (.slice A0 R0.l.length cp0) R0.c R0.fr R0.b)).alloc (Obj.cells g.cs 43)
  have k7 := blk_new_at (X := w.alloc (Obj.cells (rcV R0.lim (.slice A0 R0.l.length cp0) R0.c R0.fr R0.b) 28)) (n := w.heap.size + 1) (t := 43) (cs := g.cs) (by simp)
  have hB := ((Below.refl w.heap.size w).alloc (Nat.le_refl _) (Obj.cells (rcV R0.lim (.slice A0 R0.l.length cp0) R0.c R0.fr R0.b) 28)).alloc (by simp) (Obj.cells g.cs 43)
  go_enter Try.func5, Try.ntmps5
  go_upto_region 1 with fail
  generalize World.alloc (World.alloc w _) _ = w1 at *
  go_wp2_with fail
  refine (sane_any _).mono ?_
  rintro e w2 ⟨rfl, hq⟩
  replace k6 := k6.grows hq
  replace k7 := k7.grows hq
  replace hB := below_grows hB (Nat.le_refl _) hq
  clear hq
  have x1 := k6.cell 1
  rw [rcV_1] at x1
  by_cases h10 : 10 < R0.l.length
  · go_wp2
    go_ret
    exact ⟨rfl, hB⟩
  have hl10 : R0.l.length ≤ 10 := by omega
  go_upto_region 5 with fail
  clear x1 h10
  refine wp_region_lit ?_
  iterate 1
    refine wpList_plain rfl (fun K hK => ?_)
    go_simp
    refine hK _ _ ?_
    clear hK K
  refine wpList_plain rfl (fun K hK => ?_)
  go_simp
  refine (made_any A cp l _ (hI.grows hB) hl).mono ?_
  rintro e WW ⟨⟨Rm, v, rfl, ⟨Am, cm, rfl, hglm⟩, hlen⟩, hq⟩
  refine hK _ _ ?_
  clear hK K
  replace k6 := k6.grows hq
  replace k7 := k7.grows hq
  replace hB := below_grows hB (Nat.le_refl _) hq
  clear hq
  iterate 1
    refine wpList_plain rfl (fun K hK => ?_)
    go_simp
    refine hK _ _ ?_
    clear hK K
  have k13 := Blk.new WW 28 #[.int .i64 0, .slice none 0 0, .int .i64 0, .int .i64 0, .int .i64 0, .int .i64 0, .int .i64 0, .int .i64 0, .int .i64 0, .int .i64 0, .int .i64 0, .int .i64 0, .int .i64 0, .int .i64 0, .int .i64 0, .int .i64 0, .int .i64 0, .int .i64 0, .int .i64 0, .int .i64 0, .int .i64 0, .int .i64 0, .int .i64 0, .int .i64 0, .int .i64 0, .int .i64 0, .int .i64 0, .int .i64 0, .int .i64 0, .int .i64 0, .int .i64 0, .int .i64 0]
  have hgr : Grows WW ((WW.alloc (Obj.cells #[.int .i64 0, .slice none 0 0, .int .i64 0, .int .i64 0, .int .i64 0, .int .i64 0, .int .i64 0, .int .i64 0, .int .i64 0, .int .i64 0, .int .i64 0, .int .i64 0, .int .i64 0, .int .i64 0, .int .i64 0, .int .i64 0, .int .i64 0, .int .i64 0, .int .i64 0, .int .i64 0, .int .i64 0, .int .i64 0, .int .i64 0, .int .i64 0, .int .i64 0, .int .i64 0, .int .i64 0, .int .i64 0, .int .i64 0, .int .i64 0, .int .i64 0, .int .i64 0] 28)).setRow WW.heap.size (rcV Rm.lim (.slice Am Rm.l.length cm) Rm.c Rm.fr Rm.b)) := below_row ((Below.refl WW.heap.size WW).alloc (Nat.le_refl _) _) (Nat.le_refl _) _
  refine wpList_store_row (cs := (rcV Rm.lim (.slice Am Rm.l.length cm) Rm.c Rm.fr Rm.b)) rfl _ _ rfl rfl rfl rfl k13 (rcV_info _ _ _ _ _) rfl (rcV_one _ _ _ _ _ _ _) ?_
  replace k13 := k13.row (cs := (rcV Rm.lim (.slice Am Rm.l.length cm) Rm.c Rm.fr Rm.b))
  replace k6 := k6.grows hgr
  replace k7 := k7.grows hgr
  replace hglm := hglm.grows hgr
  replace hB := below_grows hB (Nat.le_refl _) hgr
  clear hgr
  generalize World.setRow _ _ _ = w3 at *
  generalize WW.heap.size = G13 at *
  clear WW
  go_upto_region 6 with fail
  refine wp_region_lit ?_
  refine wpList_load_row rfl _ rfl rfl k13 Try.underlying28 rfl (rcV_info _ _ _ _ _) ?_
  refine wpList_load_row rfl _ rfl rfl k6 Try.underlying28 rfl (rcV_info _ _ _ _ _) ?_
  refine wpList_ranw (w' := w3.alloc (Obj.cells (rc2 Rm.lim (.slice Am Rm.l.length cm) Rm.c Rm.fr Rm.b R0.lim (.slice A0 R0.l.length cp0) R0.c R0.fr R0.b) 28)) (u := .slice (some ⟨w3.heap.size, 0, none⟩) 2 2) rfl ?_ ?_
  · simp only [rcV, rc2]
    go_simp
  have kb := Blk.new w3 28 (rc2 Rm.lim (.slice Am Rm.l.length cm) Rm.c Rm.fr Rm.b R0.lim (.slice A0 R0.l.length cp0) R0.c R0.fr R0.b)
  have hq : Grows w3 (w3.alloc (Obj.cells (rc2 Rm.lim (.slice Am Rm.l.length cm) Rm.c Rm.fr Rm.b R0.lim (.slice A0 R0.l.length cp0) R0.c R0.fr R0.b) 28)) := (Below.refl _ _).alloc (Nat.le_refl _) _
  replace k7 := k7.grows hq
  replace hglm := hglm.grows hq
  replace hB := below_grows hB (Nat.le_refl _) hq
  clear hq k6 k13
  generalize w3.heap.size = gb at *
  generalize World.alloc w3 _ = W at *
  clear w3
  generalize Value.agg (rcV Rm.lim (.slice Am Rm.l.length cm) Rm.c Rm.fr Rm.b) = v40
  generalize Value.agg (rcV R0.lim (.slice A0 R0.l.length cp0) R0.c R0.fr R0.b) = v41
  have hgl0 := hraw.grows hB
  replace hM := hM.grows hB
  clear hraw hI
  go_upto_region 7 with fail
  go_loopw [44] (fun i wr => ∃ k : Nat, k ≤ 2 ∧ i = .int .i64 k ∧ Grows W wr) (fun i _ => 2 - (intOf i).toNat)
  case atStart => exact ⟨0, by omega, rfl, Below.refl _ _⟩
  case round =>
    obtain ⟨k, hk, rfl, hg⟩ := hrel
    by_cases hlt : k < 2
    · obtain ⟨R, A1, cp1, hcl, hgl, hlR⟩ : ∃ (R : Rec) (A1 : Option Addr) (cp1 : Nat), (∀ j u, ((rcV R.lim (.slice A1 R.l.length cp1) R.c R.fr R.b) : Array Value)[j]? = some u → ((rc2 Rm.lim (.slice Am Rm.l.length cm) Rm.c Rm.fr Rm.b R0.lim (.slice A0 R0.l.length cp0) R0.c R0.fr R0.b) : Array Value)[k * 32 + j]? = some u) ∧ Gls wr A1 R.l ∧ R.l.length ≤ 14 := by
        match k, hlt with
        | 0, _ => exact ⟨Rm, Am, cm, fun j u h => by rw [Nat.zero_mul, Nat.zero_add]; exact rc2_lo _ _ _ _ _ _ _ _ _ _ j u h, hglm.grows hg, hlen⟩
        | 1, _ => exact ⟨R0, A0, cp0, fun j u h => by rw [Nat.one_mul]; exact rc2_hi _ _ _ _ _ _ _ _ _ _ j u h, hgl0.grows hg, by omega⟩
      have hpart := part_at (kb.grows hg) (k * 32) hcl
      clear hcl kb hglm hgl0 hlen hB hl hl0 hl10
      go_upto_region 8 with fail
      refine wp_region_lit ?_
      iterate 1
        refine wpList_plain rfl (fun K hK => ?_)
        go_simp
        refine hK _ _ ?_
        clear hK K
      refine wpList_load_part rfl _ rfl rfl hpart Try.underlying28 rfl (rcV_info _ _ _ _ _) ?_
      iterate 1
        refine wpList_plain rfl (fun K hK => ?_)
        go_simp
        refine hK _ _ ?_
        clear hK K
      have k12 := Blk.new wr 28 #[.int .i64 0, .slice none 0 0, .int .i64 0, .int .i64 0, .int .i64 0, .int .i64 0, .int .i64 0, .int .i64 0, .int .i64 0, .int .i64 0, .int .i64 0, .int .i64 0, .int .i64 0, .int .i64 0, .int .i64 0, .int .i64 0, .int .i64 0, .int .i64 0, .int .i64 0, .int .i64 0, .int .i64 0, .int .i64 0, .int .i64 0, .int .i64 0, .int .i64 0, .int .i64 0, .int .i64 0, .int .i64 0, .int .i64 0, .int .i64 0, .int .i64 0, .int .i64 0]
      have hgr : Grows wr ((wr.alloc (Obj.cells #[.int .i64 0, .slice none 0 0, .int .i64 0, .int .i64 0, .int .i64 0, .int .i64 0, .int .i64 0, .int .i64 0, .int .i64 0, .int .i64 0, .int .i64 0, .int .i64 0, .int .i64 0, .int .i64 0, .int .i64 0, .int .i64 0, .int .i64 0, .int .i64 0, .int .i64 0, .int .i64 0, .int .i64 0, .int .i64 0, .int .i64 0, .int .i64 0, .int .i64 0, .int .i64 0, .int .i64 0, .int .i64 0, .int .i64 0, .int .i64 0, .int .i64 0, .int .i64 0] 28)).setRow wr.heap.size (rcV R.lim (.slice A1 R.l.length cp1) R.c R.fr R.b)) := below_row ((Below.refl wr.heap.size wr).alloc (Nat.le_refl _) _) (Nat.le_refl _) _
      refine wpList_store_row (cs := (rcV R.lim (.slice A1 R.l.length cp1) R.c R.fr R.b)) rfl _ _ rfl rfl rfl rfl k12 (rcV_info _ _ _ _ _) rfl (rcV_one _ _ _ _ _ _ _) ?_
      replace k12 := k12.row (cs := (rcV R.lim (.slice A1 R.l.length cp1) R.c R.fr R.b))
      replace hgl := hgl.grows hgr
      replace hg := below_grows hg (Nat.le_refl _) hgr
      clear hgr
      generalize World.setRow _ _ _ = W2 at *
      clear hpart
      generalize wr.heap.size = G12 at *
      clear wr
      go_upto_region 9 with fail
      obtain ⟨S, HI, HO⟩ : ∃ S : Ran → (Nat → Value) → World → Prop, Hid (∀ L vs w', (Grows W2 w' ∧ KnS [some (.agg (rcV R.lim (.slice A1 R.l.length cp1) R.c R.fr R.b)), some (.bool R.ok), some (.agg (rcV R.lim (.slice A1 R.l.length cp1) R.c R.fr R.b)), some (.bool R.ok), some (.bool false)] L vs) → S L vs w') ∧ Hid (∀ L vs w', S L vs w' → (Grows W2 w' ∧ KnS [some (.agg (rcV R.lim (.slice A1 R.l.length cp1) R.c R.fr R.b)), some (.bool R.ok), some (.agg (rcV R.lim (.slice A1 R.l.length cp1) R.c R.fr R.b)), some (.bool R.ok), some (.bool false)] L vs)) := ⟨fun L vs w' => Grows W2 w' ∧ KnS [some (.agg (rcV R.lim (.slice A1 R.l.length cp1) R.c R.fr R.b)), some (.bool R.ok), some (.agg (rcV R.lim (.slice A1 R.l.length cp1) R.c R.fr R.b)), some (.bool R.ok), some (.bool false)] L vs, fun _ _ _ h => h, fun _ _ _ h => h⟩
      refine wp_region_genW S 135 (by kernel_rfl) (by kernel_rfl) rfl ?_ ?_
      · exact HI.out _ _ _ ⟨Grows.drew' _, kn_none _ _⟩
      refine gen_cons (A' := ?_) (fun vs L w1 hL hw1 => ?_) ?_ ?_
      rotate_left 1
      · obtain ⟨q0, q1⟩ := HO.out _ _ _ hw1
        refine gen_plain rfl ?_
        refine gr_load_row _ rfl rfl (k12.grows q0) Try.underlying28 rfl (rcV_info _ _ _ _ _) ?_
        exact HI.out _ _ _ ⟨q0, kn_known q1 rfl⟩
      · intro vs
        simp only [Act.put, List.setIfInBounds_toArray, List.set_cons_succ, List.set_cons_zero]
        rfl
      refine gen_cons (A' := ?_) (fun vs L w1 hL hw1 => ?_) ?_ ?_
      rotate_left 1
      · obtain ⟨q0, q1⟩ := HO.out _ _ _ hw1
        have l0 : L 0 = true := hL.need 0 (by kernel_rfl)
        have e0 := q1 0 _ rfl l0
        refine gen_plain rfl ?_
        simp only [e0]
        go_simp
        refine gr_call ?_
        refine (gvalidR R.lim R.fr A1 cp1 R.l R.c R.b w1 (hgl.grows q0) (by omega)).mono ?_
        rintro e w2 ⟨rfl, hg⟩
        exact ⟨_, rfl, HI.out _ _ _ ⟨below_grows q0 (Nat.le_refl _) hg, kn_known q1 rfl⟩⟩
      · intro vs
        simp only [Act.put, List.setIfInBounds_toArray, List.set_cons_succ, List.set_cons_zero]
        rfl
      refine gen_cons (A' := ?_) (fun vs L w1 hL hw1 => ?_) ?_ ?_
      rotate_left 1
      · obtain ⟨q0, q1⟩ := HO.out _ _ _ hw1
        refine gen_plain rfl ?_
        refine gr_load_row _ rfl rfl (k12.grows q0) Try.underlying28 rfl (rcV_info _ _ _ _ _) ?_
        exact HI.out _ _ _ ⟨q0, kn_known q1 rfl⟩
      · intro vs
        simp only [Act.put, List.setIfInBounds_toArray, List.set_cons_succ, List.set_cons_zero]
        rfl
      refine gen_cons (A' := ?_) (fun vs L w1 hL hw1 => ?_) ?_ ?_
      rotate_left 1
      · obtain ⟨q0, q1⟩ := HO.out _ _ _ hw1
        have l2 : L 2 = true := hL.need 2 (by kernel_rfl)
        have e0 := q1 2 _ rfl l2
        refine gen_plain rfl ?_
        simp only [e0]
        go_simp
        refine gr_call ?_
        refine (rvalidR R.lim R.fr A1 cp1 R.l R.c R.b w1 (hgl.grows q0) (by omega)).mono ?_
        rintro e w2 ⟨rfl, hg⟩
        exact ⟨_, rfl, HI.out _ _ _ ⟨below_grows q0 (Nat.le_refl _) hg, kn_known q1 rfl⟩⟩
      · intro vs
        simp only [Act.put, List.setIfInBounds_toArray, List.set_cons_succ, List.set_cons_zero]
        rfl
      refine gen_cons (A' := ?_) (fun vs L w1 hL hw1 => ?_) ?_ ?_
      rotate_left 1
      · obtain ⟨q0, q1⟩ := HO.out _ _ _ hw1
        have l1 : L 1 = true := hL.need 1 (by kernel_rfl)
        have l3 : L 3 = true := hL.need 3 (by kernel_rfl)
        have e1 := q1 1 _ rfl l1
        have e3 := q1 3 _ rfl l3
        refine gen_plain rfl ?_
        simp only [e1, e3]
        go_simp
        exact gr_val (HI.out _ _ _ ⟨q0, kn_known q1 rfl⟩)
      · intro vs
        simp only [Act.put, List.setIfInBounds_toArray, List.set_cons_succ, List.set_cons_zero]
        rfl
      refine gen_nil ?_
      intro vs L W3 hall hS
      obtain ⟨hq, q1⟩ := HO.out _ _ _ hS
      have e4 := q1 4 _ rfl (hall 4 (by simp))
      clear hall hS HI HO q1
      simp only [e4]
      generalize vs 0 = u0 at *
      generalize vs (0 + 1) = u1 at *
      generalize vs (0 + 1 + 1) = u2 at *
      generalize vs (0 + 1 + 1 + 1) = u3 at *
      clear vs e4
      replace k12 := k12.grows hq
      replace hgl := hgl.grows hq
      replace hg := below_grows hg (Nat.le_refl _) hq
      clear hq
      have k7 := k7.grows hg
      have hM := hM.grows hg
      go_upto_region 11 with fail
      obtain ⟨S, HI, HO⟩ : ∃ S : Ran → (Nat → Value) → World → Prop, Hid (∀ L vs w', (Grows W3 w' ∧ KnS [some (.agg g.cs), some (.slice Am0 lm.length cpm), none, some (.agg (glitchV lm 0).cs), none, some (.int .i64 2), some (.int .i64 0)] L vs ∧ (L 3 = true → L 2 = true) ∧ (L 4 = true → L 3 = true) ∧ (L 2 = true → ∃ gd, vs 2 = .pointer (some ⟨gd, 0, none⟩) ∧ W3.heap.size ≤ gd ∧ (L 3 = false → Deck w' gd Am0 cpm lm 0)) ∧ (L 4 = true → ∃ gb2, vs 4 = .slice (some ⟨gb2, 0, none⟩) 2 2 ∧ Blk w' gb2 43 (gc2 g (glitchV lm 0)))) → S L vs w') ∧ Hid (∀ L vs w', S L vs w' → (Grows W3 w' ∧ KnS [some (.agg g.cs), some (.slice Am0 lm.length cpm), none, some (.agg (glitchV lm 0).cs), none, some (.int .i64 2), some (.int .i64 0)] L vs ∧ (L 3 = true → L 2 = true) ∧ (L 4 = true → L 3 = true) ∧ (L 2 = true → ∃ gd, vs 2 = .pointer (some ⟨gd, 0, none⟩) ∧ W3.heap.size ≤ gd ∧ (L 3 = false → Deck w' gd Am0 cpm lm 0)) ∧ (L 4 = true → ∃ gb2, vs 4 = .slice (some ⟨gb2, 0, none⟩) 2 2 ∧ Blk w' gb2 43 (gc2 g (glitchV lm 0))))) := ⟨fun L vs w' => Grows W3 w' ∧ KnS [some (.agg g.cs), some (.slice Am0 lm.length cpm), none, some (.agg (glitchV lm 0).cs), none, some (.int .i64 2), some (.int .i64 0)] L vs ∧ (L 3 = true → L 2 = true) ∧ (L 4 = true → L 3 = true) ∧ (L 2 = true → ∃ gd, vs 2 = .pointer (some ⟨gd, 0, none⟩) ∧ W3.heap.size ≤ gd ∧ (L 3 = false → Deck w' gd Am0 cpm lm 0)) ∧ (L 4 = true → ∃ gb2, vs 4 = .slice (some ⟨gb2, 0, none⟩) 2 2 ∧ Blk w' gb2 43 (gc2 g (glitchV lm 0))), fun _ _ _ h => h, fun _ _ _ h => h⟩
      refine wp_region_genW S 135 (by kernel_rfl) (by kernel_rfl) rfl ?_ ?_
      · exact HI.out _ _ _ ⟨Grows.drew' _, kn_none _ _, (fun h => by cases h), (fun h => by cases h), (fun h => by cases h), (fun h => by cases h)⟩
      refine gen_cons (A' := ?_) (fun vs L w1 hL hw1 => ?_) ?_ ?_
      rotate_left 1
      · obtain ⟨q0, q1, q2, q3, q4, q5⟩ := HO.out _ _ _ hw1
        refine gen_plain rfl ?_
        refine gr_load_row _ rfl rfl (k7.grows q0) Try.underlying43 rfl ginfo6 ?_
        exact HI.out _ _ _ ⟨q0, kn_known q1 rfl, q2, q3, q4, q5⟩
      · intro vs
        simp only [Act.put, List.setIfInBounds_toArray, List.set_cons_succ, List.set_cons_zero]
        rfl
      refine gen_cons (A' := ?_) (fun vs L w1 hL hw1 => ?_) ?_ ?_
      rotate_left 1
      · obtain ⟨q0, q1, q2, q3, q4, q5⟩ := HO.out _ _ _ hw1
        refine gen_plain rfl ?_
        go_simp
        exact gr_val (HI.out _ _ _ ⟨q0, kn_known q1 rfl, q2, q3, q4, q5⟩)
      · intro vs
        simp only [Act.put, List.setIfInBounds_toArray, List.set_cons_succ, List.set_cons_zero]
        rfl
      refine gen_cons (A' := ?_) (fun vs L w1 hL hw1 => ?_) ?_ ?_
      rotate_left 1
      · obtain ⟨q0, q1, q2, q3, q4, q5⟩ := HO.out _ _ _ hw1
        have n2 : L 2 = false := hL.1
        have n3 : L 3 = false := by
          cases h : L 3
          · rfl
          · rw [q2 h] at n2; cases n2
        have n4 : L 4 = false := by
          cases h : L 4
          · rfl
          · rw [q3 h] at n3; cases n3
        have l1 : L 1 = true := hL.need 1 (by kernel_rfl)
        have e1 := q1 1 _ rfl l1
        refine gen_plain rfl ?_
        simp only [e1]
        go_simp
        refine gr_call ?_
        refine (new_deck Am0 cpm lm w1 (hM.grows q0) hml).mono ?_
        rintro e w2 ⟨rfl, hd, hg⟩
        exact ⟨_, rfl, HI.out _ _ _ ⟨below_grows q0 (Nat.le_refl _) hg, kn_free q1 rfl, fun _ => rfl, q3, fun _ => ⟨_, rfl, q0.size, fun _ => hd⟩, fun h => by rw [show L 4 = true from h] at n4; cases n4⟩⟩
      · intro vs
        simp only [Act.put, List.setIfInBounds_toArray, List.set_cons_succ, List.set_cons_zero]
        rfl
      refine gen_cons (A' := ?_) (fun vs L w1 hL hw1 => ?_) ?_ ?_
      rotate_left 1
      · obtain ⟨q0, q1, q2, q3, q4, q5⟩ := HO.out _ _ _ hw1
        have n3 : L 3 = false := hL.1
        have n4 : L 4 = false := by
          cases h : L 4
          · rfl
          · rw [q3 h] at n3; cases n3
        have l2 : L 2 = true := hL.need 2 (by kernel_rfl)
        obtain ⟨gd, e2, hgd, hd⟩ := q4 l2
        replace hd := hd n3
        refine gen_plain rfl ?_
        simp only [e2]
        go_simp
        refine gr_call ?_
        refine (mglitch_any gd Am0 cpm lm 0 w1 hd).mono ?_
        rintro e w2 ⟨rfl, -, hg⟩
        exact ⟨_, rfl, HI.out _ _ _ ⟨q0.grown hg q0.size (fun q hq' => by injection hq' with hq'; omega), kn_known q1 rfl, fun _ => l2, fun _ => rfl, fun _ => ⟨gd, e2, hgd, fun h => by cases h⟩, fun h => by rw [show L 4 = true from h] at n4; cases n4⟩⟩
      · intro vs
        simp only [Act.put, List.setIfInBounds_toArray, List.set_cons_succ, List.set_cons_zero]
        rfl
      refine gen_cons (A' := ?_) (fun vs L w1 hL hw1 => ?_) ?_ ?_
      rotate_left 1
      · obtain ⟨q0, q1, q2, q3, q4, q5⟩ := HO.out _ _ _ hw1
        have l0 : L 0 = true := hL.need 0 (by kernel_rfl)
        have l3 : L 3 = true := hL.need 3 (by kernel_rfl)
        have l2 : L 2 = true := hL.need 2 (by kernel_rfl)
        have e0 := q1 0 _ rfl l0
        have e3 := q1 3 _ rfl l3
        obtain ⟨gd, e2, hgd, -⟩ := q4 l2
        refine gen_plain rfl ?_
        simp only [e0, e3, Gl.cs]
        go_simp
        exact gr_val (HI.out _ _ _ ⟨q0.alloc q0.size _, kn_free q1 rfl, q2, fun _ => l3, fun _ => ⟨gd, e2, hgd, fun h => by rw [show L 3 = false from h] at l3; cases l3⟩, fun _ => ⟨w1.heap.size, rfl, Blk.new _ _ _⟩⟩)
      · intro vs
        simp only [Act.put, List.setIfInBounds_toArray, List.set_cons_succ, List.set_cons_zero]
        rfl
      refine gen_cons (A' := ?_) (fun vs L w1 hL hw1 => ?_) ?_ ?_
      rotate_left 1
      · obtain ⟨q0, q1, q2, q3, q4, q5⟩ := HO.out _ _ _ hw1
        have l4 : L 4 = true := hL.need 4 (by kernel_rfl)
        obtain ⟨gb2, e4, hb4⟩ := q5 l4
        refine gen_plain rfl ?_
        simp only [e4]
        go_simp
        exact gr_val (HI.out _ _ _ ⟨q0, kn_known q1 rfl, q2, q3, q4, q5⟩)
      · intro vs
        simp only [Act.put, List.setIfInBounds_toArray, List.set_cons_succ, List.set_cons_zero]
        rfl
      refine gen_cons (A' := ?_) (fun vs L w1 hL hw1 => ?_) ?_ ?_
      rotate_left 1
      · obtain ⟨q0, q1, q2, q3, q4, q5⟩ := HO.out _ _ _ hw1
        refine gen_plain rfl ?_
        go_simp
        exact gr_val (HI.out _ _ _ ⟨q0, kn_known q1 rfl, q2, q3, q4, q5⟩)
      · intro vs
        simp only [Act.put, List.setIfInBounds_toArray, List.set_cons_succ, List.set_cons_zero]
        rfl
      refine gen_nil ?_
      intro vs L W4 hall hS
      obtain ⟨hq, q1, -, -, -, q5⟩ := HO.out _ _ _ hS
      obtain ⟨gb2, e4, kb2⟩ := q5 (hall 4 (by simp))
      have e5 := q1 5 _ rfl (hall 5 (by simp))
      have e6 := q1 6 _ rfl (hall 6 (by simp))
      clear hall hS HI HO q1 q5
      simp only [e4, e5, e6]
      generalize vs 0 = x0 at *
      generalize vs (0 + 1) = x1 at *
      generalize vs (0 + 1 + 1) = x2 at *
      generalize vs (0 + 1 + 1 + 1) = x3 at *
      clear vs e4 e5 e6
      replace k12 := k12.grows hq
      replace hgl := hgl.grows hq
      replace hg := below_grows hg (Nat.le_refl _) hq
      clear hq k7 hM W2 W3
      go_upto_region 12 with fail
      go_loopw [59] (fun i wr => ∃ j : Nat, j ≤ 2 ∧ i = .int .i64 j ∧ Grows W4 wr) (fun i _ => 2 - (intOf i).toNat)
      case atStart => exact ⟨0, by omega, rfl, Below.refl _ _⟩
      case round =>
        obtain ⟨j, hj, rfl, hg4⟩ := hrel
        replace k12 := k12.grows hg4
        replace hgl := hgl.grows hg4
        by_cases hjt : j < 2
        · obtain ⟨y, hcl⟩ : ∃ y : Gl, ∀ i u, y.cs[i]? = some u → (gc2 g (glitchV lm 0))[j * 6 + i]? = some u := by
            match j, hjt with
            | 0, _ => exact ⟨g, fun i u h => by rw [Nat.zero_mul, Nat.zero_add]; exact gc2_lo _ _ _ _ h⟩
            | 1, _ => exact ⟨glitchV lm 0, fun i u h => by rw [Nat.one_mul]; exact gc2_hi _ _ _ _ h⟩
          have hpart := part_at (kb2.grows hg4) (j * 6) hcl
          clear hcl kb2
          go_upto_region 13 with fail
          refine wp_region_lit ?_
          iterate 1
            refine wpList_plain rfl (fun K hK => ?_)
            go_simp
            refine hK _ _ ?_
            clear hK K
          refine wpList_load_part rfl _ rfl rfl hpart Try.underlying43 rfl ginfo6 ?_
          iterate 1
            refine wpList_plain rfl (fun K hK => ?_)
            go_simp
            refine hK _ _ ?_
            clear hK K
          have k17 := Blk.new wr 43 #[.int .i64 0, .int .i64 0, .int .i64 0, .int .i64 0, .int .u64 0, .int .i64 0]
          have hgr : Grows wr ((wr.alloc (Obj.cells #[.int .i64 0, .int .i64 0, .int .i64 0, .int .i64 0, .int .u64 0, .int .i64 0] 43)).setRow wr.heap.size y.cs) := below_row ((Below.refl wr.heap.size wr).alloc (Nat.le_refl _) _) (Nat.le_refl _) _
          refine wpList_store_row (cs := y.cs) rfl _ _ rfl rfl rfl rfl k17 ginfo6 rfl (gcs_one _) ?_
          replace k17 := k17.row (cs := y.cs)
          replace k12 := k12.grows hgr
          replace hgl := hgl.grows hgr
          replace hg4 := below_grows hg4 (Nat.le_refl _) hgr
          clear hgr
          generalize World.setRow _ _ _ = W5 at *
          clear hpart
          generalize wr.heap.size = G17 at *
          obtain ⟨R2, er, hR⟩ : ∃ R2 er, noteF R y = (R2, er) := ⟨_, _, rfl⟩
          have hlen2 : R2.l.length ≤ R.l.length + 1 := by have := noteF_len R y; rw [hR] at this; exact this
          have hC1 : ∀ (w1 : World), Gls w1 A1 R.l → Calls Try.prog 21 #[.agg (rcV R.lim (.slice A1 R.l.length cp1) R.c R.fr R.b), .agg y.cs] w1 fun e w' => (∃ v', e = .returned (.tuple #[v', .int .i64 er]) ∧ RecV w' R2 v') ∧ Grows w1 w' := fun w1 h => by
            have := noteR R _ y w1 ⟨A1, cp1, rfl, h⟩ (by omega)
            rw [hR] at this
            exact this
          have hC2 : ∀ (w1 : World), Gls w1 A1 R.l → Calls Try.prog 22 #[.agg (rcV R.lim (.slice A1 R.l.length cp1) R.c R.fr R.b), .agg y.cs] w1 fun e w' => (∃ v', e = .returned (.tuple #[v', .int .i64 er]) ∧ RecV w' R2 v') ∧ Grows w1 w' := fun w1 h => by
            have := rnoteR R _ y w1 ⟨A1, cp1, rfl, h⟩ (by omega)
            rw [hR] at this
            exact this
          clear hR
          go_upto_region 14 with fail
          refine wp_region_lit ?_
          refine wpList_load_row rfl _ rfl rfl k12 Try.underlying28 rfl (rcV_info _ _ _ _ _) ?_
          refine wpList_load_row rfl _ rfl rfl k17 Try.underlying43 rfl ginfo6 ?_
          refine wpList_plain rfl (fun K hK => ?_)
          go_simp
          refine (hC1 _ hgl).mono ?_
          rintro e WW ⟨⟨v', rfl, A5, cp5, rfl, hA5⟩, hq⟩
          refine hK _ _ ?_
          clear hK K
          replace k12 := k12.grows hq
          replace k17 := k17.grows hq
          replace hgl := hgl.grows hq
          replace hg4 := below_grows hg4 (Nat.le_refl _) hq
          clear hq
          iterate 3
            refine wpList_plain rfl (fun K hK => ?_)
            go_simp
            refine hK _ _ ?_
            clear hK K
          iterate 1
            refine wpList_plain rfl (fun K hK => ?_)
            go_simp
            refine hK _ _ ?_
            clear hK K
          have k18 := Blk.new WW 28 #[.int .i64 0, .slice none 0 0, .int .i64 0, .int .i64 0, .int .i64 0, .int .i64 0, .int .i64 0, .int .i64 0, .int .i64 0, .int .i64 0, .int .i64 0, .int .i64 0, .int .i64 0, .int .i64 0, .int .i64 0, .int .i64 0, .int .i64 0, .int .i64 0, .int .i64 0, .int .i64 0, .int .i64 0, .int .i64 0, .int .i64 0, .int .i64 0, .int .i64 0, .int .i64 0, .int .i64 0, .int .i64 0, .int .i64 0, .int .i64 0, .int .i64 0, .int .i64 0]
          have hgr : Grows WW ((WW.alloc (Obj.cells #[.int .i64 0, .slice none 0 0, .int .i64 0, .int .i64 0, .int .i64 0, .int .i64 0, .int .i64 0, .int .i64 0, .int .i64 0, .int .i64 0, .int .i64 0, .int .i64 0, .int .i64 0, .int .i64 0, .int .i64 0, .int .i64 0, .int .i64 0, .int .i64 0, .int .i64 0, .int .i64 0, .int .i64 0, .int .i64 0, .int .i64 0, .int .i64 0, .int .i64 0, .int .i64 0, .int .i64 0, .int .i64 0, .int .i64 0, .int .i64 0, .int .i64 0, .int .i64 0] 28)).setRow WW.heap.size (rcV R2.lim (.slice A5 R2.l.length cp5) R2.c R2.fr R2.b)) := below_row ((Below.refl WW.heap.size WW).alloc (Nat.le_refl _) _) (Nat.le_refl _) _
          refine wpList_store_row (cs := (rcV R2.lim (.slice A5 R2.l.length cp5) R2.c R2.fr R2.b)) rfl _ _ rfl rfl rfl rfl k18 (rcV_info _ _ _ _ _) rfl (rcV_one _ _ _ _ _ _ _) ?_
          replace k18 := k18.row (cs := (rcV R2.lim (.slice A5 R2.l.length cp5) R2.c R2.fr R2.b))
          replace k12 := k12.grows hgr
          replace k17 := k17.grows hgr
          replace hgl := hgl.grows hgr
          replace hA5 := hA5.grows hgr
          replace hg4 := below_grows hg4 (Nat.le_refl _) hgr
          clear hgr
          generalize World.setRow _ _ _ = W6 at *
          generalize WW.heap.size = G18 at *
          clear WW
          go_upto_region 15 with fail
          refine wp_region_lit ?_
          refine wpList_load_row rfl _ rfl rfl k12 Try.underlying28 rfl (rcV_info _ _ _ _ _) ?_
          refine wpList_load_row rfl _ rfl rfl k17 Try.underlying43 rfl ginfo6 ?_
          refine wpList_plain rfl (fun K hK => ?_)
          go_simp
          refine (hC2 _ hgl).mono ?_
          rintro e WW ⟨⟨v', rfl, A6, cp6, rfl, hA6⟩, hq⟩
          refine hK _ _ ?_
          clear hK K
          replace k12 := k12.grows hq
          replace k17 := k17.grows hq
          replace hgl := hgl.grows hq
          replace k18 := k18.grows hq
          replace hA5 := hA5.grows hq
          replace hg4 := below_grows hg4 (Nat.le_refl _) hq
          clear hq
          iterate 3
            refine wpList_plain rfl (fun K hK => ?_)
            go_simp
            refine hK _ _ ?_
            clear hK K
          iterate 1
            refine wpList_plain rfl (fun K hK => ?_)
            go_simp
            refine hK _ _ ?_
            clear hK K
          have k20 := Blk.new WW 28 #[.int .i64 0, .slice none 0 0, .int .i64 0, .int .i64 0, .int .i64 0, .int .i64 0, .int .i64 0, .int .i64 0, .int .i64 0, .int .i64 0, .int .i64 0, .int .i64 0, .int .i64 0, .int .i64 0, .int .i64 0, .int .i64 0, .int .i64 0, .int .i64 0, .int .i64 0, .int .i64 0, .int .i64 0, .int .i64 0, .int .i64 0, .int .i64 0, .int .i64 0, .int .i64 0, .int .i64 0, .int .i64 0, .int .i64 0, .int .i64 0, .int .i64 0, .int .i64 0]
          have hgr : Grows WW ((WW.alloc (Obj.cells #[.int .i64 0, .slice none 0 0, .int .i64 0, .int .i64 0, .int .i64 0, .int .i64 0, .int .i64 0, .int .i64 0, .int .i64 0, .int .i64 0, .int .i64 0, .int .i64 0, .int .i64 0, .int .i64 0, .int .i64 0, .int .i64 0, .int .i64 0, .int .i64 0, .int .i64 0, .int .i64 0, .int .i64 0, .int .i64 0, .int .i64 0, .int .i64 0, .int .i64 0, .int .i64 0, .int .i64 0, .int .i64 0, .int .i64 0, .int .i64 0, .int .i64 0, .int .i64 0] 28)).setRow WW.heap.size (rcV R2.lim (.slice A6 R2.l.length cp6) R2.c R2.fr R2.b)) := below_row ((Below.refl WW.heap.size WW).alloc (Nat.le_refl _) _) (Nat.le_refl _) _
          refine wpList_store_row (cs := (rcV R2.lim (.slice A6 R2.l.length cp6) R2.c R2.fr R2.b)) rfl _ _ rfl rfl rfl rfl k20 (rcV_info _ _ _ _ _) rfl (rcV_one _ _ _ _ _ _ _) ?_
          replace k20 := k20.row (cs := (rcV R2.lim (.slice A6 R2.l.length cp6) R2.c R2.fr R2.b))
          replace k12 := k12.grows hgr
          replace k17 := k17.grows hgr
          replace hgl := hgl.grows hgr
          replace k18 := k18.grows hgr
          replace hA5 := hA5.grows hgr
          replace hA6 := hA6.grows hgr
          replace hg4 := below_grows hg4 (Nat.le_refl _) hgr
          clear hgr
          generalize World.setRow _ _ _ = W7 at *
          generalize WW.heap.size = G20 at *
          clear WW
          go_upto_region 16 with fail
          refine wp_region_lit ?_
          iterate 4
            refine BigFrame.wpList_want (by first | rfl | kernel_rfl) (fun K hK => ?_)
            go_simp
            refine hK _ _ ?_
            clear hK K
          refine wpList_load_rowg (by first | rfl | kernel_rfl) _ rfl rfl k18 Try.underlying28 rfl (rcV_info _ _ _ _ _) ?_
          refine wpList_load_rowg (by first | rfl | kernel_rfl) _ rfl rfl k20 Try.underlying28 rfl (rcV_info _ _ _ _ _) ?_
          refine BigFrame.wpList_want (by first | rfl | kernel_rfl) (fun K hK => ?_)
          go_simp
          refine (rsame_eq R2 _ _ _ ⟨A5, cp5, rfl, hA5⟩ ⟨A6, cp6, rfl, hA6⟩ (by omega)).mono ?_
          rintro e WW ⟨rfl, hq⟩
          refine hK _ _ ?_
          clear hK K

          replace hg4 := below_grows hg4 (Nat.le_refl _) hq
          clear hq
          go_wp2
          go_roundw
          case rel => exact ⟨j + 1, by omega, by go_num, hg4⟩
          case measure => simp [intOf]; omega
        · replace hg := below_grows hg (Nat.le_refl _) hg4
          clear hg4 kb2 hj
          go_wp2_with fail
          refine (mod_any n 3000 _ (by omega) (by omega)).mono ?_
          rintro e w2 ⟨rfl, rfl⟩
          have kb3 := Blk.new wr 3 #[.int .i64 n, .int .i64 (n % 3000)]
          have hq : Grows wr (wr.alloc (Obj.cells #[.int .i64 n, .int .i64 (n % 3000)] 3)) := (Below.refl _ _).alloc (Nat.le_refl _) _
          replace k12 := k12.grows hq
          replace hgl := hgl.grows hq
          replace hg := below_grows hg (Nat.le_refl _) hq
          clear hq
          go_upto_region 20 with fail
          generalize wr.heap.size = gb3 at *
          generalize World.alloc wr _ = W8 at *
          clear wr
          go_loopw [90] (fun i wr => ∃ j : Nat, j ≤ 2 ∧ i = .int .i64 j ∧ Grows W8 wr) (fun i _ => 2 - (intOf i).toNat)
          case atStart => exact ⟨0, by omega, rfl, Below.refl _ _⟩
          case round =>
            obtain ⟨j, hj, rfl, hg4⟩ := hrel
            replace k12 := k12.grows hg4
            replace hgl := hgl.grows hg4
            by_cases hjt : j < 2
            · obtain ⟨x, hx, hxb⟩ : ∃ x : Int, wr.cell? ⟨gb3, j, none⟩ = some (.int .i64 x) ∧ (-9223372036854775808 ≤ x ∧ x ≤ 9223372036854775807) := by
                have kb4 := kb3.grows hg4
                match j, hjt with
                | 0, _ => exact ⟨n, by rw [kb4.cell]; rfl, hn⟩
                | 1, _ => exact ⟨n % 3000, by rw [kb4.cell]; rfl, by omega⟩
              clear kb3
              go_upto_region 22 with fail
              clear hx
              obtain ⟨R2, er, hR⟩ : ∃ R2 er, measF R x = (R2, er) := ⟨_, _, rfl⟩
              have hlen2 : R2.l.length ≤ R.l.length := by have := measF_len R x; rw [hR] at this; exact this
              have hC1 : ∀ (w1 : World), Gls w1 A1 R.l → Calls Try.prog 9 #[.agg (rcV R.lim (.slice A1 R.l.length cp1) R.c R.fr R.b), .int .i64 x] w1 fun e w' => (∃ v', e = .returned (.tuple #[v', .int .i64 er]) ∧ RecV w' R2 v') ∧ Grows w1 w' := fun w1 h => by
                have := measR R _ x w1 ⟨A1, cp1, rfl, h⟩ (by omega) hxb
                rw [hR] at this
                exact this
              have hC2 : ∀ (w1 : World), Gls w1 A1 R.l → Calls Try.prog 24 #[.agg (rcV R.lim (.slice A1 R.l.length cp1) R.c R.fr R.b), .int .i64 x] w1 fun e w' => (∃ v', e = .returned (.tuple #[v', .int .i64 er]) ∧ RecV w' R2 v') ∧ Grows w1 w' := fun w1 h => by
                have := rmeasR R _ x w1 ⟨A1, cp1, rfl, h⟩ (by omega) hxb
                rw [hR] at this
                exact this
              clear hR hxb
              go_upto_region 22 with fail
              refine wp_region_lit ?_
              refine wpList_load_row rfl _ rfl rfl k12 Try.underlying28 rfl (rcV_info _ _ _ _ _) ?_
              iterate 1
                refine wpList_plain rfl (fun K hK => ?_)
                go_simp
                refine hK _ _ ?_
                clear hK K
              refine wpList_plain rfl (fun K hK => ?_)
              go_simp
              refine (hC1 _ hgl).mono ?_
              rintro e WW ⟨⟨v', rfl, A5, cp5, rfl, hA5⟩, hq⟩
              refine hK _ _ ?_
              clear hK K
              replace k12 := k12.grows hq
              replace hgl := hgl.grows hq
              replace hg4 := below_grows hg4 (Nat.le_refl _) hq
              clear hq
              iterate 3
                refine wpList_plain rfl (fun K hK => ?_)
                go_simp
                refine hK _ _ ?_
                clear hK K
              iterate 1
                refine wpList_plain rfl (fun K hK => ?_)
                go_simp
                refine hK _ _ ?_
                clear hK K
              have k18 := Blk.new WW 28 #[.int .i64 0, .slice none 0 0, .int .i64 0, .int .i64 0, .int .i64 0, .int .i64 0, .int .i64 0, .int .i64 0, .int .i64 0, .int .i64 0, .int .i64 0, .int .i64 0, .int .i64 0, .int .i64 0, .int .i64 0, .int .i64 0, .int .i64 0, .int .i64 0, .int .i64 0, .int .i64 0, .int .i64 0, .int .i64 0, .int .i64 0, .int .i64 0, .int .i64 0, .int .i64 0, .int .i64 0, .int .i64 0, .int .i64 0, .int .i64 0, .int .i64 0, .int .i64 0]
              have hgr : Grows WW ((WW.alloc (Obj.cells #[.int .i64 0, .slice none 0 0, .int .i64 0, .int .i64 0, .int .i64 0, .int .i64 0, .int .i64 0, .int .i64 0, .int .i64 0, .int .i64 0, .int .i64 0, .int .i64 0, .int .i64 0, .int .i64 0, .int .i64 0, .int .i64 0, .int .i64 0, .int .i64 0, .int .i64 0, .int .i64 0, .int .i64 0, .int .i64 0, .int .i64 0, .int .i64 0, .int .i64 0, .int .i64 0, .int .i64 0, .int .i64 0, .int .i64 0, .int .i64 0, .int .i64 0, .int .i64 0] 28)).setRow WW.heap.size (rcV R2.lim (.slice A5 R2.l.length cp5) R2.c R2.fr R2.b)) := below_row ((Below.refl WW.heap.size WW).alloc (Nat.le_refl _) _) (Nat.le_refl _) _
              refine wpList_store_row (cs := (rcV R2.lim (.slice A5 R2.l.length cp5) R2.c R2.fr R2.b)) rfl _ _ rfl rfl rfl rfl k18 (rcV_info _ _ _ _ _) rfl (rcV_one _ _ _ _ _ _ _) ?_
              replace k18 := k18.row (cs := (rcV R2.lim (.slice A5 R2.l.length cp5) R2.c R2.fr R2.b))
              replace k12 := k12.grows hgr
              replace hgl := hgl.grows hgr
              replace hA5 := hA5.grows hgr
              replace hg4 := below_grows hg4 (Nat.le_refl _) hgr
              clear hgr
              generalize World.setRow _ _ _ = W6 at *
              generalize WW.heap.size = G18 at *
              clear WW
              go_upto_region 23 with fail
              refine wp_region_lit ?_
              refine wpList_load_row rfl _ rfl rfl k12 Try.underlying28 rfl (rcV_info _ _ _ _ _) ?_
              iterate 1
                refine wpList_plain rfl (fun K hK => ?_)
                go_simp
                refine hK _ _ ?_
                clear hK K
              refine wpList_plain rfl (fun K hK => ?_)
              go_simp
              refine (hC2 _ hgl).mono ?_
              rintro e WW ⟨⟨v', rfl, A6, cp6, rfl, hA6⟩, hq⟩
              refine hK _ _ ?_
              clear hK K
              replace k12 := k12.grows hq
              replace hgl := hgl.grows hq
              replace k18 := k18.grows hq
              replace hA5 := hA5.grows hq
              replace hg4 := below_grows hg4 (Nat.le_refl _) hq
              clear hq
              iterate 3
                refine wpList_plain rfl (fun K hK => ?_)
                go_simp
                refine hK _ _ ?_
                clear hK K
              iterate 1
                refine wpList_plain rfl (fun K hK => ?_)
                go_simp
                refine hK _ _ ?_
                clear hK K
              have k20 := Blk.new WW 28 #[.int .i64 0, .slice none 0 0, .int .i64 0, .int .i64 0, .int .i64 0, .int .i64 0, .int .i64 0, .int .i64 0, .int .i64 0, .int .i64 0, .int .i64 0, .int .i64 0, .int .i64 0, .int .i64 0, .int .i64 0, .int .i64 0, .int .i64 0, .int .i64 0, .int .i64 0, .int .i64 0, .int .i64 0, .int .i64 0, .int .i64 0, .int .i64 0, .int .i64 0, .int .i64 0, .int .i64 0, .int .i64 0, .int .i64 0, .int .i64 0, .int .i64 0, .int .i64 0]
              have hgr : Grows WW ((WW.alloc (Obj.cells #[.int .i64 0, .slice none 0 0, .int .i64 0, .int .i64 0, .int .i64 0, .int .i64 0, .int .i64 0, .int .i64 0, .int .i64 0, .int .i64 0, .int .i64 0, .int .i64 0, .int .i64 0, .int .i64 0, .int .i64 0, .int .i64 0, .int .i64 0, .int .i64 0, .int .i64 0, .int .i64 0, .int .i64 0, .int .i64 0, .int .i64 0, .int .i64 0, .int .i64 0, .int .i64 0, .int .i64 0, .int .i64 0, .int .i64 0, .int .i64 0, .int .i64 0, .int .i64 0] 28)).setRow WW.heap.size (rcV R2.lim (.slice A6 R2.l.length cp6) R2.c R2.fr R2.b)) := below_row ((Below.refl WW.heap.size WW).alloc (Nat.le_refl _) _) (Nat.le_refl _) _
              refine wpList_store_row (cs := (rcV R2.lim (.slice A6 R2.l.length cp6) R2.c R2.fr R2.b)) rfl _ _ rfl rfl rfl rfl k20 (rcV_info _ _ _ _ _) rfl (rcV_one _ _ _ _ _ _ _) ?_
              replace k20 := k20.row (cs := (rcV R2.lim (.slice A6 R2.l.length cp6) R2.c R2.fr R2.b))
              replace k12 := k12.grows hgr
              replace hgl := hgl.grows hgr
              replace k18 := k18.grows hgr
              replace hA5 := hA5.grows hgr
              replace hA6 := hA6.grows hgr
              replace hg4 := below_grows hg4 (Nat.le_refl _) hgr
              clear hgr
              generalize World.setRow _ _ _ = W7 at *
              generalize WW.heap.size = G20 at *
              clear WW
              go_upto_region 24 with fail
              refine wp_region_lit ?_
              iterate 4
                refine BigFrame.wpList_want (by first | rfl | kernel_rfl) (fun K hK => ?_)
                go_simp
                refine hK _ _ ?_
                clear hK K
              refine wpList_load_rowg (by first | rfl | kernel_rfl) _ rfl rfl k18 Try.underlying28 rfl (rcV_info _ _ _ _ _) ?_
              refine wpList_load_rowg (by first | rfl | kernel_rfl) _ rfl rfl k20 Try.underlying28 rfl (rcV_info _ _ _ _ _) ?_
              refine BigFrame.wpList_want (by first | rfl | kernel_rfl) (fun K hK => ?_)
              go_simp
              refine (rsame_eq R2 _ _ _ ⟨A5, cp5, rfl, hA5⟩ ⟨A6, cp6, rfl, hA6⟩ (by omega)).mono ?_
              rintro e WW ⟨rfl, hq⟩
              refine hK _ _ ?_
              clear hK K

              replace hg4 := below_grows hg4 (Nat.le_refl _) hq
              clear hq
              go_wp2
              go_roundw
              case rel => exact ⟨j + 1, by omega, by go_num, hg4⟩
              case measure => simp [intOf]; omega
            · replace hg := below_grows hg (Nat.le_refl _) hg4
              clear hg4 kb3 hj
              go_wp2
              go_roundw
              case rel => exact ⟨k + 1, by omega, by go_num, hg⟩
              case measure => simp [intOf]; omega
    · replace hB := below_grows hB (Nat.le_refl _) hg
      clear hg kb hglm hgl0 k7 hM
      obtain ⟨R2, er, hR⟩ : ∃ R2 er, newF lim = (R2, er) := ⟨_, _, rfl⟩
      have hlen2 : R2.l.length ≤ 1000000 := by have := newF_len lim; rw [hR] at this; exact this
      have hC1 : ∀ (w1 : World), Calls Try.prog 8 #[.int .i64 lim] w1 fun e w' => (∃ v', e = .returned (.tuple #[v', .int .i64 er]) ∧ RecV w' R2 v') ∧ Grows w1 w' := fun w1 => by
        have := newR lim w1
        rw [hR] at this
        exact this
      have hC2 : ∀ (w1 : World), Calls Try.prog 25 #[.int .i64 lim] w1 fun e w' => (∃ v', e = .returned (.tuple #[v', .int .i64 er]) ∧ RecV w' R2 v') ∧ Grows w1 w' := fun w1 => by
        have := rnewR lim w1
        rw [hR] at this
        exact this
      clear hR
      go_upto_region 28 with fail
      refine wp_region_lit ?_
      iterate 1
        refine wpList_plain rfl (fun K hK => ?_)
        go_simp
        refine hK _ _ ?_
        clear hK K
      refine wpList_plain rfl (fun K hK => ?_)
      go_simp
      refine (hC1 _).mono ?_
      rintro e WW ⟨⟨v', rfl, A5, cp5, rfl, hA5⟩, hq⟩
      refine hK _ _ ?_
      clear hK K

      replace hB := below_grows hB (Nat.le_refl _) hq
      clear hq
      iterate 3
        refine wpList_plain rfl (fun K hK => ?_)
        go_simp
        refine hK _ _ ?_
        clear hK K
      iterate 1
        refine wpList_plain rfl (fun K hK => ?_)
        go_simp
        refine hK _ _ ?_
        clear hK K
      have k18 := Blk.new WW 28 #[.int .i64 0, .slice none 0 0, .int .i64 0, .int .i64 0, .int .i64 0, .int .i64 0, .int .i64 0, .int .i64 0, .int .i64 0, .int .i64 0, .int .i64 0, .int .i64 0, .int .i64 0, .int .i64 0, .int .i64 0, .int .i64 0, .int .i64 0, .int .i64 0, .int .i64 0, .int .i64 0, .int .i64 0, .int .i64 0, .int .i64 0, .int .i64 0, .int .i64 0, .int .i64 0, .int .i64 0, .int .i64 0, .int .i64 0, .int .i64 0, .int .i64 0, .int .i64 0]
      have hgr : Grows WW ((WW.alloc (Obj.cells #[.int .i64 0, .slice none 0 0, .int .i64 0, .int .i64 0, .int .i64 0, .int .i64 0, .int .i64 0, .int .i64 0, .int .i64 0, .int .i64 0, .int .i64 0, .int .i64 0, .int .i64 0, .int .i64 0, .int .i64 0, .int .i64 0, .int .i64 0, .int .i64 0, .int .i64 0, .int .i64 0, .int .i64 0, .int .i64 0, .int .i64 0, .int .i64 0, .int .i64 0, .int .i64 0, .int .i64 0, .int .i64 0, .int .i64 0, .int .i64 0, .int .i64 0, .int .i64 0] 28)).setRow WW.heap.size (rcV R2.lim (.slice A5 R2.l.length cp5) R2.c R2.fr R2.b)) := below_row ((Below.refl WW.heap.size WW).alloc (Nat.le_refl _) _) (Nat.le_refl _) _
      refine wpList_store_row (cs := (rcV R2.lim (.slice A5 R2.l.length cp5) R2.c R2.fr R2.b)) rfl _ _ rfl rfl rfl rfl k18 (rcV_info _ _ _ _ _) rfl (rcV_one _ _ _ _ _ _ _) ?_
      replace k18 := k18.row (cs := (rcV R2.lim (.slice A5 R2.l.length cp5) R2.c R2.fr R2.b))
      replace hA5 := hA5.grows hgr
      replace hB := below_grows hB (Nat.le_refl _) hgr
      clear hgr
      generalize World.setRow _ _ _ = W6 at *
      generalize WW.heap.size = G18 at *
      clear WW
      go_upto_region 29 with fail
      refine wp_region_lit ?_
      iterate 1
        refine wpList_plain rfl (fun K hK => ?_)
        go_simp
        refine hK _ _ ?_
        clear hK K
      refine wpList_plain rfl (fun K hK => ?_)
      go_simp
      refine (hC2 _).mono ?_
      rintro e WW ⟨⟨v', rfl, A6, cp6, rfl, hA6⟩, hq⟩
      refine hK _ _ ?_
      clear hK K
      replace k18 := k18.grows hq
      replace hA5 := hA5.grows hq
      replace hB := below_grows hB (Nat.le_refl _) hq
      clear hq
      iterate 3
        refine wpList_plain rfl (fun K hK => ?_)
        go_simp
        refine hK _ _ ?_
        clear hK K
      iterate 1
        refine wpList_plain rfl (fun K hK => ?_)
        go_simp
        refine hK _ _ ?_
        clear hK K
      have k20 := Blk.new WW 28 #[.int .i64 0, .slice none 0 0, .int .i64 0, .int .i64 0, .int .i64 0, .int .i64 0, .int .i64 0, .int .i64 0, .int .i64 0, .int .i64 0, .int .i64 0, .int .i64 0, .int .i64 0, .int .i64 0, .int .i64 0, .int .i64 0, .int .i64 0, .int .i64 0, .int .i64 0, .int .i64 0, .int .i64 0, .int .i64 0, .int .i64 0, .int .i64 0, .int .i64 0, .int .i64 0, .int .i64 0, .int .i64 0, .int .i64 0, .int .i64 0, .int .i64 0, .int .i64 0]
      have hgr : Grows WW ((WW.alloc (Obj.cells #[.int .i64 0, .slice none 0 0, .int .i64 0, .int .i64 0, .int .i64 0, .int .i64 0, .int .i64 0, .int .i64 0, .int .i64 0, .int .i64 0, .int .i64 0, .int .i64 0, .int .i64 0, .int .i64 0, .int .i64 0, .int .i64 0, .int .i64 0, .int .i64 0, .int .i64 0, .int .i64 0, .int .i64 0, .int .i64 0, .int .i64 0, .int .i64 0, .int .i64 0, .int .i64 0, .int .i64 0, .int .i64 0, .int .i64 0, .int .i64 0, .int .i64 0, .int .i64 0] 28)).setRow WW.heap.size (rcV R2.lim (.slice A6 R2.l.length cp6) R2.c R2.fr R2.b)) := below_row ((Below.refl WW.heap.size WW).alloc (Nat.le_refl _) _) (Nat.le_refl _) _
      refine wpList_store_row (cs := (rcV R2.lim (.slice A6 R2.l.length cp6) R2.c R2.fr R2.b)) rfl _ _ rfl rfl rfl rfl k20 (rcV_info _ _ _ _ _) rfl (rcV_one _ _ _ _ _ _ _) ?_
      replace k20 := k20.row (cs := (rcV R2.lim (.slice A6 R2.l.length cp6) R2.c R2.fr R2.b))
      replace k18 := k18.grows hgr
      replace hA5 := hA5.grows hgr
      replace hA6 := hA6.grows hgr
      replace hB := below_grows hB (Nat.le_refl _) hgr
      clear hgr
      generalize World.setRow _ _ _ = W7 at *
      generalize WW.heap.size = G20 at *
      clear WW
      go_upto_region 30 with fail
      refine wp_region_lit ?_
      iterate 4
        refine BigFrame.wpList_want (by first | rfl | kernel_rfl) (fun K hK => ?_)
        go_simp
        refine hK _ _ ?_
        clear hK K
      refine wpList_load_rowg (by first | rfl | kernel_rfl) _ rfl rfl k18 Try.underlying28 rfl (rcV_info _ _ _ _ _) ?_
      refine wpList_load_rowg (by first | rfl | kernel_rfl) _ rfl rfl k20 Try.underlying28 rfl (rcV_info _ _ _ _ _) ?_
      refine BigFrame.wpList_want (by first | rfl | kernel_rfl) (fun K hK => ?_)
      go_simp
      refine (rsame_eq R2 _ _ _ ⟨A5, cp5, rfl, hA5⟩ ⟨A6, cp6, rfl, hA6⟩ (by omega)).mono ?_
      rintro e WW ⟨rfl, hq⟩
      refine hK _ _ ?_
      clear hK K

      replace hB := below_grows hB (Nat.le_refl _) hq
      clear hq
      go_wp2
      go_ret
      exact ⟨rfl, hB⟩
end RecorderNotes
namespace RecorderNotes
theorem contract (H : Type) (enc : TypeId × Value → H) (W : World) (base : Nat) (args : Array Value) (ds gs : List (DataW H)) (before : List MemPlace)
    (hval0 : ∀ (j : Nat) t v, Try.f5.params[j]? = some t → args[j]? = some v → Value.okWide Try.prog W .any base t v)
    (hW : DataW.Whole enc Try.prog Try.f5.params.toList Rows.recorderNotesSpec.vars false W args.toList ds gs before)
    (hsz0 : (DataW.weightsEach Try.prog (Try.f5.params.toList ++ Rows.recorderNotesSpec.plain.varTypes Try.prog) (ds ++ gs)).all (· ≤ reachBytes) = true) :
    Calls Try.prog 5 args W fun e W' => ∃ v, e = .returned v ∧ Rows.recorderNotesSpec.post enc Try.prog Try.f5 false true false false W args v W' := by
  have key : Calls Try.prog 5 args W fun e W' => e = .returned (.bool true) ∧ Below W.heap.size W W' := by
    have hval : ∀ (j : Nat) t v, Try.f5.params[j]? = some t → args[j]? = some v → Value.okWide Try.prog W .any base t v := hval0
    obtain ⟨p, q, hA0, hV, hbe, hfz, hnd⟩ := hW
    have hA : DataW.TrodAll enc Try.prog W 0 (fun _ => true) true Try.f5.params.toList args.toList ds p := hA0
    rw [Try.params5] at hA hval
    clear hA0 hval0
    obtain ⟨v0, vs0, d0, ds0, p0, q0, hargs, rfl, rfl, h0, r0⟩ := trodAll_cons hA
    obtain ⟨v1, vs1, d1, ds1, p1, q1, rfl, rfl, rfl, h1, r1⟩ := trodAll_cons r0
    obtain ⟨v2, vs2, d2, ds2, p2, q2, rfl, rfl, rfl, h2, r2⟩ := trodAll_cons r1
    obtain ⟨v3, vs3, d3, ds3, p3, q3, rfl, rfl, rfl, h3, r3⟩ := trodAll_cons r2
    obtain ⟨v4, vs4, d4, ds4, p4, q4, rfl, rfl, rfl, h4, r4⟩ := trodAll_cons r3
    obtain ⟨v5, vs5, d5, ds5, p5, q5, rfl, rfl, rfl, h5, r5⟩ := trodAll_cons r4
    obtain ⟨rfl, rfl, rfl⟩ := trodAll_nil r5
    obtain rfl : args = #[v0, v1, v2, v3, v4, v5] := by cases args; simp_all
    obtain ⟨rfl, rfl⟩ := trodVars_none hV
    have hsz : (DataW.weightsEach Try.prog (Try.f5.params.toList ++ Rows.recorderNotesSpec.plain.varTypes Try.prog) ([d0, d1, d2, d3, d4, d5] ++ [])).all (· ≤ reachBytes) = true := hsz0
    rw [Try.params5] at hsz
    clear hsz0
    obtain ⟨A, cp, l, rfl, hI0, hl0, _⟩ := open_slice_ints Try.underlying22 Try.underlying3 (by kernel_rfl) (hval 0 22 v0 rfl rfl) h0
    obtain ⟨Am, cpm, lm, rfl, hI1, hl1, _⟩ := open_slice_ints Try.underlying22 Try.underlying3 (by kernel_rfl) (hval 1 22 v1 rfl rfl) h1
    obtain ⟨lim, fr, A2, cp2, l2, c, b, rfl, hgl, hl2⟩ := open_rec (hval 2 28 v2 rfl rfl) h2
    obtain ⟨g, rfl⟩ := open_glitch (hval 3 43 v3 rfl rfl) h3
    obtain ⟨a4, rfl, rfl, rfl, w4⟩ := open_int Try.underlying3 (hval 4 3 v4 rfl rfl) h4
    obtain ⟨a5, rfl, rfl, rfl, w5⟩ := open_int Try.underlying3 (hval 5 3 v5 rfl rfl) h5
    exact RecorderNotes.walk A cp l Am cpm lm ⟨lim, l2, c, fr, b⟩ A2 cp2 g a4 a5 W hI0 hl0 hI1 hl1 hgl hl2 (i64_bd w4)
  refine key.mono fun e W' ⟨he, hb⟩ => ⟨_, he, law_post laid_out hW ?_ rfl (by kernel_rfl) Try.underlying4 ?_ hb⟩
  · rw [Try.params5]
    intro t ht
    simp only [List.mem_cons, List.not_mem_nil, or_false] at ht
    rcases ht with rfl | rfl | rfl | rfl | rfl | rfl <;> exact ⟨by kernel_rfl, of_decide_eq_true (by kernel_rfl)⟩
  · rw [Try.params5]
    intro ds hl
    match ds, hl with
    | [_, _, _, _, _, _], _ => rfl

set_option maxRecDepth 100000 in
theorem lifted (os : Os) (started : os.Started) (H : Type) (enc : TypeId × Value → H) :
    ReturnsInHanded {} Try.checked os 5 .any (Rows.recorderNotesSpec.pre6 enc Try.prog Try.f5 Rows.recorderNotesRow.domain false) (Rows.recorderNotesSpec.post enc Try.prog Try.f5 false true false false) := by
  refine returnsInHanded_of_change_sized (C := Try.checked) own_knob started (by kernel_rfl) Try.func5
    (ChangeSpec.witness6 (enc := enc) (C := Try.checked) false ⟨#[], #[.slice none 0 0, .slice none 0 0, .agg #[.int .i64 0, .slice none 0 0, .int .i64 0, .int .i64 0, .int .i64 0, .int .i64 0, .int .i64 0, .int .i64 0, .int .i64 0, .int .i64 0, .int .i64 0, .int .i64 0, .int .i64 0, .int .i64 0, .int .i64 0, .int .i64 0, .int .i64 0, .int .i64 0, .int .i64 0, .int .i64 0, .int .i64 0, .int .i64 0, .int .i64 0, .int .i64 0, .int .i64 0, .int .i64 0, .int .i64 0, .int .i64 0, .int .i64 0, .int .i64 0, .int .i64 0, .int .i64 0], .agg #[.int .i64 0, .int .i64 0, .int .i64 0, .int .i64 0, .int .u64 0, .int .i64 0], .int .i64 0, .int .i64 0], []⟩ 8 (by kernel_rfl) (by kernel_rfl) (by kernel_rfl) (by kernel_rfl)) ?_
  intro W base args ds gs before hval0 hW _ hsz0 _
  exact contract H enc W base args ds gs before hval0 hW hsz0

theorem over : Rows.recorderNotesRow.holds Try.pinned (OpenSpec.ofChange Rows.recorderNotesSpec) :=
  OpenClaim.holds_of_wide 5 Try.f5 rfl rfl rfl rfl rfl rfl rfl ⟨rfl, rfl, rfl, rfl, rfl⟩ rfl rfl rfl rfl rfl (by kernel_rfl) Try.func5 (by kernel_rfl)
    (of_decide_eq_true (by kernel_rfl)) (by unfold Func.isWrapper; first | (rw [if_pos (by decide +kernel)]; kernel_rfl) | (rw [if_neg (by decide +kernel)]; exact ⟨rfl, rfl⟩))
    (fun os started H enc _ => lifted os started H enc)

/-- The given statement. -/
theorem proved : Rows.RecorderNotesSaid := over
end RecorderNotes
#print axioms RecorderNotes.proved
end Go.Proofs.Ytbohbapheofpiaa
