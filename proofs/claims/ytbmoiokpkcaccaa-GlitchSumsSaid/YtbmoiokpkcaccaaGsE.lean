/-
  Layer 37: Merge of both. Plain contracts.
-/
import Derived.Test.YtbmoiokpkcaccaaGsD
namespace Go.Proofs.Ytbmoiokpkcaccaa
open Go.RowKit Go.Maps
theorem mergeL_take {l : List Gl} {k : Nat} {g : Gl} (h : l[k]? = some g) : mergeL (l.take (k + 1)) = mergeS (mergeL (l.take k)) g := by rw [take_snoc h, mergeL_snoc]
theorem mergeS_new {out : List Gl} {g : Gl} (h : lastIx out g = none) : mergeS out g = out ++ [g] := by unfold mergeS; rw [h]
theorem mergeS_old {out : List Gl} {g x : Gl} {i : Nat} (h : lastIx out g = some i) (hx : out[i]? = some x) : mergeS out g = match joinF x g with | some y => out.set i y | none => out ++ [g] := by
  unfold mergeS
  rw [h]
  have : out.getD i g = x := by rw [List.getD_eq_getElem?_getD, hx]; rfl
  simp only [this]
  cases joinF x g <;> rfl
theorem gmerge_done (s d : List Gl) (ho : ∀ x ∈ mergeL s, okG x = true) (hp : d.Perm (mergeL s)) (hs : SortedG d) : d = sortG (mergeL s) := sortG_eq (by rwa [filter_all ho]) hs
set_option maxRecDepth 100000 in
set_option maxHeartbeats 8000000 in
theorem gmerge_any (A : Option Addr) (c : Nat) (l : List Gl) (w : World) (h : Gls w A l) (hl : l.length ≤ 100000) (hw : ∀ g ∈ l, WfG g) :
    Calls Try.prog 10 #[.slice A l.length c] w fun e w' => (∃ v, e = .returned v ∧ OwnG w' w.heap.size v (mergeG l)) ∧ Grows w w' := by
  have hmm := @run_makeMap Try.prog
  have hm := mapT_made TS w
  have hB := (Below.refl w.heap.size w).alloc (Nat.le_refl _) (Obj.map #[] 0)
  have h1 := h.grows hB
  go_enter Try.func10, Try.ntmps10
  go_wp2_with fail
  refine (gsortf_any A c l _ h1 hl).mono ?_
  rintro e w2 ⟨⟨v, rfl, hown⟩, hq⟩
  replace hm := hm.grows hq
  replace hB := below_grows hB (Nat.le_refl _) hq
  obtain ⟨A2, c2, rfl, hc2, hs, -⟩ := hown.read
  have hsl : (sortG l).length ≤ 100000 := Nat.le_trans (sortG_len l) hl
  have hso := sortG_ok l
  have hsw : ∀ g ∈ sortG l, WfG g := fun g hg => hw g (List.mem_filter.1 ((sortG_perm l).mem_iff.1 hg)).1
  have HML : Hid (mergeG l = sortG (mergeL (sortG l))) := Lib.hid rfl
  have HMO := Lib.hid (mergeL_sort_ok l)
  clear hown hq h h1 hmm
  generalize sortG l = s at *
  have hno := mapT_no hm
  have HNO := Lib.hid hno
  clear hno
  go_wp2_with fail
  go_loopw [3, 15] (fun v i wr => ∃ k : Nat, k ≤ s.length ∧ i = .int .i64 k ∧ OwnG wr w2.heap.size v (mergeL (s.take k)) ∧ MapT TS wr w.heap.size k (ixM (mergeL (s.take k))) ∧ w2.grownBy wr (some w.heap.size)) (fun _ i _ => s.length - (intOf i).toNat)
  case atStart => exact ⟨0, by omega, rfl, ownG_nil _ _, hm.ext fun _ _ => rfl, World.grownBy.refl _ _⟩
  case round =>
    clear hm
    obtain ⟨k, hk, rfl, hown, hm, hgb⟩ := hrel
    have hol : (mergeL (s.take k)).length ≤ 100000 := Nat.le_trans (mergeL_len _) (by rw [List.length_take]; omega)
    by_cases hlt : k < s.length
    · have hr := hs.gb hgb HNO.out
      obtain ⟨ad, g, rfl, had, hx, c0, c1, c2', c3, c4, c5⟩ := hr.elem hlt
      have hgo := hso g (List.mem_of_getElem? hx)
      have hkey : TS.ok (keyG g) := key_ok hgo (hsw g (List.mem_of_getElem? hx))
      have HT := Lib.hid (mergeL_take hx)
      have hkm := ixM_key (mergeL (s.take k)) g
      generalize mergeL (s.take k) = out at *
      clear hx hr
      have k6 := Blk.new wr 28 #[.int .i64 g.k, .int .i64 g.a, .int .i64 g.q, .int .i64 g.s, .int .u64 g.d, .int .i64 g.f]
      have hq := (Below.refl wr.heap.size wr).alloc (Nat.le_refl _) (Obj.cells #[.int .i64 g.k, .int .i64 g.a, .int .i64 g.q, .int .i64 g.s, .int .u64 g.d, .int .i64 g.f] 28)
      go_upto_region 6 with fail
      clear c0 c1 c2' c3 c4 c5
      replace hown := hown.grows hq
      replace hm := hm.grows hq
      replace hgb := gbG hgb hq
      clear hq
      generalize World.alloc wr _ = w4 at *
      generalize wr.heap.size = G6 at *
      have x6 := k6.cell
      go_wp2_with fail
      refine (of_any g.k g.a g.q g.s g.d g.f _).mono ?_
      rintro e w5 ⟨rfl, hq⟩
      clear x6
      replace hown := hown.grows hq
      replace hm := hm.grows hq
      replace hgb := gbG hgb hq
      replace k6 := k6.grows hq
      clear hq
      obtain ⟨A3, c3, rfl, hc3, hr3, hge3⟩ := hown.read
      cases hL : lastIx out g with
      | none =>
        have hM : ixM out (keyG g) = none := by rw [hkm, hL]; rfl
        have HS : Hid (mergeL (s.take (k + 1)) = out ++ [g]) := Lib.hid (by rw [HT.out, mergeS_new hL])
        have HM := Lib.hid hM
        clear HT hL hkm hM hr3 hge3
        go_upto_region 11 with (at_lookup; refine wpList_lookT_miss rfl (.tmp 20) (.tmp 22) 43 rfl rfl hm lawS Try.underlying43 (zeroI _) (keyG g) hkey rfl HM.out ?_)
        refine wp_region_lit ?_
        iterate 1
          refine wpList_plain rfl (fun K hK => ?_)
          go_simp
          refine hK _ _ ?_
          clear hK K
        refine wpList_load_row rfl _ rfl rfl k6 Try.underlying28 rfl ginfo6 ?_
        refine wpList_plain rfl (fun K hK => ?_)
        go_simp
        refine (of_any g.k g.a g.q g.s g.d g.f _).mono ?_
        rintro e w8 ⟨rfl, hq⟩
        refine hK _ _ ?_
        clear hK K
        replace hown := hown.grows hq
        replace hm := hm.grows hq
        replace hgb := gbG hgb hq
        replace k6 := k6.grows hq
        clear hq
        iterate 2
          refine wpList_plain rfl (fun K hK => ?_)
          go_simp
          refine hK _ _ ?_
          clear hK K
        have hne := hm.ne_own hown
        have hnb := hm.ne_blk k6
        have hkn : k < maxLen := by unfold maxLen; omega
        refine wpList_storeT rfl (.tmp 41) (.tmp 43) (.tmp 45) 43 rfl rfl hm lawS Try.underlying43 hkn (keyG g) hkey (.int .i64 (out.length : Int)) rfl rfl ?_
        intro w9 hm9 hg9
        replace hm := hm9.ext fun x _ => ixM_append out g x
        replace hown := hown.kept hg9 (.inr (Ne.symm hne))
        replace hgb := gbT hgb hg9 (fun q e => by injection e with e; exact .inl e.symm)
        replace k6 := k6.grown hg9 (fun e => by injection e with e; exact hnb e.symm)
        clear hm9 hg9 hne hnb
        go_upto_region 12 with fail
        refine wp_region_lit ?_
        iterate 1
          refine wpList_plain rfl (fun K hK => ?_)
          go_simp
          refine hK _ _ ?_
          clear hK K
        refine wpList_load_row rfl _ rfl rfl k6 Try.underlying28 rfl ginfo6 ?_
        iterate 1
          refine wpList_plain rfl (fun K hK => ?_)
          go_simp
          refine hK _ _ ?_
          clear hK K
        have hq8 := (Below.refl w9.heap.size w9).alloc (Nat.le_refl _) (Obj.cells #[.int .i64 g.k, .int .i64 g.a, .int .i64 g.q, .int .i64 g.s, .int .u64 g.d, .int .i64 g.f] 28)
        replace hown := own_grows hown hq8
        replace hm := hm.grows hq8
        replace hgb := gbG hgb hq8
        refine wpList_append_gl rfl (.tmp 46) (.tmp 48) rfl (l := out) (m := [g]) rfl rfl hown (gls_lit w9 g) (by simp only [List.length_cons, List.length_nil]; omega) (Nat.le_trans hgb.size (Nat.le_refl _)) ?_
        intro v3 w10 hown3 hgr3
        replace hm := hm.kept hgr3 (hm.ne_own hown)
        replace hgb := gbT hgb hgr3 (fun q e => .inr (hown.lt q e).1)
        clear hown hgr3 hq8 k6 hkey
        go_wp2
        go_roundw
        case rel => exact ⟨k + 1, by omega, by go_num, by rw [HS.out]; exact hown3, by rw [HS.out]; exact hm, hgb⟩
        case measure => simp [intOf]; omega
      | some i =>
        have hM : ixM out (keyG g) = some (.int .i64 (i : Int)) := by rw [hkm, hL]; rfl
        obtain ⟨hil, x, hxi, hkx, -⟩ := lastUp_some hL
        have hil : i < out.length := hil
        have HT2 := Lib.hid (mergeS_old hL hxi)
        have HM := Lib.hid hM
        clear hL hkm hM
        obtain ⟨Y, jb, hY0, hY6, hY1, hYc⟩ := join_cases x g
        have vj : ∀ w1, Calls Try.prog 13 #[.agg #[.int .i64 x.k, .int .i64 x.a, .int .i64 x.q, .int .i64 x.s, .int .u64 x.d, .int .i64 x.f], .agg #[.int .i64 g.k, .int .i64 g.a, .int .i64 g.q, .int .i64 g.s, .int .u64 g.d, .int .i64 g.f]] w1 fun e w' => e = .returned (.tuple #[.agg Y, .bool jb]) ∧ Grows w1 w' := fun w1 => by
          have := join_any x g w1
          rw [hY0] at this
          exact this
        clear hY0
        have HK := Lib.hid hkx
        have HYC := Lib.hid hYc
        clear hkx hYc
        obtain ⟨ad3, rfl, -⟩ := hr3.2 (by omega)
        clear hr3 hge3
        go_upto_region 8 with (at_lookup; refine wpList_lookT_hit rfl (.tmp 20) (.tmp 22) 43 rfl rfl hm lawS Try.underlying43 (zeroI _) (keyG g) hkey rfl HM.out ?_)
        obtain ⟨S, HI, HO⟩ : ∃ S : Ran → World → Prop, Hid (∀ L w', (Grows w5 w' ∧ (L 10 = true → L 9 = true)) → S L w') ∧ Hid (∀ L w', S L w' → (Grows w5 w' ∧ (L 10 = true → L 9 = true))) := ⟨fun L w' => Grows w5 w' ∧ (L 10 = true → L 9 = true), fun _ _ h => h, fun _ _ h => h⟩
        refine wp_region_own S (Only []) 9 10 9 (fun L v w' => ∃ b, v = .pointer (some ⟨b, 0, none⟩) ∧ w5.heap.size ≤ b ∧ Blk w' b 28 (if L 10 then Y else #[.int .i64 0, .int .i64 0, .int .i64 0, .int .i64 0, .int .u64 0, .int .i64 0])) 12 54 (by kernel_rfl) (by kernel_rfl) rfl ?_ ?_ ?_
        · rintro L i v w1 w2 hi1 hi2 _ _ ⟨b, rfl, hb, kb⟩ hr
          refine ⟨b, rfl, hb, ?_⟩
          have hu : upd L i 10 = L 10 := by unfold upd; rw [if_neg (Ne.symm hi2)]
          rw [hu]
          exact kb.only hr (by simp)
        · exact HI.out _ _ ⟨Grows.drew' _, fun h => absurd h (by simp)⟩
        simp only [List.take_succ_cons, List.take_zero, List.drop_succ_cons, List.drop_zero]
        iterate 1
          refine ow_plain (by decide) (by decide) rfl (v := ?_) (a' := ?_) (fun L w1 hL hw1 => ?_) ?_ ?_
          rotate_left 2
          · obtain ⟨q0, q6⟩ := HO.out _ _ hw1
            go_simp
            first | (refine step_val ?_; exact ⟨HI.out _ _ ⟨q0, q6⟩, Only.refl _ _⟩)
          · simp only [Act.put, List.setIfInBounds_toArray, List.set_cons_succ, List.set_cons_zero]
            rfl
        iterate 1
          refine ow_plain (by decide) (by decide) rfl (v := ?_) (a' := ?_) (fun L w1 hL hw1 => ?_) ?_ ?_
          rotate_left 2
          · obtain ⟨q0, q6⟩ := HO.out _ _ hw1
            go_simp
            first | (refine step_val ?_; exact ⟨HI.out _ _ ⟨q0, q6⟩, Only.refl _ _⟩)
          · simp only [Act.put, List.setIfInBounds_toArray, List.set_cons_succ, List.set_cons_zero]
            rfl
        iterate 1
          refine ow_plain (by decide) (by decide) rfl (v := ?_) (a' := ?_) (fun L w1 hL hw1 => ?_) ?_ ?_
          rotate_left 2
          · obtain ⟨q0, q6⟩ := HO.out _ _ hw1
            go_simp
            first | (refine step_val ?_; exact ⟨HI.out _ _ ⟨q0, q6⟩, Only.refl _ _⟩)
          · simp only [Act.put, List.setIfInBounds_toArray, List.set_cons_succ, List.set_cons_zero]
            rfl
        iterate 1
          refine ow_plain (by decide) (by decide) rfl (v := ?_) (a' := ?_) (fun L w1 hL hw1 => ?_) ?_ ?_
          rotate_left 2
          · obtain ⟨q0, q6⟩ := HO.out _ _ hw1
            obtain ⟨c0, c1, c2, c3_, c4, c5⟩ := own_cells (own_grows hown q0) hxi
            go_simp
            first | (refine step_val ?_; exact ⟨HI.out _ _ ⟨q0, q6⟩, Only.refl _ _⟩)
          · simp only [Act.put, List.setIfInBounds_toArray, List.set_cons_succ, List.set_cons_zero]
            rfl
        iterate 1
          refine ow_plain (by decide) (by decide) rfl (v := ?_) (a' := ?_) (fun L w1 hL hw1 => ?_) ?_ ?_
          rotate_left 2
          · obtain ⟨q0, q6⟩ := HO.out _ _ hw1
            have x6 := (k6.grows q0).cell
            go_simp
            first | (refine step_val ?_; exact ⟨HI.out _ _ ⟨q0, q6⟩, Only.refl _ _⟩)
          · simp only [Act.put, List.setIfInBounds_toArray, List.set_cons_succ, List.set_cons_zero]
            rfl
        refine ow_plain (by decide) (by decide) rfl (v := .tuple #[.agg Y, .bool jb]) (a' := ?_) (fun L w1 hL hw1 => ?_) ?_ ?_
        rotate_left 1
        · obtain ⟨q0, q6⟩ := HO.out _ _ hw1
          go_simp
          refine fr_grow ?_ (fun w2 hg => ?_)
          · exact vj _
          · exact ⟨HI.out _ _ ⟨below_grows q0 (Nat.le_refl _) hg, q6⟩, Only.grows hg⟩
        · simp only [Act.put, List.setIfInBounds_toArray, List.set_cons_succ, List.set_cons_zero]
          rfl
        iterate 1
          refine ow_plain (by decide) (by decide) rfl (v := ?_) (a' := ?_) (fun L w1 hL hw1 => ?_) ?_ ?_
          rotate_left 2
          · obtain ⟨q0, q6⟩ := HO.out _ _ hw1
            go_simp
            first | (refine step_val ?_; exact ⟨HI.out _ _ ⟨q0, q6⟩, Only.refl _ _⟩)
          · simp only [Act.put, List.setIfInBounds_toArray, List.set_cons_succ, List.set_cons_zero]
            rfl
        iterate 1
          refine ow_plain (by decide) (by decide) rfl (v := ?_) (a' := ?_) (fun L w1 hL hw1 => ?_) ?_ ?_
          rotate_left 2
          · obtain ⟨q0, q6⟩ := HO.out _ _ hw1
            go_simp
            first | (refine step_val ?_; exact ⟨HI.out _ _ ⟨q0, q6⟩, Only.refl _ _⟩)
          · simp only [Act.put, List.setIfInBounds_toArray, List.set_cons_succ, List.set_cons_zero]
            rfl
        iterate 1
          refine ow_plain (by decide) (by decide) rfl (v := ?_) (a' := ?_) (fun L w1 hL hw1 => ?_) ?_ ?_
          rotate_left 2
          · obtain ⟨q0, q6⟩ := HO.out _ _ hw1
            go_simp
            first | (refine step_val ?_; exact ⟨HI.out _ _ ⟨q0, q6⟩, Only.refl _ _⟩)
          · simp only [Act.put, List.setIfInBounds_toArray, List.set_cons_succ, List.set_cons_zero]
            rfl
        refine ow_float rfl rfl (fun L w1 hL hw1 => ?_) ?_
        · obtain ⟨q0, q6⟩ := HO.out _ _ hw1
          have l7 : L 9 = false := hL.1
          have l8 : L 10 = false := by
            cases h : L 10
            · rfl
            · rw [q6 h] at l7; cases l7
          have hsz := q0.size
          go_simp
          refine fr_some ⟨w1.heap.size, rfl, hsz, ?_⟩ ⟨HI.out _ _ ⟨q0.alloc hsz _, fun _ => rfl⟩, Only.alloc (Only.refl _ _) _⟩
          show Blk _ _ 28 (if L 10 = true then _ else _)
          rw [l8]
          exact Blk.new _ _ _
        refine ow_sink (by decide) rfl rfl rfl (fun v L w1 hL hw1 hd => ?_) ?_
        · obtain ⟨q0, q6⟩ := HO.out _ _ hw1
          obtain ⟨b, rfl, hb, kb⟩ := hd
          have l8 : L 10 = false := hL.1
          have l7 : L 9 = true := hL.need 9 (by kernel_rfl)
          simp only [l8, Bool.false_eq_true, if_false] at kb
          refine step_store_row _ _ rfl rfl rfl kb (by rw [hY6]; exact ginfo6) (by rw [hY6]; rfl) hY1 ?_
          refine ⟨HI.out _ _ ⟨below_row q0 hb _, fun _ => l7⟩, b, rfl, hb, ?_⟩
          show Blk _ b 28 (if true = true then _ else _)
          rw [if_pos rfl]
          exact kb.row
        iterate 1
          refine ow_plain (by decide) (by decide) rfl (v := ?_) (a' := ?_) (fun L w1 hL hw1 => ?_) ?_ ?_
          rotate_left 2
          · obtain ⟨q0, q6⟩ := HO.out _ _ hw1
            go_simp
            first | (refine step_val ?_; exact ⟨HI.out _ _ ⟨q0, q6⟩, Only.refl _ _⟩)
          · simp only [Act.put, List.setIfInBounds_toArray, List.set_cons_succ, List.set_cons_zero]
            rfl
        refine ow_done ?_
        rintro v L w7 hall hS ⟨bq, rfl, hbb, kb⟩
        obtain ⟨hq, -⟩ := HO.out _ _ hS
        clear hS HI HO
        rw [if_pos (hall 10 (by omega))] at kb
        simp only [Act.put, List.setIfInBounds_toArray, List.set_cons_succ, List.set_cons_zero]
        clear vj HM
        have hq2 := hq
        replace hown := hown.grows hq
        replace hm := hm.grows hq
        replace hgb := gbG hgb hq
        replace k6 := k6.grows hq
        clear hq hq2
        cases jb with
        | false =>
          have HS : Hid (mergeL (s.take (k + 1)) = out ++ [g]) := Lib.hid (by
            rw [HT.out, HT2.out]
            rcases HYC.out with ⟨hh, _⟩ | ⟨_, hh⟩
            · cases hh
            · rw [hh])
          clear HT HT2 HYC kb hY6 hY1 HK hxi
          go_upto_region 11 with fail
          refine wp_region_lit ?_
          iterate 1
            refine wpList_plain rfl (fun K hK => ?_)
            go_simp
            refine hK _ _ ?_
            clear hK K
          refine wpList_load_row rfl _ rfl rfl k6 Try.underlying28 rfl ginfo6 ?_
          refine wpList_plain rfl (fun K hK => ?_)
          go_simp
          refine (of_any g.k g.a g.q g.s g.d g.f _).mono ?_
          rintro e w8 ⟨rfl, hq⟩
          refine hK _ _ ?_
          clear hK K
          replace hown := hown.grows hq
          replace hm := hm.grows hq
          replace hgb := gbG hgb hq
          replace k6 := k6.grows hq
          clear hq
          iterate 2
            refine wpList_plain rfl (fun K hK => ?_)
            go_simp
            refine hK _ _ ?_
            clear hK K
          have hne := hm.ne_own hown
          have hnb := hm.ne_blk k6
          have hkn : k < maxLen := by unfold maxLen; omega
          refine wpList_storeT rfl (.tmp 41) (.tmp 43) (.tmp 45) 43 rfl rfl hm lawS Try.underlying43 hkn (keyG g) hkey (.int .i64 (out.length : Int)) rfl rfl ?_
          intro w9 hm9 hg9
          replace hm := hm9.ext fun x _ => ixM_append out g x
          replace hown := hown.kept hg9 (.inr (Ne.symm hne))
          replace hgb := gbT hgb hg9 (fun q e => by injection e with e; exact .inl e.symm)
          replace k6 := k6.grown hg9 (fun e => by injection e with e; exact hnb e.symm)
          clear hm9 hg9 hne hnb
          go_upto_region 12 with fail
          refine wp_region_lit ?_
          iterate 1
            refine wpList_plain rfl (fun K hK => ?_)
            go_simp
            refine hK _ _ ?_
            clear hK K
          refine wpList_load_row rfl _ rfl rfl k6 Try.underlying28 rfl ginfo6 ?_
          iterate 1
            refine wpList_plain rfl (fun K hK => ?_)
            go_simp
            refine hK _ _ ?_
            clear hK K
          have hq8 := (Below.refl w9.heap.size w9).alloc (Nat.le_refl _) (Obj.cells #[.int .i64 g.k, .int .i64 g.a, .int .i64 g.q, .int .i64 g.s, .int .u64 g.d, .int .i64 g.f] 28)
          replace hown := own_grows hown hq8
          replace hm := hm.grows hq8
          replace hgb := gbG hgb hq8
          refine wpList_append_gl rfl (.tmp 46) (.tmp 48) rfl (l := out) (m := [g]) rfl rfl hown (gls_lit w9 g) (by simp only [List.length_cons, List.length_nil]; omega) (Nat.le_trans hgb.size (Nat.le_refl _)) ?_
          intro v3 w10 hown3 hgr3
          replace hm := hm.kept hgr3 (hm.ne_own hown)
          replace hgb := gbT hgb hgr3 (fun q e => .inr (hown.lt q e).1)
          clear hown hgr3 hq8 k6 hkey
          go_wp2
          go_roundw
          case rel => exact ⟨k + 1, by omega, by go_num, by rw [HS.out]; exact hown3, by rw [HS.out]; exact hm, hgb⟩
          case measure => simp [intOf]; omega
        | true =>
          obtain ⟨y, hj, rfl⟩ : ∃ y, joinF x g = some y ∧ Y = y.cs := by
            rcases HYC.out with ⟨_, hh⟩ | ⟨hh, _⟩
            · exact hh
            · cases hh
          have HS : Hid (mergeL (s.take (k + 1)) = out.set i y) := Lib.hid (by rw [HT.out, HT2.out, hj])
          have hxy : kinG x y = true := kinG_symm (joinF_ok hj).2.1
          replace hm := hm.ext fun z _ => ixM_set out i x y hxi hxy z
          clear HT HT2 HYC hj HK hxy hY6 hY1 hkey
          have hne := hm.ne_own hown
          have xb := kb.cell
          simp only [Gl.cs] at xb
          obtain ⟨g2, rfl, hpa, hg2⟩ := own_addr hown (by omega) i
          have HC := own_cells hown hxi
          have HF := own_froz hown (by omega) i
          have hown2 := own_put hown hil y
          rw [hpa] at HC HF hown2
          simp only [CellsG, FrozG] at HC HF
          obtain ⟨c0, c1, c2, c3', c4, c5⟩ := HC
          obtain ⟨f0, f1, f2, f3, f4, f5⟩ := HF
          go_upto_region 10 with fail
          refine wp_region_lit ?_
          iterate 4
            refine wpList_plain rfl (fun K hK => ?_)
            go_simp
            refine hK _ _ ?_
            clear hK K
          refine wpList_plain rfl (fun K hK => ?_)
          go_simp
          refine hK _ _ ?_
          clear hK K
          change wpList _ _ _ _ _ (putG w7 ⟨g2, i * 6, none⟩ y)
          have hb2 : w2.heap.size ≤ g2 := hg2
          have hmne : w.heap.size ≠ g2 := fun e => hne (by simp [Value.ownBlock, e])
          have hm2 : MapT TS (putG w7 ⟨g2, i * 6, none⟩ y) w.heap.size (k + 1) (ixM (out.set i y)) := (MapT.mono (n := k) (by unfold putG; exact (((((hm.setCell hmne _).setCell hmne _).setCell hmne _).setCell hmne _).setCell hmne _).setCell hmne _) (Nat.le_succ k))
          have hgb2 : w2.grownBy (putG w7 ⟨g2, i * 6, none⟩ y) (some w.heap.size) := by
            have hp := put_below (Below.refl g2 w7) (p := ⟨g2, i * 6, none⟩) (Nat.le_refl _) y
            exact gbT hgb (row := some g2) ⟨hp.os, hp.tape, hp.output, hp.size, fun j hj hne => put_block (fun e => hne (by rw [e])) y⟩ (fun q e => by injection e with e; exact .inr (by omega))
          generalize putG w7 ⟨g2, i * 6, none⟩ y = w8 at *
          clear c0 c1 c2 c3' c4 c5 f0 f1 f2 f3 f4 f5 xb kb hown hm hgb k6 hne hmne hpa
          go_wp2
          go_roundw
          case rel => exact ⟨k + 1, by omega, by go_num, by rw [HS.out]; exact hown2, by rw [HS.out]; exact hm2, hgb2⟩
          case measure => simp [intOf]; omega
    · have e : s.take k = s := List.take_of_length_le (by omega)
      rw [e] at hown hol
      clear e hm HNO hs
      have hB3 : Grows w wr := hB.grown hgb hB.size (fun q e => by injection e with e; omega)
      have HD : Hid (∀ d : List Gl, d.Perm (mergeL s) → SortedG d → d = mergeG l) := Lib.hid fun d hp hs => by rw [HML.out]; exact gmerge_done s d HMO.out hp hs
      clear HML HMO hgb
      generalize mergeL s = out at *
      go_wp2_with fail
      refine (gsort_any w2.heap.size _ out _ hown (by omega)).mono ?_
      rintro e w3 ⟨rfl, d, hp, hs, hown2, hgr⟩
      have hB4 : Grows w w3 := hB3.grown hgr hB3.size (fun q e => Nat.le_trans hB.size (hown.lt q e).1)
      obtain rfl := HD.out d hp hs
      have hown3 := hown2.mono hB.size
      clear hown hgr HD hB3 hown2
      go_wp2
      go_ret
      exact ⟨⟨_, rfl, hown3⟩, hB4⟩
end Go.Proofs.Ytbmoiokpkcaccaa
