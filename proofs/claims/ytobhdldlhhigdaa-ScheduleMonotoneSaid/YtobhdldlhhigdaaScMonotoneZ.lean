/-
  ScheduleMonotone, for every input: the law returns true, and each argument reads behind the call as it read before. No condition.
-/
import Derived.Test.YtobhdldlhhigdaaScMonotoneK4
import Derived.Deep.Fields
import Derived.Deep.Slices
import Derived.ChangeKeysEq
import Derived.Deep.DeepCutAuto
import Derived.Deep.CutBlock
namespace Go.Proofs.Ytobhdldlhhigdaa
open Go.RowKit Go.Maps
theorem arr_zero (ns : List Q4) : List.replicate ns.length 0 = arrL ns (fun _ => some 0) := by
 unfold arrL
 rw [List.map_const']
 rfl
set_option maxRecDepth 100000 in
set_option maxHeartbeats 16000000 in
theorem rcrit_any {A A2 A3 : Option Addr} {c2 : Nat} {ns ls : List Q4} {cs : List Int} {w : World} (c c3 : Nat) (h : GOK w A A2 c2 ns ls) (h3 : Ints w A3 cs) (hl3 : cs.length ≤ 9223372036854775807) :
 Calls Try.prog 18 #[.agg #[.slice A ns.length c, .slice A2 ls.length c2], .slice A3 cs.length c3] w fun e w' => e = .returned (.int .i64 (critG ns ls cs)) ∧ Grows w w' := by
 have k1 := Blk.new w 26 #[.slice A ns.length c, .slice A2 ls.length c2]
 have hB := (Below.refl w.heap.size w).alloc (Nat.le_refl _) (Obj.cells #[.slice A ns.length c, .slice A2 ls.length c2] 26)
 go_enter Try.func18, Try.ntmps18
 go_upto_region 1 with fail
 generalize World.alloc w _ = w1 at *
 have x1 := k1.cell
 go_wp2_with fail
 refine (rproblem_any c c3 1 (h.grows hB) (h3.grows hB) hl3).mono ?_
 cases hp : probB ns ls cs 1
 ·have HE : Hid (critG ns ls cs = 0) := Lib.hid (by simp [critG, hp])
  rintro e w2 ⟨rfl, hq⟩
  replace hB := below_grows hB (Nat.le_refl _) hq
  clear hq x1
  go_wp2
  go_ret
  rw [HE.out]
  exact ⟨rfl, hB⟩
 rintro e w2 ⟨rfl, hq⟩
 have HP := Lib.hid hp
 have hV := (prob_iff.1 hp).1
 have hln := (valid_len hV).1
 have hLs := (valid_len hV).2
 have hcs := okW_len (prob_iff.1 hp).2.1
 have HWW := Lib.hid fun x => wb_of (prob_iff.1 hp).2.1 x
 have HV := Lib.hid hV
 clear hp hV
 replace hB := below_grows hB (Nat.le_refl _) hq
 replace k1 := k1.grows hq
 clear hq x1
 have x1 := k1.cell
 go_wp2_with fail
 refine (rorder_yes (h.grows hB) HV.out).mono ?_
 rintro e w5 ⟨⟨v, rfl, ho⟩, hq⟩
 replace ho := ho.mono hB.size
 replace hB := below_grows hB (Nat.le_refl _) hq
 replace k1 := k1.grows hq
 clear hq x1
 have HND := Lib.hid (order_nodup ns ls)
 generalize hod : orderL ns ls = od at *
 have HOD := Lib.hid hod
 clear hod
 have hol : od.length ≤ 64 := by rw [← HOD.out]; exact order_len64 HV.out
 obtain ⟨A4, c4, rfl, hc4, -⟩ := ho.read
 go_upto_region 4 with fail
 have x1 := k1.cell 0
 refine wp_region_lit ?_
 iterate 3
  refine wpList_plain rfl (fun K hK => ?_)
  go_simp
  refine hK _ _ ?_
  clear hK K
 obtain ⟨i0, hi0, hi1, hi2, hi3, hi4⟩ := iinfo
 refine wpList_make_full _ rfl (.tmp 24) (.tmp 24) 22 rfl w.heap.size 3 i0 (.int .i64 0) 1 Try.underlying22 hi0 hi3 hi1 .i64 .i64 ns.length ns.length ns.length rfl rfl rfl rfl (by rw [hi2]; omega) (by simp only [maxLen]; omega) hB.size ?_
 intro w6 hz hg6
 have hS := made_zero _ _ _ _ hz
 have hge : w.heap.size ≤ w5.heap.size := hB.size
 have ho0 := ho
 have hq : Grows w5 w6 := (Below.refl _ _).grown hg6 (Nat.le_refl _) (fun q e => by cases e)
 replace hB := below_grows hB (Nat.le_refl _) hq
 replace k1 := k1.grows hq
 replace ho := ho.grows hq
 have hno : Value.ownBlock (.slice A4 od.length c4) ≠ some w5.heap.size := fun e => by
  have := World.ownsRow.lt ho0 _ e
  omega
 generalize w5.heap.size = Gs at *
 clear hz hg6 hi0 hi1 hi2 hi3 hi4 x1 hq ho0 w5
 have HNO := Lib.hid hno
 clear hno
 have HA : Hid (ns.Pairwise fun x y => x.a < y.a) := Lib.hid (okN_asc (valid_parts.1 HV.out).2.2.1)
 rw [arr_zero] at hS
 go_wp2_with fail
 go_loopw [8, 9] (fun o i wr => ∃ (k : Nat) (z : Int), k ≤ od.length ∧ i = .int .i64 k ∧ o = .int .i64 z ∧ Hid (critK (wOf ns cs) ls od k = z) ∧ ArrI wr w.heap.size Gs ns.length (arrL ns (fun x => some (sumsK (wOf ns cs) ls od k x))) ∧ OwnI wr w.heap.size (.slice A4 od.length c4) od ∧ Blk wr w.heap.size 26 #[.slice A ns.length c, .slice A2 ls.length c2] ∧ Below w.heap.size w wr) (fun _ i _ => od.length - (intOf i).toNat)
 case atStart => exact ⟨0, 0, by omega, rfl, rfl, Lib.hid rfl, hS, ho, k1, hB⟩
 case round =>
  clear hS ho k1 hB
  obtain ⟨k, z, hk, rfl, rfl, HC, hS, ho, k1, hB⟩ := hrel
  have hcb := critK_bd (C := 1099511627776) (by omega) HWW.out (ls := ls) (order := od) k
  rw [HC.out] at hcb
  by_cases hlt : k < od.length
  ·obtain ⟨ad, id, e1, had, hx, p0⟩ := ho.ints.at_ hlt
   subst e1
   have HX := Lib.hid hx
   obtain ⟨ni, hni, hni2⟩ := order_mem (ns := ns) (ls := ls) (i := id) (by rw [HOD.out]; exact List.mem_of_getElem? hx)
   obtain ⟨ki, n0, pi1, pi2, hn0, hn02, hki⟩ := placeV_some (ns := ns) (x := id) (by rw [← hni2]; exact place_in hni)
   have HPI := Lib.hid pi2
   have HNI : Hid (ns[ki]? = some n0 ∧ n0.a = id ∧ placeN ns id = some ki) := Lib.hid ⟨hn0, hn02, pi1⟩
   clear hx hni hni2 pi1 pi2 hn0 hn02
   go_upto_region 9 with fail
   generalize wr = w8 at *
   obtain ⟨S, HI, HO⟩ := hideS fun (L : Ran) (vs : Nat → Value) (w' : World) => Grows w8 w' ∧ KnS [some (.agg #[.slice A ns.length c, .slice A2 ls.length c2]), some (.slice (some ad) od.length c4), some (.int .i64 (k : Int)), some (.pointer (some (ad.add k))), some (.int .i64 id), some (.int .i64 (ki : Int)), some (.int .i64 (ki : Int)), some (.int .i64 0)] L vs
   refine wp_region_genW S 85 (by kernel_rfl) (by kernel_rfl) rfl ?_ ?_
   ·exact HI.out _ _ _ ⟨Grows.drew' _, kn_none _ _⟩
   refine gen_consR (fun vs L w1 hL hw1 => ?_) ?_
   ·obtain ⟨q0, q1⟩ := HO.out _ _ _ hw1
    refine gen_plain rfl ?_
    have x := (k1.grows q0).cell 
    go_simp
    exact gr_val (HI.out _ _ _ ⟨q0, kn_known q1 rfl⟩)
   refine gen_consR (fun vs L w1 hL hw1 => ?_) ?_
   ·obtain ⟨q0, q1⟩ := HO.out _ _ _ hw1
    refine gen_plain rfl ?_
    go_simp
    exact gr_val (HI.out _ _ _ ⟨q0, kn_known q1 rfl⟩)
   refine gen_consR (fun vs L w1 hL hw1 => ?_) ?_
   ·obtain ⟨q0, q1⟩ := HO.out _ _ _ hw1
    refine gen_plain rfl ?_
    go_simp
    exact gr_val (HI.out _ _ _ ⟨q0, kn_known q1 rfl⟩)
   refine gen_consR (fun vs L w1 hL hw1 => ?_) ?_
   ·obtain ⟨q0, q1⟩ := HO.out _ _ _ hw1
    refine gen_plain rfl ?_
    have l1 : L 1 = true := hL.need 1 (by kernel_rfl)
    have e1 := q1 1 _ rfl l1
    have l2 : L 2 = true := hL.need 2 (by kernel_rfl)
    have e2 := q1 2 _ rfl l2
    simp only [e1, e2]
    go_simp
    exact gr_val (HI.out _ _ _ ⟨q0, kn_known q1 rfl⟩)
   refine gen_consR (fun vs L w1 hL hw1 => ?_) ?_
   ·obtain ⟨q0, q1⟩ := HO.out _ _ _ hw1
    refine gen_plain rfl ?_
    have l3 : L 3 = true := hL.need 3 (by kernel_rfl)
    have e3 := q1 3 _ rfl l3
    simp only [e3]
    have x := q0.cell (p := ad.add k) (by rw [block_of_add]; exact had)
    rw [p0] at x
    go_simp
    exact gr_val (HI.out _ _ _ ⟨q0, kn_known q1 rfl⟩)
   refine gen_consR (fun vs L w1 hL hw1 => ?_) ?_
   ·obtain ⟨q0, q1⟩ := HO.out _ _ _ hw1
    refine gen_plain rfl ?_
    have l0 : L 0 = true := hL.need 0 (by kernel_rfl)
    have e0 := q1 0 _ rfl l0
    have l4 : L 4 = true := hL.need 4 (by kernel_rfl)
    have e4 := q1 4 _ rfl l4
    simp only [e0, e4]
    go_simp
    refine gr_call ?_
    refine (rplace_is A A2 c c2 ls.length ns id ki w1 (h.n.grows (below_grows hB (Nat.le_refl _) q0)) h.nl HPI.out).mono ?_
    rintro e w2 ⟨rfl, hg⟩
    exact ⟨_, rfl, HI.out _ _ _ ⟨below_grows q0 (Nat.le_refl _) hg, kn_known q1 rfl⟩⟩
   refine gen_consR (fun vs L w1 hL hw1 => ?_) ?_
   ·obtain ⟨q0, q1⟩ := HO.out _ _ _ hw1
    refine gen_plain rfl ?_
    have l5 : L 5 = true := hL.need 5 (by kernel_rfl)
    have e5 := q1 5 _ rfl l5
    simp only [e5]
    go_simp
    exact gr_val (HI.out _ _ _ ⟨q0, kn_known q1 rfl⟩)
   refine gen_consR (fun vs L w1 hL hw1 => ?_) ?_
   ·obtain ⟨q0, q1⟩ := HO.out _ _ _ hw1
    refine gen_plain rfl ?_
    go_simp
    exact gr_val (HI.out _ _ _ ⟨q0, kn_known q1 rfl⟩)
   refine gen_nil ?_
   intro vs L W6 hall hS
   obtain ⟨hq, q1⟩ := HO.out _ _ _ hS
   have eX7 := q1 7 _ rfl (hall 7 (by simp))
   have eX6 := q1 6 _ rfl (hall 6 (by simp))
   clear hall hS HI HO q1
   simp only [eX7, eX6]
   replace hB := below_grows hB (Nat.le_refl _) hq
   replace k1 := k1.grows hq
   replace ho := ho.grows hq
   replace hS := hS.grows hq
   clear hq p0
   have x1 := k1.cell 1
   go_wp2_with fail
   clear x1
   go_loopw [11, 12] (fun o i wr => ∃ (j : Nat) (b : Int), j ≤ ls.length ∧ i = .int .i64 j ∧ o = .int .i64 b ∧ Hid (bestK (sumsK (wOf ns cs) ls od k) ls id j = b) ∧ ArrI wr w.heap.size Gs ns.length (arrL ns (fun x => some (sumsK (wOf ns cs) ls od k x))) ∧ OwnI wr w.heap.size (.slice (some ad) od.length c4) od ∧ Blk wr w.heap.size 26 #[.slice A ns.length c, .slice A2 ls.length c2] ∧ Below w.heap.size w wr) (fun _ i _ => ls.length - (intOf i).toNat)
   case atStart => exact ⟨0, 0, by omega, rfl, rfl, Lib.hid rfl, hS, ho, k1, hB⟩
   case round =>
    clear hS ho k1 hB
    obtain ⟨j, b, hj, rfl, rfl, HBK, hS, ho, k1, hB⟩ := hrel
    obtain ⟨ad', id', e4, -, hx4, p0⟩ := ho.ints.at_ hlt
    injection e4 with e4
    subst e4
    rw [HX.out] at hx4
    injection hx4 with hx4
    subst hx4
    have x1 := k1.cell 1
    by_cases hlt2 : j < ls.length
    ·obtain ⟨ad2, l, e2, had2, hx2, q0, q1, q2, q3⟩ := (h.grows hB).l.elem hlt2
     obtain ⟨ad2', l', e2', -, hx2', hp⟩ := h.l.addr hlt2
     subst e2
     injection e2' with e2'
     subst e2'
     rw [hx2] at hx2'
     injection hx2' with hx2'
     subst hx2'
     have HX2 := Lib.hid hx2
     obtain ⟨nl, hnl1⟩ := (ends_node (((okK_iff ns ls).1 (valid_parts.1 HV.out).2.2.2.1).1 l (List.mem_of_getElem? hx2))).1
     obtain ⟨hnl2, hnl3⟩ := find_some hnl1
     obtain ⟨pl, n1, pl1, pl2, hn1, hn12, hpl⟩ := placeV_some (ns := ns) (x := l.a) (by rw [← hnl3]; exact place_in hnl2)
     have HPL := Lib.hid pl2
     have HNL : Hid (ns[pl]? = some n1 ∧ n1.a = l.a ∧ placeN ns l.a = some pl) := Lib.hid ⟨hn1, hn12, pl1⟩
     clear hx2 hnl1 hnl2 hnl3 pl1 pl2 hn1 hn12
     cases e2 : l.c == id
     ·have HS : Hid (bestK (sumsK (wOf ns cs) ls od k) ls id (j + 1) = b) := Lib.hid (by
       rw [bestK_succ HX2.out, if_neg (by simpa using e2), HBK.out])
      go_upto_region 13 with fail
      generalize wr = w10 at *
      go_quiet (fail)
      generalize hY : World.drewN w10 _ = w11 at *
      have hq : Grows w10 w11 := hY ▸ grows_drewN w10 _
      clear hY
      replace hB := below_grows hB (Nat.le_refl _) hq
      replace k1 := k1.grows hq
      replace ho := ho.grows hq
      replace hS := hS.grows hq
      clear hq q0 q1 q2 q3 p0 x1
      go_wp2
      go_roundw
      case rel => exact ⟨j + 1, b, by omega, by go_num, rfl, HS, hS, ho, k1, hB⟩
      case measure => simp [intOf]; omega
     ·obtain ⟨sv, hsv⟩ : ∃ sv, sumsK (wOf ns cs) ls od k l.a = sv := ⟨_, rfl⟩
      have HCL : Hid ((arrL ns (fun x => some (sumsK (wOf ns cs) ls od k x)))[pl]? = some sv) := Lib.hid (by rw [arr_at _ HNL.out.1, HNL.out.2.1, hsv]; rfl)
      have HS : Hid (bestK (sumsK (wOf ns cs) ls od k) ls id (j + 1) = if b < sv then sv else b) := Lib.hid (by
       rw [bestK_succ HX2.out, if_pos (by simpa using e2), HBK.out, hsv]
       split <;> omega)
      clear hsv
      go_upto_region 13 with fail
      generalize wr = w9 at *
      go_quiet (fail)
      generalize hY : World.drewN w9 _ = w10 at *
      have hq : Grows w9 w10 := hY ▸ grows_drewN w9 _
      clear hY
      replace hB := below_grows hB (Nat.le_refl _) hq
      replace k1 := k1.grows hq
      replace ho := ho.grows hq
      replace hS := hS.grows hq
      clear hq q0 q1 q2 q3 p0 x1
      have x1 := k1.cell 1
      go_upto_region 14 with fail
      clear x1
      obtain ⟨S, HI, HO⟩ := hideS fun (L : Ran) (vs : Nat → Value) (w' : World) => Grows w10 w' ∧ KnS [some (.int .i64 b), some (.slice (some ⟨Gs, 0, none⟩) ns.length ns.length), some (.agg #[.slice A ns.length c, .slice (some ad2) ls.length c2]), some (.pointer (some ⟨w.heap.size, 1, none⟩)), some (.slice (some ad2) ls.length c2), some (.int .i64 (j : Int)), some (.pointer (some (ad2.add (j * 4)))), some (.pointer (some (ad2.add (j * 4)))), some (.int .i64 l.a), some (.int .i64 (pl : Int)), some (.pointer (some ⟨Gs, pl, none⟩)), some (.int .i64 sv), some (.int .i64 (if b < sv then sv else b))] L vs
      refine wp_region_genT S 13 85 (by kernel_rfl) (by kernel_rfl) rfl ?_ ?_
      ·exact HI.out _ _ _ ⟨Grows.drew' _, kn_none _ _⟩
      simp only [List.take_succ_cons, List.take_zero, List.drop_succ_cons, List.drop_zero]
      refine gent_consR (fun vs L w1 hL hw1 => ?_) ?_
      ·obtain ⟨q0, q1⟩ := HO.out _ _ _ hw1
       refine gen_plain rfl ?_
       go_simp
       exact gr_val (HI.out _ _ _ ⟨q0, kn_known q1 rfl⟩)
      refine gent_consR (fun vs L w1 hL hw1 => ?_) ?_
      ·obtain ⟨q0, q1⟩ := HO.out _ _ _ hw1
       refine gen_plain rfl ?_
       go_simp
       exact gr_val (HI.out _ _ _ ⟨q0, kn_known q1 rfl⟩)
      refine gent_consR (fun vs L w1 hL hw1 => ?_) ?_
      ·obtain ⟨q0, q1⟩ := HO.out _ _ _ hw1
       refine gen_plain rfl ?_
       have x := (k1.grows q0).cell 
       go_simp
       exact gr_val (HI.out _ _ _ ⟨q0, kn_known q1 rfl⟩)
      refine gent_consR (fun vs L w1 hL hw1 => ?_) ?_
      ·obtain ⟨q0, q1⟩ := HO.out _ _ _ hw1
       refine gen_plain rfl ?_
       go_simp
       exact gr_val (HI.out _ _ _ ⟨q0, kn_known q1 rfl⟩)
      refine gent_consR (fun vs L w1 hL hw1 => ?_) ?_
      ·obtain ⟨q0, q1⟩ := HO.out _ _ _ hw1
       refine gen_plain rfl ?_
       have l3 : L 3 = true := hL.need 3 (by kernel_rfl)
       have e3 := q1 3 _ rfl l3
       have x := (k1.grows q0).cell 1
       simp only [e3]
       go_simp
       exact gr_val (HI.out _ _ _ ⟨q0, kn_known q1 rfl⟩)
      refine gent_consR (fun vs L w1 hL hw1 => ?_) ?_
      ·obtain ⟨q0, q1⟩ := HO.out _ _ _ hw1
       refine gen_plain rfl ?_
       go_simp
       exact gr_val (HI.out _ _ _ ⟨q0, kn_known q1 rfl⟩)
      refine gent_consR (fun vs L w1 hL hw1 => ?_) ?_
      ·obtain ⟨q0, q1⟩ := HO.out _ _ _ hw1
       refine gen_plain rfl ?_
       have l4 : L 4 = true := hL.need 4 (by kernel_rfl)
       have e4 := q1 4 _ rfl l4
       have l5 : L 5 = true := hL.need 5 (by kernel_rfl)
       have e5 := q1 5 _ rfl l5
       simp only [e4, e5]
       go_simp
       exact gr_val (HI.out _ _ _ ⟨q0, kn_known q1 rfl⟩)
      refine gent_consR (fun vs L w1 hL hw1 => ?_) ?_
      ·obtain ⟨q0, q1⟩ := HO.out _ _ _ hw1
       refine gen_plain rfl ?_
       have l6 : L 6 = true := hL.need 6 (by kernel_rfl)
       have e6 := q1 6 _ rfl l6
       simp only [e6]
       go_simp
       exact gr_val (HI.out _ _ _ ⟨q0, kn_known q1 rfl⟩)
      refine gent_consR (fun vs L w1 hL hw1 => ?_) ?_
      ·obtain ⟨q0, q1⟩ := HO.out _ _ _ hw1
       refine gen_plain rfl ?_
       have l7 : L 7 = true := hL.need 7 (by kernel_rfl)
       have e7 := q1 7 _ rfl l7
       simp only [e7]
       obtain ⟨y0, y1, y2, y3⟩ := hp _ (below_grows hB (Nat.le_refl _) q0)
       go_simp
       exact gr_val (HI.out _ _ _ ⟨q0, kn_known q1 rfl⟩)
      refine gent_consR (fun vs L w1 hL hw1 => ?_) ?_
      ·obtain ⟨q0, q1⟩ := HO.out _ _ _ hw1
       refine gen_plain rfl ?_
       have l2 : L 2 = true := hL.need 2 (by kernel_rfl)
       have e2 := q1 2 _ rfl l2
       have l8 : L 8 = true := hL.need 8 (by kernel_rfl)
       have e8 := q1 8 _ rfl l8
       simp only [e2, e8]
       go_simp
       refine gr_call ?_
       refine (rplace_is A (some ad2) c c2 ls.length ns l.a pl w1 (h.n.grows (below_grows hB (Nat.le_refl _) q0)) h.nl HPL.out).mono ?_
       rintro e w2 ⟨rfl, hg⟩
       exact ⟨_, rfl, HI.out _ _ _ ⟨below_grows q0 (Nat.le_refl _) hg, kn_known q1 rfl⟩⟩
      refine gent_consR (fun vs L w1 hL hw1 => ?_) ?_
      ·obtain ⟨q0, q1⟩ := HO.out _ _ _ hw1
       refine gen_plain rfl ?_
       have l1 : L 1 = true := hL.need 1 (by kernel_rfl)
       have e1 := q1 1 _ rfl l1
       have l9 : L 9 = true := hL.need 9 (by kernel_rfl)
       have e9 := q1 9 _ rfl l9
       simp only [e1, e9]
       go_simp
       exact gr_val (HI.out _ _ _ ⟨q0, kn_known q1 rfl⟩)
      refine gent_consR (fun vs L w1 hL hw1 => ?_) ?_
      ·obtain ⟨q0, q1⟩ := HO.out _ _ _ hw1
       refine gen_plain rfl ?_
       have l10 : L 10 = true := hL.need 10 (by kernel_rfl)
       have e10 := q1 10 _ rfl l10
       simp only [e10]
       have hcl := (hS.grows q0).cell HCL.out
       go_simp
       exact gr_val (HI.out _ _ _ ⟨q0, kn_known q1 rfl⟩)
      refine gent_consR (fun vs L w1 hL hw1 => ?_) ?_
      ·obtain ⟨q0, q1⟩ := HO.out _ _ _ hw1
       refine gen_plain rfl ?_
       have l0 : L 0 = true := hL.need 0 (by kernel_rfl)
       have e0 := q1 0 _ rfl l0
       have l11 : L 11 = true := hL.need 11 (by kernel_rfl)
       have e11 := q1 11 _ rfl l11
       simp only [e0, e11]
       go_simp
       exact gr_val (HI.out _ _ _ ⟨q0, kn_known q1 rfl⟩)
      refine gent_nil ?_
      intro vs L W6 hall hS
      obtain ⟨hq, q1⟩ := HO.out _ _ _ hS
      have eX12 := q1 12 _ rfl (hall 12 (by simp))
      clear hall hS HI HO q1
      simp only [eX12]
      replace hB := below_grows hB (Nat.le_refl _) hq
      replace k1 := k1.grows hq
      replace ho := ho.grows hq
      replace hS := hS.grows hq
      clear hq
      generalize W6 = w12 at *
      go_wp2
      go_roundw
      case rel => exact ⟨j + 1, (if b < sv then sv else b), by omega, by go_num, rfl, HS, hS, ho, k1, hB⟩
      case measure => simp [intOf]; omega
    ·have HB : Hid (bestS (sumsK (wOf ns cs) ls od k) ls id = b) := Lib.hid (by rw [← bestK_end (j := j) (by omega)]; exact HBK.out)
     clear HBK
     have hsb : ∀ y, 0 ≤ sumsK (wOf ns cs) ls od k y ∧ sumsK (wOf ns cs) ls od k y ≤ k * 1099511627776 := fun y => sumsK_bd (C := 1099511627776) (by omega) HWW.out k y
     have hbb := best_bd (ls := ls) (x := id) (by omega) hsb
     rw [HB.out] at hbb
     obtain ⟨ad3, z', e3, had3, hz3, p3⟩ := (h3.grows hB).at_ (k := ki) (by omega)
     subst e3
     have HZ : Hid (wOf ns cs id = z') := Lib.hid (by rw [wOf_at HNI.out.2.2, List.getD_eq_getElem?_getD, hz3]; rfl)
     have hzb := HWW.out id
     rw [HZ.out] at hzb
     clear hz3 hsb
     have hfz := hS.frozen ki
     have hcl := hS.cell (arr_at _ HNI.out.1)
     obtain ⟨hS2, hg2⟩ := hS.put ki (b + z')
     have e0 : (arrL ns (fun x => some (sumsK (wOf ns cs) ls od k x))).set ki (b + z') = arrL ns (fun x => some (sumsK (wOf ns cs) ls od (k + 1) x)) := by
      rw [arr_set HA.out _ HNI.out.1, HNI.out.2.1, sumsK_succ HX.out]
      congr 1
      funext y
      unfold addS
      rw [HB.out, HZ.out]
      split <;> rfl
     rw [e0] at hS2
     clear e0
     have HCK : Hid (critK (wOf ns cs) ls od (k + 1) = if z < b + z' then b + z' else z) := Lib.hid (by
      rw [critK_succ HND.out (fun x => (HWW.out x).1) HX.out, HC.out, HB.out, HZ.out]
      split <;> omega)
     have ho2 : OwnI _ w.heap.size _ od := World.ownsRow.kept ho hg2 (.inr HNO.out)
     have k12 := k1.grown hg2 (hS.ne_blk k1 (by decide))
     have hB2 := hB.grown hg2 hB.size (fun q e => by injection e with e; subst e; exact hge)
     go_upto_region 16 with fail
     clear hS ho k1 hB p3 hfz hcl hg2
     generalize World.setCell wr _ _ = w7 at *
     have hc2 : w7.cell? ⟨Gs, ki, none⟩ = some (.int .i64 (b + z')) := hS2.cell (by
      rw [arr_at _ HNI.out.1, HNI.out.2.1, sumsK_succ HX.out]
      unfold addS
      rw [if_pos rfl, HB.out, HZ.out]
      rfl)
     go_wp2
     go_roundw
     case rel => exact ⟨k + 1, _, by omega, by go_num, rfl, HCK, hS2, ho2, k12, hB2⟩
     case measure => simp [intOf]; omega
  ·have HE : Hid (critG ns ls cs = z) := Lib.hid (by
    unfold critG
    rw [if_pos HP.out, HOD.out, ← critK_end (k := k) (by omega)]
    exact HC.out)
   go_wp2
   go_ret
   rw [HE.out]
   exact ⟨rfl, hB⟩
end Go.Proofs.Ytobhdldlhhigdaa

namespace Go.Proofs.Ytobhdldlhhigdaa
open Go.RowKit Go.Maps
def sumK (cs : List Int) (k : Nat) : Int := sumL (cs.take k)
theorem sumL_append : ∀ (a b : List Int), sumL (a ++ b) = sumL a + sumL b
 | [], b => by simp [sumL]
 | x :: a, b => by simp only [List.cons_append, sumL, sumL_append a b]; omega
theorem sumK_succ {cs : List Int} {k : Nat} {x : Int} (h : cs[k]? = some x) : sumK cs (k + 1) = sumK cs k + x := by
 unfold sumK
 rw [take_snoc h, sumL_append]
 simp [sumL]
theorem sumK_bd {cs : List Int} (h : ∀ x ∈ cs, 0 ≤ x ∧ x ≤ 1099511627776) : ∀ (k : Nat), 0 ≤ sumK cs k ∧ sumK cs k ≤ k * 1099511627776
 | 0 => by simp [sumK, sumL]
 | k + 1 => by
  have := sumK_bd h k
  by_cases hk : k < cs.length
  ·have hx := List.getElem?_eq_getElem hk
   have hb := h _ (List.mem_of_getElem? hx)
   rw [sumK_succ hx]
   omega
  ·have e : sumK cs (k + 1) = sumK cs k := by
    unfold sumK
    rw [List.take_of_length_le (by omega), List.take_of_length_le (by omega)]
   rw [e]
   omega
theorem okW_all {ns : List Q4} {cs : List Int} (h : okW ns cs = true) : ∀ x ∈ cs, 0 ≤ x ∧ x ≤ 1099511627776 := by
 unfold okW at h
 simp only [Bool.and_eq_true, Bool.not_eq_true', List.any_eq_false, badW, Bool.or_eq_true, decide_eq_true_eq] at h
 intro x hx
 have := h.2 x hx
 omega
theorem crit_bd {ns ls : List Q4} {cs : List Int} : 0 ≤ critG ns ls cs ∧ critG ns ls cs ≤ 70368744177664 := by
 unfold critG
 split
 ·rename_i hp
  have h1 := order_len64 (prob_iff.1 hp).1
  have h2 := critK_bd (C := 1099511627776) (by omega) (fun x => wb_of (prob_iff.1 hp).2.1 x) (ls := ls) (order := orderL ns ls) (orderL ns ls).length
  rw [critK_end (Nat.le_refl _)] at h2
  omega
 ·omega
set_option maxRecDepth 100000 in
set_option maxHeartbeats 16000000 in
theorem rbound_any {A A2 A3 : Option Addr} {c2 : Nat} {ns ls : List Q4} {cs : List Int} {w : World} (c c3 : Nat) (wi : Int) (h : GOK w A A2 c2 ns ls) (h3 : Ints w A3 cs) (hl3 : cs.length ≤ 9223372036854775807) :
 Calls Try.prog 20 #[.agg #[.slice A ns.length c, .slice A2 ls.length c2], .slice A3 cs.length c3, .int .i64 wi] w fun e w' => e = .returned (.int .i64 (boundG ns ls cs wi)) ∧ Grows w w' := by
 have k1 := Blk.new w 26 #[.slice A ns.length c, .slice A2 ls.length c2]
 have hB := (Below.refl w.heap.size w).alloc (Nat.le_refl _) (Obj.cells #[.slice A ns.length c, .slice A2 ls.length c2] 26)
 go_enter Try.func20, Try.ntmps20
 go_upto_region 1 with fail
 generalize World.alloc w _ = w1 at *
 have x1 := k1.cell
 go_wp2_with fail
 refine (rproblem_any c c3 wi (h.grows hB) (h3.grows hB) hl3).mono ?_
 cases hp : probB ns ls cs wi
 ·have HE : Hid (boundG ns ls cs wi = 0) := Lib.hid (by simp [boundG, hp])
  rintro e w2 ⟨rfl, hq⟩
  replace hB := below_grows hB (Nat.le_refl _) hq
  clear hq x1
  go_wp2
  go_ret
  rw [HE.out]
  exact ⟨rfl, hB⟩
 rintro e w2 ⟨rfl, hq⟩
 have HP := Lib.hid hp
 have hw1 := (prob_iff.1 hp).2.2
 have hln := (valid_len (prob_iff.1 hp).1).1
 have hcs : cs.length ≤ ns.length := Nat.le_of_eq (okW_len (prob_iff.1 hp).2.1)
 have HALL := Lib.hid (okW_all (prob_iff.1 hp).2.1)
 clear hp
 replace hB := below_grows hB (Nat.le_refl _) hq
 replace k1 := k1.grows hq
 clear hq x1
 have x1 := k1.cell
 go_wp2_with fail
 go_loop [7, 8] (fun o i => ∃ (k : Nat) (z : Int), k ≤ cs.length ∧ i = .int .i64 k ∧ o = .int .i64 z ∧ Hid (sumK cs k = z)) (fun _ i => cs.length - (intOf i).toNat)
 case atStart => exact ⟨0, 0, by omega, rfl, rfl, Lib.hid rfl⟩
 case round =>
  obtain ⟨k, z, hk, rfl, rfl, HZ⟩ := hrel
  have hzb := sumK_bd HALL.out k
  rw [HZ.out] at hzb
  by_cases hlt : k < cs.length
  ·obtain ⟨ad, x, e1, had, hx, q0⟩ := (h3.grows hB).at_ hlt
   subst e1
   have hxb := HALL.out x (List.mem_of_getElem? hx)
   have HZ2 : Hid (sumK cs (k + 1) = z + x) := Lib.hid (by rw [sumK_succ hx, HZ.out])
   clear hx
   go_wp2
   go_round
   case rel => exact ⟨k + 1, z + x, by omega, by go_num, rfl, HZ2⟩
   case measure => simp [intOf]; omega
  ·have HS : Hid (sumL cs = z) := Lib.hid (by have := HZ.out; unfold sumK at this; rwa [List.take_of_length_le (by omega)] at this)
   go_wp2_with fail
   refine (rcrit_any c c3 (h.grows hB) (h3.grows hB) hl3).mono ?_
   rintro e w3 ⟨rfl, hq⟩
   replace hB := below_grows hB (Nat.le_refl _) hq
   clear hq x1 k1
   have hcb := crit_bd (ns := ns) (ls := ls) (cs := cs)
   have HG : Hid (critG ns ls cs = critS (wOf ns cs) ls (orderL ns ls)) := Lib.hid (by unfold critG; rw [if_pos (prob_one HP.out)])
   generalize critG ns ls cs = g at *
   have hm : 0 ≤ (wi - 1) * g ∧ (wi - 1) * g ≤ 492581209243648 := by
    refine ⟨Int.mul_nonneg (by omega) hcb.1, ?_⟩
    have := Int.mul_le_mul (show wi - 1 ≤ 7 by omega) hcb.2 hcb.1 (by omega)
    omega
   have HE : Hid (boundG ns ls cs wi = (z + (wi - 1) * g).tdiv wi) := Lib.hid (by
    unfold boundG
    rw [if_pos HP.out, HS.out, ← HG.out, Int.tdiv_eq_ediv_of_nonneg (by omega)])
   have hd : 0 ≤ (z + (wi - 1) * g).tdiv wi ∧ (z + (wi - 1) * g).tdiv wi ≤ 9223372036854775807 := by
    rw [Int.tdiv_eq_ediv_of_nonneg (by omega)]
    exact ⟨Int.ediv_nonneg (by omega) (by omega), Int.le_trans (Int.ediv_le_self _ (by omega)) (by omega)⟩
   go_wp2
   go_ret
   rw [HE.out]
   exact ⟨rfl, hB⟩
end Go.Proofs.Ytobhdldlhhigdaa

namespace Go.Proofs.Ytobhdldlhhigdaa
open Go.RowKit Go.Maps
set_option maxRecDepth 100000
/-- The nodes that a node waits for. -/
def waitsL (ls : List Q4) (id : Int) : List Int := (ls.filter fun l => l.c == id).map Q4.a
def bestW (S : Int → Int) (l : List Int) : Int := l.foldl (fun o a => max o (S a)) 0
theorem best_waits (S : Int → Int) (ls : List Q4) (id : Int) : bestS S ls id = bestW S (waitsL ls id) := by
 have key : ∀ (ls : List Q4) (o : Int), ls.foldl (fun o k => if k.c = id then max o (S k.a) else o) o = ((ls.filter fun l => l.c == id).map Q4.a).foldl (fun o a => max o (S a)) o := by
  intro ls
  induction ls with
  | nil => intro o; rfl
  | cons l ls ih =>
   intro o
   by_cases e : l.c = id
   ·simp [e, ih]
   ·simp [e, ih]
 exact key ls 0
theorem befP_waits {ns ls : List Q4} (hv : validG ns ls = true) {i : Nat} {n : Q4} (hi : ns[i]? = some n) : befP ns ls i = (waitsL ls n.a).map (pl ns) := by
 unfold befP waitsL
 rw [List.map_map]
 have e : (ls.filter fun l => pl ns l.c == (i : Int)) = ls.filter fun l => l.c == n.a := by
  refine List.filter_congr fun l hl => ?_
  obtain ⟨⟨m, hm1, hm2⟩, _⟩ := link_node hv hl
  rw [Bool.eq_iff_iff, beq_iff_eq, beq_iff_eq]
  have hpi := pl_asc (valid_asc hv) hi
  constructor
  ·intro h
   rw [← hm2]
   exact pl_inj hm1 (List.mem_of_getElem? hi) (by rw [hm2, h, hpi])
  ·intro h
   rw [h, hpi]
 rw [e]
 rfl
/-- The sums, with that of a node under way. -/
def midQ (ls : List Q4) (S : Int → Int) (id : Int) (j : Nat) : Int → Option Int := fun y => if y = id then some (bestW S ((waitsL ls id).take j)) else some (S y)
theorem midQ_zero {ls : List Q4} {S : Int → Int} {id : Int} (h : S id = 0) : midQ ls S id 0 = fun y => some (S y) := by
 funext y
 unfold midQ
 by_cases e : y = id
 ·subst e
  simp [h, bestW]
 ·rw [if_neg e]
theorem midQ_succ {ls : List Q4} {S : Int → Int} {id a : Int} {j : Nat} (h : (waitsL ls id)[j]? = some a) {mv t : Int} (ht : bestW S ((waitsL ls id).take j) = t) (hm : mv = max t (S a)) : (fun y => if y = id then some mv else midQ ls S id j y) = midQ ls S id (j + 1) := by
 funext y
 unfold midQ
 by_cases e : y = id
 ·rw [if_pos e, if_pos e, take_snoc h, hm, ← ht]
  unfold bestW
  rw [List.foldl_append]
  rfl
 ·rw [if_neg e, if_neg e, if_neg e]
theorem midQ_end {W : Int → Int} {ls : List Q4} {od : List Int} {k : Nat} {id : Int} (hx : od[k]? = some id) (j : Nat) {t wv : Int} (ht : bestW (sumsK W ls od k) (waitsL ls id) = t) (hw : W id = wv) :
 (fun y => if y = id then some (t + wv) else midQ ls (sumsK W ls od k) id j y) = fun y => some (sumsK W ls od (k + 1) y) := by
 funext y
 rw [sumsK_succ hx]
 unfold midQ addS
 by_cases e : y = id
 ·rw [if_pos e, if_pos e, best_waits, ht, hw]
 ·rw [if_neg e, if_neg e, if_neg e]
theorem sumsK_new {W : Int → Int} {ls : List Q4} {od : List Int} (hn : od.Nodup) {k : Nat} {id : Int} (hx : od[k]? = some id) : sumsK W ls od k id = 0 := by
 unfold sumsK
 rw [add_other]
 intro hm
 obtain ⟨j, hj, e⟩ := List.mem_take_iff_getElem.1 hm
 obtain ⟨hk, e2⟩ := List.getElem?_eq_some_iff.1 hx
 have := (List.getElem_inj hn).1 (e.trans e2.symm)
 omega
theorem waits_ne {ns ls : List Q4} {a id : Int} (hi : id ∈ orderL ns ls) (ha : a ∈ waitsL ls id) : a ≠ id := by
 obtain ⟨l, hl, rfl⟩ := List.mem_map.1 ha
 obtain ⟨hl1, hl2⟩ := List.mem_filter.1 hl
 have hc : l.c = id := by simpa using hl2
 obtain ⟨p, q, e⟩ := List.append_of_mem hi
 have h1 := order_pre ns ls p id q e l hl1 hc
 have hnd := order_nodup ns ls
 rw [e] at hnd
 intro e2
 rw [e2] at h1
 have := (List.nodup_append.1 hnd).2.2 id h1 id (by simp)
 exact this rfl
theorem waits_mem {ns ls : List Q4} (hv : validG ns ls = true) {a id : Int} (ha : a ∈ waitsL ls id) : ∃ n ∈ ns, n.a = a := by
 obtain ⟨l, hl, rfl⟩ := List.mem_map.1 ha
 exact (link_node hv (List.mem_filter.1 hl).1).2
theorem bestW_bd {S : Int → Int} {B : Int} (hB : 0 ≤ B) (h : ∀ y, 0 ≤ S y ∧ S y ≤ B) : ∀ (l : List Int), 0 ≤ bestW S l ∧ bestW S l ≤ B := by
 have key : ∀ (l : List Int) (o : Int), 0 ≤ o ∧ o ≤ B → 0 ≤ l.foldl (fun o a => max o (S a)) o ∧ l.foldl (fun o a => max o (S a)) o ≤ B := by
  intro l
  induction l with
  | nil => intro o ho; exact ho
  | cons a l ih =>
   intro o ho
   have := h a
   exact ih _ (by show 0 ≤ max o (S a) ∧ max o (S a) ≤ B; omega)
 exact fun l => key l 0 (by omega)
set_option maxHeartbeats 16000000 in
theorem pcrit_any {P Bm m G co : Nat} {A A2 A3 Ao : Option Addr} {c c2 c3 : Nat} {ns ls : List Q4} {cs : List Int} {w : World} {wi : Int} (hP : PrS w P Bm m G co A A2 A3 Ao c c2 c3 ns ls cs) (h3 : Ints w A3 cs) (HP : Hid (probB ns ls cs wi = true)) :
 Calls Try.prog 41 #[.pointer (some ⟨P, 0, none⟩)] w fun e w' => e = .returned (.int .i64 (critG ns ls cs)) ∧ Grows w w' := by
 have hV := (prob_iff.1 HP.out).1
 have hln := (valid_len hV).1
 have hLs := (valid_len hV).2
 have hcs := okW_len (prob_iff.1 HP.out).2.1
 have HWW := Lib.hid fun x => wb_of (prob_iff.1 HP.out).2.1 x
 have HV := Lib.hid hV
 have HA : Hid (ns.Pairwise fun x y => x.a < y.a) := Lib.hid (valid_asc hV)
 have HE0 : Hid (critG ns ls cs = critS (wOf ns cs) ls (orderL ns ls)) := Lib.hid (by unfold critG; rw [if_pos (prob_one HP.out)])
 have HND := Lib.hid (order_nodup ns ls)
 have hol : (orderL ns ls).length ≤ 64 := order_len64 hV
 have hpo := ordP_len ns ls
 have HIN : Hid (∀ (k : Nat) (x : Int), (orderL ns ls)[k]? = some x → x ∈ orderL ns ls ∧ (ordP ns ls)[k]? = some (pl ns x)) := Lib.hid fun k x hx => ⟨List.mem_of_getElem? hx, ordP_at hx⟩
 clear hV
 obtain ⟨od, hod⟩ : ∃ od, orderL ns ls = od := ⟨_, rfl⟩
 have HOD := Lib.hid hod
 rw [hod] at hol hpo HIN HND HE0
 clear hod
 have xP := hP.blk.cell
 go_enter Try.func41, Try.ntmps41
 go_upto_region 1 with fail
 refine wp_region_lit ?_
 iterate 6
  refine wpList_plain rfl (fun K hK => ?_)
  go_simp
  refine hK _ _ ?_
  clear hK K
 obtain ⟨i0, hi0, hi1, hi2, hi3, hi4⟩ := iinfo
 refine wpList_make_full _ rfl (.tmp 14) (.tmp 14) 22 rfl w.heap.size 3 i0 (.int .i64 0) 1 Try.underlying22 hi0 hi3 hi1 .i64 .i64 ns.length ns.length ns.length rfl rfl rfl rfl (by rw [hi2]; omega) (by simp only [maxLen]; omega) (Nat.le_refl _) ?_
 intro w6 hz hg6
 obtain ⟨Gs, hGs⟩ : ∃ Gs, w.heap.size = Gs := ⟨_, rfl⟩
 have hS0 := made_zero _ _ _ _ hz
 have hS : ArrI w6 w.heap.size Gs ns.length (List.replicate ns.length 0) := by rw [← hGs]; exact hS0
 have hGe2 : (Value.slice (some ⟨w.heap.size, 0, none⟩) ns.length ns.length) = .slice (some ⟨Gs, 0, none⟩) ns.length ns.length := by rw [hGs]
 rw [hGe2]
 have hB : Grows w w6 := (Below.refl _ _).grown hg6 (Nat.le_refl _) (fun q e => by cases e)
 rw [arr_zero] at hS
 clear hz hg6 hi0 hi1 hi2 hi3 hi4 hGs hGe2 hS0 xP
 have xP := (hP.grows hB).blk.cell
 go_wp2_with fail
 clear xP
 go_loopw [4, 21] (fun o i wr => ∃ (k : Nat) (z : Int), k ≤ od.length ∧ i = .int .i64 k ∧ o = .int .i64 z ∧ Hid (critK (wOf ns cs) ls od k = z) ∧ ArrI wr w.heap.size Gs ns.length (arrL ns (fun x => some (sumsK (wOf ns cs) ls od k x))) ∧ Below w.heap.size w wr) (fun _ i _ => od.length - (intOf i).toNat)
 case atStart => exact ⟨0, 0, by omega, rfl, rfl, Lib.hid rfl, hS, hB⟩
 case round =>
  clear hS hB
  obtain ⟨k, z, hk, rfl, rfl, HC, hS, hB⟩ := hrel
  have hcb := critK_bd (C := 1099511627776) (by omega) HWW.out (ls := ls) (order := od) k
  rw [HC.out] at hcb
  by_cases hlt : k < od.length
  ·have hx := List.getElem?_eq_getElem hlt
   obtain ⟨hid1, hid2⟩ := HIN.out k _ hx
   generalize od[k] = id at hx hid1 hid2
   have HX := Lib.hid hx
   have HIM : Hid (id ∈ orderL ns ls) := Lib.hid (by rw [HOD.out]; exact hid1)
   obtain ⟨nd, hnd1, hnd2⟩ := order_mem HIM.out
   obtain ⟨ki, hki, hki2, hkl, n0, hn0, hn02⟩ := pl_in hnd1
   rw [hnd2] at hki hki2 hn02
   rw [hki] at hid2
   have HNI : Hid (ns[ki]? = some n0 ∧ n0.a = id) := Lib.hid ⟨hn0, hn02⟩
   have HKI := Lib.hid hki2
   obtain ⟨adO, zo, eO, hadO, hxo, pO⟩ := (hP.grows hB).ord.at_ (k := k) (by omega)
   subst eO
   have e5 : zo = (ki : Int) := by rw [hid2] at hxo; injection hxo with hxo; exact hxo.symm
   subst e5
   have HBF : Hid (befP ns ls ki = (waitsL ls id).map (pl ns)) := Lib.hid (by rw [← hn02]; exact befP_waits HV.out hn0)
   have hb := hP.bef ki hkl
   rw [HBF.out] at hb
   obtain ⟨Ab, cb, hGl, xb0, hb, -⟩ := hb
   rw [List.length_map] at xb0
   have xb : wr.cell? ⟨G, ki, none⟩ = some (.slice Ab (waitsL ls id).length cb) := by rw [← xb0]; exact hB.cell hGl
   have hwl : (waitsL ls id).length ≤ 256 := by
    unfold waitsL
    rw [List.length_map]
    exact Nat.le_trans (List.length_filter_le _ _) hLs
   have hs0 : sumsK (wOf ns cs) ls od k id = 0 := sumsK_new HND.out HX.out
   have hS1 := hS
   rw [← midQ_zero (ls := ls) hs0] at hS1
   have hsb := fun y => sumsK_bd (C := 1099511627776) (by omega) HWW.out (ls := ls) (order := od) k y
   have hkC : (k : Int) * 1099511627776 ≤ 70368744177664 := by omega
   have HSB : Hid (∀ y, 0 ≤ sumsK (wOf ns cs) ls od k y ∧ sumsK (wOf ns cs) ls od k y ≤ 70368744177664) := Lib.hid fun y => ⟨(hsb y).1, Int.le_trans (hsb y).2 hkC⟩
   clear hx hid1 hid2 hnd1 hnd2 hki hki2 hn0 hn02 hxo hsb hS hs0 hkC
   have xP := (hP.grows hB).blk.cell
   go_wp2_with fail
   clear xP xb xb0 pO hGl
   go_loopw [33] (fun i wq => ∃ j : Nat, j ≤ (waitsL ls id).length ∧ i = .int .i64 j ∧ ArrI wq w.heap.size Gs ns.length (arrL ns (midQ ls (sumsK (wOf ns cs) ls od k) id j)) ∧ Below w.heap.size w wq) (fun i _ => (waitsL ls id).length - (intOf i).toNat)
   case atStart => exact ⟨0, by omega, rfl, hS1, hB⟩
   case round =>
    clear hS1 hB
    obtain ⟨j, hj, rfl, hS, hB⟩ := hrel
    obtain ⟨t, ht⟩ : ∃ t, bestW (sumsK (wOf ns cs) ls od k) ((waitsL ls id).take j) = t := ⟨_, rfl⟩
    have htb := bestW_bd (B := 70368744177664) (by omega) HSB.out ((waitsL ls id).take j)
    rw [ht] at htb
    have HT := Lib.hid ht
    have hcl : wr.cell? ⟨Gs, ki, none⟩ = some (.int .i64 t) := hS.cell (by rw [arr_at _ HNI.out.1, HNI.out.2]; unfold midQ; rw [if_pos rfl, HT.out]; rfl)
    clear ht
    by_cases hlt2 : j < (waitsL ls id).length
    ·obtain ⟨ad, x, e1, had, hx, p0⟩ := (hb.grows hB).at_ (k := j) (by rw [List.length_map]; exact hlt2)
     subst e1
     have hw := List.getElem?_eq_getElem hlt2
     generalize (waitsL ls id)[j] = a at hw
     have ham := List.mem_of_getElem? hw
     have HW := Lib.hid hw
     have e2 : x = pl ns a := by rw [List.getElem?_map, hw] at hx; injection hx with hx; exact hx.symm
     obtain ⟨n2, hn1, hn2⟩ := waits_mem HV.out ham
     obtain ⟨kj, hkj, -, hkjl, m2, hm1, hm2⟩ := pl_in hn1
     rw [hn2] at hkj hm2
     rw [hkj] at e2
     subst e2
     have hne := waits_ne HIM.out ham
     obtain ⟨sv, hsv⟩ : ∃ sv, (sumsK (wOf ns cs) ls od k) a = sv := ⟨_, rfl⟩
     have hsvb := HSB.out a
     rw [hsv] at hsvb
     have hcl2 : wr.cell? ⟨Gs, kj, none⟩ = some (.int .i64 sv) := hS.cell (by rw [arr_at _ hm1, hm2]; unfold midQ; rw [if_neg hne, hsv]; rfl)
     have hfz := hS.frozen ki
     have HM := Lib.hid (fun mv (h : mv = max t ((sumsK (wOf ns cs) ls od k) a)) => midQ_succ HW.out HT.out h)
     rw [hsv] at HM
     clear hx hw ham hn1 hn2 hkj hm1 hm2 hne hsv
     by_cases hmx : t < sv
     ·have HM : Hid ((fun y => if y = id then some sv else (midQ ls (sumsK (wOf ns cs) ls od k) id j) y) = (midQ ls (sumsK (wOf ns cs) ls od k) id (j + 1))) := Lib.hid (HM.out sv (by omega))
      go_upto_region 9 with fail
      go_still_tail 11, (by kernel_rfl)
      have hq := Grows.drew' wr
      change wpList _ _ _ _ _ wr.drew
      generalize wr.drew = w6 at *
      replace hB := below_grows hB (Nat.le_refl _) hq
      replace hS := hS.grows hq
      clear hq hcl hcl2 p0
      have hfz := hS.frozen ki
      have hcl := hS.cell (arr_at _ HNI.out.1)
      iterate 2
       refine wpList_plain rfl (fun K hK => ?_)
       go_simp
       refine hK _ _ ?_
       clear hK K
      obtain ⟨hS2, hgs⟩ := hS.put ki sv
      rw [arr_set HA.out _ HNI.out.1, HNI.out.2, HM.out] at hS2
      replace hB := hB.grown hgs hB.size (fun q e => by injection e with e; subst e; exact hS.lt.1)
      clear hgs hfz hcl hS
      generalize World.setCell _ _ _ = w8 at *
      go_wp2
      go_roundw
      case rel => exact ⟨j + 1, by omega, by go_num, hS2, hB⟩
      case measure => simp [intOf]; omega
     ·have HM : Hid ((fun y => if y = id then some t else (midQ ls (sumsK (wOf ns cs) ls od k) id j) y) = (midQ ls (sumsK (wOf ns cs) ls od k) id (j + 1))) := Lib.hid (HM.out t (by omega))
      go_upto_region 9 with fail
      go_still_tail 11, (by kernel_rfl)
      have hq := Grows.drew' wr
      change wpList _ _ _ _ _ wr.drew
      generalize wr.drew = w6 at *
      replace hB := below_grows hB (Nat.le_refl _) hq
      replace hS := hS.grows hq
      clear hq hcl hcl2 p0
      have hfz := hS.frozen ki
      have hcl := hS.cell (arr_at _ HNI.out.1)
      iterate 2
       refine wpList_plain rfl (fun K hK => ?_)
       go_simp
       refine hK _ _ ?_
       clear hK K
      obtain ⟨hS2, hgs⟩ := hS.put ki t
      rw [arr_set HA.out _ HNI.out.1, HNI.out.2, HM.out] at hS2
      replace hB := hB.grown hgs hB.size (fun q e => by injection e with e; subst e; exact hS.lt.1)
      clear hgs hfz hcl hS
      generalize World.setCell _ _ _ = w8 at *
      go_wp2
      go_roundw
      case rel => exact ⟨j + 1, by omega, by go_num, hS2, hB⟩
      case measure => simp [intOf]; omega
    ·rw [List.take_of_length_le (by omega)] at HT
     obtain ⟨ad3, wv, e3, had3, hz3, p3⟩ := (h3.grows hB).at_ (k := ki) (by omega)
     subst e3
     have hwv : wOf ns cs id = wv := by
      rw [wOf_at HKI.out, List.getD_eq_getElem?_getD, hz3]
      rfl
     have hwb := HWW.out id
     rw [hwv] at hwb
     have HE2 := Lib.hid (midQ_end HX.out j HT.out hwv)
     have hwr : IntKind.i64.wrap (t + wv) = t + wv := IntWalk.i64_in _ (by omega)
     have hfz := hS.frozen ki
     have xP := (hP.grows hB).blk.cell 2
     have HC2 : Hid (critK (wOf ns cs) ls od (k + 1) = max z (t + wv)) := Lib.hid (by
      rw [critK_succ HND.out (fun x => (HWW.out x).1) HX.out, HC.out, best_waits, HT.out, hwv])
     clear hz3 hwv
     go_upto_region 11 with fail
     go_still_tail 12, (by kernel_rfl)
     have hq := Grows.drew' wr
     change wpList _ _ _ _ _ wr.drew
     generalize wr.drew = w7 at *
     replace hB := below_grows hB (Nat.le_refl _) hq
     replace hS := hS.grows hq
     clear hq hcl p3 hfz xP
     have hfz := hS.frozen ki
     have hcl : w7.cell? ⟨Gs, ki, none⟩ = some (.int .i64 t) := hS.cell (by rw [arr_at _ HNI.out.1, HNI.out.2]; unfold midQ; rw [if_pos rfl, List.take_of_length_le (by omega), HT.out]; rfl)
     iterate 2
      refine wpList_plain rfl (fun K hK => ?_)
      go_simp
      refine hK _ _ ?_
      clear hK K
     obtain ⟨hS2, hgs⟩ := hS.put ki (t + wv)
     have hcl2 : (w7.setCell ⟨Gs, ki, none⟩ (.int .i64 (t + wv))).cell? ⟨Gs, ki, none⟩ = some (.int .i64 (t + wv)) := hS2.cell (by rw [List.getElem?_set_self (by rw [arr_len]; exact hkl)])
     rw [arr_set HA.out _ HNI.out.1, HNI.out.2, HE2.out] at hS2
     replace hB := hB.grown hgs hB.size (fun q e => by injection e with e; subst e; exact hS.lt.1)
     clear hgs hfz hcl hS
     generalize World.setCell _ _ _ = w8 at *
     go_upto_region 12 with fail
     refine wp_region_lit ?_
     iterate 5
      refine wpList_plain rfl (fun K hK => ?_)
      go_simp
      refine hK _ _ ?_
      clear hK K
     refine wpList_max2 rfl (.tmp 63) (.tmp 67) _ rfl .i64 z (t + wv) rfl rfl ?_
     go_wp2
     go_roundw
     case rel => exact ⟨k + 1, max z (t + wv), by omega, by go_num, rfl, HC2, hS2, hB⟩
     case measure => simp [intOf]; omega
  ·have HS : Hid (critK (wOf ns cs) ls od k = critS (wOf ns cs) ls od) := Lib.hid (critK_end (by omega))
   go_wp2
   go_ret
   rw [HE0.out, ← HS.out, HC.out]
   exact ⟨rfl, hB⟩
set_option maxHeartbeats 16000000 in
theorem pcritical_any {A A2 A3 : Option Addr} {c2 : Nat} {ns ls : List Q4} {cs : List Int} {w : World} (c c3 : Nat) (h : GOK w A A2 c2 ns ls) (h3 : Ints w A3 cs) (hl3 : cs.length ≤ 9223372036854775807) :
 Calls Try.prog 17 #[.agg #[.slice A ns.length c, .slice A2 ls.length c2], .slice A3 cs.length c3] w fun e w' => e = .returned (.int .i64 (critG ns ls cs)) ∧ Grows w w' := by
 have k1 := Blk.new w 26 #[.slice A ns.length c, .slice A2 ls.length c2]
 have hB := (Below.refl w.heap.size w).alloc (Nat.le_refl _) (Obj.cells #[.slice A ns.length c, .slice A2 ls.length c2] 26)
 go_enter Try.func17, Try.ntmps17
 go_upto_region 1 with fail
 generalize World.alloc w _ = w1 at *
 have x1 := k1.cell
 go_wp2_with fail
 refine (read_any c c3 1 (h.grows hB) (h3.grows hB) hl3).mono ?_
 rintro e w0 ⟨(⟨hp, P, Bm, m, G, co, Ao, rfl, hP⟩ | ⟨hp, rfl⟩), hq⟩
 case inr =>
  have HE : Hid (critG ns ls cs = 0) := Lib.hid (by unfold critG; rw [if_neg (by rw [hp]; decide)])
  replace hB := below_grows hB (Nat.le_refl _) hq
  clear hq x1 hp
  go_wp2
  go_ret
  rw [HE.out]
  exact ⟨rfl, hB⟩
 replace hB := below_grows hB (Nat.le_refl _) hq
 have HP := Lib.hid hp
 clear hq x1 hp
 go_wp2_with fail
 refine (pcrit_any hP (h3.grows hB) HP).mono ?_
 rintro e w2 ⟨rfl, hq⟩
 replace hB := below_grows hB (Nat.le_refl _) hq
 go_wp2
 go_ret
 exact ⟨rfl, hB⟩
set_option maxHeartbeats 16000000 in
theorem pbound_any {A A2 A3 : Option Addr} {c2 : Nat} {ns ls : List Q4} {cs : List Int} {w : World} (c c3 : Nat) (wi : Int) (h : GOK w A A2 c2 ns ls) (h3 : Ints w A3 cs) (hl3 : cs.length ≤ 9223372036854775807) :
 Calls Try.prog 19 #[.agg #[.slice A ns.length c, .slice A2 ls.length c2], .slice A3 cs.length c3, .int .i64 wi] w fun e w' => e = .returned (.int .i64 (boundG ns ls cs wi)) ∧ Grows w w' := by
 have k1 := Blk.new w 26 #[.slice A ns.length c, .slice A2 ls.length c2]
 have hB := (Below.refl w.heap.size w).alloc (Nat.le_refl _) (Obj.cells #[.slice A ns.length c, .slice A2 ls.length c2] 26)
 go_enter Try.func19, Try.ntmps19
 go_upto_region 1 with fail
 generalize World.alloc w _ = w1 at *
 have x1 := k1.cell
 go_wp2_with fail
 refine (read_any c c3 wi (h.grows hB) (h3.grows hB) hl3).mono ?_
 rintro e w0 ⟨(⟨hp, P, Bm, m, G, co, Ao, rfl, hP⟩ | ⟨hp, rfl⟩), hq⟩
 case inr =>
  have HE : Hid (boundG ns ls cs wi = 0) := Lib.hid (by simp [boundG, hp])
  replace hB := below_grows hB (Nat.le_refl _) hq
  clear hq x1 hp
  go_wp2
  go_ret
  rw [HE.out]
  exact ⟨rfl, hB⟩
 replace hB := below_grows hB (Nat.le_refl _) hq
 have HP := Lib.hid hp
 have hw1 := (prob_iff.1 hp).2.2
 have hln := (valid_len (prob_iff.1 hp).1).1
 have hcs : cs.length ≤ ns.length := Nat.le_of_eq (okW_len (prob_iff.1 hp).2.1)
 have HALL := Lib.hid (okW_all (prob_iff.1 hp).2.1)
 clear hq x1 hp
 go_wp2_with fail
 go_loop [9, 11, 23] (fun o _ i => ∃ (k : Nat) (z : Int), k ≤ cs.length ∧ i = .int .i64 k ∧ o = .int .i64 z ∧ Hid (sumK cs k = z)) (fun _ _ i => cs.length - (intOf i).toNat)
 case atStart => exact ⟨0, 0, by omega, rfl, rfl, Lib.hid rfl⟩
 case round =>
  obtain ⟨k, z, hk, rfl, rfl, HZ⟩ := hrel
  have hzb := sumK_bd HALL.out k
  rw [HZ.out] at hzb
  by_cases hlt : k < cs.length
  ·obtain ⟨ad, x, e1, had, hx, q0⟩ := (h3.grows hB).at_ hlt
   subst e1
   have hxb := HALL.out x (List.mem_of_getElem? hx)
   have HZ2 : Hid (sumK cs (k + 1) = z + x) := Lib.hid (by rw [sumK_succ hx, HZ.out])
   clear hx
   go_wp2
   go_round
   case rel => exact ⟨k + 1, z + x, by omega, by go_num, rfl, HZ2⟩
   case measure => simp [intOf]; omega
  ·have HS : Hid (sumL cs = z) := Lib.hid (by have := HZ.out; unfold sumK at this; rwa [List.take_of_length_le (by omega)] at this)
   go_wp2_with fail
   refine (pcrit_any hP (h3.grows hB) HP).mono ?_
   rintro e w3 ⟨rfl, hq⟩
   replace hB := below_grows hB (Nat.le_refl _) hq
   clear hq
   have hcb := crit_bd (ns := ns) (ls := ls) (cs := cs)
   have HG : Hid (critG ns ls cs = critS (wOf ns cs) ls (orderL ns ls)) := Lib.hid (by unfold critG; rw [if_pos (prob_one HP.out)])
   generalize critG ns ls cs = g at *
   have hm : 0 ≤ (wi - 1) * g ∧ (wi - 1) * g ≤ 492581209243648 := by
    refine ⟨Int.mul_nonneg (by omega) hcb.1, ?_⟩
    have := Int.mul_le_mul (show wi - 1 ≤ 7 by omega) hcb.2 hcb.1 (by omega)
    omega
   have HE : Hid (boundG ns ls cs wi = (z + (wi - 1) * g).tdiv wi) := Lib.hid (by
    unfold boundG
    rw [if_pos HP.out, HS.out, ← HG.out, Int.tdiv_eq_ediv_of_nonneg (by omega)])
   have hd : 0 ≤ (z + (wi - 1) * g).tdiv wi ∧ (z + (wi - 1) * g).tdiv wi ≤ 9223372036854775807 := by
    rw [Int.tdiv_eq_ediv_of_nonneg (by omega)]
    exact ⟨Int.ediv_nonneg (by omega) (by omega), Int.le_trans (Int.ediv_le_self _ (by omega)) (by omega)⟩
   go_wp2
   go_ret
   rw [HE.out]
   exact ⟨rfl, hB⟩
end Go.Proofs.Ytobhdldlhhigdaa

namespace Go.Proofs.Ytobhdldlhhigdaa
open Go.RowKit Go.Maps
set_option maxRecDepth 100000
theorem qs_at {w : World} {ad : Addr} {l : List Q4} {k : Nat} {x : Q4} (h : Qs w (some ad) l) (hx : l[k]? = some x) :
 w.cell? (ad.add (k * 4)) = some (.int .i64 x.a) ∧ w.cell? ⟨(ad.add (k * 4)).block, (ad.add (k * 4)).off + 1, none⟩ = some (.int .i64 x.b) ∧ w.cell? ⟨(ad.add (k * 4)).block, (ad.add (k * 4)).off + 2, none⟩ = some (.int .i64 x.c) ∧ w.cell? ⟨(ad.add (k * 4)).block, (ad.add (k * 4)).off + 3, none⟩ = some (.int .i64 x.d) := by
 obtain ⟨ad', x', e1, -, hx', q0, q1, q2, q3⟩ := h.elem (List.getElem?_eq_some_iff.1 hx).1
 injection e1 with e1
 subst e1
 rw [hx] at hx'
 injection hx' with hx'
 subst hx'
 exact ⟨q0, q1, q2, q3⟩
theorem add_nought (a : Addr) : a.add 0 = a := by unfold Addr.add; simp
theorem cmp3_pos (a b : Int) : 0 < cmp3 a b ↔ b < a := by
 unfold cmp3
 by_cases h1 : a < b
 ·rw [if_pos h1]
  omega
 ·rw [if_neg h1]
  split <;> omega
def laterQ (m x : Q4) : Q4 := if m.d < x.d then x else m
def lastS (l : List Q4) : Q4 := (l.drop 1).foldl laterQ (l.headD q0)
theorem lastS_succ {l : List Q4} {k : Nat} {x : Q4} (hk : 1 ≤ k) (h : l[k]? = some x) : lastS (l.take (k + 1)) = laterQ (lastS (l.take k)) x := by
 unfold lastS
 have hl := (List.getElem?_eq_some_iff.1 h).1
 rw [take_snoc h, List.drop_append_of_le_length (by rw [List.length_take]; omega), List.foldl_append]
 cases hd : l.take k with
 | nil =>
  have := congrArg List.length hd
  rw [List.length_take] at this
  simp only [List.length_nil] at this
  omega
 | cons a t => rfl
theorem lastS_one {l : List Q4} {x : Q4} (h : l[0]? = some x) : lastS (l.take 1) = x := by
 cases l with
 | nil => cases h
 | cons a t =>
  simp only [List.getElem?_cons_zero] at h
  injection h
theorem span_last {l : List Q4} (h : 0 < l.length) : max 0 (lastS l).d = spanL l := by
 cases l with
 | nil => simp at h
 | cons a t =>
  have key : ∀ (t : List Q4) (m : Q4), max 0 (t.foldl laterQ m).d = t.foldl (fun o s => max o s.d) (max 0 m.d) := by
   intro t
   induction t with
   | nil => intro m; rfl
   | cons b t ih =>
    intro m
    rw [List.foldl_cons, List.foldl_cons, ih]
    congr 1
    unfold laterQ
    split <;> omega
  exact key t a
set_option maxHeartbeats 4000000 in
theorem span1_any (x m : Q4) (w : World) : Calls Try.prog 38 #[.agg #[.int .i64 x.a, .int .i64 x.b, .int .i64 x.c, .int .i64 x.d], .agg #[.int .i64 m.a, .int .i64 m.b, .int .i64 m.c, .int .i64 m.d]] w fun e w' => e = .returned (.int .i64 (cmp3 x.d m.d)) ∧ Grows w w' := by
 have k1 := Blk.new w 53 #[.int .i64 x.a, .int .i64 x.b, .int .i64 x.c, .int .i64 x.d]
 have hB := (Below.refl w.heap.size w).alloc (Nat.le_refl _) (Obj.cells #[.int .i64 x.a, .int .i64 x.b, .int .i64 x.c, .int .i64 x.d] 53)
 have k2 := blk_new2 w (Obj.cells #[.int .i64 x.a, .int .i64 x.b, .int .i64 x.c, .int .i64 x.d] 53) 53 #[.int .i64 m.a, .int .i64 m.b, .int .i64 m.c, .int .i64 m.d]
 replace hB := hB.alloc hB.size (Obj.cells #[.int .i64 m.a, .int .i64 m.b, .int .i64 m.c, .int .i64 m.d] 53)
 replace k1 := k1.alloc (Obj.cells #[.int .i64 m.a, .int .i64 m.b, .int .i64 m.c, .int .i64 m.d] 53)
 go_enter Try.func38, Try.ntmps38
 go_upto_region 1 with fail
 generalize World.alloc (World.alloc w _) _ = w1 at *
 have x1 := k1.cell 3
 have x2 := k2.cell 3
 go_wp2_with fail
 refine (cmp_i x.d m.d _).mono ?_
 rintro e w2 ⟨rfl, rfl⟩
 go_wp2
 go_ret
 exact ⟨rfl, hB⟩
set_option maxHeartbeats 4000000 in
theorem maxf_any (A : Option Addr) (c : Nat) (l : List Q4) (w : World) (h : Qs w A l) (hl0 : 0 < l.length) (hl : l.length ≤ 9223372036854775807) :
 Calls Try.prog 40 #[.slice A l.length c, .func (.func 38) #[] #[]] w fun e w' => e = .returned (.agg #[.int .i64 (lastS l).a, .int .i64 (lastS l).b, .int .i64 (lastS l).c, .int .i64 (lastS l).d]) ∧ Grows w w' := by
 obtain ⟨ad, x0, e1, had, hx0, q0, q1, q2, q3⟩ := h.elem hl0
 subst e1
 have H0 := Lib.hid hx0
 clear hx0
 have k4 := Blk.new w 53 #[.int .i64 0, .int .i64 0, .int .i64 0, .int .i64 0]
 have hB := (Below.refl w.heap.size w).alloc (Nat.le_refl _) (Obj.cells #[.int .i64 0, .int .i64 0, .int .i64 0, .int .i64 0] 53)
 obtain ⟨p0, p1, p2, p3⟩ := qs_at (h.grows hB) H0.out
 clear q0 q1 q2 q3
 simp only [Nat.zero_mul, add_nought] at p0 p1 p2 p3
 go_enter Try.func40, Try.ntmps40
 go_upto_region 1 with fail
 have hne : w.heap.size ≠ (World.alloc w (Obj.cells #[.int .i64 0, .int .i64 0, .int .i64 0, .int .i64 0] 53)).heap.size := Nat.ne_of_lt k4.lt
 generalize World.alloc w _ = w1 at *
 have k5 := Blk.new w1 53 #[.int .i64 x0.a, .int .i64 x0.b, .int .i64 x0.c, .int .i64 x0.d]
 have hq := (Below.refl w1.heap.size w1).alloc (Nat.le_refl _) (Obj.cells #[.int .i64 x0.a, .int .i64 x0.b, .int .i64 x0.c, .int .i64 x0.d] 53)
 go_upto_region 4 with fail
 have hB1 := hB.size
 replace hB := below_grows hB (Nat.le_refl _) hq
 replace k4 := k4.grows hq
 have hG5 : w.heap.size ≤ w1.heap.size := hB1
 generalize World.alloc w1 _ = w2 at *
 generalize w1.heap.size = G5 at *
 clear hq p0 p1 p2 p3
 go_wp2_with fail
 go_loopw [6] (fun i wr => ∃ (k : Nat) (m : Q4), 1 ≤ k ∧ k ≤ l.length ∧ i = .int .i64 k ∧ Hid (lastS (l.take k) = m) ∧ Blk wr G5 53 #[.int .i64 m.a, .int .i64 m.b, .int .i64 m.c, .int .i64 m.d] ∧ Blk wr w.heap.size 53 #[.int .i64 0, .int .i64 0, .int .i64 0, .int .i64 0] ∧ Below w.heap.size w wr) (fun i _ => l.length - (intOf i).toNat)
 case atStart => exact ⟨1, x0, by omega, by omega, rfl, Lib.hid (lastS_one H0.out), k5, k4, hB⟩
 case round =>
  clear k5 k4 hB
  obtain ⟨k, m, hk1, hk, rfl, HM, k5, k4, hB⟩ := hrel
  by_cases hlt : k < l.length
  ·obtain ⟨ad', x, e1, -, hx, c0, c1, c2, c3⟩ := (h.grows hB).elem hlt
   injection e1 with e1
   subst e1
   have HS := Lib.hid (lastS_succ hk1 hx)
   have HX := Lib.hid hx
   clear hx
   obtain ⟨cv, hcv⟩ : ∃ cv, cmp3 x.d m.d = cv := ⟨_, rfl⟩
   have HCV := Lib.hid hcv
   clear hcv
   go_upto_region 7 with fail
   obtain ⟨S, HI, HO⟩ := hideS fun (L : Ran) (vs : Nat → Value) (w' : World) => Grows wr w' ∧ KnS [some (.func (.func 38) #[] #[]), some (.slice (some ad) l.length c), some (.int .i64 (k : Int)), some (.pointer (some (ad.add (k * 4)))), some (.agg #[.int .i64 x.a, .int .i64 x.b, .int .i64 x.c, .int .i64 x.d]), some (.agg #[.int .i64 m.a, .int .i64 m.b, .int .i64 m.c, .int .i64 m.d]), some (.int .i64 cv), some (.bool (decide (0 < cv)))] L vs
   refine wp_region_genW S 33 (by kernel_rfl) (by kernel_rfl) rfl ?_ ?_
   ·exact HI.out _ _ _ ⟨Grows.drew' _, kn_none _ _⟩
   refine gen_consR (fun vs L w1 hL hw1 => ?_) ?_
   ·obtain ⟨q0, q1⟩ := HO.out _ _ _ hw1
    refine gen_plain rfl ?_
    go_simp
    exact gr_val (HI.out _ _ _ ⟨q0, kn_known q1 rfl⟩)
   refine gen_consR (fun vs L w1 hL hw1 => ?_) ?_
   ·obtain ⟨q0, q1⟩ := HO.out _ _ _ hw1
    refine gen_plain rfl ?_
    go_simp
    exact gr_val (HI.out _ _ _ ⟨q0, kn_known q1 rfl⟩)
   refine gen_consR (fun vs L w1 hL hw1 => ?_) ?_
   ·obtain ⟨q0, q1⟩ := HO.out _ _ _ hw1
    refine gen_plain rfl ?_
    go_simp
    exact gr_val (HI.out _ _ _ ⟨q0, kn_known q1 rfl⟩)
   refine gen_consR (fun vs L w1 hL hw1 => ?_) ?_
   ·obtain ⟨q0, q1⟩ := HO.out _ _ _ hw1
    refine gen_plain rfl ?_
    have l1 : L 1 = true := hL.need 1 (by kernel_rfl)
    have e1 := q1 1 _ rfl l1
    have l2 : L 2 = true := hL.need 2 (by kernel_rfl)
    have e2 := q1 2 _ rfl l2
    simp only [e1, e2]
    go_simp
    exact gr_val (HI.out _ _ _ ⟨q0, kn_known q1 rfl⟩)
   refine gen_consR (fun vs L w1 hL hw1 => ?_) ?_
   ·obtain ⟨q0, q1⟩ := HO.out _ _ _ hw1
    refine gen_plain rfl ?_
    have l3 : L 3 = true := hL.need 3 (by kernel_rfl)
    have e3 := q1 3 _ rfl l3
    simp only [e3]
    obtain ⟨p0, p1, p2, p3⟩ := qs_at ((h.grows hB).grows q0) HX.out
    go_simp
    exact gr_val (HI.out _ _ _ ⟨q0, kn_known q1 rfl⟩)
   refine gen_consR (fun vs L w1 hL hw1 => ?_) ?_
   ·obtain ⟨q0, q1⟩ := HO.out _ _ _ hw1
    refine gen_plain rfl ?_
    have x := (k5.grows q0).cell 
    go_simp
    exact gr_val (HI.out _ _ _ ⟨q0, kn_known q1 rfl⟩)
   refine gen_consR (fun vs L w1 hL hw1 => ?_) ?_
   ·obtain ⟨q0, q1⟩ := HO.out _ _ _ hw1
    refine gen_plain rfl ?_
    have l0 : L 0 = true := hL.need 0 (by kernel_rfl)
    have e0 := q1 0 _ rfl l0
    have l4 : L 4 = true := hL.need 4 (by kernel_rfl)
    have e4 := q1 4 _ rfl l4
    have l5 : L 5 = true := hL.need 5 (by kernel_rfl)
    have e5 := q1 5 _ rfl l5
    simp only [e0, e4, e5]
    go_simp
    refine gr_call ?_
    refine (span1_any x m w1).mono ?_
    rintro e w2 ⟨rfl, hg⟩
    rw [HCV.out]
    exact ⟨_, rfl, HI.out _ _ _ ⟨below_grows q0 (Nat.le_refl _) hg, kn_known q1 rfl⟩⟩
   refine gen_consR (fun vs L w1 hL hw1 => ?_) ?_
   ·obtain ⟨q0, q1⟩ := HO.out _ _ _ hw1
    refine gen_plain rfl ?_
    have l6 : L 6 = true := hL.need 6 (by kernel_rfl)
    have e6 := q1 6 _ rfl l6
    simp only [e6]
    go_simp
    exact gr_val (HI.out _ _ _ ⟨q0, kn_known q1 rfl⟩)
   refine gen_nil ?_
   intro vs L W6 hall hS
   obtain ⟨hq, q1⟩ := HO.out _ _ _ hS
   have eX7 := q1 7 _ rfl (hall 7 (by simp))
   clear hall hS HI HO q1
   simp only [eX7]
   replace k5 := k5.grows hq
   replace k4 := k4.grows hq
   replace hB := below_grows hB (Nat.le_refl _) hq
   obtain ⟨p0, p1, p2, p3⟩ := qs_at (h.grows hB) HX.out
   generalize vs 0 = y0 at *
   generalize vs 1 = y1 at *
   generalize vs 2 = y2 at *
   generalize vs 3 = y3 at *
   generalize vs 4 = y4 at *
   generalize vs 5 = y5 at *
   generalize vs 6 = y6 at *
   clear hq c0 c1 c2 c3
   by_cases hmx : 0 < cv
   ·have HE : Hid (lastS (l.take (k + 1)) = x) := Lib.hid (by
     rw [HS.out, HM.out]
     unfold laterQ
     rw [if_pos ((cmp3_pos _ _).1 (by rw [HCV.out]; exact hmx))])
    go_upto_region 8 with fail
    refine wp_region_lit ?_
    iterate 4
     refine wpList_plain rfl (fun K hK => ?_)
     go_simp
     refine hK _ _ ?_
     clear hK K
    refine wpList_store_row (cs := #[.int .i64 x.a, .int .i64 x.b, .int .i64 x.c, .int .i64 x.d]) rfl _ _ rfl rfl rfl rfl k5 (by kernel_rfl) rfl (by kernel_rfl) ?_
    have k52 : Blk (W6.setRow G5 #[.int .i64 x.a, .int .i64 x.b, .int .i64 x.c, .int .i64 x.d]) G5 53 #[.int .i64 x.a, .int .i64 x.b, .int .i64 x.c, .int .i64 x.d] := k5.row
    replace k4 := k4.row_far (g := G5) (cs' := #[.int .i64 x.a, .int .i64 x.b, .int .i64 x.c, .int .i64 x.d]) hne
    replace hB := below_row hB hG5 #[.int .i64 x.a, .int .i64 x.b, .int .i64 x.c, .int .i64 x.d]
    clear p0 p1 p2 p3
    generalize W6.setRow _ _ = w8 at *
    go_wp2
    go_roundw
    case rel => exact ⟨k + 1, x, by omega, by omega, by go_num, HE, k52, k4, hB⟩
    case measure => simp [intOf]; omega
   ·have HE : Hid (lastS (l.take (k + 1)) = m) := Lib.hid (by
     rw [HS.out, HM.out]
     unfold laterQ
     rw [if_neg (fun h => hmx (by rw [← HCV.out]; exact (cmp3_pos _ _).2 h))])
    clear p0 p1 p2 p3
    go_wp2
    go_roundw
    case rel => exact ⟨k + 1, m, by omega, by omega, by go_num, HE, k5, k4, hB⟩
    case measure => simp [intOf]; omega
  ·have HE : Hid (lastS l = m) := Lib.hid (by have := HM.out; rwa [List.take_of_length_le (by omega)] at this)
   have x5 := k5.cell
   go_upto_region 9 with fail
   refine wp_region_lit ?_
   iterate 1
    refine wpList_plain rfl (fun K hK => ?_)
    go_simp
    refine hK _ _ ?_
    clear hK K
   refine wpList_store_row (cs := #[.int .i64 m.a, .int .i64 m.b, .int .i64 m.c, .int .i64 m.d]) rfl _ _ rfl rfl rfl rfl k4 (by kernel_rfl) rfl (by kernel_rfl) ?_
   have k42 : Blk (wr.setRow w.heap.size #[.int .i64 m.a, .int .i64 m.b, .int .i64 m.c, .int .i64 m.d]) w.heap.size 53 #[.int .i64 m.a, .int .i64 m.b, .int .i64 m.c, .int .i64 m.d] := k4.row
   replace hB := below_row hB (Nat.le_refl _) #[.int .i64 m.a, .int .i64 m.b, .int .i64 m.c, .int .i64 m.d]
   clear x5
   generalize wr.setRow _ _ = w8 at *
   have x4 := k42.cell
   go_wp2
   refine bodyPost_ret (v := .agg #[.int .i64 m.a, .int .i64 m.b, .int .i64 m.c, .int .i64 m.d]) (by simp [results, Try.results40, go_sem, x4]) rfl ⟨?_, hB⟩
   rw [HE.out]
set_option maxHeartbeats 4000000 in
theorem pspan_any (A : Option Addr) (c : Nat) (l : List Q4) (w : World) (h : Qs w A l) (hl : l.length ≤ 9223372036854775807) :
 Calls Try.prog 15 #[.slice A l.length c] w fun e w' => e = .returned (.int .i64 (spanL l)) ∧ Grows w w' := by
 go_enter Try.func15, Try.ntmps15
 by_cases h0 : l.length = 0
 ·have hl0 : l = [] := List.eq_nil_of_length_eq_zero h0
  have HE : Hid (spanL l = 0) := Lib.hid (by rw [hl0]; rfl)
  clear hl0
  have h02 : ((l.length : Int) == 0) = true := by
   simp only [beq_iff_eq]
   omega
  clear h0
  go_wp2
  go_ret
  rw [HE.out]
  exact ⟨rfl, Below.refl _ _⟩
 ·have h02 : ((l.length : Int) == 0) = false := by
   simp only [beq_eq_false_iff_ne, ne_eq]
   omega
  have HE : Hid (spanL l = max 0 (lastS l).d) := Lib.hid (span_last (by omega)).symm
  go_wp2_with fail
  refine (maxf_any A c l _ h (by omega) hl).mono ?_
  generalize lastS l = m at *
  rintro e w2 ⟨rfl, hq⟩
  have ef : (Instr.field 53 (.agg #[.int .i64 m.a, .int .i64 m.b, .int .i64 m.c, .int .i64 m.d]) 3).run Try.prog w2 = .ok (.int .i64 m.d) w2 := by kernel_rfl
  go_wp2
  all_goals go_ret
  all_goals (rw [HE.out]; refine ⟨ret_int ?_, hq⟩; omega)
end Go.Proofs.Ytobhdldlhhigdaa

namespace Go.Proofs.Ytobhdldlhhigdaa
open Go.RowKit Go.Maps
set_option maxRecDepth 100000
theorem qs_lits (w : World) (l : List Q4) (cs : Array Value) (t : TypeId) (h : cs.toList = qcells l) : Qs (w.alloc (.cells cs t)) (some ⟨w.heap.size, 0, none⟩) l := by
 have hb := Blk.new w t cs
 refine ⟨by rw [qcells_len], fun _ => ⟨_, rfl, by simp, fun j u hu => ?_⟩⟩
 have := hb.cell j
 have e : (⟨w.heap.size, 0, none⟩ : Addr).add j = ⟨w.heap.size, j, none⟩ := by unfold Addr.add; split <;> simp_all
 rw [e, this, ← Array.getElem?_toList, h]
 exact hu
theorem ints_lits (w : World) (l : List Int) (cs : Array Value) (t : TypeId) (h : cs.toList = l.map (Value.int .i64)) : Ints (w.alloc (.cells cs t)) (some ⟨w.heap.size, 0, none⟩) l := by
 have hb := Blk.new w t cs
 refine ⟨by simp, fun _ => ⟨_, rfl, by simp, fun j u hu => ?_⟩⟩
 have := hb.cell j
 have e : (⟨w.heap.size, 0, none⟩ : Addr).add j = ⟨w.heap.size, j, none⟩ := by unfold Addr.add; split <;> simp_all
 rw [e, this, ← Array.getElem?_toList, h]
 exact hu
def saneN : List Q4 := [⟨1, 1, 0, 1⟩, ⟨2, 1, 0, 1⟩, ⟨3, 3, 1, 1⟩]
def saneL : List Q4 := [⟨1, 0, 3, 0⟩, ⟨2, 0, 3, 0⟩]
def saneC : List Int := [5, 7, 1]
theorem sane_prob : probB saneN saneL saneC 2 = true := by kernel_rfl
theorem sane_len : (compG saneN saneL saneC 2).length = 3 := by kernel_rfl
theorem sane_span : spanL (compG saneN saneL saneC 2) = 8 := by kernel_rfl
theorem sane_crit : critG saneN saneL saneC = 8 := by kernel_rfl
theorem sane_bound : boundG saneN saneL saneC 2 = 10 := by kernel_rfl
set_option maxHeartbeats 16000000 in
theorem sane_any (w : World) : Calls Try.prog 8 #[] w fun e w' => e = .returned (.bool true) ∧ Grows w w' := by
 have hN := qs_lits w saneN #[.int .i64 1, .int .i64 1, .int .i64 0, .int .i64 1, .int .i64 2, .int .i64 1, .int .i64 0, .int .i64 1, .int .i64 3, .int .i64 3, .int .i64 1, .int .i64 1] 46 rfl
 have hg1 := (Below.refl w.heap.size w).alloc (Nat.le_refl _) (Obj.cells #[.int .i64 1, .int .i64 1, .int .i64 0, .int .i64 1, .int .i64 2, .int .i64 1, .int .i64 0, .int .i64 1, .int .i64 3, .int .i64 3, .int .i64 1, .int .i64 1] 46)
 have hL := qs_lits (w.alloc (Obj.cells #[.int .i64 1, .int .i64 1, .int .i64 0, .int .i64 1, .int .i64 2, .int .i64 1, .int .i64 0, .int .i64 1, .int .i64 3, .int .i64 3, .int .i64 1, .int .i64 1] 46)) saneL #[.int .i64 1, .int .i64 0, .int .i64 3, .int .i64 0, .int .i64 2, .int .i64 0, .int .i64 3, .int .i64 0] 49 rfl
 have hg2 := (Below.refl (w.alloc (Obj.cells #[.int .i64 1, .int .i64 1, .int .i64 0, .int .i64 1, .int .i64 2, .int .i64 1, .int .i64 0, .int .i64 1, .int .i64 3, .int .i64 3, .int .i64 1, .int .i64 1] 46)).heap.size (w.alloc (Obj.cells #[.int .i64 1, .int .i64 1, .int .i64 0, .int .i64 1, .int .i64 2, .int .i64 1, .int .i64 0, .int .i64 1, .int .i64 3, .int .i64 3, .int .i64 1, .int .i64 1] 46))).alloc (Nat.le_refl _) (Obj.cells #[.int .i64 1, .int .i64 0, .int .i64 3, .int .i64 0, .int .i64 2, .int .i64 0, .int .i64 3, .int .i64 0] 49)
 have hs2 : (w.alloc (Obj.cells #[.int .i64 1, .int .i64 1, .int .i64 0, .int .i64 1, .int .i64 2, .int .i64 1, .int .i64 0, .int .i64 1, .int .i64 3, .int .i64 3, .int .i64 1, .int .i64 1] 46)).heap.size = w.heap.size + 1 := by simp
 rw [hs2] at hL
 go_enter Try.func8, Try.ntmps8
 go_upto_region 1 with fail
 have hs3 : ((w.alloc (Obj.cells #[.int .i64 1, .int .i64 1, .int .i64 0, .int .i64 1, .int .i64 2, .int .i64 1, .int .i64 0, .int .i64 1, .int .i64 3, .int .i64 3, .int .i64 1, .int .i64 1] 46)).alloc (Obj.cells #[.int .i64 1, .int .i64 0, .int .i64 3, .int .i64 0, .int .i64 2, .int .i64 0, .int .i64 3, .int .i64 0] 49)).heap.size = w.heap.size + 2 := by simp
 have hg3 := (Below.refl ((w.alloc (Obj.cells #[.int .i64 1, .int .i64 1, .int .i64 0, .int .i64 1, .int .i64 2, .int .i64 1, .int .i64 0, .int .i64 1, .int .i64 3, .int .i64 3, .int .i64 1, .int .i64 1] 46)).alloc (Obj.cells #[.int .i64 1, .int .i64 0, .int .i64 3, .int .i64 0, .int .i64 2, .int .i64 0, .int .i64 3, .int .i64 0] 49)).heap.size ((w.alloc (Obj.cells #[.int .i64 1, .int .i64 1, .int .i64 0, .int .i64 1, .int .i64 2, .int .i64 1, .int .i64 0, .int .i64 1, .int .i64 3, .int .i64 3, .int .i64 1, .int .i64 1] 46)).alloc (Obj.cells #[.int .i64 1, .int .i64 0, .int .i64 3, .int .i64 0, .int .i64 2, .int .i64 0, .int .i64 3, .int .i64 0] 49))).alloc (Nat.le_refl _) (Obj.cells #[.slice (some ⟨w.heap.size, 0, none⟩) 3 3, .slice (some ⟨w.heap.size + 1, 0, none⟩) 2 2] 26)
 have k1 := Blk.new ((w.alloc (Obj.cells #[.int .i64 1, .int .i64 1, .int .i64 0, .int .i64 1, .int .i64 2, .int .i64 1, .int .i64 0, .int .i64 1, .int .i64 3, .int .i64 3, .int .i64 1, .int .i64 1] 46)).alloc (Obj.cells #[.int .i64 1, .int .i64 0, .int .i64 3, .int .i64 0, .int .i64 2, .int .i64 0, .int .i64 3, .int .i64 0] 49)) 26 #[.slice (some ⟨w.heap.size, 0, none⟩) 3 3, .slice (some ⟨w.heap.size + 1, 0, none⟩) 2 2]
 rw [hs3] at k1
 have hok : GOK (((w.alloc (Obj.cells #[.int .i64 1, .int .i64 1, .int .i64 0, .int .i64 1, .int .i64 2, .int .i64 1, .int .i64 0, .int .i64 1, .int .i64 3, .int .i64 3, .int .i64 1, .int .i64 1] 46)).alloc (Obj.cells #[.int .i64 1, .int .i64 0, .int .i64 3, .int .i64 0, .int .i64 2, .int .i64 0, .int .i64 3, .int .i64 0] 49)).alloc (Obj.cells #[.slice (some ⟨w.heap.size, 0, none⟩) 3 3, .slice (some ⟨w.heap.size + 1, 0, none⟩) 2 2] 26)) (some ⟨w.heap.size, 0, none⟩) (some ⟨w.heap.size + 1, 0, none⟩) 2 saneN saneL :=
  ⟨(hN.grows hg2).grows hg3, hL.grows hg3, by simp [saneN], by simp [saneL], by simp [saneL], by simp [saneN, In64], by simp [saneL, In64]⟩
 have hB := Grows.trans' (Grows.trans' hg1 hg2) hg3
 go_upto_region 2 with fail
 clear hN hL hg1 hg2 hg3 hs2 hs3
 generalize World.alloc (World.alloc (World.alloc w _) _) _ = w1 at *
 generalize w.heap.size + 2 = Gk at *
 generalize w.heap.size + 1 = Gl at *
 have x1 := k1.cell
 have hiw1 := ints_lits w1 saneC #[.int .i64 5, .int .i64 7, .int .i64 1] 3 rfl
 have hq := (Below.refl w1.heap.size w1).alloc (Nat.le_refl _) (Obj.cells #[.int .i64 5, .int .i64 7, .int .i64 1] 3)
 go_wp2_with fail
 refine (pcomp_any (ns := saneN) (ls := saneL) (cs := saneC) 3 3 2 (hok.grows hq) hiw1 (by simp [saneC])).mono ?_
 rintro e w3 ⟨(⟨-, v, rfl, hs⟩ | ⟨hf, -⟩), hq2⟩
 case inr =>
  rw [sane_prob] at hf
  cases hf
 change OwnS w3 _ v (compG saneN saneL saneC 2) at hs
 have hlen := sane_len
 have hsp := sane_span
 generalize compG saneN saneL saneC 2 = cl at *
 have hcl3 : ((cl.length : Int) == 3) = true := by rw [hlen]; rfl
 have hsp8 : (spanL cl == 8) = true := by rw [hsp]; rfl
 have hll : cl.length ≤ 9223372036854775807 := by omega
 clear hlen hsp
 obtain ⟨A5, c5, rfl, -, hqs⟩ := hs.read
 replace hq := Grows.trans' hq hq2
 replace hB := Grows.trans' hB hq
 replace k1 := k1.grows hq
 replace hok := hok.grows hq
 clear hs hq2 hq hiw1 x1
 have x1 := k1.cell
 go_wp2_with fail
 refine (pspan_any A5 c5 cl _ hqs hll).mono ?_
 rintro e w4 ⟨rfl, hq⟩
 replace hB := Grows.trans' hB hq
 replace k1 := k1.grows hq
 replace hok := hok.grows hq
 clear hq x1 hqs
 have x1 := k1.cell
 have hiw4 := ints_lits w4 saneC #[.int .i64 5, .int .i64 7, .int .i64 1] 3 rfl
 have hq := (Below.refl w4.heap.size w4).alloc (Nat.le_refl _) (Obj.cells #[.int .i64 5, .int .i64 7, .int .i64 1] 3)
 go_wp2_with fail
 refine (pcritical_any (ns := saneN) (ls := saneL) (cs := saneC) 3 3 (hok.grows hq) hiw4 (by simp [saneC])).mono ?_
 rw [sane_crit]
 rintro e w5 ⟨rfl, hq2⟩
 replace hq := Grows.trans' hq hq2
 replace hB := Grows.trans' hB hq
 replace k1 := k1.grows hq
 replace hok := hok.grows hq
 clear hq2 hq hiw4 x1
 have x1 := k1.cell
 have hiw5 := ints_lits w5 saneC #[.int .i64 5, .int .i64 7, .int .i64 1] 3 rfl
 have hq := (Below.refl w5.heap.size w5).alloc (Nat.le_refl _) (Obj.cells #[.int .i64 5, .int .i64 7, .int .i64 1] 3)
 go_wp2_with fail
 refine (pbound_any (ns := saneN) (ls := saneL) (cs := saneC) 3 3 2 (hok.grows hq) hiw5 (by simp [saneC])).mono ?_
 rw [sane_bound]
 rintro e w6 ⟨rfl, hq2⟩
 replace hB := Grows.trans' hB (Grows.trans' hq hq2)
 go_wp2
 go_ret
 exact ⟨rfl, hB⟩
end Go.Proofs.Ytobhdldlhhigdaa

namespace Go.Proofs.Ytobhdldlhhigdaa
open Go.ChangeShapes Go.WideShapes Go.RowKit Go.Deep
section
variable {H : Type} {enc : TypeId × Value → H} {P : Program} {w : World} {base : Nat} {spare : Nat → Bool} {held : Bool} {r : Reach} {b0 : Nat}
/-- A struct of one-cell fields: its cells, each with its own reading. -/
theorem open_flat {t : TypeId} {fs : Array Field} {v : Value} {d : DataW H} {p : List MemPlace} (ht : P.underlying t = some (.struct fs)) (hone : oneCellFields P fs = true) (hC : P.cellsOf t = fs.size)
 (hv : Value.okWide P w r b0 t v) (h : DataW.Trod enc P w base spare held t v d p) :
 ∃ l : List Value, v = .agg l.toArray ∧ l.length = fs.size ∧ ∀ (i : Nat) (f : Field), fs[i]? = some f → ∃ (x : Value) (n : Nat) (y : DataW H × List MemPlace), l[i]? = some x ∧ DataW.trod enc P w base spare held n f.type [x] = some y := by
 obtain ⟨cs, rfl, hsz⟩ := okWide_struct ht hv
 obtain ⟨fuel, hf⟩ := h
 obtain ⟨xs, n, _, _, hcl, hlen, hg⟩ := DataW.trod_struct ht hf
 have hcs : (Value.agg cs).cells.toList = cs.toList := rfl
 refine ⟨cs.toList, rfl, by simpa [hC] using hsz, fun i f hi => ?_⟩
 obtain ⟨ho, hk⟩ := hone_of hone i f hi
 have hil : i < fs.size := (Array.getElem?_eq_some_iff.1 hi).1
 have hil' : i < cs.toList.length := by simp [hsz, hC, hil]
 have h1 := hg i f hi
 rw [ho, hk] at h1
 have hone' : ((Value.agg cs).cells.toList.drop i).take 1 = [cs.toList[i]] := by
  rw [hcs, List.drop_eq_getElem_cons hil']
  rfl
 rw [hone', List.getElem?_eq_getElem (by omega)] at h1
 exact ⟨cs.toList[i], n, _, List.getElem?_eq_getElem hil', h1⟩
def allInt (P : Program) (k : IntKind) (fs : Array Field) : Bool := fs.toList.all fun f => match P.underlying f.type with | some (.int k') => decide (k' = k) | _ => false
theorem open_ints_agg {t : TypeId} {fs : Array Field} {k : IntKind} {n : Nat} {v : Value} {d : DataW H} {p : List MemPlace} (ht : P.underlying t = some (.struct fs)) (hone : oneCellFields P fs = true) (hC : P.cellsOf t = n) (hn : fs.size = n) (hk : allInt P k fs = true)
 (hv : Value.okWide P w r b0 t v) (h : DataW.Trod enc P w base spare held t v d p) :
 ∃ l : List Int, v = .agg (l.map (Value.int k)).toArray ∧ l.length = n ∧ ∀ a ∈ l, (Lit.int k a).wf = true := by
 obtain ⟨l, rfl, hl, hf⟩ := open_flat ht hone (hC.trans hn.symm) hv h
 have each : ∀ i, i < l.length → ∃ a : Int, l[i]? = some (.int k a) ∧ (Lit.int k a).wf = true := by
  intro i hi
  have hi' : i < fs.size := by omega
  obtain ⟨x, m, y, hx, hy⟩ := hf i fs[i] (Array.getElem?_eq_getElem hi')
  have hki := List.all_eq_true.1 hk fs[i] (by simp)
  split at hki
  ·rename_i k' hu
   have : k' = k := by simpa using hki
   subst this
   obtain ⟨a, h1, _, h3⟩ := DataW.trod_int hu hy
   simp only [List.cons.injEq, and_true] at h1
   exact ⟨a, by rw [hx, h1], h3⟩
  ·cases hki
 have hmap : ∀ l : List Value, (∀ i, i < l.length → ∃ a : Int, l[i]? = some (.int k a) ∧ (Lit.int k a).wf = true) → ∃ z : List Int, l = z.map (Value.int k) ∧ ∀ a ∈ z, (Lit.int k a).wf = true := by
  intro l
  induction l with
  | nil => exact fun _ => ⟨[], rfl, by simp⟩
  | cons x l ih =>
   intro hh
   obtain ⟨a, h1, h2⟩ := hh 0 (by simp)
   obtain ⟨z, rfl, hz⟩ := ih fun i hi => by simpa using hh (i + 1) (by simp; omega)
   simp at h1
   exact ⟨a :: z, by rw [h1]; rfl, by simpa [h2] using hz⟩
 obtain ⟨z, rfl, hz⟩ := hmap l each
 exact ⟨z, rfl, by simpa [hn] using hl, hz⟩
end
theorem i64_bd {n : Int} (h : (Lit.int .i64 n).wf = true) : -9223372036854775808 ≤ n ∧ n ≤ 9223372036854775807 := by
 simpa [Lit.wf, IntKind.min, IntKind.max, IntKind.signed, IntKind.bits] using h
end Go.Proofs.Ytobhdldlhhigdaa

namespace Go.Proofs.Ytobhdldlhhigdaa
open Go.ChangeShapes Go.WideShapes Go.RowKit Go.Deep
section
variable {H : Type} {enc : TypeId × Value → H} {P : Program} {w : World} {base : Nat} {spare : Nat → Bool} {held : Bool} {fs : Array Field} {cs : List Value} {xs : List (DataW H × List MemPlace)} {n : Nat}
set_option maxRecDepth 100000 in
theorem part_int (hg : ∀ (i : Nat) (f : Field), fs[i]? = some f → DataW.trod enc P w base spare held n f.type ((cs.drop f.offset).take (P.cellsOf f.type)) = xs[i]?) (hlen : xs.length = fs.size) (i o c : Nat) (k : IntKind)
 (hi : (fs[i]?).map (fun f => (f.offset, P.cellsOf f.type, P.underlying f.type)) = some (o, c, some (.int k))) : ∃ a : Int, (cs.drop o).take c = [.int k a] ∧ (Lit.int k a).wf = true := by
 obtain ⟨f, hf, he⟩ := Option.map_eq_some_iff.1 hi
 simp only [Prod.mk.injEq] at he
 obtain ⟨h1, h2, h3⟩ := he
 have hil : i < fs.size := (Array.getElem?_eq_some_iff.1 hf).1
 have hx := hg i f hf
 rw [List.getElem?_eq_getElem (by omega), h1, h2] at hx
 obtain ⟨a, ha, _, hw⟩ := DataW.trod_int h3 hx
 exact ⟨a, ha, hw⟩
set_option maxRecDepth 100000 in
theorem part_struct (hg : ∀ (i : Nat) (f : Field), fs[i]? = some f → DataW.trod enc P w base spare held n f.type ((cs.drop f.offset).take (P.cellsOf f.type)) = xs[i]?) (hlen : xs.length = fs.size) (i o c : Nat) (gs : Array Field)
 (hi : (fs[i]?).map (fun f => (f.offset, P.cellsOf f.type, P.underlying f.type)) = some (o, c, some (.struct gs))) :
 ∃ (ys : List (DataW H × List MemPlace)) (m : Nat), ys.length = gs.size ∧ ∀ (i : Nat) (f : Field), gs[i]? = some f → DataW.trod enc P w base spare held m f.type ((((cs.drop o).take c).drop f.offset).take (P.cellsOf f.type)) = ys[i]? := by
 obtain ⟨f, hf, he⟩ := Option.map_eq_some_iff.1 hi
 simp only [Prod.mk.injEq] at he
 obtain ⟨h1, h2, h3⟩ := he
 have hil : i < fs.size := (Array.getElem?_eq_some_iff.1 hf).1
 have hx := hg i f hf
 rw [List.getElem?_eq_getElem (by omega), h1, h2] at hx
 obtain ⟨ys, m, _, _, _, hl, h⟩ := DataW.trod_struct h3 hx
 exact ⟨ys, m, hl, h⟩
end
end Go.Proofs.Ytobhdldlhhigdaa

namespace Go.Proofs.Ytobhdldlhhigdaa
open Go.ChangeShapes Go.WideShapes Go.RowKit Go.Deep
set_option maxRecDepth 100000 in
theorem in64_wf {n : Int} (h : (Lit.int .i64 n).wf = true) : In64 n := by
 unfold In64
 simpa [Lit.wf, IntKind.min, IntKind.max, IntKind.signed, IntKind.bits] using h
/-- Numbers that slots can hold. -/
def OK4 (g : Q4) : Prop := In64 g.a ∧ In64 g.b ∧ In64 g.c ∧ In64 g.d
set_option maxRecDepth 100000 in
theorem part_any {H : Type} {enc : TypeId × Value → H} {P : Program} {w : World} {base : Nat} {spare : Nat → Bool} {held : Bool} {fs : Array Field} {cs : List Value} {xs : List (DataW H × List MemPlace)} {n : Nat} (hg : ∀ (i : Nat) (f : Field), fs[i]? = some f → DataW.trod enc P w base spare held n f.type ((cs.drop f.offset).take (P.cellsOf f.type)) = xs[i]?) (hlen : xs.length = fs.size) (i o c : Nat) (t : TypeId)
 (hi : (fs[i]?).map (fun f => (f.offset, P.cellsOf f.type, f.type)) = some (o, c, t)) : ∃ y, DataW.trod enc P w base spare held n t ((cs.drop o).take c) = some y := by
 obtain ⟨f, hff, he⟩ := Option.map_eq_some_iff.1 hi
 simp only [Prod.mk.injEq] at he
 obtain ⟨h1, h2, h3⟩ := he
 have hil := (Array.getElem?_eq_some_iff.1 hff).1
 have hx := hg i f hff
 rw [List.getElem?_eq_getElem (by omega), h1, h2, h3] at hx
 exact ⟨_, hx⟩
section
variable {H : Type} {enc : TypeId × Value → H} {w : World} {base : Nat} {spare : Nat → Bool} {held : Bool}
set_option maxRecDepth 100000 in
theorem node_of {n : Nat} {cs : List Value} {y : DataW H × List MemPlace} (h : DataW.trod enc Try.prog w base spare held n 46 cs = some y) : ∃ g : Q4, cs = g.ls ∧ OK4 g := by
 obtain ⟨xs, m, _, _, hl, hlen, hg⟩ := DataW.trod_struct Try.underlying46 h
 obtain ⟨a, e0, w0⟩ := part_int hg hlen 0 0 1 .i64 (by kernel_rfl)
 obtain ⟨b, e1, w1⟩ := part_int hg hlen 1 1 1 .i64 (by kernel_rfl)
 obtain ⟨c, e2, w2⟩ := part_int hg hlen 2 2 1 .i64 (by kernel_rfl)
 obtain ⟨d, e3, w3⟩ := part_int hg hlen 3 3 1 .i64 (by kernel_rfl)
 have hl2 : cs.length = 4 := hl.trans (by kernel_rfl)
 refine ⟨⟨a, b, c, d⟩, ?_, in64_wf w0, in64_wf w1, in64_wf w2, in64_wf w3⟩
 match cs, hl2 with
 | [c0, c1, c2, c3], _ =>
  simp only [List.drop_zero, List.take_succ_cons, List.take_zero, List.drop_succ_cons, List.cons.injEq, and_true] at e0 e1 e2 e3
  rw [e0, e1, e2, e3]
  rfl
set_option maxRecDepth 100000 in
theorem nodes_of {n : Nat} {cs : List Value} {y : DataW H × List MemPlace} (h : DataW.trod enc Try.prog w base spare held n 23 cs = some y) : ∃ (A : Option Addr) (cp : Nat) (l : List Q4), cs = [.slice A l.length cp] ∧ Qs w A l ∧ l.length ≤ maxLen ∧ l.length ≤ cp ∧ ∀ g ∈ l, OK4 g := by
 rcases DataW.trod_slice Try.underlying23 h with ⟨rfl, _⟩ | ⟨a, len, cap, elems, rest, m, _, rfl, _, hb, hl, hm, hlen, hel, _, _⟩
 ·exact ⟨none, 0, [], rfl, Reads.none_, by simp, by simp, by simp⟩
 ·have hc2 : Try.prog.cellsOf 46 = 4 := by kernel_rfl
  rw [hc2] at hel
  have each : ∀ i, i < len → ∃ g : Q4, w.cells? base (a.add (i * 4)) 4 = some g.ls ∧ OK4 g := by
   intro i hi
   have h1 := hel i hi
   rw [List.getElem?_eq_getElem (by omega), Option.bind_eq_some_iff] at h1
   obtain ⟨cs', hcs, hy⟩ := h1
   obtain ⟨g, rfl, ok⟩ := node_of hy
   exact ⟨g, hcs, ok⟩
  have lst : ∀ j, j ≤ len → ∃ l : List Q4, l.length = j ∧ (∀ i (g : Q4), l[i]? = some g → w.cells? base (a.add (i * 4)) 4 = some g.ls) ∧ ∀ g ∈ l, OK4 g := by
   intro j
   induction j with
   | zero => exact fun _ => ⟨[], rfl, by simp, by simp⟩
   | succ j ih =>
    intro hj
    obtain ⟨l, h1, h2, h3⟩ := ih (by omega)
    obtain ⟨g, hg, ok⟩ := each j (by omega)
    refine ⟨l ++ [g], by simp [h1], fun i x hx => ?_, fun x hx => ?_⟩
    ·by_cases hi : i < l.length
     ·exact h2 i x (by rwa [List.getElem?_append_left hi] at hx)
     ·have hij : i = j := by
       have := (List.getElem?_eq_some_iff.1 hx).1
       simp at this
       omega
      subst hij
      rw [List.getElem?_append_right (by omega)] at hx
      simp [h1] at hx
      subst hx
      exact hg
    ·rcases List.mem_append.1 hx with hx | hx
     ·exact h3 x hx
     ·simp only [List.mem_singleton] at hx
      subst hx
      exact ok
  obtain ⟨l, h1, h2, h9⟩ := lst len (Nat.le_refl _)
  refine ⟨some a, cap, l, by rw [h1], ⟨qcells_len l, fun hn => ?_⟩, by omega, by omega, h9⟩
  refine ⟨a, rfl, ?_, fun j u hu => ?_⟩
  ·have h3 := h2 0 l[0] (List.getElem?_eq_getElem hn)
   have := World.cells?_block h3 (by omega)
   rwa [block_of_add] at this
  ·have hj : j < l.length * 4 := by rw [← qcells_len]; exact (List.getElem?_eq_some_iff.1 hu).1
   have hi : j / 4 < l.length := by omega
   have hx := List.getElem?_eq_getElem hi
   have h3 := h2 (j / 4) l[j / 4] hx
   obtain ⟨_, _, h4⟩ := World.cells?_some h3
   have hjm : j = j / 4 * 4 + j % 4 := by omega
   rw [hjm, qcells_at l (j / 4) _ hx (j % 4) (by omega)] at hu
   have := h4 (j % 4) (by omega)
   rw [add_of_add, ← hjm] at this
   rw [this]
   exact hu
set_option maxRecDepth 100000 in
theorem link_of {n : Nat} {cs : List Value} {y : DataW H × List MemPlace} (h : DataW.trod enc Try.prog w base spare held n 49 cs = some y) : ∃ g : Q4, cs = g.ls ∧ OK4 g := by
 obtain ⟨xs, m, _, _, hl, hlen, hg⟩ := DataW.trod_struct Try.underlying49 h
 obtain ⟨a, e0, w0⟩ := part_int hg hlen 0 0 1 .i64 (by kernel_rfl)
 obtain ⟨b, e1, w1⟩ := part_int hg hlen 1 1 1 .i64 (by kernel_rfl)
 obtain ⟨c, e2, w2⟩ := part_int hg hlen 2 2 1 .i64 (by kernel_rfl)
 obtain ⟨d, e3, w3⟩ := part_int hg hlen 3 3 1 .i64 (by kernel_rfl)
 have hl2 : cs.length = 4 := hl.trans (by kernel_rfl)
 refine ⟨⟨a, b, c, d⟩, ?_, in64_wf w0, in64_wf w1, in64_wf w2, in64_wf w3⟩
 match cs, hl2 with
 | [c0, c1, c2, c3], _ =>
  simp only [List.drop_zero, List.take_succ_cons, List.take_zero, List.drop_succ_cons, List.cons.injEq, and_true] at e0 e1 e2 e3
  rw [e0, e1, e2, e3]
  rfl
set_option maxRecDepth 100000 in
theorem links_of {n : Nat} {cs : List Value} {y : DataW H × List MemPlace} (h : DataW.trod enc Try.prog w base spare held n 24 cs = some y) : ∃ (A : Option Addr) (cp : Nat) (l : List Q4), cs = [.slice A l.length cp] ∧ Qs w A l ∧ l.length ≤ maxLen ∧ l.length ≤ cp ∧ ∀ g ∈ l, OK4 g := by
 rcases DataW.trod_slice Try.underlying24 h with ⟨rfl, _⟩ | ⟨a, len, cap, elems, rest, m, _, rfl, _, hb, hl, hm, hlen, hel, _, _⟩
 ·exact ⟨none, 0, [], rfl, Reads.none_, by simp, by simp, by simp⟩
 ·have hc2 : Try.prog.cellsOf 49 = 4 := by kernel_rfl
  rw [hc2] at hel
  have each : ∀ i, i < len → ∃ g : Q4, w.cells? base (a.add (i * 4)) 4 = some g.ls ∧ OK4 g := by
   intro i hi
   have h1 := hel i hi
   rw [List.getElem?_eq_getElem (by omega), Option.bind_eq_some_iff] at h1
   obtain ⟨cs', hcs, hy⟩ := h1
   obtain ⟨g, rfl, ok⟩ := link_of hy
   exact ⟨g, hcs, ok⟩
  have lst : ∀ j, j ≤ len → ∃ l : List Q4, l.length = j ∧ (∀ i (g : Q4), l[i]? = some g → w.cells? base (a.add (i * 4)) 4 = some g.ls) ∧ ∀ g ∈ l, OK4 g := by
   intro j
   induction j with
   | zero => exact fun _ => ⟨[], rfl, by simp, by simp⟩
   | succ j ih =>
    intro hj
    obtain ⟨l, h1, h2, h3⟩ := ih (by omega)
    obtain ⟨g, hg, ok⟩ := each j (by omega)
    refine ⟨l ++ [g], by simp [h1], fun i x hx => ?_, fun x hx => ?_⟩
    ·by_cases hi : i < l.length
     ·exact h2 i x (by rwa [List.getElem?_append_left hi] at hx)
     ·have hij : i = j := by
       have := (List.getElem?_eq_some_iff.1 hx).1
       simp at this
       omega
      subst hij
      rw [List.getElem?_append_right (by omega)] at hx
      simp [h1] at hx
      subst hx
      exact hg
    ·rcases List.mem_append.1 hx with hx | hx
     ·exact h3 x hx
     ·simp only [List.mem_singleton] at hx
      subst hx
      exact ok
  obtain ⟨l, h1, h2, h9⟩ := lst len (Nat.le_refl _)
  refine ⟨some a, cap, l, by rw [h1], ⟨qcells_len l, fun hn => ?_⟩, by omega, by omega, h9⟩
  refine ⟨a, rfl, ?_, fun j u hu => ?_⟩
  ·have h3 := h2 0 l[0] (List.getElem?_eq_getElem hn)
   have := World.cells?_block h3 (by omega)
   rwa [block_of_add] at this
  ·have hj : j < l.length * 4 := by rw [← qcells_len]; exact (List.getElem?_eq_some_iff.1 hu).1
   have hi : j / 4 < l.length := by omega
   have hx := List.getElem?_eq_getElem hi
   have h3 := h2 (j / 4) l[j / 4] hx
   obtain ⟨_, _, h4⟩ := World.cells?_some h3
   have hjm : j = j / 4 * 4 + j % 4 := by omega
   rw [hjm, qcells_at l (j / 4) _ hx (j % 4) (by omega)] at hu
   have := h4 (j % 4) (by omega)
   rw [add_of_add, ← hjm] at this
   rw [this]
   exact hu
set_option maxRecDepth 100000 in
theorem slot_of {n : Nat} {cs : List Value} {y : DataW H × List MemPlace} (h : DataW.trod enc Try.prog w base spare held n 53 cs = some y) : ∃ g : Q4, cs = g.ls ∧ OK4 g := by
 obtain ⟨xs, m, _, _, hl, hlen, hg⟩ := DataW.trod_struct Try.underlying53 h
 obtain ⟨a, e0, w0⟩ := part_int hg hlen 0 0 1 .i64 (by kernel_rfl)
 obtain ⟨b, e1, w1⟩ := part_int hg hlen 1 1 1 .i64 (by kernel_rfl)
 obtain ⟨c, e2, w2⟩ := part_int hg hlen 2 2 1 .i64 (by kernel_rfl)
 obtain ⟨d, e3, w3⟩ := part_int hg hlen 3 3 1 .i64 (by kernel_rfl)
 have hl2 : cs.length = 4 := hl.trans (by kernel_rfl)
 refine ⟨⟨a, b, c, d⟩, ?_, in64_wf w0, in64_wf w1, in64_wf w2, in64_wf w3⟩
 match cs, hl2 with
 | [c0, c1, c2, c3], _ =>
  simp only [List.drop_zero, List.take_succ_cons, List.take_zero, List.drop_succ_cons, List.cons.injEq, and_true] at e0 e1 e2 e3
  rw [e0, e1, e2, e3]
  rfl
set_option maxRecDepth 100000 in
theorem slots_of {n : Nat} {cs : List Value} {y : DataW H × List MemPlace} (h : DataW.trod enc Try.prog w base spare held n 33 cs = some y) : ∃ (A : Option Addr) (cp : Nat) (l : List Q4), cs = [.slice A l.length cp] ∧ Qs w A l ∧ l.length ≤ maxLen ∧ l.length ≤ cp ∧ ∀ g ∈ l, OK4 g := by
 rcases DataW.trod_slice Try.underlying33 h with ⟨rfl, _⟩ | ⟨a, len, cap, elems, rest, m, _, rfl, _, hb, hl, hm, hlen, hel, _, _⟩
 ·exact ⟨none, 0, [], rfl, Reads.none_, by simp, by simp, by simp⟩
 ·have hc2 : Try.prog.cellsOf 53 = 4 := by kernel_rfl
  rw [hc2] at hel
  have each : ∀ i, i < len → ∃ g : Q4, w.cells? base (a.add (i * 4)) 4 = some g.ls ∧ OK4 g := by
   intro i hi
   have h1 := hel i hi
   rw [List.getElem?_eq_getElem (by omega), Option.bind_eq_some_iff] at h1
   obtain ⟨cs', hcs, hy⟩ := h1
   obtain ⟨g, rfl, ok⟩ := slot_of hy
   exact ⟨g, hcs, ok⟩
  have lst : ∀ j, j ≤ len → ∃ l : List Q4, l.length = j ∧ (∀ i (g : Q4), l[i]? = some g → w.cells? base (a.add (i * 4)) 4 = some g.ls) ∧ ∀ g ∈ l, OK4 g := by
   intro j
   induction j with
   | zero => exact fun _ => ⟨[], rfl, by simp, by simp⟩
   | succ j ih =>
    intro hj
    obtain ⟨l, h1, h2, h3⟩ := ih (by omega)
    obtain ⟨g, hg, ok⟩ := each j (by omega)
    refine ⟨l ++ [g], by simp [h1], fun i x hx => ?_, fun x hx => ?_⟩
    ·by_cases hi : i < l.length
     ·exact h2 i x (by rwa [List.getElem?_append_left hi] at hx)
     ·have hij : i = j := by
       have := (List.getElem?_eq_some_iff.1 hx).1
       simp at this
       omega
      subst hij
      rw [List.getElem?_append_right (by omega)] at hx
      simp [h1] at hx
      subst hx
      exact hg
    ·rcases List.mem_append.1 hx with hx | hx
     ·exact h3 x hx
     ·simp only [List.mem_singleton] at hx
      subst hx
      exact ok
  obtain ⟨l, h1, h2, h9⟩ := lst len (Nat.le_refl _)
  refine ⟨some a, cap, l, by rw [h1], ⟨qcells_len l, fun hn => ?_⟩, by omega, by omega, h9⟩
  refine ⟨a, rfl, ?_, fun j u hu => ?_⟩
  ·have h3 := h2 0 l[0] (List.getElem?_eq_getElem hn)
   have := World.cells?_block h3 (by omega)
   rwa [block_of_add] at this
  ·have hj : j < l.length * 4 := by rw [← qcells_len]; exact (List.getElem?_eq_some_iff.1 hu).1
   have hi : j / 4 < l.length := by omega
   have hx := List.getElem?_eq_getElem hi
   have h3 := h2 (j / 4) l[j / 4] hx
   obtain ⟨_, _, h4⟩ := World.cells?_some h3
   have hjm : j = j / 4 * 4 + j % 4 := by omega
   rw [hjm, qcells_at l (j / 4) _ hx (j % 4) (by omega)] at hu
   have := h4 (j % 4) (by omega)
   rw [add_of_add, ← hjm] at this
   rw [this]
   exact hu
end
set_option maxRecDepth 100000 in
theorem open_slots {H : Type} {enc : TypeId × Value → H} {w : World} {r : Reach} {b0 : Nat} {v : Value} {d : DataW H} {p : List MemPlace} (hv : Value.okWide Try.prog w r b0 33 v) (h : DataW.Trod enc Try.prog w 0 (fun _ => true) true 33 v d p) :
 ∃ (A : Option Addr) (c : Nat) (l : List Q4), v = .slice A l.length c ∧ Qs w A l ∧ l.length ≤ maxLen ∧ l.length ≤ c ∧ ∀ g ∈ l, OK4 g := by
 obtain ⟨a0, len, cap, rfl⟩ := okWide_slice Try.underlying33 hv
 obtain ⟨fuel, hf⟩ := h
 obtain ⟨A, cp, l, e, hs, hm, hc, ok⟩ := slots_of hf
 have e2 : (Value.slice a0 len cap).cells.toList = [.slice a0 len cap] := rfl
 rw [e2] at e
 injection e with e
 exact ⟨A, cp, l, e, hs, hm, hc, ok⟩
set_option maxRecDepth 100000 in
theorem open_graph {H : Type} {enc : TypeId × Value → H} {w : World} {r : Reach} {b0 : Nat} {v : Value} {d : DataW H} {p : List MemPlace} (hv : Value.okWide Try.prog w r b0 26 v) (h : DataW.Trod enc Try.prog w 0 (fun _ => true) true 26 v d p) :
 ∃ (A : Option Addr) (c : Nat) (ns : List Q4) (A2 : Option Addr) (c2 : Nat) (ls : List Q4), v = .agg #[.slice A ns.length c, .slice A2 ls.length c2] ∧ ns.length ≤ c ∧ GOK w A A2 c2 ns ls := by
 obtain ⟨cs, rfl, hsz⟩ := okWide_struct Try.underlying26 hv
 obtain ⟨fuel, hf⟩ := h
 obtain ⟨xs, n, _, _, hcl, hlen, hg⟩ := DataW.trod_struct Try.underlying26 hf
 have hcs : (Value.agg cs).cells.toList = cs.toList := rfl
 rw [hcs] at hg hcl
 have hs2 : cs.size = 2 := hsz.trans (by kernel_rfl)
 obtain ⟨y1, t1⟩ := part_any hg hlen 0 0 1 23 (by kernel_rfl)
 obtain ⟨y2, t2⟩ := part_any hg hlen 1 1 1 24 (by kernel_rfl)
 obtain ⟨A, cp, ns, e1, h1, m1, hc1, ok1⟩ := nodes_of t1
 obtain ⟨A2, cp2, ls, e2, h2, m2, hc2, ok2⟩ := links_of t2
 unfold maxLen at m1 m2
 refine ⟨A, cp, ns, A2, cp2, ls, congrArg Value.agg ?_, hc1, h1, h2, by omega, by omega, hc2, fun n hn => (ok1 n hn).1, fun l hl => ⟨(ok2 l hl).1, (ok2 l hl).2.2.1⟩⟩
 obtain ⟨l, hl⟩ : ∃ l, cs.toList = l := ⟨_, rfl⟩
 have hl2 : l.length = 2 := by rw [← hl]; simpa using hs2
 rw [hl] at e1 e2
 apply Array.ext'
 rw [hl]
 match l, hl2 with
 | [x, y], _ =>
  simp only [List.drop_zero, List.take_succ_cons, List.take_zero, List.drop_succ_cons, List.cons.injEq, and_true] at e1 e2
  rw [e1, e2]
end Go.Proofs.Ytobhdldlhhigdaa

namespace Go.Proofs.Ytobhdldlhhigdaa
open Go.ChangeShapes Go.WideShapes Go.RowKit Go.Deep
set_option maxRecDepth 100000 in
/-- A slice of ints among the arguments. -/
theorem open_slice_ints {H : Type} {enc : TypeId × Value → H} {P : Program} {w : World} {r : Reach} {b0 : Nat} {t e : TypeId} {v : Value} {d : DataW H} {p : List MemPlace} (ht : P.underlying t = some (.slice e)) (he : P.underlying e = some (.int .i64)) (hc : P.cellsOf e = 1)
 (hv : Value.okWide P w r b0 t v) (h : DataW.Trod enc P w 0 (fun _ => true) true t v d p) :
 ∃ (A : Option Addr) (c : Nat) (l : List Int), v = .slice A l.length c ∧ Ints w A l ∧ l.length ≤ maxLen ∧ l.length ≤ c := by
 obtain ⟨a0, len, cap, rfl⟩ := okWide_slice ht hv
 obtain ⟨fuel, hf⟩ := h
 rcases open_ints ht he hc hf with ⟨hcs, _⟩ | ⟨a, len', cap', zs, hcs, _, hl, hm, hz, _, hcell, hwz⟩
 ·simp [Value.cells] at hcs
  obtain ⟨rfl, rfl, rfl⟩ := hcs
  exact ⟨none, 0, [], rfl, ⟨by simp, fun h => absurd h (by simp)⟩, by simp, by simp⟩
 ·simp [Value.cells] at hcs
  obtain ⟨rfl, rfl, rfl⟩ := hcs
  simp only [if_true] at hz
  have hlen : (zs.take len).length = len := by simp; omega
  refine ⟨some a, cap, zs.take len, by rw [hlen], ⟨by simp, fun _ => ⟨a, rfl, ?_, fun j u hu => ?_⟩⟩, by omega, by omega⟩
  ·have h0 : 0 < zs.length := by
    rename_i hpos
    rw [hlen] at hpos
    omega
   have := hcell 0 h0
   have hb : (a.add 0).block = a.block := block_of_add a 0
   rw [← hb]
   exact World.block_lt_of_cell? w _ this
  ·rw [List.getElem?_map] at hu
   obtain ⟨x, hx, rfl⟩ := Option.map_eq_some_iff.1 hu
   have hj : j < len := by
    have := (List.getElem?_eq_some_iff.1 hx).1
    rw [hlen] at this
    exact this
   rw [hcell j (by omega)]
   rw [List.getElem?_take, if_pos hj] at hx
   rw [List.getD_eq_getElem?_getD, hx]
   rfl
end Go.Proofs.Ytobhdldlhhigdaa

namespace Go.Proofs.Ytobhdldlhhigdaa
open Go.RowKit Go.Maps
set_option maxRecDepth 100000
def remN (ns : List Q4) (id : Int) : List Q4 := ns.filter fun n => n.a != id
def remL (ls : List Q4) (id : Int) : List Q4 := ls.filter fun l => l.a != id && l.c != id
def disL (ls : List Q4) (l : Q4) : List Q4 := ls.filter fun x => decide (x ≠ l)
theorem filter_snoc {p : Q4 → Bool} {l : List Q4} {k : Nat} {x : Q4} (h : l[k]? = some x) : (l.take (k + 1)).filter p = if p x = true then (l.take k).filter p ++ [x] else (l.take k).filter p := by
 rw [take_snoc h, List.filter_append]
 by_cases e : p x = true
 ·simp [e]
 ·simp [e]
theorem sum_set : ∀ {cs : List Int} {k : Nat} {c v : Int}, cs[k]? = some c → sumL (cs.set k v) = sumL cs - c + v
 | [], _, _, _, h => by simp at h
 | x :: cs, 0, c, v, h => by
  simp only [List.getElem?_cons_zero, Option.some.injEq] at h
  subst h
  simp only [List.set_cons_zero, sumL]
  omega
 | x :: cs, k + 1, c, v, h => by
  simp only [List.getElem?_cons_succ] at h
  simp only [List.set_cons_succ, sumL]
  rw [sum_set h]
  omega
theorem bound_lower {ns ls : List Q4} {cs : List Int} {wk : Int} (h : probB ns ls cs wk = true) {k : Nat} {c v : Int} (hk : cs[k]? = some c) (hv : v ≤ c) : boundG ns ls (cs.set k v) wk ≤ boundG ns ls cs wk := by
 refine bound_le h (fun _ h => h) (fun _ h => h) (fun n hn => ?_) ?_
 ·unfold wOf
  cases hp : placeN ns n.a with
  | none => exact Int.le_refl _
  | some j =>
   show (cs.set k v).getD j 0 ≤ cs.getD j 0
   rw [List.getD_eq_getElem?_getD, List.getD_eq_getElem?_getD, List.getElem?_set]
   by_cases e : k = j
   ·subst e
    rw [if_pos rfl, if_pos (List.getElem?_eq_some_iff.1 hk).1, hk]
    exact hv
   ·rw [if_neg e]
    exact Int.le_refl _
 ·rw [sum_set hk]
  omega
theorem bound_cut {ns ls : List Q4} {cs : List Int} {wk : Int} (h : probB ns ls cs wk = true) (l : Q4) : boundG ns (disL ls l) cs wk ≤ boundG ns ls cs wk :=
 bound_le h (fun _ h => h) (fun _ h => (List.mem_filter.1 h).1) (fun _ _ => Int.le_refl _) (Int.le_refl _)
theorem rem_take {ns : List Q4} (ha : ns.Pairwise fun x y => x.a < y.a) {k : Nat} {n : Q4} (hx : ns[k]? = some n) : remN ns n.a = ns.take k ++ ns.drop (k + 1) := by
 obtain ⟨hk, e⟩ := List.getElem?_eq_some_iff.1 hx
 have hs : ns = ns.take k ++ n :: ns.drop (k + 1) := by
  have := List.take_append_drop k ns
  rw [List.drop_eq_getElem_cons hk, e] at this
  exact this.symm
 rw [hs] at ha
 obtain ⟨h1, h2, h3⟩ := List.pairwise_append.1 ha
 have h4 := (List.pairwise_cons.1 h2).1
 unfold remN
 conv => lhs; rw [hs]
 rw [List.filter_append, List.filter_cons, if_neg (by simp), List.filter_eq_self.2 (fun x hx => ?_), List.filter_eq_self.2 (fun x hx => ?_)]
 ·have := h4 x hx
  simp only [bne_iff_ne, ne_eq]
  omega
 ·have := h3 x hx n (by simp)
  simp only [bne_iff_ne, ne_eq]
  omega
theorem ids_nd {ns : List Q4} (ha : ns.Pairwise fun x y => x.a < y.a) : (ns.map Q4.a).Nodup := by
 rw [List.Nodup, List.pairwise_map]
 exact ha.imp fun h => by omega
theorem wOf_idx {ns : List Q4} (hn : (ns.map Q4.a).Nodup) {cs : List Int} {j : Nat} {m : Q4} (hm : ns[j]? = some m) : wOf ns cs m.a = cs.getD j 0 := wOf_at (place_uniq hn hm)
theorem bound_small {ns ls : List Q4} {cs : List Int} {wk : Int} (h : probB ns ls cs wk = true) {k : Nat} {n : Q4} (hx : ns[k]? = some n) : boundG (remN ns n.a) (remL ls n.a) (cs.take k ++ cs.drop (k + 1)) wk ≤ boundG ns ls cs wk := by
 have hv := (prob_iff.1 h).1
 have hw := (prob_iff.1 h).2.1
 have ha := valid_asc hv
 have hcl := okW_len hw
 obtain ⟨hk, e⟩ := List.getElem?_eq_some_iff.1 hx
 have hall := okW_all hw
 refine bound_le h (fun m hm => (List.mem_filter.1 hm).1) (fun m hm => (List.mem_filter.1 hm).1) (fun m hm => ?_) ?_
 ·rw [rem_take ha hx] at hm ⊢
  have ha2 : (ns.take k ++ ns.drop (k + 1)).Pairwise fun x y => x.a < y.a := by
   rw [← rem_take ha hx]
   exact ha.sublist List.filter_sublist
  have hlt : (ns.take k).length = k := by rw [List.length_take]; omega
  have hlc : (cs.take k).length = k := by rw [List.length_take]; omega
  refine Int.le_of_eq ?_
  rcases List.mem_append.1 hm with hm | hm
  ·obtain ⟨j, hj, e2⟩ := List.mem_iff_getElem.1 hm
   have hjk : j < k := by omega
   have h1 : (ns.take k ++ ns.drop (k + 1))[j]? = some m := by
    rw [List.getElem?_append_left hj, List.getElem?_eq_getElem hj, e2]
   have h2 : ns[j]? = some m := by
    rw [List.getElem_take] at e2
    rw [List.getElem?_eq_getElem (by omega), e2]
   rw [wOf_idx (ids_nd ha2) h1, wOf_idx (ids_nd ha) h2, List.getD_eq_getElem?_getD, List.getD_eq_getElem?_getD, List.getElem?_append_left (by omega), List.getElem?_take, if_pos hjk]
  ·obtain ⟨j, hj, e2⟩ := List.mem_iff_getElem.1 hm
   have hjl : j + (k + 1) < ns.length := by rw [List.length_drop] at hj; omega
   have h1 : (ns.take k ++ ns.drop (k + 1))[k + j]? = some m := by
    rw [List.getElem?_append_right (by omega), hlt, Nat.add_sub_cancel_left, List.getElem?_eq_getElem hj, e2]
   have h2 : ns[k + 1 + j]? = some m := by
    rw [List.getElem_drop] at e2
    rw [List.getElem?_eq_getElem (by omega), e2]
   rw [wOf_idx (ids_nd ha2) h1, wOf_idx (ids_nd ha) h2, List.getD_eq_getElem?_getD, List.getD_eq_getElem?_getD, List.getElem?_append_right (by omega), hlc, Nat.add_sub_cancel_left, List.getElem?_drop]
 ·have hkc : k < cs.length := by omega
  have hs : cs = cs.take k ++ cs[k] :: cs.drop (k + 1) := by
   have := List.take_append_drop k cs
   rw [List.drop_eq_getElem_cons hkc] at this
   exact this.symm
  have hc := hall cs[k] (List.getElem_mem hkc)
  have e3 : sumL cs = sumL (cs.take k) + (cs[k] + sumL (cs.drop (k + 1))) := by
   conv => lhs; rw [hs]
   rw [sumL_append]
   rfl
  rw [e3, sumL_append]
  omega
theorem bound_empty {ns ls : List Q4} {cs : List Int} {wk : Int} (hn : ns.length = 0) : boundG ns ls cs wk = 0 := by
 have e : ns = [] := List.eq_nil_of_length_eq_zero hn
 subst e
 unfold boundG
 split
 ·rename_i h
  have hc := okW_len (prob_iff.1 h).2.1
  have e2 : cs = [] := List.eq_nil_of_length_eq_zero hc
  subst e2
  have e3 : orderL [] ls = [] := rfl
  rw [e3]
  show ((0 : Int) + (wk - 1) * 0) / wk = 0
  rw [Int.mul_zero, Int.zero_add, Int.zero_ediv]
 ·rfl
end Go.Proofs.Ytobhdldlhhigdaa

namespace Go.Proofs.Ytobhdldlhhigdaa
open Go.RowKit
theorem part_arr {P : Program} (w : World) {e : TypeId} (cs : Array Value) {k : Nat} {kd : IntKind} {i : TypeInfo} {v : Value} (he : P.underlying e = some (.int kd)) (hi : P.info? e = some i) (h1 : i.size = 1) (hx : cs[k]? = some v) :
 (part e cs k).run P w = .ok v w := by
 have hagg : (isAgg e).run P w = .ok false w := by
  unfold isAgg
  rw [Sem.run_bind, run_underlying he w]
  simp
 simp [part, sizeOf, typeInfo, hi, h1, hagg, hx]
theorem arr_same {P : Program} (w : World) (D d : Nat) (hD : D = d + 2) {t e : TypeId} {N : Nat} {i : TypeInfo} (cs : Array Value) (b : Nat → Int) (ht : P.underlying t = some (.array N e)) (he : P.underlying e = some (.int .i64)) (hi : P.info? e = some i) (h1 : i.size = 1) (hc1 : P.cellsOf e = 1) (hc : ∀ j, j < N → cs[j]? = some (.int .i64 (b j))) :
 (Op.equalIn D t (.agg cs) (.agg cs)).run P w = .ok true w := by
 subst hD
 rw [run_equalIn_array (P := P) (w := w) (d := d + 1) (xs := cs) (ys := cs) ht hi, hc1]
 have key : ∀ is : List Nat, (∀ j ∈ is, j < N) → (Op.eqItems (d + 1) e 1 cs cs is).run P w = .ok true w := by
  intro is
  induction is with
  | nil => intro _; simp [Op.eqItems]
  | cons j is ih =>
   intro h
   have hj := hc j (h j (by simp))
   have hp := part_arr (P := P) w cs he hi h1 hj
   have := ih fun k hk => h k (by simp [hk])
   simp [Op.eqItems, Sem.run_bind, hp, run_equalIn_int (w := w) d e .i64 .i64 (b j) (b j) he, this]
 exact key _ fun j hj => List.mem_range.1 hj
/-- 'a == a' and 'a != a' of an array of numbers. -/
theorem eql_arr {P : Program} (w : World) {t e : TypeId} {N : Nat} {i : TypeInfo} (cs : Array Value) (b : Nat → Int) (ht : P.underlying t = some (.array N e)) (he : P.underlying e = some (.int .i64)) (hi : P.info? e = some i) (h1 : i.size = 1) (hc1 : P.cellsOf e = 1) (hc : ∀ j, j < N → cs[j]? = some (.int .i64 (b j))) :
 (binOp .eql t (.agg cs) (.agg cs)).run P w = .ok (.bool true) w := by
 have := arr_same w 10000 9998 rfl cs b ht he hi h1 hc1 hc
 simp only [binOp]
 simp only [Op.equal, Op.maxDepth, Sem.run_bind, this, Result.andThen_ok, Sem.run_pure]
theorem neq_arr {P : Program} (w : World) {t e : TypeId} {N : Nat} {i : TypeInfo} (cs : Array Value) (b : Nat → Int) (ht : P.underlying t = some (.array N e)) (he : P.underlying e = some (.int .i64)) (hi : P.info? e = some i) (h1 : i.size = 1) (hc1 : P.cellsOf e = 1) (hc : ∀ j, j < N → cs[j]? = some (.int .i64 (b j))) :
 (binOp .neq t (.agg cs) (.agg cs)).run P w = .ok (.bool false) w := by
 have := arr_same w 10000 9998 rfl cs b ht he hi h1 hc1 hc
 simp only [binOp]
 simp only [Op.equal, Op.maxDepth, Sem.run_bind, this, Result.andThen_ok, Sem.run_pure, Bool.not_true]
section
variable {P : Program} {ops : Array Oper} {rest : List Oper} {o : Oper} {a : Act} {w : World} {Q : Exit → Act → World → Prop} {g : Nat} {t ty : TypeId} {cs old : Array Value} {d : TypeDesc}
theorem wpList_ran (hgd : Region.wanted o (yielded ops a.tmps) = true) {u : Value} (hr : (execOp a.eval o).run P w = .ok (.value u) w)
 (h : wpList P ops Q rest (a.put o.dst u) w) : wpList P ops Q (o :: rest) a w :=
 BigFrame.wpList_want hgd fun _ hK => by
  unfold Oper.wp
  rw [hr]
  exact hK _ _ h
theorem ran_part {ev : Operand → Value} (p : Operand) (ho : o.op = .load ty p) {A : Addr} (hp : ev p = .pointer (some A)) (hc : ∀ j v, cs[j]? = some v → w.cell? (A.add j) = some v)
 (hu : P.underlying ty = some d) (hd : (match d with | .struct _ | .array _ _ => true | _ => false) = true) (hi : (P.info? ty).map (·.size) = some cs.size) :
 (execOp ev o).run P w = .ok (.value (.agg cs)) w := by
 have hl := run_load_part (P := P) w A ty cs d hc hu hd hi
 unfold execOp
 simp only [ho, Instr.loadAt, Instr.sureAddr, Sem.run_bind, Sem.run_pure, Result.andThen_ok, hp, hl]
theorem guard_agg {b : BinOp} {p q : Operand} {xs ys : Array Value} (hg : P.eqGuardType P.depth t = false) : (eqGuard b t p q (.agg xs) (.agg ys)).run P w = .ok () w := by
 unfold eqGuard
 cases b <;> simp [hg]
theorem ran_bin {ev : Operand → Value} {b : BinOp} {t2 : TypeId} (p q : Operand) (ho : o.op = .binOp b t p q t2) {xs ys : Array Value} {v : Value} (hp : ev p = .agg xs) (hq : ev q = .agg ys) (hg : P.eqGuardType P.depth t = false) (h : (binOp b t (.agg xs) (.agg ys)).run P w = .ok v w) :
 (execOp ev o).run P w = .ok (.value v) w := by
 have hgu := guard_agg (P := P) (w := w) (t := t) (b := b) (p := p) (q := q) (xs := xs) (ys := ys) hg
 unfold execOp
 simp only [ho, Sem.run_bind, Sem.run_pure, Result.andThen_ok, hp, hq, h, hgu]
end
end Go.Proofs.Ytobhdldlhhigdaa

namespace Go.Proofs.Ytobhdldlhhigdaa
open Go.RowKit Go.Maps
/-- A graph of one's own that is handed back. -/
def RemR (ns' ls' : List Q4) (base : Nat) (e : Ending) (w' : World) : Prop := ∃ v1 v2, e = .returned (.tuple #[.agg #[v1, v2], .int .i64 0]) ∧ OwnN w' base v1 ns' ∧ OwnL w' base v2 ls'
set_option maxRecDepth 100000 in
theorem OwnN.kept_ {w w' : World} {base : Nat} {v : Value} {l : List Q4} (h : OwnN w base v l) {row : Option Nat} (hg : w.grownBy w' row) (hne : v.ownBlock = none ∨ v.ownBlock ≠ row) : OwnN w' base v l := World.ownsRow.kept h hg hne
set_option maxRecDepth 100000 in
theorem OwnL.kept_ {w w' : World} {base : Nat} {v : Value} {l : List Q4} (h : OwnL w base v l) {row : Option Nat} (hg : w.grownBy w' row) (hne : v.ownBlock = none ∨ v.ownBlock ≠ row) : OwnL w' base v l := World.ownsRow.kept h hg hne
set_option maxRecDepth 100000 in
set_option maxHeartbeats 16000000 in
theorem rem_any {A A2 : Option Addr} {c c2 : Nat} {ns ls : List Q4} {w : World} (n : Q4) (h : GOK w A A2 c2 ns ls) (hv : validG ns ls = true) (hn : n ∈ ns) :
 Calls Try.prog 21 #[.agg #[.slice A ns.length c, .slice A2 ls.length c2], .int .i64 n.a] w fun e w' => RemR (remN ns n.a) (remL ls n.a) w.heap.size e w' ∧ Grows w w' := by
 have HV := Lib.hid hv
 have hln := (valid_len hv).1
 have hLs := (valid_len hv).2
 have hfn : (findN ns n.a).isSome = true := by
  unfold findN
  rw [List.find?_isSome]
  exact ⟨n, hn, by simp⟩
 clear hv hn
 generalize n.a = id at *
 have k2 := (Blk.new w 26 #[.slice A ns.length c, .slice A2 ls.length c2]).alloc (Obj.cells #[.slice none 0 0, .slice none 0 0] 26)
 have k4 := blk_new2 w (Obj.cells #[.slice A ns.length c, .slice A2 ls.length c2] 26) 26 #[.slice none 0 0, .slice none 0 0]
 have hB := ((Below.refl w.heap.size w).alloc (Nat.le_refl _) (Obj.cells #[.slice A ns.length c, .slice A2 ls.length c2] 26)).alloc (by simp) (Obj.cells #[.slice none 0 0, .slice none 0 0] 26)
 go_enter Try.func21, Try.ntmps21
 go_upto_region 1 with fail
 generalize World.alloc (World.alloc w _) _ = w1 at *
 have x2 := k2.cell
 go_wp2_with fail
 refine (rvalid_is (h.grows hB)).mono ?_
 rw [HV.out]
 rintro e w2 ⟨rfl, hq⟩
 replace hB := below_grows hB (Nat.le_refl _) hq
 replace k2 := k2.grows hq
 replace k4 := k4.grows hq
 clear hq x2
 have x2 := k2.cell
 go_wp2_with fail
 refine (node_any A A2 c c2 ls.length ns id _ (h.grows hB).n h.nl).mono ?_
 rw [hfn]
 rintro e w4 ⟨rfl, hq⟩
 replace hB := below_grows hB (Nat.le_refl _) hq
 replace k2 := k2.grows hq
 replace k4 := k4.grows hq
 clear hq x2 hfn
 generalize nodeN ns id = nd at *
 obtain ⟨y0, y1, y2, y3⟩ := nd
 simp only [Q4.cs]
 have hq := (Below.refl w4.heap.size w4).alloc (Nat.le_refl _) (Obj.cells #[.int .i64 y0, .int .i64 y1, .int .i64 y2, .int .i64 y3] 46)
 go_upto_region 4 with fail
 replace hB := below_grows hB (Nat.le_refl _) hq
 replace k2 := k2.grows hq
 replace k4 := k4.grows hq
 clear hq
 generalize World.alloc w4 _ = w5 at *
 generalize w4.heap.size = G6 at *
 go_upto_region 6 with fail
 have k8 := Blk.new w5 26 #[.slice none 0 0, .slice none 0 0]
 have hq := (Below.refl w5.heap.size w5).alloc (Nat.le_refl _) (Obj.cells #[.slice none 0 0, .slice none 0 0] 26)
 have h4l := k4.lt
 have hG8 := hB.size
 go_upto_region 7 with fail
 replace hB := below_grows hB (Nat.le_refl _) hq
 replace k2 := k2.grows hq
 replace k4 := k4.grows hq
 clear hq
 generalize World.alloc w5 _ = w6 at *
 generalize w5.heap.size = G8 at *
 have hne1 : w.heap.size ≠ G8 := by omega
 have hne2 : w.heap.size + 1 ≠ G8 := by omega
 have x2 := k2.cell
 have hv := ownN_nil w6 w.heap.size
 go_wp2_with fail
 clear x2
 go_loopw [29] (fun i wr => ∃ (k : Nat) (v1 : Value), k ≤ ns.length ∧ i = .int .i64 k ∧ OwnN wr w.heap.size v1 (remN (ns.take k) id) ∧ Blk wr G8 26 #[v1, .slice none 0 0] ∧ Blk wr w.heap.size 26 #[.slice A ns.length c, .slice A2 ls.length c2] ∧ Blk wr (w.heap.size + 1) 26 #[.slice none 0 0, .slice none 0 0] ∧ Below w.heap.size w wr) (fun i _ => ns.length - (intOf i).toNat)
 case atStart => exact ⟨0, _, by omega, rfl, hv, k8, k2, k4, hB⟩
 case round =>
  clear hv k8 k2 k4 hB
  obtain ⟨k, v1, hk, rfl, hv, k8, k2, k4, hB⟩ := hrel
  by_cases hlt : k < ns.length
  ·have hbl : (remN (ns.take k) id).length ≤ 64 := by
    have := List.length_filter_le (fun n : Q4 => n.a != id) (ns.take k)
    rw [List.length_take] at this
    unfold remN
    omega
   obtain ⟨ad, x, e1, had, hx, q0, q1, q2, q3⟩ := (h.grows hB).n.elem hlt
   subst e1
   have HX := Lib.hid hx
   clear hx
   have kb := Blk.new wr 46 #[.int .i64 x.a, .int .i64 x.b, .int .i64 x.c, .int .i64 x.d]
   have hq := (Below.refl wr.heap.size wr).alloc (Nat.le_refl _) (Obj.cells #[.int .i64 x.a, .int .i64 x.b, .int .i64 x.c, .int .i64 x.d] 46)
   go_upto_region 10 with fail
   clear q0 q1 q2 q3
   replace hB := below_grows hB (Nat.le_refl _) hq
   replace k2 := k2.grows hq
   replace k4 := k4.grows hq
   replace k8 := k8.grows hq
   replace hv := hv.grows hq
   clear hq
   generalize World.alloc wr _ = w6 at *
   generalize wr.heap.size = Gb at *
   have HF := Lib.hid (filter_snoc (p := fun n : Q4 => n.a != id) HX.out)
   have xb := kb.cell
   by_cases he : x.a = id
   ·have HR : Hid (remN (ns.take (k + 1)) id = remN (ns.take k) id) := Lib.hid (by unfold remN; rw [HF.out, if_neg (by simp [he])])
    have he2 : (x.a != id) = false := by simp [he]
    clear he
    go_wp2
    go_roundw
    case rel => exact ⟨k + 1, v1, by omega, by go_num, by rw [HR.out]; exact hv, k8, k2, k4, hB⟩
    case measure => simp [intOf]; omega
   ·have HR : Hid (remN (ns.take (k + 1)) id = remN (ns.take k) id ++ [x]) := Lib.hid (by unfold remN; rw [HF.out, if_pos (by simp [he])])
    have he2 : (x.a != id) = true := by simp [he]
    go_upto_region 11 with fail
    have x8 := k8.cell
    refine wp_region_lit ?_
    iterate 4
     refine wpList_plain rfl (fun K hK => ?_)
     go_simp
     refine hK _ _ ?_
     clear hK K
    have hlit : Qs (w6.alloc (Obj.cells #[.int .i64 x.a, .int .i64 x.b, .int .i64 x.c, .int .i64 x.d] 46)) (some ⟨w6.heap.size, 0, none⟩) [x] := qs_lit w6 x 46
    have hq := (Below.refl w6.heap.size w6).alloc (Nat.le_refl _) (Obj.cells #[.int .i64 x.a, .int .i64 x.b, .int .i64 x.c, .int .i64 x.d] 46)
    replace hB := below_grows hB (Nat.le_refl _) hq
    replace k8 := k8.grows hq
    replace k2 := k2.grows hq
    replace k4 := k4.grows hq
    replace hv := hv.grows hq
    clear hq x8
    generalize World.alloc w6 _ = w20 at *
    generalize w6.heap.size = GL at *
    refine wpList_append_node rfl (.tmp 38) (.tmp 40) rfl (m := [x]) rfl rfl hv rfl hlit (by simp only [List.length_cons, List.length_nil]; omega) hB.size ?_
    intro v13 w13 hown hgr _
    replace k8 := k8.grown hgr (Ne.symm (own_blk_ne hv k8 (by decide)))
    replace k2 := k2.grown hgr (Ne.symm (own_blk_ne hv k2 (by decide)))
    replace k4 := k4.grown hgr (Ne.symm (own_blk_ne hv k4 (by decide)))
    replace hB := hv.below hB hgr hB.size
    clear hgr hlit hv
    obtain ⟨A7, n7, c7, hv7⟩ := hown.slc
    subst hv7
    have x8 := k8.cell
    have f8 := k8.frozen
    iterate 2
     refine wpList_plain rfl (fun K hK => ?_)
     go_simp
     refine hK _ _ ?_
     clear hK K
    have hgs := grown_setCell w13 ⟨G8, 0, none⟩ (.slice A7 n7 c7)
    have k82 : Blk (w13.setCell ⟨G8, 0, none⟩ (.slice A7 n7 c7)) G8 26 #[.slice A7 n7 c7, .slice none 0 0] := k8.set_ 0 (.slice A7 n7 c7)
    replace k2 := k2.grown hgs (fun e => hne1 (by injection e))
    replace k4 := k4.grown hgs (fun e => hne2 (by injection e))
    replace hown := World.ownsRow.kept hown hgs (.inr (own_blk_ne hown k8 (by decide)))
    replace hB := hB.grown hgs hB.size (fun q e => by injection e with e; subst e; exact hG8)
    clear hgs x8 f8 k8
    have k8 := k82
    clear k82
    generalize w13.setCell _ _ = w21 at *
    rw [← HR.out] at hown
    go_wp2
    go_roundw
    case rel => exact ⟨k + 1, .slice A7 n7 c7, by omega, by go_num, hown, k8, k2, k4, hB⟩
    case measure => simp [intOf]; omega
  ·rw [List.take_of_length_le (by omega)] at hv
   obtain ⟨A9, n9, c9, hv9⟩ := hv.slc
   subst hv9
   have hn := hv
   clear hv hk
   have hv := ownL_nil wr w.heap.size
   have x2 := k2.cell
   go_wp2_with fail
   clear x2
   go_loopw [47] (fun i wr => ∃ (k : Nat) (v2 : Value), k ≤ ls.length ∧ i = .int .i64 k ∧ OwnL wr w.heap.size v2 (remL (ls.take k) id) ∧ OwnN wr w.heap.size (.slice A9 n9 c9) (remN ns id) ∧ Blk wr G8 26 #[.slice A9 n9 c9, v2] ∧ Blk wr w.heap.size 26 #[.slice A ns.length c, .slice A2 ls.length c2] ∧ Blk wr (w.heap.size + 1) 26 #[.slice none 0 0, .slice none 0 0] ∧ Below w.heap.size w wr) (fun i _ => ls.length - (intOf i).toNat)
   case atStart => exact ⟨0, _, by omega, rfl, hv, hn, k8, k2, k4, hB⟩
   case round =>
    clear hv k8 k2 k4 hB hn hlt
    obtain ⟨k, v2, hk, rfl, hv, hn, k8, k2, k4, hB⟩ := hrel
    by_cases hlt : k < ls.length
    ·have hbl : (remL (ls.take k) id).length ≤ 256 := by
      have := List.length_filter_le (fun l : Q4 => l.a != id && l.c != id) (ls.take k)
      rw [List.length_take] at this
      unfold remL
      omega
     obtain ⟨ad, x, e1, had, hx, q0, q1, q2, q3⟩ := (h.grows hB).l.elem hlt
     subst e1
     have HX := Lib.hid hx
     clear hx
     have kb := Blk.new wr 49 #[.int .i64 x.a, .int .i64 x.b, .int .i64 x.c, .int .i64 x.d]
     have hq := (Below.refl wr.heap.size wr).alloc (Nat.le_refl _) (Obj.cells #[.int .i64 x.a, .int .i64 x.b, .int .i64 x.c, .int .i64 x.d] 49)
     go_upto_region 16 with fail
     clear q0 q1 q2 q3
     replace hB := below_grows hB (Nat.le_refl _) hq
     replace k2 := k2.grows hq
     replace k4 := k4.grows hq
     replace k8 := k8.grows hq
     replace hv := hv.grows hq
     replace hn := hn.grows hq
     clear hq
     generalize World.alloc wr _ = w6 at *
     generalize wr.heap.size = Gb at *
     have HF := Lib.hid (filter_snoc (p := fun l : Q4 => l.a != id && l.c != id) HX.out)
     have xb := kb.cell
     by_cases he : (x.a != id && x.c != id) = true
     ·have HR : Hid (remL (ls.take (k + 1)) id = remL (ls.take k) id ++ [x]) := Lib.hid (by unfold remL; rw [HF.out, if_pos he])
      have he1 : (x.a != id) = true := (Bool.and_eq_true_iff.1 he).1
      have he2 : (x.c != id) = true := (Bool.and_eq_true_iff.1 he).2
      clear he
      go_upto_region 17 with fail
      have x8 := k8.cell
      refine wp_region_lit ?_
      iterate 4
       refine wpList_plain rfl (fun K hK => ?_)
       go_simp
       refine hK _ _ ?_
       clear hK K
      have hlit : Qs (w6.alloc (Obj.cells #[.int .i64 x.a, .int .i64 x.b, .int .i64 x.c, .int .i64 x.d] 49)) (some ⟨w6.heap.size, 0, none⟩) [x] := qs_lit w6 x 49
      have hq := (Below.refl w6.heap.size w6).alloc (Nat.le_refl _) (Obj.cells #[.int .i64 x.a, .int .i64 x.b, .int .i64 x.c, .int .i64 x.d] 49)
      replace hB := below_grows hB (Nat.le_refl _) hq
      replace k8 := k8.grows hq
      replace k2 := k2.grows hq
      replace k4 := k4.grows hq
      replace hn := hn.grows hq
      replace hv := hv.grows hq
      clear hq x8
      generalize World.alloc w6 _ = w20 at *
      generalize w6.heap.size = GL at *
      refine wpList_append_link rfl (.tmp 62) (.tmp 64) rfl (m := [x]) rfl rfl hv rfl hlit (by simp only [List.length_cons, List.length_nil]; omega) hB.size ?_
      intro v13 w13 hown hgr _
      replace k8 := k8.grown hgr (Ne.symm (own_blk_ne hv k8 (by decide)))
      replace k2 := k2.grown hgr (Ne.symm (own_blk_ne hv k2 (by decide)))
      replace k4 := k4.grown hgr (Ne.symm (own_blk_ne hv k4 (by decide)))
      replace hn := World.ownsRow.kept hn hgr (own_apart hv hn (by decide))
      replace hB := hv.below hB hgr hB.size
      clear hgr hlit hv
      obtain ⟨A7, n7, c7, hv7⟩ := hown.slc
      subst hv7
      have x8 := k8.cell
      have f8 := k8.frozen
      iterate 2
       refine wpList_plain rfl (fun K hK => ?_)
       go_simp
       refine hK _ _ ?_
       clear hK K
      have hgs := grown_setCell w13 ⟨G8, 1, none⟩ (.slice A7 n7 c7)
      have k82 : Blk (w13.setCell ⟨G8, 1, none⟩ (.slice A7 n7 c7)) G8 26 #[.slice A9 n9 c9, .slice A7 n7 c7] := k8.set_ 1 (.slice A7 n7 c7)
      replace k2 := k2.grown hgs (fun e => hne1 (by injection e))
      replace k4 := k4.grown hgs (fun e => hne2 (by injection e))
      replace hn := World.ownsRow.kept hn hgs (.inr (own_blk_ne hn k8 (by decide)))
      replace hown := World.ownsRow.kept hown hgs (.inr (own_blk_ne hown k8 (by decide)))
      replace hB := hB.grown hgs hB.size (fun q e => by injection e with e; subst e; exact hG8)
      clear hgs x8 f8 k8
      have k8 := k82
      clear k82
      generalize w13.setCell _ _ = w21 at *
      rw [← HR.out] at hown
      go_wp2
      go_roundw
      case rel => exact ⟨k + 1, .slice A7 n7 c7, by omega, by go_num, hown, hn, k8, k2, k4, hB⟩
      case measure => simp [intOf]; omega
     ·have HR : Hid (remL (ls.take (k + 1)) id = remL (ls.take k) id) := Lib.hid (by unfold remL; rw [HF.out, if_neg he])
      cases he1 : (x.a != id)
      ·clear he
       go_wp2
       go_roundw
       case rel => exact ⟨k + 1, v2, by omega, by go_num, by rw [HR.out]; exact hv, hn, k8, k2, k4, hB⟩
       case measure => simp [intOf]; omega
      ·have he2 : (x.c != id) = false := by simpa [he1] using he
       clear he
       go_wp2
       go_roundw
       case rel => exact ⟨k + 1, v2, by omega, by go_num, by rw [HR.out]; exact hv, hn, k8, k2, k4, hB⟩
       case measure => simp [intOf]; omega
    ·rw [List.take_of_length_le (by omega)] at hv
     obtain ⟨A7, n7, c7, hv7⟩ := hv.slc
     subst hv7
     have x8 := k8.cell
     have x4 := k4.cell
     have f4 := k4.frozen
     go_wp2
     have k5 := (k4.set_ 0 (.slice A9 n9 c9)).set_ 1 (.slice A7 n7 c7)
     have hB5 := (hB.setCell (p := ⟨w.heap.size + 1, 0, none⟩) (by simp) (.slice A9 n9 c9)).setCell (p := ⟨w.heap.size + 1, 1, none⟩) (by simp) (.slice A7 n7 c7)
     have hn1 := OwnN.put hn k4 0 (.slice A9 n9 c9)
     have hn2 := OwnN.put hn1 (k4.set_ 0 (.slice A9 n9 c9)) 1 (.slice A7 n7 c7)
     have hl1 := OwnL.put hv k4 0 (.slice A9 n9 c9)
     have hl2 := OwnL.put hl1 (k4.set_ 0 (.slice A9 n9 c9)) 1 (.slice A7 n7 c7)
     clear x4 f4 hn1 hl1 hn hv k4 hB x8
     generalize World.setCell (World.setCell wr _ _) _ _ = w8 at *
     have x4 := k5.cell
     refine bodyPost_ret (v := .tuple #[.agg #[.slice A9 n9 c9, .slice A7 n7 c7], .int .i64 0]) (by simp [results, Try.results21, go_sem, x4]) rfl ⟨⟨_, _, rfl, hn2, hl2⟩, hB5⟩
set_option maxRecDepth 100000 in
theorem neq_lk (g h : Q4) (w : World) : (binOp .neq 49 (.agg #[.int .i64 g.a, .int .i64 g.b, .int .i64 g.c, .int .i64 g.d]) (.agg #[.int .i64 h.a, .int .i64 h.b, .int .i64 h.c, .int .i64 h.d])).run Try.prog w = .ok (.bool (!decide (g = h))) w := by
 have he : (binOp .eql 49 (.agg #[.int .i64 g.a, .int .i64 g.b, .int .i64 g.c, .int .i64 g.d]) (.agg #[.int .i64 h.a, .int .i64 h.b, .int .i64 h.c, .int .i64 h.d])).run Try.prog w = .ok (.bool (decide (g = h))) w := by
  obtain ⟨a, b, c, d⟩ := g
  obtain ⟨aa, bb, cc, dd⟩ := h
  simp only [Q4.mk.injEq]
  by_cases h0 : a = aa
  ·subst h0
   by_cases h1 : b = bb
   ·subst h1
    by_cases h2 : c = cc
    ·subst h2
     by_cases h3 : d = dd
     ·subst h3
      go_simp
     ·go_simp
    ·go_simp
   ·go_simp
  ·go_simp
 simp only [binOp] at he ⊢
 revert he
 cases hE : (Op.equal 49 (.agg #[.int .i64 g.a, .int .i64 g.b, .int .i64 g.c, .int .i64 g.d]) (.agg #[.int .i64 h.a, .int .i64 h.b, .int .i64 h.c, .int .i64 h.d])).run Try.prog w <;> simp [hE]
set_option maxRecDepth 100000 in
theorem ports_in {ns ls : List Q4} {l : Q4} (hv : validG ns ls = true) (hl : l ∈ ls) : portsL ns l = true := by
 have := (okK_iff ns ls).1 (valid_parts.1 hv).2.2.2.1
 rw [portsL_eq]
 exact this.1 l hl
set_option maxRecDepth 100000 in
set_option maxHeartbeats 16000000 in
theorem dis_any {A A2 : Option Addr} {c c2 : Nat} {ns ls : List Q4} {w : World} (l : Q4) (h : GOK w A A2 c2 ns ls) (hv : validG ns ls = true) (hl : l ∈ ls) :
 Calls Try.prog 22 #[.agg #[.slice A ns.length c, .slice A2 ls.length c2], .agg #[.int .i64 l.a, .int .i64 l.b, .int .i64 l.c, .int .i64 l.d]] w fun e w' => RemR ns (disL ls l) w.heap.size e w' ∧ Grows w w' := by
 have HV := Lib.hid hv
 have hln := (valid_len hv).1
 have hLs := (valid_len hv).2
 have HP := Lib.hid (ports_in hv hl)
 have HM : Hid (decide (l ∈ ls) = true) := Lib.hid (by simp [hl])
 clear hv hl
 have k2 := ((Blk.new w 26 #[.slice A ns.length c, .slice A2 ls.length c2]).alloc (Obj.cells #[.int .i64 l.a, .int .i64 l.b, .int .i64 l.c, .int .i64 l.d] 49)).alloc (Obj.cells #[.slice none 0 0, .slice none 0 0] 26)
 have k3 := (blk_new2 w (Obj.cells #[.slice A ns.length c, .slice A2 ls.length c2] 26) 49 #[.int .i64 l.a, .int .i64 l.b, .int .i64 l.c, .int .i64 l.d]).alloc (Obj.cells #[.slice none 0 0, .slice none 0 0] 26)
 have k4 := blk_new_at (X := (w.alloc (Obj.cells #[.slice A ns.length c, .slice A2 ls.length c2] 26)).alloc (Obj.cells #[.int .i64 l.a, .int .i64 l.b, .int .i64 l.c, .int .i64 l.d] 49)) (n := w.heap.size + 1 + 1) (t := 26) (cs := #[.slice none 0 0, .slice none 0 0]) (by simp)
 have hB := (((Below.refl w.heap.size w).alloc (Nat.le_refl _) (Obj.cells #[.slice A ns.length c, .slice A2 ls.length c2] 26)).alloc (by simp) (Obj.cells #[.int .i64 l.a, .int .i64 l.b, .int .i64 l.c, .int .i64 l.d] 49)).alloc (by simp; omega) (Obj.cells #[.slice none 0 0, .slice none 0 0] 26)
 go_enter Try.func22, Try.ntmps22
 go_upto_region 1 with fail
 generalize World.alloc (World.alloc (World.alloc w _) _) _ = w1 at *
 have x2 := k2.cell
 go_wp2_with fail
 refine (rvalid_is (h.grows hB)).mono ?_
 rw [HV.out]
 rintro e w2 ⟨rfl, hq⟩
 replace hB := below_grows hB (Nat.le_refl _) hq
 replace k2 := k2.grows hq
 replace k3 := k3.grows hq
 replace k4 := k4.grows hq
 clear hq x2
 have x2 := k2.cell
 have x3 := k3.cell
 go_wp2_with fail
 refine (ports_any A A2 c c2 ls.length ns l _ (h.grows hB).n h.nl).mono ?_
 rw [HP.out]
 rintro e w3 ⟨rfl, hq⟩
 replace hB := below_grows hB (Nat.le_refl _) hq
 replace k2 := k2.grows hq
 replace k3 := k3.grows hq
 replace k4 := k4.grows hq
 clear hq x2 x3
 have x2 := k2.cell
 have x3 := k3.cell
 go_wp2_with fail
 refine (has_any A A2 c c2 ns.length ls l _ (h.grows hB).l h.ll).mono ?_
 rw [HM.out]
 rintro e w4 ⟨rfl, hq⟩
 replace hB := below_grows hB (Nat.le_refl _) hq
 replace k2 := k2.grows hq
 replace k3 := k3.grows hq
 replace k4 := k4.grows hq
 clear hq x2 x3
 have x2 := k2.cell
 go_upto_region 5 with fail
 refine wp_region_lit ?_
 iterate 2
  refine wpList_plain rfl (fun K hK => ?_)
  go_simp
  refine hK _ _ ?_
  clear hK K
 refine wpList_append_node rfl (.const (.slice none 0 0)) (.tmp 27) rfl (l := []) (m := ns) rfl rfl (ownN_nil _ w.heap.size) rfl (h.grows hB).n (by simp only [List.length_nil]; omega) hB.size ?_
 intro v5 w5 hn hgr _
 have hq : Grows w4 w5 := (Below.refl _ _).grown hgr (Nat.le_refl _) (fun q hq => by cases hq)
 replace hB := below_grows hB (Nat.le_refl _) hq
 replace k2 := k2.grows hq
 replace k3 := k3.grows hq
 replace k4 := k4.grows hq
 clear hq hgr x2
 rw [List.nil_append] at hn
 obtain ⟨A9, n9, c9, hv9⟩ := hn.slc
 subst hv9
 have k8 := Blk.new w5 26 #[.slice A9 n9 c9, .slice none 0 0]
 have hq := (Below.refl w5.heap.size w5).alloc (Nat.le_refl _) (Obj.cells #[.slice A9 n9 c9, .slice none 0 0] 26)
 have h4l := k4.lt
 have hG8 := hB.size
 go_upto_region 6 with fail
 replace hB := below_grows hB (Nat.le_refl _) hq
 replace k2 := k2.grows hq
 replace k3 := k3.grows hq
 replace k4 := k4.grows hq
 replace hn := hn.grows hq
 clear hq
 generalize World.alloc w5 _ = w6 at *
 generalize w5.heap.size = G8 at *
 have hne1 : w.heap.size ≠ G8 := by omega
 have hne3 : w.heap.size + 1 ≠ G8 := by omega
 have hne2 : w.heap.size + 1 + 1 ≠ G8 := by omega
 have x2 := k2.cell
 have hv := ownL_nil w6 w6.heap.size
 have hb9 := hB.size
 have hl9 : w.heap.size + 1 < w6.heap.size := k3.lt
 go_wp2_with fail
 clear x2
 generalize hb9e : w6.heap.size = b9 at hv hb9 hl9
 have hs9 : b9 ≤ w6.heap.size := Nat.le_of_eq hb9e.symm
 clear hb9e
 go_loopw [33] (fun i wr => ∃ (k : Nat) (v2 : Value), k ≤ ls.length ∧ i = .int .i64 k ∧ OwnL wr b9 v2 (disL (ls.take k) l) ∧ b9 ≤ wr.heap.size ∧ OwnN wr w.heap.size (.slice A9 n9 c9) ns ∧ Blk wr G8 26 #[.slice A9 n9 c9, v2] ∧ Blk wr w.heap.size 26 #[.slice A ns.length c, .slice A2 ls.length c2] ∧ Blk wr (w.heap.size + 1) 49 #[.int .i64 l.a, .int .i64 l.b, .int .i64 l.c, .int .i64 l.d] ∧ Blk wr (w.heap.size + 1 + 1) 26 #[.slice none 0 0, .slice none 0 0] ∧ Below w.heap.size w wr) (fun i _ => ls.length - (intOf i).toNat)
 case atStart => exact ⟨0, _, by omega, rfl, hv, hs9, hn, k8, k2, k3, k4, hB⟩
 case round =>
  clear hv k8 k2 k3 k4 hB hn hs9
  obtain ⟨k, v2, hk, rfl, hv, hs9, hn, k8, k2, k3, k4, hB⟩ := hrel
  by_cases hlt : k < ls.length
  ·have hbl : (disL (ls.take k) l).length ≤ 256 := by
    have := List.length_filter_le (fun x : Q4 => decide (x ≠ l)) (ls.take k)
    rw [List.length_take] at this
    unfold disL
    omega
   obtain ⟨ad, x, e1, had, hx, q0, q1, q2, q3⟩ := (h.grows hB).l.elem hlt
   subst e1
   have HX := Lib.hid hx
   clear hx
   have kb := Blk.new wr 49 #[.int .i64 x.a, .int .i64 x.b, .int .i64 x.c, .int .i64 x.d]
   have hq := (Below.refl wr.heap.size wr).alloc (Nat.le_refl _) (Obj.cells #[.int .i64 x.a, .int .i64 x.b, .int .i64 x.c, .int .i64 x.d] 49)
   go_upto_region 9 with fail
   clear q0 q1 q2 q3
   replace hB := below_grows hB (Nat.le_refl _) hq
   replace k2 := k2.grows hq
   replace k3 := k3.grows hq
   replace k4 := k4.grows hq
   replace k8 := k8.grows hq
   replace hv := hv.grows hq
   replace hn := hn.grows hq
   replace hs9 := Nat.le_trans hs9 hq.size
   clear hq
   generalize World.alloc wr _ = w6 at *
   generalize wr.heap.size = Gb at *
   have HF := Lib.hid (filter_snoc (p := fun x : Q4 => decide (x ≠ l)) HX.out)
   have xb := kb.cell
   have x3 := k3.cell
   refine wp_region_lit ?_
   iterate 2
    refine wpList_plain rfl (fun K hK => ?_)
    go_simp
    refine hK _ _ ?_
    clear hK K
   refine wpList_ran (by first | rfl | kernel_rfl) (ran_bin (.tmp 37) (.tmp 38) rfl rfl rfl (by kernel_rfl) (neq_lk x l _)) ?_
   clear x3
   by_cases he : x = l
   ·have HR : Hid (disL (ls.take (k + 1)) l = disL (ls.take k) l) := Lib.hid (by unfold disL; rw [HF.out, if_neg (by simp [he])])
    have he2 : decide (x = l) = true := by simp [he]
    rw [he2]
    clear he he2
    go_wp2
    go_roundw
    case rel => exact ⟨k + 1, v2, by omega, by go_num, by rw [HR.out]; exact hv, hs9, hn, k8, k2, k3, k4, hB⟩
    case measure => simp [intOf]; omega
   ·have HR : Hid (disL (ls.take (k + 1)) l = disL (ls.take k) l ++ [x]) := Lib.hid (by unfold disL; rw [HF.out, if_pos (by simp [he])])
    have he2 : decide (x = l) = false := by simp [he]
    rw [he2]
    clear he he2
    go_upto_region 10 with fail
    have x8 := k8.cell
    refine wp_region_lit ?_
    iterate 4
     refine wpList_plain rfl (fun K hK => ?_)
     go_simp
     refine hK _ _ ?_
     clear hK K
    have hlit : Qs (w6.alloc (Obj.cells #[.int .i64 x.a, .int .i64 x.b, .int .i64 x.c, .int .i64 x.d] 49)) (some ⟨w6.heap.size, 0, none⟩) [x] := qs_lit w6 x 49
    have hq := (Below.refl w6.heap.size w6).alloc (Nat.le_refl _) (Obj.cells #[.int .i64 x.a, .int .i64 x.b, .int .i64 x.c, .int .i64 x.d] 49)
    replace hB := below_grows hB (Nat.le_refl _) hq
    replace k8 := k8.grows hq
    replace k2 := k2.grows hq
    replace k4 := k4.grows hq
    replace hn := hn.grows hq
    replace hv := hv.grows hq
    replace k3 := k3.grows hq
    replace hs9 := Nat.le_trans hs9 hq.size
    clear hq x8
    generalize World.alloc w6 _ = w20 at *
    generalize w6.heap.size = GL at *
    refine wpList_append_link rfl (.tmp 41) (.tmp 43) rfl (m := [x]) rfl rfl hv rfl hlit (by simp only [List.length_cons, List.length_nil]; omega) hs9 ?_
    intro v13 w13 hown hgr _
    replace k8 := k8.grown hgr (Ne.symm (own_blk_ne hv k8 (by decide)))
    replace k2 := k2.grown hgr (Ne.symm (own_blk_ne hv k2 (by decide)))
    replace k4 := k4.grown hgr (Ne.symm (own_blk_ne hv k4 (by decide)))
    replace hn := World.ownsRow.kept hn hgr (own_apart hv hn (by decide))
    replace k3 := k3.grown hgr (fun e => absurd (World.ownsRow.lt hv _ e.symm).1 (by omega))
    replace hs9 := Nat.le_trans hs9 hgr.size
    replace hB := (hv.mono hb9).below hB hgr hB.size
    clear hgr hlit hv
    obtain ⟨A7, n7, c7, hv7⟩ := hown.slc
    subst hv7
    have x8 := k8.cell
    have f8 := k8.frozen
    iterate 2
     refine wpList_plain rfl (fun K hK => ?_)
     go_simp
     refine hK _ _ ?_
     clear hK K
    have hgs := grown_setCell w13 ⟨G8, 1, none⟩ (.slice A7 n7 c7)
    have k82 : Blk (w13.setCell ⟨G8, 1, none⟩ (.slice A7 n7 c7)) G8 26 #[.slice A9 n9 c9, .slice A7 n7 c7] := k8.set_ 1 (.slice A7 n7 c7)
    replace k2 := k2.grown hgs (fun e => hne1 (by injection e))
    replace k4 := k4.grown hgs (fun e => hne2 (by injection e))
    replace k3 := k3.grown hgs (fun e => hne3 (by injection e))
    replace hn := World.ownsRow.kept hn hgs (.inr (own_blk_ne hn k8 (by decide)))
    replace hown := World.ownsRow.kept hown hgs (.inr (own_blk_ne hown k8 (by decide)))
    replace hs9 := Nat.le_trans hs9 hgs.size
    replace hB := hB.grown hgs hB.size (fun q e => by injection e with e; subst e; exact hG8)
    clear hgs x8 f8 k8
    have k8 := k82
    clear k82
    generalize w13.setCell _ _ = w21 at *
    rw [← HR.out] at hown
    go_wp2
    go_roundw
    case rel => exact ⟨k + 1, .slice A7 n7 c7, by omega, by go_num, hown, hs9, hn, k8, k2, k3, k4, hB⟩
    case measure => simp [intOf]; omega
  ·rw [List.take_of_length_le (by omega)] at hv
   replace hv := hv.mono hb9
   obtain ⟨A7, n7, c7, hv7⟩ := hv.slc
   subst hv7
   have x8 := k8.cell
   have x4 := k4.cell
   have f4 := k4.frozen
   go_wp2
   have k5 := (k4.set_ 0 (.slice A9 n9 c9)).set_ 1 (.slice A7 n7 c7)
   have hB5 := (hB.setCell (p := ⟨w.heap.size + 1 + 1, 0, none⟩) (by simp; omega) (.slice A9 n9 c9)).setCell (p := ⟨w.heap.size + 1 + 1, 1, none⟩) (by simp; omega) (.slice A7 n7 c7)
   have hn1 := OwnN.put hn k4 0 (.slice A9 n9 c9)
   have hn2 := OwnN.put hn1 (k4.set_ 0 (.slice A9 n9 c9)) 1 (.slice A7 n7 c7)
   have hl1 := OwnL.put hv k4 0 (.slice A9 n9 c9)
   have hl2 := OwnL.put hl1 (k4.set_ 0 (.slice A9 n9 c9)) 1 (.slice A7 n7 c7)
   clear x4 f4 hn1 hl1 hn hv k4 hB x8
   generalize World.setCell (World.setCell wr _ _) _ _ = w8 at *
   have x4 := k5.cell
   refine bodyPost_ret (v := .tuple #[.agg #[.slice A9 n9 c9, .slice A7 n7 c7], .int .i64 0]) (by simp [results, Try.results22, go_sem, x4]) rfl ⟨⟨_, _, rfl, hn2, hl2⟩, hB5⟩
end Go.Proofs.Ytobhdldlhhigdaa

namespace Go.Proofs.Ytobhdldlhhigdaa
open Go.ChangeShapes Go.WideShapes Go.ChangeAt Go.RowKit
theorem okW_of {ns : List Q4} {cs : List Int} (h : cs.length = ns.length) (hr : ∀ x ∈ cs, 0 ≤ x ∧ x < 12) : okW ns cs = true := by
 unfold okW
 have : cs.any badW = false := by
  rw [List.any_eq_false]
  intro x hx
  have := hr x hx
  simp only [badW, Bool.or_eq_true, decide_eq_true_eq]
  omega
 rw [this, h]
 simp
theorem OwnI.put2 {w : World} {base g n c : Nat} {l : List Int} (h : OwnI w base (.slice (some ⟨g, 0, none⟩) n c) l) (hn : n = l.length) (k : Nat) (v : Int) : OwnI (w.setCell ⟨g, k, none⟩ (.int .i64 v)) base (.slice (some ⟨g, 0, none⟩) n c) (l.set k v) ∧ w.grownBy (w.setCell ⟨g, k, none⟩ (.int .i64 v)) (some g) := by
 subst hn
 obtain ⟨h1, h2⟩ := World.ownsRow.stored h k (.int .i64 v)
 refine ⟨?_, h2⟩
 unfold OwnI
 rw [List.length_set, List.map_set]
 exact h1
theorem gok_sub {w : World} {base : Nat} {v1 v2 : Value} {A A2 : Option Addr} {c2 : Nat} {ns ls ns' ls' : List Q4} (h : GOK w A A2 c2 ns ls) (h1 : OwnN w base v1 ns') (h2 : OwnL w base v2 ls') (hn : ∀ n ∈ ns', n ∈ ns) (hl : ∀ l ∈ ls', l ∈ ls) (e1 : ns'.length ≤ 1000) (e2 : ls'.length ≤ 1000) :
 ∃ B d B2 d2, v1 = .slice B ns'.length d ∧ v2 = .slice B2 ls'.length d2 ∧ GOK w B B2 d2 ns' ls' := by
 obtain ⟨B, d, r1, _, q1⟩ := h1.read
 obtain ⟨B2, d2, r2, hd2, q2⟩ := h2.read
 exact ⟨B, d, B2, d2, r1, r2, q1, q2, by omega, by omega, hd2, fun n hx => h.ni n (hn n hx), fun l hx => h.li l (hl l hx)⟩
theorem pbound_is {A A2 A3 : Option Addr} {c2 n : Nat} {ns ls : List Q4} {cs : List Int} {w : World} {b : Int} (c c3 : Nat) (wi : Int) (h : GOK w A A2 c2 ns ls) (h3 : Ints w A3 cs) (hl3 : cs.length ≤ 9223372036854775807) (hn : cs.length = n) (hb : boundG ns ls cs wi = b) :
 Calls Try.prog 19 #[.agg #[.slice A ns.length c, .slice A2 ls.length c2], .slice A3 n c3, .int .i64 wi] w fun e w' => e = .returned (.int .i64 b) ∧ Grows w w' := by
 subst hn hb
 exact pbound_any c c3 wi h h3 hl3
theorem ownI_empty (w : World) (base : Nat) (hb : base ≤ w.heap.size) : OwnI (w.alloc (Obj.cells #[] 3)) base (.slice (some ⟨w.heap.size, 0, none⟩) 0 0) [] :=
 ⟨rfl, .inr ⟨w.heap.size, 0, #[], rfl, hb, heap_alloc_new w _, Nat.le_refl _, by simp [maxLen], rfl, rfl⟩⟩
theorem ints_drop {w : World} {A : Option Addr} {l : List Int} (h : Ints w A l) {k cap : Nat} (hk : k ≤ l.length) (hc : l.length ≤ cap) : Ints w (if cap = k then A else A.map (fun x => x.add k)) (l.drop k) := by
 have h1 := Reads.cut h hk hc
 unfold Ints
 rw [List.length_drop, List.map_drop]
 simpa using h1
theorem ints_drop2 {w : World} {ad : Addr} {l : List Int} (h : Ints w (some ad) l) {k cap : Nat} (hk : k + 1 ≤ l.length) (hc : l.length ≤ cap) : Ints w (if cap = k + 1 then some ad else some ⟨ad.block, ad.off + (k + 1), none⟩) (l.drop (k + 1)) := by
 have h1 := ints_drop h hk hc
 have e : ad.add (k + 1) = ⟨ad.block, ad.off + (k + 1), none⟩ := by unfold Addr.add; rw [if_neg (by omega)]
 rw [← e]
 exact h1
theorem take_drop_len {cs : List Int} (k : Nat) (h : cs.length ≤ 8) : (cs.take k ++ cs.drop (k + 1)).length ≤ 9223372036854775807 := by
 simp only [List.length_append, List.length_take, List.length_drop]
 omega
namespace ScheduleMonotone
set_option maxRecDepth 100000 in
set_option maxHeartbeats 32000000 in
theorem walk (A0 : Option Addr) (c0 : Nat) (il : List Int) (at_ lk less wi : Int) (w : World) (hI0 : Ints w A0 il) (hil : il.length ≤ 9223372036854775807) :
 Calls Try.prog 5 #[.slice A0 il.length c0, .int .i64 at_, .int .i64 lk, .int .i64 less, .int .i64 wi] w fun e w' => e = .returned (.bool true) ∧ Below w.heap.size w w' := by
 have hB := Below.refl w.heap.size w
 go_enter Try.func5, Try.ntmps5
 go_wp2_with fail
 refine (sane_any _).mono ?_
 rintro e w2 ⟨rfl, hq⟩
 replace hB := below_grows hB (Nat.le_refl _) hq
 clear hq
 go_wp2_with fail
 refine (new_deck A0 c0 il _ (hI0.grows hB) hil).mono ?_
 rintro e w6 ⟨rfl, hD, hq⟩
 have hgd := hB.size
 replace hB := below_grows hB (Nat.le_refl _) hq
 clear hq
 go_wp2_with fail
 refine (graph_any _ A0 c0 il 0 _ hD).mono ?_
 rintro e w7 ⟨⟨v1, v2, v3, ns, ls, cs, k', rfl, hn, hl2, hi3, hv, hcl, hcr, hn8, hD3⟩, hq⟩
 replace hB := hB.grown hq hB.size (fun q e => by injection e; omega)
 clear hq hD hD3 hgd
 obtain ⟨A5, c5, A6, c6, rfl, rfl, hc5, hok⟩ := gok_of hn hl2 hv
 obtain ⟨A7, c7, rfl, hc7, hci⟩ := hi3.read
 have hlcs : cs.length ≤ 9223372036854775807 := by omega
 have HV := Lib.hid hv
 have HW : Hid (okW ns cs = true) := Lib.hid (okW_of hcl hcr)
 have HCL := Lib.hid hcl
 have HCR := Lib.hid hcr
 clear hv hcl hcr hn hl2 hi3
 have k8 := Blk.new w7 26 #[.slice A5 ns.length c5, .slice A6 ls.length c6]
 have hq := (Below.refl w7.heap.size w7).alloc (Nat.le_refl _) (Obj.cells #[.slice A5 ns.length c5, .slice A6 ls.length c6] 26)
 go_upto_region 4 with fail
 replace hB := below_grows hB (Nat.le_refl _) hq
 replace hok := hok.grows hq
 replace hci := hci.grows hq
 clear hq
 generalize World.alloc w7 _ = w8 at *
 generalize w7.heap.size = G8 at *
 have x8 := k8.cell
 go_wp2_with fail
 refine (mod_any wi 5 _ (by omega) (by omega)).mono ?_
 rintro e w9 ⟨rfl, rfl⟩
 have hwb : 0 ≤ wi % 5 ∧ wi % 5 < 5 := by omega
 obtain ⟨wn, hwn⟩ : ∃ wn : Nat, 1 + wi % 5 = (wn : Int) := ⟨(1 + wi % 5).toNat, by omega⟩
 have hwr : IntKind.i64.wrap (1 + wi % 5) = (wn : Int) := by rw [IntWalk.i64_in _ (by omega)]; exact hwn
 have hwn1 : 1 ≤ wn ∧ wn ≤ 5 := by omega
 clear hwb hwn
 go_upto_region 5 with fail
 clear hwr
 have HP : Hid (probB ns ls cs (wn : Int) = true) := Lib.hid (prob_iff.2 ⟨HV.out, HW.out, by omega, by omega⟩)
 have hln := (valid_len HV.out).1
 have hLs := (valid_len HV.out).2
 go_wp2_with fail
 refine (pbound_any c5 c7 (wn : Int) hok hci hlcs).mono ?_
 obtain ⟨b, hb⟩ : ∃ b, boundG ns ls cs (wn : Int) = b := ⟨_, rfl⟩
 have HBD := Lib.hid hb
 rw [hb]
 clear hb
 rintro e w10 ⟨rfl, hq⟩
 replace hB := below_grows hB (Nat.le_refl _) hq
 replace k8 := k8.grows hq
 replace hok := hok.grows hq
 replace hci := hci.grows hq
 clear hq x8
 have hB10 := hB.size
 have x8 := k8.cell
 by_cases h0 : ns.length = 0
 ·have hb0 : b = 0 := by rw [← HBD.out]; exact bound_empty h0
  subst hb0
  have h02 : ((ns.length : Int) == 0) = true := by
   simp only [beq_iff_eq]
   omega
  clear h0
  go_wp2
  go_ret
  exact ⟨rfl, hB⟩
 ·have h02 : ((ns.length : Int) == 0) = false := by
   simp only [beq_eq_false_iff_ne, ne_eq]
   omega
  go_wp2_with fail
  refine (mod_any at_ (ns.length : Int) _ (by omega) (by omega)).mono ?_
  have hkb := Int.emod_nonneg at_ (show (ns.length : Int) ≠ 0 by omega)
  have hkb2 := Int.emod_lt_of_pos at_ (show 0 < (ns.length : Int) by omega)
  obtain ⟨k, hk⟩ : ∃ k : Nat, at_ % (ns.length : Int) = (k : Int) := ⟨(at_ % (ns.length : Int)).toNat, by omega⟩
  rw [hk] at hkb hkb2 ⊢
  have hkl : k < ns.length := by omega
  clear hk hkb hkb2 h0 h02
  rintro e w11 ⟨rfl, rfl⟩
  go_upto_region 9 with fail
  refine wp_region_lit ?_
  iterate 1
   refine wpList_plain rfl (fun K hK => ?_)
   go_simp
   refine hK _ _ ?_
   clear hK K
  have ho := ownI_empty w10 w10.heap.size (Nat.le_refl _)
  have hq := (Below.refl w10.heap.size w10).alloc (Nat.le_refl _) (Obj.cells #[] 3)
  iterate 1
   refine wpList_plain rfl (fun K hK => ?_)
   go_simp
   refine hK _ _ ?_
   clear hK K
  refine wpList_append_int rfl (.tmp 46) (.tmp 47) rfl (l := []) (m := cs) rfl rfl ho rfl (hci.grows hq) (by simp only [List.length_nil]; have := HCL.out; omega) hq.size ?_
  intro v5 w12 ho2 hgr _
  rw [List.nil_append] at ho2
  have hG := ho.below hq hgr hq.size
  clear hq hgr ho x8
  have ho := ho2
  clear ho2
  have hcl0 : 0 < cs.length := by have := HCL.out; omega
  obtain ⟨gl, cl, hvl, -, -⟩ := World.ownsRow.form ho hcl0
  subst hvl
  have hkc : k < cs.length := by have := HCL.out; omega
  obtain ⟨ad3, ck, e3, had3, hck, p0⟩ := (hci.grows hG).at_ hkc
  have hckb := HCR.out ck (List.mem_of_getElem? hck)
  have HCK := Lib.hid hck
  subst e3
  have hfz := World.ownsRow.frozenAt ho k
  have hcl : w12.cell? ⟨gl, k, none⟩ = some (.int .i64 ck) := by rw [World.ownsRow.cellAt ho k (by omega), List.getElem?_map, hck]; rfl
  have hwr : IntKind.i64.wrap (ck + 1) = ck + 1 := IntWalk.i64_in _ (by omega)
  clear hck
  go_wp2_with fail
  refine (mod_any less (ck + 1) _ (by omega) (by omega)).mono ?_
  have hv0 := Int.emod_nonneg less (show ck + 1 ≠ 0 by omega)
  have hv1 := Int.emod_lt_of_pos less (show 0 < ck + 1 by omega)
  generalize less % (ck + 1) = vk at *
  rintro e w13 ⟨rfl, rfl⟩
  obtain ⟨ho2, hgs⟩ := OwnI.put2 ho rfl k vk
  have HLW : Hid (boundG ns ls (cs.set k vk) (wn : Int) ≤ b) := Lib.hid (by rw [← HBD.out]; exact bound_lower HP.out HCK.out (by omega))
  have hsl : (cs.set k vk).length = cs.length := List.length_set
  go_upto_region 11 with fail
  have hgl := (World.ownsRow.lt ho gl rfl).1
  replace hG := hG.grown hgs hG.size (fun q e => by injection e with e; subst e; exact hgl)
  replace hB := below_grows hB (Nat.le_refl _) hG
  replace k8 := k8.grows hG
  replace hok := hok.grows hG
  replace hci := hci.grows hG
  clear hgs ho hfz hcl hwr p0 hgl hG hv0 hv1
  rw [← hsl] at ho2
  generalize World.setCell w12 _ _ = w9 at *
  obtain ⟨nk, hnk⟩ : ∃ nk, ns[k]? = some nk := ⟨_, List.getElem?_eq_getElem hkl⟩
  have HNK := Lib.hid hnk
  obtain ⟨ad, n9, e9, had9, -, -, -, -, -⟩ := hok.n.elem hkl
  subst e9
  clear hnk
  obtain ⟨S, HI, HO⟩ := hideS fun (L : Ran) (vs : Nat → Value) (w' : World) => Below w9.heap.size w9 w' ∧ KnS [some (.agg #[.slice (some ad) ns.length c5, .slice A6 ls.length c6]), some (.pointer (some ⟨G8, 0, none⟩)), some (.slice (some ad) ns.length c5), some (.int .i64 (k : Int)), some (.pointer (some (ad.add (k * 4)))), some (.pointer (some (ad.add (k * 4)))), some (.int .i64 nk.a), none, none, none, some (.int .i64 0), none, none] L vs ∧ (L 7 = true → ∃ v1 v2, vs 7 = .tuple #[.agg #[v1, v2], .int .i64 0] ∧ OwnN w' w9.heap.size v1 (remN ns nk.a) ∧ OwnL w' w9.heap.size v2 (remL ls nk.a)) ∧ (L 8 = true → L 7 = true ∧ vs 8 = vs 7) ∧ (L 9 = true → L 7 = true ∧ ∃ v1 v2, vs 7 = .tuple #[.agg #[v1, v2], .int .i64 0] ∧ vs 9 = .agg #[v1, v2]) ∧ (L 11 = true → ∃ g, vs 11 = .pointer (some ⟨g, 0, none⟩) ∧ w9.heap.size ≤ g ∧ (L 12 = false → Blk w' g 26 #[.slice none 0 0, .slice none 0 0]) ∧ (L 12 = true → ∃ v1 v2, vs 7 = .tuple #[.agg #[v1, v2], .int .i64 0] ∧ Blk w' g 26 #[v1, v2])) ∧ (L 12 = true → L 11 = true ∧ L 9 = true)
  refine wp_region_genT S 13 125 (by kernel_rfl) (by kernel_rfl) rfl ?_ ?_
  ·exact HI.out _ _ _ ⟨Grows.drew' _, kn_none _ _, (fun h => by cases h), (fun h => by cases h), (fun h => by cases h), (fun h => by cases h), (fun h => by cases h)⟩
  simp only [List.take_succ_cons, List.take_zero, List.drop_succ_cons, List.drop_zero]
  refine gent_consR (fun vs L w1 hL hw1 => ?_) ?_
  ·obtain ⟨q0, q1, qa, qm, qx, ql, qs⟩ := HO.out _ _ _ hw1
   have x := (k8.grows q0).cell
   refine gen_plain rfl ?_
   go_simp
   exact gr_val (HI.out _ _ _ ⟨q0, kn_known q1 rfl, qa, qm, qx, ql, qs⟩)
  refine gent_consR (fun vs L w1 hL hw1 => ?_) ?_
  ·obtain ⟨q0, q1, qa, qm, qx, ql, qs⟩ := HO.out _ _ _ hw1
   refine gen_plain rfl ?_
   go_simp
   exact gr_val (HI.out _ _ _ ⟨q0, kn_known q1 rfl, qa, qm, qx, ql, qs⟩)
  refine gent_consR (fun vs L w1 hL hw1 => ?_) ?_
  ·obtain ⟨q0, q1, qa, qm, qx, ql, qs⟩ := HO.out _ _ _ hw1
   have l1 : L 1 = true := hL.need 1 (by kernel_rfl)
   have e1 := q1 1 _ rfl l1
   have x := (k8.grows q0).cell 0
   refine gen_plain rfl ?_
   simp only [e1]
   go_simp
   exact gr_val (HI.out _ _ _ ⟨q0, kn_known q1 rfl, qa, qm, qx, ql, qs⟩)
  refine gent_consR (fun vs L w1 hL hw1 => ?_) ?_
  ·obtain ⟨q0, q1, qa, qm, qx, ql, qs⟩ := HO.out _ _ _ hw1
   refine gen_plain rfl ?_
   go_simp
   exact gr_val (HI.out _ _ _ ⟨q0, kn_known q1 rfl, qa, qm, qx, ql, qs⟩)
  refine gent_consR (fun vs L w1 hL hw1 => ?_) ?_
  ·obtain ⟨q0, q1, qa, qm, qx, ql, qs⟩ := HO.out _ _ _ hw1
   have l2 : L 2 = true := hL.need 2 (by kernel_rfl)
   have e2 := q1 2 _ rfl l2
   have l3 : L 3 = true := hL.need 3 (by kernel_rfl)
   have e3 := q1 3 _ rfl l3
   refine gen_plain rfl ?_
   simp only [e2, e3]
   go_simp
   exact gr_val (HI.out _ _ _ ⟨q0, kn_known q1 rfl, qa, qm, qx, ql, qs⟩)
  refine gent_consR (fun vs L w1 hL hw1 => ?_) ?_
  ·obtain ⟨q0, q1, qa, qm, qx, ql, qs⟩ := HO.out _ _ _ hw1
   have l4 : L 4 = true := hL.need 4 (by kernel_rfl)
   have e4 := q1 4 _ rfl l4
   refine gen_plain rfl ?_
   simp only [e4]
   go_simp
   exact gr_val (HI.out _ _ _ ⟨q0, kn_known q1 rfl, qa, qm, qx, ql, qs⟩)
  refine gent_consR (fun vs L w1 hL hw1 => ?_) ?_
  ·obtain ⟨q0, q1, qa, qm, qx, ql, qs⟩ := HO.out _ _ _ hw1
   have l5 : L 5 = true := hL.need 5 (by kernel_rfl)
   have e5 := q1 5 _ rfl l5
   obtain ⟨p0, -, -, -⟩ := qs_at (hok.n.grows q0) HNK.out
   refine gen_plain rfl ?_
   simp only [e5]
   go_simp
   exact gr_val (HI.out _ _ _ ⟨q0, kn_known q1 rfl, qa, qm, qx, ql, qs⟩)
  refine gent_consR (fun vs L w1 hL hw1 => ?_) ?_
  ·obtain ⟨q0, q1, qa, qm, qx, ql, qs⟩ := HO.out _ _ _ hw1
   have n7 : L 7 = false := hL.1
   have n8 : L 8 = false := by
    cases h : L 8
    ·rfl
    ·rw [(qm h).1] at n7; cases n7
   have n9 : L 9 = false := by
    cases h : L 9
    ·rfl
    ·rw [(qx h).1] at n7; cases n7
   have n12 : L 12 = false := by
    cases h : L 12
    ·rfl
    ·rw [(qx (qs h).2).1] at n7; cases n7
   have l0 : L 0 = true := hL.need 0 (by kernel_rfl)
   have e0 := q1 0 _ rfl l0
   have l6 : L 6 = true := hL.need 6 (by kernel_rfl)
   have e6 := q1 6 _ rfl l6
   refine gen_plain rfl ?_
   simp only [e0, e6]
   go_simp
   refine gr_call ?_
   refine (rem_any nk (hok.grows q0) HV.out (List.mem_of_getElem? HNK.out)).mono ?_
   rintro e w2 ⟨⟨v1, v2, rfl, o1, o2⟩, hg⟩
   exact ⟨_, rfl, HI.out _ _ _ ⟨below_grows q0 (Nat.le_refl _) hg, kn_free q1 rfl, (fun _ => ⟨v1, v2, rfl, o1.mono q0.size, o2.mono q0.size⟩), (fun h => by rw [show L 8 = true from h] at n8; cases n8), (fun h => by rw [show L 9 = true from h] at n9; cases n9), (fun h => by obtain ⟨g, e, hb, h1, h2⟩ := ql h; exact ⟨g, e, hb, fun h0 => (h1 h0).grows hg, fun h0 => by rw [show L 12 = true from h0] at n12; cases n12⟩), (fun h => by rw [show L 12 = true from h] at n12; cases n12)⟩⟩
  refine gent_consR (fun vs L w1 hL hw1 => ?_) ?_
  ·obtain ⟨q0, q1, qa, qm, qx, ql, qs⟩ := HO.out _ _ _ hw1
   have l7 : L 7 = true := hL.need 7 (by kernel_rfl)
   refine gen_plain rfl ?_
   go_simp
   refine gr_val (show S (upd L 8) (setV vs 8 (vs 7)) w1 from HI.out _ _ _ ⟨q0, kn_free q1 rfl, qa, (fun _ => ⟨l7, rfl⟩), qx, ql, qs⟩)
  refine gent_consR (fun vs L w1 hL hw1 => ?_) ?_
  ·obtain ⟨q0, q1, qa, qm, qx, ql, qs⟩ := HO.out _ _ _ hw1
   have l8 : L 8 = true := hL.need 8 (by kernel_rfl)
   obtain ⟨l7, em⟩ := qm l8
   obtain ⟨v1, v2, ea, o1, o2⟩ := qa l7
   rw [ea] at em
   have n9 : L 9 = false := hL.1
   have n12 : L 12 = false := by
    cases h : L 12
    ·rfl
    ·rw [(qs h).2] at n9; cases n9
   refine gen_plain rfl ?_
   simp only [em]
   go_simp
   exact gr_val (HI.out _ _ _ ⟨q0, kn_free q1 rfl, qa, qm, (fun _ => ⟨l7, v1, v2, ea, rfl⟩), ql, (fun h => by rw [show L 12 = true from h] at n12; cases n12)⟩)
  refine gent_consR (fun vs L w1 hL hw1 => ?_) ?_
  ·obtain ⟨q0, q1, qa, qm, qx, ql, qs⟩ := HO.out _ _ _ hw1
   have l8 : L 8 = true := hL.need 8 (by kernel_rfl)
   obtain ⟨l7, em⟩ := qm l8
   obtain ⟨v1, v2, ea, o1, o2⟩ := qa l7
   rw [ea] at em
   refine gen_plain rfl ?_
   simp only [em]
   go_simp
   exact gr_val (HI.out _ _ _ ⟨q0, kn_known q1 rfl, qa, qm, qx, ql, qs⟩)
  refine gent_consR (fun vs L w1 hL hw1 => ?_) ?_
  ·obtain ⟨q0, q1, qa, qm, qx, ql, qs⟩ := HO.out _ _ _ hw1
   have n11 : L 11 = false := hL.1
   have n12 : L 12 = false := by
    cases h : L 12
    ·rfl
    ·rw [(qs h).1] at n11; cases n11
   refine gen_plain rfl ?_
   go_simp
   have hk := Blk.new w1 26 #[.slice none 0 0, .slice none 0 0]
   have hg := (Below.refl w1.heap.size w1).alloc (Nat.le_refl _) (Obj.cells #[.slice none 0 0, .slice none 0 0] 26)
   exact gr_val (HI.out _ _ _ ⟨below_grows q0 (Nat.le_refl _) hg, kn_free q1 rfl, (fun h => by obtain ⟨v1, v2, e, o1, o2⟩ := qa h; exact ⟨v1, v2, e, o1.grows hg, o2.grows hg⟩), qm, qx, (fun _ => ⟨_, rfl, q0.size, fun _ => hk, fun h => by rw [show L 12 = true from h] at n12; cases n12⟩), (fun h => by rw [show L 12 = true from h] at n12; cases n12)⟩)
  refine gent_consR (fun vs L w1 hL hw1 => ?_) ?_
  ·obtain ⟨q0, q1, qa, qm, qx, ql, qs⟩ := HO.out _ _ _ hw1
   have n12 : L 12 = false := hL.1
   have l11 : L 11 = true := hL.need 11 (by kernel_rfl)
   have l9 : L 9 = true := hL.need 9 (by kernel_rfl)
   obtain ⟨g, eg, hb, h1, -⟩ := ql l11
   obtain ⟨l7, v1, v2, ea, ex⟩ := qx l9
   obtain ⟨u1, u2, ea2, o1, o2⟩ := qa l7
   rw [ea] at ea2
   injection ea2 with ea2
   simp only [Array.mk.injEq, List.cons.injEq, and_true, Value.agg.injEq] at ea2
   obtain ⟨rfl, rfl⟩ := ea2
   have hk := h1 n12
   obtain ⟨A1, c1, hv1, -, -⟩ := o1.read
   obtain ⟨A2, c2, hv2, -, -⟩ := o2.read
   generalize List.length _ = n1 at hv1
   generalize List.length _ = n2 at hv2
   subst hv1
   subst hv2
   have hcl := hk.cell
   have hfz := hk.frozen
   refine gen_plain rfl ?_
   simp only [eg, ex]
   go_simp
   refine gr_skip (show S (upd L 12) (setV vs 12 undef) _ from HI.out _ _ _ ?_)
   have hk1 := hk.set_ 0 (.slice A1 n1 c1)
   have hk2 := hk1.set_ 1 (.slice A2 n2 c2)
   refine ⟨(q0.setCell (p := ⟨g, 0, none⟩) hb _).setCell (p := ⟨g, 1, none⟩) hb _, kn_free q1 rfl, (fun h => ⟨_, _, ea, OwnN.put (OwnN.put o1 hk 0 _) hk1 1 _, OwnL.put (OwnL.put o2 hk 0 _) hk1 1 _⟩), qm, qx, (fun _ => ⟨g, eg, hb, (fun h => by cases h), fun _ => ⟨_, _, ea, hk2⟩⟩), (fun _ => ⟨l11, l9⟩)⟩
  refine gent_nil ?_
  intro vs L W2 hall hS
  obtain ⟨hq, q1, qa, -, -, ql, -⟩ := HO.out _ _ _ hS
  have e10 := q1 10 _ rfl (hall 10 (by omega))
  obtain ⟨g, eg, -, -, hst⟩ := ql (hall 11 (by omega))
  obtain ⟨v1, v2, ea, kg⟩ := hst (hall 12 (by omega))
  obtain ⟨u1, u2, ea2, o1, o2⟩ := qa (hall 7 (by omega))
  rw [ea] at ea2
  injection ea2 with ea2
  simp only [Array.mk.injEq, List.cons.injEq, and_true, Value.agg.injEq] at ea2
  obtain ⟨rfl, rfl⟩ := ea2
  clear hall hS HI HO q1 qa ql hst ea
  simp only [e10, eg]
  generalize vs 0 = y0 at *
  generalize vs 1 = y1 at *
  generalize vs 2 = y2 at *
  generalize vs 3 = y3 at *
  generalize vs 4 = y4 at *
  generalize vs 5 = y5 at *
  generalize vs 6 = y6 at *
  generalize vs 7 = y7 at *
  generalize vs 8 = y8 at *
  generalize vs 9 = y9 at *
  generalize vs 12 = y12 at *
  clear e10 eg
  replace ho2 := ho2.grows hq
  replace hB := below_grows hB (Nat.le_refl _) hq
  replace k8 := k8.grows hq
  replace hok := hok.grows hq
  replace hci := hci.grows hq
  clear hq
  obtain ⟨B1, d1, B2, d2, rfl, rfl, hgk⟩ := gok_sub hok o1 o2 (fun n hx => (List.mem_filter.1 hx).1) (fun n hx => (List.mem_filter.1 hx).1) (by have := List.length_filter_le (fun n : Q4 => n.a != nk.a) ns; unfold remN; omega) (by have := List.length_filter_le (fun l : Q4 => l.a != nk.a && l.c != nk.a) ls; unfold remL; omega)
  clear o1 o2
  have HSM : Hid (boundG (remN ns nk.a) (remL ls nk.a) (cs.take k ++ cs.drop (k + 1)) (wn : Int) ≤ b) := Lib.hid (by rw [← HBD.out]; exact bound_small HP.out HNK.out)
  obtain ⟨b1, hb1⟩ : ∃ b1, boundG ns ls (cs.set k vk) (wn : Int) = b1 := ⟨_, rfl⟩
  obtain ⟨b2, hb2⟩ : ∃ b2, boundG (remN ns nk.a) (remL ls nk.a) (cs.take k ++ cs.drop (k + 1)) (wn : Int) = b2 := ⟨_, rfl⟩
  have hle1 := HLW.out
  have hle2 := HSM.out
  rw [hb1] at hle1
  rw [hb2] at hle2
  have HB1 := Lib.hid hb1
  have HB2 := Lib.hid hb2
  have hd1 : decide (b < b1) = false := by simp; omega
  have hd2 : decide (b < b2) = false := by simp; omega
  clear hb1 hb2 HLW HSM
  have hcl8 : cs.length ≤ 8 := by have := HCL.out; omega
  have hk7 : k ≤ c7 := by omega
  have hk8 : k + 1 ≤ cs.length := by omega
  have hwr2 : IntKind.i64.wrap ((k : Int) + 1) = (k : Int) + 1 := IntWalk.i64_in _ (by omega)
  have hk9 : 0 ≤ (k : Int) + 1 ∧ (k : Int) + 1 ≤ (cs.length : Int) := by omega
  have hlI := OwnI.ints ho2
  have HSL := Lib.hid hsl
  have HLL : Hid ((cs.set k vk).length ≤ 9223372036854775807) := Lib.hid (by omega)
  clear hsl
  go_upto_region 12 with fail
  obtain ⟨S, HI, HO⟩ := hideS fun (L : Ran) (vs : Nat → Value) (w' : World) => Below W2.heap.size W2 w' ∧ KnS [some (.int .i64 0), some (.bool false), some (.bool false), some (.agg #[.slice (some ad) ns.length c5, .slice A6 ls.length c6]), some (.slice (some ⟨gl, 0, none⟩) cs.length cl), some (.int .i64 (wn : Int)), some (.int .i64 b1), some (.int .i64 b), some (.bool false), some (.bool false), some (.bool false), some (.agg #[.slice B1 (remN ns nk.a).length d1, .slice B2 (remL ls nk.a).length d2]), none, some (.slice (some ad3) cs.length c7), some (.int .i64 (k : Int)), some (.slice (some ad3) k c7), none, some (.slice (some ad3) cs.length c7), some (.int .i64 (k : Int)), some (.int .i64 ((k : Int) + 1)), some (.slice (if c7 = k + 1 then some ad3 else some ⟨ad3.block, ad3.off + (k + 1), none⟩) (cs.length - (k + 1)) (c7 - (k + 1))), none, some (.int .i64 (wn : Int)), some (.int .i64 b2), some (.int .i64 b), some (.bool false), some (.bool false)] L vs ∧ (L 12 = true → L 16 = false → OwnI w' W2.heap.size (vs 12) []) ∧ (L 16 = true → L 21 = false → OwnI w' W2.heap.size (vs 16) (cs.take k)) ∧ (L 21 = true → OwnI w' W2.heap.size (vs 21) (cs.take k ++ cs.drop (k + 1))) ∧ (L 16 = true → L 12 = true) ∧ (L 21 = true → L 16 = true)
  refine wp_region_genW S 125 (by kernel_rfl) (by kernel_rfl) rfl ?_ ?_
  ·exact HI.out _ _ _ ⟨Grows.drew' _, kn_none _ _, (fun h => by cases h), (fun h => by cases h), (fun h => by cases h), (fun h => by cases h), (fun h => by cases h)⟩
  refine gen_consR (fun vs L w1 hL hw1 => ?_) ?_
  ·obtain ⟨q0, q1, qa, qb, qc, qd, qe⟩ := HO.out _ _ _ hw1
   refine gen_plain rfl ?_
   go_simp
   exact gr_val (HI.out _ _ _ ⟨q0, kn_known q1 rfl, qa, qb, qc, qd, qe⟩)
  refine gen_consR (fun vs L w1 hL hw1 => ?_) ?_
  ·obtain ⟨q0, q1, qa, qb, qc, qd, qe⟩ := HO.out _ _ _ hw1
   refine gen_plain rfl ?_
   have l0 : L 0 = true := hL.need 0 (by kernel_rfl)
   have e0 := q1 0 _ rfl l0
   simp only [e0]
   go_simp
   exact gr_val (HI.out _ _ _ ⟨q0, kn_known q1 rfl, qa, qb, qc, qd, qe⟩)
  refine gen_consR (fun vs L w1 hL hw1 => ?_) ?_
  ·obtain ⟨q0, q1, qa, qb, qc, qd, qe⟩ := HO.out _ _ _ hw1
   refine gen_plain rfl ?_
   have l1 : L 1 = true := hL.need 1 (by kernel_rfl)
   have e1 := q1 1 _ rfl l1
   simp only [e1]
   go_simp
   exact gr_val (HI.out _ _ _ ⟨q0, kn_known q1 rfl, qa, qb, qc, qd, qe⟩)
  refine gen_consR (fun vs L w1 hL hw1 => ?_) ?_
  ·obtain ⟨q0, q1, qa, qb, qc, qd, qe⟩ := HO.out _ _ _ hw1
   have l2 : L 2 = true := hL.need 2 (by kernel_rfl)
   have e2 := q1 2 _ rfl l2
   refine gen_yes ?_ ?_
   ·simp only [e2]
    rfl
   have x := (k8.grows q0).cell
   go_simp
   exact gr_val (HI.out _ _ _ ⟨q0, kn_known q1 rfl, qa, qb, qc, qd, qe⟩)
  refine gen_consR (fun vs L w1 hL hw1 => ?_) ?_
  ·obtain ⟨q0, q1, qa, qb, qc, qd, qe⟩ := HO.out _ _ _ hw1
   have l2 : L 2 = true := hL.need 2 (by kernel_rfl)
   have e2 := q1 2 _ rfl l2
   refine gen_yes ?_ ?_
   ·simp only [e2]
    rfl
   go_simp
   exact gr_val (HI.out _ _ _ ⟨q0, kn_known q1 rfl, qa, qb, qc, qd, qe⟩)
  refine gen_consR (fun vs L w1 hL hw1 => ?_) ?_
  ·obtain ⟨q0, q1, qa, qb, qc, qd, qe⟩ := HO.out _ _ _ hw1
   have l2 : L 2 = true := hL.need 2 (by kernel_rfl)
   have e2 := q1 2 _ rfl l2
   refine gen_yes ?_ ?_
   ·simp only [e2]
    rfl
   go_simp
   exact gr_val (HI.out _ _ _ ⟨q0, kn_known q1 rfl, qa, qb, qc, qd, qe⟩)
  refine gen_consR (fun vs L w1 hL hw1 => ?_) ?_
  ·obtain ⟨q0, q1, qa, qb, qc, qd, qe⟩ := HO.out _ _ _ hw1
   have l2 : L 2 = true := hL.need 2 (by kernel_rfl)
   have e2 := q1 2 _ rfl l2
   refine gen_yes ?_ ?_
   ·simp only [e2]
    rfl
   have l3 : L 3 = true := hL.need 3 (by kernel_rfl)
   have e3 := q1 3 _ rfl l3
   have l4 : L 4 = true := hL.need 4 (by kernel_rfl)
   have e4 := q1 4 _ rfl l4
   have l5 : L 5 = true := hL.need 5 (by kernel_rfl)
   have e5 := q1 5 _ rfl l5
   simp only [e3, e4, e5]
   go_simp
   refine gr_call ?_
   refine (pbound_is c5 cl (wn : Int) (hok.grows q0) (hlI.grows q0) HLL.out HSL.out HB1.out).mono ?_
   rintro e w2 ⟨rfl, hg⟩
   exact ⟨_, rfl, HI.out _ _ _ ⟨below_grows q0 (Nat.le_refl _) hg, kn_known q1 rfl, (fun h h0 => (qa h h0).grows hg), (fun h h0 => (qb h h0).grows hg), (fun h => (qc h).grows hg), qd, qe⟩⟩
  refine gen_consR (fun vs L w1 hL hw1 => ?_) ?_
  ·obtain ⟨q0, q1, qa, qb, qc, qd, qe⟩ := HO.out _ _ _ hw1
   have l2 : L 2 = true := hL.need 2 (by kernel_rfl)
   have e2 := q1 2 _ rfl l2
   refine gen_yes ?_ ?_
   ·simp only [e2]
    rfl
   go_simp
   exact gr_val (HI.out _ _ _ ⟨q0, kn_known q1 rfl, qa, qb, qc, qd, qe⟩)
  refine gen_consR (fun vs L w1 hL hw1 => ?_) ?_
  ·obtain ⟨q0, q1, qa, qb, qc, qd, qe⟩ := HO.out _ _ _ hw1
   have l2 : L 2 = true := hL.need 2 (by kernel_rfl)
   have e2 := q1 2 _ rfl l2
   refine gen_yes ?_ ?_
   ·simp only [e2]
    rfl
   have l6 : L 6 = true := hL.need 6 (by kernel_rfl)
   have e6 := q1 6 _ rfl l6
   have l7 : L 7 = true := hL.need 7 (by kernel_rfl)
   have e7 := q1 7 _ rfl l7
   simp only [e6, e7]
   go_simp
   exact gr_val (HI.out _ _ _ ⟨q0, kn_known q1 rfl, qa, qb, qc, qd, qe⟩)
  refine gen_consR (fun vs L w1 hL hw1 => ?_) ?_
  ·obtain ⟨q0, q1, qa, qb, qc, qd, qe⟩ := HO.out _ _ _ hw1
   refine gen_plain rfl ?_
   have l2 : L 2 = true := hL.need 2 (by kernel_rfl)
   have e2 := q1 2 _ rfl l2
   have l8 : L 8 = true := hL.need 8 (by kernel_rfl)
   have e8 := q1 8 _ rfl l8
   simp only [e2, e8]
   go_simp
   exact gr_val (HI.out _ _ _ ⟨q0, kn_known q1 rfl, qa, qb, qc, qd, qe⟩)
  refine gen_consR (fun vs L w1 hL hw1 => ?_) ?_
  ·obtain ⟨q0, q1, qa, qb, qc, qd, qe⟩ := HO.out _ _ _ hw1
   refine gen_plain rfl ?_
   have l9 : L 9 = true := hL.need 9 (by kernel_rfl)
   have e9 := q1 9 _ rfl l9
   simp only [e9]
   go_simp
   exact gr_val (HI.out _ _ _ ⟨q0, kn_known q1 rfl, qa, qb, qc, qd, qe⟩)
  refine gen_consR (fun vs L w1 hL hw1 => ?_) ?_
  ·obtain ⟨q0, q1, qa, qb, qc, qd, qe⟩ := HO.out _ _ _ hw1
   have l10 : L 10 = true := hL.need 10 (by kernel_rfl)
   have e10 := q1 10 _ rfl l10
   refine gen_yes ?_ ?_
   ·simp only [e10]
    rfl
   have x := (kg.grows q0).cell
   go_simp
   exact gr_val (HI.out _ _ _ ⟨q0, kn_known q1 rfl, qa, qb, qc, qd, qe⟩)
  refine gen_consR (fun vs L w1 hL hw1 => ?_) ?_
  ·obtain ⟨q0, q1, qa, qb, qc, qd, qe⟩ := HO.out _ _ _ hw1
   have l10 : L 10 = true := hL.need 10 (by kernel_rfl)
   have e10 := q1 10 _ rfl l10
   refine gen_yes ?_ ?_
   ·simp only [e10]
    rfl
   have n12 : L 12 = false := hL.1
   have n16 : L 16 = false := by
    cases h : L 16
    ·rfl
    ·rw [qd h] at n12; cases n12
   have n21 : L 21 = false := by
    cases h : L 21
    ·rfl
    ·rw [qd (qe h)] at n12; cases n12
   go_simp
   have hem := ownI_empty w1 W2.heap.size q0.size
   have hg := (Below.refl w1.heap.size w1).alloc (Nat.le_refl _) (Obj.cells #[] 3)
   exact gr_val (HI.out _ _ _ ⟨below_grows q0 (Nat.le_refl _) hg, kn_free q1 rfl, (fun _ _ => hem), (fun h => by rw [show L 16 = true from h] at n16; cases n16), (fun h => by rw [show L 21 = true from h] at n21; cases n21), (fun h => by rw [show L 16 = true from h] at n16; cases n16), (fun h => by rw [show L 21 = true from h] at n21; cases n21)⟩)
  refine gen_consR (fun vs L w1 hL hw1 => ?_) ?_
  ·obtain ⟨q0, q1, qa, qb, qc, qd, qe⟩ := HO.out _ _ _ hw1
   have l10 : L 10 = true := hL.need 10 (by kernel_rfl)
   have e10 := q1 10 _ rfl l10
   refine gen_yes ?_ ?_
   ·simp only [e10]
    rfl
   go_simp
   exact gr_val (HI.out _ _ _ ⟨q0, kn_known q1 rfl, qa, qb, qc, qd, qe⟩)
  refine gen_consR (fun vs L w1 hL hw1 => ?_) ?_
  ·obtain ⟨q0, q1, qa, qb, qc, qd, qe⟩ := HO.out _ _ _ hw1
   have l10 : L 10 = true := hL.need 10 (by kernel_rfl)
   have e10 := q1 10 _ rfl l10
   refine gen_yes ?_ ?_
   ·simp only [e10]
    rfl
   go_simp
   exact gr_val (HI.out _ _ _ ⟨q0, kn_known q1 rfl, qa, qb, qc, qd, qe⟩)
  refine gen_consR (fun vs L w1 hL hw1 => ?_) ?_
  ·obtain ⟨q0, q1, qa, qb, qc, qd, qe⟩ := HO.out _ _ _ hw1
   have l10 : L 10 = true := hL.need 10 (by kernel_rfl)
   have e10 := q1 10 _ rfl l10
   refine gen_yes ?_ ?_
   ·simp only [e10]
    rfl
   have l13 : L 13 = true := hL.need 13 (by kernel_rfl)
   have e13 := q1 13 _ rfl l13
   have l14 : L 14 = true := hL.need 14 (by kernel_rfl)
   have e14 := q1 14 _ rfl l14
   simp only [e13, e14]
   go_simp
   exact gr_val (HI.out _ _ _ ⟨q0, kn_known q1 rfl, qa, qb, qc, qd, qe⟩)
  refine gen_consR (fun vs L w1 hL hw1 => ?_) ?_
  ·obtain ⟨q0, q1, qa, qb, qc, qd, qe⟩ := HO.out _ _ _ hw1
   have l10 : L 10 = true := hL.need 10 (by kernel_rfl)
   have e10 := q1 10 _ rfl l10
   refine gen_yes ?_ ?_
   ·simp only [e10]
    rfl
   have n16 : L 16 = false := hL.1
   have l12 : L 12 = true := hL.need 12 (by kernel_rfl)
   have n21 : L 21 = false := by
    cases h : L 21
    ·rfl
    ·rw [qe h] at n16; cases n16
   have o5 := qa l12 n16
   have l15 : L 15 = true := hL.need 15 (by kernel_rfl)
   have e15 := q1 15 _ rfl l15
   refine gr_append_int (.tmp 82) (.tmp 85) rfl (l := []) (m := cs.take k) (by rw [List.length_take]; omega) rfl o5 e15 (ints_take (hci.grows q0) (by omega)) (by simp only [List.length_nil, List.length_take]; omega) q0.size ?_
   intro v3 w3 o6 g3 d3
   exact HI.out _ _ _ ⟨o5.below q0 g3 q0.size, kn_free q1 rfl, (fun _ h => by cases h), (fun _ _ => o6), (fun h => by rw [show L 21 = true from h] at n21; cases n21), (fun _ => l12), (fun h => by rw [show L 21 = true from h] at n21; cases n21)⟩
  refine gen_consR (fun vs L w1 hL hw1 => ?_) ?_
  ·obtain ⟨q0, q1, qa, qb, qc, qd, qe⟩ := HO.out _ _ _ hw1
   have l10 : L 10 = true := hL.need 10 (by kernel_rfl)
   have e10 := q1 10 _ rfl l10
   refine gen_yes ?_ ?_
   ·simp only [e10]
    rfl
   go_simp
   exact gr_val (HI.out _ _ _ ⟨q0, kn_known q1 rfl, qa, qb, qc, qd, qe⟩)
  refine gen_consR (fun vs L w1 hL hw1 => ?_) ?_
  ·obtain ⟨q0, q1, qa, qb, qc, qd, qe⟩ := HO.out _ _ _ hw1
   have l10 : L 10 = true := hL.need 10 (by kernel_rfl)
   have e10 := q1 10 _ rfl l10
   refine gen_yes ?_ ?_
   ·simp only [e10]
    rfl
   go_simp
   exact gr_val (HI.out _ _ _ ⟨q0, kn_known q1 rfl, qa, qb, qc, qd, qe⟩)
  refine gen_consR (fun vs L w1 hL hw1 => ?_) ?_
  ·obtain ⟨q0, q1, qa, qb, qc, qd, qe⟩ := HO.out _ _ _ hw1
   have l10 : L 10 = true := hL.need 10 (by kernel_rfl)
   have e10 := q1 10 _ rfl l10
   refine gen_yes ?_ ?_
   ·simp only [e10]
    rfl
   have l18 : L 18 = true := hL.need 18 (by kernel_rfl)
   have e18 := q1 18 _ rfl l18
   simp only [e18]
   go_simp
   exact gr_val (HI.out _ _ _ ⟨q0, kn_known q1 rfl, qa, qb, qc, qd, qe⟩)
  refine gen_consR (fun vs L w1 hL hw1 => ?_) ?_
  ·obtain ⟨q0, q1, qa, qb, qc, qd, qe⟩ := HO.out _ _ _ hw1
   have l10 : L 10 = true := hL.need 10 (by kernel_rfl)
   have e10 := q1 10 _ rfl l10
   refine gen_yes ?_ ?_
   ·simp only [e10]
    rfl
   have l17 : L 17 = true := hL.need 17 (by kernel_rfl)
   have e17 := q1 17 _ rfl l17
   have l19 : L 19 = true := hL.need 19 (by kernel_rfl)
   have e19 := q1 19 _ rfl l19
   simp only [e17, e19]
   go_simp
   exact gr_val (HI.out _ _ _ ⟨q0, kn_known q1 rfl, qa, qb, qc, qd, qe⟩)
  refine gen_consR (fun vs L w1 hL hw1 => ?_) ?_
  ·obtain ⟨q0, q1, qa, qb, qc, qd, qe⟩ := HO.out _ _ _ hw1
   have l10 : L 10 = true := hL.need 10 (by kernel_rfl)
   have e10 := q1 10 _ rfl l10
   refine gen_yes ?_ ?_
   ·simp only [e10]
    rfl
   have n21 : L 21 = false := hL.1
   have l16 : L 16 = true := hL.need 16 (by kernel_rfl)
   have o5 := qb l16 n21
   have l20 : L 20 = true := hL.need 20 (by kernel_rfl)
   have e20 := q1 20 _ rfl l20
   refine gr_append_int (.tmp 86) (.tmp 90) rfl (l := cs.take k) (m := cs.drop (k + 1)) (by rw [List.length_drop]) rfl o5 e20 (ints_drop2 (hci.grows q0) hk8 hc7) (by simp only [List.length_take, List.length_drop]; omega) q0.size ?_
   intro v3 w3 o6 g3 d3
   exact HI.out _ _ _ ⟨o5.below q0 g3 q0.size, kn_free q1 rfl, (fun h h0 => by rw [show L 16 = false from h0] at l16; cases l16), (fun _ h => by cases h), (fun _ => o6), qd, (fun _ => l16)⟩
  refine gen_consR (fun vs L w1 hL hw1 => ?_) ?_
  ·obtain ⟨q0, q1, qa, qb, qc, qd, qe⟩ := HO.out _ _ _ hw1
   have l10 : L 10 = true := hL.need 10 (by kernel_rfl)
   have e10 := q1 10 _ rfl l10
   refine gen_yes ?_ ?_
   ·simp only [e10]
    rfl
   go_simp
   exact gr_val (HI.out _ _ _ ⟨q0, kn_known q1 rfl, qa, qb, qc, qd, qe⟩)
  refine gen_consR (fun vs L w1 hL hw1 => ?_) ?_
  ·obtain ⟨q0, q1, qa, qb, qc, qd, qe⟩ := HO.out _ _ _ hw1
   have l10 : L 10 = true := hL.need 10 (by kernel_rfl)
   have e10 := q1 10 _ rfl l10
   refine gen_yes ?_ ?_
   ·simp only [e10]
    rfl
   have l21 : L 21 = true := hL.need 21 (by kernel_rfl)
   obtain ⟨A9, c9, e21, -, hr9⟩ := (qc l21).read
   obtain ⟨N9, hN9⟩ : ∃ N, (cs.take k ++ cs.drop (k + 1)).length = N := ⟨_, rfl⟩
   rw [hN9] at e21
   have HN9 := Lib.hid hN9
   have HL9 : Hid ((cs.take k ++ cs.drop (k + 1)).length ≤ 9223372036854775807) := Lib.hid (take_drop_len k hcl8)
   clear hN9
   have l11 : L 11 = true := hL.need 11 (by kernel_rfl)
   have e11 := q1 11 _ rfl l11
   have l22 : L 22 = true := hL.need 22 (by kernel_rfl)
   have e22 := q1 22 _ rfl l22
   simp only [e11, e22, e21]
   go_simp
   refine gr_call ?_
   refine (pbound_is d1 c9 (wn : Int) (hgk.grows q0) hr9 HL9.out HN9.out HB2.out).mono ?_
   rintro e w2 ⟨rfl, hg⟩
   exact ⟨_, rfl, HI.out _ _ _ ⟨below_grows q0 (Nat.le_refl _) hg, kn_known q1 rfl, (fun h h0 => (qa h h0).grows hg), (fun h h0 => (qb h h0).grows hg), (fun h => (qc h).grows hg), qd, qe⟩⟩
  refine gen_consR (fun vs L w1 hL hw1 => ?_) ?_
  ·obtain ⟨q0, q1, qa, qb, qc, qd, qe⟩ := HO.out _ _ _ hw1
   have l10 : L 10 = true := hL.need 10 (by kernel_rfl)
   have e10 := q1 10 _ rfl l10
   refine gen_yes ?_ ?_
   ·simp only [e10]
    rfl
   go_simp
   exact gr_val (HI.out _ _ _ ⟨q0, kn_known q1 rfl, qa, qb, qc, qd, qe⟩)
  refine gen_consR (fun vs L w1 hL hw1 => ?_) ?_
  ·obtain ⟨q0, q1, qa, qb, qc, qd, qe⟩ := HO.out _ _ _ hw1
   have l10 : L 10 = true := hL.need 10 (by kernel_rfl)
   have e10 := q1 10 _ rfl l10
   refine gen_yes ?_ ?_
   ·simp only [e10]
    rfl
   have l23 : L 23 = true := hL.need 23 (by kernel_rfl)
   have e23 := q1 23 _ rfl l23
   have l24 : L 24 = true := hL.need 24 (by kernel_rfl)
   have e24 := q1 24 _ rfl l24
   simp only [e23, e24]
   go_simp
   exact gr_val (HI.out _ _ _ ⟨q0, kn_known q1 rfl, qa, qb, qc, qd, qe⟩)
  refine gen_consR (fun vs L w1 hL hw1 => ?_) ?_
  ·obtain ⟨q0, q1, qa, qb, qc, qd, qe⟩ := HO.out _ _ _ hw1
   refine gen_plain rfl ?_
   have l10 : L 10 = true := hL.need 10 (by kernel_rfl)
   have e10 := q1 10 _ rfl l10
   have l25 : L 25 = true := hL.need 25 (by kernel_rfl)
   have e25 := q1 25 _ rfl l25
   simp only [e10, e25]
   go_simp
   exact gr_val (HI.out _ _ _ ⟨q0, kn_known q1 rfl, qa, qb, qc, qd, qe⟩)
  refine gen_nil ?_
  intro vs L W3 hall hS
  obtain ⟨hq, q1, -, -, -, -, -⟩ := HO.out _ _ _ hS
  have e26 := q1 26 _ rfl (hall 26 (by simp))
  clear hall hS HI HO q1
  simp only [e26]
  generalize vs 0 = z0 at *
  generalize vs 1 = z1 at *
  generalize vs 2 = z2 at *
  generalize vs 3 = z3 at *
  generalize vs 4 = z4 at *
  generalize vs 5 = z5 at *
  generalize vs 6 = z6 at *
  generalize vs 7 = z7 at *
  generalize vs 8 = z8 at *
  generalize vs 9 = z9 at *
  generalize vs 10 = z10 at *
  generalize vs 11 = z11 at *
  generalize vs 12 = z12 at *
  generalize vs 13 = z13 at *
  generalize vs 14 = z14 at *
  generalize vs 15 = z15 at *
  generalize vs 16 = z16 at *
  generalize vs 17 = z17 at *
  generalize vs 18 = z18 at *
  generalize vs 19 = z19 at *
  generalize vs 20 = z20 at *
  generalize vs 21 = z21 at *
  generalize vs 22 = z22 at *
  generalize vs 23 = z23 at *
  generalize vs 24 = z24 at *
  generalize vs 25 = z25 at *
  clear e26
  replace hB := below_grows hB (Nat.le_refl _) hq
  replace k8 := k8.grows hq
  replace hok := hok.grows hq
  replace hci := hci.grows hq
  replace hgk := hgk.grows hq
  clear hq
  have x9 := k8.cell 1
  have hls := (valid_len HV.out).2
  by_cases hl0 : ls.length = 0
  ·have hl2 : ((ls.length : Int) == 0) = true := by
    simp only [beq_iff_eq]
    omega
   clear hl0
   go_wp2
   go_ret
   exact ⟨rfl, hB⟩
  ·have hl2 : ((ls.length : Int) == 0) = false := by
    simp only [beq_eq_false_iff_ne, ne_eq]
    omega
   have hmd := fun w => mod_any lk (ls.length : Int) w (by omega) (by omega)
   have hkb := Int.emod_nonneg lk (show (ls.length : Int) ≠ 0 by omega)
   have hkb2 := Int.emod_lt_of_pos lk (show 0 < (ls.length : Int) by omega)
   obtain ⟨kl, hkl2⟩ : ∃ kl : Nat, lk % (ls.length : Int) = (kl : Int) := ⟨(lk % (ls.length : Int)).toNat, by omega⟩
   rw [hkl2] at hmd hkb hkb2
   have HMD := Lib.hid hmd
   have hkl3 : kl < ls.length := by omega
   clear hl0 hmd hkb hkb2 hkl2
   obtain ⟨nl, hnl⟩ : ∃ nl, ls[kl]? = some nl := ⟨_, List.getElem?_eq_getElem hkl3⟩
   have HNL := Lib.hid hnl
   obtain ⟨adl, n9l, e9l, had9l, -, -, -, -, -⟩ := hok.l.elem hkl3
   subst e9l
   clear hnl
   go_upto_region 16 with fail
   obtain ⟨S, HI, HO⟩ := hideS fun (L : Ran) (vs : Nat → Value) (w' : World) => Below W3.heap.size W3 w' ∧ KnS [some (.agg #[.slice (some ad) ns.length c5, .slice (some adl) ls.length c6]), some (.pointer (some ⟨G8, 1, none⟩)), some (.slice (some adl) ls.length c6), some (.int .i64 lk), some (.pointer (some ⟨G8, 1, none⟩)), some (.slice (some adl) ls.length c6), some (.int .i64 ls.length), some (.int .i64 (kl : Int)), some (.pointer (some (adl.add (kl * 4)))), some (.agg #[.int .i64 nl.a, .int .i64 nl.b, .int .i64 nl.c, .int .i64 nl.d]), none, none, none, some (.int .i64 0), none, none] L vs ∧ (L 10 = true → ∃ v1 v2, vs 10 = .tuple #[.agg #[v1, v2], .int .i64 0] ∧ OwnN w' W3.heap.size v1 ns ∧ OwnL w' W3.heap.size v2 (disL ls nl)) ∧ (L 11 = true → L 10 = true ∧ vs 11 = vs 10) ∧ (L 12 = true → L 10 = true ∧ ∃ v1 v2, vs 10 = .tuple #[.agg #[v1, v2], .int .i64 0] ∧ vs 12 = .agg #[v1, v2]) ∧ (L 14 = true → ∃ g, vs 14 = .pointer (some ⟨g, 0, none⟩) ∧ W3.heap.size ≤ g ∧ (L 15 = false → Blk w' g 26 #[.slice none 0 0, .slice none 0 0]) ∧ (L 15 = true → ∃ v1 v2, vs 10 = .tuple #[.agg #[v1, v2], .int .i64 0] ∧ Blk w' g 26 #[v1, v2])) ∧ (L 15 = true → L 14 = true ∧ L 12 = true)
   refine wp_region_genT S 16 125 (by kernel_rfl) (by kernel_rfl) rfl ?_ ?_
   ·exact HI.out _ _ _ ⟨Grows.drew' _, kn_none _ _, (fun h => by cases h), (fun h => by cases h), (fun h => by cases h), (fun h => by cases h), (fun h => by cases h)⟩
   simp only [List.take_succ_cons, List.take_zero, List.drop_succ_cons, List.drop_zero]
   refine gent_consR (fun vs L w1 hL hw1 => ?_) ?_
   ·obtain ⟨q0, q1, qa, qm, qx, ql, qs⟩ := HO.out _ _ _ hw1
    have x := (k8.grows q0).cell
    refine gen_plain rfl ?_
    go_simp
    exact gr_val (HI.out _ _ _ ⟨q0, kn_known q1 rfl, qa, qm, qx, ql, qs⟩)
   refine gent_consR (fun vs L w1 hL hw1 => ?_) ?_
   ·obtain ⟨q0, q1, qa, qm, qx, ql, qs⟩ := HO.out _ _ _ hw1
    refine gen_plain rfl ?_
    go_simp
    exact gr_val (HI.out _ _ _ ⟨q0, kn_known q1 rfl, qa, qm, qx, ql, qs⟩)
   refine gent_consR (fun vs L w1 hL hw1 => ?_) ?_
   ·obtain ⟨q0, q1, qa, qm, qx, ql, qs⟩ := HO.out _ _ _ hw1
    have l1 : L 1 = true := hL.need 1 (by kernel_rfl)
    have e1 := q1 1 _ rfl l1
    have x := (k8.grows q0).cell 1
    refine gen_plain rfl ?_
    simp only [e1]
    go_simp
    exact gr_val (HI.out _ _ _ ⟨q0, kn_known q1 rfl, qa, qm, qx, ql, qs⟩)
   refine gent_consR (fun vs L w1 hL hw1 => ?_) ?_
   ·obtain ⟨q0, q1, qa, qm, qx, ql, qs⟩ := HO.out _ _ _ hw1
    refine gen_plain rfl ?_
    go_simp
    exact gr_val (HI.out _ _ _ ⟨q0, kn_known q1 rfl, qa, qm, qx, ql, qs⟩)
   refine gent_consR (fun vs L w1 hL hw1 => ?_) ?_
   ·obtain ⟨q0, q1, qa, qm, qx, ql, qs⟩ := HO.out _ _ _ hw1
    refine gen_plain rfl ?_
    go_simp
    exact gr_val (HI.out _ _ _ ⟨q0, kn_known q1 rfl, qa, qm, qx, ql, qs⟩)
   refine gent_consR (fun vs L w1 hL hw1 => ?_) ?_
   ·obtain ⟨q0, q1, qa, qm, qx, ql, qs⟩ := HO.out _ _ _ hw1
    have l4 : L 4 = true := hL.need 4 (by kernel_rfl)
    have e4 := q1 4 _ rfl l4
    have x := (k8.grows q0).cell 1
    refine gen_plain rfl ?_
    simp only [e4]
    go_simp
    exact gr_val (HI.out _ _ _ ⟨q0, kn_known q1 rfl, qa, qm, qx, ql, qs⟩)
   refine gent_consR (fun vs L w1 hL hw1 => ?_) ?_
   ·obtain ⟨q0, q1, qa, qm, qx, ql, qs⟩ := HO.out _ _ _ hw1
    have l5 : L 5 = true := hL.need 5 (by kernel_rfl)
    have e5 := q1 5 _ rfl l5
    refine gen_plain rfl ?_
    simp only [e5]
    go_simp
    exact gr_val (HI.out _ _ _ ⟨q0, kn_known q1 rfl, qa, qm, qx, ql, qs⟩)
   refine gent_consR (fun vs L w1 hL hw1 => ?_) ?_
   ·obtain ⟨q0, q1, qa, qm, qx, ql, qs⟩ := HO.out _ _ _ hw1
    have l3 : L 3 = true := hL.need 3 (by kernel_rfl)
    have e3 := q1 3 _ rfl l3
    have l6 : L 6 = true := hL.need 6 (by kernel_rfl)
    have e6 := q1 6 _ rfl l6
    refine gen_plain rfl ?_
    simp only [e3, e6]
    go_simp
    refine gr_call ?_
    refine (HMD.out _).mono ?_
    rintro e w2 ⟨rfl, rfl⟩
    exact ⟨_, rfl, HI.out _ _ _ ⟨q0, kn_known q1 rfl, qa, qm, qx, ql, qs⟩⟩
   refine gent_consR (fun vs L w1 hL hw1 => ?_) ?_
   ·obtain ⟨q0, q1, qa, qm, qx, ql, qs⟩ := HO.out _ _ _ hw1
    have l2 : L 2 = true := hL.need 2 (by kernel_rfl)
    have e2 := q1 2 _ rfl l2
    have l7 : L 7 = true := hL.need 7 (by kernel_rfl)
    have e7 := q1 7 _ rfl l7
    refine gen_plain rfl ?_
    simp only [e2, e7]
    go_simp
    exact gr_val (HI.out _ _ _ ⟨q0, kn_known q1 rfl, qa, qm, qx, ql, qs⟩)
   refine gent_consR (fun vs L w1 hL hw1 => ?_) ?_
   ·obtain ⟨q0, q1, qa, qm, qx, ql, qs⟩ := HO.out _ _ _ hw1
    have l8 : L 8 = true := hL.need 8 (by kernel_rfl)
    have e8 := q1 8 _ rfl l8
    obtain ⟨p0, p1, p2, p3⟩ := qs_at (hok.l.grows q0) HNL.out
    refine gen_plain rfl ?_
    simp only [e8]
    go_simp
    exact gr_val (HI.out _ _ _ ⟨q0, kn_known q1 rfl, qa, qm, qx, ql, qs⟩)
   refine gent_consR (fun vs L w1 hL hw1 => ?_) ?_
   ·obtain ⟨q0, q1, qa, qm, qx, ql, qs⟩ := HO.out _ _ _ hw1
    have n10 : L 10 = false := hL.1
    have n11 : L 11 = false := by
     cases h : L 11
     ·rfl
     ·rw [(qm h).1] at n10; cases n10
    have n12 : L 12 = false := by
     cases h : L 12
     ·rfl
     ·rw [(qx h).1] at n10; cases n10
    have n15 : L 15 = false := by
     cases h : L 15
     ·rfl
     ·rw [(qx (qs h).2).1] at n10; cases n10
    have l0 : L 0 = true := hL.need 0 (by kernel_rfl)
    have e0 := q1 0 _ rfl l0
    have l9 : L 9 = true := hL.need 9 (by kernel_rfl)
    have e9 := q1 9 _ rfl l9
    refine gen_plain rfl ?_
    simp only [e0, e9]
    go_simp
    refine gr_call ?_
    refine (dis_any nl (hok.grows q0) HV.out (List.mem_of_getElem? HNL.out)).mono ?_
    rintro e w2 ⟨⟨v1, v2, rfl, o1, o2⟩, hg⟩
    exact ⟨_, rfl, HI.out _ _ _ ⟨below_grows q0 (Nat.le_refl _) hg, kn_free q1 rfl, (fun _ => ⟨v1, v2, rfl, o1.mono q0.size, o2.mono q0.size⟩), (fun h => by rw [show L 11 = true from h] at n11; cases n11), (fun h => by rw [show L 12 = true from h] at n12; cases n12), (fun h => by obtain ⟨g, e, hb, h1, h2⟩ := ql h; exact ⟨g, e, hb, fun h0 => (h1 h0).grows hg, fun h0 => by rw [show L 15 = true from h0] at n15; cases n15⟩), (fun h => by rw [show L 15 = true from h] at n15; cases n15)⟩⟩
   refine gent_consR (fun vs L w1 hL hw1 => ?_) ?_
   ·obtain ⟨q0, q1, qa, qm, qx, ql, qs⟩ := HO.out _ _ _ hw1
    have l10 : L 10 = true := hL.need 10 (by kernel_rfl)
    refine gen_plain rfl ?_
    go_simp
    refine gr_val (show S (upd L 11) (setV vs 11 (vs 10)) w1 from HI.out _ _ _ ⟨q0, kn_free q1 rfl, qa, (fun _ => ⟨l10, rfl⟩), qx, ql, qs⟩)
   refine gent_consR (fun vs L w1 hL hw1 => ?_) ?_
   ·obtain ⟨q0, q1, qa, qm, qx, ql, qs⟩ := HO.out _ _ _ hw1
    have l11 : L 11 = true := hL.need 11 (by kernel_rfl)
    obtain ⟨l10, em⟩ := qm l11
    obtain ⟨v1, v2, ea, o1, o2⟩ := qa l10
    rw [ea] at em
    have n12 : L 12 = false := hL.1
    have n15 : L 15 = false := by
     cases h : L 15
     ·rfl
     ·rw [(qs h).2] at n12; cases n12
    refine gen_plain rfl ?_
    simp only [em]
    go_simp
    exact gr_val (HI.out _ _ _ ⟨q0, kn_free q1 rfl, qa, qm, (fun _ => ⟨l10, v1, v2, ea, rfl⟩), ql, (fun h => by rw [show L 15 = true from h] at n15; cases n15)⟩)
   refine gent_consR (fun vs L w1 hL hw1 => ?_) ?_
   ·obtain ⟨q0, q1, qa, qm, qx, ql, qs⟩ := HO.out _ _ _ hw1
    have l11 : L 11 = true := hL.need 11 (by kernel_rfl)
    obtain ⟨l10, em⟩ := qm l11
    obtain ⟨v1, v2, ea, o1, o2⟩ := qa l10
    rw [ea] at em
    refine gen_plain rfl ?_
    simp only [em]
    go_simp
    exact gr_val (HI.out _ _ _ ⟨q0, kn_known q1 rfl, qa, qm, qx, ql, qs⟩)
   refine gent_consR (fun vs L w1 hL hw1 => ?_) ?_
   ·obtain ⟨q0, q1, qa, qm, qx, ql, qs⟩ := HO.out _ _ _ hw1
    have n14 : L 14 = false := hL.1
    have n15 : L 15 = false := by
     cases h : L 15
     ·rfl
     ·rw [(qs h).1] at n14; cases n14
    refine gen_plain rfl ?_
    go_simp
    have hk := Blk.new w1 26 #[.slice none 0 0, .slice none 0 0]
    have hg := (Below.refl w1.heap.size w1).alloc (Nat.le_refl _) (Obj.cells #[.slice none 0 0, .slice none 0 0] 26)
    exact gr_val (HI.out _ _ _ ⟨below_grows q0 (Nat.le_refl _) hg, kn_free q1 rfl, (fun h => by obtain ⟨v1, v2, e, o1, o2⟩ := qa h; exact ⟨v1, v2, e, o1.grows hg, o2.grows hg⟩), qm, qx, (fun _ => ⟨_, rfl, q0.size, fun _ => hk, fun h => by rw [show L 15 = true from h] at n15; cases n15⟩), (fun h => by rw [show L 15 = true from h] at n15; cases n15)⟩)
   refine gent_consR (fun vs L w1 hL hw1 => ?_) ?_
   ·obtain ⟨q0, q1, qa, qm, qx, ql, qs⟩ := HO.out _ _ _ hw1
    have n15 : L 15 = false := hL.1
    have l14 : L 14 = true := hL.need 14 (by kernel_rfl)
    have l12 : L 12 = true := hL.need 12 (by kernel_rfl)
    obtain ⟨g, eg, hb, h1, -⟩ := ql l14
    obtain ⟨l10, v1, v2, ea, ex⟩ := qx l12
    obtain ⟨u1, u2, ea2, o1, o2⟩ := qa l10
    rw [ea] at ea2
    injection ea2 with ea2
    simp only [Array.mk.injEq, List.cons.injEq, and_true, Value.agg.injEq] at ea2
    obtain ⟨rfl, rfl⟩ := ea2
    have hk := h1 n15
    obtain ⟨A1, c1, hv1, -, -⟩ := o1.read
    obtain ⟨A2, c2, hv2, -, -⟩ := o2.read
    generalize List.length _ = n1 at hv1
    generalize List.length _ = n2 at hv2
    subst hv1
    subst hv2
    have hcl := hk.cell
    have hfz := hk.frozen
    refine gen_plain rfl ?_
    simp only [eg, ex]
    go_simp
    refine gr_skip (show S (upd L 15) (setV vs 15 undef) _ from HI.out _ _ _ ?_)
    have hk1 := hk.set_ 0 (.slice A1 n1 c1)
    have hk2 := hk1.set_ 1 (.slice A2 n2 c2)
    refine ⟨(q0.setCell (p := ⟨g, 0, none⟩) hb _).setCell (p := ⟨g, 1, none⟩) hb _, kn_free q1 rfl, (fun h => ⟨_, _, ea, OwnN.put (OwnN.put o1 hk 0 _) hk1 1 _, OwnL.put (OwnL.put o2 hk 0 _) hk1 1 _⟩), qm, qx, (fun _ => ⟨g, eg, hb, (fun h => by cases h), fun _ => ⟨_, _, ea, hk2⟩⟩), (fun _ => ⟨l14, l12⟩)⟩
   refine gent_nil ?_
   intro vs L W4 hall hS
   obtain ⟨hq, q1, qa, -, -, ql, -⟩ := HO.out _ _ _ hS
   have e13 := q1 13 _ rfl (hall 13 (by omega))
   obtain ⟨g, eg, -, -, hst⟩ := ql (hall 14 (by omega))
   obtain ⟨v1, v2, ea, kg⟩ := hst (hall 15 (by omega))
   obtain ⟨u1, u2, ea2, o1, o2⟩ := qa (hall 10 (by omega))
   rw [ea] at ea2
   injection ea2 with ea2
   simp only [Array.mk.injEq, List.cons.injEq, and_true, Value.agg.injEq] at ea2
   obtain ⟨rfl, rfl⟩ := ea2
   clear hall hS HI HO q1 qa ql hst ea
   simp only [e13, eg]
   generalize vs 0 = y0 at *
   generalize vs 1 = y1 at *
   generalize vs 2 = y2 at *
   generalize vs 3 = y3 at *
   generalize vs 4 = y4 at *
   generalize vs 5 = y5 at *
   generalize vs 6 = y6 at *
   generalize vs 7 = y7 at *
   generalize vs 8 = y8 at *
   generalize vs 9 = y9 at *
   generalize vs 10 = y10 at *
   generalize vs 11 = y11 at *
   generalize vs 12 = y12 at *
   generalize vs 15 = y15 at *
   clear e13 eg
   replace hB := below_grows hB (Nat.le_refl _) hq
   replace k8 := k8.grows hq
   replace hok := hok.grows hq
   replace hci := hci.grows hq
   clear hq
   have hlf := List.length_filter_le (fun x : Q4 => decide (x ≠ nl)) ls
   obtain ⟨B3, d3, B4, d4, rfl, rfl, hgk2⟩ := gok_sub hok o1 o2 (fun n hx => hx) (fun l hx => (List.mem_filter.1 hx).1) (by omega) (by unfold disL; omega)
   clear o1 o2 hlf
   have x9 := kg.cell
   go_wp2_with fail
   refine (pbound_any d3 c7 (wn : Int) hgk2 hci hlcs).mono ?_
   have hle3 : boundG ns (disL ls nl) cs (wn : Int) ≤ b := by rw [← HBD.out]; exact bound_cut HP.out nl
   generalize boundG ns (disL ls nl) cs (wn : Int) = b3 at hle3 ⊢
   rintro e w15 ⟨rfl, hq⟩
   replace hB := below_grows hB (Nat.le_refl _) hq
   clear hq
   have hd3 : decide (b3 ≤ b) = true := by
    simp only [decide_eq_true_eq]
    exact hle3
   go_wp2
   go_ret
   exact ⟨rfl, hB⟩
end ScheduleMonotone
namespace ScheduleMonotone
set_option maxRecDepth 100000 in
theorem contract (H : Type) (enc : TypeId × Value → H) (W : World) (base : Nat) (args : Array Value) (ds gs : List (DataW H)) (before : List MemPlace)
 (hval0 : ∀ (j : Nat) t v, Try.f5.params[j]? = some t → args[j]? = some v → Value.okWide Try.prog W .any base t v)
 (hW : DataW.Whole enc Try.prog Try.f5.params.toList Rows.scheduleMonotoneSpec.vars false W args.toList ds gs before)
 (hsz0 : (DataW.weightsEach Try.prog (Try.f5.params.toList ++ Rows.scheduleMonotoneSpec.plain.varTypes Try.prog) (ds ++ gs)).all (· ≤ reachBytes) = true) :
 Calls Try.prog 5 args W fun e W' => ∃ v, e = .returned v ∧ Rows.scheduleMonotoneSpec.post enc Try.prog Try.f5 false true false false W args v W' := by
 have key : Calls Try.prog 5 args W fun e W' => e = .returned (.bool true) ∧ Below W.heap.size W W' := by
  have hval : ∀ (j : Nat) t v, Try.f5.params[j]? = some t → args[j]? = some v → Value.okWide Try.prog W .any base t v := hval0
  obtain ⟨p, q, hA0, hV, hbe, hfz, hnd⟩ := hW
  have hA : DataW.TrodAll enc Try.prog W 0 (fun _ => true) true Try.f5.params.toList args.toList ds p := hA0
  rw [Try.params5] at hA hval
  clear hA0 hval0
  obtain ⟨v0, vs0, d0, ds0, p0, q0, hargs, rfl, rfl, h0, r0⟩ := trodAll_cons hA
  obtain ⟨v1, vs1, d1, ds1, p1, q1, rfl, rfl, rfl, h1, r1⟩ := trodAll_cons r0
  obtain ⟨v2, vs2, d2, ds2, p2, q2, rfl, rfl, rfl, h2, r2⟩ := trodAll_cons r1
  obtain ⟨v3, vs3, d3, ds3, p3, q3, rfl, rfl, rfl, h3, r3⟩ := trodAll_cons r2
  obtain ⟨v4, vs4, d4, ds4, p4, q4, rfl, rfl, rfl, h4, r4⟩ := trodAll_cons r3
  obtain ⟨rfl, rfl, rfl⟩ := trodAll_nil r4
  obtain rfl : args = #[v0, v1, v2, v3, v4] := by cases args; simp_all
  obtain ⟨rfl, rfl⟩ := trodVars_none hV
  have hsz : (DataW.weightsEach Try.prog (Try.f5.params.toList ++ Rows.scheduleMonotoneSpec.plain.varTypes Try.prog) ([d0, d1, d2, d3, d4] ++ [])).all (· ≤ reachBytes) = true := hsz0
  rw [Try.params5] at hsz
  clear hsz0
  obtain ⟨A0, c0, il0, rfl, hI0, hm0, hc0⟩ := open_slice_ints Try.underlying22 Try.underlying3 (by kernel_rfl) (hval 0 22 v0 rfl rfl) h0
  obtain ⟨a1, rfl, rfl, rfl, w1⟩ := open_int Try.underlying3 (hval 1 3 v1 rfl rfl) h1
  obtain ⟨a2, rfl, rfl, rfl, w2⟩ := open_int Try.underlying3 (hval 2 3 v2 rfl rfl) h2
  obtain ⟨a3, rfl, rfl, rfl, w3⟩ := open_int Try.underlying3 (hval 3 3 v3 rfl rfl) h3
  obtain ⟨a4, rfl, rfl, rfl, w4⟩ := open_int Try.underlying3 (hval 4 3 v4 rfl rfl) h4
  exact ScheduleMonotone.walk A0 c0 il0 a1 a2 a3 a4 W hI0 (by unfold maxLen at hm0; omega)
 refine key.mono fun e W' ⟨he, hb⟩ => ⟨_, he, law_post laid_out hW ?_ rfl (by kernel_rfl) Try.underlying4 ?_ hb⟩
 ·rw [Try.params5]
  intro t ht
  simp only [List.mem_cons, List.not_mem_nil, or_false] at ht
  rcases ht with rfl | rfl | rfl | rfl | rfl <;> exact ⟨by kernel_rfl, of_decide_eq_true (by kernel_rfl)⟩
 ·rw [Try.params5]
  intro ds hl
  match ds, hl with
  | [_, _, _, _, _], _ => rfl
set_option maxRecDepth 100000 in
theorem lifted (os : Os) (started : os.Started) (H : Type) (enc : TypeId × Value → H) :
 ReturnsInHanded {} Try.checked os 5 .any (Rows.scheduleMonotoneSpec.pre6 enc Try.prog Try.f5 Rows.scheduleMonotoneRow.domain false) (Rows.scheduleMonotoneSpec.post enc Try.prog Try.f5 false true false false) := by
 refine returnsInHanded_of_change_sized (C := Try.checked) own_knob started (by kernel_rfl) Try.func5
  (ChangeSpec.witness6 (enc := enc) (C := Try.checked) false ⟨#[], #[.slice none 0 0, .int .i64 0, .int .i64 0, .int .i64 0, .int .i64 0], []⟩ 8 (by kernel_rfl) (by kernel_rfl) (by kernel_rfl) (by kernel_rfl)) ?_
 intro W base args ds gs before hval0 hW _ hsz0 _
 exact contract H enc W base args ds gs before hval0 hW hsz0
theorem over : Rows.scheduleMonotoneRow.holds Try.pinned (OpenSpec.ofChange Rows.scheduleMonotoneSpec) :=
 OpenClaim.holds_of_wide 5 Try.f5 rfl rfl rfl rfl rfl rfl rfl ⟨rfl, rfl, rfl, rfl, rfl⟩ rfl rfl rfl rfl rfl (by kernel_rfl) Try.func5 (by kernel_rfl)
  (of_decide_eq_true (by kernel_rfl)) (by unfold Func.isWrapper; first | (rw [if_pos (by decide +kernel)]; kernel_rfl) | (rw [if_neg (by decide +kernel)]; exact ⟨rfl, rfl⟩))
  (fun os started H enc _ => lifted os started H enc)
/-- The given statement. -/
theorem proved : Rows.ScheduleMonotoneSaid := over
end ScheduleMonotone
#print axioms ScheduleMonotone.proved
