/-
  YtobhdldlhhigdaaScValid: shared parts, 5. Plain theorems.
-/
import Derived.Test.YtobhdldlhhigdaaScValidK4
import Derived.Deep.Fields
import Derived.Deep.Slices
import Derived.Maps.Range
import Derived.Maps.RangeWalk
namespace Go.Proofs.Ytobhdldlhhigdaa
open Go.RowKit Go.Maps
theorem arr_zero (ns : List Q4) : List.replicate ns.length 0 = arrL ns (fun _ => some 0) := by
 unfold arrL
 rw [List.map_const']
 rfl
set_option maxRecDepth 100000 in
set_option maxHeartbeats 16000000 in
theorem rcrit_any {A A2 A3 : Option Addr} {c2 : Nat} {ns ls : List Q4} {cs : List Int} {w : World} (c c3 : Nat) (h : GOK w A A2 c2 ns ls) (h3 : Ints w A3 cs) (hl3 : cs.length ≤ 9223372036854775807) :
 Calls Try.prog 18 #[.agg #[.slice A ns.length c, .slice A2 ls.length c2], .slice A3 cs.length c3] w fun e w' => e = .returned (.int .i64 (critG ns ls cs)) ∧ Grows w w' := by
 have k1 := Blk.new w 26 #[.slice A ns.length c, .slice A2 ls.length c2]
 have hB := (Below.refl w.heap.size w).alloc (Nat.le_refl _) (Obj.cells #[.slice A ns.length c, .slice A2 ls.length c2] 26)
 go_enter Try.func18, Try.ntmps18
 go_upto_region 1 with fail
 generalize World.alloc w _ = w1 at *
 have x1 := k1.cell
 go_wp2_with fail
 refine (rproblem_any c c3 1 (h.grows hB) (h3.grows hB) hl3).mono ?_
 cases hp : probB ns ls cs 1
 ·have HE : Hid (critG ns ls cs = 0) := Lib.hid (by simp [critG, hp])
  rintro e w2 ⟨rfl, hq⟩
  replace hB := below_grows hB (Nat.le_refl _) hq
  clear hq x1
  go_wp2
  go_ret
  rw [HE.out]
  exact ⟨rfl, hB⟩
 rintro e w2 ⟨rfl, hq⟩
 have HP := Lib.hid hp
 have hV := (prob_iff.1 hp).1
 have hln := (valid_len hV).1
 have hLs := (valid_len hV).2
 have hcs := okW_len (prob_iff.1 hp).2.1
 have HWW := Lib.hid fun x => wb_of (prob_iff.1 hp).2.1 x
 have HV := Lib.hid hV
 clear hp hV
 replace hB := below_grows hB (Nat.le_refl _) hq
 replace k1 := k1.grows hq
 clear hq x1
 have x1 := k1.cell
 go_wp2_with fail
 refine (rorder_yes (h.grows hB) HV.out).mono ?_
 rintro e w5 ⟨⟨v, rfl, ho⟩, hq⟩
 replace ho := ho.mono hB.size
 replace hB := below_grows hB (Nat.le_refl _) hq
 replace k1 := k1.grows hq
 clear hq x1
 have HND := Lib.hid (order_nodup ns ls)
 generalize hod : orderL ns ls = od at *
 have HOD := Lib.hid hod
 clear hod
 have hol : od.length ≤ 64 := by rw [← HOD.out]; exact order_len64 HV.out
 obtain ⟨A4, c4, rfl, hc4, -⟩ := ho.read
 go_upto_region 4 with fail
 have x1 := k1.cell 0
 refine wp_region_lit ?_
 iterate 3
  refine wpList_plain rfl (fun K hK => ?_)
  go_simp
  refine hK _ _ ?_
  clear hK K
 obtain ⟨i0, hi0, hi1, hi2, hi3, hi4⟩ := iinfo
 refine wpList_make_full _ rfl (.tmp 24) (.tmp 24) 22 rfl w.heap.size 3 i0 (.int .i64 0) 1 Try.underlying22 hi0 hi3 hi1 .i64 .i64 ns.length ns.length ns.length rfl rfl rfl rfl (by rw [hi2]; omega) (by simp only [maxLen]; omega) hB.size ?_
 intro w6 hz hg6
 have hS := made_zero _ _ _ _ hz
 have hge : w.heap.size ≤ w5.heap.size := hB.size
 have ho0 := ho
 have hq : Grows w5 w6 := (Below.refl _ _).grown hg6 (Nat.le_refl _) (fun q e => by cases e)
 replace hB := below_grows hB (Nat.le_refl _) hq
 replace k1 := k1.grows hq
 replace ho := ho.grows hq
 have hno : Value.ownBlock (.slice A4 od.length c4) ≠ some w5.heap.size := fun e => by
  have := World.ownsRow.lt ho0 _ e
  omega
 generalize w5.heap.size = Gs at *
 clear hz hg6 hi0 hi1 hi2 hi3 hi4 x1 hq ho0 w5
 have HNO := Lib.hid hno
 clear hno
 have HA : Hid (ns.Pairwise fun x y => x.a < y.a) := Lib.hid (okN_asc (valid_parts.1 HV.out).2.2.1)
 rw [arr_zero] at hS
 go_wp2_with fail
 go_loopw [8, 9] (fun o i wr => ∃ (k : Nat) (z : Int), k ≤ od.length ∧ i = .int .i64 k ∧ o = .int .i64 z ∧ Hid (critK (wOf ns cs) ls od k = z) ∧ ArrI wr w.heap.size Gs ns.length (arrL ns (fun x => some (sumsK (wOf ns cs) ls od k x))) ∧ OwnI wr w.heap.size (.slice A4 od.length c4) od ∧ Blk wr w.heap.size 26 #[.slice A ns.length c, .slice A2 ls.length c2] ∧ Below w.heap.size w wr) (fun _ i _ => od.length - (intOf i).toNat)
 case atStart => exact ⟨0, 0, by omega, rfl, rfl, Lib.hid rfl, hS, ho, k1, hB⟩
 case round =>
  clear hS ho k1 hB
  obtain ⟨k, z, hk, rfl, rfl, HC, hS, ho, k1, hB⟩ := hrel
  have hcb := critK_bd (C := 1099511627776) (by omega) HWW.out (ls := ls) (order := od) k
  rw [HC.out] at hcb
  by_cases hlt : k < od.length
  ·obtain ⟨ad, id, e1, had, hx, p0⟩ := ho.ints.at_ hlt
   subst e1
   have HX := Lib.hid hx
   obtain ⟨ni, hni, hni2⟩ := order_mem (ns := ns) (ls := ls) (i := id) (by rw [HOD.out]; exact List.mem_of_getElem? hx)
   obtain ⟨ki, n0, pi1, pi2, hn0, hn02, hki⟩ := placeV_some (ns := ns) (x := id) (by rw [← hni2]; exact place_in hni)
   have HPI := Lib.hid pi2
   have HNI : Hid (ns[ki]? = some n0 ∧ n0.a = id ∧ placeN ns id = some ki) := Lib.hid ⟨hn0, hn02, pi1⟩
   clear hx hni hni2 pi1 pi2 hn0 hn02
   go_upto_region 9 with fail
   generalize wr = w8 at *
   obtain ⟨S, HI, HO⟩ := hideS fun (L : Ran) (vs : Nat → Value) (w' : World) => Grows w8 w' ∧ KnS [some (.agg #[.slice A ns.length c, .slice A2 ls.length c2]), some (.slice (some ad) od.length c4), some (.int .i64 (k : Int)), some (.pointer (some (ad.add k))), some (.int .i64 id), some (.int .i64 (ki : Int)), some (.int .i64 (ki : Int)), some (.int .i64 0)] L vs
   refine wp_region_genW S 85 (by kernel_rfl) (by kernel_rfl) rfl ?_ ?_
   ·exact HI.out _ _ _ ⟨Grows.drew' _, kn_none _ _⟩
   refine gen_consR (fun vs L w1 hL hw1 => ?_) ?_
   ·obtain ⟨q0, q1⟩ := HO.out _ _ _ hw1
    refine gen_plain rfl ?_
    have x := (k1.grows q0).cell 
    go_simp
    exact gr_val (HI.out _ _ _ ⟨q0, kn_known q1 rfl⟩)
   refine gen_consR (fun vs L w1 hL hw1 => ?_) ?_
   ·obtain ⟨q0, q1⟩ := HO.out _ _ _ hw1
    refine gen_plain rfl ?_
    go_simp
    exact gr_val (HI.out _ _ _ ⟨q0, kn_known q1 rfl⟩)
   refine gen_consR (fun vs L w1 hL hw1 => ?_) ?_
   ·obtain ⟨q0, q1⟩ := HO.out _ _ _ hw1
    refine gen_plain rfl ?_
    go_simp
    exact gr_val (HI.out _ _ _ ⟨q0, kn_known q1 rfl⟩)
   refine gen_consR (fun vs L w1 hL hw1 => ?_) ?_
   ·obtain ⟨q0, q1⟩ := HO.out _ _ _ hw1
    refine gen_plain rfl ?_
    have l1 : L 1 = true := hL.need 1 (by kernel_rfl)
    have e1 := q1 1 _ rfl l1
    have l2 : L 2 = true := hL.need 2 (by kernel_rfl)
    have e2 := q1 2 _ rfl l2
    simp only [e1, e2]
    go_simp
    exact gr_val (HI.out _ _ _ ⟨q0, kn_known q1 rfl⟩)
   refine gen_consR (fun vs L w1 hL hw1 => ?_) ?_
   ·obtain ⟨q0, q1⟩ := HO.out _ _ _ hw1
    refine gen_plain rfl ?_
    have l3 : L 3 = true := hL.need 3 (by kernel_rfl)
    have e3 := q1 3 _ rfl l3
    simp only [e3]
    have x := q0.cell (p := ad.add k) (by rw [block_of_add]; exact had)
    rw [p0] at x
    go_simp
    exact gr_val (HI.out _ _ _ ⟨q0, kn_known q1 rfl⟩)
   refine gen_consR (fun vs L w1 hL hw1 => ?_) ?_
   ·obtain ⟨q0, q1⟩ := HO.out _ _ _ hw1
    refine gen_plain rfl ?_
    have l0 : L 0 = true := hL.need 0 (by kernel_rfl)
    have e0 := q1 0 _ rfl l0
    have l4 : L 4 = true := hL.need 4 (by kernel_rfl)
    have e4 := q1 4 _ rfl l4
    simp only [e0, e4]
    go_simp
    refine gr_call ?_
    refine (rplace_is A A2 c c2 ls.length ns id ki w1 (h.n.grows (below_grows hB (Nat.le_refl _) q0)) h.nl HPI.out).mono ?_
    rintro e w2 ⟨rfl, hg⟩
    exact ⟨_, rfl, HI.out _ _ _ ⟨below_grows q0 (Nat.le_refl _) hg, kn_known q1 rfl⟩⟩
   refine gen_consR (fun vs L w1 hL hw1 => ?_) ?_
   ·obtain ⟨q0, q1⟩ := HO.out _ _ _ hw1
    refine gen_plain rfl ?_
    have l5 : L 5 = true := hL.need 5 (by kernel_rfl)
    have e5 := q1 5 _ rfl l5
    simp only [e5]
    go_simp
    exact gr_val (HI.out _ _ _ ⟨q0, kn_known q1 rfl⟩)
   refine gen_consR (fun vs L w1 hL hw1 => ?_) ?_
   ·obtain ⟨q0, q1⟩ := HO.out _ _ _ hw1
    refine gen_plain rfl ?_
    go_simp
    exact gr_val (HI.out _ _ _ ⟨q0, kn_known q1 rfl⟩)
   refine gen_nil ?_
   intro vs L W6 hall hS
   obtain ⟨hq, q1⟩ := HO.out _ _ _ hS
   have eX7 := q1 7 _ rfl (hall 7 (by simp))
   have eX6 := q1 6 _ rfl (hall 6 (by simp))
   clear hall hS HI HO q1
   simp only [eX7, eX6]
   replace hB := below_grows hB (Nat.le_refl _) hq
   replace k1 := k1.grows hq
   replace ho := ho.grows hq
   replace hS := hS.grows hq
   clear hq p0
   have x1 := k1.cell 1
   go_wp2_with fail
   clear x1
   go_loopw [11, 12] (fun o i wr => ∃ (j : Nat) (b : Int), j ≤ ls.length ∧ i = .int .i64 j ∧ o = .int .i64 b ∧ Hid (bestK (sumsK (wOf ns cs) ls od k) ls id j = b) ∧ ArrI wr w.heap.size Gs ns.length (arrL ns (fun x => some (sumsK (wOf ns cs) ls od k x))) ∧ OwnI wr w.heap.size (.slice (some ad) od.length c4) od ∧ Blk wr w.heap.size 26 #[.slice A ns.length c, .slice A2 ls.length c2] ∧ Below w.heap.size w wr) (fun _ i _ => ls.length - (intOf i).toNat)
   case atStart => exact ⟨0, 0, by omega, rfl, rfl, Lib.hid rfl, hS, ho, k1, hB⟩
   case round =>
    clear hS ho k1 hB
    obtain ⟨j, b, hj, rfl, rfl, HBK, hS, ho, k1, hB⟩ := hrel
    obtain ⟨ad', id', e4, -, hx4, p0⟩ := ho.ints.at_ hlt
    injection e4 with e4
    subst e4
    rw [HX.out] at hx4
    injection hx4 with hx4
    subst hx4
    have x1 := k1.cell 1
    by_cases hlt2 : j < ls.length
    ·obtain ⟨ad2, l, e2, had2, hx2, q0, q1, q2, q3⟩ := (h.grows hB).l.elem hlt2
     obtain ⟨ad2', l', e2', -, hx2', hp⟩ := h.l.addr hlt2
     subst e2
     injection e2' with e2'
     subst e2'
     rw [hx2] at hx2'
     injection hx2' with hx2'
     subst hx2'
     have HX2 := Lib.hid hx2
     obtain ⟨nl, hnl1⟩ := (ends_node (((okK_iff ns ls).1 (valid_parts.1 HV.out).2.2.2.1).1 l (List.mem_of_getElem? hx2))).1
     obtain ⟨hnl2, hnl3⟩ := find_some hnl1
     obtain ⟨pl, n1, pl1, pl2, hn1, hn12, hpl⟩ := placeV_some (ns := ns) (x := l.a) (by rw [← hnl3]; exact place_in hnl2)
     have HPL := Lib.hid pl2
     have HNL : Hid (ns[pl]? = some n1 ∧ n1.a = l.a ∧ placeN ns l.a = some pl) := Lib.hid ⟨hn1, hn12, pl1⟩
     clear hx2 hnl1 hnl2 hnl3 pl1 pl2 hn1 hn12
     cases e2 : l.c == id
     ·have HS : Hid (bestK (sumsK (wOf ns cs) ls od k) ls id (j + 1) = b) := Lib.hid (by
       rw [bestK_succ HX2.out, if_neg (by simpa using e2), HBK.out])
      go_upto_region 13 with fail
      generalize wr = w10 at *
      go_quiet (fail)
      generalize hY : World.drewN w10 _ = w11 at *
      have hq : Grows w10 w11 := hY ▸ grows_drewN w10 _
      clear hY
      replace hB := below_grows hB (Nat.le_refl _) hq
      replace k1 := k1.grows hq
      replace ho := ho.grows hq
      replace hS := hS.grows hq
      clear hq q0 q1 q2 q3 p0 x1
      go_wp2
      go_roundw
      case rel => exact ⟨j + 1, b, by omega, by go_num, rfl, HS, hS, ho, k1, hB⟩
      case measure => simp [intOf]; omega
     ·obtain ⟨sv, hsv⟩ : ∃ sv, sumsK (wOf ns cs) ls od k l.a = sv := ⟨_, rfl⟩
      have HCL : Hid ((arrL ns (fun x => some (sumsK (wOf ns cs) ls od k x)))[pl]? = some sv) := Lib.hid (by rw [arr_at _ HNL.out.1, HNL.out.2.1, hsv]; rfl)
      have HS : Hid (bestK (sumsK (wOf ns cs) ls od k) ls id (j + 1) = if b < sv then sv else b) := Lib.hid (by
       rw [bestK_succ HX2.out, if_pos (by simpa using e2), HBK.out, hsv]
       split <;> omega)
      clear hsv
      go_upto_region 13 with fail
      generalize wr = w9 at *
      go_quiet (fail)
      generalize hY : World.drewN w9 _ = w10 at *
      have hq : Grows w9 w10 := hY ▸ grows_drewN w9 _
      clear hY
      replace hB := below_grows hB (Nat.le_refl _) hq
      replace k1 := k1.grows hq
      replace ho := ho.grows hq
      replace hS := hS.grows hq
      clear hq q0 q1 q2 q3 p0 x1
      have x1 := k1.cell 1
      go_upto_region 14 with fail
      clear x1
      obtain ⟨S, HI, HO⟩ := hideS fun (L : Ran) (vs : Nat → Value) (w' : World) => Grows w10 w' ∧ KnS [some (.int .i64 b), some (.slice (some ⟨Gs, 0, none⟩) ns.length ns.length), some (.agg #[.slice A ns.length c, .slice (some ad2) ls.length c2]), some (.pointer (some ⟨w.heap.size, 1, none⟩)), some (.slice (some ad2) ls.length c2), some (.int .i64 (j : Int)), some (.pointer (some (ad2.add (j * 4)))), some (.pointer (some (ad2.add (j * 4)))), some (.int .i64 l.a), some (.int .i64 (pl : Int)), some (.pointer (some ⟨Gs, pl, none⟩)), some (.int .i64 sv), some (.int .i64 (if b < sv then sv else b))] L vs
      refine wp_region_genT S 13 85 (by kernel_rfl) (by kernel_rfl) rfl ?_ ?_
      ·exact HI.out _ _ _ ⟨Grows.drew' _, kn_none _ _⟩
      simp only [List.take_succ_cons, List.take_zero, List.drop_succ_cons, List.drop_zero]
      refine gent_consR (fun vs L w1 hL hw1 => ?_) ?_
      ·obtain ⟨q0, q1⟩ := HO.out _ _ _ hw1
       refine gen_plain rfl ?_
       go_simp
       exact gr_val (HI.out _ _ _ ⟨q0, kn_known q1 rfl⟩)
      refine gent_consR (fun vs L w1 hL hw1 => ?_) ?_
      ·obtain ⟨q0, q1⟩ := HO.out _ _ _ hw1
       refine gen_plain rfl ?_
       go_simp
       exact gr_val (HI.out _ _ _ ⟨q0, kn_known q1 rfl⟩)
      refine gent_consR (fun vs L w1 hL hw1 => ?_) ?_
      ·obtain ⟨q0, q1⟩ := HO.out _ _ _ hw1
       refine gen_plain rfl ?_
       have x := (k1.grows q0).cell 
       go_simp
       exact gr_val (HI.out _ _ _ ⟨q0, kn_known q1 rfl⟩)
      refine gent_consR (fun vs L w1 hL hw1 => ?_) ?_
      ·obtain ⟨q0, q1⟩ := HO.out _ _ _ hw1
       refine gen_plain rfl ?_
       go_simp
       exact gr_val (HI.out _ _ _ ⟨q0, kn_known q1 rfl⟩)
      refine gent_consR (fun vs L w1 hL hw1 => ?_) ?_
      ·obtain ⟨q0, q1⟩ := HO.out _ _ _ hw1
       refine gen_plain rfl ?_
       have l3 : L 3 = true := hL.need 3 (by kernel_rfl)
       have e3 := q1 3 _ rfl l3
       have x := (k1.grows q0).cell 1
       simp only [e3]
       go_simp
       exact gr_val (HI.out _ _ _ ⟨q0, kn_known q1 rfl⟩)
      refine gent_consR (fun vs L w1 hL hw1 => ?_) ?_
      ·obtain ⟨q0, q1⟩ := HO.out _ _ _ hw1
       refine gen_plain rfl ?_
       go_simp
       exact gr_val (HI.out _ _ _ ⟨q0, kn_known q1 rfl⟩)
      refine gent_consR (fun vs L w1 hL hw1 => ?_) ?_
      ·obtain ⟨q0, q1⟩ := HO.out _ _ _ hw1
       refine gen_plain rfl ?_
       have l4 : L 4 = true := hL.need 4 (by kernel_rfl)
       have e4 := q1 4 _ rfl l4
       have l5 : L 5 = true := hL.need 5 (by kernel_rfl)
       have e5 := q1 5 _ rfl l5
       simp only [e4, e5]
       go_simp
       exact gr_val (HI.out _ _ _ ⟨q0, kn_known q1 rfl⟩)
      refine gent_consR (fun vs L w1 hL hw1 => ?_) ?_
      ·obtain ⟨q0, q1⟩ := HO.out _ _ _ hw1
       refine gen_plain rfl ?_
       have l6 : L 6 = true := hL.need 6 (by kernel_rfl)
       have e6 := q1 6 _ rfl l6
       simp only [e6]
       go_simp
       exact gr_val (HI.out _ _ _ ⟨q0, kn_known q1 rfl⟩)
      refine gent_consR (fun vs L w1 hL hw1 => ?_) ?_
      ·obtain ⟨q0, q1⟩ := HO.out _ _ _ hw1
       refine gen_plain rfl ?_
       have l7 : L 7 = true := hL.need 7 (by kernel_rfl)
       have e7 := q1 7 _ rfl l7
       simp only [e7]
       obtain ⟨y0, y1, y2, y3⟩ := hp _ (below_grows hB (Nat.le_refl _) q0)
       go_simp
       exact gr_val (HI.out _ _ _ ⟨q0, kn_known q1 rfl⟩)
      refine gent_consR (fun vs L w1 hL hw1 => ?_) ?_
      ·obtain ⟨q0, q1⟩ := HO.out _ _ _ hw1
       refine gen_plain rfl ?_
       have l2 : L 2 = true := hL.need 2 (by kernel_rfl)
       have e2 := q1 2 _ rfl l2
       have l8 : L 8 = true := hL.need 8 (by kernel_rfl)
       have e8 := q1 8 _ rfl l8
       simp only [e2, e8]
       go_simp
       refine gr_call ?_
       refine (rplace_is A (some ad2) c c2 ls.length ns l.a pl w1 (h.n.grows (below_grows hB (Nat.le_refl _) q0)) h.nl HPL.out).mono ?_
       rintro e w2 ⟨rfl, hg⟩
       exact ⟨_, rfl, HI.out _ _ _ ⟨below_grows q0 (Nat.le_refl _) hg, kn_known q1 rfl⟩⟩
      refine gent_consR (fun vs L w1 hL hw1 => ?_) ?_
      ·obtain ⟨q0, q1⟩ := HO.out _ _ _ hw1
       refine gen_plain rfl ?_
       have l1 : L 1 = true := hL.need 1 (by kernel_rfl)
       have e1 := q1 1 _ rfl l1
       have l9 : L 9 = true := hL.need 9 (by kernel_rfl)
       have e9 := q1 9 _ rfl l9
       simp only [e1, e9]
       go_simp
       exact gr_val (HI.out _ _ _ ⟨q0, kn_known q1 rfl⟩)
      refine gent_consR (fun vs L w1 hL hw1 => ?_) ?_
      ·obtain ⟨q0, q1⟩ := HO.out _ _ _ hw1
       refine gen_plain rfl ?_
       have l10 : L 10 = true := hL.need 10 (by kernel_rfl)
       have e10 := q1 10 _ rfl l10
       simp only [e10]
       have hcl := (hS.grows q0).cell HCL.out
       go_simp
       exact gr_val (HI.out _ _ _ ⟨q0, kn_known q1 rfl⟩)
      refine gent_consR (fun vs L w1 hL hw1 => ?_) ?_
      ·obtain ⟨q0, q1⟩ := HO.out _ _ _ hw1
       refine gen_plain rfl ?_
       have l0 : L 0 = true := hL.need 0 (by kernel_rfl)
       have e0 := q1 0 _ rfl l0
       have l11 : L 11 = true := hL.need 11 (by kernel_rfl)
       have e11 := q1 11 _ rfl l11
       simp only [e0, e11]
       go_simp
       exact gr_val (HI.out _ _ _ ⟨q0, kn_known q1 rfl⟩)
      refine gent_nil ?_
      intro vs L W6 hall hS
      obtain ⟨hq, q1⟩ := HO.out _ _ _ hS
      have eX12 := q1 12 _ rfl (hall 12 (by simp))
      clear hall hS HI HO q1
      simp only [eX12]
      replace hB := below_grows hB (Nat.le_refl _) hq
      replace k1 := k1.grows hq
      replace ho := ho.grows hq
      replace hS := hS.grows hq
      clear hq
      generalize W6 = w12 at *
      go_wp2
      go_roundw
      case rel => exact ⟨j + 1, (if b < sv then sv else b), by omega, by go_num, rfl, HS, hS, ho, k1, hB⟩
      case measure => simp [intOf]; omega
    ·have HB : Hid (bestS (sumsK (wOf ns cs) ls od k) ls id = b) := Lib.hid (by rw [← bestK_end (j := j) (by omega)]; exact HBK.out)
     clear HBK
     have hsb : ∀ y, 0 ≤ sumsK (wOf ns cs) ls od k y ∧ sumsK (wOf ns cs) ls od k y ≤ k * 1099511627776 := fun y => sumsK_bd (C := 1099511627776) (by omega) HWW.out k y
     have hbb := best_bd (ls := ls) (x := id) (by omega) hsb
     rw [HB.out] at hbb
     obtain ⟨ad3, z', e3, had3, hz3, p3⟩ := (h3.grows hB).at_ (k := ki) (by omega)
     subst e3
     have HZ : Hid (wOf ns cs id = z') := Lib.hid (by rw [wOf_at HNI.out.2.2, List.getD_eq_getElem?_getD, hz3]; rfl)
     have hzb := HWW.out id
     rw [HZ.out] at hzb
     clear hz3 hsb
     have hfz := hS.frozen ki
     have hcl := hS.cell (arr_at _ HNI.out.1)
     obtain ⟨hS2, hg2⟩ := hS.put ki (b + z')
     have e0 : (arrL ns (fun x => some (sumsK (wOf ns cs) ls od k x))).set ki (b + z') = arrL ns (fun x => some (sumsK (wOf ns cs) ls od (k + 1) x)) := by
      rw [arr_set HA.out _ HNI.out.1, HNI.out.2.1, sumsK_succ HX.out]
      congr 1
      funext y
      unfold addS
      rw [HB.out, HZ.out]
      split <;> rfl
     rw [e0] at hS2
     clear e0
     have HCK : Hid (critK (wOf ns cs) ls od (k + 1) = if z < b + z' then b + z' else z) := Lib.hid (by
      rw [critK_succ HND.out (fun x => (HWW.out x).1) HX.out, HC.out, HB.out, HZ.out]
      split <;> omega)
     have ho2 : OwnI _ w.heap.size _ od := World.ownsRow.kept ho hg2 (.inr HNO.out)
     have k12 := k1.grown hg2 (hS.ne_blk k1 (by decide))
     have hB2 := hB.grown hg2 hB.size (fun q e => by injection e with e; subst e; exact hge)
     go_upto_region 16 with fail
     clear hS ho k1 hB p3 hfz hcl hg2
     generalize World.setCell wr _ _ = w7 at *
     have hc2 : w7.cell? ⟨Gs, ki, none⟩ = some (.int .i64 (b + z')) := hS2.cell (by
      rw [arr_at _ HNI.out.1, HNI.out.2.1, sumsK_succ HX.out]
      unfold addS
      rw [if_pos rfl, HB.out, HZ.out]
      rfl)
     go_wp2
     go_roundw
     case rel => exact ⟨k + 1, _, by omega, by go_num, rfl, HCK, hS2, ho2, k12, hB2⟩
     case measure => simp [intOf]; omega
  ·have HE : Hid (critG ns ls cs = z) := Lib.hid (by
    unfold critG
    rw [if_pos HP.out, HOD.out, ← critK_end (k := k) (by omega)]
    exact HC.out)
   go_wp2
   go_ret
   rw [HE.out]
   exact ⟨rfl, hB⟩
end Go.Proofs.Ytobhdldlhhigdaa

namespace Go.Proofs.Ytobhdldlhhigdaa
open Go.RowKit Go.Maps
def sumK (cs : List Int) (k : Nat) : Int := sumL (cs.take k)
theorem sumL_append : ∀ (a b : List Int), sumL (a ++ b) = sumL a + sumL b
 | [], b => by simp [sumL]
 | x :: a, b => by simp only [List.cons_append, sumL, sumL_append a b]; omega
theorem sumK_succ {cs : List Int} {k : Nat} {x : Int} (h : cs[k]? = some x) : sumK cs (k + 1) = sumK cs k + x := by
 unfold sumK
 rw [take_snoc h, sumL_append]
 simp [sumL]
theorem sumK_bd {cs : List Int} (h : ∀ x ∈ cs, 0 ≤ x ∧ x ≤ 1099511627776) : ∀ (k : Nat), 0 ≤ sumK cs k ∧ sumK cs k ≤ k * 1099511627776
 | 0 => by simp [sumK, sumL]
 | k + 1 => by
  have := sumK_bd h k
  by_cases hk : k < cs.length
  ·have hx := List.getElem?_eq_getElem hk
   have hb := h _ (List.mem_of_getElem? hx)
   rw [sumK_succ hx]
   omega
  ·have e : sumK cs (k + 1) = sumK cs k := by
    unfold sumK
    rw [List.take_of_length_le (by omega), List.take_of_length_le (by omega)]
   rw [e]
   omega
theorem okW_all {ns : List Q4} {cs : List Int} (h : okW ns cs = true) : ∀ x ∈ cs, 0 ≤ x ∧ x ≤ 1099511627776 := by
 unfold okW at h
 simp only [Bool.and_eq_true, Bool.not_eq_true', List.any_eq_false, badW, Bool.or_eq_true, decide_eq_true_eq] at h
 intro x hx
 have := h.2 x hx
 omega
theorem crit_bd {ns ls : List Q4} {cs : List Int} : 0 ≤ critG ns ls cs ∧ critG ns ls cs ≤ 70368744177664 := by
 unfold critG
 split
 ·rename_i hp
  have h1 := order_len64 (prob_iff.1 hp).1
  have h2 := critK_bd (C := 1099511627776) (by omega) (fun x => wb_of (prob_iff.1 hp).2.1 x) (ls := ls) (order := orderL ns ls) (orderL ns ls).length
  rw [critK_end (Nat.le_refl _)] at h2
  omega
 ·omega
set_option maxRecDepth 100000 in
set_option maxHeartbeats 16000000 in
theorem rbound_any {A A2 A3 : Option Addr} {c2 : Nat} {ns ls : List Q4} {cs : List Int} {w : World} (c c3 : Nat) (wi : Int) (h : GOK w A A2 c2 ns ls) (h3 : Ints w A3 cs) (hl3 : cs.length ≤ 9223372036854775807) :
 Calls Try.prog 20 #[.agg #[.slice A ns.length c, .slice A2 ls.length c2], .slice A3 cs.length c3, .int .i64 wi] w fun e w' => e = .returned (.int .i64 (boundG ns ls cs wi)) ∧ Grows w w' := by
 have k1 := Blk.new w 26 #[.slice A ns.length c, .slice A2 ls.length c2]
 have hB := (Below.refl w.heap.size w).alloc (Nat.le_refl _) (Obj.cells #[.slice A ns.length c, .slice A2 ls.length c2] 26)
 go_enter Try.func20, Try.ntmps20
 go_upto_region 1 with fail
 generalize World.alloc w _ = w1 at *
 have x1 := k1.cell
 go_wp2_with fail
 refine (rproblem_any c c3 wi (h.grows hB) (h3.grows hB) hl3).mono ?_
 cases hp : probB ns ls cs wi
 ·have HE : Hid (boundG ns ls cs wi = 0) := Lib.hid (by simp [boundG, hp])
  rintro e w2 ⟨rfl, hq⟩
  replace hB := below_grows hB (Nat.le_refl _) hq
  clear hq x1
  go_wp2
  go_ret
  rw [HE.out]
  exact ⟨rfl, hB⟩
 rintro e w2 ⟨rfl, hq⟩
 have HP := Lib.hid hp
 have hw1 := (prob_iff.1 hp).2.2
 have hln := (valid_len (prob_iff.1 hp).1).1
 have hcs : cs.length ≤ ns.length := Nat.le_of_eq (okW_len (prob_iff.1 hp).2.1)
 have HALL := Lib.hid (okW_all (prob_iff.1 hp).2.1)
 clear hp
 replace hB := below_grows hB (Nat.le_refl _) hq
 replace k1 := k1.grows hq
 clear hq x1
 have x1 := k1.cell
 go_wp2_with fail
 go_loop [7, 8] (fun o i => ∃ (k : Nat) (z : Int), k ≤ cs.length ∧ i = .int .i64 k ∧ o = .int .i64 z ∧ Hid (sumK cs k = z)) (fun _ i => cs.length - (intOf i).toNat)
 case atStart => exact ⟨0, 0, by omega, rfl, rfl, Lib.hid rfl⟩
 case round =>
  obtain ⟨k, z, hk, rfl, rfl, HZ⟩ := hrel
  have hzb := sumK_bd HALL.out k
  rw [HZ.out] at hzb
  by_cases hlt : k < cs.length
  ·obtain ⟨ad, x, e1, had, hx, q0⟩ := (h3.grows hB).at_ hlt
   subst e1
   have hxb := HALL.out x (List.mem_of_getElem? hx)
   have HZ2 : Hid (sumK cs (k + 1) = z + x) := Lib.hid (by rw [sumK_succ hx, HZ.out])
   clear hx
   go_wp2
   go_round
   case rel => exact ⟨k + 1, z + x, by omega, by go_num, rfl, HZ2⟩
   case measure => simp [intOf]; omega
  ·have HS : Hid (sumL cs = z) := Lib.hid (by have := HZ.out; unfold sumK at this; rwa [List.take_of_length_le (by omega)] at this)
   go_wp2_with fail
   refine (rcrit_any c c3 (h.grows hB) (h3.grows hB) hl3).mono ?_
   rintro e w3 ⟨rfl, hq⟩
   replace hB := below_grows hB (Nat.le_refl _) hq
   clear hq x1 k1
   have hcb := crit_bd (ns := ns) (ls := ls) (cs := cs)
   have HG : Hid (critG ns ls cs = critS (wOf ns cs) ls (orderL ns ls)) := Lib.hid (by unfold critG; rw [if_pos (prob_one HP.out)])
   generalize critG ns ls cs = g at *
   have hm : 0 ≤ (wi - 1) * g ∧ (wi - 1) * g ≤ 492581209243648 := by
    refine ⟨Int.mul_nonneg (by omega) hcb.1, ?_⟩
    have := Int.mul_le_mul (show wi - 1 ≤ 7 by omega) hcb.2 hcb.1 (by omega)
    omega
   have HE : Hid (boundG ns ls cs wi = (z + (wi - 1) * g).tdiv wi) := Lib.hid (by
    unfold boundG
    rw [if_pos HP.out, HS.out, ← HG.out, Int.tdiv_eq_ediv_of_nonneg (by omega)])
   have hd : 0 ≤ (z + (wi - 1) * g).tdiv wi ∧ (z + (wi - 1) * g).tdiv wi ≤ 9223372036854775807 := by
    rw [Int.tdiv_eq_ediv_of_nonneg (by omega)]
    exact ⟨Int.ediv_nonneg (by omega) (by omega), Int.le_trans (Int.ediv_le_self _ (by omega)) (by omega)⟩
   go_wp2
   go_ret
   rw [HE.out]
   exact ⟨rfl, hB⟩
end Go.Proofs.Ytobhdldlhhigdaa

namespace Go.Proofs.Ytobhdldlhhigdaa
open Go.RowKit Go.Maps
set_option maxRecDepth 100000
/-- The nodes that a node waits for. -/
def waitsL (ls : List Q4) (id : Int) : List Int := (ls.filter fun l => l.c == id).map Q4.a
def bestW (S : Int → Int) (l : List Int) : Int := l.foldl (fun o a => max o (S a)) 0
theorem best_waits (S : Int → Int) (ls : List Q4) (id : Int) : bestS S ls id = bestW S (waitsL ls id) := by
 have key : ∀ (ls : List Q4) (o : Int), ls.foldl (fun o k => if k.c = id then max o (S k.a) else o) o = ((ls.filter fun l => l.c == id).map Q4.a).foldl (fun o a => max o (S a)) o := by
  intro ls
  induction ls with
  | nil => intro o; rfl
  | cons l ls ih =>
   intro o
   by_cases e : l.c = id
   ·simp [e, ih]
   ·simp [e, ih]
 exact key ls 0
theorem befP_waits {ns ls : List Q4} (hv : validG ns ls = true) {i : Nat} {n : Q4} (hi : ns[i]? = some n) : befP ns ls i = (waitsL ls n.a).map (pl ns) := by
 unfold befP waitsL
 rw [List.map_map]
 have e : (ls.filter fun l => pl ns l.c == (i : Int)) = ls.filter fun l => l.c == n.a := by
  refine List.filter_congr fun l hl => ?_
  obtain ⟨⟨m, hm1, hm2⟩, _⟩ := link_node hv hl
  rw [Bool.eq_iff_iff, beq_iff_eq, beq_iff_eq]
  have hpi := pl_asc (valid_asc hv) hi
  constructor
  ·intro h
   rw [← hm2]
   exact pl_inj hm1 (List.mem_of_getElem? hi) (by rw [hm2, h, hpi])
  ·intro h
   rw [h, hpi]
 rw [e]
 rfl
/-- The sums, with that of a node under way. -/
def midQ (ls : List Q4) (S : Int → Int) (id : Int) (j : Nat) : Int → Option Int := fun y => if y = id then some (bestW S ((waitsL ls id).take j)) else some (S y)
theorem midQ_zero {ls : List Q4} {S : Int → Int} {id : Int} (h : S id = 0) : midQ ls S id 0 = fun y => some (S y) := by
 funext y
 unfold midQ
 by_cases e : y = id
 ·subst e
  simp [h, bestW]
 ·rw [if_neg e]
theorem midQ_succ {ls : List Q4} {S : Int → Int} {id a : Int} {j : Nat} (h : (waitsL ls id)[j]? = some a) {mv t : Int} (ht : bestW S ((waitsL ls id).take j) = t) (hm : mv = max t (S a)) : (fun y => if y = id then some mv else midQ ls S id j y) = midQ ls S id (j + 1) := by
 funext y
 unfold midQ
 by_cases e : y = id
 ·rw [if_pos e, if_pos e, take_snoc h, hm, ← ht]
  unfold bestW
  rw [List.foldl_append]
  rfl
 ·rw [if_neg e, if_neg e, if_neg e]
theorem midQ_end {W : Int → Int} {ls : List Q4} {od : List Int} {k : Nat} {id : Int} (hx : od[k]? = some id) (j : Nat) {t wv : Int} (ht : bestW (sumsK W ls od k) (waitsL ls id) = t) (hw : W id = wv) :
 (fun y => if y = id then some (t + wv) else midQ ls (sumsK W ls od k) id j y) = fun y => some (sumsK W ls od (k + 1) y) := by
 funext y
 rw [sumsK_succ hx]
 unfold midQ addS
 by_cases e : y = id
 ·rw [if_pos e, if_pos e, best_waits, ht, hw]
 ·rw [if_neg e, if_neg e, if_neg e]
theorem sumsK_new {W : Int → Int} {ls : List Q4} {od : List Int} (hn : od.Nodup) {k : Nat} {id : Int} (hx : od[k]? = some id) : sumsK W ls od k id = 0 := by
 unfold sumsK
 rw [add_other]
 intro hm
 obtain ⟨j, hj, e⟩ := List.mem_take_iff_getElem.1 hm
 obtain ⟨hk, e2⟩ := List.getElem?_eq_some_iff.1 hx
 have := (List.getElem_inj hn).1 (e.trans e2.symm)
 omega
theorem waits_ne {ns ls : List Q4} {a id : Int} (hi : id ∈ orderL ns ls) (ha : a ∈ waitsL ls id) : a ≠ id := by
 obtain ⟨l, hl, rfl⟩ := List.mem_map.1 ha
 obtain ⟨hl1, hl2⟩ := List.mem_filter.1 hl
 have hc : l.c = id := by simpa using hl2
 obtain ⟨p, q, e⟩ := List.append_of_mem hi
 have h1 := order_pre ns ls p id q e l hl1 hc
 have hnd := order_nodup ns ls
 rw [e] at hnd
 intro e2
 rw [e2] at h1
 have := (List.nodup_append.1 hnd).2.2 id h1 id (by simp)
 exact this rfl
theorem waits_mem {ns ls : List Q4} (hv : validG ns ls = true) {a id : Int} (ha : a ∈ waitsL ls id) : ∃ n ∈ ns, n.a = a := by
 obtain ⟨l, hl, rfl⟩ := List.mem_map.1 ha
 exact (link_node hv (List.mem_filter.1 hl).1).2
theorem bestW_bd {S : Int → Int} {B : Int} (hB : 0 ≤ B) (h : ∀ y, 0 ≤ S y ∧ S y ≤ B) : ∀ (l : List Int), 0 ≤ bestW S l ∧ bestW S l ≤ B := by
 have key : ∀ (l : List Int) (o : Int), 0 ≤ o ∧ o ≤ B → 0 ≤ l.foldl (fun o a => max o (S a)) o ∧ l.foldl (fun o a => max o (S a)) o ≤ B := by
  intro l
  induction l with
  | nil => intro o ho; exact ho
  | cons a l ih =>
   intro o ho
   have := h a
   exact ih _ (by show 0 ≤ max o (S a) ∧ max o (S a) ≤ B; omega)
 exact fun l => key l 0 (by omega)
set_option maxHeartbeats 16000000 in
theorem pcrit_any {P Bm m G co : Nat} {A A2 A3 Ao : Option Addr} {c c2 c3 : Nat} {ns ls : List Q4} {cs : List Int} {w : World} {wi : Int} (hP : PrS w P Bm m G co A A2 A3 Ao c c2 c3 ns ls cs) (h3 : Ints w A3 cs) (HP : Hid (probB ns ls cs wi = true)) :
 Calls Try.prog 41 #[.pointer (some ⟨P, 0, none⟩)] w fun e w' => e = .returned (.int .i64 (critG ns ls cs)) ∧ Grows w w' := by
 have hV := (prob_iff.1 HP.out).1
 have hln := (valid_len hV).1
 have hLs := (valid_len hV).2
 have hcs := okW_len (prob_iff.1 HP.out).2.1
 have HWW := Lib.hid fun x => wb_of (prob_iff.1 HP.out).2.1 x
 have HV := Lib.hid hV
 have HA : Hid (ns.Pairwise fun x y => x.a < y.a) := Lib.hid (valid_asc hV)
 have HE0 : Hid (critG ns ls cs = critS (wOf ns cs) ls (orderL ns ls)) := Lib.hid (by unfold critG; rw [if_pos (prob_one HP.out)])
 have HND := Lib.hid (order_nodup ns ls)
 have hol : (orderL ns ls).length ≤ 64 := order_len64 hV
 have hpo := ordP_len ns ls
 have HIN : Hid (∀ (k : Nat) (x : Int), (orderL ns ls)[k]? = some x → x ∈ orderL ns ls ∧ (ordP ns ls)[k]? = some (pl ns x)) := Lib.hid fun k x hx => ⟨List.mem_of_getElem? hx, ordP_at hx⟩
 clear hV
 obtain ⟨od, hod⟩ : ∃ od, orderL ns ls = od := ⟨_, rfl⟩
 have HOD := Lib.hid hod
 rw [hod] at hol hpo HIN HND HE0
 clear hod
 have xP := hP.blk.cell
 go_enter Try.func41, Try.ntmps41
 go_upto_region 1 with fail
 refine wp_region_lit ?_
 iterate 6
  refine wpList_plain rfl (fun K hK => ?_)
  go_simp
  refine hK _ _ ?_
  clear hK K
 obtain ⟨i0, hi0, hi1, hi2, hi3, hi4⟩ := iinfo
 refine wpList_make_full _ rfl (.tmp 14) (.tmp 14) 22 rfl w.heap.size 3 i0 (.int .i64 0) 1 Try.underlying22 hi0 hi3 hi1 .i64 .i64 ns.length ns.length ns.length rfl rfl rfl rfl (by rw [hi2]; omega) (by simp only [maxLen]; omega) (Nat.le_refl _) ?_
 intro w6 hz hg6
 obtain ⟨Gs, hGs⟩ : ∃ Gs, w.heap.size = Gs := ⟨_, rfl⟩
 have hS0 := made_zero _ _ _ _ hz
 have hS : ArrI w6 w.heap.size Gs ns.length (List.replicate ns.length 0) := by rw [← hGs]; exact hS0
 have hGe2 : (Value.slice (some ⟨w.heap.size, 0, none⟩) ns.length ns.length) = .slice (some ⟨Gs, 0, none⟩) ns.length ns.length := by rw [hGs]
 rw [hGe2]
 have hB : Grows w w6 := (Below.refl _ _).grown hg6 (Nat.le_refl _) (fun q e => by cases e)
 rw [arr_zero] at hS
 clear hz hg6 hi0 hi1 hi2 hi3 hi4 hGs hGe2 hS0 xP
 have xP := (hP.grows hB).blk.cell
 go_wp2_with fail
 clear xP
 go_loopw [4, 21] (fun o i wr => ∃ (k : Nat) (z : Int), k ≤ od.length ∧ i = .int .i64 k ∧ o = .int .i64 z ∧ Hid (critK (wOf ns cs) ls od k = z) ∧ ArrI wr w.heap.size Gs ns.length (arrL ns (fun x => some (sumsK (wOf ns cs) ls od k x))) ∧ Below w.heap.size w wr) (fun _ i _ => od.length - (intOf i).toNat)
 case atStart => exact ⟨0, 0, by omega, rfl, rfl, Lib.hid rfl, hS, hB⟩
 case round =>
  clear hS hB
  obtain ⟨k, z, hk, rfl, rfl, HC, hS, hB⟩ := hrel
  have hcb := critK_bd (C := 1099511627776) (by omega) HWW.out (ls := ls) (order := od) k
  rw [HC.out] at hcb
  by_cases hlt : k < od.length
  ·have hx := List.getElem?_eq_getElem hlt
   obtain ⟨hid1, hid2⟩ := HIN.out k _ hx
   generalize od[k] = id at hx hid1 hid2
   have HX := Lib.hid hx
   have HIM : Hid (id ∈ orderL ns ls) := Lib.hid (by rw [HOD.out]; exact hid1)
   obtain ⟨nd, hnd1, hnd2⟩ := order_mem HIM.out
   obtain ⟨ki, hki, hki2, hkl, n0, hn0, hn02⟩ := pl_in hnd1
   rw [hnd2] at hki hki2 hn02
   rw [hki] at hid2
   have HNI : Hid (ns[ki]? = some n0 ∧ n0.a = id) := Lib.hid ⟨hn0, hn02⟩
   have HKI := Lib.hid hki2
   obtain ⟨adO, zo, eO, hadO, hxo, pO⟩ := (hP.grows hB).ord.at_ (k := k) (by omega)
   subst eO
   have e5 : zo = (ki : Int) := by rw [hid2] at hxo; injection hxo with hxo; exact hxo.symm
   subst e5
   have HBF : Hid (befP ns ls ki = (waitsL ls id).map (pl ns)) := Lib.hid (by rw [← hn02]; exact befP_waits HV.out hn0)
   have hb := hP.bef ki hkl
   rw [HBF.out] at hb
   obtain ⟨Ab, cb, hGl, xb0, hb, -⟩ := hb
   rw [List.length_map] at xb0
   have xb : wr.cell? ⟨G, ki, none⟩ = some (.slice Ab (waitsL ls id).length cb) := by rw [← xb0]; exact hB.cell hGl
   have hwl : (waitsL ls id).length ≤ 256 := by
    unfold waitsL
    rw [List.length_map]
    exact Nat.le_trans (List.length_filter_le _ _) hLs
   have hs0 : sumsK (wOf ns cs) ls od k id = 0 := sumsK_new HND.out HX.out
   have hS1 := hS
   rw [← midQ_zero (ls := ls) hs0] at hS1
   have hsb := fun y => sumsK_bd (C := 1099511627776) (by omega) HWW.out (ls := ls) (order := od) k y
   have hkC : (k : Int) * 1099511627776 ≤ 70368744177664 := by omega
   have HSB : Hid (∀ y, 0 ≤ sumsK (wOf ns cs) ls od k y ∧ sumsK (wOf ns cs) ls od k y ≤ 70368744177664) := Lib.hid fun y => ⟨(hsb y).1, Int.le_trans (hsb y).2 hkC⟩
   clear hx hid1 hid2 hnd1 hnd2 hki hki2 hn0 hn02 hxo hsb hS hs0 hkC
   have xP := (hP.grows hB).blk.cell
   go_wp2_with fail
   clear xP xb xb0 pO hGl
   go_loopw [33] (fun i wq => ∃ j : Nat, j ≤ (waitsL ls id).length ∧ i = .int .i64 j ∧ ArrI wq w.heap.size Gs ns.length (arrL ns (midQ ls (sumsK (wOf ns cs) ls od k) id j)) ∧ Below w.heap.size w wq) (fun i _ => (waitsL ls id).length - (intOf i).toNat)
   case atStart => exact ⟨0, by omega, rfl, hS1, hB⟩
   case round =>
    clear hS1 hB
    obtain ⟨j, hj, rfl, hS, hB⟩ := hrel
    obtain ⟨t, ht⟩ : ∃ t, bestW (sumsK (wOf ns cs) ls od k) ((waitsL ls id).take j) = t := ⟨_, rfl⟩
    have htb := bestW_bd (B := 70368744177664) (by omega) HSB.out ((waitsL ls id).take j)
    rw [ht] at htb
    have HT := Lib.hid ht
    have hcl : wr.cell? ⟨Gs, ki, none⟩ = some (.int .i64 t) := hS.cell (by rw [arr_at _ HNI.out.1, HNI.out.2]; unfold midQ; rw [if_pos rfl, HT.out]; rfl)
    clear ht
    by_cases hlt2 : j < (waitsL ls id).length
    ·obtain ⟨ad, x, e1, had, hx, p0⟩ := (hb.grows hB).at_ (k := j) (by rw [List.length_map]; exact hlt2)
     subst e1
     have hw := List.getElem?_eq_getElem hlt2
     generalize (waitsL ls id)[j] = a at hw
     have ham := List.mem_of_getElem? hw
     have HW := Lib.hid hw
     have e2 : x = pl ns a := by rw [List.getElem?_map, hw] at hx; injection hx with hx; exact hx.symm
     obtain ⟨n2, hn1, hn2⟩ := waits_mem HV.out ham
     obtain ⟨kj, hkj, -, hkjl, m2, hm1, hm2⟩ := pl_in hn1
     rw [hn2] at hkj hm2
     rw [hkj] at e2
     subst e2
     have hne := waits_ne HIM.out ham
     obtain ⟨sv, hsv⟩ : ∃ sv, (sumsK (wOf ns cs) ls od k) a = sv := ⟨_, rfl⟩
     have hsvb := HSB.out a
     rw [hsv] at hsvb
     have hcl2 : wr.cell? ⟨Gs, kj, none⟩ = some (.int .i64 sv) := hS.cell (by rw [arr_at _ hm1, hm2]; unfold midQ; rw [if_neg hne, hsv]; rfl)
     have hfz := hS.frozen ki
     have HM := Lib.hid (fun mv (h : mv = max t ((sumsK (wOf ns cs) ls od k) a)) => midQ_succ HW.out HT.out h)
     rw [hsv] at HM
     clear hx hw ham hn1 hn2 hkj hm1 hm2 hne hsv
     by_cases hmx : t < sv
     ·have HM : Hid ((fun y => if y = id then some sv else (midQ ls (sumsK (wOf ns cs) ls od k) id j) y) = (midQ ls (sumsK (wOf ns cs) ls od k) id (j + 1))) := Lib.hid (HM.out sv (by omega))
      go_upto_region 9 with fail
      go_still_tail 11, (by kernel_rfl)
      have hq := Grows.drew' wr
      change wpList _ _ _ _ _ wr.drew
      generalize wr.drew = w6 at *
      replace hB := below_grows hB (Nat.le_refl _) hq
      replace hS := hS.grows hq
      clear hq hcl hcl2 p0
      have hfz := hS.frozen ki
      have hcl := hS.cell (arr_at _ HNI.out.1)
      iterate 2
       refine wpList_plain rfl (fun K hK => ?_)
       go_simp
       refine hK _ _ ?_
       clear hK K
      obtain ⟨hS2, hgs⟩ := hS.put ki sv
      rw [arr_set HA.out _ HNI.out.1, HNI.out.2, HM.out] at hS2
      replace hB := hB.grown hgs hB.size (fun q e => by injection e with e; subst e; exact hS.lt.1)
      clear hgs hfz hcl hS
      generalize World.setCell _ _ _ = w8 at *
      go_wp2
      go_roundw
      case rel => exact ⟨j + 1, by omega, by go_num, hS2, hB⟩
      case measure => simp [intOf]; omega
     ·have HM : Hid ((fun y => if y = id then some t else (midQ ls (sumsK (wOf ns cs) ls od k) id j) y) = (midQ ls (sumsK (wOf ns cs) ls od k) id (j + 1))) := Lib.hid (HM.out t (by omega))
      go_upto_region 9 with fail
      go_still_tail 11, (by kernel_rfl)
      have hq := Grows.drew' wr
      change wpList _ _ _ _ _ wr.drew
      generalize wr.drew = w6 at *
      replace hB := below_grows hB (Nat.le_refl _) hq
      replace hS := hS.grows hq
      clear hq hcl hcl2 p0
      have hfz := hS.frozen ki
      have hcl := hS.cell (arr_at _ HNI.out.1)
      iterate 2
       refine wpList_plain rfl (fun K hK => ?_)
       go_simp
       refine hK _ _ ?_
       clear hK K
      obtain ⟨hS2, hgs⟩ := hS.put ki t
      rw [arr_set HA.out _ HNI.out.1, HNI.out.2, HM.out] at hS2
      replace hB := hB.grown hgs hB.size (fun q e => by injection e with e; subst e; exact hS.lt.1)
      clear hgs hfz hcl hS
      generalize World.setCell _ _ _ = w8 at *
      go_wp2
      go_roundw
      case rel => exact ⟨j + 1, by omega, by go_num, hS2, hB⟩
      case measure => simp [intOf]; omega
    ·rw [List.take_of_length_le (by omega)] at HT
     obtain ⟨ad3, wv, e3, had3, hz3, p3⟩ := (h3.grows hB).at_ (k := ki) (by omega)
     subst e3
     have hwv : wOf ns cs id = wv := by
      rw [wOf_at HKI.out, List.getD_eq_getElem?_getD, hz3]
      rfl
     have hwb := HWW.out id
     rw [hwv] at hwb
     have HE2 := Lib.hid (midQ_end HX.out j HT.out hwv)
     have hwr : IntKind.i64.wrap (t + wv) = t + wv := IntWalk.i64_in _ (by omega)
     have hfz := hS.frozen ki
     have xP := (hP.grows hB).blk.cell 2
     have HC2 : Hid (critK (wOf ns cs) ls od (k + 1) = max z (t + wv)) := Lib.hid (by
      rw [critK_succ HND.out (fun x => (HWW.out x).1) HX.out, HC.out, best_waits, HT.out, hwv])
     clear hz3 hwv
     go_upto_region 11 with fail
     go_still_tail 12, (by kernel_rfl)
     have hq := Grows.drew' wr
     change wpList _ _ _ _ _ wr.drew
     generalize wr.drew = w7 at *
     replace hB := below_grows hB (Nat.le_refl _) hq
     replace hS := hS.grows hq
     clear hq hcl p3 hfz xP
     have hfz := hS.frozen ki
     have hcl : w7.cell? ⟨Gs, ki, none⟩ = some (.int .i64 t) := hS.cell (by rw [arr_at _ HNI.out.1, HNI.out.2]; unfold midQ; rw [if_pos rfl, List.take_of_length_le (by omega), HT.out]; rfl)
     iterate 2
      refine wpList_plain rfl (fun K hK => ?_)
      go_simp
      refine hK _ _ ?_
      clear hK K
     obtain ⟨hS2, hgs⟩ := hS.put ki (t + wv)
     have hcl2 : (w7.setCell ⟨Gs, ki, none⟩ (.int .i64 (t + wv))).cell? ⟨Gs, ki, none⟩ = some (.int .i64 (t + wv)) := hS2.cell (by rw [List.getElem?_set_self (by rw [arr_len]; exact hkl)])
     rw [arr_set HA.out _ HNI.out.1, HNI.out.2, HE2.out] at hS2
     replace hB := hB.grown hgs hB.size (fun q e => by injection e with e; subst e; exact hS.lt.1)
     clear hgs hfz hcl hS
     generalize World.setCell _ _ _ = w8 at *
     go_upto_region 12 with fail
     refine wp_region_lit ?_
     iterate 5
      refine wpList_plain rfl (fun K hK => ?_)
      go_simp
      refine hK _ _ ?_
      clear hK K
     refine wpList_max2 rfl (.tmp 63) (.tmp 67) _ rfl .i64 z (t + wv) rfl rfl ?_
     go_wp2
     go_roundw
     case rel => exact ⟨k + 1, max z (t + wv), by omega, by go_num, rfl, HC2, hS2, hB⟩
     case measure => simp [intOf]; omega
  ·have HS : Hid (critK (wOf ns cs) ls od k = critS (wOf ns cs) ls od) := Lib.hid (critK_end (by omega))
   go_wp2
   go_ret
   rw [HE0.out, ← HS.out, HC.out]
   exact ⟨rfl, hB⟩
set_option maxHeartbeats 16000000 in
theorem pcritical_any {A A2 A3 : Option Addr} {c2 : Nat} {ns ls : List Q4} {cs : List Int} {w : World} (c c3 : Nat) (h : GOK w A A2 c2 ns ls) (h3 : Ints w A3 cs) (hl3 : cs.length ≤ 9223372036854775807) :
 Calls Try.prog 17 #[.agg #[.slice A ns.length c, .slice A2 ls.length c2], .slice A3 cs.length c3] w fun e w' => e = .returned (.int .i64 (critG ns ls cs)) ∧ Grows w w' := by
 have k1 := Blk.new w 26 #[.slice A ns.length c, .slice A2 ls.length c2]
 have hB := (Below.refl w.heap.size w).alloc (Nat.le_refl _) (Obj.cells #[.slice A ns.length c, .slice A2 ls.length c2] 26)
 go_enter Try.func17, Try.ntmps17
 go_upto_region 1 with fail
 generalize World.alloc w _ = w1 at *
 have x1 := k1.cell
 go_wp2_with fail
 refine (read_any c c3 1 (h.grows hB) (h3.grows hB) hl3).mono ?_
 rintro e w0 ⟨(⟨hp, P, Bm, m, G, co, Ao, rfl, hP⟩ | ⟨hp, rfl⟩), hq⟩
 case inr =>
  have HE : Hid (critG ns ls cs = 0) := Lib.hid (by unfold critG; rw [if_neg (by rw [hp]; decide)])
  replace hB := below_grows hB (Nat.le_refl _) hq
  clear hq x1 hp
  go_wp2
  go_ret
  rw [HE.out]
  exact ⟨rfl, hB⟩
 replace hB := below_grows hB (Nat.le_refl _) hq
 have HP := Lib.hid hp
 clear hq x1 hp
 go_wp2_with fail
 refine (pcrit_any hP (h3.grows hB) HP).mono ?_
 rintro e w2 ⟨rfl, hq⟩
 replace hB := below_grows hB (Nat.le_refl _) hq
 go_wp2
 go_ret
 exact ⟨rfl, hB⟩
set_option maxHeartbeats 16000000 in
theorem pbound_any {A A2 A3 : Option Addr} {c2 : Nat} {ns ls : List Q4} {cs : List Int} {w : World} (c c3 : Nat) (wi : Int) (h : GOK w A A2 c2 ns ls) (h3 : Ints w A3 cs) (hl3 : cs.length ≤ 9223372036854775807) :
 Calls Try.prog 19 #[.agg #[.slice A ns.length c, .slice A2 ls.length c2], .slice A3 cs.length c3, .int .i64 wi] w fun e w' => e = .returned (.int .i64 (boundG ns ls cs wi)) ∧ Grows w w' := by
 have k1 := Blk.new w 26 #[.slice A ns.length c, .slice A2 ls.length c2]
 have hB := (Below.refl w.heap.size w).alloc (Nat.le_refl _) (Obj.cells #[.slice A ns.length c, .slice A2 ls.length c2] 26)
 go_enter Try.func19, Try.ntmps19
 go_upto_region 1 with fail
 generalize World.alloc w _ = w1 at *
 have x1 := k1.cell
 go_wp2_with fail
 refine (read_any c c3 wi (h.grows hB) (h3.grows hB) hl3).mono ?_
 rintro e w0 ⟨(⟨hp, P, Bm, m, G, co, Ao, rfl, hP⟩ | ⟨hp, rfl⟩), hq⟩
 case inr =>
  have HE : Hid (boundG ns ls cs wi = 0) := Lib.hid (by simp [boundG, hp])
  replace hB := below_grows hB (Nat.le_refl _) hq
  clear hq x1 hp
  go_wp2
  go_ret
  rw [HE.out]
  exact ⟨rfl, hB⟩
 replace hB := below_grows hB (Nat.le_refl _) hq
 have HP := Lib.hid hp
 have hw1 := (prob_iff.1 hp).2.2
 have hln := (valid_len (prob_iff.1 hp).1).1
 have hcs : cs.length ≤ ns.length := Nat.le_of_eq (okW_len (prob_iff.1 hp).2.1)
 have HALL := Lib.hid (okW_all (prob_iff.1 hp).2.1)
 clear hq x1 hp
 go_wp2_with fail
 go_loop [9, 11, 23] (fun o _ i => ∃ (k : Nat) (z : Int), k ≤ cs.length ∧ i = .int .i64 k ∧ o = .int .i64 z ∧ Hid (sumK cs k = z)) (fun _ _ i => cs.length - (intOf i).toNat)
 case atStart => exact ⟨0, 0, by omega, rfl, rfl, Lib.hid rfl⟩
 case round =>
  obtain ⟨k, z, hk, rfl, rfl, HZ⟩ := hrel
  have hzb := sumK_bd HALL.out k
  rw [HZ.out] at hzb
  by_cases hlt : k < cs.length
  ·obtain ⟨ad, x, e1, had, hx, q0⟩ := (h3.grows hB).at_ hlt
   subst e1
   have hxb := HALL.out x (List.mem_of_getElem? hx)
   have HZ2 : Hid (sumK cs (k + 1) = z + x) := Lib.hid (by rw [sumK_succ hx, HZ.out])
   clear hx
   go_wp2
   go_round
   case rel => exact ⟨k + 1, z + x, by omega, by go_num, rfl, HZ2⟩
   case measure => simp [intOf]; omega
  ·have HS : Hid (sumL cs = z) := Lib.hid (by have := HZ.out; unfold sumK at this; rwa [List.take_of_length_le (by omega)] at this)
   go_wp2_with fail
   refine (pcrit_any hP (h3.grows hB) HP).mono ?_
   rintro e w3 ⟨rfl, hq⟩
   replace hB := below_grows hB (Nat.le_refl _) hq
   clear hq
   have hcb := crit_bd (ns := ns) (ls := ls) (cs := cs)
   have HG : Hid (critG ns ls cs = critS (wOf ns cs) ls (orderL ns ls)) := Lib.hid (by unfold critG; rw [if_pos (prob_one HP.out)])
   generalize critG ns ls cs = g at *
   have hm : 0 ≤ (wi - 1) * g ∧ (wi - 1) * g ≤ 492581209243648 := by
    refine ⟨Int.mul_nonneg (by omega) hcb.1, ?_⟩
    have := Int.mul_le_mul (show wi - 1 ≤ 7 by omega) hcb.2 hcb.1 (by omega)
    omega
   have HE : Hid (boundG ns ls cs wi = (z + (wi - 1) * g).tdiv wi) := Lib.hid (by
    unfold boundG
    rw [if_pos HP.out, HS.out, ← HG.out, Int.tdiv_eq_ediv_of_nonneg (by omega)])
   have hd : 0 ≤ (z + (wi - 1) * g).tdiv wi ∧ (z + (wi - 1) * g).tdiv wi ≤ 9223372036854775807 := by
    rw [Int.tdiv_eq_ediv_of_nonneg (by omega)]
    exact ⟨Int.ediv_nonneg (by omega) (by omega), Int.le_trans (Int.ediv_le_self _ (by omega)) (by omega)⟩
   go_wp2
   go_ret
   rw [HE.out]
   exact ⟨rfl, hB⟩
end Go.Proofs.Ytobhdldlhhigdaa

namespace Go.Proofs.Ytobhdldlhhigdaa
open Go.RowKit Go.Maps
set_option maxRecDepth 100000
theorem qs_at {w : World} {ad : Addr} {l : List Q4} {k : Nat} {x : Q4} (h : Qs w (some ad) l) (hx : l[k]? = some x) :
 w.cell? (ad.add (k * 4)) = some (.int .i64 x.a) ∧ w.cell? ⟨(ad.add (k * 4)).block, (ad.add (k * 4)).off + 1, none⟩ = some (.int .i64 x.b) ∧ w.cell? ⟨(ad.add (k * 4)).block, (ad.add (k * 4)).off + 2, none⟩ = some (.int .i64 x.c) ∧ w.cell? ⟨(ad.add (k * 4)).block, (ad.add (k * 4)).off + 3, none⟩ = some (.int .i64 x.d) := by
 obtain ⟨ad', x', e1, -, hx', q0, q1, q2, q3⟩ := h.elem (List.getElem?_eq_some_iff.1 hx).1
 injection e1 with e1
 subst e1
 rw [hx] at hx'
 injection hx' with hx'
 subst hx'
 exact ⟨q0, q1, q2, q3⟩
theorem add_nought (a : Addr) : a.add 0 = a := by unfold Addr.add; simp
theorem cmp3_pos (a b : Int) : 0 < cmp3 a b ↔ b < a := by
 unfold cmp3
 by_cases h1 : a < b
 ·rw [if_pos h1]
  omega
 ·rw [if_neg h1]
  split <;> omega
def laterQ (m x : Q4) : Q4 := if m.d < x.d then x else m
def lastS (l : List Q4) : Q4 := (l.drop 1).foldl laterQ (l.headD q0)
theorem lastS_succ {l : List Q4} {k : Nat} {x : Q4} (hk : 1 ≤ k) (h : l[k]? = some x) : lastS (l.take (k + 1)) = laterQ (lastS (l.take k)) x := by
 unfold lastS
 have hl := (List.getElem?_eq_some_iff.1 h).1
 rw [take_snoc h, List.drop_append_of_le_length (by rw [List.length_take]; omega), List.foldl_append]
 cases hd : l.take k with
 | nil =>
  have := congrArg List.length hd
  rw [List.length_take] at this
  simp only [List.length_nil] at this
  omega
 | cons a t => rfl
theorem lastS_one {l : List Q4} {x : Q4} (h : l[0]? = some x) : lastS (l.take 1) = x := by
 cases l with
 | nil => cases h
 | cons a t =>
  simp only [List.getElem?_cons_zero] at h
  injection h
theorem span_last {l : List Q4} (h : 0 < l.length) : max 0 (lastS l).d = spanL l := by
 cases l with
 | nil => simp at h
 | cons a t =>
  have key : ∀ (t : List Q4) (m : Q4), max 0 (t.foldl laterQ m).d = t.foldl (fun o s => max o s.d) (max 0 m.d) := by
   intro t
   induction t with
   | nil => intro m; rfl
   | cons b t ih =>
    intro m
    rw [List.foldl_cons, List.foldl_cons, ih]
    congr 1
    unfold laterQ
    split <;> omega
  exact key t a
set_option maxHeartbeats 4000000 in
theorem span1_any (x m : Q4) (w : World) : Calls Try.prog 38 #[.agg #[.int .i64 x.a, .int .i64 x.b, .int .i64 x.c, .int .i64 x.d], .agg #[.int .i64 m.a, .int .i64 m.b, .int .i64 m.c, .int .i64 m.d]] w fun e w' => e = .returned (.int .i64 (cmp3 x.d m.d)) ∧ Grows w w' := by
 have k1 := Blk.new w 53 #[.int .i64 x.a, .int .i64 x.b, .int .i64 x.c, .int .i64 x.d]
 have hB := (Below.refl w.heap.size w).alloc (Nat.le_refl _) (Obj.cells #[.int .i64 x.a, .int .i64 x.b, .int .i64 x.c, .int .i64 x.d] 53)
 have k2 := blk_new2 w (Obj.cells #[.int .i64 x.a, .int .i64 x.b, .int .i64 x.c, .int .i64 x.d] 53) 53 #[.int .i64 m.a, .int .i64 m.b, .int .i64 m.c, .int .i64 m.d]
 replace hB := hB.alloc hB.size (Obj.cells #[.int .i64 m.a, .int .i64 m.b, .int .i64 m.c, .int .i64 m.d] 53)
 replace k1 := k1.alloc (Obj.cells #[.int .i64 m.a, .int .i64 m.b, .int .i64 m.c, .int .i64 m.d] 53)
 go_enter Try.func38, Try.ntmps38
 go_upto_region 1 with fail
 generalize World.alloc (World.alloc w _) _ = w1 at *
 have x1 := k1.cell 3
 have x2 := k2.cell 3
 go_wp2_with fail
 refine (cmp_i x.d m.d _).mono ?_
 rintro e w2 ⟨rfl, rfl⟩
 go_wp2
 go_ret
 exact ⟨rfl, hB⟩
set_option maxHeartbeats 4000000 in
theorem maxf_any (A : Option Addr) (c : Nat) (l : List Q4) (w : World) (h : Qs w A l) (hl0 : 0 < l.length) (hl : l.length ≤ 9223372036854775807) :
 Calls Try.prog 40 #[.slice A l.length c, .func (.func 38) #[] #[]] w fun e w' => e = .returned (.agg #[.int .i64 (lastS l).a, .int .i64 (lastS l).b, .int .i64 (lastS l).c, .int .i64 (lastS l).d]) ∧ Grows w w' := by
 obtain ⟨ad, x0, e1, had, hx0, q0, q1, q2, q3⟩ := h.elem hl0
 subst e1
 have H0 := Lib.hid hx0
 clear hx0
 have k4 := Blk.new w 53 #[.int .i64 0, .int .i64 0, .int .i64 0, .int .i64 0]
 have hB := (Below.refl w.heap.size w).alloc (Nat.le_refl _) (Obj.cells #[.int .i64 0, .int .i64 0, .int .i64 0, .int .i64 0] 53)
 obtain ⟨p0, p1, p2, p3⟩ := qs_at (h.grows hB) H0.out
 clear q0 q1 q2 q3
 simp only [Nat.zero_mul, add_nought] at p0 p1 p2 p3
 go_enter Try.func40, Try.ntmps40
 go_upto_region 1 with fail
 have hne : w.heap.size ≠ (World.alloc w (Obj.cells #[.int .i64 0, .int .i64 0, .int .i64 0, .int .i64 0] 53)).heap.size := Nat.ne_of_lt k4.lt
 generalize World.alloc w _ = w1 at *
 have k5 := Blk.new w1 53 #[.int .i64 x0.a, .int .i64 x0.b, .int .i64 x0.c, .int .i64 x0.d]
 have hq := (Below.refl w1.heap.size w1).alloc (Nat.le_refl _) (Obj.cells #[.int .i64 x0.a, .int .i64 x0.b, .int .i64 x0.c, .int .i64 x0.d] 53)
 go_upto_region 4 with fail
 have hB1 := hB.size
 replace hB := below_grows hB (Nat.le_refl _) hq
 replace k4 := k4.grows hq
 have hG5 : w.heap.size ≤ w1.heap.size := hB1
 generalize World.alloc w1 _ = w2 at *
 generalize w1.heap.size = G5 at *
 clear hq p0 p1 p2 p3
 go_wp2_with fail
 go_loopw [6] (fun i wr => ∃ (k : Nat) (m : Q4), 1 ≤ k ∧ k ≤ l.length ∧ i = .int .i64 k ∧ Hid (lastS (l.take k) = m) ∧ Blk wr G5 53 #[.int .i64 m.a, .int .i64 m.b, .int .i64 m.c, .int .i64 m.d] ∧ Blk wr w.heap.size 53 #[.int .i64 0, .int .i64 0, .int .i64 0, .int .i64 0] ∧ Below w.heap.size w wr) (fun i _ => l.length - (intOf i).toNat)
 case atStart => exact ⟨1, x0, by omega, by omega, rfl, Lib.hid (lastS_one H0.out), k5, k4, hB⟩
 case round =>
  clear k5 k4 hB
  obtain ⟨k, m, hk1, hk, rfl, HM, k5, k4, hB⟩ := hrel
  by_cases hlt : k < l.length
  ·obtain ⟨ad', x, e1, -, hx, c0, c1, c2, c3⟩ := (h.grows hB).elem hlt
   injection e1 with e1
   subst e1
   have HS := Lib.hid (lastS_succ hk1 hx)
   have HX := Lib.hid hx
   clear hx
   obtain ⟨cv, hcv⟩ : ∃ cv, cmp3 x.d m.d = cv := ⟨_, rfl⟩
   have HCV := Lib.hid hcv
   clear hcv
   go_upto_region 7 with fail
   obtain ⟨S, HI, HO⟩ := hideS fun (L : Ran) (vs : Nat → Value) (w' : World) => Grows wr w' ∧ KnS [some (.func (.func 38) #[] #[]), some (.slice (some ad) l.length c), some (.int .i64 (k : Int)), some (.pointer (some (ad.add (k * 4)))), some (.agg #[.int .i64 x.a, .int .i64 x.b, .int .i64 x.c, .int .i64 x.d]), some (.agg #[.int .i64 m.a, .int .i64 m.b, .int .i64 m.c, .int .i64 m.d]), some (.int .i64 cv), some (.bool (decide (0 < cv)))] L vs
   refine wp_region_genW S 33 (by kernel_rfl) (by kernel_rfl) rfl ?_ ?_
   ·exact HI.out _ _ _ ⟨Grows.drew' _, kn_none _ _⟩
   refine gen_consR (fun vs L w1 hL hw1 => ?_) ?_
   ·obtain ⟨q0, q1⟩ := HO.out _ _ _ hw1
    refine gen_plain rfl ?_
    go_simp
    exact gr_val (HI.out _ _ _ ⟨q0, kn_known q1 rfl⟩)
   refine gen_consR (fun vs L w1 hL hw1 => ?_) ?_
   ·obtain ⟨q0, q1⟩ := HO.out _ _ _ hw1
    refine gen_plain rfl ?_
    go_simp
    exact gr_val (HI.out _ _ _ ⟨q0, kn_known q1 rfl⟩)
   refine gen_consR (fun vs L w1 hL hw1 => ?_) ?_
   ·obtain ⟨q0, q1⟩ := HO.out _ _ _ hw1
    refine gen_plain rfl ?_
    go_simp
    exact gr_val (HI.out _ _ _ ⟨q0, kn_known q1 rfl⟩)
   refine gen_consR (fun vs L w1 hL hw1 => ?_) ?_
   ·obtain ⟨q0, q1⟩ := HO.out _ _ _ hw1
    refine gen_plain rfl ?_
    have l1 : L 1 = true := hL.need 1 (by kernel_rfl)
    have e1 := q1 1 _ rfl l1
    have l2 : L 2 = true := hL.need 2 (by kernel_rfl)
    have e2 := q1 2 _ rfl l2
    simp only [e1, e2]
    go_simp
    exact gr_val (HI.out _ _ _ ⟨q0, kn_known q1 rfl⟩)
   refine gen_consR (fun vs L w1 hL hw1 => ?_) ?_
   ·obtain ⟨q0, q1⟩ := HO.out _ _ _ hw1
    refine gen_plain rfl ?_
    have l3 : L 3 = true := hL.need 3 (by kernel_rfl)
    have e3 := q1 3 _ rfl l3
    simp only [e3]
    obtain ⟨p0, p1, p2, p3⟩ := qs_at ((h.grows hB).grows q0) HX.out
    go_simp
    exact gr_val (HI.out _ _ _ ⟨q0, kn_known q1 rfl⟩)
   refine gen_consR (fun vs L w1 hL hw1 => ?_) ?_
   ·obtain ⟨q0, q1⟩ := HO.out _ _ _ hw1
    refine gen_plain rfl ?_
    have x := (k5.grows q0).cell 
    go_simp
    exact gr_val (HI.out _ _ _ ⟨q0, kn_known q1 rfl⟩)
   refine gen_consR (fun vs L w1 hL hw1 => ?_) ?_
   ·obtain ⟨q0, q1⟩ := HO.out _ _ _ hw1
    refine gen_plain rfl ?_
    have l0 : L 0 = true := hL.need 0 (by kernel_rfl)
    have e0 := q1 0 _ rfl l0
    have l4 : L 4 = true := hL.need 4 (by kernel_rfl)
    have e4 := q1 4 _ rfl l4
    have l5 : L 5 = true := hL.need 5 (by kernel_rfl)
    have e5 := q1 5 _ rfl l5
    simp only [e0, e4, e5]
    go_simp
    refine gr_call ?_
    refine (span1_any x m w1).mono ?_
    rintro e w2 ⟨rfl, hg⟩
    rw [HCV.out]
    exact ⟨_, rfl, HI.out _ _ _ ⟨below_grows q0 (Nat.le_refl _) hg, kn_known q1 rfl⟩⟩
   refine gen_consR (fun vs L w1 hL hw1 => ?_) ?_
   ·obtain ⟨q0, q1⟩ := HO.out _ _ _ hw1
    refine gen_plain rfl ?_
    have l6 : L 6 = true := hL.need 6 (by kernel_rfl)
    have e6 := q1 6 _ rfl l6
    simp only [e6]
    go_simp
    exact gr_val (HI.out _ _ _ ⟨q0, kn_known q1 rfl⟩)
   refine gen_nil ?_
   intro vs L W6 hall hS
   obtain ⟨hq, q1⟩ := HO.out _ _ _ hS
   have eX7 := q1 7 _ rfl (hall 7 (by simp))
   clear hall hS HI HO q1
   simp only [eX7]
   replace k5 := k5.grows hq
   replace k4 := k4.grows hq
   replace hB := below_grows hB (Nat.le_refl _) hq
   obtain ⟨p0, p1, p2, p3⟩ := qs_at (h.grows hB) HX.out
   generalize vs 0 = y0 at *
   generalize vs 1 = y1 at *
   generalize vs 2 = y2 at *
   generalize vs 3 = y3 at *
   generalize vs 4 = y4 at *
   generalize vs 5 = y5 at *
   generalize vs 6 = y6 at *
   clear hq c0 c1 c2 c3
   by_cases hmx : 0 < cv
   ·have HE : Hid (lastS (l.take (k + 1)) = x) := Lib.hid (by
     rw [HS.out, HM.out]
     unfold laterQ
     rw [if_pos ((cmp3_pos _ _).1 (by rw [HCV.out]; exact hmx))])
    go_upto_region 8 with fail
    refine wp_region_lit ?_
    iterate 4
     refine wpList_plain rfl (fun K hK => ?_)
     go_simp
     refine hK _ _ ?_
     clear hK K
    refine wpList_store_row (cs := #[.int .i64 x.a, .int .i64 x.b, .int .i64 x.c, .int .i64 x.d]) rfl _ _ rfl rfl rfl rfl k5 (by kernel_rfl) rfl (by kernel_rfl) ?_
    have k52 : Blk (W6.setRow G5 #[.int .i64 x.a, .int .i64 x.b, .int .i64 x.c, .int .i64 x.d]) G5 53 #[.int .i64 x.a, .int .i64 x.b, .int .i64 x.c, .int .i64 x.d] := k5.row
    replace k4 := k4.row_far (g := G5) (cs' := #[.int .i64 x.a, .int .i64 x.b, .int .i64 x.c, .int .i64 x.d]) hne
    replace hB := below_row hB hG5 #[.int .i64 x.a, .int .i64 x.b, .int .i64 x.c, .int .i64 x.d]
    clear p0 p1 p2 p3
    generalize W6.setRow _ _ = w8 at *
    go_wp2
    go_roundw
    case rel => exact ⟨k + 1, x, by omega, by omega, by go_num, HE, k52, k4, hB⟩
    case measure => simp [intOf]; omega
   ·have HE : Hid (lastS (l.take (k + 1)) = m) := Lib.hid (by
     rw [HS.out, HM.out]
     unfold laterQ
     rw [if_neg (fun h => hmx (by rw [← HCV.out]; exact (cmp3_pos _ _).2 h))])
    clear p0 p1 p2 p3
    go_wp2
    go_roundw
    case rel => exact ⟨k + 1, m, by omega, by omega, by go_num, HE, k5, k4, hB⟩
    case measure => simp [intOf]; omega
  ·have HE : Hid (lastS l = m) := Lib.hid (by have := HM.out; rwa [List.take_of_length_le (by omega)] at this)
   have x5 := k5.cell
   go_upto_region 9 with fail
   refine wp_region_lit ?_
   iterate 1
    refine wpList_plain rfl (fun K hK => ?_)
    go_simp
    refine hK _ _ ?_
    clear hK K
   refine wpList_store_row (cs := #[.int .i64 m.a, .int .i64 m.b, .int .i64 m.c, .int .i64 m.d]) rfl _ _ rfl rfl rfl rfl k4 (by kernel_rfl) rfl (by kernel_rfl) ?_
   have k42 : Blk (wr.setRow w.heap.size #[.int .i64 m.a, .int .i64 m.b, .int .i64 m.c, .int .i64 m.d]) w.heap.size 53 #[.int .i64 m.a, .int .i64 m.b, .int .i64 m.c, .int .i64 m.d] := k4.row
   replace hB := below_row hB (Nat.le_refl _) #[.int .i64 m.a, .int .i64 m.b, .int .i64 m.c, .int .i64 m.d]
   clear x5
   generalize wr.setRow _ _ = w8 at *
   have x4 := k42.cell
   go_wp2
   refine bodyPost_ret (v := .agg #[.int .i64 m.a, .int .i64 m.b, .int .i64 m.c, .int .i64 m.d]) (by simp [results, Try.results40, go_sem, x4]) rfl ⟨?_, hB⟩
   rw [HE.out]
set_option maxHeartbeats 4000000 in
theorem pspan_any (A : Option Addr) (c : Nat) (l : List Q4) (w : World) (h : Qs w A l) (hl : l.length ≤ 9223372036854775807) :
 Calls Try.prog 15 #[.slice A l.length c] w fun e w' => e = .returned (.int .i64 (spanL l)) ∧ Grows w w' := by
 go_enter Try.func15, Try.ntmps15
 by_cases h0 : l.length = 0
 ·have hl0 : l = [] := List.eq_nil_of_length_eq_zero h0
  have HE : Hid (spanL l = 0) := Lib.hid (by rw [hl0]; rfl)
  clear hl0
  have h02 : ((l.length : Int) == 0) = true := by
   simp only [beq_iff_eq]
   omega
  clear h0
  go_wp2
  go_ret
  rw [HE.out]
  exact ⟨rfl, Below.refl _ _⟩
 ·have h02 : ((l.length : Int) == 0) = false := by
   simp only [beq_eq_false_iff_ne, ne_eq]
   omega
  have HE : Hid (spanL l = max 0 (lastS l).d) := Lib.hid (span_last (by omega)).symm
  go_wp2_with fail
  refine (maxf_any A c l _ h (by omega) hl).mono ?_
  generalize lastS l = m at *
  rintro e w2 ⟨rfl, hq⟩
  have ef : (Instr.field 53 (.agg #[.int .i64 m.a, .int .i64 m.b, .int .i64 m.c, .int .i64 m.d]) 3).run Try.prog w2 = .ok (.int .i64 m.d) w2 := by kernel_rfl
  go_wp2
  all_goals go_ret
  all_goals (rw [HE.out]; refine ⟨ret_int ?_, hq⟩; omega)
end Go.Proofs.Ytobhdldlhhigdaa

namespace Go.Proofs.Ytobhdldlhhigdaa
open Go.RowKit Go.Maps
set_option maxRecDepth 100000
theorem qs_lits (w : World) (l : List Q4) (cs : Array Value) (t : TypeId) (h : cs.toList = qcells l) : Qs (w.alloc (.cells cs t)) (some ⟨w.heap.size, 0, none⟩) l := by
 have hb := Blk.new w t cs
 refine ⟨by rw [qcells_len], fun _ => ⟨_, rfl, by simp, fun j u hu => ?_⟩⟩
 have := hb.cell j
 have e : (⟨w.heap.size, 0, none⟩ : Addr).add j = ⟨w.heap.size, j, none⟩ := by unfold Addr.add; split <;> simp_all
 rw [e, this, ← Array.getElem?_toList, h]
 exact hu
theorem ints_lits (w : World) (l : List Int) (cs : Array Value) (t : TypeId) (h : cs.toList = l.map (Value.int .i64)) : Ints (w.alloc (.cells cs t)) (some ⟨w.heap.size, 0, none⟩) l := by
 have hb := Blk.new w t cs
 refine ⟨by simp, fun _ => ⟨_, rfl, by simp, fun j u hu => ?_⟩⟩
 have := hb.cell j
 have e : (⟨w.heap.size, 0, none⟩ : Addr).add j = ⟨w.heap.size, j, none⟩ := by unfold Addr.add; split <;> simp_all
 rw [e, this, ← Array.getElem?_toList, h]
 exact hu
def saneN : List Q4 := [⟨1, 1, 0, 1⟩, ⟨2, 1, 0, 1⟩, ⟨3, 3, 1, 1⟩]
def saneL : List Q4 := [⟨1, 0, 3, 0⟩, ⟨2, 0, 3, 0⟩]
def saneC : List Int := [5, 7, 1]
theorem sane_prob : probB saneN saneL saneC 2 = true := by kernel_rfl
theorem sane_len : (compG saneN saneL saneC 2).length = 3 := by kernel_rfl
theorem sane_span : spanL (compG saneN saneL saneC 2) = 8 := by kernel_rfl
theorem sane_crit : critG saneN saneL saneC = 8 := by kernel_rfl
theorem sane_bound : boundG saneN saneL saneC 2 = 10 := by kernel_rfl
set_option maxHeartbeats 16000000 in
theorem sane_any (w : World) : Calls Try.prog 8 #[] w fun e w' => e = .returned (.bool true) ∧ Grows w w' := by
 have hN := qs_lits w saneN #[.int .i64 1, .int .i64 1, .int .i64 0, .int .i64 1, .int .i64 2, .int .i64 1, .int .i64 0, .int .i64 1, .int .i64 3, .int .i64 3, .int .i64 1, .int .i64 1] 46 rfl
 have hg1 := (Below.refl w.heap.size w).alloc (Nat.le_refl _) (Obj.cells #[.int .i64 1, .int .i64 1, .int .i64 0, .int .i64 1, .int .i64 2, .int .i64 1, .int .i64 0, .int .i64 1, .int .i64 3, .int .i64 3, .int .i64 1, .int .i64 1] 46)
 have hL := qs_lits (w.alloc (Obj.cells #[.int .i64 1, .int .i64 1, .int .i64 0, .int .i64 1, .int .i64 2, .int .i64 1, .int .i64 0, .int .i64 1, .int .i64 3, .int .i64 3, .int .i64 1, .int .i64 1] 46)) saneL #[.int .i64 1, .int .i64 0, .int .i64 3, .int .i64 0, .int .i64 2, .int .i64 0, .int .i64 3, .int .i64 0] 49 rfl
 have hg2 := (Below.refl (w.alloc (Obj.cells #[.int .i64 1, .int .i64 1, .int .i64 0, .int .i64 1, .int .i64 2, .int .i64 1, .int .i64 0, .int .i64 1, .int .i64 3, .int .i64 3, .int .i64 1, .int .i64 1] 46)).heap.size (w.alloc (Obj.cells #[.int .i64 1, .int .i64 1, .int .i64 0, .int .i64 1, .int .i64 2, .int .i64 1, .int .i64 0, .int .i64 1, .int .i64 3, .int .i64 3, .int .i64 1, .int .i64 1] 46))).alloc (Nat.le_refl _) (Obj.cells #[.int .i64 1, .int .i64 0, .int .i64 3, .int .i64 0, .int .i64 2, .int .i64 0, .int .i64 3, .int .i64 0] 49)
 have hs2 : (w.alloc (Obj.cells #[.int .i64 1, .int .i64 1, .int .i64 0, .int .i64 1, .int .i64 2, .int .i64 1, .int .i64 0, .int .i64 1, .int .i64 3, .int .i64 3, .int .i64 1, .int .i64 1] 46)).heap.size = w.heap.size + 1 := by simp
 rw [hs2] at hL
 go_enter Try.func8, Try.ntmps8
 go_upto_region 1 with fail
 have hs3 : ((w.alloc (Obj.cells #[.int .i64 1, .int .i64 1, .int .i64 0, .int .i64 1, .int .i64 2, .int .i64 1, .int .i64 0, .int .i64 1, .int .i64 3, .int .i64 3, .int .i64 1, .int .i64 1] 46)).alloc (Obj.cells #[.int .i64 1, .int .i64 0, .int .i64 3, .int .i64 0, .int .i64 2, .int .i64 0, .int .i64 3, .int .i64 0] 49)).heap.size = w.heap.size + 2 := by simp
 have hg3 := (Below.refl ((w.alloc (Obj.cells #[.int .i64 1, .int .i64 1, .int .i64 0, .int .i64 1, .int .i64 2, .int .i64 1, .int .i64 0, .int .i64 1, .int .i64 3, .int .i64 3, .int .i64 1, .int .i64 1] 46)).alloc (Obj.cells #[.int .i64 1, .int .i64 0, .int .i64 3, .int .i64 0, .int .i64 2, .int .i64 0, .int .i64 3, .int .i64 0] 49)).heap.size ((w.alloc (Obj.cells #[.int .i64 1, .int .i64 1, .int .i64 0, .int .i64 1, .int .i64 2, .int .i64 1, .int .i64 0, .int .i64 1, .int .i64 3, .int .i64 3, .int .i64 1, .int .i64 1] 46)).alloc (Obj.cells #[.int .i64 1, .int .i64 0, .int .i64 3, .int .i64 0, .int .i64 2, .int .i64 0, .int .i64 3, .int .i64 0] 49))).alloc (Nat.le_refl _) (Obj.cells #[.slice (some ⟨w.heap.size, 0, none⟩) 3 3, .slice (some ⟨w.heap.size + 1, 0, none⟩) 2 2] 26)
 have k1 := Blk.new ((w.alloc (Obj.cells #[.int .i64 1, .int .i64 1, .int .i64 0, .int .i64 1, .int .i64 2, .int .i64 1, .int .i64 0, .int .i64 1, .int .i64 3, .int .i64 3, .int .i64 1, .int .i64 1] 46)).alloc (Obj.cells #[.int .i64 1, .int .i64 0, .int .i64 3, .int .i64 0, .int .i64 2, .int .i64 0, .int .i64 3, .int .i64 0] 49)) 26 #[.slice (some ⟨w.heap.size, 0, none⟩) 3 3, .slice (some ⟨w.heap.size + 1, 0, none⟩) 2 2]
 rw [hs3] at k1
 have hok : GOK (((w.alloc (Obj.cells #[.int .i64 1, .int .i64 1, .int .i64 0, .int .i64 1, .int .i64 2, .int .i64 1, .int .i64 0, .int .i64 1, .int .i64 3, .int .i64 3, .int .i64 1, .int .i64 1] 46)).alloc (Obj.cells #[.int .i64 1, .int .i64 0, .int .i64 3, .int .i64 0, .int .i64 2, .int .i64 0, .int .i64 3, .int .i64 0] 49)).alloc (Obj.cells #[.slice (some ⟨w.heap.size, 0, none⟩) 3 3, .slice (some ⟨w.heap.size + 1, 0, none⟩) 2 2] 26)) (some ⟨w.heap.size, 0, none⟩) (some ⟨w.heap.size + 1, 0, none⟩) 2 saneN saneL :=
  ⟨(hN.grows hg2).grows hg3, hL.grows hg3, by simp [saneN], by simp [saneL], by simp [saneL], by simp [saneN, In64], by simp [saneL, In64]⟩
 have hB := Grows.trans' (Grows.trans' hg1 hg2) hg3
 go_upto_region 2 with fail
 clear hN hL hg1 hg2 hg3 hs2 hs3
 generalize World.alloc (World.alloc (World.alloc w _) _) _ = w1 at *
 generalize w.heap.size + 2 = Gk at *
 generalize w.heap.size + 1 = Gl at *
 have x1 := k1.cell
 have hiw1 := ints_lits w1 saneC #[.int .i64 5, .int .i64 7, .int .i64 1] 3 rfl
 have hq := (Below.refl w1.heap.size w1).alloc (Nat.le_refl _) (Obj.cells #[.int .i64 5, .int .i64 7, .int .i64 1] 3)
 go_wp2_with fail
 refine (pcomp_any (ns := saneN) (ls := saneL) (cs := saneC) 3 3 2 (hok.grows hq) hiw1 (by simp [saneC])).mono ?_
 rintro e w3 ⟨(⟨-, v, rfl, hs⟩ | ⟨hf, -⟩), hq2⟩
 case inr =>
  rw [sane_prob] at hf
  cases hf
 change OwnS w3 _ v (compG saneN saneL saneC 2) at hs
 have hlen := sane_len
 have hsp := sane_span
 generalize compG saneN saneL saneC 2 = cl at *
 have hcl3 : ((cl.length : Int) == 3) = true := by rw [hlen]; rfl
 have hsp8 : (spanL cl == 8) = true := by rw [hsp]; rfl
 have hll : cl.length ≤ 9223372036854775807 := by omega
 clear hlen hsp
 obtain ⟨A5, c5, rfl, -, hqs⟩ := hs.read
 replace hq := Grows.trans' hq hq2
 replace hB := Grows.trans' hB hq
 replace k1 := k1.grows hq
 replace hok := hok.grows hq
 clear hs hq2 hq hiw1 x1
 have x1 := k1.cell
 go_wp2_with fail
 refine (pspan_any A5 c5 cl _ hqs hll).mono ?_
 rintro e w4 ⟨rfl, hq⟩
 replace hB := Grows.trans' hB hq
 replace k1 := k1.grows hq
 replace hok := hok.grows hq
 clear hq x1 hqs
 have x1 := k1.cell
 have hiw4 := ints_lits w4 saneC #[.int .i64 5, .int .i64 7, .int .i64 1] 3 rfl
 have hq := (Below.refl w4.heap.size w4).alloc (Nat.le_refl _) (Obj.cells #[.int .i64 5, .int .i64 7, .int .i64 1] 3)
 go_wp2_with fail
 refine (pcritical_any (ns := saneN) (ls := saneL) (cs := saneC) 3 3 (hok.grows hq) hiw4 (by simp [saneC])).mono ?_
 rw [sane_crit]
 rintro e w5 ⟨rfl, hq2⟩
 replace hq := Grows.trans' hq hq2
 replace hB := Grows.trans' hB hq
 replace k1 := k1.grows hq
 replace hok := hok.grows hq
 clear hq2 hq hiw4 x1
 have x1 := k1.cell
 have hiw5 := ints_lits w5 saneC #[.int .i64 5, .int .i64 7, .int .i64 1] 3 rfl
 have hq := (Below.refl w5.heap.size w5).alloc (Nat.le_refl _) (Obj.cells #[.int .i64 5, .int .i64 7, .int .i64 1] 3)
 go_wp2_with fail
 refine (pbound_any (ns := saneN) (ls := saneL) (cs := saneC) 3 3 2 (hok.grows hq) hiw5 (by simp [saneC])).mono ?_
 rw [sane_bound]
 rintro e w6 ⟨rfl, hq2⟩
 replace hB := Grows.trans' hB (Grows.trans' hq hq2)
 go_wp2
 go_ret
 exact ⟨rfl, hB⟩
end Go.Proofs.Ytobhdldlhhigdaa

namespace Go.Proofs.Ytobhdldlhhigdaa
open Go.ChangeShapes Go.WideShapes Go.RowKit Go.Deep
section
variable {H : Type} {enc : TypeId × Value → H} {P : Program} {w : World} {base : Nat} {spare : Nat → Bool} {held : Bool} {r : Reach} {b0 : Nat}
/-- A struct of one-cell fields: its cells, each with its own reading. -/
theorem open_flat {t : TypeId} {fs : Array Field} {v : Value} {d : DataW H} {p : List MemPlace} (ht : P.underlying t = some (.struct fs)) (hone : oneCellFields P fs = true) (hC : P.cellsOf t = fs.size)
 (hv : Value.okWide P w r b0 t v) (h : DataW.Trod enc P w base spare held t v d p) :
 ∃ l : List Value, v = .agg l.toArray ∧ l.length = fs.size ∧ ∀ (i : Nat) (f : Field), fs[i]? = some f → ∃ (x : Value) (n : Nat) (y : DataW H × List MemPlace), l[i]? = some x ∧ DataW.trod enc P w base spare held n f.type [x] = some y := by
 obtain ⟨cs, rfl, hsz⟩ := okWide_struct ht hv
 obtain ⟨fuel, hf⟩ := h
 obtain ⟨xs, n, _, _, hcl, hlen, hg⟩ := DataW.trod_struct ht hf
 have hcs : (Value.agg cs).cells.toList = cs.toList := rfl
 refine ⟨cs.toList, rfl, by simpa [hC] using hsz, fun i f hi => ?_⟩
 obtain ⟨ho, hk⟩ := hone_of hone i f hi
 have hil : i < fs.size := (Array.getElem?_eq_some_iff.1 hi).1
 have hil' : i < cs.toList.length := by simp [hsz, hC, hil]
 have h1 := hg i f hi
 rw [ho, hk] at h1
 have hone' : ((Value.agg cs).cells.toList.drop i).take 1 = [cs.toList[i]] := by
  rw [hcs, List.drop_eq_getElem_cons hil']
  rfl
 rw [hone', List.getElem?_eq_getElem (by omega)] at h1
 exact ⟨cs.toList[i], n, _, List.getElem?_eq_getElem hil', h1⟩
def allInt (P : Program) (k : IntKind) (fs : Array Field) : Bool := fs.toList.all fun f => match P.underlying f.type with | some (.int k') => decide (k' = k) | _ => false
theorem open_ints_agg {t : TypeId} {fs : Array Field} {k : IntKind} {n : Nat} {v : Value} {d : DataW H} {p : List MemPlace} (ht : P.underlying t = some (.struct fs)) (hone : oneCellFields P fs = true) (hC : P.cellsOf t = n) (hn : fs.size = n) (hk : allInt P k fs = true)
 (hv : Value.okWide P w r b0 t v) (h : DataW.Trod enc P w base spare held t v d p) :
 ∃ l : List Int, v = .agg (l.map (Value.int k)).toArray ∧ l.length = n ∧ ∀ a ∈ l, (Lit.int k a).wf = true := by
 obtain ⟨l, rfl, hl, hf⟩ := open_flat ht hone (hC.trans hn.symm) hv h
 have each : ∀ i, i < l.length → ∃ a : Int, l[i]? = some (.int k a) ∧ (Lit.int k a).wf = true := by
  intro i hi
  have hi' : i < fs.size := by omega
  obtain ⟨x, m, y, hx, hy⟩ := hf i fs[i] (Array.getElem?_eq_getElem hi')
  have hki := List.all_eq_true.1 hk fs[i] (by simp)
  split at hki
  ·rename_i k' hu
   have : k' = k := by simpa using hki
   subst this
   obtain ⟨a, h1, _, h3⟩ := DataW.trod_int hu hy
   simp only [List.cons.injEq, and_true] at h1
   exact ⟨a, by rw [hx, h1], h3⟩
  ·cases hki
 have hmap : ∀ l : List Value, (∀ i, i < l.length → ∃ a : Int, l[i]? = some (.int k a) ∧ (Lit.int k a).wf = true) → ∃ z : List Int, l = z.map (Value.int k) ∧ ∀ a ∈ z, (Lit.int k a).wf = true := by
  intro l
  induction l with
  | nil => exact fun _ => ⟨[], rfl, by simp⟩
  | cons x l ih =>
   intro hh
   obtain ⟨a, h1, h2⟩ := hh 0 (by simp)
   obtain ⟨z, rfl, hz⟩ := ih fun i hi => by simpa using hh (i + 1) (by simp; omega)
   simp at h1
   exact ⟨a :: z, by rw [h1]; rfl, by simpa [h2] using hz⟩
 obtain ⟨z, rfl, hz⟩ := hmap l each
 exact ⟨z, rfl, by simpa [hn] using hl, hz⟩
end
theorem i64_bd {n : Int} (h : (Lit.int .i64 n).wf = true) : -9223372036854775808 ≤ n ∧ n ≤ 9223372036854775807 := by
 simpa [Lit.wf, IntKind.min, IntKind.max, IntKind.signed, IntKind.bits] using h
end Go.Proofs.Ytobhdldlhhigdaa

namespace Go.Proofs.Ytobhdldlhhigdaa
open Go.ChangeShapes Go.WideShapes Go.RowKit Go.Deep
section
variable {H : Type} {enc : TypeId × Value → H} {P : Program} {w : World} {base : Nat} {spare : Nat → Bool} {held : Bool} {fs : Array Field} {cs : List Value} {xs : List (DataW H × List MemPlace)} {n : Nat}
set_option maxRecDepth 100000 in
theorem part_int (hg : ∀ (i : Nat) (f : Field), fs[i]? = some f → DataW.trod enc P w base spare held n f.type ((cs.drop f.offset).take (P.cellsOf f.type)) = xs[i]?) (hlen : xs.length = fs.size) (i o c : Nat) (k : IntKind)
 (hi : (fs[i]?).map (fun f => (f.offset, P.cellsOf f.type, P.underlying f.type)) = some (o, c, some (.int k))) : ∃ a : Int, (cs.drop o).take c = [.int k a] ∧ (Lit.int k a).wf = true := by
 obtain ⟨f, hf, he⟩ := Option.map_eq_some_iff.1 hi
 simp only [Prod.mk.injEq] at he
 obtain ⟨h1, h2, h3⟩ := he
 have hil : i < fs.size := (Array.getElem?_eq_some_iff.1 hf).1
 have hx := hg i f hf
 rw [List.getElem?_eq_getElem (by omega), h1, h2] at hx
 obtain ⟨a, ha, _, hw⟩ := DataW.trod_int h3 hx
 exact ⟨a, ha, hw⟩
set_option maxRecDepth 100000 in
theorem part_struct (hg : ∀ (i : Nat) (f : Field), fs[i]? = some f → DataW.trod enc P w base spare held n f.type ((cs.drop f.offset).take (P.cellsOf f.type)) = xs[i]?) (hlen : xs.length = fs.size) (i o c : Nat) (gs : Array Field)
 (hi : (fs[i]?).map (fun f => (f.offset, P.cellsOf f.type, P.underlying f.type)) = some (o, c, some (.struct gs))) :
 ∃ (ys : List (DataW H × List MemPlace)) (m : Nat), ys.length = gs.size ∧ ∀ (i : Nat) (f : Field), gs[i]? = some f → DataW.trod enc P w base spare held m f.type ((((cs.drop o).take c).drop f.offset).take (P.cellsOf f.type)) = ys[i]? := by
 obtain ⟨f, hf, he⟩ := Option.map_eq_some_iff.1 hi
 simp only [Prod.mk.injEq] at he
 obtain ⟨h1, h2, h3⟩ := he
 have hil : i < fs.size := (Array.getElem?_eq_some_iff.1 hf).1
 have hx := hg i f hf
 rw [List.getElem?_eq_getElem (by omega), h1, h2] at hx
 obtain ⟨ys, m, _, _, _, hl, h⟩ := DataW.trod_struct h3 hx
 exact ⟨ys, m, hl, h⟩
end
end Go.Proofs.Ytobhdldlhhigdaa

namespace Go.Proofs.Ytobhdldlhhigdaa
open Go.ChangeShapes Go.WideShapes Go.RowKit Go.Deep
set_option maxRecDepth 100000 in
theorem in64_wf {n : Int} (h : (Lit.int .i64 n).wf = true) : In64 n := by
 unfold In64
 simpa [Lit.wf, IntKind.min, IntKind.max, IntKind.signed, IntKind.bits] using h
/-- Numbers that slots can hold. -/
def OK4 (g : Q4) : Prop := In64 g.a ∧ In64 g.b ∧ In64 g.c ∧ In64 g.d
set_option maxRecDepth 100000 in
theorem part_any {H : Type} {enc : TypeId × Value → H} {P : Program} {w : World} {base : Nat} {spare : Nat → Bool} {held : Bool} {fs : Array Field} {cs : List Value} {xs : List (DataW H × List MemPlace)} {n : Nat} (hg : ∀ (i : Nat) (f : Field), fs[i]? = some f → DataW.trod enc P w base spare held n f.type ((cs.drop f.offset).take (P.cellsOf f.type)) = xs[i]?) (hlen : xs.length = fs.size) (i o c : Nat) (t : TypeId)
 (hi : (fs[i]?).map (fun f => (f.offset, P.cellsOf f.type, f.type)) = some (o, c, t)) : ∃ y, DataW.trod enc P w base spare held n t ((cs.drop o).take c) = some y := by
 obtain ⟨f, hff, he⟩ := Option.map_eq_some_iff.1 hi
 simp only [Prod.mk.injEq] at he
 obtain ⟨h1, h2, h3⟩ := he
 have hil := (Array.getElem?_eq_some_iff.1 hff).1
 have hx := hg i f hff
 rw [List.getElem?_eq_getElem (by omega), h1, h2, h3] at hx
 exact ⟨_, hx⟩
section
variable {H : Type} {enc : TypeId × Value → H} {w : World} {base : Nat} {spare : Nat → Bool} {held : Bool}
set_option maxRecDepth 100000 in
theorem node_of {n : Nat} {cs : List Value} {y : DataW H × List MemPlace} (h : DataW.trod enc Try.prog w base spare held n 46 cs = some y) : ∃ g : Q4, cs = g.ls ∧ OK4 g := by
 obtain ⟨xs, m, _, _, hl, hlen, hg⟩ := DataW.trod_struct Try.underlying46 h
 obtain ⟨a, e0, w0⟩ := part_int hg hlen 0 0 1 .i64 (by kernel_rfl)
 obtain ⟨b, e1, w1⟩ := part_int hg hlen 1 1 1 .i64 (by kernel_rfl)
 obtain ⟨c, e2, w2⟩ := part_int hg hlen 2 2 1 .i64 (by kernel_rfl)
 obtain ⟨d, e3, w3⟩ := part_int hg hlen 3 3 1 .i64 (by kernel_rfl)
 have hl2 : cs.length = 4 := hl.trans (by kernel_rfl)
 refine ⟨⟨a, b, c, d⟩, ?_, in64_wf w0, in64_wf w1, in64_wf w2, in64_wf w3⟩
 match cs, hl2 with
 | [c0, c1, c2, c3], _ =>
  simp only [List.drop_zero, List.take_succ_cons, List.take_zero, List.drop_succ_cons, List.cons.injEq, and_true] at e0 e1 e2 e3
  rw [e0, e1, e2, e3]
  rfl
set_option maxRecDepth 100000 in
theorem nodes_of {n : Nat} {cs : List Value} {y : DataW H × List MemPlace} (h : DataW.trod enc Try.prog w base spare held n 23 cs = some y) : ∃ (A : Option Addr) (cp : Nat) (l : List Q4), cs = [.slice A l.length cp] ∧ Qs w A l ∧ l.length ≤ maxLen ∧ l.length ≤ cp ∧ ∀ g ∈ l, OK4 g := by
 rcases DataW.trod_slice Try.underlying23 h with ⟨rfl, _⟩ | ⟨a, len, cap, elems, rest, m, _, rfl, _, hb, hl, hm, hlen, hel, _, _⟩
 ·exact ⟨none, 0, [], rfl, Reads.none_, by simp, by simp, by simp⟩
 ·have hc2 : Try.prog.cellsOf 46 = 4 := by kernel_rfl
  rw [hc2] at hel
  have each : ∀ i, i < len → ∃ g : Q4, w.cells? base (a.add (i * 4)) 4 = some g.ls ∧ OK4 g := by
   intro i hi
   have h1 := hel i hi
   rw [List.getElem?_eq_getElem (by omega), Option.bind_eq_some_iff] at h1
   obtain ⟨cs', hcs, hy⟩ := h1
   obtain ⟨g, rfl, ok⟩ := node_of hy
   exact ⟨g, hcs, ok⟩
  have lst : ∀ j, j ≤ len → ∃ l : List Q4, l.length = j ∧ (∀ i (g : Q4), l[i]? = some g → w.cells? base (a.add (i * 4)) 4 = some g.ls) ∧ ∀ g ∈ l, OK4 g := by
   intro j
   induction j with
   | zero => exact fun _ => ⟨[], rfl, by simp, by simp⟩
   | succ j ih =>
    intro hj
    obtain ⟨l, h1, h2, h3⟩ := ih (by omega)
    obtain ⟨g, hg, ok⟩ := each j (by omega)
    refine ⟨l ++ [g], by simp [h1], fun i x hx => ?_, fun x hx => ?_⟩
    ·by_cases hi : i < l.length
     ·exact h2 i x (by rwa [List.getElem?_append_left hi] at hx)
     ·have hij : i = j := by
       have := (List.getElem?_eq_some_iff.1 hx).1
       simp at this
       omega
      subst hij
      rw [List.getElem?_append_right (by omega)] at hx
      simp [h1] at hx
      subst hx
      exact hg
    ·rcases List.mem_append.1 hx with hx | hx
     ·exact h3 x hx
     ·simp only [List.mem_singleton] at hx
      subst hx
      exact ok
  obtain ⟨l, h1, h2, h9⟩ := lst len (Nat.le_refl _)
  refine ⟨some a, cap, l, by rw [h1], ⟨qcells_len l, fun hn => ?_⟩, by omega, by omega, h9⟩
  refine ⟨a, rfl, ?_, fun j u hu => ?_⟩
  ·have h3 := h2 0 l[0] (List.getElem?_eq_getElem hn)
   have := World.cells?_block h3 (by omega)
   rwa [block_of_add] at this
  ·have hj : j < l.length * 4 := by rw [← qcells_len]; exact (List.getElem?_eq_some_iff.1 hu).1
   have hi : j / 4 < l.length := by omega
   have hx := List.getElem?_eq_getElem hi
   have h3 := h2 (j / 4) l[j / 4] hx
   obtain ⟨_, _, h4⟩ := World.cells?_some h3
   have hjm : j = j / 4 * 4 + j % 4 := by omega
   rw [hjm, qcells_at l (j / 4) _ hx (j % 4) (by omega)] at hu
   have := h4 (j % 4) (by omega)
   rw [add_of_add, ← hjm] at this
   rw [this]
   exact hu
set_option maxRecDepth 100000 in
theorem link_of {n : Nat} {cs : List Value} {y : DataW H × List MemPlace} (h : DataW.trod enc Try.prog w base spare held n 49 cs = some y) : ∃ g : Q4, cs = g.ls ∧ OK4 g := by
 obtain ⟨xs, m, _, _, hl, hlen, hg⟩ := DataW.trod_struct Try.underlying49 h
 obtain ⟨a, e0, w0⟩ := part_int hg hlen 0 0 1 .i64 (by kernel_rfl)
 obtain ⟨b, e1, w1⟩ := part_int hg hlen 1 1 1 .i64 (by kernel_rfl)
 obtain ⟨c, e2, w2⟩ := part_int hg hlen 2 2 1 .i64 (by kernel_rfl)
 obtain ⟨d, e3, w3⟩ := part_int hg hlen 3 3 1 .i64 (by kernel_rfl)
 have hl2 : cs.length = 4 := hl.trans (by kernel_rfl)
 refine ⟨⟨a, b, c, d⟩, ?_, in64_wf w0, in64_wf w1, in64_wf w2, in64_wf w3⟩
 match cs, hl2 with
 | [c0, c1, c2, c3], _ =>
  simp only [List.drop_zero, List.take_succ_cons, List.take_zero, List.drop_succ_cons, List.cons.injEq, and_true] at e0 e1 e2 e3
  rw [e0, e1, e2, e3]
  rfl
set_option maxRecDepth 100000 in
theorem links_of {n : Nat} {cs : List Value} {y : DataW H × List MemPlace} (h : DataW.trod enc Try.prog w base spare held n 24 cs = some y) : ∃ (A : Option Addr) (cp : Nat) (l : List Q4), cs = [.slice A l.length cp] ∧ Qs w A l ∧ l.length ≤ maxLen ∧ l.length ≤ cp ∧ ∀ g ∈ l, OK4 g := by
 rcases DataW.trod_slice Try.underlying24 h with ⟨rfl, _⟩ | ⟨a, len, cap, elems, rest, m, _, rfl, _, hb, hl, hm, hlen, hel, _, _⟩
 ·exact ⟨none, 0, [], rfl, Reads.none_, by simp, by simp, by simp⟩
 ·have hc2 : Try.prog.cellsOf 49 = 4 := by kernel_rfl
  rw [hc2] at hel
  have each : ∀ i, i < len → ∃ g : Q4, w.cells? base (a.add (i * 4)) 4 = some g.ls ∧ OK4 g := by
   intro i hi
   have h1 := hel i hi
   rw [List.getElem?_eq_getElem (by omega), Option.bind_eq_some_iff] at h1
   obtain ⟨cs', hcs, hy⟩ := h1
   obtain ⟨g, rfl, ok⟩ := link_of hy
   exact ⟨g, hcs, ok⟩
  have lst : ∀ j, j ≤ len → ∃ l : List Q4, l.length = j ∧ (∀ i (g : Q4), l[i]? = some g → w.cells? base (a.add (i * 4)) 4 = some g.ls) ∧ ∀ g ∈ l, OK4 g := by
   intro j
   induction j with
   | zero => exact fun _ => ⟨[], rfl, by simp, by simp⟩
   | succ j ih =>
    intro hj
    obtain ⟨l, h1, h2, h3⟩ := ih (by omega)
    obtain ⟨g, hg, ok⟩ := each j (by omega)
    refine ⟨l ++ [g], by simp [h1], fun i x hx => ?_, fun x hx => ?_⟩
    ·by_cases hi : i < l.length
     ·exact h2 i x (by rwa [List.getElem?_append_left hi] at hx)
     ·have hij : i = j := by
       have := (List.getElem?_eq_some_iff.1 hx).1
       simp at this
       omega
      subst hij
      rw [List.getElem?_append_right (by omega)] at hx
      simp [h1] at hx
      subst hx
      exact hg
    ·rcases List.mem_append.1 hx with hx | hx
     ·exact h3 x hx
     ·simp only [List.mem_singleton] at hx
      subst hx
      exact ok
  obtain ⟨l, h1, h2, h9⟩ := lst len (Nat.le_refl _)
  refine ⟨some a, cap, l, by rw [h1], ⟨qcells_len l, fun hn => ?_⟩, by omega, by omega, h9⟩
  refine ⟨a, rfl, ?_, fun j u hu => ?_⟩
  ·have h3 := h2 0 l[0] (List.getElem?_eq_getElem hn)
   have := World.cells?_block h3 (by omega)
   rwa [block_of_add] at this
  ·have hj : j < l.length * 4 := by rw [← qcells_len]; exact (List.getElem?_eq_some_iff.1 hu).1
   have hi : j / 4 < l.length := by omega
   have hx := List.getElem?_eq_getElem hi
   have h3 := h2 (j / 4) l[j / 4] hx
   obtain ⟨_, _, h4⟩ := World.cells?_some h3
   have hjm : j = j / 4 * 4 + j % 4 := by omega
   rw [hjm, qcells_at l (j / 4) _ hx (j % 4) (by omega)] at hu
   have := h4 (j % 4) (by omega)
   rw [add_of_add, ← hjm] at this
   rw [this]
   exact hu
set_option maxRecDepth 100000 in
theorem slot_of {n : Nat} {cs : List Value} {y : DataW H × List MemPlace} (h : DataW.trod enc Try.prog w base spare held n 53 cs = some y) : ∃ g : Q4, cs = g.ls ∧ OK4 g := by
 obtain ⟨xs, m, _, _, hl, hlen, hg⟩ := DataW.trod_struct Try.underlying53 h
 obtain ⟨a, e0, w0⟩ := part_int hg hlen 0 0 1 .i64 (by kernel_rfl)
 obtain ⟨b, e1, w1⟩ := part_int hg hlen 1 1 1 .i64 (by kernel_rfl)
 obtain ⟨c, e2, w2⟩ := part_int hg hlen 2 2 1 .i64 (by kernel_rfl)
 obtain ⟨d, e3, w3⟩ := part_int hg hlen 3 3 1 .i64 (by kernel_rfl)
 have hl2 : cs.length = 4 := hl.trans (by kernel_rfl)
 refine ⟨⟨a, b, c, d⟩, ?_, in64_wf w0, in64_wf w1, in64_wf w2, in64_wf w3⟩
 match cs, hl2 with
 | [c0, c1, c2, c3], _ =>
  simp only [List.drop_zero, List.take_succ_cons, List.take_zero, List.drop_succ_cons, List.cons.injEq, and_true] at e0 e1 e2 e3
  rw [e0, e1, e2, e3]
  rfl
set_option maxRecDepth 100000 in
theorem slots_of {n : Nat} {cs : List Value} {y : DataW H × List MemPlace} (h : DataW.trod enc Try.prog w base spare held n 33 cs = some y) : ∃ (A : Option Addr) (cp : Nat) (l : List Q4), cs = [.slice A l.length cp] ∧ Qs w A l ∧ l.length ≤ maxLen ∧ l.length ≤ cp ∧ ∀ g ∈ l, OK4 g := by
 rcases DataW.trod_slice Try.underlying33 h with ⟨rfl, _⟩ | ⟨a, len, cap, elems, rest, m, _, rfl, _, hb, hl, hm, hlen, hel, _, _⟩
 ·exact ⟨none, 0, [], rfl, Reads.none_, by simp, by simp, by simp⟩
 ·have hc2 : Try.prog.cellsOf 53 = 4 := by kernel_rfl
  rw [hc2] at hel
  have each : ∀ i, i < len → ∃ g : Q4, w.cells? base (a.add (i * 4)) 4 = some g.ls ∧ OK4 g := by
   intro i hi
   have h1 := hel i hi
   rw [List.getElem?_eq_getElem (by omega), Option.bind_eq_some_iff] at h1
   obtain ⟨cs', hcs, hy⟩ := h1
   obtain ⟨g, rfl, ok⟩ := slot_of hy
   exact ⟨g, hcs, ok⟩
  have lst : ∀ j, j ≤ len → ∃ l : List Q4, l.length = j ∧ (∀ i (g : Q4), l[i]? = some g → w.cells? base (a.add (i * 4)) 4 = some g.ls) ∧ ∀ g ∈ l, OK4 g := by
   intro j
   induction j with
   | zero => exact fun _ => ⟨[], rfl, by simp, by simp⟩
   | succ j ih =>
    intro hj
    obtain ⟨l, h1, h2, h3⟩ := ih (by omega)
    obtain ⟨g, hg, ok⟩ := each j (by omega)
    refine ⟨l ++ [g], by simp [h1], fun i x hx => ?_, fun x hx => ?_⟩
    ·by_cases hi : i < l.length
     ·exact h2 i x (by rwa [List.getElem?_append_left hi] at hx)
     ·have hij : i = j := by
       have := (List.getElem?_eq_some_iff.1 hx).1
       simp at this
       omega
      subst hij
      rw [List.getElem?_append_right (by omega)] at hx
      simp [h1] at hx
      subst hx
      exact hg
    ·rcases List.mem_append.1 hx with hx | hx
     ·exact h3 x hx
     ·simp only [List.mem_singleton] at hx
      subst hx
      exact ok
  obtain ⟨l, h1, h2, h9⟩ := lst len (Nat.le_refl _)
  refine ⟨some a, cap, l, by rw [h1], ⟨qcells_len l, fun hn => ?_⟩, by omega, by omega, h9⟩
  refine ⟨a, rfl, ?_, fun j u hu => ?_⟩
  ·have h3 := h2 0 l[0] (List.getElem?_eq_getElem hn)
   have := World.cells?_block h3 (by omega)
   rwa [block_of_add] at this
  ·have hj : j < l.length * 4 := by rw [← qcells_len]; exact (List.getElem?_eq_some_iff.1 hu).1
   have hi : j / 4 < l.length := by omega
   have hx := List.getElem?_eq_getElem hi
   have h3 := h2 (j / 4) l[j / 4] hx
   obtain ⟨_, _, h4⟩ := World.cells?_some h3
   have hjm : j = j / 4 * 4 + j % 4 := by omega
   rw [hjm, qcells_at l (j / 4) _ hx (j % 4) (by omega)] at hu
   have := h4 (j % 4) (by omega)
   rw [add_of_add, ← hjm] at this
   rw [this]
   exact hu
end
set_option maxRecDepth 100000 in
theorem open_slots {H : Type} {enc : TypeId × Value → H} {w : World} {r : Reach} {b0 : Nat} {v : Value} {d : DataW H} {p : List MemPlace} (hv : Value.okWide Try.prog w r b0 33 v) (h : DataW.Trod enc Try.prog w 0 (fun _ => true) true 33 v d p) :
 ∃ (A : Option Addr) (c : Nat) (l : List Q4), v = .slice A l.length c ∧ Qs w A l ∧ l.length ≤ maxLen ∧ l.length ≤ c ∧ ∀ g ∈ l, OK4 g := by
 obtain ⟨a0, len, cap, rfl⟩ := okWide_slice Try.underlying33 hv
 obtain ⟨fuel, hf⟩ := h
 obtain ⟨A, cp, l, e, hs, hm, hc, ok⟩ := slots_of hf
 have e2 : (Value.slice a0 len cap).cells.toList = [.slice a0 len cap] := rfl
 rw [e2] at e
 injection e with e
 exact ⟨A, cp, l, e, hs, hm, hc, ok⟩
set_option maxRecDepth 100000 in
theorem open_graph {H : Type} {enc : TypeId × Value → H} {w : World} {r : Reach} {b0 : Nat} {v : Value} {d : DataW H} {p : List MemPlace} (hv : Value.okWide Try.prog w r b0 26 v) (h : DataW.Trod enc Try.prog w 0 (fun _ => true) true 26 v d p) :
 ∃ (A : Option Addr) (c : Nat) (ns : List Q4) (A2 : Option Addr) (c2 : Nat) (ls : List Q4), v = .agg #[.slice A ns.length c, .slice A2 ls.length c2] ∧ ns.length ≤ c ∧ GOK w A A2 c2 ns ls := by
 obtain ⟨cs, rfl, hsz⟩ := okWide_struct Try.underlying26 hv
 obtain ⟨fuel, hf⟩ := h
 obtain ⟨xs, n, _, _, hcl, hlen, hg⟩ := DataW.trod_struct Try.underlying26 hf
 have hcs : (Value.agg cs).cells.toList = cs.toList := rfl
 rw [hcs] at hg hcl
 have hs2 : cs.size = 2 := hsz.trans (by kernel_rfl)
 obtain ⟨y1, t1⟩ := part_any hg hlen 0 0 1 23 (by kernel_rfl)
 obtain ⟨y2, t2⟩ := part_any hg hlen 1 1 1 24 (by kernel_rfl)
 obtain ⟨A, cp, ns, e1, h1, m1, hc1, ok1⟩ := nodes_of t1
 obtain ⟨A2, cp2, ls, e2, h2, m2, hc2, ok2⟩ := links_of t2
 unfold maxLen at m1 m2
 refine ⟨A, cp, ns, A2, cp2, ls, congrArg Value.agg ?_, hc1, h1, h2, by omega, by omega, hc2, fun n hn => (ok1 n hn).1, fun l hl => ⟨(ok2 l hl).1, (ok2 l hl).2.2.1⟩⟩
 obtain ⟨l, hl⟩ : ∃ l, cs.toList = l := ⟨_, rfl⟩
 have hl2 : l.length = 2 := by rw [← hl]; simpa using hs2
 rw [hl] at e1 e2
 apply Array.ext'
 rw [hl]
 match l, hl2 with
 | [x, y], _ =>
  simp only [List.drop_zero, List.take_succ_cons, List.take_zero, List.drop_succ_cons, List.cons.injEq, and_true] at e1 e2
  rw [e1, e2]
end Go.Proofs.Ytobhdldlhhigdaa

namespace Go.Proofs.Ytobhdldlhhigdaa
open Go.ChangeShapes Go.WideShapes Go.RowKit Go.Deep
set_option maxRecDepth 100000 in
/-- A slice of ints among the arguments. -/
theorem open_slice_ints {H : Type} {enc : TypeId × Value → H} {P : Program} {w : World} {r : Reach} {b0 : Nat} {t e : TypeId} {v : Value} {d : DataW H} {p : List MemPlace} (ht : P.underlying t = some (.slice e)) (he : P.underlying e = some (.int .i64)) (hc : P.cellsOf e = 1)
 (hv : Value.okWide P w r b0 t v) (h : DataW.Trod enc P w 0 (fun _ => true) true t v d p) :
 ∃ (A : Option Addr) (c : Nat) (l : List Int), v = .slice A l.length c ∧ Ints w A l ∧ l.length ≤ maxLen ∧ l.length ≤ c := by
 obtain ⟨a0, len, cap, rfl⟩ := okWide_slice ht hv
 obtain ⟨fuel, hf⟩ := h
 rcases open_ints ht he hc hf with ⟨hcs, _⟩ | ⟨a, len', cap', zs, hcs, _, hl, hm, hz, _, hcell, hwz⟩
 ·simp [Value.cells] at hcs
  obtain ⟨rfl, rfl, rfl⟩ := hcs
  exact ⟨none, 0, [], rfl, ⟨by simp, fun h => absurd h (by simp)⟩, by simp, by simp⟩
 ·simp [Value.cells] at hcs
  obtain ⟨rfl, rfl, rfl⟩ := hcs
  simp only [if_true] at hz
  have hlen : (zs.take len).length = len := by simp; omega
  refine ⟨some a, cap, zs.take len, by rw [hlen], ⟨by simp, fun _ => ⟨a, rfl, ?_, fun j u hu => ?_⟩⟩, by omega, by omega⟩
  ·have h0 : 0 < zs.length := by
    rename_i hpos
    rw [hlen] at hpos
    omega
   have := hcell 0 h0
   have hb : (a.add 0).block = a.block := block_of_add a 0
   rw [← hb]
   exact World.block_lt_of_cell? w _ this
  ·rw [List.getElem?_map] at hu
   obtain ⟨x, hx, rfl⟩ := Option.map_eq_some_iff.1 hu
   have hj : j < len := by
    have := (List.getElem?_eq_some_iff.1 hx).1
    rw [hlen] at this
    exact this
   rw [hcell j (by omega)]
   rw [List.getElem?_take, if_pos hj] at hx
   rw [List.getD_eq_getElem?_getD, hx]
   rfl
end Go.Proofs.Ytobhdldlhhigdaa

namespace Go.Proofs.Ytobhdldlhhigdaa
open Go.RowKit
def mixBW (md : Region.Mode) (ops : Array Oper) (n N : Nat) (ks : List Nat) : Bool :=
 Region.noSelect ops && decide (n ≤ ops.size) && decide ks.Nodup && ks.all (fun k => decide (k < n) && ((ops[k]?).bind (·.dst)).isSome) &&
 (decide (n = ops.size) || (decide (n < ops.size) && Region.sinkB md ops n && Region.chainB md ops n)) &&
 Region.seqB md ops (ops.size - n) n ((Array.replicate n true) ++ (Array.replicate (ops.size - n) false)) &&
 (List.range n).all (fun i => match ops[i]? with
   | none => false
   | some o => (match o.dst with | none => true | some t => decide (t < N)) && o.after.all (fun e => !Region.binds md e || decide (e.on < i)) &&
    (List.range n).all (fun k => (k == i || match o.dst with | none => true | some t => !((ops[k]?).bind (·.dst) == some t)) &&
      (match (ops[k]?).bind (·.dst) with
       | none => true
       | some t => !(o.looksAt ops).contains t || (decide (k < i) && !ks.contains k && Region.waitsFor md ops i k) || (decide (i < k) && Region.waitsFor md ops k i))))
structure MixOkW (md : Region.Mode) (ops : Array Oper) (n N : Nat) (ks : List Nat) : Prop where
 sel : Region.noSelect ops = true
 le : n ≤ ops.size
 nd : ks.Nodup
 fl : ∀ k ∈ ks, k < n ∧ ∃ t, (ops[k]?).bind (·.dst) = some t
 tail : n = ops.size ∨ (n < ops.size ∧ Region.sinkB md ops n = true ∧ Region.chainB md ops n = true)
 seq : Region.seqB md ops (ops.size - n) n ((Array.replicate n true) ++ (Array.replicate (ops.size - n) false)) = true
 bd : ∀ i o t, i < n → ops[i]? = some o → o.dst = some t → t < N
 back : ∀ i o, i < n → ops[i]? = some o → ∀ e ∈ o.after, Region.binds md e = true → e.on < i
 ne : ∀ i o k o' t, i < n → k < n → ops[i]? = some o → ops[k]? = some o' → k ≠ i → o.dst = some t → o'.dst ≠ some t
 look : ∀ i o k o' t, i < n → k < n → ops[i]? = some o → ops[k]? = some o' → o'.dst = some t → t ∈ o.looksAt ops → (k < i ∧ k ∉ ks ∧ Region.waitsFor md ops i k = true) ∨ (i < k ∧ Region.waitsFor md ops k i = true)
set_option maxRecDepth 100000 in
theorem mixOkW_of {md : Region.Mode} {ops : Array Oper} {n N : Nat} {ks : List Nat} (h : mixBW md ops n N ks = true) : MixOkW md ops n N ks := by
 simp only [mixBW, Bool.and_eq_true, decide_eq_true_eq, List.all_eq_true, Bool.or_eq_true, List.mem_range] at h
 obtain ⟨⟨⟨⟨⟨⟨h1, h2⟩, h3⟩, h4⟩, h5⟩, h6⟩, h7⟩ := h
 have H : ∀ i o, i < n → ops[i]? = some o → _ := fun i o hi ho => by
  have := h7 i hi
  rw [ho] at this
  exact this
 refine ⟨h1, h2, h3, fun k hk => ⟨(h4 k hk).1, Option.isSome_iff_exists.1 (h4 k hk).2⟩, ?_, h6, ?_, ?_, ?_, ?_⟩
 ·rcases h5 with h5 | h5
  ·exact .inl h5
  ·exact .inr ⟨h5.1.1, h5.1.2, h5.2⟩
 ·intro i o t hi ho hd
  have := (H i o hi ho)
  simp only [Bool.and_eq_true, hd, decide_eq_true_eq] at this
  exact this.1.1
 ·intro i o hi ho e he hb
  have := (H i o hi ho)
  simp only [Bool.and_eq_true] at this
  have h8 := Array.all_eq_true_iff_forall_mem.1 this.1.2 e he
  simpa [hb] using h8
 ·intro i o k o' t hi hk ho ho' hne hd
  have := (H i o hi ho)
  simp only [Bool.and_eq_true, List.all_eq_true, List.mem_range] at this
  have h8 := (this.2 k hk).1
  simp only [ho', Option.bind_some, hd, Bool.or_eq_true, beq_iff_eq, hne, false_or, Bool.not_eq_true', beq_eq_false_iff_ne] at h8
  exact h8
 ·intro i o k o' t hi hk ho ho' hd ht
  have := (H i o hi ho)
  simp only [Bool.and_eq_true, List.all_eq_true, List.mem_range] at this
  have h8 := (this.2 k hk).2
  have hc : (o.looksAt ops).contains t = true := by simpa using ht
  simp only [ho', Option.bind_some, hd, hc, Bool.not_true, Bool.false_or, Bool.and_eq_true, decide_eq_true_eq, Bool.not_eq_true', List.contains_eq_mem, decide_eq_false_iff_not, Bool.or_eq_true] at h8
  exact h8.imp (fun h => ⟨h.1.1, h.1.2, h.2⟩) id
section
variable {P : Program} {ops : Array Oper} {S : Ran → (Nat → Value) → World → Prop} {md : Region.Mode} {n N : Nat} {a0 : Act}
set_option maxRecDepth 100000 in
theorem genw_agree (ok : MixOkW md ops n N []) (hN : a0.tmps.size = N) {vs : Nat → Value} {listed : Array Bool} {a : Act} {w : World} (hinv : HeadInv md ops n listed) (inv : InvG S ops vs a0 listed a w) {i : Nat} {o : Oper} (hi : i < n) (ho : ops[i]? = some o) (hr : i ∈ Region.ready md ops listed) :
 ∀ t ∈ o.looksAt ops, (fin [] vs (ops.toList.take i) 0 a0).tmps[t]? = a.tmps[t]? := by
 intro t ht
 by_cases hex : ∃ (k : Nat) (o' : Oper), k < n ∧ ops[k]? = some o' ∧ o'.dst = some t
 ·obtain ⟨k, o', hk, ho', hd⟩ := hex
  rcases ok.look i o k o' t hi hk ho ho' hd ht with ⟨h1, _, h3⟩ | ⟨h1, h3⟩
  case inr =>
   have hun : ∀ k2 o2, ops[k2]? = some o2 → listed.getD k2 false = true → o2.dst ≠ some t := by
    intro k2 o2 ho2 hl2 hd2
    by_cases e : k2 = k
    ·subst e
     obtain ⟨oj, hoj, e, he, hb, hon⟩ := Region.waitsFor_spec h3
     have hcl := hinv.closed k2 oj hoj hl2 e he hb
     rw [hon] at hcl
     have := getD_both (mem_ready.1 hr).1
     rw [hcl] at this
     cases this
    ·exact ok.ne k2 o2 k o' t (listed_lt hinv ho2 hl2) hk ho2 ho' (Ne.symm e) hd2 hd
   have e1 := inv.other t hun
   have e2 := fin_other (fl := []) (val := vs) (ops.toList.take i) 0 a0 fun j oj hj _ hd2 => by
    obtain ⟨hji, hoj⟩ := of_take_get hj
    exact ok.ne j oj k o' t (by omega) hk hoj ho' (by omega) hd2 hd
   rw [e1, e2]
  have hlisted : listed.getD k false = true := by
   obtain ⟨oj, hoj, e, he, hb, hon⟩ := Region.waitsFor_spec h3
   obtain ⟨_, oi, hoi, hall⟩ := mem_ready.1 hr
   have : oj = oi := Option.some.inj (hoj.symm.trans hoi)
   subst this
   have := hall e he hb
   rwa [hon] at this
  have e1 := inv.calm k o' t ho' hd hlisted
  have hlt : t < a0.tmps.size := by rw [hN]; exact ok.bd k o' t hk ho' hd
  have e2 := fin_at (fl := []) (val := vs) (ops.toList.take i) 0 a0 k o' (take_get h1 ho') hd rfl hlt (by
   intro j oj hj hne hdj
   obtain ⟨hji, hoj⟩ := of_take_get hj
   exact ok.ne j oj k o' t (by omega) hk hoj ho' (Ne.symm hne) hdj hd)
  rw [Nat.zero_add] at e2
  rw [e1, e2]
 ·have e1 := inv.other t fun k o' ho' hl hd => hex ⟨k, o', listed_lt hinv ho' hl, ho', hd⟩
  have e2 := fin_other (fl := []) (val := vs) (ops.toList.take i) 0 a0 fun j oj hj _ hd => by
   obtain ⟨hji, hoj⟩ := of_take_get hj
   exact hex ⟨j, oj, by omega, hoj, hd⟩
  rw [e1, e2]
set_option maxRecDepth 100000 in
theorem inv_stepW (ok : MixOkW md ops n N []) (hN : a0.tmps.size = N) {vs : Nat → Value} {listed : Array Bool} {a : Act} {w w' : World} (hinv : HeadInv md ops n listed) (inv : InvG S ops vs a0 listed a w) {i : Nat} {o : Oper} (hi : i < n) (ho : ops[i]? = some o) (hl : i < listed.size) {u : Value}
 (hs : S (ranOf (listed.setIfInBounds i true)) (setV vs i u) w') : InvG S ops (setV vs i u) a0 (listed.setIfInBounds i true) (a.put o.dst u) w' := by
 have key : ∀ k o' t, k < n → ops[k]? = some o' → o'.dst = some t → k ≠ i → (a.put o.dst u).tmps[t]? = a.tmps[t]? := by
  intro k o' t hk ho' hd hne
  exact put_get_ne fun e => ok.ne i o k o' t hi hk ho ho' hne e hd
 refine ⟨hs, (put_defers' _ _ _).trans inv.defers, (put_size _ _ _).trans inv.size, ?_, ?_⟩
 ·intro k o' t ho' hd hlk
  by_cases hki : k = i
  ·subst hki
   have : o' = o := Option.some.inj (ho'.symm.trans ho)
   subst this
   rw [hd, put_get_eq (by rw [inv.size, hN]; exact ok.bd k o' t hi ho' hd)]
   simp [setV]
  ·have hlk' : listed.getD k false = true := by rwa [getD_set_ne false (Ne.symm hki)] at hlk
   rw [key k o' t (listed_lt hinv ho' hlk') ho' hd hki, inv.calm k o' t ho' hd hlk']
   simp [setV, hki]
 ·intro t ht
  have h1 : o.dst ≠ some t := ht i o ho (by simp [hl])
  rw [put_get_ne h1]
  exact inv.other t fun k o' ho' hlk => ht k o' ho' (getD_set_true hlk)
set_option maxRecDepth 100000 in
theorem genw_run {Q : Exit → Act → World → Prop} (ok : MixOkW md ops n N []) (hN : a0.tmps.size = N)
 (good : ∀ k o, k < n → ops[k]? = some o → ∀ vs L w, At md ops k L → S L vs w → GenOp P ops S k o (fin [] vs (ops.toList.take k) 0 a0) vs L w) (g : Nat)
 (H : ∀ listed a w vs, HeadInv md ops n listed → (∀ i, i < n → listed.getD i false = true) → InvG S ops vs a0 listed a w → wpAny P md ops Q g listed a w) :
 ∀ (f : Nat) (listed : Array Bool) (a : Act) (w : World) (vs : Nat → Value), ((List.range n).countP fun i => !listed.getD i false) ≤ f → HeadInv md ops n listed → InvG S ops vs a0 listed a w →
  wpAny P md ops Q (f + g) listed a w := by
 intro f
 induction f with
 | zero =>
  intro listed a w vs hc hinv inv
  rw [Nat.zero_add]
  refine H listed a w vs hinv (fun i hi => ?_) inv
  have h0 : ((List.range n).countP fun i => !listed.getD i false) = 0 := by omega
  rw [List.countP_eq_zero] at h0
  have := h0 i (List.mem_range.2 hi)
  simpa using this
 | succ f ih =>
  intro listed a w vs hc hinv inv
  by_cases hall : ∀ i, i < n → listed.getD i false = true
  ·exact wpAny_fuel g listed a w (H listed a w vs hinv hall inv) (f + 1)
  ·have hex : ∃ i, i < n ∧ listed.getD i false = false := by
    apply Classical.byContradiction
    intro hno
    exact hall fun i hi => by
     cases h : listed.getD i false
     ·exact absurd ⟨i, hi, h⟩ hno
     ·rfl
   obtain ⟨i0, hi0, hl0⟩ := hex
   have hsz : ∀ i, i < n → i < listed.size := fun i hi => by rw [hinv.size]; have := ok.le; omega
   have hready : Region.ready md ops listed ≠ [] := by
    have : ∀ d i, i ≤ d → i < n → listed.getD i false = false → ∃ j, j ∈ Region.ready md ops listed := by
     intro d
     induction d with
     | zero =>
      intro i hid hi hl
      obtain ⟨o, ho⟩ : ∃ o, ops[i]? = some o := ⟨ops[i]'(by have := ok.le; omega), by simp [show i < ops.size by have := ok.le; omega]⟩
      refine ⟨i, mem_ready.2 ⟨getD_in (hsz i hi) hl, o, ho, fun e he hb => ?_⟩⟩
      have := ok.back i o hi ho e he hb
      omega
     | succ d ihd =>
      intro i hid hi hl
      obtain ⟨o, ho⟩ : ∃ o, ops[i]? = some o := ⟨ops[i]'(by have := ok.le; omega), by simp [show i < ops.size by have := ok.le; omega]⟩
      by_cases hw : ∀ e ∈ o.after, Region.binds md e = true → listed.getD e.on false = true
      ·exact ⟨i, mem_ready.2 ⟨getD_in (hsz i hi) hl, o, ho, hw⟩⟩
      ·have : ∃ e ∈ o.after, Region.binds md e = true ∧ listed.getD e.on false = false := by
        apply Classical.byContradiction
        intro hno
        exact hw fun e he hb => by
         cases h : listed.getD e.on false
         ·exact absurd ⟨e, he, hb, h⟩ hno
         ·rfl
       obtain ⟨e, he, hb, hle⟩ := this
       have hlt := ok.back i o hi ho e he hb
       exact ihd e.on (by omega) (by omega) hle
    obtain ⟨j, hj⟩ := this i0 i0 (Nat.le_refl _) hi0 hl0
    intro h0
    rw [h0] at hj
    cases hj
   rw [show f + 1 + g = (f + g) + 1 by omega]
   refine ⟨fun h0 => absurd h0 hready, fun i hir => ?_⟩
   have hin : i < n := by
    rcases Nat.lt_or_ge i n with h | h
    ·exact h
    ·exfalso
     obtain ⟨_, oi, hoi, _⟩ := mem_ready.1 hir
     have hlt : i < ops.size := (Array.getElem?_eq_some_iff.1 hoi).1
     rcases ok.tail with ht | ⟨ht, hs, hch⟩
     ·omega
     ·exact tail_waits hs hch ht hinv _ i0 rfl hi0 (getD_in (hsz i0 hi0) hl0) i h hir
   obtain ⟨hun, o, ho, hwaits⟩ := mem_ready.1 hir
   have hunf : listed.getD i false = false := getD_both hun
   have hcnt : ((List.range n).countP fun j => !(listed.setIfInBounds i true).getD j false) ≤ f := by
    have := countP_lt (p := fun j => !listed.getD j false) (q := fun j => !(listed.setIfInBounds i true).getD j false) (List.range n) (List.mem_range.2 hin)
     (fun j _ hj => by
       simp only [Bool.not_eq_true'] at hj ⊢
       cases h : listed.getD j false
       ·rfl
       ·rw [getD_set_true h] at hj; cases hj) (by simp only [hunf, Bool.not_false]) (by simp [hsz i hin])
    omega
   have hinv' := hinv.set hir hin
   have hat : At md ops i (ranOf listed) := ⟨hunf, needs_ran hinv _ i o ho hwaits⟩
   have hag := genw_agree ok hN hinv inv hin ho hir
   have hg := good i o hin ho vs (ranOf listed) w hat inv.s
   have hs : ∀ cs b, o.op ≠ .select cs b := fun cs b => Region.noSelect_spec ok.sel i o cs b ho
   unfold GenOp at hg
   rw [run_agree (ops := ops) hs hag, wanted_agree hag] at hg
   refine gen_wpOp ho hg fun u w' hs' => ih _ _ _ _ hcnt hinv' (inv_stepW ok hN hinv inv hin ho (hsz i hin) ?_)
   rw [ranOf_set (hsz i hin)]
   exact hs'
end
set_option maxRecDepth 100000 in
theorem wp_region_genV {P : Program} {id : Nat} {Q : Exit → Act → World → Prop} {a : Act} {w : World} {l : List Oper} (S : Ran → (Nat → Value) → World → Prop) (n N : Nat) (hm : P.follows .mixedOrders = true) (hB : mixBW .any l.toArray n N [] = true)
 (hN : a.tmps.size = N) (h0 : S (fun _ => false) (fun _ => undef) w.drew)
 (h : GenT P l n S (fun a' w' => wpList P l.toArray Q (l.drop n) a' w') (l.take n) 0 (fun _ => a)) : (Code.region id l.toArray true).wp P Q a w := by
 have ok := mixOkW_of hB
 have hle : n ≤ l.length := by simpa using ok.le
 obtain ⟨h1, h2⟩ := genT_out (l.take n) 0 _ h
 refine wp_region_any hm ?_
 have inv0 : HeadInv .any l.toArray n (Array.replicate l.toArray.size false) :=
  ⟨by simp, fun j oj _ hl => (by rw [getD_replicate_false] at hl; cases hl), fun t _ ht => getD_in (by simpa using ht) (getD_replicate_false _ _)⟩
 have key := genw_run (md := .any) (Q := Q) (ops := l.toArray) (S := S) (a0 := a) ok hN (fun k o hk ho vs L w' hL hS => by
  have := h1 k o (by rw [List.getElem?_take, if_pos hk]; simpa using ho) vs L w'
  rw [Nat.zero_add, List.take_take, Nat.min_eq_left (by omega)] at this
  exact this hL hS) (l.length - n) (by
  intro listed b w' vs hinv hall inv
  refine (show l.length - n = (l.drop n).length by simp) ▸ wpAny_of_seq (l.drop n) n listed b w' (fun j => by simp [List.getElem?_drop]) ?_ ?_
  ·have hls : listed = (Array.replicate n true) ++ (Array.replicate (l.length - n) false) := by
    refine Array.ext (by simp [hinv.size]; omega) fun i h1 h2 => ?_
    have hsz : i < l.length := by have := hinv.size; simp at this; omega
    by_cases hin : i < n
    ·have := hall i hin
     rw [Array.getElem_append_left (by simpa using hin)]
     simpa [h1] using this
    ·have := hinv.tail i (by omega) (by simpa using hsz)
     rw [Array.getElem_append_right (by simp; omega)]
     simpa [h1] using this
   have := ok.seq
   rw [hls]
   simpa using this
  ·have he : b = fin [] vs (l.take n) 0 a := by
    refine act_ext (inv.defers.trans (fin_defers _ _ _).symm) (inv.size.trans (fin_size _ _ _).symm) fun t => ?_
    by_cases hex : ∃ (k : Nat) (o' : Oper), k < n ∧ l.toArray[k]? = some o' ∧ o'.dst = some t
    ·obtain ⟨k, o', hk, ho', hd⟩ := hex
     have e1 := inv.calm k o' t ho' hd (hall k hk)
     have e2 := fin_at (fl := []) (val := vs) (l.take n) 0 a k o' (by rw [List.getElem?_take, if_pos hk]; simpa using ho') hd rfl (by rw [hN]; exact ok.bd k o' t hk ho' hd) (by
      intro j oj hj hne hdj
      rw [List.getElem?_take] at hj
      split at hj
      ·rename_i hjn
       exact ok.ne j oj k o' t hjn hk (by simpa using hj) ho' (Ne.symm hne) hdj hd
      ·cases hj)
     rw [Nat.zero_add] at e2
     rw [e1, e2]
    ·have e1 := inv.other t fun k o' ho' hl hd => hex ⟨k, o', listed_lt hinv ho' hl, ho', hd⟩
     have e2 := fin_other (fl := []) (val := vs) (t := t) (l.take n) 0 a fun j oj hj _ hd => by
      rw [List.getElem?_take] at hj
      split at hj
      ·rename_i hjn
       exact hex ⟨j, oj, hjn, by simpa using hj, hd⟩
      ·cases hj
     rw [e1, e2]
   rw [he]
   exact h2 vs (ranOf listed) w' hall inv.s)
 have := key n (Array.replicate l.toArray.size false) a w.drew (fun _ => undef) (by
  have := List.countP_le_length (p := fun i => !(Array.replicate l.toArray.size false).getD i false) (l := List.range n)
  simpa using this) inv0 ⟨by rw [show ranOf (Array.replicate l.toArray.size false) = fun _ => false from funext fun k => getD_replicate_false _ _]; exact h0, rfl, rfl, fun k o t _ _ hl => (by rw [getD_replicate_false] at hl; cases hl), fun t _ => rfl⟩
 rw [show n + (l.length - n) = l.toArray.size by simp; omega] at this
 exact this
end Go.Proofs.Ytobhdldlhhigdaa

namespace Go.Proofs.Ytobhdldlhhigdaa
open Go.RowKit Go.Maps
set_option maxRecDepth 100000 in
set_option maxHeartbeats 16000000 in
theorem rcomp_any {A A2 A3 : Option Addr} {c2 : Nat} {ns ls : List Q4} {cs : List Int} {w : World} (c c3 : Nat) (wi : Int) (h : GOK w A A2 c2 ns ls) (h3 : Ints w A3 cs) (hl3 : cs.length ≤ 9223372036854775807) :
 Calls Try.prog 13 #[.agg #[.slice A ns.length c, .slice A2 ls.length c2], .slice A3 cs.length c3, .int .i64 wi] w fun e w' => CompR ns ls cs wi w.heap.size e w' ∧ Grows w w' := by
 have k1 := Blk.new w 26 #[.slice A ns.length c, .slice A2 ls.length c2]
 have hB := (Below.refl w.heap.size w).alloc (Nat.le_refl _) (Obj.cells #[.slice A ns.length c, .slice A2 ls.length c2] 26)
 go_enter Try.func13, Try.ntmps13
 go_upto_region 1 with fail
 generalize World.alloc w _ = w1 at *
 have x1 := k1.cell
 go_wp2_with fail
 refine (rproblem_any c c3 wi (h.grows hB) (h3.grows hB) hl3).mono ?_
 cases hp : probB ns ls cs wi
 ·rintro e w2 ⟨rfl, hq⟩
  replace hB := below_grows hB (Nat.le_refl _) hq
  clear hq x1
  go_wp2
  go_ret2
  exact ⟨.inr ⟨hp, rfl⟩, hB⟩
 rintro e w2 ⟨rfl, hq⟩
 obtain ⟨wk, rfl⟩ : ∃ wk : Nat, wi = wk := ⟨wi.toNat, by have := prob_iff.1 hp; omega⟩
 have HP := Lib.hid hp
 have hwk8 : wk ≤ 8 := by have := prob_iff.1 hp; omega
 have hV := (prob_iff.1 hp).1
 have hln := (valid_len hV).1
 have hcs := okW_len (prob_iff.1 hp).2.1
 have HV := Lib.hid hV
 clear hp hV
 replace hB := below_grows hB (Nat.le_refl _) hq
 replace k1 := k1.grows hq
 clear hq x1
 have x1 := k1.cell
 go_wp2_with fail
 refine (rorder_yes (h.grows hB) HV.out).mono ?_
 rintro e w5 ⟨⟨v, rfl, ho⟩, hq⟩
 replace ho := ho.mono hB.size
 replace hB := below_grows hB (Nat.le_refl _) hq
 replace k1 := k1.grows hq
 clear hq x1
 generalize hod : orderL ns ls = od at *
 have HOD := Lib.hid hod
 clear hod
 have hol : od.length ≤ 64 := by rw [← HOD.out]; exact order_len64 HV.out
 obtain ⟨A4, c4, rfl, hc4, -⟩ := ho.read
 go_upto_region 4 with fail
 refine wp_region_lit ?_
 iterate 1
  refine wpList_plain rfl (fun K hK => ?_)
  go_simp
  refine hK _ _ ?_
  clear hK K
 obtain ⟨i0, hi0, hi1, hi2, hi3, hi4⟩ := iinfo
 refine wpList_make_full _ rfl (.tmp 26) (.tmp 26) 22 rfl w.heap.size 3 i0 (.int .i64 0) 1 Try.underlying22 hi0 hi3 hi1 .i64 .i64 wk wk wk rfl rfl rfl rfl (by rw [hi2]; omega) (by simp only [maxLen]; omega) hB.size ?_
 intro w6 hz hg6
 have hb := made_zero _ _ _ _ hz
 have ho0 := ho
 have hq : Grows w5 w6 := (Below.refl _ _).grown hg6 (Nat.le_refl _) (fun q e => by cases e)
 replace hB := below_grows hB (Nat.le_refl _) hq
 replace k1 := k1.grows hq
 replace ho := ho.grows hq
 have hno : Value.ownBlock (.slice A4 od.length c4) ≠ some w5.heap.size := fun e => by
  have := World.ownsRow.lt ho0 _ e
  omega
 generalize w5.heap.size = Gb at *
 clear hz hg6 hi0 hi1 hi2 hi3 hi4 hq ho0 w5
 have HNO := Lib.hid hno
 clear hno
 have hs0 := ownS_nil w6 w.heap.size
 go_wp2_with fail
 go_loopw [11, 12] (fun v t wr => ∃ st : St, t = .int .i64 st.t ∧ Hid (CSt ns ls cs wk st) ∧ OwnS wr w.heap.size v st.l ∧ ArrI wr w.heap.size Gb wk st.busy ∧ OwnI wr w.heap.size (.slice A4 od.length c4) od ∧ Blk wr w.heap.size 26 #[.slice A ns.length c, .slice A2 ls.length c2] ∧ Below w.heap.size w wr) (fun v t _ => (ns.length - slN v) * 1125899906842624 + (140737488355328 - intOf t).toNat)
 case atStart => exact ⟨startS wk, rfl, Lib.hid cst_start, hs0, hb, ho, k1, hB⟩
 case round =>
  clear hs0 hb ho k1 hB
  obtain ⟨st, rfl, HC, hs, hb, ho, k1, hB⟩ := hrel
  obtain ⟨A5, c5, rfl, hc5, -⟩ := hs.read
  have hlen := (cst_len HP.out HC.out).1
  have ht := cst_time HP.out HC.out
  have x1 := k1.cell
  by_cases hlt : st.l.length < ns.length
  ·obtain ⟨nv, hnv⟩ : ∃ nv, (nextS od ls st.l st.t).getD 0 = nv := ⟨_, rfl⟩
   have HN := Lib.hid hnv
   obtain ⟨fv, hfv⟩ : ∃ fv, placeV (freeS st.busy st.t) = fv := ⟨_, rfl⟩
   have HFr := Lib.hid hfv
   clear hnv hfv
   have hbl : st.busy.length = wk := HC.out.si.bl
   go_wp2_with fail
   refine (rnext_is c c5 c4 (h.grows hB) ho.ints (by omega) hs.qs (by omega) HN.out).mono ?_
   rintro e w3 ⟨rfl, hq⟩
   replace hB := below_grows hB (Nat.le_refl _) hq
   replace k1 := k1.grows hq
   replace ho := ho.grows hq
   replace hb := hb.grows hq
   replace hs := hs.grows hq
   clear hq x1
   go_wp2_with fail
   refine (free_is hbl.symm st.t (by omega) hb.ints_ HFr.out).mono ?_
   rintro e w8 ⟨rfl, hq⟩
   replace hB := below_grows hB (Nat.le_refl _) hq
   replace k1 := k1.grows hq
   replace ho := ho.grows hq
   replace hb := hb.grows hq
   replace hs := hs.grows hq
   clear hq
   have x1 := k1.cell
   rcases hn : nextS od ls st.l st.t with _ | id
   ·have e0 : nv = 0 := by rw [← HN.out, hn]; rfl
    subst e0
    have HW : Hid (nextS (orderL ns ls) ls st.l st.t = none ∨ freeS st.busy st.t = none) := Lib.hid (.inl (by rw [HOD.out]; exact hn))
    clear hn HN
    obtain ⟨z, hz⟩ : ∃ z, laterS st.l st.t = z := ⟨_, rfl⟩
    have HZ := Lib.hid hz
    have hz2 := (cst_wait HP.out HC.out hlt HW.out).2
    have HC2 : Hid (CSt ns ls cs wk ⟨st.l, st.busy, z⟩) := Lib.hid (by rw [← hz]; exact (cst_wait HP.out HC.out hlt HW.out).1)
    rw [hz] at hz2
    clear hz
    go_wp2_with fail
    refine (later_is hs.qs (by omega) HZ.out).mono ?_
    rintro e w4 ⟨rfl, rfl⟩
    have ht2 := (cst_time HP.out HC2.out).2
    simp only at ht2
    go_wp2
    go_roundw
    case rel => exact ⟨⟨st.l, st.busy, z⟩, rfl, HC2, hs, hb, ho, k1, hB⟩
    case measure =>
     simp only [slN, intOf]
     omega
   ·have e0 : nv = id := by rw [← HN.out, hn]; rfl
    subst e0
    have HNX := Lib.hid hn
    clear hn HN
    obtain ⟨kp, n, hp1, hp2, hp3, hp4, hp5, hp6, hp7, hp8⟩ := cst_pick (s := st) HP.out (by rw [HOD.out]; exact HNX.out)
    have hid0 : (nv == 0) = false := by
     simp only [beq_eq_false_iff_ne, ne_eq]
     omega
    have HPL := Lib.hid hp1
    have HCS := Lib.hid hp6
    have HNS : Hid (ns[kp]? = some n ∧ n.a = nv) := Lib.hid ⟨hp2, hp3⟩
    clear hp1 hp2 hp3 hp6
    rcases hf : freeS st.busy st.t with _ | wi
    ·have e0 : fv = -1 := by rw [← HFr.out, hf]; rfl
     subst e0
     have HW : Hid (nextS (orderL ns ls) ls st.l st.t = none ∨ freeS st.busy st.t = none) := Lib.hid (.inr hf)
     clear hf HFr
     obtain ⟨z, hz⟩ : ∃ z, laterS st.l st.t = z := ⟨_, rfl⟩
     have HZ := Lib.hid hz
     have hz2 := (cst_wait HP.out HC.out hlt HW.out).2
     have HC2 : Hid (CSt ns ls cs wk ⟨st.l, st.busy, z⟩) := Lib.hid (by rw [← hz]; exact (cst_wait HP.out HC.out hlt HW.out).1)
     rw [hz] at hz2
     clear hz
     go_wp2_with fail
     refine (later_is hs.qs (by omega) HZ.out).mono ?_
     rintro e w4 ⟨rfl, rfl⟩
     have ht2 := (cst_time HP.out HC2.out).2
     simp only at ht2
     go_wp2
     go_roundw
     case rel => exact ⟨⟨st.l, st.busy, z⟩, rfl, HC2, hs, hb, ho, k1, hB⟩
     case measure =>
      simp only [slN, intOf]
      omega
    ·have e0 : fv = (wi : Int) := by rw [← HFr.out, hf]; rfl
     subst e0
     have HFS := Lib.hid hf
     clear hf HFr
     have hwi : decide ((wi : Int) < 0) = false := by simp
     obtain ⟨z, hz⟩ : ∃ z, wOf ns cs nv = z := ⟨_, rfl⟩
     have HZ := Lib.hid hz
     rw [hz] at hp7 hp8
     clear hz
     have HPV : Hid (placeV (placeN ns nv) = (kp : Int)) := Lib.hid (by rw [HPL.out]; rfl)
     go_wp2_with fail
     refine (rplace_is A A2 c c2 ls.length ns nv (kp : Int) _ (h.grows hB).n (by omega) HPV.out).mono ?_
     rintro e w4 ⟨rfl, hq⟩
     replace hB := below_grows hB (Nat.le_refl _) hq
     replace k1 := k1.grows hq
     replace ho := ho.grows hq
     replace hb := hb.grows hq
     replace hs := hs.grows hq
     clear hq x1
     obtain ⟨ad3, z', e3, had3, hz3, p0⟩ := (h3.grows hB).at_ (k := kp) (by omega)
     subst e3
     have e4 : z' = z := by
      have := HCS.out
      rw [HZ.out, hz3] at this
      injection this
     subst e4
     clear hz3
     go_upto_region 12 with fail
     obtain ⟨bx, hbx, -⟩ := free_at HFS.out
     have HBW := Lib.hid hbx
     have hwl : wi < wk := by
      have := (List.getElem?_eq_some_iff.1 hbx).1
      omega
     clear hbx
     have HC2 : Hid (CSt ns ls cs wk ⟨st.l ++ [⟨nv, wi, st.t, st.t + z'⟩], st.busy.set wi (st.t + z'), st.t⟩) := Lib.hid (by
      have := cst_add HP.out HC.out hlt (by rw [HOD.out]; exact HNX.out) HFS.out
      rw [HZ.out] at this
      exact this)
     have kx := Blk.new w4 53 #[.int .i64 nv, .int .i64 (wi : Int), .int .i64 st.t, .int .i64 (st.t + z')]
     have hq := (Below.refl w4.heap.size w4).alloc (Nat.le_refl _) (Obj.cells #[.int .i64 nv, .int .i64 (wi : Int), .int .i64 st.t, .int .i64 (st.t + z')] 53)
     have hnb : Value.ownBlock (.slice A5 st.l.length c5) ≠ some w4.heap.size := fun e => by
      have := World.ownsRow.lt hs _ e
      omega
     have HNB := Lib.hid hnb
     clear hnb
     replace hB := below_grows hB (Nat.le_refl _) hq
     replace k1 := k1.grows hq
     replace ho := ho.grows hq
     replace hb := hb.grows hq
     replace hs := hs.grows hq
     clear hq p0 had3
     generalize w4.heap.size = Gx at *
     generalize World.alloc w4 _ = w9 at *
     obtain ⟨S, HI, HO⟩ := hideS fun (L : Ran) (vs : Nat → Value) (w' : World) => (Below w.heap.size w w' ∧ Blk w' w.heap.size 26 #[.slice A ns.length c, .slice A2 ls.length c2] ∧ Blk w' Gx 53 #[.int .i64 nv, .int .i64 (wi : Int), .int .i64 st.t, .int .i64 (st.t + z')] ∧ OwnI w' w.heap.size (.slice A4 od.length c4) od ∧ True) ∧ KnS [some (.slice (some ⟨Gb, 0, none⟩) wk wk), some (.int .i64 (wi : Int)), some ((.slice A5 st.l.length c5)), some (.agg #[.int .i64 nv, .int .i64 (wi : Int), .int .i64 st.t, .int .i64 (st.t + z')]), none, none, some (.pointer (some ⟨Gx, 3, none⟩)), some (.int .i64 (st.t + z')), none, some (.pointer (some ⟨Gb, wi, none⟩)), none] L vs ∧ (L 10 = false → ArrI w' w.heap.size Gb wk st.busy) ∧ (L 10 = true → ArrI w' w.heap.size Gb wk (st.busy.set wi (st.t + z'))) ∧ (L 4 = true → L 5 = false → ∃ gb, vs 4 = .slice (some ⟨gb, 0, none⟩) 1 1 ∧ Qs w' (some ⟨gb, 0, none⟩) [(⟨nv, wi, st.t, st.t + z'⟩ : Q4)]) ∧ (L 5 = false → OwnS w' w.heap.size (.slice A5 st.l.length c5) st.l) ∧ (L 5 = true → OwnS w' w.heap.size (vs 5) (st.l ++ [(⟨nv, wi, st.t, st.t + z'⟩ : Q4)])) ∧ (L 5 = true → L 4 = true) ∧ (L 8 = true → L 5 = true ∧ vs 8 = vs 5) ∧ (L 10 = true → L 5 = true ∧ L 8 = true)
     refine wp_region_genV S 11 73 (by kernel_rfl) (by kernel_rfl) rfl ?_ ?_
     ·exact HI.out _ _ _ ⟨⟨below_grows hB (Nat.le_refl _) (Grows.drew' _), k1.grows (Grows.drew' _), kx.grows (Grows.drew' _), ho.grows (Grows.drew' _), trivial⟩, kn_none _ _, (fun _ => hb.grows (Grows.drew' _)), (fun h => by cases h), (fun h => by cases h), (fun _ => hs.grows (Grows.drew' _)), (fun h => by cases h), (fun h => by cases h), (fun h => by cases h), (fun h => by cases h)⟩
     simp only [List.take_succ_cons, List.take_zero, List.drop_succ_cons, List.drop_zero]
     refine gent_consR (fun vs L w1 hL hw1 => ?_) ?_
     ·obtain ⟨⟨qB, qk, qx, qo, qs⟩, q1, qf, qt, q4, q5, q6, q7, q8, q9⟩ := HO.out _ _ _ hw1
      refine gen_plain rfl ?_
      go_simp
      exact gr_val (HI.out _ _ _ ⟨⟨qB, qk, qx, qo, qs⟩, kn_known q1 rfl, qf, qt, q4, q5, q6, q7, q8, q9⟩)
     refine gent_consR (fun vs L w1 hL hw1 => ?_) ?_
     ·obtain ⟨⟨qB, qk, qx, qo, qs⟩, q1, qf, qt, q4, q5, q6, q7, q8, q9⟩ := HO.out _ _ _ hw1
      refine gen_plain rfl ?_
      go_simp
      exact gr_val (HI.out _ _ _ ⟨⟨qB, qk, qx, qo, qs⟩, kn_known q1 rfl, qf, qt, q4, q5, q6, q7, q8, q9⟩)
     refine gent_consR (fun vs L w1 hL hw1 => ?_) ?_
     ·obtain ⟨⟨qB, qk, qx, qo, qs⟩, q1, qf, qt, q4, q5, q6, q7, q8, q9⟩ := HO.out _ _ _ hw1
      refine gen_plain rfl ?_
      go_simp
      exact gr_val (HI.out _ _ _ ⟨⟨qB, qk, qx, qo, qs⟩, kn_known q1 rfl, qf, qt, q4, q5, q6, q7, q8, q9⟩)
     refine gent_consR (fun vs L w1 hL hw1 => ?_) ?_
     ·obtain ⟨⟨qB, qk, qx, qo, qs⟩, q1, qf, qt, q4, q5, q6, q7, q8, q9⟩ := HO.out _ _ _ hw1
      have x := qx.cell
      refine gen_plain rfl ?_
      go_simp
      exact gr_val (HI.out _ _ _ ⟨⟨qB, qk, qx, qo, qs⟩, kn_known q1 rfl, qf, qt, q4, q5, q6, q7, q8, q9⟩)
     refine gent_consR (fun vs L w1 hL hw1 => ?_) ?_
     ·obtain ⟨⟨qB, qk, qx, qo, qs⟩, q1, qf, qt, q4, q5, q6, q7, q8, q9⟩ := HO.out _ _ _ hw1
      have n4 : L 4 = false := hL.1
      have n5 : L 5 = false := by
       cases h : L 5
       ·rfl
       ·rw [q7 h] at n4; cases n4
      have n8 : L 8 = false := by
       cases h : L 8
       ·rfl
       ·rw [(q8 h).1] at n5; cases n5
      have n10 : L 10 = false := by
       cases h : L 10
       ·rfl
       ·rw [(q9 h).1] at n5; cases n5
      have l3 : L 3 = true := hL.need 3 (by kernel_rfl)
      have e3 := q1 3 _ rfl l3
      refine gen_plain rfl ?_
      simp only [e3]
      go_simp
      have hg := (Below.refl w1.heap.size w1).alloc (Nat.le_refl _) (Obj.cells #[.int .i64 nv, .int .i64 (wi : Int), .int .i64 st.t, .int .i64 (st.t + z')] 53)
      exact gr_val (HI.out _ _ _ ⟨⟨below_grows qB (Nat.le_refl _) hg, qk.grows hg, qx.grows hg, qo.grows hg, trivial⟩, kn_free q1 rfl, (fun h => (qf n10).grows hg), (fun h => by rw [show L 10 = true from h] at n10; cases n10), (fun _ _ => ⟨_, rfl, qs_lit w1 ⟨nv, wi, st.t, st.t + z'⟩ _⟩), (fun _ => (q5 n5).grows hg), (fun h => by rw [show L 5 = true from h] at n5; cases n5), (fun h => by rw [show L 5 = true from h] at n5; cases n5), (fun h => by rw [show L 8 = true from h] at n8; cases n8), (fun h => by rw [show L 10 = true from h] at n10; cases n10)⟩)
     refine gent_consR (fun vs L w1 hL hw1 => ?_) ?_
     ·obtain ⟨⟨qB, qk, qx, qo, qs⟩, q1, qf, qt, q4, q5, q6, q7, q8, q9⟩ := HO.out _ _ _ hw1
      have n5 : L 5 = false := hL.1
      have n8 : L 8 = false := by
       cases h : L 8
       ·rfl
       ·rw [(q8 h).1] at n5; cases n5
      have n10 : L 10 = false := by
       cases h : L 10
       ·rfl
       ·rw [(q9 h).1] at n5; cases n5
      have l4 : L 4 = true := hL.need 4 (by kernel_rfl)
      obtain ⟨gb, e4, s4⟩ := q4 l4 n5
      have o5 := q5 n5
      have l2 : L 2 = true := hL.need 2 (by kernel_rfl)
      have e2 := q1 2 _ rfl l2
      refine gen_plain rfl ?_
      refine gr_append_slot (.tmp 65) (.tmp 67) rfl (m := [⟨nv, wi, st.t, st.t + z'⟩]) rfl e2 o5 e4 s4 (by simp only [List.length_cons, List.length_nil]; omega) qB.size ?_
      intro v3 w3 o6 g3
      have nb : Value.ownBlock (.slice A5 st.l.length c5) ≠ some w.heap.size := own_blk_ne o5 qk (by decide)
      have nx : Value.ownBlock (.slice A5 st.l.length c5) ≠ some Gx := HNB.out
      have na : some Gb ≠ Value.ownBlock (.slice A5 st.l.length c5) := fun e => by
       rcases own_apart o5 (qf n10).own (by decide) with h | h
       ·simp [Value.ownBlock] at h
       ·exact h e
      exact HI.out _ _ _ ⟨⟨o5.below qB g3 qB.size, qk.grown g3 (Ne.symm nb), qx.grown g3 (Ne.symm nx), World.ownsRow.kept qo g3 (own_apart o5 qo (by decide)), trivial⟩, kn_free q1 rfl, (fun h => (qf n10).kept g3 na), (fun h => by rw [show L 10 = true from h] at n10; cases n10), (fun _ h => by cases h), (fun h => by cases h), (fun _ => o6), (fun _ => l4), (fun h => by rw [show L 8 = true from h] at n8; cases n8), (fun h => by rw [show L 10 = true from h] at n10; cases n10)⟩
     refine gent_consR (fun vs L w1 hL hw1 => ?_) ?_
     ·obtain ⟨⟨qB, qk, qx, qo, qs⟩, q1, qf, qt, q4, q5, q6, q7, q8, q9⟩ := HO.out _ _ _ hw1
      refine gen_plain rfl ?_
      go_simp
      exact gr_val (HI.out _ _ _ ⟨⟨qB, qk, qx, qo, qs⟩, kn_known q1 rfl, qf, qt, q4, q5, q6, q7, q8, q9⟩)
     refine gent_consR (fun vs L w1 hL hw1 => ?_) ?_
     ·obtain ⟨⟨qB, qk, qx, qo, qs⟩, q1, qf, qt, q4, q5, q6, q7, q8, q9⟩ := HO.out _ _ _ hw1
      have l6 : L 6 = true := hL.need 6 (by kernel_rfl)
      have e6 := q1 6 _ rfl l6
      have x := qx.cell 3
      refine gen_plain rfl ?_
      simp only [e6]
      go_simp
      exact gr_val (HI.out _ _ _ ⟨⟨qB, qk, qx, qo, qs⟩, kn_known q1 rfl, qf, qt, q4, q5, q6, q7, q8, q9⟩)
     refine gent_consR (fun vs L w1 hL hw1 => ?_) ?_
     ·obtain ⟨⟨qB, qk, qx, qo, qs⟩, q1, qf, qt, q4, q5, q6, q7, q8, q9⟩ := HO.out _ _ _ hw1
      have l5 : L 5 = true := hL.need 5 (by kernel_rfl)
      have n10 : L 10 = false := by
       cases h : L 10
       ·rfl
       ·exact absurd (q9 h).2 (by rw [hL.1]; decide)
      refine gen_plain rfl ?_
      go_simp
      refine gr_val (show S (upd L 8) (setV vs 8 (vs 5)) w1 from HI.out _ _ _ ?_)
      exact ⟨⟨qB, qk, qx, qo, qs⟩, kn_free q1 rfl, qf, qt, q4, q5, q6, q7, (fun _ => ⟨l5, rfl⟩), (fun h => by rw [show L 10 = true from h] at n10; cases n10)⟩
     refine gent_consR (fun vs L w1 hL hw1 => ?_) ?_
     ·obtain ⟨⟨qB, qk, qx, qo, qs⟩, q1, qf, qt, q4, q5, q6, q7, q8, q9⟩ := HO.out _ _ _ hw1
      have l0 : L 0 = true := hL.need 0 (by kernel_rfl)
      have e0 := q1 0 _ rfl l0
      have l1 : L 1 = true := hL.need 1 (by kernel_rfl)
      have e1 := q1 1 _ rfl l1
      refine gen_plain rfl ?_
      simp only [e0, e1]
      go_simp
      exact gr_val (HI.out _ _ _ ⟨⟨qB, qk, qx, qo, qs⟩, kn_known q1 rfl, qf, qt, q4, q5, q6, q7, q8, q9⟩)
     refine gent_consR (fun vs L w1 hL hw1 => ?_) ?_
     ·obtain ⟨⟨qB, qk, qx, qo, qs⟩, q1, qf, qt, q4, q5, q6, q7, q8, q9⟩ := HO.out _ _ _ hw1
      have n10 : L 10 = false := hL.1
      have l5 : L 5 = true := hL.need 5 (by kernel_rfl)
      have l8 : L 8 = true := hL.need 8 (by kernel_rfl)
      have l9 : L 9 = true := hL.need 9 (by kernel_rfl)
      have e9 := q1 9 _ rfl l9
      have l7 : L 7 = true := hL.need 7 (by kernel_rfl)
      have e7 := q1 7 _ rfl l7
      have ha := qf n10
      have hfz := ha.frozen wi
      have hcl := ha.cell HBW.out
      obtain ⟨ha2, hg2⟩ := ha.put wi (st.t + z')
      refine gen_plain rfl ?_
      simp only [e9, e7]
      go_simp
      refine gr_skip (show S (upd L 10) (setV vs 10 undef) _ from HI.out _ _ _ ?_)
      exact ⟨⟨qB.grown hg2 qB.size (fun q e => by injection e with e; subst e; exact ha.lt.1), qk.grown hg2 (ha.ne_blk qk (by decide)), qx.grown hg2 (ha.ne_blk qx (by decide)), World.ownsRow.kept qo hg2 (.inr HNO.out), trivial⟩, kn_free q1 rfl, (fun h => by cases h), (fun _ => ha2), (fun _ h => by rw [show L 5 = false from h] at l5; cases l5), (fun h => by rw [show L 5 = false from h] at l5; cases l5), (fun h => World.ownsRow.kept (q6 h) hg2 (own_apart ha.own (q6 h) (by decide))), q7, q8, (fun _ => ⟨l5, l8⟩)⟩
     refine gent_nil ?_
     intro vs L W2 hall hS
     obtain ⟨⟨hB, k1, kx, ho, -⟩, -, -, qt, -, -, q6, -, q8, -⟩ := HO.out _ _ _ hS
     have hb := qt (hall 10 (by omega))
     have hs := q6 (hall 5 (by omega))
     have e8 := (q8 (hall 8 (by omega))).2
     clear hall hS HI HO qt q6 q8
     simp only [e8]
     generalize vs 5 = v5 at *
     clear e8
     obtain ⟨A6, c6, rfl, hc6, -⟩ := hs.read
     go_wp2
     go_roundw
     case rel => exact ⟨⟨st.l ++ [⟨nv, wi, st.t, st.t + z'⟩], st.busy.set wi (st.t + z'), st.t⟩, rfl, HC2, hs, hb, ho, k1, hB⟩
     case measure =>
      simp only [slN, intOf, List.length_append, List.length_singleton]
      omega
  ·have HE : Hid (st.l = compG ns ls cs wk) := Lib.hid (cst_end HC.out (by omega))
   go_wp2
   go_ret2
   refine ⟨.inl ⟨HP.out, _, rfl, ?_⟩, hB⟩
   rw [Int.toNat_natCast, ← HE.out]
   exact hs
end Go.Proofs.Ytobhdldlhhigdaa

namespace Go.Proofs.Ytobhdldlhhigdaa
open Go.RowKit Go.Maps
set_option maxRecDepth 100000
theorem add_head (g k : Nat) : (⟨g, 0, none⟩ : Addr).add k = ⟨g, k, none⟩ := by unfold Addr.add; split <;> simp_all
def compL (ns ls : List Q4) (cs : List Int) (wi : Int) : List Q4 := if probB ns ls cs wi = true then compG ns ls cs wi.toNat else []
def compE (ns ls : List Q4) (cs : List Int) (wi : Int) : Int := if probB ns ls cs wi = true then 0 else 1
theorem comp_read {ns ls : List Q4} {cs : List Int} {wi : Int} {base : Nat} {e : Ending} {w : World} (h : CompR ns ls cs wi base e w) : ∃ A c, e = .returned (.tuple #[.slice A (compL ns ls cs wi).length c, .int .i64 (compE ns ls cs wi)]) ∧ Qs w A (compL ns ls cs wi) := by
 unfold compL compE
 rcases h with ⟨hp, v, rfl, hs⟩ | ⟨hp, rfl⟩
 ·rw [if_pos hp, if_pos hp]
  obtain ⟨A, c, rfl, _, hq⟩ := hs.read
  exact ⟨A, c, rfl, hq⟩
 ·rw [if_neg (by rw [hp]; decide), if_neg (by rw [hp]; decide)]
  exact ⟨none, 0, rfl, Reads.none_⟩
theorem compL_len (ns ls : List Q4) (cs : List Int) (wi : Int) : (compL ns ls cs wi).length ≤ 64 := by
 unfold compL
 split
 ·rename_i hp
  have hw := (prob_iff.1 hp).2.2.1
  have e : ((wi.toNat : Nat) : Int) = wi := by omega
  rw [comp_len (by rw [e]; exact hp)]
  exact (valid_len (prob_iff.1 hp).1).1
 ·simp
theorem pcomp_is {A A2 A3 : Option Addr} {c2 : Nat} {ns ls : List Q4} {cs : List Int} {w : World} (c c3 : Nat) (wi : Int) (h : GOK w A A2 c2 ns ls) (h3 : Ints w A3 cs) (hl3 : cs.length ≤ 9223372036854775807) :
 Calls Try.prog 12 #[.agg #[.slice A ns.length c, .slice A2 ls.length c2], .slice A3 cs.length c3, .int .i64 wi] w fun e w' => (∃ A c, e = .returned (.tuple #[.slice A (compL ns ls cs wi).length c, .int .i64 (compE ns ls cs wi)]) ∧ Qs w' A (compL ns ls cs wi)) ∧ Grows w w' := (pcomp_any c c3 wi h h3 hl3).mono fun _ _ ⟨h1, h2⟩ => ⟨comp_read h1, h2⟩
theorem rcomp_is {A A2 A3 : Option Addr} {c2 : Nat} {ns ls : List Q4} {cs : List Int} {w : World} (c c3 : Nat) (wi : Int) (h : GOK w A A2 c2 ns ls) (h3 : Ints w A3 cs) (hl3 : cs.length ≤ 9223372036854775807) :
 Calls Try.prog 13 #[.agg #[.slice A ns.length c, .slice A2 ls.length c2], .slice A3 cs.length c3, .int .i64 wi] w fun e w' => (∃ A c, e = .returned (.tuple #[.slice A (compL ns ls cs wi).length c, .int .i64 (compE ns ls cs wi)]) ∧ Qs w' A (compL ns ls cs wi)) ∧ Grows w w' := (rcomp_any c c3 wi h h3 hl3).mono fun _ _ ⟨h1, h2⟩ => ⟨comp_read h1, h2⟩
set_option maxHeartbeats 4000000 in
theorem same_any {A B : Option Addr} {l : List Q4} {w : World} (c d : Nat) (h : Qs w A l) (h2 : Qs w B l) (hl : l.length ≤ 64) :
 Calls Try.prog 14 #[.slice A l.length c, .slice B l.length d] w fun e w' => e = .returned (.bool true) ∧ Grows w w' := by
 go_enter Try.func14, Try.ntmps14
 go_wp2_with fail
 go_loopw [5] (fun i wr => ∃ k : Nat, k ≤ l.length ∧ i = .int .i64 k ∧ Grows w wr) (fun i _ => l.length - (intOf i).toNat)
 case atStart => exact ⟨0, by omega, rfl, Below.refl _ _⟩
 case round =>
  obtain ⟨k, hk, rfl, hB⟩ := hrel
  by_cases hlt : k < l.length
  ·obtain ⟨ad, x, e1, had, hx, q0, q1, q2, q3⟩ := (h.grows hB).elem hlt
   obtain ⟨ad2, x2, e2, had2, hx2, p0, p1, p2, p3⟩ := (h2.grows hB).elem hlt
   subst e1
   subst e2
   have e3 : x2 = x := by rw [hx] at hx2; injection hx2 with hx2; exact hx2.symm
   subst e3
   clear hx hx2
   go_upto_region 6 with fail
   go_quiet (fail)
   generalize hY : World.drewN wr _ = w9 at *
   have hq : Grows wr w9 := hY ▸ grows_drewN wr _
   clear hY
   replace hB := below_grows hB (Nat.le_refl _) hq
   clear hq q0 q1 q2 q3 p0 p1 p2 p3
   go_wp2
   go_roundw
   case rel => exact ⟨k + 1, by omega, by go_num, hB⟩
   case measure => simp [intOf]; omega
  ·go_wp2
   go_ret
   exact ⟨rfl, hB⟩
end Go.Proofs.Ytobhdldlhhigdaa

namespace Go.Proofs.Ytobhdldlhhigdaa
open Go.RowKit Go.Maps
set_option maxRecDepth 100000
/-- What is tested of a slot by itself. -/
def oneOk (ns : List Q4) (W : Int → Int) (wk : Int) (l : List Q4) (j : Nat) (s : Q4) : Bool :=
 (placeN ns s.a).isSome && (placeN l s.a == some j) && decide (0 ≤ s.b) && decide (s.b < wk) && decide (0 ≤ s.c) && decide (s.c ≤ s.d) && (s.d - s.c == W s.a)
def overQ (u s : Q4) : Bool := u.b == s.b && decide (s.c < u.d) && decide (u.c < s.d)
theorem over_symm (u s : Q4) : overQ u s = overQ s u := by
 unfold overQ
 rw [Bool.eq_iff_iff]
 simp only [Bool.and_eq_true, beq_iff_eq, decide_eq_true_eq]
 omega
theorem find_isSome (ns : List Q4) (x : Int) : (findN ns x).isSome = (placeN ns x).isSome := by
 unfold findN placeN
 rw [Bool.eq_iff_iff, List.find?_isSome, List.findIdx?_isSome, List.any_eq_true]
theorem slotOk_split (ns ls : List Q4) (W : Int → Int) (wk : Int) (l : List Q4) (j : Nat) (s : Q4) : slotOk ns ls W wk l j s = (oneOk ns W wk l j s && readyS ls l s.a s.c && (l.take j).all fun u => !overQ u s) := by
 unfold slotOk oneOk overQ
 rw [find_isSome]
/-- A slot that all others let be. -/
def pairOk (l : List Q4) (s : Q4) (i : Nat) : Prop := ∀ j u, j ≠ i → l[j]? = some u → overQ u s = false
theorem valid_iff {ns ls : List Q4} {cs : List Int} {wk : Int} {l : List Q4} (hp : probB ns ls cs wk = true) (hl : l.length = ns.length) :
 validS ns ls cs wk l = true ↔ (∀ j s, l[j]? = some s → oneOk ns (wOf ns cs) wk l j s = true) ∧ ∀ j s, l[j]? = some s → readyS ls l s.a s.c = true ∧ pairOk l s j := by
 unfold validS allOk
 rw [hp, Bool.true_and, hl]
 simp only [beq_self_eq_true, Bool.true_and, List.all_eq_true, List.mem_range]
 have hg : ∀ (j : Nat) s, l[j]? = some s → l.getD j q0 = s := fun j s h => by rw [List.getD_eq_getElem?_getD, h]; rfl
 constructor
 ·intro h
  have hs : ∀ j s, l[j]? = some s → slotOk ns ls (wOf ns cs) wk l j s = true := fun j s hj => by
   have hjl := (List.getElem?_eq_some_iff.1 hj).1
   have := h j (by omega)
   rwa [hg j s hj] at this
  have h3 : ∀ j s, l[j]? = some s → oneOk ns (wOf ns cs) wk l j s = true ∧ readyS ls l s.a s.c = true ∧ ∀ u ∈ l.take j, overQ u s = false := fun j s hj => by
   have := hs j s hj
   rw [slotOk_split] at this
   simp only [Bool.and_eq_true, List.all_eq_true, Bool.not_eq_true'] at this
   exact ⟨this.1.1, this.1.2, this.2⟩
  refine ⟨fun j s hj => (h3 j s hj).1, fun j s hj => ⟨(h3 j s hj).2.1, fun i u hne hi => ?_⟩⟩
  rcases Nat.lt_or_gt_of_ne hne with hlt | hgt
  ·refine (h3 j s hj).2.2 u ?_
   rw [List.mem_take_iff_getElem]
   obtain ⟨hil, e⟩ := List.getElem?_eq_some_iff.1 hi
   exact ⟨i, by omega, e⟩
  ·rw [over_symm]
   refine (h3 i u hi).2.2 s ?_
   rw [List.mem_take_iff_getElem]
   obtain ⟨hjl, e⟩ := List.getElem?_eq_some_iff.1 hj
   exact ⟨j, by have := (List.getElem?_eq_some_iff.1 hi).1; omega, e⟩
 ·rintro ⟨h1, h2⟩ j hj
  have hx := List.getElem?_eq_getElem (l := l) (i := j) (by omega)
  rw [hg j _ hx, slotOk_split]
  obtain ⟨hr, hpo⟩ := h2 j _ hx
  simp only [Bool.and_eq_true, List.all_eq_true, Bool.not_eq_true']
  refine ⟨⟨h1 j _ hx, hr⟩, fun u hu => ?_⟩
  obtain ⟨i, hi, e⟩ := List.mem_take_iff_getElem.1 hu
  exact hpo i u (by omega) (by rw [List.getElem?_eq_getElem (by omega), e])
/-- The program's map of slots behind t rounds. -/
def slotAt (ns l : List Q4) (t : Nat) (y : Int) : Option Q4 := (l.take t).find? fun s => pl ns s.a == y
def slM (ns l : List Q4) (t : Nat) : Int → Option Value := fun y => (slotAt ns l t y).map fun s => .agg #[.int .i64 s.a, .int .i64 s.b, .int .i64 s.c, .int .i64 s.d]
def Firsts (ns : List Q4) (W : Int → Int) (wk : Int) (l : List Q4) (t : Nat) : Prop := ∀ j s, j < t → l[j]? = some s → oneOk ns W wk l j s = true
theorem one_place {ns : List Q4} {W : Int → Int} {wk : Int} {l : List Q4} {j : Nat} {s : Q4} (h : oneOk ns W wk l j s = true) : (placeN ns s.a).isSome = true ∧ placeN l s.a = some j := by
 unfold oneOk at h
 simp only [Bool.and_eq_true, beq_iff_eq] at h
 exact ⟨h.1.1.1.1.1.1, h.1.1.1.1.1.2⟩
theorem place_node {ns : List Q4} {x : Int} (h : (placeN ns x).isSome = true) : ∃ n ∈ ns, n.a = x := by
 obtain ⟨k, hk⟩ := Option.isSome_iff_exists.1 h
 obtain ⟨n, hn, e⟩ := placeN_some hk
 exact ⟨n, List.mem_of_getElem? hn, e⟩
theorem slotAt_succ {ns l : List Q4} {t : Nat} {s : Q4} (h : l[t]? = some s) (y : Int) : slotAt ns l (t + 1) y = match slotAt ns l t y with | some u => some u | none => if pl ns s.a = y then some s else none := by
 unfold slotAt
 rw [take_snoc h, List.find?_append]
 cases e : (l.take t).find? fun s => pl ns s.a == y with
 | some u => rfl
 | none => by_cases e2 : pl ns s.a = y <;> simp [e2]
theorem slotAt_mem {ns l : List Q4} {t : Nat} {y : Int} {s : Q4} (h : slotAt ns l t y = some s) : ∃ j, j < t ∧ l[j]? = some s ∧ pl ns s.a = y := by
 unfold slotAt at h
 have h1 := List.mem_of_find?_eq_some h
 have h2 := List.find?_some h
 obtain ⟨j, hj, e⟩ := List.mem_take_iff_getElem.1 h1
 exact ⟨j, by omega, by rw [List.getElem?_eq_getElem (by omega), e], by simpa using h2⟩
theorem slotAt_none {ns l : List Q4} {t : Nat} {y : Int} (h : slotAt ns l t y = none) {j : Nat} (hj : j < t) {s : Q4} (hs : l[j]? = some s) : pl ns s.a ≠ y := by
 unfold slotAt at h
 rw [List.find?_eq_none] at h
 have := h s (by
  rw [List.mem_take_iff_getElem]
  obtain ⟨hl, e⟩ := List.getElem?_eq_some_iff.1 hs
  exact ⟨j, by omega, e⟩)
 simpa using this
/-- A new slot is put into the map: its place was free. -/
theorem slM_snoc {ns l : List Q4} {t : Nat} {s : Q4} (h : l[t]? = some s) (hn : slotAt ns l t (pl ns s.a) = none) (y : Int) : (if y = pl ns s.a then some (Value.agg #[.int .i64 s.a, .int .i64 s.b, .int .i64 s.c, .int .i64 s.d]) else slM ns l t y) = slM ns l (t + 1) y := by
 unfold slM
 rw [slotAt_succ h]
 by_cases e : y = pl ns s.a
 ·subst e
  rw [if_pos rfl, hn]
  simp
 ·rw [if_neg e]
  cases hy : slotAt ns l t y with
  | some u => rfl
  | none => simp [Ne.symm e]
/-- A place is taken by an earlier slot just if the node is. -/
theorem twice_iff {ns : List Q4} {W : Int → Int} {wk : Int} {l : List Q4} {t : Nat} (hF : Firsts ns W wk l t) {s : Q4} (h : l[t]? = some s) (hs : (placeN ns s.a).isSome = true) : (slotAt ns l t (pl ns s.a)).isSome = false ↔ placeN l s.a = some t := by
 obtain ⟨n, hn, en⟩ := place_node hs
 have key : ∀ j u, j < t → l[j]? = some u → (pl ns u.a = pl ns s.a ↔ u.a = s.a) := fun j u hj hu => by
  obtain ⟨m, hm, em⟩ := place_node (one_place (hF j u hj hu)).1
  constructor
  ·intro e
   rw [← en, ← em] at e ⊢
   exact pl_inj hm hn e
  ·intro e
   rw [e]
 constructor
 ·intro hno
  have hno2 : slotAt ns l t (pl ns s.a) = none := by simpa using hno
  unfold placeN
  obtain ⟨htl, e⟩ := List.getElem?_eq_some_iff.1 h
  rw [List.findIdx?_eq_some_iff_getElem]
  refine ⟨htl, by rw [e]; simp, fun j hj => ?_⟩
  have hu := List.getElem?_eq_getElem (l := l) (i := j) (by omega)
  have h1 := slotAt_none hno2 hj hu
  simp only [Bool.not_eq_true, beq_eq_false_iff_ne, ne_eq]
  exact fun e2 => h1 ((key j _ hj hu).2 e2)
 ·intro hpl
  cases hsl : slotAt ns l t (pl ns s.a) with
  | none => rfl
  | some u =>
   exfalso
   obtain ⟨j, hj, hu, e⟩ := slotAt_mem hsl
   have e2 := (key j u hj hu).1 e
   unfold placeN at hpl
   obtain ⟨hk, _, h3⟩ := List.findIdx?_eq_some_iff_getElem.1 hpl
   have := h3 j hj
   obtain ⟨hjl, e3⟩ := List.getElem?_eq_some_iff.1 hu
   rw [e3, e2] at this
   simp at this
theorem firsts_zero (ns : List Q4) (W : Int → Int) (wk : Int) (l : List Q4) : Firsts ns W wk l 0 := fun _ _ h => absurd h (by omega)
theorem firsts_succ {ns : List Q4} {W : Int → Int} {wk : Int} {l : List Q4} {t : Nat} (h : Firsts ns W wk l t) {s : Q4} (hs : l[t]? = some s) (ho : oneOk ns W wk l t s = true) : Firsts ns W wk l (t + 1) := by
 intro j u hj hu
 by_cases e : j = t
 ·subst e
  rw [hs] at hu
  injection hu with hu
  rw [← hu]
  exact ho
 ·exact h j u (by omega) hu
theorem not_valid_one {ns ls : List Q4} {cs : List Int} {wk : Int} {l : List Q4} (hp : probB ns ls cs wk = true) (hl : l.length = ns.length) {j : Nat} {s : Q4} (hs : l[j]? = some s) (ho : oneOk ns (wOf ns cs) wk l j s = false) : validS ns ls cs wk l = false := by
 cases e : validS ns ls cs wk l
 ·rfl
 ·rw [((valid_iff hp hl).1 e).1 j s hs] at ho
  cases ho
section
variable {ns ls l : List Q4} {cs : List Int} {wk : Int}
/-- All places are taken, each by one slot. -/
theorem slot_all (hp : probB ns ls cs wk = true) (hl : l.length = ns.length) (hF : Firsts ns (wOf ns cs) wk l l.length) {k : Nat} {n : Q4} (hn : ns[k]? = some n) : ∃ (j : Nat) (u : Q4), l[j]? = some u ∧ u.a = n.a ∧ slotAt ns l l.length (k : Int) = some u := by
 have hv := (prob_iff.1 hp).1
 have hnd : (l.map Q4.a).Nodup := by
  rw [List.Nodup, List.pairwise_iff_getElem]
  intro i j hi hj hij e
  rw [List.length_map] at hi hj
  rw [List.getElem_map, List.getElem_map] at e
  have h1 := (one_place (hF i _ hi (List.getElem?_eq_getElem hi))).2
  have h2 := (one_place (hF j _ hj (List.getElem?_eq_getElem hj))).2
  rw [e, h2] at h1
  injection h1
  omega
 have hsub : ∀ u ∈ l, u.a ∈ ns.map Q4.a := fun u hu => by
  obtain ⟨j, hj, e⟩ := List.mem_iff_getElem.1 hu
  obtain ⟨m, hm, em⟩ := place_node (one_place (hF j u hj (by rw [List.getElem?_eq_getElem hj, e]))).1
  rw [← em]
  exact List.mem_map.2 ⟨m, hm, rfl⟩
 obtain ⟨u, hu, eu⟩ := costs_perm hnd hsub (by rw [List.length_map]; omega) n.a (List.mem_map.2 ⟨n, List.mem_of_getElem? hn, rfl⟩)
 obtain ⟨j, hj, ej⟩ := List.mem_iff_getElem.1 hu
 have hju : l[j]? = some u := by rw [List.getElem?_eq_getElem hj, ej]
 refine ⟨j, u, hju, eu, ?_⟩
 have hpk := pl_asc (valid_asc hv) hn
 cases hs : slotAt ns l l.length (k : Int) with
 | none => exact absurd (by rw [eu]; exact hpk) (slotAt_none hs hj hju)
 | some u2 =>
  obtain ⟨i, hi, hiu, e2⟩ := slotAt_mem hs
  have h1 := one_place (hF j u hj hju)
  have h2 := one_place (hF i u2 hi hiu)
  obtain ⟨m, hm, em⟩ := place_node h2.1
  have e3 : u2.a = n.a := by
   rw [← em] at e2 ⊢
   exact pl_inj hm (List.mem_of_getElem? hn) (by rw [e2, hpk])
  rw [e3, ← eu, h1.2] at h2
  injection h2.2 with h3
  subst h3
  rw [hju] at hiu
  exact hiu.symm ▸ rfl
/-- What is tested of the slot at a place, besides. -/
def PlaceOk (ns ls l : List Q4) (y : Int) : Prop := ∀ j s, l[j]? = some s → pl ns s.a = y → readyS ls l s.a s.c = true ∧ pairOk l s j
theorem valid_places (hp : probB ns ls cs wk = true) (hl : l.length = ns.length) (hF : Firsts ns (wOf ns cs) wk l l.length) (h : ∀ y, (slM ns l l.length y).isSome = true → PlaceOk ns ls l y) : validS ns ls cs wk l = true := by
 refine (valid_iff hp hl).2 ⟨fun j s hj => hF j s (List.getElem?_eq_some_iff.1 hj).1 hj, fun j s hj => ?_⟩
 refine h (pl ns s.a) ?_ j s hj rfl
 cases hs : slotAt ns l l.length (pl ns s.a) with
 | none => exact absurd rfl (slotAt_none hs (List.getElem?_eq_some_iff.1 hj).1 hj)
 | some u => simp [slM, hs]
theorem not_valid_place (hp : probB ns ls cs wk = true) (hl : l.length = ns.length) {j : Nat} {s : Q4} (hs : l[j]? = some s) (h : ¬ (readyS ls l s.a s.c = true ∧ pairOk l s j)) : validS ns ls cs wk l = false := by
 cases e : validS ns ls cs wk l
 ·rfl
 ·exact absurd (((valid_iff hp hl).1 e).2 j s hs) h
/-- The slot of a node that is waited for. -/
theorem slot_wait (hp : probB ns ls cs wk = true) (hl : l.length = ns.length) (hF : Firsts ns (wOf ns cs) wk l l.length) {a id : Int} (ha : a ∈ waitsL ls id) : ∃ u, slotAt ns l l.length (pl ns a) = some u ∧ endS l a = some u.d := by
 have hv := (prob_iff.1 hp).1
 obtain ⟨m, hm, em⟩ := waits_mem hv ha
 obtain ⟨k, h1, _, _, n, hn, en⟩ := pl_in hm
 obtain ⟨j, u, hj, eu, hs⟩ := slot_all hp hl hF hn
 refine ⟨u, by rw [← em, h1]; exact hs, ?_⟩
 have hone := hF j u (List.getElem?_eq_some_iff.1 hj).1 hj
 have hpl := (one_place hone).2
 unfold endS
 have e3 : u.a = a := by rw [eu, en, em]
 rw [← e3]
 unfold placeN at hpl
 unfold findN
 rw [find_idx, hpl]
 show (l[j]?).map Q4.d = some u.d
 rw [hj]
 rfl
/-- All that a node waits for have ended: read off the list of waiting. -/
theorem ready_waits (ls l : List Q4) (id t : Int) : readyS ls l id t = (waitsL ls id).all fun a => endB l a t := by
 rw [ready_endB]
 unfold waitsL
 rw [List.all_map, List.all_filter]
 rfl
theorem slot_inj {W : Int → Int} (hF : Firsts ns W wk l l.length) {i j : Nat} {u s : Q4} (hi : l[i]? = some u) (hj : l[j]? = some s) (e : pl ns u.a = pl ns s.a) : i = j := by
 have h1 := one_place (hF i u (List.getElem?_eq_some_iff.1 hi).1 hi)
 have h2 := one_place (hF j s (List.getElem?_eq_some_iff.1 hj).1 hj)
 obtain ⟨n, hn, en⟩ := place_node h1.1
 obtain ⟨m, hm, em⟩ := place_node h2.1
 have e2 : u.a = s.a := by
  rw [← en, ← em] at e ⊢
  exact pl_inj hn hm e
 have h3 := h1.2
 rw [e2, h2.2] at h3
 injection h3 with h3
 exact h3.symm
theorem slot_self {W : Int → Int} (hF : Firsts ns W wk l l.length) {j : Nat} {u : Q4} (hj : l[j]? = some u) : slotAt ns l l.length (pl ns u.a) = some u := by
 cases hs : slotAt ns l l.length (pl ns u.a) with
 | none => exact absurd rfl (slotAt_none hs (List.getElem?_eq_some_iff.1 hj).1 hj)
 | some u2 =>
  obtain ⟨i, hi, hiu, e⟩ := slotAt_mem hs
  have := slot_inj hF hiu hj e
  subst this
  rw [hj] at hiu
  exact hiu.symm
theorem place_ok_of {W : Int → Int} (hF : Firsts ns W wk l l.length) {j : Nat} {s : Q4} (hj : l[j]? = some s) (hr : readyS ls l s.a s.c = true) (ho : ∀ y u, slotAt ns l l.length y = some u → y ≠ pl ns s.a → overQ u s = false) : PlaceOk ns ls l (pl ns s.a) := by
 intro j2 s2 h2 e
 have := slot_inj hF h2 hj e
 subst this
 rw [hj] at h2
 injection h2 with h2
 subst h2
 refine ⟨hr, fun i u hne hu => ho _ u (slot_self hF hu) fun e2 => hne (slot_inj hF hu hj e2)⟩
theorem not_pair {W : Int → Int} (hF : Firsts ns W wk l l.length) {j : Nat} {s u : Q4} (hj : l[j]? = some s) {y : Int} (hu : slotAt ns l l.length y = some u) (hne : y ≠ pl ns s.a) (ho : overQ u s = true) : ¬ (readyS ls l s.a s.c = true ∧ pairOk l s j) := by
 rintro ⟨_, h⟩
 obtain ⟨i, hi, hiu, e⟩ := slotAt_mem hu
 have hij : i ≠ j := by
  rintro rfl
  rw [hj] at hiu
  injection hiu with hiu
  subst hiu
  exact hne e.symm
 rw [h i u hij hiu] at ho
 cases ho
end
end Go.Proofs.Ytobhdldlhhigdaa

namespace Go.Proofs.Ytobhdldlhhigdaa
open Go.RowKit Go.Maps
set_option maxRecDepth 100000
/-- A range under way over the map at b, its iterator at r: left says which keys are still to come, cnt how many. -/
def RngT {P : Program} {k : TypeId} {q : IntKind} (hk : P.underlying k = some (.int q)) (w : World) (b r n : Nat) (M : Int → Option Value) (left : Int → Bool) (cnt : Nat) : Prop :=
 ∃ (D : DataW Value) (lf : Lit → Bool), w.ranges P k heldR b r n D lf cnt ∧ (∀ a, (intT hk).ok a → ∀ l, keyOf P k ((intT hk).enc a) = some l → Maps.has D l = (M a).isSome ∧ ∀ z, D.atKey l (.held z) = .held ((M a).getD z)) ∧
  ∀ a, (intT hk).ok a → lf (.int q a) = left a
section
variable {P : Program} {k : TypeId} {q : IntKind} {hk : P.underlying k = some (.int q)} {w w' : World} {b r n cnt : Nat} {M : Int → Option Value} {left : Int → Bool}
theorem RngT.map (h : RngT hk w b r n M left cnt) : MapT (intT hk) w b n M := by
 obtain ⟨D, lf, h1, h2, _⟩ := h
 exact ⟨D, h1.owns, h2⟩
theorem RngT.kept (h : RngT hk w b r n M left cnt) {row : Option Nat} (hg : w.grownBy w' row) (hb : some b ≠ row) (hr : some r ≠ row) : RngT hk w' b r n M left cnt := by
 obtain ⟨D, lf, h1, h2, h3⟩ := h
 exact ⟨D, lf, h1.kept hg hb hr, h2, h3⟩
theorem RngT.grows (h : RngT hk w b r n M left cnt) (hg : Grows w w') : RngT hk w' b r n M left cnt := h.kept (row := none) ⟨hg.os, hg.tape, hg.output, hg.size, fun j hj _ => hg.block j hj⟩ (by simp) (by simp)
theorem RngT.left_eq (h : RngT hk w b r n M left cnt) : w.rangeLeft b r = cnt := by
 obtain ⟨D, lf, h1, _⟩ := h
 exact h1.left_eq
theorem RngT.ne (h : RngT hk w b r n M left cnt) : r ≠ b := by
 obtain ⟨D, lf, h1, _⟩ := h
 exact h1.ne
theorem RngT.lt (h : RngT hk w b r n M left cnt) : r < w.heap.size := by
 obtain ⟨D, lf, h1, _⟩ := h
 exact h1.lt
theorem RngT.ne_blk (h : RngT hk w b r n M left cnt) {g : Nat} {t : TypeId} {cs : Array Value} (hb : Blk w g t cs) : r ≠ g := by
 rintro rfl
 obtain ⟨D, lf, ⟨es, clock, since, seen, c0, _, _, _, _, h5, _⟩, _⟩ := h
 unfold Blk at hb
 rw [hb] at h5
 cases h5
theorem RngT.ne_map (h : RngT hk w b r n M left cnt) {b' n' : Nat} {M' : Int → Option Value} (hm : MapT (intT hk) w b' n' M') : r ≠ b' := by
 rintro rfl
 obtain ⟨D, lf, ⟨es, clock, since, seen, c0, _, _, _, _, h5, _⟩, _⟩ := h
 obtain ⟨D', ⟨es', cl', h1, _⟩, _⟩ := hm
 rw [h5] at h1
 cases h1
variable {ops : Array Oper} {rest : List Oper} {o : Oper} {a : Act} {Q : Exit → Act → World → Prop}
theorem wpList_rangeT (hgd : o.guard = none) (m : Operand) (t : TypeId) (hop : o.op = Op.range t m) (hm : a.eval m = .map (some b)) (h : MapT (intT hk) w b n M) {e : TypeId} (ht : P.underlying t = some (.map k e))
 (hK : ∀ w' cnt, RngT hk w' b w.heap.size n M (fun x => (M x).isSome) cnt → w.grownBy w' none → wpList P ops Q rest (a.put o.dst (.pointer (some ⟨w.heap.size, 0, none⟩))) w') : wpList P ops Q (o :: rest) a w := by
 obtain ⟨D, h1, h2⟩ := h
 exact wpList_range_own w hgd m t hop k e (int_keyed hk) ht heldR b n D hm h1 fun w' r1 r2 _ => hK w' _ ⟨D, _, r1, h2, fun x hx => (h2 x hx _ (keyOf_int_mk hk hx)).1⟩ r2
theorem wpList_nextT (hgd : o.guard = none) (it : Operand) (hop : o.op = Op.next it false) (hit : a.eval it = .pointer (some ⟨r, 0, none⟩)) (h : RngT hk w b r n M left cnt)
 (hDone : (∀ x, (intT hk).ok x → left x = false) → wpList P ops Q rest (a.put o.dst (.tuple #[.bool false])) w)
 (hMore : ∀ (x : Int) (v : Value) (w' : World) (cnt' : Nat), (intT hk).ok x → left x = true → M x = some v → RngT hk w' b r n M (fun y => left y && decide (y ≠ x)) cnt' → cnt' < cnt → w.grownBy w' (some r) → w'.heap.size = w.heap.size →
   (Instr.entry (.pointer (some ⟨r, 0, none⟩))).run P w' = .ok (.tuple #[.int q x, v]) w' → wpList P ops Q rest (a.put o.dst (.tuple #[.bool true, .int q x, v])) w') : wpList P ops Q (o :: rest) a w := by
 obtain ⟨D, lf, h1, h2, h3⟩ := h
 refine wpList_next_ranges (α := Int) (β := Value) w hgd it hop k (int_keyed hk) heldR (Value.int q) id (fun key kl hkey => by obtain ⟨x, rfl, _⟩ := Maps.keyOf_int_inv hk hkey; exact ⟨x, rfl⟩) (fun v y _ => ⟨v, rfl⟩) b r n D lf cnt hit h1
  (fun _ hl => hDone fun x hx => by rw [← h3 x hx]; exact hl _) fun x v kl y w' cnt' hkey hlk hv hat hrg hlt hgr hsz hen => ?_
 obtain ⟨x', ex, rfl, hwx⟩ := Maps.keyOf_int_inv hk hkey
 cases ex
 have hok : (intT hk).ok x := hwx
 obtain ⟨_, h5⟩ := h2 x hok _ hkey
 have hy : y.1 = .held v := by
  unfold heldR id at hv
  injection hv with hv
  rw [← hv]
 have hM : M x = some v := by
  cases hm : M x with
  | some u =>
   have h6 := hat (.held u)
   rw [h5 u, hm, hy] at h6
   injection h6 with h6
   rw [← h6]
   rfl
  | none =>
   have h6 := hat (.held (.bool true))
   have h7 := hat (.held (.bool false))
   rw [h5 _, hm, hy] at h6
   rw [h5 _, hm, hy] at h7
   injection h6 with h6
   injection h7 with h7
   simp only [Option.getD_none] at h6 h7
   rw [← h6] at h7
   injection h7 with h7
   cases h7
 refine hMore x v w' cnt' hok (by rw [← h3 x hok]; exact hlk) hM ⟨D, _, hrg, h2, fun z hz => ?_⟩ hlt hgr hsz hen
 show (lf (.int q z) && !(Lit.int q z).sameKey (.int q x)) = _
 rw [h3 z hz]
 congr 1
 by_cases e : z = x
 ·subst e
  simp [Lit.sameKey]
 ·simp [Lit.sameKey, e]
end
end Go.Proofs.Ytobhdldlhhigdaa

namespace Go.Proofs.Ytobhdldlhhigdaa
open Go.RowKit Go.Maps
set_option maxRecDepth 100000
theorem zeroS (w : World) : (zeroValue 53).run Try.prog w = .ok (.agg #[.int .i64 0, .int .i64 0, .int .i64 0, .int .i64 0]) w := by kernel_rfl
theorem slM_look (ns l : List Q4) (t : Nat) (y : Int) : (slM ns l t y).getD (.agg #[.int .i64 0, .int .i64 0, .int .i64 0, .int .i64 0]) = .agg (((slotAt ns l t y).getD q0).cs) ∧ (slM ns l t y).isSome = (slotAt ns l t y).isSome := by
 unfold slM
 cases slotAt ns l t y <;> exact ⟨rfl, rfl⟩
theorem idMap_some (ns : List Q4) (x : Int) : (wMap ns (idL ns.length) ns.length x).isSome = (placeN ns x).isSome := (wMap_end ns (idL ns.length) ns.length (Nat.le_refl _) x).2
set_option maxHeartbeats 16000000 in
theorem pvalid25_any {A A2 A3 A4 : Option Addr} {c2 : Nat} {ns ls l : List Q4} {cs : List Int} {w : World} (c c3 c4 : Nat) (wi : Int) (h : GOK w A A2 c2 ns ls) (h3 : Ints w A3 cs) (hl3 : cs.length ≤ 9223372036854775807) (h4 : Qs w A4 l) (hl4 : l.length ≤ 9223372036854775807) (ho4 : ∀ s ∈ l, OK4 s) :
 Calls Try.prog 23 #[.agg #[.slice A ns.length c, .slice A2 ls.length c2], .slice A3 cs.length c3, .int .i64 wi, .slice A4 l.length c4] w fun e w' => e = .returned (.bool (validS ns ls cs wi l)) ∧ Grows w w' := by
 have hnl := h.nl
 have k1 := Blk.new w 26 #[.slice A ns.length c, .slice A2 ls.length c2]
 have hB := (Below.refl w.heap.size w).alloc (Nat.le_refl _) (Obj.cells #[.slice A ns.length c, .slice A2 ls.length c2] 26)
 go_enter Try.func23, Try.ntmps23
 go_upto_region 1 with fail
 generalize World.alloc w _ = w1 at *
 have x1 := k1.cell
 go_wp2_with fail
 refine (read_any c c3 wi (h.grows hB) (h3.grows hB) hl3).mono ?_
 rintro e w0 ⟨(⟨hp, P, Bm, m, G, co, Ao, rfl, hP⟩ | ⟨hp, rfl⟩), hq⟩
 case inr =>
  have HE : Hid (validS ns ls cs wi l = false) := Lib.hid (by simp [validS, hp])
  replace hB := below_grows hB (Nat.le_refl _) hq
  clear hq x1 hp
  go_wp2
  go_ret
  rw [HE.out]
  exact ⟨rfl, hB⟩
 have HP := Lib.hid hp
 have hw1 := (prob_iff.1 hp).2.2
 have hln := (valid_len (prob_iff.1 hp).1).1
 have hLs := (valid_len (prob_iff.1 hp).1).2
 have HCS := Lib.hid (okW_len (prob_iff.1 hp).2.1)
 have HV := Lib.hid (prob_iff.1 hp).1
 have HWW := Lib.hid fun x => wb_of (prob_iff.1 hp).2.1 x
 clear hp
 replace hB := below_grows hB (Nat.le_refl _) hq
 replace k1 := k1.grows hq
 clear hq x1
 have x1 := k1.cell
 by_cases hll : l.length = ns.length
 case neg =>
  have HE : Hid (validS ns ls cs wi l = false) := Lib.hid (by simp [validS, hll])
  have hlen2 : ((l.length : Int) != (ns.length : Int)) = true := by
   simp only [bne_iff_ne, ne_eq]
   omega
  go_wp2
  go_ret
  rw [HE.out]
  exact ⟨rfl, hB⟩
 have hlen2 : ((l.length : Int) != (ns.length : Int)) = false := by
  simp only [bne_eq_false_iff_eq]
  omega
 have HL := Lib.hid hll
 have hl64 : l.length ≤ 64 := by omega
 clear hll
 have hm := mapT_made TI w0
 have hq := (Below.refl w0.heap.size w0).alloc (Nat.le_refl _) (Obj.map #[] 0)
 have hbs := hB.size
 have hmm := @run_makeMap Try.prog
 go_upto_region 5 with fail
 clear hmm
 clear hq x1 hlen2
 have hB0 := (Below.refl w0.heap.size w0).alloc (Nat.le_refl _) (Obj.map #[] 0)
 have hBe := hB
 generalize World.alloc w0 _ = w2 at *
 clear hB
 have hB := hB0
 clear hB0 k1
 go_wp2_with fail
 go_loopw [44] (fun i wr => ∃ t : Nat, t ≤ l.length ∧ i = .int .i64 t ∧ Hid (Firsts ns (wOf ns cs) wi l t) ∧ MapT TI wr w0.heap.size t (slM ns l t) ∧ Below w0.heap.size w0 wr) (fun i _ => l.length - (intOf i).toNat)
 case atStart => exact ⟨0, by omega, rfl, Lib.hid (firsts_zero _ _ _ _), hm.ext (fun y _ => by simp [slM, slotAt]), hB⟩
 case round =>
  clear hm hB
  obtain ⟨t, ht, rfl, HF, hm, hB⟩ := hrel
  have hBw := hBe.trans (hB.mono hBe.size)
  by_cases hlt : t < l.length
  ·obtain ⟨ad, s, e1, had, hx, q0, q1, q2, q3⟩ := (h4.grows hBw).elem hlt
   subst e1
   have HX := Lib.hid hx
   have hok := ho4 s (List.mem_of_getElem? hx)
   have HIa : Hid (In64 s.a) := Lib.hid hok.1
   have HI4 := Lib.hid hok
   clear hx hok
   have k13 := Blk.new wr 53 #[.int .i64 s.a, .int .i64 s.b, .int .i64 s.c, .int .i64 s.d]
   have hq := (Below.refl wr.heap.size wr).alloc (Nat.le_refl _) (Obj.cells #[.int .i64 s.a, .int .i64 s.b, .int .i64 s.c, .int .i64 s.d] 53)
   go_upto_region 8 with fail
   clear q0 q1 q2 q3
   replace hB := below_grows hB (Nat.le_refl _) hq
   replace hm := hm.grows hq
   clear hq
   generalize World.alloc wr _ = w6 at *
   generalize wr.heap.size = G13 at *
   obtain ⟨pi, hpi⟩ : ∃ pi, pl ns s.a = pi := ⟨_, rfl⟩
   obtain ⟨po, hpo⟩ : ∃ po, (placeN ns s.a).isSome = po := ⟨_, rfl⟩
   have HPI := Lib.hid hpi
   have HPO := Lib.hid hpo
   have hpb : 0 ≤ pi ∧ pi < 64 := by
    rw [← hpi]
    by_cases hs : (placeN ns s.a).isSome = true
    ·obtain ⟨n, hn, en⟩ := place_node hs
     obtain ⟨k, h1, _, h2, _⟩ := pl_in hn
     rw [← en, h1]
     omega
    ·have : placeN ns s.a = none := by simpa using hs
     unfold pl wOf
     rw [this]
     show (0 : Int) ≤ 0 ∧ (0 : Int) < 64
     omega
   have HIP : Hid (In64 pi) := Lib.hid ⟨by omega, by omega⟩
   clear hpi hpo
   have e1 : ∀ n, (Instr.lookup 85 (.map (some Bm)) (.int .i64 s.a) true).run Try.prog (w6.drewN n) = .ok (.tuple #[.int .i64 pi, .bool po]) (w6.drewN n) := fun n => by
    have := ((hP.grows hB).map.grows (grows_drewN w6 n)).look_ok lawI Try.underlying85 (zeroI _) (in64_ok HIa.out)
    rw [idMap_get, idMap_some, HPI.out, HPO.out] at this
    exact this
   have x13 := k13.cell
   have xP := (hP.grows hB).blk.cell 3
   go_quiet (fail)
   generalize hY : World.drewN w6 _ = w7 at *
   have hq : Grows w6 w7 := hY ▸ grows_drewN w6 _
   clear hY
   replace hB := below_grows hB (Nat.le_refl _) hq
   replace hm := hm.grows hq
   replace k13 := k13.grows hq
   clear hq e1 x13 xP
   go_upto_region 9 with fail
   refine wp_region_lit ?_
   iterate 2
    refine wpList_plain rfl (fun K hK => ?_)
    go_simp
    refine hK _ _ ?_
    clear hK K
   refine wpList_lookT_ok rfl (.tmp 59) (.tmp 60) 83 rfl rfl hm lawI Try.underlying83 (zeroS _) pi (in64_ok HIP.out) rfl ?_
   rw [(slM_look ns l t pi).1, (slM_look ns l t pi).2]
   obtain ⟨u, hu⟩ : ∃ u, slotAt ns l t pi = u := ⟨_, rfl⟩
   have HU := Lib.hid hu
   rw [hu]
   clear hu
   generalize (u.getD q0) = uq at *
   obtain ⟨y0, y1, y2, y3⟩ := uq
   simp only [Q4.cs]
   generalize hus : u.isSome = us
   have HUS := Lib.hid hus
   clear hus
   have hq := (Below.refl w7.heap.size w7).alloc (Nat.le_refl _) (Obj.cells #[.int .i64 y0, .int .i64 y1, .int .i64 y2, .int .i64 y3] 53)
   go_upto_region 10 with fail
   replace hB := below_grows hB (Nat.le_refl _) hq
   replace hm := hm.grows hq
   replace k13 := k13.grows hq
   clear hq
   generalize World.alloc w7 _ = w8 at *
   generalize w7.heap.size = G16 at *
   have x13 := k13.cell
   cases po
   case false =>
    have HE : Hid (validS ns ls cs wi l = false) := Lib.hid (not_valid_one HP.out HL.out HX.out (by unfold oneOk; simp [HPO.out]))
    go_quiet (fail)
    generalize hY : World.drewN w8 _ = w9 at *
    have hq : Grows w8 w9 := hY ▸ grows_drewN w8 _
    clear hY
    replace hB := below_grows hB (Nat.le_refl _) hq
    clear hq
    go_wp2
    go_ret
    rw [HE.out]
    exact ⟨rfl, hBe.trans (hB.mono hBe.size)⟩
   obtain ⟨k, hkp, hkl, HKP⟩ : ∃ k : Nat, pi = (k : Int) ∧ k < ns.length ∧ Hid (placeN ns s.a = some k) := by
    obtain ⟨n, hn, en⟩ := place_node HPO.out
    obtain ⟨k, h1, h2, h3, _⟩ := pl_in hn
    rw [en] at h1 h2
    exact ⟨k, by rw [← HPI.out, h1], h3, Lib.hid h2⟩
   subst hkp
   cases us
   case true =>
    have HE : Hid (validS ns ls cs wi l = false) := Lib.hid (not_valid_one HP.out HL.out HX.out (by
     have h1 : ¬ placeN l s.a = some t := fun e => by
      have := (twice_iff HF.out HX.out HPO.out).2 e
      rw [HPI.out, HU.out, HUS.out] at this
      cases this
     unfold oneOk
     simp [h1]))
    go_quiet (fail)
    generalize hY : World.drewN w8 _ = w9 at *
    have hq : Grows w8 w9 := hY ▸ grows_drewN w8 _
    clear hY
    replace hB := below_grows hB (Nat.le_refl _) hq
    clear hq
    go_wp2
    go_ret
    rw [HE.out]
    exact ⟨rfl, hBe.trans (hB.mono hBe.size)⟩
   have HPL : Hid (placeN l s.a = some t) := Lib.hid ((twice_iff HF.out HX.out HPO.out).1 (by rw [HPI.out, HU.out, HUS.out]))
   have HNO : Hid (slotAt ns l t (pl ns s.a) = none) := Lib.hid (by
    have := HUS.out
    rw [HPI.out, HU.out]
    simpa using this)
   clear HU HUS
   by_cases b1 : s.b < 0
   ·have c1 : decide (s.b < 0) = true := by simpa using b1
    have HE : Hid (validS ns ls cs wi l = false) := Lib.hid (not_valid_one HP.out HL.out HX.out (by
     cases he : oneOk ns (wOf ns cs) wi l t s
     ·rfl
     ·exfalso
      unfold oneOk at he
      simp only [Bool.and_eq_true, decide_eq_true_eq, beq_iff_eq] at he
      omega))
    go_quiet (fail)
    generalize hY : World.drewN w8 _ = w9 at *
    have hq : Grows w8 w9 := hY ▸ grows_drewN w8 _
    clear hY
    replace hB := below_grows hB (Nat.le_refl _) hq
    clear hq
    go_wp2
    go_ret
    rw [HE.out]
    exact ⟨rfl, hBe.trans (hB.mono hBe.size)⟩
   have c1 : decide (s.b < 0) = false := by simpa using b1
   by_cases b2 : wi ≤ s.b
   ·have c2 : decide (wi ≤ s.b) = true := by simpa using b2
    have HE : Hid (validS ns ls cs wi l = false) := Lib.hid (not_valid_one HP.out HL.out HX.out (by
     cases he : oneOk ns (wOf ns cs) wi l t s
     ·rfl
     ·exfalso
      unfold oneOk at he
      simp only [Bool.and_eq_true, decide_eq_true_eq, beq_iff_eq] at he
      omega))
    go_quiet (fail)
    generalize hY : World.drewN w8 _ = w9 at *
    have hq : Grows w8 w9 := hY ▸ grows_drewN w8 _
    clear hY
    replace hB := below_grows hB (Nat.le_refl _) hq
    clear hq
    go_wp2
    go_ret
    rw [HE.out]
    exact ⟨rfl, hBe.trans (hB.mono hBe.size)⟩
   have c2 : decide (wi ≤ s.b) = false := by simpa using b2
   by_cases b3 : s.c < 0
   ·have c3 : decide (s.c < 0) = true := by simpa using b3
    have HE : Hid (validS ns ls cs wi l = false) := Lib.hid (not_valid_one HP.out HL.out HX.out (by
     cases he : oneOk ns (wOf ns cs) wi l t s
     ·rfl
     ·exfalso
      unfold oneOk at he
      simp only [Bool.and_eq_true, decide_eq_true_eq, beq_iff_eq] at he
      omega))
    go_quiet (fail)
    generalize hY : World.drewN w8 _ = w9 at *
    have hq : Grows w8 w9 := hY ▸ grows_drewN w8 _
    clear hY
    replace hB := below_grows hB (Nat.le_refl _) hq
    clear hq
    go_wp2
    go_ret
    rw [HE.out]
    exact ⟨rfl, hBe.trans (hB.mono hBe.size)⟩
   have c3 : decide (s.c < 0) = false := by simpa using b3
   by_cases b4 : s.d < s.c
   ·have c4 : decide (s.d < s.c) = true := by simpa using b4
    have HE : Hid (validS ns ls cs wi l = false) := Lib.hid (not_valid_one HP.out HL.out HX.out (by
     cases he : oneOk ns (wOf ns cs) wi l t s
     ·rfl
     ·exfalso
      unfold oneOk at he
      simp only [Bool.and_eq_true, decide_eq_true_eq, beq_iff_eq] at he
      omega))
    go_quiet (fail)
    generalize hY : World.drewN w8 _ = w9 at *
    have hq : Grows w8 w9 := hY ▸ grows_drewN w8 _
    clear hY
    replace hB := below_grows hB (Nat.le_refl _) hq
    clear hq
    go_wp2
    go_ret
    rw [HE.out]
    exact ⟨rfl, hBe.trans (hB.mono hBe.size)⟩
   have c4 : decide (s.d < s.c) = false := by simpa using b4
   obtain ⟨ad3, z, e3, had3, hz3, p0⟩ := (h3.grows (hBe.trans (hB.mono hBe.size))).at_ (k := k) (by have := HCS.out; omega)
   subst e3
   have hkc : k < cs.length := by have := HCS.out; omega
   have HWZ : Hid (wOf ns cs s.a = z) := Lib.hid (by
    rw [wOf_at HKP.out, List.getD_eq_getElem?_getD, hz3]
    rfl)
   have hwr : IntKind.i64.wrap (s.d - s.c) = s.d - s.c := by
    obtain ⟨h1, h2⟩ := HI4.out.2.2.2
    exact IntWalk.i64_in _ (by omega)
   clear hz3
   by_cases b5 : s.d - s.c = z
   case neg =>
    have c5 : (s.d - s.c != z) = true := by simpa using b5
    have HE : Hid (validS ns ls cs wi l = false) := Lib.hid (not_valid_one HP.out HL.out HX.out (by
     unfold oneOk
     rw [HWZ.out]
     simp [b5]))
    clear b5
    go_quiet (fail)
    generalize hY : World.drewN w8 _ = w9 at *
    have hq : Grows w8 w9 := hY ▸ grows_drewN w8 _
    clear hY
    replace hB := below_grows hB (Nat.le_refl _) hq
    clear hq
    go_wp2
    go_ret
    rw [HE.out]
    exact ⟨rfl, hBe.trans (hB.mono hBe.size)⟩
   have c5 : (s.d - s.c != z) = false := by simpa using b5
   have HF2 : Hid (Firsts ns (wOf ns cs) wi l (t + 1)) := Lib.hid (firsts_succ HF.out HX.out (by
    unfold oneOk
    rw [HPO.out, HPL.out, HWZ.out]
    simp only [Bool.and_eq_true, beq_iff_eq, decide_eq_true_eq]
    exact ⟨⟨⟨⟨⟨⟨by first | trivial | rfl, by first | trivial | rfl⟩, by omega⟩, by omega⟩, by omega⟩, by omega⟩, b5⟩))
   clear b5
   go_quiet (fail)
   generalize hY : World.drewN w8 _ = w9 at *
   have hq : Grows w8 w9 := hY ▸ grows_drewN w8 _
   clear hY
   replace hB := below_grows hB (Nat.le_refl _) hq
   replace hm := hm.grows hq
   replace k13 := k13.grows hq
   clear hq p0 x13
   have x13 := k13.cell
   go_upto_region 12 with fail
   refine wp_region_lit ?_
   iterate 3
    refine wpList_plain rfl (fun K hK => ?_)
    go_simp
    refine hK _ _ ?_
    clear hK K
   refine wpList_storeT rfl (.tmp 104) (.tmp 105) (.tmp 106) 83 rfl rfl hm lawI Try.underlying83 (by simp only [maxLen]; omega) (k : Int) (in64_ok HIP.out) (.agg #[.int .i64 s.a, .int .i64 s.b, .int .i64 s.c, .int .i64 s.d]) rfl rfl ?_
   intro w10 hm10 hg10
   replace hB := hB.grown hg10 hB.size (fun q e => by injection e with e; subst e; exact Nat.le_refl _)
   replace hm : MapT TI w10 w0.heap.size (t + 1) (slM ns l (t + 1)) := hm10.ext fun y _ => by
    have := slM_snoc HX.out HNO.out y
    rw [HPI.out] at this
    exact this
   clear hm10 hg10 x13 k13
   go_wp2
   go_roundw
   case rel => exact ⟨t + 1, by omega, by go_num, HF2, hm, hB⟩
   case measure => simp [intOf]; omega
  ·obtain rfl : t = l.length := by omega
   have HSL : Hid (∀ y v, slM ns l l.length y = some v → ∃ s, slotAt ns l l.length y = some s ∧ v = .agg #[.int .i64 s.a, .int .i64 s.b, .int .i64 s.c, .int .i64 s.d]) := Lib.hid fun y v hv => by
    unfold slM at hv
    obtain ⟨s, h1, h2⟩ := Option.map_eq_some_iff.1 hv
    exact ⟨s, h1, h2.symm⟩
   have HOK : Hid (∀ y s, slotAt ns l l.length y = some s → ∃ k : Nat, y = (k : Int) ∧ k < ns.length ∧ placeN ns s.a = some k ∧ TI.ok y) := Lib.hid fun y s hs => by
    obtain ⟨j, hj, hjs, e⟩ := slotAt_mem hs
    obtain ⟨n, hn, en⟩ := place_node (one_place (HF.out j s hj hjs)).1
    obtain ⟨k, h1, h2, h3, _⟩ := pl_in hn
    rw [en] at h1 h2
    exact ⟨k, by rw [← e, h1], h3, h2, by rw [← e, h1]; exact in64_ok ⟨by omega, by omega⟩⟩
   have hBl := hm.lt
   clear ht hlt
   go_upto_region 14 with fail
   refine wp_region_lit ?_
   iterate 1
    refine wpList_plain rfl (fun K hK => ?_)
    go_simp
    refine hK _ _ ?_
    clear hK K
   refine wpList_rangeT (hk := Try.underlying3) rfl (.tmp 108) 83 rfl rfl hm Try.underlying83 ?_
   intro w3 cn hR hg3
   replace hB := hB.grown hg3 hB.size (fun q e => by cases e)
   generalize wr.heap.size = r at *
   clear hm hg3
   go_simp
   go_wp2_with fail
   go_loopw [110] (fun _ wq => ∃ (lf : Int → Bool) (cn : Nat), RngT (P := Try.prog) Try.underlying3 wq w0.heap.size r l.length (slM ns l l.length) lf cn ∧ Hid (∀ y, (slM ns l l.length y).isSome = true → lf y = false → PlaceOk ns ls l y) ∧ Below w0.heap.size w0 wq) (fun _ wq => wq.rangeLeft w0.heap.size r)
   case atStart => exact ⟨_, cn, hR, Lib.hid (fun y h1 h2 => by rw [h1] at h2; cases h2), hB⟩
   case round =>
    clear hR hB
    obtain ⟨lf, cn, hR, HQ, hB⟩ := hrel
    have hmu := hR.left_eq
    go_upto_region 15 with fail
    refine wp_region_lit ?_
    refine wpList_nextT rfl (.tmp 109) rfl rfl hR (fun hd => ?_) (fun x v w4 cn4 hok hlx hMx hR4 hlt4 hg4 hsz4 hen => ?_)
    ·have HE : Hid (validS ns ls cs wi l = true) := Lib.hid (valid_places HP.out HL.out HF.out fun y hy => by
      obtain ⟨v, hv⟩ := Option.isSome_iff_exists.1 hy
      obtain ⟨s, hs, _⟩ := HSL.out y v hv
      obtain ⟨k, _, _, _, hk⟩ := HOK.out y s hs
      exact HQ.out y hy (hd y hk))
     clear hmu
     go_wp2
     go_ret
     rw [HE.out]
     exact ⟨rfl, hBe.trans (hB.mono hBe.size)⟩
    obtain ⟨s, hs, rfl⟩ := HSL.out x v hMx
    obtain ⟨kx, hkx, hkl, hkp, -⟩ := HOK.out x s hs
    obtain ⟨jx, hj1, hj2, hj3⟩ := slotAt_mem hs
    subst hkx
    have HJ := Lib.hid hj2
    have HJP := Lib.hid hj3
    have HKP := Lib.hid hkp
    have HIX := Lib.hid hok
    replace hB := hB.grown hg4 hB.size (fun q e => by injection e with e; omega)
    have hmu4 := hR4.left_eq
    clear hg4 hsz4 hR hMx hs hj1 hj2 hj3 hkp hok hlx
    refine wpList_plain rfl (fun K hK => ?_)
    go_simp
    refine hK _ _ ?_
    clear hK K
    have k19 := Blk.new w4 53 #[.int .i64 s.a, .int .i64 s.b, .int .i64 s.c, .int .i64 s.d]
    have hq := (Below.refl w4.heap.size w4).alloc (Nat.le_refl _) (Obj.cells #[.int .i64 s.a, .int .i64 s.b, .int .i64 s.c, .int .i64 s.d] 53)
    go_upto_region 17 with fail
    have HBF : Hid (befP ns ls kx = (waitsL ls s.a).map (pl ns)) := Lib.hid (by
     obtain ⟨n, hn, en⟩ := placeN_some HKP.out
     rw [← en]
     exact befP_waits HV.out hn)
    have hb := hP.bef kx hkl
    rw [HBF.out] at hb
    obtain ⟨Ab, cb, hGl, xb0, hb, -⟩ := hb
    rw [List.length_map] at xb0
    have hwl : (waitsL ls s.a).length ≤ 256 := by
     unfold waitsL
     rw [List.length_map]
     exact Nat.le_trans (List.length_filter_le _ _) hLs
    have hrl := hR4.lt
    replace hB := below_grows hB (Nat.le_refl _) hq
    replace hR4 := hR4.grows hq
    have hrl4 := hq.size
    clear hq
    generalize World.alloc w4 _ = w5 at *
    generalize w4.heap.size = G19 at *
    have xb : w5.cell? ⟨G, kx, none⟩ = some (.slice Ab (waitsL ls s.a).length cb) := by rw [← xb0]; exact hB.cell hGl
    have xP := (hP.grows hB).blk.cell 5
    have x19 := k19.cell
    go_wp2_with fail
    go_loop [123] (fun i => ∃ j : Nat, j ≤ (waitsL ls s.a).length ∧ i = .int .i64 j ∧ Hid (((waitsL ls s.a).take j).all (fun a => endB l a s.c) = true)) (fun i => (waitsL ls s.a).length - (intOf i).toNat)
    case atStart => exact ⟨0, by omega, rfl, Lib.hid rfl⟩
    case round =>
     obtain ⟨j, hj, rfl, HR⟩ := hrel
     by_cases hlt2 : j < (waitsL ls s.a).length
     ·obtain ⟨ad, x, e1, had, hx, p0⟩ := (hb.grows hB).at_ (k := j) (by rw [List.length_map]; exact hlt2)
      subst e1
      have hw := List.getElem?_eq_getElem hlt2
      generalize (waitsL ls s.a)[j] = a at hw
      have ham := List.mem_of_getElem? hw
      obtain ⟨u, hu, hud⟩ := slot_wait HP.out HL.out HF.out ham
      have e2 : x = pl ns a := by rw [List.getElem?_map, hw] at hx; injection hx with hx; exact hx.symm
      obtain ⟨ka, hka, -, -, hoka⟩ := HOK.out _ u hu
      rw [hka] at hu e2 hoka
      subst e2
      have HOA := Lib.hid hoka
      have HLK : Hid ((slM ns l l.length (ka : Int)).getD (.agg #[.int .i64 0, .int .i64 0, .int .i64 0, .int .i64 0]) = .agg #[.int .i64 u.a, .int .i64 u.b, .int .i64 u.c, .int .i64 u.d]) := Lib.hid (by unfold slM; rw [hu]; rfl)
      have HEB : Hid (endB l a s.c = decide (u.d ≤ s.c)) := Lib.hid (by unfold endB; rw [hud])
      have HW := Lib.hid hw
      have HAM := Lib.hid ham
      clear hx hw hu hud hka hoka ham
      go_upto_region 20 with fail
      refine wp_region_lit ?_
      iterate 2
       refine wpList_plain rfl (fun K hK => ?_)
       go_simp
       refine hK _ _ ?_
       clear hK K
      refine wpList_lookT rfl (.tmp 127) (.tmp 128) 83 rfl rfl hR4.map lawI Try.underlying83 (zeroS _) (ka : Int) HOA.out rfl ?_
      rw [HLK.out]
      have ef : (Instr.field 53 (.agg #[.int .i64 u.a, .int .i64 u.b, .int .i64 u.c, .int .i64 u.d]) 3).run Try.prog w5 = .ok (.int .i64 u.d) w5 := by kernel_rfl
      by_cases hlate : s.c < u.d
      ·have HE : Hid (validS ns ls cs wi l = false) := Lib.hid (not_valid_place HP.out HL.out HJ.out (fun hh => by
        have h1 := hh.1
        rw [ready_waits, List.all_eq_true] at h1
        have h2 := h1 a HAM.out
        rw [HEB.out] at h2
        simp only [decide_eq_true_eq] at h2
        omega))
       have hl2 : decide (s.c < u.d) = true := by simpa using hlate
       clear hlate p0
       go_wp2
       go_ret
       rw [HE.out]
       exact ⟨rfl, hBe.trans (hB.mono hBe.size)⟩
      ·have hl2 : decide (s.c < u.d) = false := by simpa using hlate
       have HR2 : Hid (((waitsL ls s.a).take (j + 1)).all (fun a => endB l a s.c) = true) := Lib.hid (by
        rw [take_snoc HW.out, List.all_append, HR.out]
        simp only [List.all_cons, List.all_nil, Bool.and_true, Bool.true_and]
        rw [HEB.out]
        simp only [decide_eq_true_eq]
        omega)
       clear hlate p0
       go_wp2
       go_round
       case rel => exact ⟨j + 1, by omega, by go_num, HR2⟩
       case measure => simp [intOf]; omega
     ·have HRD : Hid (readyS ls l s.a s.c = true) := Lib.hid (by
       have := HR.out
       rw [List.take_of_length_le (by omega)] at this
       rw [ready_waits]
       exact this)
      go_upto_region 23 with fail
      clear HR hlt2 hj xb xP x19
      refine wp_region_lit ?_
      iterate 1
       refine wpList_plain rfl (fun K hK => ?_)
       go_simp
       refine hK _ _ ?_
       clear hK K
      refine wpList_rangeT (hk := Try.underlying3) rfl (.tmp 135) 83 rfl rfl hR4.map Try.underlying83 ?_
      intro w6 cnr hR6 hg6
      have hq : Grows w5 w6 := (Below.refl _ _).grown hg6 (Nat.le_refl _) (fun q e => by cases e)
      have hr2 := hR4.lt
      have hBs := hB.size
      have hk19 := k19.lt
      replace hB := below_grows hB (Nat.le_refl _) hq
      replace hR4 := hR4.grows hq
      replace k19 := k19.grows hq
      clear hg6 hq
      have hne2 : r ≠ w5.heap.size := by omega
      have hn19 : G19 ≠ w5.heap.size := by omega
      generalize w5.heap.size = r2 at *
      go_simp
      go_wp2_with fail
      go_loopw [137] (fun _ wq => ∃ (lf2 : Int → Bool) (cn2 : Nat), RngT (P := Try.prog) Try.underlying3 wq w0.heap.size r2 l.length (slM ns l l.length) lf2 cn2 ∧ RngT (P := Try.prog) Try.underlying3 wq w0.heap.size r l.length (slM ns l l.length) (fun y => lf y && decide (y ≠ (kx : Int))) cn4 ∧ Hid (∀ y u, slotAt ns l l.length y = some u → lf2 y = false → y ≠ (kx : Int) → overQ u s = false) ∧ Blk wq G19 53 #[.int .i64 s.a, .int .i64 s.b, .int .i64 s.c, .int .i64 s.d] ∧ Below w0.heap.size w0 wq) (fun _ wq => wq.rangeLeft w0.heap.size r2)
      case atStart => exact ⟨_, cnr, hR6, hR4, Lib.hid (fun y u h1 h2 => by
       have : (slM ns l l.length y).isSome = true := by unfold slM; rw [h1]; rfl
       rw [this] at h2
       cases h2), k19, hB⟩
      case round =>
       clear hR6 hR4 k19 hB
       obtain ⟨lf2, cn2, hR6, hR4, HO, k19, hB⟩ := hrel
       have hmu6 := hR6.left_eq
       have hmu5 := hR4.left_eq
       go_upto_region 24 with fail
       refine wp_region_lit ?_
       refine wpList_nextT rfl (.tmp 136) rfl rfl hR6 (fun hd => ?_) (fun y v w7 cn7 hok7 hly hMy hR7 hlt7 hg7 hsz7 hen7 => ?_)
       ·have HPO : Hid (PlaceOk ns ls l (kx : Int)) := Lib.hid (by
         rw [← HJP.out]
         refine place_ok_of HF.out HJ.out HRD.out fun y u hu hne => ?_
         obtain ⟨k, _, _, _, hk⟩ := HOK.out y u hu
         exact HO.out y u hu (hd y hk) (by rw [← HJP.out]; exact hne))
        have HQ2 : Hid (∀ y, (slM ns l l.length y).isSome = true → (lf y && decide (y ≠ (kx : Int))) = false → PlaceOk ns ls l y) := Lib.hid fun y h1 h2 => by
         by_cases e : y = (kx : Int)
         ·rw [e]; exact HPO.out
         ·refine HQ.out y h1 ?_
          simpa [e] using h2
        clear hmu6 hd hR6
        go_wp2
        go_roundw
        case rel => exact ⟨_, cn4, hR4, HQ2, hB⟩
        case measure =>
         rw [hmu5, hmu]
         exact hlt4
       obtain ⟨u, hu, rfl⟩ := HSL.out y v hMy
       have HU := Lib.hid hu
       have hR47 := hR4.kept hg7 (fun e => by injection e with e; exact hR6.ne e.symm) (fun e => by injection e with e; exact hne2 e)
       have k197 := k19.grown hg7 (fun e => by injection e with e; exact hn19 e)
       have hB7 := hB.grown hg7 hB.size (fun q e => by injection e with e; subst e; omega)
       have hmu7 := hR7.left_eq
       clear hg7 hsz7 hR6 hR4 k19 hB hMy hu
       refine wpList_plain rfl (fun K hK => ?_)
       go_simp
       refine hK _ _ ?_
       clear hK K
       have k23 := Blk.new w7 53 #[.int .i64 u.a, .int .i64 u.b, .int .i64 u.c, .int .i64 u.d]
       have hq := (Below.refl w7.heap.size w7).alloc (Nat.le_refl _) (Obj.cells #[.int .i64 u.a, .int .i64 u.b, .int .i64 u.c, .int .i64 u.d] 53)
       go_upto_region 26 with fail
       replace hB7 := below_grows hB7 (Nat.le_refl _) hq
       replace hR47 := hR47.grows hq
       replace hR7 := hR7.grows hq
       replace k197 := k197.grows hq
       have hmu8 := hR7.left_eq
       clear hq hen7 hmu7
       generalize World.alloc w7 _ = w8 at *
       generalize w7.heap.size = G23 at *
       have x19 := k197.cell
       have x23 := k23.cell
       have hgo : ∀ (h : y = (kx : Int) ∨ overQ u s = false), Hid (∀ z v, slotAt ns l l.length z = some v → (lf2 z && decide (z ≠ y)) = false → z ≠ (kx : Int) → overQ v s = false) := fun h => Lib.hid fun z v hz h1 h2 => by
        by_cases e : z = y
        ·subst e
         rw [HU.out] at hz
         injection hz with hz
         subst hz
         rcases h with h | h
         ·exact absurd h h2
         ·exact h
        ·exact HO.out z v hz (by simpa [e] using h1) h2
       have HGO := Lib.hid hgo
       clear hgo
       by_cases hne : y = (kx : Int)
       ·have HO2 := HGO.out (.inl hne)
        have c1 : (y != (kx : Int)) = false := by simp [hne]
        clear hne HGO
        clear x19 x23
        have x19 := k197.cell
        have x23 := k23.cell
        go_wp2
        go_roundw
        case rel => exact ⟨_, cn7, hR7, hR47, HO2, k197, hB7⟩
        case measure =>
         rw [hmu8, hmu6]
         exact hlt7
       have c1 : (y != (kx : Int)) = true := by simp [hne]
       by_cases hb2 : u.b = s.b
       case neg =>
        have HO2 := HGO.out (.inr (by unfold overQ; simp [hb2]))
        have c2 : (u.b == s.b) = false := by simpa using hb2
        clear hne hb2 HGO
        clear x19 x23
        have x19 := k197.cell
        have x23 := k23.cell
        go_wp2
        go_roundw
        case rel => exact ⟨_, cn7, hR7, hR47, HO2, k197, hB7⟩
        case measure =>
         rw [hmu8, hmu6]
         exact hlt7
       have c2 : (u.b == s.b) = true := by simpa using hb2
       by_cases hb3 : s.c < u.d
       case neg =>
        have HO2 := HGO.out (.inr (by unfold overQ; simp [hb3]))
        have c3 : decide (s.c < u.d) = false := by simpa using hb3
        clear hne hb2 hb3 HGO
        clear x19 x23
        have x19 := k197.cell
        have x23 := k23.cell
        go_wp2
        go_roundw
        case rel => exact ⟨_, cn7, hR7, hR47, HO2, k197, hB7⟩
        case measure =>
         rw [hmu8, hmu6]
         exact hlt7
       have c3 : decide (s.c < u.d) = true := by simpa using hb3
       by_cases hb4 : u.c < s.d
       case neg =>
        have HO2 := HGO.out (.inr (by unfold overQ; simp [hb4]))
        have c4 : decide (u.c < s.d) = false := by simpa using hb4
        clear hne hb2 hb3 hb4 HGO
        clear x19 x23
        have x19 := k197.cell
        have x23 := k23.cell
        go_wp2
        go_roundw
        case rel => exact ⟨_, cn7, hR7, hR47, HO2, k197, hB7⟩
        case measure =>
         rw [hmu8, hmu6]
         exact hlt7
       have c4 : decide (u.c < s.d) = true := by simpa using hb4
       have HE : Hid (validS ns ls cs wi l = false) := Lib.hid (not_valid_place HP.out HL.out HJ.out (not_pair HF.out HJ.out HU.out (by rw [HJP.out]; exact hne) (by unfold overQ; simp [hb2, hb3, hb4])))
       clear hne hb2 hb3 hb4 HGO hmu6 hmu5
       go_wp2
       go_ret
       rw [HE.out]
       exact ⟨rfl, hBe.trans (hB7.mono hBe.size)⟩
end Go.Proofs.Ytobhdldlhhigdaa

namespace Go.Proofs.Ytobhdldlhhigdaa
open Go.RowKit Go.Maps
set_option maxRecDepth 100000
theorem comp_ok4 {ns ls : List Q4} {cs : List Int} {wk : Nat} (h : probB ns ls cs wk = true) : ∀ s ∈ compG ns ls cs wk, OK4 s := by
 intro s hs
 have hp := prob_iff.1 h
 obtain ⟨h1, _⟩ := comp_inv h
 obtain ⟨hc0, _, hd, ⟨i, hi, hb⟩, ha⟩ := h1.sl s hs
 obtain ⟨n, hn, en⟩ := order_mem ha
 have h9 := ((okN_iff ns).1 (valid_parts.1 hp.1).2.2.1).1 n hn
 unfold fineN at h9
 simp only [Bool.and_eq_true, decide_eq_true_eq] at h9
 have hw := wb_of hp.2.1 s.a
 have hsp := (span_spec (compG ns ls cs wk)).2.1 s hs
 have hg := (comp_graham h).2.1
 have hcb := crit_bd (ns := ns) (ls := ls) (cs := cs)
 have hln := (valid_len hp.1).1
 have hsum := sumK_bd (okW_all hp.2.1) cs.length
 unfold sumK at hsum
 rw [List.take_length] at hsum
 have hcl := okW_len hp.2.1
 have hbd : boundG ns ls cs wk ≤ 1000000000000000 := by
  unfold boundG
  rw [if_pos h]
  have e1 : critS (wOf ns cs) ls (orderL ns ls) = critG ns ls cs := by unfold critG; rw [if_pos (prob_one h)]
  rw [e1]
  have hm : 0 ≤ ((wk : Int) - 1) * critG ns ls cs ∧ ((wk : Int) - 1) * critG ns ls cs ≤ 492581209243648 := by
   refine ⟨Int.mul_nonneg (by omega) hcb.1, ?_⟩
   have := Int.mul_le_mul (show (wk : Int) - 1 ≤ 7 by omega) hcb.2 hcb.1 (by omega)
   omega
  have hs2 : sumL cs ≤ 70368744177664 := by
   have : (cs.length : Int) * 1099511627776 ≤ 64 * 1099511627776 := Int.mul_le_mul_of_nonneg_right (by omega) (by omega)
   omega
  exact Int.le_trans (Int.ediv_le_self _ (by omega)) (by omega)
 unfold OK4 In64
 omega
def Q4.put (s : Q4) (j : Nat) (v : Int) : Q4 :=
 match j with
 | 0 => ⟨v, s.b, s.c, s.d⟩
 | 1 => ⟨s.a, v, s.c, s.d⟩
 | 2 => ⟨s.a, s.b, v, s.d⟩
 | _ => ⟨s.a, s.b, s.c, v⟩
theorem qcells_set (l : List Q4) (k j : Nat) (s : Q4) (v : Int) (h : l[k]? = some s) (hj : j < 4) : (qcells l).set (k * 4 + j) (.int .i64 v) = qcells (l.set k (s.put j v)) := by
 induction l generalizing k with
 | nil => simp at h
 | cons x l ih =>
  cases k with
  | zero =>
   simp only [List.getElem?_cons_zero, Option.some.injEq] at h
   subst h
   match j, hj with
   | 0, _ => rfl
   | 1, _ => rfl
   | 2, _ => rfl
   | 3, _ => rfl
  | succ k =>
   have h2 := ih k (by simpa using h)
   rw [List.set_cons_succ]
   show (x.ls ++ qcells l).set ((k + 1) * 4 + j) _ = x.ls ++ qcells (l.set k (s.put j v))
   rw [← h2, show (k + 1) * 4 + j = x.ls.length + (k * 4 + j) by simp [Q4.ls]; omega, List.set_append_right _ _ (by omega)]
   simp
theorem OwnS.put {w : World} {base g n c k j : Nat} {l : List Q4} {s : Q4} (h : OwnS w base (.slice (some ⟨g, 0, none⟩) n c) l) (hn : n = l.length) (hs : l[k]? = some s) (hj : j < 4) (v : Int) :
 OwnS (w.setCell ⟨g, k * 4 + j, none⟩ (.int .i64 v)) base (.slice (some ⟨g, 0, none⟩) n c) (l.set k (s.put j v)) := by
 subst hn
 obtain ⟨h1, _⟩ := World.ownsRow.stored h (k * 4 + j) (.int .i64 v)
 unfold OwnS
 rw [List.length_set, ← qcells_set l k j s v hs hj]
 exact h1
theorem OwnS.form {w : World} {base : Nat} {v : Value} {l : List Q4} (h : OwnS w base v l) (h0 : 0 < l.length) : ∃ g c, v = .slice (some ⟨g, 0, none⟩) l.length c ∧ base ≤ g ∧ l.length ≤ c := by
 rcases h.2 with ⟨_, hn⟩ | ⟨g, c, cur, rfl, hb, _, hnc, _⟩
 ·omega
 ·exact ⟨g, c, rfl, hb, hnc⟩
theorem OwnS.cells {w : World} {base g n c k : Nat} {l : List Q4} {s : Q4} (h : OwnS w base (.slice (some ⟨g, 0, none⟩) n c) l) (hn : n = l.length) (hs : l[k]? = some s) :
 w.cell? ⟨g, k * 4, none⟩ = some (.int .i64 s.a) ∧ w.cell? ⟨g, k * 4 + 1, none⟩ = some (.int .i64 s.b) ∧ w.cell? ⟨g, k * 4 + 2, none⟩ = some (.int .i64 s.c) ∧ w.cell? ⟨g, k * 4 + 3, none⟩ = some (.int .i64 s.d) := by
 subst hn
 have hk : k < l.length := (List.getElem?_eq_some_iff.1 hs).1
 have hc : ∀ j, j < 4 → w.cell? ⟨g, k * 4 + j, none⟩ = s.ls[j]? := fun j hj => by
  rw [World.ownsRow.cellAt h (k * 4 + j) (by omega), qcells_at l k s hs j hj]
 exact ⟨hc 0 (by omega), hc 1 (by omega), hc 2 (by omega), hc 3 (by omega)⟩
theorem OwnS.frozen {w : World} {base g n c : Nat} {l : List Q4} (h : OwnS w base (.slice (some ⟨g, 0, none⟩) n c) l) (j : Nat) : w.frozen? ⟨g, j, none⟩ = false := by
 unfold OwnS at h
 have hn : n = l.length := by
  rcases h.2 with ⟨e, _⟩ | ⟨_, _, _, e, _⟩
  ·injection e with e1
   cases e1
  ·injection e
 subst hn
 exact World.ownsRow.frozenAt h j
theorem wpList_append_slot {ops : Array Oper} {rest : List Oper} {o : Oper} {a : Act} {w : World} {Q : Exit → Act → World → Prop} (hgd : o.guard = none) (s x : Operand) (ho : o.op = .call { callee := .builtin .append, args := #[s, x], argTypes := #[33, 33] })
 {base : Nat} {v : Value} {l m : List Q4} {A : Option Addr} {c n : Nat} (hn : n = m.length) (hs : a.eval s = v) (hown : OwnS w base v l) (hx : a.eval x = .slice A n c) (hr : Qs w A m) (hlen : l.length + m.length ≤ 1000000) (hbase : base ≤ w.heap.size)
 (h : ∀ v' w', OwnS w' base v' (l ++ m) → w.grownBy w' v.ownBlock → wpList Try.prog ops Q rest (a.put o.dst v') w') : wpList Try.prog ops Q (o :: rest) a w := by
 obtain ⟨i0, hi0, hi1, hi2, hi3, hi4⟩ := qinfo_s
 subst hn
 refine wpList_append_any w hgd s x 33 ho base 53 i0 _ 4 32 Try.underlying33 hi0 hi3 hi1 hi2 hi4 (by omega) v l.length (qcells l) hs hown w.heap.size A m.length c (qcells m) hx hr (qcells_one m) (by simp only [maxLen]; omega) (by omega) hbase fun v' w' h1 h2 _ => h v' w' ?_ h2
 unfold OwnS
 rw [qcells_append, List.length_append]
 exact h1
theorem ownS_empty (w : World) (base : Nat) (hb : base ≤ w.heap.size) : OwnS (w.alloc (Obj.cells #[] 53)) base (.slice (some ⟨w.heap.size, 0, none⟩) 0 0) [] :=
 ⟨rfl, .inr ⟨w.heap.size, 0, #[], rfl, hb, heap_alloc_new w _, Nat.le_refl _, by simp [maxLen], rfl, rfl⟩⟩
theorem in_wrap (n : Int) : In64 (wrap64 n) := by
 unfold In64 wrap64
 omega
theorem in_wrapk (n : Int) : In64 (IntKind.i64.wrap n) := by
 rw [IntWalk.i64_left]
 exact in_wrap n
theorem ok4_put {s : Q4} (h : OK4 s) (j : Nat) {v : Int} (hv : In64 v) : OK4 (s.put j v) := by
 obtain ⟨h1, h2, h3, h4⟩ := h
 unfold Q4.put
 split <;> exact ⟨by assumption, by assumption, by assumption, by assumption⟩
theorem ok4_set {l : List Q4} {k : Nat} {s : Q4} (h : ∀ x ∈ l, OK4 x) (hs : OK4 s) : ∀ x ∈ l.set k s, OK4 x := by
 intro x hx
 rcases List.mem_or_eq_of_mem_set hx with h1 | rfl
 ·exact h x h1
 ·exact hs
theorem ok4_drop {l : List Q4} (h : ∀ x ∈ l, OK4 x) : ∀ x ∈ l.drop 1, OK4 x := fun x hx => h x (List.mem_of_mem_drop hx)
theorem get_set {l : List Q4} {k : Nat} {s t : Q4} (hs : l[k]? = some s) : (l.set k t)[k]? = some t := by
 rw [List.getElem?_set_self (List.getElem?_eq_some_iff.1 hs).1]
end Go.Proofs.Ytobhdldlhhigdaa
