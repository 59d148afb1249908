/-
  Layer 9: the program's intersection. Plain contract.
-/
import Derived.Test.YtejdaodchaeglaaSpV
namespace Go.Proofs.Ytejdaodchaeglaa
open Go.RowKit
set_option maxRecDepth 100000 in
set_option maxHeartbeats 16000000 in
theorem inter_any (A : Option Addr) (c : Nat) (l : List Sp) (B : Option Addr) (cb : Nat) (m : List Sp) (w : World) (h : Sps w A l) (hl : l.length ≤ 9223372036854775807) (hm : Sps w B m) (hml : m.length ≤ 9223372036854775807) :
    Calls Try.prog 21 #[.agg #[.slice A l.length c], .agg #[.slice B m.length cb]] w fun e w' => (∃ v, e = .returned v ∧ SetV w' ((interF (spansF l) (spansF m)).take 64) v) ∧ Grows w w' := by
  have k2 := ((Blk.new w 24 #[.slice A l.length c]).alloc (Obj.cells #[.slice B m.length cb] 24)).alloc (Obj.cells #[.slice none 0 0] 24)
  have k3 := (blk_new_at (X := w.alloc (Obj.cells #[.slice A l.length c] 24)) (n := w.heap.size + 1) (t := 24) (cs := #[.slice B m.length cb]) (by simp)).alloc (Obj.cells #[.slice none 0 0] 24)
  have k4 := blk_new_at (X := (w.alloc (Obj.cells #[.slice A l.length c] 24)).alloc (Obj.cells #[.slice B m.length cb] 24)) (n := w.heap.size + 2) (t := 24) (cs := #[.slice none 0 0]) (by simp)
  have hB := (((Below.refl w.heap.size w).alloc (Nat.le_refl _) (Obj.cells #[.slice A l.length c] 24)).alloc (by simp) (Obj.cells #[.slice B m.length cb] 24)).alloc (by simp; omega) (Obj.cells #[.slice none 0 0] 24)
  go_enter Try.func21, Try.ntmps21
  go_upto_region 1 with fail
  generalize World.alloc (World.alloc (World.alloc w _) _) _ = w1 at *
  obtain ⟨S, HI, HO⟩ : ∃ S : Ran → (Nat → Value) → World → Prop, Hid (∀ L vs w', (Grows w1 w' ∧ KnS [some (.agg #[.slice A l.length c]), some (SpV A c l), some (.agg #[.slice B m.length cb]), some (SpV B cb m), some (SpV A c l), some (SpV B cb m)] L vs) → S L vs w') ∧ Hid (∀ L vs w', S L vs w' → (Grows w1 w' ∧ KnS [some (.agg #[.slice A l.length c]), some (SpV A c l), some (.agg #[.slice B m.length cb]), some (SpV B cb m), some (SpV A c l), some (SpV B cb m)] L vs)) := ⟨fun L vs w' => Grows w1 w' ∧ KnS [some (.agg #[.slice A l.length c]), some (SpV A c l), some (.agg #[.slice B m.length cb]), some (SpV B cb m), some (SpV A c l), some (SpV B cb m)] L vs, fun _ _ _ h => h, fun _ _ _ h => h⟩
  refine wp_region_genW S 79 (by kernel_rfl) (by kernel_rfl) rfl ?_ ?_
  · exact HI.out _ _ _ ⟨Grows.drew' _, kn_none _ _⟩
  refine gen_cons (A' := ?_) (fun vs L w1 hL hw1 => ?_) ?_ ?_
  rotate_left 1
  · obtain ⟨q0, q1⟩ := HO.out _ _ _ hw1
    refine gen_plain rfl ?_
    have x := (k2.grows q0).cell 0
    go_simp
    exact gr_val (HI.out _ _ _ ⟨q0, kn_known q1 rfl⟩)
  · intro vs
    simp only [Act.put, List.setIfInBounds_toArray, List.set_cons_succ, List.set_cons_zero]
    rfl
  refine gen_cons (A' := ?_) (fun vs L w1 hL hw1 => ?_) ?_ ?_
  rotate_left 1
  · obtain ⟨q0, q1⟩ := HO.out _ _ _ hw1
    refine gen_plain rfl ?_
    have l0 : L 0 = true := hL.need 0 (by kernel_rfl)
    have e0 := q1 0 _ rfl l0
    simp only [e0]
    go_simp
    refine gr_call ?_
    refine (spans_val A c l _ (h.grows (below_grows hB (Nat.le_refl _) q0)) hl).mono ?_
    rintro e w2 ⟨rfl, hg⟩
    exact ⟨_, rfl, HI.out _ _ _ ⟨below_grows q0 (Nat.le_refl _) hg, kn_known q1 rfl⟩⟩
  · intro vs
    simp only [Act.put, List.setIfInBounds_toArray, List.set_cons_succ, List.set_cons_zero]
    rfl
  refine gen_cons (A' := ?_) (fun vs L w1 hL hw1 => ?_) ?_ ?_
  rotate_left 1
  · obtain ⟨q0, q1⟩ := HO.out _ _ _ hw1
    refine gen_plain rfl ?_
    have x := (k3.grows q0).cell 0
    go_simp
    exact gr_val (HI.out _ _ _ ⟨q0, kn_known q1 rfl⟩)
  · intro vs
    simp only [Act.put, List.setIfInBounds_toArray, List.set_cons_succ, List.set_cons_zero]
    rfl
  refine gen_cons (A' := ?_) (fun vs L w1 hL hw1 => ?_) ?_ ?_
  rotate_left 1
  · obtain ⟨q0, q1⟩ := HO.out _ _ _ hw1
    refine gen_plain rfl ?_
    have l2 : L 2 = true := hL.need 2 (by kernel_rfl)
    have e2 := q1 2 _ rfl l2
    simp only [e2]
    go_simp
    refine gr_call ?_
    refine (spans_val B cb m _ (hm.grows (below_grows hB (Nat.le_refl _) q0)) hml).mono ?_
    rintro e w2 ⟨rfl, hg⟩
    exact ⟨_, rfl, HI.out _ _ _ ⟨below_grows q0 (Nat.le_refl _) hg, kn_known q1 rfl⟩⟩
  · intro vs
    simp only [Act.put, List.setIfInBounds_toArray, List.set_cons_succ, List.set_cons_zero]
    rfl
  refine gen_cons (A' := ?_) (fun vs L w1 hL hw1 => ?_) ?_ ?_
  rotate_left 1
  · obtain ⟨q0, q1⟩ := HO.out _ _ _ hw1
    refine gen_plain rfl ?_
    have l1 : L 1 = true := hL.need 1 (by kernel_rfl)
    have e1 := q1 1 _ rfl l1
    simp only [e1]
    go_simp
    exact gr_val (HI.out _ _ _ ⟨q0, kn_known q1 rfl⟩)
  · intro vs
    simp only [Act.put, List.setIfInBounds_toArray, List.set_cons_succ, List.set_cons_zero]
    rfl
  refine gen_cons (A' := ?_) (fun vs L w1 hL hw1 => ?_) ?_ ?_
  rotate_left 1
  · obtain ⟨q0, q1⟩ := HO.out _ _ _ hw1
    refine gen_plain rfl ?_
    have l3 : L 3 = true := hL.need 3 (by kernel_rfl)
    have e3 := q1 3 _ rfl l3
    simp only [e3]
    go_simp
    exact gr_val (HI.out _ _ _ ⟨q0, kn_known q1 rfl⟩)
  · intro vs
    simp only [Act.put, List.setIfInBounds_toArray, List.set_cons_succ, List.set_cons_zero]
    rfl
  refine gen_nil ?_
  intro vs L W6 hall hS
  obtain ⟨hq, q1⟩ := HO.out _ _ _ hS
  have eL := q1 5 _ rfl (hall 5 (by simp))
  have eX4 := q1 4 _ rfl (hall 4 (by simp))
  clear hall hS HI HO q1
  simp only [eL, eX4]
  replace hB := below_grows hB (Nat.le_refl _) hq
  replace k4 := k4.grows hq
  clear hq
  obtain ⟨A2, c2, ev2, hat⟩ := spV_is A c l
  obtain ⟨A3, c3, ev3, hbt⟩ := spV_is B cb m
  rw [ev2, ev3]
  have h2 := hat w h
  have h3 := hbt w hm
  have hca := spansF_canon l
  have hcb := spansF_canon m
  have hla := spansF_len l
  have hlb := spansF_len m
  generalize hA : spansF l = a at *
  generalize hM : spansF m = b at *
  have HA := Lib.hid hA
  have HM := Lib.hid hM
  clear hA hM hat hbt ev2 ev3 eL eX4 h hm k2 k3
  generalize vs 0 = y0 at *
  generalize vs (0 + 1) = y1 at *
  generalize vs (0 + 1 + 1) = y2 at *
  generalize vs (0 + 1 + 1 + 1) = y3 at *
  clear vs
  have hz2 : w.heap.size + 2 < W6.heap.size := k4.lt
  go_upto_region 4 with fail
  go_loopw [7, 8, 9] (fun v x y wr => ∃ (i k : Nat) (p : List Sp), i ≤ a.length ∧ k ≤ b.length ∧ p.length ≤ 64 ∧ x = .int .i64 i ∧ y = .int .i64 k ∧ Own wr (w.heap.size + 3) v p ∧ p ++ interF (a.drop i) (b.drop k) = interF a b ∧ Below w.heap.size w wr ∧ Blk wr (w.heap.size + 2) 24 #[.slice none 0 0]) (fun _ x y _ => (a.length - (intOf x).toNat) + (b.length - (intOf y).toNat))
  case atStart => exact ⟨0, 0, [], by omega, by omega, by simp, rfl, rfl, own_nil _ _, by simp, hB, k4⟩
  case round =>
    clear hB k4
    obtain ⟨i, k, p, hi, hk, hp, rfl, rfl, hown, hpe, hB, k4⟩ := hrel
    have HPE := Lib.hid hpe
    clear hpe
    obtain ⟨A5, c5, rfl, hc5, hr5, hge5⟩ := hown.read
    by_cases hia : i < a.length
    rotate_left
    · as_aux_lemma =>
      have hfin : (interF a b).take 64 = p := by rw [← HPE.out, List.drop_of_length_le (by omega), show interF [] (b.drop k) = [] from rfl, List.append_nil, List.take_of_length_le hp]
      have HFN := Lib.hid hfin
      clear hfin HPE
      have x4 := k4.cell 0
      have f4 := k4.frozen 0
      go_wp2
      have k5 := k4.set_ 0 (.slice A5 p.length c5)
      have hB4 := hB.setCell (p := ⟨w.heap.size + 2, 0, none⟩) (by simp) (.slice A5 p.length c5)
      have hr6 := hr5.setOther k4 (.slice A5 p.length c5)
      generalize World.setCell _ _ _ = w5 at *
      have x5 : w5.cell? ⟨w.heap.size + 2, 0, none⟩ = some (.slice A5 p.length c5) := by rw [k5.cell]; rfl
      clear x4 f4 k4 k5
      exact bodyPost_ret (v := .agg #[.slice A5 p.length c5]) (by simp [results, Try.results21, go_sem, x5]) rfl ⟨⟨_, rfl, A5, c5, by rw [HA.out, HM.out, HFN.out], by rw [HA.out, HM.out, HFN.out]; exact hc5, by rw [HA.out, HM.out, HFN.out]; exact hr6⟩, hB4⟩
    by_cases hkb : k < b.length
    rotate_left
    · as_aux_lemma =>
      have hfin : (interF a b).take 64 = p := by rw [← HPE.out, List.drop_of_length_le (l := b) (by omega), inter_nil_right, List.append_nil, List.take_of_length_le hp]
      have HFN := Lib.hid hfin
      clear hfin HPE
      have x4 := k4.cell 0
      have f4 := k4.frozen 0
      go_wp2
      have k5 := k4.set_ 0 (.slice A5 p.length c5)
      have hB4 := hB.setCell (p := ⟨w.heap.size + 2, 0, none⟩) (by simp) (.slice A5 p.length c5)
      have hr6 := hr5.setOther k4 (.slice A5 p.length c5)
      generalize World.setCell _ _ _ = w5 at *
      have x5 : w5.cell? ⟨w.heap.size + 2, 0, none⟩ = some (.slice A5 p.length c5) := by rw [k5.cell]; rfl
      clear x4 f4 k4 k5
      exact bodyPost_ret (v := .agg #[.slice A5 p.length c5]) (by simp [results, Try.results21, go_sem, x5]) rfl ⟨⟨_, rfl, A5, c5, by rw [HA.out, HM.out, HFN.out], by rw [HA.out, HM.out, HFN.out]; exact hc5, by rw [HA.out, HM.out, HFN.out]; exact hr6⟩, hB4⟩
    by_cases hp64 : p.length < 64
    rotate_left
    · as_aux_lemma =>
      have hfin : (interF a b).take 64 = p := by rw [← HPE.out, List.take_left' (by omega)]
      have HFN := Lib.hid hfin
      clear hfin HPE
      have x4 := k4.cell 0
      have f4 := k4.frozen 0
      go_wp2
      have k5 := k4.set_ 0 (.slice A5 p.length c5)
      have hB4 := hB.setCell (p := ⟨w.heap.size + 2, 0, none⟩) (by simp) (.slice A5 p.length c5)
      have hr6 := hr5.setOther k4 (.slice A5 p.length c5)
      generalize World.setCell _ _ _ = w5 at *
      have x5 : w5.cell? ⟨w.heap.size + 2, 0, none⟩ = some (.slice A5 p.length c5) := by rw [k5.cell]; rfl
      clear x4 f4 k4 k5
      exact bodyPost_ret (v := .agg #[.slice A5 p.length c5]) (by simp [results, Try.results21, go_sem, x5]) rfl ⟨⟨_, rfl, A5, c5, by rw [HA.out, HM.out, HFN.out], by rw [HA.out, HM.out, HFN.out]; exact hc5, by rw [HA.out, HM.out, HFN.out]; exact hr6⟩, hB4⟩
    obtain ⟨ad, x, rfl, had, hx, c0, c1⟩ := h2.elem hia
    obtain ⟨ad2, y, rfl, had2, hy, d0, d1⟩ := h3.elem hkb
    have HDA : a.drop i = x :: a.drop (i + 1) := by
      obtain ⟨hj2, hyy⟩ := List.getElem?_eq_some_iff.1 hx
      rw [← hyy]
      exact List.drop_eq_getElem_cons hj2
    have HDB : b.drop k = y :: b.drop (k + 1) := by
      obtain ⟨hj2, hyy⟩ := List.getElem?_eq_some_iff.1 hy
      rw [← hyy]
      exact List.drop_eq_getElem_cons hj2
    have HIS : Hid (p ++ (cutS x y ++ if x.2 < y.2 then interF (a.drop (i + 1)) (b.drop k) else interF (a.drop i) (b.drop (k + 1))) = interF a b) := Lib.hid (by
      rw [← HPE.out, HDA, HDB, inter_step (by rw [← HDA]; exact canon_drop hca i) (by rw [← HDB]; exact canon_drop hcb k)])
    clear hx hy HDA HDB HPE
    have hcx0 : ∀ w', Below w.heap.size w w' → w'.cell? (ad.add (i * 2)) = some (.int .i64 x.1) := fun w' hb => (hb.cell (p := ad.add (i * 2)) (by rw [block_of_add]; exact had)).trans c0
    have hcx1 : ∀ w', Below w.heap.size w w' → w'.cell? ⟨(ad.add (i * 2)).block, (ad.add (i * 2)).off + 1, none⟩ = some (.int .i64 x.2) := fun w' hb => (hb.cell (p := ⟨(ad.add (i * 2)).block, (ad.add (i * 2)).off + 1, none⟩) (by simp only [block_of_add]; exact had)).trans c1
    have hcy0 : ∀ w', Below w.heap.size w w' → w'.cell? (ad2.add (k * 2)) = some (.int .i64 y.1) := fun w' hb => (hb.cell (p := ad2.add (k * 2)) (by rw [block_of_add]; exact had2)).trans d0
    have hcy1 : ∀ w', Below w.heap.size w w' → w'.cell? ⟨(ad2.add (k * 2)).block, (ad2.add (k * 2)).off + 1, none⟩ = some (.int .i64 y.2) := fun w' hb => (hb.cell (p := ⟨(ad2.add (k * 2)).block, (ad2.add (k * 2)).off + 1, none⟩) (by simp only [block_of_add]; exact had2)).trans d1
    clear c0 c1 d0 d1
    have c0 := hcx0 _ hB
    have c1 := hcx1 _ hB
    have d0 := hcy0 _ hB
    have d1 := hcy1 _ hB
    have hb1 : (ad.add (i * 2)).block < wr.heap.size := by rw [block_of_add]; have := hB.size; omega
    have hb2 : (ad2.add (k * 2)).block < wr.heap.size := by rw [block_of_add]; have := hB.size; omega
    go_upto_region 5 with fail
    go_region
    clear c0 c1 d0 d1 hb1 hb2 hcx0 hcy0
    have HC : Hid (cutS x y = if max x.1 y.1 ≤ min x.2 y.2 then [(max x.1 y.1, min x.2 y.2)] else []) := Lib.hid rfl
    generalize max x.1 y.1 = lo at *
    generalize min x.2 y.2 = hi' at *
    have k10 := (Blk.new wr 40 #[.int .i64 lo, .int .i64 hi']).drew
    have hq := below_grows ((Below.refl wr.heap.size wr).alloc (Nat.le_refl _) (Obj.cells #[.int .i64 lo, .int .i64 hi'] 40)) (Nat.le_refl _) (Grows.drew' _)
    replace hB := below_grows hB (Nat.le_refl _) hq
    replace hown := hown.grows hq
    replace k4 := k4.grows hq
    clear hq
    generalize World.drew _ = w7 at *
    generalize wr.heap.size = G10 at *
    have e0 := k10.cell 0
    have e1 := k10.cell 1
    clear hr5 hge5
    by_cases hlh : lo ≤ hi'
    · as_aux_lemma =>
      have HS : Hid ((p ++ [(lo, hi')]) ++ (if x.2 < y.2 then interF (a.drop (i + 1)) (b.drop k) else interF (a.drop i) (b.drop (k + 1))) = interF a b) := Lib.hid (by rw [← HIS.out, HC.out, if_pos hlh, List.append_assoc])
      clear HIS HC
      go_upto_region 7 with fail
      refine wp_region_lit ?_
      iterate 3
        refine wpList_plain rfl (fun K hK => ?_)
        go_simp
        refine hK _ _ ?_
        clear hK K
      have hq := (Below.refl w7.heap.size w7).alloc (Nat.le_refl _) (Obj.cells #[.int .i64 lo, .int .i64 hi'] 40)
      replace hB := below_grows hB (Nat.le_refl _) hq
      replace hown := hown.grows hq
      replace k4 := k4.grows hq
      have hz5 := k4.lt
      refine wpList_append_sp rfl (.tmp 58) (.tmp 60) rfl (m := [(lo, hi')]) rfl rfl hown rfl (sps_lit w7 (lo, hi')) (by simp; omega) (by omega) ?_
      intro v3 w8 hown3 hgr3
      have hB5 := (hown.mono (show w.heap.size ≤ w.heap.size + 3 by omega)).below hB hgr3 hB.size
      have k45 := k4.grown hgr3 (fun e => by have := (hown.lt _ e.symm).1; omega)
      have hp1 : (p ++ [(lo, hi')]).length ≤ 64 := by simp; omega
      clear hown hq hB hgr3 k4 hz5 e0 e1 k10 hp64 hp hlh hc5
      generalize p ++ [(lo, hi')] = p1 at *
      have c1 := hcx1 _ hB5
      have d1 := hcy1 _ hB5
      go_upto_region 8 with fail
      by_cases hxy : x.2 < y.2
      · go_region
        have hq := Grows.drew' w8
        have hB9 := below_grows hB5 (Nat.le_refl _) hq
        have k49 := k45.grows hq
        have hown9 := hown3.grows hq
        have HS9 : Hid (p1 ++ interF (a.drop (i + 1)) (b.drop k) = interF a b) := Lib.hid (by have := HS.out; rwa [if_pos hxy] at this)
        clear HS hq c1 d1
        generalize World.drew _ = w9 at *
        go_wp2
        go_roundw
        case rel => exact ⟨i + 1, k, p1, by omega, by omega, hp1, by go_num, rfl, hown9, HS9.out, hB9, k49⟩
        case measure => exact meas_i a.length b.length i k hia
      · go_region
        have hq := Grows.drew' w8
        have hB9 := below_grows hB5 (Nat.le_refl _) hq
        have k49 := k45.grows hq
        have hown9 := hown3.grows hq
        have HS9 : Hid (p1 ++ interF (a.drop i) (b.drop (k + 1)) = interF a b) := Lib.hid (by have := HS.out; rwa [if_neg hxy] at this)
        clear HS hq c1 d1
        generalize World.drew _ = w9 at *
        go_wp2
        go_roundw
        case rel => exact ⟨i, k + 1, p1, by omega, by omega, hp1, rfl, by go_num, hown9, HS9.out, hB9, k49⟩
        case measure => exact meas_k a.length b.length i k hkb
    · as_aux_lemma =>
      have HS : Hid (p ++ (if x.2 < y.2 then interF (a.drop (i + 1)) (b.drop k) else interF (a.drop i) (b.drop (k + 1))) = interF a b) := Lib.hid (by rw [← HIS.out, HC.out, if_neg hlh, List.nil_append])
      clear HIS HC k10
      go_upto_region 8 with fail
      clear e0 e1 hlh
      have c1 := hcx1 _ hB
      have d1 := hcy1 _ hB
      by_cases hxy : x.2 < y.2
      · go_region
        have hq := Grows.drew' w7
        have hB9 := below_grows hB (Nat.le_refl _) hq
        have k49 := k4.grows hq
        have hown9 := hown.grows hq
        have HS9 : Hid (p ++ interF (a.drop (i + 1)) (b.drop k) = interF a b) := Lib.hid (by have := HS.out; rwa [if_pos hxy] at this)
        clear HS hq c1 d1
        generalize World.drew _ = w9 at *
        go_wp2
        go_roundw
        case rel => exact ⟨i + 1, k, p, by omega, by omega, hp, by go_num, rfl, hown9, HS9.out, hB9, k49⟩
        case measure => exact meas_i a.length b.length i k hia
      · go_region
        have hq := Grows.drew' w7
        have hB9 := below_grows hB (Nat.le_refl _) hq
        have k49 := k4.grows hq
        have hown9 := hown.grows hq
        have HS9 : Hid (p ++ interF (a.drop i) (b.drop (k + 1)) = interF a b) := Lib.hid (by have := HS.out; rwa [if_neg hxy] at this)
        clear HS hq c1 d1
        generalize World.drew _ = w9 at *
        go_wp2
        go_roundw
        case rel => exact ⟨i, k + 1, p, by omega, by omega, hp, rfl, by go_num, hown9, HS9.out, hB9, k49⟩
        case measure => exact meas_k a.length b.length i k hkb
end Go.Proofs.Ytejdaodchaeglaa
