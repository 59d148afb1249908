/-
  Layer 9: fine, the comparison of spans, merge. Plain contracts.
-/
import Derived.Test.YtejdaodchaeglaaSpA
import Derived.Test.YtejdaodchaeglaaFrame
import Derived.Lib.Hide
import Derived.Deep.QuietTactic
namespace Go.Proofs.Ytejdaodchaeglaa
open Go.RowKit
theorem fine_any (x : Sp) (w : World) : Calls Try.prog 27 #[.agg #[.int .i64 x.1, .int .i64 x.2]] w fun e w' => e = .returned (.bool (fineS x)) ∧ Grows w w' := by
  have hB := (Below.refl w.heap.size w).alloc (Nat.le_refl _) (Obj.cells #[.int .i64 x.1, .int .i64 x.2] 40)
  by_cases h1 : 0 ≤ x.1
  · by_cases h2 : x.1 ≤ x.2
    · by_cases h3 : x.2 ≤ 2147483647
      · have e : fineS x = true := (fineS_iff x).2 ⟨h1, h2, h3⟩
        have HE := Lib.hid e
        clear e
        go_enter Try.func27, Try.ntmps27
        go_wp2
        go_ret
        exact ⟨ret_bool HE.out.symm, hB⟩
      · have e : fineS x = false := by simp [fineS, h3]
        have HE := Lib.hid e
        clear e
        go_enter Try.func27, Try.ntmps27
        go_wp2
        go_ret
        exact ⟨ret_bool HE.out.symm, hB⟩
    · have e : fineS x = false := by simp [fineS, h2]
      have HE := Lib.hid e
      clear e
      go_enter Try.func27, Try.ntmps27
      go_wp2
      go_ret
      exact ⟨ret_bool HE.out.symm, hB⟩
  · have e : fineS x = false := by simp [fineS, h1]
    have HE := Lib.hid e
    clear e
    go_enter Try.func27, Try.ntmps27
    go_wp2
    go_ret
    exact ⟨ret_bool HE.out.symm, hB⟩
set_option maxHeartbeats 8000000 in
theorem merge_any (A : Option Addr) (c : Nat) (l : List Sp) (w : World) (h : Sps w A l) (hl : l.length ≤ 100000) (hf : ∀ x ∈ l, fineS x = true) :
    Calls Try.prog 31 #[.slice A l.length c] w fun e w' => (∃ v, e = .returned v ∧ Own w' w.heap.size v (mergeL l)) ∧ Grows w w' := by
  go_enter Try.func31, Try.ntmps31
  go_wp2_with fail
  go_loopw [3, 9] (fun v i wr => ∃ k : Nat, k ≤ l.length ∧ i = .int .i64 k ∧ Own wr w.heap.size v (mergeL (l.take k)) ∧ Grows w wr) (fun _ i _ => l.length - (intOf i).toNat)
  case atStart => exact ⟨0, by omega, rfl, own_nil _ _, Below.refl _ _⟩
  case round =>
    obtain ⟨k, hk, rfl, hown, hB⟩ := hrel
    by_cases hlt : k < l.length
    · obtain ⟨ad, x, rfl, had, hx, c0, c1⟩ := (h.grows hB).elem hlt
      have HX : Hid (mergeL (l.take (k + 1)) = mergeS (mergeL (l.take k)) x) := Lib.hid (by rw [take_snoc hx, mergeL_snoc])
      have hxf := (fineS_iff x).1 (hf x (List.mem_of_getElem? hx))
      have hof := mergeL_fine (l.take k) fun z hz => hf z (List.mem_of_mem_take hz)
      have hlen : (mergeL (l.take k)).length ≤ 100000 := Nat.le_trans (mergeL_len _) (by rw [List.length_take]; omega)
      generalize mergeL (l.take k) = out at *
      clear hx
      have hz := hB.size
      obtain ⟨A2, c2, rfl, hcap, hr, hge⟩ := hown.read
      have k5 := Blk.new wr 40 #[.int .i64 x.1, .int .i64 x.2]
      have hq := (Below.refl wr.heap.size wr).alloc (Nat.le_refl _) (Obj.cells #[.int .i64 x.1, .int .i64 x.2] 40)
      by_cases h0 : out.length = 0
      · obtain rfl : out = [] := List.length_eq_zero_iff.1 h0
        go_upto_region 6 with fail
        go_region
        have hq6 := below_grows hq (Nat.le_refl _) (Grows.drew' _)
        replace k5 := k5.drew
        have hown6 := hown.grows hq6
        have hB6 := below_grows hB (Nat.le_refl _) hq6
        have hz6 := hB6.size
        generalize World.drew _ = w6 at *
        clear hq hq6
        have e0 := k5.cell 0
        have e1 := k5.cell 1
        go_upto_region 8 with fail
        refine wp_region_lit ?_
        iterate 3
          refine wpList_plain rfl (fun K hK => ?_)
          go_simp
          refine hK _ _ ?_
          clear hK K
        have hq8 := (Below.refl w6.heap.size w6).alloc (Nat.le_refl _) (Obj.cells #[.int .i64 x.1, .int .i64 x.2] 40)
        have hown8 := hown6.grows hq8
        have hB8 := below_grows hB6 (Nat.le_refl _) hq8
        refine wpList_append_sp rfl (.tmp 43) (.tmp 45) rfl (m := [x]) rfl rfl hown8 rfl (sps_lit w6 x) (by simp <;> omega) hB8.size ?_
        intro v3 w3 hown3 hgr3
        have hB3 := hown8.below hB8 hgr3 hB8.size
        clear hown hown6 hown8 hgr3 hq8 hB6 hB8 e0 e1 k5
        have e : mergeL (l.take (k + 1)) = [] ++ [x] := HX.out
        rw [← e] at hown3
        go_wp2
        go_roundw
        case rel => exact ⟨k + 1, by omega, by go_num, hown3, hB3⟩
        case measure => simp [intOf]; omega
      · obtain ⟨q, y, rfl⟩ : ∃ q y, out = q ++ [y] := by
          cases hl : out.getLast? with
          | none => exact absurd (by rw [List.getLast?_eq_none_iff.1 hl]; rfl) h0
          | some y => exact ⟨out.dropLast, y, last_split hl⟩
        obtain ⟨ad2, y', rfl, had2, hy', d0, d1⟩ := hr.elem (k := q.length) (by simp)
        obtain rfl : y' = y := by simpa using hy'.symm
        have hyf := (fineS_iff y').1 (hof y' (by simp))
        have HM : Hid (mergeS (q ++ [y']) x = if x.1 ≤ y'.2 + 1 then q ++ [(y'.1, max y'.2 x.2)] else (q ++ [y']) ++ [x]) := Lib.hid (by unfold mergeS; rw [List.getLast?_concat]; simp only [List.dropLast_concat])
        clear hof hy' h0
        obtain ⟨g, rfl, hg1, hg2⟩ := hown.addr (by simp)
        have hn1 : (q ++ [y']).length = q.length + 1 := by simp
        rw [hn1] at hown hlen hcap ⊢
        have hpa : (⟨g, 0, none⟩ : Addr).add (q.length * 2) = ⟨g, q.length * 2, none⟩ := by
          unfold Addr.add
          split
          · simp_all
          · simp
        rw [hpa] at d0 d1
        simp only [] at d0 d1
        have hfz := (show Own wr w.heap.size (.slice (some ⟨g, 0, none⟩) (q ++ [y']).length c2) (q ++ [y']) by rw [hn1]; exact hown).frozenAt (q.length * 2 + 1)
        have hidx : IntKind.i64.wrap (((q.length + 1 : Nat) : Int) - 1) = (q.length : Int) := by rw [IntWalk.i64_in _ (by omega)]; omega
        have hadd : IntKind.i64.wrap (y'.2 + 1) = y'.2 + 1 := IntWalk.i64_in _ (by omega)
        clear hr hge had2
        by_cases ht : x.1 ≤ y'.2 + 1
        · go_upto_region 6 with fail
          go_region
          go_upto_region 7 with fail
          go_region
          have hown2 : Own wr w.heap.size (.slice (some ⟨g, 0, none⟩) (q ++ [y']).length c2) (q ++ [y']) := by rw [hn1]; exact hown
          have hmax : (if y'.2 < x.2 then x.2 else y'.2) = max y'.2 x.2 := by split <;> omega
          have e : mergeL (l.take (k + 1)) = q ++ [(y'.1, if y'.2 < x.2 then x.2 else y'.2)] := by rw [HX.out, HM.out, if_pos ht, hmax]
          have HE := Lib.hid e
          clear hmax e HX HM
          generalize (if y'.2 < x.2 then x.2 else y'.2) = z at *
          have h3 := hown2.setHi z
          have hb3 := hB.setCell (p := ⟨g, q.length * 2 + 1, none⟩) hg1 (.int .i64 z)
          rw [hn1] at h3
          generalize World.setCell wr _ _ = w3 at *
          have hg3 : Grows w3 ((w3.alloc (Obj.cells #[.int .i64 x.1, .int .i64 x.2] 40)).drew.drew) := below_grows (below_grows ((Below.refl w3.heap.size w3).alloc (Nat.le_refl _) (Obj.cells #[.int .i64 x.1, .int .i64 x.2] 40)) (Nat.le_refl _) (Grows.drew' _)) (Nat.le_refl _) (Grows.drew' _)
          replace h3 := h3.grows hg3
          replace hb3 := below_grows hb3 (Nat.le_refl _) hg3
          rw [← HE.out] at h3
          clear hown hown2 k5 hq d0 d1 hfz hidx hadd hg3
          generalize World.drew _ = w4 at *
          go_wp2
          go_roundw
          case rel => exact ⟨k + 1, by omega, by go_num, h3, hb3⟩
          case measure => simp [intOf]; omega
        · go_upto_region 6 with fail
          go_region
          have hq6 := below_grows hq (Nat.le_refl _) (Grows.drew' _)
          replace k5 := k5.drew
          have hown6 := hown.grows hq6
          have hB6 := below_grows hB (Nat.le_refl _) hq6
          have hz6 := hB6.size
          generalize World.drew _ = w6 at *
          clear hq hq6
          have e0 := k5.cell 0
          have e1 := k5.cell 1
          clear d0 d1 hfz hidx hadd
          go_upto_region 8 with fail
          refine wp_region_lit ?_
          iterate 3
            refine wpList_plain rfl (fun K hK => ?_)
            go_simp
            refine hK _ _ ?_
            clear hK K
          have hq8 := (Below.refl w6.heap.size w6).alloc (Nat.le_refl _) (Obj.cells #[.int .i64 x.1, .int .i64 x.2] 40)
          have hown8 := hown6.grows hq8
          have hB8 := below_grows hB6 (Nat.le_refl _) hq8
          refine wpList_append_sp rfl (.tmp 43) (.tmp 45) rfl (m := [x]) rfl rfl hown8 rfl (sps_lit w6 x) (by simp <;> omega) hB8.size ?_
          intro v3 w3 hown3 hgr3
          have hB3 := hown8.below hB8 hgr3 hB8.size
          clear hown hown6 hown8 hgr3 hq8 hB6 hB8 e0 e1 k5
          have e : mergeL (l.take (k + 1)) = (q ++ [y']) ++ [x] := by rw [HX.out, HM.out, if_neg ht]
          rw [← e] at hown3
          clear HX HM e
          go_wp2
          go_roundw
          case rel => exact ⟨k + 1, by omega, by go_num, hown3, hB3⟩
          case measure => simp [intOf]; omega
    · have e : l.take k = l := List.take_of_length_le (by omega)
      rw [e] at hown
      go_wp2
      go_ret
      exact ⟨⟨_, rfl, hown⟩, hB⟩
end Go.Proofs.Ytejdaodchaeglaa
