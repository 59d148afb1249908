/-
  Layer 9: Valid and spans. Plain contracts.
-/
import Derived.Test.YtejdaodchaeglaaSpD
namespace Go.Proofs.Ytejdaodchaeglaa
open Go.RowKit
set_option maxHeartbeats 8000000 in
theorem valid_any (A : Option Addr) (c : Nat) (l : List Sp) (w : World) (h : Sps w A l) (hl : l.length ≤ 9223372036854775807) :
    Calls Try.prog 14 #[.agg #[.slice A l.length c]] w fun e w' => e = .returned (.bool (okS l)) ∧ Grows w w' := by
  have k2 := Blk.new w 24 #[.slice A l.length c]
  have hB := (Below.refl w.heap.size w).alloc (Nat.le_refl _) (Obj.cells #[.slice A l.length c] 24)
  go_enter Try.func14, Try.ntmps14
  go_upto_region 1 with fail
  generalize World.alloc w _ = w1 at *
  have x2 := k2.cell
  go_wp2_with fail
  clear x2
  go_loopw [8] (fun i wr => ∃ k : Nat, k ≤ l.length ∧ i = .int .i64 k ∧ Below w.heap.size w wr ∧ Blk wr w.heap.size 24 #[.slice A l.length c] ∧ (l.take k).all fineS = true ∧ chainS (l.take k) = true) (fun i _ => l.length - (intOf i).toNat)
  case atStart => exact ⟨0, by omega, rfl, hB, k2, rfl, rfl⟩
  case round =>
    clear hB k2
    obtain ⟨k, hk, rfl, hB, k2, hall, hch⟩ := hrel
    by_cases hlt : k < l.length
    · obtain ⟨ad, x, rfl, had, hx, c0, c1⟩ := (h.grows hB).elem hlt
      have HA := Lib.hid (all_snoc hx)
      have HT : Hid (l.take (k + 1) = l.take k ++ [x]) := take_snoc hx
      clear hx
      have k5 := Blk.new wr 40 #[.int .i64 x.1, .int .i64 x.2]
      have hq := (Below.refl wr.heap.size wr).alloc (Nat.le_refl _) (Obj.cells #[.int .i64 x.1, .int .i64 x.2] 40)
      have hB4 := below_grows hB (Nat.le_refl _) hq
      replace k2 := k2.grows hq
      go_upto_region 4 with fail
      have hsW := h.grows hB4
      clear hq c0 c1
      generalize World.alloc wr _ = W4 at *
      generalize wr.heap.size = G5 at *
      cases hfx : fineS x
      · have v1 : ∀ w1, Calls Try.prog 27 #[.agg #[.int .i64 x.1, .int .i64 x.2]] w1 fun e w' => e = .returned (.bool false) ∧ Grows w1 w' := fun w1 => by
          have := fine_any x w1
          rw [hfx] at this
          exact this
        refine wp_region_mix (fun w' => Grows W4 w') [] 20 38 (by kernel_rfl) (by kernel_rfl) rfl ?_ float_none ?_ ?_
        · exact fun w1 w2 h0 hg => below_grows h0 (Nat.le_refl _) hg
        · exact Grows.drew' _
        · skip
          simp only [List.take_succ_cons, List.take_zero, List.drop_succ_cons, List.drop_zero]
          iterate 20
            first
              | (refine calm_no rfl rfl (a' := ?_) ?_ ?_
                 rotate_left 1
                 · simp only [Act.put, List.setIfInBounds_toArray, List.set_cons_succ, List.set_cons_zero]
                   rfl)
              | (first | refine calm_plain rfl rfl (v := ?_) (a' := ?_) (fun w1 hw1 => ?_) ?_ ?_ | refine calm_yes rfl rfl (v := ?_) (a' := ?_) (fun w1 hw1 => ?_) ?_ ?_
                 rotate_left 2
                 · have h0 := hw1
                   have c5 := (k5.grows h0).cell
                   have c2 := (k2.grows h0).cell
                   go_simp
                   first | exact calm_val | (refine calm_call ?_; with_reducible exact v1 _)
                 · simp only [Act.put, List.setIfInBounds_toArray, List.set_cons_succ, List.set_cons_zero]
                   rfl)
          refine calm_done (end_none ?_)
          intro w7 hq
          have hB7 := below_grows hB4 (Nat.le_refl _) hq
          have HE := Lib.hid (okS_no (k + 1) (l := l) (by rw [HA.out, hfx]; simp))
          clear hq
          go_wp2
          go_ret
          exact ⟨ret_bool HE.out.symm, hB7⟩
      · have v1 : ∀ w1, Calls Try.prog 27 #[.agg #[.int .i64 x.1, .int .i64 x.2]] w1 fun e w' => e = .returned (.bool true) ∧ Grows w1 w' := fun w1 => by
          have := fine_any x w1
          rw [hfx] at this
          exact this
        by_cases h0 : k = 0
        · subst h0
          have hgood : (l.take (0 + 1)).all fineS = true ∧ chainS (l.take (0 + 1)) = true := ⟨by rw [HA.out, hall, hfx]; rfl, by rw [HT.out]; rfl⟩
          refine wp_region_mix (fun w' => Grows W4 w') [] 20 38 (by kernel_rfl) (by kernel_rfl) rfl ?_ float_none ?_ ?_
          · exact fun w1 w2 h0 hg => below_grows h0 (Nat.le_refl _) hg
          · exact Grows.drew' _
          · skip
            simp only [List.take_succ_cons, List.take_zero, List.drop_succ_cons, List.drop_zero]
            iterate 20
              first
                | (refine calm_no rfl rfl (a' := ?_) ?_ ?_
                   rotate_left 1
                   · simp only [Act.put, List.setIfInBounds_toArray, List.set_cons_succ, List.set_cons_zero]
                     rfl)
                | (first | refine calm_plain rfl rfl (v := ?_) (a' := ?_) (fun w1 hw1 => ?_) ?_ ?_ | refine calm_yes rfl rfl (v := ?_) (a' := ?_) (fun w1 hw1 => ?_) ?_ ?_
                   rotate_left 2
                   · have h0 := hw1
                     have c5 := (k5.grows h0).cell
                     have c2 := (k2.grows h0).cell
                     go_simp
                     first | exact calm_val | (refine calm_call ?_; with_reducible exact v1 _)
                   · simp only [Act.put, List.setIfInBounds_toArray, List.set_cons_succ, List.set_cons_zero]
                     rfl)
            refine calm_done (end_none ?_)
            intro w7 hq
            have hB7 := below_grows hB4 (Nat.le_refl _) hq
            have k27 := k2.grows hq
            have HG := Lib.hid hgood
            clear hq hgood
            go_wp2
            go_roundw
            case rel => exact ⟨0 + 1, by omega, by go_num, hB7, k27, HG.out.1, HG.out.2⟩
            case measure => simp [intOf]; omega
        · obtain ⟨m, rfl⟩ : ∃ m, k = m + 1 := ⟨k - 1, by omega⟩
          obtain ⟨ad', y, e, hlt2, hy, hd0, hd1⟩ := hsW.elem (k := m) (by omega)
          injection e with e
          subst e
          have hyf : fineS y = true := List.all_eq_true.1 hall y (by rw [take_snoc hy]; simp)
          rw [fineS_iff] at hyf
          have HC : Hid (chainS (l.take (m + 1 + 1)) = decide (y.2 + 1 < x.1)) := Lib.hid (by rw [HT.out, chainS_snoc, hch, take_snoc hy, List.getLast?_concat]; rfl)
          have hidx : IntKind.i64.wrap (m : Int) = (m : Int) := IntWalk.i64_in _ (by omega)
          have hml : (m : Int) < (l.length : Int) := by omega
          have hadd : IntKind.i64.wrap (y.2 + 1) = y.2 + 1 := IntWalk.i64_in _ (by omega)
          have hpos : decide ((0 : Int) < ((m + 1 : Nat) : Int)) = true := decide_eq_true (by omega)
          have hlt2 : (⟨(ad.add (m * 2)).block, (ad.add (m * 2)).off + 1, none⟩ : Addr).block < W4.heap.size := by rw [block_of_add]; exact hlt2
          clear hd0 hy
          by_cases hgap : x.1 ≤ y.2 + 1
          · skip
            refine wp_region_mix (fun w' => Grows W4 w') [] 20 38 (by kernel_rfl) (by kernel_rfl) rfl ?_ float_none ?_ ?_
            · exact fun w1 w2 h0 hg => below_grows h0 (Nat.le_refl _) hg
            · exact Grows.drew' _
            · skip
              simp only [List.take_succ_cons, List.take_zero, List.drop_succ_cons, List.drop_zero]
              iterate 20
                first
                  | (refine calm_no rfl rfl (a' := ?_) ?_ ?_
                     rotate_left 1
                     · simp only [Act.put, List.setIfInBounds_toArray, List.set_cons_succ, List.set_cons_zero]
                       rfl)
                  | (first | refine calm_plain rfl rfl (v := ?_) (a' := ?_) (fun w1 hw1 => ?_) ?_ ?_ | refine calm_yes rfl rfl (v := ?_) (a' := ?_) (fun w1 hw1 => ?_) ?_ ?_
                     rotate_left 2
                     · have h0 := hw1
                       have c5 := (k5.grows h0).cell
                       have c2 := (k2.grows h0).cell
                       have d1 := (h0.cell (p := _) hlt2).trans hd1
                       go_simp
                       first | exact calm_val | (refine calm_call ?_; with_reducible exact v1 _)
                     · simp only [Act.put, List.setIfInBounds_toArray, List.set_cons_succ, List.set_cons_zero]
                       rfl)
              refine calm_done (end_none ?_)
              intro w7 hq
              have hB7 := below_grows hB4 (Nat.le_refl _) hq
              have HE := Lib.hid (okS_no (m + 1 + 1) (l := l) (by rw [HC.out]; simp; omega))
              clear hq
              go_wp2
              go_ret
              exact ⟨ret_bool HE.out.symm, hB7⟩
          · have hgood : (l.take (m + 1 + 1)).all fineS = true ∧ chainS (l.take (m + 1 + 1)) = true := ⟨by rw [HA.out, hall, hfx]; rfl, by rw [HC.out]; simp; omega⟩
            refine wp_region_mix (fun w' => Grows W4 w') [] 20 38 (by kernel_rfl) (by kernel_rfl) rfl ?_ float_none ?_ ?_
            · exact fun w1 w2 h0 hg => below_grows h0 (Nat.le_refl _) hg
            · exact Grows.drew' _
            · skip
              simp only [List.take_succ_cons, List.take_zero, List.drop_succ_cons, List.drop_zero]
              iterate 20
                first
                  | (refine calm_no rfl rfl (a' := ?_) ?_ ?_
                     rotate_left 1
                     · simp only [Act.put, List.setIfInBounds_toArray, List.set_cons_succ, List.set_cons_zero]
                       rfl)
                  | (first | refine calm_plain rfl rfl (v := ?_) (a' := ?_) (fun w1 hw1 => ?_) ?_ ?_ | refine calm_yes rfl rfl (v := ?_) (a' := ?_) (fun w1 hw1 => ?_) ?_ ?_
                     rotate_left 2
                     · have h0 := hw1
                       have c5 := (k5.grows h0).cell
                       have c2 := (k2.grows h0).cell
                       have d1 := (h0.cell (p := _) hlt2).trans hd1
                       go_simp
                       first | exact calm_val | (refine calm_call ?_; with_reducible exact v1 _)
                     · simp only [Act.put, List.setIfInBounds_toArray, List.set_cons_succ, List.set_cons_zero]
                       rfl)
              refine calm_done (end_none ?_)
              intro w7 hq
              have hB7 := below_grows hB4 (Nat.le_refl _) hq
              have k27 := k2.grows hq
              have HG := Lib.hid hgood
              clear hq hgood
              go_wp2
              go_roundw
              case rel => exact ⟨m + 1 + 1, by omega, by go_num, hB7, k27, HG.out.1, HG.out.2⟩
              case measure => simp [intOf]; omega
    · have e : l.take k = l := List.take_of_length_le (by omega)
      rw [e] at hall hch
      have x2 := k2.cell
      have HE := Lib.hid (okS_yes hall hch)
      clear e hall hch
      by_cases h64 : l.length ≤ 64
      · go_wp2
        go_ret
        exact ⟨ret_bool (by rw [HE.out, decide_eq_decide]; omega), hB⟩
      · go_wp2
        go_ret
        exact ⟨ret_bool (by rw [HE.out, decide_eq_decide]; omega), hB⟩
set_option maxHeartbeats 4000000 in
theorem spans_any (A : Option Addr) (c : Nat) (l : List Sp) (w : World) (h : Sps w A l) (hl : l.length ≤ 9223372036854775807) :
    Calls Try.prog 34 #[.agg #[.slice A l.length c]] w fun e w' => (∃ A2 c2, e = .returned (.slice A2 (spansF l).length c2) ∧ Sps w' A2 (spansF l) ∧ (l.length ≤ c → (spansF l).length ≤ c2)) ∧ Grows w w' := by
  have k2 := Blk.new w 24 #[.slice A l.length c]
  have hB := (Below.refl w.heap.size w).alloc (Nat.le_refl _) (Obj.cells #[.slice A l.length c] 24)
  go_enter Try.func34, Try.ntmps34
  go_upto_region 1 with fail
  have h1 := h.grows hB
  generalize World.alloc w _ = w1 at *
  have x2 := k2.cell 0
  go_wp2_with fail
  refine (valid_any A c l _ h1 hl).mono ?_
  rintro e w2 ⟨rfl, hq⟩
  replace hB := below_grows hB (Nat.le_refl _) hq
  replace k2 := k2.grows hq
  have h2 := h1.grows hq
  clear x2 hq
  have x2 := k2.cell 0
  cases hok : okS l
  · have e : spansF l = [] := if_neg (by rw [hok]; simp)
    have HE := Lib.hid e
    clear e
    go_wp2
    go_ret
    rw [HE.out]
    exact ⟨⟨none, 0, rfl, sps_nil _, fun _ => Nat.le_refl _⟩, hB⟩
  · have e : spansF l = l := if_pos hok
    have HE := Lib.hid e
    clear e
    go_wp2
    go_ret
    rw [HE.out]
    exact ⟨⟨A, c, rfl, h2, id⟩, hB⟩
end Go.Proofs.Ytejdaodchaeglaa
