/-
  RecorderBounds, for every input: the law returns true, and each argument reads behind the call as it read before. No condition.
-/
import Derived.Test.YtbohbapheofpiaaRecE
import Derived.Test.YtbohbapheofpiaaRowX
import Derived.Test.YtbohbapheofpiaaExtra
import Derived.Test.YtbohbapheofpiaaMill
import Derived.Test.YtbohbapheofpiaaSlice
namespace Go.Proofs.Ytbohbapheofpiaa
open Go.ChangeShapes Go.WideShapes Go.ChangeAt Go.RowKit
namespace RecorderBounds
set_option maxHeartbeats 8000000 in
theorem walk (A : Option Addr) (cp : Nat) (l : List Int) (p q : Int) (w : World) (hI : Ints w A l) (hl : l.length ≤ 9223372036854775807) :
    Calls Try.prog 3 #[.slice A l.length cp, .int .i64 p, .int .i64 q] w fun e w' => e = .returned (.bool true) ∧ Below w.heap.size w w' := by
  obtain ⟨zr, hzr⟩ : ∃ zr : Array Value, zr = #[.int .i64 0, .slice none 0 0, .int .i64 0, .int .i64 0, .int .i64 0, .int .i64 0, .int .i64 0, .int .i64 0, .int .i64 0, .int .i64 0, .int .i64 0, .int .i64 0, .int .i64 0, .int .i64 0, .int .i64 0, .int .i64 0, .int .i64 0, .int .i64 0, .int .i64 0, .int .i64 0, .int .i64 0, .int .i64 0, .int .i64 0, .int .i64 0, .int .i64 0, .int .i64 0, .int .i64 0, .int .i64 0, .int .i64 0, .int .i64 0, .int .i64 0, .int .i64 0] := ⟨_, rfl⟩
  have hzs : zr.size = (rcZ 1 (bOf [])).size := by rw [hzr]; rfl
  go_enter Try.func3, Try.ntmps3
  by_cases h60 : 60 < l.length
  · go_wp2_with (go_at_call 7; refine (sane_any _).mono ?_; rintro e w1 ⟨rfl, hB⟩)
    go_ret
    exact ⟨rfl, hB⟩
  go_upto_region 5 with (go_at_call 7; refine (sane_any _).mono ?_; rintro e w0 ⟨rfl, hB⟩)
  refine wp_region_lit ?_
  refine wpList_plain rfl (fun K hK => ?_)
  go_simp
  refine (new_r 1 _ (by omega) (by omega)).mono ?_
  rintro e w1 ⟨rfl, hg⟩
  refine hK _ _ ?_
  clear hK K
  replace hB := below_grows hB (Nat.le_refl _) hg
  clear hg
  iterate 3
    refine wpList_plain rfl (fun K hK => ?_)
    go_simp
    refine hK _ _ ?_
    clear hK K
  have hW := hB.size
  have k1 := Blk.new w1 28 #[.int .i64 0, .slice none 0 0, .int .i64 0, .int .i64 0, .int .i64 0, .int .i64 0, .int .i64 0, .int .i64 0, .int .i64 0, .int .i64 0, .int .i64 0, .int .i64 0, .int .i64 0, .int .i64 0, .int .i64 0, .int .i64 0, .int .i64 0, .int .i64 0, .int .i64 0, .int .i64 0, .int .i64 0, .int .i64 0, .int .i64 0, .int .i64 0, .int .i64 0, .int .i64 0, .int .i64 0, .int .i64 0, .int .i64 0, .int .i64 0, .int .i64 0, .int .i64 0]
  iterate 1
    refine wpList_plain rfl (fun K hK => ?_)
    go_simp
    refine hK _ _ ?_
    clear hK K
  replace hB := hB.alloc hB.size (Obj.cells #[.int .i64 0, .slice none 0 0, .int .i64 0, .int .i64 0, .int .i64 0, .int .i64 0, .int .i64 0, .int .i64 0, .int .i64 0, .int .i64 0, .int .i64 0, .int .i64 0, .int .i64 0, .int .i64 0, .int .i64 0, .int .i64 0, .int .i64 0, .int .i64 0, .int .i64 0, .int .i64 0, .int .i64 0, .int .i64 0, .int .i64 0, .int .i64 0, .int .i64 0, .int .i64 0, .int .i64 0, .int .i64 0, .int .i64 0, .int .i64 0, .int .i64 0, .int .i64 0] 28)
  have hG := hB.size
  have hGe : w.heap.size ≤ w1.heap.size := hW
  generalize w1.heap.size = G at *
  rw [← hzr] at k1 hB ⊢
  generalize World.alloc w1 _ = w2 at *
  refine wpList_store_row rfl _ _ rfl rfl rfl rfl k1 (rcZ_info _ _) hzs (rcZ_one _ _) ?_
  replace hB := below_row hB (g := G) hGe (rcZ 1 (bOf []))
  replace k1 := k1.row (cs := rcZ 1 (bOf []))
  generalize World.setRow w2 _ _ = w3 at *
  go_wp2
  go_loopw [26] (fun i wr => ∃ k : Nat, k ≤ l.length ∧ i = .int .i64 k ∧ Below w.heap.size w wr ∧ Blk wr G 28 (rcZ 1 (bOf ((l.take k).map (· % 4194304))))) (fun i _ => l.length - (intOf i).toNat)
  case atStart => exact ⟨0, by omega, rfl, hB, k1⟩
  case round =>
    clear hB k1
    obtain ⟨k, hk, rfl, hB, k1⟩ := hrel
    by_cases hlt : k < l.length
    · obtain ⟨ad, x, rfl, hal, hx, hc⟩ := hI.at_ hlt
      have hc2 := below_cell hB (p := ad.add k) (by rw [block_of_add]; exact hal) hc
      have hob := okb_of ((l.take k).map (· % 4194304))
      have hsn : bOf ((l.take (k + 1)).map (· % 4194304)) = barB (bOf ((l.take k).map (· % 4194304))) (x % 4194304) := by
        rw [take_snoc hx, List.map_append, List.map_cons, List.map_nil, bOf_snoc]
      have HS := Lib.hid hsn
      clear hsn
      have hx0 : 0 ≤ x % 4194304 := Int.emod_nonneg _ (by omega)
      have hx2 : x % 4194304 < 4194304 := Int.emod_lt_of_pos _ (by omega)
      generalize bOf ((l.take k).map (· % 4194304)) = b1 at *
      go_upto_region 9 with fail
      refine wp_region_own (fun L w' => Below w.heap.size w w' ∧ Blk w' G 28 (rcZ 1 b1) ∧ (L 8 = true → L 7 = true)) (Only []) 7 8 11 (fun L v w' => ∃ b, v = .pointer (some ⟨b, 0, none⟩) ∧ w.heap.size ≤ b ∧ b ≠ G ∧ Blk w' b 28 (if L 8 then rcZ 1 (barB b1 (x % 4194304)) else zr)) 10 68 (by kernel_rfl) (by kernel_rfl) rfl ?_ ?_ ?_
      · rintro L i v w1 w2 hi1 hi2 _ _ ⟨b, rfl, hb, hne, kb⟩ hr
        refine ⟨b, rfl, hb, hne, ?_⟩
        have hu : upd L i 8 = L 8 := by unfold upd; rw [if_neg (Ne.symm hi2)]
        rw [hu]
        exact kb.only hr (by simp)
      · exact ⟨below_grows hB (Nat.le_refl _) (Grows.drew' _), k1.drew, fun h => absurd h (by simp)⟩
      simp only [List.take_succ_cons, List.take_zero, List.drop_succ_cons, List.drop_zero]
      refine ow_plain (by decide) (by decide) rfl (v := .agg (rcZ 1 b1)) (a' := ?_) (fun L w1 hL hw1 => ?_) ?_ ?_
      rotate_left 1
      · obtain ⟨q0, q1, q2⟩ := id hw1
        exact step_load_row _ rfl rfl q1 Try.underlying28 rfl (rcZ_info _ _) ⟨hw1, Only.refl _ _⟩
      · simp only [Act.put, List.setIfInBounds_toArray, List.set_cons_succ, List.set_cons_zero]
        rfl
      iterate 1
        refine ow_plain (by decide) (by decide) rfl (v := ?_) (a' := ?_) (fun L w1 hL hw1 => ?_) ?_ ?_
        rotate_left 2
        · skip
          go_simp
          first | (refine step_val ?_; exact ⟨hw1, Only.refl _ _⟩)
        · simp only [Act.put, List.setIfInBounds_toArray, List.set_cons_succ, List.set_cons_zero]
          rfl
      refine ow_plain (by decide) (by decide) rfl (v := ?_) (a' := ?_) (fun L w1 hL hw1 => ?_) ?_ ?_
      rotate_left 2
      · obtain ⟨q0, q1, q2⟩ := id hw1
        go_simp
        refine step_call ?_
        refine (mod_any _ _ _ (by omega) (by omega)).mono ?_
        rintro e w2 ⟨rfl, rfl⟩
        refine ⟨?_, ?_⟩
        · exact rfl
        · exact ⟨hw1, Only.refl _ _⟩
      · simp only [Act.put, List.setIfInBounds_toArray, List.set_cons_succ, List.set_cons_zero]
        rfl
      refine ow_plain (by decide) (by decide) rfl (v := ?_) (a' := ?_) (fun L w1 hL hw1 => ?_) ?_ ?_
      rotate_left 2
      · obtain ⟨q0, q1, q2⟩ := id hw1
        go_simp
        refine fr_grow ?_ (fun w2 hg => ?_)
        · exact measure_r 1 (x % 4194304) b1 w1 (by omega) (by omega) hob hx0 hx2
        · exact ⟨⟨below_grows q0 (Nat.le_refl _) hg, q1.grows hg, q2⟩, Only.grows hg⟩
      · simp only [Act.put, List.setIfInBounds_toArray, List.set_cons_succ, List.set_cons_zero]
        rfl
      iterate 3
        refine ow_plain (by decide) (by decide) rfl (v := ?_) (a' := ?_) (fun L w1 hL hw1 => ?_) ?_ ?_
        rotate_left 2
        · skip
          go_simp
          first | (refine step_val ?_; exact ⟨hw1, Only.refl _ _⟩)
        · simp only [Act.put, List.setIfInBounds_toArray, List.set_cons_succ, List.set_cons_zero]
          rfl
      refine ow_float rfl rfl (fun L w1 hL hw1 => ?_) ?_
      · obtain ⟨q0, q1, q2⟩ := id hw1
        have l7 : L 7 = false := hL.1
        have l8 : L 8 = false := by
          cases h : L 8
          · rfl
          · rw [q2 h] at l7; cases l7
        have hlt := q1.lt
        have hsz := q0.size
        go_simp
        rw [← hzr]
        refine fr_some ⟨w1.heap.size, rfl, hsz, by omega, ?_⟩ ⟨⟨q0.alloc hsz _, q1.alloc _, fun _ => rfl⟩, Only.alloc (Only.refl _ _) _⟩
        show Blk _ _ 28 (if L 8 = true then _ else zr)
        rw [l8]
        exact Blk.new _ _ _
      refine ow_sink (by decide) rfl rfl rfl (fun v L w1 hL hw1 hd => ?_) ?_
      · obtain ⟨q0, q1, q2⟩ := id hw1
        obtain ⟨b, rfl, hb, hne, kb⟩ := hd
        have l8 : L 8 = false := hL.1
        have l7 : L 7 = true := hL.need 7 (by kernel_rfl)
        simp only [l8, Bool.false_eq_true, if_false] at kb
        refine step_store_row _ _ rfl rfl rfl kb (rcZ_info _ _) hzs (rcZ_one _ _) ?_
        refine ⟨⟨below_row q0 hb _, q1.row_far (Ne.symm hne), fun _ => l7⟩, b, rfl, hb, hne, ?_⟩
        show Blk _ b 28 (if true = true then _ else zr)
        rw [if_pos rfl]
        exact kb.row
      iterate 1
        refine ow_plain (by decide) (by decide) rfl (v := ?_) (a' := ?_) (fun L w1 hL hw1 => ?_) ?_ ?_
        rotate_left 2
        · skip
          go_simp
          first | (refine step_val ?_; exact ⟨hw1, Only.refl _ _⟩)
        · simp only [Act.put, List.setIfInBounds_toArray, List.set_cons_succ, List.set_cons_zero]
          rfl
      refine ow_done ?_
      rintro v L w7 hall ⟨hB7, k7, -⟩ ⟨b, rfl, hbb, hbn, kb⟩
      rw [if_pos (hall 8 (by omega))] at kb
      clear hall L hB k1
      simp only [Act.put, List.setIfInBounds_toArray, List.set_cons_succ, List.set_cons_zero]
      go_upto_region 12 with fail
      refine wp_region_lit ?_
      refine wpList_load_row rfl _ rfl rfl kb Try.underlying28 rfl (rcZ_info _ _) ?_
      refine wpList_store_row rfl _ _ rfl rfl rfl rfl k7 (rcZ_info _ _) rfl (rcZ_one _ _) ?_
      replace hB7 := below_row hB7 (g := G) hGe (rcZ 1 (barB b1 (x % 4194304)))
      replace k7 := k7.row (cs := rcZ 1 (barB b1 (x % 4194304)))
      generalize World.setRow w7 _ _ = w8 at *
      clear kb
      go_wp2
      go_roundw
      case rel => exact ⟨k + 1, by omega, by go_num, hB7, by rw [HS.out]; exact k7⟩
      case measure => simp [intOf]; omega
    · obtain rfl : k = l.length := by omega
      clear hlt
      rw [List.take_length] at k1
      have hobF := okb_of (l.map (· % 4194304))
      have hasF : ∀ x ∈ l, 1 ≤ bOf (l.map (· % 4194304)) (Lib.bitLen (x % 4194304).toNat) := fun x hx =>
        bOf_has (Int.emod_nonneg _ (by omega)) (Int.emod_lt_of_pos _ (by omega)) (List.mem_map.2 ⟨x, hx, rfl⟩)
      generalize bOf (l.map (· % 4194304)) = bF at *
      obtain ⟨r0, h100⟩ := most_ex bF hobF 100 (Int.le_refl _)
      go_upto_region 15 with fail
      go_loopw [43] (fun i wr => ∃ k : Nat, k ≤ l.length ∧ i = .int .i64 k ∧ Below w.heap.size w wr ∧ Blk wr G 28 (rcZ 1 bF)) (fun i _ => l.length - (intOf i).toNat)
      case atStart => exact ⟨0, by omega, rfl, hB, k1⟩
      case round =>
        clear hB k1
        obtain ⟨k, hk, rfl, hB, k1⟩ := hrel
        by_cases hlt : k < l.length
        · obtain ⟨ad, x, rfl, hal, hx, hc⟩ := hI.at_ hlt
          have hc2 := below_cell hB (p := ad.add k) (by rw [block_of_add]; exact hal) hc
          have hx0 : 0 ≤ x % 4194304 := Int.emod_nonneg _ (by omega)
          have hx2 : x % 4194304 < 4194304 := Int.emod_lt_of_pos _ (by omega)
          have hge := most_above hobF hx0 hx2 (hasF x (List.mem_of_getElem? hx)) h100
          have hdf : decide (r0 < x % 4194304) = false := by simp; omega
          go_upto_region 17 with fail
          refine wp_region_lit ?_
          refine wpList_load_row rfl _ rfl rfl k1 Try.underlying28 rfl (rcZ_info _ _) ?_
          refine wpList_plain rfl (fun K hK => ?_)
          go_simp
          refine (most_is 1 100 r0 bF _ (by omega) (by omega) hobF (by omega) (by omega) h100).mono ?_
          rintro e w5 ⟨rfl, hq⟩
          refine hK _ _ ?_
          clear hK K
          replace k1 := k1.grows hq
          replace hB := below_grows hB (Nat.le_refl _) hq
          clear hq
          iterate 1
            refine wpList_plain rfl (fun K hK => ?_)
            go_simp
            refine hK _ _ ?_
            clear hK K
          refine wpList_plain rfl (fun K hK => ?_)
          go_simp
          refine (mod_any _ _ _ (by omega) (by omega)).mono ?_
          rintro e w6 ⟨rfl, rfl⟩
          refine hK _ _ ?_
          clear hK K
          iterate 1
            refine wpList_plain rfl (fun K hK => ?_)
            go_simp
            refine hK _ _ ?_
            clear hK K
          go_wp2
          go_roundw
          case rel => exact ⟨k + 1, by omega, by go_num, hB, k1⟩
          case measure => simp [intOf]; omega
        · obtain rfl : k = l.length := by omega
          clear hlt
          have p1 : 0 ≤ p % 101 := Int.emod_nonneg _ (by omega)
          have p2 : p % 101 < 101 := Int.emod_lt_of_pos _ (by omega)
          have q1 : 0 ≤ q % 101 := Int.emod_nonneg _ (by omega)
          have q2 : q % 101 < 101 := Int.emod_lt_of_pos _ (by omega)
          go_upto_region 21 with (go_at_call 10; refine (mod_any _ _ _ (by omega) (by omega)).mono ?_; rintro e w5 ⟨rfl, rfl⟩)
          generalize p % 101 = x at *
          generalize q % 101 = y at *
          obtain ⟨r, hr⟩ := most_ex bF hobF (min x y) (by omega)
          obtain ⟨s, hs⟩ := most_ex bF hobF (max x y) (by omega)
          have hrs := most_mono hobF (by omega) hr hs
          have hdt : decide (r ≤ s) = true := by simp; omega
          refine wp_region_mix (fun w' => Below w.heap.size w w' ∧ Blk w' G 28 (rcZ 1 bF)) [] 12 68 (by kernel_rfl) (by kernel_rfl) rfl ?_ float_none ?_ ?_
          · exact fun w1 w2 ⟨h0, h1⟩ hg => ⟨below_grows h0 (Nat.le_refl _) hg, h1.grows hg⟩
          · exact ⟨hB.drew, k1.drew⟩
          · simp only [List.take_succ_cons, List.take_zero, List.drop_succ_cons, List.drop_zero]
            refine calm_plain rfl rfl (v := .agg (rcZ 1 bF)) (a' := ?_) (fun w1 hw1 => ?_) ?_ ?_
            rotate_left 1
            · obtain ⟨h0, h1⟩ := hw1
              exact calm_load_row _ rfl rfl h1 Try.underlying28 rfl (rcZ_info _ _)
            · simp only [Act.put, List.setIfInBounds_toArray, List.set_cons_succ, List.set_cons_zero]
              rfl
            refine calm_plain rfl rfl (v := ?_) (a' := ?_) (fun w1 hw1 => ?_) ?_ ?_
            rotate_left 2
            · obtain ⟨h0, h1⟩ := hw1
              go_simp
              exact calm_val
            · simp only [Act.put, List.setIfInBounds_toArray, List.set_cons_succ, List.set_cons_zero]
              rfl
            refine calm_plain rfl rfl (v := ?_) (a' := ?_) (fun w1 hw1 => ?_) ?_ ?_
            rotate_left 2
            · obtain ⟨h0, h1⟩ := hw1
              go_simp
              exact calm_val
            · simp only [Act.put, List.setIfInBounds_toArray, List.set_cons_succ, List.set_cons_zero]
              rfl
            refine calm_plain rfl rfl (v := ?_) (a' := ?_) (fun w1 hw1 => ?_) ?_ ?_
            rotate_left 2
            · obtain ⟨h0, h1⟩ := hw1
              go_simp
              first | exact calm_val | (simp only [run_min2]; exact calm_val)
            · simp only [Act.put, List.setIfInBounds_toArray, List.set_cons_succ, List.set_cons_zero]
              rfl
            refine calm_plain rfl rfl (v := .int .i64 r) (a' := ?_) (fun w1 hw1 => ?_) ?_ ?_
            rotate_left 1
            · obtain ⟨h0, h1⟩ := hw1
              go_simp
              exact calm_call (most_is 1 _ r bF _ (by omega) (by omega) hobF (by omega) (by omega) hr)
            · simp only [Act.put, List.setIfInBounds_toArray, List.set_cons_succ, List.set_cons_zero]
              rfl
            refine calm_plain rfl rfl (v := .agg (rcZ 1 bF)) (a' := ?_) (fun w1 hw1 => ?_) ?_ ?_
            rotate_left 1
            · obtain ⟨h0, h1⟩ := hw1
              exact calm_load_row _ rfl rfl h1 Try.underlying28 rfl (rcZ_info _ _)
            · simp only [Act.put, List.setIfInBounds_toArray, List.set_cons_succ, List.set_cons_zero]
              rfl
            refine calm_plain rfl rfl (v := ?_) (a' := ?_) (fun w1 hw1 => ?_) ?_ ?_
            rotate_left 2
            · obtain ⟨h0, h1⟩ := hw1
              go_simp
              exact calm_val
            · simp only [Act.put, List.setIfInBounds_toArray, List.set_cons_succ, List.set_cons_zero]
              rfl
            refine calm_plain rfl rfl (v := ?_) (a' := ?_) (fun w1 hw1 => ?_) ?_ ?_
            rotate_left 2
            · obtain ⟨h0, h1⟩ := hw1
              go_simp
              exact calm_val
            · simp only [Act.put, List.setIfInBounds_toArray, List.set_cons_succ, List.set_cons_zero]
              rfl
            refine calm_plain rfl rfl (v := ?_) (a' := ?_) (fun w1 hw1 => ?_) ?_ ?_
            rotate_left 2
            · obtain ⟨h0, h1⟩ := hw1
              go_simp
              first | exact calm_val | (simp only [run_max2]; exact calm_val)
            · simp only [Act.put, List.setIfInBounds_toArray, List.set_cons_succ, List.set_cons_zero]
              rfl
            refine calm_plain rfl rfl (v := .int .i64 s) (a' := ?_) (fun w1 hw1 => ?_) ?_ ?_
            rotate_left 1
            · obtain ⟨h0, h1⟩ := hw1
              go_simp
              exact calm_call (most_is 1 _ s bF _ (by omega) (by omega) hobF (by omega) (by omega) hs)
            · simp only [Act.put, List.setIfInBounds_toArray, List.set_cons_succ, List.set_cons_zero]
              rfl
            refine calm_plain rfl rfl (v := ?_) (a' := ?_) (fun w1 hw1 => ?_) ?_ ?_
            rotate_left 2
            · obtain ⟨h0, h1⟩ := hw1
              go_simp
              exact calm_val
            · simp only [Act.put, List.setIfInBounds_toArray, List.set_cons_succ, List.set_cons_zero]
              rfl
            refine calm_plain rfl rfl (v := ?_) (a' := ?_) (fun w1 hw1 => ?_) ?_ ?_
            rotate_left 2
            · obtain ⟨h0, h1⟩ := hw1
              go_simp
              exact calm_val
            · simp only [Act.put, List.setIfInBounds_toArray, List.set_cons_succ, List.set_cons_zero]
              rfl
            refine calm_done (end_none ?_)
            rintro w7 ⟨hB7, -⟩
            go_wp2
            go_ret
            exact ⟨rfl, hB7⟩
end RecorderBounds
namespace RecorderBounds
theorem contract (H : Type) (enc : TypeId × Value → H) (W : World) (base : Nat) (args : Array Value) (ds gs : List (DataW H)) (before : List MemPlace)
    (hval0 : ∀ (j : Nat) t v, Try.f3.params[j]? = some t → args[j]? = some v → Value.okWide Try.prog W .any base t v)
    (hW : DataW.Whole enc Try.prog Try.f3.params.toList Rows.recorderBoundsSpec.vars false W args.toList ds gs before)
    (hsz0 : (DataW.weightsEach Try.prog (Try.f3.params.toList ++ Rows.recorderBoundsSpec.plain.varTypes Try.prog) (ds ++ gs)).all (· ≤ reachBytes) = true) :
    Calls Try.prog 3 args W fun e W' => ∃ v, e = .returned v ∧ Rows.recorderBoundsSpec.post enc Try.prog Try.f3 false true false false W args v W' := by
  have key : Calls Try.prog 3 args W fun e W' => e = .returned (.bool true) ∧ Below W.heap.size W W' := by
    have hval : ∀ (j : Nat) t v, Try.f3.params[j]? = some t → args[j]? = some v → Value.okWide Try.prog W .any base t v := hval0
    obtain ⟨p, q, hA0, hV, hbe, hfz, hnd⟩ := hW
    have hA : DataW.TrodAll enc Try.prog W 0 (fun _ => true) true Try.f3.params.toList args.toList ds p := hA0
    rw [Try.params3] at hA hval
    clear hA0 hval0
    obtain ⟨v0, vs0, d0, ds0, p0, q0, hargs, rfl, rfl, h0, r0⟩ := trodAll_cons hA
    obtain ⟨v1, vs1, d1, ds1, p1, q1, rfl, rfl, rfl, h1, r1⟩ := trodAll_cons r0
    obtain ⟨v2, vs2, d2, ds2, p2, q2, rfl, rfl, rfl, h2, r2⟩ := trodAll_cons r1
    obtain ⟨rfl, rfl, rfl⟩ := trodAll_nil r2
    obtain rfl : args = #[v0, v1, v2] := by cases args; simp_all
    obtain ⟨rfl, rfl⟩ := trodVars_none hV
    have hsz : (DataW.weightsEach Try.prog (Try.f3.params.toList ++ Rows.recorderBoundsSpec.plain.varTypes Try.prog) ([d0, d1, d2] ++ [])).all (· ≤ reachBytes) = true := hsz0
    rw [Try.params3] at hsz
    clear hsz0
    obtain ⟨A, cp, l, rfl, hI, hl, _⟩ := open_slice_ints Try.underlying22 Try.underlying3 (by kernel_rfl) (hval 0 22 v0 rfl rfl) h0
    obtain ⟨a1, rfl, rfl, rfl, w1⟩ := open_int Try.underlying3 (hval 1 3 v1 rfl rfl) h1
    obtain ⟨a2, rfl, rfl, rfl, w2⟩ := open_int Try.underlying3 (hval 2 3 v2 rfl rfl) h2
    exact RecorderBounds.walk A cp l a1 a2 W hI hl
  refine key.mono fun e W' ⟨he, hb⟩ => ⟨_, he, law_post laid_out hW ?_ rfl (by kernel_rfl) Try.underlying4 ?_ hb⟩
  · rw [Try.params3]
    intro t ht
    simp only [List.mem_cons, List.not_mem_nil, or_false] at ht
    rcases ht with rfl | rfl | rfl <;> exact ⟨by kernel_rfl, of_decide_eq_true (by kernel_rfl)⟩
  · rw [Try.params3]
    intro ds hl
    match ds, hl with
    | [_, _, _], _ => rfl

set_option maxRecDepth 100000 in
theorem lifted (os : Os) (started : os.Started) (H : Type) (enc : TypeId × Value → H) :
    ReturnsInHanded {} Try.checked os 3 .any (Rows.recorderBoundsSpec.pre6 enc Try.prog Try.f3 Rows.recorderBoundsRow.domain false) (Rows.recorderBoundsSpec.post enc Try.prog Try.f3 false true false false) := by
  refine returnsInHanded_of_change_sized (C := Try.checked) own_knob started (by kernel_rfl) Try.func3
    (ChangeSpec.witness6 (enc := enc) (C := Try.checked) false ⟨#[], #[.slice none 0 0, .int .i64 0, .int .i64 0], []⟩ 8 (by kernel_rfl) (by kernel_rfl) (by kernel_rfl) (by kernel_rfl)) ?_
  intro W base args ds gs before hval0 hW _ hsz0 _
  exact contract H enc W base args ds gs before hval0 hW hsz0

theorem over : Rows.recorderBoundsRow.holds Try.pinned (OpenSpec.ofChange Rows.recorderBoundsSpec) :=
  OpenClaim.holds_of_wide 3 Try.f3 rfl rfl rfl rfl rfl rfl rfl ⟨rfl, rfl, rfl, rfl, rfl⟩ rfl rfl rfl rfl rfl (by kernel_rfl) Try.func3 (by kernel_rfl)
    (of_decide_eq_true (by kernel_rfl)) (by unfold Func.isWrapper; first | (rw [if_pos (by decide +kernel)]; kernel_rfl) | (rw [if_neg (by decide +kernel)]; exact ⟨rfl, rfl⟩))
    (fun os started H enc _ => lifted os started H enc)

/-- The given statement. -/
theorem proved : Rows.RecorderBoundsSaid := over
end RecorderBounds
#print axioms RecorderBounds.proved
end Go.Proofs.Ytbohbapheofpiaa
