/-
  Layer 9: Valid and spans of the reference. Plain contracts.
-/
import Derived.Test.YtejdaodchaeglaaSpE
namespace Go.Proofs.Ytejdaodchaeglaa
open Go.RowKit
set_option maxHeartbeats 8000000 in
theorem rvalid_any (A : Option Addr) (c : Nat) (l : List Sp) (w : World) (h : Sps w A l) (hl : l.length ≤ 9223372036854775807) :
    Calls Try.prog 15 #[.agg #[.slice A l.length c]] w fun e w' => e = .returned (.bool (okS l)) ∧ Grows w w' := by
  have k2 := Blk.new w 24 #[.slice A l.length c]
  have hB := (Below.refl w.heap.size w).alloc (Nat.le_refl _) (Obj.cells #[.slice A l.length c] 24)
  go_enter Try.func15, Try.ntmps15
  go_upto_region 1 with fail
  generalize World.alloc w _ = w1 at *
  have x2 := k2.cell
  go_wp2_with fail
  clear x2
  go_loopw [8] (fun i wr => ∃ k : Nat, k ≤ l.length ∧ i = .int .i64 k ∧ Below w.heap.size w wr ∧ Blk wr w.heap.size 24 #[.slice A l.length c] ∧ (l.take k).all fineS = true ∧ chainS (l.take k) = true) (fun i _ => l.length - (intOf i).toNat)
  case atStart => exact ⟨0, by omega, rfl, hB, k2, rfl, rfl⟩
  case round =>
    clear hB k2
    obtain ⟨k, hk, rfl, hB, k2, hall, hch⟩ := hrel
    by_cases hlt : k < l.length
    · obtain ⟨ad, x, rfl, had, hx, c0, c1⟩ := (h.grows hB).elem hlt
      have HA := Lib.hid (all_snoc hx)
      have HT : Hid (l.take (k + 1) = l.take k ++ [x]) := take_snoc hx
      clear hx
      have k5 := Blk.new wr 40 #[.int .i64 x.1, .int .i64 x.2]
      have hq := (Below.refl wr.heap.size wr).alloc (Nat.le_refl _) (Obj.cells #[.int .i64 x.1, .int .i64 x.2] 40)
      have hB4 := below_grows hB (Nat.le_refl _) hq
      replace k2 := k2.grows hq
      go_upto_region 4 with fail
      have hsW := h.grows hB4
      clear hq c0 c1
      generalize World.alloc wr _ = W4 at *
      generalize wr.heap.size = G5 at *
      have e0 := k5.cell 0
      have e1 := k5.cell 1
      by_cases h1 : x.1 < 0
      · skip
        go_region
        have hq := Grows.drew' W4
        generalize World.drew _ = w7 at *
        have hB7 := below_grows hB4 (Nat.le_refl _) hq
        have HE := Lib.hid (okS_no (k + 1) (l := l) (by rw [HA.out, show fineS x = false by simp [fineS]; omega]; simp))
        clear hq
        go_wp2
        go_ret
        exact ⟨ret_bool HE.out.symm, hB7⟩
      by_cases h2 : x.2 < x.1
      · skip
        go_region
        have hq := Grows.drew' W4
        generalize World.drew _ = w7 at *
        have hB7 := below_grows hB4 (Nat.le_refl _) hq
        have HE := Lib.hid (okS_no (k + 1) (l := l) (by rw [HA.out, show fineS x = false by simp [fineS]; omega]; simp))
        clear hq
        go_wp2
        go_ret
        exact ⟨ret_bool HE.out.symm, hB7⟩
      by_cases h3 : 2147483647 < x.2
      · skip
        go_region
        have hq := Grows.drew' W4
        generalize World.drew _ = w7 at *
        have hB7 := below_grows hB4 (Nat.le_refl _) hq
        have HE := Lib.hid (okS_no (k + 1) (l := l) (by rw [HA.out, show fineS x = false by simp [fineS]; omega]; simp))
        clear hq
        go_wp2
        go_ret
        exact ⟨ret_bool HE.out.symm, hB7⟩
      have hfx : fineS x = true := (fineS_iff x).2 ⟨by omega, by omega, by omega⟩
      have HF := Lib.hid hfx
      clear hfx
      by_cases h0 : k = 0
      · subst h0
        have hgood : (l.take (0 + 1)).all fineS = true ∧ chainS (l.take (0 + 1)) = true := ⟨by rw [HA.out, hall, HF.out]; rfl, by rw [HT.out]; rfl⟩
        go_region
        have hq := Grows.drew' W4
        generalize World.drew _ = w7 at *
        have hB7 := below_grows hB4 (Nat.le_refl _) hq
        have k27 := k2.grows hq
        have HG := Lib.hid hgood
        clear hq hgood
        go_wp2
        go_roundw
        case rel => exact ⟨0 + 1, by omega, by go_num, hB7, k27, HG.out.1, HG.out.2⟩
        case measure => simp [intOf]; omega
      obtain ⟨m, rfl⟩ : ∃ m, k = m + 1 := ⟨k - 1, by omega⟩
      obtain ⟨ad', y, e, hlt2, hy, hd0, hd1⟩ := hsW.elem (k := m) (by omega)
      injection e with e
      subst e
      have HC : Hid (chainS (l.take (m + 1 + 1)) = decide (y.2 + 1 < x.1)) := Lib.hid (by rw [HT.out, chainS_snoc, hch, take_snoc hy, List.getLast?_concat]; rfl)
      have hidx : IntKind.i64.wrap (m : Int) = (m : Int) := IntWalk.i64_in _ (by omega)
      have hml : (m : Int) < (l.length : Int) := by omega
      have hsub : IntKind.i64.wrap (x.1 - 1) = x.1 - 1 := IntWalk.i64_in _ (by omega)
      have hpos : decide ((0 : Int) < ((m + 1 : Nat) : Int)) = true := decide_eq_true (by omega)
      have x2 := k2.cell 0
      clear hd0 hy
      by_cases hgap : x.1 - 1 ≤ y.2
      · skip
        go_region
        have hq := Grows.drew' W4
        generalize World.drew _ = w7 at *
        have hB7 := below_grows hB4 (Nat.le_refl _) hq
        have HE := Lib.hid (okS_no (m + 1 + 1) (l := l) (by rw [HC.out]; simp; omega))
        clear hq
        go_wp2
        go_ret
        exact ⟨ret_bool HE.out.symm, hB7⟩
      · have hgood : (l.take (m + 1 + 1)).all fineS = true ∧ chainS (l.take (m + 1 + 1)) = true := ⟨by rw [HA.out, hall, HF.out]; rfl, by rw [HC.out]; simp; omega⟩
        go_region
        have hq := Grows.drew' W4
        generalize World.drew _ = w7 at *
        have hB7 := below_grows hB4 (Nat.le_refl _) hq
        have k27 := k2.grows hq
        have HG := Lib.hid hgood
        clear hq hgood
        go_wp2
        go_roundw
        case rel => exact ⟨m + 1 + 1, by omega, by go_num, hB7, k27, HG.out.1, HG.out.2⟩
        case measure => simp [intOf]; omega
    · have e : l.take k = l := List.take_of_length_le (by omega)
      rw [e] at hall hch
      have x2 := k2.cell
      have HE := Lib.hid (okS_yes hall hch)
      clear e hall hch
      by_cases h64 : l.length ≤ 64
      · go_wp2
        go_ret
        exact ⟨ret_bool (by rw [HE.out, decide_eq_decide]; omega), hB⟩
      · go_wp2
        go_ret
        exact ⟨ret_bool (by rw [HE.out, decide_eq_decide]; omega), hB⟩
set_option maxHeartbeats 4000000 in
theorem rspans_any (A : Option Addr) (c : Nat) (l : List Sp) (w : World) (h : Sps w A l) (hl : l.length ≤ 9223372036854775807) :
    Calls Try.prog 36 #[.agg #[.slice A l.length c]] w fun e w' => (∃ A2 c2, e = .returned (.slice A2 (spansF l).length c2) ∧ Sps w' A2 (spansF l) ∧ (l.length ≤ c → (spansF l).length ≤ c2)) ∧ Grows w w' := by
  have k2 := Blk.new w 24 #[.slice A l.length c]
  have hB := (Below.refl w.heap.size w).alloc (Nat.le_refl _) (Obj.cells #[.slice A l.length c] 24)
  go_enter Try.func36, Try.ntmps36
  go_upto_region 1 with fail
  have h1 := h.grows hB
  generalize World.alloc w _ = w1 at *
  have x2 := k2.cell 0
  go_wp2_with fail
  refine (rvalid_any A c l _ h1 hl).mono ?_
  rintro e w2 ⟨rfl, hq⟩
  replace hB := below_grows hB (Nat.le_refl _) hq
  replace k2 := k2.grows hq
  have h2 := h1.grows hq
  clear x2 hq
  have x2 := k2.cell 0
  cases hok : okS l
  · have e : spansF l = [] := if_neg (by rw [hok]; simp)
    have HE := Lib.hid e
    clear e
    go_wp2
    go_ret
    rw [HE.out]
    exact ⟨⟨none, 0, rfl, sps_nil _, fun _ => Nat.le_refl _⟩, hB⟩
  · have e : spansF l = l := if_pos hok
    have HE := Lib.hid e
    clear e
    go_wp2
    go_ret
    rw [HE.out]
    exact ⟨⟨A, c, rfl, h2, id⟩, hB⟩
end Go.Proofs.Ytejdaodchaeglaa
