/-
  Layer 38: recorders that keep no glitch: Most.
-/
import Derived.Test.YtbohbapheofpiaaRecB
namespace Go.Proofs.Ytbohbapheofpiaa
open Go.RowKit
def psum (b : Nat → Int) : Nat → Int
  | 0 => 0
  | n + 1 => psum b n + b n
theorem psum_bd (b : Nat → Int) (hb : ∀ i, i < 24 → 0 ≤ b i ∧ b i ≤ 1099511627776) : ∀ n, n ≤ 24 → 0 ≤ psum b n ∧ psum b n ≤ n * 1099511627776 := by
  intro n
  induction n with
  | zero => intro _; exact ⟨Int.le_refl _, by simp [psum]⟩
  | succ n ih =>
    intro hn
    obtain ⟨h1, h2⟩ := ih (by omega)
    have h3 := hb n (by omega)
    simp only [psum]
    omega
theorem pow_wrap (k : Nat) (hk : k < 24) : wrap64 (wrap64 (2 ^ k) - 1) = 2 ^ k - 1 := by
  have h : k = 0 ∨ k = 1 ∨ k = 2 ∨ k = 3 ∨ k = 4 ∨ k = 5 ∨ k = 6 ∨ k = 7 ∨ k = 8 ∨ k = 9 ∨ k = 10 ∨ k = 11 ∨ k = 12 ∨ k = 13 ∨ k = 14 ∨ k = 15 ∨ k = 16 ∨ k = 17 ∨ k = 18 ∨ k = 19 ∨ k = 20 ∨ k = 21 ∨ k = 22 ∨ k = 23 := by omega
  have e : 1 ≤ (2 : Int) ^ k ∧ (2 : Int) ^ k ≤ 8388608 := by
    rcases h with rfl | rfl | rfl | rfl | rfl | rfl | rfl | rfl | rfl | rfl | rfl | rfl | rfl | rfl | rfl | rfl | rfl | rfl | rfl | rfl | rfl | rfl | rfl | rfl <;> simp
  generalize (2 : Int) ^ k = x at *
  rw [IntWalk.wrap64_in x (by omega), IntWalk.wrap64_in (x - 1) (by omega)]
def MostIs (b : Nat → Int) (p r : Int) : Prop :=
  (psum b 24 = 0 → r = 0) ∧ (psum b 24 ≠ 0 → ∃ k : Nat, k < 24 ∧ r = 2 ^ k - 1 ∧ p * psum b 24 ≤ psum b (k + 1) * 100 ∧ ∀ j, j < k → psum b (j + 1) * 100 < p * psum b 24)
set_option maxHeartbeats 8000000 in
theorem most_good (lim fr p : Int) (c b : Nat → Int) (w : World) (h1 : 1 ≤ lim) (h2 : lim ≤ 256) (hfr : outT fr = false) (hc : ∀ i, i < 5 → outT (c i) = false) (hb : ∀ i, i < 24 → outT (b i) = false) (hp : 0 ≤ p) (hp2 : p ≤ 100) :
    Calls Try.prog 11 #[.agg #[.int .i64 lim, .slice none 0 0, .int .i64 (c 0), .int .i64 (c 1), .int .i64 (c 2), .int .i64 (c 3), .int .i64 (c 4), .int .i64 fr, .int .i64 (b 0), .int .i64 (b 1), .int .i64 (b 2), .int .i64 (b 3), .int .i64 (b 4), .int .i64 (b 5), .int .i64 (b 6), .int .i64 (b 7), .int .i64 (b 8), .int .i64 (b 9), .int .i64 (b 10), .int .i64 (b 11), .int .i64 (b 12), .int .i64 (b 13), .int .i64 (b 14), .int .i64 (b 15), .int .i64 (b 16), .int .i64 (b 17), .int .i64 (b 18), .int .i64 (b 19), .int .i64 (b 20), .int .i64 (b 21), .int .i64 (b 22), .int .i64 (b 23)], .int .i64 p] w fun e w' => ∃ r, MostIs b p r ∧ e = .returned (.int .i64 r) ∧ Grows w w' := by
  have hv := valid_good lim fr c b
  have hbd : ∀ i, i < 24 → 0 ≤ b i ∧ b i ≤ 1099511627776 := by
    intro i hi
    have := hb i hi
    simp [outT] at this
    exact this
  have hps := psum_bd b hbd
  have gk := get_b lim fr c b
  have gb : ∀ j, j < 24 → (#[.int .i64 (b 0), .int .i64 (b 1), .int .i64 (b 2), .int .i64 (b 3), .int .i64 (b 4), .int .i64 (b 5), .int .i64 (b 6), .int .i64 (b 7), .int .i64 (b 8), .int .i64 (b 9), .int .i64 (b 10), .int .i64 (b 11), .int .i64 (b 12), .int .i64 (b 13), .int .i64 (b 14), .int .i64 (b 15), .int .i64 (b 16), .int .i64 (b 17), .int .i64 (b 18), .int .i64 (b 19), .int .i64 (b 20), .int .i64 (b 21), .int .i64 (b 22), .int .i64 (b 23)] : Array Value)[j]? = some (.int .i64 (b j)) := by
    intro j hj
    have h : j = 0 ∨ j = 1 ∨ j = 2 ∨ j = 3 ∨ j = 4 ∨ j = 5 ∨ j = 6 ∨ j = 7 ∨ j = 8 ∨ j = 9 ∨ j = 10 ∨ j = 11 ∨ j = 12 ∨ j = 13 ∨ j = 14 ∨ j = 15 ∨ j = 16 ∨ j = 17 ∨ j = 18 ∨ j = 19 ∨ j = 20 ∨ j = 21 ∨ j = 22 ∨ j = 23 := by omega
    rcases h with rfl | rfl | rfl | rfl | rfl | rfl | rfl | rfl | rfl | rfl | rfl | rfl | rfl | rfl | rfl | rfl | rfl | rfl | rfl | rfl | rfl | rfl | rfl | rfl <;> rfl
  have hsb : (#[.int .i64 (b 0), .int .i64 (b 1), .int .i64 (b 2), .int .i64 (b 3), .int .i64 (b 4), .int .i64 (b 5), .int .i64 (b 6), .int .i64 (b 7), .int .i64 (b 8), .int .i64 (b 9), .int .i64 (b 10), .int .i64 (b 11), .int .i64 (b 12), .int .i64 (b 13), .int .i64 (b 14), .int .i64 (b 15), .int .i64 (b 16), .int .i64 (b 17), .int .i64 (b 18), .int .i64 (b 19), .int .i64 (b 20), .int .i64 (b 21), .int .i64 (b 22), .int .i64 (b 23)] : Array Value).size = 24 := rfl
  have hsz : (#[.int .i64 lim, .slice none 0 0, .int .i64 (c 0), .int .i64 (c 1), .int .i64 (c 2), .int .i64 (c 3), .int .i64 (c 4), .int .i64 fr, .int .i64 (b 0), .int .i64 (b 1), .int .i64 (b 2), .int .i64 (b 3), .int .i64 (b 4), .int .i64 (b 5), .int .i64 (b 6), .int .i64 (b 7), .int .i64 (b 8), .int .i64 (b 9), .int .i64 (b 10), .int .i64 (b 11), .int .i64 (b 12), .int .i64 (b 13), .int .i64 (b 14), .int .i64 (b 15), .int .i64 (b 16), .int .i64 (b 17), .int .i64 (b 18), .int .i64 (b 19), .int .i64 (b 20), .int .i64 (b 21), .int .i64 (b 22), .int .i64 (b 23)] : Array Value).size = 32 := rfl
  generalize (#[.int .i64 (b 0), .int .i64 (b 1), .int .i64 (b 2), .int .i64 (b 3), .int .i64 (b 4), .int .i64 (b 5), .int .i64 (b 6), .int .i64 (b 7), .int .i64 (b 8), .int .i64 (b 9), .int .i64 (b 10), .int .i64 (b 11), .int .i64 (b 12), .int .i64 (b 13), .int .i64 (b 14), .int .i64 (b 15), .int .i64 (b 16), .int .i64 (b 17), .int .i64 (b 18), .int .i64 (b 19), .int .i64 (b 20), .int .i64 (b 21), .int .i64 (b 22), .int .i64 (b 23)] : Array Value) = bs at *
  generalize (#[.int .i64 lim, .slice none 0 0, .int .i64 (c 0), .int .i64 (c 1), .int .i64 (c 2), .int .i64 (c 3), .int .i64 (c 4), .int .i64 fr, .int .i64 (b 0), .int .i64 (b 1), .int .i64 (b 2), .int .i64 (b 3), .int .i64 (b 4), .int .i64 (b 5), .int .i64 (b 6), .int .i64 (b 7), .int .i64 (b 8), .int .i64 (b 9), .int .i64 (b 10), .int .i64 (b 11), .int .i64 (b 12), .int .i64 (b 13), .int .i64 (b 14), .int .i64 (b 15), .int .i64 (b 16), .int .i64 (b 17), .int .i64 (b 18), .int .i64 (b 19), .int .i64 (b 20), .int .i64 (b 21), .int .i64 (b 22), .int .i64 (b 23)] : Array Value) = cs at *
  have hpart : ∀ (w1 : World) (G : Nat), Blk w1 G 28 cs → ∀ j v, bs[j]? = some v → w1.cell? ((⟨G, 8, none⟩ : Addr).add j) = some v := by
    intro w1 G hG j v hj
    have hlt : j < 24 := by
      by_cases h : j < 24
      · exact h
      · rw [Array.getElem?_eq_none (by omega)] at hj; cases hj
    rw [gb j hlt] at hj
    have ha : (⟨G, 8, none⟩ : Addr).add j = ⟨G, 8 + j, none⟩ := by
      unfold Addr.add
      split
      · simp_all
      · rfl
    rw [ha, hG.cell, gk j hlt, hj]
  have k2 := Blk.new w 28 cs
  have hB := (Below.refl w.heap.size w).alloc (Nat.le_refl _) (Obj.cells cs 28)
  have hi : (Try.prog.info? 26).map (·.size) = some bs.size := by rw [hsb]; kernel_rfl
  have hi2 : (Try.prog.info? 28).map (·.size) = some cs.size := by rw [hsz]; exact rec_info
  have hix : ∀ (w1 : World) (k : Nat), k < 24 → (Instr.index 26 (.agg bs) (.int .i64 k)).run Try.prog w1 = .ok (.int .i64 (b k)) w1 := fun w1 k hk => run_index_arr w1 bs Try.underlying26 Try.underlying3 (by first | exact Try.info3 | rfl) rfl hk (gb k hk)
  go_enter Try.func11, Try.ntmps11
  go_upto_region 2 with fail
  generalize World.alloc w _ = w1 at *
  refine wp_region_lit ?_
  iterate 1
    refine wpList_plain rfl (fun K hK => ?_)
    go_simp
    refine hK _ _ ?_
    clear hK K
  refine wpList_load_part rfl _ rfl rfl (hpart w1 _ k2) Try.underlying26 rfl hi ?_
  go_wp2_with fail
  go_loopw [5, 13] (fun s i wr => ∃ k : Nat, k ≤ 24 ∧ i = .int .i64 k ∧ s = .int .i64 (psum b k) ∧ wr = w1) (fun _ i _ => 24 - (intOf i).toNat)
  case atStart => exact ⟨0, by omega, rfl, rfl, rfl⟩
  case round =>
    obtain ⟨k, hk, rfl, rfl, rfl⟩ := hrel
    have hpk := hps k (by omega)
    by_cases hlt : k < 24
    · have hx := gb k hlt
      have hbk := hbd k hlt
      go_wp2_with fail
      go_wp2
      go_roundw
      case rel =>
        refine ⟨k + 1, by omega, by go_num, by simp [psum], by first | rfl | trivial⟩
      case measure => simp [intOf]; omega
    · obtain rfl : k = 24 := by omega
      go_upto_region 7 with fail
      refine wp_region_lit ?_
      refine wpList_load_row rfl _ rfl rfl k2 Try.underlying28 rfl hi2 ?_
      go_wp2_with fail
      refine (hv _ h1 h2 hfr hc hb).mono ?_
      rintro e w2 ⟨rfl, hq⟩
      replace k2 := k2.grows hq
      replace hB := below_grows hB (Nat.le_refl _) hq
      clear hq hv
      by_cases h0 : psum b 24 = 0
      · rw [h0]
        go_wp2
        go_ret
        exact ⟨0, ⟨fun _ => rfl, fun h => absurd h0 h⟩, rfl, hB⟩
      · have hd : (psum b 24 == 0) = false := by simpa using h0
        have hd2 : decide (p < 0) = false := by simpa using hp
        have hd3 : decide (100 < p) = false := by simpa using hp2
        have hS := hps 24 (by omega)
        have hpS : 0 ≤ p * psum b 24 := Int.mul_nonneg hp hS.1
        have hpS2 : p * psum b 24 ≤ 100 * psum b 24 := Int.mul_le_mul_of_nonneg_right hp2 hS.1
        go_upto_region 10 with fail
        refine wp_region_lit ?_
        iterate 1
          refine wpList_plain rfl (fun K hK => ?_)
          go_simp
          refine hK _ _ ?_
          clear hK K
        refine wpList_load_part rfl _ rfl rfl (hpart w2 _ k2) Try.underlying26 rfl hi ?_
        go_wp2_with fail
        go_loopw [8, 37] (fun s i wr => ∃ k : Nat, k ≤ 24 ∧ i = .int .i64 k ∧ s = .int .i64 (psum b k) ∧ wr = w2 ∧ ∀ j, j < k → psum b (j + 1) * 100 < p * psum b 24) (fun _ i _ => 24 - (intOf i).toNat)
        case atStart => exact ⟨0, by omega, rfl, rfl, rfl, fun j hj => absurd hj (by omega)⟩
        case round =>
          obtain ⟨k, hk, rfl, rfl, rfl, hall⟩ := hrel
          have hpk := hps k (by omega)
          by_cases hlt : k < 24
          · have hx := gb k hlt
            have hbk := hbd k hlt
            have hpk1 := hps (k + 1) (by omega)
            simp only [psum] at hpk1
            have hw : wrap64 (wrap64 (2 ^ k) - 1) = 2 ^ k - 1 := pow_wrap k hlt
            by_cases hle : p * psum b 24 ≤ (psum b k + b k) * 100
            · go_wp2
              go_ret
              exact ⟨2 ^ k - 1, ⟨fun h => absurd h h0, fun _ => ⟨k, hlt, rfl, by simpa [psum] using hle, hall⟩⟩, ret_int hw, hB⟩
            · go_wp2
              go_roundw
              case rel =>
                refine ⟨k + 1, by omega, by go_num, by simp [psum], by first | rfl | trivial, ?_⟩
                intro j hj
                rcases Nat.lt_succ_iff_lt_or_eq.1 hj with hj | rfl
                · exact hall j hj
                · rw [show psum b (j + 1) = psum b j + b j from rfl]; omega
              case measure => simp [intOf]; omega
          · exfalso
            obtain rfl : k = 24 := by omega
            have := hall 23 (by omega)
            simp only [show 23 + 1 = 24 from rfl] at this
            omega
end Go.Proofs.Ytbohbapheofpiaa
