/-
  Layer 38: recorders, whatever they keep: Most. Plain contracts of the program and of the reference.
-/
import Derived.Test.YtbohbapheofpiaaRgC
namespace Go.Proofs.Ytbohbapheofpiaa
open Go.RowKit
def MostP (b : Nat → Int) (p r : Int) : Prop := (0 ≤ p ∧ p ≤ 100 → MostIs b p r) ∧ (¬(0 ≤ p ∧ p ≤ 100) → r = 0)
/-- What Most answers. -/
def MostR (R : Rec) (p r : Int) : Prop := (R.ok = true ∧ 0 ≤ p ∧ p ≤ 100 → MostIs R.b p r) ∧ (¬(R.ok = true ∧ 0 ≤ p ∧ p ≤ 100) → r = 0)
theorem mostR_uniq {R : Rec} {p r s : Int} (h : MostR R p r) (h2 : MostR R p s) : r = s := by
  by_cases hc : R.ok = true ∧ 0 ≤ p ∧ p ≤ 100
  · have hb : OKB R.b := ((okR_iff _ _ _ _ _).1 hc.1).2.2.2.2.2.2
    exact most_uniq hb (h.1 hc) (h2.1 hc)
  · rw [h.2 hc, h2.2 hc]
theorem mostR_no {R : Rec} {p : Int} (h : ¬(R.ok = true ∧ 0 ≤ p ∧ p ≤ 100)) : MostR R p 0 := ⟨fun hc => absurd hc h, fun _ => rfl⟩
set_option maxHeartbeats 8000000 in
theorem most_bad (lim fr p : Int) (A : Option Addr) (cp : Nat) (l : List Gl) (c b : Nat → Int) (w : World) (hg : Gls w A l) (hl : l.length ≤ 1000000) (hok : okR lim l c fr b = false) :
    Calls Try.prog 11 #[.agg (rcV lim (.slice A l.length cp) c fr b), .int .i64 p] w fun e w' => e = .returned (.int .i64 0) ∧ Grows w w' := by
  have hvv : ∀ w1, Gls w1 A l → Calls Try.prog 17 #[.agg (rcV lim (.slice A l.length cp) c fr b)] w1 fun e w' => e = .returned (.bool false) ∧ Grows w1 w' := fun w1 h => by
    have := gvalidR lim fr A cp l c b w1 h hl
    rw [hok] at this
    exact this
  obtain ⟨bs, hsb, gb⟩ : ∃ bs : Array Value, bs.size = 24 ∧ ∀ j, j < 24 → bs[j]? = some (.int .i64 (b j)) := by
    refine ⟨((List.range 24).map fun i => Value.int .i64 (b i)).toArray, by simp, fun j hj => ?_⟩
    rw [List.getElem?_toArray, List.getElem?_map, List.getElem?_range hj]
    rfl
  have gk := rcV_b lim (.slice A l.length cp) c fr b
  have hpart : ∀ (w1 : World) (G : Nat), Blk w1 G 28 (rcV lim (.slice A l.length cp) c fr b) → ∀ j v, bs[j]? = some v → w1.cell? ((⟨G, 8, none⟩ : Addr).add j) = some v := by
    intro w1 G hb j v hj
    have hj2 : j < 24 := by
      have := (Array.getElem?_eq_some_iff.1 hj).1
      omega
    have ha : (⟨G, 8, none⟩ : Addr).add j = ⟨G, 8 + j, none⟩ := by
      unfold Addr.add
      split
      · simp_all
      · rfl
    rw [ha, hb.cell, gk j hj2, ← gb j hj2, hj]
  have hi : (Try.prog.info? 26).map (·.size) = some bs.size := by rw [hsb]; kernel_rfl
  have hix : ∀ (w1 : World) (k : Nat), k < 24 → (Instr.index 26 (.agg bs) (.int .i64 k)).run Try.prog w1 = .ok (.int .i64 (b k)) w1 := fun w1 k hk => run_index_arr w1 bs Try.underlying26 Try.underlying3 (by first | exact Try.info3 | rfl) rfl hk (gb k hk)
  have k2 := Blk.new w 28 (rcV lim (.slice A l.length cp) c fr b)
  have hB := (Below.refl w.heap.size w).alloc (Nat.le_refl _) (Obj.cells (rcV lim (.slice A l.length cp) c fr b) 28)
  go_enter Try.func11, Try.ntmps11
  go_upto_region 2 with fail
  generalize World.alloc w _ = w1 at *
  refine wp_region_lit ?_
  iterate 1
    refine wpList_plain rfl (fun K hK => ?_)
    go_simp
    refine hK _ _ ?_
    clear hK K
  refine wpList_load_part rfl _ rfl rfl (hpart w1 _ k2) Try.underlying26 rfl hi ?_
  go_wp2_with fail
  go_loopw [5, 13] (fun s i wr => ∃ k : Nat, k ≤ 24 ∧ i = .int .i64 k ∧ (∃ S, s = .int .i64 S) ∧ wr = w1) (fun _ i _ => 24 - (intOf i).toNat)
  case atStart => exact ⟨0, by omega, rfl, ⟨0, rfl⟩, rfl⟩
  case round =>
    obtain ⟨k, hk, rfl, ⟨S, rfl⟩, rfl⟩ := hrel
    by_cases hlt : k < 24
    · have hx := gb k hlt
      go_wp2_with fail
      go_wp2
      go_roundw
      case rel => exact ⟨k + 1, by omega, by go_num, ⟨_, rfl⟩, by first | rfl | trivial⟩
      case measure => simp [intOf]; omega
    · obtain rfl : k = 24 := by omega
      go_upto_region 7 with fail
      refine wp_region_lit ?_
      refine wpList_load_row rfl _ rfl rfl k2 Try.underlying28 rfl (rcV_info _ _ _ _ _) ?_
      go_wp2_with fail
      refine (hvv _ (hg.grows hB)).mono ?_
      rintro e w2 ⟨rfl, hq⟩
      replace k2 := k2.grows hq
      replace hB := below_grows hB (Nat.le_refl _) hq
      clear hq hvv
      go_wp2
      go_ret
      exact ⟨rfl, hB⟩
set_option maxHeartbeats 8000000 in
theorem most_good2 (lim fr p : Int) (A : Option Addr) (cp : Nat) (l : List Gl) (c b : Nat → Int) (w : World) (hg : Gls w A l) (hl : l.length ≤ 1000000) (hok : okR lim l c fr b = true) :
    Calls Try.prog 11 #[.agg (rcV lim (.slice A l.length cp) c fr b), .int .i64 p] w fun e w' => ∃ r, MostP b p r ∧ e = .returned (.int .i64 r) ∧ Grows w w' := by
  have hvv : ∀ w1, Gls w1 A l → Calls Try.prog 17 #[.agg (rcV lim (.slice A l.length cp) c fr b)] w1 fun e w' => e = .returned (.bool true) ∧ Grows w1 w' := fun w1 h => by
    have := gvalidR lim fr A cp l c b w1 h hl
    rw [hok] at this
    exact this
  obtain ⟨-, -, -, -, -, -, hb⟩ := (okR_iff lim l c fr b).1 hok
  have hbd : ∀ i, i < 24 → 0 ≤ b i ∧ b i ≤ 1099511627776 := fun i hi => bd_of (hb i hi)
  have hps := psum_bd b hbd
  obtain ⟨bs, hsb, gb⟩ : ∃ bs : Array Value, bs.size = 24 ∧ ∀ j, j < 24 → bs[j]? = some (.int .i64 (b j)) := by
    refine ⟨((List.range 24).map fun i => Value.int .i64 (b i)).toArray, by simp, fun j hj => ?_⟩
    rw [List.getElem?_toArray, List.getElem?_map, List.getElem?_range hj]
    rfl
  have gk := rcV_b lim (.slice A l.length cp) c fr b
  have hpart : ∀ (w1 : World) (G : Nat), Blk w1 G 28 (rcV lim (.slice A l.length cp) c fr b) → ∀ j v, bs[j]? = some v → w1.cell? ((⟨G, 8, none⟩ : Addr).add j) = some v := by
    intro w1 G hb j v hj
    have hj2 : j < 24 := by
      have := (Array.getElem?_eq_some_iff.1 hj).1
      omega
    have ha : (⟨G, 8, none⟩ : Addr).add j = ⟨G, 8 + j, none⟩ := by
      unfold Addr.add
      split
      · simp_all
      · rfl
    rw [ha, hb.cell, gk j hj2, ← gb j hj2, hj]
  have hi : (Try.prog.info? 26).map (·.size) = some bs.size := by rw [hsb]; kernel_rfl
  have hix : ∀ (w1 : World) (k : Nat), k < 24 → (Instr.index 26 (.agg bs) (.int .i64 k)).run Try.prog w1 = .ok (.int .i64 (b k)) w1 := fun w1 k hk => run_index_arr w1 bs Try.underlying26 Try.underlying3 (by first | exact Try.info3 | rfl) rfl hk (gb k hk)
  clear hok
  have k2 := Blk.new w 28 (rcV lim (.slice A l.length cp) c fr b)
  have hB := (Below.refl w.heap.size w).alloc (Nat.le_refl _) (Obj.cells (rcV lim (.slice A l.length cp) c fr b) 28)
  go_enter Try.func11, Try.ntmps11
  go_upto_region 2 with fail
  generalize World.alloc w _ = w1 at *
  refine wp_region_lit ?_
  iterate 1
    refine wpList_plain rfl (fun K hK => ?_)
    go_simp
    refine hK _ _ ?_
    clear hK K
  refine wpList_load_part rfl _ rfl rfl (hpart w1 _ k2) Try.underlying26 rfl hi ?_
  go_wp2_with fail
  go_loopw [5, 13] (fun s i wr => ∃ k : Nat, k ≤ 24 ∧ i = .int .i64 k ∧ s = .int .i64 (psum b k) ∧ wr = w1) (fun _ i _ => 24 - (intOf i).toNat)
  case atStart => exact ⟨0, by omega, rfl, rfl, rfl⟩
  case round =>
    obtain ⟨k, hk, rfl, rfl, rfl⟩ := hrel
    have hpk := hps k (by omega)
    by_cases hlt : k < 24
    · have hx := gb k hlt
      have hbk := hbd k hlt
      go_wp2_with fail
      go_wp2
      go_roundw
      case rel => exact ⟨k + 1, by omega, by go_num, by simp [psum], by first | rfl | trivial⟩
      case measure => simp [intOf]; omega
    · obtain rfl : k = 24 := by omega
      go_upto_region 7 with fail
      refine wp_region_lit ?_
      refine wpList_load_row rfl _ rfl rfl k2 Try.underlying28 rfl (rcV_info _ _ _ _ _) ?_
      go_wp2_with fail
      refine (hvv _ (hg.grows hB)).mono ?_
      rintro e w2 ⟨rfl, hq⟩
      replace k2 := k2.grows hq
      replace hB := below_grows hB (Nat.le_refl _) hq
      clear hq hvv
      by_cases hp : 0 ≤ p
      rotate_left
      · go_wp2
        go_ret
        exact ⟨0, ⟨fun h => absurd h (by omega), fun _ => rfl⟩, rfl, hB⟩
      by_cases hp2 : p ≤ 100
      rotate_left
      · go_wp2
        go_ret
        exact ⟨0, ⟨fun h => absurd h (by omega), fun _ => rfl⟩, rfl, hB⟩
      by_cases h0 : psum b 24 = 0
      · rw [h0]
        go_wp2
        go_ret
        exact ⟨0, ⟨fun _ => ⟨fun _ => rfl, fun h => absurd h0 h⟩, fun h => absurd ⟨hp, hp2⟩ h⟩, rfl, hB⟩
      · have hd : (psum b 24 == 0) = false := by simpa using h0
        have hd2 : decide (p < 0) = false := by simpa using hp
        have hd3 : decide (100 < p) = false := by simpa using hp2
        have hS := hps 24 (by omega)
        have hpS : 0 ≤ p * psum b 24 := Int.mul_nonneg hp hS.1
        have hpS2 : p * psum b 24 ≤ 100 * psum b 24 := Int.mul_le_mul_of_nonneg_right hp2 hS.1
        go_upto_region 10 with fail
        refine wp_region_lit ?_
        iterate 1
          refine wpList_plain rfl (fun K hK => ?_)
          go_simp
          refine hK _ _ ?_
          clear hK K
        refine wpList_load_part rfl _ rfl rfl (hpart w2 _ k2) Try.underlying26 rfl hi ?_
        go_wp2_with fail
        go_loopw [8, 37] (fun s i wr => ∃ k : Nat, k ≤ 24 ∧ i = .int .i64 k ∧ s = .int .i64 (psum b k) ∧ wr = w2 ∧ ∀ j, j < k → psum b (j + 1) * 100 < p * psum b 24) (fun _ i _ => 24 - (intOf i).toNat)
        case atStart => exact ⟨0, by omega, rfl, rfl, rfl, fun j hj => absurd hj (by omega)⟩
        case round =>
          obtain ⟨k, hk, rfl, rfl, rfl, hall⟩ := hrel
          have hpk := hps k (by omega)
          by_cases hlt : k < 24
          · have hx := gb k hlt
            have hbk := hbd k hlt
            have hpk1 := hps (k + 1) (by omega)
            simp only [psum] at hpk1
            have hw : wrap64 (wrap64 (2 ^ k) - 1) = 2 ^ k - 1 := pow_wrap k hlt
            by_cases hle : p * psum b 24 ≤ (psum b k + b k) * 100
            · go_wp2
              go_ret
              exact ⟨2 ^ k - 1, ⟨fun _ => ⟨fun h => absurd h h0, fun _ => ⟨k, hlt, rfl, by simpa [psum] using hle, hall⟩⟩, fun h => absurd ⟨hp, hp2⟩ h⟩, ret_int hw, hB⟩
            · go_wp2
              go_roundw
              case rel =>
                refine ⟨k + 1, by omega, by go_num, by simp [psum], by first | rfl | trivial, ?_⟩
                intro j hj
                rcases Nat.lt_succ_iff_lt_or_eq.1 hj with hj | rfl
                · exact hall j hj
                · rw [show psum b (j + 1) = psum b j + b j from rfl]; omega
              case measure => simp [intOf]; omega
          · exfalso
            obtain rfl : k = 24 := by omega
            have := hall 23 (by omega)
            simp only [show 23 + 1 = 24 from rfl] at this
            omega
theorem mostR (R : Rec) (v : Value) (p : Int) (w : World) (hv : RecV w R v) (hl : R.l.length ≤ 1000000) : Calls Try.prog 11 #[v, .int .i64 p] w fun e w' => ∃ r, MostR R p r ∧ e = .returned (.int .i64 r) ∧ Grows w w' := by
  obtain ⟨A, cp, rfl, hg⟩ := hv
  obtain ⟨lim, l, c, fr, b⟩ := R
  simp only [] at *
  cases hok : okR lim l c fr b
  · exact (most_bad lim fr p A cp l c b w hg hl hok).mono fun e w' ⟨h1, h2⟩ => ⟨0, mostR_no (fun hc => by rw [show Rec.ok ⟨lim, l, c, fr, b⟩ = okR lim l c fr b from rfl, hok] at hc; cases hc.1), h1, h2⟩
  · refine (most_good2 lim fr p A cp l c b w hg hl hok).mono fun e w' ⟨r, hr, h1, h2⟩ => ⟨r, ?_, h1, h2⟩
    exact ⟨fun h => hr.1 h.2, fun h => hr.2 fun hc => h ⟨hok, hc⟩⟩
set_option maxHeartbeats 8000000 in
theorem rmost_bad (lim fr p : Int) (A : Option Addr) (cp : Nat) (l : List Gl) (c b : Nat → Int) (w : World) (hg : Gls w A l) (hl : l.length ≤ 1000000) (hok : okR lim l c fr b = false) :
    Calls Try.prog 16 #[.agg (rcV lim (.slice A l.length cp) c fr b), .int .i64 p] w fun e w' => e = .returned (.int .i64 0) ∧ Grows w w' := by
  have hvv : ∀ w1, Gls w1 A l → Calls Try.prog 18 #[.agg (rcV lim (.slice A l.length cp) c fr b)] w1 fun e w' => e = .returned (.bool false) ∧ Grows w1 w' := fun w1 h => by
    have := rvalidR lim fr A cp l c b w1 h hl
    rw [hok] at this
    exact this
  have k2 := Blk.new w 28 (rcV lim (.slice A l.length cp) c fr b)
  have hB := (Below.refl w.heap.size w).alloc (Nat.le_refl _) (Obj.cells (rcV lim (.slice A l.length cp) c fr b) 28)
  have gk := rcV_b lim (.slice A l.length cp) c fr b
  go_enter Try.func16, Try.ntmps16
  go_upto_region 3 with fail
  generalize World.alloc w _ = w1 at *
  go_loopw [5, 6] (fun s i wr => i = .int .i64 0 ∧ s = .int .i64 0 ∧ wr = w1) (fun _ _ _ => 0)
  case atStart => exact ⟨rfl, rfl, rfl⟩
  case round =>
    obtain ⟨rfl, rfl, rfl⟩ := hrel
    go_upto_region 3 with fail
    refine wp_region_lit ?_
    iterate 3
      refine wpList_plain rfl (fun K hK => ?_)
      go_simp
      refine hK _ _ ?_
      clear hK K
    refine wpList_load_rowg rfl _ rfl rfl k2 Try.underlying28 rfl (rcV_info _ _ _ _ _) ?_
    refine BigFrame.wpList_want rfl (fun K hK => ?_)
    go_simp
    refine (hvv _ (hg.grows hB)).mono ?_
    rintro e w5 ⟨rfl, hq⟩
    refine hK _ _ ?_
    clear hK K
    replace k2 := k2.grows hq
    replace hB := below_grows hB (Nat.le_refl _) hq
    clear hq
    go_wp2
    go_ret
    exact ⟨rfl, hB⟩
set_option maxHeartbeats 8000000 in
theorem rmost_good (lim fr p : Int) (A : Option Addr) (cp : Nat) (l : List Gl) (c b : Nat → Int) (w : World) (hg : Gls w A l) (hl : l.length ≤ 1000000) (hok : okR lim l c fr b = true) :
    Calls Try.prog 16 #[.agg (rcV lim (.slice A l.length cp) c fr b), .int .i64 p] w fun e w' => ∃ r, MostP b p r ∧ e = .returned (.int .i64 r) ∧ Grows w w' := by
  have hvv : ∀ w1, Gls w1 A l → Calls Try.prog 18 #[.agg (rcV lim (.slice A l.length cp) c fr b)] w1 fun e w' => e = .returned (.bool true) ∧ Grows w1 w' := fun w1 h => by
    have := rvalidR lim fr A cp l c b w1 h hl
    rw [hok] at this
    exact this
  obtain ⟨-, -, -, -, -, -, hb⟩ := (okR_iff lim l c fr b).1 hok
  have hbd : ∀ i, i < 24 → 0 ≤ b i ∧ b i ≤ 1099511627776 := fun i hi => bd_of (hb i hi)
  have hps := psum_bd b hbd
  clear hok
  have k2 := Blk.new w 28 (rcV lim (.slice A l.length cp) c fr b)
  have hB := (Below.refl w.heap.size w).alloc (Nat.le_refl _) (Obj.cells (rcV lim (.slice A l.length cp) c fr b) 28)
  have gk := rcV_b lim (.slice A l.length cp) c fr b
  go_enter Try.func16, Try.ntmps16
  go_upto_region 3 with fail
  generalize World.alloc w _ = w1 at *
  go_loopw [5, 6] (fun s i wr => ∃ k : Nat, k ≤ 24 ∧ i = .int .i64 k ∧ s = .int .i64 (psum b k) ∧ Below w.heap.size w wr ∧ Blk wr w.heap.size 28 (rcV lim (.slice A l.length cp) c fr b)) (fun _ i _ => 24 - (intOf i).toNat)
  case atStart => exact ⟨0, by omega, rfl, rfl, hB, k2⟩
  case round =>
    clear hB k2
    obtain ⟨k, hk, rfl, rfl, hB, k2⟩ := hrel
    have hpk := hps k (by omega)
    by_cases hlt : k < 24
    · have hbk := hbd k hlt
      have hdk : decide ((k : Int) < 24) = true := by simp; omega
      go_upto_region 3 with fail
      refine wp_region_lit ?_
      iterate 3
        refine wpList_plain rfl (fun K hK => ?_)
        go_simp
        refine hK _ _ ?_
        clear hK K
      refine wpList_load_rowg rfl _ rfl rfl k2 Try.underlying28 rfl (rcV_info _ _ _ _ _) ?_
      refine BigFrame.wpList_want rfl (fun K hK => ?_)
      go_simp
      refine (hvv _ (hg.grows hB)).mono ?_
      rintro e w5 ⟨rfl, hq⟩
      refine hK _ _ ?_
      clear hK K
      replace k2 := k2.grows hq
      replace hB := below_grows hB (Nat.le_refl _) hq
      clear hq
      have x2 := k2.cell (8 + k)
      rw [gk k hlt] at x2
      go_wp2
      go_roundw
      case rel => exact ⟨k + 1, by omega, by go_num, by simp [psum], hB, k2⟩
      case measure => simp [intOf]; omega
    · obtain rfl : k = 24 := by omega
      clear hvv
      by_cases hp : 0 ≤ p
      rotate_left
      · go_wp2
        all_goals (go_ret; exact ⟨0, ⟨fun h => absurd h (by omega), fun _ => rfl⟩, rfl, hB⟩)
      by_cases hp2 : p ≤ 100
      rotate_left
      · go_wp2
        all_goals (go_ret; exact ⟨0, ⟨fun h => absurd h (by omega), fun _ => rfl⟩, rfl, hB⟩)
      by_cases h0 : psum b 24 = 0
      · rw [h0]
        go_wp2
        go_ret
        exact ⟨0, ⟨fun _ => ⟨fun _ => rfl, fun h => absurd h0 h⟩, fun h => absurd ⟨hp, hp2⟩ h⟩, rfl, hB⟩
      · have hd : (psum b 24 == 0) = false := by simpa using h0
        have hd2 : decide (p < 0) = false := by simpa using hp
        have hd3 : decide (100 < p) = false := by simpa using hp2
        have hS := hps 24 (by omega)
        have hpS : 0 ≤ p * psum b 24 := Int.mul_nonneg hp hS.1
        have hpS2 : p * psum b 24 ≤ 100 * psum b 24 := Int.mul_le_mul_of_nonneg_right hp2 hS.1
        simp only [Int.cast_ofNat_Int]
        go_upto_region 10 with fail
        go_loopw [7, 8] (fun s i wr2 => ∃ k : Nat, k ≤ 24 ∧ i = .int .i64 k ∧ s = .int .i64 (psum b k) ∧ wr2 = wr ∧ ∀ j, j < k → psum b (j + 1) * 100 < p * psum b 24) (fun _ i _ => 24 - (intOf i).toNat)
        case atStart => exact ⟨0, by omega, rfl, rfl, rfl, fun j hj => absurd hj (by omega)⟩
        case round =>
          obtain ⟨k, hk, rfl, rfl, rfl, hall⟩ := hrel
          have hpk := hps k (by omega)
          by_cases hlt : k < 24
          · have x2 := k2.cell (8 + k)
            rw [gk k hlt] at x2
            have hbk := hbd k hlt
            have hpk1 := hps (k + 1) (by omega)
            simp only [psum] at hpk1
            have hw : wrap64 (wrap64 (2 ^ k) - 1) = 2 ^ k - 1 := pow_wrap k hlt
            by_cases hle : p * psum b 24 ≤ (psum b k + b k) * 100
            · go_wp2
              go_ret
              exact ⟨2 ^ k - 1, ⟨fun _ => ⟨fun h => absurd h h0, fun _ => ⟨k, hlt, rfl, by simpa [psum] using hle, hall⟩⟩, fun h => absurd ⟨hp, hp2⟩ h⟩, ret_int hw, hB⟩
            · go_wp2
              go_roundw
              case rel =>
                refine ⟨k + 1, by omega, by go_num, by simp [psum], by first | rfl | trivial, ?_⟩
                intro j hj
                rcases Nat.lt_succ_iff_lt_or_eq.1 hj with hj | rfl
                · exact hall j hj
                · rw [show psum b (j + 1) = psum b j + b j from rfl]; omega
              case measure => simp [intOf]; omega
          · exfalso
            obtain rfl : k = 24 := by omega
            have := hall 23 (by omega)
            simp only [show 23 + 1 = 24 from rfl] at this
            omega
theorem rmostR (R : Rec) (v : Value) (p : Int) (w : World) (hv : RecV w R v) (hl : R.l.length ≤ 1000000) : Calls Try.prog 16 #[v, .int .i64 p] w fun e w' => ∃ r, MostR R p r ∧ e = .returned (.int .i64 r) ∧ Grows w w' := by
  obtain ⟨A, cp, rfl, hg⟩ := hv
  obtain ⟨lim, l, c, fr, b⟩ := R
  simp only [] at *
  cases hok : okR lim l c fr b
  · exact (rmost_bad lim fr p A cp l c b w hg hl hok).mono fun e w' ⟨h1, h2⟩ => ⟨0, mostR_no (fun hc => by rw [show Rec.ok ⟨lim, l, c, fr, b⟩ = okR lim l c fr b from rfl, hok] at hc; cases hc.1), h1, h2⟩
  · refine (rmost_good lim fr p A cp l c b w hg hl hok).mono fun e w' ⟨r, hr, h1, h2⟩ => ⟨r, ?_, h1, h2⟩
    exact ⟨fun h => hr.1 h.2, fun h => hr.2 fun hc => h ⟨hok, hc⟩⟩
end Go.Proofs.Ytbohbapheofpiaa
