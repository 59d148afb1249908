/-
  Layer 37: glitches joined: the laws in one.
-/
import Derived.Test.YtbmoiokpkcaccaaGlB
namespace Go.Proofs.Ytbmoiokpkcaccaa
open Go.RowKit
set_option maxHeartbeats 8000000 in
theorem rjoin_yes (k a q s d f qq ff : Int) (w : World) (h1 : okG ⟨k, a, q, s, d, f⟩ = true) (h2 : okG ⟨k, a + q, qq, s, d, ff⟩ = true) (h3 : q + qq ≤ 4096) (h4 : f + ff ≤ 1099511627776) : Calls Try.prog 14 #[.agg #[.int .i64 k, .int .i64 a, .int .i64 q, .int .i64 s, .int .u64 d, .int .i64 f], .agg #[.int .i64 k, .int .i64 (a + q), .int .i64 qq, .int .i64 s, .int .u64 d, .int .i64 ff]] w fun e w' => e = .returned (joinV (some ⟨k, a, q + qq, s, d, f + ff⟩)) ∧ Grows w w' := by
  have v1 : ∀ w1, Calls Try.prog 8 #[.agg #[.int .i64 k, .int .i64 a, .int .i64 q, .int .i64 s, .int .u64 d, .int .i64 f]] w1 fun e w' => e = .returned (.bool true) ∧ Grows w1 w' := fun w1 => by
    have := grvalid_any k a q s d f w1
    rw [h1] at this
    exact this
  have v2 : ∀ w1, Calls Try.prog 8 #[.agg #[.int .i64 k, .int .i64 (a + q), .int .i64 qq, .int .i64 s, .int .u64 d, .int .i64 ff]] w1 fun e w' => e = .returned (.bool true) ∧ Grows w1 w' := fun w1 => by
    have := grvalid_any k (a + q) qq s d ff w1
    rw [h2] at this
    exact this
  have v3 : ∀ w1, Calls Try.prog 26 #[.agg #[.int .i64 k, .int .i64 a, .int .i64 q, .int .i64 s, .int .u64 d, .int .i64 f], .agg #[.int .i64 k, .int .i64 (a + q), .int .i64 qq, .int .i64 s, .int .u64 d, .int .i64 ff]] w1 fun e w' => e = .returned (.bool true) ∧ Grows w1 w' := fun w1 => by
    have := kin_any k a q s d f k (a + q) qq s d ff w1
    simpa [kinG] using this
  have b1 := okG_bd h1
  have b2 := okG_bd h2
  clear h1 h2
  go_enter Try.func14, Try.ntmps14
  go_upto_region 1 with fail
  have k1 := ((Blk.new w 28 #[.int .i64 k, .int .i64 a, .int .i64 q, .int .i64 s, .int .u64 d, .int .i64 f]).alloc (Obj.cells #[.int .i64 k, .int .i64 (a + q), .int .i64 qq, .int .i64 s, .int .u64 d, .int .i64 ff] 28)).alloc (Obj.cells #[.int .i64 0, .int .i64 0, .int .i64 0, .int .i64 0, .int .u64 0, .int .i64 0] 28)
  have k2 := (blk_new_at (X := w.alloc (Obj.cells #[.int .i64 k, .int .i64 a, .int .i64 q, .int .i64 s, .int .u64 d, .int .i64 f] 28)) (n := w.heap.size + 1) (t := 28) (cs := #[.int .i64 k, .int .i64 (a + q), .int .i64 qq, .int .i64 s, .int .u64 d, .int .i64 ff]) (by simp)).alloc (Obj.cells #[.int .i64 0, .int .i64 0, .int .i64 0, .int .i64 0, .int .u64 0, .int .i64 0] 28)
  have k3 := blk_new_at (X := (w.alloc (Obj.cells #[.int .i64 k, .int .i64 a, .int .i64 q, .int .i64 s, .int .u64 d, .int .i64 f] 28)).alloc (Obj.cells #[.int .i64 k, .int .i64 (a + q), .int .i64 qq, .int .i64 s, .int .u64 d, .int .i64 ff] 28)) (n := w.heap.size + 2) (t := 28) (cs := #[.int .i64 0, .int .i64 0, .int .i64 0, .int .i64 0, .int .u64 0, .int .i64 0]) (by simp)
  have hB := (((Below.refl w.heap.size w).alloc (Nat.le_refl _) (Obj.cells #[.int .i64 k, .int .i64 a, .int .i64 q, .int .i64 s, .int .u64 d, .int .i64 f] 28)).alloc (by simp) (Obj.cells #[.int .i64 k, .int .i64 (a + q), .int .i64 qq, .int .i64 s, .int .u64 d, .int .i64 ff] 28)).alloc (by simp; omega) (Obj.cells #[.int .i64 0, .int .i64 0, .int .i64 0, .int .i64 0, .int .u64 0, .int .i64 0] 28)
  generalize World.alloc (World.alloc (World.alloc w _) _) _ = w1 at *
  have x1 := k1.cell
  have x2 := k2.cell
  go_wp2_with fail
  clear x1 x2
  refine (v1 _).mono ?_
  rintro e w2 ⟨rfl, hq⟩
  replace k1 := k1.grows hq
  replace k2 := k2.grows hq
  replace k3 := k3.grows hq
  replace hB := below_grows hB (Nat.le_refl _) hq
  clear hq
  generalize w2 = w1 at *
  have x1 := k1.cell
  have x2 := k2.cell
  go_wp2_with fail
  clear x1 x2
  refine (v2 _).mono ?_
  rintro e w2 ⟨rfl, hq⟩
  replace k1 := k1.grows hq
  replace k2 := k2.grows hq
  replace k3 := k3.grows hq
  replace hB := below_grows hB (Nat.le_refl _) hq
  clear hq
  generalize w2 = w1 at *
  have x1 := k1.cell
  have x2 := k2.cell
  go_wp2_with fail
  clear x1 x2
  refine (v3 _).mono ?_
  rintro e w2 ⟨rfl, hq⟩
  replace k1 := k1.grows hq
  replace k2 := k2.grows hq
  replace k3 := k3.grows hq
  replace hB := below_grows hB (Nat.le_refl _) hq
  clear hq
  generalize w2 = w1 at *
  have x1 := k1.cell
  have y1 := k1.frozen
  have x2 := k2.cell
  have x3 := k3.cell
  have y3 := k3.frozen
  go_upto_region 3 with fail
  go_region
  go_wp2
  refine bodyPost_ret (v := .tuple #[.agg #[.int .i64 k, .int .i64 a, .int .i64 (q + qq), .int .i64 s, .int .u64 d, .int .i64 (f + ff)], .bool true]) (by simp [results, Try.results14, go_sem, x3]) rfl ⟨rfl, ?_⟩
  refine below_grows ?_ (Nat.le_refl _) (Grows.drew' _)
  iterate 8 refine Below.setCell ?_ (by first | exact Nat.le_refl _ | (simp; omega)) _
  exact hB
theorem okG_sum {k a q s d f qq ff aa : Int} (h1 : okG ⟨k, a, q, s, d, f⟩ = true) (h2 : okG ⟨k, aa, qq, s, d, ff⟩ = true) : okG ⟨k, a, q + qq, s, d, f + ff⟩ = (decide (q + qq ≤ 4096) && decide (f + ff ≤ 1099511627776)) := by
  have b2 := okG_bd h2
  apply Bool.eq_iff_iff.2
  simp only [okG, Bool.and_eq_true, Bool.or_eq_true, decide_eq_true_eq, beq_iff_eq] at *
  omega
theorem joinF_eq (g h : Gl) : joinF g h = if okG g = true ∧ okG h = true ∧ kinG g h = true ∧ h.a = g.a + g.q ∧ g.q + h.q ≤ 4096 ∧ g.f + h.f ≤ 1099511627776 then some ⟨g.k, g.a, g.q + h.q, g.s, g.d, g.f + h.f⟩ else none := by
  unfold joinF
  simp only [Bool.and_eq_true, beq_iff_eq, decide_eq_true_eq, and_assoc]
theorem kinG_eq {g h : Gl} (x : kinG g h = true) : h.k = g.k ∧ h.s = g.s ∧ h.d = g.d := by
  simp only [kinG, Bool.and_eq_true, beq_iff_eq] at x
  omega
theorem join_any (g h : Gl) (w : World) : Calls Try.prog 13 #[.agg g.cs, .agg h.cs] w fun e w' => e = .returned (joinV (joinF g h)) ∧ Grows w w' := by
  rw [joinF_eq]
  obtain ⟨k, a, q, s, d, f⟩ := g
  obtain ⟨kk, aa, qq, ss, dd, ff⟩ := h
  simp only []
  cases h1 : okG ⟨k, a, q, s, d, f⟩
  · rw [if_neg (by simp)]
    exact join_no1 k a q s d f kk aa qq ss dd ff w h1
  cases h2 : okG ⟨kk, aa, qq, ss, dd, ff⟩
  · rw [if_neg (by simp)]
    exact join_no2 k a q s d f kk aa qq ss dd ff w h1 h2
  cases h3 : kinG ⟨k, a, q, s, d, f⟩ ⟨kk, aa, qq, ss, dd, ff⟩
  · rw [if_neg (by simp)]
    exact join_no3 k a q s d f kk aa qq ss dd ff w h1 h2 h3
  obtain ⟨e1, e2, e3⟩ := kinG_eq h3
  simp only [] at e1 e2 e3
  subst e1 e2 e3
  by_cases h4 : aa = a + q
  · subst h4
    have hs := okG_sum h1 h2
    cases h5 : okG ⟨kk, a, q + qq, ss, dd, f + ff⟩
    · rw [h5] at hs
      rw [if_neg (by intro hc; simp [hc.2.2.2.2.1, hc.2.2.2.2.2] at hs)]
      exact join_no5 kk a q ss dd f qq ff w h1 h2 h5
    · rw [h5] at hs
      simp only [Bool.true_eq, Bool.and_eq_true, decide_eq_true_eq] at hs
      rw [if_pos ⟨rfl, rfl, rfl, rfl, hs.1, hs.2⟩]
      exact join_yes kk a q ss dd f qq ff w h1 h2 h5
  · rw [if_neg (fun hc => h4 hc.2.2.2.1)]
    exact join_no4 kk a q ss dd f aa qq ff w h1 h2 h4
theorem rjoin_any (g h : Gl) (w : World) : Calls Try.prog 14 #[.agg g.cs, .agg h.cs] w fun e w' => e = .returned (joinV (joinF g h)) ∧ Grows w w' := by
  rw [joinF_eq]
  obtain ⟨k, a, q, s, d, f⟩ := g
  obtain ⟨kk, aa, qq, ss, dd, ff⟩ := h
  simp only []
  cases h1 : okG ⟨k, a, q, s, d, f⟩
  · rw [if_neg (by simp)]
    exact rjoin_no1 k a q s d f kk aa qq ss dd ff w h1
  cases h2 : okG ⟨kk, aa, qq, ss, dd, ff⟩
  · rw [if_neg (by simp)]
    exact rjoin_no2 k a q s d f kk aa qq ss dd ff w h1 h2
  cases h3 : kinG ⟨k, a, q, s, d, f⟩ ⟨kk, aa, qq, ss, dd, ff⟩
  · rw [if_neg (by simp)]
    exact rjoin_no3 k a q s d f kk aa qq ss dd ff w h1 h2 h3
  by_cases h4 : aa = a + q ∧ q + qq ≤ 4096 ∧ f + ff ≤ 1099511627776
  · rw [if_pos ⟨rfl, rfl, rfl, h4.1, h4.2.1, h4.2.2⟩]
    obtain ⟨e1, e2, e3⟩ := kinG_eq h3
    simp only [] at e1 e2 e3
    subst e1 e2 e3
    obtain ⟨rfl, h5, h6⟩ := h4
    exact rjoin_yes kk a q ss dd f qq ff w h1 h2 h5 h6
  · rw [if_neg (fun hc => h4 ⟨hc.2.2.2.1, hc.2.2.2.2.1, hc.2.2.2.2.2⟩)]
    exact rjoin_no4 k a q s d f kk aa qq ss dd ff w h1 h2 h3 (fun x y => by omega)
end Go.Proofs.Ytbmoiokpkcaccaa
