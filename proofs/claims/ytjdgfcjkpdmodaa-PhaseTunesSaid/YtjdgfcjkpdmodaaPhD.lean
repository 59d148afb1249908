/-
  Layer 14: how many output frames can be made; the reference's need.
-/
import Derived.Test.YtjdgfcjkpdmodaaPhC
import Derived.Lib.Hide
namespace Go.Proofs.Ytjdgfcjkpdmodaa
open Go.RowKit

theorem ahead_mono {n d a p f j k : Int} (h : okP n d a p f = true) (hjk : j ≤ k) : aheadF n a f j ≤ aheadF n a f k := by
  obtain ⟨-, -, -, -, -, -, c1, -, -⟩ := ahead_bd (k := 0) h (by omega) (by omega)
  have := Int.mul_le_mul_of_nonneg_right hjk c1
  unfold aheadF
  rw [Int.mul_assoc, Int.mul_assoc]
  omega
theorem need_mono {n d a p f j k : Int} (h : okP n d a p f = true) (h0 : 0 ≤ j) (hjk : j ≤ k) (hk : k ≤ 65537) : needF n d a f j ≤ needF n d a f k := by
  obtain ⟨b1, b2, b3, b4, b5, b6, b7, b8, b9, b10⟩ := okP_bd h
  have hd : 0 < d * 65536 := by omega
  by_cases hj : j = 0
  · subst hj
    unfold needF
    rw [if_pos rfl]
    split
    · omega
    · obtain ⟨-, -, -, -, c5, -, -, -, -⟩ := ahead_bd h (by omega : 0 ≤ k) hk
      have := Int.ediv_nonneg c5 (by omega : 0 ≤ d * 65536)
      omega
  · unfold needF
    rw [if_neg hj, if_neg (by omega)]
    have h1 := Int.ediv_le_ediv hd (ahead_mono h (show j - 1 ≤ k - 1 by omega))
    have h2 := Int.ediv_le_ediv hd (ahead_mono h hjk)
    omega
/-- r is how many output frames can be made of m input frames. -/
def IsMake (n d a f m r : Int) : Prop := 0 ≤ r ∧ r ≤ 65536 ∧ needF n d a f r ≤ m ∧ (r = 65536 ∨ m < needF n d a f (r + 1))
theorem make_one {n d a p f m r s : Int} (h : okP n d a p f = true) (hr : IsMake n d a f m r) (hs : IsMake n d a f m s) : r = s := by
  obtain ⟨r1, r2, r3, r4⟩ := hr
  obtain ⟨s1, s2, s3, s4⟩ := hs
  rcases Int.lt_trichotomy r s with hlt | he | hlt
  · have := need_mono h (show 0 ≤ r + 1 by omega) (show r + 1 ≤ s by omega) (by omega)
    omega
  · exact he
  · have := need_mono h (show 0 ≤ s + 1 by omega) (show s + 1 ≤ r by omega) (by omega)
    omega
theorem need_zero {n d a f : Int} : needF n d a f 0 = 0 := by unfold needF; rw [if_pos rfl]
def makE (n d a p f m : Int) : Int := if okP n d a p f = false then 1 else if m < 0 ∨ 1099511627776 < m then 2 else 0

set_option maxHeartbeats 4000000 in
theorem clo_any (n d a p f m i : Int) (g2 g3 : Nat) (w : World) (H : okP n d a p f = true) (k2 : Blk w g2 27 #[.int .i64 n, .int .i64 d, .int .i64 a, .int .i64 p, .int .i64 f]) (k3 : Blk w g3 2 #[.int .i64 m]) (h1 : 0 ≤ i) (h2 : i < 65536) :
    Calls Try.prog 37 #[.int .i64 i, .pointer (some ⟨g2, 0, none⟩), .pointer (some ⟨g3, 0, none⟩)] w fun e w' => e = .returned (.bool (decide (m < needF n d a f (i + 1)))) ∧ Grows w w' := by
  have wi : IntKind.i64.wrap (i + 1) = i + 1 := IntWalk.i64_in _ (by omega)
  have i1 : 0 ≤ i + 1 := by omega
  have i2 : i + 1 ≤ 65537 := by omega
  go_enter Try.func37, Try.ntmps37
  go_wp2
  refine wp_region_mix (fun w' => Below w.heap.size w w' ∧ Blk w' g2 27 #[.int .i64 n, .int .i64 d, .int .i64 a, .int .i64 p, .int .i64 f] ∧ Blk w' g3 2 #[.int .i64 m]) [] 7 11 (by kernel_rfl) (by kernel_rfl) rfl ?_ float_none ?_ ?_
  · exact fun w1 w2 ⟨h0, h1, h2⟩ hg => ⟨below_grows h0 (Nat.le_refl _) hg, h1.grows hg, h2.grows hg⟩
  · exact ⟨(Below.refl _ _).drew, k2.drew, k3.drew⟩
  · clear k2 k3
    simp only [List.take_succ_cons, List.take_zero, List.drop_succ_cons, List.drop_zero]
    iterate 7
      refine calm_plain rfl rfl (v := ?_) (a' := ?_) (fun w1 hw1 => ?_) ?_ ?_
      rotate_left 2
      · obtain ⟨_, j2, j3⟩ := hw1
        have c2 := j2.cell
        have c3 := j3.cell
        go_simp
        first | exact calm_val | (refine calm_call ?_; refine need_any _ _ _ _ _ _ _ ?_ ?_ ?_ <;> first | assumption | omega)
      · simp only [Act.put, List.setIfInBounds_toArray, List.set_cons_succ, List.set_cons_zero]
        rfl
    refine calm_done (end_none ?_)
    rintro w7 ⟨hB, -, -⟩
    go_wp2
    go_ret
    exact ⟨rfl, hB⟩
set_option maxHeartbeats 8000000 in
theorem search_any (n d a p f m : Int) (g2 g3 : Nat) (w : World) (H : okP n d a p f = true) (k2 : Blk w g2 27 #[.int .i64 n, .int .i64 d, .int .i64 a, .int .i64 p, .int .i64 f]) (k3 : Blk w g3 2 #[.int .i64 m]) (h1 : 0 ≤ m) :
    Calls Try.prog 36 #[.int .i64 65536, .func (.func 37) #[] #[.pointer (some ⟨g2, 0, none⟩), .pointer (some ⟨g3, 0, none⟩)]] w fun e w' => (∃ r, IsMake n d a f m r ∧ e = .returned (.int .i64 r)) ∧ Grows w w' := by
  go_enter Try.func36, Try.ntmps36
  go_wp2
  go_loopw [5, 6] (fun u v wr => ∃ i j : Int, u = .int .i64 i ∧ v = .int .i64 j ∧ 0 ≤ i ∧ i ≤ j ∧ j ≤ 65536 ∧ needF n d a f i ≤ m ∧ (j = 65536 ∨ m < needF n d a f (j + 1)) ∧ Grows w wr ∧ Blk wr g2 27 #[.int .i64 n, .int .i64 d, .int .i64 a, .int .i64 p, .int .i64 f] ∧ Blk wr g3 2 #[.int .i64 m]) (fun u v _ => (intOf v - intOf u).toNat)
  case atStart => exact ⟨0, 65536, rfl, rfl, by omega, by omega, by omega, by rw [need_zero]; omega, .inl rfl, Below.refl _ _, k2, k3⟩
  case round =>
    clear k2 k3
    obtain ⟨i, j, rfl, rfl, hi, hij, hj, hn1, hn2, hB, k2, k3⟩ := hrel
    by_cases hlt : i < j
    · have wa : IntKind.i64.wrap (i + j) = i + j := IntWalk.i64_in _ (by omega)
      have wb : IntKind.u64.wrap (i + j) = i + j := IntWalk.u64_in _ (by omega)
      have wc : IntKind.u64.wrap ((i + j) / 2) = (i + j) / 2 := IntWalk.u64_in _ (by omega)
      have wd : IntKind.i64.wrap ((i + j) / 2) = (i + j) / 2 := IntWalk.i64_in _ (by omega)
      have hh1 : i ≤ (i + j) / 2 := by omega
      have hh2 : (i + j) / 2 < j := by omega
      obtain ⟨h, hh⟩ : ∃ h, (i + j) / 2 = h := ⟨_, rfl⟩
      rw [hh] at hh1 hh2 wc wd
      have we : IntKind.i64.wrap (h + 1) = h + 1 := IntWalk.i64_in _ (by omega)
      go_wp2_with fail
      refine (clo_any n d a p f m h g2 g3 _ H k2 k3 (by omega) (by omega)).mono ?_
      rintro e w2 ⟨rfl, hq⟩
      replace k2 := k2.grows hq
      replace k3 := k3.grows hq
      replace hB := hB.trans' hq
      by_cases hm : m < needF n d a f (h + 1)
      · have q1 : decide (m < needF n d a f (h + 1)) = true := by simpa using hm
        go_wp2
        go_roundw
        case rel => exact ⟨i, h, rfl, rfl, by omega, by omega, by omega, hn1, .inr hm, hB, k2, k3⟩
        case measure => simp [intOf] <;> omega
      · have q1 : decide (m < needF n d a f (h + 1)) = false := by simpa using hm
        go_wp2
        go_roundw
        case rel => exact ⟨h + 1, j, by go_num, rfl, by omega, by omega, by omega, by omega, hn2, hB, k2, k3⟩
        case measure => simp [intOf] <;> omega
    · have hij' : i = j := by omega
      subst hij'
      go_wp2
      go_ret
      exact ⟨⟨i, ⟨hi, by omega, hn1, hn2⟩, rfl⟩, hB⟩

theorem makE_cases (n d a p f m : Int) : (okP n d a p f = false ∧ makE n d a p f m = 1) ∨ (okP n d a p f = true ∧ (m < 0 ∨ 1099511627776 < m) ∧ makE n d a p f m = 2) ∨ (okP n d a p f = true ∧ 0 ≤ m ∧ m ≤ 1099511627776 ∧ makE n d a p f m = 0) := by
  unfold makE
  cases h : okP n d a p f
  · exact .inl ⟨rfl, by simp⟩
  · by_cases hk : m < 0 ∨ 1099511627776 < m
    · exact .inr (.inl ⟨rfl, hk, by simp [hk]⟩)
    · exact .inr (.inr ⟨rfl, by omega, by omega, by simp [hk]⟩)
/-- What Make gives: r frames, or an error. -/
def MakeR (n d a p f m r : Int) : Prop := if makE n d a p f m = 0 then IsMake n d a f m r else r = 0
theorem makeR_one {n d a p f m r s : Int} (hr : MakeR n d a p f m r) (hs : MakeR n d a p f m s) : r = s := by
  unfold MakeR at hr hs
  rcases makE_cases n d a p f m with ⟨H, he⟩ | ⟨H, -, he⟩ | ⟨H, -, -, he⟩
  · rw [if_neg (by omega)] at hr hs; omega
  · rw [if_neg (by omega)] at hr hs; omega
  · rw [if_pos he] at hr hs; exact make_one H hr hs

set_option maxHeartbeats 8000000 in
theorem rneede_bad (n d a p f k : Int) (w : World) (he : ¬ errF n d a p f k = 0) : Calls Try.prog 22 #[.agg #[.int .i64 n, .int .i64 d, .int .i64 a, .int .i64 p, .int .i64 f], .int .i64 k] w fun e w' => e = .returned (.tuple #[.int .i64 0, .int .i64 (errF n d a p f k)]) ∧ Grows w w' := by
  have hne : (errF n d a p f k == 0) = false := by simpa using he
  have ha : atF n d a p f k = ⟨0, 0, errF n d a p f k⟩ := by unfold atF; rw [if_neg he]
  go_enter Try.func22, Try.ntmps22
  go_wp2_with fail
  refine (rat_any n d a p f k _).mono ?_
  rintro e w1 ⟨rfl, hq⟩
  simp only [ha]
  have hB := below_grows ((Below.refl w.heap.size w).alloc (Nat.le_refl _) _) (by simp) hq
  clear hq
  go_wp2
  go_ret2
  exact ⟨rfl, hB⟩
set_option maxHeartbeats 8000000 in
theorem rneede_zero (n d a p f : Int) (w : World) (H : okP n d a p f = true) : Calls Try.prog 22 #[.agg #[.int .i64 n, .int .i64 d, .int .i64 a, .int .i64 p, .int .i64 f], .int .i64 0] w fun e w' => e = .returned (.tuple #[.int .i64 0, .int .i64 0]) ∧ Grows w w' := by
  have he : errF n d a p f 0 = 0 := by unfold errF; rw [if_neg (by simp [H]), if_neg (by omega)]
  have ha : (atF n d a p f 0).e = 0 := by unfold atF; rw [if_pos he]
  go_enter Try.func22, Try.ntmps22
  go_wp2_with fail
  refine (rat_any n d a p f 0 _).mono ?_
  rintro e w1 ⟨rfl, hq⟩
  rw [ha]
  have hB := below_grows ((Below.refl w.heap.size w).alloc (Nat.le_refl _) _) (by simp) hq
  clear hq
  go_wp2
  go_ret2
  exact ⟨rfl, hB⟩
set_option maxHeartbeats 8000000 in
theorem rneede_good (n d a p f k x y : Int) (w : World) (H : okP n d a p f = true) (h1 : 1 ≤ k) (h2 : k ≤ 65536) (hx : aheadF n a f (k - 1) / (d * 65536) = x) (hy : aheadF n a f k / (d * 65536) = y) (bx : 0 ≤ x ∧ x ≤ 3504797122560000) (byy : 0 ≤ y ∧ y ≤ 3504797122560000) : Calls Try.prog 22 #[.agg #[.int .i64 n, .int .i64 d, .int .i64 a, .int .i64 p, .int .i64 f], .int .i64 k] w fun e w' => e = .returned (.tuple #[.int .i64 (max (x + 2) y), .int .i64 0]) ∧ Grows w w' := by
  obtain ⟨b1, b2, b3, b4, b5, b6, b7, b8, b9, b10⟩ := okP_bd H
  have he : errF n d a p f k = 0 := by unfold errF; rw [if_neg (by simp [H]), if_neg (by omega)]
  have he1 : errF n d a p f (k - 1) = 0 := by unfold errF; rw [if_neg (by simp [H]), if_neg (by omega)]
  have ha : (atF n d a p f k).e = 0 := by unfold atF; rw [if_pos he]
  have hb : (atF n d a p f k).p = p + y := by unfold atF; rw [if_pos he, ← hy]
  have hc : (atF n d a p f (k - 1)).p = p + x := by unfold atF; rw [if_pos he1, ← hx]
  have kz : (k == 0) = false := by simp; omega
  have wk : IntKind.i64.wrap (k - 1) = k - 1 := IntWalk.i64_in _ (by omega)
  have wx : IntKind.i64.wrap (p + x + 2) = p + x + 2 := IntWalk.i64_in _ (by omega)
  have wy : IntKind.i64.wrap (max (p + x + 2) (p + y) - p) = max (x + 2) y := by rw [show max (p + x + 2) (p + y) - p = max (x + 2) y by omega]; exact IntWalk.i64_in _ (by omega)
  have wz : IntKind.i64.wrap (p + x + 2 - p) = x + 2 := by rw [show p + x + 2 - p = x + 2 by omega]; exact IntWalk.i64_in _ (by omega)
  have ww : IntKind.i64.wrap (p + y - p) = y := by rw [show p + y - p = y by omega]; exact IntWalk.i64_in _ (by omega)
  by_cases hm : x + 2 < y
  · rw [show max (x + 2) y = y by omega]
    go_enter Try.func22, Try.ntmps22
    go_wp2_with fail
    refine (rat_any n d a p f k _).mono ?_
    rintro e w1 ⟨rfl, hq⟩
    rw [ha, hb]
    have k2 := Blk.grows (Blk.new _ _ _) hq
    have hB := below_grows ((Below.refl w.heap.size w).alloc (Nat.le_refl _) _) (by simp) hq
    have x2 := k2.cell
    clear hq
    go_wp2_with fail
    refine (rat_any n d a p f (k - 1) _).mono ?_
    rintro e w2 ⟨rfl, hq⟩
    rw [hc]
    replace k2 := k2.grows hq
    replace hB := below_grows hB (Nat.le_refl _) hq
    replace x2 := k2.cell
    clear hq
    generalize (atF n d a p f (k - 1)).f = z1
    generalize (atF n d a p f (k - 1)).e = z2
    generalize (atF n d a p f k).f = z3
    go_wp2
    go_ret2
    exact ⟨rfl, hB⟩
  · rw [show max (x + 2) y = x + 2 by omega]
    go_enter Try.func22, Try.ntmps22
    go_wp2_with fail
    refine (rat_any n d a p f k _).mono ?_
    rintro e w1 ⟨rfl, hq⟩
    rw [ha, hb]
    have k2 := Blk.grows (Blk.new _ _ _) hq
    have hB := below_grows ((Below.refl w.heap.size w).alloc (Nat.le_refl _) _) (by simp) hq
    have x2 := k2.cell
    clear hq
    go_wp2_with fail
    refine (rat_any n d a p f (k - 1) _).mono ?_
    rintro e w2 ⟨rfl, hq⟩
    rw [hc]
    replace k2 := k2.grows hq
    replace hB := below_grows hB (Nat.le_refl _) hq
    replace x2 := k2.cell
    clear hq
    generalize (atF n d a p f (k - 1)).f = z1
    generalize (atF n d a p f (k - 1)).e = z2
    generalize (atF n d a p f k).f = z3
    go_wp2
    go_ret2
    exact ⟨rfl, hB⟩
theorem rneede_any (n d a p f k : Int) (w : World) : Calls Try.prog 22 #[.agg #[.int .i64 n, .int .i64 d, .int .i64 a, .int .i64 p, .int .i64 f], .int .i64 k] w fun e w' => e = .returned (.tuple #[.int .i64 (needP n d a p f k), .int .i64 (errF n d a p f k)]) ∧ Grows w w' := by
  unfold needP
  by_cases he : errF n d a p f k = 0
  · rw [if_pos he, he]
    have ⟨H, h1, h2⟩ : okP n d a p f = true ∧ 0 ≤ k ∧ k ≤ 65536 := by
      rcases errF_cases n d a p f k with ⟨H, e⟩ | ⟨H, hk, e⟩ | ⟨H, h1, h2, e⟩
      · omega
      · omega
      · exact ⟨H, h1, h2⟩
    by_cases h0 : k = 0
    · subst h0
      rw [need_zero]
      exact rneede_zero n d a p f w H
    · obtain ⟨b1, b2, b3, b4, b5, b6, b7, b8, b9, b10⟩ := okP_bd H
      obtain ⟨-, -, -, -, c5, c6, -, -, -⟩ := ahead_bd H h1 (by omega : k ≤ 65537)
      obtain ⟨-, -, -, -, g5, g6, -, -, -⟩ := ahead_bd H (by omega : 0 ≤ k - 1) (by omega)
      have d1 := Int.ediv_nonneg c5 (show 0 ≤ d * 65536 by omega)
      have d2 := Int.ediv_le_self (a := aheadF n a f k) (d * 65536) c5
      have d3 := Int.ediv_nonneg g5 (show 0 ≤ d * 65536 by omega)
      have d4 := Int.ediv_le_self (a := aheadF n a f (k - 1)) (d * 65536) g5
      unfold needF
      rw [if_neg h0]
      exact rneede_good n d a p f k _ _ w H (by omega) h2 rfl rfl ⟨d3, by omega⟩ ⟨d1, by omega⟩
  · rw [if_neg he]
    exact rneede_bad n d a p f k w he

set_option maxHeartbeats 4000000 in
theorem mk_bad (n d a p f m : Int) (w : World) (H : okP n d a p f = false) : Calls Try.prog 23 #[.agg #[.int .i64 n, .int .i64 d, .int .i64 a, .int .i64 p, .int .i64 f], .int .i64 m] w fun e w' => e = .returned (.tuple #[.int .i64 0, .int .i64 1]) ∧ Grows w w' := by
  go_enter Try.func23, Try.ntmps23
  go_wp2_with fail
  refine (valid_any n d a p f _).mono ?_
  rintro e w1 ⟨rfl, hq⟩
  rw [H]
  have k2 := Blk.grows (Blk.alloc (Blk.new _ _ _) _) hq
  have k3 := Blk.grows (blk_new_at (n := w.heap.size + 1) (by simp)) hq
  have hB := below_grows (((Below.refl w.heap.size w).alloc (Nat.le_refl _) _).alloc (by simp) _) (by simp) hq
  have x3 := k3.cell
  have z3 := k3.lt
  clear hq
  go_wp2
  go_ret2
  exact ⟨rfl, hB⟩
set_option maxHeartbeats 4000000 in
theorem mk_rng (n d a p f m : Int) (w : World) (H : okP n d a p f = true) (hm : m < 0 ∨ 1099511627776 < m) : Calls Try.prog 23 #[.agg #[.int .i64 n, .int .i64 d, .int .i64 a, .int .i64 p, .int .i64 f], .int .i64 m] w fun e w' => e = .returned (.tuple #[.int .i64 0, .int .i64 2]) ∧ Grows w w' := by
  go_enter Try.func23, Try.ntmps23
  go_wp2_with fail
  refine (valid_any n d a p f _).mono ?_
  rintro e w1 ⟨rfl, hq⟩
  rw [H]
  have k2 := Blk.grows (Blk.alloc (Blk.new _ _ _) _) hq
  have k3 := Blk.grows (blk_new_at (n := w.heap.size + 1) (by simp)) hq
  have hB := below_grows (((Below.refl w.heap.size w).alloc (Nat.le_refl _) _).alloc (by simp) _) (by simp) hq
  have x3 := k3.cell
  have z3 := k3.lt
  clear hq
  go_wp2
  all_goals first
    | (exfalso; omega)
    | (go_ret2; exact ⟨rfl, hB⟩)
set_option maxHeartbeats 8000000 in
theorem mk_good (n d a p f m : Int) (w : World) (H : okP n d a p f = true) (h1 : 0 ≤ m) (h2 : m ≤ 1099511627776) : Calls Try.prog 23 #[.agg #[.int .i64 n, .int .i64 d, .int .i64 a, .int .i64 p, .int .i64 f], .int .i64 m] w fun e w' => (∃ r, IsMake n d a f m r ∧ e = .returned (.tuple #[.int .i64 r, .int .i64 0])) ∧ Grows w w' := by
  go_enter Try.func23, Try.ntmps23
  go_wp2_with fail
  refine (valid_any n d a p f _).mono ?_
  rintro e w1 ⟨rfl, hq⟩
  rw [H]
  have k2 := Blk.grows (Blk.alloc (Blk.new _ _ _) _) hq
  have k3 := Blk.grows (blk_new_at (n := w.heap.size + 1) (by simp)) hq
  have hB := below_grows (((Below.refl w.heap.size w).alloc (Nat.le_refl _) _).alloc (by simp) _) (by simp) hq
  have x3 := k3.cell
  have z3 := k3.lt
  clear hq
  go_wp2_with fail
  refine (search_any n d a p f m _ _ _ H k2 k3 h1).mono ?_
  rintro e w2 ⟨⟨r, hr, rfl⟩, hq⟩
  replace hB := below_grows hB (Nat.le_refl _) hq
  go_wp2
  go_ret2
  exact ⟨⟨r, hr, rfl⟩, hB⟩

theorem make_any (n d a p f m : Int) (w : World) : Calls Try.prog 23 #[.agg #[.int .i64 n, .int .i64 d, .int .i64 a, .int .i64 p, .int .i64 f], .int .i64 m] w fun e w' => (∃ r, MakeR n d a p f m r ∧ e = .returned (.tuple #[.int .i64 r, .int .i64 (makE n d a p f m)])) ∧ Grows w w' := by
  unfold MakeR
  rcases makE_cases n d a p f m with ⟨H, he⟩ | ⟨H, hm, he⟩ | ⟨H, h1, h2, he⟩
  · rw [he]
    exact (mk_bad n d a p f m w H).mono fun e w' ⟨h, hg⟩ => ⟨⟨0, by rw [if_neg (by omega)], h⟩, hg⟩
  · rw [he]
    exact (mk_rng n d a p f m w H hm).mono fun e w' ⟨h, hg⟩ => ⟨⟨0, by rw [if_neg (by omega)], h⟩, hg⟩
  · rw [he]
    simp only [if_true]
    exact mk_good n d a p f m w H h1 h2

set_option maxHeartbeats 4000000 in
theorem rmk_bad (n d a p f m : Int) (w : World) (H : okP n d a p f = false) : Calls Try.prog 24 #[.agg #[.int .i64 n, .int .i64 d, .int .i64 a, .int .i64 p, .int .i64 f], .int .i64 m] w fun e w' => e = .returned (.tuple #[.int .i64 0, .int .i64 1]) ∧ Grows w w' := by
  go_enter Try.func24, Try.ntmps24
  go_wp2_with fail
  refine (rvalid_any n d a p f _).mono ?_
  rintro e w1 ⟨rfl, hq⟩
  rw [H]
  have k2 := Blk.grows (Blk.new _ _ _) hq
  have hB := below_grows ((Below.refl w.heap.size w).alloc (Nat.le_refl _) _) (by simp) hq
  have x2 := k2.cell
  clear hq
  go_wp2
  go_ret2
  exact ⟨rfl, hB⟩
set_option maxHeartbeats 4000000 in
theorem rmk_rng (n d a p f m : Int) (w : World) (H : okP n d a p f = true) (hm : m < 0 ∨ 1099511627776 < m) : Calls Try.prog 24 #[.agg #[.int .i64 n, .int .i64 d, .int .i64 a, .int .i64 p, .int .i64 f], .int .i64 m] w fun e w' => e = .returned (.tuple #[.int .i64 0, .int .i64 2]) ∧ Grows w w' := by
  go_enter Try.func24, Try.ntmps24
  go_wp2_with fail
  refine (rvalid_any n d a p f _).mono ?_
  rintro e w1 ⟨rfl, hq⟩
  rw [H]
  have k2 := Blk.grows (Blk.new _ _ _) hq
  have hB := below_grows ((Below.refl w.heap.size w).alloc (Nat.le_refl _) _) (by simp) hq
  have x2 := k2.cell
  clear hq
  go_wp2
  all_goals first
    | (exfalso; omega)
    | (go_ret2; exact ⟨rfl, hB⟩)
set_option maxHeartbeats 8000000 in
theorem rmk_good (n d a p f m : Int) (w : World) (H : okP n d a p f = true) (h1 : 0 ≤ m) (h2 : m ≤ 1099511627776) : Calls Try.prog 24 #[.agg #[.int .i64 n, .int .i64 d, .int .i64 a, .int .i64 p, .int .i64 f], .int .i64 m] w fun e w' => (∃ r, IsMake n d a f m r ∧ e = .returned (.tuple #[.int .i64 r, .int .i64 0])) ∧ Grows w w' := by
  go_enter Try.func24, Try.ntmps24
  go_wp2_with fail
  refine (rvalid_any n d a p f _).mono ?_
  rintro e w1 ⟨rfl, hq⟩
  rw [H]
  have k2 := Blk.grows (Blk.new _ _ _) hq
  have hB := below_grows ((Below.refl w.heap.size w).alloc (Nat.le_refl _) _) (by simp) hq
  have x2 := k2.cell
  clear hq
  go_wp2
  go_loopw [6, 7] (fun u v wr => ∃ i j : Int, u = .int .i64 i ∧ v = .int .i64 j ∧ 0 ≤ i ∧ i ≤ j ∧ j ≤ 65536 ∧ needF n d a f i ≤ m ∧ (j = 65536 ∨ m < needF n d a f (j + 1)) ∧ Below w.heap.size w wr ∧ Blk wr w.heap.size 27 #[.int .i64 n, .int .i64 d, .int .i64 a, .int .i64 p, .int .i64 f]) (fun u v _ => (intOf v - intOf u).toNat)
  case atStart => exact ⟨0, 65536, rfl, rfl, by omega, by omega, by omega, by rw [need_zero]; omega, .inl rfl, hB, k2⟩
  case round =>
    clear k2 hB x2
    obtain ⟨i, j, rfl, rfl, hi, hij, hj, hn1, hn2, hB, k2⟩ := hrel
    have x2 := k2.cell
    by_cases hlt : i < j
    · have wa : IntKind.i64.wrap (i + j) = i + j := IntWalk.i64_in _ (by omega)
      have wb : IntKind.i64.wrap (i + j + 1) = i + j + 1 := IntWalk.i64_in _ (by omega)
      have hh1 : i < (i + j + 1) / 2 := by omega
      have hh2 : (i + j + 1) / 2 ≤ j := by omega
      have ht : Int.tdiv (i + j + 1) 2 = (i + j + 1) / 2 := Int.tdiv_eq_ediv_of_nonneg (by omega)
      obtain ⟨h, hh⟩ : ∃ h, (i + j + 1) / 2 = h := ⟨_, rfl⟩
      rw [hh] at hh1 hh2 ht
      have we : IntKind.i64.wrap h = h := IntWalk.i64_in _ (by omega)
      have wf : IntKind.i64.wrap (h - 1) = h - 1 := IntWalk.i64_in _ (by omega)
      have herr : errF n d a p f h = 0 := by unfold errF; rw [if_neg (by simp [H]), if_neg (by omega)]
      have hnp : needP n d a p f h = needF n d a f h := by unfold needP; rw [if_pos herr]
      go_wp2_with fail
      refine (rneede_any n d a p f h _).mono ?_
      rintro e w2 ⟨rfl, hq⟩
      rw [hnp, herr]
      replace k2 := k2.grows hq
      replace hB := below_grows hB (Nat.le_refl _) hq
      by_cases hm : needF n d a f h ≤ m
      · have q1 : decide (needF n d a f h ≤ m) = true := by simpa using hm
        go_wp2
        go_roundw
        case rel => exact ⟨h, j, rfl, rfl, by omega, by omega, by omega, hm, hn2, hB, k2⟩
        case measure => simp [intOf] <;> omega
      · have q1 : decide (needF n d a f h ≤ m) = false := by simpa using hm
        go_wp2
        go_roundw
        case rel => exact ⟨i, h - 1, rfl, by go_num, by omega, by omega, by omega, hn1, .inr (by rw [show h - 1 + 1 = h by omega]; omega), hB, k2⟩
        case measure => simp [intOf] <;> omega
    · have hij' : i = j := by omega
      subst hij'
      go_wp2
      go_ret2
      exact ⟨⟨i, ⟨hi, by omega, hn1, hn2⟩, rfl⟩, hB⟩

theorem rmake_any (n d a p f m : Int) (w : World) : Calls Try.prog 24 #[.agg #[.int .i64 n, .int .i64 d, .int .i64 a, .int .i64 p, .int .i64 f], .int .i64 m] w fun e w' => (∃ r, MakeR n d a p f m r ∧ e = .returned (.tuple #[.int .i64 r, .int .i64 (makE n d a p f m)])) ∧ Grows w w' := by
  unfold MakeR
  rcases makE_cases n d a p f m with ⟨H, he⟩ | ⟨H, hm, he⟩ | ⟨H, h1, h2, he⟩
  · rw [he]
    exact (rmk_bad n d a p f m w H).mono fun e w' ⟨h, hg⟩ => ⟨⟨0, by rw [if_neg (by omega)], h⟩, hg⟩
  · rw [he]
    exact (rmk_rng n d a p f m w H hm).mono fun e w' ⟨h, hg⟩ => ⟨⟨0, by rw [if_neg (by omega)], h⟩, hg⟩
  · rw [he]
    simp only [if_true]
    exact rmk_good n d a p f m w H h1 h2
end Go.Proofs.Ytjdgfcjkpdmodaa
