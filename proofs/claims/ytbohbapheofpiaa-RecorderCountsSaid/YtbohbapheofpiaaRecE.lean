/-
  Layer 38: recorders that keep no glitch, as lists of latencies make them.
-/
import Derived.Test.YtbohbapheofpiaaRecC
import Derived.Test.YtbohbapheofpiaaRecD
import Derived.Test.YtbohbapheofpiaaFrame
import Derived.Test.YtbohbapheofpiaaMix
import Derived.Lib.ItoaNum
namespace Go.Proofs.Ytbohbapheofpiaa
open Go.RowKit
/-- A recorder that keeps no glitch and counts none. -/
def rcZ (lim : Int) (b : Nat → Int) : Array Value := #[.int .i64 lim, .slice none 0 0, .int .i64 ((fun _ => 0) 0), .int .i64 ((fun _ => 0) 1), .int .i64 ((fun _ => 0) 2), .int .i64 ((fun _ => 0) 3), .int .i64 ((fun _ => 0) 4), .int .i64 0, .int .i64 (b 0), .int .i64 (b 1), .int .i64 (b 2), .int .i64 (b 3), .int .i64 (b 4), .int .i64 (b 5), .int .i64 (b 6), .int .i64 (b 7), .int .i64 (b 8), .int .i64 (b 9), .int .i64 (b 10), .int .i64 (b 11), .int .i64 (b 12), .int .i64 (b 13), .int .i64 (b 14), .int .i64 (b 15), .int .i64 (b 16), .int .i64 (b 17), .int .i64 (b 18), .int .i64 (b 19), .int .i64 (b 20), .int .i64 (b 21), .int .i64 (b 22), .int .i64 (b 23)]
def barB (b : Nat → Int) (n : Int) : Nat → Int := upB b (Lib.bitLen n.toNat) (min (b (Lib.bitLen n.toNat) + 1) 1099511627776)
def bOf (l : List Int) : Nat → Int := l.foldl barB (fun _ => 0)
def OKB (b : Nat → Int) : Prop := ∀ i, i < 24 → outT (b i) = false
theorem okb_zero : OKB (fun _ => 0) := fun _ _ => rfl
theorem okb_step {b : Nat → Int} (h : OKB b) (n : Int) : OKB (barB b n) := by
  intro i hi
  unfold barB upB
  split
  · rename_i e
    have := h i hi
    simp [outT] at this ⊢
    rw [← e]
    omega
  · exact h i hi
theorem okb_of (l : List Int) : OKB (bOf l) := by
  unfold bOf
  have : ∀ (l : List Int) b, OKB b → OKB (l.foldl barB b) := by
    intro l
    induction l with
    | nil => exact fun b h => h
    | cons x l ih => exact fun b h => ih _ (okb_step h x)
  exact this l _ okb_zero
theorem bOf_snoc (l : List Int) (x : Int) : bOf (l ++ [x]) = barB (bOf l) x := by simp [bOf]
theorem bitLen_lt (n : Nat) (h : n < 4194304) : n < 2 ^ Lib.bitLen n := by
  by_cases h0 : n = 0
  · subst h0
    exact Nat.pow_pos (by omega)
  · exact (Lib.bitLenAux_bounds 64 n (by omega) h0).2.2
theorem psum_mono (b : Nat → Int) (hb : OKB b) {j k : Nat} (h : j ≤ k) (hk : k ≤ 24) : psum b j ≤ psum b k := by
  induction h with
  | refl => exact Int.le_refl _
  | @step m h ih =>
    have := ih (by omega)
    have hm := hb m (by omega)
    simp [outT] at hm
    simp only [psum]
    omega
theorem psum_get (b : Nat → Int) (hb : OKB b) {j k : Nat} (h : j ≤ k) (hk : k < 24) : psum b j + b k ≤ psum b (k + 1) := by
  have := psum_mono b hb h (by omega)
  simp only [psum]
  omega
theorem psum_nonneg (b : Nat → Int) (hb : OKB b) {k : Nat} (hk : k ≤ 24) : 0 ≤ psum b k := psum_mono b hb (Nat.zero_le k) hk
theorem most_ex (b : Nat → Int) (hb : OKB b) (p : Int) (hp2 : p ≤ 100) : ∃ r, MostIs b p r := by
  by_cases h0 : psum b 24 = 0
  · exact ⟨0, fun _ => rfl, fun h => absurd h0 h⟩
  · have hS := psum_nonneg b hb (k := 24) (by omega)
    have key : ∀ n, n ≤ 24 → (∀ j, j < n → psum b (j + 1) * 100 < p * psum b 24) ∨ ∃ k : Nat, k < n ∧ p * psum b 24 ≤ psum b (k + 1) * 100 ∧ ∀ j, j < k → psum b (j + 1) * 100 < p * psum b 24 := by
      intro n
      induction n with
      | zero => exact fun _ => .inl fun j hj => absurd hj (by omega)
      | succ n ih =>
        intro hn
        rcases ih (by omega) with h | ⟨k, hk, h1, h2⟩
        · by_cases hle : p * psum b 24 ≤ psum b (n + 1) * 100
          · exact .inr ⟨n, by omega, hle, h⟩
          · refine .inl fun j hj => ?_
            rcases Nat.lt_succ_iff_lt_or_eq.1 hj with hj | rfl
            · exact h j hj
            · omega
        · exact .inr ⟨k, by omega, h1, h2⟩
    rcases key 24 (by omega) with h | ⟨k, hk, h1, h2⟩
    · exfalso
      have h3 := h 23 (by omega)
      have h4 : p * psum b 24 ≤ 100 * psum b 24 := Int.mul_le_mul_of_nonneg_right hp2 hS
      simp only [show 23 + 1 = 24 from rfl] at h3
      omega
    · exact ⟨2 ^ k - 1, fun h => absurd h h0, fun _ => ⟨k, hk, rfl, h1, h2⟩⟩
theorem pow_mono {j k : Nat} (h : j ≤ k) : (2 : Int) ^ j ≤ 2 ^ k := by
  obtain ⟨d, rfl⟩ := Nat.exists_eq_add_of_le h
  rw [Int.pow_add]
  have h1 : (1 : Int) ≤ 2 ^ d := by have : (0 : Int) < 2 ^ d := Int.pow_pos (by omega); omega
  have h2 : (0 : Int) < 2 ^ j := Int.pow_pos (by omega)
  calc (2 : Int) ^ j = 2 ^ j * 1 := (Int.mul_one _).symm
    _ ≤ 2 ^ j * 2 ^ d := Int.mul_le_mul_of_nonneg_left h1 (by omega)
theorem most_mono {b : Nat → Int} (hb : OKB b) {p q r s : Int} (h : p ≤ q) (hr : MostIs b p r) (hs : MostIs b q s) : r ≤ s := by
  by_cases h0 : psum b 24 = 0
  · rw [hr.1 h0, hs.1 h0]
    exact Int.le_refl _
  · obtain ⟨k1, hk1, rfl, -, h2⟩ := hr.2 h0
    obtain ⟨k2, hk2, rfl, h3, -⟩ := hs.2 h0
    have hS := psum_nonneg b hb (k := 24) (by omega)
    have h4 : p * psum b 24 ≤ q * psum b 24 := Int.mul_le_mul_of_nonneg_right h hS
    have h5 : k1 ≤ k2 := by
      apply Classical.byContradiction
      intro hlt
      have := h2 k2 (by omega)
      omega
    have := pow_mono h5
    omega
theorem most_uniq {b : Nat → Int} (hb : OKB b) {p r s : Int} (hr : MostIs b p r) (hs : MostIs b p s) : r = s :=
  Int.le_antisymm (most_mono hb (Int.le_refl _) hr hs) (most_mono hb (Int.le_refl _) hs hr)
theorem most_above {b : Nat → Int} (hb : OKB b) {r v : Int} (h0 : 0 ≤ v) (h2 : v < 4194304) (hv : 1 ≤ b (Lib.bitLen v.toNat)) (hr : MostIs b 100 r) : v ≤ r := by
  have hk : Lib.bitLen v.toNat < 24 := Nat.lt_of_le_of_lt (Lib.bitLen_le _ 22 (by omega) (by omega)) (by omega)
  have hlt := bitLen_lt v.toNat (by omega)
  generalize Lib.bitLen v.toNat = kv at *
  have h3 := psum_get b hb (Nat.zero_le kv) hk
  have h4 := psum_mono b hb (show kv + 1 ≤ 24 by omega) (Nat.le_refl _)
  have hz : psum b 0 = 0 := rfl
  obtain ⟨k, hk2, rfl, h5, -⟩ := hr.2 (by omega)
  have h6 : kv ≤ k := by
    apply Classical.byContradiction
    intro hlt
    have := psum_get b hb (show k + 1 ≤ kv by omega) hk
    omega
  have h7 := pow_mono h6
  have h8 : ((v.toNat : Nat) : Int) < ((2 ^ kv : Nat) : Int) := Int.ofNat_lt.2 hlt
  rw [Int.natCast_pow] at h8
  have h9 : ((2 : Nat) : Int) = 2 := rfl
  rw [h9] at h8
  omega
theorem step_ge {b : Nat → Int} (hb : OKB b) (n : Int) {i : Nat} (hi : i < 24) : b i ≤ barB b n i := by
  have := hb i hi
  simp [outT] at this
  unfold barB upB
  split
  · rename_i e
    subst e
    omega
  · exact Int.le_refl _
theorem bOf_has {l : List Int} {v : Int} (h0 : 0 ≤ v) (h2 : v < 4194304) (h : v ∈ l) : 1 ≤ bOf l (Lib.bitLen v.toNat) := by
  have hk : Lib.bitLen v.toNat < 24 := Nat.lt_of_le_of_lt (Lib.bitLen_le _ 22 (by omega) (by omega)) (by omega)
  have key : ∀ (l : List Int) b, OKB b → (v ∈ l ∨ 1 ≤ b (Lib.bitLen v.toNat)) → 1 ≤ l.foldl barB b (Lib.bitLen v.toNat) := by
    intro l
    induction l with
    | nil => exact fun b _ h => h.elim (fun h => absurd h (by simp)) id
    | cons x l ih =>
      intro b hb h
      refine ih _ (okb_step hb x) ?_
      rcases h with h | h
      · rcases List.mem_cons.1 h with rfl | h
        · right
          have := hb _ hk
          simp [outT] at this
          simp only [barB, upB, if_true]
          omega
        · exact .inl h
      · exact .inr (Int.le_trans h (step_ge hb x hk))
  exact key l _ okb_zero (.inl h)
theorem rcZ_size (lim : Int) (b : Nat → Int) : (rcZ lim b).size = 32 := rfl
theorem rcZ_info (lim : Int) (b : Nat → Int) : (Try.prog.info? 28).map (·.size) = some (rcZ lim b).size := rec_info
theorem rcZ_one (lim : Int) (b : Nat → Int) : (rcZ lim b).all (·.oneCell') = true := by simp [rcZ, Value.oneCell']
theorem new_r (lim : Int) (w : World) (h1 : 1 ≤ lim) (h2 : lim ≤ 256) : Calls Try.prog 8 #[.int .i64 lim] w fun e w' => e = .returned (.tuple #[.agg (rcZ lim (bOf [])), .int .i64 0]) ∧ Grows w w' := new_good lim w h1 h2
theorem measure_r (lim n : Int) (b : Nat → Int) (w : World) (h1 : 1 ≤ lim) (h2 : lim ≤ 256) (hb : OKB b) (hn : 0 ≤ n) (hn2 : n < 4194304) :
    Calls Try.prog 9 #[.agg (rcZ lim b), .int .i64 n] w fun e w' => e = .returned (.tuple #[.agg (rcZ lim (barB b n)), .int .i64 0]) ∧ Grows w w' :=
  measure_good lim 0 n (fun _ => 0) b (Lib.bitLen n.toNat) w h1 h2 rfl (fun _ _ => rfl) hb hn hn2 rfl (Nat.lt_of_le_of_lt (Lib.bitLen_le _ 22 (by omega) (by omega)) (by omega))
theorem valid_r (lim : Int) (b : Nat → Int) (w : World) (h1 : 1 ≤ lim) (h2 : lim ≤ 256) (hb : OKB b) :
    Calls Try.prog 17 #[.agg (rcZ lim b)] w fun e w' => e = .returned (.bool true) ∧ Grows w w' := valid_good lim 0 (fun _ => 0) b w h1 h2 rfl (fun _ _ => rfl) hb
theorem most_r (lim p : Int) (b : Nat → Int) (w : World) (h1 : 1 ≤ lim) (h2 : lim ≤ 256) (hb : OKB b) (hp : 0 ≤ p) (hp2 : p ≤ 100) :
    Calls Try.prog 11 #[.agg (rcZ lim b), .int .i64 p] w fun e w' => ∃ r, MostIs b p r ∧ e = .returned (.int .i64 r) ∧ Grows w w' := most_good lim 0 p (fun _ => 0) b w h1 h2 rfl (fun _ _ => rfl) hb hp hp2
theorem most_is (lim p r : Int) (b : Nat → Int) (w : World) (h1 : 1 ≤ lim) (h2 : lim ≤ 256) (hb : OKB b) (hp : 0 ≤ p) (hp2 : p ≤ 100) (hr : MostIs b p r) :
    Calls Try.prog 11 #[.agg (rcZ lim b), .int .i64 p] w fun e w' => e = .returned (.int .i64 r) ∧ Grows w w' :=
  (most_r lim p b w h1 h2 hb hp hp2).mono fun e w' ⟨s, hs, he, hg⟩ => by rw [most_uniq hb hr hs]; exact ⟨he, hg⟩
set_option maxHeartbeats 8000000 in
theorem sane_any (w : World) : Calls Try.prog 7 #[] w fun e w' => e = .returned (.bool true) ∧ Grows w w' := by
  have hzs : (#[.int .i64 0, .slice none 0 0, .int .i64 0, .int .i64 0, .int .i64 0, .int .i64 0, .int .i64 0, .int .i64 0, .int .i64 0, .int .i64 0, .int .i64 0, .int .i64 0, .int .i64 0, .int .i64 0, .int .i64 0, .int .i64 0, .int .i64 0, .int .i64 0, .int .i64 0, .int .i64 0, .int .i64 0, .int .i64 0, .int .i64 0, .int .i64 0, .int .i64 0, .int .i64 0, .int .i64 0, .int .i64 0, .int .i64 0, .int .i64 0, .int .i64 0, .int .i64 0] : Array Value).size = 32 := rfl
  go_enter Try.func7, Try.ntmps7
  go_upto_region 1 with fail
  refine wp_region_lit ?_
  refine wpList_plain rfl (fun K hK => ?_)
  go_simp
  refine (new_r 4 _ (by omega) (by omega)).mono ?_
  rintro e w1 ⟨rfl, hB⟩
  refine hK _ _ ?_
  clear hK K
  have hW := hB.size
  iterate 3
    refine wpList_plain rfl (fun K hK => ?_)
    go_simp
    refine hK _ _ ?_
    clear hK K
  have k1 := Blk.new w1 28 #[.int .i64 0, .slice none 0 0, .int .i64 0, .int .i64 0, .int .i64 0, .int .i64 0, .int .i64 0, .int .i64 0, .int .i64 0, .int .i64 0, .int .i64 0, .int .i64 0, .int .i64 0, .int .i64 0, .int .i64 0, .int .i64 0, .int .i64 0, .int .i64 0, .int .i64 0, .int .i64 0, .int .i64 0, .int .i64 0, .int .i64 0, .int .i64 0, .int .i64 0, .int .i64 0, .int .i64 0, .int .i64 0, .int .i64 0, .int .i64 0, .int .i64 0, .int .i64 0]
  iterate 1
    refine wpList_plain rfl (fun K hK => ?_)
    go_simp
    refine hK _ _ ?_
    clear hK K
  replace hB := hB.alloc hB.size (Obj.cells #[.int .i64 0, .slice none 0 0, .int .i64 0, .int .i64 0, .int .i64 0, .int .i64 0, .int .i64 0, .int .i64 0, .int .i64 0, .int .i64 0, .int .i64 0, .int .i64 0, .int .i64 0, .int .i64 0, .int .i64 0, .int .i64 0, .int .i64 0, .int .i64 0, .int .i64 0, .int .i64 0, .int .i64 0, .int .i64 0, .int .i64 0, .int .i64 0, .int .i64 0, .int .i64 0, .int .i64 0, .int .i64 0, .int .i64 0, .int .i64 0, .int .i64 0, .int .i64 0] 28)
  have hG := hB.size
  have hGe : w.heap.size ≤ w1.heap.size := hW
  generalize w1.heap.size = G at *
  generalize (#[.int .i64 0, .slice none 0 0, .int .i64 0, .int .i64 0, .int .i64 0, .int .i64 0, .int .i64 0, .int .i64 0, .int .i64 0, .int .i64 0, .int .i64 0, .int .i64 0, .int .i64 0, .int .i64 0, .int .i64 0, .int .i64 0, .int .i64 0, .int .i64 0, .int .i64 0, .int .i64 0, .int .i64 0, .int .i64 0, .int .i64 0, .int .i64 0, .int .i64 0, .int .i64 0, .int .i64 0, .int .i64 0, .int .i64 0, .int .i64 0, .int .i64 0, .int .i64 0] : Array Value) = zr at *
  generalize World.alloc w1 _ = w2 at *
  refine wpList_store_row rfl _ _ rfl rfl rfl rfl k1 (rcZ_info _ _) hzs (rcZ_one _ _) ?_
  replace hB := below_row hB (g := G) hGe (rcZ 4 (bOf []))
  replace k1 := k1.row (cs := rcZ 4 (bOf []))
  generalize World.setRow w2 _ _ = w3 at *
  go_wp2
  have kL := Blk.new w3 3 #[.int .i64 100, .int .i64 200, .int .i64 1000]
  have hne : G ≠ w3.heap.size := by have := k1.lt; omega
  replace k1 := k1.alloc (Obj.cells #[.int .i64 100, .int .i64 200, .int .i64 1000] 3)
  replace hB := hB.alloc hB.size (Obj.cells #[.int .i64 100, .int .i64 200, .int .i64 1000] 3)
  generalize hW2 : w3.heap.size = H at *
  clear hW2
  generalize World.alloc w3 _ = w4 at *
  go_loopw [11] (fun i wr => ∃ k : Nat, k ≤ 3 ∧ i = .int .i64 k ∧ Below w.heap.size w wr ∧ Blk wr G 28 (rcZ 4 (bOf ([100, 200, 1000].take k))) ∧ Blk wr H 3 #[.int .i64 100, .int .i64 200, .int .i64 1000]) (fun i _ => 3 - (intOf i).toNat)
  case atStart => exact ⟨0, by omega, rfl, hB, k1, kL⟩
  case round =>
    clear hB k1 kL
    obtain ⟨k, hk, rfl, hB, k1, kL⟩ := hrel
    by_cases hlt : k < 3
    · have hjb : decide ((k : Int) < 3) = true := by simp; omega
      obtain ⟨n, hv, hn, hn2, hs⟩ : ∃ n : Int, (#[Value.int .i64 100, .int .i64 200, .int .i64 1000] : Array Value)[k]? = some (.int .i64 n) ∧ 0 ≤ n ∧ n < 4194304 ∧ bOf ([100, 200, 1000].take (k + 1)) = barB (bOf ([100, 200, 1000].take k)) n := by
        match k, hlt with
        | 0, _ => exact ⟨100, rfl, by omega, by omega, rfl⟩
        | 1, _ => exact ⟨200, rfl, by omega, by omega, rfl⟩
        | 2, _ => exact ⟨1000, rfl, by omega, by omega, rfl⟩
      have x := (kL.cell k).trans hv
      have hob := okb_of ([100, 200, 1000].take k)
      clear hv
      generalize hb2 : bOf ([100, 200, 1000].take (k + 1)) = b2 at hs
      have HB2 := Lib.hid hb2
      clear hb2
      generalize bOf ([100, 200, 1000].take k) = b1 at *
      subst hs
      go_upto_region 5 with fail
      refine wp_region_lit ?_
      refine wpList_load_row rfl _ rfl rfl k1 Try.underlying28 rfl (rcZ_info _ _) ?_
      iterate 1
        refine wpList_plain rfl (fun K hK => ?_)
        go_simp
        refine hK _ _ ?_
        clear hK K
      refine wpList_plain rfl (fun K hK => ?_)
      go_simp
      refine (measure_r 4 n _ _ (by omega) (by omega) hob hn hn2).mono ?_
      rintro e w5 ⟨rfl, hq⟩
      refine hK _ _ ?_
      clear hK K

      replace k1 := k1.grows hq
      replace kL := kL.grows hq
      replace hB := below_grows hB (Nat.le_refl _) hq
      clear hq
      iterate 3
        refine wpList_plain rfl (fun K hK => ?_)
        go_simp
        refine hK _ _ ?_
        clear hK K
      refine wpList_store_row rfl _ _ rfl rfl rfl rfl k1 (rcZ_info _ _) rfl (rcZ_one _ _) ?_
      replace hB := below_row hB (g := G) hGe (rcZ 4 (barB b1 n))
      replace k1 := k1.row (cs := rcZ 4 (barB b1 n))
      replace kL := kL.row_far (g := G) (cs' := rcZ 4 (barB b1 n)) (Ne.symm hne)
      generalize World.setRow w5 _ _ = w6 at *
      go_wp2
      go_roundw
      case rel => exact ⟨k + 1, by omega, by go_num, hB, by rw [HB2.out]; exact k1, kL⟩
      case measure => simp [intOf]; omega
    · obtain rfl : k = 3 := by omega
      clear hlt
      have e3 : [100, 200, 1000].take 3 = ([100, 200, 1000] : List Int) := rfl
      rw [e3] at k1
      have hob := okb_of [100, 200, 1000]
      have hm : MostIs (bOf [100, 200, 1000]) 50 255 := by
        refine ⟨fun h => absurd h (by decide), fun _ => ⟨8, by omega, rfl, by decide, fun j hj => ?_⟩⟩
        match j, hj with
        | 0, _ | 1, _ | 2, _ | 3, _ | 4, _ | 5, _ | 6, _ | 7, _ => decide
      go_upto_region 7 with fail
      refine wp_region_lit ?_
      iterate 3
        refine wpList_plain rfl (fun K hK => ?_)
        go_simp
        refine hK _ _ ?_
        clear hK K
      refine wpList_load_rowg rfl _ rfl rfl k1 Try.underlying28 rfl (rcZ_info _ _) ?_
      refine BigFrame.wpList_want rfl (fun K hK => ?_)
      go_simp
      refine (most_is 4 50 255 _ _ (by omega) (by omega) hob (by omega) (by omega) hm).mono ?_
      rintro e w5 ⟨rfl, hq⟩
      replace k1 := k1.grows hq
      replace hB := below_grows hB (Nat.le_refl _) hq
      clear hq
      refine hK _ _ ?_
      clear hK K
      refine BigFrame.wpList_want rfl (fun K hK => ?_)
      go_simp
      refine hK _ _ ?_
      clear hK K
      iterate 2
        refine wpList_plain rfl (fun K hK => ?_)
        go_simp
        refine hK _ _ ?_
        clear hK K
      refine wpList_load_rowg rfl _ rfl rfl k1 Try.underlying28 rfl (rcZ_info _ _) ?_
      refine BigFrame.wpList_want rfl (fun K hK => ?_)
      go_simp
      refine (valid_r 4 _ _ (by omega) (by omega) hob).mono ?_
      rintro e w6 ⟨rfl, hq⟩
      replace hB := below_grows hB (Nat.le_refl _) hq
      refine hK _ _ ?_
      clear hK K
      go_wp2
      go_ret
      exact ⟨rfl, hB⟩
end Go.Proofs.Ytbohbapheofpiaa
