/-
  Layer 14: the maker of phases gives a valid phase near the start.
-/
import Derived.Test.YtjdgfcjkpdmodaaPhB
import Derived.Test.YtjdgfcjkpdmodaaDice
import Derived.Test.YtjdgfcjkpdmodaaOwn
namespace Go.Proofs.Ytjdgfcjkpdmodaa
open Go.RowKit

theorem gF_bd {a b : Int} (h1 : 1 ≤ a) (h2 : 1 ≤ b) : 1 ≤ gF a b ∧ gF a b ≤ a ∧ gF a b ≤ b ∧ gF a b ∣ a ∧ gF a b ∣ b := by
  have h3 : 0 < Int.gcd a b := Int.gcd_pos_of_ne_zero_left _ (by omega)
  have h4 : gF a b ∣ a := Int.gcd_dvd_left ..
  have h5 : gF a b ∣ b := Int.gcd_dvd_right ..
  unfold gF at *
  exact ⟨by omega, Int.le_of_dvd (by omega) h4, Int.le_of_dvd (by omega) h5, h4, h5⟩
theorem okR_div {a b : Int} (h1 : 1 ≤ a) (h2 : 1 ≤ b) (h3 : a ≤ 768000) (h4 : b ≤ 768000) : okR (a / gF a b) (b / gF a b) = true ∧ a / gF a b ≤ 768000 ∧ b / gF a b ≤ 768000 ∧ 1 ≤ a / gF a b ∧ 1 ≤ b / gF a b := by
  obtain ⟨g1, g2, g3, g4, g5⟩ := gF_bd h1 h2
  have a1 : 1 ≤ a / gF a b := (Int.le_ediv_iff_mul_le (by omega)).2 (by omega)
  have b1 : 1 ≤ b / gF a b := (Int.le_ediv_iff_mul_le (by omega)).2 (by omega)
  have a2 := Int.ediv_le_self (a := a) (gF a b) (by omega)
  have b2 := Int.ediv_le_self (a := b) (gF a b) (by omega)
  have hg : gF (a / gF a b) (b / gF a b) = 1 := by
    obtain ⟨m, rfl⟩ := Int.eq_ofNat_of_zero_le (show 0 ≤ a by omega)
    obtain ⟨n, rfl⟩ := Int.eq_ofNat_of_zero_le (show 0 ≤ b by omega)
    have e1 : gF (m : Int) (n : Int) = ((Nat.gcd m n : Nat) : Int) := rfl
    have e2 : Nat.gcd (m / Nat.gcd m n) (n / Nat.gcd m n) = 1 := Nat.coprime_div_gcd_div_gcd (Nat.gcd_pos_of_pos_left _ (by omega))
    rw [e1, ← Int.natCast_ediv, ← Int.natCast_ediv]
    show ((Nat.gcd (m / Nat.gcd m n) (n / Nat.gcd m n) : Nat) : Int) = 1
    rw [e2]
    rfl
  exact ⟨by simp only [okR, hg, Bool.and_eq_true, decide_eq_true_eq]; exact ⟨⟨⟨⟨a1, b1⟩, by omega⟩, by omega⟩, rfl⟩, by omega, by omega, a1, b1⟩
set_option maxHeartbeats 4000000 in
theorem rmake_good (a b : Int) (w : World) (h1 : 1 ≤ a) (h2 : 1 ≤ b) (h3 : a ≤ 768000) (h4 : b ≤ 768000) : Calls Try.prog 42 #[.int .i64 a, .int .i64 b] w fun e w' => e = .returned (.tuple #[.agg #[.int .i64 (a / gF a b), .int .i64 (b / gF a b)], .int .i64 0]) ∧ Grows w w' := by
  obtain ⟨g1, g2, g3, -, -⟩ := gF_bd h1 h2
  obtain ⟨-, q1, q2, q3, q4⟩ := okR_div h1 h2 h3 h4
  have t1 : Int.tdiv a (gF a b) = a / gF a b := Int.tdiv_eq_ediv_of_nonneg (by omega)
  have t2 : Int.tdiv b (gF a b) = b / gF a b := Int.tdiv_eq_ediv_of_nonneg (by omega)
  have t3 : (gF a b == 0) = false := by simp; omega
  have t4 : ¬ gF a b = 0 := by omega
  have t5 : ¬ gF a b = -1 := by omega
  have wa : IntKind.i64.wrap (a / gF a b) = a / gF a b := IntWalk.i64_in _ (by omega)
  have wb : IntKind.i64.wrap (b / gF a b) = b / gF a b := IntWalk.i64_in _ (by omega)
  go_enter Try.func42, Try.ntmps42
  go_wp2_with fail
  refine (rgcd_any a b _ (by omega) (by omega) (by omega) (by omega)).mono ?_
  rintro e w1 ⟨rfl, hq⟩
  have k4 := Blk.grows (Blk.new _ _ _) hq
  have hB := below_grows ((Below.refl w.heap.size w).alloc (Nat.le_refl _) _) (by simp) hq
  clear hq
  generalize hx : a / gF a b = x at *
  generalize hy : b / gF a b = y at *
  generalize hgg : gF a b = gg at *
  go_wp2
  refine wp_region_mix (fun w' => Below w.heap.size w w' ∧ Blk w' w.heap.size 25 #[.int .i64 0, .int .i64 0]) [(7, fun v w' => ∃ b, v = .pointer (some ⟨b, 0, none⟩) ∧ w.heap.size < b ∧ Blk w' b 25 #[.int .i64 0, .int .i64 0])] 8 35 (by kernel_rfl) (by kernel_rfl) rfl ?_ ?_ ?_ ?_
  · exact fun w1 w2 ⟨h1, h2⟩ hg => ⟨below_grows h1 (Nat.le_refl _) hg, h2.grows hg⟩
  · exact float_one fun v w1 w2 ⟨b, h1, h2, h3⟩ hg => ⟨b, h1, h2, h3.grows hg⟩
  · exact ⟨hB.drew, k4.drew⟩
  · clear hB k4
    simp only [List.take_succ_cons, List.take_zero, List.drop_succ_cons, List.drop_zero]
    iterate 7
      refine calm_plain rfl rfl (v := ?_) (a' := ?_) (fun w1 hw1 => ?_) ?_ ?_
      rotate_left 2
      · skip
        go_simp
        first | exact calm_val
      · simp only [Act.put, List.setIfInBounds_toArray, List.set_cons_succ, List.set_cons_zero]
        rfl
    refine calm_float rfl rfl (fun w1 hw1 => ?_) ?_
    · have hlt := hw1.2.lt
      go_simp
      exact ⟨⟨w1.heap.size, rfl, hlt, Blk.new _ _ _⟩, (Below.refl _ _).alloc (Nat.le_refl _) _⟩
    refine calm_done (end_one rfl ?_)
    rintro v w7 ⟨hB, k4⟩ ⟨b, rfl, hbb, kb⟩
    simp only [Act.put, List.setIfInBounds_toArray]
    have x4 := k4.cell
    have f4 := k4.frozen
    have xb := kb.cell
    have fb := kb.frozen
    have hne : ¬ b = w.heap.size := by omega
    go_wp2
    have kk := (((k4.far (p := ⟨b, 0, none⟩) (by simp; omega) (.int .i64 x)).far (p := ⟨b, 1, none⟩) (by simp; omega) (.int .i64 y)).set_ 0 (.int .i64 x)).set_ 1 (.int .i64 y)
    have hB2 := (((hB.setCell (p := ⟨b, 0, none⟩) (by simp; omega) (.int .i64 x)).setCell (p := ⟨b, 1, none⟩) (by simp; omega) (.int .i64 y)).setCell (p := ⟨w.heap.size, 0, none⟩) (by simp) (.int .i64 x)).setCell (p := ⟨w.heap.size, 1, none⟩) (by simp) (.int .i64 y)
    generalize World.setCell (World.setCell (World.setCell (World.setCell w7 _ _) _ _) _ _) _ _ = w8 at *
    have x8 := kk.cell
    refine bodyPost_ret (v := .tuple #[.agg #[.int .i64 x, .int .i64 y], .int .i64 0]) (by simp [results, Try.results42, go_sem, x8]) rfl ⟨by rw [hgg, hx, hy], hB2⟩
theorem rates_at {v : Int} (h1 : 0 ≤ v) (h2 : v < 10) : ∃ x : Int, (#[.int .i64 48000, .int .i64 48000, .int .i64 44100, .int .i64 96000, .int .i64 8000, .int .i64 32000, .int .i64 192000, .int .i64 1000, .int .i64 768000, .int .i64 47999] : Array Value)[v.toNat]? = some (.int .i64 x) ∧ 1 ≤ x ∧ x ≤ 768000 := by
  obtain ⟨n, rfl⟩ := Int.eq_ofNat_of_zero_le h1
  have : n < 10 := by omega
  match n, this with
  | 0, _ | 1, _ | 2, _ | 3, _ | 4, _ | 5, _ | 6, _ | 7, _ | 8, _ | 9, _ => exact ⟨_, rfl, by decide, by decide⟩
theorem seven_at {v : Int} (h1 : 0 ≤ v) (h2 : v < 7) : ∃ x : Int, (#[.int .i64 0, .int .i64 0, .int .i64 1, .int .i64 (-1), .int .i64 4096, .int .i64 (-4096), .int .i64 100] : Array Value)[v.toNat]? = some (.int .i64 x) ∧ -4096 ≤ x ∧ x ≤ 4096 := by
  obtain ⟨n, rfl⟩ := Int.eq_ofNat_of_zero_le h1
  have : n < 7 := by omega
  match n, this with
  | 0, _ | 1, _ | 2, _ | 3, _ | 4, _ | 5, _ | 6, _ => exact ⟨_, rfl, by decide, by decide⟩
theorem grown_trans' {a b c : World} {row : Option Nat} (h : a.grownBy b row) (k : b.grownBy c row) : a.grownBy c row :=
  ⟨k.os.trans h.os, k.tape.trans h.tape, k.output.trans h.output, Nat.le_trans h.size k.size, fun j hj hn => (k.block j (Nat.lt_of_lt_of_le hj h.size) hn).trans (h.block j hj hn)⟩
theorem grown_alloc {a b : World} {row : Option Nat} (h : a.grownBy b row) (o : Obj) : a.grownBy (b.alloc o) row := d_only_grows h ((Below.refl _ _).alloc (Nat.le_refl _) o)
theorem grown_set {a b : World} {row : Option Nat} (h : a.grownBy b row) {p : Addr} (hp : a.heap.size ≤ p.block) (u : Value) : a.grownBy (b.setCell p u) row :=
  ⟨h.os, h.tape, h.output, by simpa [World.setCell] using h.size, fun k hk hn => (Below.heap_setCell b p u k (by omega)).trans (h.block k hk hn)⟩
def tails (l : List Int) : Nat → List Int
  | 0 => l
  | p + 1 => (tails l p).tail

end Go.Proofs.Ytjdgfcjkpdmodaa
