/-
  Dice (made.Dice): Next takes the first of the bytes that are left.
-/
import Derived.Test.YtjdgfcjkpdmodaaMill
import Derived.Test.YtjdgfcjkpdmodaaExtra
import Derived.Test.YtjdgfcjkpdmodaaStep
namespace Go.Proofs.Ytjdgfcjkpdmodaa
open Go.RowKit

abbrev DiceT : TypeId := 63
theorem d_only_grows {a w w' : World} {row : Option Nat} (h : a.grownBy w row) (hg : Grows w w') : a.grownBy w' row :=
  ⟨hg.os.trans h.os, hg.tape.trans h.tape, hg.output.trans h.output, Nat.le_trans h.size hg.size, fun k hk hn => (hg.block k (Nat.lt_of_lt_of_le hk h.size)).trans (h.block k hk hn)⟩
theorem d_only_set {a w : World} {g : Nat} (h : a.grownBy w (some g)) (i : Nat) (u : Value) : a.grownBy (w.setCell ⟨g, i, none⟩ u) (some g) :=
  ⟨h.os, h.tape, h.output, by simpa [World.setCell] using h.size, fun k hk hn => (Below.heap_setCell w ⟨g, i, none⟩ u k (fun e => hn (by rw [e]))).trans (h.block k hk hn)⟩
/-- The dice in block g hold the bytes l; they lie below block B. -/
structure DiceAt (w : World) (B g : Nat) (A : Option Addr) (c : Nat) (l : List Int) : Prop where
  blk : Blk w g DiceT #[.slice A l.length c]
  bytes : Reads w B 1 A l.length (l.map (Value.int .u8))
  cap : l.length ≤ c
  lo : B ≤ g
  wf : ∀ x ∈ l, 0 ≤ x ∧ x ≤ 255
  len : l.length ≤ 300
def Dice (w : World) (B g : Nat) (l : List Int) : Prop := ∃ A c, DiceAt w B g A c l
theorem Dice.grows {w w' : World} {B g : Nat} {l : List Int} (h : Dice w B g l) (hg : Grows w w') : Dice w' B g l := by
  obtain ⟨A, c, h⟩ := h
  exact ⟨A, c, h.blk.grows hg, h.bytes.below (hg.mono (Nat.le_trans h.lo (Nat.le_of_lt h.blk.lt))), h.cap, h.lo, h.wf, h.len⟩
theorem Dice.put {w : World} {B g : Nat} {l : List Int} (h : Dice w B g l) {p : Addr} (hp : B ≤ p.block) (hg : g ≠ p.block) (u : Value) : Dice (w.setCell p u) B g l := by
  obtain ⟨A, c, h⟩ := h
  exact ⟨A, c, h.blk.far hg u, h.bytes.setCell hp u, h.cap, h.lo, h.wf, h.len⟩
theorem Dice.lt {w : World} {B g : Nat} {l : List Int} (h : Dice w B g l) : g < w.heap.size := by
  obtain ⟨A, c, h⟩ := h
  exact h.blk.lt
def rollV (l : List Int) (n : Int) : Int := (l.head?.getD 0) % n
theorem rollV_bd (l : List Int) {n : Int} (h : 1 ≤ n) : 0 ≤ rollV l n ∧ rollV l n < n := ⟨Int.emod_nonneg _ (by omega), Int.emod_lt_of_pos _ (by omega)⟩
set_option maxHeartbeats 4000000 in
theorem roll_any (B g : Nat) (l : List Int) (n : Int) (w : World) (h : Dice w B g l) (hn : 2 ≤ n) (hn2 : n ≤ 9223372036854775807) :
    Calls Try.prog 39 #[.pointer (some ⟨g, 0, none⟩), .int .i64 n] w fun e w' => e = .returned (.int .i64 (rollV l n)) ∧ Dice w' B g l.tail ∧ w.grownBy w' (some g) ∧ w'.heap.size = w.heap.size := by
  obtain ⟨A, c, h⟩ := h
  have x1 := h.blk.cell
  have f1 := h.blk.frozen
  rcases l with _ | ⟨x, r⟩
  · go_enter Try.func39, Try.ntmps39
    go_wp2
    go_ret
    exact ⟨by simp [rollV], ⟨A, c, h⟩, World.grownBy.refl _ _, rfl⟩
  · have hle := h.len
    have hcp := h.cap
    obtain ⟨ad, u, rfl, hb, hu, hc⟩ := h.bytes.at_ (k := 0) (by simp)
    have hu' : Value.int .u8 x = u := by simpa using hu
    subst hu'
    have hc0 : w.cell? ad = some (.int .u8 x) := by rw [← hc]; congr 1
    have hx := h.wf x (by simp)
    have hwc : IntKind.i64.wrap x = x := IntWalk.i64_in _ (by omega)
    have ht : Int.tmod x n = x % n := Int.tmod_eq_emod_of_nonneg hx.1
    have hm1 := Int.emod_nonneg x (show n ≠ 0 by omega)
    have hm2 := Int.emod_lt_of_pos x (show 0 < n by omega)
    have hwm : IntKind.i64.wrap (x % n) = x % n := IntWalk.i64_in _ (by omega)
    have hn0 : (n == 0) = false := by simp; omega
    have hn1 : decide (n ≤ 1) = false := by simp; omega
    have hl0 : ((r.length : Int) + 1 == 0) = false := by simp; omega
    simp only [List.length_cons] at hle hcp
    by_cases hc1 : c = 1
    · subst hc1
      have hr : r = [] := List.eq_nil_of_length_eq_zero (by omega)
      subst hr
      go_enter Try.func39, Try.ntmps39
      go_wp2
      go_ret
      refine ⟨by simp [rollV], ⟨some ad, 0, ?_, ⟨rfl, fun h => absurd h (by simp)⟩, by simp, h.lo, by simp, by simp⟩, d_only_set (World.grownBy.refl _ _) _ _, by simp⟩
      exact h.blk.set_ 0 _
    · go_enter Try.func39, Try.ntmps39
      go_wp2
      go_ret
      refine ⟨by simp [rollV], ⟨some (ad.add 1), c - 1, ?_, ?_, by show r.length ≤ c - 1; omega, h.lo, fun y hy => h.wf y (List.mem_cons_of_mem x hy), by show r.length ≤ 300; omega⟩, d_only_set (World.grownBy.refl _ _) _ _, by simp⟩
      · exact h.blk.set_ 0 _
      · have h2 := h.bytes.cut (k := 1) (cap := c) (by simp) (by simpa using hcp)
        rw [if_neg (by simpa using hc1)] at h2
        have h3 : Reads w B 1 (some (ad.add 1)) r.length (r.map (Value.int .u8)) := by simpa using h2
        exact h3.setCell h.lo _
theorem Reads.take_ {w : World} {B n m : Nat} {A : Option Addr} {xs : List Value} (h : Reads w B 1 A n xs) (hm : m ≤ n) : Reads w B 1 A m (xs.take m) := by
  refine ⟨by simp [h.1]; omega, fun hn => ?_⟩
  obtain ⟨ad, hA, hb, hc⟩ := h.2 (by omega)
  refine ⟨ad, hA, hb, fun j u hu => hc j u ?_⟩
  rw [List.getElem?_take] at hu
  split at hu
  · exact hu
  · cases hu
set_option maxHeartbeats 4000000 in
theorem dice_new (A : Option Addr) (c : Nat) (l : List Int) (w : World) (h : Reads w w.heap.size 1 A l.length (l.map (Value.int .u8))) (hc : l.length ≤ c) (hl : l.length ≤ 9223372036854775807) (hwf : ∀ x ∈ l, 0 ≤ x ∧ x ≤ 255) :
    Calls Try.prog 26 #[.slice A l.length c] w fun e w' => e = .returned (.pointer (some ⟨w.heap.size, 0, none⟩)) ∧ (∃ l', Dice w' w.heap.size w.heap.size l') ∧ Grows w w' := by
  have key : ∀ (m : Nat) (w1 : World) (v : Value), m = min l.length 300 → w1 = w.alloc (.cells #[.slice A m c] DiceT) → v = .pointer (some ⟨w.heap.size, 0, none⟩) → Ending.returned v = .returned (.pointer (some ⟨w.heap.size, 0, none⟩)) ∧ (∃ l', Dice w1 w.heap.size w.heap.size l') ∧ Grows w w1 := by
    intro m w1 v hm hw hv
    subst hw hv
    have hlen : (l.take m).length = m := by simp; omega
    refine ⟨rfl, ⟨l.take m, A, c, ?_, ?_, by rw [hlen]; omega, Nat.le_refl _, fun x hx => hwf x (List.mem_of_mem_take hx), by rw [hlen]; omega⟩, (Below.refl _ _).alloc (Nat.le_refl _) _⟩
    · rw [hlen]; exact Blk.new _ _ _
    · rw [hlen, List.map_take]; exact (h.take_ (by omega)).alloc (Nat.le_refl _) _
  go_enter Try.func26, Try.ntmps26
  by_cases h3 : l.length ≤ 300
  · have e1 : min (l.length : Int) 300 = l.length := by omega
    go_wp2
    go_ret
    exact key l.length _ _ (by omega) rfl rfl
  · have e1 : min (l.length : Int) 300 = 300 := by omega
    go_wp2
    go_ret
    exact key 300 _ _ (by omega) rfl rfl
end Go.Proofs.Ytjdgfcjkpdmodaa
