/-
  Decks (mill.Deck): what Left and Next do: a deck in block g holds the numbers that are left.
-/
import Derived.Test.YtmokpiacioeohaaMill
namespace Go.Proofs.Ytmokpiacioeohaa
open Go.RowKit

/-- Only block g has turned, and what is new. -/
theorem only_grows {a w w' : World} {row : Option Nat} (h : a.grownBy w row) (hg : Grows w w') : a.grownBy w' row :=
  ⟨hg.os.trans h.os, hg.tape.trans h.tape, hg.output.trans h.output, Nat.le_trans h.size hg.size, fun k hk hn => (hg.block k (Nat.lt_of_lt_of_le hk h.size)).trans (h.block k hk hn)⟩
theorem only_of_grows {w w' : World} (hg : Grows w w') (row : Option Nat) : w.grownBy w' row := only_grows (World.grownBy.refl w row) hg
theorem only_set {a w : World} {g : Nat} (h : a.grownBy w (some g)) (i : Nat) (u : Value) : a.grownBy (w.setCell ⟨g, i, none⟩ u) (some g) :=
  ⟨h.os, h.tape, h.output, by simpa [World.setCell] using h.size, fun k hk hn => (Below.heap_setCell w ⟨g, i, none⟩ u k (fun e => hn (by rw [e]))).trans (h.block k hk hn)⟩

theorem reads_cell {w : World} {B n : Nat} {ad : Addr} {xs : List Value} {j : Nat} {u : Value} (h : Reads w B 1 (some ad) n xs) (hj : xs[j]? = some u) : w.cell? (ad.add j) = some u := by
  have hl := (List.getElem?_eq_some_iff.1 hj).1
  have h1 := h.1
  obtain ⟨ad', e, _, hc⟩ := h.2 (by omega)
  injection e with e
  subst e
  exact hc j u hj
abbrev DeckT : TypeId := 64
structure Deck (w : World) (g : Nat) (A : Option Addr) (c : Nat) (l : List Int) (k : Nat) : Prop where
  blk : Blk w g DeckT #[.slice A l.length c, .int .i64 k]
  ints : Reads w g 1 A l.length (l.map (Value.int .i64))
  le : k ≤ l.length
  len : l.length ≤ 9223372036854775807
theorem Deck.grows {w w' : World} {g : Nat} {A : Option Addr} {c : Nat} {l : List Int} {k : Nat} (h : Deck w g A c l k) (hg : Grows w w') : Deck w' g A c l k :=
  ⟨h.blk.grows hg, h.ints.below (hg.mono (Nat.le_of_lt h.blk.lt)), h.le, h.len⟩

set_option maxHeartbeats 2000000 in
theorem left_any (g : Nat) (A : Option Addr) (c : Nat) (l : List Int) (k : Nat) (w : World) (h : Deck w g A c l k) :
    Calls Try.prog 36 #[.pointer (some ⟨g, 0, none⟩)] w fun e w' => e = .returned (.bool (decide (k < l.length))) ∧ Grows w w' := by
  go_enter Try.func36, Try.ntmps36
  go_wp2
  refine wp_region_mix (fun w' => Grows w w' ∧ Deck w' g A c l k) [] 11 13 (by kernel_rfl) (by kernel_rfl) rfl ?_ float_none ?_ ?_
  · exact fun w1 w2 ⟨h1, h2⟩ hg => ⟨Grows.trans' h1 hg, h2.grows hg⟩
  · exact ⟨Grows.drew' w, h.grows (Grows.drew' w)⟩
  · simp only [List.take_succ_cons, List.take_zero, List.drop_succ_cons, List.drop_zero]
    iterate 11
      refine calm_plain rfl rfl (v := ?_) (a' := ?_) (fun w1 hw1 => ?_) ?_ ?_
      rotate_left 2
      · obtain ⟨_, hd⟩ := hw1
        have c1 := hd.blk.cell
        go_simp
        first | exact calm_val
      · simp only [Act.put, List.setIfInBounds_toArray, List.set_cons_succ, List.set_cons_zero]
        rfl
    refine calm_done (end_none ?_)
    rintro w7 ⟨hb7, -⟩
    go_wp2
    go_ret
    exact ⟨rfl, hb7⟩

set_option maxHeartbeats 4000000 in
theorem next_more (g : Nat) (A : Option Addr) (c : Nat) (l : List Int) (k : Nat) (n x : Int) (w : World) (h : Deck w g A c l k) (hx : l[k]? = some x) (hn : 1 ≤ n) (hn2 : n ≤ 9223372036854775807) :
    Calls Try.prog 25 #[.pointer (some ⟨g, 0, none⟩), .int .i64 n] w fun e w' => e = .returned (.int .i64 (x % n)) ∧ Deck w' g A c l (k + 1) ∧ w.grownBy w' (some g) := by
  have hk : k < l.length := (List.getElem?_eq_some_iff.1 hx).1
  have hk2 := h.len
  have hdec : decide (k < l.length) = true := by simp; omega
  have hwr : IntKind.i64.wrap (k : Int) = (k : Int) := IntWalk.i64_in _ (by omega)
  obtain ⟨ad, _, rfl, _, _, _⟩ := h.ints.at_ hk
  have HX : Hid ((l.map (Value.int .i64))[k]? = some (.int .i64 x)) := by show _ = _; rw [List.getElem?_map, hx]; rfl
  clear hx
  go_enter Try.func25, Try.ntmps25
  go_wp2_with (go_at_call 36; refine (left_any g (some ad) c l k _ h).mono ?_; rintro e w1 ⟨rfl, hq⟩; have h1 := h.grows hq; have c1 := h1.blk.cell; have f1 := h1.blk.frozen)
  have h2 : Deck (w1.setCell ⟨g, 1, none⟩ (.int .i64 ((k : Int) + 1))) g (some ad) c l (k + 1) :=
    ⟨by have := h1.blk.set_ 1 (.int .i64 ((k : Int) + 1)); simpa using this, h1.ints.setCell (Nat.le_refl _) _, hk, h1.len⟩
  have q2 := only_set (g := g) (only_of_grows hq (some g)) 1 (.int .i64 ((k : Int) + 1))
  generalize w1.setCell ⟨g, 1, none⟩ (.int .i64 ((k : Int) + 1)) = w2 at *
  clear h1 c1 f1 hq h
  refine wp_region_mix (fun w' => w.grownBy w' (some g) ∧ Deck w' g (some ad) c l (k + 1)) [] 14 28 (by kernel_rfl) (by kernel_rfl) rfl ?_ float_none ?_ ?_
  · exact fun w1 w2 ⟨h1, h2⟩ hg => ⟨only_grows h1 hg, h2.grows hg⟩
  · exact ⟨only_grows q2 (Grows.drew' w2), h2.grows (Grows.drew' w2)⟩
  · clear h2 q2
    simp only [List.take_succ_cons, List.take_zero, List.drop_succ_cons, List.drop_zero]
    iterate 14
      refine calm_plain rfl rfl (v := ?_) (a' := ?_) (fun w1 hw1 => ?_) ?_ ?_
      rotate_left 2
      · obtain ⟨_, hd⟩ := hw1
        have c1 := hd.blk.cell
        have hcell := reads_cell hd.ints HX.out
        go_simp
        first | exact calm_val | (refine calm_quiet ?_; refine mod_any _ _ _ ?_ ?_ <;> assumption)
      · simp only [Act.put, List.setIfInBounds_toArray, List.set_cons_succ, List.set_cons_zero]
        rfl
    refine calm_done (end_none ?_)
    rintro w7 ⟨hb7, hd7⟩
    go_wp2
    go_ret
    exact ⟨rfl, hd7, hb7⟩
theorem next_none (g : Nat) (A : Option Addr) (c : Nat) (l : List Int) (k : Nat) (n : Int) (w : World) (h : Deck w g A c l k) (hx : ¬ k < l.length) :
    Calls Try.prog 25 #[.pointer (some ⟨g, 0, none⟩), .int .i64 n] w fun e w' => e = .returned (.int .i64 0) ∧ Deck w' g A c l k ∧ w.grownBy w' (some g) := by
  have hdec : decide (k < l.length) = false := by simp; omega
  go_enter Try.func25, Try.ntmps25
  go_wp2_with (go_at_call 36; refine (left_any g A c l k _ h).mono ?_; rintro e w1 ⟨rfl, hq⟩)
  go_ret
  exact ⟨rfl, h.grows hq, only_of_grows hq _⟩
/-- The number that the deck gives, and where it then stands. -/
def nextV (l : List Int) (k : Nat) (n : Int) : Int := (l[k]?.getD 0) % n
def nextK (l : List Int) (k : Nat) : Nat := if k < l.length then k + 1 else k
theorem next_any (g : Nat) (A : Option Addr) (c : Nat) (l : List Int) (k : Nat) (n : Int) (w : World) (h : Deck w g A c l k) (hn : 1 ≤ n) (hn2 : n ≤ 9223372036854775807) :
    Calls Try.prog 25 #[.pointer (some ⟨g, 0, none⟩), .int .i64 n] w fun e w' => e = .returned (.int .i64 (nextV l k n)) ∧ Deck w' g A c l (nextK l k) ∧ w.grownBy w' (some g) := by
  by_cases hk : k < l.length
  · have hx : l[k]? = some l[k] := List.getElem?_eq_getElem hk
    rw [show nextV l k n = l[k] % n from by simp [nextV, hx], show nextK l k = k + 1 from by simp [nextK, hk]]
    exact next_more g A c l k n _ w h hx hn hn2
  · rw [show nextV l k n = 0 from by simp [nextV, List.getElem?_eq_none (by omega : l.length ≤ k)], show nextK l k = k from by simp [nextK, hk]]
    exact next_none g A c l k n w h hk
theorem new_deck (A : Option Addr) (c : Nat) (l : List Int) (w : World) (h : Ints w A l) (hl : l.length ≤ 9223372036854775807) :
    Calls Try.prog 16 #[.slice A l.length c] w fun e w' => e = .returned (.pointer (some ⟨w.heap.size, 0, none⟩)) ∧ Deck w' w.heap.size A c l 0 ∧ Grows w w' := by
  go_enter Try.func16, Try.ntmps16
  go_wp2
  go_ret
  exact ⟨rfl, ⟨Blk.new _ _ _, Reads.alloc h (Nat.le_refl _) _, Nat.zero_le _, hl⟩, (Below.refl _ _).alloc (Nat.le_refl _) _⟩
end Go.Proofs.Ytmokpiacioeohaa
