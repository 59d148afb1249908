/-
  Graphs: what the maker of graphs keeps. Plain lemmas.
-/
import Derived.Test.YtmokpiacioeohaaGrY
import Derived.Test.YtmokpiacioeohaaRange
namespace Go.Proofs.Ytmokpiacioeohaa
open Go.RowKit Go.Maps
theorem next_is (g : Nat) (A : Option Addr) (c : Nat) (l : List Int) (k k' : Nat) (n d : Int) (w : World) (h : Deck w g A c l k) (hn : 1 ≤ n) (hn2 : n ≤ 9223372036854775807) (hd : nextV l k n = d) (hk : nextK l k = k') :
    Calls Try.prog 25 #[.pointer (some ⟨g, 0, none⟩), .int .i64 n] w fun e w' => e = .returned (.int .i64 d) ∧ Deck w' g A c l k' ∧ w.grownBy w' (some g) := by
  subst hd hk
  exact next_any g A c l k n w h hn hn2
theorem range_is (g : Nat) (A : Option Addr) (c : Nat) (l : List Int) (k k' : Nat) (lo hi d : Int) (w : World) (h : Deck w g A c l k) (h1 : lo ≤ hi) (h0 : 0 ≤ lo) (h2 : hi ≤ 4611686018427387904) (hd : lo + nextV l k (hi - lo + 1) = d) (hk : nextK l k = k') :
    Calls Try.prog 24 #[.pointer (some ⟨g, 0, none⟩), .int .i64 lo, .int .i64 hi] w fun e w' => e = .returned (.int .i64 d) ∧ Deck w' g A c l k' ∧ w.grownBy w' (some g) := by
  subst hd hk
  exact range_any g A c l k lo hi w h h1 h0 h2
theorem next_ex (l : List Int) (k : Nat) {n : Int} (h : 1 ≤ n) : ∃ (d : Nat) (k' : Nat), nextV l k n = (d : Int) ∧ nextK l k = k' ∧ (d : Int) < n := by
  obtain ⟨h1, h2⟩ := nextV_bd l k h
  obtain ⟨d, hd⟩ := Int.eq_ofNat_of_zero_le h1
  exact ⟨d, _, hd, rfl, by omega⟩
theorem grown_alloc {a b : World} {row : Option Nat} (h : a.grownBy b row) (o : Obj) : a.grownBy (b.alloc o) row := only_grows h ((Below.refl _ _).alloc (Nat.le_refl _) o)
theorem grown_set {a b : World} {row : Option Nat} (h : a.grownBy b row) {p : Addr} (hp : a.heap.size ≤ p.block) (u : Value) : a.grownBy (b.setCell p u) row :=
  ⟨h.os, h.tape, h.output, by simpa [World.setCell] using h.size, fun k hk hn => (Below.heap_setCell b p u k (by omega)).trans (h.block k hk hn)⟩
theorem gok_of {w : World} {base : Nat} {v1 v2 : Value} {ns ls : List Q4} (h1 : OwnN w base v1 ns) (h2 : OwnL w base v2 ls) (hv : validG ns ls = true) :
    ∃ A c A2 c2, v1 = .slice A ns.length c ∧ v2 = .slice A2 ls.length c2 ∧ ns.length ≤ c ∧ GOK w A A2 c2 ns ls := by
  obtain ⟨A, c, e1, hc1, q1⟩ := h1.read
  obtain ⟨A2, c2, e2, hc2, q2⟩ := h2.read
  have hp := valid_parts.1 hv
  have hn := (okN_iff ns).1 hp.2.2.1
  have hk := (okK_iff ns ls).1 hp.2.2.2.1
  have hi : ∀ n ∈ ns, In64 n.a := fun n h => by
    have := hn.1 n h
    simp only [fineN, Bool.and_eq_true, decide_eq_true_eq] at this
    unfold In64
    omega
  refine ⟨A, c, A2, c2, e1, e2, hc1, q1, q2, by omega, by omega, hc2, hi, fun l hl => ?_⟩
  obtain ⟨⟨n, f1⟩, ⟨m, f2⟩⟩ := ends_node (hk.1 l hl)
  obtain ⟨m1, m2⟩ := find_some f1
  obtain ⟨m3, m4⟩ := find_some f2
  exact ⟨m2 ▸ hi n m1, m4 ▸ hi m m3⟩
theorem valid_nil : validG [] [] = true := by decide
/-- The maker's graph under way: the result's block g2, the graph's block g4, both of the call's own, as are its rows. -/
structure GS (w0 w : World) (gd g2 g4 : Nat) (v1 v2 : Value) (ns ls : List Q4) : Prop where
  rel : w0.grownBy w (some gd)
  b2 : Blk w g2 40 #[.slice none 0 0, .slice none 0 0]
  b4 : Blk w g4 40 #[v1, v2]
  n : OwnN w w0.heap.size v1 ns
  l : OwnL w w0.heap.size v2 ls
  v : validG ns ls = true
  d : gd < w0.heap.size
  g2d : w0.heap.size ≤ g2
  g4d : w0.heap.size ≤ g4
section
variable {w0 w w' : World} {gd g2 g4 : Nat} {v1 v2 : Value} {ns ls : List Q4}
theorem GS.grows (h : GS w0 w gd g2 g4 v1 v2 ns ls) (hg : Grows w w') : GS w0 w' gd g2 g4 v1 v2 ns ls :=
  ⟨only_grows h.rel hg, h.b2.grows hg, h.b4.grows hg, h.n.grows hg, h.l.grows hg, h.v, h.d, h.g2d, h.g4d⟩
theorem GS.next (h : GS w0 w gd g2 g4 v1 v2 ns ls) (hg : w.grownBy w' (some gd)) : GS w0 w' gd g2 g4 v1 v2 ns ls :=
  ⟨grown_trans h.rel hg, h.b2.grown hg (fun e => by have := h.d; have := h.g2d; injection e; omega), h.b4.grown hg (fun e => by have := h.d; have := h.g4d; injection e; omega),
   World.ownsRow.kept h.n hg (.inr (fun e => by have := h.d; have := (h.n.lt gd e).1; omega)), World.ownsRow.kept h.l hg (.inr (fun e => by have := h.d; have := (h.l.lt gd e).1; omega)), h.v, h.d, h.g2d, h.g4d⟩
theorem GS.size (h : GS w0 w gd g2 g4 v1 v2 ns ls) : w0.heap.size ≤ w.heap.size := h.rel.size
/-- A graph stored into the graph's block. -/
theorem GS.put {u1 u2 : Value} {ns' ls' : List Q4} (h : GS w0 w gd g2 g4 v1 v2 ns ls) (hne : g2 ≠ g4) (h1 : OwnN w w0.heap.size u1 ns') (h2 : OwnL w w0.heap.size u2 ls') (hv : validG ns' ls' = true) : GS w0 ((w.setCell ⟨g4, 0, none⟩ u1).setCell ⟨g4, 1, none⟩ u2) gd g2 g4 u1 u2 ns' ls' := by
  have k := (h.b4.set_ 0 u1).set_ 1 u2
  refine ⟨grown_set (grown_set h.rel h.g4d u1) h.g4d u2, (h.b2.far hne u1).far hne u2, by simpa using k, ?_, ?_, hv, h.d, h.g2d, h.g4d⟩
  · exact OwnN.put (OwnN.put h1 h.b4 0 u1) (h.b4.set_ 0 u1) 1 u2
  · exact OwnL.put (OwnL.put h2 h.b4 0 u1) (h.b4.set_ 0 u1) 1 u2
end
theorem Deck.put2 {w : World} {g p : Nat} {A : Option Addr} {c : Nat} {l : List Int} {k : Nat} (h : Deck w g A c l k) (hp : g < p) (u1 u2 : Value) : Deck ((w.setCell ⟨p, 0, none⟩ u1).setCell ⟨p, 1, none⟩ u2) g A c l k := (h.far hp u1).far hp u2
theorem fine_mk {i : Nat} (hi : i ≤ 8) {x : Nat} (hx : (x : Int) < 3) {b c d : Int} (h : (b == 1 && c == 0 && d == 1) || (b == 2 && c == 1 && d == 0) || (b == 3 && decide (1 ≤ c) && decide (c ≤ 8) && d == 1) || (b == 4 && c == 1 && d == 1) || (b == 5 && c == 1 && decide (1 ≤ d) && decide (d ≤ 8))) : fineN ⟨(i : Int) * 3 + 1 + x, b, c, d⟩ = true := by
  unfold fineN
  dsimp only
  rw [h]
  simp only [Bool.and_true, Bool.and_eq_true, decide_eq_true_eq]
  omega
/-- Where the deck stands, by what has run. -/
def dkK (k k1 k2 k3 k4 : Nat) (a b c d : Bool) : Nat := if d then k4 else if c then k3 else if b then k2 else if a then k1 else k
end Go.Proofs.Ytmokpiacioeohaa
