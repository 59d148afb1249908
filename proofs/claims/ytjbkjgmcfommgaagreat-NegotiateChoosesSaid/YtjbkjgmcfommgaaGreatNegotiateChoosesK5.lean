/-
  YtjbkjgmcfommgaaGreatNegotiateChooses: shared parts, 5. Plain theorems.
-/
import Derived.Test.YtjbkjgmcfommgaaGreatNegotiateChoosesK4
namespace Go.Proofs.YtjbkjgmcfommgaaGreat
open Go.RowKit
theorem best_fl {w : Ch} {l : List Bx} (h : FL l) (hn : l ≠ []) : (bestL (topP w) w l).2 = true ∧ hasL l (bestL (topP w) w l).1 = true ∧ ∀ y, hasL l y = true → cmpF w (bestL (topP w) w l).1 y ≤ 0 := by
 obtain ⟨k1, -, k3, k4⟩ := fold_best w (topP w) l (zeroC, false)
 unfold bestL hasL
 rw [h.boxes]
 generalize l.foldl (bestStep (topP w) w) (zeroC, false) = r at *
 refine ⟨k1 (.inr hn), ?_, fun y hy => ?_⟩
 ·rcases k4 with ⟨k4, _⟩ | k4 | ⟨b, hbm, k4⟩
  ·cases k4
  ·exact absurd k4 hn
  ·rw [List.any_eq_true, k4]
   exact ⟨b, hbm, top_in (h.1 b hbm).1 (h.1 b hbm).2 w⟩
 ·obtain ⟨b, hbm, hy⟩ := List.any_eq_true.1 hy
  exact (tot_cmp w).trans _ _ _ (k3 b hbm) (top_least (h.1 b hbm).1 (h.1 b hbm).2 w y hy)
/-- The best choice depends on the choices alone. -/
theorem best_by {w : Ch} {l m : List Bx} (h : FL l) (h2 : FL m) (hh : ∀ c, hasL l c = hasL m c) : bestL (topP w) w l = bestL (topP w) w m := by
 by_cases hn : l = []
 ·have hm : m = [] := by
   by_cases hm : m = []
   ·exact hm
   ·obtain ⟨c, hc⟩ := (fl_has h2).2 hm
    rw [← hh] at hc
    exact absurd hn ((fl_has h).1 ⟨c, hc⟩)
  rw [hn, hm]
 ·have hm : m ≠ [] := by
   obtain ⟨c, hc⟩ := (fl_has h).2 hn
   exact (fl_has h2).1 ⟨c, by rw [← hh]; exact hc⟩
  obtain ⟨a1, a2, a3⟩ := best_fl (w := w) h hn
  obtain ⟨b1, b2, b3⟩ := best_fl (w := w) h2 hm
  have c1 := a3 _ (by rw [hh]; exact b2)
  have c2 := b3 _ (by rw [← hh]; exact a2)
  have ha := (tot_cmp w).anti (bestL (topP w) w l).1 (bestL (topP w) w m).1
  have e := cmp_zero.1 (show cmpF w (bestL (topP w) w l).1 (bestL (topP w) w m).1 = 0 by omega)
  exact Prod.ext e (a1.trans b1.symm)
theorem best_wanted {w : Ch} {l : List Bx} (h : FL l) (hn : l ≠ []) (hw : hasL l w = true) : (bestL (topP w) w l).1 = w := by
 have k1 := (best_fl (w := w) h hn).2.2 w hw
 have k2 := cmp_least w (bestL (topP w) w l).1
 have k3 := (tot_cmp w).anti w (bestL (topP w) w l).1
 exact cmp_zero.1 (show cmpF w _ w = 0 by omega)
/-- What remains of a list before a choice. -/
def onlyR (d : Int) (s : List Bx) (c : Ch) : List Bx := (s.map fun b => dimsF d b (oneB c)).filter someB
theorem some_cand (d : Int) (s : List Bx) (c : Ch) : onlyR d s c = candL d (pairsL s [oneB c]) := by
 unfold onlyR candL pairsL
 congr 1
 induction s with
 | nil => rfl
 | cons b s ih =>
  rw [List.map_cons, ih]
  rfl
theorem canon_pt {r : Int} {L : List Sp} (hc : Canon L) (h : ∀ n, Mem L n → n = r) : L.length ≤ 1 := by
 match L, hc, h with
 | [], _, _ => exact Nat.zero_le _
 | [x], _, _ => exact Nat.le_refl _
 | x :: y :: t, hc, h =>
  exfalso
  obtain ⟨c1, c2, c3⟩ := canon_cons.1 hc
  obtain ⟨d1, -, -⟩ := canon_cons.1 c3
  have e1 := h x.1 ((mem_cons _ _ _).2 (.inl ⟨Int.le_refl _, c1⟩))
  have e2 := h y.1 ((mem_cons _ _ _).2 (.inr ((mem_cons _ _ _).2 (.inl ⟨Int.le_refl _, d1⟩))))
  have e3 := c2 y (List.mem_cons_self ..)
  omega
theorem one_len (a : List Sp) (r : Int) (ha : okS a = true) (h : okS [(r, r)] = true) : (interF a [(r, r)]).length ≤ 64 := by
 have h1 := canon_pt (r := r) (inter_form a [(r, r)] (ok_canon ha) (ok_canon h)).1 (fun n hn => by
  have := ((mem_inter _ _ n).1 hn).2
  rcases (mem_cons _ _ n).1 this with h | h
  ·have : r ≤ n ∧ n ≤ r := h
   omega
  ·exact absurd h (mem_nil n))
 omega
theorem one_many {d : Int} {x : Bx} {c : Ch} (hx : FB x) (hc : FB (oneB c)) : manyB d (dimsF d x (oneB c)) = false := by
 refine many_iff.2 ⟨fun hb => ?_, fun hb => ?_⟩
 ·show (if bitZ d 2 = true then interF (spansF x.r) (spansF (oneB c).r) else x.r).length ≤ 64
  rw [if_pos hb, hx.sr, hc.sr]
  exact one_len _ _ hx.r hc.r
 ·show (if bitZ d 8 = true then interF (spansF x.s) (spansF (oneB c).s) else x.s).length ≤ 64
  rw [if_pos hb, hx.ss, hc.ss]
  exact one_len _ _ hx.s hc.s
theorem single_is {c : Ch} (h1 : 1 ≤ c.k) (h7 : c.k ≤ 7) (h : fineB (oneB c) = true) : singleF c = [oneB c] ∧ FB (oneB c) := ⟨if_pos ⟨h1, h7, h⟩, h, (one_kind h1 h7).2.1⟩
/-- The program's reach before a choice: no limit, and the same choices as the reference's list. -/
theorem reach_one {d : Int} {s : List Bx} {c : Ch} (hs : FL s) (h1 : 1 ≤ c.k) (h7 : c.k ≤ 7) (h : fineB (oneB c) = true) : productF d s (singleF c) = (reduceL (onlyR d s c), 0) ∧ FL (onlyR d s c) ∧ ∀ e, hasL (onlyR d s c) e = true ↔ hasL s e = true ∧ agD d c e = true := by
 obtain ⟨e1, hc⟩ := single_is h1 h7 h
 have hf1 : FL [oneB c] := ⟨fun b hb => by simp only [List.mem_singleton] at hb; exact hb ▸ hc, by simp⟩
 have hp : prodF d s [oneB c] = some (onlyR d s c) := by
  rw [some_cand]
  refine prod_is (fun x hx y hy _ => ?_) (Nat.le_trans (cand_len d s [oneB c]) ?_)
  ·simp only [List.mem_singleton] at hy
   subst hy
   exact one_many (hs.1 x hx) hc
  ·have := hs.2
   simp only [List.length_singleton]
   omega
 have hf := prod_fine hs hf1 hp
 refine ⟨?_, hf, fun e => ?_⟩
 ·rw [e1]
  unfold productF
  rw [hp]
  exact if_pos hf.valid
 ·rw [prod_reach hs hf1 hp]
  constructor
  ·rintro ⟨a1, q, a2, a3⟩
   refine ⟨a1, ?_⟩
   obtain ⟨b, hb, hq⟩ := (hf1.has q).1 a2
   simp only [List.mem_singleton] at hb
   subst hb
   rw [one_has h h1 h7, decide_eq_true_eq] at hq
   exact hq ▸ a3
  ·rintro ⟨a1, a3⟩
   exact ⟨a1, c, (hf1.has c).2 ⟨oneB c, List.mem_singleton.2 rfl, by rw [one_has h h1 h7]; exact decide_eq_true rfl⟩, a3⟩
/-- One step back: of the program, of the reference. -/
def backP (d : Int) (s : List Bx) (c : Ch) : Ch := (bestL (topP c) c (productF d s (singleF c)).1).1
def backR (d : Int) (s : List Bx) (c : Ch) : Ch := (bestL (bestR c) c (onlyR d s c)).1
theorem back_same {d : Int} {s : List Bx} {c : Ch} (hs : FL s) (h1 : 1 ≤ c.k) (h7 : c.k ≤ 7) (h : fineB (oneB c) = true) : backP d s c = backR d s c := by
 obtain ⟨e, hf, -⟩ := reach_one (d := d) hs h1 h7 h
 unfold backP backR
 rw [e, ← best_same (fun b hb => (hf.1 b hb).2), best_by (w := c) hf.reduce hf (fun q => by rw [has_reduce hf])]
/-- One step back: the choice lies there and agrees, if one such choice is there. -/
theorem back_is {d : Int} {s : List Bx} {c : Ch} (hs : FL s) (h1 : 1 ≤ c.k) (h7 : c.k ≤ 7) (h : fineB (oneB c) = true) (he : ∃ e, hasL s e = true ∧ agD d e c = true) : hasL s (backP d s c) = true ∧ agD d (backP d s c) c = true := by
 obtain ⟨e, hf, hh⟩ := reach_one (d := d) hs h1 h7 h
 obtain ⟨q, q1, q2⟩ := he
 have hne : onlyR d s c ≠ [] := (fl_has hf).1 ⟨q, (hh q).2 ⟨q1, by rw [agD_comm]; exact q2⟩⟩
 have hb := (best_fl (w := c) hf.reduce (fun hn => hne (reduce_nil.1 hn))).2.1
 rw [has_reduce hf] at hb
 unfold backP
 rw [e]
 obtain ⟨b1, b2⟩ := (hh _).1 hb
 exact ⟨b1, by rw [agD_comm]; exact b2⟩
theorem fl_one {s : List Bx} (hs : FL s) {c : Ch} (h : hasL s c = true) : 1 ≤ c.k ∧ c.k ≤ 7 ∧ fineB (oneB c) = true := by
 obtain ⟨b, hb, hc⟩ := (hs.has c).1 h
 exact one_fine (hs.1 b hb) hc
/-- The choices from the last port back to port n - m. -/
def chUp (l : List Pt) (s : List (List Bx)) (want : Ch) (n : Nat) : Nat → Ch
 | 0 => (bestL (topP want) want (s.getD n [])).1
 | m + 1 => backP (keptD (l.getD (n - (m + 1)) noPt)) (s.getD (n - (m + 1)) []) (chUp l s want n m)
theorem ch_is {l : List Pt} {s : List (List Bx)} {want : Ch} {n : Nat} (hs : ∀ i, i ≤ n → FL (s.getD i []) ∧ s.getD i [] ≠ [] ∧ ∀ c, hasL (s.getD i []) c = true ↔ Rch l i c) : ∀ m, m ≤ n → hasL (s.getD (n - m) []) (chUp l s want n m) = true ∧ (∀ j, m = j + 1 → agD (keptD (l.getD (n - m) noPt)) (chUp l s want n m) (chUp l s want n j) = true) := by
 intro m
 induction m with
 | zero =>
  intro _
  obtain ⟨h1, h2, h3⟩ := hs n (Nat.le_refl _)
  exact ⟨(best_fl h1 h2).2.1, fun j hj => by omega⟩
 | succ m ih =>
  intro hm
  obtain ⟨i1, -⟩ := ih (by omega)
  obtain ⟨g1, g2, g3⟩ := hs (n - m) (by omega)
  obtain ⟨a1, a2, a3⟩ := hs (n - (m + 1)) (by omega)
  obtain ⟨o1, o2, o3⟩ := fl_one g1 i1
  have hr := (g3 _).1 i1
  have en : n - m = (n - (m + 1)) + 1 := by omega
  rw [en] at hr
  obtain ⟨-, e, e1, e2⟩ := hr
  have := back_is (d := keptD (l.getD (n - (m + 1)) noPt)) a1 o1 o2 o3 ⟨e, (a3 e).2 e1, e2⟩
  refine ⟨this.1, fun j hj => ?_⟩
  obtain rfl : j = m := by omega
  exact this.2
/-- Whether choices fit a chain. -/
def fitsF (l : List Pt) (c : List Ch) : Bool := validC l && decide (c.length = l.length) && (List.range l.length).all fun i => hasL (l.getD i noPt).b (c.getD i zeroC) && (decide (i = 0) || agD (keptD (l.getD (i - 1) noPt)) (c.getD (i - 1) zeroC) (c.getD i zeroC))
/-- What is reached lies in the port's own list. -/
theorem rch_has {l : List Pt} {i : Nat} {c : Ch} (h : Rch l i c) : hasL (l.getD i noPt).b c = true := by
 cases i with
 | zero => exact h
 | succ i => exact h.1
end Go.Proofs.YtjbkjgmcfommgaaGreat

namespace Go.Proofs.YtjbkjgmcfommgaaGreat
open Go.RowKit
theorem rch_prev {l : List Pt} {k : Nat} : ∀ n, k ≤ n → (∃ c, Rch l n c) → ∃ c, Rch l k c := by
 intro n
 induction n with
 | zero =>
  intro h hc
  obtain rfl : k = 0 := by omega
  exact hc
 | succ n ih =>
  intro h hc
  rcases Nat.eq_or_lt_of_le h with rfl | h
  ·exact hc
  ·obtain ⟨c, -, e, he, -⟩ := hc
   exact ih (by omega) ⟨e, he⟩
/-- Without a limit, a chain is met exactly if something is reached at its end. -/
theorem fw_ok {l : List Pt} (hv : ∀ p ∈ l, portOk p = true) (hk : ∀ p ∈ l, ∀ b ∈ p.b, I64 b.k) {n : Nat} (hn : n + 1 ≤ l.length) (hl : (fwUp l (n + 1)).2.2 ≠ 3) : ((fwUp l (n + 1)).2.2 = 0 ↔ ∃ c, Rch l n c) ∧ ((fwUp l (n + 1)).2.2 = 0 ∨ (fwUp l (n + 1)).2.2 = 13) := by
 rcases fw_is hv hk (n + 1) hn with ⟨h1, h2, h3⟩ | h1 | ⟨k, d, h1, h2, h3, h4⟩
 ·obtain ⟨g1, g2, g3⟩ := h3 n (by omega)
  have e : (fwUp l (n + 1)).2.2 = 0 := by rw [h1]
  refine ⟨⟨fun _ => ?_, fun _ => e⟩, .inl e⟩
  obtain ⟨c, hc⟩ := (fl_has g1).2 g2
  exact ⟨c, (g3 c).1 hc⟩
 ·rw [h1] at hl
  exact absurd rfl hl
 ·have e : (fwUp l (n + 1)).2.2 = 13 := by rw [h2]
  refine ⟨⟨fun h => (by rw [e] at h; cases h), fun h => ?_⟩, .inr e⟩
  obtain ⟨c, hc⟩ := rch_prev (k := k) n (by omega) h
  exact absurd hc (h4 c)
/-- What the makers of chains make. -/
def MadeP (l : List Pt) : Prop := 1 ≤ l.length ∧ l.length ≤ 5 ∧ ∀ p ∈ l, Fine p.b ∧ 1 ≤ p.b.length ∧ p.b.length ≤ 2 ∧ 0 ≤ p.v ∧ p.v ≤ 15
theorem MadeP.ok {l : List Pt} (h : MadeP l) : ∀ p ∈ l, portOk p = true := by
 intro p hp
 obtain ⟨h1, h2, h3, h4, h5⟩ := h.2.2 p hp
 unfold portOk validL
 simp only [Bool.and_eq_true, decide_eq_true_eq, List.all_eq_true]
 exact ⟨⟨⟨by omega, by omega, fun b hb => (h1 b hb).1⟩, h4⟩, h5⟩
theorem MadeP.k {l : List Pt} (h : MadeP l) : ∀ p ∈ l, ∀ b ∈ p.b, I64 b.k := fun p hp b hb => ((h.2.2 p hp).1 b hb).2.2.1
theorem MadeP.valid {l : List Pt} (h : MadeP l) : validC l = true := by
 unfold validC
 simp only [Bool.and_eq_true, decide_eq_true_eq, List.all_eq_true]
 exact ⟨⟨h.ok, h.1⟩, by have := h.2.1; omega⟩
def SzL (k : Nat) (a : List Bx) : Prop := ∀ b ∈ a, b.r.length ≤ k ∧ b.s.length ≤ k
theorem sz_cand {d : Int} {a b : List Bx} {k m : Nat} (ha : FL a) (hb : FL b) (sa : SzL k a) (sb : SzL m b) : SzL (k + m) (candL d (pairsL a b)) := by
 intro z hz
 obtain ⟨x, hx, y, hy, rfl, -⟩ := mem_cand.1 hz
 have fx := ha.1 x hx
 have fy := hb.1 y hy
 obtain ⟨x1, x2⟩ := sa x hx
 obtain ⟨y1, y2⟩ := sb y hy
 constructor
 ·show (if bitZ d 2 = true then interF (spansF x.r) (spansF y.r) else x.r).length ≤ k + m
  split
  ·rw [fx.sr, fy.sr]
   have := (inter_form _ _ (ok_canon fx.r) (ok_canon fy.r)).2.1
   omega
  ·omega
 ·show (if bitZ d 8 = true then interF (spansF x.s) (spansF y.s) else x.s).length ≤ k + m
  split
  ·rw [fx.ss, fy.ss]
   have := (inter_form _ _ (ok_canon fx.s) (ok_canon fy.s)).2.1
   omega
  ·omega
/-- Small chains reach no limit. W: how many boxes a port has at most. -/
theorem fw_small {l : List Pt} (hv : ∀ p ∈ l, portOk p = true) (hk : ∀ p ∈ l, ∀ b ∈ p.b, I64 b.k) (hs : ∀ p ∈ l, SzL 5 p.b ∧ p.b.length ≤ 2) : ∀ n, n ≤ l.length → n ≤ 5 →
 (fwUp l n).2.2 ≠ 3 ∧ ((fwUp l n).2.2 = 0 → (fwUp l n).1.length = n ∧ ∀ i, i < n → FL ((fwUp l n).1.getD i []) ∧ SzL (5 * (i + 1)) ((fwUp l n).1.getD i []) ∧ ((fwUp l n).1.getD i []).length ≤ 2 ^ (i + 1)) := by
 intro n
 induction n with
 | zero => exact fun _ _ => ⟨(show (0 : Int) ≠ 3 by decide), fun _ => ⟨rfl, fun i hi => absurd hi (by omega)⟩⟩
 | succ n ih =>
  intro hn h5
  obtain ⟨p, hp⟩ : ∃ p, l[n]? = some p := ⟨_, List.getElem?_eq_getElem (by omega)⟩
  have hpm := List.mem_of_getElem? hp
  have hfp := fl_port (hv p hpm) (hk p hpm)
  obtain ⟨s1, s2⟩ := hs p hpm
  obtain ⟨i1, i2⟩ := ih (by omega) (by omega)
  by_cases h0 : (fwUp l n).2.2 = 0
  ·obtain ⟨i3, i4⟩ := i2 h0
   have e := fw_next hp h0
   generalize hs : fwUp l n = s at *
   by_cases hb : p.b.length = 0
   ·have e2 : fwUp l (n + 1) = ([], ((n : Int), 15), 13) := by rw [e]; unfold fwStep; rw [if_pos hb]
    rw [e2]
    exact ⟨(show (13 : Int) ≠ 3 by decide), fun h => absurd h (show ¬ (13 : Int) = 0 by decide)⟩
   ·cases n with
    | zero =>
     have es : s = ([], (0, 0), 0) := hs.symm
     have e2 : fwUp l (0 + 1) = ([(reduceF p.b).1], (0, 0), 0) := by
      rw [e]
      unfold fwStep
      rw [if_neg hb, if_pos rfl, es]
      rfl
     have er : reduceF p.b = (reduceL p.b, 0) := if_pos hfp.valid
     rw [e2, er]
     refine ⟨(show (0 : Int) ≠ 3 by decide), fun _ => ⟨rfl, fun i hi => ?_⟩⟩
     obtain rfl : i = 0 := by omega
     have := reduce_len p.b
     exact ⟨hfp.reduce, fun b hb => s1 b (reduce_mem b hb), by show (reduceL p.b).length ≤ 2; omega⟩
    | succ m =>
     obtain ⟨g1, g2, g3⟩ := i4 m (by omega)
     have hpw : (2 : Nat) ^ (m + 1) ≤ 16 := by
      have : (2 : Nat) ^ (m + 1) ≤ 2 ^ 4 := Nat.pow_le_pow_right (by omega) (by omega)
      simpa using this
     have hmul : p.b.length * (s.1.getD m []).length ≤ 2 * 2 ^ (m + 1) := Nat.mul_le_mul s2 g3
     have hq : prodF (keptD (l.getD m noPt)) p.b (s.1.getD m []) = some (candL (keptD (l.getD m noPt)) (pairsL p.b (s.1.getD m []))) := by
      refine small_prod hfp g1 (fun b hb => ?_) (fun b hb => ?_) (by omega)
      ·have := s1 b hb
       omega
      ·have := g2 b hb
       omega
     have hcl := cand_len (keptD (l.getD m noPt)) p.b (s.1.getD m [])
     have hsz := sz_cand (d := keptD (l.getD m noPt)) hfp g1 s1 g2
     have hf := prod_fine hfp g1 hq
     have hpr : productF (keptD (l.getD m noPt)) p.b (s.1.getD m []) = (reduceL (candL (keptD (l.getD m noPt)) (pairsL p.b (s.1.getD m []))), 0) := by
      unfold productF
      rw [hq]
      exact if_pos hf.valid
     have es : fwUp l (m + 1 + 1) = if (productF (keptD (l.getD m noPt)) p.b (s.1.getD m [])).2 ≠ 0 then ([], (0, 0), (productF (keptD (l.getD m noPt)) p.b (s.1.getD m [])).2)
      else if (productF (keptD (l.getD m noPt)) p.b (s.1.getD m [])).1.length = 0 then ([], (((m + 1 : Nat) : Int), apartD (keptD (l.getD m noPt)) p.b (s.1.getD m [])), 13)
      else (s.1 ++ [(productF (keptD (l.getD m noPt)) p.b (s.1.getD m [])).1], (0, 0), 0) := by
      rw [e]
      unfold fwStep
      rw [if_neg hb, if_neg (by omega)]
      rfl
     rw [hpr, if_neg (by simp)] at es
     generalize candL (keptD (l.getD m noPt)) (pairsL p.b (s.1.getD m [])) = C at *
     by_cases hc : (reduceL C).length = 0
     ·have es := es.trans (if_pos hc)
      rw [es]
      exact ⟨(show (13 : Int) ≠ 3 by decide), fun h => absurd h (show ¬ (13 : Int) = 0 by decide)⟩
     ·have es := es.trans (if_neg hc)
      rw [es]
      refine ⟨(show (0 : Int) ≠ 3 by decide), fun _ => ⟨by show (s.1 ++ [reduceL C]).length = _; rw [List.length_append, i3]; rfl, fun i hi => ?_⟩⟩
      show FL ((s.1 ++ [reduceL C]).getD i []) ∧ SzL (5 * (i + 1)) ((s.1 ++ [reduceL C]).getD i []) ∧ ((s.1 ++ [reduceL C]).getD i []).length ≤ 2 ^ (i + 1)
      by_cases him : i = m + 1
      ·subst him
       have eg : (s.1 ++ [reduceL C]).getD (m + 1) [] = reduceL C := by
        rw [List.getD_eq_getElem?_getD, List.getElem?_append_right (by omega), i3, Nat.sub_self]
        rfl
       rw [eg]
       have hrl := reduce_len C
       have hp2 : (2 : Nat) ^ (m + 1 + 1) = 2 * 2 ^ (m + 1) := by rw [Nat.pow_succ, Nat.mul_comm]
       exact ⟨hf.reduce, fun b hb => by have := hsz b (reduce_mem b hb); omega, by omega⟩
      ·have eg : (s.1 ++ [reduceL C]).getD i [] = s.1.getD i [] := by
        rw [List.getD_eq_getElem?_getD, List.getElem?_append_left (by omega), ← List.getD_eq_getElem?_getD]
       rw [eg]
       exact i4 i (by omega)
  ·rw [fw_stop h0 (n + 1) (by omega)]
   exact ⟨i1, fun h => absurd h h0⟩
theorem MadeP.small {l : List Pt} (h : MadeP l) {n : Nat} (hn : n ≤ l.length) : (fwUp l n).2.2 ≠ 3 :=
 (fw_small h.ok h.k (fun p hp => ⟨fun b hb => by have := ((h.2.2 p hp).1 b hb).2.2.2; unfold Few at this; omega, (h.2.2 p hp).2.2.1⟩) n hn (by have := h.2.1; omega)).1
/-- Whether something is in common depends on the choices alone. -/
theorem met_has {d : Int} {a b : List Bx} (ha : FL a) (hb : FL b) : metD d a b = true ↔ ∃ c e, hasL a c = true ∧ hasL b e = true ∧ agD d e c = true := by
 constructor
 ·intro h
  obtain ⟨x, hx, h⟩ := List.any_eq_true.1 h
  obtain ⟨y, hy, h⟩ := List.any_eq_true.1 h
  obtain ⟨c, c1, c2⟩ := some_has (ha.1 x hx) (hb.1 y hy) h
  obtain ⟨e, e1, e2⟩ := (inD_iff (hb.1 y hy)).1 c2
  exact ⟨c, e, (ha.has c).2 ⟨x, hx, c1⟩, (hb.has e).2 ⟨y, hy, e1⟩, e2⟩
 ·rintro ⟨c, e, h1, h2, h3⟩
  obtain ⟨x, hx, c1⟩ := (ha.has c).1 h1
  obtain ⟨y, hy, e1⟩ := (hb.has e).1 h2
  exact List.any_eq_true.2 ⟨x, hx, List.any_eq_true.2 ⟨y, hy, dims_some (ha.1 x hx) (hb.1 y hy) c1 ((inD_iff (hb.1 y hy)).2 ⟨e, e1, h3⟩)⟩⟩
end Go.Proofs.YtjbkjgmcfommgaaGreat

namespace Go.Proofs.YtjbkjgmcfommgaaGreat
open Go.RowKit
end Go.Proofs.YtjbkjgmcfommgaaGreat

namespace Go.Proofs.YtjbkjgmcfommgaaGreat
open Go.RowKit
theorem fw_ex {l : List Pt} (hv : ∀ p ∈ l, portOk p = true) (hk : ∀ p ∈ l, ∀ b ∈ p.b, I64 b.k) {n k : Nat} (hn : n ≤ l.length) (h0 : (fwUp l n).2.2 = 0) (hkn : k < n) : FL ((fwUp l n).1.getD k []) ∧ (fwUp l n).1.getD k [] ≠ [] ∧ (∀ c, hasL ((fwUp l n).1.getD k []) c = true ↔ Rch l k c) ∧ (∃ c, Rch l k c) ∧ (fwUp l n).1.length = n ∧ (fwUp l n).2 = ((0, 0), 0) := by
 rcases fw_is hv hk n hn with ⟨h1, h2, h3⟩ | h1 | ⟨_, _, _, h2, -, -⟩
 ·obtain ⟨g1, g2, g3⟩ := h3 k hkn
  obtain ⟨c, hc⟩ := (fl_has g1).2 g2
  exact ⟨g1, g2, g3, ⟨c, (g3 c).1 hc⟩, h2, h1⟩
 ·rw [h1] at h0
  exact absurd h0 (show ¬ (3 : Int) = 0 by decide)
 ·rw [h2] at h0
  exact absurd h0 (show ¬ (13 : Int) = 0 by decide)
end Go.Proofs.YtjbkjgmcfommgaaGreat

namespace Go.Proofs.YtjbkjgmcfommgaaGreat
open Go.RowKit
/-- What Forward gives behind a step. -/
theorem fw_at {l : List Pt} {k : Nat} {p : Pt} {ls : List (List Bx)} (hp : l[k]? = some p) (h : fwUp l k = (ls, (0, 0), 0)) : fwUp l (k + 1) = fwStep l k p (ls, (0, 0), 0) := by
 rw [fw_next hp (by rw [h]), h]
theorem fw_end {l : List Pt} (hv : validC l = true) {k : Nat} (hk : k + 1 ≤ l.length) (h : (fwUp l (k + 1)).2.2 ≠ 0) : forwardF l = fwUp l (k + 1) := by
 unfold forwardF
 rw [if_pos hv, fw_stop h l.length hk]
theorem valid_ports {l : List Pt} (hv : validC l = true) : (∀ p ∈ l, portOk p = true) ∧ 1 ≤ l.length ∧ l.length ≤ 16 := by
 unfold validC at hv
 simp only [Bool.and_eq_true, decide_eq_true_eq, List.all_eq_true] at hv
 exact ⟨hv.1.1, hv.1.2, hv.2⟩
theorem fw_none {l : List Pt} {k : Nat} {p : Pt} {ls : List (List Bx)} (hv : validC l = true) (hp : l[k]? = some p) (h : fwUp l k = (ls, (0, 0), 0)) (h0 : p.b.length = 0) : forwardF l = ([], ((k : Int), 15), 13) := by
 have e : fwUp l (k + 1) = ([], ((k : Int), 15), 13) := by rw [fw_at hp h]; unfold fwStep; rw [if_pos h0]
 rw [fw_end (k := k) hv (by have := (List.getElem?_eq_some_iff.1 hp).1; omega) (by rw [e]; exact (show ¬ (13 : Int) = 0 by decide)), e]
theorem fw_first {l : List Pt} {p : Pt} {ls : List (List Bx)} (hp : l[0]? = some p) (h : fwUp l 0 = (ls, (0, 0), 0)) (h0 : p.b.length ≠ 0) : fwUp l 1 = (ls ++ [(reduceF p.b).1], (0, 0), 0) := by
 rw [fw_at hp h]
 unfold fwStep
 rw [if_neg h0, if_pos rfl]
/-- What the product is of, at a later port. -/
def prodAt (l : List Pt) (k : Nat) (p : Pt) (ls : List (List Bx)) : List Bx × Int := productF (keptD (l.getD (k - 1) noPt)) p.b (ls.getD (k - 1) [])
theorem fw_lim {l : List Pt} {k : Nat} {p : Pt} {ls : List (List Bx)} (hv : validC l = true) (hp : l[k]? = some p) (h : fwUp l k = (ls, (0, 0), 0)) (h0 : p.b.length ≠ 0) (hk : k ≠ 0) (he : (prodAt l k p ls).2 ≠ 0) : forwardF l = ([], (0, 0), (prodAt l k p ls).2) := by
 have e : fwUp l (k + 1) = ([], (0, 0), (prodAt l k p ls).2) := by
  rw [fw_at hp h]
  unfold fwStep
  rw [if_neg h0, if_neg hk]
  exact if_pos he
 rw [fw_end (k := k) hv (by have := (List.getElem?_eq_some_iff.1 hp).1; omega) (by rw [e]; exact he), e]
theorem fw_refuse {l : List Pt} {k : Nat} {p : Pt} {ls : List (List Bx)} (hv : validC l = true) (hp : l[k]? = some p) (h : fwUp l k = (ls, (0, 0), 0)) (h0 : p.b.length ≠ 0) (hk : k ≠ 0) (he : (prodAt l k p ls).2 = 0) (h2 : (prodAt l k p ls).1.length = 0) : forwardF l = ([], ((k : Int), apartD (keptD (l.getD (k - 1) noPt)) p.b (ls.getD (k - 1) [])), 13) := by
 have e : fwUp l (k + 1) = ([], ((k : Int), apartD (keptD (l.getD (k - 1) noPt)) p.b (ls.getD (k - 1) [])), 13) := by
  rw [fw_at hp h]
  unfold fwStep
  rw [if_neg h0, if_neg hk]
  exact (if_neg (fun hh => hh he)).trans (if_pos h2)
 rw [fw_end (k := k) hv (by have := (List.getElem?_eq_some_iff.1 hp).1; omega) (by rw [e]; exact (show ¬ (13 : Int) = 0 by decide)), e]
theorem fw_more {l : List Pt} {k : Nat} {p : Pt} {ls : List (List Bx)} (hp : l[k]? = some p) (h : fwUp l k = (ls, (0, 0), 0)) (h0 : p.b.length ≠ 0) (hk : k ≠ 0) (he : (prodAt l k p ls).2 = 0) (h2 : (prodAt l k p ls).1.length ≠ 0) : fwUp l (k + 1) = (ls ++ [(prodAt l k p ls).1], (0, 0), 0) := by
 rw [fw_at hp h]
 unfold fwStep
 rw [if_neg h0, if_neg hk]
 exact (if_neg (fun hh => hh he)).trans (if_neg h2)
theorem fw_whole {l : List Pt} {ls : List (List Bx)} (hv : validC l = true) (h : fwUp l l.length = (ls, (0, 0), 0)) : forwardF l = (ls, (0, 0), 0) := by
 unfold forwardF
 rw [if_pos hv, h]
theorem fw_bad {l : List Pt} (hv : validC l = false) : forwardF l = ([], (0, 0), 1) := by
 unfold forwardF
 rw [if_neg (by rw [hv]; simp)]
theorem port_fl {l : List Pt} (hv : validC l = true) {k : Nat} {p : Pt} (hp : l[k]? = some p) (hk : ∀ b ∈ p.b, I64 b.k) : FL p.b ∧ 0 ≤ p.v ∧ p.v ≤ 15 ∧ p.b.length ≤ 8 := by
 have h := (valid_ports hv).1 p (List.mem_of_getElem? hp)
 have hf := fl_port h hk
 unfold portOk at h
 simp only [Bool.and_eq_true, decide_eq_true_eq] at h
 exact ⟨hf, h.1.2, h.2, h.1.1.1⟩
theorem fw_prev {l : List Pt} {k : Nat} {ls : List (List Bx)} {x : List Bx} {p : Pt} (hv : validC l = true) (hk : ∀ p ∈ l, ∀ b ∈ p.b, I64 b.k) (hkl : k ≤ l.length) (hk0 : k ≠ 0) (h : fwUp l k = (ls, (0, 0), 0)) (hx : ls[k - 1]? = some x) (hp : l[k - 1]? = some p) : FL x ∧ x ≠ [] ∧ ls.getD (k - 1) [] = x ∧ keptD (l.getD (k - 1) noPt) = bits .andNot .i64 15 p.v ∧ ∃ d : Fin 16, bits .andNot .i64 15 p.v = (d.val : Int) := by
 obtain ⟨h1, h2, -, -, -, -⟩ := fw_ex (valid_ports hv).1 hk hkl (k := k - 1) (by rw [h]) (by omega)
 rw [h] at h1 h2
 have e : ls.getD (k - 1) [] = x := by rw [List.getD_eq_getElem?_getD, hx]; rfl
 have e2 : l.getD (k - 1) noPt = p := by rw [List.getD_eq_getElem?_getD, hp]; rfl
 have h1 : FL (ls.getD (k - 1) []) := h1
 have h2 : ls.getD (k - 1) [] ≠ [] := h2
 rw [e] at h1 h2
 rw [e, e2]
 exact ⟨h1, h2, rfl, rfl, kept_nat ((valid_ports hv).1 p (List.mem_of_getElem? hp))⟩
theorem prod_blame {d : Fin 16} {a b : List Bx} (ha : FL a) (hb : FL b) (h1 : a ≠ []) (h2 : b ≠ []) (h : (productF (d.val : Int) a b).2 = 0) (h0 : (productF (d.val : Int) a b).1.length = 0) : ngBlame (d.val : Int) a b = apartD (d.val : Int) a b := by
 refine ng_blame ha hb h1 h2 ?_
 cases hm : metD (d.val : Int) a b
 ·rfl
 ·obtain ⟨c, e, c1, c2, c3⟩ := (met_has ha hb).1 hm
  rcases prodF_cases (d := (d.val : Int)) ha hb with hq | ⟨-, q2, q3⟩
  ·rw [hq] at h
   exact absurd h (show ¬ (3 : Int) = 0 by decide)
  ·have := (q3 c).2 ⟨c1, e, c2, c3⟩
   rw [List.eq_nil_of_length_eq_zero h0] at this
   obtain ⟨b, hb, -⟩ := (FL.has ⟨by simp, by simp⟩ c).1 this
   cases hb
section
variable {w w' : World} {base g : Nat} {ok : Nat → Prop} {v : Value} {ls : List (List Bx)}
theorem Bxs.onlyq {B : Option Addr} {x : List Bx} (h : Bxs w (Aq ok v) B x) (hg : w.grownBy w' (some g)) (hl : ¬ ok g) : Bxs w' (Aq ok v) B x := h.grown hg (fun q e hq => by injection e with e; exact hl (e ▸ hq.1))
theorem OwnLq.only (h : OwnLq w base ok v ls) (hg : w.grownBy w' (some g)) (hb : g < base) (hl : ¬ ok g) : OwnLq w' base ok v ls := by
 obtain ⟨vs, h1, h2⟩ := h
 refine ⟨vs, World.ownsRow.kept h1 hg ?_, fun i x hx => by obtain ⟨B, c, e, hc, hi⟩ := h2 i x hx; exact ⟨B, c, e, hc, hi.onlyq hg hl⟩⟩
 cases e : v.ownBlock with
 | none => exact .inl rfl
 | some q =>
  refine .inr fun e2 => ?_
  have := (World.ownsRow.lt h1 q e).1
  injection e2 with e2
  omega
theorem OwnLq.lower {base2 : Nat} {ok2 : Nat → Prop} (h : OwnLq w base ok v ls) (hb : base2 ≤ base) (hk : ∀ k, ok k → ok2 k) : OwnLq w base2 ok2 v ls := by
 obtain ⟨vs, h1, h2⟩ := h
 refine ⟨vs, ⟨h1.1, h1.2.imp id fun ⟨g, cap, cur, e, hg, r⟩ => ⟨g, cap, cur, e, by omega, r⟩⟩, fun i x hx => by obtain ⟨B, c, e, hc, hi⟩ := h2 i x hx; exact ⟨B, c, e, hc, hi.mono (fun k hk2 => ⟨hk k hk2.1, hk2.2⟩)⟩⟩
/-- An element of a row of lists. -/
theorem OwnLq.elem (h : OwnLq w base ok v ls) {k : Nat} (hk : k < ls.length) : ∃ ad c x B d, v = .slice (some ad) ls.length c ∧ ls.length ≤ c ∧ ad.block < w.heap.size ∧ base ≤ ad.block ∧ ls[k]? = some x ∧ x.length ≤ d ∧ w.cell? (ad.add k) = some (.slice B x.length d) ∧ Bxs w (Aq ok v) B x := by
 obtain ⟨A, c, rfl, hc, vs, hr, h2⟩ := h.read
 obtain ⟨ad, rfl, hb, hcell⟩ := hr.2 (by omega)
 have hx := List.getElem?_eq_getElem hk
 obtain ⟨B, d, e, hd, hbx⟩ := h2 k _ hx
 refine ⟨ad, c, _, B, d, rfl, hc, hb, ?_, hx, hd, hcell k _ e, hbx⟩
 obtain ⟨vs2, h1, -⟩ := h
 rcases h1.2 with ⟨e, _⟩ | ⟨q, cap, cur, e, hbq, _⟩
 ·injection e with e; cases e
 ·injection e with e
  injection e with e
  subst e
  exact hbq
end
set_option maxHeartbeats 64000000 in
set_option maxRecDepth 10000 in
theorem forward_any {ok : Nat → Prop} {A : Option Addr} {c n : Nat} {l : List Pt} {w : World} (hn : n = l.length) (h : Pts w ok A l) (hl : l.length ≤ 1000000) (ho : ∀ p ∈ l, (∀ b ∈ p.b, OKB b ∧ I64 b.k) ∧ p.b.length ≤ 1000000) :
 Calls Tryz.prog 10 #[.slice A n c] w fun e w' => (∃ v, e = .returned (.tuple #[v, .agg #[.int .i64 (forwardF l).2.1.1, .int .i64 (forwardF l).2.1.2], .int .i64 (forwardF l).2.2]) ∧ OwnLq w' w.heap.size (Ge w.heap.size) v (forwardF l).1) ∧ Grows w w' := by
 subst hn
 have HO := Lib.hid ho
 clear ho
 have k3 := Blk.new w 32 #[.int .i64 0, .int .i64 0]
 have hB := (Below.refl w.heap.size w).alloc (Nat.le_refl _) (Obj.cells #[.int .i64 0, .int .i64 0] 32)
 go_enter Tryz.func10, Tryz.ntmps10
 go_upto_region 1 with fail
 generalize World.alloc w _ = w1 at *
 have hs1 := k3.lt
 go_wp2_with fail
 refine (nvalid_any rfl (h.grows hB) hl (fun p hp => ⟨fun b hb => ((HO.out p hp).1 b hb).1, (HO.out p hp).2⟩)).mono ?_
 rintro e w2 ⟨rfl, hq⟩
 replace hB := below_grows hB (Nat.le_refl _) hq
 replace k3 := k3.grows hq
 clear hq
 cases hv : validC l
 ·have HE : Hid (forwardF l = ([], (0, 0), 1)) := Lib.hid (fw_bad hv)
  clear hv h
  have x3 := k3.cell
  have f3 := k3.frozen
  have hB3 := (hB.setCell (p := ⟨w.heap.size, 0, none⟩) (Nat.le_refl _) (.int .i64 0)).setCell (p := ⟨w.heap.size, 1, none⟩) (Nat.le_refl _) (.int .i64 0)
  have x3z := ((k3.set_ 0 (.int .i64 0)).set_ 1 (.int .i64 0)).cell
  go_wp2
  generalize World.setCell (World.setCell w2 _ _) _ _ = wz at *
  refine bodyPost_ret (v := .tuple #[.slice none 0 0, .agg #[.int .i64 0, .int .i64 0], .int .i64 1]) (by simp [results, Tryz.results10, go_sem, x3z]) rfl ?_
  rw [HE.out]
  exact ⟨⟨_, rfl, OwnLq.nil⟩, hB3⟩
 have HV := Lib.hid hv
 clear hv
 go_wp2_with fail
 go_loopw [5, 19] (fun v i wr => ∃ (k : Nat) (ls : List (List Bx)), k ≤ l.length ∧ i = .int .i64 k ∧ Hid (ls.length = k) ∧ Hid (fwUp l k = (ls, (0, 0), 0)) ∧ OwnLq wr (w.heap.size + 1) (Ge (w.heap.size + 1)) v ls ∧ Blk wr w.heap.size 32 #[.int .i64 0, .int .i64 0] ∧ Below w.heap.size w wr) (fun _ i _ => l.length - (intOf i).toNat)
 case atStart => exact ⟨0, [], by omega, rfl, Lib.hid rfl, Lib.hid rfl, OwnLq.nil, k3, hB⟩
 case round =>
  clear k3 hB hs1
  obtain ⟨k, ls, hk, rfl, HLN, HK, hw, k3, hB⟩ := hrel
  have hs1 := k3.lt
  by_cases hlt : k < l.length
  ·obtain ⟨ad, p, B, cp, e1, had, hp, hbx, hcp, q0, q1⟩ := h.elem hB hlt
   subst e1
   have HP := Lib.hid hp
   have HKO := Lib.hid (fun b hb => ((HO.out p (List.mem_of_getElem? hp)).1 b hb).2)
   obtain ⟨hfl, hv0, hv15, hp8⟩ := port_fl HV.out hp HKO.out
   have HFL := Lib.hid hfl
   clear hp hfl
   have hne8 := fun e => Nat.lt_irrefl _ (hw.lt _ e).2
   have k8 := Blk.new wr 47 #[.slice B p.b.length cp, .int .i64 p.v]
   have hq := (Below.refl wr.heap.size wr).alloc (Nat.le_refl _) (Obj.cells #[.slice B p.b.length cp, .int .i64 p.v] 47)
   go_upto_region 7 with fail
   replace hB := below_grows hB (Nat.le_refl _) hq
   replace hw := hw.grows hq
   replace k3 := k3.grows hq
   replace hbx := hbx.grows hB
   clear hq q0 q1
   have hs8 : wr.heap.size ≠ w.heap.size := by omega
   have hs9 := k8.lt
   generalize World.alloc wr _ = w5 at *
   generalize wr.heap.size = G8 at *
   have x8 := k8.cell
   by_cases hb0 : p.b.length = 0
   ·have HE : Hid (forwardF l = ([], ((k : Int), 15), 13)) := Lib.hid (fw_none HV.out HP.out HK.out hb0)
    have e1 : ((p.b.length : Int) == 0) = true := by rw [hb0]; rfl
    have e2 : decide ((p.b.length : Int) = 0) = true := by rw [hb0]; rfl
    clear hb0 h hw
    have x3 := k3.cell
    have f3 := k3.frozen
    have hB3 := (hB.setCell (p := ⟨w.heap.size, 0, none⟩) (Nat.le_refl _) (.int .i64 k)).setCell (p := ⟨w.heap.size, 1, none⟩) (Nat.le_refl _) (.int .i64 15)
    have x3z := ((k3.set_ 0 (.int .i64 k)).set_ 1 (.int .i64 15)).cell
    go_wp2
    generalize World.setCell (World.setCell w5 _ _) _ _ = wz at *
    refine bodyPost_ret (v := .tuple #[.slice none 0 0, .agg #[.int .i64 k, .int .i64 15], .int .i64 13]) (by simp [results, Tryz.results10, go_sem, x3z]) rfl ?_
    rw [HE.out]
    exact ⟨⟨_, rfl, OwnLq.nil⟩, hB3⟩
   have e1 : ((p.b.length : Int) == 0) = false := by simp only [beq_eq_false_iff_ne, ne_eq]; omega
   have e2 : decide ((p.b.length : Int) = 0) = false := by simp only [decide_eq_false_iff_not]; omega
   have HB0 := Lib.hid hb0
   clear hb0
   by_cases hk0 : k = 0
   ·subst hk0
    go_wp2_with fail
    refine (preduce_any rfl hbx (by omega) (fun b hb => okb_fine (HFL.out.1 b hb))).mono ?_
    rintro e w6 ⟨⟨v6, rfl, hw6⟩, hq⟩
    have hsz5 := hB.size
    have hown := hw.lt
    obtain ⟨A9, c9, rfl, hc9, hx9⟩ := hw6.read
    replace hx9 : Bxs w6 (Aq (Ge (w.heap.size + 1)) _) A9 _ := hx9.mono fun k hk => ⟨by unfold Ge at *; omega, fun e => by have h9 := (hown _ e).2; unfold Ge at hk; omega⟩
    replace hB := below_grows hB (Nat.le_refl _) hq
    replace hw := hw.grows hq
    replace k3 := k3.grows hq
    have HN0 : Hid (fwUp l (0 + 1) = (ls ++ [(reduceF p.b).1], (0, 0), 0)) := Lib.hid (fw_first HP.out HK.out HB0.out)
    generalize (reduceF p.b).1 = x9 at *
    clear hq hown hw6 x8 k8
    go_upto_region 11 with fail
    refine wp_region_lit ?_
    iterate 3
     refine wpList_plain rfl (fun K hK => ?_)
     go_simp
     refine hK _ _ ?_
     clear hK K
    have hk0_ := Blk.new w6 45 #[.slice A9 x9.length c9]
    have hq := (Below.refl w6.heap.size w6).alloc (Nat.le_refl _) (Obj.cells #[.slice A9 x9.length c9] 45)
    have hrd : Reads (w6.alloc (Obj.cells #[.slice A9 x9.length c9] 45)) (w6.alloc (Obj.cells #[.slice A9 x9.length c9] 45)).heap.size 1 (some ⟨w6.heap.size, 0, none⟩) 1 [.slice A9 x9.length c9] := ⟨rfl, fun _ => ⟨_, rfl, hk0_.lt, fun j u hu => by rw [add_head, hk0_.cell, ← Array.getElem?_toList]; exact hu⟩⟩
    replace hB := below_grows hB (Nat.le_refl _) hq
    replace k3 := k3.grows hq
    replace hw := hw.grows hq
    replace hx9 := hx9.grows hq
    have hs1 := k3.lt
    have hol := hw.lt
    clear hq hk0_
    refine wpList_append_lq rfl (.tmp 38) (.tmp 40) rfl rfl hw rfl hrd (by have := HLN.out; omega) (by omega) hx9 hc9 ?_
    intro v7 w7 ho2 hgr hv7
    replace hB := hB.grown hgr hB.size (fun q e => by have := (hol q e).1; omega)
    replace k3 := k3.grown hgr (fun e => by have := (hol _ e.symm).1; omega)
    have HL2 : Hid ((ls ++ [x9]).length = ls.length + 1) := Lib.hid (by rw [List.length_append, List.length_singleton])
    clear hrd hgr hw hol hx9
    generalize ls ++ [x9] = ls2 at *
    go_wp2
    go_roundw
    case rel => exact ⟨0 + 1, ls2, by omega, by go_num, Lib.hid (by rw [HL2.out, HLN.out]), HN0, ho2, k3, hB⟩
    case measure => simp [intOf]; omega
   ·have hk1 : IntKind.i64.wrap ((k : Int) - 1) = ((k - 1 : Nat) : Int) := by rw [IntWalk.i64_in _ (by omega)]; omega
    have e3 : ((k : Int) == 0) = false := by simp only [beq_eq_false_iff_ne, ne_eq]; omega
    have e4 : decide ((k : Int) = 0) = false := by simp only [decide_eq_false_iff_not]; omega
    obtain ⟨ad2, p2, B2, cp2, ead, had2, hp2, -, -, q20, q21⟩ := h.elem hB (show k - 1 < l.length by omega)
    injection ead with ead
    subst ead
    obtain ⟨ad7, c7, x7, B7, d7, rfl, hc7, had7, hba7, hx7, hd7, hcell7, hbx7⟩ := hw.elem (show k - 1 < ls.length by have := HLN.out; omega)
    obtain ⟨hf7, hn7, hg7, hkd, dF, hdF⟩ := fw_prev HV.out (fun p hp b hb => ((HO.out p hp).1 b hb).2) hk hk0 HK.out hx7 hp2
    have HF7 := Lib.hid hf7
    have b0 : (0 : Int) ≤ ((k - 1 : Nat) : Int) := by omega
    have b1 : ((k - 1 : Nat) : Int) < (l.length : Int) := by omega
    have b2 : ((k - 1 : Nat) : Int) < (ls.length : Int) := by have := HLN.out; omega
    have b3 : k - 1 < l.length := by omega
    have b4 : k - 1 < ls.length := by have := HLN.out; omega
    have hl7 := hf7.2
    have hl8 := HFL.out.2
    have HPR : Hid (prodAt l k p ls = productF (bits .andNot .i64 15 p2.v) p.b x7) := Lib.hid (by unfold prodAt; rw [hkd, hg7])
    have HBL : Hid ((productF (bits .andNot .i64 15 p2.v) p.b x7).2 = 0 → (productF (bits .andNot .i64 15 p2.v) p.b x7).1.length = 0 → apartD (keptD (l.getD (k - 1) noPt)) p.b (ls.getD (k - 1) []) = ngBlame (bits .andNot .i64 15 p2.v) p.b x7) := Lib.hid (fun h1 h2 => by
     rw [hkd, hg7, hdF]
     rw [hdF] at h1 h2
     exact (prod_blame HFL.out HF7.out (fun h => HB0.out (by rw [h]; rfl)) hn7 h1 h2).symm)
    have HLIM := Lib.hid (fun h => fw_lim HV.out HP.out HK.out HB0.out hk0 h)
    have HREF := Lib.hid (fun h h2 => fw_refuse HV.out HP.out HK.out HB0.out hk0 h h2)
    have HMORE := Lib.hid (fun h h2 => fw_more HP.out HK.out HB0.out hk0 h h2)
    rw [HPR.out] at HLIM HREF HMORE
    clear hkd hg7 hdF hn7 hx7 hp2 hf7
    go_upto_region 13 with fail
    clear e3 e4 q20 q21
    generalize bits .andNot .i64 15 p2.v = dd at *
    have HR := Lib.hid (fun (w0 : World) (hg : Grows w5 w0) => reach_any (w := w0) (c := cp) (d := d7) dd rfl rfl (hbx.grows hg) (hbx7.grows hg) (by omega) (by omega) HFL.out.1 HF7.out.1)
    have HNB := Lib.hid (fun (w0 : World) (hg : Grows w5 w0) => nblame_any (w := w0) (c := cp) (d := d7) dd rfl rfl (hbx.grows hg) (hbx7.grows hg) hl8 hl7 HFL.out.1 HF7.out.1)
    generalize productF dd p.b x7 = pr at *
    obtain ⟨pl, pe⟩ := pr
    have had7c : (ad7.add (k - 1)).block < w5.heap.size := by rw [block_of_add]; exact had7
    obtain ⟨S, HI, HO⟩ := hideS fun (L : Ran) (vs : Nat → Value) (w' : World) => (Grows w5 w' ∧ KnS [some (.pointer (some ⟨G8, 0, none⟩)), some (.slice B p.b.length cp), some (.slice (some ad7) ls.length c7), some (.int .i64 k), some (.int .i64 ((k - 1 : Nat) : Int)), some (.pointer (some (ad7.add (k - 1)))), some (.slice B7 x7.length d7), some (.int .i64 dd), none, none, none, some (.int .i64 pe), none, some (.int .i64 pe)] L vs ∧ DsS [none, none, none, none, none, none, none, none, some (PsT w5.heap.size pl pe), some (PsT w5.heap.size pl pe), some (PsN w5.heap.size pl), none, some (PsN w5.heap.size pl), none] L vs w')
    refine wp_region_genT S 14 86 (by kernel_rfl) (by kernel_rfl) rfl ?_ ?_
    ·exact HI.out _ _ _ ⟨Grows.drew' _, kn_none _ _, ds_none _ _ _⟩
    simp only [List.take_succ_cons, List.take_zero, List.drop_succ_cons, List.drop_zero]
    refine gent_consR (fun vs L w1 hL hw1 => ?_) ?_
    ·obtain ⟨q0, q1, q2⟩ := HO.out _ _ _ hw1
     refine gen_plain rfl ?_
     go_simp
     exact gr_val (HI.out _ _ _ ⟨q0, kn_known q1 rfl, ds_free q2 rfl⟩)
    refine gent_consR (fun vs L w1 hL hw1 => ?_) ?_
    ·obtain ⟨q0, q1, q2⟩ := HO.out _ _ _ hw1
     refine gen_plain rfl ?_
     have l0 : L 0 = true := hL.need 0 (by kernel_rfl)
     have e0 := q1 0 _ rfl l0
     simp only [e0]
     have xb := (k8.grows q0).cell
     go_simp
     exact gr_val (HI.out _ _ _ ⟨q0, kn_known q1 rfl, ds_free q2 rfl⟩)
    refine gent_consR (fun vs L w1 hL hw1 => ?_) ?_
    ·obtain ⟨q0, q1, q2⟩ := HO.out _ _ _ hw1
     refine gen_plain rfl ?_
     go_simp
     exact gr_val (HI.out _ _ _ ⟨q0, kn_known q1 rfl, ds_free q2 rfl⟩)
    refine gent_consR (fun vs L w1 hL hw1 => ?_) ?_
    ·obtain ⟨q0, q1, q2⟩ := HO.out _ _ _ hw1
     refine gen_plain rfl ?_
     go_simp
     exact gr_val (HI.out _ _ _ ⟨q0, kn_known q1 rfl, ds_free q2 rfl⟩)
    refine gent_consR (fun vs L w1 hL hw1 => ?_) ?_
    ·obtain ⟨q0, q1, q2⟩ := HO.out _ _ _ hw1
     refine gen_plain rfl ?_
     have l3 : L 3 = true := hL.need 3 (by kernel_rfl)
     have e3 := q1 3 _ rfl l3
     simp only [e3]
     go_simp
     exact gr_val (HI.out _ _ _ ⟨q0, kn_known q1 rfl, ds_free q2 rfl⟩)
    refine gent_consR (fun vs L w1 hL hw1 => ?_) ?_
    ·obtain ⟨q0, q1, q2⟩ := HO.out _ _ _ hw1
     refine gen_plain rfl ?_
     have l2 : L 2 = true := hL.need 2 (by kernel_rfl)
     have e2 := q1 2 _ rfl l2
     have l4 : L 4 = true := hL.need 4 (by kernel_rfl)
     have e4 := q1 4 _ rfl l4
     simp only [e2, e4]
     go_simp
     exact gr_val (HI.out _ _ _ ⟨q0, kn_known q1 rfl, ds_free q2 rfl⟩)
    refine gent_consR (fun vs L w1 hL hw1 => ?_) ?_
    ·obtain ⟨q0, q1, q2⟩ := HO.out _ _ _ hw1
     refine gen_plain rfl ?_
     have l5 : L 5 = true := hL.need 5 (by kernel_rfl)
     have e5 := q1 5 _ rfl l5
     simp only [e5]
     have xb := (Below.cell q0 had7c).trans hcell7
     go_simp
     exact gr_val (HI.out _ _ _ ⟨q0, kn_known q1 rfl, ds_free q2 rfl⟩)
    refine gent_consR (fun vs L w1 hL hw1 => ?_) ?_
    ·obtain ⟨q0, q1, q2⟩ := HO.out _ _ _ hw1
     refine gen_plain rfl ?_
     go_simp
     exact gr_val (HI.out _ _ _ ⟨q0, kn_known q1 rfl, ds_free q2 rfl⟩)
    refine gent_consR (fun vs L w1 hL hw1 => ?_) ?_
    ·obtain ⟨q0, q1, q2⟩ := HO.out _ _ _ hw1
     refine gen_plain rfl ?_
     have l1 : L 1 = true := hL.need 1 (by kernel_rfl)
     have e1 := q1 1 _ rfl l1
     have l6 : L 6 = true := hL.need 6 (by kernel_rfl)
     have e6 := q1 6 _ rfl l6
     have l7 : L 7 = true := hL.need 7 (by kernel_rfl)
     have e7 := q1 7 _ rfl l7
     simp only [e1, e6, e7]
     go_simp
     refine gr_call ?_
     refine (HR.out _ q0).mono ?_
     rintro e w6 ⟨⟨v6, rfl, hw6⟩, hg⟩
     obtain ⟨A9, c9, rfl, hc9, hx9⟩ := hw6.read
     have hsz := q0.size
     exact ⟨_, rfl, HI.out _ _ _ ⟨below_grows q0 (Nat.le_refl _) hg, kn_free q1 rfl, ds_put (q2.grows hg) rfl ⟨A9, c9, rfl, hc9, hx9.mono (fun k hk => by unfold Ge at *; omega)⟩⟩⟩
    refine gent_consR (fun vs L w1 hL hw1 => ?_) ?_
    ·obtain ⟨q0, q1, q2⟩ := HO.out _ _ _ hw1
     refine gen_plain rfl ?_
     have l8 : L 8 = true := hL.need 8 (by kernel_rfl)
     have p8 := q2 8 _ rfl l8
     go_simp
     exact gr_val (HI.out _ _ _ ⟨q0, kn_free q1 rfl, ds_put q2 rfl p8⟩)
    refine gent_consR (fun vs L w1 hL hw1 => ?_) ?_
    ·obtain ⟨q0, q1, q2⟩ := HO.out _ _ _ hw1
     refine gen_plain rfl ?_
     have l9 : L 9 = true := hL.need 9 (by kernel_rfl)
     obtain ⟨A9, c9, e9, hc9, hx9⟩ := q2 9 _ rfl l9
     simp only [e9]
     go_simp
     exact gr_val (HI.out _ _ _ ⟨q0, kn_free q1 rfl, ds_put q2 rfl ⟨A9, c9, rfl, hc9, hx9⟩⟩)
    refine gent_consR (fun vs L w1 hL hw1 => ?_) ?_
    ·obtain ⟨q0, q1, q2⟩ := HO.out _ _ _ hw1
     refine gen_plain rfl ?_
     have l9 : L 9 = true := hL.need 9 (by kernel_rfl)
     obtain ⟨A9, c9, e9, hc9, hx9⟩ := q2 9 _ rfl l9
     simp only [e9]
     go_simp
     exact gr_val (HI.out _ _ _ ⟨q0, kn_known q1 rfl, ds_free q2 rfl⟩)
    refine gent_consR (fun vs L w1 hL hw1 => ?_) ?_
    ·obtain ⟨q0, q1, q2⟩ := HO.out _ _ _ hw1
     refine gen_plain rfl ?_
     have l10 : L 10 = true := hL.need 10 (by kernel_rfl)
     have p10 := q2 10 _ rfl l10
     go_simp
     exact gr_val (HI.out _ _ _ ⟨q0, kn_free q1 rfl, ds_put q2 rfl p10⟩)
    refine gent_consR (fun vs L w1 hL hw1 => ?_) ?_
    ·obtain ⟨q0, q1, q2⟩ := HO.out _ _ _ hw1
     refine gen_plain rfl ?_
     have l11 : L 11 = true := hL.need 11 (by kernel_rfl)
     have e11 := q1 11 _ rfl l11
     simp only [e11]
     go_simp
     exact gr_val (HI.out _ _ _ ⟨q0, kn_known q1 rfl, ds_free q2 rfl⟩)
    refine gent_nil ?_
    intro vs L W2 hall hS
    obtain ⟨q0, q1, q2⟩ := HO.out _ _ _ hS
    have e13 := q1 13 _ rfl (hall 13 (by omega))
    have e11 := q1 11 _ rfl (hall 11 (by omega))
    obtain ⟨A9, c9, e12, hc9, hx9⟩ := q2 12 _ rfl (hall 12 (by omega))
    have e0 := q1 0 _ rfl (hall 0 (by omega))
    clear hall hS HI HO q1 q2
    have hw5 := hw.lt
    have hw6 := q0.size
    replace hx9 : Bxs W2 (Aq (Ge (w.heap.size + 1)) (.slice (some ad7) ls.length c7)) A9 pl := hx9.mono fun k hk => ⟨by unfold Ge at *; omega, fun e => by have h9 := (hw5 _ e).2; unfold Ge at hk; omega⟩
    replace hB := below_grows hB (Nat.le_refl _) q0
    replace k3 := k3.grows q0
    replace k8 := k8.grows q0
    replace hw := hw.grows q0
    replace HNB := Lib.hid (fun (w0 : World) (hg : Grows W2 w0) => HNB.out w0 (below_grows q0 (Nat.le_refl _) hg))
    replace hcell7 := (Below.cell q0 had7c).trans hcell7
    clear hw5 HR hbx hbx7 x8
    have x8 := k8.cell
    simp only [e0, e11, e12, e13]
    by_cases hpe : pe = 0
    ·subst hpe
     have e5 : ((0 : Int) != 0) = false := rfl
     have e6 : decide ((0 : Int) = 0) = true := rfl
     by_cases hpl : pl.length = 0
     ·have HE : Hid (forwardF l = ([], ((k : Int), ngBlame dd p.b x7), 13)) := Lib.hid (by rw [HREF.out rfl hpl, HBL.out rfl hpl])
      have e7 : ((pl.length : Int) == 0) = true := by rw [hpl]; rfl
      have e8 : decide ((pl.length : Int) = 0) = true := by rw [hpl]; rfl
      clear hpl hx9 h HLIM HREF HMORE HBL HPR
      go_upto_region 17 with fail
      generalize ngBlame dd p.b x7 = nb at *
      have had7d : (ad7.add (k - 1)).block < W2.heap.size := Nat.lt_of_lt_of_le had7c hw6
      obtain ⟨S, HI, HO⟩ := hideS fun (L : Ran) (vs : Nat → Value) (w' : World) => (Grows W2 w' ∧ KnS [some (.int .i64 k), some (.pointer (some ⟨G8, 0, none⟩)), some (.slice B p.b.length cp), some (.slice (some ad7) ls.length c7), some (.int .i64 k), some (.int .i64 ((k - 1 : Nat) : Int)), some (.pointer (some (ad7.add (k - 1)))), some (.slice B7 x7.length d7), some (.int .i64 dd), some (.int .i64 nb), some (.agg #[.int .i64 k, .int .i64 nb]), some (.slice none 0 0)] L vs ∧ DsS [none, none, none, none, none, none, none, none, none, none, none, none] L vs w')
      refine wp_region_genT S 12 86 (by kernel_rfl) (by kernel_rfl) rfl ?_ ?_
      ·exact HI.out _ _ _ ⟨Grows.drew' _, kn_none _ _, ds_none _ _ _⟩
      simp only [List.take_succ_cons, List.take_zero, List.drop_succ_cons, List.drop_zero]
      refine gent_consR (fun vs L w1 hL hw1 => ?_) ?_
      ·obtain ⟨q0, q1, q2⟩ := HO.out _ _ _ hw1
       refine gen_plain rfl ?_
       go_simp
       exact gr_val (HI.out _ _ _ ⟨q0, kn_known q1 rfl, ds_free q2 rfl⟩)
      refine gent_consR (fun vs L w1 hL hw1 => ?_) ?_
      ·obtain ⟨q0, q1, q2⟩ := HO.out _ _ _ hw1
       refine gen_plain rfl ?_
       go_simp
       exact gr_val (HI.out _ _ _ ⟨q0, kn_known q1 rfl, ds_free q2 rfl⟩)
      refine gent_consR (fun vs L w1 hL hw1 => ?_) ?_
      ·obtain ⟨q0, q1, q2⟩ := HO.out _ _ _ hw1
       refine gen_plain rfl ?_
       have l1 : L 1 = true := hL.need 1 (by kernel_rfl)
       have e1 := q1 1 _ rfl l1
       simp only [e1]
       have xb := (k8.grows q0).cell
       go_simp
       exact gr_val (HI.out _ _ _ ⟨q0, kn_known q1 rfl, ds_free q2 rfl⟩)
      refine gent_consR (fun vs L w1 hL hw1 => ?_) ?_
      ·obtain ⟨q0, q1, q2⟩ := HO.out _ _ _ hw1
       refine gen_plain rfl ?_
       go_simp
       exact gr_val (HI.out _ _ _ ⟨q0, kn_known q1 rfl, ds_free q2 rfl⟩)
      refine gent_consR (fun vs L w1 hL hw1 => ?_) ?_
      ·obtain ⟨q0, q1, q2⟩ := HO.out _ _ _ hw1
       refine gen_plain rfl ?_
       go_simp
       exact gr_val (HI.out _ _ _ ⟨q0, kn_known q1 rfl, ds_free q2 rfl⟩)
      refine gent_consR (fun vs L w1 hL hw1 => ?_) ?_
      ·obtain ⟨q0, q1, q2⟩ := HO.out _ _ _ hw1
       refine gen_plain rfl ?_
       have l4 : L 4 = true := hL.need 4 (by kernel_rfl)
       have e4 := q1 4 _ rfl l4
       simp only [e4]
       go_simp
       exact gr_val (HI.out _ _ _ ⟨q0, kn_known q1 rfl, ds_free q2 rfl⟩)
      refine gent_consR (fun vs L w1 hL hw1 => ?_) ?_
      ·obtain ⟨q0, q1, q2⟩ := HO.out _ _ _ hw1
       refine gen_plain rfl ?_
       have l3 : L 3 = true := hL.need 3 (by kernel_rfl)
       have e3 := q1 3 _ rfl l3
       have l5 : L 5 = true := hL.need 5 (by kernel_rfl)
       have e5 := q1 5 _ rfl l5
       simp only [e3, e5]
       go_simp
       exact gr_val (HI.out _ _ _ ⟨q0, kn_known q1 rfl, ds_free q2 rfl⟩)
      refine gent_consR (fun vs L w1 hL hw1 => ?_) ?_
      ·obtain ⟨q0, q1, q2⟩ := HO.out _ _ _ hw1
       refine gen_plain rfl ?_
       have l6 : L 6 = true := hL.need 6 (by kernel_rfl)
       have e6 := q1 6 _ rfl l6
       simp only [e6]
       have xb := (Below.cell q0 had7d).trans hcell7
       go_simp
       exact gr_val (HI.out _ _ _ ⟨q0, kn_known q1 rfl, ds_free q2 rfl⟩)
      refine gent_consR (fun vs L w1 hL hw1 => ?_) ?_
      ·obtain ⟨q0, q1, q2⟩ := HO.out _ _ _ hw1
       refine gen_plain rfl ?_
       go_simp
       exact gr_val (HI.out _ _ _ ⟨q0, kn_known q1 rfl, ds_free q2 rfl⟩)
      refine gent_consR (fun vs L w1 hL hw1 => ?_) ?_
      ·obtain ⟨q0, q1, q2⟩ := HO.out _ _ _ hw1
       refine gen_plain rfl ?_
       have l2 : L 2 = true := hL.need 2 (by kernel_rfl)
       have e2 := q1 2 _ rfl l2
       have l7 : L 7 = true := hL.need 7 (by kernel_rfl)
       have e7 := q1 7 _ rfl l7
       have l8 : L 8 = true := hL.need 8 (by kernel_rfl)
       have e8 := q1 8 _ rfl l8
       simp only [e2, e7, e8]
       go_simp
       refine gr_call ?_
       refine (HNB.out _ q0).mono ?_
       rintro e w6 ⟨rfl, hg⟩
       exact ⟨_, rfl, HI.out _ _ _ ⟨below_grows q0 (Nat.le_refl _) hg, kn_known q1 rfl, ds_free (q2.grows hg) rfl⟩⟩
      refine gent_consR (fun vs L w1 hL hw1 => ?_) ?_
      ·obtain ⟨q0, q1, q2⟩ := HO.out _ _ _ hw1
       refine gen_plain rfl ?_
       have l0 : L 0 = true := hL.need 0 (by kernel_rfl)
       have e0 := q1 0 _ rfl l0
       have l9 : L 9 = true := hL.need 9 (by kernel_rfl)
       have e9 := q1 9 _ rfl l9
       simp only [e0, e9]
       go_simp
       exact gr_val (HI.out _ _ _ ⟨q0, kn_known q1 rfl, ds_free q2 rfl⟩)
      refine gent_consR (fun vs L w1 hL hw1 => ?_) ?_
      ·obtain ⟨q0, q1, q2⟩ := HO.out _ _ _ hw1
       refine gen_plain rfl ?_
       go_simp
       exact gr_val (HI.out _ _ _ ⟨q0, kn_known q1 rfl, ds_free q2 rfl⟩)
      refine gent_nil ?_
      intro vs L W3 hall hS
      obtain ⟨q0, q1, q2⟩ := HO.out _ _ _ hS
      have e10 := q1 10 _ rfl (hall 10 (by omega))
      have e11_ := q1 11 _ rfl (hall 11 (by omega))
      clear hall hS HI HO q1 q2
      replace hB := below_grows hB (Nat.le_refl _) q0
      replace k3 := k3.grows q0
      have x3 := k3.cell
      have f3 := k3.frozen
      have hB3 := (hB.setCell (p := ⟨w.heap.size, 0, none⟩) (Nat.le_refl _) (.int .i64 k)).setCell (p := ⟨w.heap.size, 1, none⟩) (Nat.le_refl _) (.int .i64 nb)
      have x3z := ((k3.set_ 0 (.int .i64 k)).set_ 1 (.int .i64 nb)).cell
      clear q0 hw
      simp only [e10, e11_]
      go_wp2
      generalize World.setCell (World.setCell W3 _ _) _ _ = wz at *
      refine bodyPost_ret (v := .tuple #[.slice none 0 0, .agg #[.int .i64 k, .int .i64 nb], .int .i64 13]) (by simp [results, Tryz.results10, go_sem, x3z]) rfl ?_
      rw [HE.out]
      exact ⟨⟨_, rfl, OwnLq.nil⟩, hB3⟩
     ·have HN0 := Lib.hid (HMORE.out rfl hpl)
      have e7 : ((pl.length : Int) == 0) = false := by simp only [beq_eq_false_iff_ne, ne_eq]; omega
      have e8 : decide ((pl.length : Int) = 0) = false := by simp only [decide_eq_false_iff_not]; omega
      clear hpl HLIM HREF HMORE HBL HPR HNB k8 x8
      go_upto_region 18 with fail
      refine wp_region_lit ?_
      iterate 3
       refine wpList_plain rfl (fun K hK => ?_)
       go_simp
       refine hK _ _ ?_
       clear hK K
      have hk0_ := Blk.new W2 45 #[.slice A9 pl.length c9]
      have hq := (Below.refl W2.heap.size W2).alloc (Nat.le_refl _) (Obj.cells #[.slice A9 pl.length c9] 45)
      have hrd : Reads (W2.alloc (Obj.cells #[.slice A9 pl.length c9] 45)) (W2.alloc (Obj.cells #[.slice A9 pl.length c9] 45)).heap.size 1 (some ⟨W2.heap.size, 0, none⟩) 1 [.slice A9 pl.length c9] := ⟨rfl, fun _ => ⟨_, rfl, hk0_.lt, fun j u hu => by rw [add_head, hk0_.cell, ← Array.getElem?_toList]; exact hu⟩⟩
      replace hB := below_grows hB (Nat.le_refl _) hq
      replace k3 := k3.grows hq
      replace hw := hw.grows hq
      replace hx9 := hx9.grows hq
      have hs1 := k3.lt
      have hol := hw.lt
      clear hq hk0_
      refine wpList_append_lq rfl (.tmp 79) (.tmp 81) rfl rfl hw rfl hrd (by have := HLN.out; omega) (by omega) hx9 hc9 ?_
      intro v7 w7 ho2 hgr hv7
      replace hB := hB.grown hgr hB.size (fun q e => by have := (hol q e).1; omega)
      replace k3 := k3.grown hgr (fun e => by have := (hol _ e.symm).1; omega)
      have HL2 : Hid ((ls ++ [pl]).length = ls.length + 1) := Lib.hid (by rw [List.length_append, List.length_singleton])
      clear hrd hgr hw hol hx9
      generalize ls ++ [pl] = ls2 at *
      go_wp2
      go_roundw
      case rel => exact ⟨k + 1, ls2, by omega, by go_num, Lib.hid (by rw [HL2.out, HLN.out]), HN0, ho2, k3, hB⟩
      case measure => simp [intOf]; omega
    ·have HE := Lib.hid (HLIM.out hpe)
     have e5 : (pe != 0) = true := bne_iff_ne.2 hpe
     have e6 : decide (pe = 0) = false := decide_eq_false hpe
     clear hpe hx9 h HLIM HREF HMORE HBL HPR
     have x3 := k3.cell
     have f3 := k3.frozen
     have hB3 := (hB.setCell (p := ⟨w.heap.size, 0, none⟩) (Nat.le_refl _) (.int .i64 0)).setCell (p := ⟨w.heap.size, 1, none⟩) (Nat.le_refl _) (.int .i64 0)
     have x3z := ((k3.set_ 0 (.int .i64 0)).set_ 1 (.int .i64 0)).cell
     go_wp2
     generalize World.setCell (World.setCell W2 _ _) _ _ = wz at *
     refine bodyPost_ret (v := .tuple #[.slice none 0 0, .agg #[.int .i64 0, .int .i64 0], .int .i64 pe]) (by simp [results, Tryz.results10, go_sem, x3z]) rfl ?_
     rw [HE.out]
     exact ⟨⟨_, rfl, OwnLq.nil⟩, hB3⟩
  ·obtain rfl : k = l.length := by omega
   have HE := Lib.hid (fw_whole HV.out HK.out)
   have x3 := k3.cell
   have f3 := k3.frozen
   have hB3 := (hB.setCell (p := ⟨w.heap.size, 0, none⟩) (Nat.le_refl _) (.int .i64 0)).setCell (p := ⟨w.heap.size, 1, none⟩) (Nat.le_refl _) (.int .i64 0)
   have x3z := ((k3.set_ 0 (.int .i64 0)).set_ 1 (.int .i64 0)).cell
   have hw3 := hw.only (d_only_set (d_only_set (World.grownBy.refl wr (some w.heap.size)) 0 (.int .i64 0)) 1 (.int .i64 0)) (by omega) (by unfold Ge; omega)
   obtain ⟨A9, c9, rfl, hc9, -⟩ := hw.read
   clear h
   go_wp2
   generalize World.setCell (World.setCell wr _ _) _ _ = wz at *
   refine bodyPost_ret (v := .tuple #[.slice A9 ls.length c9, .agg #[.int .i64 0, .int .i64 0], .int .i64 0]) (by simp [results, Tryz.results10, go_sem, x3z]) rfl ?_
   rw [HE.out]
   exact ⟨⟨_, rfl, hw3.lower (by omega) (fun k hk => by unfold Ge at *; omega)⟩, hB3⟩
end Go.Proofs.YtjbkjgmcfommgaaGreat

namespace Go.Proofs.YtjbkjgmcfommgaaGreat
open Go.RowKit
/-- Lists of boxes, to be read. -/
def Lbx (w : World) (ok : Nat → Prop) (A : Option Addr) (ls : List (List Bx)) : Prop :=
 ∃ vs, RdB w ok 1 A ls.length vs ∧ ∀ (i : Nat) (x : List Bx), ls[i]? = some x → ∃ B c, vs[i]? = some (.slice B x.length c) ∧ x.length ≤ c ∧ Bxs w ok B x
section
variable {w w' wr : World} {ok : Nat → Prop} {A : Option Addr} {ls : List (List Bx)} {row : Option Nat} {base : Nat} {v : Value}
theorem Lbx.nil : Lbx w ok none [] := ⟨[], RdB.nil, fun i x h => by simp at h⟩
theorem Lbx.grows (h : Lbx w ok A ls) (hg : Grows w w') : Lbx w' ok A ls := by
 obtain ⟨vs, h1, h2⟩ := h
 exact ⟨vs, h1.grows hg, fun i x hx => by obtain ⟨B, c, e, hc, hb⟩ := h2 i x hx; exact ⟨B, c, e, hc, hb.grows hg⟩⟩
theorem Lbx.mono {ok2 : Nat → Prop} (h : Lbx w ok A ls) (hk : ∀ k, ok k → ok2 k) : Lbx w ok2 A ls := by
 obtain ⟨vs, h1, h2⟩ := h
 exact ⟨vs, h1.mono hk, fun i x hx => by obtain ⟨B, c, e, hc, hb⟩ := h2 i x hx; exact ⟨B, c, e, hc, hb.mono hk⟩⟩
theorem Lbx.grown (h : Lbx w ok A ls) (hg : w.grownBy w' row) (hr : ∀ g, row = some g → ¬ ok g) : Lbx w' ok A ls := by
 obtain ⟨vs, h1, h2⟩ := h
 exact ⟨vs, h1.grown hg hr, fun i x hx => by obtain ⟨B, c, e, hc, hb⟩ := h2 i x hx; exact ⟨B, c, e, hc, hb.grown hg hr⟩⟩
theorem Lbx.under (h : Lbx w ok A ls) : Lbx w (Under w.heap.size) A ls := by
 obtain ⟨vs, h1, h2⟩ := h
 exact ⟨vs, h1.under, fun i x hx => by obtain ⟨B, c, e, hc, hb⟩ := h2 i x hx; exact ⟨B, c, e, hc, hb.under⟩⟩
theorem OwnLq.lbx (h : OwnLq w base ok v ls) : ∃ A c, v = .slice A ls.length c ∧ ls.length ≤ c ∧ Lbx w (fun k => ok k ∨ base ≤ k) A ls := by
 obtain ⟨A, c, rfl, hc, vs, hr, h2⟩ := h.read
 refine ⟨A, c, rfl, hc, vs, ⟨hr, fun hn ad e => ?_⟩, fun i x hx => by obtain ⟨B, d, e, hd, hb⟩ := h2 i x hx; exact ⟨B, d, e, hd, hb.mono (fun k hk => .inl hk.1)⟩⟩
 obtain ⟨_, h1, -⟩ := h
 have hb := (World.ownsRow.lt h1 ad.block (by rw [e]; rfl)).1
 exact .inr hb
theorem Lbx.elem (h : Lbx w ok A ls) (hB : Grows w wr) {k : Nat} (hk : k < ls.length) : ∃ ad x B d, A = some ad ∧ ad.block < wr.heap.size ∧ ls[k]? = some x ∧ x.length ≤ d ∧ wr.cell? (ad.add k) = some (.slice B x.length d) ∧ Bxs w ok B x := by
 obtain ⟨vs, h1, h2⟩ := h
 obtain ⟨ad, e, hb, hc⟩ := (Reads.grows h1.1 hB).2 (by omega)
 have hx := List.getElem?_eq_getElem hk
 obtain ⟨B, d, e2, hd, hbx⟩ := h2 k _ hx
 exact ⟨ad, _, B, d, e, hb, hx, hd, hc k _ e2, hbx⟩
end
def chC (x : Ch) (A : Option Addr) (c : Nat) : List Value := [.int .i64 x.k, .int .i64 x.r, .slice A x.m.length c, .int .i64 x.s]
/-- A slice of choices. -/
def Chs (w : World) (ok : Nat → Prop) (A : Option Addr) (L : List Ch) : Prop :=
 ∃ vs, RdB w ok 4 A L.length vs ∧ ∀ (i : Nat) (x : Ch), L[i]? = some x → ∃ B c, InB w ok B x.m ∧ x.m.length ≤ c ∧ ∀ j < 4, vs[i * 4 + j]? = (chC x B c)[j]?
section
variable {w w' wr : World} {ok : Nat → Prop} {A : Option Addr} {L : List Ch} {row : Option Nat}
theorem Chs.nil : Chs w ok none [] := ⟨[], RdB.nil, fun i x h => by simp at h⟩
theorem Chs.grows (h : Chs w ok A L) (hg : Grows w w') : Chs w' ok A L := by
 obtain ⟨vs, h1, h2⟩ := h
 exact ⟨vs, h1.grows hg, fun i x hx => by obtain ⟨B, c, hi, r⟩ := h2 i x hx; exact ⟨B, c, hi.grows hg, r⟩⟩
theorem Chs.mono {ok2 : Nat → Prop} (h : Chs w ok A L) (hk : ∀ k, ok k → ok2 k) : Chs w ok2 A L := by
 obtain ⟨vs, h1, h2⟩ := h
 exact ⟨vs, h1.mono hk, fun i x hx => by obtain ⟨B, c, hi, r⟩ := h2 i x hx; exact ⟨B, c, hi.mono hk, r⟩⟩
theorem Chs.grown (h : Chs w ok A L) (hg : w.grownBy w' row) (hr : ∀ g, row = some g → ¬ ok g) : Chs w' ok A L := by
 obtain ⟨vs, h1, h2⟩ := h
 exact ⟨vs, h1.grown hg hr, fun i x hx => by obtain ⟨B, c, hi, r⟩ := h2 i x hx; exact ⟨B, c, RdB.grown hi hg hr, r⟩⟩
theorem Chs.elem (h : Chs w ok A L) (hB : Grows w wr) {k : Nat} (hk : k < L.length) : ∃ ad x B d, A = some ad ∧ ad.block < wr.heap.size ∧ L[k]? = some x ∧ x.m.length ≤ d ∧ InB w ok B x.m ∧ CellsB wr (ad.add (k * 4)) (.int .i64 x.k) (.int .i64 x.r) (.slice B x.m.length d) (.int .i64 x.s) := by
 obtain ⟨vs, h1, h2⟩ := h
 obtain ⟨ad, e, hb, hc⟩ := (Reads.grows h1.1 hB).2 (by omega)
 have hx := List.getElem?_eq_getElem hk
 obtain ⟨B, d, hi, hd, r⟩ := h2 k _ hx
 exact ⟨ad, _, B, d, e, hb, hx, hd, hi, cellsB_of rfl (fun j hj u hu => hc _ u ((r j hj).trans hu))⟩
end
/-- A row of choices of one's own: those at W are written. -/
def ChG (w : World) (b G n : Nat) (W : Nat → Prop) (f : Nat → Ch) : Prop := ∃ cs, Blk w G 42 cs ∧ cs.size = n * 4 ∧ ∀ i, i < n → W i → ∃ A c, (f i).m.length ≤ c ∧ InB w (fun k => b ≤ k ∧ k ≠ G) A (f i).m ∧ ∀ j < 4, cs[i * 4 + j]? = (chC (f i) A c)[j]?
/-- A choice, written. -/
def putC (w : World) (G k : Nat) (x : Ch) (A : Option Addr) (c : Nat) : World :=
 (((w.setCell ⟨G, k, none⟩ (.int .i64 x.k)).setCell ⟨G, k + 1, none⟩ (.int .i64 x.r)).setCell ⟨G, k + 2, none⟩ (.slice A x.m.length c)).setCell ⟨G, k + 3, none⟩ (.int .i64 x.s)
theorem putC_only (w : World) (G k : Nat) (x : Ch) (A : Option Addr) (c : Nat) : w.grownBy (putC w G k x A c) (some G) :=
 d_only_set (d_only_set (d_only_set (d_only_set (World.grownBy.refl w (some G)) k _) (k + 1) _) (k + 2) _) (k + 3) _
section
variable {w w' : World} {b G n : Nat} {W : Nat → Prop} {f : Nat → Ch}
theorem ChG.grows (h : ChG w b G n W f) (hg : Grows w w') : ChG w' b G n W f := by
 obtain ⟨cs, h1, h2, h3⟩ := h
 exact ⟨cs, h1.grows hg, h2, fun i hi hw => by obtain ⟨A, c, hc, hx, r⟩ := h3 i hi hw; exact ⟨A, c, hc, hx.grows hg, r⟩⟩
theorem ChG.lt (h : ChG w b G n W f) : G < w.heap.size := by
 obtain ⟨cs, h1, -⟩ := h
 exact h1.lt
theorem ChG.sub {W2 : Nat → Prop} (h : ChG w b G n W f) (hs : ∀ i, i < n → W2 i → W i) : ChG w b G n W2 f := by
 obtain ⟨cs, h1, h2, h3⟩ := h
 exact ⟨cs, h1, h2, fun i hi hw => h3 i hi (hs i hi hw)⟩
theorem ChG.made {xs : List Value} (h : w.ownsRow b 42 4 (.slice (some ⟨G, 0, none⟩) n n) n xs) : ChG w b G n (fun _ => False) f := by
 obtain ⟨h0, h1⟩ := h
 rcases h1 with ⟨e, _⟩ | ⟨g, cap, cur, e, hb, hh, hn, hm, hs, ht⟩
 ·injection e with e; cases e
 ·injection e with e1 e2 e3
  injection e1 with e1
  injection e1 with e1
  subst e1
  have e3 : n = cap := e3
  exact ⟨cur, hh, by rw [hs, ← e3], fun i hi hw => hw.elim⟩
/-- The cells of one choice, written or not. -/
theorem ChG.old (h : ChG w b G n W f) {i : Nat} (hi : i < n) : ∃ v0 v1 v2 v3, w.cell? ⟨G, i * 4, none⟩ = some v0 ∧ w.cell? ⟨G, i * 4 + 1, none⟩ = some v1 ∧ w.cell? ⟨G, i * 4 + 2, none⟩ = some v2 ∧ w.cell? ⟨G, i * 4 + 3, none⟩ = some v3 ∧ w.frozen? ⟨G, i * 4, none⟩ = false ∧ w.frozen? ⟨G, i * 4 + 1, none⟩ = false ∧ w.frozen? ⟨G, i * 4 + 2, none⟩ = false ∧ w.frozen? ⟨G, i * 4 + 3, none⟩ = false := by
 obtain ⟨cs, h1, h2, -⟩ := h
 have e : ∀ j, j < 4 → ∃ v, w.cell? ⟨G, i * 4 + j, none⟩ = some v := fun j hj => ⟨_, (h1.cell (i * 4 + j)).trans (Array.getElem?_eq_getElem (by omega))⟩
 obtain ⟨v0, e0⟩ := e 0 (by omega)
 obtain ⟨v1, e1⟩ := e 1 (by omega)
 obtain ⟨v2, e2⟩ := e 2 (by omega)
 obtain ⟨v3, e3⟩ := e 3 (by omega)
 exact ⟨v0, v1, v2, v3, e0, e1, e2, e3, h1.frozen _, h1.frozen _, h1.frozen _, h1.frozen _⟩
theorem ChG.at_ (h : ChG w b G n W f) {i : Nat} (hi : i < n) (hw : W i) : ∃ A c, (f i).m.length ≤ c ∧ InB w (fun k => b ≤ k ∧ k ≠ G) A (f i).m ∧ CellsB w ⟨G, i * 4, none⟩ (.int .i64 (f i).k) (.int .i64 (f i).r) (.slice A (f i).m.length c) (.int .i64 (f i).s) := by
 obtain ⟨cs, h1, h2, h3⟩ := h
 obtain ⟨A, c, hc, hx, r⟩ := h3 i hi hw
 exact ⟨A, c, hc, hx, (h1.cell _).trans (r 0 (by omega)), (h1.cell _).trans (r 1 (by omega)), (h1.cell _).trans (r 2 (by omega)), (h1.cell _).trans (r 3 (by omega))⟩
theorem ChG.put (h : ChG w b G n W f) {i : Nat} (hi : i < n) {A : Option Addr} {c : Nat} (hc : (f i).m.length ≤ c) (hx : InB w (fun k => b ≤ k ∧ k ≠ G) A (f i).m) : ChG (putC w G (i * 4) (f i) A c) b G n (fun k => W k ∨ k = i) f := by
 obtain ⟨cs, h1, h2, h3⟩ := h
 have hk := (((h1.set_ (i * 4) (.int .i64 (f i).k)).set_ (i * 4 + 1) (.int .i64 (f i).r)).set_ (i * 4 + 2) (.slice A (f i).m.length c)).set_ (i * 4 + 3) (.int .i64 (f i).s)
 have hg := putC_only w G (i * 4) (f i) A c
 refine ⟨_, hk, by simp [h2], fun k hk hw => ?_⟩
 by_cases e : k = i
 ·subst e
  refine ⟨A, c, hc, RdB.grown hx hg (fun g e hh => by injection e with e; exact hh.2 e.symm), fun j hj => ?_⟩
  simp only [Array.getElem?_setIfInBounds, Array.size_setIfInBounds, h2]
  match j, hj with
  | 0, _ => rw [if_neg (by omega), if_neg (by omega), if_neg (by omega), if_pos (by omega), if_pos (by omega)]; rfl
  | 1, _ => rw [if_neg (by omega), if_neg (by omega), if_pos (by omega), if_pos (by omega)]; rfl
  | 2, _ => rw [if_neg (by omega), if_pos (by omega), if_pos (by omega)]; rfl
  | 3, _ => rw [if_pos (by omega), if_pos (by omega)]; rfl
 ·obtain ⟨A2, c2, hc2, hx2, r⟩ := h3 k hk (hw.resolve_right e)
  refine ⟨A2, c2, hc2, RdB.grown hx2 hg (fun g e hh => by injection e with e; exact hh.2 e.symm), fun j hj => ?_⟩
  rw [← r j hj]
  simp only [Array.getElem?_setIfInBounds]
  rw [if_neg (by omega), if_neg (by omega), if_neg (by omega), if_neg (by omega)]
theorem ChG.done (h : ChG w b G n W f) (hw : ∀ i, i < n → W i) (hb : b ≤ G) : Chs w (Ge b) (some ⟨G, 0, none⟩) ((List.range n).map f) := by
 obtain ⟨cs, h1, h2, h3⟩ := h
 refine ⟨cs.toList, ⟨⟨by simp [h2], fun _ => ⟨_, rfl, h1.lt, fun j u hu => ?_⟩⟩, fun _ ad e => by injection e with e; subst e; exact hb⟩, fun i x hx => ?_⟩
 ·rw [add_head, h1.cell, ← Array.getElem?_toList]
  exact hu
 ·rw [List.getElem?_map] at hx
  obtain ⟨k, hk, rfl⟩ := Option.map_eq_some_iff.1 hx
  have hi : i < n := by have := (List.getElem?_eq_some_iff.1 hk).1; simpa using this
  rw [List.getElem?_range hi] at hk
  injection hk with hk
  subst hk
  obtain ⟨A, c, hc, hx2, r⟩ := h3 i hi (hw i hi)
  exact ⟨A, c, hx2.mono (fun k hk => hk.1), hc, fun j hj => by rw [Array.getElem?_toList]; exact r j hj⟩
end
/-- What Choose gives. -/
def chooseF (l : List Pt) (want : Ch) : List Ch × (Int × Int) × Int :=
 if (forwardF l).2.2 ≠ 0 then ([], (forwardF l).2) else ((List.range l.length).map fun i => chUp l (forwardF l).1 want (l.length - 1) (l.length - 1 - i), (0, 0), 0)
theorem okc_bestL {c : Ch} {l : List Bx} (h : ∀ b ∈ l, OKB b) : OKC (bestL (topP c) c l).1 := by
 unfold bestL
 have key : ∀ (m : List Bx) (s : Ch × Bool), (∀ b ∈ m, OKB b) → OKC s.1 → OKC (m.foldl (bestStep (topP c) c) s).1 := by
  intro m
  induction m with
  | nil => exact fun s _ hs => hs
  | cons b m ih =>
   intro s hm hs
   refine ih _ (fun b hb => hm b (List.mem_cons_of_mem _ hb)) ?_
   unfold bestStep
   split
   ·exact okc_topP (hm b (List.mem_cons_self ..))
   ·exact hs
 exact key _ _ (boxes_ok h) okc_zero
theorem fl_prodF {d : Int} {a b : List Bx} (ha : FL a) (hb : FL b) : FL (productF d a b).1 := by
 rcases prodF_cases (d := d) ha hb with h | ⟨-, h, -⟩
 ·rw [h]; exact ⟨(fun b hb => by cases hb), by simp⟩
 ·exact h
theorem ch_okc {l : List Pt} {s : List (List Bx)} {want : Ch} {n : Nat} (hs : ∀ i, i ≤ n → FL (s.getD i [])) : ∀ m, m ≤ n → OKC (chUp l s want n m) := by
 intro m
 cases m with
 | zero => exact fun _ => okc_bestL (hs n (Nat.le_refl _)).okb
 | succ m =>
  intro h
  exact okc_bestL (fl_prodF (hs _ (by omega)) (fl_single _).1).okb
theorem choose_no {l : List Pt} {want : Ch} {ls : List (List Bx)} {a b e : Int} (h : forwardF l = (ls, (a, b), e)) (he : e ≠ 0) : chooseF l want = ([], (a, b), e) := by
 unfold chooseF
 rw [h, if_pos he]
theorem choose_yes {l : List Pt} {want : Ch} {ls : List (List Bx)} {a b : Int} (h : forwardF l = (ls, (a, b), 0)) : chooseF l want = ((List.range l.length).map fun i => chUp l ls want (l.length - 1) (l.length - 1 - i), (0, 0), 0) := by
 unfold chooseF
 rw [h, if_neg (by simp)]
/-- What is reached, when all is well. -/
theorem forward_fl {l : List Pt} (hk : ∀ p ∈ l, ∀ b ∈ p.b, I64 b.k) {ls : List (List Bx)} {a b : Int} (h : forwardF l = (ls, (a, b), 0)) : validC l = true ∧ fwUp l l.length = (ls, (0, 0), 0) ∧ ls.length = l.length ∧ ∀ i, i < l.length → FL (ls.getD i []) := by
 have hv : validC l = true := by
  cases hv : validC l
  ·rw [fw_bad hv] at h
   injection h with _ h
   injection h with _ h
   exact absurd h (by decide)
  ·rfl
 have e : fwUp l l.length = (ls, (a, b), 0) := by
  unfold forwardF at h
  rwa [if_pos hv] at h
 have h1 := (valid_ports hv).2.1
 have key := fun i hi => fw_ex (valid_ports hv).1 hk (Nat.le_refl l.length) (k := i) (by rw [e]) hi
 obtain ⟨-, -, -, -, g1, g2⟩ := key 0 (by omega)
 rw [e] at g1 g2
 have g2 : ((a, b), (0 : Int)) = ((0, 0), 0) := g2
 injection g2 with g2
 injection g2 with ga gb
 subst ga gb
 refine ⟨hv, e, g1, fun i hi => ?_⟩
 have := (key i hi).1
 rwa [e] at this
end Go.Proofs.YtjbkjgmcfommgaaGreat

namespace Go.Proofs.YtjbkjgmcfommgaaGreat
open Go.RowKit
theorem CellsB.grows {w w' : World} {p : Addr} {v0 v1 v2 v3 : Value} (h : CellsB w p v0 v1 v2 v3) (hg : Grows w w') (hp : p.block < w.heap.size) : CellsB w' p v0 v1 v2 v3 := by
 obtain ⟨h0, h1, h2, h3⟩ := h
 exact ⟨(Below.cell hg hp).trans h0, (Below.cell (p := ⟨p.block, p.off + 1, none⟩) hg hp).trans h1, (Below.cell (p := ⟨p.block, p.off + 2, none⟩) hg hp).trans h2, (Below.cell (p := ⟨p.block, p.off + 3, none⟩) hg hp).trans h3⟩
/-- A best choice, as a call gives it. -/
def PsBest (b : Nat) (x : Ch) (o : Bool) : GP := ⟨fun w v => ∃ A c, v = .tuple #[.agg #[.int .i64 x.k, .int .i64 x.r, .slice A x.m.length c, .int .i64 x.s], .bool o] ∧ x.m.length ≤ c ∧ InB w (Ge b) A x.m, fun w w' v h hg => by obtain ⟨A, c, e, hc, hx⟩ := h; exact ⟨A, c, e, hc, hx.grows hg⟩⟩
def PsCh (b : Nat) (x : Ch) : GP := ⟨fun w v => ∃ A c, v = .agg #[.int .i64 x.k, .int .i64 x.r, .slice A x.m.length c, .int .i64 x.s] ∧ x.m.length ≤ c ∧ InB w (Ge b) A x.m, fun w w' v h hg => by obtain ⟨A, c, e, hc, hx⟩ := h; exact ⟨A, c, e, hc, hx.grows hg⟩⟩
theorem ch_last {l : List Pt} {ls : List (List Bx)} {want : Ch} {N : Nat} (hN : l.length = N + 1) : chUp l ls want (l.length - 1) (l.length - 1 - N) = (bestL (topP want) want (ls.getD N [])).1 := by
 rw [hN, show N + 1 - 1 = N from rfl, Nat.sub_self]
 rfl
theorem ch_step {l : List Pt} {ls : List (List Bx)} {want : Ch} {N j : Nat} (hN : l.length = N + 1) (hj : j < N) : chUp l ls want (l.length - 1) (l.length - 1 - j) = backP (keptD (l.getD j noPt)) (ls.getD j []) (chUp l ls want (l.length - 1) (l.length - 1 - (j + 1))) := by
 rw [hN, show N + 1 - 1 = N from rfl, show N - j = N - (j + 1) + 1 by omega]
 show backP (keptD (l.getD (N - (N - (j + 1) + 1)) noPt)) (ls.getD (N - (N - (j + 1) + 1)) []) _ = _
 rw [show N - (N - (j + 1) + 1) = j by omega]
theorem At.all {md : Region.Mode} {ops : Array Oper} {i : Nat} {L : Ran} (h : At md ops i L) (n g : Nat) (hk : (((List.range n).filter (· != g)).all fun j => (needs md ops 4 i).contains j) = true) : ∀ j, j < n → j ≠ g → L j = true := fun j h1 h2 => h.need j (List.all_eq_true.1 hk j (List.mem_filter.2 ⟨List.mem_range.2 h1, by simpa using h2⟩))
set_option maxRecDepth 100000 in
theorem ch_info : ∃ i : TypeInfo, Tryz.prog.info? 42 = some i ∧ i.size = 4 ∧ i.bytes = 48 ∧ i.zero = some (.agg #[.int .i64 0, .int .i64 0, .slice none 0 0, .int .i64 0]) ∧ (Value.agg #[.int .i64 0, .int .i64 0, .slice none 0 0, .int .i64 0]).cells.size = 4 := ⟨_, by first | exact Tryz.info42 | rfl, rfl, rfl, rfl, rfl⟩
set_option maxHeartbeats 64000000 in
set_option maxRecDepth 10000 in
theorem choose_any {ok ow : Nat → Prop} {A I : Option Addr} {c n ci : Nat} {l : List Pt} {want : Ch} {w : World} (hn : n = l.length) (h : Pts w ok A l) (hl : l.length ≤ 1000000) (ho : ∀ p ∈ l, (∀ b ∈ p.b, OKB b ∧ I64 b.k) ∧ p.b.length ≤ 1000000) (hi : InB w ow I want.m) (hok : OKC want) :
 Calls Tryz.prog 16 #[.slice A n c, .agg #[.int .i64 want.k, .int .i64 want.r, .slice I want.m.length ci, .int .i64 want.s]] w fun e w' => (∃ A' c', e = .returned (.tuple #[.slice A' (chooseF l want).1.length c', .agg #[.int .i64 (chooseF l want).2.1.1, .int .i64 (chooseF l want).2.1.2], .int .i64 (chooseF l want).2.2]) ∧ (chooseF l want).1.length ≤ c' ∧ Chs w' (Ge w.heap.size) A' (chooseF l want).1) ∧ Grows w w' := by
 subst hn
 have HO := Lib.hid ho
 clear ho
 have kw := (Blk.new w 42 #[.int .i64 want.k, .int .i64 want.r, .slice I want.m.length ci, .int .i64 want.s]).alloc (Obj.cells #[.int .i64 0, .int .i64 0] 32)
 have k5 := blk_new_at (X := w.alloc (Obj.cells #[.int .i64 want.k, .int .i64 want.r, .slice I want.m.length ci, .int .i64 want.s] 42)) (n := w.heap.size + 1) (t := 32) (cs := #[.int .i64 0, .int .i64 0]) (by simp)
 have hB := ((Below.refl w.heap.size w).alloc (Nat.le_refl _) (Obj.cells #[.int .i64 want.k, .int .i64 want.r, .slice I want.m.length ci, .int .i64 want.s] 42)).alloc (by simp) (Obj.cells #[.int .i64 0, .int .i64 0] 32)
 have hcon := fun (w0 : World) (hg : Grows w w0) => forward_any (w := w0) (c := c) rfl (h.grows hg) hl HO.out
 obtain ⟨⟨ls, ⟨fa, fb⟩, fe⟩, hf⟩ : ∃ f, forwardF l = f := ⟨_, rfl⟩
 simp only [hf] at hcon
 have HF := Lib.hid hf
 have HC := Lib.hid hcon
 clear hf hcon
 go_enter Tryz.func16, Tryz.ntmps16
 go_upto_region 1 with fail
 generalize World.alloc (World.alloc w _) _ = w1 at *
 go_wp2_with fail
 refine (HC.out _ hB).mono ?_
 rintro e w2 ⟨⟨v, rfl, hw⟩, hq⟩
 replace hB := below_grows hB (Nat.le_refl _) hq
 replace kw := kw.grows hq
 replace k5 := k5.grows hq
 obtain ⟨A7, c7, rfl, hc7, hlb⟩ := hw.lbx
 replace hlb := hlb.under
 clear hq hw HC
 have k8 := Blk.new w2 32 #[.int .i64 fa, .int .i64 fb]
 have hq := (Below.refl w2.heap.size w2).alloc (Nat.le_refl _) (Obj.cells #[.int .i64 fa, .int .i64 fb] 32)
 go_upto_region 2 with fail
 replace hB := below_grows hB (Nat.le_refl _) hq
 replace kw := kw.grows hq
 replace k5 := k5.grows hq
 replace hlb := hlb.grows hq
 clear hq
 generalize World.alloc w2 _ = w3 at *
 have hs2 := k8.lt
 have hs5 := k5.lt
 generalize w2.heap.size = q8 at *
 by_cases hfe : fe = 0
 ·subst hfe
  have e5 : ((0 : Int) != 0) = false := rfl
  have e6 : decide ((0 : Int) = 0) = true := rfl
  have HE := Lib.hid (choose_yes (want := want) HF.out)
  obtain ⟨hv, hup, hll, hfl⟩ := forward_fl (fun p hp b hb => ((HO.out p hp).1 b hb).2) HF.out
  have HFL := Lib.hid hfl
  have HLL := Lib.hid hll
  obtain ⟨h1l, h16⟩ := (valid_ports hv).2
  obtain ⟨N, hN⟩ : ∃ N, l.length = N + 1 := ⟨l.length - 1, by omega⟩
  have HN := Lib.hid hN
  have hwN : IntKind.i64.wrap ((l.length : Int) - 1) = (N : Int) := by rw [IntWalk.i64_in _ (by omega)]; omega
  have HOC : Hid (∀ i, i < l.length → OKC (chUp l ls want (l.length - 1) (l.length - 1 - i))) := Lib.hid (fun i hi => ch_okc (fun j hj => HFL.out j (by omega)) _ (by omega))
  have HLAST := Lib.hid (ch_last (l := l) (ls := ls) (want := want) hN)
  have HSTEP := Lib.hid (fun j hj => ch_step (l := l) (ls := ls) (want := want) (j := j) hN hj)
  generalize hfdef : (fun i => chUp l ls want (l.length - 1) (l.length - 1 - i)) = f at HE
  have HFD : Hid (∀ i, chUp l ls want (l.length - 1) (l.length - 1 - i) = f i) := Lib.hid (fun i => congrFun hfdef i)
  replace HOC := Lib.hid (fun i hi => HFD.out i ▸ HOC.out i hi)
  replace HLAST := Lib.hid ((HFD.out N).symm.trans HLAST.out)
  replace HSTEP := Lib.hid (fun j hj => ((HFD.out j).symm.trans (HSTEP.out j hj)).trans (by rw [HFD.out]))
  clear hv hup hll hfl hfdef hN HFD
  have hle4 : w.heap.size ≤ w3.heap.size := hB.size
  have b0 : (0 : Int) ≤ (l.length : Int) := by omega
  go_upto_region 4 with fail
  clear e5 e6
  refine wp_region_lit ?_
  iterate 2
   refine wpList_plain rfl (fun K hK => ?_)
   go_simp
   refine hK _ _ ?_
   clear hK K
  obtain ⟨i0, hi0, hi1, hi2, hi3, hi4⟩ := ch_info
  refine wpList_make_full _ rfl (.tmp 26) (.tmp 26) 43 rfl (w.heap.size + 2) 42 i0 _ 4 Tryz.underlying43 hi0 hi3 hi1 .i64 .i64 l.length l.length l.length rfl rfl rfl rfl (by rw [hi2]; omega) (by simp only [maxLen]; omega) (by omega) ?_
  intro w4 hown hgr
  have hch := ChG.made (f := f) hown
  have hg4 : Grows w3 w4 := Below.grown (Below.refl w3.heap.size w3) hgr (Nat.le_refl _) (fun q e => by cases e)
  replace kw := kw.grows hg4
  have hGge : w3.heap.size ≤ w3.heap.size := Nat.le_refl _
  generalize hGd : w3.heap.size = G at hch hGge ⊢
  replace hGge : w3.heap.size ≤ G := by omega
  clear hown hgr hi0 hi1 hi2 hi3 hi4 i0 hGd
  go_upto_region 6 with fail
  obtain ⟨ad7, xN, BN, dN, e7, had7, hxN, hdN, hcN, hbN⟩ := hlb.elem hg4 (k := N) (by have := HLL.out; have := HN.out; omega)
  subst e7
  have hB4 := below_grows hB (Nat.le_refl _) hg4
  have hGlt := hch.lt
  have hle5 : w.heap.size + 2 ≤ w4.heap.size := by have := hg4.size; omega
  have b1 : (0 : Int) ≤ (N : Int) := by omega
  have b2 : (N : Int) < (l.length : Int) := by have := HN.out; omega
  have b3 : (N : Int) < (ls.length : Int) := by have := HN.out; have := HLL.out; omega
  have b4 : N < l.length := by omega
  have b5 : N < ls.length := by omega
  have hgN : ls.getD N [] = xN := by rw [List.getD_eq_getElem?_getD, hxN]; rfl
  have hfN : FL xN := hgN ▸ HFL.out N b4
  have HBE := Lib.hid (fun (w0 : World) (hg : Grows w4 w0) => pbestl_any (w := w0) (c := dN) (ci := ci) (want := want) (I := I) (hbN.grows (below_grows hg4 (Nat.le_refl _) hg)) (by have := hfN.2; omega) hdN hfN.okb (fun b hb => (hfN.1 b hb).2) (InB.ints (hi.grows (below_grows hB4 (Nat.le_refl _) hg))) hok)
  have HX0 := HLAST.out
  rw [hgN] at HX0
  generalize bestL (topP want) want xN = XO at *
  obtain ⟨X, bo⟩ := XO
  have HX : Hid (f N = X) := Lib.hid HX0
  clear HX0 hgN hfN hxN HLAST
  have had7c : (ad7.add N).block < w4.heap.size := by rw [block_of_add]; exact had7
  obtain ⟨S, HI, HO⟩ := hideS fun (L : Ran) (vs : Nat → Value) (w' : World) => ((L 12 = false → Grows w4 w' ∧ DsS [none, none, none, none, none, none, none, some (PsBest w4.heap.size X bo), some (PsBest w4.heap.size X bo), some (PsCh w4.heap.size X), none, none, none] L vs w') ∧ KnS [some (.slice (some ⟨G, 0, none⟩) l.length l.length), some (.int .i64 N), some (.slice (some ad7) ls.length c7), some (.int .i64 N), some (.pointer (some (ad7.add N))), some (.slice BN xN.length dN), some (.agg #[.int .i64 want.k, .int .i64 want.r, .slice I want.m.length ci, .int .i64 want.s]), none, none, none, none, some (.pointer (some ⟨G, N * 4, none⟩)), none] L vs ∧ (L 12 = true → (∀ j, j < 12 → j ≠ 10 → L j = true) ∧ (∃ t u, vs 8 = .tuple #[t, u]) ∧ w4.grownBy w' (some G) ∧ ChG w' (w.heap.size + 2) G l.length (fun k => False ∨ k = N) f))
  refine wp_region_genT S 13 84 (by kernel_rfl) (by kernel_rfl) rfl ?_ ?_
  ·exact HI.out _ _ _ ⟨fun _ => ⟨Grows.drew' _, ds_none _ _ _⟩, kn_none _ _, fun h => by cases h⟩
  simp only [List.take_succ_cons, List.take_zero, List.drop_succ_cons, List.drop_zero]
  refine gent_consR (fun vs L w1 hL hw1 => ?_) ?_
  ·obtain ⟨p0, q1, p2⟩ := HO.out _ _ _ hw1
   refine gen_plain rfl ?_
   have ns : L 12 = false := by
    cases h : L 12
    ·rfl
    ·exact absurd ((p2 h).1 0 (by omega) (by omega)) (by rw [hL.1]; simp)
   obtain ⟨q0, q2⟩ := p0 ns
   go_simp
   exact gr_val (HI.out _ _ _ ⟨fun _ => ⟨q0, ds_free q2 rfl⟩, kn_known q1 rfl, fun h => absurd (show L 12 = true from h) (by rw [ns]; simp)⟩)
  refine gent_consR (fun vs L w1 hL hw1 => ?_) ?_
  ·obtain ⟨p0, q1, p2⟩ := HO.out _ _ _ hw1
   refine gen_plain rfl ?_
   have ns : L 12 = false := by
    cases h : L 12
    ·rfl
    ·exact absurd ((p2 h).1 1 (by omega) (by omega)) (by rw [hL.1]; simp)
   obtain ⟨q0, q2⟩ := p0 ns
   go_simp
   exact gr_val (HI.out _ _ _ ⟨fun _ => ⟨q0, ds_free q2 rfl⟩, kn_known q1 rfl, fun h => absurd (show L 12 = true from h) (by rw [ns]; simp)⟩)
  refine gent_consR (fun vs L w1 hL hw1 => ?_) ?_
  ·obtain ⟨p0, q1, p2⟩ := HO.out _ _ _ hw1
   refine gen_plain rfl ?_
   have ns : L 12 = false := by
    cases h : L 12
    ·rfl
    ·exact absurd ((p2 h).1 2 (by omega) (by omega)) (by rw [hL.1]; simp)
   obtain ⟨q0, q2⟩ := p0 ns
   go_simp
   exact gr_val (HI.out _ _ _ ⟨fun _ => ⟨q0, ds_free q2 rfl⟩, kn_known q1 rfl, fun h => absurd (show L 12 = true from h) (by rw [ns]; simp)⟩)
  refine gent_consR (fun vs L w1 hL hw1 => ?_) ?_
  ·obtain ⟨p0, q1, p2⟩ := HO.out _ _ _ hw1
   refine gen_plain rfl ?_
   have ns : L 12 = false := by
    cases h : L 12
    ·rfl
    ·exact absurd ((p2 h).1 3 (by omega) (by omega)) (by rw [hL.1]; simp)
   obtain ⟨q0, q2⟩ := p0 ns
   go_simp
   exact gr_val (HI.out _ _ _ ⟨fun _ => ⟨q0, ds_free q2 rfl⟩, kn_known q1 rfl, fun h => absurd (show L 12 = true from h) (by rw [ns]; simp)⟩)
  refine gent_consR (fun vs L w1 hL hw1 => ?_) ?_
  ·obtain ⟨p0, q1, p2⟩ := HO.out _ _ _ hw1
   refine gen_plain rfl ?_
   have ns : L 12 = false := by
    cases h : L 12
    ·rfl
    ·exact absurd ((p2 h).1 4 (by omega) (by omega)) (by rw [hL.1]; simp)
   obtain ⟨q0, q2⟩ := p0 ns
   have l2 : L 2 = true := hL.need 2 (by kernel_rfl)
   have e2 := q1 2 _ rfl l2
   have l3 : L 3 = true := hL.need 3 (by kernel_rfl)
   have e3 := q1 3 _ rfl l3
   simp only [e2, e3]
   go_simp
   exact gr_val (HI.out _ _ _ ⟨fun _ => ⟨q0, ds_free q2 rfl⟩, kn_known q1 rfl, fun h => absurd (show L 12 = true from h) (by rw [ns]; simp)⟩)
  refine gent_consR (fun vs L w1 hL hw1 => ?_) ?_
  ·obtain ⟨p0, q1, p2⟩ := HO.out _ _ _ hw1
   refine gen_plain rfl ?_
   have ns : L 12 = false := by
    cases h : L 12
    ·rfl
    ·exact absurd ((p2 h).1 5 (by omega) (by omega)) (by rw [hL.1]; simp)
   obtain ⟨q0, q2⟩ := p0 ns
   have l4 : L 4 = true := hL.need 4 (by kernel_rfl)
   have e4 := q1 4 _ rfl l4
   simp only [e4]
   have xb := (Below.cell q0 had7c).trans hcN
   go_simp
   exact gr_val (HI.out _ _ _ ⟨fun _ => ⟨q0, ds_free q2 rfl⟩, kn_known q1 rfl, fun h => absurd (show L 12 = true from h) (by rw [ns]; simp)⟩)
  refine gent_consR (fun vs L w1 hL hw1 => ?_) ?_
  ·obtain ⟨p0, q1, p2⟩ := HO.out _ _ _ hw1
   refine gen_plain rfl ?_
   have ns : L 12 = false := by
    cases h : L 12
    ·rfl
    ·exact absurd ((p2 h).1 6 (by omega) (by omega)) (by rw [hL.1]; simp)
   obtain ⟨q0, q2⟩ := p0 ns
   have xb := (kw.grows q0).cell
   go_simp
   exact gr_val (HI.out _ _ _ ⟨fun _ => ⟨q0, ds_free q2 rfl⟩, kn_known q1 rfl, fun h => absurd (show L 12 = true from h) (by rw [ns]; simp)⟩)
  refine gent_consR (fun vs L w1 hL hw1 => ?_) ?_
  ·obtain ⟨p0, q1, p2⟩ := HO.out _ _ _ hw1
   refine gen_plain rfl ?_
   have ns : L 12 = false := by
    cases h : L 12
    ·rfl
    ·exact absurd ((p2 h).1 7 (by omega) (by omega)) (by rw [hL.1]; simp)
   obtain ⟨q0, q2⟩ := p0 ns
   have l5 : L 5 = true := hL.need 5 (by kernel_rfl)
   have e5 := q1 5 _ rfl l5
   have l6 : L 6 = true := hL.need 6 (by kernel_rfl)
   have e6 := q1 6 _ rfl l6
   simp only [e5, e6]
   go_simp
   refine gr_call ?_
   refine (HBE.out _ q0).mono ?_
   rintro e w6 ⟨⟨v6, rfl, A9, c9, rfl, hc9, hx9⟩, hg⟩
   have hsz := q0.size
   exact ⟨_, rfl, HI.out _ _ _ ⟨fun _ => ⟨below_grows q0 (Nat.le_refl _) hg, ds_put (q2.grows hg) rfl ⟨A9, c9, rfl, hc9, RdB.mono hx9 (fun k hk => by unfold Ge at *; omega)⟩⟩, kn_free q1 rfl, fun h => absurd (show L 12 = true from h) (by rw [ns]; simp)⟩⟩
  refine gent_consR (fun vs L w1 hL hw1 => ?_) ?_
  ·obtain ⟨p0, q1, p2⟩ := HO.out _ _ _ hw1
   refine gen_plain rfl ?_
   have ns : L 12 = false := by
    cases h : L 12
    ·rfl
    ·exact absurd ((p2 h).1 8 (by omega) (by omega)) (by rw [hL.1]; simp)
   obtain ⟨q0, q2⟩ := p0 ns
   have l7 : L 7 = true := hL.need 7 (by kernel_rfl)
   have p7 := q2 7 _ rfl l7
   go_simp
   exact gr_val (HI.out _ _ _ ⟨fun _ => ⟨q0, ds_put q2 rfl p7⟩, kn_free q1 rfl, fun h => absurd (show L 12 = true from h) (by rw [ns]; simp)⟩)
  refine gent_consR (fun vs L w1 hL hw1 => ?_) ?_
  ·obtain ⟨p0, q1, p2⟩ := HO.out _ _ _ hw1
   refine gen_plain rfl ?_
   have ns : L 12 = false := by
    cases h : L 12
    ·rfl
    ·exact absurd ((p2 h).1 9 (by omega) (by omega)) (by rw [hL.1]; simp)
   obtain ⟨q0, q2⟩ := p0 ns
   have l8 : L 8 = true := hL.need 8 (by kernel_rfl)
   obtain ⟨A9, c9, e9, hc9, hx9⟩ := q2 8 _ rfl l8
   simp only [e9]
   go_simp
   exact gr_val (HI.out _ _ _ ⟨fun _ => ⟨q0, ds_put q2 rfl ⟨A9, c9, rfl, hc9, hx9⟩⟩, kn_free q1 rfl, fun h => absurd (show L 12 = true from h) (by rw [ns]; simp)⟩)
  refine gent_consR (fun vs L w1 hL hw1 => ?_) ?_
  ·obtain ⟨p0, q1, p2⟩ := HO.out _ _ _ hw1
   refine gen_plain rfl ?_
   have htup : ∃ t u, vs 8 = .tuple #[t, u] := by
    cases h : L 12
    ·obtain ⟨A9, c9, e9, -⟩ := (p0 h).2 8 _ rfl (hL.need 8 (by kernel_rfl))
     exact ⟨_, _, e9⟩
    ·exact (p2 h).2.1
   obtain ⟨t, u, e9⟩ := htup
   simp only [e9]
   go_simp
   exact gr_val (HI.out _ _ _ ⟨fun h => ⟨(p0 h).1, ds_free (p0 h).2 rfl⟩, kn_free q1 rfl, fun h => ⟨(fun j h1 h2 => by have := (p2 h).1 j h1 h2; unfold upd; rw [if_neg h2]; exact this), ⟨t, u, (show vs 8 = _ from e9)⟩, (p2 h).2.2⟩⟩)
  refine gent_consR (fun vs L w1 hL hw1 => ?_) ?_
  ·obtain ⟨p0, q1, p2⟩ := HO.out _ _ _ hw1
   refine gen_plain rfl ?_
   have ns : L 12 = false := by
    cases h : L 12
    ·rfl
    ·exact absurd ((p2 h).1 11 (by omega) (by omega)) (by rw [hL.1]; simp)
   obtain ⟨q0, q2⟩ := p0 ns
   have l0 : L 0 = true := hL.need 0 (by kernel_rfl)
   have e0 := q1 0 _ rfl l0
   have l1 : L 1 = true := hL.need 1 (by kernel_rfl)
   have e1 := q1 1 _ rfl l1
   simp only [e0, e1]
   go_simp
   exact gr_val (HI.out _ _ _ ⟨fun _ => ⟨q0, ds_free q2 rfl⟩, kn_known q1 rfl, fun h => absurd (show L 12 = true from h) (by rw [ns]; simp)⟩)
  refine gent_consR (fun vs L w1 hL hw1 => ?_) ?_
  ·obtain ⟨p0, q1, p2⟩ := HO.out _ _ _ hw1
   refine gen_plain rfl ?_
   have ns : L 12 = false := hL.1
   obtain ⟨q0, q2⟩ := p0 ns
   have l11 : L 11 = true := hL.need 11 (by kernel_rfl)
   have e11 := q1 11 _ rfl l11
   obtain ⟨A9, c9, e9, hc9, hx9⟩ := q2 9 _ rfl (hL.need 9 (by kernel_rfl))
   obtain ⟨A8, c8, e8, -, -⟩ := q2 8 _ rfl (hL.need 8 (by kernel_rfl))
   have hc0 := hch.grows q0
   obtain ⟨v0, v1, v2, v3, y0, y1, y2, y3, z0, z1, z2, z3⟩ := hc0.old (i := N) (by omega)
   have hcp := hc0.put (i := N) (A := A9) (c := c9) (by omega) (by rw [HX.out]; exact hc9) (by rw [HX.out]; exact hx9.mono (fun k hk => by unfold Ge at hk; omega))
   rw [HX.out] at hcp
   simp only [e11, e9, add_head]
   go_simp
   refine gr_skip ?_
   show S (upd L 12) (setV vs 12 undef) (putC w1 G (N * 4) X A9 c9)
   exact HI.out _ _ _ ⟨fun h => absurd (show true = false from h) (by simp), kn_free q1 rfl, fun _ => ⟨(fun j h1 h2 => by have := hL.all 12 10 (by kernel_rfl) j h1 h2; unfold upd; split <;> first | rfl | exact this), ⟨_, _, (show vs 8 = _ from e8)⟩, only_trans (d_only_grows (World.grownBy.refl w4 (some G)) q0) (putC_only w1 G (N * 4) X A9 c9), hcp⟩⟩
  refine gent_nil ?_
  intro vs L W2 hall hS
  obtain ⟨-, q1, p2⟩ := HO.out _ _ _ hS
  obtain ⟨-, -, hgb, hch2⟩ := p2 (hall 12 (by omega))
  clear hall hS HI HO p2 q1 HX hch HBE had7c hcN hbN
  iterate 13
   try generalize vs _ = yv
  replace hg4 := Below.grown hg4 hgb hg4.size (fun q e => by injection e with e; omega)
  have hch := ChG.sub (W2 := fun k => N ≤ k) hch2 (fun k hk hw => .inr (by have := HN.out; omega))
  clear hch2 hgb hB4 hGlt hle5 had7 hdN kw
  have hwN2 : IntKind.i64.wrap ((N : Int) - 1) = (N : Int) - 1 := IntWalk.i64_in _ (by omega)
  generalize W2 = w5 at *
  go_wp2_with fail
  go_loopw [12] (fun i wr => ∃ (j m : Nat) (z : Int), j + m = N ∧ i = .int .i64 z ∧ Hid (z = (j : Int) - 1) ∧ ChG wr (w.heap.size + 2) G l.length (fun k => j ≤ k) f ∧ Below w3.heap.size w3 wr) (fun i _ => (intOf i + 1).toNat)
  case atStart => exact ⟨N, 0, _, by omega, rfl, Lib.hid rfl, hch, hg4⟩
  case round =>
   clear hch hg4
   obtain ⟨j, m, z, hjm, rfl, HZ, hch, hg4⟩ := hrel
   have hB4 := below_grows hB (Nat.le_refl _) hg4
   have hGlt := hch.lt
   have hle5 : w.heap.size + 2 ≤ wr.heap.size := by have := hg4.size; omega
   have hle6 : w3.heap.size ≤ wr.heap.size := hg4.size
   cases j with
   | zero =>
    have hz : z = -1 := HZ.out
    subst hz
    have d1 : decide ((0 : Int) ≤ -1) = false := by decide
    replace k5 := k5.below hg4 hs5
    have x5 := k5.cell
    have f5 := k5.frozen
    have hdone := ChG.done hch (fun i _ => Nat.zero_le i) (by omega)
    have hB3 := (hB4.setCell (p := ⟨w.heap.size + 1, 0, none⟩) (by simp) (.int .i64 0)).setCell (p := ⟨w.heap.size + 1, 1, none⟩) (by simp) (.int .i64 0)
    have x3z := ((k5.set_ 0 (.int .i64 0)).set_ 1 (.int .i64 0)).cell
    have hlen : ((List.range l.length).map f).length = l.length := by rw [List.length_map, List.length_range]
    go_wp2
    have hd2 := (hdone.grown (d_only_set (d_only_set (World.grownBy.refl wr (some (w.heap.size + 1))) 0 (.int .i64 0)) 1 (.int .i64 0)) (fun g e hh => by injection e with e; unfold Ge at hh; omega)).mono (ok2 := Ge w.heap.size) (fun k hk => by unfold Ge at *; omega)
    generalize World.setCell (World.setCell wr _ _) _ _ = wz at *
    refine bodyPost_ret (v := .tuple #[.slice (some ⟨G, 0, none⟩) l.length l.length, .agg #[.int .i64 0, .int .i64 0], .int .i64 0]) (by simp [results, Tryz.results16, go_sem, x3z]) rfl ?_
    rw [HE.out]
    exact ⟨⟨some ⟨G, 0, none⟩, l.length, by rw [hlen], by rw [hlen]; exact Nat.le_refl _, hd2⟩, hB3⟩
   | succ j =>
    obtain rfl : z = (j : Int) := by have := HZ.out; omega
    obtain ⟨j1, hj1⟩ : ∃ j1, j + 1 = j1 := ⟨_, rfl⟩
    replace hch := ChG.sub (W2 := fun k => j1 ≤ k) hch (fun k _ hw => by omega)
    have HJ1 := Lib.hid hj1
    have HJM := Lib.hid hjm
    clear hj1 hjm
    have d1 : decide ((0 : Int) ≤ (j : Int)) = true := by simp only [decide_eq_true_eq]; omega
    have d2 : decide (0 ≤ j) = true := by simp only [decide_eq_true_eq]; omega
    have hwj : IntKind.i64.wrap ((j : Int) + 1) = (j1 : Int) := by rw [IntWalk.i64_in _ (by have := HN.out; have := HJM.out; omega)]; have := HJ1.out; omega
    have hwm : IntKind.i64.wrap ((j : Int) - 1) = (j : Int) - 1 := IntWalk.i64_in _ (by have := HN.out; have := HJM.out; omega)
    have c1 : (0 : Int) ≤ (j : Int) := by omega
    have c2 : (j : Int) < (l.length : Int) := by have := HN.out; have := HJM.out; omega
    have c3 : (j : Int) < (ls.length : Int) := by have := HN.out; have := HLL.out; have := HJM.out; omega
    have c4 : (j1 : Int) < (l.length : Int) := by have := HN.out; have := HJM.out; have := HJ1.out; omega
    have c5 : (0 : Int) ≤ (j1 : Int) := by omega
    have c6 : j < l.length := by omega
    have c7_ : j < ls.length := by omega
    have c8 : j1 < l.length := by omega
    obtain ⟨ad8, xN, BN, dN, e7, had7, hxN, hdN, hcN, hbN⟩ := hlb.elem hg4 (k := j) c7_
    injection e7 with e7
    subst e7
    obtain ⟨ad, p, B, cp, e1, had, hp, -, -, q20, q21⟩ := h.elem hB4 (k := j) c6
    subst e1
    obtain ⟨AY, cY, hcY, hiY, hcellY⟩ := hch.at_ (i := j1) c8 (Nat.le_refl _)
    have hOY := HOC.out j1 c8
    have hst := HSTEP.out j (by have := HJM.out; omega)
    rw [show ls.getD j [] = xN by rw [List.getD_eq_getElem?_getD, hxN]; rfl, show l.getD j noPt = p by rw [List.getD_eq_getElem?_getD, hp]; rfl, HJ1.out] at hst
    have hfN : FL xN := by
     have := HFL.out j c6
     rwa [show ls.getD j [] = xN by rw [List.getD_eq_getElem?_getD, hxN]; rfl] at this
    generalize f j1 = Y at *
    have HX0 : Hid (f j = (bestL (topP Y) Y (productF (bits .andNot .i64 15 p.v) xN (singleF Y)).1).1) := Lib.hid hst
    have HFS := Lib.hid (fl_single Y).1
    have hls1 : (singleF Y).length ≤ 1 := (fl_single Y).2.2
    have HFP := Lib.hid (fl_prodF (d := bits .andNot .i64 15 p.v) hfN (fl_single Y).1)
    have HFN := Lib.hid hfN
    have hlN := hfN.2
    clear hst hxN hp hfN
    go_upto_region 10 with fail
    have HDD : Hid (∃ d, bits .andNot .i64 15 p.v = d) := Lib.hid ⟨_, rfl⟩
    obtain ⟨dd, hdd⟩ := HDD.out
    rw [hdd] at HX0 HFP
    have HDE := Lib.hid hdd
    clear hdd HDD
    have HS := Lib.hid (fun (w0 : World) (hg : Grows wr w0) => psingle_any (w := w0) (ci := cY) (InB.ints (hiY.grows hg)) hcY hOY.2.2)
    have HR := Lib.hid (fun (w0 : World) (A9 : Option Addr) (c9 : Nat) (hg : Grows wr w0) (h9 : Bxs w0 (Ge wr.heap.size) A9 (singleF Y)) => reach_any (w := w0) (c := dN) (d := c9) dd rfl rfl (hbN.grows (below_grows hg4 (Nat.le_refl _) hg)) h9 (by omega) (by omega) HFN.out.1 HFS.out.1)
    generalize singleF Y = sY at *
    generalize productF dd xN sY = pr at *
    obtain ⟨pl, pe⟩ := pr
    have HX1 : Hid (f j = (bestL (topP Y) Y pl).1) := HX0
    have HFP1 : Hid (FL pl) := HFP
    clear HX0 HFP
    have had7c : (ad7.add j).block < wr.heap.size := by rw [block_of_add]; exact had7
    have hadc : (ad.add (j * 2)).block < wr.heap.size := by rw [block_of_add]; exact had
    obtain ⟨S, HI, HO⟩ := hideS fun (L : Ran) (vs : Nat → Value) (w' : World) => (Grows wr w' ∧ KnS [some (.slice (some ad7) ls.length c7), some (.int .i64 j), some (.pointer (some (ad7.add j))), some (.slice BN xN.length dN), some (.slice (some ⟨G, 0, none⟩) l.length l.length), some (.int .i64 j), some (.int .i64 j1), some (.pointer (some ⟨G, j1 * 4, none⟩)), some (.agg #[.int .i64 Y.k, .int .i64 Y.r, .slice AY Y.m.length cY, .int .i64 Y.s]), none, some (.slice (some ad) l.length c), some (.int .i64 j), some (.pointer (some (ad.add (j * 2)))), some (.pointer (some { block := (ad.add (j * 2)).block, off := (ad.add (j * 2)).off + 1 })), some (.int .i64 p.v), some (.int .i64 dd), none, none, none, some (.int .i64 pe), none, some (.int .i64 pe)] L vs ∧ DsS [none, none, none, none, none, none, none, none, none, some (PsN wr.heap.size sY), none, none, none, none, none, none, some (PsT wr.heap.size pl pe), some (PsT wr.heap.size pl pe), some (PsN wr.heap.size pl), none, some (PsN wr.heap.size pl), none] L vs w')
    refine wp_region_genT S 22 84 (by kernel_rfl) (by kernel_rfl) rfl ?_ ?_
    ·exact HI.out _ _ _ ⟨Grows.drew' _, kn_none _ _, ds_none _ _ _⟩
    simp only [List.take_succ_cons, List.take_zero, List.drop_succ_cons, List.drop_zero]
    refine gent_consR (fun vs L w1 hL hw1 => ?_) ?_
    ·obtain ⟨q0, q1, q2⟩ := HO.out _ _ _ hw1
     refine gen_plain rfl ?_
     go_simp
     exact gr_val (HI.out _ _ _ ⟨q0, kn_known q1 rfl, ds_free q2 rfl⟩)
    refine gent_consR (fun vs L w1 hL hw1 => ?_) ?_
    ·obtain ⟨q0, q1, q2⟩ := HO.out _ _ _ hw1
     refine gen_plain rfl ?_
     go_simp
     exact gr_val (HI.out _ _ _ ⟨q0, kn_known q1 rfl, ds_free q2 rfl⟩)
    refine gent_consR (fun vs L w1 hL hw1 => ?_) ?_
    ·obtain ⟨q0, q1, q2⟩ := HO.out _ _ _ hw1
     refine gen_plain rfl ?_
     have l0 : L 0 = true := hL.need 0 (by kernel_rfl)
     have e0 := q1 0 _ rfl l0
     have l1 : L 1 = true := hL.need 1 (by kernel_rfl)
     have e1 := q1 1 _ rfl l1
     simp only [e0, e1]
     go_simp
     exact gr_val (HI.out _ _ _ ⟨q0, kn_known q1 rfl, ds_free q2 rfl⟩)
    refine gent_consR (fun vs L w1 hL hw1 => ?_) ?_
    ·obtain ⟨q0, q1, q2⟩ := HO.out _ _ _ hw1
     refine gen_plain rfl ?_
     have l2 : L 2 = true := hL.need 2 (by kernel_rfl)
     have e2 := q1 2 _ rfl l2
     simp only [e2]
     have xb := (Below.cell q0 had7c).trans hcN
     go_simp
     exact gr_val (HI.out _ _ _ ⟨q0, kn_known q1 rfl, ds_free q2 rfl⟩)
    refine gent_consR (fun vs L w1 hL hw1 => ?_) ?_
    ·obtain ⟨q0, q1, q2⟩ := HO.out _ _ _ hw1
     refine gen_plain rfl ?_
     go_simp
     exact gr_val (HI.out _ _ _ ⟨q0, kn_known q1 rfl, ds_free q2 rfl⟩)
    refine gent_consR (fun vs L w1 hL hw1 => ?_) ?_
    ·obtain ⟨q0, q1, q2⟩ := HO.out _ _ _ hw1
     refine gen_plain rfl ?_
     go_simp
     exact gr_val (HI.out _ _ _ ⟨q0, kn_known q1 rfl, ds_free q2 rfl⟩)
    refine gent_consR (fun vs L w1 hL hw1 => ?_) ?_
    ·obtain ⟨q0, q1, q2⟩ := HO.out _ _ _ hw1
     refine gen_plain rfl ?_
     have l5 : L 5 = true := hL.need 5 (by kernel_rfl)
     have e5 := q1 5 _ rfl l5
     simp only [e5]
     go_simp
     exact gr_val (HI.out _ _ _ ⟨q0, kn_known q1 rfl, ds_free q2 rfl⟩)
    refine gent_consR (fun vs L w1 hL hw1 => ?_) ?_
    ·obtain ⟨q0, q1, q2⟩ := HO.out _ _ _ hw1
     refine gen_plain rfl ?_
     have l4 : L 4 = true := hL.need 4 (by kernel_rfl)
     have e4 := q1 4 _ rfl l4
     have l6 : L 6 = true := hL.need 6 (by kernel_rfl)
     have e6 := q1 6 _ rfl l6
     simp only [e4, e6]
     go_simp
     exact gr_val (HI.out _ _ _ ⟨q0, kn_known q1 rfl, ds_free q2 rfl⟩)
    refine gent_consR (fun vs L w1 hL hw1 => ?_) ?_
    ·obtain ⟨q0, q1, q2⟩ := HO.out _ _ _ hw1
     refine gen_plain rfl ?_
     have l7 : L 7 = true := hL.need 7 (by kernel_rfl)
     have e7 := q1 7 _ rfl l7
     simp only [e7]
     obtain ⟨y0, y1, y2, y3⟩ := hcellY.grows q0 (show G < _ by omega)
     go_simp
     exact gr_val (HI.out _ _ _ ⟨q0, kn_known q1 rfl, ds_free q2 rfl⟩)
    refine gent_consR (fun vs L w1 hL hw1 => ?_) ?_
    ·obtain ⟨q0, q1, q2⟩ := HO.out _ _ _ hw1
     refine gen_plain rfl ?_
     have l8 : L 8 = true := hL.need 8 (by kernel_rfl)
     have e8 := q1 8 _ rfl l8
     simp only [e8]
     go_simp
     refine gr_call ?_
     refine (HS.out _ q0).mono ?_
     rintro e w6 ⟨⟨A9, c9, rfl, hc9, hx9⟩, hg⟩
     have hsz := q0.size
     exact ⟨_, rfl, HI.out _ _ _ ⟨below_grows q0 (Nat.le_refl _) hg, kn_free q1 rfl, ds_put (q2.grows hg) rfl ⟨A9, c9, rfl, hc9, hx9.mono (fun k hk => by unfold Ge at *; omega)⟩⟩⟩
    refine gent_consR (fun vs L w1 hL hw1 => ?_) ?_
    ·obtain ⟨q0, q1, q2⟩ := HO.out _ _ _ hw1
     refine gen_plain rfl ?_
     go_simp
     exact gr_val (HI.out _ _ _ ⟨q0, kn_known q1 rfl, ds_free q2 rfl⟩)
    refine gent_consR (fun vs L w1 hL hw1 => ?_) ?_
    ·obtain ⟨q0, q1, q2⟩ := HO.out _ _ _ hw1
     refine gen_plain rfl ?_
     go_simp
     exact gr_val (HI.out _ _ _ ⟨q0, kn_known q1 rfl, ds_free q2 rfl⟩)
    refine gent_consR (fun vs L w1 hL hw1 => ?_) ?_
    ·obtain ⟨q0, q1, q2⟩ := HO.out _ _ _ hw1
     refine gen_plain rfl ?_
     have l10 : L 10 = true := hL.need 10 (by kernel_rfl)
     have e10 := q1 10 _ rfl l10
     have l11 : L 11 = true := hL.need 11 (by kernel_rfl)
     have e11 := q1 11 _ rfl l11
     simp only [e10, e11]
     go_simp
     exact gr_val (HI.out _ _ _ ⟨q0, kn_known q1 rfl, ds_free q2 rfl⟩)
    refine gent_consR (fun vs L w1 hL hw1 => ?_) ?_
    ·obtain ⟨q0, q1, q2⟩ := HO.out _ _ _ hw1
     refine gen_plain rfl ?_
     have l12 : L 12 = true := hL.need 12 (by kernel_rfl)
     have e12 := q1 12 _ rfl l12
     simp only [e12]
     go_simp
     exact gr_val (HI.out _ _ _ ⟨q0, kn_known q1 rfl, ds_free q2 rfl⟩)
    refine gent_consR (fun vs L w1 hL hw1 => ?_) ?_
    ·obtain ⟨q0, q1, q2⟩ := HO.out _ _ _ hw1
     refine gen_plain rfl ?_
     have l13 : L 13 = true := hL.need 13 (by kernel_rfl)
     have e13 := q1 13 _ rfl l13
     simp only [e13]
     have xb := (Below.cell (p := ⟨(ad.add (j * 2)).block, (ad.add (j * 2)).off + 1, none⟩) q0 hadc).trans q21
     go_simp
     exact gr_val (HI.out _ _ _ ⟨q0, kn_known q1 rfl, ds_free q2 rfl⟩)
    refine gent_consR (fun vs L w1 hL hw1 => ?_) ?_
    ·obtain ⟨q0, q1, q2⟩ := HO.out _ _ _ hw1
     refine gen_plain rfl ?_
     have l14 : L 14 = true := hL.need 14 (by kernel_rfl)
     have e14 := q1 14 _ rfl l14
     simp only [e14]
     go_simp
     rw [HDE.out]
     exact gr_val (HI.out _ _ _ ⟨q0, kn_known q1 rfl, ds_free q2 rfl⟩)
    refine gent_consR (fun vs L w1 hL hw1 => ?_) ?_
    ·obtain ⟨q0, q1, q2⟩ := HO.out _ _ _ hw1
     refine gen_plain rfl ?_
     have l3 : L 3 = true := hL.need 3 (by kernel_rfl)
     have e3 := q1 3 _ rfl l3
     have l15 : L 15 = true := hL.need 15 (by kernel_rfl)
     have e15 := q1 15 _ rfl l15
     simp only [e3, e15]
     obtain ⟨A9, c9, e9, hc9, hx9⟩ := q2 9 _ rfl (hL.need 9 (by kernel_rfl))
     simp only [e9]
     go_simp
     refine gr_call ?_
     refine (HR.out _ A9 c9 q0 hx9).mono ?_
     rintro e w6 ⟨⟨v6, rfl, hw6⟩, hg⟩
     obtain ⟨A9, c9, rfl, hc9, hx9⟩ := hw6.read
     have hsz := q0.size
     exact ⟨_, rfl, HI.out _ _ _ ⟨below_grows q0 (Nat.le_refl _) hg, kn_free q1 rfl, ds_put (q2.grows hg) rfl ⟨A9, c9, rfl, hc9, hx9.mono (fun k hk => by unfold Ge at *; omega)⟩⟩⟩
    refine gent_consR (fun vs L w1 hL hw1 => ?_) ?_
    ·obtain ⟨q0, q1, q2⟩ := HO.out _ _ _ hw1
     refine gen_plain rfl ?_
     have p16 := q2 16 _ rfl (hL.need 16 (by kernel_rfl))
     go_simp
     exact gr_val (HI.out _ _ _ ⟨q0, kn_free q1 rfl, ds_put q2 rfl p16⟩)
    refine gent_consR (fun vs L w1 hL hw1 => ?_) ?_
    ·obtain ⟨q0, q1, q2⟩ := HO.out _ _ _ hw1
     refine gen_plain rfl ?_
     obtain ⟨A9, c9, e9, hc9, hx9⟩ := q2 17 _ rfl (hL.need 17 (by kernel_rfl))
     simp only [e9]
     go_simp
     exact gr_val (HI.out _ _ _ ⟨q0, kn_free q1 rfl, ds_put q2 rfl ⟨A9, c9, rfl, hc9, hx9⟩⟩)
    refine gent_consR (fun vs L w1 hL hw1 => ?_) ?_
    ·obtain ⟨q0, q1, q2⟩ := HO.out _ _ _ hw1
     refine gen_plain rfl ?_
     obtain ⟨A9, c9, e9, hc9, hx9⟩ := q2 17 _ rfl (hL.need 17 (by kernel_rfl))
     simp only [e9]
     go_simp
     exact gr_val (HI.out _ _ _ ⟨q0, kn_known q1 rfl, ds_free q2 rfl⟩)
    refine gent_consR (fun vs L w1 hL hw1 => ?_) ?_
    ·obtain ⟨q0, q1, q2⟩ := HO.out _ _ _ hw1
     refine gen_plain rfl ?_
     have p18 := q2 18 _ rfl (hL.need 18 (by kernel_rfl))
     go_simp
     exact gr_val (HI.out _ _ _ ⟨q0, kn_free q1 rfl, ds_put q2 rfl p18⟩)
    refine gent_consR (fun vs L w1 hL hw1 => ?_) ?_
    ·obtain ⟨q0, q1, q2⟩ := HO.out _ _ _ hw1
     refine gen_plain rfl ?_
     have l19 : L 19 = true := hL.need 19 (by kernel_rfl)
     have e19 := q1 19 _ rfl l19
     simp only [e19]
     go_simp
     exact gr_val (HI.out _ _ _ ⟨q0, kn_known q1 rfl, ds_free q2 rfl⟩)
    refine gent_nil ?_
    intro vs L W2 hall hS
    obtain ⟨q0, q1, q2⟩ := HO.out _ _ _ hS
    have e21 := q1 21 _ rfl (hall 21 (by omega))
    obtain ⟨A9, c9, e20, hc9, hx9⟩ := q2 20 _ rfl (hall 20 (by omega))
    have hcellY2 := hcellY.grows q0 hGlt
    have hch1 := hch.grows q0
    have hg5 := below_grows hg4 (Nat.le_refl _) q0
    have hiY2 := RdB.grows hiY q0
    have hszW := q0.size
    have hl9 := HFP1.out.2
    clear hall hS HI HO q1 q2 hcellY hch hg4 hB4 hiY hcN had7c hadc hbN HS HR q20 q21
    simp only [e20, e21]
    clear e20 e21
    iterate 22
     try generalize vs _ = yv
    have hch := hch1
    have HBE := Lib.hid (fun (w0 : World) (hg : Grows W2 w0) => pbestl_any (w := w0) (c := c9) (ci := cY) (want := Y) (I := AY) (hx9.grows hg) (by omega) hc9 HFP1.out.okb (fun b hb => (HFP1.out.1 b hb).2) (InB.ints (hiY2.grows hg)) hOY)
    generalize bestL (topP Y) Y pl = XO at *
    obtain ⟨X, bo⟩ := XO
    have HX : Hid (f j = X) := HX1
    clear HX1 hch1
    have hGlt2 := hch.lt
    have hle7 : w.heap.size + 2 ≤ W2.heap.size := by omega
    obtain ⟨y0, y1, y2, y3⟩ := hcellY2
    go_wp2_with fail
    refine (HBE.out _ (Below.refl _ _)).mono ?_
    rintro e w7 ⟨⟨v7, rfl, A6, n6, rfl, hn6, hx6⟩, hq⟩
    have hsz7 := hq.size
    replace hg5 := below_grows hg5 (Nat.le_refl _) hq
    have hch2 := hch.grows hq
    clear hq HBE hch y0 y1 y2 y3 hx9
    obtain ⟨v0, v1, v2, v3, y0, y1, y2, y3, z0, z1, z2, z3⟩ := hch2.old (i := j) c6
    have hcp := hch2.put (i := j) (A := A6) (c := n6) c6 (by rw [HX.out]; exact hn6) (by rw [HX.out]; exact RdB.mono hx6 (fun k hk => by unfold Ge at hk; omega))
    rw [HX.out] at hcp
    have hg6 := Below.grown hg5 (putC_only w7 G (j * 4) X A6 n6) hg5.size (fun q e => by injection e with e; omega)
    have hch3 := ChG.sub (W2 := fun k => j ≤ k) hcp (fun k hk hw => by have := HJ1.out; omega)
    clear hch2 hcp hg5 hx6 HX
    go_wp2
    go_roundw
    case rel => exact ⟨j, m + 1, _, by have := HJM.out; omega, rfl, Lib.hid rfl, hch3, hg6⟩
    case measure => simp [intOf]
 ·have HE := Lib.hid (choose_no (want := want) HF.out hfe)
  have e5 : (fe != 0) = true := bne_iff_ne.2 hfe
  have e6 : decide (fe = 0) = false := decide_eq_false hfe
  have x5 := k5.cell
  have f5 := k5.frozen
  have x8 := k8.cell
  clear hfe h hi
  go_upto_region 3 with fail
  have hB3 := ((hB.setCell (p := ⟨w.heap.size + 1, 0, none⟩) (by simp) (.int .i64 fa)).setCell (p := ⟨w.heap.size + 1, 1, none⟩) (by simp) (.int .i64 fb)).drew
  have x3z := ((k5.set_ 0 (.int .i64 fa)).set_ 1 (.int .i64 fb)).drew.cell
  go_region
  go_wp2
  generalize World.drew _ = wz at *
  refine bodyPost_ret (v := .tuple #[.slice none 0 0, .agg #[.int .i64 fa, .int .i64 fb], .int .i64 fe]) (by simp [results, Tryz.results16, go_sem, x3z]) rfl ?_
  rw [HE.out]
  exact ⟨⟨none, 0, rfl, Nat.le_refl _, Chs.nil⟩, hB3⟩
end Go.Proofs.YtjbkjgmcfommgaaGreat

namespace Go.Proofs.YtjbkjgmcfommgaaGreat
open Go.RowKit
set_option maxHeartbeats 64000000 in
set_option maxRecDepth 10000 in
theorem agree_any {A B : Option Addr} {c d : Nat} {a b : Ch} {w : World} (dd : Int) (ia : Ints w A a.m) (ib : Ints w B b.m) (ha : a.m.length ≤ 9223372036854775807) (hb : b.m.length ≤ 9223372036854775807) :
 Calls Tryz.prog 43 #[.agg #[.int .i64 a.k, .int .i64 a.r, .slice A a.m.length c, .int .i64 a.s], .agg #[.int .i64 b.k, .int .i64 b.r, .slice B b.m.length d, .int .i64 b.s], .int .i64 dd] w fun e w' => e = .returned (.bool (agD dd a b)) ∧ Grows w w' := by
 have k3 := (Blk.new w 42 #[.int .i64 a.k, .int .i64 a.r, .slice A a.m.length c, .int .i64 a.s]).alloc (Obj.cells #[.int .i64 b.k, .int .i64 b.r, .slice B b.m.length d, .int .i64 b.s] 42)
 have k4 := blk_new_at (X := w.alloc (Obj.cells #[.int .i64 a.k, .int .i64 a.r, .slice A a.m.length c, .int .i64 a.s] 42)) (n := w.heap.size + 1) (t := 42) (cs := #[.int .i64 b.k, .int .i64 b.r, .slice B b.m.length d, .int .i64 b.s]) (by simp)
 have hB := ((Below.refl w.heap.size w).alloc (Nat.le_refl _) (Obj.cells #[.int .i64 a.k, .int .i64 a.r, .slice A a.m.length c, .int .i64 a.s] 42)).alloc (by simp) (Obj.cells #[.int .i64 b.k, .int .i64 b.r, .slice B b.m.length d, .int .i64 b.s] 42)
 go_enter Tryz.func43, Tryz.ntmps43
 go_upto_region 1 with fail
 have hs1 : (w.alloc (Obj.cells #[.int .i64 a.k, .int .i64 a.r, .slice A a.m.length c, .int .i64 a.s] 42)).heap.size = w.heap.size + 1 := by simp
 try rw [hs1] at k4
 clear hs1
 generalize World.alloc (World.alloc w _) _ = w2 at *
 have HG : Hid (agD dd a b = ((!bitZ dd 1 || decide (a.k = b.k)) && (!bitZ dd 2 || decide (a.r = b.r)) && (!bitZ dd 4 || decide (a.m = b.m)) && (!bitZ dd 8 || decide (a.s = b.s)))) := Lib.hid rfl
 have HC := Lib.hid (fun (w0 : World) (hg : Grows w2 w0) => psame_any A B c d a.m b.m w0 (Ints.grows (Ints.grows ia hB) hg) (Ints.grows (Ints.grows ib hB) hg) (by omega) (by omega))
 have x3 := k3.cell
 have x4 := k4.cell
 cases h1 : bitZ dd 1 with
 | false =>
  cases h2 : bitZ dd 2 with
  | false =>
   cases h3 : bitZ dd 4 with
   | false =>
    cases h4 : bitZ dd 8 with
    | false =>
     have HE : Hid (agD dd a b = true) := Lib.hid (HG.out.trans (by simp only [h1, h2, h3, h4, Bool.not_true, Bool.not_false, Bool.true_or, Bool.false_or, Bool.and_true, Bool.true_and, Bool.and_false, Bool.false_and]))
     have u1 : (bits .and .i64 dd 1 == 0) = true := by have := h1; unfold bitZ at this; simpa using this
     have t1 : decide (bits .and .i64 dd 1 = 0) = true := by have := u1; simpa using this
     have u2 : (bits .and .i64 dd 2 == 0) = true := by have := h2; unfold bitZ at this; simpa using this
     have t2 : decide (bits .and .i64 dd 2 = 0) = true := by have := u2; simpa using this
     have u3 : (bits .and .i64 dd 4 == 0) = true := by have := h3; unfold bitZ at this; simpa using this
     have t3 : decide (bits .and .i64 dd 4 = 0) = true := by have := u3; simpa using this
     have u4 : (bits .and .i64 dd 8 == 0) = true := by have := h4; unfold bitZ at this; simpa using this
     have t4 : decide (bits .and .i64 dd 8 = 0) = true := by have := u4; simpa using this
     clear HG h1 h2 h3 h4
     go_wp2
     go_ret
     exact ⟨ret_bool HE.out.symm, hB⟩
    | true =>
     cases g4 : decide (a.s = b.s) with
     | false =>
      have HE : Hid (agD dd a b = false) := Lib.hid (HG.out.trans (by simp only [h1, h2, h3, h4, g4, Bool.not_true, Bool.not_false, Bool.true_or, Bool.false_or, Bool.and_true, Bool.true_and, Bool.and_false, Bool.false_and]))
      have u1 : (bits .and .i64 dd 1 == 0) = true := by have := h1; unfold bitZ at this; simpa using this
      have t1 : decide (bits .and .i64 dd 1 = 0) = true := by have := u1; simpa using this
      have u2 : (bits .and .i64 dd 2 == 0) = true := by have := h2; unfold bitZ at this; simpa using this
      have t2 : decide (bits .and .i64 dd 2 = 0) = true := by have := u2; simpa using this
      have u3 : (bits .and .i64 dd 4 == 0) = true := by have := h3; unfold bitZ at this; simpa using this
      have t3 : decide (bits .and .i64 dd 4 = 0) = true := by have := u3; simpa using this
      have u4 : (bits .and .i64 dd 8 == 0) = false := by have := h4; unfold bitZ at this; simpa using this
      have t4 : decide (bits .and .i64 dd 8 = 0) = false := by have := u4; simpa using this
      have v4 : (a.s == b.s) = false := by have := g4; simpa using this
      clear HG h1 h2 h3 h4
      go_wp2
      go_ret
      exact ⟨ret_bool HE.out.symm, hB⟩
     | true =>
      have HE : Hid (agD dd a b = true) := Lib.hid (HG.out.trans (by simp only [h1, h2, h3, h4, g4, Bool.not_true, Bool.not_false, Bool.true_or, Bool.false_or, Bool.and_true, Bool.true_and, Bool.and_false, Bool.false_and]))
      have u1 : (bits .and .i64 dd 1 == 0) = true := by have := h1; unfold bitZ at this; simpa using this
      have t1 : decide (bits .and .i64 dd 1 = 0) = true := by have := u1; simpa using this
      have u2 : (bits .and .i64 dd 2 == 0) = true := by have := h2; unfold bitZ at this; simpa using this
      have t2 : decide (bits .and .i64 dd 2 = 0) = true := by have := u2; simpa using this
      have u3 : (bits .and .i64 dd 4 == 0) = true := by have := h3; unfold bitZ at this; simpa using this
      have t3 : decide (bits .and .i64 dd 4 = 0) = true := by have := u3; simpa using this
      have u4 : (bits .and .i64 dd 8 == 0) = false := by have := h4; unfold bitZ at this; simpa using this
      have t4 : decide (bits .and .i64 dd 8 = 0) = false := by have := u4; simpa using this
      have v4 : (a.s == b.s) = true := by have := g4; simpa using this
      clear HG h1 h2 h3 h4
      go_wp2
      go_ret
      exact ⟨ret_bool HE.out.symm, hB⟩
   | true =>
    cases g3 : decide (a.m = b.m) with
    | false =>
     have HE : Hid (agD dd a b = false) := Lib.hid (HG.out.trans (by simp only [h1, h2, h3, g3, Bool.not_true, Bool.not_false, Bool.true_or, Bool.false_or, Bool.and_true, Bool.true_and, Bool.and_false, Bool.false_and]))
     have u1 : (bits .and .i64 dd 1 == 0) = true := by have := h1; unfold bitZ at this; simpa using this
     have t1 : decide (bits .and .i64 dd 1 = 0) = true := by have := u1; simpa using this
     have u2 : (bits .and .i64 dd 2 == 0) = true := by have := h2; unfold bitZ at this; simpa using this
     have t2 : decide (bits .and .i64 dd 2 = 0) = true := by have := u2; simpa using this
     have u3 : (bits .and .i64 dd 4 == 0) = false := by have := h3; unfold bitZ at this; simpa using this
     have t3 : decide (bits .and .i64 dd 4 = 0) = false := by have := u3; simpa using this
     clear HG h1 h2 h3
     go_wp2_with fail
     refine (HC.out _ (Below.refl _ _)).mono ?_
     rw [g3]
     rintro e w3 ⟨rfl, hq⟩
     replace k3 := k3.grows hq
     replace k4 := k4.grows hq
     replace hB := below_grows hB (Nat.le_refl _) hq
     clear hq x3 x4
     have x3 := k3.cell
     have x4 := k4.cell
     go_wp2
     go_ret
     exact ⟨ret_bool HE.out.symm, hB⟩
    | true =>
     cases h4 : bitZ dd 8 with
     | false =>
      have HE : Hid (agD dd a b = true) := Lib.hid (HG.out.trans (by simp only [h1, h2, h3, g3, h4, Bool.not_true, Bool.not_false, Bool.true_or, Bool.false_or, Bool.and_true, Bool.true_and, Bool.and_false, Bool.false_and]))
      have u1 : (bits .and .i64 dd 1 == 0) = true := by have := h1; unfold bitZ at this; simpa using this
      have t1 : decide (bits .and .i64 dd 1 = 0) = true := by have := u1; simpa using this
      have u2 : (bits .and .i64 dd 2 == 0) = true := by have := h2; unfold bitZ at this; simpa using this
      have t2 : decide (bits .and .i64 dd 2 = 0) = true := by have := u2; simpa using this
      have u3 : (bits .and .i64 dd 4 == 0) = false := by have := h3; unfold bitZ at this; simpa using this
      have t3 : decide (bits .and .i64 dd 4 = 0) = false := by have := u3; simpa using this
      have u4 : (bits .and .i64 dd 8 == 0) = true := by have := h4; unfold bitZ at this; simpa using this
      have t4 : decide (bits .and .i64 dd 8 = 0) = true := by have := u4; simpa using this
      clear HG h1 h2 h3 h4
      go_wp2_with fail
      refine (HC.out _ (Below.refl _ _)).mono ?_
      rw [g3]
      rintro e w3 ⟨rfl, hq⟩
      replace k3 := k3.grows hq
      replace k4 := k4.grows hq
      replace hB := below_grows hB (Nat.le_refl _) hq
      clear hq x3 x4
      have x3 := k3.cell
      have x4 := k4.cell
      go_wp2
      go_ret
      exact ⟨ret_bool HE.out.symm, hB⟩
     | true =>
      cases g4 : decide (a.s = b.s) with
      | false =>
       have HE : Hid (agD dd a b = false) := Lib.hid (HG.out.trans (by simp only [h1, h2, h3, g3, h4, g4, Bool.not_true, Bool.not_false, Bool.true_or, Bool.false_or, Bool.and_true, Bool.true_and, Bool.and_false, Bool.false_and]))
       have u1 : (bits .and .i64 dd 1 == 0) = true := by have := h1; unfold bitZ at this; simpa using this
       have t1 : decide (bits .and .i64 dd 1 = 0) = true := by have := u1; simpa using this
       have u2 : (bits .and .i64 dd 2 == 0) = true := by have := h2; unfold bitZ at this; simpa using this
       have t2 : decide (bits .and .i64 dd 2 = 0) = true := by have := u2; simpa using this
       have u3 : (bits .and .i64 dd 4 == 0) = false := by have := h3; unfold bitZ at this; simpa using this
       have t3 : decide (bits .and .i64 dd 4 = 0) = false := by have := u3; simpa using this
       have u4 : (bits .and .i64 dd 8 == 0) = false := by have := h4; unfold bitZ at this; simpa using this
       have t4 : decide (bits .and .i64 dd 8 = 0) = false := by have := u4; simpa using this
       have v4 : (a.s == b.s) = false := by have := g4; simpa using this
       clear HG h1 h2 h3 h4
       go_wp2_with fail
       refine (HC.out _ (Below.refl _ _)).mono ?_
       rw [g3]
       rintro e w3 ⟨rfl, hq⟩
       replace k3 := k3.grows hq
       replace k4 := k4.grows hq
       replace hB := below_grows hB (Nat.le_refl _) hq
       clear hq x3 x4
       have x3 := k3.cell
       have x4 := k4.cell
       go_wp2
       go_ret
       exact ⟨ret_bool HE.out.symm, hB⟩
      | true =>
       have HE : Hid (agD dd a b = true) := Lib.hid (HG.out.trans (by simp only [h1, h2, h3, g3, h4, g4, Bool.not_true, Bool.not_false, Bool.true_or, Bool.false_or, Bool.and_true, Bool.true_and, Bool.and_false, Bool.false_and]))
       have u1 : (bits .and .i64 dd 1 == 0) = true := by have := h1; unfold bitZ at this; simpa using this
       have t1 : decide (bits .and .i64 dd 1 = 0) = true := by have := u1; simpa using this
       have u2 : (bits .and .i64 dd 2 == 0) = true := by have := h2; unfold bitZ at this; simpa using this
       have t2 : decide (bits .and .i64 dd 2 = 0) = true := by have := u2; simpa using this
       have u3 : (bits .and .i64 dd 4 == 0) = false := by have := h3; unfold bitZ at this; simpa using this
       have t3 : decide (bits .and .i64 dd 4 = 0) = false := by have := u3; simpa using this
       have u4 : (bits .and .i64 dd 8 == 0) = false := by have := h4; unfold bitZ at this; simpa using this
       have t4 : decide (bits .and .i64 dd 8 = 0) = false := by have := u4; simpa using this
       have v4 : (a.s == b.s) = true := by have := g4; simpa using this
       clear HG h1 h2 h3 h4
       go_wp2_with fail
       refine (HC.out _ (Below.refl _ _)).mono ?_
       rw [g3]
       rintro e w3 ⟨rfl, hq⟩
       replace k3 := k3.grows hq
       replace k4 := k4.grows hq
       replace hB := below_grows hB (Nat.le_refl _) hq
       clear hq x3 x4
       have x3 := k3.cell
       have x4 := k4.cell
       go_wp2
       go_ret
       exact ⟨ret_bool HE.out.symm, hB⟩
  | true =>
   cases g2 : decide (a.r = b.r) with
   | false =>
    have HE : Hid (agD dd a b = false) := Lib.hid (HG.out.trans (by simp only [h1, h2, g2, Bool.not_true, Bool.not_false, Bool.true_or, Bool.false_or, Bool.and_true, Bool.true_and, Bool.and_false, Bool.false_and]))
    have u1 : (bits .and .i64 dd 1 == 0) = true := by have := h1; unfold bitZ at this; simpa using this
    have t1 : decide (bits .and .i64 dd 1 = 0) = true := by have := u1; simpa using this
    have u2 : (bits .and .i64 dd 2 == 0) = false := by have := h2; unfold bitZ at this; simpa using this
    have t2 : decide (bits .and .i64 dd 2 = 0) = false := by have := u2; simpa using this
    have v2 : (a.r == b.r) = false := by have := g2; simpa using this
    clear HG h1 h2
    go_wp2
    go_ret
    exact ⟨ret_bool HE.out.symm, hB⟩
   | true =>
    cases h3 : bitZ dd 4 with
    | false =>
     cases h4 : bitZ dd 8 with
     | false =>
      have HE : Hid (agD dd a b = true) := Lib.hid (HG.out.trans (by simp only [h1, h2, g2, h3, h4, Bool.not_true, Bool.not_false, Bool.true_or, Bool.false_or, Bool.and_true, Bool.true_and, Bool.and_false, Bool.false_and]))
      have u1 : (bits .and .i64 dd 1 == 0) = true := by have := h1; unfold bitZ at this; simpa using this
      have t1 : decide (bits .and .i64 dd 1 = 0) = true := by have := u1; simpa using this
      have u2 : (bits .and .i64 dd 2 == 0) = false := by have := h2; unfold bitZ at this; simpa using this
      have t2 : decide (bits .and .i64 dd 2 = 0) = false := by have := u2; simpa using this
      have v2 : (a.r == b.r) = true := by have := g2; simpa using this
      have u3 : (bits .and .i64 dd 4 == 0) = true := by have := h3; unfold bitZ at this; simpa using this
      have t3 : decide (bits .and .i64 dd 4 = 0) = true := by have := u3; simpa using this
      have u4 : (bits .and .i64 dd 8 == 0) = true := by have := h4; unfold bitZ at this; simpa using this
      have t4 : decide (bits .and .i64 dd 8 = 0) = true := by have := u4; simpa using this
      clear HG h1 h2 h3 h4
      go_wp2
      go_ret
      exact ⟨ret_bool HE.out.symm, hB⟩
     | true =>
      cases g4 : decide (a.s = b.s) with
      | false =>
       have HE : Hid (agD dd a b = false) := Lib.hid (HG.out.trans (by simp only [h1, h2, g2, h3, h4, g4, Bool.not_true, Bool.not_false, Bool.true_or, Bool.false_or, Bool.and_true, Bool.true_and, Bool.and_false, Bool.false_and]))
       have u1 : (bits .and .i64 dd 1 == 0) = true := by have := h1; unfold bitZ at this; simpa using this
       have t1 : decide (bits .and .i64 dd 1 = 0) = true := by have := u1; simpa using this
       have u2 : (bits .and .i64 dd 2 == 0) = false := by have := h2; unfold bitZ at this; simpa using this
       have t2 : decide (bits .and .i64 dd 2 = 0) = false := by have := u2; simpa using this
       have v2 : (a.r == b.r) = true := by have := g2; simpa using this
       have u3 : (bits .and .i64 dd 4 == 0) = true := by have := h3; unfold bitZ at this; simpa using this
       have t3 : decide (bits .and .i64 dd 4 = 0) = true := by have := u3; simpa using this
       have u4 : (bits .and .i64 dd 8 == 0) = false := by have := h4; unfold bitZ at this; simpa using this
       have t4 : decide (bits .and .i64 dd 8 = 0) = false := by have := u4; simpa using this
       have v4 : (a.s == b.s) = false := by have := g4; simpa using this
       clear HG h1 h2 h3 h4
       go_wp2
       go_ret
       exact ⟨ret_bool HE.out.symm, hB⟩
      | true =>
       have HE : Hid (agD dd a b = true) := Lib.hid (HG.out.trans (by simp only [h1, h2, g2, h3, h4, g4, Bool.not_true, Bool.not_false, Bool.true_or, Bool.false_or, Bool.and_true, Bool.true_and, Bool.and_false, Bool.false_and]))
       have u1 : (bits .and .i64 dd 1 == 0) = true := by have := h1; unfold bitZ at this; simpa using this
       have t1 : decide (bits .and .i64 dd 1 = 0) = true := by have := u1; simpa using this
       have u2 : (bits .and .i64 dd 2 == 0) = false := by have := h2; unfold bitZ at this; simpa using this
       have t2 : decide (bits .and .i64 dd 2 = 0) = false := by have := u2; simpa using this
       have v2 : (a.r == b.r) = true := by have := g2; simpa using this
       have u3 : (bits .and .i64 dd 4 == 0) = true := by have := h3; unfold bitZ at this; simpa using this
       have t3 : decide (bits .and .i64 dd 4 = 0) = true := by have := u3; simpa using this
       have u4 : (bits .and .i64 dd 8 == 0) = false := by have := h4; unfold bitZ at this; simpa using this
       have t4 : decide (bits .and .i64 dd 8 = 0) = false := by have := u4; simpa using this
       have v4 : (a.s == b.s) = true := by have := g4; simpa using this
       clear HG h1 h2 h3 h4
       go_wp2
       go_ret
       exact ⟨ret_bool HE.out.symm, hB⟩
    | true =>
     cases g3 : decide (a.m = b.m) with
     | false =>
      have HE : Hid (agD dd a b = false) := Lib.hid (HG.out.trans (by simp only [h1, h2, g2, h3, g3, Bool.not_true, Bool.not_false, Bool.true_or, Bool.false_or, Bool.and_true, Bool.true_and, Bool.and_false, Bool.false_and]))
      have u1 : (bits .and .i64 dd 1 == 0) = true := by have := h1; unfold bitZ at this; simpa using this
      have t1 : decide (bits .and .i64 dd 1 = 0) = true := by have := u1; simpa using this
      have u2 : (bits .and .i64 dd 2 == 0) = false := by have := h2; unfold bitZ at this; simpa using this
      have t2 : decide (bits .and .i64 dd 2 = 0) = false := by have := u2; simpa using this
      have v2 : (a.r == b.r) = true := by have := g2; simpa using this
      have u3 : (bits .and .i64 dd 4 == 0) = false := by have := h3; unfold bitZ at this; simpa using this
      have t3 : decide (bits .and .i64 dd 4 = 0) = false := by have := u3; simpa using this
      clear HG h1 h2 h3
      go_wp2_with fail
      refine (HC.out _ (Below.refl _ _)).mono ?_
      rw [g3]
      rintro e w3 ⟨rfl, hq⟩
      replace k3 := k3.grows hq
      replace k4 := k4.grows hq
      replace hB := below_grows hB (Nat.le_refl _) hq
      clear hq x3 x4
      have x3 := k3.cell
      have x4 := k4.cell
      go_wp2
      go_ret
      exact ⟨ret_bool HE.out.symm, hB⟩
     | true =>
      cases h4 : bitZ dd 8 with
      | false =>
       have HE : Hid (agD dd a b = true) := Lib.hid (HG.out.trans (by simp only [h1, h2, g2, h3, g3, h4, Bool.not_true, Bool.not_false, Bool.true_or, Bool.false_or, Bool.and_true, Bool.true_and, Bool.and_false, Bool.false_and]))
       have u1 : (bits .and .i64 dd 1 == 0) = true := by have := h1; unfold bitZ at this; simpa using this
       have t1 : decide (bits .and .i64 dd 1 = 0) = true := by have := u1; simpa using this
       have u2 : (bits .and .i64 dd 2 == 0) = false := by have := h2; unfold bitZ at this; simpa using this
       have t2 : decide (bits .and .i64 dd 2 = 0) = false := by have := u2; simpa using this
       have v2 : (a.r == b.r) = true := by have := g2; simpa using this
       have u3 : (bits .and .i64 dd 4 == 0) = false := by have := h3; unfold bitZ at this; simpa using this
       have t3 : decide (bits .and .i64 dd 4 = 0) = false := by have := u3; simpa using this
       have u4 : (bits .and .i64 dd 8 == 0) = true := by have := h4; unfold bitZ at this; simpa using this
       have t4 : decide (bits .and .i64 dd 8 = 0) = true := by have := u4; simpa using this
       clear HG h1 h2 h3 h4
       go_wp2_with fail
       refine (HC.out _ (Below.refl _ _)).mono ?_
       rw [g3]
       rintro e w3 ⟨rfl, hq⟩
       replace k3 := k3.grows hq
       replace k4 := k4.grows hq
       replace hB := below_grows hB (Nat.le_refl _) hq
       clear hq x3 x4
       have x3 := k3.cell
       have x4 := k4.cell
       go_wp2
       go_ret
       exact ⟨ret_bool HE.out.symm, hB⟩
      | true =>
       cases g4 : decide (a.s = b.s) with
       | false =>
        have HE : Hid (agD dd a b = false) := Lib.hid (HG.out.trans (by simp only [h1, h2, g2, h3, g3, h4, g4, Bool.not_true, Bool.not_false, Bool.true_or, Bool.false_or, Bool.and_true, Bool.true_and, Bool.and_false, Bool.false_and]))
        have u1 : (bits .and .i64 dd 1 == 0) = true := by have := h1; unfold bitZ at this; simpa using this
        have t1 : decide (bits .and .i64 dd 1 = 0) = true := by have := u1; simpa using this
        have u2 : (bits .and .i64 dd 2 == 0) = false := by have := h2; unfold bitZ at this; simpa using this
        have t2 : decide (bits .and .i64 dd 2 = 0) = false := by have := u2; simpa using this
        have v2 : (a.r == b.r) = true := by have := g2; simpa using this
        have u3 : (bits .and .i64 dd 4 == 0) = false := by have := h3; unfold bitZ at this; simpa using this
        have t3 : decide (bits .and .i64 dd 4 = 0) = false := by have := u3; simpa using this
        have u4 : (bits .and .i64 dd 8 == 0) = false := by have := h4; unfold bitZ at this; simpa using this
        have t4 : decide (bits .and .i64 dd 8 = 0) = false := by have := u4; simpa using this
        have v4 : (a.s == b.s) = false := by have := g4; simpa using this
        clear HG h1 h2 h3 h4
        go_wp2_with fail
        refine (HC.out _ (Below.refl _ _)).mono ?_
        rw [g3]
        rintro e w3 ⟨rfl, hq⟩
        replace k3 := k3.grows hq
        replace k4 := k4.grows hq
        replace hB := below_grows hB (Nat.le_refl _) hq
        clear hq x3 x4
        have x3 := k3.cell
        have x4 := k4.cell
        go_wp2
        go_ret
        exact ⟨ret_bool HE.out.symm, hB⟩
       | true =>
        have HE : Hid (agD dd a b = true) := Lib.hid (HG.out.trans (by simp only [h1, h2, g2, h3, g3, h4, g4, Bool.not_true, Bool.not_false, Bool.true_or, Bool.false_or, Bool.and_true, Bool.true_and, Bool.and_false, Bool.false_and]))
        have u1 : (bits .and .i64 dd 1 == 0) = true := by have := h1; unfold bitZ at this; simpa using this
        have t1 : decide (bits .and .i64 dd 1 = 0) = true := by have := u1; simpa using this
        have u2 : (bits .and .i64 dd 2 == 0) = false := by have := h2; unfold bitZ at this; simpa using this
        have t2 : decide (bits .and .i64 dd 2 = 0) = false := by have := u2; simpa using this
        have v2 : (a.r == b.r) = true := by have := g2; simpa using this
        have u3 : (bits .and .i64 dd 4 == 0) = false := by have := h3; unfold bitZ at this; simpa using this
        have t3 : decide (bits .and .i64 dd 4 = 0) = false := by have := u3; simpa using this
        have u4 : (bits .and .i64 dd 8 == 0) = false := by have := h4; unfold bitZ at this; simpa using this
        have t4 : decide (bits .and .i64 dd 8 = 0) = false := by have := u4; simpa using this
        have v4 : (a.s == b.s) = true := by have := g4; simpa using this
        clear HG h1 h2 h3 h4
        go_wp2_with fail
        refine (HC.out _ (Below.refl _ _)).mono ?_
        rw [g3]
        rintro e w3 ⟨rfl, hq⟩
        replace k3 := k3.grows hq
        replace k4 := k4.grows hq
        replace hB := below_grows hB (Nat.le_refl _) hq
        clear hq x3 x4
        have x3 := k3.cell
        have x4 := k4.cell
        go_wp2
        go_ret
        exact ⟨ret_bool HE.out.symm, hB⟩
 | true =>
  cases g1 : decide (a.k = b.k) with
  | false =>
   have HE : Hid (agD dd a b = false) := Lib.hid (HG.out.trans (by simp only [h1, g1, Bool.not_true, Bool.not_false, Bool.true_or, Bool.false_or, Bool.and_true, Bool.true_and, Bool.and_false, Bool.false_and]))
   have u1 : (bits .and .i64 dd 1 == 0) = false := by have := h1; unfold bitZ at this; simpa using this
   have t1 : decide (bits .and .i64 dd 1 = 0) = false := by have := u1; simpa using this
   have v1 : (a.k == b.k) = false := by have := g1; simpa using this
   clear HG h1
   go_wp2
   go_ret
   exact ⟨ret_bool HE.out.symm, hB⟩
  | true =>
   cases h2 : bitZ dd 2 with
   | false =>
    cases h3 : bitZ dd 4 with
    | false =>
     cases h4 : bitZ dd 8 with
     | false =>
      have HE : Hid (agD dd a b = true) := Lib.hid (HG.out.trans (by simp only [h1, g1, h2, h3, h4, Bool.not_true, Bool.not_false, Bool.true_or, Bool.false_or, Bool.and_true, Bool.true_and, Bool.and_false, Bool.false_and]))
      have u1 : (bits .and .i64 dd 1 == 0) = false := by have := h1; unfold bitZ at this; simpa using this
      have t1 : decide (bits .and .i64 dd 1 = 0) = false := by have := u1; simpa using this
      have v1 : (a.k == b.k) = true := by have := g1; simpa using this
      have u2 : (bits .and .i64 dd 2 == 0) = true := by have := h2; unfold bitZ at this; simpa using this
      have t2 : decide (bits .and .i64 dd 2 = 0) = true := by have := u2; simpa using this
      have u3 : (bits .and .i64 dd 4 == 0) = true := by have := h3; unfold bitZ at this; simpa using this
      have t3 : decide (bits .and .i64 dd 4 = 0) = true := by have := u3; simpa using this
      have u4 : (bits .and .i64 dd 8 == 0) = true := by have := h4; unfold bitZ at this; simpa using this
      have t4 : decide (bits .and .i64 dd 8 = 0) = true := by have := u4; simpa using this
      clear HG h1 h2 h3 h4
      go_wp2
      go_ret
      exact ⟨ret_bool HE.out.symm, hB⟩
     | true =>
      cases g4 : decide (a.s = b.s) with
      | false =>
       have HE : Hid (agD dd a b = false) := Lib.hid (HG.out.trans (by simp only [h1, g1, h2, h3, h4, g4, Bool.not_true, Bool.not_false, Bool.true_or, Bool.false_or, Bool.and_true, Bool.true_and, Bool.and_false, Bool.false_and]))
       have u1 : (bits .and .i64 dd 1 == 0) = false := by have := h1; unfold bitZ at this; simpa using this
       have t1 : decide (bits .and .i64 dd 1 = 0) = false := by have := u1; simpa using this
       have v1 : (a.k == b.k) = true := by have := g1; simpa using this
       have u2 : (bits .and .i64 dd 2 == 0) = true := by have := h2; unfold bitZ at this; simpa using this
       have t2 : decide (bits .and .i64 dd 2 = 0) = true := by have := u2; simpa using this
       have u3 : (bits .and .i64 dd 4 == 0) = true := by have := h3; unfold bitZ at this; simpa using this
       have t3 : decide (bits .and .i64 dd 4 = 0) = true := by have := u3; simpa using this
       have u4 : (bits .and .i64 dd 8 == 0) = false := by have := h4; unfold bitZ at this; simpa using this
       have t4 : decide (bits .and .i64 dd 8 = 0) = false := by have := u4; simpa using this
       have v4 : (a.s == b.s) = false := by have := g4; simpa using this
       clear HG h1 h2 h3 h4
       go_wp2
       go_ret
       exact ⟨ret_bool HE.out.symm, hB⟩
      | true =>
       have HE : Hid (agD dd a b = true) := Lib.hid (HG.out.trans (by simp only [h1, g1, h2, h3, h4, g4, Bool.not_true, Bool.not_false, Bool.true_or, Bool.false_or, Bool.and_true, Bool.true_and, Bool.and_false, Bool.false_and]))
       have u1 : (bits .and .i64 dd 1 == 0) = false := by have := h1; unfold bitZ at this; simpa using this
       have t1 : decide (bits .and .i64 dd 1 = 0) = false := by have := u1; simpa using this
       have v1 : (a.k == b.k) = true := by have := g1; simpa using this
       have u2 : (bits .and .i64 dd 2 == 0) = true := by have := h2; unfold bitZ at this; simpa using this
       have t2 : decide (bits .and .i64 dd 2 = 0) = true := by have := u2; simpa using this
       have u3 : (bits .and .i64 dd 4 == 0) = true := by have := h3; unfold bitZ at this; simpa using this
       have t3 : decide (bits .and .i64 dd 4 = 0) = true := by have := u3; simpa using this
       have u4 : (bits .and .i64 dd 8 == 0) = false := by have := h4; unfold bitZ at this; simpa using this
       have t4 : decide (bits .and .i64 dd 8 = 0) = false := by have := u4; simpa using this
       have v4 : (a.s == b.s) = true := by have := g4; simpa using this
       clear HG h1 h2 h3 h4
       go_wp2
       go_ret
       exact ⟨ret_bool HE.out.symm, hB⟩
    | true =>
     cases g3 : decide (a.m = b.m) with
     | false =>
      have HE : Hid (agD dd a b = false) := Lib.hid (HG.out.trans (by simp only [h1, g1, h2, h3, g3, Bool.not_true, Bool.not_false, Bool.true_or, Bool.false_or, Bool.and_true, Bool.true_and, Bool.and_false, Bool.false_and]))
      have u1 : (bits .and .i64 dd 1 == 0) = false := by have := h1; unfold bitZ at this; simpa using this
      have t1 : decide (bits .and .i64 dd 1 = 0) = false := by have := u1; simpa using this
      have v1 : (a.k == b.k) = true := by have := g1; simpa using this
      have u2 : (bits .and .i64 dd 2 == 0) = true := by have := h2; unfold bitZ at this; simpa using this
      have t2 : decide (bits .and .i64 dd 2 = 0) = true := by have := u2; simpa using this
      have u3 : (bits .and .i64 dd 4 == 0) = false := by have := h3; unfold bitZ at this; simpa using this
      have t3 : decide (bits .and .i64 dd 4 = 0) = false := by have := u3; simpa using this
      clear HG h1 h2 h3
      go_wp2_with fail
      refine (HC.out _ (Below.refl _ _)).mono ?_
      rw [g3]
      rintro e w3 ⟨rfl, hq⟩
      replace k3 := k3.grows hq
      replace k4 := k4.grows hq
      replace hB := below_grows hB (Nat.le_refl _) hq
      clear hq x3 x4
      have x3 := k3.cell
      have x4 := k4.cell
      go_wp2
      go_ret
      exact ⟨ret_bool HE.out.symm, hB⟩
     | true =>
      cases h4 : bitZ dd 8 with
      | false =>
       have HE : Hid (agD dd a b = true) := Lib.hid (HG.out.trans (by simp only [h1, g1, h2, h3, g3, h4, Bool.not_true, Bool.not_false, Bool.true_or, Bool.false_or, Bool.and_true, Bool.true_and, Bool.and_false, Bool.false_and]))
       have u1 : (bits .and .i64 dd 1 == 0) = false := by have := h1; unfold bitZ at this; simpa using this
       have t1 : decide (bits .and .i64 dd 1 = 0) = false := by have := u1; simpa using this
       have v1 : (a.k == b.k) = true := by have := g1; simpa using this
       have u2 : (bits .and .i64 dd 2 == 0) = true := by have := h2; unfold bitZ at this; simpa using this
       have t2 : decide (bits .and .i64 dd 2 = 0) = true := by have := u2; simpa using this
       have u3 : (bits .and .i64 dd 4 == 0) = false := by have := h3; unfold bitZ at this; simpa using this
       have t3 : decide (bits .and .i64 dd 4 = 0) = false := by have := u3; simpa using this
       have u4 : (bits .and .i64 dd 8 == 0) = true := by have := h4; unfold bitZ at this; simpa using this
       have t4 : decide (bits .and .i64 dd 8 = 0) = true := by have := u4; simpa using this
       clear HG h1 h2 h3 h4
       go_wp2_with fail
       refine (HC.out _ (Below.refl _ _)).mono ?_
       rw [g3]
       rintro e w3 ⟨rfl, hq⟩
       replace k3 := k3.grows hq
       replace k4 := k4.grows hq
       replace hB := below_grows hB (Nat.le_refl _) hq
       clear hq x3 x4
       have x3 := k3.cell
       have x4 := k4.cell
       go_wp2
       go_ret
       exact ⟨ret_bool HE.out.symm, hB⟩
      | true =>
       cases g4 : decide (a.s = b.s) with
       | false =>
        have HE : Hid (agD dd a b = false) := Lib.hid (HG.out.trans (by simp only [h1, g1, h2, h3, g3, h4, g4, Bool.not_true, Bool.not_false, Bool.true_or, Bool.false_or, Bool.and_true, Bool.true_and, Bool.and_false, Bool.false_and]))
        have u1 : (bits .and .i64 dd 1 == 0) = false := by have := h1; unfold bitZ at this; simpa using this
        have t1 : decide (bits .and .i64 dd 1 = 0) = false := by have := u1; simpa using this
        have v1 : (a.k == b.k) = true := by have := g1; simpa using this
        have u2 : (bits .and .i64 dd 2 == 0) = true := by have := h2; unfold bitZ at this; simpa using this
        have t2 : decide (bits .and .i64 dd 2 = 0) = true := by have := u2; simpa using this
        have u3 : (bits .and .i64 dd 4 == 0) = false := by have := h3; unfold bitZ at this; simpa using this
        have t3 : decide (bits .and .i64 dd 4 = 0) = false := by have := u3; simpa using this
        have u4 : (bits .and .i64 dd 8 == 0) = false := by have := h4; unfold bitZ at this; simpa using this
        have t4 : decide (bits .and .i64 dd 8 = 0) = false := by have := u4; simpa using this
        have v4 : (a.s == b.s) = false := by have := g4; simpa using this
        clear HG h1 h2 h3 h4
        go_wp2_with fail
        refine (HC.out _ (Below.refl _ _)).mono ?_
        rw [g3]
        rintro e w3 ⟨rfl, hq⟩
        replace k3 := k3.grows hq
        replace k4 := k4.grows hq
        replace hB := below_grows hB (Nat.le_refl _) hq
        clear hq x3 x4
        have x3 := k3.cell
        have x4 := k4.cell
        go_wp2
        go_ret
        exact ⟨ret_bool HE.out.symm, hB⟩
       | true =>
        have HE : Hid (agD dd a b = true) := Lib.hid (HG.out.trans (by simp only [h1, g1, h2, h3, g3, h4, g4, Bool.not_true, Bool.not_false, Bool.true_or, Bool.false_or, Bool.and_true, Bool.true_and, Bool.and_false, Bool.false_and]))
        have u1 : (bits .and .i64 dd 1 == 0) = false := by have := h1; unfold bitZ at this; simpa using this
        have t1 : decide (bits .and .i64 dd 1 = 0) = false := by have := u1; simpa using this
        have v1 : (a.k == b.k) = true := by have := g1; simpa using this
        have u2 : (bits .and .i64 dd 2 == 0) = true := by have := h2; unfold bitZ at this; simpa using this
        have t2 : decide (bits .and .i64 dd 2 = 0) = true := by have := u2; simpa using this
        have u3 : (bits .and .i64 dd 4 == 0) = false := by have := h3; unfold bitZ at this; simpa using this
        have t3 : decide (bits .and .i64 dd 4 = 0) = false := by have := u3; simpa using this
        have u4 : (bits .and .i64 dd 8 == 0) = false := by have := h4; unfold bitZ at this; simpa using this
        have t4 : decide (bits .and .i64 dd 8 = 0) = false := by have := u4; simpa using this
        have v4 : (a.s == b.s) = true := by have := g4; simpa using this
        clear HG h1 h2 h3 h4
        go_wp2_with fail
        refine (HC.out _ (Below.refl _ _)).mono ?_
        rw [g3]
        rintro e w3 ⟨rfl, hq⟩
        replace k3 := k3.grows hq
        replace k4 := k4.grows hq
        replace hB := below_grows hB (Nat.le_refl _) hq
        clear hq x3 x4
        have x3 := k3.cell
        have x4 := k4.cell
        go_wp2
        go_ret
        exact ⟨ret_bool HE.out.symm, hB⟩
   | true =>
    cases g2 : decide (a.r = b.r) with
    | false =>
     have HE : Hid (agD dd a b = false) := Lib.hid (HG.out.trans (by simp only [h1, g1, h2, g2, Bool.not_true, Bool.not_false, Bool.true_or, Bool.false_or, Bool.and_true, Bool.true_and, Bool.and_false, Bool.false_and]))
     have u1 : (bits .and .i64 dd 1 == 0) = false := by have := h1; unfold bitZ at this; simpa using this
     have t1 : decide (bits .and .i64 dd 1 = 0) = false := by have := u1; simpa using this
     have v1 : (a.k == b.k) = true := by have := g1; simpa using this
     have u2 : (bits .and .i64 dd 2 == 0) = false := by have := h2; unfold bitZ at this; simpa using this
     have t2 : decide (bits .and .i64 dd 2 = 0) = false := by have := u2; simpa using this
     have v2 : (a.r == b.r) = false := by have := g2; simpa using this
     clear HG h1 h2
     go_wp2
     go_ret
     exact ⟨ret_bool HE.out.symm, hB⟩
    | true =>
     cases h3 : bitZ dd 4 with
     | false =>
      cases h4 : bitZ dd 8 with
      | false =>
       have HE : Hid (agD dd a b = true) := Lib.hid (HG.out.trans (by simp only [h1, g1, h2, g2, h3, h4, Bool.not_true, Bool.not_false, Bool.true_or, Bool.false_or, Bool.and_true, Bool.true_and, Bool.and_false, Bool.false_and]))
       have u1 : (bits .and .i64 dd 1 == 0) = false := by have := h1; unfold bitZ at this; simpa using this
       have t1 : decide (bits .and .i64 dd 1 = 0) = false := by have := u1; simpa using this
       have v1 : (a.k == b.k) = true := by have := g1; simpa using this
       have u2 : (bits .and .i64 dd 2 == 0) = false := by have := h2; unfold bitZ at this; simpa using this
       have t2 : decide (bits .and .i64 dd 2 = 0) = false := by have := u2; simpa using this
       have v2 : (a.r == b.r) = true := by have := g2; simpa using this
       have u3 : (bits .and .i64 dd 4 == 0) = true := by have := h3; unfold bitZ at this; simpa using this
       have t3 : decide (bits .and .i64 dd 4 = 0) = true := by have := u3; simpa using this
       have u4 : (bits .and .i64 dd 8 == 0) = true := by have := h4; unfold bitZ at this; simpa using this
       have t4 : decide (bits .and .i64 dd 8 = 0) = true := by have := u4; simpa using this
       clear HG h1 h2 h3 h4
       go_wp2
       go_ret
       exact ⟨ret_bool HE.out.symm, hB⟩
      | true =>
       cases g4 : decide (a.s = b.s) with
       | false =>
        have HE : Hid (agD dd a b = false) := Lib.hid (HG.out.trans (by simp only [h1, g1, h2, g2, h3, h4, g4, Bool.not_true, Bool.not_false, Bool.true_or, Bool.false_or, Bool.and_true, Bool.true_and, Bool.and_false, Bool.false_and]))
        have u1 : (bits .and .i64 dd 1 == 0) = false := by have := h1; unfold bitZ at this; simpa using this
        have t1 : decide (bits .and .i64 dd 1 = 0) = false := by have := u1; simpa using this
        have v1 : (a.k == b.k) = true := by have := g1; simpa using this
        have u2 : (bits .and .i64 dd 2 == 0) = false := by have := h2; unfold bitZ at this; simpa using this
        have t2 : decide (bits .and .i64 dd 2 = 0) = false := by have := u2; simpa using this
        have v2 : (a.r == b.r) = true := by have := g2; simpa using this
        have u3 : (bits .and .i64 dd 4 == 0) = true := by have := h3; unfold bitZ at this; simpa using this
        have t3 : decide (bits .and .i64 dd 4 = 0) = true := by have := u3; simpa using this
        have u4 : (bits .and .i64 dd 8 == 0) = false := by have := h4; unfold bitZ at this; simpa using this
        have t4 : decide (bits .and .i64 dd 8 = 0) = false := by have := u4; simpa using this
        have v4 : (a.s == b.s) = false := by have := g4; simpa using this
        clear HG h1 h2 h3 h4
        go_wp2
        go_ret
        exact ⟨ret_bool HE.out.symm, hB⟩
       | true =>
        have HE : Hid (agD dd a b = true) := Lib.hid (HG.out.trans (by simp only [h1, g1, h2, g2, h3, h4, g4, Bool.not_true, Bool.not_false, Bool.true_or, Bool.false_or, Bool.and_true, Bool.true_and, Bool.and_false, Bool.false_and]))
        have u1 : (bits .and .i64 dd 1 == 0) = false := by have := h1; unfold bitZ at this; simpa using this
        have t1 : decide (bits .and .i64 dd 1 = 0) = false := by have := u1; simpa using this
        have v1 : (a.k == b.k) = true := by have := g1; simpa using this
        have u2 : (bits .and .i64 dd 2 == 0) = false := by have := h2; unfold bitZ at this; simpa using this
        have t2 : decide (bits .and .i64 dd 2 = 0) = false := by have := u2; simpa using this
        have v2 : (a.r == b.r) = true := by have := g2; simpa using this
        have u3 : (bits .and .i64 dd 4 == 0) = true := by have := h3; unfold bitZ at this; simpa using this
        have t3 : decide (bits .and .i64 dd 4 = 0) = true := by have := u3; simpa using this
        have u4 : (bits .and .i64 dd 8 == 0) = false := by have := h4; unfold bitZ at this; simpa using this
        have t4 : decide (bits .and .i64 dd 8 = 0) = false := by have := u4; simpa using this
        have v4 : (a.s == b.s) = true := by have := g4; simpa using this
        clear HG h1 h2 h3 h4
        go_wp2
        go_ret
        exact ⟨ret_bool HE.out.symm, hB⟩
     | true =>
      cases g3 : decide (a.m = b.m) with
      | false =>
       have HE : Hid (agD dd a b = false) := Lib.hid (HG.out.trans (by simp only [h1, g1, h2, g2, h3, g3, Bool.not_true, Bool.not_false, Bool.true_or, Bool.false_or, Bool.and_true, Bool.true_and, Bool.and_false, Bool.false_and]))
       have u1 : (bits .and .i64 dd 1 == 0) = false := by have := h1; unfold bitZ at this; simpa using this
       have t1 : decide (bits .and .i64 dd 1 = 0) = false := by have := u1; simpa using this
       have v1 : (a.k == b.k) = true := by have := g1; simpa using this
       have u2 : (bits .and .i64 dd 2 == 0) = false := by have := h2; unfold bitZ at this; simpa using this
       have t2 : decide (bits .and .i64 dd 2 = 0) = false := by have := u2; simpa using this
       have v2 : (a.r == b.r) = true := by have := g2; simpa using this
       have u3 : (bits .and .i64 dd 4 == 0) = false := by have := h3; unfold bitZ at this; simpa using this
       have t3 : decide (bits .and .i64 dd 4 = 0) = false := by have := u3; simpa using this
       clear HG h1 h2 h3
       go_wp2_with fail
       refine (HC.out _ (Below.refl _ _)).mono ?_
       rw [g3]
       rintro e w3 ⟨rfl, hq⟩
       replace k3 := k3.grows hq
       replace k4 := k4.grows hq
       replace hB := below_grows hB (Nat.le_refl _) hq
       clear hq x3 x4
       have x3 := k3.cell
       have x4 := k4.cell
       go_wp2
       go_ret
       exact ⟨ret_bool HE.out.symm, hB⟩
      | true =>
       cases h4 : bitZ dd 8 with
       | false =>
        have HE : Hid (agD dd a b = true) := Lib.hid (HG.out.trans (by simp only [h1, g1, h2, g2, h3, g3, h4, Bool.not_true, Bool.not_false, Bool.true_or, Bool.false_or, Bool.and_true, Bool.true_and, Bool.and_false, Bool.false_and]))
        have u1 : (bits .and .i64 dd 1 == 0) = false := by have := h1; unfold bitZ at this; simpa using this
        have t1 : decide (bits .and .i64 dd 1 = 0) = false := by have := u1; simpa using this
        have v1 : (a.k == b.k) = true := by have := g1; simpa using this
        have u2 : (bits .and .i64 dd 2 == 0) = false := by have := h2; unfold bitZ at this; simpa using this
        have t2 : decide (bits .and .i64 dd 2 = 0) = false := by have := u2; simpa using this
        have v2 : (a.r == b.r) = true := by have := g2; simpa using this
        have u3 : (bits .and .i64 dd 4 == 0) = false := by have := h3; unfold bitZ at this; simpa using this
        have t3 : decide (bits .and .i64 dd 4 = 0) = false := by have := u3; simpa using this
        have u4 : (bits .and .i64 dd 8 == 0) = true := by have := h4; unfold bitZ at this; simpa using this
        have t4 : decide (bits .and .i64 dd 8 = 0) = true := by have := u4; simpa using this
        clear HG h1 h2 h3 h4
        go_wp2_with fail
        refine (HC.out _ (Below.refl _ _)).mono ?_
        rw [g3]
        rintro e w3 ⟨rfl, hq⟩
        replace k3 := k3.grows hq
        replace k4 := k4.grows hq
        replace hB := below_grows hB (Nat.le_refl _) hq
        clear hq x3 x4
        have x3 := k3.cell
        have x4 := k4.cell
        go_wp2
        go_ret
        exact ⟨ret_bool HE.out.symm, hB⟩
       | true =>
        cases g4 : decide (a.s = b.s) with
        | false =>
         have HE : Hid (agD dd a b = false) := Lib.hid (HG.out.trans (by simp only [h1, g1, h2, g2, h3, g3, h4, g4, Bool.not_true, Bool.not_false, Bool.true_or, Bool.false_or, Bool.and_true, Bool.true_and, Bool.and_false, Bool.false_and]))
         have u1 : (bits .and .i64 dd 1 == 0) = false := by have := h1; unfold bitZ at this; simpa using this
         have t1 : decide (bits .and .i64 dd 1 = 0) = false := by have := u1; simpa using this
         have v1 : (a.k == b.k) = true := by have := g1; simpa using this
         have u2 : (bits .and .i64 dd 2 == 0) = false := by have := h2; unfold bitZ at this; simpa using this
         have t2 : decide (bits .and .i64 dd 2 = 0) = false := by have := u2; simpa using this
         have v2 : (a.r == b.r) = true := by have := g2; simpa using this
         have u3 : (bits .and .i64 dd 4 == 0) = false := by have := h3; unfold bitZ at this; simpa using this
         have t3 : decide (bits .and .i64 dd 4 = 0) = false := by have := u3; simpa using this
         have u4 : (bits .and .i64 dd 8 == 0) = false := by have := h4; unfold bitZ at this; simpa using this
         have t4 : decide (bits .and .i64 dd 8 = 0) = false := by have := u4; simpa using this
         have v4 : (a.s == b.s) = false := by have := g4; simpa using this
         clear HG h1 h2 h3 h4
         go_wp2_with fail
         refine (HC.out _ (Below.refl _ _)).mono ?_
         rw [g3]
         rintro e w3 ⟨rfl, hq⟩
         replace k3 := k3.grows hq
         replace k4 := k4.grows hq
         replace hB := below_grows hB (Nat.le_refl _) hq
         clear hq x3 x4
         have x3 := k3.cell
         have x4 := k4.cell
         go_wp2
         go_ret
         exact ⟨ret_bool HE.out.symm, hB⟩
        | true =>
         have HE : Hid (agD dd a b = true) := Lib.hid (HG.out.trans (by simp only [h1, g1, h2, g2, h3, g3, h4, g4, Bool.not_true, Bool.not_false, Bool.true_or, Bool.false_or, Bool.and_true, Bool.true_and, Bool.and_false, Bool.false_and]))
         have u1 : (bits .and .i64 dd 1 == 0) = false := by have := h1; unfold bitZ at this; simpa using this
         have t1 : decide (bits .and .i64 dd 1 = 0) = false := by have := u1; simpa using this
         have v1 : (a.k == b.k) = true := by have := g1; simpa using this
         have u2 : (bits .and .i64 dd 2 == 0) = false := by have := h2; unfold bitZ at this; simpa using this
         have t2 : decide (bits .and .i64 dd 2 = 0) = false := by have := u2; simpa using this
         have v2 : (a.r == b.r) = true := by have := g2; simpa using this
         have u3 : (bits .and .i64 dd 4 == 0) = false := by have := h3; unfold bitZ at this; simpa using this
         have t3 : decide (bits .and .i64 dd 4 = 0) = false := by have := u3; simpa using this
         have u4 : (bits .and .i64 dd 8 == 0) = false := by have := h4; unfold bitZ at this; simpa using this
         have t4 : decide (bits .and .i64 dd 8 = 0) = false := by have := u4; simpa using this
         have v4 : (a.s == b.s) = true := by have := g4; simpa using this
         clear HG h1 h2 h3 h4
         go_wp2_with fail
         refine (HC.out _ (Below.refl _ _)).mono ?_
         rw [g3]
         rintro e w3 ⟨rfl, hq⟩
         replace k3 := k3.grows hq
         replace k4 := k4.grows hq
         replace hB := below_grows hB (Nat.le_refl _) hq
         clear hq x3 x4
         have x3 := k3.cell
         have x4 := k4.cell
         go_wp2
         go_ret
         exact ⟨ret_bool HE.out.symm, hB⟩
end Go.Proofs.YtjbkjgmcfommgaaGreat

namespace Go.Proofs.YtjbkjgmcfommgaaGreat
open Go.RowKit
/-- Whether choices fit up to a port. -/
def fitAt (l : List Pt) (cs : List Ch) (i : Nat) : Bool := hasL (l.getD i noPt).b (cs.getD i zeroC) && (decide (i = 0) || agD (keptD (l.getD (i - 1) noPt)) (cs.getD (i - 1) zeroC) (cs.getD i zeroC))
theorem fits_no {l : List Pt} {cs : List Ch} {i : Nat} (hi : i < l.length) (h : fitAt l cs i = false) : fitsF l cs = false := by
 unfold fitsF
 have : ((List.range l.length).all fun i => hasL (l.getD i noPt).b (cs.getD i zeroC) && (decide (i = 0) || agD (keptD (l.getD (i - 1) noPt)) (cs.getD (i - 1) zeroC) (cs.getD i zeroC))) = false := List.all_eq_false.2 ⟨i, List.mem_range.2 hi, by
  have h : (hasL (l.getD i noPt).b (cs.getD i zeroC) && (decide (i = 0) || agD (keptD (l.getD (i - 1) noPt)) (cs.getD (i - 1) zeroC) (cs.getD i zeroC))) = false := h
  rw [h]
  simp⟩
 rw [this, Bool.and_false]
theorem fits_yes {l : List Pt} {cs : List Ch} (hv : validC l = true) (hn : cs.length = l.length) (h : ∀ i, i < l.length → fitAt l cs i = true) : fitsF l cs = true := by
 unfold fitsF
 rw [hv, decide_eq_true hn, Bool.true_and, Bool.true_and, List.all_eq_true]
 exact fun i hi => h i (List.mem_range.1 hi)
theorem fits_bad {l : List Pt} {cs : List Ch} (h : validC l = false) : fitsF l cs = false := by unfold fitsF; rw [h]; rfl
theorem fits_len {l : List Pt} {cs : List Ch} (h : cs.length ≠ l.length) : fitsF l cs = false := by unfold fitsF; rw [decide_eq_false h, Bool.and_false]; rfl
theorem fit_at {l : List Pt} {cs : List Ch} {k : Nat} {p : Pt} {x : Ch} (hp : l[k]? = some p) (hx : cs[k]? = some x) : fitAt l cs k = (hasL p.b x && (decide (k = 0) || agD (keptD (l.getD (k - 1) noPt)) (cs.getD (k - 1) zeroC) x)) := by
 unfold fitAt
 rw [show l.getD k noPt = p by rw [List.getD_eq_getElem?_getD, hp]; rfl, show cs.getD k zeroC = x by rw [List.getD_eq_getElem?_getD, hx]; rfl]
theorem fit_ag {l : List Pt} {cs : List Ch} {k : Nat} {p : Pt} {x : Ch} (hp : l[k]? = some p) (hx : cs[k]? = some x) : agD (keptD (l.getD k noPt)) (cs.getD k zeroC) = agD (bits .andNot .i64 15 p.v) x := by
 rw [show l.getD k noPt = p by rw [List.getD_eq_getElem?_getD, hp]; rfl, show cs.getD k zeroC = x by rw [List.getD_eq_getElem?_getD, hx]; rfl]
 rfl
theorem ge_of {w : World} {ok : Nat → Prop} {A : Option Addr} {x : List Int} (h : InB w ok A x) : Ints w A x := h.1
set_option maxHeartbeats 64000000 in
set_option maxRecDepth 10000 in
theorem fitsw_any {ok ow : Nat → Prop} {A B : Option Addr} {c d n m : Nat} {l : List Pt} {cs : List Ch} {w : World} (hn : n = l.length) (hm : m = cs.length) (h : Pts w ok A l) (hc : Chs w ow B cs) (hl : l.length ≤ 1000000) (hcl : cs.length ≤ 9223372036854775807) (ho : ∀ p ∈ l, (∀ b ∈ p.b, OKB b) ∧ p.b.length ≤ 1000000) (hco : ∀ x ∈ cs, x.m.length ≤ 9223372036854775807) :
 Calls Tryz.prog 19 #[.slice A n c, .slice B m d] w fun e w' => e = .returned (.bool (fitsF l cs)) ∧ Grows w w' := by
 subst hn hm
 have HO := Lib.hid ho
 have HCO := Lib.hid hco
 clear ho hco
 have hB := Below.refl w.heap.size w
 go_enter Tryz.func19, Tryz.ntmps19
 go_wp2_with fail
 refine (nvalid_any rfl (h.grows hB) hl (fun p hp => HO.out p hp)).mono ?_
 rintro e w2 ⟨rfl, hq⟩
 replace hB := below_grows hB (Nat.le_refl _) hq
 clear hq
 cases hv : validC l with
 | false =>
  have HE := Lib.hid (fits_bad (cs := cs) hv)
  clear hv
  go_wp2
  go_ret
  exact ⟨ret_bool HE.out.symm, hB⟩
 | true =>
 have HV := Lib.hid hv
 have hl16 := (valid_ports hv).2.2
 clear hv
 by_cases hcn : cs.length = l.length
 case neg =>
  have HE := Lib.hid (fits_len hcn)
  have e1 : ((cs.length : Int) != (l.length : Int)) = true := by rw [bne_iff_ne]; omega
  have e2 : decide ((cs.length : Int) = (l.length : Int)) = false := by simp only [decide_eq_false_iff_not]; omega
  have e3 : decide (cs.length = l.length) = false := by simp only [decide_eq_false_iff_not]; omega
  clear hcn
  go_wp2
  go_ret
  exact ⟨ret_bool HE.out.symm, hB⟩
 have HCN := Lib.hid hcn
 have e1 : ((cs.length : Int) != (l.length : Int)) = false := by rw [hcn]; simp
 have e2 : decide ((cs.length : Int) = (l.length : Int)) = true := by simp only [decide_eq_true_eq]; omega
 have e3 : decide (cs.length = l.length) = true := by simp only [decide_eq_true_eq]; omega
 clear hcn
 go_upto_region 3 with fail
 clear e1 e2 e3
 go_wp2_with fail
 go_loopw [19] (fun i wr => ∃ k : Nat, k ≤ l.length ∧ i = .int .i64 k ∧ Hid (∀ i, i < k → fitAt l cs i = true) ∧ Below w.heap.size w wr) (fun i _ => l.length - (intOf i).toNat)
 case atStart => exact ⟨0, by omega, rfl, Lib.hid (fun i hi => absurd hi (by omega)), hB⟩
 case round =>
  clear hB
  obtain ⟨k, hk, rfl, HK, hB⟩ := hrel
  by_cases hlt : k < l.length
  ·obtain ⟨ad, p, BP, cp, ea, had, hp, hbx, hcp, q0, q1⟩ := h.elem hB hlt
   subst ea
   obtain ⟨ad2, x, BX, dX, eb, had2, hx, hdX, hix, hcx⟩ := hc.elem hB (show k < cs.length by have := HCN.out; omega)
   subst eb
   have HP := Lib.hid hp
   have HX := Lib.hid hx
   have HPO := Lib.hid (HO.out p (List.mem_of_getElem? hp))
   have HXO := Lib.hid (HCO.out x (List.mem_of_getElem? hx))
   have HAT := Lib.hid (fit_at (l := l) (cs := cs) hp hx)
   have HNO := Lib.hid (fun h => fits_no (l := l) (cs := cs) (i := k) hlt h)
   clear hp hx
   have k6 := Blk.new wr 47 #[.slice BP p.b.length cp, .int .i64 p.v]
   have hq := (Below.refl wr.heap.size wr).alloc (Nat.le_refl _) (Obj.cells #[.slice BP p.b.length cp, .int .i64 p.v] 47)
   go_upto_region 6 with fail
   replace hB := below_grows hB (Nat.le_refl _) hq
   replace hcx := hcx.grows hq (by rw [block_of_add]; exact had2)
   replace hbx := hbx.grows hB
   replace hix := RdB.grows hix hB
   have hszq := hq.size
   clear hq q0 q1
   have had3 : ad.block < (World.alloc wr (Obj.cells #[.slice BP p.b.length cp, .int .i64 p.v] 47)).heap.size := by omega
   have had4 : ad2.block < (World.alloc wr (Obj.cells #[.slice BP p.b.length cp, .int .i64 p.v] 47)).heap.size := by omega
   generalize World.alloc wr _ = w5 at *
   generalize wr.heap.size = G6 at *
   have c1 : (0 : Int) ≤ (k : Int) := by omega
   have c2 : (k : Int) < (l.length : Int) := by omega
   have c3 : (k : Int) < (cs.length : Int) := by have := HCN.out; omega
   have c4 : k < cs.length := by have := HCN.out; omega
   have had5 : (ad2.add (k * 4)).block < w5.heap.size := by rw [block_of_add]; exact had4
   have HH := Lib.hid (fun (w0 : World) (hg : Grows w5 w0) => phaslw_any (x := x) (ci := dX) (w := w0) (hbx.grows hg) HPO.out.2 hcp HPO.out.1 (ge_of (RdB.grows hix hg)) HXO.out)
   cases hh : hasL p.b x with
   | false =>
    have HE := Lib.hid (HNO.out (by rw [HAT.out, hh]; rfl))
    rw [hh] at HH
    clear hh
    refine wp_region_mix (fun w' => Grows w5 w') [] 32 57 (by kernel_rfl) (by kernel_rfl) rfl ?_ float_none ?_ ?_
    ·exact fun w1 w2 h0 hg => below_grows h0 (Nat.le_refl _) hg
    ·exact Grows.drew' _
    ·skip
     simp only [List.take_succ_cons, List.take_zero, List.drop_succ_cons, List.drop_zero]
     iterate 32
      first
       | (refine calm_no rfl rfl (a' := ?_) ?_ ?_
          rotate_left 1
          ·simp only [Act.put, List.setIfInBounds_toArray, List.set_cons_succ, List.set_cons_zero]
           rfl)
       | (first | refine calm_plain rfl rfl (v := ?_) (a' := ?_) (fun w1 hw1 => ?_) ?_ ?_ | refine calm_yes rfl rfl (v := ?_) (a' := ?_) (fun w1 hw1 => ?_) ?_ ?_
          rotate_left 2
          ·have h0 := hw1
           have x6 := (k6.grows h0).cell
           obtain ⟨y0, y1, y2, y3⟩ := hcx.grows h0 had5
           go_simp
           first | exact calm_val | (refine calm_call ?_; with_reducible exact HH.out _ h0)
          ·simp only [Act.put, List.setIfInBounds_toArray, List.set_cons_succ, List.set_cons_zero]
           rfl)
     refine calm_done (end_none ?_)
     rintro W2 h0
     replace hB := below_grows hB (Nat.le_refl _) h0
     go_wp2
     go_ret
     exact ⟨ret_bool HE.out.symm, hB⟩
   | true =>
   rw [hh] at HH
   by_cases hk0 : k = 0
   ·have HE : Hid (fitAt l cs k = true) := Lib.hid (by rw [HAT.out, hh, decide_eq_true hk0]; rfl)
    have d1 : decide ((0 : Int) < (k : Int)) = false := by simp only [decide_eq_false_iff_not]; omega
    have d2 : decide (0 < k) = false := by simp only [decide_eq_false_iff_not]; omega
    clear hh hk0
    refine wp_region_mix (fun w' => Grows w5 w') [] 32 57 (by kernel_rfl) (by kernel_rfl) rfl ?_ float_none ?_ ?_
    ·exact fun w1 w2 h0 hg => below_grows h0 (Nat.le_refl _) hg
    ·exact Grows.drew' _
    ·skip
     simp only [List.take_succ_cons, List.take_zero, List.drop_succ_cons, List.drop_zero]
     iterate 32
      first
       | (refine calm_no rfl rfl (a' := ?_) ?_ ?_
          rotate_left 1
          ·simp only [Act.put, List.setIfInBounds_toArray, List.set_cons_succ, List.set_cons_zero]
           rfl)
       | (first | refine calm_plain rfl rfl (v := ?_) (a' := ?_) (fun w1 hw1 => ?_) ?_ ?_ | refine calm_yes rfl rfl (v := ?_) (a' := ?_) (fun w1 hw1 => ?_) ?_ ?_
          rotate_left 2
          ·have h0 := hw1
           have x6 := (k6.grows h0).cell
           obtain ⟨y0, y1, y2, y3⟩ := hcx.grows h0 had5
           go_simp
           first | exact calm_val | (refine calm_call ?_; with_reducible exact HH.out _ h0)
          ·simp only [Act.put, List.setIfInBounds_toArray, List.set_cons_succ, List.set_cons_zero]
           rfl)
     refine calm_done (end_none ?_)
     rintro W2 h0
     replace hB := below_grows hB (Nat.le_refl _) h0
     go_wp2
     go_roundw
     case rel => exact ⟨k + 1, by omega, by go_num, Lib.hid (fun i hi => by
      rcases Nat.lt_or_ge i k with h | h
      ·exact HK.out i h
      ·obtain rfl : i = k := by omega
       exact HE.out), hB⟩
     case measure => simp [intOf]; omega
   ·have d1 : decide ((0 : Int) < (k : Int)) = true := by simp only [decide_eq_true_eq]; omega
    have d2 : decide (0 < k) = true := by simp only [decide_eq_true_eq]; omega
    obtain ⟨j, hj⟩ : ∃ j, k = j + 1 := ⟨k - 1, by omega⟩
    have HJ := Lib.hid hj
    have hwj : IntKind.i64.wrap ((k : Int) - 1) = (j : Int) := by rw [IntWalk.i64_in _ (by omega)]; omega
    have c5 : (0 : Int) ≤ (j : Int) := by omega
    have c6 : (j : Int) < (l.length : Int) := by omega
    have c7 : (j : Int) < (cs.length : Int) := by have := HCN.out; omega
    have c8 : j < l.length := by omega
    have c9 : j < cs.length := by have := HCN.out; omega
    obtain ⟨ad9, p2, BP2, cp2, ea, -, hp2, -, -, q20, q21⟩ := h.elem hB c8
    injection ea with ea
    subst ea
    obtain ⟨ad9, y, BY, dY, eb, -, hy, hdY, hiy, hcy⟩ := hc.elem hB c9
    injection eb with eb
    subst eb
    have hyo := HCO.out y (List.mem_of_getElem? hy)
    have HAG : Hid (fitAt l cs k = agD (bits .andNot .i64 15 p2.v) y x) := Lib.hid (by
     rw [HAT.out, hh, decide_eq_false hk0, hj, Nat.add_sub_cancel, fit_ag hp2 hy]
     rfl)
    have HA := Lib.hid (fun (w0 : World) (hg : Grows w5 w0) => agree_any (a := y) (b := x) (c := dY) (d := dX) (w := w0) (bits .andNot .i64 15 p2.v) (ge_of (RdB.grows hiy (below_grows hB (Nat.le_refl _) hg))) (ge_of (RdB.grows hix hg)) hyo HXO.out)
    have had7 : (ad2.add (j * 4)).block < w5.heap.size := by rw [block_of_add]; exact had4
    have had8 : (ad.add (j * 2)).block < w5.heap.size := by rw [block_of_add]; exact had3
    clear hh hk0 hj hp2 hy
    cases ha : agD (bits .andNot .i64 15 p2.v) y x with
    | false =>
     have HE := Lib.hid (HNO.out (HAG.out.trans ha))
     rw [ha] at HA
     clear ha
     refine wp_region_mix (fun w' => Grows w5 w') [] 32 57 (by kernel_rfl) (by kernel_rfl) rfl ?_ float_none ?_ ?_
     ·exact fun w1 w2 h0 hg => below_grows h0 (Nat.le_refl _) hg
     ·exact Grows.drew' _
     ·skip
      simp only [List.take_succ_cons, List.take_zero, List.drop_succ_cons, List.drop_zero]
      iterate 32
       first
        | (refine calm_no rfl rfl (a' := ?_) ?_ ?_
           rotate_left 1
           ·simp only [Act.put, List.setIfInBounds_toArray, List.set_cons_succ, List.set_cons_zero]
            rfl)
        | (first | refine calm_plain rfl rfl (v := ?_) (a' := ?_) (fun w1 hw1 => ?_) ?_ ?_ | refine calm_yes rfl rfl (v := ?_) (a' := ?_) (fun w1 hw1 => ?_) ?_ ?_
           rotate_left 2
           ·have h0 := hw1
            have x6 := (k6.grows h0).cell
            obtain ⟨y0, y1, y2, y3⟩ := hcx.grows h0 had5
            obtain ⟨z0, z1, z2, z3⟩ := hcy.grows h0 had7
            have zz := (Below.cell (p := ⟨(ad.add (j * 2)).block, (ad.add (j * 2)).off + 1, none⟩) h0 had8).trans q21
            go_simp
            first | exact calm_val | (refine calm_call ?_; with_reducible exact HH.out _ h0) | (refine calm_call ?_; with_reducible exact HA.out _ h0)
           ·simp only [Act.put, List.setIfInBounds_toArray, List.set_cons_succ, List.set_cons_zero]
            rfl)
      refine calm_done (end_none ?_)
      rintro W2 h0
      replace hB := below_grows hB (Nat.le_refl _) h0
      go_wp2
      go_ret
      exact ⟨ret_bool HE.out.symm, hB⟩
    | true =>
     have HE : Hid (fitAt l cs k = true) := Lib.hid (HAG.out.trans ha)
     rw [ha] at HA
     clear ha
     refine wp_region_mix (fun w' => Grows w5 w') [] 32 57 (by kernel_rfl) (by kernel_rfl) rfl ?_ float_none ?_ ?_
     ·exact fun w1 w2 h0 hg => below_grows h0 (Nat.le_refl _) hg
     ·exact Grows.drew' _
     ·skip
      simp only [List.take_succ_cons, List.take_zero, List.drop_succ_cons, List.drop_zero]
      iterate 32
       first
        | (refine calm_no rfl rfl (a' := ?_) ?_ ?_
           rotate_left 1
           ·simp only [Act.put, List.setIfInBounds_toArray, List.set_cons_succ, List.set_cons_zero]
            rfl)
        | (first | refine calm_plain rfl rfl (v := ?_) (a' := ?_) (fun w1 hw1 => ?_) ?_ ?_ | refine calm_yes rfl rfl (v := ?_) (a' := ?_) (fun w1 hw1 => ?_) ?_ ?_
           rotate_left 2
           ·have h0 := hw1
            have x6 := (k6.grows h0).cell
            obtain ⟨y0, y1, y2, y3⟩ := hcx.grows h0 had5
            obtain ⟨z0, z1, z2, z3⟩ := hcy.grows h0 had7
            have zz := (Below.cell (p := ⟨(ad.add (j * 2)).block, (ad.add (j * 2)).off + 1, none⟩) h0 had8).trans q21
            go_simp
            first | exact calm_val | (refine calm_call ?_; with_reducible exact HH.out _ h0) | (refine calm_call ?_; with_reducible exact HA.out _ h0)
           ·simp only [Act.put, List.setIfInBounds_toArray, List.set_cons_succ, List.set_cons_zero]
            rfl)
      refine calm_done (end_none ?_)
      rintro W2 h0
      replace hB := below_grows hB (Nat.le_refl _) h0
      go_wp2
      go_roundw
      case rel => exact ⟨k + 1, by omega, by go_num, Lib.hid (fun i hi => by
       rcases Nat.lt_or_ge i k with h | h
       ·exact HK.out i h
       ·obtain rfl : i = k := by omega
        exact HE.out), hB⟩
      case measure => simp [intOf]; omega
  ·have HE := Lib.hid (fits_yes HV.out HCN.out (fun i hi => HK.out i (by omega)))
   go_wp2
   go_ret
   exact ⟨ret_bool HE.out.symm, hB⟩
theorem fits_any {ok ow : Nat → Prop} {A B : Option Addr} {c d n m : Nat} {l : List Pt} {cs : List Ch} {w : World} (hn : n = l.length) (hm : m = cs.length) (h : Pts w ok A l) (hc : Chs w ow B cs) (hl : l.length ≤ 1000000) (hcl : cs.length ≤ 9223372036854775807) (ho : ∀ p ∈ l, (∀ b ∈ p.b, OKB b) ∧ p.b.length ≤ 1000000) (hco : ∀ x ∈ cs, x.m.length ≤ 1000000) :
 Calls Tryz.prog 19 #[.slice A n c, .slice B m d] w fun e w' => e = .returned (.bool (fitsF l cs)) ∧ Grows w w' := fitsw_any hn hm h hc hl hcl ho (fun x hx => by have := hco x hx; omega)
end Go.Proofs.YtjbkjgmcfommgaaGreat

namespace Go.Proofs.YtjbkjgmcfommgaaGreat
open Go.RowKit
def ptC (p : Pt) (B : Option Addr) (c : Nat) : List Value := [.slice B p.b.length c, .int .i64 p.v]
/-- A row of ports of one's own, apart from what its members take. -/
def OwnPq (w : World) (base : Nat) (ok : Nat → Prop) (v : Value) (l : List Pt) : Prop :=
 ∃ vs, w.ownsRow base 47 2 v l.length vs ∧ ∀ (i : Nat) (p : Pt), l[i]? = some p → ∃ B c, Bxs w (Aq ok v) B p.b ∧ p.b.length ≤ c ∧ ∀ j < 2, vs[i * 2 + j]? = (ptC p B c)[j]?
set_option maxRecDepth 100000 in
theorem port_info : ∃ i : TypeInfo, Tryz.prog.info? 47 = some i ∧ i.size = 2 ∧ i.bytes = 32 ∧ i.zero = some (.agg #[.slice none 0 0, .int .i64 0]) ∧ (Value.agg #[.slice none 0 0, .int .i64 0]).cells.size = 2 := ⟨_, by first | exact Tryz.info47 | rfl, rfl, rfl, rfl, rfl⟩
section
variable {w w' : World} {base g : Nat} {ok : Nat → Prop} {v : Value} {l : List Pt}
theorem OwnPq.nil : OwnPq w base ok (.slice none 0 0) [] := ⟨[], World.ownsRow_nil w base _ 2, fun i x h => by simp at h⟩
theorem OwnPq.grows (h : OwnPq w base ok v l) (hg : Grows w w') : OwnPq w' base ok v l := by
 obtain ⟨vs, h1, h2⟩ := h
 exact ⟨vs, own_grows h1 hg, fun i x hx => by obtain ⟨B, c, hb, r⟩ := h2 i x hx; exact ⟨B, c, hb.grows hg, r⟩⟩
theorem OwnPq.only (h : OwnPq w base ok v l) (hg : w.grownBy w' (some g)) (hb : g < base) (hl : ¬ ok g) : OwnPq w' base ok v l := by
 obtain ⟨vs, h1, h2⟩ := h
 refine ⟨vs, World.ownsRow.kept h1 hg ?_, fun i x hx => by obtain ⟨B, c, hi, r⟩ := h2 i x hx; exact ⟨B, c, hi.onlyq hg hl, r⟩⟩
 cases e : v.ownBlock with
 | none => exact .inl rfl
 | some q =>
  refine .inr fun e2 => ?_
  have := (World.ownsRow.lt h1 q e).1
  injection e2 with e2
  omega
theorem OwnPq.lt (h : OwnPq w base ok v l) : ∀ q, v.ownBlock = some q → base ≤ q ∧ q < w.heap.size := by
 obtain ⟨vs, h1, -⟩ := h
 exact World.ownsRow.lt h1
theorem OwnPq.read (h : OwnPq w base ok v l) : ∃ A c, v = .slice A l.length c ∧ l.length ≤ c ∧ Pts w (fun k => ok k ∨ base ≤ k) A l := by
 obtain ⟨vs, h1, h2⟩ := h
 have h3 : ∀ (i : Nat) (p : Pt), l[i]? = some p → ∃ B c, Bxs w (fun k => ok k ∨ base ≤ k) B p.b ∧ p.b.length ≤ c ∧ vs[i * 2]? = some (.slice B p.b.length c) ∧ vs[i * 2 + 1]? = some (.int .i64 p.v) := fun i p hx => by
  obtain ⟨B, c, hb, hc, r⟩ := h2 i p hx
  exact ⟨B, c, hb.mono (fun k hk => .inl hk.1), hc, r 0 (by omega), r 1 (by omega)⟩
 rcases h1.2 with ⟨rfl, hn⟩ | ⟨q, cap, cur, rfl, hbq, hg, hnc, hm, hs, ht⟩
 ·have e := List.eq_nil_of_length_eq_zero hn
  subst e
  exact ⟨none, 0, rfl, Nat.le_refl _, Pts.nil⟩
 ·refine ⟨_, cap, rfl, hnc, vs, ⟨Reads.of_own h1, fun _ ad e => ?_⟩, h3⟩
  injection e with e
  subst e
  exact Or.inr hbq
end
theorem ptC_one (p : Pt) (B : Option Addr) (c : Nat) : ∀ u ∈ ptC p B c, u.oneCell' = true := by
 intro u hu
 simp only [ptC, List.mem_cons, List.not_mem_nil, or_false] at hu
 rcases hu with rfl | rfl <;> rfl
theorem pts_one {l : List Pt} {vs : List Value} (hl : vs.length = l.length * 2) (h : ∀ (i : Nat) (p : Pt), l[i]? = some p → ∃ B c, ∀ j < 2, vs[i * 2 + j]? = (ptC p B c)[j]?) : ∀ u ∈ vs, u.oneCell' = true := by
 intro u hu
 obtain ⟨k, hk, e⟩ := List.mem_iff_getElem.1 hu
 have hi : k / 2 < l.length := by omega
 obtain ⟨B, c, hc⟩ := h (k / 2) _ (List.getElem?_eq_getElem hi)
 have h2 := hc (k % 2) (Nat.mod_lt _ (by omega))
 rw [show k / 2 * 2 + k % 2 = k by omega, List.getElem?_eq_getElem hk, e] at h2
 exact ptC_one _ B c u (List.mem_of_getElem? h2.symm)
theorem Pts.cells {w : World} {ok : Nat → Prop} {A : Option Addr} {l : List Pt} (h : Pts w ok A l) : ∃ vs : List Value, RdB w ok 2 A l.length vs ∧ ∀ (i : Nat) (p : Pt), l[i]? = some p → ∃ B c, Bxs w ok B p.b ∧ p.b.length ≤ c ∧ ∀ j < 2, vs[i * 2 + j]? = (ptC p B c)[j]? := by
 obtain ⟨vs, h1, h2⟩ := h
 refine ⟨vs, h1, fun i p hp => ?_⟩
 obtain ⟨B, c, hb, hc, r0, r1⟩ := h2 i p hp
 exact ⟨B, c, hb, hc, fun j hj => match j, hj with | 0, _ => r0 | 1, _ => r1⟩
theorem wpList_append_ports {ops : Array Oper} {rest : List Oper} {o : Oper} {a : Act} {w : World} {Q : Exit → Act → World → Prop} (hgd : o.guard = none) (s x : Operand) (ho : o.op = .call { callee := .builtin .append, args := #[s, x], argTypes := #[22, 22] })
 {base : Nat} {ok : Nat → Prop} {v : Value} {l m : List Pt} {A : Option Addr} {c n : Nat} (hn : n = m.length) (hs : a.eval s = v) (hown : OwnPq w base ok v l) (hx : a.eval x = .slice A n c) (hr : Pts w (Aq ok v) A m) (hlen : l.length + m.length ≤ 1000000) (hbase : base ≤ w.heap.size)
 (h : ∀ v' w', OwnPq w' base ok v' (l ++ m) → w.grownBy w' v.ownBlock → (v'.ownBlock = v.ownBlock ∨ v'.ownBlock = some w.heap.size) → wpList Tryz.prog ops Q rest (a.put o.dst v') w') : wpList Tryz.prog ops Q (o :: rest) a w := by
 obtain ⟨i0, hi0, hi1, hi2, hi3, hi4⟩ := port_info
 obtain ⟨vs, h1, h2⟩ := hown
 obtain ⟨us, r1, r2⟩ := hr.cells
 subst hn
 have hul := r1.1.1
 have hvl := h1.1
 refine wpList_append_any w hgd s x 22 ho base 47 i0 _ 2 32 Tryz.underlying22 hi0 hi3 hi1 hi2 hi4 (by omega) v l.length vs hs h1 w.heap.size A m.length c us hx r1.1 (pts_one hul fun i b hb => by obtain ⟨B, c, _, _, hc⟩ := r2 i b hb; exact ⟨B, c, hc⟩) (by simp only [maxLen]; omega) (by omega) hbase fun v' w' h3 h4 h5 => h v' w' ⟨vs ++ us, by rw [List.length_append]; exact h3, fun i p hp => ?_⟩ h4 h5
 by_cases hi : i < l.length
 ·rw [List.getElem?_append_left hi] at hp
  obtain ⟨B, c, hb, hc, r⟩ := h2 i p hp
  exact ⟨B, c, hb.aq h4 h5, hc, fun j hj => by rw [List.getElem?_append_left (by omega)]; exact r j hj⟩
 ·rw [List.getElem?_append_right (by omega)] at hp
  obtain ⟨B, c, hb, hc, r⟩ := r2 _ p hp
  exact ⟨B, c, hb.aq h4 h5, hc, fun j hj => by rw [List.getElem?_append_right (by omega), show i * 2 + j - vs.length = (i - l.length) * 2 + j by omega]; exact r j hj⟩
/-- A chain of one port, laid by a literal. -/
theorem pts_lit {w : World} {ok : Nat → Prop} {p : Pt} {B : Option Addr} {c : Nat} (hb : Bxs w ok B p.b) (hc : p.b.length ≤ c) (hw : ok w.heap.size) : Pts (w.alloc (.cells #[.slice B p.b.length c, .int .i64 p.v] 47)) ok (some ⟨w.heap.size, 0, none⟩) [p] := by
 have hk := Blk.new w 47 #[.slice B p.b.length c, .int .i64 p.v]
 have hq := (Below.refl w.heap.size w).alloc (Nat.le_refl _) (Obj.cells #[.slice B p.b.length c, .int .i64 p.v] 47)
 refine ⟨ptC p B c, ⟨⟨rfl, fun _ => ⟨_, rfl, hk.lt, fun j u hu => ?_⟩⟩, fun _ ad e => by injection e with e; subst e; exact hw⟩, fun i x hx => ?_⟩
 ·rw [add_head, hk.cell, ← Array.getElem?_toList]
  exact hu
 ·have hi0 : i = 0 := by
   have := (List.getElem?_eq_some_iff.1 hx).1
   simp only [List.length_singleton] at this
   omega
  subst hi0
  simp only [List.getElem?_cons_zero, Option.some.injEq] at hx
  subst hx
  exact ⟨B, c, hb.grows hq, hc, rfl, rfl⟩
/-- Ports that the maker makes. -/
def FineP (l : List Pt) : Prop := ∀ p ∈ l, Fine p.b ∧ 1 ≤ p.b.length ∧ p.b.length ≤ 2 ∧ 0 ≤ p.v ∧ p.v ≤ 15
theorem finep_app {l m : List Pt} (h : FineP l) (h2 : FineP m) : FineP (l ++ m) := fun b hb => (List.mem_append.1 hb).elim (h b) (h2 b)
set_option maxHeartbeats 8000000 in
theorem ports_any (B g : Nat) (w : World) (h : DR w B g) : Calls Tryz.prog 8 #[.pointer (some ⟨g, 0, none⟩)] w fun e w' => (∃ l v, e = .returned v ∧ OwnPq w' w.heap.size (Ge w.heap.size) v l ∧ MadeP l) ∧ DR w' B g ∧ w.grownBy w' (some g) := by
 have hgl := h.lt
 go_enter Tryz.func8, Tryz.ntmps8
 go_wp2_with fail
 refine (rolls_any B g 5 _ h (by omega) (by omega)).mono ?_
 rintro e w1 ⟨⟨r, rfl, r0, r1⟩, hD, hO⟩
 obtain ⟨n0, hn0⟩ : ∃ n0 : Nat, 1 + r = (n0 : Int) := ⟨(1 + r).toNat, by omega⟩
 have hw3 : IntKind.i64.wrap (1 + r) = (n0 : Int) := by rw [IntWalk.i64_in _ (by omega)]; exact hn0
 have hn1 : 1 ≤ n0 ∧ n0 ≤ 5 := by omega
 clear hn0 h
 have hsz := hO.size
 go_wp2_with fail
 go_loopw [3, 4] (fun v i wr => ∃ (n : Nat) (l : List Pt), n ≤ n0 ∧ i = .int .i64 n ∧ l.length + n = n0 ∧ Hid (FineP l) ∧ OwnPq wr w.heap.size (Ge w.heap.size) v l ∧ DR wr B g ∧ w.grownBy wr (some g)) (fun _ i _ => (intOf i).toNat)
 case atStart => exact ⟨n0, [], by omega, rfl, by simp, Lib.hid (fun b hb => by cases hb), OwnPq.nil, hD, hO⟩
 case round =>
  clear hD hO hsz
  obtain ⟨n, l, hn, rfl, hln, HF, ho, hD, hO⟩ := hrel
  have hsz := hO.size
  by_cases hpos : 0 < n
  ·have d1 : decide ((0 : Int) < (n : Int)) = true := by simp only [decide_eq_true_eq]; omega
   have d2 : decide (0 < n) = true := by simp only [decide_eq_true_eq]; omega
   have hwn : IntKind.i64.wrap ((n : Int) - 1) = ((n - 1 : Nat) : Int) := by rw [IntWalk.i64_in _ (by omega)]; omega
   go_upto_region 5 with fail
   refine wp_region_lit ?_
   iterate 2
    refine wpList_plain rfl (fun K hK => ?_)
    go_simp
    refine hK _ _ ?_
    clear hK K
   refine wpList_plain rfl (fun K hK => ?_)
   go_simp
   have hown := ho.lt
   refine (boxes_any B g 1 2 _ hD (by omega) (by omega)).mono ?_
   rintro e wb ⟨⟨b, vb, rfl, hb, hfb, hb1, hb2⟩, hDn, hq⟩
   obtain ⟨A1, c1, rfl, hc1, hbx⟩ := hb.read (Nat.le_refl _)
   have HFB := Lib.hid hfb
   clear hfb
   refine hK _ _ ?_
   clear hK K
   have hszb := hq.size
   replace hbx : Bxs wb (Aq (Ge w.heap.size) _) A1 b := hbx.mono fun k hk => ⟨by unfold Ge at *; omega, fun e => by have := (hown _ e).2; unfold Ge at hk; omega⟩
   replace ho := ho.only hq (by omega) (by unfold Ge; omega)
   replace hO := only_trans hO hq
   replace hsz := Nat.le_trans hsz hq.size
   replace hown := ho.lt
   clear hD hq hb
   refine wpList_plain rfl (fun K hK => ?_)
   go_simp
   refine hK _ _ ?_
   clear hK K
   refine wpList_plain rfl (fun K hK => ?_)
   go_simp
   refine (rolls_any B g 16 _ hDn (by omega) (by omega)).mono ?_
   rintro e wc ⟨⟨v, rfl, v0, v1⟩, hD, hq⟩
   refine hK _ _ ?_
   clear hK K
   replace hbx : Bxs wc (Aq (Ge w.heap.size) _) A1 b := hbx.grown hq (fun q e hh => by injection e with e; have := hh.1; unfold Ge at this; omega)
   replace ho := ho.only hq (by omega) (by unfold Ge; omega)
   replace hO := only_trans hO hq
   replace hsz := Nat.le_trans hsz hq.size
   replace hown := ho.lt
   clear hDn hq
   have HFP : Hid (FineP [⟨b, v⟩]) := Lib.hid fun p hp => by simp only [List.mem_singleton] at hp; subst hp; exact ⟨HFB.out, hb1, hb2, v0, by show v ≤ 15; omega⟩
   iterate 2
    refine wpList_plain rfl (fun K hK => ?_)
    go_simp
    refine hK _ _ ?_
    clear hK K
   have hL := pts_lit (p := ⟨b, v⟩) hbx hc1 ⟨by unfold Ge; omega, fun e => by have := (hown _ e).2; omega⟩
   have hq := (Below.refl wc.heap.size wc).alloc (Nat.le_refl _) (Obj.cells #[.slice A1 b.length c1, .int .i64 v] 47)
   replace ho := ho.grows hq
   replace hD := hD.grows hq
   replace hO := d_only_grows hO hq
   replace hsz := Nat.le_trans hsz hq.size
   replace hown := ho.lt
   clear hq hbx
   refine wpList_append_ports rfl (.tmp 12) (.tmp 18) rfl (m := [⟨b, v⟩]) rfl rfl ho rfl hL (by simp only [List.length_singleton]; omega) hsz ?_
   intro v5 w12 ho2 hgr _
   replace hD := hD.grown hgr (fun q e => by have := (hown q e).1; omega)
   replace hO := only_own hO hgr (fun q e => (hown q e).1)
   have HF2 := Lib.hid (finep_app HF.out HFP.out)
   have hl2 : (l ++ [Pt.mk b v]).length + (n - 1) = n0 := by rw [List.length_append, List.length_singleton]; omega
   clear hown hgr ho hL hsz HFB HF HFP v0 v1
   generalize l ++ [Pt.mk b v] = l2 at *
   go_wp2
   go_roundw
   case rel => exact ⟨n - 1, l2, by omega, by go_num, hl2, HF2, ho2, hD, hO⟩
   case measure => simp [intOf]; omega
  ·obtain rfl : n = 0 := by omega
   have d2 : decide ((0 : Int) < ((0 : Nat) : Int)) = false := by decide
   go_wp2
   go_ret
   exact ⟨⟨l, _, rfl, ho, by omega, by omega, HF.out⟩, hD, hO⟩
end Go.Proofs.YtjbkjgmcfommgaaGreat

namespace Go.Proofs.YtjbkjgmcfommgaaGreat
open Go.RowKit
def nA : List Pt := [⟨[ptB 44100 [3]], 0⟩, ⟨[ptB 48000 [3]], 0⟩]
def nB : List Pt := [⟨[ptB 44100 [3]], 2⟩, ⟨[ptB 48000 [3]], 0⟩]
def nX : List Ch := [⟨2, 44100, [3], 64⟩, ⟨2, 48000, [3], 64⟩]
theorem nsane1 : chooseF nA zeroC = ([], (1, 2), 13) := by decide +kernel
theorem nsane2 : chooseF nB zeroC = (nX, (0, 0), 0) := by decide +kernel
theorem nsane3 : fitsF nB nX = true := by decide +kernel
theorem nsane4 : validC nB = true := by decide +kernel
theorem okbN (r : Int) : OKB (ptB r [3]) := ⟨by show (1 : Nat) ≤ _; decide, by show (1 : Nat) ≤ _; decide, by show (1 : Nat) ≤ _; decide, fun m hm => by
 have : m = [3] := by simpa [ptB] using hm
 subst this
 decide⟩
theorem okN {v u : Int} : ∀ p ∈ ([⟨[ptB 44100 [3]], v⟩, ⟨[ptB 48000 [3]], u⟩] : List Pt), (∀ b ∈ p.b, OKB b ∧ I64 b.k) ∧ p.b.length ≤ 1000000 := by
 intro p hp
 simp only [List.mem_cons, List.not_mem_nil, or_false] at hp
 rcases hp with rfl | rfl <;> exact ⟨fun b hb => by
  simp only [List.mem_singleton] at hb
  subst hb
  exact ⟨okbN _, (by unfold I64; show (-9223372036854775808 : Int) ≤ 4 ∧ (4 : Int) ≤ 9223372036854775807; decide)⟩, (by show 1 ≤ 1000000; decide)⟩
/-- A chain of two ports in a block. -/
theorem pts_blk2 {w : World} {ok : Nat → Prop} {G : Nat} {p q : Pt} {B C : Option Addr} {c d : Nat} (hk : Blk w G 47 #[.slice B p.b.length c, .int .i64 p.v, .slice C q.b.length d, .int .i64 q.v]) (hb : Bxs w ok B p.b) (hc : p.b.length ≤ c) (hb2 : Bxs w ok C q.b) (hd : q.b.length ≤ d) (hw : ok G) : Pts w ok (some ⟨G, 0, none⟩) [p, q] := by
 refine ⟨[.slice B p.b.length c, .int .i64 p.v, .slice C q.b.length d, .int .i64 q.v], ⟨⟨rfl, fun _ => ⟨_, rfl, hk.lt, fun j u hu => ?_⟩⟩, fun _ ad e => by injection e with e; subst e; exact hw⟩, fun i x hx => ?_⟩
 ·rw [add_head, hk.cell, ← Array.getElem?_toList]
  exact hu
 ·have hi := (List.getElem?_eq_some_iff.1 hx).1
  simp only [List.length_cons, List.length_nil] at hi
  rcases (show i = 0 ∨ i = 1 by omega) with rfl | rfl
  ·simp only [List.getElem?_cons_zero, Option.some.injEq] at hx
   subst hx
   exact ⟨B, c, hb, hc, rfl, rfl⟩
  ·simp only [List.getElem?_cons_succ, List.getElem?_cons_zero, Option.some.injEq] at hx
   subst hx
   exact ⟨C, d, hb2, hd, rfl, rfl⟩
set_option maxHeartbeats 8000000 in
theorem lbox_any (r : Int) (w : World) : Calls Tryz.prog 23 #[.int .i64 r] w fun e w' => (∃ v, e = .returned v ∧ BoxV w' AnyB (ptB r [3]) v) ∧ Grows w w' := by
 have k0 := Blk.new w 61 #[.int .i64 0, .slice none 0 0, .slice none 0 0, .slice none 0 0]
 have hB := (Below.refl w.heap.size w).alloc (Nat.le_refl _) (Obj.cells #[.int .i64 0, .slice none 0 0, .slice none 0 0, .slice none 0 0] 61)
 go_enter Tryz.func23, Tryz.ntmps23
 go_upto_region 1 with fail
 generalize World.alloc w _ = w1 at *
 have hs1 := k0.lt
 refine wp_region_lit ?_
 iterate 4
  refine BigFrame.wpList_want (by first | rfl | kernel_rfl) (fun K hK => ?_)
  go_simp
  refine hK _ _ ?_
  clear hK K
 have hr := rd_lit w1 (ok := fun k => k ≠ w.heap.size) 86 #[.int .i64 r, .int .i64 r] 2 1 rfl (by omega)
 have hq := (Below.refl w1.heap.size w1).alloc (Nat.le_refl _) (Obj.cells #[.int .i64 r, .int .i64 r] 86)
 replace k0 := k0.grows hq
 replace hB := below_grows hB (Nat.le_refl _) hq
 clear hq
 generalize w1.heap.size = n1 at *
 generalize World.alloc w1 _ = w2 at *
 replace hs1 := k0.lt
 iterate 2
  refine BigFrame.wpList_want (by first | rfl | kernel_rfl) (fun K hK => ?_)
  go_simp
  refine hK _ _ ?_
  clear hK K
 have hm : InB _ (fun k => k ≠ w.heap.size) _ [3] := rd_lit w2 3 #[.int .i64 3] 1 1 rfl (by omega)
 have hq := (Below.refl w2.heap.size w2).alloc (Nat.le_refl _) (Obj.cells #[.int .i64 3] 3)
 replace k0 := k0.grows hq
 replace hr := hr.grows hq
 replace hB := below_grows hB (Nat.le_refl _) hq
 clear hq
 generalize w2.heap.size = n5 at *
 generalize World.alloc w2 _ = w5 at *
 replace hs1 := k0.lt
 iterate 1
  refine BigFrame.wpList_want (by first | rfl | kernel_rfl) (fun K hK => ?_)
  go_simp
  refine hK _ _ ?_
  clear hK K
 have hmm := maps_lit1 w5 (c := 1) hm (by decide) (by omega)
 have hq := (Below.refl w5.heap.size w5).alloc (Nat.le_refl _) (Obj.cells #[.slice (some ⟨n5, 0, none⟩) 1 1] 38)
 replace k0 := k0.grows hq
 replace hr := hr.grows hq
 replace hB := below_grows hB (Nat.le_refl _) hq
 clear hq hm
 have hmm : MapsR (w5.alloc (.cells #[.slice (some ⟨n5, 0, none⟩) 1 1] 38)) (fun k => k ≠ w.heap.size) (some ⟨w5.heap.size, 0, none⟩) [[3]] := hmm
 generalize w5.heap.size = n2 at *
 generalize World.alloc w5 _ = w3 at *
 replace hs1 := k0.lt
 iterate 2
  refine BigFrame.wpList_want (by first | rfl | kernel_rfl) (fun K hK => ?_)
  go_simp
  refine hK _ _ ?_
  clear hK K
 have hs := rd_lit w3 (ok := fun k => k ≠ w.heap.size) 86 #[.int .i64 64, .int .i64 64] 2 1 rfl (by omega)
 have hq := (Below.refl w3.heap.size w3).alloc (Nat.le_refl _) (Obj.cells #[.int .i64 64, .int .i64 64] 86)
 replace k0 := k0.grows hq
 replace hr := hr.grows hq
 replace hmm := hmm.grows hq
 replace hB := below_grows hB (Nat.le_refl _) hq
 clear hq
 generalize w3.heap.size = n3 at *
 generalize World.alloc w3 _ = w4 at *
 have y0 := ((((k0.set_ 0 (.int .i64 4)).set_ 1 (.slice (some ⟨n1, 0, none⟩) 1 1)).set_ 2 (.slice (some ⟨n2, 0, none⟩) 1 1)).set_ 3 (.slice (some ⟨n3, 0, none⟩) 1 1))
 have yB := ((((hB.setCell (p := ⟨w.heap.size, 0, none⟩) (Nat.le_refl _) (.int .i64 4)).setCell (p := ⟨w.heap.size, 1, none⟩) (Nat.le_refl _) (.slice (some ⟨n1, 0, none⟩) 1 1)).setCell (p := ⟨w.heap.size, 2, none⟩) (Nat.le_refl _) (.slice (some ⟨n2, 0, none⟩) 1 1)).setCell (p := ⟨w.heap.size, 3, none⟩) (Nat.le_refl _) (.slice (some ⟨n3, 0, none⟩) 1 1))
 have hgq := (d_only_set (d_only_set (d_only_set (d_only_set (World.grownBy.refl w4 (some w.heap.size)) 0 (.int .i64 4)) 1 (.slice (some ⟨n1, 0, none⟩) 1 1)) 2 (.slice (some ⟨n2, 0, none⟩) 1 1)) 3 (.slice (some ⟨n3, 0, none⟩) 1 1))
 have yr := RdB.grown hr hgq (fun q e hh => by injection e with e; exact hh e.symm)
 have ym := MapsR.grown hmm hgq (fun q e hh => by injection e with e; exact hh e.symm)
 have ys := RdB.grown hs hgq (fun q e hh => by injection e with e; exact hh e.symm)
 have y6 := y0.cell
 have x0 := k0.cell
 have hf0 := k0.frozen
 clear k0 hB hr hmm hs
 go_wp2
 refine bodyPost_ret (v := .agg #[.int .i64 4, .slice (some ⟨n1, 0, none⟩) 1 1, .slice (some ⟨n2, 0, none⟩) 1 1, .slice (some ⟨n3, 0, none⟩) 1 1]) (by simp [results, Tryz.results23, go_sem, y6]) rfl ⟨⟨_, rfl, ⟨some ⟨n1, 0, none⟩, 1, some ⟨n2, 0, none⟩, 1, some ⟨n3, 0, none⟩, 1, rfl, ⟨RdB.mono yr (fun _ _ => trivial), MapsR.mono ym (fun _ _ => trivial), RdB.mono ys (fun _ _ => trivial), Nat.le_refl _, Nat.le_refl _, Nat.le_refl _⟩⟩⟩, yB⟩
set_option maxHeartbeats 16000000 in
set_option maxRecDepth 10000 in
theorem nsane_any (w : World) : Calls Tryz.prog 6 #[] w fun e w' => e = .returned (.bool true) ∧ Grows w w' := by
 have hB := Below.refl w.heap.size w
 go_enter Tryz.func6, Tryz.ntmps6
 go_wp2_with fail
 refine (lbox_any 44100 _).mono ?_
 rintro e w3 ⟨⟨v, rfl, A1, c1, A2, c2, A3, c3, rfl, hp0⟩, hq⟩
 replace hB := below_grows hB (Nat.le_refl _) hq
 clear hq
 have ha : Bxs _ AnyB _ [ptB 44100 [3]] := bxs_lit hp0 trivial
 have hq := (Below.refl w3.heap.size w3).alloc (Nat.le_refl _) (Obj.cells #[.int .i64 (ptB 44100 [3]).k, .slice A1 (ptB 44100 [3]).r.length c1, .slice A2 (ptB 44100 [3]).m.length c2, .slice A3 (ptB 44100 [3]).s.length c3] 61)
 replace hB := below_grows hB (Nat.le_refl _) hq
 clear hq hp0
 go_wp2_with fail
 generalize w3.heap.size = n3 at *
 generalize World.alloc w3 _ = v3 at *
 refine (lbox_any 48000 _).mono ?_
 rintro e w4 ⟨⟨v, rfl, A4, c4, A5, c5, A6, c6, rfl, hp1⟩, hq⟩
 replace hB := below_grows hB (Nat.le_refl _) hq
 replace ha := ha.grows hq
 clear hq
 have hb : Bxs _ AnyB _ [ptB 48000 [3]] := bxs_lit hp1 trivial
 have hq := (Below.refl w4.heap.size w4).alloc (Nat.le_refl _) (Obj.cells #[.int .i64 (ptB 48000 [3]).k, .slice A4 (ptB 48000 [3]).r.length c4, .slice A5 (ptB 48000 [3]).m.length c5, .slice A6 (ptB 48000 [3]).s.length c6] 61)
 replace hB := below_grows hB (Nat.le_refl _) hq
 replace ha := ha.grows hq
 clear hq hp1
 go_upto_region 2 with fail
 have hG1 : (World.alloc w4 (Obj.cells #[.int .i64 (ptB 48000 [3]).k, .slice A4 (ptB 48000 [3]).r.length c4, .slice A5 (ptB 48000 [3]).m.length c5, .slice A6 (ptB 48000 [3]).s.length c6] 61)).heap.size = w4.heap.size + 1 := by simp
 generalize w4.heap.size = n4 at *
 generalize World.alloc w4 _ = v4 at *
 have k1 := Blk.new v4 47 #[.slice (some ⟨n3, 0, none⟩) 1 1, .int .i64 0, .slice (some ⟨n4, 0, none⟩) 1 1, .int .i64 0]
 have hq := (Below.refl v4.heap.size v4).alloc (Nat.le_refl _) (Obj.cells #[.slice (some ⟨n3, 0, none⟩) 1 1, .int .i64 0, .slice (some ⟨n4, 0, none⟩) 1 1, .int .i64 0] 47)
 replace ha := ha.under.grows hq
 replace hb := hb.under.grows hq
 have hGw := hB.size
 replace hB := below_grows hB (Nat.le_refl _) hq
 clear hq
 rw [hG1] at k1 ha hb hGw
 clear hG1
 generalize World.alloc v4 _ = v5 at *
 generalize n4 + 1 = G at *
 go_wp2_with fail
 have h2 : Pts v5 (fun k => k ≤ G) (some ⟨G, 0, none⟩) nA := pts_blk2 (p := ⟨[ptB 44100 [3]], 0⟩) (q := ⟨[ptB 48000 [3]], 0⟩) k1 (ha.mono (fun k hk => Nat.le_of_lt hk)) (by decide) (hb.mono (fun k hk => Nat.le_of_lt hk)) (by decide) (Nat.le_refl _)
 have hcon : Calls Tryz.prog 16 #[.slice (some ⟨G, 0, none⟩) 2 2, .agg #[.int .i64 0, .int .i64 0, .slice none 0 0, .int .i64 0]] v5 fun e w' => (∃ A' c', e = .returned (.tuple #[.slice A' 0 c', .agg #[.int .i64 1, .int .i64 2], .int .i64 13]) ∧ 0 ≤ c' ∧ Chs w' (Ge v5.heap.size) A' []) ∧ Grows v5 w' := by
  have := choose_any (w := v5) (c := 2) (ci := 0) (n := 2) (l := nA) (want := zeroC) (I := none) (ow := AnyB) rfl h2 (by decide) okN RdB.nil okc_zero
  rw [nsane1] at this
  exact this
 refine hcon.mono ?_
 rintro e w6 ⟨⟨A7, c7, rfl, -, -⟩, hq⟩
 replace hB := below_grows hB (Nat.le_refl _) hq
 replace ha := ha.grows hq
 replace hb := hb.grows hq
 replace k1 := k1.grows hq
 clear hq hcon h2
 have k3 := Blk.new w6 32 #[.int .i64 1, .int .i64 2]
 have hq := (Below.refl w6.heap.size w6).alloc (Nat.le_refl _) (Obj.cells #[.int .i64 1, .int .i64 2] 32)
 go_upto_region 3 with fail
 replace hB := below_grows hB (Nat.le_refl _) hq
 replace ha := ha.grows hq
 replace hb := hb.grows hq
 replace k1 := k1.grows hq
 have hne : w6.heap.size ≠ G := by have := k1.lt; intro e; subst e; exact absurd (Blk.ne_ k1 k3 (by decide)) (by simp)
 clear hq
 generalize w6.heap.size = n6 at *
 generalize World.alloc w6 _ = v6 at *
 have x1 := k1.cell
 have f1 := k1.frozen
 have hg6 := d_only_set (World.grownBy.refl v6 (some G)) 1 (.int .i64 2)
 have hB2 := hB.setCell (p := ⟨G, 1, none⟩) hGw (.int .i64 2)
 have ha2 := ha.grown hg6 (fun g e hh => by injection e with e; unfold Under at hh; omega)
 have hb2 := hb.grown hg6 (fun g e hh => by injection e with e; unfold Under at hh; omega)
 have k12 : Blk (v6.setCell ⟨G, 1, none⟩ (.int .i64 2)) G 47 #[.slice (some ⟨n3, 0, none⟩) 1 1, .int .i64 2, .slice (some ⟨n4, 0, none⟩) 1 1, .int .i64 0] := k1.set_ 1 (.int .i64 2)
 have k32 := k3.far (p := ⟨G, 1, none⟩) hne (.int .i64 2)
 go_upto_region 4 with fail
 clear x1 f1 hg6 hB ha hb k1 k3 hne
 generalize v6.setCell _ _ = v7 at *
 go_wp2_with fail
 have h2 : Pts v7 (fun k => k ≤ G) (some ⟨G, 0, none⟩) nB := pts_blk2 (p := ⟨[ptB 44100 [3]], 2⟩) (q := ⟨[ptB 48000 [3]], 0⟩) k12 (ha2.mono (fun k hk => Nat.le_of_lt hk)) (by decide) (hb2.mono (fun k hk => Nat.le_of_lt hk)) (by decide) (Nat.le_refl _)
 have hcon : Calls Tryz.prog 16 #[.slice (some ⟨G, 0, none⟩) 2 2, .agg #[.int .i64 0, .int .i64 0, .slice none 0 0, .int .i64 0]] v7 fun e w' => (∃ A' c', e = .returned (.tuple #[.slice A' 2 c', .agg #[.int .i64 0, .int .i64 0], .int .i64 0]) ∧ 2 ≤ c' ∧ Chs w' (Ge v7.heap.size) A' nX) ∧ Grows v7 w' := by
  have := choose_any (w := v7) (c := 2) (ci := 0) (n := 2) (l := nB) (want := zeroC) (I := none) (ow := AnyB) rfl h2 (by decide) okN RdB.nil okc_zero
  rw [nsane2] at this
  exact this
 refine hcon.mono ?_
 rintro e w8 ⟨⟨A8, c8, rfl, -, hx⟩, hq⟩
 have hB := below_grows hB2 (Nat.le_refl _) hq
 replace h2 := h2.grows hq
 replace k32 := k32.grows hq
 clear hq hcon hB2 ha2 hb2 k12
 have k6 := Blk.new w8 32 #[.int .i64 0, .int .i64 0]
 have hq := (Below.refl w8.heap.size w8).alloc (Nat.le_refl _) (Obj.cells #[.int .i64 0, .int .i64 0] 32)
 go_upto_region 5 with fail
 replace hB := below_grows hB (Nat.le_refl _) hq
 replace h2 := h2.grows hq
 replace hx := hx.grows hq
 replace k32 := k32.grows hq
 clear hq
 generalize w8.heap.size = n8 at *
 generalize World.alloc w8 _ = v8 at *
 obtain ⟨ad, x, BX, dX, e7, had, hx0, hdX, hix, hcx⟩ := hx.elem (Grows.rfl' v8) (k := 0) (by decide)
 subst e7
 obtain ⟨ad2, y, BY, dY, e7, -, hy0, hdY, hiy, hcy⟩ := hx.elem (Grows.rfl' v8) (k := 1) (by decide)
 injection e7 with e7
 subst e7
 obtain rfl : (⟨2, 44100, [3], 64⟩ : Ch) = x := Option.some.inj hx0
 obtain rfl : (⟨2, 48000, [3], 64⟩ : Ch) = y := Option.some.inj hy0
 obtain ⟨x0, x1, x2, x3⟩ := hcx
 obtain ⟨y0, y1, y2, y3⟩ := hcy
 have z3 := k32.cell
 have e0 : ad.add (0 * 4) = ad := by simp [Addr.add]
 rw [e0] at x0 x1
 have y1b : v8.cell? { block := ad.block, off := ad.off + 4 + 1 } = some (.int .i64 48000) := y1
 clear e0 y0 y2 y3 x2 x3
 go_wp2_with fail
 have hF : Calls Tryz.prog 19 #[.slice (some ⟨G, 0, none⟩) 2 2, .slice (some ad) 2 c8] v8 fun e w' => e = .returned (.bool true) ∧ Grows v8 w' := by
  have := fits_any (w := v8) (c := 2) (d := c8) (n := 2) (m := 2) (l := nB) (cs := nX) rfl rfl h2 hx (by decide) (by decide) (fun p hp => ⟨fun b hb => ((okN p hp).1 b hb).1, (okN p hp).2⟩) (fun x hx => by simp only [nX, List.mem_cons, List.not_mem_nil, or_false] at hx; rcases hx with rfl | rfl <;> decide)
  rw [nsane3] at this
  exact this
 refine hF.mono ?_
 rintro e w9 ⟨rfl, hq⟩
 replace hB := below_grows hB (Nat.le_refl _) hq
 replace h2 := h2.grows hq
 clear hq hF x0 x1 y1 y1b z3
 go_wp2_with fail
 have hV : Calls Tryz.prog 12 #[.slice (some ⟨G, 0, none⟩) 2 2] w9 fun e w' => e = .returned (.bool true) ∧ Grows w9 w' := by
  have := nvalid_any (w := w9) (c := 2) (n := 2) (l := nB) rfl h2 (by decide) (fun p hp => ⟨fun b hb => ((okN p hp).1 b hb).1, (okN p hp).2⟩)
  rw [nsane4] at this
  exact this
 refine hV.mono ?_
 rintro e w10 ⟨rfl, hq⟩
 replace hB := below_grows hB (Nat.le_refl _) hq
 go_wp2
 go_ret
 exact ⟨rfl, hB⟩
end Go.Proofs.YtjbkjgmcfommgaaGreat

namespace Go.Proofs.YtjbkjgmcfommgaaGreat
open Go.RowKit
theorem MadeP.oks {l : List Pt} (h : MadeP l) : ∀ p ∈ l, (∀ b ∈ p.b, OKB b ∧ I64 b.k) ∧ p.b.length ≤ 1000000 := fun p hp => ⟨fun b hb => ⟨((h.2.2 p hp).1 b hb).2.1, ((h.2.2 p hp).1 b hb).2.2.1⟩, by have := (h.2.2 p hp).2.2.1; omega⟩
theorem MadeP.fw {l : List Pt} (h : MadeP l) : forwardF l = fwUp l l.length := by
 unfold forwardF
 rw [if_pos h.valid]
theorem MadeP.take {l : List Pt} (h : MadeP l) {m : Nat} (h1 : 1 ≤ m) : MadeP (l.take m) := ⟨by rw [List.length_take]; have := h.1; omega, by rw [List.length_take]; have := h.2.1; omega, fun p hp => h.2.2 p (List.mem_of_mem_take hp)⟩
theorem choose_at {ok ow : Nat → Prop} {A I : Option Addr} {c n ci : Nat} {l : List Pt} {want : Ch} {w : World} {L : List Ch} {a b e0 : Int} (hf : chooseF l want = (L, (a, b), e0)) (hn : n = l.length) (h : Pts w ok A l) (hl : l.length ≤ 1000000) (ho : ∀ p ∈ l, (∀ b ∈ p.b, OKB b ∧ I64 b.k) ∧ p.b.length ≤ 1000000) (hi : InB w ow I want.m) (hok : OKC want) :
 Calls Tryz.prog 16 #[.slice A n c, .agg #[.int .i64 want.k, .int .i64 want.r, .slice I want.m.length ci, .int .i64 want.s]] w fun e w' => (∃ A' c', e = .returned (.tuple #[.slice A' L.length c', .agg #[.int .i64 a, .int .i64 b], .int .i64 e0]) ∧ L.length ≤ c' ∧ Chs w' (Ge w.heap.size) A' L) ∧ Grows w w' := by
 have := choose_any (c := c) (ci := ci) hn h hl ho hi hok
 rw [hf] at this
 exact this
/-- Whether a made chain is met. -/
theorem MadeP.met {l : List Pt} (h : MadeP l) : ((forwardF l).2.2 = 0 ↔ ∃ c, Rch l (l.length - 1) c) ∧ ((forwardF l).2.2 = 0 ∨ (forwardF l).2.2 = 13) ∧ (forwardF l).2.2 ≠ 3 := by
 obtain ⟨n, hn⟩ : ∃ n, l.length = n + 1 := ⟨l.length - 1, by have := h.1; omega⟩
 have hs := h.small (n := n + 1) (by omega)
 have := fw_ok h.ok h.k (n := n) (by omega) hs
 rw [h.fw, hn]
 exact ⟨this.1, this.2, hs⟩
end Go.Proofs.YtjbkjgmcfommgaaGreat

namespace Go.Proofs.YtjbkjgmcfommgaaGreat
open Go.RowKit
theorem okb_dims {x y : Bx} {d : Int} (hx : OKB x) : OKB (dimsF d x y) := by
  obtain ⟨h1, h2, h3, h4⟩ := hx
  have hb : ∀ u v : List Sp, (interF (spansF u) (spansF v)).length ≤ 4096 := fun u v => Nat.le_trans (interF_len _ _) (Nat.le_trans (Nat.mul_le_mul (spansF_len u) (spansF_len v)) (by omega))
  refine ⟨?_, ?_, ?_, fun m hm => ?_⟩
  · show (if bitZ d 2 = true then interF (spansF x.r) (spansF y.r) else x.r).length ≤ 1000000
    split
    · have := hb x.r y.r
      omega
    · exact h1
  · show (if bitZ d 8 = true then interF (spansF x.s) (spansF y.s) else x.s).length ≤ 1000000
    split
    · have := hb x.s y.s
      omega
    · exact h2
  · show (if bitZ d 4 = true then x.m.filter (fun z => decide (z ∈ y.m)) else x.m).length ≤ 1000000
    split
    · have := List.length_filter_le (fun z => decide (z ∈ y.m)) x.m
      omega
    · exact h3
  · have hm : m ∈ (if bitZ d 4 = true then x.m.filter (fun z => decide (z ∈ y.m)) else x.m) := hm
    split at hm
    · exact h4 m (List.mem_filter.1 hm).1
    · exact h4 m hm
theorem product_lim {d : Int} {a b : List Bx} (h : prodF d a b = none) : productF d a b = ([], 3) := by unfold productF; rw [h]
theorem product_ok {d : Int} {a b out : List Bx} (h : prodF d a b = some out) : productF d a b = reduceF out := by unfold productF; rw [h]
end Go.Proofs.YtjbkjgmcfommgaaGreat


namespace Go.Proofs.YtjbkjgmcfommgaaGreat
open Go.RowKit
/-- What was allowed before, or is new. -/
def Nk (n : Nat) (ba : Nat → Prop) : Nat → Prop := fun k => (ba k ∧ k < n) ∨ n ≤ k
set_option maxHeartbeats 32000000 in
set_option maxRecDepth 10000 in
theorem rreduceq_any {base : Nat → Prop} {A : Option Addr} {c n : Nat} {l : List Bx} {w : World} (hn : n = l.length) (h : Bxs w base A l) (hl : l.length ≤ 100000) (ho : ∀ b ∈ l, OKB b) :
 Calls Tryz.prog 30 #[.slice A n c] w fun e w' => (∃ v, e = .returned (.tuple #[v, .int .i64 (reduceF l).2]) ∧ OwnBq w' w.heap.size (Nk w.heap.size base) v (reduceF l).1) ∧ Grows w w' := by
 subst hn
 have HO := Lib.hid ho
 clear ho
 go_enter Tryz.func30, Tryz.ntmps30
 have hB := Below.refl w.heap.size w
 go_wp2_with fail
 refine (rvalidl_any A c base l _ h (by omega) HO.out).mono ?_
 cases hv : validL l
 ·have HE : Hid (reduceF l = ([], 1)) := Lib.hid (if_neg (by rw [hv]; decide))
  clear hv
  rintro e w2 ⟨rfl, hq⟩
  go_wp2
  refine bodyPost_ret (v := .tuple #[.slice none 0 0, .int .i64 1]) (by simp [results, Tryz.results30, go_sem]) rfl ?_
  rw [HE.out]
  exact ⟨⟨_, rfl, OwnBq.nil⟩, hq⟩
 have HR : Hid (reduceF l = (keepUp l l.length, 0)) := Lib.hid (if_pos hv)
 clear hv
 rintro e w2 ⟨rfl, hq⟩
 replace hB := below_grows hB (Nat.le_refl _) hq
 clear hq
 go_wp2_with fail
 go_loopw [4, 15] (fun v i wr => ∃ k : Nat, k ≤ l.length ∧ i = .int .i64 k ∧ OwnBq wr w.heap.size (Nk w.heap.size base) v (keepUp l k) ∧ Below w.heap.size w wr) (fun _ i _ => l.length - (intOf i).toNat)
 case atStart => exact ⟨0, by omega, rfl, OwnBq.nil, hB⟩
 case round =>
  clear hB
  obtain ⟨k, hk, rfl, hw, hB⟩ := hrel
  by_cases hlt : k < l.length
  ·obtain ⟨ad, b, A1, c1, A2, c2, A3, c3, e1, had, hx, hp0, q0, q1, q2, q3⟩ := h.bd.elem hlt
   have had2 := Nat.lt_of_lt_of_le had hB.size
   replace q0 := (hB.cell (p := ad.add (k * 4)) (by rw [block_of_add]; exact had)).trans q0
   replace q1 := (hB.cell (p := ⟨(ad.add (k * 4)).block, (ad.add (k * 4)).off + 1, none⟩) (by simp only [block_of_add]; exact had)).trans q1
   replace q2 := (hB.cell (p := ⟨(ad.add (k * 4)).block, (ad.add (k * 4)).off + 2, none⟩) (by simp only [block_of_add]; exact had)).trans q2
   replace q3 := (hB.cell (p := ⟨(ad.add (k * 4)).block, (ad.add (k * 4)).off + 3, none⟩) (by simp only [block_of_add]; exact had)).trans q3
   have hp := hp0.grows hB
   subst e1
   have HX := Lib.hid hx
   clear hx
   have hob := HO.out b (List.mem_of_getElem? HX.out)
   have hkl : (keepUp l k).length + 1 ≤ 1000000 := by have := keep_len l k; omega
   have k5 := Blk.new wr 61 #[.int .i64 b.k, .slice A1 b.r.length c1, .slice A2 b.m.length c2, .slice A3 b.s.length c3]
   have hq := (Below.refl wr.heap.size wr).alloc (Nat.le_refl _) (Obj.cells #[.int .i64 b.k, .slice A1 b.r.length c1, .slice A2 b.m.length c2, .slice A3 b.s.length c3] 61)
   go_upto_region 7 with fail
   replace hB := below_grows hB (Nat.le_refl _) hq
   replace hw := hw.grows hq
   replace hp := hp.grows hq
   clear hq q0 q1 q2 q3
   generalize World.alloc wr _ = w5 at *
   generalize wr.heap.size = G5 at *
   go_wp2_with fail
   go_loopw [7, 22] (fun t i wq => ∃ j : Nat, j ≤ l.length ∧ i = .int .i64 j ∧ t = .bool (!(dropUp l k b j)) ∧ Blk wq G5 61 #[.int .i64 b.k, .slice A1 b.r.length c1, .slice A2 b.m.length c2, .slice A3 b.s.length c3] ∧ Grows w5 wq) (fun _ i _ => l.length - (intOf i).toNat)
   case atStart => exact ⟨0, by omega, rfl, rfl, k5, Below.refl _ _⟩
   case round =>
    clear k5
    obtain ⟨j, hj, rfl, rfl, k5, hg⟩ := hrel
    by_cases hjt : j < l.length
    ·have hB2 := below_grows hB (Nat.le_refl _) hg
     obtain ⟨ad2, z, B1, d1, B2, d2, B3, d3, e2, had2, hy, hp2, q0, q1, q2, q3⟩ := (h.grows hB2).elem hjt
     have HY := Lib.hid (drop_next (i := k) (b := b) hy)
     have hoz := HO.out z (List.mem_of_getElem? hy)
     have e3 := e2
     injection e3 with e3
     subst e3
     clear e2 hy
     have k8 := Blk.new wr 61 #[.int .i64 z.k, .slice B1 z.r.length d1, .slice B2 z.m.length d2, .slice B3 z.s.length d3]
     have hq := (Below.refl wr.heap.size wr).alloc (Nat.le_refl _) (Obj.cells #[.int .i64 z.k, .slice B1 z.r.length d1, .slice B2 z.m.length d2, .slice B3 z.s.length d3] 61)
     go_upto_region 11 with fail
     replace hg := below_grows hg (Nat.le_refl _) hq
     replace k5 := k5.grows hq
     replace hp2 := hp2.grows hq
     clear hq q0 q1 q2 q3 hB2
     generalize World.alloc wr _ = w6 at *
     generalize wr.heap.size = G8 at *
     have hpb := hp.grows hg
     have HV : Hid (dropUp l k b (j + 1) = (dropUp l k b j || dropAt k b j z)) := Lib.hid HY.out
     clear HY
     generalize dropUp l k b j = du at *
     by_cases hjk : j = k
     case pos =>
      have HE : Hid (dropUp l k b (j + 1) = du) := Lib.hid (by rw [HV.out, show dropAt k b j z = false from (hjk ▸ dropAt_self j b z)]; simp)
      clear HV
      have dn : ((k : Int) != (j : Int)) = false := by simp only [bne_eq_false_iff_eq]; omega
      clear hjk
      go_wp2
      go_roundw
      case rel => exact ⟨j + 1, by omega, by go_num, by rw [HE.out]; try rfl, k5, hg⟩
      case measure => simp [intOf]; omega
     have dn : ((k : Int) != (j : Int)) = true := by simp only [bne_iff_ne, ne_eq]; omega
     have x5 := k5.cell
     have x8 := k8.cell
     go_wp2_with fail
     refine (rinsb_any hpb hp2 hob hoz).mono ?_
     cases hv : insideB b z
     case false =>
      have HE : Hid (dropUp l k b (j + 1) = du) := Lib.hid (by rw [HV.out, show dropAt k b j z = false from dropAt_not hv]; simp)
      clear HV
      clear hv
      rintro e w7 ⟨rfl, hq⟩
      replace hg := below_grows hg (Nat.le_refl _) hq
      replace k5 := k5.grows hq
      clear hq x5 x8 k8 hp2 hpb
      go_wp2
      go_roundw
      case rel => exact ⟨j + 1, by omega, by go_num, by rw [HE.out]; try rfl, k5, hg⟩
      case measure => simp [intOf]; omega
     rintro e w7 ⟨rfl, hq⟩
     replace hg := below_grows hg (Nat.le_refl _) hq
     replace k5 := k5.grows hq
     replace k8 := k8.grows hq
     replace hp2 := hp2.grows hq
     replace hpb := hpb.grows hq
     clear hq x5 x8
     have x5 := k5.cell
     have x8 := k8.cell
     by_cases hjl : j < k
     case pos =>
      have HE : Hid (dropUp l k b (j + 1) = true) := Lib.hid (by rw [HV.out, show dropAt k b j z = true from dropAt_lt hjk hv hjl]; simp)
      clear HV
      have dl : decide ((j : Int) < (k : Int)) = true := by simp only [decide_eq_true_eq]; omega
      have dl2 : decide (j < k) = true := by simpa using hjl
      clear hv hjl hjk
      go_wp2
      go_roundw
      case rel => exact ⟨j + 1, by omega, by go_num, by rw [HE.out]; try rfl, k5, hg⟩
      case measure => simp [intOf]; omega
     have dl : decide ((j : Int) < (k : Int)) = false := by simp only [decide_eq_false_iff_not]; omega
     have dl2 : decide (j < k) = false := by simpa using hjl
     have HD : Hid (dropAt k b j z = !insideB z b) := Lib.hid (dropAt_ge hjk hv hjl)
     clear hv hjl
     go_wp2_with fail
     refine (rinsb_any hp2 hpb hoz hob).mono ?_
     cases hv : insideB z b
     case false =>
      have HE : Hid (dropUp l k b (j + 1) = true) := Lib.hid (by rw [HV.out, show dropAt k b j z = true from (by rw [HD.out, hv]; rfl)]; simp)
      clear HV
      clear hv HD
      rintro e w8 ⟨rfl, hq⟩
      replace hg := below_grows hg (Nat.le_refl _) hq
      replace k5 := k5.grows hq
      clear hq x5 x8 k8 hp2 hpb
      go_wp2
      go_roundw
      case rel => exact ⟨j + 1, by omega, by go_num, by rw [HE.out]; try rfl, k5, hg⟩
      case measure => simp [intOf]; omega
     have HE : Hid (dropUp l k b (j + 1) = du) := Lib.hid (by rw [HV.out, show dropAt k b j z = false from (by rw [HD.out, hv]; rfl)]; simp)
     clear HV
     clear hv HD
     rintro e w8 ⟨rfl, hq⟩
     replace hg := below_grows hg (Nat.le_refl _) hq
     replace k5 := k5.grows hq
     clear hq x5 x8 k8 hp2 hpb
     go_wp2
     go_roundw
     case rel => exact ⟨j + 1, by omega, by go_num, by rw [HE.out]; try rfl, k5, hg⟩
     case measure => simp [intOf]; omega
    ·have HK := Lib.hid (keep_next HX.out)
     obtain rfl : j = l.length := by omega
     have hB2 := below_grows hB (Nat.le_refl _) hg
     replace hw := hw.grows hg
     cases hv : dropUp l k b l.length
     case true =>
      have HK2 : Hid (keepUp l (k + 1) = keepUp l k) := Lib.hid (by rw [HK.out, if_pos hv, List.append_nil])
      clear hv HK
      go_wp2
      go_roundw
      case rel => exact ⟨k + 1, by omega, by go_num, by rw [HK2.out]; exact hw, hB2⟩
      case measure => simp [intOf]; omega
     have HK2 : Hid (keepUp l (k + 1) = keepUp l k ++ [b]) := Lib.hid (by rw [HK.out, if_neg (by rw [hv]; decide)])
     clear hv HK
     have x5 := k5.cell
     generalize keepUp l k = ks at *
     go_upto_region 15 with fail
     refine wp_region_lit ?_
     iterate 2
      refine wpList_plain rfl (fun K hK => ?_)
      go_simp
      refine hK _ _ ?_
      clear hK K
     have hown := hw.lt
     have hpn0 := hp0.grows hB2
     have hpn : BoxP _ (Aq (Nk w.heap.size base) _) b A1 c1 A2 c2 A3 c3 := hpn0.mono fun k hk => ⟨.inl hk, fun e => by have := (hown _ e).1; have := hk.2; omega⟩
     clear hpn0 k5 x5 hp hg hB
     refine wpList_plain rfl (fun K hK => ?_)
     go_simp
     refine hK _ _ ?_
     clear hK K
     have hL := bxs_lit hpn ⟨.inr hB2.size, fun e => by have := (hown _ e).2; omega⟩
     have hq := (Below.refl wr.heap.size wr).alloc (Nat.le_refl _) (Obj.cells #[.int .i64 b.k, .slice A1 b.r.length c1, .slice A2 b.m.length c2, .slice A3 b.s.length c3] 61)
     replace hw := hw.grows hq
     have hB3 := below_grows hB2 (Nat.le_refl _) hq
     have hown3 := hw.lt
     clear hq hpn hown hB2
     refine wpList_append_boxesq rfl (.tmp 48) (.tmp 50) rfl (m := [b]) rfl rfl hw rfl hL (by simp only [List.length_singleton]; omega) hB3.size ?_
     intro v5 w12 ho2 hgr _
     replace hB3 := hB3.grown hgr hB3.size (fun q e => (hown3 q e).1)
     clear hown3 hgr hw hL
     generalize ks ++ [b] = ks2 at *
     go_wp2
     go_roundw
     case rel => exact ⟨k + 1, by omega, by go_num, by rw [HK2.out]; exact ho2, hB3⟩
     case measure => simp [intOf]; omega
  ·obtain rfl : k = l.length := by omega
   obtain ⟨A9, c9, e9, hc9, -⟩ := hw.read
   rw [e9] at hw ⊢
   generalize hks : keepUp l l.length = ks at *
   have HKS := Lib.hid hks
   clear hks
   go_wp2
   refine bodyPost_ret (v := .tuple #[.slice A9 ks.length c9, .int .i64 0]) (by simp [results, Tryz.results30, go_sem]) rfl ?_
   rw [HR.out]
   exact ⟨⟨_, rfl, hw⟩, hB⟩
set_option maxHeartbeats 64000000 in
set_option maxRecDepth 10000 in
theorem rproductq_any {ba bb : Nat → Prop} {A B : Option Addr} {c d n m : Nat} {a b : List Bx} {w : World} (dd : Int) (hn : n = a.length) (hm : m = b.length) (ha : Bxs w ba A a) (hb : Bxs w bb B b) (hla : a.length ≤ 100000) (hlb : b.length ≤ 100000) (hoa : ∀ x ∈ a, OKB x) (hob : ∀ x ∈ b, OKB x) :
 Calls Tryz.prog 31 #[.slice A n c, .slice B m d, .int .i64 dd] w fun e w' => (∃ v, e = .returned (.tuple #[v, .int .i64 (productF dd a b).2]) ∧ OwnBq w' w.heap.size (Nk w.heap.size ba) v (productF dd a b).1) ∧ Grows w w' := by
 subst hn hm
 have HOA := Lib.hid hoa
 have HOB := Lib.hid hob
 clear hoa hob
 replace ha := ha.bd
 have hB := Below.refl w.heap.size w
 go_enter Tryz.func31, Tryz.ntmps31
 go_wp2_with fail
 go_loopw [8, 18] (fun v i wr => ∃ (k : Nat) (out : List Bx), k ≤ a.length ∧ i = .int .i64 k ∧ Hid ((a.take k).foldl (prodRow dd b) (some []) = some out) ∧ Hid (∀ z ∈ out, OKB z) ∧ out.length ≤ 64 ∧ OwnBq wr w.heap.size (Nk w.heap.size ba) v out ∧ Below w.heap.size w wr) (fun _ i _ => a.length - (intOf i).toNat)
 case atStart => exact ⟨0, [], by omega, rfl, Lib.hid rfl, Lib.hid (fun z hz => by cases hz), by simp, OwnBq.nil, hB⟩
 case round =>
  clear hB
  obtain ⟨k, out0, hk, rfl, HK, HOO, hol, hw, hB⟩ := hrel
  by_cases hlt : k < a.length
  ·obtain ⟨ad, x, A1, c1, A2, c2, A3, c3, e1, had, hx, hpx, q0, q1, q2, q3⟩ := ha.elemB hB hlt
   subst e1
   have HX := Lib.hid hx
   have hox := HOA.out x (List.mem_of_getElem? hx)
   clear hx
   have k8 := Blk.new wr 61 #[.int .i64 x.k, .slice A1 x.r.length c1, .slice A2 x.m.length c2, .slice A3 x.s.length c3]
   have hne := fun e => Nat.lt_irrefl _ (hw.lt _ e).2
   have hq := (Below.refl wr.heap.size wr).alloc (Nat.le_refl _) (Obj.cells #[.int .i64 x.k, .slice A1 x.r.length c1, .slice A2 x.m.length c2, .slice A3 x.s.length c3] 61)
   go_upto_region 5 with fail
   replace hB := below_grows hB (Nat.le_refl _) hq
   replace hw := hw.grows hq
   clear hq q0 q1 q2 q3
   generalize World.alloc wr _ = w5 at *
   generalize wr.heap.size = G8 at *
   have hB5 := hB
   clear hB
   go_wp2_with fail
   go_loopw [8, 24] (fun v i wq => ∃ (j : Nat) (out : List Bx), j ≤ b.length ∧ i = .int .i64 j ∧ Hid ((b.take j).foldl (prodStep dd x) (some out0) = some out) ∧ Hid (∀ z ∈ out, OKB z) ∧ out.length ≤ 64 ∧ OwnBq wq w.heap.size (Nk w.heap.size ba) v out ∧ v.ownBlock ≠ some G8 ∧ Blk wq G8 61 #[.int .i64 x.k, .slice A1 x.r.length c1, .slice A2 x.m.length c2, .slice A3 x.s.length c3] ∧ Below w.heap.size w wq) (fun _ i _ => b.length - (intOf i).toNat)
   case atStart => exact ⟨0, out0, by omega, rfl, Lib.hid rfl, HOO, hol, hw, hne, k8, hB5⟩
   case round =>
    clear hw k8 hB5 HOO hol hne
    obtain ⟨j, out, hj, rfl, HJ, HOO, hol, hw, hne, k8, hB⟩ := hrel
    by_cases hjt : j < b.length
    ·obtain ⟨ad2, y, B1, d1, B2, d2, B3, d3, e2, had2, hy, hpy, q0, q1, q2, q3⟩ := hb.elemB hB hjt
     subst e2
     have HY := Lib.hid hy
     have hoy := HOB.out y (List.mem_of_getElem? hy)
     clear hy
     have k10 := Blk.new wr 61 #[.int .i64 y.k, .slice B1 y.r.length d1, .slice B2 y.m.length d2, .slice B3 y.s.length d3]
     have hq := (Below.refl wr.heap.size wr).alloc (Nat.le_refl _) (Obj.cells #[.int .i64 y.k, .slice B1 y.r.length d1, .slice B2 y.m.length d2, .slice B3 y.s.length d3] 61)
     go_upto_region 8 with fail
     replace hB := below_grows hB (Nat.le_refl _) hq
     replace hw := hw.grows hq
     replace k8 := k8.grows hq
     clear hq q0 q1 q2 q3
     generalize World.alloc wr _ = w6 at *
     generalize wr.heap.size = G10 at *
     have x8 := k8.cell
     have x10 := k10.cell
     have hown := hw.lt
     go_wp2_with fail
     refine (rdims_any (hpx.grows hB) (hpy.grows hB) hox hoy dd).mono ?_
     have hoz := okb_dims (y := y) (d := dd) hox
     have HPS : Hid (someB (dimsF dd x y) = false → prodStep dd x (some out) y = some out) := Lib.hid prodStep_no
     have HPY : Hid (someB (dimsF dd x y) = true → manyB dd (dimsF dd x y) = false → out.length < 64 → prodStep dd x (some out) y = some (out ++ [dimsF dd x y])) := Lib.hid prodStep_yes
     have HPN : Hid (someB (dimsF dd x y) = true → (manyB dd (dimsF dd x y) = true ∨ 64 ≤ out.length) → prodStep dd x (some out) y = none) := Lib.hid prodStep_stop
     generalize dimsF dd x y = z at *
     rintro e w7 ⟨⟨v2, rfl, E1, f1, E2, f2, E3, f3, rfl, hpz⟩, hq⟩
     have hs6 := hB.size
     replace hpz : BoxP w7 (Aq (Nk w.heap.size ba) _) z E1 f1 E2 f2 E3 f3 := hpz.mono fun k hk => ⟨hk.elim (fun h => .inl h.1) (fun h => .inr (by omega)), fun e => by
      have h9 := hown _ e
      rcases hk with h | h
      ·have := h.1.2; omega
      ·omega⟩
     replace hB := below_grows hB (Nat.le_refl _) hq
     replace hw := hw.grows hq
     replace k8 := k8.grows hq
     clear hq x8 x10 k10 hown hs6
     have k13 := Blk.new w7 61 #[.int .i64 z.k, .slice E1 z.r.length f1, .slice E2 z.m.length f2, .slice E3 z.s.length f3]
     have hq := (Below.refl w7.heap.size w7).alloc (Nat.le_refl _) (Obj.cells #[.int .i64 z.k, .slice E1 z.r.length f1, .slice E2 z.m.length f2, .slice E3 z.s.length f3] 61)
     replace hB := below_grows hB (Nat.le_refl _) hq
     replace hw := hw.grows hq
     replace k8 := k8.grows hq
     replace hpz := hpz.grows hq
     go_upto_region 9 with fail
     clear hq
     generalize World.alloc w7 _ = w8 at *
     generalize w7.heap.size = G13 at *
     cases hs : someB z
     case false =>
      have HN : Hid ((b.take (j + 1)).foldl (prodStep dd x) (some out0) = some out) := Lib.hid (by rw [fold_next HY.out, HJ.out]; exact HPS.out hs)
      clear hs k13 hpz
      go_wp2
      go_roundw
      case rel => exact ⟨j + 1, out, by omega, by go_num, HN, HOO, hol, hw, hne, k8, hB⟩
      case measure => simp [intOf]; omega
     have HS := Lib.hid hs
     clear hs
     obtain ⟨A9, c9, rfl, hc9, -⟩ := hw.read
     cases hm : manyB dd z
     case true =>
      have HE : Hid (productF dd a b = ([], 3)) := Lib.hid (product_lim (prod_stop HX.out HY.out HK.out HJ.out (HPN.out HS.out (.inl hm))))
      clear hm k13 hpz
      go_wp2
      refine bodyPost_ret (v := .tuple #[.slice none 0 0, .int .i64 3]) (by simp [results, Tryz.results31, go_sem]) rfl ?_
      rw [HE.out]
      exact ⟨⟨_, rfl, OwnBq.nil⟩, hB⟩
     have HM := Lib.hid hm
     clear hm
     by_cases h1 : 64 ≤ out.length
     case pos =>
      have dq : decide ((64 : Int) ≤ (out.length : Int)) = true := by simp only [decide_eq_true_eq]; omega
      have dq2 : decide (64 ≤ out.length) = true := by simpa using h1
      have HE : Hid (productF dd a b = ([], 3)) := Lib.hid (product_lim (prod_stop HX.out HY.out HK.out HJ.out (HPN.out HS.out (.inr h1))))
      clear h1 k13 hpz
      go_wp2
      refine bodyPost_ret (v := .tuple #[.slice none 0 0, .int .i64 3]) (by simp [results, Tryz.results31, go_sem]) rfl ?_
      rw [HE.out]
      exact ⟨⟨_, rfl, OwnBq.nil⟩, hB⟩
     have dq : decide ((64 : Int) ≤ (out.length : Int)) = false := by simp only [decide_eq_false_iff_not]; omega
     have dq2 : decide (64 ≤ out.length) = false := by simpa using h1
     have HN : Hid ((b.take (j + 1)).foldl (prodStep dd x) (some out0) = some (out ++ [z])) := Lib.hid (by rw [fold_next HY.out, HJ.out]; exact HPY.out HS.out HM.out (by omega))
     have hol2 : (out ++ [z]).length ≤ 64 := by rw [List.length_append, List.length_singleton]; omega
     have HOO2 := Lib.hid (okb_snoc HOO.out hoz)
     clear h1 HJ HPS HPY HPN
     have x13 := k13.cell
     go_upto_region 12 with fail
     refine wp_region_lit ?_
     iterate 3
      refine wpList_plain rfl (fun K hK => ?_)
      go_simp
      refine hK _ _ ?_
      clear hK K
     have hown := hw.lt
     have hL := bxs_lit hpz ⟨.inr hB.size, fun e => by have := (hown _ e).2; omega⟩
     have hq := (Below.refl w8.heap.size w8).alloc (Nat.le_refl _) (Obj.cells #[.int .i64 z.k, .slice E1 z.r.length f1, .slice E2 z.m.length f2, .slice E3 z.s.length f3] 61)
     replace hw := hw.grows hq
     replace hB := below_grows hB (Nat.le_refl _) hq
     replace k8 := k8.grows hq
     have hown3 := hw.lt
     clear hq hpz hown x13 k13
     refine wpList_append_boxesq rfl (.tmp 44) (.tmp 46) rfl (m := [z]) rfl rfl hw rfl hL (by simp only [List.length_singleton]; omega) hB.size ?_
     intro v5 w12 ho2 hgr hv5
     have hne2 : v5.ownBlock ≠ some G8 := by
      rcases hv5 with e | e
      ·rw [e]; exact hne
      ·rw [e]; intro e2; injection e2 with e2; have := k8.lt; omega
     replace hB := hB.grown hgr hB.size (fun q e => (hown3 q e).1)
     replace k8 := k8.grown hgr (fun e => hne e.symm)
     clear hown3 hgr hw hL
     generalize out ++ [z] = out2 at *
     go_wp2
     go_roundw
     case rel => exact ⟨j + 1, out2, by omega, by go_num, HN, HOO2, hol2, ho2, hne2, k8, hB⟩
     case measure => simp [intOf]; omega
    ·have HN : Hid ((a.take (k + 1)).foldl (prodRow dd b) (some []) = some out) := Lib.hid (by rw [fold_next HX.out, HK.out]; have := HJ.out; rwa [List.take_of_length_le (by omega)] at this)
     go_wp2
     go_roundw
     case rel => exact ⟨k + 1, out, by omega, by go_num, HN, HOO, hol, hw, hB⟩
     case measure => simp [intOf]; omega
  ·have HE : Hid (productF dd a b = reduceF out0) := Lib.hid (product_ok (by have := HK.out; rwa [List.take_of_length_le (by omega)] at this))
   obtain ⟨A9, c9, rfl, hc9, hxo⟩ := hw.read
   go_wp2_with fail
   refine (rreduceq_any rfl hxo (by omega) HOO.out).mono ?_
   rintro e w3 ⟨⟨v, rfl, hw2⟩, hq2⟩
   have hs := hB.size
   replace hB := below_grows hB (Nat.le_refl _) hq2
   go_wp2
   refine bodyPost_ret (v := .tuple #[v, .int .i64 (reduceF out0).2]) (by simp [results, Tryz.results31, go_sem]) rfl ?_
   rw [HE.out]
   exact ⟨⟨_, rfl, hw2.lower hs (fun k hk => hk.elim (fun h => h.1.elim id .inr) (fun h => .inr (by omega)))⟩, hB⟩
set_option maxHeartbeats 16000000 in
theorem rnvalid_any {ok : Nat → Prop} {A : Option Addr} {c n : Nat} {l : List Pt} {w : World} (hn : n = l.length) (h : Pts w ok A l) (hl : l.length ≤ 1000000) (ho : ∀ p ∈ l, (∀ b ∈ p.b, OKB b) ∧ p.b.length ≤ 1000000) :
 Calls Tryz.prog 13 #[.slice A n c] w fun e w' => e = .returned (.bool (validC l)) ∧ Grows w w' := by
 subst hn
 have HO := Lib.hid ho
 clear ho
 have HV : Hid (validC l = (l.all portOk && decide (1 ≤ l.length) && decide (l.length ≤ 16))) := Lib.hid rfl
 have hB := Below.refl w.heap.size w
 go_enter Tryz.func13, Tryz.ntmps13
 go_wp2_with fail
 go_loopw [7] (fun i wr => ∃ k : Nat, k ≤ l.length ∧ i = .int .i64 k ∧ Hid ((l.take k).all portOk = true) ∧ Below w.heap.size w wr) (fun i _ => l.length - (intOf i).toNat)
 case atStart => exact ⟨0, by omega, rfl, Lib.hid rfl, hB⟩
 case round =>
  clear hB
  obtain ⟨k, hk, rfl, HK, hB⟩ := hrel
  by_cases hlt : k < l.length
  ·obtain ⟨ad, p, B, cp, e1, had, hp, hbx, hcp, q0, q1⟩ := h.elem hB hlt
   subst e1
   have HP := Lib.hid hp
   obtain ⟨ob, ol⟩ := HO.out p (List.mem_of_getElem? hp)
   have HOB := Lib.hid ob
   clear hp ob
   have HNO : Hid (portOk p = false → validC l = false) := Lib.hid (fun hf => by
    rw [HV.out, Bool.and_assoc]
    have : l.all portOk = false := List.all_eq_false.2 ⟨p, List.mem_of_getElem? HP.out, by rw [hf]; simp⟩
    rw [this, Bool.false_and])
   have HYE : Hid (portOk p = true → (l.take (k + 1)).all portOk = true) := Lib.hid (fun hf => by rw [all_next HP.out, HK.out, hf]; rfl)
   have HPO : Hid (portOk p = (decide (p.b.length ≤ 8) && validL p.b && decide (0 ≤ p.v) && decide (p.v ≤ 15))) := Lib.hid rfl
   have k8 := Blk.new wr 47 #[.slice B p.b.length cp, .int .i64 p.v]
   have hq := (Below.refl wr.heap.size wr).alloc (Nat.le_refl _) (Obj.cells #[.slice B p.b.length cp, .int .i64 p.v] 47)
   go_upto_region 4 with fail
   replace hB := below_grows hB (Nat.le_refl _) hq
   clear hq q0 q1
   generalize World.alloc wr _ = w5 at *
   generalize wr.heap.size = G8 at *
   have x8 := k8.cell
   by_cases h1 : p.b.length ≤ 8
   case neg =>
    have HE : Hid (validC l = false) := Lib.hid (HNO.out (by rw [HPO.out, decide_eq_false h1]; rfl))
    have e1 : decide ((8 : Int) < (p.b.length : Int)) = true := by simp only [decide_eq_true_eq]; omega
    have e2 : decide (8 < p.b.length) = true := by simp only [decide_eq_true_eq]; omega
    clear h1
    go_wp2
    go_ret
    exact ⟨ret_bool HE.out.symm, hB⟩
   have e1 : decide ((8 : Int) < (p.b.length : Int)) = false := by simp only [decide_eq_false_iff_not]; omega
   have e2 : decide (8 < p.b.length) = false := by simp only [decide_eq_false_iff_not]; omega
   go_wp2_with fail
   refine (rvalidl_any B cp ok p.b _ (hbx.grows hB) (by omega) HOB.out).mono ?_
   rintro e w6 ⟨rfl, hq⟩
   replace hB := below_grows hB (Nat.le_refl _) hq
   replace k8 := k8.grows hq
   clear hq x8
   have x8 := k8.cell
   cases hv : validL p.b
   ·have HE : Hid (validC l = false) := Lib.hid (HNO.out (by rw [HPO.out, hv, Bool.and_false]; rfl))
    clear hv
    go_wp2
    go_ret
    exact ⟨ret_bool HE.out.symm, hB⟩
   by_cases h2 : 0 ≤ p.v
   case neg =>
    have HE : Hid (validC l = false) := Lib.hid (HNO.out (by rw [HPO.out, decide_eq_false h2, Bool.and_false]; rfl))
    have e3 : decide (p.v < 0) = true := by simp only [decide_eq_true_eq]; omega
    clear h2 hv
    go_wp2
    go_ret
    exact ⟨ret_bool HE.out.symm, hB⟩
   have e3 : decide (p.v < 0) = false := by simp only [decide_eq_false_iff_not]; omega
   by_cases h3 : p.v ≤ 15
   case neg =>
    have HE : Hid (validC l = false) := Lib.hid (HNO.out (by rw [HPO.out, decide_eq_false h3, Bool.and_false]))
    have e4 : decide (15 < p.v) = true := by simp only [decide_eq_true_eq]; omega
    clear h2 h3 hv
    go_wp2
    go_ret
    exact ⟨ret_bool HE.out.symm, hB⟩
   have e4 : decide (15 < p.v) = false := by simp only [decide_eq_false_iff_not]; omega
   have HE := Lib.hid (HYE.out (by rw [HPO.out, hv, decide_eq_true h1, decide_eq_true h2, decide_eq_true h3]; rfl))
   clear h1 h2 h3 hv
   go_wp2
   go_roundw
   case rel => exact ⟨k + 1, by omega, by go_num, HE, hB⟩
   case measure => simp [intOf]; omega
  ·have HA : Hid (validC l = (decide (1 ≤ l.length) && decide (l.length ≤ 16))) := Lib.hid (by
    have := HK.out
    rw [List.take_of_length_le (by omega)] at this
    rw [HV.out, this, Bool.true_and])
   by_cases h1 : 1 ≤ l.length
   ·have e1 : decide ((1 : Int) ≤ (l.length : Int)) = true := by simp only [decide_eq_true_eq]; omega
    have e2 : decide ((l.length : Int) ≤ 16) = decide (l.length ≤ 16) := by rw [decide_eq_decide]; omega
    have HE : Hid (validC l = decide (l.length ≤ 16)) := Lib.hid (by rw [HA.out, decide_eq_true h1, Bool.true_and])
    clear h1
    go_wp2
    go_ret
    exact ⟨ret_bool (by first | exact HE.out.symm | (rw [HE.out, decide_eq_decide]; omega)), hB⟩
   ·have e1 : decide ((1 : Int) ≤ (l.length : Int)) = false := by simp only [decide_eq_false_iff_not]; omega
    have HE : Hid (validC l = false) := Lib.hid (by rw [HA.out, decide_eq_false h1]; rfl)
    clear h1
    go_wp2
    go_ret
    exact ⟨ret_bool HE.out.symm, hB⟩
end Go.Proofs.YtjbkjgmcfommgaaGreat

namespace Go.Proofs.YtjbkjgmcfommgaaGreat
open Go.RowKit
def rowM (n : Nat) : Nat → List Int
 | 0 => []
 | k + 1 => rowM n k ++ (if ones ((k + 1 : Nat) : Int) = (n : Int) then [((k + 1 : Nat) : Int)] else [])
def outM : Nat → List Int
 | 0 => []
 | n + 1 => outM n ++ rowM (n + 1) 15
theorem out_masks : outM 4 = masksL := by decide +kernel
theorem row_len (n : Nat) : ∀ k, (rowM n k).length ≤ k := by
 intro k
 induction k with
 | zero => exact Nat.le_refl _
 | succ k ih =>
  show (rowM n k ++ _).length ≤ _
  rw [List.length_append]
  split <;> simp <;> omega
theorem out_len : ∀ n, (outM n).length ≤ n * 15 := by
 intro n
 induction n with
 | zero => exact Nat.le_refl _
 | succ n ih =>
  show (outM n ++ _).length ≤ _
  rw [List.length_append]
  have := row_len (n + 1) 15
  omega
theorem mask_fin : ∀ s : Fin 16, (bits .andNot .i64 (s.val : Int) 15 == 0) = true ∧ 0 ≤ bits .and .i64 (s.val : Int) 1 ∧ bits .and .i64 (s.val : Int) 1 ≤ 1 ∧ 0 ≤ bits .and .i64 ((s.val : Int) / 2) 1 ∧ bits .and .i64 ((s.val : Int) / 2) 1 ≤ 1 ∧ 0 ≤ bits .and .i64 ((s.val : Int) / 4) 1 ∧ bits .and .i64 ((s.val : Int) / 4) 1 ≤ 1 ∧ 0 ≤ bits .and .i64 ((s.val : Int) / 8) 1 ∧ bits .and .i64 ((s.val : Int) / 8) 1 ≤ 1 ∧ bits .and .i64 (s.val : Int) 1 + bits .and .i64 ((s.val : Int) / 2) 1 + bits .and .i64 ((s.val : Int) / 4) 1 + bits .and .i64 ((s.val : Int) / 8) 1 = ones (s.val : Int) := by decide +kernel
theorem mask_at {s : Nat} (h : s ≤ 15) : (bits .andNot .i64 (s : Int) 15 == 0) = true ∧ 0 ≤ bits .and .i64 (s : Int) 1 ∧ bits .and .i64 (s : Int) 1 ≤ 1 ∧ 0 ≤ bits .and .i64 ((s : Int) / 2) 1 ∧ bits .and .i64 ((s : Int) / 2) 1 ≤ 1 ∧ 0 ≤ bits .and .i64 ((s : Int) / 4) 1 ∧ bits .and .i64 ((s : Int) / 4) 1 ≤ 1 ∧ 0 ≤ bits .and .i64 ((s : Int) / 8) 1 ∧ bits .and .i64 ((s : Int) / 8) 1 ≤ 1 ∧ bits .and .i64 (s : Int) 1 + bits .and .i64 ((s : Int) / 2) 1 + bits .and .i64 ((s : Int) / 4) 1 + bits .and .i64 ((s : Int) / 8) 1 = ones (s : Int) := mask_fin ⟨s, by omega⟩
end Go.Proofs.YtjbkjgmcfommgaaGreat

namespace Go.Proofs.YtjbkjgmcfommgaaGreat
open Go.RowKit
theorem find_here {p : Int → Bool} {M : List Int} {k : Nat} {z : Int} (h : M[k]? = some z) (hb : ∀ y ∈ M.take k, p y = false) (hz : p z = true) : M.find? p = some z := by
 have hk := (List.getElem?_eq_some_iff.1 h).1
 have e : M = M.take k ++ (z :: M.drop (k + 1)) := by
  have h1 := (List.take_append_drop k M).symm
  rw [List.drop_eq_getElem_cons hk] at h1
  have h2 := (List.getElem?_eq_some_iff.1 h).2
  rw [h2] at h1
  exact h1
 have h1 : (M.take k).find? p = none := List.find?_eq_none.2 (fun y hy => by rw [hb y hy]; simp)
 rw [e, List.find?_append, h1, List.find?_cons, hz]
 rfl
theorem any_next {α : Type} {l : List α} {p : α → Bool} {k : Nat} {x : α} (h : l[k]? = some x) : (l.take (k + 1)).any p = ((l.take k).any p || p x) := by
 rw [take_snoc h, List.any_append, List.any_cons, List.any_nil, Bool.or_false]
end Go.Proofs.YtjbkjgmcfommgaaGreat

namespace Go.Proofs.YtjbkjgmcfommgaaGreat
open Go.RowKit
/-- Whether a set lies in some dimensions. -/
def inDim (d s : Int) : Bool := bits .andNot .i64 s d == 0
theorem filt_snoc (p : Int → Bool) (l m : List Int) (s : Int) : (l ++ (m ++ [s])).filter p = (l ++ m).filter p ++ (if p s = true then [s] else []) := by
 rw [← List.append_assoc, List.filter_append]
 congr 1
 cases h : p s <;> simp [h]
theorem row_filt (p : Int → Bool) (q : List Int) (z k : Nat) : (q ++ rowM z (k + 1)).filter p = (q ++ rowM z k).filter p ++ (if (p ((k + 1 : Nat) : Int) && decide (ones ((k + 1 : Nat) : Int) = (z : Int))) = true then [((k + 1 : Nat) : Int)] else []) := by
 show (q ++ (rowM z k ++ (if ones ((k + 1 : Nat) : Int) = (z : Int) then [((k + 1 : Nat) : Int)] else []))).filter p = _
 by_cases h : ones ((k + 1 : Nat) : Int) = (z : Int)
 ·rw [if_pos h, filt_snoc, decide_eq_true h, Bool.and_true]
 ·rw [if_neg h, List.append_nil, decide_eq_false h, Bool.and_false, if_neg (by simp), List.append_nil]
set_option maxHeartbeats 16000000 in
set_option maxRecDepth 100000 in
theorem masksd_any (dd : Int) (w : World) :
 Calls Tryz.prog 57 #[.int .i64 dd] w fun e w' => (∃ A c, e = .returned (.slice A (masksD dd).length c) ∧ Ints w' A (masksD dd)) ∧ Grows w w' := by
 have hB := Below.refl w.heap.size w
 have HMD : Hid (masksD dd = masksL.filter (inDim dd)) := Lib.hid rfl
 go_enter Tryz.func57, Tryz.ntmps57
 go_wp2_with fail
 go_loopw [3, 4] (fun v i wr => ∃ n z : Nat, z = n + 1 ∧ n ≤ 4 ∧ i = .int .i64 z ∧ OwnI wr w.heap.size v ((outM n).filter (inDim dd)) ∧ Below w.heap.size w wr) (fun _ i _ => 5 - (intOf i).toNat)
 case atStart => exact ⟨0, 1, rfl, by omega, rfl, ownI_nil _ _, hB⟩
 case round =>
  clear hB
  obtain ⟨n, z, hz, hn, rfl, ho, hB⟩ := hrel
  by_cases hlt : n < 4
  ·have d1 : decide ((z : Int) ≤ 4) = true := by simp only [decide_eq_true_eq]; omega
   have hwn : IntKind.i64.wrap ((z : Int) + 1) = ((z + 1 : Nat) : Int) := by rw [IntWalk.i64_in _ (by omega)]; rfl
   have hol := out_len n
   have hz5 : z ≤ 4 := by omega
   have HZ := Lib.hid hz
   clear hz hlt
   go_wp2_with fail
   go_loopw [3, 5] (fun v i wq => ∃ k s : Nat, s = k + 1 ∧ k ≤ 15 ∧ i = .int .i64 s ∧ OwnI wq w.heap.size v ((outM n ++ rowM z k).filter (inDim dd)) ∧ Below w.heap.size w wq) (fun _ i _ => 16 - (intOf i).toNat)
   case atStart => exact ⟨0, 1, rfl, by omega, rfl, by rw [show rowM z 0 = [] from rfl, List.append_nil]; exact ho, hB⟩
   case round =>
    clear ho hB
    obtain ⟨k, s, hs, hk, rfl, ho, hB⟩ := hrel
    by_cases hkt : k < 15
    ·have d2 : decide ((s : Int) ≤ 15) = true := by simp only [decide_eq_true_eq]; omega
     have hws : IntKind.i64.wrap ((s : Int) + 1) = ((s + 1 : Nat) : Int) := by rw [IntWalk.i64_in _ (by omega)]; rfl
     obtain ⟨-, a1, a2, a3, a4, a5, a6, a7, a8, m2⟩ := mask_at (s := s) (by omega)
     have hrl := row_len z k
     have HR := Lib.hid (row_filt (inDim dd) (outM n) z k)
     rw [← hs] at HR
     have HS := Lib.hid hs
     have HN : s ≤ 15 := by omega
     have HL : ((outM n ++ rowM z k).filter (inDim dd)).length ≤ 1000 := Nat.le_trans (List.length_filter_le _ _) (by rw [List.length_append]; omega)
     have w1 : wrap64 (bits .and .i64 (s : Int) 1 + bits .and .i64 ((s : Int) / 2) 1) = bits .and .i64 (s : Int) 1 + bits .and .i64 ((s : Int) / 2) 1 := IntWalk.wrap64_in _ (by omega)
     have w2 : wrap64 (bits .and .i64 (s : Int) 1 + bits .and .i64 ((s : Int) / 2) 1 + bits .and .i64 ((s : Int) / 4) 1) = bits .and .i64 (s : Int) 1 + bits .and .i64 ((s : Int) / 2) 1 + bits .and .i64 ((s : Int) / 4) 1 := IntWalk.wrap64_in _ (by omega)
     have w3 : wrap64 (bits .and .i64 (s : Int) 1 + bits .and .i64 ((s : Int) / 2) 1 + bits .and .i64 ((s : Int) / 4) 1 + bits .and .i64 ((s : Int) / 8) 1) = ones (s : Int) := (IntWalk.wrap64_in _ (by omega)).trans m2
     clear a1 a2 a3 a4 a5 a6 a7 a8 m2 hs hrl hol hkt
     cases hp : inDim dd (s : Int) with
     | false =>
      have HQ : Hid ((outM n ++ rowM z s).filter (inDim dd) = (outM n ++ rowM z k).filter (inDim dd)) := Lib.hid (by rw [HR.out, hp, Bool.false_and, if_neg (by simp), List.append_nil])
      have m1 : (bits .andNot .i64 (s : Int) dd == 0) = false := hp
      have m3 : decide (bits .andNot .i64 (s : Int) dd = 0) = false := by simpa using m1
      clear hp HR
      rw [← HQ.out] at ho
      go_wp2
      go_roundw
      case rel => exact ⟨s, s + 1, rfl, HN, by go_num, ho, hB⟩
      case measure => simp [intOf]; omega
     | true =>
     have m1 : (bits .andNot .i64 (s : Int) dd == 0) = true := hp
     have m3 : decide (bits .andNot .i64 (s : Int) dd = 0) = true := by simpa using m1
     by_cases hoz : ones (s : Int) = (z : Int)
     ·have e3 : (ones (s : Int) == (z : Int)) = true := by simpa using hoz
      have HQ : Hid ((outM n ++ rowM z s).filter (inDim dd) = (outM n ++ rowM z k).filter (inDim dd) ++ [(s : Int)]) := Lib.hid (by rw [HR.out, hp, decide_eq_true hoz]; rfl)
      clear hoz HR hp
      generalize ho1 : (outM n ++ rowM z k).filter (inDim dd) = q at *
      clear ho1
      go_upto_region 9 with fail
      refine wp_region_lit ?_
      iterate 2
       refine wpList_plain rfl (fun K hK => ?_)
       go_simp
       refine hK _ _ ?_
       clear hK K
      have hr := ints_lits wr [(s : Int)] #[.int .i64 (s : Int)] 3 rfl
      have hq := (Below.refl wr.heap.size wr).alloc (Nat.le_refl _) (Obj.cells #[.int .i64 (s : Int)] 3)
      iterate 1
       refine wpList_plain rfl (fun K hK => ?_)
       go_simp
       refine hK _ _ ?_
       clear hK K
      have ho1 := ho.grows hq
      refine wpList_append_int rfl (.tmp 36) (.tmp 38) rfl (l := q) (m := [(s : Int)]) rfl rfl ho1 rfl hr (by simp only [List.length_cons, List.length_nil]; omega) (Nat.le_trans hB.size hq.size) ?_
      intro v5 w12 ho2 hgr _
      have hB2 := ho1.below (below_grows hB (Nat.le_refl _) hq) hgr (Nat.le_trans hB.size hq.size)
      clear hq hgr ho ho1 hB hr
      rw [← HQ.out] at ho2
      go_wp2
      go_roundw
      case rel => exact ⟨s, s + 1, rfl, HN, by go_num, ho2, hB2⟩
      case measure => simp [intOf]; omega
     ·have e3 : (ones (s : Int) == (z : Int)) = false := by simpa using hoz
      have HQ : Hid ((outM n ++ rowM z s).filter (inDim dd) = (outM n ++ rowM z k).filter (inDim dd)) := Lib.hid (by rw [HR.out, hp, decide_eq_false hoz, Bool.and_false, if_neg (by simp), List.append_nil])
      clear hoz HR hp
      rw [← HQ.out] at ho
      go_wp2
      go_roundw
      case rel => exact ⟨s, s + 1, rfl, HN, by go_num, ho, hB⟩
      case measure => simp [intOf]; omega
    ·obtain rfl : k = 15 := by omega
     subst hs
     have HQ : Hid (outM z = outM n ++ rowM z 15) := Lib.hid (by rw [HZ.out]; rfl)
     rw [← HQ.out] at ho
     clear hol
     go_wp2
     go_roundw
     case rel => exact ⟨z, z + 1, rfl, hz5, by go_num, ho, hB⟩
     case measure => simp [intOf]; omega
  ·obtain rfl : n = 4 := by omega
   subst hz
   rw [out_masks, ← HMD.out] at ho
   obtain ⟨A, c, rfl, hc, hi⟩ := ho.read
   go_wp2
   go_ret
   exact ⟨⟨A, c, rfl, hi⟩, hB⟩
set_option maxHeartbeats 64000000 in
set_option maxRecDepth 10000 in
theorem rapartd_any {ba bb : Nat → Prop} {A B : Option Addr} {c d n m : Nat} {a b : List Bx} {w : World} (dm : Int) (hn : n = a.length) (hm : m = b.length) (ha : Bxs w ba A a) (hb : Bxs w bb B b) (hla : a.length ≤ 100000) (hlb : b.length ≤ 100000) (hoa : ∀ x ∈ a, OKB x) (hob : ∀ x ∈ b, OKB x) :
 Calls Tryz.prog 32 #[.slice A n c, .slice B m d, .int .i64 dm] w fun e w' => e = .returned (.int .i64 (apartD dm a b)) ∧ Grows w w' := by
 subst hn hm
 have HOA := Lib.hid hoa
 have HOB := Lib.hid hob
 clear hoa hob
 have HAZ : Hid (apartD dm a b = ((masksD dm).find? fun s => !metD s a b).getD 0) := Lib.hid rfl
 have hml : (masksD dm).length ≤ 15 := List.length_filter_le _ masksL
 have hB := Below.refl w.heap.size w
 have HMC := Lib.hid (masksd_any dm)
 go_enter Tryz.func32, Tryz.ntmps32
 go_wp2_with fail
 refine (HMC.out _).mono ?_
 clear HMC
 generalize (masksD dm) = M at *
 rintro e w1 ⟨⟨A4, c4, rfl, hi⟩, hq⟩
 replace hB := below_grows hB (Nat.le_refl _) hq
 clear hq
 have hB0 := hB
 clear hB
 go_wp2_with fail
 go_loopw [20] (fun i wr => ∃ k : Nat, k ≤ M.length ∧ i = .int .i64 k ∧ Hid (∀ s ∈ M.take k, (!metD s a b) = false) ∧ Grows w1 wr) (fun i _ => M.length - (intOf i).toNat)
 case atStart => exact ⟨0, by omega, rfl, Lib.hid (by simp), Below.refl _ _⟩
 case round =>
  obtain ⟨k, hk, rfl, HK, hg⟩ := hrel
  by_cases hlt : k < M.length
  ·obtain ⟨ad, dd, rfl, had, hx, q0⟩ := (hi.grows hg).at_ hlt
   have HD := Lib.hid hx
   have hB := below_grows hB0 (Nat.le_refl _) hg
   clear hx
   have HME : Hid (metD dd a b = a.any fun x => b.any fun y => someB (dimsF dd x y)) := Lib.hid rfl
   go_wp2_with fail
   clear q0
   have hg0 := hg
   clear hg
   go_loopw [9, 26] (fun v i wq => ∃ j : Nat, j ≤ a.length ∧ i = .int .i64 j ∧ v = .bool ((a.take j).any fun x => b.any fun y => someB (dimsF dd x y)) ∧ Grows w1 wq ∧ Below w.heap.size w wq) (fun _ i _ => a.length - (intOf i).toNat)
   case atStart => exact ⟨0, by omega, rfl, rfl, hg0, hB⟩
   case round =>
    clear hB
    obtain ⟨j, hj, rfl, rfl, hg, hB⟩ := hrel
    by_cases hjt : j < a.length
    ·obtain ⟨ad2, x, A1, c1, A2, c2, A3, c3, e1, had2, hx, hpx, q0, q1, q2, q3⟩ := ha.elemB hB hjt
     subst e1
     have HX := Lib.hid hx
     have hox := HOA.out x (List.mem_of_getElem? hx)
     have HNX : Hid (((a.take (j + 1)).any fun x => b.any fun y => someB (dimsF dd x y)) = (((a.take j).any fun x => b.any fun y => someB (dimsF dd x y)) || (b.any fun y => someB (dimsF dd x y)))) := Lib.hid (any_next hx)
     generalize ((a.take j).any fun x => b.any fun y => someB (dimsF dd x y)) = v0 at *
     clear hx
     have k8 := Blk.new wr 61 #[.int .i64 x.k, .slice A1 x.r.length c1, .slice A2 x.m.length c2, .slice A3 x.s.length c3]
     have hq := (Below.refl wr.heap.size wr).alloc (Nat.le_refl _) (Obj.cells #[.int .i64 x.k, .slice A1 x.r.length c1, .slice A2 x.m.length c2, .slice A3 x.s.length c3] 61)
     go_upto_region 8 with fail
     replace hB := below_grows hB (Nat.le_refl _) hq
     replace hg := below_grows hg (Nat.le_refl _) hq
     clear hq q0 q1 q2 q3
     generalize World.alloc wr _ = w5 at *
     generalize wr.heap.size = G8 at *
     have hB5 := hB
     have hg5 := hg
     clear hB hg
     go_wp2_with fail
     go_loopw [9, 32] (fun v i wq => ∃ h : Nat, h ≤ b.length ∧ i = .int .i64 h ∧ v = .bool (v0 || (b.take h).any fun y => someB (dimsF dd x y)) ∧ Blk wq G8 61 #[.int .i64 x.k, .slice A1 x.r.length c1, .slice A2 x.m.length c2, .slice A3 x.s.length c3] ∧ Grows w1 wq ∧ Below w.heap.size w wq) (fun _ i _ => b.length - (intOf i).toNat)
     case atStart => exact ⟨0, by omega, rfl, by simp, k8, hg5, hB5⟩
     case round =>
      clear k8 hB5 hg5
      obtain ⟨h, hh, rfl, rfl, k8, hg, hB⟩ := hrel
      by_cases hht : h < b.length
      ·obtain ⟨ad3, y, B1, d1, B2, d2, B3, d3, e2, had3, hy, hpy, q0, q1, q2, q3⟩ := hb.elemB hB hht
       subst e2
       have hoy := HOB.out y (List.mem_of_getElem? hy)
       have HNY : Hid (((b.take (h + 1)).any fun y => someB (dimsF dd x y)) = (((b.take h).any fun y => someB (dimsF dd x y)) || someB (dimsF dd x y))) := Lib.hid (any_next hy)
       generalize ((b.take h).any fun y => someB (dimsF dd x y)) = v1 at *
       clear hy
       have l8 := k8.lt
       have k10 := Blk.new wr 61 #[.int .i64 y.k, .slice B1 y.r.length d1, .slice B2 y.m.length d2, .slice B3 y.s.length d3]
       have hq := (Below.refl wr.heap.size wr).alloc (Nat.le_refl _) (Obj.cells #[.int .i64 y.k, .slice B1 y.r.length d1, .slice B2 y.m.length d2, .slice B3 y.s.length d3] 61)
       go_upto_region 11 with fail
       replace hB := below_grows hB (Nat.le_refl _) hq
       replace hg := below_grows hg (Nat.le_refl _) hq
       replace k8 := k8.grows hq
       clear hq q0 q1 q2 q3
       generalize World.alloc wr _ = w6 at *
       generalize wr.heap.size = G10 at *
       have x8 := k8.cell
       have x10 := k10.cell
       go_wp2_with fail
       refine (rdims_any (hpx.grows hB) (hpy.grows hB) hox hoy dd).mono ?_
       rintro e w7 ⟨⟨v, rfl, ⟨E1, f1, E2, f2, E3, f3, rfl, -⟩⟩, hq⟩
       replace hB := below_grows hB (Nat.le_refl _) hq
       replace hg := below_grows hg (Nat.le_refl _) hq
       replace k8 := k8.grows hq
       clear hq x8 x10 k10
       generalize dimsF dd x y = z at *
       have hq := (Below.refl w7.heap.size w7).alloc (Nat.le_refl _) (Obj.cells #[.int .i64 z.k, .slice E1 z.r.length f1, .slice E2 z.m.length f2, .slice E3 z.s.length f3] 61)
       go_upto_region 12 with fail
       replace hB := below_grows hB (Nat.le_refl _) hq
       replace hg := below_grows hg (Nat.le_refl _) hq
       replace k8 := k8.grows hq
       clear hq
       generalize World.alloc w7 _ = w8 at *
       generalize hsv : someB z = sv at *
       have HN : Hid ((v0 || v1 || sv) = (v0 || ((b.take (h + 1)).any fun y => someB (dimsF dd x y)))) := Lib.hid (by rw [HNY.out, Bool.or_assoc])
       generalize hvv : (v0 || v1) = vv at *
       clear hsv hvv HNY
       cases vv
       ·rw [Bool.false_or] at HN
        go_wp2
        go_roundw
        case rel => exact ⟨h + 1, by omega, by go_num, by rw [HN.out], k8, hg, hB⟩
        case measure => simp [intOf]; omega
       ·rw [Bool.true_or] at HN
        go_wp2
        go_roundw
        case rel => exact ⟨h + 1, by omega, by go_num, by rw [← HN.out], k8, hg, hB⟩
        case measure => simp [intOf]; omega
      ·rw [List.take_of_length_le (by omega), ← HNX.out]
       go_wp2
       go_roundw
       case rel => exact ⟨j + 1, by omega, by go_num, rfl, hg, hB⟩
       case measure => simp [intOf]; omega
    ·rw [List.take_of_length_le (by omega), ← HME.out]
     cases hv : metD dd a b
     ·have HE : Hid (apartD dm a b = dd) := Lib.hid (by rw [HAZ.out, find_here HD.out HK.out (by rw [hv]; rfl)]; rfl)
      clear hv
      go_wp2
      go_ret
      rw [HE.out]
      exact ⟨rfl, hB⟩
     ·have HN : Hid (∀ s ∈ M.take (k + 1), (!metD s a b) = false) := Lib.hid (by
       rw [take_snoc HD.out]
       intro s hs
       rcases List.mem_append.1 hs with hs | hs
       ·exact HK.out s hs
       ·simp only [List.mem_singleton] at hs
        subst hs
        rw [hv]
        rfl)
      clear hv
      go_wp2
      go_roundw
      case rel => exact ⟨k + 1, by omega, by go_num, HN, hg⟩
      case measure => simp [intOf]; omega
  ·have HE : Hid (apartD dm a b = 0) := Lib.hid (by
    rw [HAZ.out, List.find?_eq_none.2 (fun s hs => by rw [HK.out s (by rwa [List.take_of_length_le (by omega)])]; simp)]
    rfl)
   go_wp2
   go_ret
   rw [HE.out]
   exact ⟨rfl, below_grows hB0 (Nat.le_refl _) hg⟩
end Go.Proofs.YtjbkjgmcfommgaaGreat

namespace Go.Proofs.YtjbkjgmcfommgaaGreat
open Go.RowKit
/-- Not the block n. -/
def Nq (n : Nat) : Nat → Prop := fun k => k ≠ n
theorem nk_new {n m k : Nat} (h : Nk n (Under m) k ∨ n ≤ k) : k < m ∨ n ≤ k := by
 unfold Nk Under at h
 omega
def PsTo (ok : Nat → Prop) (s : List Bx) (e : Int) : GP := ⟨fun w v => ∃ A c, v = .tuple #[.slice A s.length c, .int .i64 e] ∧ s.length ≤ c ∧ Bxs w ok A s, fun w w' v h hg => by obtain ⟨A, c, e, hc, hx⟩ := h; exact ⟨A, c, e, hc, hx.grows hg⟩⟩
def PsNo (ok : Nat → Prop) (s : List Bx) : GP := ⟨fun w v => ∃ A c, v = .slice A s.length c ∧ s.length ≤ c ∧ Bxs w ok A s, fun w w' v h hg => by obtain ⟨A, c, e, hc, hx⟩ := h; exact ⟨A, c, e, hc, hx.grows hg⟩⟩
set_option maxHeartbeats 64000000 in
set_option maxRecDepth 10000 in
theorem rforward_any {ok : Nat → Prop} {A : Option Addr} {c n : Nat} {l : List Pt} {w : World} (hn : n = l.length) (h : Pts w ok A l) (hl : l.length ≤ 1000000) (ho : ∀ p ∈ l, (∀ b ∈ p.b, OKB b ∧ I64 b.k) ∧ p.b.length ≤ 1000000) :
 Calls Tryz.prog 11 #[.slice A n c] w fun e w' => (∃ v, e = .returned (.tuple #[v, .agg #[.int .i64 (forwardF l).2.1.1, .int .i64 (forwardF l).2.1.2], .int .i64 (forwardF l).2.2]) ∧ OwnLq w' w.heap.size (fun _ => True) v (forwardF l).1) ∧ Grows w w' := by
 subst hn
 have HO := Lib.hid ho
 clear ho
 replace h := h.under
 have k3 := Blk.new w 32 #[.int .i64 0, .int .i64 0]
 have hB := (Below.refl w.heap.size w).alloc (Nat.le_refl _) (Obj.cells #[.int .i64 0, .int .i64 0] 32)
 go_enter Tryz.func11, Tryz.ntmps11
 go_upto_region 1 with fail
 generalize World.alloc w _ = w1 at *
 have hs1 := k3.lt
 go_wp2_with fail
 refine (rnvalid_any rfl (h.grows hB) hl (fun p hp => ⟨fun b hb => ((HO.out p hp).1 b hb).1, (HO.out p hp).2⟩)).mono ?_
 rintro e w2 ⟨rfl, hq⟩
 replace hB := below_grows hB (Nat.le_refl _) hq
 replace k3 := k3.grows hq
 clear hq
 cases hv : validC l
 ·have HE : Hid (forwardF l = ([], (0, 0), 1)) := Lib.hid (fw_bad hv)
  clear hv h
  have x3 := k3.cell
  have f3 := k3.frozen
  have hB3 := (hB.setCell (p := ⟨w.heap.size, 0, none⟩) (Nat.le_refl _) (.int .i64 0)).setCell (p := ⟨w.heap.size, 1, none⟩) (Nat.le_refl _) (.int .i64 0)
  have x3z := ((k3.set_ 0 (.int .i64 0)).set_ 1 (.int .i64 0)).cell
  go_wp2
  generalize World.setCell (World.setCell w2 _ _) _ _ = wz at *
  refine bodyPost_ret (v := .tuple #[.slice none 0 0, .agg #[.int .i64 0, .int .i64 0], .int .i64 1]) (by simp [results, Tryz.results11, go_sem, x3z]) rfl ?_
  rw [HE.out]
  exact ⟨⟨_, rfl, OwnLq.nil⟩, hB3⟩
 have HV := Lib.hid hv
 clear hv
 go_wp2_with fail
 go_loopw [5, 19] (fun v i wr => ∃ (k : Nat) (ls : List (List Bx)), k ≤ l.length ∧ i = .int .i64 k ∧ Hid (ls.length = k) ∧ Hid (fwUp l k = (ls, (0, 0), 0)) ∧ OwnLq wr (w.heap.size + 1) (Nq w.heap.size) v ls ∧ Blk wr w.heap.size 32 #[.int .i64 0, .int .i64 0] ∧ Below w.heap.size w wr) (fun _ i _ => l.length - (intOf i).toNat)
 case atStart => exact ⟨0, [], by omega, rfl, Lib.hid rfl, Lib.hid rfl, OwnLq.nil, k3, hB⟩
 case round =>
  clear k3 hB hs1
  obtain ⟨k, ls, hk, rfl, HLN, HK, hw, k3, hB⟩ := hrel
  have hs1 := k3.lt
  by_cases hlt : k < l.length
  ·obtain ⟨ad, p, B, cp, e1, had, hp, hbx, hcp, q0, q1⟩ := h.elem hB hlt
   subst e1
   have HP := Lib.hid hp
   have HKO := Lib.hid (fun b hb => ((HO.out p (List.mem_of_getElem? hp)).1 b hb).2)
   obtain ⟨hfl, hv0, hv15, hp8⟩ := port_fl HV.out hp HKO.out
   have HFL := Lib.hid hfl
   clear hp hfl
   have hne8 := fun e => Nat.lt_irrefl _ (hw.lt _ e).2
   have k8 := Blk.new wr 47 #[.slice B p.b.length cp, .int .i64 p.v]
   have hq := (Below.refl wr.heap.size wr).alloc (Nat.le_refl _) (Obj.cells #[.slice B p.b.length cp, .int .i64 p.v] 47)
   go_upto_region 7 with fail
   replace hB := below_grows hB (Nat.le_refl _) hq
   replace hw := hw.grows hq
   replace k3 := k3.grows hq
   replace hbx := hbx.grows hB
   clear hq q0 q1
   have hs8 : wr.heap.size ≠ w.heap.size := by omega
   have hs9 := k8.lt
   generalize World.alloc wr _ = w5 at *
   generalize wr.heap.size = G8 at *
   have x8 := k8.cell
   by_cases hb0 : p.b.length = 0
   ·have HE : Hid (forwardF l = ([], ((k : Int), 15), 13)) := Lib.hid (fw_none HV.out HP.out HK.out hb0)
    have e1 : ((p.b.length : Int) == 0) = true := by rw [hb0]; rfl
    have e2 : decide ((p.b.length : Int) = 0) = true := by rw [hb0]; rfl
    clear hb0 h hw
    have x3 := k3.cell
    have f3 := k3.frozen
    have hB3 := (hB.setCell (p := ⟨w.heap.size, 0, none⟩) (Nat.le_refl _) (.int .i64 k)).setCell (p := ⟨w.heap.size, 1, none⟩) (Nat.le_refl _) (.int .i64 15)
    have x3z := ((k3.set_ 0 (.int .i64 k)).set_ 1 (.int .i64 15)).cell
    go_wp2
    generalize World.setCell (World.setCell w5 _ _) _ _ = wz at *
    refine bodyPost_ret (v := .tuple #[.slice none 0 0, .agg #[.int .i64 k, .int .i64 15], .int .i64 13]) (by simp [results, Tryz.results11, go_sem, x3z]) rfl ?_
    rw [HE.out]
    exact ⟨⟨_, rfl, OwnLq.nil⟩, hB3⟩
   have e1 : ((p.b.length : Int) == 0) = false := by simp only [beq_eq_false_iff_ne, ne_eq]; omega
   have e2 : decide ((p.b.length : Int) = 0) = false := by simp only [decide_eq_false_iff_not]; omega
   have HB0 := Lib.hid hb0
   clear hb0
   by_cases hk0 : k = 0
   ·subst hk0
    go_wp2_with fail
    refine (rreduceq_any rfl hbx (by omega) (fun b hb => okb_fine (HFL.out.1 b hb))).mono ?_
    rintro e w6 ⟨⟨v6, rfl, hw6⟩, hq⟩
    have hsz5 := hB.size
    have hown := hw.lt
    obtain ⟨A9, c9, rfl, hc9, hx9⟩ := hw6.read
    replace hx9 : Bxs w6 (Aq (Nq w.heap.size) _) A9 _ := hx9.mono fun k hk => ⟨by have := nk_new hk; show k ≠ w.heap.size; omega, fun e => by have h9 := hown _ e; have := nk_new hk; omega⟩
    replace hB := below_grows hB (Nat.le_refl _) hq
    replace hw := hw.grows hq
    replace k3 := k3.grows hq
    have HN0 : Hid (fwUp l (0 + 1) = (ls ++ [(reduceF p.b).1], (0, 0), 0)) := Lib.hid (fw_first HP.out HK.out HB0.out)
    generalize (reduceF p.b).1 = x9 at *
    clear hq hown hw6 x8 k8
    go_upto_region 11 with fail
    refine wp_region_lit ?_
    iterate 3
     refine wpList_plain rfl (fun K hK => ?_)
     go_simp
     refine hK _ _ ?_
     clear hK K
    have hk0_ := Blk.new w6 45 #[.slice A9 x9.length c9]
    have hq := (Below.refl w6.heap.size w6).alloc (Nat.le_refl _) (Obj.cells #[.slice A9 x9.length c9] 45)
    have hrd : Reads (w6.alloc (Obj.cells #[.slice A9 x9.length c9] 45)) (w6.alloc (Obj.cells #[.slice A9 x9.length c9] 45)).heap.size 1 (some ⟨w6.heap.size, 0, none⟩) 1 [.slice A9 x9.length c9] := ⟨rfl, fun _ => ⟨_, rfl, hk0_.lt, fun j u hu => by rw [add_head, hk0_.cell, ← Array.getElem?_toList]; exact hu⟩⟩
    replace hB := below_grows hB (Nat.le_refl _) hq
    replace k3 := k3.grows hq
    replace hw := hw.grows hq
    replace hx9 := hx9.grows hq
    have hs1 := k3.lt
    have hol := hw.lt
    clear hq hk0_
    refine wpList_append_lq rfl (.tmp 38) (.tmp 40) rfl rfl hw rfl hrd (by have := HLN.out; omega) (by omega) hx9 hc9 ?_
    intro v7 w7 ho2 hgr hv7
    replace hB := hB.grown hgr hB.size (fun q e => by have := (hol q e).1; omega)
    replace k3 := k3.grown hgr (fun e => by have := (hol _ e.symm).1; omega)
    have HL2 : Hid ((ls ++ [x9]).length = ls.length + 1) := Lib.hid (by rw [List.length_append, List.length_singleton])
    clear hrd hgr hw hol hx9
    generalize ls ++ [x9] = ls2 at *
    go_wp2
    go_roundw
    case rel => exact ⟨0 + 1, ls2, by omega, by go_num, Lib.hid (by rw [HL2.out, HLN.out]), HN0, ho2, k3, hB⟩
    case measure => simp [intOf]; omega
   ·have hk1 : IntKind.i64.wrap ((k : Int) - 1) = ((k - 1 : Nat) : Int) := by rw [IntWalk.i64_in _ (by omega)]; omega
    have e3 : ((k : Int) == 0) = false := by simp only [beq_eq_false_iff_ne, ne_eq]; omega
    have e4 : decide ((k : Int) = 0) = false := by simp only [decide_eq_false_iff_not]; omega
    obtain ⟨ad2, p2, B2, cp2, ead, had2, hp2, -, -, q20, q21⟩ := h.elem hB (show k - 1 < l.length by omega)
    injection ead with ead
    subst ead
    obtain ⟨ad7, c7, x7, B7, d7, rfl, hc7, had7, hba7, hx7, hd7, hcell7, hbx7⟩ := hw.elem (show k - 1 < ls.length by have := HLN.out; omega)
    obtain ⟨hf7, hn7, hg7, hkd, dF, hdF⟩ := fw_prev HV.out (fun p hp b hb => ((HO.out p hp).1 b hb).2) hk hk0 HK.out hx7 hp2
    have HF7 := Lib.hid hf7
    have b0 : (0 : Int) ≤ ((k - 1 : Nat) : Int) := by omega
    have b1 : ((k - 1 : Nat) : Int) < (l.length : Int) := by omega
    have b2 : ((k - 1 : Nat) : Int) < (ls.length : Int) := by have := HLN.out; omega
    have b3 : k - 1 < l.length := by omega
    have b4 : k - 1 < ls.length := by have := HLN.out; omega
    have hl7 := hf7.2
    have hl8 := HFL.out.2
    have HPR : Hid (prodAt l k p ls = productF (bits .andNot .i64 15 p2.v) p.b x7) := Lib.hid (by unfold prodAt; rw [hkd, hg7])
    have HBL : Hid ((productF (bits .andNot .i64 15 p2.v) p.b x7).2 = 0 → (productF (bits .andNot .i64 15 p2.v) p.b x7).1.length = 0 → apartD (keptD (l.getD (k - 1) noPt)) p.b (ls.getD (k - 1) []) = apartD (bits .andNot .i64 15 p2.v) p.b x7) := Lib.hid (fun _ _ => by rw [hkd, hg7])
    have hszB := hB.size
    have HLIM := Lib.hid (fun h => fw_lim HV.out HP.out HK.out HB0.out hk0 h)
    have HREF := Lib.hid (fun h h2 => fw_refuse HV.out HP.out HK.out HB0.out hk0 h h2)
    have HMORE := Lib.hid (fun h h2 => fw_more HP.out HK.out HB0.out hk0 h h2)
    rw [HPR.out] at HLIM HREF HMORE
    clear hkd hg7 hdF hn7 hx7 hp2 hf7
    go_upto_region 13 with fail
    clear e3 e4 q20 q21
    generalize bits .andNot .i64 15 p2.v = dd at *
    have HR := Lib.hid (fun (w0 : World) (hg : Grows w5 w0) => rproductq_any (w := w0) (c := cp) (d := d7) dd rfl rfl (hbx.grows hg) (hbx7.grows hg) (by omega) (by omega) HFL.out.okb HF7.out.okb)
    have HNB := Lib.hid (fun (w0 : World) (hg : Grows w5 w0) => rapartd_any (w := w0) (c := cp) (d := d7) dd rfl rfl (hbx.grows hg) (hbx7.grows hg) (by omega) (by omega) HFL.out.okb HF7.out.okb)
    generalize productF dd p.b x7 = pr at *
    obtain ⟨pl, pe⟩ := pr
    have had7c : (ad7.add (k - 1)).block < w5.heap.size := by rw [block_of_add]; exact had7
    obtain ⟨S, HI, HO⟩ := hideS fun (L : Ran) (vs : Nat → Value) (w' : World) => (Grows w5 w' ∧ KnS [some (.pointer (some ⟨G8, 0, none⟩)), some (.slice B p.b.length cp), some (.slice (some ad7) ls.length c7), some (.int .i64 k), some (.int .i64 ((k - 1 : Nat) : Int)), some (.pointer (some (ad7.add (k - 1)))), some (.slice B7 x7.length d7), some (.int .i64 dd), none, none, none, some (.int .i64 pe), none, some (.int .i64 pe)] L vs ∧ DsS [none, none, none, none, none, none, none, none, some (PsTo (Nk w5.heap.size (Under w.heap.size)) pl pe), some (PsTo (Nk w5.heap.size (Under w.heap.size)) pl pe), some (PsNo (Nk w5.heap.size (Under w.heap.size)) pl), none, some (PsNo (Nk w5.heap.size (Under w.heap.size)) pl), none] L vs w')
    refine wp_region_genT S 14 86 (by kernel_rfl) (by kernel_rfl) rfl ?_ ?_
    ·exact HI.out _ _ _ ⟨Grows.drew' _, kn_none _ _, ds_none _ _ _⟩
    simp only [List.take_succ_cons, List.take_zero, List.drop_succ_cons, List.drop_zero]
    refine gent_consR (fun vs L w1 hL hw1 => ?_) ?_
    ·obtain ⟨q0, q1, q2⟩ := HO.out _ _ _ hw1
     refine gen_plain rfl ?_
     go_simp
     exact gr_val (HI.out _ _ _ ⟨q0, kn_known q1 rfl, ds_free q2 rfl⟩)
    refine gent_consR (fun vs L w1 hL hw1 => ?_) ?_
    ·obtain ⟨q0, q1, q2⟩ := HO.out _ _ _ hw1
     refine gen_plain rfl ?_
     have l0 : L 0 = true := hL.need 0 (by kernel_rfl)
     have e0 := q1 0 _ rfl l0
     simp only [e0]
     have xb := (k8.grows q0).cell
     go_simp
     exact gr_val (HI.out _ _ _ ⟨q0, kn_known q1 rfl, ds_free q2 rfl⟩)
    refine gent_consR (fun vs L w1 hL hw1 => ?_) ?_
    ·obtain ⟨q0, q1, q2⟩ := HO.out _ _ _ hw1
     refine gen_plain rfl ?_
     go_simp
     exact gr_val (HI.out _ _ _ ⟨q0, kn_known q1 rfl, ds_free q2 rfl⟩)
    refine gent_consR (fun vs L w1 hL hw1 => ?_) ?_
    ·obtain ⟨q0, q1, q2⟩ := HO.out _ _ _ hw1
     refine gen_plain rfl ?_
     go_simp
     exact gr_val (HI.out _ _ _ ⟨q0, kn_known q1 rfl, ds_free q2 rfl⟩)
    refine gent_consR (fun vs L w1 hL hw1 => ?_) ?_
    ·obtain ⟨q0, q1, q2⟩ := HO.out _ _ _ hw1
     refine gen_plain rfl ?_
     have l3 : L 3 = true := hL.need 3 (by kernel_rfl)
     have e3 := q1 3 _ rfl l3
     simp only [e3]
     go_simp
     exact gr_val (HI.out _ _ _ ⟨q0, kn_known q1 rfl, ds_free q2 rfl⟩)
    refine gent_consR (fun vs L w1 hL hw1 => ?_) ?_
    ·obtain ⟨q0, q1, q2⟩ := HO.out _ _ _ hw1
     refine gen_plain rfl ?_
     have l2 : L 2 = true := hL.need 2 (by kernel_rfl)
     have e2 := q1 2 _ rfl l2
     have l4 : L 4 = true := hL.need 4 (by kernel_rfl)
     have e4 := q1 4 _ rfl l4
     simp only [e2, e4]
     go_simp
     exact gr_val (HI.out _ _ _ ⟨q0, kn_known q1 rfl, ds_free q2 rfl⟩)
    refine gent_consR (fun vs L w1 hL hw1 => ?_) ?_
    ·obtain ⟨q0, q1, q2⟩ := HO.out _ _ _ hw1
     refine gen_plain rfl ?_
     have l5 : L 5 = true := hL.need 5 (by kernel_rfl)
     have e5 := q1 5 _ rfl l5
     simp only [e5]
     have xb := (Below.cell q0 had7c).trans hcell7
     go_simp
     exact gr_val (HI.out _ _ _ ⟨q0, kn_known q1 rfl, ds_free q2 rfl⟩)
    refine gent_consR (fun vs L w1 hL hw1 => ?_) ?_
    ·obtain ⟨q0, q1, q2⟩ := HO.out _ _ _ hw1
     refine gen_plain rfl ?_
     go_simp
     exact gr_val (HI.out _ _ _ ⟨q0, kn_known q1 rfl, ds_free q2 rfl⟩)
    refine gent_consR (fun vs L w1 hL hw1 => ?_) ?_
    ·obtain ⟨q0, q1, q2⟩ := HO.out _ _ _ hw1
     refine gen_plain rfl ?_
     have l1 : L 1 = true := hL.need 1 (by kernel_rfl)
     have e1 := q1 1 _ rfl l1
     have l6 : L 6 = true := hL.need 6 (by kernel_rfl)
     have e6 := q1 6 _ rfl l6
     have l7 : L 7 = true := hL.need 7 (by kernel_rfl)
     have e7 := q1 7 _ rfl l7
     simp only [e1, e6, e7]
     go_simp
     refine gr_call ?_
     refine (HR.out _ q0).mono ?_
     rintro e w6 ⟨⟨v6, rfl, hw6⟩, hg⟩
     obtain ⟨A9, c9, rfl, hc9, hx9⟩ := hw6.read
     have hsz := q0.size
     exact ⟨_, rfl, HI.out _ _ _ ⟨below_grows q0 (Nat.le_refl _) hg, kn_free q1 rfl, ds_put (q2.grows hg) rfl ⟨A9, c9, rfl, hc9, hx9.mono (fun k hk => by have := nk_new hk; unfold Nk Under; omega)⟩⟩⟩
    refine gent_consR (fun vs L w1 hL hw1 => ?_) ?_
    ·obtain ⟨q0, q1, q2⟩ := HO.out _ _ _ hw1
     refine gen_plain rfl ?_
     have l8 : L 8 = true := hL.need 8 (by kernel_rfl)
     have p8 := q2 8 _ rfl l8
     go_simp
     exact gr_val (HI.out _ _ _ ⟨q0, kn_free q1 rfl, ds_put q2 rfl p8⟩)
    refine gent_consR (fun vs L w1 hL hw1 => ?_) ?_
    ·obtain ⟨q0, q1, q2⟩ := HO.out _ _ _ hw1
     refine gen_plain rfl ?_
     have l9 : L 9 = true := hL.need 9 (by kernel_rfl)
     obtain ⟨A9, c9, e9, hc9, hx9⟩ := q2 9 _ rfl l9
     simp only [e9]
     go_simp
     exact gr_val (HI.out _ _ _ ⟨q0, kn_free q1 rfl, ds_put q2 rfl ⟨A9, c9, rfl, hc9, hx9⟩⟩)
    refine gent_consR (fun vs L w1 hL hw1 => ?_) ?_
    ·obtain ⟨q0, q1, q2⟩ := HO.out _ _ _ hw1
     refine gen_plain rfl ?_
     have l9 : L 9 = true := hL.need 9 (by kernel_rfl)
     obtain ⟨A9, c9, e9, hc9, hx9⟩ := q2 9 _ rfl l9
     simp only [e9]
     go_simp
     exact gr_val (HI.out _ _ _ ⟨q0, kn_known q1 rfl, ds_free q2 rfl⟩)
    refine gent_consR (fun vs L w1 hL hw1 => ?_) ?_
    ·obtain ⟨q0, q1, q2⟩ := HO.out _ _ _ hw1
     refine gen_plain rfl ?_
     have l10 : L 10 = true := hL.need 10 (by kernel_rfl)
     have p10 := q2 10 _ rfl l10
     go_simp
     exact gr_val (HI.out _ _ _ ⟨q0, kn_free q1 rfl, ds_put q2 rfl p10⟩)
    refine gent_consR (fun vs L w1 hL hw1 => ?_) ?_
    ·obtain ⟨q0, q1, q2⟩ := HO.out _ _ _ hw1
     refine gen_plain rfl ?_
     have l11 : L 11 = true := hL.need 11 (by kernel_rfl)
     have e11 := q1 11 _ rfl l11
     simp only [e11]
     go_simp
     exact gr_val (HI.out _ _ _ ⟨q0, kn_known q1 rfl, ds_free q2 rfl⟩)
    refine gent_nil ?_
    intro vs L W2 hall hS
    obtain ⟨q0, q1, q2⟩ := HO.out _ _ _ hS
    have e13 := q1 13 _ rfl (hall 13 (by omega))
    have e11 := q1 11 _ rfl (hall 11 (by omega))
    obtain ⟨A9, c9, e12, hc9, hx9⟩ := q2 12 _ rfl (hall 12 (by omega))
    have e0 := q1 0 _ rfl (hall 0 (by omega))
    clear hall hS HI HO q1 q2
    have hw5 := hw.lt
    have hw6 := q0.size
    replace hx9 : Bxs W2 (Aq (Nq w.heap.size) (.slice (some ad7) ls.length c7)) A9 pl := hx9.mono fun k hk => ⟨by have := nk_new (.inl hk); show k ≠ w.heap.size; omega, fun e => by have h9 := hw5 _ e; have := nk_new (.inl hk); omega⟩
    replace hB := below_grows hB (Nat.le_refl _) q0
    replace k3 := k3.grows q0
    replace k8 := k8.grows q0
    replace hw := hw.grows q0
    replace HNB := Lib.hid (fun (w0 : World) (hg : Grows W2 w0) => HNB.out w0 (below_grows q0 (Nat.le_refl _) hg))
    replace hcell7 := (Below.cell q0 had7c).trans hcell7
    clear hw5 HR hbx hbx7 x8
    have x8 := k8.cell
    simp only [e0, e11, e12, e13]
    by_cases hpe : pe = 0
    ·subst hpe
     have e5 : ((0 : Int) != 0) = false := rfl
     have e6 : decide ((0 : Int) = 0) = true := rfl
     by_cases hpl : pl.length = 0
     ·have HE : Hid (forwardF l = ([], ((k : Int), apartD dd p.b x7), 13)) := Lib.hid (by rw [HREF.out rfl hpl, HBL.out rfl hpl])
      have e7 : ((pl.length : Int) == 0) = true := by rw [hpl]; rfl
      have e8 : decide ((pl.length : Int) = 0) = true := by rw [hpl]; rfl
      clear hpl hx9 h HLIM HREF HMORE HBL HPR
      go_upto_region 17 with fail
      generalize apartD dd p.b x7 = nb at *
      have had7d : (ad7.add (k - 1)).block < W2.heap.size := Nat.lt_of_lt_of_le had7c hw6
      obtain ⟨S, HI, HO⟩ := hideS fun (L : Ran) (vs : Nat → Value) (w' : World) => (Grows W2 w' ∧ KnS [some (.int .i64 k), some (.pointer (some ⟨G8, 0, none⟩)), some (.slice B p.b.length cp), some (.slice (some ad7) ls.length c7), some (.int .i64 k), some (.int .i64 ((k - 1 : Nat) : Int)), some (.pointer (some (ad7.add (k - 1)))), some (.slice B7 x7.length d7), some (.int .i64 dd), some (.int .i64 nb), some (.agg #[.int .i64 k, .int .i64 nb]), some (.slice none 0 0)] L vs ∧ DsS [none, none, none, none, none, none, none, none, none, none, none, none] L vs w')
      refine wp_region_genT S 12 86 (by kernel_rfl) (by kernel_rfl) rfl ?_ ?_
      ·exact HI.out _ _ _ ⟨Grows.drew' _, kn_none _ _, ds_none _ _ _⟩
      simp only [List.take_succ_cons, List.take_zero, List.drop_succ_cons, List.drop_zero]
      refine gent_consR (fun vs L w1 hL hw1 => ?_) ?_
      ·obtain ⟨q0, q1, q2⟩ := HO.out _ _ _ hw1
       refine gen_plain rfl ?_
       go_simp
       exact gr_val (HI.out _ _ _ ⟨q0, kn_known q1 rfl, ds_free q2 rfl⟩)
      refine gent_consR (fun vs L w1 hL hw1 => ?_) ?_
      ·obtain ⟨q0, q1, q2⟩ := HO.out _ _ _ hw1
       refine gen_plain rfl ?_
       go_simp
       exact gr_val (HI.out _ _ _ ⟨q0, kn_known q1 rfl, ds_free q2 rfl⟩)
      refine gent_consR (fun vs L w1 hL hw1 => ?_) ?_
      ·obtain ⟨q0, q1, q2⟩ := HO.out _ _ _ hw1
       refine gen_plain rfl ?_
       have l1 : L 1 = true := hL.need 1 (by kernel_rfl)
       have e1 := q1 1 _ rfl l1
       simp only [e1]
       have xb := (k8.grows q0).cell
       go_simp
       exact gr_val (HI.out _ _ _ ⟨q0, kn_known q1 rfl, ds_free q2 rfl⟩)
      refine gent_consR (fun vs L w1 hL hw1 => ?_) ?_
      ·obtain ⟨q0, q1, q2⟩ := HO.out _ _ _ hw1
       refine gen_plain rfl ?_
       go_simp
       exact gr_val (HI.out _ _ _ ⟨q0, kn_known q1 rfl, ds_free q2 rfl⟩)
      refine gent_consR (fun vs L w1 hL hw1 => ?_) ?_
      ·obtain ⟨q0, q1, q2⟩ := HO.out _ _ _ hw1
       refine gen_plain rfl ?_
       go_simp
       exact gr_val (HI.out _ _ _ ⟨q0, kn_known q1 rfl, ds_free q2 rfl⟩)
      refine gent_consR (fun vs L w1 hL hw1 => ?_) ?_
      ·obtain ⟨q0, q1, q2⟩ := HO.out _ _ _ hw1
       refine gen_plain rfl ?_
       have l4 : L 4 = true := hL.need 4 (by kernel_rfl)
       have e4 := q1 4 _ rfl l4
       simp only [e4]
       go_simp
       exact gr_val (HI.out _ _ _ ⟨q0, kn_known q1 rfl, ds_free q2 rfl⟩)
      refine gent_consR (fun vs L w1 hL hw1 => ?_) ?_
      ·obtain ⟨q0, q1, q2⟩ := HO.out _ _ _ hw1
       refine gen_plain rfl ?_
       have l3 : L 3 = true := hL.need 3 (by kernel_rfl)
       have e3 := q1 3 _ rfl l3
       have l5 : L 5 = true := hL.need 5 (by kernel_rfl)
       have e5 := q1 5 _ rfl l5
       simp only [e3, e5]
       go_simp
       exact gr_val (HI.out _ _ _ ⟨q0, kn_known q1 rfl, ds_free q2 rfl⟩)
      refine gent_consR (fun vs L w1 hL hw1 => ?_) ?_
      ·obtain ⟨q0, q1, q2⟩ := HO.out _ _ _ hw1
       refine gen_plain rfl ?_
       have l6 : L 6 = true := hL.need 6 (by kernel_rfl)
       have e6 := q1 6 _ rfl l6
       simp only [e6]
       have xb := (Below.cell q0 had7d).trans hcell7
       go_simp
       exact gr_val (HI.out _ _ _ ⟨q0, kn_known q1 rfl, ds_free q2 rfl⟩)
      refine gent_consR (fun vs L w1 hL hw1 => ?_) ?_
      ·obtain ⟨q0, q1, q2⟩ := HO.out _ _ _ hw1
       refine gen_plain rfl ?_
       go_simp
       exact gr_val (HI.out _ _ _ ⟨q0, kn_known q1 rfl, ds_free q2 rfl⟩)
      refine gent_consR (fun vs L w1 hL hw1 => ?_) ?_
      ·obtain ⟨q0, q1, q2⟩ := HO.out _ _ _ hw1
       refine gen_plain rfl ?_
       have l2 : L 2 = true := hL.need 2 (by kernel_rfl)
       have e2 := q1 2 _ rfl l2
       have l7 : L 7 = true := hL.need 7 (by kernel_rfl)
       have e7 := q1 7 _ rfl l7
       have l8 : L 8 = true := hL.need 8 (by kernel_rfl)
       have e8 := q1 8 _ rfl l8
       simp only [e2, e7, e8]
       go_simp
       refine gr_call ?_
       refine (HNB.out _ q0).mono ?_
       rintro e w6 ⟨rfl, hg⟩
       exact ⟨_, rfl, HI.out _ _ _ ⟨below_grows q0 (Nat.le_refl _) hg, kn_known q1 rfl, ds_free (q2.grows hg) rfl⟩⟩
      refine gent_consR (fun vs L w1 hL hw1 => ?_) ?_
      ·obtain ⟨q0, q1, q2⟩ := HO.out _ _ _ hw1
       refine gen_plain rfl ?_
       have l0 : L 0 = true := hL.need 0 (by kernel_rfl)
       have e0 := q1 0 _ rfl l0
       have l9 : L 9 = true := hL.need 9 (by kernel_rfl)
       have e9 := q1 9 _ rfl l9
       simp only [e0, e9]
       go_simp
       exact gr_val (HI.out _ _ _ ⟨q0, kn_known q1 rfl, ds_free q2 rfl⟩)
      refine gent_consR (fun vs L w1 hL hw1 => ?_) ?_
      ·obtain ⟨q0, q1, q2⟩ := HO.out _ _ _ hw1
       refine gen_plain rfl ?_
       go_simp
       exact gr_val (HI.out _ _ _ ⟨q0, kn_known q1 rfl, ds_free q2 rfl⟩)
      refine gent_nil ?_
      intro vs L W3 hall hS
      obtain ⟨q0, q1, q2⟩ := HO.out _ _ _ hS
      have e10 := q1 10 _ rfl (hall 10 (by omega))
      have e11_ := q1 11 _ rfl (hall 11 (by omega))
      clear hall hS HI HO q1 q2
      replace hB := below_grows hB (Nat.le_refl _) q0
      replace k3 := k3.grows q0
      have x3 := k3.cell
      have f3 := k3.frozen
      have hB3 := (hB.setCell (p := ⟨w.heap.size, 0, none⟩) (Nat.le_refl _) (.int .i64 k)).setCell (p := ⟨w.heap.size, 1, none⟩) (Nat.le_refl _) (.int .i64 nb)
      have x3z := ((k3.set_ 0 (.int .i64 k)).set_ 1 (.int .i64 nb)).cell
      clear q0 hw
      simp only [e10, e11_]
      go_wp2
      generalize World.setCell (World.setCell W3 _ _) _ _ = wz at *
      refine bodyPost_ret (v := .tuple #[.slice none 0 0, .agg #[.int .i64 k, .int .i64 nb], .int .i64 13]) (by simp [results, Tryz.results11, go_sem, x3z]) rfl ?_
      rw [HE.out]
      exact ⟨⟨_, rfl, OwnLq.nil⟩, hB3⟩
     ·have HN0 := Lib.hid (HMORE.out rfl hpl)
      have e7 : ((pl.length : Int) == 0) = false := by simp only [beq_eq_false_iff_ne, ne_eq]; omega
      have e8 : decide ((pl.length : Int) = 0) = false := by simp only [decide_eq_false_iff_not]; omega
      clear hpl HLIM HREF HMORE HBL HPR HNB k8 x8
      go_upto_region 18 with fail
      refine wp_region_lit ?_
      iterate 3
       refine wpList_plain rfl (fun K hK => ?_)
       go_simp
       refine hK _ _ ?_
       clear hK K
      have hk0_ := Blk.new W2 45 #[.slice A9 pl.length c9]
      have hq := (Below.refl W2.heap.size W2).alloc (Nat.le_refl _) (Obj.cells #[.slice A9 pl.length c9] 45)
      have hrd : Reads (W2.alloc (Obj.cells #[.slice A9 pl.length c9] 45)) (W2.alloc (Obj.cells #[.slice A9 pl.length c9] 45)).heap.size 1 (some ⟨W2.heap.size, 0, none⟩) 1 [.slice A9 pl.length c9] := ⟨rfl, fun _ => ⟨_, rfl, hk0_.lt, fun j u hu => by rw [add_head, hk0_.cell, ← Array.getElem?_toList]; exact hu⟩⟩
      replace hB := below_grows hB (Nat.le_refl _) hq
      replace k3 := k3.grows hq
      replace hw := hw.grows hq
      replace hx9 := hx9.grows hq
      have hs1 := k3.lt
      have hol := hw.lt
      clear hq hk0_
      refine wpList_append_lq rfl (.tmp 79) (.tmp 81) rfl rfl hw rfl hrd (by have := HLN.out; omega) (by omega) hx9 hc9 ?_
      intro v7 w7 ho2 hgr hv7
      replace hB := hB.grown hgr hB.size (fun q e => by have := (hol q e).1; omega)
      replace k3 := k3.grown hgr (fun e => by have := (hol _ e.symm).1; omega)
      have HL2 : Hid ((ls ++ [pl]).length = ls.length + 1) := Lib.hid (by rw [List.length_append, List.length_singleton])
      clear hrd hgr hw hol hx9
      generalize ls ++ [pl] = ls2 at *
      go_wp2
      go_roundw
      case rel => exact ⟨k + 1, ls2, by omega, by go_num, Lib.hid (by rw [HL2.out, HLN.out]), HN0, ho2, k3, hB⟩
      case measure => simp [intOf]; omega
    ·have HE := Lib.hid (HLIM.out hpe)
     have e5 : (pe != 0) = true := bne_iff_ne.2 hpe
     have e6 : decide (pe = 0) = false := decide_eq_false hpe
     clear hpe hx9 h HLIM HREF HMORE HBL HPR
     have x3 := k3.cell
     have f3 := k3.frozen
     have hB3 := (hB.setCell (p := ⟨w.heap.size, 0, none⟩) (Nat.le_refl _) (.int .i64 0)).setCell (p := ⟨w.heap.size, 1, none⟩) (Nat.le_refl _) (.int .i64 0)
     have x3z := ((k3.set_ 0 (.int .i64 0)).set_ 1 (.int .i64 0)).cell
     go_wp2
     generalize World.setCell (World.setCell W2 _ _) _ _ = wz at *
     refine bodyPost_ret (v := .tuple #[.slice none 0 0, .agg #[.int .i64 0, .int .i64 0], .int .i64 pe]) (by simp [results, Tryz.results11, go_sem, x3z]) rfl ?_
     rw [HE.out]
     exact ⟨⟨_, rfl, OwnLq.nil⟩, hB3⟩
  ·obtain rfl : k = l.length := by omega
   have HE := Lib.hid (fw_whole HV.out HK.out)
   have x3 := k3.cell
   have f3 := k3.frozen
   have hB3 := (hB.setCell (p := ⟨w.heap.size, 0, none⟩) (Nat.le_refl _) (.int .i64 0)).setCell (p := ⟨w.heap.size, 1, none⟩) (Nat.le_refl _) (.int .i64 0)
   have x3z := ((k3.set_ 0 (.int .i64 0)).set_ 1 (.int .i64 0)).cell
   have hw3 := hw.only (d_only_set (d_only_set (World.grownBy.refl wr (some w.heap.size)) 0 (.int .i64 0)) 1 (.int .i64 0)) (by omega) (by unfold Nq; simp)
   obtain ⟨A9, c9, rfl, hc9, -⟩ := hw.read
   clear h
   go_wp2
   generalize World.setCell (World.setCell wr _ _) _ _ = wz at *
   refine bodyPost_ret (v := .tuple #[.slice A9 ls.length c9, .agg #[.int .i64 0, .int .i64 0], .int .i64 0]) (by simp [results, Tryz.results11, go_sem, x3z]) rfl ?_
   rw [HE.out]
   exact ⟨⟨_, rfl, hw3.lower (by omega) (fun _ _ => trivial)⟩, hB3⟩
end Go.Proofs.YtjbkjgmcfommgaaGreat
