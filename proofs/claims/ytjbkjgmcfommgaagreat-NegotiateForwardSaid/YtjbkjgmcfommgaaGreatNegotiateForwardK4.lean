/-
  YtjbkjgmcfommgaaGreatNegotiateForward: shared parts, 4. Plain theorems.
-/
import Derived.Test.YtjbkjgmcfommgaaGreatNegotiateForwardK3
import Derived.Deep.DeepCutAuto
namespace Go.Proofs.YtjbkjgmcfommgaaGreat
open Go.RowKit
/-- A port. -/
structure Pt where
 b : List Bx
 v : Int
deriving DecidableEq
def noPt : Pt := ⟨[], 0⟩
def portOk (p : Pt) : Bool := decide (p.b.length ≤ 8) && validL p.b && decide (0 ≤ p.v) && decide (p.v ≤ 15)
def validC (l : List Pt) : Bool := l.all portOk && decide (1 ≤ l.length) && decide (l.length ≤ 16)
/-- The dimensions that are not converted behind a port. -/
def keptD (p : Pt) : Int := bits .andNot .i64 15 p.v
abbrev FwR := List (List Bx) × (Int × Int) × Int
def fwStep (l : List Pt) (k : Nat) (p : Pt) (s : FwR) : FwR :=
 if p.b.length = 0 then ([], ((k : Int), 15), 13)
 else if k = 0 then (s.1 ++ [(reduceF p.b).1], (0, 0), 0)
 else if (productF (keptD (l.getD (k - 1) noPt)) p.b (s.1.getD (k - 1) [])).2 ≠ 0 then ([], (0, 0), (productF (keptD (l.getD (k - 1) noPt)) p.b (s.1.getD (k - 1) [])).2)
 else if (productF (keptD (l.getD (k - 1) noPt)) p.b (s.1.getD (k - 1) [])).1.length = 0 then ([], ((k : Int), apartD (keptD (l.getD (k - 1) noPt)) p.b (s.1.getD (k - 1) [])), 13)
 else (s.1 ++ [(productF (keptD (l.getD (k - 1) noPt)) p.b (s.1.getD (k - 1) [])).1], (0, 0), 0)
def fwUp (l : List Pt) : Nat → FwR
 | 0 => ([], (0, 0), 0)
 | k + 1 => if (fwUp l k).2.2 ≠ 0 then fwUp l k else match l[k]? with | some p => fwStep l k p (fwUp l k) | none => fwUp l k
def forwardF (l : List Pt) : FwR := if validC l = true then fwUp l l.length else ([], (0, 0), 1)
theorem fw_next {l : List Pt} {k : Nat} {p : Pt} (h : l[k]? = some p) (hs : (fwUp l k).2.2 = 0) : fwUp l (k + 1) = fwStep l k p (fwUp l k) := by
 show (if (fwUp l k).2.2 ≠ 0 then fwUp l k else match l[k]? with | some p => fwStep l k p (fwUp l k) | none => fwUp l k) = _
 rw [if_neg (fun hh => hh hs), h]
theorem fw_stop {l : List Pt} {k : Nat} (hs : (fwUp l k).2.2 ≠ 0) : ∀ n, k ≤ n → fwUp l n = fwUp l k := by
 intro n hn
 induction n with
 | zero =>
  obtain rfl : k = 0 := by omega
  rfl
 | succ n ih =>
  rcases Nat.eq_or_lt_of_le hn with e | h
  ·rw [e]
  ·have := ih (by omega)
   show (if (fwUp l n).2.2 ≠ 0 then fwUp l n else _) = _
   rw [if_pos (by rw [this]; exact hs), this]
/-- Whether two choices agree in some dimensions. -/
def agD (d : Int) (a b : Ch) : Bool := (!bitZ d 1 || decide (a.k = b.k)) && (!bitZ d 2 || decide (a.r = b.r)) && (!bitZ d 4 || decide (a.m = b.m)) && (!bitZ d 8 || decide (a.s = b.s))
theorem agD_iff {d : Int} {a b : Ch} : agD d a b = true ↔ (bitZ d 1 = true → a.k = b.k) ∧ (bitZ d 2 = true → a.r = b.r) ∧ (bitZ d 4 = true → a.m = b.m) ∧ (bitZ d 8 = true → a.s = b.s) := by
 unfold agD
 cases bitZ d 1 <;> cases bitZ d 2 <;> cases bitZ d 4 <;> cases bitZ d 8 <;> simp [and_assoc]
theorem fb_has {y : Bx} (h : FB y) : ∃ c, inB y c = true := by
 obtain ⟨c, c1, -⟩ := some_has h h (d := 0) (by
  have : dimsF 0 y y = y := by
   unfold dimsF
   rw [if_neg (by decide), if_neg (by decide), if_neg (by decide), if_neg (by decide)]
  rw [this]
  exact some_iff.2 ⟨h.k0, h.m0, h.r0, h.s0⟩)
 exact ⟨c, c1⟩
theorem inD_iff {d : Int} {y : Bx} {c : Ch} (h : FB y) : inD d y c = true ↔ ∃ e, inB y e = true ∧ agD d e c = true := by
 have hd : inD d y c = true ↔ (bitZ d 1 = true → kindB y.k c.k = true) ∧ (bitZ d 2 = true → hasF y.r c.r = true) ∧ (bitZ d 4 = true → c.m ∈ y.m) ∧ (bitZ d 8 = true → hasF y.s c.s = true) := by
  unfold inD
  cases bitZ d 1 <;> cases bitZ d 2 <;> cases bitZ d 4 <;> cases bitZ d 8 <;> simp [and_assoc]
 rw [hd]
 constructor
 ·rintro ⟨h1, h2, h3, h4⟩
  obtain ⟨e, he⟩ := fb_has h
  obtain ⟨e1, e2, e3, e4⟩ := inB_iff.1 he
  refine ⟨⟨if bitZ d 1 = true then c.k else e.k, if bitZ d 2 = true then c.r else e.r, if bitZ d 4 = true then c.m else e.m, if bitZ d 8 = true then c.s else e.s⟩, inB_iff.2 ⟨?_, ?_, ?_, ?_⟩, agD_iff.2 ⟨fun h => if_pos h, fun h => if_pos h, fun h => if_pos h, fun h => if_pos h⟩⟩
  ·show kindB y.k (if bitZ d 1 = true then c.k else e.k) = true
   split
   ·exact h1 ‹_›
   ·exact e1
  ·show hasF y.r (if bitZ d 2 = true then c.r else e.r) = true
   split
   ·exact h2 ‹_›
   ·exact e2
  ·show (if bitZ d 4 = true then c.m else e.m) ∈ y.m
   split
   ·exact h3 ‹_›
   ·exact e3
  ·show hasF y.s (if bitZ d 8 = true then c.s else e.s) = true
   split
   ·exact h4 ‹_›
   ·exact e4
 ·rintro ⟨e, he, ha⟩
  obtain ⟨e1, e2, e3, e4⟩ := inB_iff.1 he
  obtain ⟨a1, a2, a3, a4⟩ := agD_iff.1 ha
  exact ⟨fun h => a1 h ▸ e1, fun h => a2 h ▸ e2, fun h => a3 h ▸ e3, fun h => a4 h ▸ e4⟩
theorem prod_reach {d : Int} {a b r : List Bx} (ha : FL a) (hb : FL b) (h : prodF d a b = some r) (c : Ch) : hasL r c = true ↔ hasL a c = true ∧ ∃ e, hasL b e = true ∧ agD d e c = true := by
 rw [prod_has ha hb h, ha.has]
 constructor
 ·rintro ⟨x, hx, y, hy, h1, h2⟩
  obtain ⟨e, e1, e2⟩ := (inD_iff (hb.1 y hy)).1 h2
  exact ⟨⟨x, hx, h1⟩, e, hb.has e |>.2 ⟨y, hy, e1⟩, e2⟩
 ·rintro ⟨⟨x, hx, h1⟩, e, he, ha2⟩
  obtain ⟨y, hy, e1⟩ := (hb.has e).1 he
  exact ⟨x, hx, y, hy, h1, (inD_iff (hb.1 y hy)).2 ⟨e, e1, ha2⟩⟩
/-- Which choices are reached at port i. -/
def Rch (l : List Pt) : Nat → Ch → Prop
 | 0, c => hasL (l.getD 0 noPt).b c = true
 | i + 1, c => hasL (l.getD (i + 1) noPt).b c = true ∧ ∃ e, Rch l i e ∧ agD (keptD (l.getD i noPt)) e c = true
theorem fl_has {a : List Bx} (ha : FL a) : (∃ c, hasL a c = true) ↔ a ≠ [] := by
 constructor
 ·rintro ⟨c, h⟩ rfl
  obtain ⟨b, hb, -⟩ := (FL.has ⟨by simp, by simp⟩ c).1 h
  cases hb
 ·intro h
  obtain ⟨x, hx⟩ := List.exists_mem_of_ne_nil a h
  obtain ⟨c, hc⟩ := fb_has (ha.1 x hx)
  exact ⟨c, (ha.has c).2 ⟨x, hx, hc⟩⟩
/-- A product that reached no limit. -/
theorem prodF_cases {d : Int} {a b : List Bx} (ha : FL a) (hb : FL b) : productF d a b = ([], 3) ∨ ((productF d a b).2 = 0 ∧ FL (productF d a b).1 ∧ ∀ c, hasL (productF d a b).1 c = true ↔ hasL a c = true ∧ ∃ e, hasL b e = true ∧ agD d e c = true) := by
 unfold productF
 cases h : prodF d a b with
 | none => exact .inl rfl
 | some r =>
  right
  have hf := prod_fine ha hb h
  have e : reduceF r = (reduceL r, 0) := if_pos hf.valid
  show (reduceF r).2 = 0 ∧ FL (reduceF r).1 ∧ _
  rw [e]
  refine ⟨rfl, hf.reduce, fun c => ?_⟩
  show hasL (reduceF r).1 c = true ↔ _
  rw [e]
  show hasL (reduceL r) c = true ↔ _
  rw [has_reduce hf]
  exact prod_reach ha hb h c
theorem fl_port {p : Pt} (h : portOk p = true) (hk : ∀ b ∈ p.b, I64 b.k) : FL p.b := by
 unfold portOk at h
 simp only [Bool.and_eq_true, decide_eq_true_eq] at h
 exact FL.of_valid h.1.1.2 hk
theorem kept_fin : ∀ v : Fin 16, ∃ d : Fin 16, bits .andNot .i64 15 (v.val : Int) = (d.val : Int) := by decide +kernel
theorem kept_nat {p : Pt} (h : portOk p = true) : ∃ d : Fin 16, keptD p = (d.val : Int) := by
 unfold portOk at h
 simp only [Bool.and_eq_true, decide_eq_true_eq] at h
 obtain ⟨d, hd⟩ := kept_fin ⟨p.v.toNat, by omega⟩
 refine ⟨d, ?_⟩
 unfold keptD
 have : p.v = ((p.v.toNat : Nat) : Int) := by omega
 rw [this]
 exact hd
/-- What holds of Forward up to a port: all is well, and what is reached is reached; or it has stopped. -/
theorem fw_is {l : List Pt} (hv : ∀ p ∈ l, portOk p = true) (hk : ∀ p ∈ l, ∀ b ∈ p.b, I64 b.k) : ∀ n, n ≤ l.length →
 ((fwUp l n).2 = ((0, 0), 0) ∧ (fwUp l n).1.length = n ∧ ∀ i, i < n → FL ((fwUp l n).1.getD i []) ∧ (fwUp l n).1.getD i [] ≠ [] ∧ ∀ c, hasL ((fwUp l n).1.getD i []) c = true ↔ Rch l i c) ∨
 fwUp l n = ([], (0, 0), 3) ∨
 ∃ (k : Nat) (d : Int), k < n ∧ fwUp l n = ([], ((k : Int), d), 13) ∧ (fwUp l k).2.2 = 0 ∧ ∀ c, ¬ Rch l k c := by
 intro n
 induction n with
 | zero => exact fun _ => .inl ⟨rfl, rfl, fun i hi => absurd hi (by omega)⟩
 | succ n ih =>
  intro hn
  obtain ⟨p, hp⟩ : ∃ p, l[n]? = some p := ⟨_, List.getElem?_eq_getElem (by omega)⟩
  have hpm := List.mem_of_getElem? hp
  have hpd : l.getD n noPt = p := by rw [List.getD_eq_getElem?_getD, hp]; rfl
  have hfp := fl_port (hv p hpm) (hk p hpm)
  rcases ih (by omega) with ⟨h1, h2, h3⟩ | h1 | ⟨k, d, h1, h2, h3, h4⟩
  ·have e := fw_next hp (by rw [h1])
   generalize hs : fwUp l n = s at *
   by_cases hb : p.b.length = 0
   ·right; right
    refine ⟨n, 15, by omega, by rw [e]; unfold fwStep; rw [if_pos hb], by rw [hs, h1], fun c hc => ?_⟩
    have hc : hasL p.b c = true := by
     cases n with
     | zero => exact hpd ▸ hc
     | succ m => exact hpd ▸ hc.1
    rw [List.eq_nil_of_length_eq_zero hb] at hc
    obtain ⟨b, hb, -⟩ := (FL.has ⟨by simp, by simp⟩ c).1 hc
    cases hb
   ·cases n with
    | zero =>
     left
     have es : s = ([], (0, 0), 0) := hs.symm
     have e2 : fwUp l (0 + 1) = ([(reduceF p.b).1], (0, 0), 0) := by
      rw [e]
      unfold fwStep
      rw [if_neg hb, if_pos rfl, es]
      rfl
     have er : reduceF p.b = (reduceL p.b, 0) := if_pos hfp.valid
     rw [e2]
     refine ⟨rfl, rfl, fun i hi => ?_⟩
     obtain rfl : i = 0 := by omega
     show FL (reduceF p.b).1 ∧ (reduceF p.b).1 ≠ [] ∧ ∀ c, hasL (reduceF p.b).1 c = true ↔ Rch l 0 c
     rw [er]
     refine ⟨hfp.reduce, fun h => hb (by rw [reduce_nil.1 h]; rfl), fun c => ?_⟩
     rw [has_reduce hfp]
     show _ ↔ hasL (l.getD 0 noPt).b c = true
     rw [hpd]
    | succ m =>
     obtain ⟨g1, g2, g3⟩ := h3 m (by omega)
     have hr : ∀ c, Rch l (m + 1) c ↔ hasL p.b c = true ∧ ∃ e, hasL (s.1.getD m []) e = true ∧ agD (keptD (l.getD m noPt)) e c = true := by
      intro c
      show (hasL (l.getD (m + 1) noPt).b c = true ∧ ∃ e, Rch l m e ∧ agD (keptD (l.getD m noPt)) e c = true) ↔ _
      rw [hpd]
      exact ⟨fun ⟨a1, q, a2, a3⟩ => ⟨a1, q, (g3 q).2 a2, a3⟩, fun ⟨a1, q, a2, a3⟩ => ⟨a1, q, (g3 q).1 a2, a3⟩⟩
     have es : fwUp l (m + 1 + 1) = if (productF (keptD (l.getD m noPt)) p.b (s.1.getD m [])).2 ≠ 0 then ([], (0, 0), (productF (keptD (l.getD m noPt)) p.b (s.1.getD m [])).2)
      else if (productF (keptD (l.getD m noPt)) p.b (s.1.getD m [])).1.length = 0 then ([], (((m + 1 : Nat) : Int), apartD (keptD (l.getD m noPt)) p.b (s.1.getD m [])), 13)
      else (s.1 ++ [(productF (keptD (l.getD m noPt)) p.b (s.1.getD m [])).1], (0, 0), 0) := by
      rw [e]
      unfold fwStep
      rw [if_neg hb, if_neg (by omega)]
      rfl
     rcases prodF_cases (d := keptD (l.getD m noPt)) hfp g1 with hq | ⟨q1, q2, q3⟩
     ·right; left
      rw [es, hq]
      rfl
     ·rw [if_neg (by rw [q1]; simp)] at es
      by_cases hq : (productF (keptD (l.getD m noPt)) p.b (s.1.getD m [])).1.length = 0
      ·right; right
       rw [if_pos hq] at es
       refine ⟨m + 1, _, by omega, es, by rw [hs, h1], fun c hc => ?_⟩
       have := (q3 c).2 ((hr c).1 hc)
       rw [List.eq_nil_of_length_eq_zero hq] at this
       obtain ⟨b, hb, -⟩ := (FL.has ⟨by simp, by simp⟩ c).1 this
       cases hb
      ·left
       rw [if_neg hq] at es
       rw [es]
       generalize (productF (keptD (l.getD m noPt)) p.b (s.1.getD m [])).1 = Q at *
       refine ⟨rfl, by show (s.1 ++ [Q]).length = _; rw [List.length_append, h2]; rfl, fun i hi => ?_⟩
       show FL ((s.1 ++ [Q]).getD i []) ∧ (s.1 ++ [Q]).getD i [] ≠ [] ∧ ∀ c, hasL ((s.1 ++ [Q]).getD i []) c = true ↔ Rch l i c
       by_cases him : i = m + 1
       ·subst him
        have eg : ∀ z : List Bx, (s.1 ++ [z]).getD (m + 1) [] = z := fun z => by
         rw [List.getD_eq_getElem?_getD, List.getElem?_append_right (by omega), h2, Nat.sub_self]
         rfl
        rw [eg]
        exact ⟨q2, fun h => hq (by rw [h]; rfl), fun c => (q3 c).trans (hr c).symm⟩
       ·have eg : ∀ z : List Bx, (s.1 ++ [z]).getD i [] = s.1.getD i [] := fun z => by
         rw [List.getD_eq_getElem?_getD, List.getElem?_append_left (by omega), ← List.getD_eq_getElem?_getD]
        rw [eg]
        exact h3 i (by omega)
  ·right; left
   rw [fw_stop (by rw [h1]; simp) (n + 1) (by omega), h1]
  ·right; right
   exact ⟨k, d, by omega, by rw [fw_stop (by rw [h2]; simp) (n + 1) (by omega), h2], h3, h4⟩
end Go.Proofs.YtjbkjgmcfommgaaGreat

namespace Go.Proofs.YtjbkjgmcfommgaaGreat
open Go.RowKit
/-- A slice of ports. -/
def Pts (w : World) (ok : Nat → Prop) (A : Option Addr) (l : List Pt) : Prop :=
 ∃ vs : List Value, RdB w ok 2 A l.length vs ∧ ∀ (i : Nat) (p : Pt), l[i]? = some p → ∃ B c, Bxs w ok B p.b ∧ p.b.length ≤ c ∧ vs[i * 2]? = some (.slice B p.b.length c) ∧ vs[i * 2 + 1]? = some (.int .i64 p.v)
section
variable {w w' wr : World} {ok : Nat → Prop} {A : Option Addr} {l : List Pt}
theorem Pts.nil : Pts w ok none [] := ⟨[], RdB.nil, fun i x h => by simp at h⟩
theorem Pts.grows (h : Pts w ok A l) (hg : Grows w w') : Pts w' ok A l := by
 obtain ⟨vs, h1, h2⟩ := h
 exact ⟨vs, h1.grows hg, fun i p hp => by obtain ⟨B, c, hb, r⟩ := h2 i p hp; exact ⟨B, c, hb.grows hg, r⟩⟩
theorem Pts.mono {b2 : Nat → Prop} (h : Pts w ok A l) (hb : ∀ k, ok k → b2 k) : Pts w b2 A l := by
 obtain ⟨vs, h1, h2⟩ := h
 exact ⟨vs, h1.mono hb, fun i p hp => by obtain ⟨B, c, hx, r⟩ := h2 i p hp; exact ⟨B, c, hx.mono hb, r⟩⟩
theorem Pts.grown (h : Pts w ok A l) {row : Option Nat} (hg : w.grownBy w' row) (hr : ∀ g, row = some g → ¬ ok g) : Pts w' ok A l := by
 obtain ⟨vs, h1, h2⟩ := h
 exact ⟨vs, h1.grown hg hr, fun i p hp => by obtain ⟨B, c, hx, r⟩ := h2 i p hp; exact ⟨B, c, hx.grown hg hr, r⟩⟩
theorem Pts.under (h : Pts w ok A l) : Pts w (Under w.heap.size) A l := by
 obtain ⟨vs, h1, h2⟩ := h
 exact ⟨vs, h1.under, fun i p hp => by obtain ⟨B, c, hx, r⟩ := h2 i p hp; exact ⟨B, c, hx.under, r⟩⟩
theorem Pts.bd (h : Pts w ok A l) : Pts w (Bd ok w.heap.size) A l := by
 obtain ⟨vs, h1, h2⟩ := h
 exact ⟨vs, h1.bd, fun i p hp => by obtain ⟨B, c, hx, r⟩ := h2 i p hp; exact ⟨B, c, hx.bd, r⟩⟩
/-- The first ones of a slice of ports. -/
theorem Pts.take (h : Pts w ok A l) {k : Nat} (hk : k ≤ l.length) : Pts w ok A (l.take k) := by
 obtain ⟨vs, h1, h2⟩ := h
 have e : (l.take k).length = k := by rw [List.length_take]; omega
 obtain ⟨⟨hlen, hr⟩, hlo⟩ := h1
 have hk2 : RdB w ok 2 A k (vs.take (k * 2)) := ⟨⟨by rw [List.length_take]; omega, fun hk0 => by
  obtain ⟨ad, e, lt, hc⟩ := hr (by omega)
  exact ⟨ad, e, lt, fun j u hu => hc j u (by
   rw [List.getElem?_take] at hu
   split at hu
   ·exact hu
   ·cases hu)⟩⟩, fun hk0 ad e => hlo (by omega) ad e⟩
 refine ⟨vs.take (k * 2), by rw [e]; exact hk2, fun i p hp => ?_⟩
 have hik : i < k := by have := (List.getElem?_eq_some_iff.1 hp).1; omega
 rw [List.getElem?_take_of_lt hik] at hp
 obtain ⟨B, c, hb, hc, r1, r2⟩ := h2 i p hp
 exact ⟨B, c, hb, hc, by rw [List.getElem?_take_of_lt (by omega)]; exact r1, by rw [List.getElem?_take_of_lt (by omega)]; exact r2⟩
theorem Pts.elem (h : Pts w ok A l) (hB : Grows w wr) {k : Nat} (hk : k < l.length) : ∃ ad p B c, A = some ad ∧ ad.block < wr.heap.size ∧ l[k]? = some p ∧ Bxs w ok B p.b ∧ p.b.length ≤ c ∧ wr.cell? (ad.add (k * 2)) = some (.slice B p.b.length c) ∧ wr.cell? { block := (ad.add (k * 2)).block, off := (ad.add (k * 2)).off + 1 } = some (.int .i64 p.v) := by
 obtain ⟨vs, h1, h2⟩ := h
 obtain ⟨ad, e, hb, hc⟩ := (Reads.grows h1.1 hB).2 (by omega)
 have hx := List.getElem?_eq_getElem hk
 obtain ⟨B, c, hx2, hc2, r1, r2⟩ := h2 k _ hx
 refine ⟨ad, _, B, c, e, hb, hx, hx2, hc2, hc _ _ r1, ?_⟩
 have := hc _ _ r2
 have e2 : ad.add (k * 2 + 1) = { block := (ad.add (k * 2)).block, off := (ad.add (k * 2)).off + 1 } := by
  rw [← add_of_add]
  generalize ad.add (k * 2) = q
  unfold Addr.add
  rw [if_neg (by omega)]
 rwa [e2] at this
end
end Go.Proofs.YtjbkjgmcfommgaaGreat

namespace Go.Proofs.YtjbkjgmcfommgaaGreat
open Go.RowKit
set_option maxHeartbeats 4000000 in
theorem ssame_eq (A A2 : Option Addr) (c c2 : Nat) (l : List Sp) (w : World) (h : Sps w A l) (h2 : Sps w A2 l) (hl : l.length ≤ 9223372036854775807) :
    Calls Tryz.prog 95 #[.agg #[.slice A l.length c], .agg #[.slice A2 l.length c2]] w fun e w' => e = .returned (.bool true) ∧ Grows w w' := by
  have k1 := (Blk.new w 58 #[.slice A l.length c]).alloc (Obj.cells #[.slice A2 l.length c2] 58)
  have k2 := blk_new_at (X := w.alloc (Obj.cells #[.slice A l.length c] 58)) (n := w.heap.size + 1) (t := 58) (cs := #[.slice A2 l.length c2]) (by simp)
  have hB := ((Below.refl w.heap.size w).alloc (Nat.le_refl _) (Obj.cells #[.slice A l.length c] 58)).alloc (by simp) (Obj.cells #[.slice A2 l.length c2] 58)
  go_enter Tryz.func95, Tryz.ntmps95
  go_upto_region 1 with fail
  have h1 := h.grows hB
  have h3 := h2.grows hB
  generalize World.alloc (World.alloc w _) _ = w1 at *
  have x1 := k1.cell 0
  have x2 := k2.cell 0
  go_wp2_with fail
  clear x1 x2
  go_loopw [16] (fun i wr => ∃ k : Nat, k ≤ l.length ∧ i = .int .i64 k ∧ Grows w1 wr) (fun i _ => l.length - (intOf i).toNat)
  case atStart => exact ⟨0, by omega, rfl, Below.refl _ _⟩
  case round =>
    obtain ⟨k, hk, rfl, hg⟩ := hrel
    by_cases hlt : k < l.length
    · obtain ⟨ad, x, rfl, had, hx, c0, c1⟩ := (h1.grows hg).elem hlt
      obtain ⟨ad2, x2, rfl, had2, hx2, d0, d1⟩ := (h3.grows hg).elem hlt
      rw [hx] at hx2
      injection hx2 with hx2
      subst hx2
      clear hx
      have k3 := k1.grows hg
      have k4 := k2.grows hg
      have y1 := k3.cell 0
      have y2 := k4.cell 0
      go_upto_region 6 with fail
      go_region
      replace hg := below_grows hg (Nat.le_refl _) (Grows.drew' wr)
      go_wp2
      go_roundw
      case rel => exact ⟨k + 1, by omega, by go_num, hg⟩
      case measure => simp [intOf]; omega
    · go_wp2
      go_ret
      exact ⟨rfl, below_grows hB (Nat.le_refl _) hg⟩
set_option maxHeartbeats 32000000 in
set_option maxRecDepth 10000 in
theorem samebox_eq {ba bb : Nat → Prop} {b : Bx} {A1 A2 A3 B1 B2 B3 : Option Addr} {c1 c2 c3 d1 d2 d3 : Nat} {w : World} (hpa : BoxP w ba b A1 c1 A2 c2 A3 c3) (hpb : BoxP w bb b B1 d1 B2 d2 B3 d3) (hl : OKB b) :
    Calls Tryz.prog 62 #[.agg #[.int .i64 b.k, .slice A1 b.r.length c1, .slice A2 b.m.length c2, .slice A3 b.s.length c3], .agg #[.int .i64 b.k, .slice B1 b.r.length d1, .slice B2 b.m.length d2, .slice B3 b.s.length d3]] w fun e w' => e = .returned (.bool true) ∧ Grows w w' := by
  obtain ⟨hlr, hls, hlm, hlx⟩ := hl
  have HLX := Lib.hid hlx
  clear hlx
  have ka := ((Blk.new w 61 #[.int .i64 b.k, .slice A1 b.r.length c1, .slice A2 b.m.length c2, .slice A3 b.s.length c3]).alloc (Obj.cells #[.int .i64 b.k, .slice B1 b.r.length d1, .slice B2 b.m.length d2, .slice B3 b.s.length d3] 61))
  have kb := (Blk.new (w.alloc (Obj.cells #[.int .i64 b.k, .slice A1 b.r.length c1, .slice A2 b.m.length c2, .slice A3 b.s.length c3] 61)) 61 #[.int .i64 b.k, .slice B1 b.r.length d1, .slice B2 b.m.length d2, .slice B3 b.s.length d3])
  have hB := (((Below.refl w.heap.size w).alloc (Nat.le_refl _) (Obj.cells #[.int .i64 b.k, .slice A1 b.r.length c1, .slice A2 b.m.length c2, .slice A3 b.s.length c3] 61)).alloc (by simp) (Obj.cells #[.int .i64 b.k, .slice B1 b.r.length d1, .slice B2 b.m.length d2, .slice B3 b.s.length d3] 61))
  go_enter Tryz.func62, Tryz.ntmps62
  go_upto_region 1 with fail
  have hs1 : (w.alloc (Obj.cells #[.int .i64 b.k, .slice A1 b.r.length c1, .slice A2 b.m.length c2, .slice A3 b.s.length c3] 61)).heap.size = w.heap.size + 1 := by simp
  rw [hs1] at kb
  clear hs1
  generalize World.alloc (World.alloc w _) _ = w2 at *
  generalize hG1 : w.heap.size + 1 = G1 at *
  have HG1 := Lib.hid hG1
  clear hG1
  have xa := ka.cell
  have xb := kb.cell
  go_wp2_with fail
  refine (ssame_eq A1 B1 c1 d1 b.r _ (hpa.r.grows hB).sps (hpb.r.grows hB).sps (by omega)).mono ?_
  rintro e w3 ⟨rfl, hq⟩
  replace hB := below_grows hB (Nat.le_refl _) hq
  replace ka := ka.grows hq
  replace kb := kb.grows hq
  clear hq xa xb
  have xa := ka.cell
  have xb := kb.cell
  go_wp2_with fail
  refine (ssame_eq A3 B3 c3 d3 b.s _ (hpa.s.grows hB).sps (hpb.s.grows hB).sps (by omega)).mono ?_
  rintro e w4 ⟨rfl, hq⟩
  replace hB := below_grows hB (Nat.le_refl _) hq
  replace ka := ka.grows hq
  replace kb := kb.grows hq
  clear hq xa xb
  have xa := ka.cell
  have xb := kb.cell
  go_wp2_with fail
  clear xa xb
  go_loopw [39] (fun i wr => ∃ k : Nat, k ≤ b.m.length ∧ i = .int .i64 k ∧ Blk wr w.heap.size 61 #[.int .i64 b.k, .slice A1 b.r.length c1, .slice A2 b.m.length c2, .slice A3 b.s.length c3] ∧ Blk wr G1 61 #[.int .i64 b.k, .slice B1 b.r.length d1, .slice B2 b.m.length d2, .slice B3 b.s.length d3] ∧ Below w.heap.size w wr) (fun i _ => b.m.length - (intOf i).toNat)
  case atStart => exact ⟨0, by omega, rfl, ka, kb, hB⟩
  case round =>
    clear ka kb hB
    obtain ⟨k, hk, rfl, ka, kb, hB⟩ := hrel
    by_cases hlt : k < b.m.length
    · obtain ⟨ad, x, C, cx, e1, had, hx, q0, hcx, hix⟩ := (hpa.m.grows hB).elem hlt
      obtain ⟨ad2, y, D, cy, e2, had2, hy, p0, hcy, hiy⟩ := (hpb.m.grows hB).elem hlt
      rw [hx] at hy
      injection hy with hy
      subst hy
      subst e1
      subst e2
      have hxl := HLX.out x (List.mem_of_getElem? hx)
      clear hx
      have HC : Hid (∀ w0, Grows wr w0 → Calls Tryz.prog 78 #[.slice C x.length cx, .slice D x.length cy] w0 fun e w' => e = .returned (.bool true) ∧ Grows w0 w') := Lib.hid fun w0 h => by
        have := rsame6_any C D cx cy x x w0 (hix.ints.grows h) (hiy.ints.grows h) (by omega) (by omega)
        simpa using this
      go_upto_region 6 with fail
      refine wp_region_mix (fun w' => Grows wr w') [] 12 55 (by kernel_rfl) (by kernel_rfl) rfl ?_ float_none ?_ ?_
      · exact fun w1 w2 h0 hg => below_grows h0 (Nat.le_refl _) hg
      · exact Grows.drew' _
      · skip
        simp only [List.take_succ_cons, List.take_zero, List.drop_succ_cons, List.drop_zero]
        iterate 12
          refine calm_plain rfl rfl (v := ?_) (a' := ?_) (fun w1 hw1 => ?_) ?_ ?_
          rotate_left 2
          · have h0 := hw1
            have xa := (ka.grows h0).cell
            have xb := (kb.grows h0).cell
            have r0 := (h0.cell (p := ad.add k) (by rw [block_of_add]; exact had)).trans q0
            have r1 := (h0.cell (p := ad2.add k) (by rw [block_of_add]; exact had2)).trans p0
            go_simp
            first | exact calm_val | (refine calm_call ?_; with_reducible exact HC.out _ h0)
          · simp only [Act.put, List.setIfInBounds_toArray, List.set_cons_succ, List.set_cons_zero]
            rfl
        refine calm_done (end_none ?_)
        intro wq hg
        replace hB := below_grows hB (Nat.le_refl _) hg
        replace ka := ka.grows hg
        replace kb := kb.grows hg
        clear hg q0 p0 HC hix hiy
        go_wp2
        go_roundw
        case rel => exact ⟨k + 1, by omega, by go_num, ka, kb, hB⟩
        case measure => simp [intOf]; omega
    · go_wp2
      go_ret
      exact ⟨rfl, hB⟩
set_option maxHeartbeats 32000000 in
set_option maxRecDepth 10000 in
theorem same_eq {ba bb : Nat → Prop} {A B : Option Addr} {c d n m : Nat} {l : List Bx} {w : World} (hn : n = l.length) (hm : m = l.length) (ha : Bxs w ba A l) (hb : Bxs w bb B l) (hl : l.length ≤ 1000000) (ho : ∀ b ∈ l, OKB b) :
    Calls Tryz.prog 35 #[.slice A n c, .slice B m d] w fun e w' => e = .returned (.bool true) ∧ Grows w w' := by
  subst hn
  subst hm
  have HO := Lib.hid ho
  clear ho
  have hB := Below.refl w.heap.size w
  go_enter Tryz.func35, Tryz.ntmps35
  go_wp2_with fail
  go_loopw [13] (fun i wr => ∃ k : Nat, k ≤ l.length ∧ i = .int .i64 k ∧ Below w.heap.size w wr) (fun i _ => l.length - (intOf i).toNat)
  case atStart => exact ⟨0, by omega, rfl, hB⟩
  case round =>
    clear hB
    obtain ⟨k, hk, rfl, hB⟩ := hrel
    by_cases hlt : k < l.length
    · obtain ⟨ad, b, A1, c1, A2, c2, A3, c3, e1, had, hx, hpa, q0, q1, q2, q3⟩ := (ha.grows hB).elem hlt
      obtain ⟨ad2, y, B1, d1, B2, d2, B3, d3, e2, had2, hy, hpb, p0, p1, p2, p3⟩ := (hb.grows hB).elem hlt
      rw [hx] at hy
      injection hy with hy
      subst hy
      subst e1
      subst e2
      have hob := HO.out b (List.mem_of_getElem? hx)
      clear hx
      have HC : Hid (∀ w0, Grows wr w0 → Calls Tryz.prog 62 #[.agg #[.int .i64 b.k, .slice A1 b.r.length c1, .slice A2 b.m.length c2, .slice A3 b.s.length c3], .agg #[.int .i64 b.k, .slice B1 b.r.length d1, .slice B2 b.m.length d2, .slice B3 b.s.length d3]] w0 fun e w' => e = .returned (.bool true) ∧ Grows w0 w') := Lib.hid fun w0 h => samebox_eq (hpa.grows h) (hpb.grows h) hob
      go_upto_region 6 with fail
      refine wp_region_mix (fun w' => Grows wr w') [] 10 27 (by kernel_rfl) (by kernel_rfl) rfl ?_ float_none ?_ ?_
      · exact fun w1 w2 h0 hg => below_grows h0 (Nat.le_refl _) hg
      · exact Grows.drew' _
      · skip
        simp only [List.take_succ_cons, List.take_zero, List.drop_succ_cons, List.drop_zero]
        iterate 10
          refine calm_plain rfl rfl (v := ?_) (a' := ?_) (fun w1 hw1 => ?_) ?_ ?_
          rotate_left 2
          · have h0 := hw1
            have r0 := (h0.cell (p := ad.add (k * 4)) (by rw [block_of_add]; exact had)).trans q0
            have r1 := (h0.cell (p := ⟨(ad.add (k * 4)).block, (ad.add (k * 4)).off + 1, none⟩) (by simp only [block_of_add]; exact had)).trans q1
            have r2 := (h0.cell (p := ⟨(ad.add (k * 4)).block, (ad.add (k * 4)).off + 2, none⟩) (by simp only [block_of_add]; exact had)).trans q2
            have r3 := (h0.cell (p := ⟨(ad.add (k * 4)).block, (ad.add (k * 4)).off + 3, none⟩) (by simp only [block_of_add]; exact had)).trans q3
            have s0 := (h0.cell (p := ad2.add (k * 4)) (by rw [block_of_add]; exact had2)).trans p0
            have s1 := (h0.cell (p := ⟨(ad2.add (k * 4)).block, (ad2.add (k * 4)).off + 1, none⟩) (by simp only [block_of_add]; exact had2)).trans p1
            have s2 := (h0.cell (p := ⟨(ad2.add (k * 4)).block, (ad2.add (k * 4)).off + 2, none⟩) (by simp only [block_of_add]; exact had2)).trans p2
            have s3 := (h0.cell (p := ⟨(ad2.add (k * 4)).block, (ad2.add (k * 4)).off + 3, none⟩) (by simp only [block_of_add]; exact had2)).trans p3
            go_simp
            first | exact calm_val | (refine calm_call ?_; with_reducible exact HC.out _ h0)
          · simp only [Act.put, List.setIfInBounds_toArray, List.set_cons_succ, List.set_cons_zero]
            rfl
        refine calm_done (end_none ?_)
        intro wq hg
        replace hB := below_grows hB (Nat.le_refl _) hg
        clear hg q0 q1 q2 q3 p0 p1 p2 p3 HC hpa hpb
        go_wp2
        go_roundw
        case rel => exact ⟨k + 1, by omega, by go_num, hB⟩
        case measure => simp [intOf]; omega
    · go_wp2
      go_ret
      exact ⟨rfl, hB⟩
end Go.Proofs.YtjbkjgmcfommgaaGreat


namespace Go.Proofs.YtjbkjgmcfommgaaGreat
open Go.RowKit
def Dk (n : Nat) (ba : Nat → Prop) : Nat → Prop := fun k => (ba k ∧ k < n) ∨ n + 4 ≤ k
set_option maxHeartbeats 64000000 in
set_option maxRecDepth 10000 in
theorem rdims_any {ba bb : Nat → Prop} {a b : Bx} {A1 A2 A3 B1 B2 B3 : Option Addr} {c1 c2 c3 d1 d2 d3 : Nat} {w : World} (hpa : BoxP w ba a A1 c1 A2 c2 A3 c3) (hpb : BoxP w bb b B1 d1 B2 d2 B3 d3) (hla : OKB a) (hlb : OKB b) (d : Int) :
    Calls Tryz.prog 41 #[.agg #[.int .i64 a.k, .slice A1 a.r.length c1, .slice A2 a.m.length c2, .slice A3 a.s.length c3], .agg #[.int .i64 b.k, .slice B1 b.r.length d1, .slice B2 b.m.length d2, .slice B3 b.s.length d3], .int .i64 d] w fun e w' => (∃ v, e = .returned (.tuple #[v, .bool (someB (dimsF d a b)), .bool (manyB d (dimsF d a b))]) ∧ BoxV w' (Dk w.heap.size ba) (dimsF d a b) v) ∧ Grows w w' := by
  obtain ⟨har, has_, ham, hax⟩ := hla
  obtain ⟨hbr, hbs, hbm, hbx⟩ := hlb
  have HAX := Lib.hid hax
  have HBX := Lib.hid hbx
  clear hax hbx
  have ka := ((Blk.new w 61 #[.int .i64 a.k, .slice A1 a.r.length c1, .slice A2 a.m.length c2, .slice A3 a.s.length c3]).alloc (Obj.cells #[.int .i64 b.k, .slice B1 b.r.length d1, .slice B2 b.m.length d2, .slice B3 b.s.length d3] 61)).alloc (Obj.cells #[.int .i64 0, .slice none 0 0, .slice none 0 0, .slice none 0 0] 61)
  have kb := (blk_new_at (X := w.alloc (Obj.cells #[.int .i64 a.k, .slice A1 a.r.length c1, .slice A2 a.m.length c2, .slice A3 a.s.length c3] 61)) (n := w.heap.size + 1) (t := 61) (cs := #[.int .i64 b.k, .slice B1 b.r.length d1, .slice B2 b.m.length d2, .slice B3 b.s.length d3]) (by simp)).alloc (Obj.cells #[.int .i64 0, .slice none 0 0, .slice none 0 0, .slice none 0 0] 61)
  have k4 := blk_new_at (X := (w.alloc (Obj.cells #[.int .i64 a.k, .slice A1 a.r.length c1, .slice A2 a.m.length c2, .slice A3 a.s.length c3] 61)).alloc (Obj.cells #[.int .i64 b.k, .slice B1 b.r.length d1, .slice B2 b.m.length d2, .slice B3 b.s.length d3] 61)) (n := w.heap.size + 2) (t := 61) (cs := #[.int .i64 0, .slice none 0 0, .slice none 0 0, .slice none 0 0]) (by simp)
  have hB := (((Below.refl w.heap.size w).alloc (Nat.le_refl _) (Obj.cells #[.int .i64 a.k, .slice A1 a.r.length c1, .slice A2 a.m.length c2, .slice A3 a.s.length c3] 61)).alloc (by simp) (Obj.cells #[.int .i64 b.k, .slice B1 b.r.length d1, .slice B2 b.m.length d2, .slice B3 b.s.length d3] 61)).alloc (by simp; omega) (Obj.cells #[.int .i64 0, .slice none 0 0, .slice none 0 0, .slice none 0 0] 61)
  have hs3 : (((w.alloc (Obj.cells #[.int .i64 a.k, .slice A1 a.r.length c1, .slice A2 a.m.length c2, .slice A3 a.s.length c3] 61)).alloc (Obj.cells #[.int .i64 b.k, .slice B1 b.r.length d1, .slice B2 b.m.length d2, .slice B3 b.s.length d3] 61)).alloc (Obj.cells #[.int .i64 0, .slice none 0 0, .slice none 0 0, .slice none 0 0] 61)).heap.size = w.heap.size + 3 := by simp
  have HK : Hid ((dimsF d a b).k = if bitZ d 1 = true then bits .and .i64 a.k b.k else a.k) := Lib.hid rfl
  have HR : Hid ((dimsF d a b).r = if bitZ d 2 = true then interF (spansF a.r) (spansF b.r) else a.r) := Lib.hid rfl
  have HM : Hid ((dimsF d a b).m = if bitZ d 4 = true then a.m.filter (fun x => decide (x ∈ b.m)) else a.m) := Lib.hid rfl
  have HZ : Hid ((dimsF d a b).s = if bitZ d 8 = true then interF (spansF a.s) (spansF b.s) else a.s) := Lib.hid rfl
  have HSB : Hid (someB (dimsF d a b) = (((dimsF d a b).k != 0) && decide (0 < (dimsF d a b).m.length) && decide (0 < (dimsF d a b).r.length) && decide (0 < (dimsF d a b).s.length))) := Lib.hid rfl
  have HMB : Hid (manyB d (dimsF d a b) = ((bitZ d 2 && decide (64 < (dimsF d a b).r.length)) || (bitZ d 8 && decide (64 < (dimsF d a b).s.length)))) := Lib.hid rfl
  generalize dimsF d a b = z at *
  go_enter Tryz.func41, Tryz.ntmps41
  go_upto_region 1 with fail
  generalize World.alloc (World.alloc (World.alloc w _) _) _ = w1 at *
  have xa := ka.cell
  have k9 := Blk.new w1 61 #[.int .i64 a.k, .slice A1 a.r.length c1, .slice A2 a.m.length c2, .slice A3 a.s.length c3]
  rw [hs3] at k9
  have hq := (Below.refl w1.heap.size w1).alloc (Nat.le_refl _) (Obj.cells #[.int .i64 a.k, .slice A1 a.r.length c1, .slice A2 a.m.length c2, .slice A3 a.s.length c3] 61)
  go_upto_region 2 with fail
  try rw [hs3]
  replace hB := below_grows hB (Nat.le_refl _) hq
  replace ka := ka.grows hq
  replace kb := kb.grows hq
  replace k4 := k4.grows hq
  clear hq xa hs3
  generalize World.alloc w1 _ = w2 at *
  generalize hq9 : w.heap.size + 3 = q9 at *
  go_upto_if 16 with fail
  go_cut [] (fun wx => (Below w.heap.size w wx ∧ Blk wx w.heap.size 61 #[.int .i64 a.k, .slice A1 a.r.length c1, .slice A2 a.m.length c2, .slice A3 a.s.length c3] ∧ Blk wx (w.heap.size + 1) 61 #[.int .i64 b.k, .slice B1 b.r.length d1, .slice B2 b.m.length d2, .slice B3 b.s.length d3] ∧ Blk wx (w.heap.size + 2) 61 #[.int .i64 0, .slice none 0 0, .slice none 0 0, .slice none 0 0]) ∧ Blk wx q9 61 #[.int .i64 z.k, .slice A1 a.r.length c1, .slice A2 a.m.length c2, .slice A3 a.s.length c3])
  case first =>
    cases hb : bitZ d 1
    · have e1 : (bits .and .i64 d 1 != 0) = false := hb
      have HE : Hid (z.k = a.k) := Lib.hid (by rw [HK.out, hb]; rfl)
      clear hb
      go_wp2
      go_meet
      exact ⟨⟨hB, ka, kb, k4⟩, by rw [HE.out]; exact k9⟩
    · have e1 : (bits .and .i64 d 1 != 0) = true := hb
      have HE : Hid (z.k = bits .and .i64 a.k b.k) := Lib.hid (by rw [HK.out, hb]; rfl)
      clear hb
      have xa := ka.cell
      have xb := kb.cell
      have x9 := k9.cell
      have f9 := k9.frozen
      go_wp2
      go_meet
      exact ⟨⟨hB.setCell (p := ⟨q9, 0, none⟩) (show w.heap.size ≤ q9 by omega) _, ka.far (p := ⟨q9, 0, none⟩) (show w.heap.size ≠ q9 by omega) _, kb.far (p := ⟨q9, 0, none⟩) (show w.heap.size + 1 ≠ q9 by omega) _, k4.far (p := ⟨q9, 0, none⟩) (show w.heap.size + 2 ≠ q9 by omega) _⟩, by rw [HE.out]; exact k9.set_ 0 _⟩
  case rest =>
  obtain ⟨⟨hB2, ka2, kb2, k42⟩, k92⟩ := hcut
  clear hB ka kb k4 k9
  have hB := hB2
  have ka := ka2
  have kb := kb2
  have k4 := k42
  have k9 := k92
  clear hB2 ka2 kb2 k42 k92
  generalize wc = w3 at *
  have hpm : MapsR w (Dk w.heap.size ba) A2 a.m := hpa.m.bd.mono (fun k hk => Or.inl hk)
  have hpr : RdB w (Dk w.heap.size ba) 2 A1 a.r.length (scells a.r) := RdB.mono (RdB.bd hpa.r) (fun k hk => Or.inl hk)
  have hps : RdB w (Dk w.heap.size ba) 2 A3 a.s.length (scells a.s) := RdB.mono (RdB.bd hpa.s) (fun k hk => Or.inl hk)
  go_upto_if 25 with fail
  go_cut [] (fun wx => (Below w.heap.size w wx ∧ Blk wx w.heap.size 61 #[.int .i64 a.k, .slice A1 a.r.length c1, .slice A2 a.m.length c2, .slice A3 a.s.length c3] ∧ Blk wx (w.heap.size + 1) 61 #[.int .i64 b.k, .slice B1 b.r.length d1, .slice B2 b.m.length d2, .slice B3 b.s.length d3] ∧ Blk wx (w.heap.size + 2) 61 #[.int .i64 0, .slice none 0 0, .slice none 0 0, .slice none 0 0]) ∧ ∃ (A6 : Option Addr) (c6 : Nat), Blk wx q9 61 #[.int .i64 z.k, .slice A1 a.r.length c1, .slice A6 z.m.length c6, .slice A3 a.s.length c3] ∧ z.m.length ≤ c6 ∧ MapsR wx (Dk w.heap.size ba) A6 z.m)
  case first =>
    cases hb : bitZ d 4
    · have e1 : (bits .and .i64 d 4 != 0) = false := hb
      have HE : Hid (z.m = a.m) := Lib.hid (by rw [HM.out, hb]; rfl)
      clear hb
      go_wp2
      go_meet
      exact ⟨⟨hB, ka, kb, k4⟩, A2, c2, by rw [HE.out]; exact k9, by rw [HE.out]; exact hpa.cm, by rw [HE.out]; exact hpm.grows hB⟩
    · have e1 : (bits .and .i64 d 4 != 0) = true := hb
      rw [e1]
      have HE : Hid (z.m = a.m.filter (fun x => decide (x ∈ b.m))) := Lib.hid (by rw [HM.out, hb]; rfl)
      clear hb
      have x9 := k9.cell
      have f9 := k9.frozen
      go_upto_region 6 with fail
      replace hB := hB.setCell (p := ⟨q9, 2, none⟩) (show w.heap.size ≤ q9 by omega) (.slice none 0 0)
      replace ka := ka.far (p := ⟨q9, 2, none⟩) (show w.heap.size ≠ q9 by omega) (.slice none 0 0)
      replace kb := kb.far (p := ⟨q9, 2, none⟩) (show w.heap.size + 1 ≠ q9 by omega) (.slice none 0 0)
      replace k4 := k4.far (p := ⟨q9, 2, none⟩) (show w.heap.size + 2 ≠ q9 by omega) (.slice none 0 0)
      have k9n := k9.set_ 2 (.slice none 0 0)
      clear x9 f9 k9
      generalize World.setCell w3 _ _ = w4 at *
      have k9 : Blk w4 q9 61 #[.int .i64 z.k, .slice A1 a.r.length c1, .slice none 0 0, .slice A3 a.s.length c3] := k9n
      clear k9n
      obtain ⟨b2, hb2⟩ : ∃ b2, b2 = w4.heap.size := ⟨_, rfl⟩
      have hb3 : b2 ≤ w4.heap.size := by omega
      have hl9 : q9 < b2 := by have := k9.lt; omega
      clear hb2
      have xa := ka.cell
      go_wp2_with fail
      clear xa
      go_loopw [30] (fun i wr => ∃ (k : Nat) (V : Value), k ≤ a.m.length ∧ i = .int .i64 k ∧ b2 ≤ wr.heap.size ∧ OwnMq wr b2 (Bd ba w.heap.size) V ((a.m.take k).filter fun x => decide (x ∈ b.m)) ∧ (Below w.heap.size w wr ∧ Blk wr w.heap.size 61 #[.int .i64 a.k, .slice A1 a.r.length c1, .slice A2 a.m.length c2, .slice A3 a.s.length c3] ∧ Blk wr (w.heap.size + 1) 61 #[.int .i64 b.k, .slice B1 b.r.length d1, .slice B2 b.m.length d2, .slice B3 b.s.length d3] ∧ Blk wr (w.heap.size + 2) 61 #[.int .i64 0, .slice none 0 0, .slice none 0 0, .slice none 0 0]) ∧ Blk wr q9 61 #[.int .i64 z.k, .slice A1 a.r.length c1, V, .slice A3 a.s.length c3]) (fun i _ => a.m.length - (intOf i).toNat)
      case atStart => exact ⟨0, _, by omega, rfl, hb3, OwnMq.nil, ⟨hB, ka, kb, k4⟩, k9⟩
      case round =>
        clear ka kb k4 k9 hB hb3
        obtain ⟨k, V, hk, rfl, hb3, ho, ⟨hB, ka, kb, k4⟩, k9⟩ := hrel
        obtain ⟨A2', c2', rfl, hc2', -⟩ := ho.read
        by_cases hlt : k < a.m.length
        · obtain ⟨ad, x, B0, cm, ea, had, hx, q0, hcm, hix⟩ := hpa.m.bd.elem hlt
          replace q0 := (hB.cell (p := ad.add k) (by rw [block_of_add]; exact had)).trans q0
          subst ea
          have HX := Lib.hid (filter_next (p := fun x => decide (x ∈ b.m)) hx)
          have hxl : x.length ≤ 1000000 := HAX.out x (List.mem_of_getElem? hx)
          have hkl : ((a.m.take k).filter fun x => decide (x ∈ b.m)).length + 1 ≤ 1000000 := by
            have := List.length_filter_le (fun x => decide (x ∈ b.m)) (a.m.take k)
            rw [List.length_take] at this
            omega
          clear hx
          generalize ((a.m.take k).filter fun x => decide (x ∈ b.m)) = ms at *
          have xb := kb.cell
          go_wp2_with fail
          refine (rhas_any B2 B0 d2 cm b.m x _ rfl (hpb.m.grows hB) hbm HBX.out (hix.ints.grows hB) hxl).mono ?_
          by_cases h5 : x ∈ b.m
          case neg =>
            have HT : Hid ((a.m.take (k + 1)).filter (fun x => decide (x ∈ b.m)) = ms) := Lib.hid (by rw [HX.out, decide_eq_false h5, if_neg (by decide), List.append_nil])
            rw [decide_eq_false h5]
            clear h5 HX
            rintro e w5 ⟨rfl, hg⟩
            replace hB := below_grows hB (Nat.le_refl _) hg
            replace ka := ka.grows hg
            replace kb := kb.grows hg
            replace k4 := k4.grows hg
            replace k9 := k9.grows hg
            replace ho := ho.grows hg
            replace hb3 := Nat.le_trans hb3 hg.size
            clear hg xb q0
            go_wp2
            go_roundw
            case rel => exact ⟨k + 1, _, by omega, by go_num, hb3, by rw [HT.out]; exact ho, ⟨hB, ka, kb, k4⟩, k9⟩
            case measure => simp [intOf]; omega
          have HT : Hid ((a.m.take (k + 1)).filter (fun x => decide (x ∈ b.m)) = ms ++ [x]) := Lib.hid (by rw [HX.out, decide_eq_true h5, if_pos rfl])
          rw [decide_eq_true h5]
          clear h5 HX
          rintro e w5 ⟨rfl, hg⟩
          replace hB := below_grows hB (Nat.le_refl _) hg
          replace ka := ka.grows hg
          replace kb := kb.grows hg
          replace k4 := k4.grows hg
          replace k9 := k9.grows hg
          replace ho := ho.grows hg
          replace hb3 := Nat.le_trans hb3 hg.size
          clear hg xb q0
          have x9 := k9.cell
          go_upto_region 10 with fail
          refine wp_region_lit ?_
          iterate 4
            refine wpList_plain rfl (fun K hK => ?_)
            go_simp
            refine hK _ _ ?_
            clear hK K
          have hk0 := Blk.new w5 38 #[.slice B0 x.length cm]
          have hq := (Below.refl w5.heap.size w5).alloc (Nat.le_refl _) (Obj.cells #[.slice B0 x.length cm] 38)
          have hrd : Reads (w5.alloc (Obj.cells #[.slice B0 x.length cm] 38)) (w5.alloc (Obj.cells #[.slice B0 x.length cm] 38)).heap.size 1 (some ⟨w5.heap.size, 0, none⟩) 1 [.slice B0 x.length cm] := ⟨rfl, fun _ => ⟨_, rfl, hk0.lt, fun j u hu => by rw [add_head, hk0.cell, ← Array.getElem?_toList]; exact hu⟩⟩
          replace hB := below_grows hB (Nat.le_refl _) hq
          replace ka := ka.grows hq
          replace kb := kb.grows hq
          replace k4 := k4.grows hq
          replace k9 := k9.grows hq
          replace ho := ho.grows hq
          replace hb3 := Nat.le_trans hb3 hq.size
          have hix2 := InB.grows hix hB
          have hol := ho.lt
          clear hq hk0 x9
          refine wpList_append_mapq rfl (.tmp 39) (.tmp 41) rfl rfl ho rfl hrd (by omega) hb3 hix2 hcm (fun ad e hl e2 => by have := (hol _ e2).1; have := (hix.2 hl ad e).2; omega) ?_
          intro v6 w6 ho2 hgr
          replace hB := hB.grown hgr hB.size (fun q e => by have := (hol q e).1; omega)
          replace ka := ka.grown hgr (fun e => by have := (hol _ e.symm).1; omega)
          replace kb := kb.grown hgr (fun e => by have := (hol _ e.symm).1; omega)
          replace k4 := k4.grown hgr (fun e => by have := (hol _ e.symm).1; omega)
          replace k9 := k9.grown hgr (fun e => by have := (hol _ e.symm).1; omega)
          replace hb3 := Nat.le_trans hb3 hgr.size
          clear hrd hgr ho hol hix2
          generalize ms ++ [x] = ms2 at *
          obtain ⟨A8, c8, rfl, hc8, -⟩ := ho2.read
          have y9 := k9.cell
          have f9 := k9.frozen
          replace hB := hB.setCell (p := ⟨q9, 2, none⟩) (show w.heap.size ≤ q9 by omega) (.slice A8 ms2.length c8)
          replace ka := ka.far (p := ⟨q9, 2, none⟩) (show w.heap.size ≠ q9 by omega) (.slice A8 ms2.length c8)
          replace kb := kb.far (p := ⟨q9, 2, none⟩) (show w.heap.size + 1 ≠ q9 by omega) (.slice A8 ms2.length c8)
          replace k4 := k4.far (p := ⟨q9, 2, none⟩) (show w.heap.size + 2 ≠ q9 by omega) (.slice A8 ms2.length c8)
          have k9n := k9.set_ 2 (.slice A8 ms2.length c8)
          have ho3 := ho2.only (d_only_set (World.grownBy.refl _ (some q9)) 2 (.slice A8 ms2.length c8)) (by omega) (by unfold Bd; omega)
          have hb4 : b2 ≤ (w6.setCell ⟨q9, 2, none⟩ (.slice A8 ms2.length c8)).heap.size := by simpa [World.setCell] using hb3
          clear k9 ho2 hb3
          go_wp2
          go_roundw
          case rel => exact ⟨k + 1, _, by omega, by go_num, hb4, by rw [HT.out]; exact ho3, ⟨hB, ka, kb, k4⟩, k9n⟩
          case measure => simp [intOf]; omega
        · rw [List.take_of_length_le (by omega)] at *
          obtain ⟨A9, c9, e9, hc9, hmr⟩ := ho.read
          injection e9 with e9 _ e10
          subst e9
          subst e10
          clear ho
          rw [← HE.out] at hc9 hmr k9
          go_wp2
          go_meet
          exact ⟨⟨hB, ka, kb, k4⟩, A2', c2', k9, hc9, hmr.mono (fun k hk => hk.elim (fun h => Or.inl h) (fun h => Or.inr (by omega)))⟩
  case rest =>
  obtain ⟨⟨hB2, ka2, kb2, k42⟩, A6, c6, k92, hc6, hmr⟩ := hcut
  clear hB ka kb k4 k9
  have hB := hB2
  have ka := ka2
  have kb := kb2
  have k4 := k42
  have k9 := k92
  clear hB2 ka2 kb2 k42 k92
  generalize wc = w4 at *
  go_upto_if 47 with fail
  go_cut [12] (fun v wx => v = .bool (bitZ d 2 && decide (64 < z.r.length)) ∧ (Below w.heap.size w wx ∧ Blk wx w.heap.size 61 #[.int .i64 a.k, .slice A1 a.r.length c1, .slice A2 a.m.length c2, .slice A3 a.s.length c3] ∧ Blk wx (w.heap.size + 1) 61 #[.int .i64 b.k, .slice B1 b.r.length d1, .slice B2 b.m.length d2, .slice B3 b.s.length d3] ∧ Blk wx (w.heap.size + 2) 61 #[.int .i64 0, .slice none 0 0, .slice none 0 0, .slice none 0 0]) ∧ ∃ (A5 : Option Addr) (c5 : Nat), Blk wx q9 61 #[.int .i64 z.k, .slice A5 z.r.length c5, .slice A6 z.m.length c6, .slice A3 a.s.length c3] ∧ z.r.length ≤ c5 ∧ RdB wx (Dk w.heap.size ba) 2 A5 z.r.length (scells z.r) ∧ MapsR wx (Dk w.heap.size ba) A6 z.m)
  case first =>
    cases hb : bitZ d 2
    · have e1 : (bits .and .i64 d 2 != 0) = false := hb
      have HE : Hid (z.r = a.r) := Lib.hid (by rw [HR.out, hb]; rfl)
      have HBB := Lib.hid hb
      clear hb
      go_wp2
      go_meet
      exact ⟨by rw [HBB.out]; rfl, ⟨hB, ka, kb, k4⟩, A1, c1, by rw [HE.out]; exact k9, by rw [HE.out]; exact hpa.cr, by rw [HE.out]; exact RdB.grows hpr hB, hmr⟩
    · have e1 : (bits .and .i64 d 2 != 0) = true := hb
      have HE : Hid (interF (spansF a.r) (spansF b.r) = z.r) := Lib.hid (by rw [HR.out, hb]; rfl)
      have HBB := Lib.hid hb
      clear hb
      have xa := ka.cell
      have xb := kb.cell
      go_wp2_with fail
      refine (all_any A1 c1 a.r B1 d1 b.r _ (hpa.r.grows hB).sps (by omega) (hpb.r.grows hB).sps (by omega)).mono ?_
      rw [HE.out]
      rintro e w5 ⟨⟨v, rfl, hown⟩, hq⟩
      obtain ⟨A5, c5, rfl, hc5, hr5⟩ := SpB.of_own hown
      have hl9 := k9.lt
      replace hr5 : RdB w5 (Dk w.heap.size ba) 2 A5 z.r.length (scells z.r) := RdB.mono hr5 (fun k hk => by unfold Ge at hk; unfold Dk; omega)
      replace hB := below_grows hB (Nat.le_refl _) hq
      replace ka := ka.grows hq
      replace kb := kb.grows hq
      replace k4 := k4.grows hq
      replace k9 := k9.grows hq
      replace hmr := hmr.grows hq
      clear hq hown xa xb hl9
      have x9 := k9.cell
      have f9 := k9.frozen
      go_upto_region 15 with fail
      replace hB := hB.setCell (p := ⟨q9, 1, none⟩) (show w.heap.size ≤ q9 by omega) (.slice A5 z.r.length c5)
      replace ka := ka.far (p := ⟨q9, 1, none⟩) (show w.heap.size ≠ q9 by omega) (.slice A5 z.r.length c5)
      replace kb := kb.far (p := ⟨q9, 1, none⟩) (show w.heap.size + 1 ≠ q9 by omega) (.slice A5 z.r.length c5)
      replace k4 := k4.far (p := ⟨q9, 1, none⟩) (show w.heap.size + 2 ≠ q9 by omega) (.slice A5 z.r.length c5)
      have k9n := k9.set_ 1 (.slice A5 z.r.length c5)
      have hch := d_only_set (World.grownBy.refl w5 (some q9)) 1 (.slice A5 z.r.length c5)
      replace hr5 := RdB.grown hr5 hch (fun q e hh => by injection e with e; unfold Dk at hh; omega)
      replace hmr := hmr.grown hch (fun q e hh => by injection e with e; unfold Dk at hh; omega)
      clear hch
      clear x9 f9 k9
      generalize World.setCell w5 _ _ = w6 at *
      have x9 : ∀ i, w6.cell? ⟨q9, i, none⟩ = #[.int .i64 z.k, .slice A5 z.r.length c5, .slice A6 z.m.length c6, .slice A3 a.s.length c3][i]? := k9n.cell
      go_wp2
      go_meet
      exact ⟨by rw [HBB.out, Bool.true_and]; exact congrArg Value.bool (by rw [Bool.eq_iff_iff, decide_eq_true_eq, decide_eq_true_eq]; omega), ⟨hB, ka, kb, k4⟩, A5, c5, k9n, hc5, hr5, hmr⟩
  case rest =>
  obtain ⟨rfl, ⟨hB2, ka2, kb2, k42⟩, A5, c5, k92, hc5, hr5, hmr2⟩ := hcut
  clear hB ka kb k4 k9 hmr
  have hB := hB2
  have ka := ka2
  have kb := kb2
  have k4 := k42
  have k9 := k92
  have hmr := hmr2
  clear hB2 ka2 kb2 k42 k92 hmr2
  generalize wc = w5 at *
  generalize hM1 : (bitZ d 2 && decide (64 < z.r.length)) = M1 at *
  have HM1 := Lib.hid hM1
  clear hM1
  go_upto_if 65 with fail
  go_cut [12] (fun v wx => v = .bool (manyB d z) ∧ (Below w.heap.size w wx ∧ Blk wx w.heap.size 61 #[.int .i64 a.k, .slice A1 a.r.length c1, .slice A2 a.m.length c2, .slice A3 a.s.length c3] ∧ Blk wx (w.heap.size + 1) 61 #[.int .i64 b.k, .slice B1 b.r.length d1, .slice B2 b.m.length d2, .slice B3 b.s.length d3] ∧ Blk wx (w.heap.size + 2) 61 #[.int .i64 0, .slice none 0 0, .slice none 0 0, .slice none 0 0]) ∧ ∃ (A7 : Option Addr) (c7 : Nat), Blk wx q9 61 #[.int .i64 z.k, .slice A5 z.r.length c5, .slice A6 z.m.length c6, .slice A7 z.s.length c7] ∧ z.s.length ≤ c7 ∧ RdB wx (Dk w.heap.size ba) 2 A7 z.s.length (scells z.s) ∧ RdB wx (Dk w.heap.size ba) 2 A5 z.r.length (scells z.r) ∧ MapsR wx (Dk w.heap.size ba) A6 z.m)
  case first =>
    cases hb : bitZ d 8
    · have e1 : (bits .and .i64 d 8 != 0) = false := hb
      have HE : Hid (z.s = a.s) := Lib.hid (by rw [HZ.out, hb]; rfl)
      have HBB := Lib.hid hb
      clear hb
      go_wp2
      go_meet
      exact ⟨by rw [HMB.out, HBB.out]; simp, ⟨hB, ka, kb, k4⟩, A3, c3, by rw [HE.out]; exact k9, by rw [HE.out]; exact hpa.cs, by rw [HE.out]; exact RdB.grows hps hB, hr5, hmr⟩
    · have e1 : (bits .and .i64 d 8 != 0) = true := hb
      have HE : Hid (interF (spansF a.s) (spansF b.s) = z.s) := Lib.hid (by rw [HZ.out, hb]; rfl)
      have HBB := Lib.hid hb
      clear hb
      have xa := ka.cell
      have xb := kb.cell
      go_wp2_with fail
      refine (all_any A3 c3 a.s B3 d3 b.s _ (hpa.s.grows hB).sps (by omega) (hpb.s.grows hB).sps (by omega)).mono ?_
      rw [HE.out]
      rintro e w6 ⟨⟨v, rfl, hown⟩, hq⟩
      obtain ⟨A7, c7, rfl, hc7, hr7⟩ := SpB.of_own hown
      have hl9 := k9.lt
      replace hr7 : RdB w6 (Dk w.heap.size ba) 2 A7 z.s.length (scells z.s) := RdB.mono hr7 (fun k hk => by unfold Ge at hk; unfold Dk; omega)
      replace hB := below_grows hB (Nat.le_refl _) hq
      replace ka := ka.grows hq
      replace kb := kb.grows hq
      replace k4 := k4.grows hq
      replace k9 := k9.grows hq
      replace hmr := hmr.grows hq
      replace hr5 := RdB.grows hr5 hq
      clear hq hown xa xb hl9
      have x9 := k9.cell
      have f9 := k9.frozen
      go_upto_region 18 with fail
      replace hB := hB.setCell (p := ⟨q9, 3, none⟩) (show w.heap.size ≤ q9 by omega) (.slice A7 z.s.length c7)
      replace ka := ka.far (p := ⟨q9, 3, none⟩) (show w.heap.size ≠ q9 by omega) (.slice A7 z.s.length c7)
      replace kb := kb.far (p := ⟨q9, 3, none⟩) (show w.heap.size + 1 ≠ q9 by omega) (.slice A7 z.s.length c7)
      replace k4 := k4.far (p := ⟨q9, 3, none⟩) (show w.heap.size + 2 ≠ q9 by omega) (.slice A7 z.s.length c7)
      have k9n := k9.set_ 3 (.slice A7 z.s.length c7)
      have hch := d_only_set (World.grownBy.refl w6 (some q9)) 3 (.slice A7 z.s.length c7)
      replace hr7 := RdB.grown hr7 hch (fun q e hh => by injection e with e; unfold Dk at hh; omega)
      replace hr5 := RdB.grown hr5 hch (fun q e hh => by injection e with e; unfold Dk at hh; omega)
      replace hmr := hmr.grown hch (fun q e hh => by injection e with e; unfold Dk at hh; omega)
      clear hch
      clear x9 f9 k9
      generalize World.setCell w6 _ _ = w7 at *
      have x9 : ∀ i, w7.cell? ⟨q9, i, none⟩ = #[.int .i64 z.k, .slice A5 z.r.length c5, .slice A6 z.m.length c6, .slice A7 z.s.length c7][i]? := k9n.cell
      have HMV : Hid (manyB d z = (M1 || decide (64 < z.s.length))) := Lib.hid (by rw [HMB.out, HBB.out, Bool.true_and])
      cases M1
      · have HMV2 : Hid (Value.bool (decide (64 < (z.s.length : Int))) = .bool (manyB d z)) := Lib.hid (by rw [HMV.out, Bool.false_or]; exact congrArg Value.bool (by rw [Bool.eq_iff_iff, decide_eq_true_eq, decide_eq_true_eq]; omega))
        go_wp2
        go_meet
        exact ⟨HMV2.out, ⟨hB, ka, kb, k4⟩, A7, c7, k9n, hc7, hr7, hr5, hmr⟩
      · have HMV2 : Hid (Value.bool true = .bool (manyB d z)) := Lib.hid (by rw [HMV.out]; rfl)
        go_wp2
        go_meet
        exact ⟨HMV2.out, ⟨hB, ka, kb, k4⟩, A7, c7, k9n, hc7, hr7, hr5, hmr⟩
  case rest =>
  obtain ⟨rfl, ⟨hB2, ka2, kb2, k42⟩, A7, c7, k92, hc7, hs7, hr52, hmr2⟩ := hcut
  clear hB ka kb k4 k9 hmr hr5
  have hB := hB2
  have k4 := k42
  have k9 := k92
  have hmr := hmr2
  have hr := hr52
  have hs := hs7
  clear hB2 ka2 kb2 k42 k92 hmr2 hr52 hs7
  generalize wc = w6 at *
  have HV := HSB.out
  have x9 := k9.cell
  have x4 := k4.cell
  have hf4 := k4.frozen
  have HRES : Hid (∀ w9 : World, RdB w9 (Dk w.heap.size ba) 2 A5 z.r.length (scells z.r) → RdB w9 (Dk w.heap.size ba) 2 A7 z.s.length (scells z.s) → MapsR w9 (Dk w.heap.size ba) A6 z.m → BoxV w9 (Dk w.heap.size ba) z (.agg #[.int .i64 z.k, .slice A5 z.r.length c5, .slice A6 z.m.length c6, .slice A7 z.s.length c7])) := Lib.hid (fun w9 yR yS yM => ⟨A5, c5, A6, c6, A7, c7, rfl, ⟨yR, yM, yS, hc5, hc6, hc7⟩⟩)
  have y0 := Blk.drew ((((k4.set_ 0 (.int .i64 z.k)).set_ 1 (.slice A5 z.r.length c5)).set_ 2 (.slice A6 z.m.length c6)).set_ 3 (.slice A7 z.s.length c7))
  have yB := below_grows ((((hB.setCell (p := ⟨w.heap.size + 2, 0, none⟩) (show w.heap.size ≤ w.heap.size + 2 by omega) (.int .i64 z.k)).setCell (p := ⟨w.heap.size + 2, 1, none⟩) (show w.heap.size ≤ w.heap.size + 2 by omega) (.slice A5 z.r.length c5)).setCell (p := ⟨w.heap.size + 2, 2, none⟩) (show w.heap.size ≤ w.heap.size + 2 by omega) (.slice A6 z.m.length c6)).setCell (p := ⟨w.heap.size + 2, 3, none⟩) (show w.heap.size ≤ w.heap.size + 2 by omega) (.slice A7 z.s.length c7)) (Nat.le_refl _) (Grows.drew' _)
  have yR := RdB.grows (RdB.grown hr (d_only_set (d_only_set (d_only_set (d_only_set (World.grownBy.refl _ (some (w.heap.size + 2))) 0 (.int .i64 z.k)) 1 (.slice A5 z.r.length c5)) 2 (.slice A6 z.m.length c6)) 3 (.slice A7 z.s.length c7)) (fun q e hh => by injection e with e; unfold Dk at hh; omega)) (Grows.drew' _)
  have yS := RdB.grows (RdB.grown hs (d_only_set (d_only_set (d_only_set (d_only_set (World.grownBy.refl _ (some (w.heap.size + 2))) 0 (.int .i64 z.k)) 1 (.slice A5 z.r.length c5)) 2 (.slice A6 z.m.length c6)) 3 (.slice A7 z.s.length c7)) (fun q e hh => by injection e with e; unfold Dk at hh; omega)) (Grows.drew' _)
  have yM := MapsR.grows (MapsR.grown hmr (d_only_set (d_only_set (d_only_set (d_only_set (World.grownBy.refl _ (some (w.heap.size + 2))) 0 (.int .i64 z.k)) 1 (.slice A5 z.r.length c5)) 2 (.slice A6 z.m.length c6)) 3 (.slice A7 z.s.length c7)) (fun q e hh => by injection e with e; unfold Dk at hh; omega)) (Grows.drew' _)
  have y6 := y0.cell
  clear k4 k9 hr hs hmr hB
  go_upto_region 19 with fail
  by_cases h1 : z.k = 0
  case pos =>
    have HE : Hid (someB z = false) := Lib.hid (by rw [HV, h1]; rfl)
    have dk : (z.k != 0) = false := by simpa using h1
    clear h1 HV
    go_region
    go_wp2
    refine bodyPost_ret (v := .tuple #[.agg #[.int .i64 z.k, .slice A5 z.r.length c5, .slice A6 z.m.length c6, .slice A7 z.s.length c7], .bool false, .bool (manyB d z)]) (by simp [results, Tryz.results41, go_sem, y6]) rfl ⟨⟨_, by rw [HE.out], HRES.out _ yR yS yM⟩, yB⟩
  have dk : (z.k != 0) = true := by simpa using h1
  clear h1
  by_cases h2 : 0 < z.m.length
  case neg =>
    have HE : Hid (someB z = false) := Lib.hid (by rw [HV, decide_eq_false h2]; simp)
    have dm1 : decide (0 < (z.m.length : Int)) = false := by simp only [decide_eq_false_iff_not]; omega
    have dm2 : decide (0 < z.m.length) = false := by simpa using h2
    clear h2 HV
    go_region
    go_wp2
    refine bodyPost_ret (v := .tuple #[.agg #[.int .i64 z.k, .slice A5 z.r.length c5, .slice A6 z.m.length c6, .slice A7 z.s.length c7], .bool false, .bool (manyB d z)]) (by simp [results, Tryz.results41, go_sem, y6]) rfl ⟨⟨_, by rw [HE.out], HRES.out _ yR yS yM⟩, yB⟩
  have dm1 : decide (0 < (z.m.length : Int)) = true := by simp only [decide_eq_true_eq]; omega
  have dm2 : decide (0 < z.m.length) = true := by simpa using h2
  clear h2
  by_cases h2 : 0 < z.r.length
  case neg =>
    have HE : Hid (someB z = false) := Lib.hid (by rw [HV, decide_eq_false h2]; simp)
    have dr1 : decide (0 < (z.r.length : Int)) = false := by simp only [decide_eq_false_iff_not]; omega
    have dr2 : decide (0 < z.r.length) = false := by simpa using h2
    clear h2 HV
    go_region
    go_wp2
    refine bodyPost_ret (v := .tuple #[.agg #[.int .i64 z.k, .slice A5 z.r.length c5, .slice A6 z.m.length c6, .slice A7 z.s.length c7], .bool false, .bool (manyB d z)]) (by simp [results, Tryz.results41, go_sem, y6]) rfl ⟨⟨_, by rw [HE.out], HRES.out _ yR yS yM⟩, yB⟩
  have dr1 : decide (0 < (z.r.length : Int)) = true := by simp only [decide_eq_true_eq]; omega
  have dr2 : decide (0 < z.r.length) = true := by simpa using h2
  clear h2
  by_cases h2 : 0 < z.s.length
  case neg =>
    have HE : Hid (someB z = false) := Lib.hid (by rw [HV, decide_eq_false h2]; simp)
    have ds1 : decide (0 < (z.s.length : Int)) = false := by simp only [decide_eq_false_iff_not]; omega
    have ds2 : decide (0 < z.s.length) = false := by simpa using h2
    clear h2 HV
    go_region
    go_wp2
    refine bodyPost_ret (v := .tuple #[.agg #[.int .i64 z.k, .slice A5 z.r.length c5, .slice A6 z.m.length c6, .slice A7 z.s.length c7], .bool false, .bool (manyB d z)]) (by simp [results, Tryz.results41, go_sem, y6]) rfl ⟨⟨_, by rw [HE.out], HRES.out _ yR yS yM⟩, yB⟩
  have ds1 : decide (0 < (z.s.length : Int)) = true := by simp only [decide_eq_true_eq]; omega
  have ds2 : decide (0 < z.s.length) = true := by simpa using h2
  clear h2
  have HE : Hid (someB z = true) := Lib.hid (by rw [HV, dk, dm2, dr2, ds2]; rfl)
  clear HV
  go_region
  go_wp2
  refine bodyPost_ret (v := .tuple #[.agg #[.int .i64 z.k, .slice A5 z.r.length c5, .slice A6 z.m.length c6, .slice A7 z.s.length c7], .bool true, .bool (manyB d z)]) (by simp [results, Tryz.results41, go_sem, y6]) rfl ⟨⟨_, by rw [HE.out], HRES.out _ yR yS yM⟩, yB⟩
end Go.Proofs.YtjbkjgmcfommgaaGreat


namespace Go.Proofs.YtjbkjgmcfommgaaGreat
open Go.RowKit
theorem all_next {α : Type} {l : List α} {p : α → Bool} {k : Nat} {x : α} (h : l[k]? = some x) : (l.take (k + 1)).all p = ((l.take k).all p && p x) := by
 rw [take_snoc h, List.all_append, List.all_cons, List.all_nil, Bool.and_true]
set_option maxHeartbeats 16000000 in
theorem nvalid_any {ok : Nat → Prop} {A : Option Addr} {c n : Nat} {l : List Pt} {w : World} (hn : n = l.length) (h : Pts w ok A l) (hl : l.length ≤ 1000000) (ho : ∀ p ∈ l, (∀ b ∈ p.b, OKB b) ∧ p.b.length ≤ 1000000) :
 Calls Tryz.prog 12 #[.slice A n c] w fun e w' => e = .returned (.bool (validC l)) ∧ Grows w w' := by
 subst hn
 have HO := Lib.hid ho
 clear ho
 have HV : Hid (validC l = (l.all portOk && decide (1 ≤ l.length) && decide (l.length ≤ 16))) := Lib.hid rfl
 have hB := Below.refl w.heap.size w
 go_enter Tryz.func12, Tryz.ntmps12
 go_wp2_with fail
 go_loopw [7] (fun i wr => ∃ k : Nat, k ≤ l.length ∧ i = .int .i64 k ∧ Hid ((l.take k).all portOk = true) ∧ Below w.heap.size w wr) (fun i _ => l.length - (intOf i).toNat)
 case atStart => exact ⟨0, by omega, rfl, Lib.hid rfl, hB⟩
 case round =>
  clear hB
  obtain ⟨k, hk, rfl, HK, hB⟩ := hrel
  by_cases hlt : k < l.length
  ·obtain ⟨ad, p, B, cp, e1, had, hp, hbx, hcp, q0, q1⟩ := h.elem hB hlt
   subst e1
   have HP := Lib.hid hp
   obtain ⟨ob, ol⟩ := HO.out p (List.mem_of_getElem? hp)
   have HOB := Lib.hid ob
   clear hp ob
   have HNO : Hid (portOk p = false → validC l = false) := Lib.hid (fun hf => by
    rw [HV.out, Bool.and_assoc]
    have : l.all portOk = false := List.all_eq_false.2 ⟨p, List.mem_of_getElem? HP.out, by rw [hf]; simp⟩
    rw [this, Bool.false_and])
   have HYE : Hid (portOk p = true → (l.take (k + 1)).all portOk = true) := Lib.hid (fun hf => by rw [all_next HP.out, HK.out, hf]; rfl)
   have HPO : Hid (portOk p = (decide (p.b.length ≤ 8) && validL p.b && decide (0 ≤ p.v) && decide (p.v ≤ 15))) := Lib.hid rfl
   have k8 := Blk.new wr 47 #[.slice B p.b.length cp, .int .i64 p.v]
   have hq := (Below.refl wr.heap.size wr).alloc (Nat.le_refl _) (Obj.cells #[.slice B p.b.length cp, .int .i64 p.v] 47)
   go_upto_region 4 with fail
   replace hB := below_grows hB (Nat.le_refl _) hq
   clear hq q0 q1
   generalize World.alloc wr _ = w5 at *
   generalize wr.heap.size = G8 at *
   have x8 := k8.cell
   by_cases h1 : p.b.length ≤ 8
   case neg =>
    have HE : Hid (validC l = false) := Lib.hid (HNO.out (by rw [HPO.out, decide_eq_false h1]; rfl))
    have e1 : decide ((8 : Int) < (p.b.length : Int)) = true := by simp only [decide_eq_true_eq]; omega
    have e2 : decide (8 < p.b.length) = true := by simp only [decide_eq_true_eq]; omega
    clear h1
    go_wp2
    go_ret
    exact ⟨ret_bool HE.out.symm, hB⟩
   have e1 : decide ((8 : Int) < (p.b.length : Int)) = false := by simp only [decide_eq_false_iff_not]; omega
   have e2 : decide (8 < p.b.length) = false := by simp only [decide_eq_false_iff_not]; omega
   go_wp2_with fail
   refine (pvalidl_any B cp ok p.b _ (hbx.grows hB) (by omega) HOB.out).mono ?_
   rintro e w6 ⟨rfl, hq⟩
   replace hB := below_grows hB (Nat.le_refl _) hq
   replace k8 := k8.grows hq
   clear hq x8
   have x8 := k8.cell
   cases hv : validL p.b
   ·have HE : Hid (validC l = false) := Lib.hid (HNO.out (by rw [HPO.out, hv, Bool.and_false]; rfl))
    clear hv
    go_wp2
    go_ret
    exact ⟨ret_bool HE.out.symm, hB⟩
   by_cases h2 : 0 ≤ p.v
   case neg =>
    have HE : Hid (validC l = false) := Lib.hid (HNO.out (by rw [HPO.out, decide_eq_false h2, Bool.and_false]; rfl))
    have e3 : decide (p.v < 0) = true := by simp only [decide_eq_true_eq]; omega
    clear h2 hv
    go_wp2
    go_ret
    exact ⟨ret_bool HE.out.symm, hB⟩
   have e3 : decide (p.v < 0) = false := by simp only [decide_eq_false_iff_not]; omega
   by_cases h3 : p.v ≤ 15
   case neg =>
    have HE : Hid (validC l = false) := Lib.hid (HNO.out (by rw [HPO.out, decide_eq_false h3, Bool.and_false]))
    have e4 : decide (15 < p.v) = true := by simp only [decide_eq_true_eq]; omega
    clear h2 h3 hv
    go_wp2
    go_ret
    exact ⟨ret_bool HE.out.symm, hB⟩
   have e4 : decide (15 < p.v) = false := by simp only [decide_eq_false_iff_not]; omega
   have HE := Lib.hid (HYE.out (by rw [HPO.out, hv, decide_eq_true h1, decide_eq_true h2, decide_eq_true h3]; rfl))
   clear h1 h2 h3 hv
   go_wp2
   go_roundw
   case rel => exact ⟨k + 1, by omega, by go_num, HE, hB⟩
   case measure => simp [intOf]; omega
  ·have HA : Hid (validC l = (decide (1 ≤ l.length) && decide (l.length ≤ 16))) := Lib.hid (by
    have := HK.out
    rw [List.take_of_length_le (by omega)] at this
    rw [HV.out, this, Bool.true_and])
   by_cases h1 : 1 ≤ l.length
   ·have e1 : decide ((1 : Int) ≤ (l.length : Int)) = true := by simp only [decide_eq_true_eq]; omega
    have e2 : decide ((l.length : Int) ≤ 16) = decide (l.length ≤ 16) := by rw [decide_eq_decide]; omega
    have HE : Hid (validC l = decide (l.length ≤ 16)) := Lib.hid (by rw [HA.out, decide_eq_true h1, Bool.true_and])
    clear h1
    go_wp2
    go_ret
    exact ⟨ret_bool (by first | exact HE.out.symm | (rw [HE.out, decide_eq_decide]; omega)), hB⟩
   ·have e1 : decide ((1 : Int) ≤ (l.length : Int)) = false := by simp only [decide_eq_false_iff_not]; omega
    have HE : Hid (validC l = false) := Lib.hid (by rw [HA.out, decide_eq_false h1]; rfl)
    clear h1
    go_wp2
    go_ret
    exact ⟨ret_bool HE.out.symm, hB⟩
set_option maxHeartbeats 32000000 in
set_option maxRecDepth 10000 in
theorem with_any {ba bb : Nat → Prop} {x y : Bx} {A1 A2 A3 B1 B2 B3 : Option Addr} {c1 c2 c3 d1 d2 d3 : Nat} {w : World} (dd : Int) (hpx : BoxP w ba x A1 c1 A2 c2 A3 c3) (hpy : BoxP w bb y B1 d1 B2 d2 B3 d3) :
 Calls Tryz.prog 85 #[.agg #[.int .i64 x.k, .slice A1 x.r.length c1, .slice A2 x.m.length c2, .slice A3 x.s.length c3], .agg #[.int .i64 y.k, .slice B1 y.r.length d1, .slice B2 y.m.length d2, .slice B3 y.s.length d3], .int .i64 dd] w fun e w' => (∃ v, e = .returned v ∧ BoxV w (fun _ => True) (blendB dd x y) v) ∧ Grows w w' := by
 have k3 := ((Blk.new w 61 #[.int .i64 x.k, .slice A1 x.r.length c1, .slice A2 x.m.length c2, .slice A3 x.s.length c3]).alloc (Obj.cells #[.int .i64 y.k, .slice B1 y.r.length d1, .slice B2 y.m.length d2, .slice B3 y.s.length d3] 61)).alloc (Obj.cells #[.int .i64 0, .slice none 0 0, .slice none 0 0, .slice none 0 0] 61)
 have k4 := (blk_new_at (X := w.alloc (Obj.cells #[.int .i64 x.k, .slice A1 x.r.length c1, .slice A2 x.m.length c2, .slice A3 x.s.length c3] 61)) (n := w.heap.size + 1) (t := 61) (cs := #[.int .i64 y.k, .slice B1 y.r.length d1, .slice B2 y.m.length d2, .slice B3 y.s.length d3]) (by simp)).alloc (Obj.cells #[.int .i64 0, .slice none 0 0, .slice none 0 0, .slice none 0 0] 61)
 have k6 := blk_new_at (X := (w.alloc (Obj.cells #[.int .i64 x.k, .slice A1 x.r.length c1, .slice A2 x.m.length c2, .slice A3 x.s.length c3] 61)).alloc (Obj.cells #[.int .i64 y.k, .slice B1 y.r.length d1, .slice B2 y.m.length d2, .slice B3 y.s.length d3] 61)) (n := w.heap.size + 2) (t := 61) (cs := #[.int .i64 0, .slice none 0 0, .slice none 0 0, .slice none 0 0]) (by simp)
 have hB := (((Below.refl w.heap.size w).alloc (Nat.le_refl _) (Obj.cells #[.int .i64 x.k, .slice A1 x.r.length c1, .slice A2 x.m.length c2, .slice A3 x.s.length c3] 61)).alloc (by simp) (Obj.cells #[.int .i64 y.k, .slice B1 y.r.length d1, .slice B2 y.m.length d2, .slice B3 y.s.length d3] 61)).alloc (by simp; omega) (Obj.cells #[.int .i64 0, .slice none 0 0, .slice none 0 0, .slice none 0 0] 61)
 have HK : Hid ((blendB dd x y).k = if bitZ dd 1 = true then y.k else x.k) := Lib.hid rfl
 have HR : Hid ((blendB dd x y).r = if bitZ dd 2 = true then y.r else x.r) := Lib.hid rfl
 have HM : Hid ((blendB dd x y).m = if bitZ dd 4 = true then y.m else x.m) := Lib.hid rfl
 have HS : Hid ((blendB dd x y).s = if bitZ dd 8 = true then y.s else x.s) := Lib.hid rfl
 generalize blendB dd x y = z at *
 go_enter Tryz.func85, Tryz.ntmps85
 go_upto_region 1 with fail
 generalize World.alloc (World.alloc (World.alloc w _) _) _ = w1 at *
 try rw [show w.heap.size + 1 + 1 = w.heap.size + 2 from rfl]
 generalize hq6 : w.heap.size + 2 = q6 at *
 generalize hq4 : w.heap.size + 1 = q4 at *
 generalize hq3 : w.heap.size = q3 at *
 have HQ4 : q4 ≠ q3 := by omega
 have HQ6 : q6 ≠ q3 := by omega
 have HL6 : q3 ≤ q6 := by omega
 clear hq4 hq6
 go_upto_if 9 with fail
 go_cut [] (fun wx => (Below q3 w wx ∧ Blk wx q4 61 #[.int .i64 y.k, .slice B1 y.r.length d1, .slice B2 y.m.length d2, .slice B3 y.s.length d3] ∧ Blk wx q6 61 #[.int .i64 0, .slice none 0 0, .slice none 0 0, .slice none 0 0]) ∧ Blk wx q3 61 #[.int .i64 z.k, .slice A1 x.r.length c1, .slice A2 x.m.length c2, .slice A3 x.s.length c3])
 case first =>
  cases hb : bitZ dd 1
  ·have e1 : (bits .and .i64 dd 1 != 0) = false := hb
   have HE : Hid (z.k = x.k) := Lib.hid (by rw [HK.out, hb]; rfl)
   clear hb
   go_wp2
   go_meet
   exact ⟨⟨hB, k4, k6⟩, by rw [HE.out]; exact k3⟩
  ·have e1 : (bits .and .i64 dd 1 != 0) = true := hb
   have HE : Hid (z.k = y.k) := Lib.hid (by rw [HK.out, hb]; rfl)
   clear hb
   have x4 := k4.cell
   have x3 := k3.cell
   have f3_ := k3.frozen
   go_wp2
   go_meet
   exact ⟨⟨hB.setCell (p := ⟨q3, 0, none⟩) (Nat.le_refl _) _, k4.far (p := ⟨q3, 0, none⟩) HQ4 _, k6.far (p := ⟨q3, 0, none⟩) HQ6 _⟩, by rw [HE.out]; exact k3.set_ 0 (.int .i64 y.k)⟩
 case rest =>
 obtain ⟨⟨hB2, k42, k62⟩, k32⟩ := hcut
 clear hB k3 k4 k6
 have hB := hB2
 have k4 := k42
 have k6 := k62
 have k3 := k32
 clear hB2 k42 k62 k32
 generalize wc = w20 at *
 go_upto_if 15 with fail
 go_cut [] (fun wx => (Below q3 w wx ∧ Blk wx q4 61 #[.int .i64 y.k, .slice B1 y.r.length d1, .slice B2 y.m.length d2, .slice B3 y.s.length d3] ∧ Blk wx q6 61 #[.int .i64 0, .slice none 0 0, .slice none 0 0, .slice none 0 0]) ∧ ∃ (C1 : Option Addr) (f1 : Nat), Blk wx q3 61 #[.int .i64 z.k, .slice C1 z.r.length f1, .slice A2 x.m.length c2, .slice A3 x.s.length c3] ∧ z.r.length ≤ f1 ∧ RdB w (fun _ => True) 2 C1 z.r.length (scells z.r))
 case first =>
  cases hb : bitZ dd 2
  ·have e1 : (bits .and .i64 dd 2 != 0) = false := hb
   have HE : Hid (z.r = x.r) := Lib.hid (by rw [HR.out, hb]; rfl)
   clear hb
   go_wp2
   go_meet
   exact ⟨⟨hB, k4, k6⟩, A1, c1, by rw [HE.out]; exact k3, by rw [HE.out]; exact hpx.cr, by rw [HE.out]; exact RdB.mono hpx.r (fun _ _ => trivial)⟩
  ·have e1 : (bits .and .i64 dd 2 != 0) = true := hb
   have HE : Hid (z.r = y.r) := Lib.hid (by rw [HR.out, hb]; rfl)
   clear hb
   have x4 := k4.cell
   have x3 := k3.cell
   have f3_ := k3.frozen
   go_wp2
   go_meet
   exact ⟨⟨hB.setCell (p := ⟨q3, 1, none⟩) (Nat.le_refl _) _, k4.far (p := ⟨q3, 1, none⟩) HQ4 _, k6.far (p := ⟨q3, 1, none⟩) HQ6 _⟩, B1, d1, by rw [HE.out]; exact k3.set_ 1 (.slice B1 y.r.length d1), by rw [HE.out]; exact hpy.cr, by rw [HE.out]; exact RdB.mono hpy.r (fun _ _ => trivial)⟩
 case rest =>
 obtain ⟨⟨hB2, k42, k62⟩, C1, f1, k32, hle1, hrd1⟩ := hcut
 clear hB k3 k4 k6
 have hB := hB2
 have k4 := k42
 have k6 := k62
 have k3 := k32
 clear hB2 k42 k62 k32
 generalize wc = w21 at *
 go_upto_if 21 with fail
 go_cut [] (fun wx => (Below q3 w wx ∧ Blk wx q4 61 #[.int .i64 y.k, .slice B1 y.r.length d1, .slice B2 y.m.length d2, .slice B3 y.s.length d3] ∧ Blk wx q6 61 #[.int .i64 0, .slice none 0 0, .slice none 0 0, .slice none 0 0]) ∧ ∃ (C2 : Option Addr) (f2 : Nat), Blk wx q3 61 #[.int .i64 z.k, .slice C1 z.r.length f1, .slice C2 z.m.length f2, .slice A3 x.s.length c3] ∧ z.m.length ≤ f2 ∧ MapsR w (fun _ => True) C2 z.m)
 case first =>
  cases hb : bitZ dd 4
  ·have e1 : (bits .and .i64 dd 4 != 0) = false := hb
   have HE : Hid (z.m = x.m) := Lib.hid (by rw [HM.out, hb]; rfl)
   clear hb
   go_wp2
   go_meet
   exact ⟨⟨hB, k4, k6⟩, A2, c2, by rw [HE.out]; exact k3, by rw [HE.out]; exact hpx.cm, by rw [HE.out]; exact hpx.m.mono (fun _ _ => trivial)⟩
  ·have e1 : (bits .and .i64 dd 4 != 0) = true := hb
   have HE : Hid (z.m = y.m) := Lib.hid (by rw [HM.out, hb]; rfl)
   clear hb
   have x4 := k4.cell
   have x3 := k3.cell
   have f3_ := k3.frozen
   go_wp2
   go_meet
   exact ⟨⟨hB.setCell (p := ⟨q3, 2, none⟩) (Nat.le_refl _) _, k4.far (p := ⟨q3, 2, none⟩) HQ4 _, k6.far (p := ⟨q3, 2, none⟩) HQ6 _⟩, B2, d2, by rw [HE.out]; exact k3.set_ 2 (.slice B2 y.m.length d2), by rw [HE.out]; exact hpy.cm, by rw [HE.out]; exact hpy.m.mono (fun _ _ => trivial)⟩
 case rest =>
 obtain ⟨⟨hB2, k42, k62⟩, C2, f2, k32, hle2, hrd2⟩ := hcut
 clear hB k3 k4 k6
 have hB := hB2
 have k4 := k42
 have k6 := k62
 have k3 := k32
 clear hB2 k42 k62 k32
 generalize wc = w22 at *
 go_upto_if 27 with fail
 go_cut [] (fun wx => (Below q3 w wx ∧ Blk wx q4 61 #[.int .i64 y.k, .slice B1 y.r.length d1, .slice B2 y.m.length d2, .slice B3 y.s.length d3] ∧ Blk wx q6 61 #[.int .i64 0, .slice none 0 0, .slice none 0 0, .slice none 0 0]) ∧ ∃ (C3 : Option Addr) (f3 : Nat), Blk wx q3 61 #[.int .i64 z.k, .slice C1 z.r.length f1, .slice C2 z.m.length f2, .slice C3 z.s.length f3] ∧ z.s.length ≤ f3 ∧ RdB w (fun _ => True) 2 C3 z.s.length (scells z.s))
 case first =>
  cases hb : bitZ dd 8
  ·have e1 : (bits .and .i64 dd 8 != 0) = false := hb
   have HE : Hid (z.s = x.s) := Lib.hid (by rw [HS.out, hb]; rfl)
   clear hb
   go_wp2
   go_meet
   exact ⟨⟨hB, k4, k6⟩, A3, c3, by rw [HE.out]; exact k3, by rw [HE.out]; exact hpx.cs, by rw [HE.out]; exact RdB.mono hpx.s (fun _ _ => trivial)⟩
  ·have e1 : (bits .and .i64 dd 8 != 0) = true := hb
   have HE : Hid (z.s = y.s) := Lib.hid (by rw [HS.out, hb]; rfl)
   clear hb
   have x4 := k4.cell
   have x3 := k3.cell
   have f3_ := k3.frozen
   go_wp2
   go_meet
   exact ⟨⟨hB.setCell (p := ⟨q3, 3, none⟩) (Nat.le_refl _) _, k4.far (p := ⟨q3, 3, none⟩) HQ4 _, k6.far (p := ⟨q3, 3, none⟩) HQ6 _⟩, B3, d3, by rw [HE.out]; exact k3.set_ 3 (.slice B3 y.s.length d3), by rw [HE.out]; exact hpy.cs, by rw [HE.out]; exact RdB.mono hpy.s (fun _ _ => trivial)⟩
 case rest =>
 obtain ⟨⟨hB2, k42, k62⟩, C3, f3, k32, hle3, hrd3⟩ := hcut
 clear hB k3 k4 k6
 have hB := hB2
 have k4 := k42
 have k6 := k62
 have k3 := k32
 clear hB2 k42 k62 k32
 generalize wc = w23 at *
 have x3 := k3.cell
 have x6 := k6.cell
 have f6 := k6.frozen
 have y0 := ((((k6.set_ 0 (.int .i64 z.k)).set_ 1 (.slice C1 z.r.length f1)).set_ 2 (.slice C2 z.m.length f2)).set_ 3 (.slice C3 z.s.length f3))
 have yB := ((((hB.setCell (p := ⟨q6, 0, none⟩) HL6 (.int .i64 z.k)).setCell (p := ⟨q6, 1, none⟩) HL6 (.slice C1 z.r.length f1)).setCell (p := ⟨q6, 2, none⟩) HL6 (.slice C2 z.m.length f2)).setCell (p := ⟨q6, 3, none⟩) HL6 (.slice C3 z.s.length f3))
 have y6 := y0.cell
 clear k3 k4 k6 y0 hB
 rw [← hq3] at yB
 have yG : Grows w _ := yB
 go_wp2
 refine bodyPost_ret (v := .agg #[.int .i64 z.k, .slice C1 z.r.length f1, .slice C2 z.m.length f2, .slice C3 z.s.length f3]) (by simp [results, Tryz.results85, go_sem, y6]) rfl ⟨⟨_, rfl, C1, f1, C2, f2, C3, f3, rfl, ⟨hrd1, hrd2, hrd3, hle1, hle2, hle3⟩⟩, yG⟩
end Go.Proofs.YtjbkjgmcfommgaaGreat

namespace Go.Proofs.YtjbkjgmcfommgaaGreat
open Go.RowKit
def PsB (s : List Bx) : GP := ⟨fun w v => ∃ A c, v = .slice A s.length c ∧ Bxs w (fun _ => True) A s, fun w w' v h hg => by obtain ⟨A, c, e, hx⟩ := h; exact ⟨A, c, e, hx.grows hg⟩⟩
def PsV (z : Bx) : GP := ⟨fun w v => BoxV w (fun _ => True) z v, fun w w' v h hg => h.grows hg⟩
def PsT (n : Nat) (s : List Bx) (e : Int) : GP := ⟨fun w v => ∃ A c, v = .tuple #[.slice A s.length c, .int .i64 e] ∧ s.length ≤ c ∧ Bxs w (Ge n) A s, fun w w' v h hg => by obtain ⟨A, c, e, hc, hx⟩ := h; exact ⟨A, c, e, hc, hx.grows hg⟩⟩
def PsN (n : Nat) (s : List Bx) : GP := ⟨fun w v => ∃ A c, v = .slice A s.length c ∧ s.length ≤ c ∧ Bxs w (Ge n) A s, fun w w' v h hg => by obtain ⟨A, c, e, hc, hx⟩ := h; exact ⟨A, c, e, hc, hx.grows hg⟩⟩
set_option maxHeartbeats 32000000 in
set_option maxRecDepth 10000 in
theorem meet_any {ba bb : Nat → Prop} {x y : Bx} {A1 A2 A3 B1 B2 B3 : Option Addr} {c1 c2 c3 d1 d2 d3 : Nat} {w : World} (dd : Int) (hpx : BoxP w ba x A1 c1 A2 c2 A3 c3) (hpy : BoxP w bb y B1 d1 B2 d2 B3 d3) (hx : FB x) (hy : FB y) :
 Calls Tryz.prog 51 #[.agg #[.int .i64 x.k, .slice A1 x.r.length c1, .slice A2 x.m.length c2, .slice A3 x.s.length c3], .agg #[.int .i64 y.k, .slice B1 y.r.length d1, .slice B2 y.m.length d2, .slice B3 y.s.length d3], .int .i64 dd] w fun e w' => (∃ A c, e = .returned (.tuple #[.slice A (meetF dd x y).1.length c, .int .i64 (meetF dd x y).2]) ∧ (meetF dd x y).1.length ≤ c ∧ Bxs w' (Ge w.heap.size) A (meetF dd x y).1) ∧ Grows w w' := by
 have hox := okb_fine hx
 have hoz := okb_fine (mix_fine (d := dd) hx hy)
 have HW := Lib.hid (fun (w0 : World) (h : Grows w w0) => with_any (w := w0) dd (hpx.grows h) (hpy.grows h))
 have HP := Lib.hid (fun (w0 : World) (A B : Option Addr) (c d : Nat) (h1 : Bxs w0 (fun _ => True) A [x]) (h2 : Bxs w0 (fun _ => True) B [blendB dd x y]) => pinter_any (w := w0) (c := c) (d := d) rfl rfl h1 h2 (by simp) (by simp) (fun z hz => by simp only [List.mem_singleton] at hz; exact hz ▸ hox) (fun z hz => by simp only [List.mem_singleton] at hz; exact hz ▸ hoz))
 have HM : Hid (interP [x] [blendB dd x y] = meetF dd x y) := Lib.hid rfl
 rw [HM.out] at HP
 generalize meetF dd x y = mt at *
 generalize blendB dd x y = z at *
 obtain ⟨ml, me⟩ := mt
 clear hox hoz hpy hy hx HM
 have k3 := ((Blk.new w 61 #[.int .i64 x.k, .slice A1 x.r.length c1, .slice A2 x.m.length c2, .slice A3 x.s.length c3]).alloc (Obj.cells #[.int .i64 y.k, .slice B1 y.r.length d1, .slice B2 y.m.length d2, .slice B3 y.s.length d3] 61))
 have k4 := (Blk.new (w.alloc (Obj.cells #[.int .i64 x.k, .slice A1 x.r.length c1, .slice A2 x.m.length c2, .slice A3 x.s.length c3] 61)) 61 #[.int .i64 y.k, .slice B1 y.r.length d1, .slice B2 y.m.length d2, .slice B3 y.s.length d3])
 have hB := (((Below.refl w.heap.size w).alloc (Nat.le_refl _) (Obj.cells #[.int .i64 x.k, .slice A1 x.r.length c1, .slice A2 x.m.length c2, .slice A3 x.s.length c3] 61)).alloc (by simp) (Obj.cells #[.int .i64 y.k, .slice B1 y.r.length d1, .slice B2 y.m.length d2, .slice B3 y.s.length d3] 61))
 go_enter Tryz.func51, Tryz.ntmps51
 go_upto_region 1 with fail
 have hs1 : (w.alloc (Obj.cells #[.int .i64 x.k, .slice A1 x.r.length c1, .slice A2 x.m.length c2, .slice A3 x.s.length c3] 61)).heap.size = w.heap.size + 1 := by simp
 rw [hs1] at k4
 clear hs1
 generalize World.alloc (World.alloc w _) _ = w2 at *
 generalize hq4 : w.heap.size + 1 = q4 at *
 clear hq4
 obtain ⟨S, HI, HO⟩ := hideS fun (L : Ran) (vs : Nat → Value) (w' : World) => (Grows w2 w' ∧ KnS [some (.agg #[.int .i64 x.k, .slice A1 x.r.length c1, .slice A2 x.m.length c2, .slice A3 x.s.length c3]), none, some (.agg #[.int .i64 x.k, .slice A1 x.r.length c1, .slice A2 x.m.length c2, .slice A3 x.s.length c3]), some (.agg #[.int .i64 y.k, .slice B1 y.r.length d1, .slice B2 y.m.length d2, .slice B3 y.s.length d3]), some (.int .i64 dd), none, none, none, none, some (.int .i64 me)] L vs ∧ DsS [none, some (PsB [x]), none, none, none, some (PsV z), some (PsB [z]), some (PsT w.heap.size ml me), some (PsN w.heap.size ml), none] L vs w')
 refine wp_region_genT S 10 18 (by kernel_rfl) (by kernel_rfl) rfl ?_ ?_
 ·exact HI.out _ _ _ ⟨Grows.drew' _, kn_none _ _, ds_none _ _ _⟩
 simp only [List.take_succ_cons, List.take_zero, List.drop_succ_cons, List.drop_zero]
 refine gent_consR (fun vs L w1 hL hw1 => ?_) ?_
 ·obtain ⟨q0, q1, q2⟩ := HO.out _ _ _ hw1
  refine gen_plain rfl ?_
  have xb := (k3.grows q0).cell
  go_simp
  exact gr_val (HI.out _ _ _ ⟨q0, kn_known q1 rfl, ds_free q2 rfl⟩)
 refine gent_consR (fun vs L w1 hL hw1 => ?_) ?_
 ·obtain ⟨q0, q1, q2⟩ := HO.out _ _ _ hw1
  refine gen_plain rfl ?_
  have l0 : L 0 = true := hL.need 0 (by kernel_rfl)
  have e0 := q1 0 _ rfl l0
  simp only [e0]
  go_simp
  have hg := (Below.refl w1.heap.size w1).alloc (Nat.le_refl _) (Obj.cells #[.int .i64 x.k, .slice A1 x.r.length c1, .slice A2 x.m.length c2, .slice A3 x.s.length c3] 61)
  exact gr_val (HI.out _ _ _ ⟨below_grows q0 (Nat.le_refl _) hg, kn_free q1 rfl, ds_put (q2.grows hg) rfl ⟨_, _, rfl, bxs_one2 ((hpx.mono (b2 := fun _ => True) (fun _ _ => trivial)).grows (below_grows hB (Nat.le_refl _) q0)) trivial rfl⟩⟩)
 refine gent_consR (fun vs L w1 hL hw1 => ?_) ?_
 ·obtain ⟨q0, q1, q2⟩ := HO.out _ _ _ hw1
  refine gen_plain rfl ?_
  have xb := (k3.grows q0).cell
  go_simp
  exact gr_val (HI.out _ _ _ ⟨q0, kn_known q1 rfl, ds_free q2 rfl⟩)
 refine gent_consR (fun vs L w1 hL hw1 => ?_) ?_
 ·obtain ⟨q0, q1, q2⟩ := HO.out _ _ _ hw1
  refine gen_plain rfl ?_
  have xb := (k4.grows q0).cell
  go_simp
  exact gr_val (HI.out _ _ _ ⟨q0, kn_known q1 rfl, ds_free q2 rfl⟩)
 refine gent_consR (fun vs L w1 hL hw1 => ?_) ?_
 ·obtain ⟨q0, q1, q2⟩ := HO.out _ _ _ hw1
  refine gen_plain rfl ?_
  go_simp
  exact gr_val (HI.out _ _ _ ⟨q0, kn_known q1 rfl, ds_free q2 rfl⟩)
 refine gent_consR (fun vs L w1 hL hw1 => ?_) ?_
 ·obtain ⟨q0, q1, q2⟩ := HO.out _ _ _ hw1
  refine gen_plain rfl ?_
  have l2 : L 2 = true := hL.need 2 (by kernel_rfl)
  have e2 := q1 2 _ rfl l2
  have l3 : L 3 = true := hL.need 3 (by kernel_rfl)
  have e3 := q1 3 _ rfl l3
  have l4 : L 4 = true := hL.need 4 (by kernel_rfl)
  have e4 := q1 4 _ rfl l4
  simp only [e2, e3, e4]
  go_simp
  refine gr_call ?_
  refine (HW.out _ (below_grows hB (Nat.le_refl _) q0)).mono ?_
  rintro e w3 ⟨⟨v, rfl, hv⟩, hg⟩
  exact ⟨_, rfl, HI.out _ _ _ ⟨below_grows q0 (Nat.le_refl _) hg, kn_free q1 rfl, ds_put (q2.grows hg) rfl (hv.grows hg)⟩⟩
 refine gent_consR (fun vs L w1 hL hw1 => ?_) ?_
 ·obtain ⟨q0, q1, q2⟩ := HO.out _ _ _ hw1
  refine gen_plain rfl ?_
  have l5 : L 5 = true := hL.need 5 (by kernel_rfl)
  obtain ⟨E1, f1, E2, f2, E3, f3, e5, hpz⟩ := q2 5 _ rfl l5
  simp only [e5]
  go_simp
  have hg := (Below.refl w1.heap.size w1).alloc (Nat.le_refl _) (Obj.cells #[.int .i64 z.k, .slice E1 z.r.length f1, .slice E2 z.m.length f2, .slice E3 z.s.length f3] 61)
  exact gr_val (HI.out _ _ _ ⟨below_grows q0 (Nat.le_refl _) hg, kn_free q1 rfl, ds_put (q2.grows hg) rfl ⟨_, _, rfl, bxs_one2 hpz trivial rfl⟩⟩)
 refine gent_consR (fun vs L w1 hL hw1 => ?_) ?_
 ·obtain ⟨q0, q1, q2⟩ := HO.out _ _ _ hw1
  refine gen_plain rfl ?_
  have l1 : L 1 = true := hL.need 1 (by kernel_rfl)
  have l6 : L 6 = true := hL.need 6 (by kernel_rfl)
  obtain ⟨Aa, ca, ea, ha⟩ := q2 1 _ rfl l1
  obtain ⟨Ab, cb, eb, hb⟩ := q2 6 _ rfl l6
  simp only [ea, eb]
  go_simp
  refine gr_call ?_
  have hcon := HP.out _ Aa Ab ca cb ha hb
  refine hcon.mono ?_
  rintro e w3 ⟨⟨v, rfl, hw⟩, hg⟩
  obtain ⟨A9, c9, rfl, hc9, hx9⟩ := hw.read
  have hsz := (below_grows hB (Nat.le_refl _) q0).size
  exact ⟨_, rfl, HI.out _ _ _ ⟨below_grows q0 (Nat.le_refl _) hg, kn_free q1 rfl, ds_put (q2.grows hg) rfl ⟨A9, c9, rfl, hc9, hx9.mono (fun k hk => by unfold Ge at *; omega)⟩⟩⟩
 refine gent_consR (fun vs L w1 hL hw1 => ?_) ?_
 ·obtain ⟨q0, q1, q2⟩ := HO.out _ _ _ hw1
  refine gen_plain rfl ?_
  have l7 : L 7 = true := hL.need 7 (by kernel_rfl)
  obtain ⟨A9, c9, e7, hc9, hx9⟩ := q2 7 _ rfl l7
  simp only [e7]
  go_simp
  exact gr_val (HI.out _ _ _ ⟨q0, kn_free q1 rfl, ds_put q2 rfl ⟨A9, c9, rfl, hc9, hx9⟩⟩)
 refine gent_consR (fun vs L w1 hL hw1 => ?_) ?_
 ·obtain ⟨q0, q1, q2⟩ := HO.out _ _ _ hw1
  refine gen_plain rfl ?_
  have l7 : L 7 = true := hL.need 7 (by kernel_rfl)
  obtain ⟨A9, c9, e7, hc9, hx9⟩ := q2 7 _ rfl l7
  simp only [e7]
  go_simp
  exact gr_val (HI.out _ _ _ ⟨q0, kn_known q1 rfl, ds_free q2 rfl⟩)
 refine gent_nil ?_
 intro vs L W2 hall hS
 obtain ⟨q0, q1, q2⟩ := HO.out _ _ _ hS
 have e9 := q1 9 _ rfl (hall 9 (by omega))
 obtain ⟨A9, c9, e8, hc9, hx9⟩ := q2 8 _ rfl (hall 8 (by omega))
 have hB3 := below_grows hB (Nat.le_refl _) q0
 clear hall hS HI HO q1 q2 q0 hB k3 k4
 simp only [e9, e8]
 go_wp2
 refine bodyPost_ret (v := .tuple #[.slice A9 ml.length c9, .int .i64 me]) (by simp [results, Tryz.results51, go_sem]) rfl ?_
 exact ⟨⟨A9, c9, rfl, hc9, hx9⟩, hB3⟩
end Go.Proofs.YtjbkjgmcfommgaaGreat

namespace Go.Proofs.YtjbkjgmcfommgaaGreat
open Go.RowKit
theorem meet_cases {d : Int} {x y : Bx} (hx : FB x) (hy : FB y) : (someB (dimsF d x y) = false ∧ meetF d x y = ([], 0)) ∨ (someB (dimsF d x y) = true ∧ (meetF d x y = ([], 3) ∨ meetF d x y = ([dimsF d x y], 0))) := by
 rw [meet_is hx hy]
 cases someB (dimsF d x y)
 ·exact .inl ⟨rfl, rfl⟩
 ·cases manyB d (dimsF d x y)
  ·exact .inr ⟨rfl, .inr rfl⟩
  ·exact .inr ⟨rfl, .inl rfl⟩
theorem pow_step {j : Nat} {d : Int} (h : d = 2 ^ j) (hj : j < 4) : 1 ≤ d ∧ d ≤ 8 ∧ d * 2 = 2 ^ (j + 1) := by
 have : j = 0 ∨ j = 1 ∨ j = 2 ∨ j = 3 := by omega
 rcases this with rfl | rfl | rfl | rfl <;> subst h <;> decide
theorem sh_next (x y : Bx) (n : Nat) : shF x y (n + 1) = if someB (dimsF (2 ^ n) x y) = true then bits .or .i64 (shF x y n) (2 ^ n) else shF x y n := rfl
set_option maxHeartbeats 32000000 in
set_option maxRecDepth 10000 in
theorem shared_any {ba bb : Nat → Prop} {x y : Bx} {A1 A2 A3 B1 B2 B3 : Option Addr} {c1 c2 c3 d1 d2 d3 : Nat} {w : World} (hpx : BoxP w ba x A1 c1 A2 c2 A3 c3) (hpy : BoxP w bb y B1 d1 B2 d2 B3 d3) (hx : FB x) (hy : FB y) :
 Calls Tryz.prog 52 #[.agg #[.int .i64 x.k, .slice A1 x.r.length c1, .slice A2 x.m.length c2, .slice A3 x.s.length c3], .agg #[.int .i64 y.k, .slice B1 y.r.length d1, .slice B2 y.m.length d2, .slice B3 y.s.length d3]] w fun e w' => e = .returned (.int .i64 (shF x y 4)) ∧ Grows w w' := by
 have HM := Lib.hid (fun (w0 : World) (d : Int) (h : Grows w w0) => meet_any (w := w0) d (hpx.grows h) (hpy.grows h) hx hy)
 have HC := Lib.hid (fun (d : Int) => meet_cases (d := d) hx hy)
 have HN := Lib.hid (sh_next x y)
 have k2 := ((Blk.new w 61 #[.int .i64 x.k, .slice A1 x.r.length c1, .slice A2 x.m.length c2, .slice A3 x.s.length c3]).alloc (Obj.cells #[.int .i64 y.k, .slice B1 y.r.length d1, .slice B2 y.m.length d2, .slice B3 y.s.length d3] 61))
 have k3 := (Blk.new (w.alloc (Obj.cells #[.int .i64 x.k, .slice A1 x.r.length c1, .slice A2 x.m.length c2, .slice A3 x.s.length c3] 61)) 61 #[.int .i64 y.k, .slice B1 y.r.length d1, .slice B2 y.m.length d2, .slice B3 y.s.length d3])
 have hB := (((Below.refl w.heap.size w).alloc (Nat.le_refl _) (Obj.cells #[.int .i64 x.k, .slice A1 x.r.length c1, .slice A2 x.m.length c2, .slice A3 x.s.length c3] 61)).alloc (by simp) (Obj.cells #[.int .i64 y.k, .slice B1 y.r.length d1, .slice B2 y.m.length d2, .slice B3 y.s.length d3] 61))
 clear hx hy hpx hpy
 go_enter Tryz.func52, Tryz.ntmps52
 go_upto_region 1 with fail
 have hs1 : (w.alloc (Obj.cells #[.int .i64 x.k, .slice A1 x.r.length c1, .slice A2 x.m.length c2, .slice A3 x.s.length c3] 61)).heap.size = w.heap.size + 1 := by simp
 rw [hs1] at k3
 clear hs1
 generalize World.alloc (World.alloc w _) _ = w2 at *
 generalize hq3 : w.heap.size + 1 = q3 at *
 clear hq3
 go_wp2_with fail
 go_loopw [5, 6] (fun v i wr => ∃ (j : Nat) (d : Int), j ≤ 4 ∧ Hid (d = 2 ^ j) ∧ v = .int .i64 (shF x y j) ∧ i = .int .i64 d ∧ Blk wr w.heap.size 61 #[.int .i64 x.k, .slice A1 x.r.length c1, .slice A2 x.m.length c2, .slice A3 x.s.length c3] ∧ Blk wr q3 61 #[.int .i64 y.k, .slice B1 y.r.length d1, .slice B2 y.m.length d2, .slice B3 y.s.length d3] ∧ Below w.heap.size w wr) (fun _ i _ => 17 - (intOf i).toNat)
 case atStart => exact ⟨0, 1, by omega, Lib.hid rfl, rfl, rfl, k2, k3, hB⟩
 case round =>
  clear k2 k3 hB
  obtain ⟨j, d, hj, HD, rfl, rfl, k2, k3, hB⟩ := hrel
  by_cases hlt : j < 4
  ·obtain ⟨p1, p8, p2⟩ := pow_step HD.out hlt
   have e0 : decide (d ≤ 15) = true := by simp only [decide_eq_true_eq]; omega
   have hwd : IntKind.i64.wrap (d * 2) = d * 2 := IntWalk.i64_in _ (by omega)
   have HP2 := Lib.hid p2
   have HS : Hid (shF x y (j + 1) = if someB (dimsF d x y) = true then bits .or .i64 (shF x y j) d else shF x y j) := Lib.hid (by rw [HN.out, ← HD.out])
   clear p2
   have x2 := k2.cell
   have x3 := k3.cell
   go_wp2_with fail
   have hcon := HM.out _ d hB
   clear x2 x3
   rcases HC.out d with ⟨hs, hm⟩ | ⟨hs, hm | hm⟩
   ·rw [hm] at hcon
    have HE : Hid (shF x y (j + 1) = shF x y j) := Lib.hid (by rw [HS.out, hs, if_neg (by simp)])
    clear hs hm HS
    refine hcon.mono ?_
    rintro e w3 ⟨⟨A, c, rfl, hc, -⟩, hq⟩
    replace hB := below_grows hB (Nat.le_refl _) hq
    replace k2 := k2.grows hq
    replace k3 := k3.grows hq
    clear hq hcon
    go_wp2
    go_roundw
    case rel => exact ⟨j + 1, d * 2, by omega, HP2, by rw [HE.out], by go_num, k2, k3, hB⟩
    case measure => simp [intOf]; omega
   ·rw [hm] at hcon
    have HE : Hid (shF x y (j + 1) = bits .or .i64 (shF x y j) d) := Lib.hid (by rw [HS.out, hs, if_pos rfl])
    clear hs hm HS
    refine hcon.mono ?_
    rintro e w3 ⟨⟨A, c, rfl, hc, -⟩, hq⟩
    replace hB := below_grows hB (Nat.le_refl _) hq
    replace k2 := k2.grows hq
    replace k3 := k3.grows hq
    clear hq hcon
    go_wp2
    go_roundw
    case rel => exact ⟨j + 1, d * 2, by omega, HP2, by rw [HE.out], by go_num, k2, k3, hB⟩
    case measure => simp [intOf]; omega
   ·rw [hm] at hcon
    have HE : Hid (shF x y (j + 1) = bits .or .i64 (shF x y j) d) := Lib.hid (by rw [HS.out, hs, if_pos rfl])
    clear hs hm HS
    refine hcon.mono ?_
    rintro e w3 ⟨⟨A, c, rfl, hc, -⟩, hq⟩
    replace hB := below_grows hB (Nat.le_refl _) hq
    replace k2 := k2.grows hq
    replace k3 := k3.grows hq
    clear hq hcon
    go_wp2
    go_roundw
    case rel => exact ⟨j + 1, d * 2, by omega, HP2, by rw [HE.out], by go_num, k2, k3, hB⟩
    case measure => simp [intOf]; omega
  ·obtain rfl : j = 4 := by omega
   have hd16 : d = 16 := HD.out
   subst hd16
   go_wp2
   go_ret
   exact ⟨rfl, hB⟩
end Go.Proofs.YtjbkjgmcfommgaaGreat

namespace Go.Proofs.YtjbkjgmcfommgaaGreat
open Go.RowKit
theorem prodn_lim {d : Int} {a b : List Bx} (h : prodF d a b = none) : productF d a b = ([], 3) := by unfold productF; rw [h]
theorem prodn_ok {d : Int} {a b out : List Bx} (h : prodF d a b = some out) : productF d a b = reduceF out := by unfold productF; rw [h]
theorem fb_snoc {l : List Bx} {z : Bx} (h : ∀ b ∈ l, OKB b) (hz : OKB z) : ∀ b ∈ l ++ [z], OKB b := okb_snoc h hz
theorem meet_three {d : Int} {x y : Bx} (hx : FB x) (hy : FB y) : (someB (dimsF d x y) = false ∧ meetF d x y = ([], 0)) ∨ (someB (dimsF d x y) = true ∧ manyB d (dimsF d x y) = true ∧ meetF d x y = ([], 3)) ∨ (someB (dimsF d x y) = true ∧ manyB d (dimsF d x y) = false ∧ meetF d x y = ([dimsF d x y], 0) ∧ OKB (dimsF d x y)) := by
 rw [meet_is hx hy]
 cases hs : someB (dimsF d x y)
 ·exact .inl ⟨rfl, rfl⟩
 ·cases hm : manyB d (dimsF d x y)
  ·exact .inr (.inr ⟨rfl, rfl, rfl, okb_fine (dims_fine hx hy hs hm)⟩)
  ·exact .inr (.inl ⟨rfl, rfl, rfl⟩)
set_option maxHeartbeats 64000000 in
set_option maxRecDepth 10000 in
theorem reach_any {ba bb : Nat → Prop} {A B : Option Addr} {c d n m : Nat} {a b : List Bx} {w : World} (dd : Int) (hn : n = a.length) (hm : m = b.length) (ha : Bxs w ba A a) (hb : Bxs w bb B b) (hla : a.length ≤ 100000) (hlb : b.length ≤ 100000) (hoa : ∀ x ∈ a, FB x) (hob : ∀ x ∈ b, FB x) :
 Calls Tryz.prog 28 #[.slice A n c, .slice B m d, .int .i64 dd] w fun e w' => (∃ v, e = .returned (.tuple #[v, .int .i64 (productF dd a b).2]) ∧ OwnBq w' w.heap.size (Ge w.heap.size) v (productF dd a b).1) ∧ Grows w w' := by
 subst hn hm
 have HOA := Lib.hid hoa
 have HOB := Lib.hid hob
 clear hoa hob
 have hB := Below.refl w.heap.size w
 go_enter Tryz.func28, Tryz.ntmps28
 go_wp2_with fail
 go_loopw [8, 17] (fun v i wr => ∃ (k : Nat) (out : List Bx), k ≤ a.length ∧ i = .int .i64 k ∧ Hid ((a.take k).foldl (prodRow dd b) (some []) = some out) ∧ Hid (∀ z ∈ out, OKB z) ∧ out.length ≤ 64 ∧ OwnBq wr w.heap.size (Ge w.heap.size) v out ∧ Below w.heap.size w wr) (fun _ i _ => a.length - (intOf i).toNat)
 case atStart => exact ⟨0, [], by omega, rfl, Lib.hid rfl, Lib.hid (fun z hz => by cases hz), by simp, OwnBq.nil, hB⟩
 case round =>
  clear hB
  obtain ⟨k, out0, hk, rfl, HK, HOO, hol, hw, hB⟩ := hrel
  by_cases hlt : k < a.length
  ·obtain ⟨ad, x, A1, c1, A2, c2, A3, c3, e1, had, hx, hpx, q0, q1, q2, q3⟩ := ha.elemB hB hlt
   subst e1
   have HX := Lib.hid hx
   have hox := HOA.out x (List.mem_of_getElem? hx)
   clear hx
   have k8 := Blk.new wr 61 #[.int .i64 x.k, .slice A1 x.r.length c1, .slice A2 x.m.length c2, .slice A3 x.s.length c3]
   have hne := fun e => Nat.lt_irrefl _ (hw.lt _ e).2
   have hq := (Below.refl wr.heap.size wr).alloc (Nat.le_refl _) (Obj.cells #[.int .i64 x.k, .slice A1 x.r.length c1, .slice A2 x.m.length c2, .slice A3 x.s.length c3] 61)
   go_upto_region 5 with fail
   replace hB := below_grows hB (Nat.le_refl _) hq
   replace hw := hw.grows hq
   clear hq q0 q1 q2 q3
   generalize World.alloc wr _ = w5 at *
   generalize wr.heap.size = G8 at *
   have hB5 := hB
   clear hB
   go_wp2_with fail
   go_loopw [8, 23] (fun v i wq => ∃ (j : Nat) (out : List Bx), j ≤ b.length ∧ i = .int .i64 j ∧ Hid ((b.take j).foldl (prodStep dd x) (some out0) = some out) ∧ Hid (∀ z ∈ out, OKB z) ∧ out.length ≤ 64 ∧ OwnBq wq w.heap.size (Ge w.heap.size) v out ∧ v.ownBlock ≠ some G8 ∧ Blk wq G8 61 #[.int .i64 x.k, .slice A1 x.r.length c1, .slice A2 x.m.length c2, .slice A3 x.s.length c3] ∧ Below w.heap.size w wq) (fun _ i _ => b.length - (intOf i).toNat)
   case atStart => exact ⟨0, out0, by omega, rfl, Lib.hid rfl, HOO, hol, hw, hne, k8, hB5⟩
   case round =>
    clear hw k8 hB5 HOO hol hne
    obtain ⟨j, out, hj, rfl, HJ, HOO, hol, hw, hne, k8, hB⟩ := hrel
    by_cases hjt : j < b.length
    ·obtain ⟨ad2, y, B1, d1, B2, d2, B3, d3, e2, had2, hy, hpy, q0, q1, q2, q3⟩ := hb.elemB hB hjt
     subst e2
     have HY := Lib.hid hy
     have hoy := HOB.out y (List.mem_of_getElem? hy)
     clear hy
     have k10 := Blk.new wr 61 #[.int .i64 y.k, .slice B1 y.r.length d1, .slice B2 y.m.length d2, .slice B3 y.s.length d3]
     have hq := (Below.refl wr.heap.size wr).alloc (Nat.le_refl _) (Obj.cells #[.int .i64 y.k, .slice B1 y.r.length d1, .slice B2 y.m.length d2, .slice B3 y.s.length d3] 61)
     go_upto_region 8 with fail
     replace hB := below_grows hB (Nat.le_refl _) hq
     replace hw := hw.grows hq
     replace k8 := k8.grows hq
     clear hq q0 q1 q2 q3
     generalize World.alloc wr _ = w6 at *
     generalize wr.heap.size = G10 at *
     have x8 := k8.cell
     have x10 := k10.cell
     have hown := hw.lt
     go_wp2_with fail
     have hcon := meet_any dd (hpx.grows hB) (hpy.grows hB) hox hoy
     clear x8 x10 k10
     rcases meet_three (d := dd) hox hoy with ⟨hs, hm⟩ | ⟨hs, hm2, hm⟩ | ⟨hs, hm2, hm, hoz⟩
     ·have HN : Hid ((b.take (j + 1)).foldl (prodStep dd x) (some out0) = some out) := Lib.hid (by rw [fold_next HY.out, HJ.out]; exact prodStep_no hs)
      clear hs
      rw [hm] at hcon
      refine hcon.mono ?_
      rintro e w7 ⟨⟨A9, c9, rfl, hc9, hx9⟩, hq⟩
      replace hx9 : Bxs w7 (Aq (Ge w.heap.size) _) A9 _ := hx9.mono fun k hk => ⟨by have h8 := hB.size; unfold Ge at *; omega, fun e => by have h9 := (hown _ e).2; unfold Ge at hk; omega⟩
      replace hB := below_grows hB (Nat.le_refl _) hq
      replace hw := hw.grows hq
      replace k8 := k8.grows hq
      clear hq hcon hown hm
      go_upto_region 11 with fail
      refine wp_region_lit ?_
      iterate 2
       refine wpList_plain rfl (fun K hK => ?_)
       go_simp
       refine hK _ _ ?_
       clear hK K
      have hown3 := hw.lt
      refine wpList_append_boxesq rfl (.tmp 37) (.tmp 38) rfl (m := []) rfl rfl hw rfl hx9 (by simp only [List.length_nil]; omega) hB.size ?_
      intro v5 w12 ho2 hgr hv5
      have hne2 : v5.ownBlock ≠ some G8 := by
       rcases hv5 with e | e
       ·rw [e]; exact hne
       ·rw [e]; intro e2; injection e2 with e2; have := k8.lt; omega
      replace hB := hB.grown hgr hB.size (fun q e => (hown3 q e).1)
      replace k8 := k8.grown hgr (fun e => hne e.symm)
      clear hown3 hgr hw hx9
      rw [List.append_nil] at ho2
      obtain ⟨A7, c7, rfl, hc7, -⟩ := ho2.read
      have dq : decide ((64 : Int) < (out.length : Int)) = false := by simp only [decide_eq_false_iff_not]; omega
      have dq2 : decide (64 < out.length) = false := by simp only [decide_eq_false_iff_not]; omega
      go_wp2
      go_roundw
      case rel => exact ⟨j + 1, out, by omega, by go_num, HN, HOO, hol, ho2, hne2, k8, hB⟩
      case measure => simp [intOf]; omega
     ·have HE : Hid (productF dd a b = ([], 3)) := Lib.hid (prodn_lim (prod_stop HX.out HY.out HK.out HJ.out (prodStep_stop hs (.inl hm2))))
      clear hs hm2
      rw [hm] at hcon
      refine hcon.mono ?_
      rintro e w7 ⟨⟨A9, c9, rfl, hc9, hx9⟩, hq⟩
      replace hx9 : Bxs w7 (Aq (Ge w.heap.size) _) A9 _ := hx9.mono fun k hk => ⟨by have h8 := hB.size; unfold Ge at *; omega, fun e => by have h9 := (hown _ e).2; unfold Ge at hk; omega⟩
      replace hB := below_grows hB (Nat.le_refl _) hq
      replace hw := hw.grows hq
      replace k8 := k8.grows hq
      clear hq hcon hown hm
      clear hx9
      go_wp2
      refine bodyPost_ret (v := .tuple #[.slice none 0 0, .int .i64 3]) (by simp [results, Tryz.results28, go_sem]) rfl ?_
      rw [HE.out]
      exact ⟨⟨_, rfl, OwnBq.nil⟩, hB⟩
     ·have HN0 : Hid (out.length < 64 → (b.take (j + 1)).foldl (prodStep dd x) (some out0) = some (out ++ [dimsF dd x y])) := Lib.hid (fun h => by rw [fold_next HY.out, HJ.out]; exact prodStep_yes hs hm2 h)
      have HE0 : Hid (64 ≤ out.length → productF dd a b = ([], 3)) := Lib.hid (fun h => prodn_lim (prod_stop HX.out HY.out HK.out HJ.out (prodStep_stop hs (.inr h))))
      have HOO2 := Lib.hid (fb_snoc HOO.out hoz)
      clear hs hm2
      generalize dimsF dd x y = z at *
      rw [hm] at hcon
      refine hcon.mono ?_
      rintro e w7 ⟨⟨A9, c9, rfl, hc9, hx9⟩, hq⟩
      replace hx9 : Bxs w7 (Aq (Ge w.heap.size) _) A9 _ := hx9.mono fun k hk => ⟨by have h8 := hB.size; unfold Ge at *; omega, fun e => by have h9 := (hown _ e).2; unfold Ge at hk; omega⟩
      replace hB := below_grows hB (Nat.le_refl _) hq
      replace hw := hw.grows hq
      replace k8 := k8.grows hq
      clear hq hcon hown hm
      go_upto_region 11 with fail
      refine wp_region_lit ?_
      iterate 2
       refine wpList_plain rfl (fun K hK => ?_)
       go_simp
       refine hK _ _ ?_
       clear hK K
      have hown3 := hw.lt
      refine wpList_append_boxesq rfl (.tmp 37) (.tmp 38) rfl (m := [z]) rfl rfl hw rfl hx9 (by simp only [List.length_singleton]; omega) hB.size ?_
      intro v5 w12 ho2 hgr hv5
      have hne2 : v5.ownBlock ≠ some G8 := by
       rcases hv5 with e | e
       ·rw [e]; exact hne
       ·rw [e]; intro e2; injection e2 with e2; have := k8.lt; omega
      replace hB := hB.grown hgr hB.size (fun q e => (hown3 q e).1)
      replace k8 := k8.grown hgr (fun e => hne e.symm)
      clear hown3 hgr hw hx9
      have hlen2 : (out ++ [z]).length = out.length + 1 := by rw [List.length_append, List.length_singleton]
      generalize out ++ [z] = out2 at *
      obtain ⟨A7, c7, rfl, hc7, -⟩ := ho2.read
      have HL2 := Lib.hid hlen2
      by_cases h1 : 64 ≤ out.length
      ·have HE := Lib.hid (HE0.out h1)
       have dq : decide ((64 : Int) < (out2.length : Int)) = true := by simp only [decide_eq_true_eq]; omega
       have dq2 : decide (64 < out2.length) = true := by simp only [decide_eq_true_eq]; omega
       clear h1 hlen2
       go_wp2
       refine bodyPost_ret (v := .tuple #[.slice none 0 0, .int .i64 3]) (by simp [results, Tryz.results28, go_sem]) rfl ?_
       rw [HE.out]
       exact ⟨⟨_, rfl, OwnBq.nil⟩, hB⟩
      ·have HN := Lib.hid (HN0.out (by omega))
       have hol2 : out2.length ≤ 64 := by omega
       have dq : decide ((64 : Int) < (out2.length : Int)) = false := by simp only [decide_eq_false_iff_not]; omega
       have dq2 : decide (64 < out2.length) = false := by simp only [decide_eq_false_iff_not]; omega
       clear h1 hlen2
       go_wp2
       go_roundw
       case rel => exact ⟨j + 1, out2, by omega, by go_num, HN, HOO2, hol2, ho2, hne2, k8, hB⟩
       case measure => simp [intOf]; omega
    ·have HN : Hid ((a.take (k + 1)).foldl (prodRow dd b) (some []) = some out) := Lib.hid (by rw [fold_next HX.out, HK.out]; have := HJ.out; rwa [List.take_of_length_le (by omega)] at this)
     go_wp2
     go_roundw
     case rel => exact ⟨k + 1, out, by omega, by go_num, HN, HOO, hol, hw, hB⟩
     case measure => simp [intOf]; omega
  ·have HE : Hid (productF dd a b = reduceF out0) := Lib.hid (prodn_ok (by have := HK.out; rwa [List.take_of_length_le (by omega)] at this))
   obtain ⟨A9, c9, rfl, hc9, hxo⟩ := hw.read
   go_wp2_with fail
   refine (preduce_any rfl hxo (by omega) HOO.out).mono ?_
   rintro e w3 ⟨⟨v, rfl, hw2⟩, hq2⟩
   have hs := hB.size
   replace hB := below_grows hB (Nat.le_refl _) hq2
   go_wp2
   refine bodyPost_ret (v := .tuple #[v, .int .i64 (reduceF out0).2]) (by simp [results, Tryz.results28, go_sem]) rfl ?_
   rw [HE.out]
   exact ⟨⟨_, rfl, hw2.lower hs (fun k hk => by unfold Ge at *; omega)⟩, hB⟩
end Go.Proofs.YtjbkjgmcfommgaaGreat

namespace Go.Proofs.YtjbkjgmcfommgaaGreat
open Go.RowKit
theorem bl1_any {G : Nat} (p s : Int) {w : World} (kG : Blk w G 3 #[.int .i64 s]) :
 Calls Tryz.prog 54 #[.int .i64 p, .pointer (some ⟨G, 0, none⟩)] w fun e w' => e = .returned (.bool (bits .and .i64 p s == s)) ∧ Grows w w' := by
 have hB := Below.refl w.heap.size w
 have x0 := kG.cell
 go_enter Tryz.func54, Tryz.ntmps54
 go_wp2
 go_ret
 exact ⟨rfl, hB⟩
set_option maxHeartbeats 4000000 in
theorem idx_bl (G : Nat) {n : Nat} (A : Option Addr) (c : Nat) (l : List Int) (s : Int) (w : World) (kG : Blk w G 3 #[.int .i64 s]) (hn : n = l.length) (h : Ints w A l) (hl : l.length ≤ 9223372036854775807) :
 Calls Tryz.prog 86 #[.slice A n c, .func (.func 54) #[] #[.pointer (some ⟨G, 0, none⟩)]] w fun e w' => e = .returned (.int .i64 (placeZ (l.findIdx? fun p => bits .and .i64 p s == s))) ∧ Grows w w' := by
 subst hn
 go_enter Tryz.func86, Tryz.ntmps86
 go_wp2_with fail
 go_loopw [8] (fun i wr => ∃ k : Nat, k ≤ l.length ∧ i = .int .i64 k ∧ Hid ((l.take k).findIdx? (fun p => bits .and .i64 p s == s) = none) ∧ Grows w wr) (fun i _ => l.length - (intOf i).toNat)
 case atStart => exact ⟨0, by omega, rfl, Lib.hid rfl, Below.refl _ _⟩
 case round =>
  obtain ⟨k, hk, rfl, hf, hB⟩ := hrel
  by_cases hlt : k < l.length
  ·obtain ⟨ad, x, rfl, had, hx, q0⟩ := (h.grows hB).at_ hlt
   have HX := Lib.hid hx
   clear hx
   go_wp2_with fail
   refine (bl1_any x s (kG.grows hB)).mono ?_
   rintro e w2 ⟨rfl, hq⟩
   replace hB := below_grows hB (Nat.le_refl _) hq
   clear hq q0
   cases e : (bits .and .i64 x s == s)
   ·have HE := Lib.hid (idx_upU hf.out HX.out e)
    go_wp2
    go_roundw
    case rel => exact ⟨k + 1, by omega, by go_num, HE, hB⟩
    case measure => simp [intOf]; omega
   ·have HE := Lib.hid (idx_atU hf.out HX.out e)
    go_wp2
    go_ret
    rw [HE.out]
    exact ⟨rfl, hB⟩
  ·have HE : Hid (l.findIdx? (fun p => bits .and .i64 p s == s) = none) := Lib.hid (by have := hf.out; rwa [List.take_of_length_le (by omega)] at this)
   go_wp2
   go_ret
   rw [HE.out]
   exact ⟨rfl, hB⟩
theorem cont_bl (G : Nat) {n : Nat} (A : Option Addr) (c : Nat) (l : List Int) (s : Int) (w : World) (kG : Blk w G 3 #[.int .i64 s]) (hn : n = l.length) (h : Ints w A l) (hl : l.length ≤ 9223372036854775807) :
 Calls Tryz.prog 53 #[.slice A n c, .func (.func 54) #[] #[.pointer (some ⟨G, 0, none⟩)]] w fun e w' => e = .returned (.bool (l.any fun p => bits .and .i64 p s == s)) ∧ Grows w w' := by
 subst hn
 rw [← place_anyU]
 go_enter Tryz.func53, Tryz.ntmps53
 go_wp2_with fail
 refine (idx_bl G A c l s _ kG rfl h hl).mono ?_
 rintro e w2 ⟨rfl, hq⟩
 generalize hz : placeZ (l.findIdx? fun p => bits .and .i64 p s == s) = z
 have HZ := Lib.hid hz
 clear hz
 go_wp2
 go_ret
 rw [HZ.out]
 exact ⟨rfl, hq⟩
end Go.Proofs.YtjbkjgmcfommgaaGreat

namespace Go.Proofs.YtjbkjgmcfommgaaGreat
open Go.RowKit
def worthL (d : Int) (a b : List Bx) : List Int := (pairsL a b).map (worth d)
theorem worth_snoc {d : Int} {a b : List Bx} {k : Nat} {x : Bx} (h : a[k]? = some x) : worthL d (a.take (k + 1)) b = worthL d (a.take k) b ++ b.map fun y => worth d (x, y) := by
 unfold worthL pairsL
 rw [take_snoc h, List.flatMap_append, List.map_append]
 congr 1
 simp
theorem worth_row {d : Int} {b : List Bx} {k : Nat} {x y : Bx} (h : b[k]? = some y) : (b.take (k + 1)).map (fun y => worth d (x, y)) = (b.take k).map (fun y => worth d (x, y)) ++ [worth d (x, y)] := by
 rw [take_snoc h, List.map_append]
 rfl
theorem worth_len (d : Int) (a b : List Bx) : (worthL d a b).length = a.length * b.length := by
 unfold worthL
 rw [List.length_map, pairs_len]
theorem worth_any (d : Int) (a b : List Bx) (s : Int) : ((worthL d a b).any fun p => bits .and .i64 p s == s) = metG d (pairsL a b) s := by
 unfold worthL metG
 rw [List.any_map]
 rfl
theorem blG_bd (f : Int → Bool) (n : Nat) (h : n ≤ 14) : 1 ≤ blG f n ∧ blG f n ≤ 15 := by
 rcases (blG_least f n h).1 with e | ⟨s, e, h1, h2, -⟩ <;> rw [e] <;> omega
def ptrN (w : World) (v : Value) : Nat := match v with
 | .pointer (some ad) => (match w.cell? ad with | some u => (intOf u).toNat | none => 0)
 | _ => 0
theorem ptrN_blk {w : World} {G : Nat} {t : TypeId} {s : Int} (k : Blk w G t #[.int .i64 s]) : ptrN w (.pointer (some ⟨G, 0, none⟩)) = s.toNat := by
 show (match w.cell? ⟨G, 0, none⟩ with | some u => (intOf u).toNat | none => 0) = _
 rw [k.cell 0]
 rfl
theorem ptr_less {p q : Nat} {s : Int} (h : p = s.toNat) (h2 : q = (s + 1).toNat) (h1 : 1 ≤ s) (h3 : s ≤ 14) : 16 - q < 16 - p := by omega
set_option maxHeartbeats 64000000 in
set_option maxRecDepth 10000 in
theorem nblame_any {ba bb : Nat → Prop} {A B : Option Addr} {c d n m : Nat} {a b : List Bx} {w : World} (dd : Int) (hn : n = a.length) (hm : m = b.length) (ha : Bxs w ba A a) (hb : Bxs w bb B b) (hla : a.length ≤ 64) (hlb : b.length ≤ 64) (hoa : ∀ x ∈ a, FB x) (hob : ∀ x ∈ b, FB x) :
 Calls Tryz.prog 29 #[.slice A n c, .slice B m d, .int .i64 dd] w fun e w' => e = .returned (.int .i64 (ngBlame dd a b)) ∧ Grows w w' := by
 subst hn hm
 have HOA := Lib.hid hoa
 have HOB := Lib.hid hob
 clear hoa hob
 have hB := Below.refl w.heap.size w
 go_enter Tryz.func29, Tryz.ntmps29
 go_wp2_with fail
 go_loopw [7, 17] (fun v i wr => ∃ k : Nat, k ≤ a.length ∧ i = .int .i64 k ∧ OwnI wr w.heap.size v (worthL dd (a.take k) b) ∧ Below w.heap.size w wr) (fun _ i _ => a.length - (intOf i).toNat)
 case atStart => exact ⟨0, by omega, rfl, ownI_nil _ _, hB⟩
 case round =>
  clear hB
  obtain ⟨k, hk, rfl, ho, hB⟩ := hrel
  by_cases hlt : k < a.length
  ·obtain ⟨ad, x, A1, c1, A2, c2, A3, c3, e1, had, hx, hpx, q0, q1, q2, q3⟩ := ha.elemB hB hlt
   subst e1
   have HX := Lib.hid hx
   have hox := HOA.out x (List.mem_of_getElem? hx)
   have HWS := Lib.hid (worth_snoc (d := dd) (b := b) hx)
   have hwl : (worthL dd (a.take k) b).length ≤ 4096 := by
    rw [worth_len, List.length_take]
    exact Nat.le_trans (Nat.mul_le_mul (Nat.le_trans (Nat.min_le_right _ _) hla) hlb) (by omega)
   generalize worthL dd (a.take k) b = L0 at *
   clear hx
   have k8 := Blk.new wr 61 #[.int .i64 x.k, .slice A1 x.r.length c1, .slice A2 x.m.length c2, .slice A3 x.s.length c3]
   have hne : ∀ v, OwnI wr w.heap.size v L0 → v.ownBlock ≠ some wr.heap.size := fun v h e => Nat.lt_irrefl _ (h.lt _ e).2
   have hne := hne _ ho
   have hq := (Below.refl wr.heap.size wr).alloc (Nat.le_refl _) (Obj.cells #[.int .i64 x.k, .slice A1 x.r.length c1, .slice A2 x.m.length c2, .slice A3 x.s.length c3] 61)
   go_upto_region 5 with fail
   replace hB := below_grows hB (Nat.le_refl _) hq
   replace ho := ho.grows hq
   clear hq q0 q1 q2 q3
   generalize World.alloc wr _ = w5 at *
   generalize wr.heap.size = G8 at *
   have hB5 := hB
   clear hB
   go_wp2_with fail
   go_loopw [7, 23] (fun v i wq => ∃ j : Nat, j ≤ b.length ∧ i = .int .i64 j ∧ OwnI wq w.heap.size v (L0 ++ (b.take j).map fun y => worth dd (x, y)) ∧ v.ownBlock ≠ some G8 ∧ Blk wq G8 61 #[.int .i64 x.k, .slice A1 x.r.length c1, .slice A2 x.m.length c2, .slice A3 x.s.length c3] ∧ Below w.heap.size w wq) (fun _ i _ => b.length - (intOf i).toNat)
   case atStart => exact ⟨0, by omega, rfl, by rw [List.take_zero, List.map_nil, List.append_nil]; exact ho, hne, k8, hB5⟩
   case round =>
    clear ho k8 hB5 hne
    obtain ⟨j, hj, rfl, ho, hne, k8, hB⟩ := hrel
    by_cases hjt : j < b.length
    ·obtain ⟨ad2, y, B1, d1, B2, d2, B3, d3, e2, had2, hy, hpy, q0, q1, q2, q3⟩ := hb.elemB hB hjt
     subst e2
     have hoy := HOB.out y (List.mem_of_getElem? hy)
     have HR := Lib.hid (worth_row (d := dd) (x := x) hy)
     have hrl : (L0 ++ (b.take j).map fun y => worth dd (x, y)).length ≤ 5000 := by rw [List.length_append, List.length_map, List.length_take]; omega
     have HW : Hid (worth dd (x, y) = bits .or .i64 (shF x y 4) (bits .andNot .i64 15 dd)) := Lib.hid rfl
     have HN : Hid ((L0 ++ (b.take (j + 1)).map fun y => worth dd (x, y)) = (L0 ++ (b.take j).map fun y => worth dd (x, y)) ++ [worth dd (x, y)]) := Lib.hid (by rw [HR.out, List.append_assoc])
     generalize (L0 ++ (b.take j).map fun y => worth dd (x, y)) = q at *
     clear hy
     have k10 := Blk.new wr 61 #[.int .i64 y.k, .slice B1 y.r.length d1, .slice B2 y.m.length d2, .slice B3 y.s.length d3]
     have hq := (Below.refl wr.heap.size wr).alloc (Nat.le_refl _) (Obj.cells #[.int .i64 y.k, .slice B1 y.r.length d1, .slice B2 y.m.length d2, .slice B3 y.s.length d3] 61)
     go_upto_region 8 with fail
     replace hB := below_grows hB (Nat.le_refl _) hq
     replace ho := ho.grows hq
     replace k8 := k8.grows hq
     clear hq q0 q1 q2 q3
     generalize World.alloc wr _ = w6 at *
     generalize wr.heap.size = G10 at *
     have x8 := k8.cell
     have x10 := k10.cell
     refine wp_region_lit ?_
     iterate 3
      refine wpList_plain rfl (fun K hK => ?_)
      go_simp
      refine hK _ _ ?_
      clear hK K
     refine wpList_plain rfl (fun K hK => ?_)
     go_simp
     refine (shared_any (hpx.grows hB) (hpy.grows hB) hox hoy).mono ?_
     rintro e w7 ⟨rfl, hq⟩
     refine hK _ _ ?_
     clear hK K
     replace hB := below_grows hB (Nat.le_refl _) hq
     replace ho := ho.grows hq
     replace k8 := k8.grows hq
     clear hq x8 x10 k10
     iterate 3
      refine wpList_plain rfl (fun K hK => ?_)
      go_simp
      refine hK _ _ ?_
      clear hK K
     rw [← HW.out]
     generalize worth dd (x, y) = wt at *
     have hr := ints_lits w7 [wt] #[.int .i64 wt] 3 rfl
     have hq := (Below.refl w7.heap.size w7).alloc (Nat.le_refl _) (Obj.cells #[.int .i64 wt] 3)
     iterate 1
      refine wpList_plain rfl (fun K hK => ?_)
      go_simp
      refine hK _ _ ?_
      clear hK K
     have ho1 := ho.grows hq
     replace k8 := k8.grows hq
     have hown3 := ho1.lt
     refine wpList_append_int rfl (.tmp 27) (.tmp 34) rfl (l := q) (m := [wt]) rfl rfl ho1 rfl hr (by simp only [List.length_cons, List.length_nil]; omega) (Nat.le_trans hB.size hq.size) ?_
     intro v5 w12 ho2 hgr hv5
     have hne2 : v5.ownBlock ≠ some G8 := by
      rcases hv5 with e | e
      ·rw [e]; exact hne
      ·rw [e]; intro e2; injection e2 with e2; have := k8.lt; omega
     have hB2 := ho1.below (below_grows hB (Nat.le_refl _) hq) hgr (Nat.le_trans hB.size hq.size)
     replace k8 := k8.grown hgr (fun e => hne e.symm)
     clear hq hgr ho ho1 hB hr hown3
     rw [← HN.out] at ho2
     go_wp2
     go_roundw
     case rel => exact ⟨j + 1, by omega, by go_num, ho2, hne2, k8, hB2⟩
     case measure => simp [intOf]; omega
    ·have HL : Hid (worthL dd (a.take (k + 1)) b = L0 ++ (b.take j).map fun y => worth dd (x, y)) := Lib.hid (by rw [HWS.out, List.take_of_length_le (by omega)])
     rw [← HL.out] at ho
     go_wp2
     go_roundw
     case rel => exact ⟨k + 1, by omega, by go_num, ho, hB⟩
     case measure => simp [intOf]; omega
  ·rw [List.take_of_length_le (by omega)] at ho
   obtain ⟨Ap, cp, rfl, hcp, hip⟩ := ho.read
   have HNG : Hid (ngBlame dd a b = blG (metG dd (pairsL a b)) 14) := Lib.hid rfl
   have HMET := Lib.hid (fun s => worth_any dd a b s)
   have hpl : (worthL dd a b).length ≤ 4096 := by
    rw [worth_len]
    exact Nat.le_trans (Nat.mul_le_mul hla hlb) (by omega)
   generalize worthL dd a b = pl at *
   generalize metG dd (pairsL a b) = f at *
   clear ho
   have kG := Blk.new wr 3 #[.int .i64 1]
   have hq := (Below.refl wr.heap.size wr).alloc (Nat.le_refl _) (Obj.cells #[.int .i64 1] 3)
   go_wp2_with fail
   have hBS := hB
   have hipS := hip
   clear hB hip
   generalize hwS : wr = wS at *
   clear hwS
   go_loopw [12, 13] (fun bv pv wq => ∃ (n G : Nat) (s z : Int), n ≤ 14 ∧ Hid (s = (n : Int) + 1) ∧ pv = .pointer (some ⟨G, 0, none⟩) ∧ bv = .int .i64 z ∧ Hid (blG f n = z) ∧ wS.heap.size ≤ G ∧ Blk wq G 3 #[.int .i64 s] ∧ Grows wS wq) (fun _ p wq => 16 - ptrN wq p)
   case atStart => exact ⟨0, _, 1, 15, by omega, Lib.hid rfl, rfl, rfl, Lib.hid rfl, Nat.le_refl _, kG, hq⟩
   case round =>
    clear kG hq
    obtain ⟨n, G, s, z, hn, HS, rfl, rfl, HZ, hG, kG, hg⟩ := hrel
    have hmu : ptrN wr (.pointer (some ⟨G, 0, none⟩)) = s.toNat := ptrN_blk kG
    have HMU := Lib.hid hmu
    clear hmu
    have hsb : s = (n : Int) + 1 := HS.out
    have hs1 : 1 ≤ s := by omega
    have hzb := blG_bd f n hn
    rw [HZ.out] at hzb
    have HST : Hid (blG f (n + 1) = if (decide (ones s < ones z) && !f s) = true then s else z) := Lib.hid (by rw [hsb, ← HZ.out]; rfl)
    by_cases hlt : n < 14
    ·have hs14 : s ≤ 14 := by omega
     have HN1 : Hid (s + 1 = ((n + 1 : Nat) : Int) + 1) := Lib.hid (by omega)
     clear hsb
     have d3 : decide (s < 15) = true := by simp only [decide_eq_true_eq]; omega
     have u1 : IntKind.u64.wrap s = s := IntWalk.u64_in _ (by omega)
     have u2 : IntKind.u64.wrap z = z := IntWalk.u64_in _ (by omega)
     have hws : IntKind.i64.wrap (s + 1) = s + 1 := IntWalk.i64_in _ (by omega)
     have xG := kG.cell
     go_wp2_with fail
     have hcon := cont_bl G Ap cp pl s _ kG rfl (hipS.grows hg) (by omega)
     rw [HMET.out s] at hcon
     clear xG
     refine hcon.mono ?_
     rintro e w5 ⟨rfl, hq⟩
     replace hg := below_grows hg (Nat.le_refl _) hq
     replace kG := kG.grows hq
     clear hq hcon
     cases hv : f s
     ·have hstep : Hid (blG f (n + 1) = if ones s < ones z then s else z) := Lib.hid (by
       rw [HST.out, hv]
       by_cases h1 : ones s < ones z
       ·rw [if_pos h1, decide_eq_true h1]; rfl
       ·rw [if_neg h1, decide_eq_false h1]; rfl)
      clear hv HST
      have xG := kG.cell
      go_wp2_with fail
      refine (ones_any s _ (by omega) (by omega)).mono ?_
      rintro e w6 ⟨rfl, hq⟩
      replace hg := below_grows hg (Nat.le_refl _) hq
      replace kG := kG.grows hq
      clear hq xG
      go_wp2_with fail
      refine (ones_any z _ (by omega) (by omega)).mono ?_
      rintro e w7 ⟨rfl, hq⟩
      replace hg := below_grows hg (Nat.le_refl _) hq
      replace kG := kG.grows hq
      clear hq
      by_cases h1 : ones s < ones z
      ·have d4 : decide (ones s < ones z) = true := by simpa using h1
       have HZ2 : Hid (blG f (n + 1) = s) := Lib.hid (by rw [hstep.out, if_pos h1])
       clear h1
       have xG := kG.cell
       have lG := hg.size
       have kN := Blk.new w7 3 #[.int .i64 s]
       have hq := (Below.refl w7.heap.size w7).alloc (Nat.le_refl _) (Obj.cells #[.int .i64 s] 3)
       go_upto_region 14 with fail
       replace hg := below_grows hg (Nat.le_refl _) hq
       clear hq xG kG
       generalize World.alloc w7 _ = w8 at *
       generalize w7.heap.size = G2 at *
       have xN := kN.cell
       have fN := kN.frozen
       have kN2 := kN.set_ 0 (.int .i64 (s + 1))
       have hg2 := hg.setCell (p := ⟨G2, 0, none⟩) lG (.int .i64 (s + 1))
       clear hg kN
       go_wp2
       go_roundw
       case rel => exact ⟨n + 1, G2, s + 1, s, by omega, HN1, rfl, rfl, HZ2, lG, kN2, hg2⟩
       case measure => exact ptr_less (HMU.out) (ptrN_blk kN2) hs1 hs14
      ·have d4 : decide (ones s < ones z) = false := by simpa using h1
       have HZ2 : Hid (blG f (n + 1) = z) := Lib.hid (by rw [hstep.out, if_neg h1])
       clear h1
       have xG := kG.cell
       have lG := hg.size
       have kN := Blk.new w7 3 #[.int .i64 s]
       have hq := (Below.refl w7.heap.size w7).alloc (Nat.le_refl _) (Obj.cells #[.int .i64 s] 3)
       go_upto_region 14 with fail
       replace hg := below_grows hg (Nat.le_refl _) hq
       clear hq xG kG
       generalize World.alloc w7 _ = w8 at *
       generalize w7.heap.size = G2 at *
       have xN := kN.cell
       have fN := kN.frozen
       have kN2 := kN.set_ 0 (.int .i64 (s + 1))
       have hg2 := hg.setCell (p := ⟨G2, 0, none⟩) lG (.int .i64 (s + 1))
       clear hg kN
       go_wp2
       go_roundw
       case rel => exact ⟨n + 1, G2, s + 1, z, by omega, HN1, rfl, rfl, HZ2, lG, kN2, hg2⟩
       case measure => exact ptr_less (HMU.out) (ptrN_blk kN2) hs1 hs14
     ·have HZ2 : Hid (blG f (n + 1) = z) := Lib.hid (by rw [HST.out, hv, Bool.not_true, Bool.and_false, if_neg (by simp)])
      clear hv HST
      have xG := kG.cell
      have lG := hg.size
      have kN := Blk.new w5 3 #[.int .i64 s]
      have hq := (Below.refl w5.heap.size w5).alloc (Nat.le_refl _) (Obj.cells #[.int .i64 s] 3)
      go_upto_region 14 with fail
      replace hg := below_grows hg (Nat.le_refl _) hq
      clear hq xG kG
      generalize World.alloc w5 _ = w8 at *
      generalize w5.heap.size = G2 at *
      have xN := kN.cell
      have fN := kN.frozen
      have kN2 := kN.set_ 0 (.int .i64 (s + 1))
      have hg2 := hg.setCell (p := ⟨G2, 0, none⟩) lG (.int .i64 (s + 1))
      clear hg kN
      go_wp2
      go_roundw
      case rel => exact ⟨n + 1, G2, s + 1, z, by omega, HN1, rfl, rfl, HZ2, lG, kN2, hg2⟩
      case measure => exact ptr_less (HMU.out) (ptrN_blk kN2) hs1 hs14
    ·obtain rfl : n = 14 := by omega
     have hs15 : s = 15 := by omega
     subst hs15
     have HE : Hid (ngBlame dd a b = z) := Lib.hid (HNG.out.trans HZ.out)
     have xG := kG.cell
     have hB := below_grows hBS (Nat.le_refl _) hg
     go_wp2
     go_ret
     exact ⟨ret_int HE.out.symm, hB⟩
end Go.Proofs.YtjbkjgmcfommgaaGreat

namespace Go.Proofs.YtjbkjgmcfommgaaGreat
open Go.RowKit
set_option maxRecDepth 100000 in
theorem lb_info : ∃ i : TypeInfo, Tryz.prog.info? 45 = some i ∧ i.size = 1 ∧ i.bytes = 24 ∧ i.zero = some (.slice none 0 0) ∧ (Value.slice none 0 0).cells.size = 1 := ⟨_, by first | exact Tryz.info45 | rfl, rfl, rfl, rfl, rfl⟩
theorem Bxs.aq {w w' : World} {ok : Nat → Prop} {v v' : Value} {B : Option Addr} {x : List Bx} (h : Bxs w (Aq ok v) B x) (hg : w.grownBy w' v.ownBlock) (hv : v'.ownBlock = v.ownBlock ∨ v'.ownBlock = some w.heap.size) : Bxs w' (Aq ok v') B x :=
 (h.bd.grown hg (fun g e hh => hh.1.2 e)).mono (fun k hk => ⟨hk.1.1, fun e => by
   rcases hv with e2 | e2
   ·exact hk.1.2 (e2 ▸ e)
   ·rw [e2] at e
    injection e with e
    have := hk.2
    omega⟩)
/-- A row of slices of boxes of one's own, apart from what its members take. -/
def OwnLq (w : World) (base : Nat) (ok : Nat → Prop) (v : Value) (ls : List (List Bx)) : Prop :=
 ∃ vs, w.ownsRow base 45 1 v ls.length vs ∧ ∀ (i : Nat) (x : List Bx), ls[i]? = some x → ∃ B c, vs[i]? = some (.slice B x.length c) ∧ x.length ≤ c ∧ Bxs w (Aq ok v) B x
section
variable {w w' : World} {base : Nat} {ok : Nat → Prop} {v : Value} {ls : List (List Bx)}
theorem OwnLq.nil : OwnLq w base ok (.slice none 0 0) [] := ⟨[], World.ownsRow_nil w base _ 1, fun i x h => by simp at h⟩
theorem OwnLq.grows (h : OwnLq w base ok v ls) (hg : Grows w w') : OwnLq w' base ok v ls := by
 obtain ⟨vs, h1, h2⟩ := h
 exact ⟨vs, own_grows h1 hg, fun i x hx => by obtain ⟨B, c, e, hc, hi⟩ := h2 i x hx; exact ⟨B, c, e, hc, hi.grows hg⟩⟩
theorem OwnLq.lt (h : OwnLq w base ok v ls) : ∀ q, v.ownBlock = some q → base ≤ q ∧ q < w.heap.size := by
 obtain ⟨vs, h1, -⟩ := h
 exact World.ownsRow.lt h1
/-- A row of lists, read: its header, its elements. -/
theorem OwnLq.read (h : OwnLq w base ok v ls) : ∃ A c, v = .slice A ls.length c ∧ ls.length ≤ c ∧ ∃ vs, Reads w w.heap.size 1 A ls.length vs ∧ ∀ (i : Nat) (x : List Bx), ls[i]? = some x → ∃ B c, vs[i]? = some (.slice B x.length c) ∧ x.length ≤ c ∧ Bxs w (Aq ok v) B x := by
 obtain ⟨vs, h1, h2⟩ := h
 rcases h1.2 with ⟨rfl, hn⟩ | ⟨q, cap, cur, rfl, hbq, hg, hnc, hm, hs, ht⟩
 ·have e := List.eq_nil_of_length_eq_zero hn
  subst e
  exact ⟨none, 0, rfl, Nat.le_refl _, [], Reads.none_, fun i x h => by simp at h⟩
 ·exact ⟨_, cap, rfl, hnc, vs, Reads.of_own h1, h2⟩
end
theorem wpList_append_lq {ops : Array Oper} {rest : List Oper} {o : Oper} {a : Act} {w : World} {Q : Exit → Act → World → Prop} (hgd : o.guard = none) (s x : Operand) (ho : o.op = .call { callee := .builtin .append, args := #[s, x], argTypes := #[30, 30] })
 {base : Nat} {ok : Nat → Prop} {v : Value} {ls : List (List Bx)} {m : List Bx} {A B : Option Addr} {c cm : Nat} (hs : a.eval s = v) (hown : OwnLq w base ok v ls) (hx : a.eval x = .slice A 1 c) (hr : Reads w w.heap.size 1 A 1 [.slice B m.length cm]) (hlen : ls.length + 1 ≤ 1000000) (hbase : base ≤ w.heap.size)
 (hm : Bxs w (Aq ok v) B m) (hcm : m.length ≤ cm)
 (h : ∀ v' w', OwnLq w' base ok v' (ls ++ [m]) → w.grownBy w' v.ownBlock → (v'.ownBlock = v.ownBlock ∨ v'.ownBlock = some w.heap.size) → wpList Tryz.prog ops Q rest (a.put o.dst v') w') : wpList Tryz.prog ops Q (o :: rest) a w := by
 obtain ⟨i0, hi0, hi1, hi2, hi3, hi4⟩ := lb_info
 obtain ⟨vs, h1, h2⟩ := hown
 refine wpList_append_any w hgd s x 30 ho base 45 i0 _ 1 24 Tryz.underlying30 hi0 hi3 hi1 hi2 hi4 (by omega) v ls.length vs hs h1 w.heap.size A 1 c [.slice B m.length cm] hx hr (by intro u hu; simp only [List.mem_singleton] at hu; subst hu; rfl) (by simp only [maxLen]; omega) (by omega) hbase fun v' w' h3 h4 h5 => h v' w' ⟨vs ++ [.slice B m.length cm], by rw [List.length_append]; exact h3, fun i y hy => ?_⟩ h4 h5
 have hvl : vs.length = ls.length := by have := h1.1; omega
 by_cases hi : i < ls.length
 ·rw [List.getElem?_append_left hi] at hy
  obtain ⟨C, cy, e, hc, hi6⟩ := h2 i y hy
  exact ⟨C, cy, by rw [List.getElem?_append_left (by omega)]; exact e, hc, hi6.aq h4 h5⟩
 ·rw [List.getElem?_append_right (by omega)] at hy
  have hi0 : i - ls.length = 0 := by
   have := (List.getElem?_eq_some_iff.1 hy).1
   simp only [List.length_singleton] at this
   omega
  rw [hi0] at hy
  simp only [List.getElem?_cons_zero, Option.some.injEq] at hy
  subst hy
  exact ⟨B, cm, by rw [List.getElem?_append_right (by omega), show i - vs.length = 0 by omega]; rfl, hcm, hm.aq h4 h5⟩
end Go.Proofs.YtjbkjgmcfommgaaGreat

namespace Go.Proofs.YtjbkjgmcfommgaaGreat
open Go.RowKit
theorem one_fin : ∀ k : Fin 8, 1 ≤ k.val → kindsOk (2 ^ k.val : Int) = true ∧ I64 (2 ^ k.val : Int) ∧ ∀ j : Fin 8, kindB (2 ^ k.val : Int) (j.val : Int) = decide (j.val = k.val) := by
  unfold I64
  decide +kernel
theorem one_kind {k : Int} (h1 : 1 ≤ k) (h7 : k ≤ 7) : kindsOk (2 ^ k.toNat : Int) = true ∧ I64 (2 ^ k.toNat : Int) ∧ ∀ j, kindB (2 ^ k.toNat : Int) j = decide (j = k) := by
  obtain ⟨n, rfl⟩ : ∃ n : Nat, k = (n : Int) := ⟨k.toNat, by omega⟩
  obtain ⟨a1, a2, a3⟩ := one_fin ⟨n, by omega⟩ (by show 1 ≤ n; omega)
  refine ⟨a1, a2, fun j => ?_⟩
  by_cases hj : 1 ≤ j ∧ j ≤ 7
  · obtain ⟨i, rfl⟩ : ∃ i : Nat, j = (i : Int) := ⟨j.toNat, by omega⟩
    have := a3 ⟨i, by omega⟩
    refine this.trans ?_
    rw [Bool.eq_iff_iff, decide_eq_true_eq, decide_eq_true_eq]
    show i = n ↔ (i : Int) = (n : Int)
    omega
  · rw [kind_out hj, decide_eq_false (by omega)]
theorem fl_single (c : Ch) : FL (singleF c) ∧ Small (singleF c) ∧ (singleF c).length ≤ 1 := by
  unfold singleF
  split
  · rename_i h
    refine ⟨⟨fun b hb => ?_, by simp⟩, fun b hb => ?_, by simp⟩
    · simp only [List.mem_singleton] at hb
      subst hb
      exact ⟨h.2.2, (one_kind h.1 h.2.1).2.1⟩
    · simp only [List.mem_singleton] at hb
      subst hb
      exact ⟨by simp [oneB], by simp [oneB]⟩
  · exact ⟨⟨fun b hb => (by cases hb), by simp⟩, fun b hb => (by cases hb), by simp⟩
end Go.Proofs.YtjbkjgmcfommgaaGreat


namespace Go.Proofs.YtjbkjgmcfommgaaGreat
open Go.RowKit
/-- One step back: of the program, of the reference. -/
def backP (d : Int) (s : List Bx) (c : Ch) : Ch := (bestL (topP c) c (productF d s (singleF c)).1).1
/-- The choices from the last port back to port n - m. -/
def chUp (l : List Pt) (s : List (List Bx)) (want : Ch) (n : Nat) : Nat → Ch
 | 0 => (bestL (topP want) want (s.getD n [])).1
 | m + 1 => backP (keptD (l.getD (n - (m + 1)) noPt)) (s.getD (n - (m + 1)) []) (chUp l s want n m)
/-- Whether choices fit a chain. -/
def fitsF (l : List Pt) (c : List Ch) : Bool := validC l && decide (c.length = l.length) && (List.range l.length).all fun i => hasL (l.getD i noPt).b (c.getD i zeroC) && (decide (i = 0) || agD (keptD (l.getD (i - 1) noPt)) (c.getD (i - 1) zeroC) (c.getD i zeroC))
end Go.Proofs.YtjbkjgmcfommgaaGreat

namespace Go.Proofs.YtjbkjgmcfommgaaGreat
open Go.RowKit
theorem rch_prev {l : List Pt} {k : Nat} : ∀ n, k ≤ n → (∃ c, Rch l n c) → ∃ c, Rch l k c := by
 intro n
 induction n with
 | zero =>
  intro h hc
  obtain rfl : k = 0 := by omega
  exact hc
 | succ n ih =>
  intro h hc
  rcases Nat.eq_or_lt_of_le h with rfl | h
  ·exact hc
  ·obtain ⟨c, -, e, he, -⟩ := hc
   exact ih (by omega) ⟨e, he⟩
/-- Without a limit, a chain is met exactly if something is reached at its end. -/
theorem fw_ok {l : List Pt} (hv : ∀ p ∈ l, portOk p = true) (hk : ∀ p ∈ l, ∀ b ∈ p.b, I64 b.k) {n : Nat} (hn : n + 1 ≤ l.length) (hl : (fwUp l (n + 1)).2.2 ≠ 3) : ((fwUp l (n + 1)).2.2 = 0 ↔ ∃ c, Rch l n c) ∧ ((fwUp l (n + 1)).2.2 = 0 ∨ (fwUp l (n + 1)).2.2 = 13) := by
 rcases fw_is hv hk (n + 1) hn with ⟨h1, h2, h3⟩ | h1 | ⟨k, d, h1, h2, h3, h4⟩
 ·obtain ⟨g1, g2, g3⟩ := h3 n (by omega)
  have e : (fwUp l (n + 1)).2.2 = 0 := by rw [h1]
  refine ⟨⟨fun _ => ?_, fun _ => e⟩, .inl e⟩
  obtain ⟨c, hc⟩ := (fl_has g1).2 g2
  exact ⟨c, (g3 c).1 hc⟩
 ·rw [h1] at hl
  exact absurd rfl hl
 ·have e : (fwUp l (n + 1)).2.2 = 13 := by rw [h2]
  refine ⟨⟨fun h => (by rw [e] at h; cases h), fun h => ?_⟩, .inr e⟩
  obtain ⟨c, hc⟩ := rch_prev (k := k) n (by omega) h
  exact absurd hc (h4 c)
/-- What the makers of chains make. -/
def MadeP (l : List Pt) : Prop := 1 ≤ l.length ∧ l.length ≤ 5 ∧ ∀ p ∈ l, Fine p.b ∧ 1 ≤ p.b.length ∧ p.b.length ≤ 2 ∧ 0 ≤ p.v ∧ p.v ≤ 15
theorem MadeP.ok {l : List Pt} (h : MadeP l) : ∀ p ∈ l, portOk p = true := by
 intro p hp
 obtain ⟨h1, h2, h3, h4, h5⟩ := h.2.2 p hp
 unfold portOk validL
 simp only [Bool.and_eq_true, decide_eq_true_eq, List.all_eq_true]
 exact ⟨⟨⟨by omega, by omega, fun b hb => (h1 b hb).1⟩, h4⟩, h5⟩
theorem MadeP.k {l : List Pt} (h : MadeP l) : ∀ p ∈ l, ∀ b ∈ p.b, I64 b.k := fun p hp b hb => ((h.2.2 p hp).1 b hb).2.2.1
theorem MadeP.valid {l : List Pt} (h : MadeP l) : validC l = true := by
 unfold validC
 simp only [Bool.and_eq_true, decide_eq_true_eq, List.all_eq_true]
 exact ⟨⟨h.ok, h.1⟩, by have := h.2.1; omega⟩
def SzL (k : Nat) (a : List Bx) : Prop := ∀ b ∈ a, b.r.length ≤ k ∧ b.s.length ≤ k
theorem sz_cand {d : Int} {a b : List Bx} {k m : Nat} (ha : FL a) (hb : FL b) (sa : SzL k a) (sb : SzL m b) : SzL (k + m) (candL d (pairsL a b)) := by
 intro z hz
 obtain ⟨x, hx, y, hy, rfl, -⟩ := mem_cand.1 hz
 have fx := ha.1 x hx
 have fy := hb.1 y hy
 obtain ⟨x1, x2⟩ := sa x hx
 obtain ⟨y1, y2⟩ := sb y hy
 constructor
 ·show (if bitZ d 2 = true then interF (spansF x.r) (spansF y.r) else x.r).length ≤ k + m
  split
  ·rw [fx.sr, fy.sr]
   have := (inter_form _ _ (ok_canon fx.r) (ok_canon fy.r)).2.1
   omega
  ·omega
 ·show (if bitZ d 8 = true then interF (spansF x.s) (spansF y.s) else x.s).length ≤ k + m
  split
  ·rw [fx.ss, fy.ss]
   have := (inter_form _ _ (ok_canon fx.s) (ok_canon fy.s)).2.1
   omega
  ·omega
/-- Small chains reach no limit. W: how many boxes a port has at most. -/
theorem fw_small {l : List Pt} (hv : ∀ p ∈ l, portOk p = true) (hk : ∀ p ∈ l, ∀ b ∈ p.b, I64 b.k) (hs : ∀ p ∈ l, SzL 5 p.b ∧ p.b.length ≤ 2) : ∀ n, n ≤ l.length → n ≤ 5 →
 (fwUp l n).2.2 ≠ 3 ∧ ((fwUp l n).2.2 = 0 → (fwUp l n).1.length = n ∧ ∀ i, i < n → FL ((fwUp l n).1.getD i []) ∧ SzL (5 * (i + 1)) ((fwUp l n).1.getD i []) ∧ ((fwUp l n).1.getD i []).length ≤ 2 ^ (i + 1)) := by
 intro n
 induction n with
 | zero => exact fun _ _ => ⟨(show (0 : Int) ≠ 3 by decide), fun _ => ⟨rfl, fun i hi => absurd hi (by omega)⟩⟩
 | succ n ih =>
  intro hn h5
  obtain ⟨p, hp⟩ : ∃ p, l[n]? = some p := ⟨_, List.getElem?_eq_getElem (by omega)⟩
  have hpm := List.mem_of_getElem? hp
  have hfp := fl_port (hv p hpm) (hk p hpm)
  obtain ⟨s1, s2⟩ := hs p hpm
  obtain ⟨i1, i2⟩ := ih (by omega) (by omega)
  by_cases h0 : (fwUp l n).2.2 = 0
  ·obtain ⟨i3, i4⟩ := i2 h0
   have e := fw_next hp h0
   generalize hs : fwUp l n = s at *
   by_cases hb : p.b.length = 0
   ·have e2 : fwUp l (n + 1) = ([], ((n : Int), 15), 13) := by rw [e]; unfold fwStep; rw [if_pos hb]
    rw [e2]
    exact ⟨(show (13 : Int) ≠ 3 by decide), fun h => absurd h (show ¬ (13 : Int) = 0 by decide)⟩
   ·cases n with
    | zero =>
     have es : s = ([], (0, 0), 0) := hs.symm
     have e2 : fwUp l (0 + 1) = ([(reduceF p.b).1], (0, 0), 0) := by
      rw [e]
      unfold fwStep
      rw [if_neg hb, if_pos rfl, es]
      rfl
     have er : reduceF p.b = (reduceL p.b, 0) := if_pos hfp.valid
     rw [e2, er]
     refine ⟨(show (0 : Int) ≠ 3 by decide), fun _ => ⟨rfl, fun i hi => ?_⟩⟩
     obtain rfl : i = 0 := by omega
     have := reduce_len p.b
     exact ⟨hfp.reduce, fun b hb => s1 b (reduce_mem b hb), by show (reduceL p.b).length ≤ 2; omega⟩
    | succ m =>
     obtain ⟨g1, g2, g3⟩ := i4 m (by omega)
     have hpw : (2 : Nat) ^ (m + 1) ≤ 16 := by
      have : (2 : Nat) ^ (m + 1) ≤ 2 ^ 4 := Nat.pow_le_pow_right (by omega) (by omega)
      simpa using this
     have hmul : p.b.length * (s.1.getD m []).length ≤ 2 * 2 ^ (m + 1) := Nat.mul_le_mul s2 g3
     have hq : prodF (keptD (l.getD m noPt)) p.b (s.1.getD m []) = some (candL (keptD (l.getD m noPt)) (pairsL p.b (s.1.getD m []))) := by
      refine small_prod hfp g1 (fun b hb => ?_) (fun b hb => ?_) (by omega)
      ·have := s1 b hb
       omega
      ·have := g2 b hb
       omega
     have hcl := cand_len (keptD (l.getD m noPt)) p.b (s.1.getD m [])
     have hsz := sz_cand (d := keptD (l.getD m noPt)) hfp g1 s1 g2
     have hf := prod_fine hfp g1 hq
     have hpr : productF (keptD (l.getD m noPt)) p.b (s.1.getD m []) = (reduceL (candL (keptD (l.getD m noPt)) (pairsL p.b (s.1.getD m []))), 0) := by
      unfold productF
      rw [hq]
      exact if_pos hf.valid
     have es : fwUp l (m + 1 + 1) = if (productF (keptD (l.getD m noPt)) p.b (s.1.getD m [])).2 ≠ 0 then ([], (0, 0), (productF (keptD (l.getD m noPt)) p.b (s.1.getD m [])).2)
      else if (productF (keptD (l.getD m noPt)) p.b (s.1.getD m [])).1.length = 0 then ([], (((m + 1 : Nat) : Int), apartD (keptD (l.getD m noPt)) p.b (s.1.getD m [])), 13)
      else (s.1 ++ [(productF (keptD (l.getD m noPt)) p.b (s.1.getD m [])).1], (0, 0), 0) := by
      rw [e]
      unfold fwStep
      rw [if_neg hb, if_neg (by omega)]
      rfl
     rw [hpr, if_neg (by simp)] at es
     generalize candL (keptD (l.getD m noPt)) (pairsL p.b (s.1.getD m [])) = C at *
     by_cases hc : (reduceL C).length = 0
     ·have es := es.trans (if_pos hc)
      rw [es]
      exact ⟨(show (13 : Int) ≠ 3 by decide), fun h => absurd h (show ¬ (13 : Int) = 0 by decide)⟩
     ·have es := es.trans (if_neg hc)
      rw [es]
      refine ⟨(show (0 : Int) ≠ 3 by decide), fun _ => ⟨by show (s.1 ++ [reduceL C]).length = _; rw [List.length_append, i3]; rfl, fun i hi => ?_⟩⟩
      show FL ((s.1 ++ [reduceL C]).getD i []) ∧ SzL (5 * (i + 1)) ((s.1 ++ [reduceL C]).getD i []) ∧ ((s.1 ++ [reduceL C]).getD i []).length ≤ 2 ^ (i + 1)
      by_cases him : i = m + 1
      ·subst him
       have eg : (s.1 ++ [reduceL C]).getD (m + 1) [] = reduceL C := by
        rw [List.getD_eq_getElem?_getD, List.getElem?_append_right (by omega), i3, Nat.sub_self]
        rfl
       rw [eg]
       have hrl := reduce_len C
       have hp2 : (2 : Nat) ^ (m + 1 + 1) = 2 * 2 ^ (m + 1) := by rw [Nat.pow_succ, Nat.mul_comm]
       exact ⟨hf.reduce, fun b hb => by have := hsz b (reduce_mem b hb); omega, by omega⟩
      ·have eg : (s.1 ++ [reduceL C]).getD i [] = s.1.getD i [] := by
        rw [List.getD_eq_getElem?_getD, List.getElem?_append_left (by omega), ← List.getD_eq_getElem?_getD]
       rw [eg]
       exact i4 i (by omega)
  ·rw [fw_stop h0 (n + 1) (by omega)]
   exact ⟨i1, fun h => absurd h h0⟩
theorem MadeP.small {l : List Pt} (h : MadeP l) {n : Nat} (hn : n ≤ l.length) : (fwUp l n).2.2 ≠ 3 :=
 (fw_small h.ok h.k (fun p hp => ⟨fun b hb => by have := ((h.2.2 p hp).1 b hb).2.2.2; unfold Few at this; omega, (h.2.2 p hp).2.2.1⟩) n hn (by have := h.2.1; omega)).1
/-- Whether something is in common depends on the choices alone. -/
theorem met_has {d : Int} {a b : List Bx} (ha : FL a) (hb : FL b) : metD d a b = true ↔ ∃ c e, hasL a c = true ∧ hasL b e = true ∧ agD d e c = true := by
 constructor
 ·intro h
  obtain ⟨x, hx, h⟩ := List.any_eq_true.1 h
  obtain ⟨y, hy, h⟩ := List.any_eq_true.1 h
  obtain ⟨c, c1, c2⟩ := some_has (ha.1 x hx) (hb.1 y hy) h
  obtain ⟨e, e1, e2⟩ := (inD_iff (hb.1 y hy)).1 c2
  exact ⟨c, e, (ha.has c).2 ⟨x, hx, c1⟩, (hb.has e).2 ⟨y, hy, e1⟩, e2⟩
 ·rintro ⟨c, e, h1, h2, h3⟩
  obtain ⟨x, hx, c1⟩ := (ha.has c).1 h1
  obtain ⟨y, hy, e1⟩ := (hb.has e).1 h2
  exact List.any_eq_true.2 ⟨x, hx, List.any_eq_true.2 ⟨y, hy, dims_some (ha.1 x hx) (hb.1 y hy) c1 ((inD_iff (hb.1 y hy)).2 ⟨e, e1, h3⟩)⟩⟩
end Go.Proofs.YtjbkjgmcfommgaaGreat

namespace Go.Proofs.YtjbkjgmcfommgaaGreat
open Go.RowKit
end Go.Proofs.YtjbkjgmcfommgaaGreat

namespace Go.Proofs.YtjbkjgmcfommgaaGreat
open Go.RowKit
theorem fw_ex {l : List Pt} (hv : ∀ p ∈ l, portOk p = true) (hk : ∀ p ∈ l, ∀ b ∈ p.b, I64 b.k) {n k : Nat} (hn : n ≤ l.length) (h0 : (fwUp l n).2.2 = 0) (hkn : k < n) : FL ((fwUp l n).1.getD k []) ∧ (fwUp l n).1.getD k [] ≠ [] ∧ (∀ c, hasL ((fwUp l n).1.getD k []) c = true ↔ Rch l k c) ∧ (∃ c, Rch l k c) ∧ (fwUp l n).1.length = n ∧ (fwUp l n).2 = ((0, 0), 0) := by
 rcases fw_is hv hk n hn with ⟨h1, h2, h3⟩ | h1 | ⟨_, _, _, h2, -, -⟩
 ·obtain ⟨g1, g2, g3⟩ := h3 k hkn
  obtain ⟨c, hc⟩ := (fl_has g1).2 g2
  exact ⟨g1, g2, g3, ⟨c, (g3 c).1 hc⟩, h2, h1⟩
 ·rw [h1] at h0
  exact absurd h0 (show ¬ (3 : Int) = 0 by decide)
 ·rw [h2] at h0
  exact absurd h0 (show ¬ (13 : Int) = 0 by decide)
end Go.Proofs.YtjbkjgmcfommgaaGreat

namespace Go.Proofs.YtjbkjgmcfommgaaGreat
open Go.RowKit
/-- What Forward gives behind a step. -/
theorem fw_at {l : List Pt} {k : Nat} {p : Pt} {ls : List (List Bx)} (hp : l[k]? = some p) (h : fwUp l k = (ls, (0, 0), 0)) : fwUp l (k + 1) = fwStep l k p (ls, (0, 0), 0) := by
 rw [fw_next hp (by rw [h]), h]
theorem fw_end {l : List Pt} (hv : validC l = true) {k : Nat} (hk : k + 1 ≤ l.length) (h : (fwUp l (k + 1)).2.2 ≠ 0) : forwardF l = fwUp l (k + 1) := by
 unfold forwardF
 rw [if_pos hv, fw_stop h l.length hk]
theorem valid_ports {l : List Pt} (hv : validC l = true) : (∀ p ∈ l, portOk p = true) ∧ 1 ≤ l.length ∧ l.length ≤ 16 := by
 unfold validC at hv
 simp only [Bool.and_eq_true, decide_eq_true_eq, List.all_eq_true] at hv
 exact ⟨hv.1.1, hv.1.2, hv.2⟩
theorem fw_none {l : List Pt} {k : Nat} {p : Pt} {ls : List (List Bx)} (hv : validC l = true) (hp : l[k]? = some p) (h : fwUp l k = (ls, (0, 0), 0)) (h0 : p.b.length = 0) : forwardF l = ([], ((k : Int), 15), 13) := by
 have e : fwUp l (k + 1) = ([], ((k : Int), 15), 13) := by rw [fw_at hp h]; unfold fwStep; rw [if_pos h0]
 rw [fw_end (k := k) hv (by have := (List.getElem?_eq_some_iff.1 hp).1; omega) (by rw [e]; exact (show ¬ (13 : Int) = 0 by decide)), e]
theorem fw_first {l : List Pt} {p : Pt} {ls : List (List Bx)} (hp : l[0]? = some p) (h : fwUp l 0 = (ls, (0, 0), 0)) (h0 : p.b.length ≠ 0) : fwUp l 1 = (ls ++ [(reduceF p.b).1], (0, 0), 0) := by
 rw [fw_at hp h]
 unfold fwStep
 rw [if_neg h0, if_pos rfl]
/-- What the product is of, at a later port. -/
def prodAt (l : List Pt) (k : Nat) (p : Pt) (ls : List (List Bx)) : List Bx × Int := productF (keptD (l.getD (k - 1) noPt)) p.b (ls.getD (k - 1) [])
theorem fw_lim {l : List Pt} {k : Nat} {p : Pt} {ls : List (List Bx)} (hv : validC l = true) (hp : l[k]? = some p) (h : fwUp l k = (ls, (0, 0), 0)) (h0 : p.b.length ≠ 0) (hk : k ≠ 0) (he : (prodAt l k p ls).2 ≠ 0) : forwardF l = ([], (0, 0), (prodAt l k p ls).2) := by
 have e : fwUp l (k + 1) = ([], (0, 0), (prodAt l k p ls).2) := by
  rw [fw_at hp h]
  unfold fwStep
  rw [if_neg h0, if_neg hk]
  exact if_pos he
 rw [fw_end (k := k) hv (by have := (List.getElem?_eq_some_iff.1 hp).1; omega) (by rw [e]; exact he), e]
theorem fw_refuse {l : List Pt} {k : Nat} {p : Pt} {ls : List (List Bx)} (hv : validC l = true) (hp : l[k]? = some p) (h : fwUp l k = (ls, (0, 0), 0)) (h0 : p.b.length ≠ 0) (hk : k ≠ 0) (he : (prodAt l k p ls).2 = 0) (h2 : (prodAt l k p ls).1.length = 0) : forwardF l = ([], ((k : Int), apartD (keptD (l.getD (k - 1) noPt)) p.b (ls.getD (k - 1) [])), 13) := by
 have e : fwUp l (k + 1) = ([], ((k : Int), apartD (keptD (l.getD (k - 1) noPt)) p.b (ls.getD (k - 1) [])), 13) := by
  rw [fw_at hp h]
  unfold fwStep
  rw [if_neg h0, if_neg hk]
  exact (if_neg (fun hh => hh he)).trans (if_pos h2)
 rw [fw_end (k := k) hv (by have := (List.getElem?_eq_some_iff.1 hp).1; omega) (by rw [e]; exact (show ¬ (13 : Int) = 0 by decide)), e]
theorem fw_more {l : List Pt} {k : Nat} {p : Pt} {ls : List (List Bx)} (hp : l[k]? = some p) (h : fwUp l k = (ls, (0, 0), 0)) (h0 : p.b.length ≠ 0) (hk : k ≠ 0) (he : (prodAt l k p ls).2 = 0) (h2 : (prodAt l k p ls).1.length ≠ 0) : fwUp l (k + 1) = (ls ++ [(prodAt l k p ls).1], (0, 0), 0) := by
 rw [fw_at hp h]
 unfold fwStep
 rw [if_neg h0, if_neg hk]
 exact (if_neg (fun hh => hh he)).trans (if_neg h2)
theorem fw_whole {l : List Pt} {ls : List (List Bx)} (hv : validC l = true) (h : fwUp l l.length = (ls, (0, 0), 0)) : forwardF l = (ls, (0, 0), 0) := by
 unfold forwardF
 rw [if_pos hv, h]
theorem fw_bad {l : List Pt} (hv : validC l = false) : forwardF l = ([], (0, 0), 1) := by
 unfold forwardF
 rw [if_neg (by rw [hv]; simp)]
theorem port_fl {l : List Pt} (hv : validC l = true) {k : Nat} {p : Pt} (hp : l[k]? = some p) (hk : ∀ b ∈ p.b, I64 b.k) : FL p.b ∧ 0 ≤ p.v ∧ p.v ≤ 15 ∧ p.b.length ≤ 8 := by
 have h := (valid_ports hv).1 p (List.mem_of_getElem? hp)
 have hf := fl_port h hk
 unfold portOk at h
 simp only [Bool.and_eq_true, decide_eq_true_eq] at h
 exact ⟨hf, h.1.2, h.2, h.1.1.1⟩
theorem fw_prev {l : List Pt} {k : Nat} {ls : List (List Bx)} {x : List Bx} {p : Pt} (hv : validC l = true) (hk : ∀ p ∈ l, ∀ b ∈ p.b, I64 b.k) (hkl : k ≤ l.length) (hk0 : k ≠ 0) (h : fwUp l k = (ls, (0, 0), 0)) (hx : ls[k - 1]? = some x) (hp : l[k - 1]? = some p) : FL x ∧ x ≠ [] ∧ ls.getD (k - 1) [] = x ∧ keptD (l.getD (k - 1) noPt) = bits .andNot .i64 15 p.v ∧ ∃ d : Fin 16, bits .andNot .i64 15 p.v = (d.val : Int) := by
 obtain ⟨h1, h2, -, -, -, -⟩ := fw_ex (valid_ports hv).1 hk hkl (k := k - 1) (by rw [h]) (by omega)
 rw [h] at h1 h2
 have e : ls.getD (k - 1) [] = x := by rw [List.getD_eq_getElem?_getD, hx]; rfl
 have e2 : l.getD (k - 1) noPt = p := by rw [List.getD_eq_getElem?_getD, hp]; rfl
 have h1 : FL (ls.getD (k - 1) []) := h1
 have h2 : ls.getD (k - 1) [] ≠ [] := h2
 rw [e] at h1 h2
 rw [e, e2]
 exact ⟨h1, h2, rfl, rfl, kept_nat ((valid_ports hv).1 p (List.mem_of_getElem? hp))⟩
theorem prod_blame {d : Fin 16} {a b : List Bx} (ha : FL a) (hb : FL b) (h1 : a ≠ []) (h2 : b ≠ []) (h : (productF (d.val : Int) a b).2 = 0) (h0 : (productF (d.val : Int) a b).1.length = 0) : ngBlame (d.val : Int) a b = apartD (d.val : Int) a b := by
 refine ng_blame ha hb h1 h2 ?_
 cases hm : metD (d.val : Int) a b
 ·rfl
 ·obtain ⟨c, e, c1, c2, c3⟩ := (met_has ha hb).1 hm
  rcases prodF_cases (d := (d.val : Int)) ha hb with hq | ⟨-, q2, q3⟩
  ·rw [hq] at h
   exact absurd h (show ¬ (3 : Int) = 0 by decide)
  ·have := (q3 c).2 ⟨c1, e, c2, c3⟩
   rw [List.eq_nil_of_length_eq_zero h0] at this
   obtain ⟨b, hb, -⟩ := (FL.has ⟨by simp, by simp⟩ c).1 this
   cases hb
section
variable {w w' : World} {base g : Nat} {ok : Nat → Prop} {v : Value} {ls : List (List Bx)}
theorem Bxs.onlyq {B : Option Addr} {x : List Bx} (h : Bxs w (Aq ok v) B x) (hg : w.grownBy w' (some g)) (hl : ¬ ok g) : Bxs w' (Aq ok v) B x := h.grown hg (fun q e hq => by injection e with e; exact hl (e ▸ hq.1))
theorem OwnLq.only (h : OwnLq w base ok v ls) (hg : w.grownBy w' (some g)) (hb : g < base) (hl : ¬ ok g) : OwnLq w' base ok v ls := by
 obtain ⟨vs, h1, h2⟩ := h
 refine ⟨vs, World.ownsRow.kept h1 hg ?_, fun i x hx => by obtain ⟨B, c, e, hc, hi⟩ := h2 i x hx; exact ⟨B, c, e, hc, hi.onlyq hg hl⟩⟩
 cases e : v.ownBlock with
 | none => exact .inl rfl
 | some q =>
  refine .inr fun e2 => ?_
  have := (World.ownsRow.lt h1 q e).1
  injection e2 with e2
  omega
theorem OwnLq.lower {base2 : Nat} {ok2 : Nat → Prop} (h : OwnLq w base ok v ls) (hb : base2 ≤ base) (hk : ∀ k, ok k → ok2 k) : OwnLq w base2 ok2 v ls := by
 obtain ⟨vs, h1, h2⟩ := h
 refine ⟨vs, ⟨h1.1, h1.2.imp id fun ⟨g, cap, cur, e, hg, r⟩ => ⟨g, cap, cur, e, by omega, r⟩⟩, fun i x hx => by obtain ⟨B, c, e, hc, hi⟩ := h2 i x hx; exact ⟨B, c, e, hc, hi.mono (fun k hk2 => ⟨hk k hk2.1, hk2.2⟩)⟩⟩
/-- An element of a row of lists. -/
theorem OwnLq.elem (h : OwnLq w base ok v ls) {k : Nat} (hk : k < ls.length) : ∃ ad c x B d, v = .slice (some ad) ls.length c ∧ ls.length ≤ c ∧ ad.block < w.heap.size ∧ base ≤ ad.block ∧ ls[k]? = some x ∧ x.length ≤ d ∧ w.cell? (ad.add k) = some (.slice B x.length d) ∧ Bxs w (Aq ok v) B x := by
 obtain ⟨A, c, rfl, hc, vs, hr, h2⟩ := h.read
 obtain ⟨ad, rfl, hb, hcell⟩ := hr.2 (by omega)
 have hx := List.getElem?_eq_getElem hk
 obtain ⟨B, d, e, hd, hbx⟩ := h2 k _ hx
 refine ⟨ad, c, _, B, d, rfl, hc, hb, ?_, hx, hd, hcell k _ e, hbx⟩
 obtain ⟨vs2, h1, -⟩ := h
 rcases h1.2 with ⟨e, _⟩ | ⟨q, cap, cur, e, hbq, _⟩
 ·injection e with e; cases e
 ·injection e with e
  injection e with e
  subst e
  exact hbq
end
set_option maxHeartbeats 64000000 in
set_option maxRecDepth 10000 in
theorem forward_any {ok : Nat → Prop} {A : Option Addr} {c n : Nat} {l : List Pt} {w : World} (hn : n = l.length) (h : Pts w ok A l) (hl : l.length ≤ 1000000) (ho : ∀ p ∈ l, (∀ b ∈ p.b, OKB b ∧ I64 b.k) ∧ p.b.length ≤ 1000000) :
 Calls Tryz.prog 10 #[.slice A n c] w fun e w' => (∃ v, e = .returned (.tuple #[v, .agg #[.int .i64 (forwardF l).2.1.1, .int .i64 (forwardF l).2.1.2], .int .i64 (forwardF l).2.2]) ∧ OwnLq w' w.heap.size (Ge w.heap.size) v (forwardF l).1) ∧ Grows w w' := by
 subst hn
 have HO := Lib.hid ho
 clear ho
 have k3 := Blk.new w 32 #[.int .i64 0, .int .i64 0]
 have hB := (Below.refl w.heap.size w).alloc (Nat.le_refl _) (Obj.cells #[.int .i64 0, .int .i64 0] 32)
 go_enter Tryz.func10, Tryz.ntmps10
 go_upto_region 1 with fail
 generalize World.alloc w _ = w1 at *
 have hs1 := k3.lt
 go_wp2_with fail
 refine (nvalid_any rfl (h.grows hB) hl (fun p hp => ⟨fun b hb => ((HO.out p hp).1 b hb).1, (HO.out p hp).2⟩)).mono ?_
 rintro e w2 ⟨rfl, hq⟩
 replace hB := below_grows hB (Nat.le_refl _) hq
 replace k3 := k3.grows hq
 clear hq
 cases hv : validC l
 ·have HE : Hid (forwardF l = ([], (0, 0), 1)) := Lib.hid (fw_bad hv)
  clear hv h
  have x3 := k3.cell
  have f3 := k3.frozen
  have hB3 := (hB.setCell (p := ⟨w.heap.size, 0, none⟩) (Nat.le_refl _) (.int .i64 0)).setCell (p := ⟨w.heap.size, 1, none⟩) (Nat.le_refl _) (.int .i64 0)
  have x3z := ((k3.set_ 0 (.int .i64 0)).set_ 1 (.int .i64 0)).cell
  go_wp2
  generalize World.setCell (World.setCell w2 _ _) _ _ = wz at *
  refine bodyPost_ret (v := .tuple #[.slice none 0 0, .agg #[.int .i64 0, .int .i64 0], .int .i64 1]) (by simp [results, Tryz.results10, go_sem, x3z]) rfl ?_
  rw [HE.out]
  exact ⟨⟨_, rfl, OwnLq.nil⟩, hB3⟩
 have HV := Lib.hid hv
 clear hv
 go_wp2_with fail
 go_loopw [5, 19] (fun v i wr => ∃ (k : Nat) (ls : List (List Bx)), k ≤ l.length ∧ i = .int .i64 k ∧ Hid (ls.length = k) ∧ Hid (fwUp l k = (ls, (0, 0), 0)) ∧ OwnLq wr (w.heap.size + 1) (Ge (w.heap.size + 1)) v ls ∧ Blk wr w.heap.size 32 #[.int .i64 0, .int .i64 0] ∧ Below w.heap.size w wr) (fun _ i _ => l.length - (intOf i).toNat)
 case atStart => exact ⟨0, [], by omega, rfl, Lib.hid rfl, Lib.hid rfl, OwnLq.nil, k3, hB⟩
 case round =>
  clear k3 hB hs1
  obtain ⟨k, ls, hk, rfl, HLN, HK, hw, k3, hB⟩ := hrel
  have hs1 := k3.lt
  by_cases hlt : k < l.length
  ·obtain ⟨ad, p, B, cp, e1, had, hp, hbx, hcp, q0, q1⟩ := h.elem hB hlt
   subst e1
   have HP := Lib.hid hp
   have HKO := Lib.hid (fun b hb => ((HO.out p (List.mem_of_getElem? hp)).1 b hb).2)
   obtain ⟨hfl, hv0, hv15, hp8⟩ := port_fl HV.out hp HKO.out
   have HFL := Lib.hid hfl
   clear hp hfl
   have hne8 := fun e => Nat.lt_irrefl _ (hw.lt _ e).2
   have k8 := Blk.new wr 47 #[.slice B p.b.length cp, .int .i64 p.v]
   have hq := (Below.refl wr.heap.size wr).alloc (Nat.le_refl _) (Obj.cells #[.slice B p.b.length cp, .int .i64 p.v] 47)
   go_upto_region 7 with fail
   replace hB := below_grows hB (Nat.le_refl _) hq
   replace hw := hw.grows hq
   replace k3 := k3.grows hq
   replace hbx := hbx.grows hB
   clear hq q0 q1
   have hs8 : wr.heap.size ≠ w.heap.size := by omega
   have hs9 := k8.lt
   generalize World.alloc wr _ = w5 at *
   generalize wr.heap.size = G8 at *
   have x8 := k8.cell
   by_cases hb0 : p.b.length = 0
   ·have HE : Hid (forwardF l = ([], ((k : Int), 15), 13)) := Lib.hid (fw_none HV.out HP.out HK.out hb0)
    have e1 : ((p.b.length : Int) == 0) = true := by rw [hb0]; rfl
    have e2 : decide ((p.b.length : Int) = 0) = true := by rw [hb0]; rfl
    clear hb0 h hw
    have x3 := k3.cell
    have f3 := k3.frozen
    have hB3 := (hB.setCell (p := ⟨w.heap.size, 0, none⟩) (Nat.le_refl _) (.int .i64 k)).setCell (p := ⟨w.heap.size, 1, none⟩) (Nat.le_refl _) (.int .i64 15)
    have x3z := ((k3.set_ 0 (.int .i64 k)).set_ 1 (.int .i64 15)).cell
    go_wp2
    generalize World.setCell (World.setCell w5 _ _) _ _ = wz at *
    refine bodyPost_ret (v := .tuple #[.slice none 0 0, .agg #[.int .i64 k, .int .i64 15], .int .i64 13]) (by simp [results, Tryz.results10, go_sem, x3z]) rfl ?_
    rw [HE.out]
    exact ⟨⟨_, rfl, OwnLq.nil⟩, hB3⟩
   have e1 : ((p.b.length : Int) == 0) = false := by simp only [beq_eq_false_iff_ne, ne_eq]; omega
   have e2 : decide ((p.b.length : Int) = 0) = false := by simp only [decide_eq_false_iff_not]; omega
   have HB0 := Lib.hid hb0
   clear hb0
   by_cases hk0 : k = 0
   ·subst hk0
    go_wp2_with fail
    refine (preduce_any rfl hbx (by omega) (fun b hb => okb_fine (HFL.out.1 b hb))).mono ?_
    rintro e w6 ⟨⟨v6, rfl, hw6⟩, hq⟩
    have hsz5 := hB.size
    have hown := hw.lt
    obtain ⟨A9, c9, rfl, hc9, hx9⟩ := hw6.read
    replace hx9 : Bxs w6 (Aq (Ge (w.heap.size + 1)) _) A9 _ := hx9.mono fun k hk => ⟨by unfold Ge at *; omega, fun e => by have h9 := (hown _ e).2; unfold Ge at hk; omega⟩
    replace hB := below_grows hB (Nat.le_refl _) hq
    replace hw := hw.grows hq
    replace k3 := k3.grows hq
    have HN0 : Hid (fwUp l (0 + 1) = (ls ++ [(reduceF p.b).1], (0, 0), 0)) := Lib.hid (fw_first HP.out HK.out HB0.out)
    generalize (reduceF p.b).1 = x9 at *
    clear hq hown hw6 x8 k8
    go_upto_region 11 with fail
    refine wp_region_lit ?_
    iterate 3
     refine wpList_plain rfl (fun K hK => ?_)
     go_simp
     refine hK _ _ ?_
     clear hK K
    have hk0_ := Blk.new w6 45 #[.slice A9 x9.length c9]
    have hq := (Below.refl w6.heap.size w6).alloc (Nat.le_refl _) (Obj.cells #[.slice A9 x9.length c9] 45)
    have hrd : Reads (w6.alloc (Obj.cells #[.slice A9 x9.length c9] 45)) (w6.alloc (Obj.cells #[.slice A9 x9.length c9] 45)).heap.size 1 (some ⟨w6.heap.size, 0, none⟩) 1 [.slice A9 x9.length c9] := ⟨rfl, fun _ => ⟨_, rfl, hk0_.lt, fun j u hu => by rw [add_head, hk0_.cell, ← Array.getElem?_toList]; exact hu⟩⟩
    replace hB := below_grows hB (Nat.le_refl _) hq
    replace k3 := k3.grows hq
    replace hw := hw.grows hq
    replace hx9 := hx9.grows hq
    have hs1 := k3.lt
    have hol := hw.lt
    clear hq hk0_
    refine wpList_append_lq rfl (.tmp 38) (.tmp 40) rfl rfl hw rfl hrd (by have := HLN.out; omega) (by omega) hx9 hc9 ?_
    intro v7 w7 ho2 hgr hv7
    replace hB := hB.grown hgr hB.size (fun q e => by have := (hol q e).1; omega)
    replace k3 := k3.grown hgr (fun e => by have := (hol _ e.symm).1; omega)
    have HL2 : Hid ((ls ++ [x9]).length = ls.length + 1) := Lib.hid (by rw [List.length_append, List.length_singleton])
    clear hrd hgr hw hol hx9
    generalize ls ++ [x9] = ls2 at *
    go_wp2
    go_roundw
    case rel => exact ⟨0 + 1, ls2, by omega, by go_num, Lib.hid (by rw [HL2.out, HLN.out]), HN0, ho2, k3, hB⟩
    case measure => simp [intOf]; omega
   ·have hk1 : IntKind.i64.wrap ((k : Int) - 1) = ((k - 1 : Nat) : Int) := by rw [IntWalk.i64_in _ (by omega)]; omega
    have e3 : ((k : Int) == 0) = false := by simp only [beq_eq_false_iff_ne, ne_eq]; omega
    have e4 : decide ((k : Int) = 0) = false := by simp only [decide_eq_false_iff_not]; omega
    obtain ⟨ad2, p2, B2, cp2, ead, had2, hp2, -, -, q20, q21⟩ := h.elem hB (show k - 1 < l.length by omega)
    injection ead with ead
    subst ead
    obtain ⟨ad7, c7, x7, B7, d7, rfl, hc7, had7, hba7, hx7, hd7, hcell7, hbx7⟩ := hw.elem (show k - 1 < ls.length by have := HLN.out; omega)
    obtain ⟨hf7, hn7, hg7, hkd, dF, hdF⟩ := fw_prev HV.out (fun p hp b hb => ((HO.out p hp).1 b hb).2) hk hk0 HK.out hx7 hp2
    have HF7 := Lib.hid hf7
    have b0 : (0 : Int) ≤ ((k - 1 : Nat) : Int) := by omega
    have b1 : ((k - 1 : Nat) : Int) < (l.length : Int) := by omega
    have b2 : ((k - 1 : Nat) : Int) < (ls.length : Int) := by have := HLN.out; omega
    have b3 : k - 1 < l.length := by omega
    have b4 : k - 1 < ls.length := by have := HLN.out; omega
    have hl7 := hf7.2
    have hl8 := HFL.out.2
    have HPR : Hid (prodAt l k p ls = productF (bits .andNot .i64 15 p2.v) p.b x7) := Lib.hid (by unfold prodAt; rw [hkd, hg7])
    have HBL : Hid ((productF (bits .andNot .i64 15 p2.v) p.b x7).2 = 0 → (productF (bits .andNot .i64 15 p2.v) p.b x7).1.length = 0 → apartD (keptD (l.getD (k - 1) noPt)) p.b (ls.getD (k - 1) []) = ngBlame (bits .andNot .i64 15 p2.v) p.b x7) := Lib.hid (fun h1 h2 => by
     rw [hkd, hg7, hdF]
     rw [hdF] at h1 h2
     exact (prod_blame HFL.out HF7.out (fun h => HB0.out (by rw [h]; rfl)) hn7 h1 h2).symm)
    have HLIM := Lib.hid (fun h => fw_lim HV.out HP.out HK.out HB0.out hk0 h)
    have HREF := Lib.hid (fun h h2 => fw_refuse HV.out HP.out HK.out HB0.out hk0 h h2)
    have HMORE := Lib.hid (fun h h2 => fw_more HP.out HK.out HB0.out hk0 h h2)
    rw [HPR.out] at HLIM HREF HMORE
    clear hkd hg7 hdF hn7 hx7 hp2 hf7
    go_upto_region 13 with fail
    clear e3 e4 q20 q21
    generalize bits .andNot .i64 15 p2.v = dd at *
    have HR := Lib.hid (fun (w0 : World) (hg : Grows w5 w0) => reach_any (w := w0) (c := cp) (d := d7) dd rfl rfl (hbx.grows hg) (hbx7.grows hg) (by omega) (by omega) HFL.out.1 HF7.out.1)
    have HNB := Lib.hid (fun (w0 : World) (hg : Grows w5 w0) => nblame_any (w := w0) (c := cp) (d := d7) dd rfl rfl (hbx.grows hg) (hbx7.grows hg) hl8 hl7 HFL.out.1 HF7.out.1)
    generalize productF dd p.b x7 = pr at *
    obtain ⟨pl, pe⟩ := pr
    have had7c : (ad7.add (k - 1)).block < w5.heap.size := by rw [block_of_add]; exact had7
    obtain ⟨S, HI, HO⟩ := hideS fun (L : Ran) (vs : Nat → Value) (w' : World) => (Grows w5 w' ∧ KnS [some (.pointer (some ⟨G8, 0, none⟩)), some (.slice B p.b.length cp), some (.slice (some ad7) ls.length c7), some (.int .i64 k), some (.int .i64 ((k - 1 : Nat) : Int)), some (.pointer (some (ad7.add (k - 1)))), some (.slice B7 x7.length d7), some (.int .i64 dd), none, none, none, some (.int .i64 pe), none, some (.int .i64 pe)] L vs ∧ DsS [none, none, none, none, none, none, none, none, some (PsT w5.heap.size pl pe), some (PsT w5.heap.size pl pe), some (PsN w5.heap.size pl), none, some (PsN w5.heap.size pl), none] L vs w')
    refine wp_region_genT S 14 86 (by kernel_rfl) (by kernel_rfl) rfl ?_ ?_
    ·exact HI.out _ _ _ ⟨Grows.drew' _, kn_none _ _, ds_none _ _ _⟩
    simp only [List.take_succ_cons, List.take_zero, List.drop_succ_cons, List.drop_zero]
    refine gent_consR (fun vs L w1 hL hw1 => ?_) ?_
    ·obtain ⟨q0, q1, q2⟩ := HO.out _ _ _ hw1
     refine gen_plain rfl ?_
     go_simp
     exact gr_val (HI.out _ _ _ ⟨q0, kn_known q1 rfl, ds_free q2 rfl⟩)
    refine gent_consR (fun vs L w1 hL hw1 => ?_) ?_
    ·obtain ⟨q0, q1, q2⟩ := HO.out _ _ _ hw1
     refine gen_plain rfl ?_
     have l0 : L 0 = true := hL.need 0 (by kernel_rfl)
     have e0 := q1 0 _ rfl l0
     simp only [e0]
     have xb := (k8.grows q0).cell
     go_simp
     exact gr_val (HI.out _ _ _ ⟨q0, kn_known q1 rfl, ds_free q2 rfl⟩)
    refine gent_consR (fun vs L w1 hL hw1 => ?_) ?_
    ·obtain ⟨q0, q1, q2⟩ := HO.out _ _ _ hw1
     refine gen_plain rfl ?_
     go_simp
     exact gr_val (HI.out _ _ _ ⟨q0, kn_known q1 rfl, ds_free q2 rfl⟩)
    refine gent_consR (fun vs L w1 hL hw1 => ?_) ?_
    ·obtain ⟨q0, q1, q2⟩ := HO.out _ _ _ hw1
     refine gen_plain rfl ?_
     go_simp
     exact gr_val (HI.out _ _ _ ⟨q0, kn_known q1 rfl, ds_free q2 rfl⟩)
    refine gent_consR (fun vs L w1 hL hw1 => ?_) ?_
    ·obtain ⟨q0, q1, q2⟩ := HO.out _ _ _ hw1
     refine gen_plain rfl ?_
     have l3 : L 3 = true := hL.need 3 (by kernel_rfl)
     have e3 := q1 3 _ rfl l3
     simp only [e3]
     go_simp
     exact gr_val (HI.out _ _ _ ⟨q0, kn_known q1 rfl, ds_free q2 rfl⟩)
    refine gent_consR (fun vs L w1 hL hw1 => ?_) ?_
    ·obtain ⟨q0, q1, q2⟩ := HO.out _ _ _ hw1
     refine gen_plain rfl ?_
     have l2 : L 2 = true := hL.need 2 (by kernel_rfl)
     have e2 := q1 2 _ rfl l2
     have l4 : L 4 = true := hL.need 4 (by kernel_rfl)
     have e4 := q1 4 _ rfl l4
     simp only [e2, e4]
     go_simp
     exact gr_val (HI.out _ _ _ ⟨q0, kn_known q1 rfl, ds_free q2 rfl⟩)
    refine gent_consR (fun vs L w1 hL hw1 => ?_) ?_
    ·obtain ⟨q0, q1, q2⟩ := HO.out _ _ _ hw1
     refine gen_plain rfl ?_
     have l5 : L 5 = true := hL.need 5 (by kernel_rfl)
     have e5 := q1 5 _ rfl l5
     simp only [e5]
     have xb := (Below.cell q0 had7c).trans hcell7
     go_simp
     exact gr_val (HI.out _ _ _ ⟨q0, kn_known q1 rfl, ds_free q2 rfl⟩)
    refine gent_consR (fun vs L w1 hL hw1 => ?_) ?_
    ·obtain ⟨q0, q1, q2⟩ := HO.out _ _ _ hw1
     refine gen_plain rfl ?_
     go_simp
     exact gr_val (HI.out _ _ _ ⟨q0, kn_known q1 rfl, ds_free q2 rfl⟩)
    refine gent_consR (fun vs L w1 hL hw1 => ?_) ?_
    ·obtain ⟨q0, q1, q2⟩ := HO.out _ _ _ hw1
     refine gen_plain rfl ?_
     have l1 : L 1 = true := hL.need 1 (by kernel_rfl)
     have e1 := q1 1 _ rfl l1
     have l6 : L 6 = true := hL.need 6 (by kernel_rfl)
     have e6 := q1 6 _ rfl l6
     have l7 : L 7 = true := hL.need 7 (by kernel_rfl)
     have e7 := q1 7 _ rfl l7
     simp only [e1, e6, e7]
     go_simp
     refine gr_call ?_
     refine (HR.out _ q0).mono ?_
     rintro e w6 ⟨⟨v6, rfl, hw6⟩, hg⟩
     obtain ⟨A9, c9, rfl, hc9, hx9⟩ := hw6.read
     have hsz := q0.size
     exact ⟨_, rfl, HI.out _ _ _ ⟨below_grows q0 (Nat.le_refl _) hg, kn_free q1 rfl, ds_put (q2.grows hg) rfl ⟨A9, c9, rfl, hc9, hx9.mono (fun k hk => by unfold Ge at *; omega)⟩⟩⟩
    refine gent_consR (fun vs L w1 hL hw1 => ?_) ?_
    ·obtain ⟨q0, q1, q2⟩ := HO.out _ _ _ hw1
     refine gen_plain rfl ?_
     have l8 : L 8 = true := hL.need 8 (by kernel_rfl)
     have p8 := q2 8 _ rfl l8
     go_simp
     exact gr_val (HI.out _ _ _ ⟨q0, kn_free q1 rfl, ds_put q2 rfl p8⟩)
    refine gent_consR (fun vs L w1 hL hw1 => ?_) ?_
    ·obtain ⟨q0, q1, q2⟩ := HO.out _ _ _ hw1
     refine gen_plain rfl ?_
     have l9 : L 9 = true := hL.need 9 (by kernel_rfl)
     obtain ⟨A9, c9, e9, hc9, hx9⟩ := q2 9 _ rfl l9
     simp only [e9]
     go_simp
     exact gr_val (HI.out _ _ _ ⟨q0, kn_free q1 rfl, ds_put q2 rfl ⟨A9, c9, rfl, hc9, hx9⟩⟩)
    refine gent_consR (fun vs L w1 hL hw1 => ?_) ?_
    ·obtain ⟨q0, q1, q2⟩ := HO.out _ _ _ hw1
     refine gen_plain rfl ?_
     have l9 : L 9 = true := hL.need 9 (by kernel_rfl)
     obtain ⟨A9, c9, e9, hc9, hx9⟩ := q2 9 _ rfl l9
     simp only [e9]
     go_simp
     exact gr_val (HI.out _ _ _ ⟨q0, kn_known q1 rfl, ds_free q2 rfl⟩)
    refine gent_consR (fun vs L w1 hL hw1 => ?_) ?_
    ·obtain ⟨q0, q1, q2⟩ := HO.out _ _ _ hw1
     refine gen_plain rfl ?_
     have l10 : L 10 = true := hL.need 10 (by kernel_rfl)
     have p10 := q2 10 _ rfl l10
     go_simp
     exact gr_val (HI.out _ _ _ ⟨q0, kn_free q1 rfl, ds_put q2 rfl p10⟩)
    refine gent_consR (fun vs L w1 hL hw1 => ?_) ?_
    ·obtain ⟨q0, q1, q2⟩ := HO.out _ _ _ hw1
     refine gen_plain rfl ?_
     have l11 : L 11 = true := hL.need 11 (by kernel_rfl)
     have e11 := q1 11 _ rfl l11
     simp only [e11]
     go_simp
     exact gr_val (HI.out _ _ _ ⟨q0, kn_known q1 rfl, ds_free q2 rfl⟩)
    refine gent_nil ?_
    intro vs L W2 hall hS
    obtain ⟨q0, q1, q2⟩ := HO.out _ _ _ hS
    have e13 := q1 13 _ rfl (hall 13 (by omega))
    have e11 := q1 11 _ rfl (hall 11 (by omega))
    obtain ⟨A9, c9, e12, hc9, hx9⟩ := q2 12 _ rfl (hall 12 (by omega))
    have e0 := q1 0 _ rfl (hall 0 (by omega))
    clear hall hS HI HO q1 q2
    have hw5 := hw.lt
    have hw6 := q0.size
    replace hx9 : Bxs W2 (Aq (Ge (w.heap.size + 1)) (.slice (some ad7) ls.length c7)) A9 pl := hx9.mono fun k hk => ⟨by unfold Ge at *; omega, fun e => by have h9 := (hw5 _ e).2; unfold Ge at hk; omega⟩
    replace hB := below_grows hB (Nat.le_refl _) q0
    replace k3 := k3.grows q0
    replace k8 := k8.grows q0
    replace hw := hw.grows q0
    replace HNB := Lib.hid (fun (w0 : World) (hg : Grows W2 w0) => HNB.out w0 (below_grows q0 (Nat.le_refl _) hg))
    replace hcell7 := (Below.cell q0 had7c).trans hcell7
    clear hw5 HR hbx hbx7 x8
    have x8 := k8.cell
    simp only [e0, e11, e12, e13]
    by_cases hpe : pe = 0
    ·subst hpe
     have e5 : ((0 : Int) != 0) = false := rfl
     have e6 : decide ((0 : Int) = 0) = true := rfl
     by_cases hpl : pl.length = 0
     ·have HE : Hid (forwardF l = ([], ((k : Int), ngBlame dd p.b x7), 13)) := Lib.hid (by rw [HREF.out rfl hpl, HBL.out rfl hpl])
      have e7 : ((pl.length : Int) == 0) = true := by rw [hpl]; rfl
      have e8 : decide ((pl.length : Int) = 0) = true := by rw [hpl]; rfl
      clear hpl hx9 h HLIM HREF HMORE HBL HPR
      go_upto_region 17 with fail
      generalize ngBlame dd p.b x7 = nb at *
      have had7d : (ad7.add (k - 1)).block < W2.heap.size := Nat.lt_of_lt_of_le had7c hw6
      obtain ⟨S, HI, HO⟩ := hideS fun (L : Ran) (vs : Nat → Value) (w' : World) => (Grows W2 w' ∧ KnS [some (.int .i64 k), some (.pointer (some ⟨G8, 0, none⟩)), some (.slice B p.b.length cp), some (.slice (some ad7) ls.length c7), some (.int .i64 k), some (.int .i64 ((k - 1 : Nat) : Int)), some (.pointer (some (ad7.add (k - 1)))), some (.slice B7 x7.length d7), some (.int .i64 dd), some (.int .i64 nb), some (.agg #[.int .i64 k, .int .i64 nb]), some (.slice none 0 0)] L vs ∧ DsS [none, none, none, none, none, none, none, none, none, none, none, none] L vs w')
      refine wp_region_genT S 12 86 (by kernel_rfl) (by kernel_rfl) rfl ?_ ?_
      ·exact HI.out _ _ _ ⟨Grows.drew' _, kn_none _ _, ds_none _ _ _⟩
      simp only [List.take_succ_cons, List.take_zero, List.drop_succ_cons, List.drop_zero]
      refine gent_consR (fun vs L w1 hL hw1 => ?_) ?_
      ·obtain ⟨q0, q1, q2⟩ := HO.out _ _ _ hw1
       refine gen_plain rfl ?_
       go_simp
       exact gr_val (HI.out _ _ _ ⟨q0, kn_known q1 rfl, ds_free q2 rfl⟩)
      refine gent_consR (fun vs L w1 hL hw1 => ?_) ?_
      ·obtain ⟨q0, q1, q2⟩ := HO.out _ _ _ hw1
       refine gen_plain rfl ?_
       go_simp
       exact gr_val (HI.out _ _ _ ⟨q0, kn_known q1 rfl, ds_free q2 rfl⟩)
      refine gent_consR (fun vs L w1 hL hw1 => ?_) ?_
      ·obtain ⟨q0, q1, q2⟩ := HO.out _ _ _ hw1
       refine gen_plain rfl ?_
       have l1 : L 1 = true := hL.need 1 (by kernel_rfl)
       have e1 := q1 1 _ rfl l1
       simp only [e1]
       have xb := (k8.grows q0).cell
       go_simp
       exact gr_val (HI.out _ _ _ ⟨q0, kn_known q1 rfl, ds_free q2 rfl⟩)
      refine gent_consR (fun vs L w1 hL hw1 => ?_) ?_
      ·obtain ⟨q0, q1, q2⟩ := HO.out _ _ _ hw1
       refine gen_plain rfl ?_
       go_simp
       exact gr_val (HI.out _ _ _ ⟨q0, kn_known q1 rfl, ds_free q2 rfl⟩)
      refine gent_consR (fun vs L w1 hL hw1 => ?_) ?_
      ·obtain ⟨q0, q1, q2⟩ := HO.out _ _ _ hw1
       refine gen_plain rfl ?_
       go_simp
       exact gr_val (HI.out _ _ _ ⟨q0, kn_known q1 rfl, ds_free q2 rfl⟩)
      refine gent_consR (fun vs L w1 hL hw1 => ?_) ?_
      ·obtain ⟨q0, q1, q2⟩ := HO.out _ _ _ hw1
       refine gen_plain rfl ?_
       have l4 : L 4 = true := hL.need 4 (by kernel_rfl)
       have e4 := q1 4 _ rfl l4
       simp only [e4]
       go_simp
       exact gr_val (HI.out _ _ _ ⟨q0, kn_known q1 rfl, ds_free q2 rfl⟩)
      refine gent_consR (fun vs L w1 hL hw1 => ?_) ?_
      ·obtain ⟨q0, q1, q2⟩ := HO.out _ _ _ hw1
       refine gen_plain rfl ?_
       have l3 : L 3 = true := hL.need 3 (by kernel_rfl)
       have e3 := q1 3 _ rfl l3
       have l5 : L 5 = true := hL.need 5 (by kernel_rfl)
       have e5 := q1 5 _ rfl l5
       simp only [e3, e5]
       go_simp
       exact gr_val (HI.out _ _ _ ⟨q0, kn_known q1 rfl, ds_free q2 rfl⟩)
      refine gent_consR (fun vs L w1 hL hw1 => ?_) ?_
      ·obtain ⟨q0, q1, q2⟩ := HO.out _ _ _ hw1
       refine gen_plain rfl ?_
       have l6 : L 6 = true := hL.need 6 (by kernel_rfl)
       have e6 := q1 6 _ rfl l6
       simp only [e6]
       have xb := (Below.cell q0 had7d).trans hcell7
       go_simp
       exact gr_val (HI.out _ _ _ ⟨q0, kn_known q1 rfl, ds_free q2 rfl⟩)
      refine gent_consR (fun vs L w1 hL hw1 => ?_) ?_
      ·obtain ⟨q0, q1, q2⟩ := HO.out _ _ _ hw1
       refine gen_plain rfl ?_
       go_simp
       exact gr_val (HI.out _ _ _ ⟨q0, kn_known q1 rfl, ds_free q2 rfl⟩)
      refine gent_consR (fun vs L w1 hL hw1 => ?_) ?_
      ·obtain ⟨q0, q1, q2⟩ := HO.out _ _ _ hw1
       refine gen_plain rfl ?_
       have l2 : L 2 = true := hL.need 2 (by kernel_rfl)
       have e2 := q1 2 _ rfl l2
       have l7 : L 7 = true := hL.need 7 (by kernel_rfl)
       have e7 := q1 7 _ rfl l7
       have l8 : L 8 = true := hL.need 8 (by kernel_rfl)
       have e8 := q1 8 _ rfl l8
       simp only [e2, e7, e8]
       go_simp
       refine gr_call ?_
       refine (HNB.out _ q0).mono ?_
       rintro e w6 ⟨rfl, hg⟩
       exact ⟨_, rfl, HI.out _ _ _ ⟨below_grows q0 (Nat.le_refl _) hg, kn_known q1 rfl, ds_free (q2.grows hg) rfl⟩⟩
      refine gent_consR (fun vs L w1 hL hw1 => ?_) ?_
      ·obtain ⟨q0, q1, q2⟩ := HO.out _ _ _ hw1
       refine gen_plain rfl ?_
       have l0 : L 0 = true := hL.need 0 (by kernel_rfl)
       have e0 := q1 0 _ rfl l0
       have l9 : L 9 = true := hL.need 9 (by kernel_rfl)
       have e9 := q1 9 _ rfl l9
       simp only [e0, e9]
       go_simp
       exact gr_val (HI.out _ _ _ ⟨q0, kn_known q1 rfl, ds_free q2 rfl⟩)
      refine gent_consR (fun vs L w1 hL hw1 => ?_) ?_
      ·obtain ⟨q0, q1, q2⟩ := HO.out _ _ _ hw1
       refine gen_plain rfl ?_
       go_simp
       exact gr_val (HI.out _ _ _ ⟨q0, kn_known q1 rfl, ds_free q2 rfl⟩)
      refine gent_nil ?_
      intro vs L W3 hall hS
      obtain ⟨q0, q1, q2⟩ := HO.out _ _ _ hS
      have e10 := q1 10 _ rfl (hall 10 (by omega))
      have e11_ := q1 11 _ rfl (hall 11 (by omega))
      clear hall hS HI HO q1 q2
      replace hB := below_grows hB (Nat.le_refl _) q0
      replace k3 := k3.grows q0
      have x3 := k3.cell
      have f3 := k3.frozen
      have hB3 := (hB.setCell (p := ⟨w.heap.size, 0, none⟩) (Nat.le_refl _) (.int .i64 k)).setCell (p := ⟨w.heap.size, 1, none⟩) (Nat.le_refl _) (.int .i64 nb)
      have x3z := ((k3.set_ 0 (.int .i64 k)).set_ 1 (.int .i64 nb)).cell
      clear q0 hw
      simp only [e10, e11_]
      go_wp2
      generalize World.setCell (World.setCell W3 _ _) _ _ = wz at *
      refine bodyPost_ret (v := .tuple #[.slice none 0 0, .agg #[.int .i64 k, .int .i64 nb], .int .i64 13]) (by simp [results, Tryz.results10, go_sem, x3z]) rfl ?_
      rw [HE.out]
      exact ⟨⟨_, rfl, OwnLq.nil⟩, hB3⟩
     ·have HN0 := Lib.hid (HMORE.out rfl hpl)
      have e7 : ((pl.length : Int) == 0) = false := by simp only [beq_eq_false_iff_ne, ne_eq]; omega
      have e8 : decide ((pl.length : Int) = 0) = false := by simp only [decide_eq_false_iff_not]; omega
      clear hpl HLIM HREF HMORE HBL HPR HNB k8 x8
      go_upto_region 18 with fail
      refine wp_region_lit ?_
      iterate 3
       refine wpList_plain rfl (fun K hK => ?_)
       go_simp
       refine hK _ _ ?_
       clear hK K
      have hk0_ := Blk.new W2 45 #[.slice A9 pl.length c9]
      have hq := (Below.refl W2.heap.size W2).alloc (Nat.le_refl _) (Obj.cells #[.slice A9 pl.length c9] 45)
      have hrd : Reads (W2.alloc (Obj.cells #[.slice A9 pl.length c9] 45)) (W2.alloc (Obj.cells #[.slice A9 pl.length c9] 45)).heap.size 1 (some ⟨W2.heap.size, 0, none⟩) 1 [.slice A9 pl.length c9] := ⟨rfl, fun _ => ⟨_, rfl, hk0_.lt, fun j u hu => by rw [add_head, hk0_.cell, ← Array.getElem?_toList]; exact hu⟩⟩
      replace hB := below_grows hB (Nat.le_refl _) hq
      replace k3 := k3.grows hq
      replace hw := hw.grows hq
      replace hx9 := hx9.grows hq
      have hs1 := k3.lt
      have hol := hw.lt
      clear hq hk0_
      refine wpList_append_lq rfl (.tmp 79) (.tmp 81) rfl rfl hw rfl hrd (by have := HLN.out; omega) (by omega) hx9 hc9 ?_
      intro v7 w7 ho2 hgr hv7
      replace hB := hB.grown hgr hB.size (fun q e => by have := (hol q e).1; omega)
      replace k3 := k3.grown hgr (fun e => by have := (hol _ e.symm).1; omega)
      have HL2 : Hid ((ls ++ [pl]).length = ls.length + 1) := Lib.hid (by rw [List.length_append, List.length_singleton])
      clear hrd hgr hw hol hx9
      generalize ls ++ [pl] = ls2 at *
      go_wp2
      go_roundw
      case rel => exact ⟨k + 1, ls2, by omega, by go_num, Lib.hid (by rw [HL2.out, HLN.out]), HN0, ho2, k3, hB⟩
      case measure => simp [intOf]; omega
    ·have HE := Lib.hid (HLIM.out hpe)
     have e5 : (pe != 0) = true := bne_iff_ne.2 hpe
     have e6 : decide (pe = 0) = false := decide_eq_false hpe
     clear hpe hx9 h HLIM HREF HMORE HBL HPR
     have x3 := k3.cell
     have f3 := k3.frozen
     have hB3 := (hB.setCell (p := ⟨w.heap.size, 0, none⟩) (Nat.le_refl _) (.int .i64 0)).setCell (p := ⟨w.heap.size, 1, none⟩) (Nat.le_refl _) (.int .i64 0)
     have x3z := ((k3.set_ 0 (.int .i64 0)).set_ 1 (.int .i64 0)).cell
     go_wp2
     generalize World.setCell (World.setCell W2 _ _) _ _ = wz at *
     refine bodyPost_ret (v := .tuple #[.slice none 0 0, .agg #[.int .i64 0, .int .i64 0], .int .i64 pe]) (by simp [results, Tryz.results10, go_sem, x3z]) rfl ?_
     rw [HE.out]
     exact ⟨⟨_, rfl, OwnLq.nil⟩, hB3⟩
  ·obtain rfl : k = l.length := by omega
   have HE := Lib.hid (fw_whole HV.out HK.out)
   have x3 := k3.cell
   have f3 := k3.frozen
   have hB3 := (hB.setCell (p := ⟨w.heap.size, 0, none⟩) (Nat.le_refl _) (.int .i64 0)).setCell (p := ⟨w.heap.size, 1, none⟩) (Nat.le_refl _) (.int .i64 0)
   have x3z := ((k3.set_ 0 (.int .i64 0)).set_ 1 (.int .i64 0)).cell
   have hw3 := hw.only (d_only_set (d_only_set (World.grownBy.refl wr (some w.heap.size)) 0 (.int .i64 0)) 1 (.int .i64 0)) (by omega) (by unfold Ge; omega)
   obtain ⟨A9, c9, rfl, hc9, -⟩ := hw.read
   clear h
   go_wp2
   generalize World.setCell (World.setCell wr _ _) _ _ = wz at *
   refine bodyPost_ret (v := .tuple #[.slice A9 ls.length c9, .agg #[.int .i64 0, .int .i64 0], .int .i64 0]) (by simp [results, Tryz.results10, go_sem, x3z]) rfl ?_
   rw [HE.out]
   exact ⟨⟨_, rfl, hw3.lower (by omega) (fun k hk => by unfold Ge at *; omega)⟩, hB3⟩
end Go.Proofs.YtjbkjgmcfommgaaGreat

namespace Go.Proofs.YtjbkjgmcfommgaaGreat
open Go.RowKit
/-- Lists of boxes, to be read. -/
def Lbx (w : World) (ok : Nat → Prop) (A : Option Addr) (ls : List (List Bx)) : Prop :=
 ∃ vs, RdB w ok 1 A ls.length vs ∧ ∀ (i : Nat) (x : List Bx), ls[i]? = some x → ∃ B c, vs[i]? = some (.slice B x.length c) ∧ x.length ≤ c ∧ Bxs w ok B x
section
variable {w w' wr : World} {ok : Nat → Prop} {A : Option Addr} {ls : List (List Bx)} {row : Option Nat} {base : Nat} {v : Value}
theorem Lbx.nil : Lbx w ok none [] := ⟨[], RdB.nil, fun i x h => by simp at h⟩
theorem Lbx.grows (h : Lbx w ok A ls) (hg : Grows w w') : Lbx w' ok A ls := by
 obtain ⟨vs, h1, h2⟩ := h
 exact ⟨vs, h1.grows hg, fun i x hx => by obtain ⟨B, c, e, hc, hb⟩ := h2 i x hx; exact ⟨B, c, e, hc, hb.grows hg⟩⟩
theorem Lbx.mono {ok2 : Nat → Prop} (h : Lbx w ok A ls) (hk : ∀ k, ok k → ok2 k) : Lbx w ok2 A ls := by
 obtain ⟨vs, h1, h2⟩ := h
 exact ⟨vs, h1.mono hk, fun i x hx => by obtain ⟨B, c, e, hc, hb⟩ := h2 i x hx; exact ⟨B, c, e, hc, hb.mono hk⟩⟩
theorem Lbx.grown (h : Lbx w ok A ls) (hg : w.grownBy w' row) (hr : ∀ g, row = some g → ¬ ok g) : Lbx w' ok A ls := by
 obtain ⟨vs, h1, h2⟩ := h
 exact ⟨vs, h1.grown hg hr, fun i x hx => by obtain ⟨B, c, e, hc, hb⟩ := h2 i x hx; exact ⟨B, c, e, hc, hb.grown hg hr⟩⟩
theorem Lbx.under (h : Lbx w ok A ls) : Lbx w (Under w.heap.size) A ls := by
 obtain ⟨vs, h1, h2⟩ := h
 exact ⟨vs, h1.under, fun i x hx => by obtain ⟨B, c, e, hc, hb⟩ := h2 i x hx; exact ⟨B, c, e, hc, hb.under⟩⟩
theorem OwnLq.lbx (h : OwnLq w base ok v ls) : ∃ A c, v = .slice A ls.length c ∧ ls.length ≤ c ∧ Lbx w (fun k => ok k ∨ base ≤ k) A ls := by
 obtain ⟨A, c, rfl, hc, vs, hr, h2⟩ := h.read
 refine ⟨A, c, rfl, hc, vs, ⟨hr, fun hn ad e => ?_⟩, fun i x hx => by obtain ⟨B, d, e, hd, hb⟩ := h2 i x hx; exact ⟨B, d, e, hd, hb.mono (fun k hk => .inl hk.1)⟩⟩
 obtain ⟨_, h1, -⟩ := h
 have hb := (World.ownsRow.lt h1 ad.block (by rw [e]; rfl)).1
 exact .inr hb
theorem Lbx.elem (h : Lbx w ok A ls) (hB : Grows w wr) {k : Nat} (hk : k < ls.length) : ∃ ad x B d, A = some ad ∧ ad.block < wr.heap.size ∧ ls[k]? = some x ∧ x.length ≤ d ∧ wr.cell? (ad.add k) = some (.slice B x.length d) ∧ Bxs w ok B x := by
 obtain ⟨vs, h1, h2⟩ := h
 obtain ⟨ad, e, hb, hc⟩ := (Reads.grows h1.1 hB).2 (by omega)
 have hx := List.getElem?_eq_getElem hk
 obtain ⟨B, d, e2, hd, hbx⟩ := h2 k _ hx
 exact ⟨ad, _, B, d, e, hb, hx, hd, hc k _ e2, hbx⟩
end
def chC (x : Ch) (A : Option Addr) (c : Nat) : List Value := [.int .i64 x.k, .int .i64 x.r, .slice A x.m.length c, .int .i64 x.s]
/-- A slice of choices. -/
def Chs (w : World) (ok : Nat → Prop) (A : Option Addr) (L : List Ch) : Prop :=
 ∃ vs, RdB w ok 4 A L.length vs ∧ ∀ (i : Nat) (x : Ch), L[i]? = some x → ∃ B c, InB w ok B x.m ∧ x.m.length ≤ c ∧ ∀ j < 4, vs[i * 4 + j]? = (chC x B c)[j]?
section
variable {w w' wr : World} {ok : Nat → Prop} {A : Option Addr} {L : List Ch} {row : Option Nat}
theorem Chs.nil : Chs w ok none [] := ⟨[], RdB.nil, fun i x h => by simp at h⟩
theorem Chs.grows (h : Chs w ok A L) (hg : Grows w w') : Chs w' ok A L := by
 obtain ⟨vs, h1, h2⟩ := h
 exact ⟨vs, h1.grows hg, fun i x hx => by obtain ⟨B, c, hi, r⟩ := h2 i x hx; exact ⟨B, c, hi.grows hg, r⟩⟩
theorem Chs.mono {ok2 : Nat → Prop} (h : Chs w ok A L) (hk : ∀ k, ok k → ok2 k) : Chs w ok2 A L := by
 obtain ⟨vs, h1, h2⟩ := h
 exact ⟨vs, h1.mono hk, fun i x hx => by obtain ⟨B, c, hi, r⟩ := h2 i x hx; exact ⟨B, c, hi.mono hk, r⟩⟩
theorem Chs.grown (h : Chs w ok A L) (hg : w.grownBy w' row) (hr : ∀ g, row = some g → ¬ ok g) : Chs w' ok A L := by
 obtain ⟨vs, h1, h2⟩ := h
 exact ⟨vs, h1.grown hg hr, fun i x hx => by obtain ⟨B, c, hi, r⟩ := h2 i x hx; exact ⟨B, c, RdB.grown hi hg hr, r⟩⟩
theorem Chs.elem (h : Chs w ok A L) (hB : Grows w wr) {k : Nat} (hk : k < L.length) : ∃ ad x B d, A = some ad ∧ ad.block < wr.heap.size ∧ L[k]? = some x ∧ x.m.length ≤ d ∧ InB w ok B x.m ∧ CellsB wr (ad.add (k * 4)) (.int .i64 x.k) (.int .i64 x.r) (.slice B x.m.length d) (.int .i64 x.s) := by
 obtain ⟨vs, h1, h2⟩ := h
 obtain ⟨ad, e, hb, hc⟩ := (Reads.grows h1.1 hB).2 (by omega)
 have hx := List.getElem?_eq_getElem hk
 obtain ⟨B, d, hi, hd, r⟩ := h2 k _ hx
 exact ⟨ad, _, B, d, e, hb, hx, hd, hi, cellsB_of rfl (fun j hj u hu => hc _ u ((r j hj).trans hu))⟩
end
/-- A row of choices of one's own: those at W are written. -/
def ChG (w : World) (b G n : Nat) (W : Nat → Prop) (f : Nat → Ch) : Prop := ∃ cs, Blk w G 42 cs ∧ cs.size = n * 4 ∧ ∀ i, i < n → W i → ∃ A c, (f i).m.length ≤ c ∧ InB w (fun k => b ≤ k ∧ k ≠ G) A (f i).m ∧ ∀ j < 4, cs[i * 4 + j]? = (chC (f i) A c)[j]?
/-- A choice, written. -/
def putC (w : World) (G k : Nat) (x : Ch) (A : Option Addr) (c : Nat) : World :=
 (((w.setCell ⟨G, k, none⟩ (.int .i64 x.k)).setCell ⟨G, k + 1, none⟩ (.int .i64 x.r)).setCell ⟨G, k + 2, none⟩ (.slice A x.m.length c)).setCell ⟨G, k + 3, none⟩ (.int .i64 x.s)
theorem putC_only (w : World) (G k : Nat) (x : Ch) (A : Option Addr) (c : Nat) : w.grownBy (putC w G k x A c) (some G) :=
 d_only_set (d_only_set (d_only_set (d_only_set (World.grownBy.refl w (some G)) k _) (k + 1) _) (k + 2) _) (k + 3) _
section
variable {w w' : World} {b G n : Nat} {W : Nat → Prop} {f : Nat → Ch}
theorem ChG.grows (h : ChG w b G n W f) (hg : Grows w w') : ChG w' b G n W f := by
 obtain ⟨cs, h1, h2, h3⟩ := h
 exact ⟨cs, h1.grows hg, h2, fun i hi hw => by obtain ⟨A, c, hc, hx, r⟩ := h3 i hi hw; exact ⟨A, c, hc, hx.grows hg, r⟩⟩
theorem ChG.lt (h : ChG w b G n W f) : G < w.heap.size := by
 obtain ⟨cs, h1, -⟩ := h
 exact h1.lt
theorem ChG.sub {W2 : Nat → Prop} (h : ChG w b G n W f) (hs : ∀ i, i < n → W2 i → W i) : ChG w b G n W2 f := by
 obtain ⟨cs, h1, h2, h3⟩ := h
 exact ⟨cs, h1, h2, fun i hi hw => h3 i hi (hs i hi hw)⟩
theorem ChG.made {xs : List Value} (h : w.ownsRow b 42 4 (.slice (some ⟨G, 0, none⟩) n n) n xs) : ChG w b G n (fun _ => False) f := by
 obtain ⟨h0, h1⟩ := h
 rcases h1 with ⟨e, _⟩ | ⟨g, cap, cur, e, hb, hh, hn, hm, hs, ht⟩
 ·injection e with e; cases e
 ·injection e with e1 e2 e3
  injection e1 with e1
  injection e1 with e1
  subst e1
  have e3 : n = cap := e3
  exact ⟨cur, hh, by rw [hs, ← e3], fun i hi hw => hw.elim⟩
/-- The cells of one choice, written or not. -/
theorem ChG.old (h : ChG w b G n W f) {i : Nat} (hi : i < n) : ∃ v0 v1 v2 v3, w.cell? ⟨G, i * 4, none⟩ = some v0 ∧ w.cell? ⟨G, i * 4 + 1, none⟩ = some v1 ∧ w.cell? ⟨G, i * 4 + 2, none⟩ = some v2 ∧ w.cell? ⟨G, i * 4 + 3, none⟩ = some v3 ∧ w.frozen? ⟨G, i * 4, none⟩ = false ∧ w.frozen? ⟨G, i * 4 + 1, none⟩ = false ∧ w.frozen? ⟨G, i * 4 + 2, none⟩ = false ∧ w.frozen? ⟨G, i * 4 + 3, none⟩ = false := by
 obtain ⟨cs, h1, h2, -⟩ := h
 have e : ∀ j, j < 4 → ∃ v, w.cell? ⟨G, i * 4 + j, none⟩ = some v := fun j hj => ⟨_, (h1.cell (i * 4 + j)).trans (Array.getElem?_eq_getElem (by omega))⟩
 obtain ⟨v0, e0⟩ := e 0 (by omega)
 obtain ⟨v1, e1⟩ := e 1 (by omega)
 obtain ⟨v2, e2⟩ := e 2 (by omega)
 obtain ⟨v3, e3⟩ := e 3 (by omega)
 exact ⟨v0, v1, v2, v3, e0, e1, e2, e3, h1.frozen _, h1.frozen _, h1.frozen _, h1.frozen _⟩
theorem ChG.at_ (h : ChG w b G n W f) {i : Nat} (hi : i < n) (hw : W i) : ∃ A c, (f i).m.length ≤ c ∧ InB w (fun k => b ≤ k ∧ k ≠ G) A (f i).m ∧ CellsB w ⟨G, i * 4, none⟩ (.int .i64 (f i).k) (.int .i64 (f i).r) (.slice A (f i).m.length c) (.int .i64 (f i).s) := by
 obtain ⟨cs, h1, h2, h3⟩ := h
 obtain ⟨A, c, hc, hx, r⟩ := h3 i hi hw
 exact ⟨A, c, hc, hx, (h1.cell _).trans (r 0 (by omega)), (h1.cell _).trans (r 1 (by omega)), (h1.cell _).trans (r 2 (by omega)), (h1.cell _).trans (r 3 (by omega))⟩
theorem ChG.put (h : ChG w b G n W f) {i : Nat} (hi : i < n) {A : Option Addr} {c : Nat} (hc : (f i).m.length ≤ c) (hx : InB w (fun k => b ≤ k ∧ k ≠ G) A (f i).m) : ChG (putC w G (i * 4) (f i) A c) b G n (fun k => W k ∨ k = i) f := by
 obtain ⟨cs, h1, h2, h3⟩ := h
 have hk := (((h1.set_ (i * 4) (.int .i64 (f i).k)).set_ (i * 4 + 1) (.int .i64 (f i).r)).set_ (i * 4 + 2) (.slice A (f i).m.length c)).set_ (i * 4 + 3) (.int .i64 (f i).s)
 have hg := putC_only w G (i * 4) (f i) A c
 refine ⟨_, hk, by simp [h2], fun k hk hw => ?_⟩
 by_cases e : k = i
 ·subst e
  refine ⟨A, c, hc, RdB.grown hx hg (fun g e hh => by injection e with e; exact hh.2 e.symm), fun j hj => ?_⟩
  simp only [Array.getElem?_setIfInBounds, Array.size_setIfInBounds, h2]
  match j, hj with
  | 0, _ => rw [if_neg (by omega), if_neg (by omega), if_neg (by omega), if_pos (by omega), if_pos (by omega)]; rfl
  | 1, _ => rw [if_neg (by omega), if_neg (by omega), if_pos (by omega), if_pos (by omega)]; rfl
  | 2, _ => rw [if_neg (by omega), if_pos (by omega), if_pos (by omega)]; rfl
  | 3, _ => rw [if_pos (by omega), if_pos (by omega)]; rfl
 ·obtain ⟨A2, c2, hc2, hx2, r⟩ := h3 k hk (hw.resolve_right e)
  refine ⟨A2, c2, hc2, RdB.grown hx2 hg (fun g e hh => by injection e with e; exact hh.2 e.symm), fun j hj => ?_⟩
  rw [← r j hj]
  simp only [Array.getElem?_setIfInBounds]
  rw [if_neg (by omega), if_neg (by omega), if_neg (by omega), if_neg (by omega)]
theorem ChG.done (h : ChG w b G n W f) (hw : ∀ i, i < n → W i) (hb : b ≤ G) : Chs w (Ge b) (some ⟨G, 0, none⟩) ((List.range n).map f) := by
 obtain ⟨cs, h1, h2, h3⟩ := h
 refine ⟨cs.toList, ⟨⟨by simp [h2], fun _ => ⟨_, rfl, h1.lt, fun j u hu => ?_⟩⟩, fun _ ad e => by injection e with e; subst e; exact hb⟩, fun i x hx => ?_⟩
 ·rw [add_head, h1.cell, ← Array.getElem?_toList]
  exact hu
 ·rw [List.getElem?_map] at hx
  obtain ⟨k, hk, rfl⟩ := Option.map_eq_some_iff.1 hx
  have hi : i < n := by have := (List.getElem?_eq_some_iff.1 hk).1; simpa using this
  rw [List.getElem?_range hi] at hk
  injection hk with hk
  subst hk
  obtain ⟨A, c, hc, hx2, r⟩ := h3 i hi (hw i hi)
  exact ⟨A, c, hx2.mono (fun k hk => hk.1), hc, fun j hj => by rw [Array.getElem?_toList]; exact r j hj⟩
end
/-- What Choose gives. -/
def chooseF (l : List Pt) (want : Ch) : List Ch × (Int × Int) × Int :=
 if (forwardF l).2.2 ≠ 0 then ([], (forwardF l).2) else ((List.range l.length).map fun i => chUp l (forwardF l).1 want (l.length - 1) (l.length - 1 - i), (0, 0), 0)
theorem okc_bestL {c : Ch} {l : List Bx} (h : ∀ b ∈ l, OKB b) : OKC (bestL (topP c) c l).1 := by
 unfold bestL
 have key : ∀ (m : List Bx) (s : Ch × Bool), (∀ b ∈ m, OKB b) → OKC s.1 → OKC (m.foldl (bestStep (topP c) c) s).1 := by
  intro m
  induction m with
  | nil => exact fun s _ hs => hs
  | cons b m ih =>
   intro s hm hs
   refine ih _ (fun b hb => hm b (List.mem_cons_of_mem _ hb)) ?_
   unfold bestStep
   split
   ·exact okc_topP (hm b (List.mem_cons_self ..))
   ·exact hs
 exact key _ _ (boxes_ok h) okc_zero
theorem fl_prodF {d : Int} {a b : List Bx} (ha : FL a) (hb : FL b) : FL (productF d a b).1 := by
 rcases prodF_cases (d := d) ha hb with h | ⟨-, h, -⟩
 ·rw [h]; exact ⟨(fun b hb => by cases hb), by simp⟩
 ·exact h
theorem ch_okc {l : List Pt} {s : List (List Bx)} {want : Ch} {n : Nat} (hs : ∀ i, i ≤ n → FL (s.getD i [])) : ∀ m, m ≤ n → OKC (chUp l s want n m) := by
 intro m
 cases m with
 | zero => exact fun _ => okc_bestL (hs n (Nat.le_refl _)).okb
 | succ m =>
  intro h
  exact okc_bestL (fl_prodF (hs _ (by omega)) (fl_single _).1).okb
theorem choose_no {l : List Pt} {want : Ch} {ls : List (List Bx)} {a b e : Int} (h : forwardF l = (ls, (a, b), e)) (he : e ≠ 0) : chooseF l want = ([], (a, b), e) := by
 unfold chooseF
 rw [h, if_pos he]
theorem choose_yes {l : List Pt} {want : Ch} {ls : List (List Bx)} {a b : Int} (h : forwardF l = (ls, (a, b), 0)) : chooseF l want = ((List.range l.length).map fun i => chUp l ls want (l.length - 1) (l.length - 1 - i), (0, 0), 0) := by
 unfold chooseF
 rw [h, if_neg (by simp)]
/-- What is reached, when all is well. -/
theorem forward_fl {l : List Pt} (hk : ∀ p ∈ l, ∀ b ∈ p.b, I64 b.k) {ls : List (List Bx)} {a b : Int} (h : forwardF l = (ls, (a, b), 0)) : validC l = true ∧ fwUp l l.length = (ls, (0, 0), 0) ∧ ls.length = l.length ∧ ∀ i, i < l.length → FL (ls.getD i []) := by
 have hv : validC l = true := by
  cases hv : validC l
  ·rw [fw_bad hv] at h
   injection h with _ h
   injection h with _ h
   exact absurd h (by decide)
  ·rfl
 have e : fwUp l l.length = (ls, (a, b), 0) := by
  unfold forwardF at h
  rwa [if_pos hv] at h
 have h1 := (valid_ports hv).2.1
 have key := fun i hi => fw_ex (valid_ports hv).1 hk (Nat.le_refl l.length) (k := i) (by rw [e]) hi
 obtain ⟨-, -, -, -, g1, g2⟩ := key 0 (by omega)
 rw [e] at g1 g2
 have g2 : ((a, b), (0 : Int)) = ((0, 0), 0) := g2
 injection g2 with g2
 injection g2 with ga gb
 subst ga gb
 refine ⟨hv, e, g1, fun i hi => ?_⟩
 have := (key i hi).1
 rwa [e] at this
end Go.Proofs.YtjbkjgmcfommgaaGreat

namespace Go.Proofs.YtjbkjgmcfommgaaGreat
open Go.RowKit
theorem CellsB.grows {w w' : World} {p : Addr} {v0 v1 v2 v3 : Value} (h : CellsB w p v0 v1 v2 v3) (hg : Grows w w') (hp : p.block < w.heap.size) : CellsB w' p v0 v1 v2 v3 := by
 obtain ⟨h0, h1, h2, h3⟩ := h
 exact ⟨(Below.cell hg hp).trans h0, (Below.cell (p := ⟨p.block, p.off + 1, none⟩) hg hp).trans h1, (Below.cell (p := ⟨p.block, p.off + 2, none⟩) hg hp).trans h2, (Below.cell (p := ⟨p.block, p.off + 3, none⟩) hg hp).trans h3⟩
/-- A best choice, as a call gives it. -/
def PsBest (b : Nat) (x : Ch) (o : Bool) : GP := ⟨fun w v => ∃ A c, v = .tuple #[.agg #[.int .i64 x.k, .int .i64 x.r, .slice A x.m.length c, .int .i64 x.s], .bool o] ∧ x.m.length ≤ c ∧ InB w (Ge b) A x.m, fun w w' v h hg => by obtain ⟨A, c, e, hc, hx⟩ := h; exact ⟨A, c, e, hc, hx.grows hg⟩⟩
def PsCh (b : Nat) (x : Ch) : GP := ⟨fun w v => ∃ A c, v = .agg #[.int .i64 x.k, .int .i64 x.r, .slice A x.m.length c, .int .i64 x.s] ∧ x.m.length ≤ c ∧ InB w (Ge b) A x.m, fun w w' v h hg => by obtain ⟨A, c, e, hc, hx⟩ := h; exact ⟨A, c, e, hc, hx.grows hg⟩⟩
theorem ch_last {l : List Pt} {ls : List (List Bx)} {want : Ch} {N : Nat} (hN : l.length = N + 1) : chUp l ls want (l.length - 1) (l.length - 1 - N) = (bestL (topP want) want (ls.getD N [])).1 := by
 rw [hN, show N + 1 - 1 = N from rfl, Nat.sub_self]
 rfl
theorem ch_step {l : List Pt} {ls : List (List Bx)} {want : Ch} {N j : Nat} (hN : l.length = N + 1) (hj : j < N) : chUp l ls want (l.length - 1) (l.length - 1 - j) = backP (keptD (l.getD j noPt)) (ls.getD j []) (chUp l ls want (l.length - 1) (l.length - 1 - (j + 1))) := by
 rw [hN, show N + 1 - 1 = N from rfl, show N - j = N - (j + 1) + 1 by omega]
 show backP (keptD (l.getD (N - (N - (j + 1) + 1)) noPt)) (ls.getD (N - (N - (j + 1) + 1)) []) _ = _
 rw [show N - (N - (j + 1) + 1) = j by omega]
theorem At.all {md : Region.Mode} {ops : Array Oper} {i : Nat} {L : Ran} (h : At md ops i L) (n g : Nat) (hk : (((List.range n).filter (· != g)).all fun j => (needs md ops 4 i).contains j) = true) : ∀ j, j < n → j ≠ g → L j = true := fun j h1 h2 => h.need j (List.all_eq_true.1 hk j (List.mem_filter.2 ⟨List.mem_range.2 h1, by simpa using h2⟩))
set_option maxRecDepth 100000 in
theorem ch_info : ∃ i : TypeInfo, Tryz.prog.info? 42 = some i ∧ i.size = 4 ∧ i.bytes = 48 ∧ i.zero = some (.agg #[.int .i64 0, .int .i64 0, .slice none 0 0, .int .i64 0]) ∧ (Value.agg #[.int .i64 0, .int .i64 0, .slice none 0 0, .int .i64 0]).cells.size = 4 := ⟨_, by first | exact Tryz.info42 | rfl, rfl, rfl, rfl, rfl⟩
set_option maxHeartbeats 64000000 in
set_option maxRecDepth 10000 in
theorem choose_any {ok ow : Nat → Prop} {A I : Option Addr} {c n ci : Nat} {l : List Pt} {want : Ch} {w : World} (hn : n = l.length) (h : Pts w ok A l) (hl : l.length ≤ 1000000) (ho : ∀ p ∈ l, (∀ b ∈ p.b, OKB b ∧ I64 b.k) ∧ p.b.length ≤ 1000000) (hi : InB w ow I want.m) (hok : OKC want) :
 Calls Tryz.prog 16 #[.slice A n c, .agg #[.int .i64 want.k, .int .i64 want.r, .slice I want.m.length ci, .int .i64 want.s]] w fun e w' => (∃ A' c', e = .returned (.tuple #[.slice A' (chooseF l want).1.length c', .agg #[.int .i64 (chooseF l want).2.1.1, .int .i64 (chooseF l want).2.1.2], .int .i64 (chooseF l want).2.2]) ∧ (chooseF l want).1.length ≤ c' ∧ Chs w' (Ge w.heap.size) A' (chooseF l want).1) ∧ Grows w w' := by
 subst hn
 have HO := Lib.hid ho
 clear ho
 have kw := (Blk.new w 42 #[.int .i64 want.k, .int .i64 want.r, .slice I want.m.length ci, .int .i64 want.s]).alloc (Obj.cells #[.int .i64 0, .int .i64 0] 32)
 have k5 := blk_new_at (X := w.alloc (Obj.cells #[.int .i64 want.k, .int .i64 want.r, .slice I want.m.length ci, .int .i64 want.s] 42)) (n := w.heap.size + 1) (t := 32) (cs := #[.int .i64 0, .int .i64 0]) (by simp)
 have hB := ((Below.refl w.heap.size w).alloc (Nat.le_refl _) (Obj.cells #[.int .i64 want.k, .int .i64 want.r, .slice I want.m.length ci, .int .i64 want.s] 42)).alloc (by simp) (Obj.cells #[.int .i64 0, .int .i64 0] 32)
 have hcon := fun (w0 : World) (hg : Grows w w0) => forward_any (w := w0) (c := c) rfl (h.grows hg) hl HO.out
 obtain ⟨⟨ls, ⟨fa, fb⟩, fe⟩, hf⟩ : ∃ f, forwardF l = f := ⟨_, rfl⟩
 simp only [hf] at hcon
 have HF := Lib.hid hf
 have HC := Lib.hid hcon
 clear hf hcon
 go_enter Tryz.func16, Tryz.ntmps16
 go_upto_region 1 with fail
 generalize World.alloc (World.alloc w _) _ = w1 at *
 go_wp2_with fail
 refine (HC.out _ hB).mono ?_
 rintro e w2 ⟨⟨v, rfl, hw⟩, hq⟩
 replace hB := below_grows hB (Nat.le_refl _) hq
 replace kw := kw.grows hq
 replace k5 := k5.grows hq
 obtain ⟨A7, c7, rfl, hc7, hlb⟩ := hw.lbx
 replace hlb := hlb.under
 clear hq hw HC
 have k8 := Blk.new w2 32 #[.int .i64 fa, .int .i64 fb]
 have hq := (Below.refl w2.heap.size w2).alloc (Nat.le_refl _) (Obj.cells #[.int .i64 fa, .int .i64 fb] 32)
 go_upto_region 2 with fail
 replace hB := below_grows hB (Nat.le_refl _) hq
 replace kw := kw.grows hq
 replace k5 := k5.grows hq
 replace hlb := hlb.grows hq
 clear hq
 generalize World.alloc w2 _ = w3 at *
 have hs2 := k8.lt
 have hs5 := k5.lt
 generalize w2.heap.size = q8 at *
 by_cases hfe : fe = 0
 ·subst hfe
  have e5 : ((0 : Int) != 0) = false := rfl
  have e6 : decide ((0 : Int) = 0) = true := rfl
  have HE := Lib.hid (choose_yes (want := want) HF.out)
  obtain ⟨hv, hup, hll, hfl⟩ := forward_fl (fun p hp b hb => ((HO.out p hp).1 b hb).2) HF.out
  have HFL := Lib.hid hfl
  have HLL := Lib.hid hll
  obtain ⟨h1l, h16⟩ := (valid_ports hv).2
  obtain ⟨N, hN⟩ : ∃ N, l.length = N + 1 := ⟨l.length - 1, by omega⟩
  have HN := Lib.hid hN
  have hwN : IntKind.i64.wrap ((l.length : Int) - 1) = (N : Int) := by rw [IntWalk.i64_in _ (by omega)]; omega
  have HOC : Hid (∀ i, i < l.length → OKC (chUp l ls want (l.length - 1) (l.length - 1 - i))) := Lib.hid (fun i hi => ch_okc (fun j hj => HFL.out j (by omega)) _ (by omega))
  have HLAST := Lib.hid (ch_last (l := l) (ls := ls) (want := want) hN)
  have HSTEP := Lib.hid (fun j hj => ch_step (l := l) (ls := ls) (want := want) (j := j) hN hj)
  generalize hfdef : (fun i => chUp l ls want (l.length - 1) (l.length - 1 - i)) = f at HE
  have HFD : Hid (∀ i, chUp l ls want (l.length - 1) (l.length - 1 - i) = f i) := Lib.hid (fun i => congrFun hfdef i)
  replace HOC := Lib.hid (fun i hi => HFD.out i ▸ HOC.out i hi)
  replace HLAST := Lib.hid ((HFD.out N).symm.trans HLAST.out)
  replace HSTEP := Lib.hid (fun j hj => ((HFD.out j).symm.trans (HSTEP.out j hj)).trans (by rw [HFD.out]))
  clear hv hup hll hfl hfdef hN HFD
  have hle4 : w.heap.size ≤ w3.heap.size := hB.size
  have b0 : (0 : Int) ≤ (l.length : Int) := by omega
  go_upto_region 4 with fail
  clear e5 e6
  refine wp_region_lit ?_
  iterate 2
   refine wpList_plain rfl (fun K hK => ?_)
   go_simp
   refine hK _ _ ?_
   clear hK K
  obtain ⟨i0, hi0, hi1, hi2, hi3, hi4⟩ := ch_info
  refine wpList_make_full _ rfl (.tmp 26) (.tmp 26) 43 rfl (w.heap.size + 2) 42 i0 _ 4 Tryz.underlying43 hi0 hi3 hi1 .i64 .i64 l.length l.length l.length rfl rfl rfl rfl (by rw [hi2]; omega) (by simp only [maxLen]; omega) (by omega) ?_
  intro w4 hown hgr
  have hch := ChG.made (f := f) hown
  have hg4 : Grows w3 w4 := Below.grown (Below.refl w3.heap.size w3) hgr (Nat.le_refl _) (fun q e => by cases e)
  replace kw := kw.grows hg4
  have hGge : w3.heap.size ≤ w3.heap.size := Nat.le_refl _
  generalize hGd : w3.heap.size = G at hch hGge ⊢
  replace hGge : w3.heap.size ≤ G := by omega
  clear hown hgr hi0 hi1 hi2 hi3 hi4 i0 hGd
  go_upto_region 6 with fail
  obtain ⟨ad7, xN, BN, dN, e7, had7, hxN, hdN, hcN, hbN⟩ := hlb.elem hg4 (k := N) (by have := HLL.out; have := HN.out; omega)
  subst e7
  have hB4 := below_grows hB (Nat.le_refl _) hg4
  have hGlt := hch.lt
  have hle5 : w.heap.size + 2 ≤ w4.heap.size := by have := hg4.size; omega
  have b1 : (0 : Int) ≤ (N : Int) := by omega
  have b2 : (N : Int) < (l.length : Int) := by have := HN.out; omega
  have b3 : (N : Int) < (ls.length : Int) := by have := HN.out; have := HLL.out; omega
  have b4 : N < l.length := by omega
  have b5 : N < ls.length := by omega
  have hgN : ls.getD N [] = xN := by rw [List.getD_eq_getElem?_getD, hxN]; rfl
  have hfN : FL xN := hgN ▸ HFL.out N b4
  have HBE := Lib.hid (fun (w0 : World) (hg : Grows w4 w0) => pbestl_any (w := w0) (c := dN) (ci := ci) (want := want) (I := I) (hbN.grows (below_grows hg4 (Nat.le_refl _) hg)) (by have := hfN.2; omega) hdN hfN.okb (fun b hb => (hfN.1 b hb).2) (InB.ints (hi.grows (below_grows hB4 (Nat.le_refl _) hg))) hok)
  have HX0 := HLAST.out
  rw [hgN] at HX0
  generalize bestL (topP want) want xN = XO at *
  obtain ⟨X, bo⟩ := XO
  have HX : Hid (f N = X) := Lib.hid HX0
  clear HX0 hgN hfN hxN HLAST
  have had7c : (ad7.add N).block < w4.heap.size := by rw [block_of_add]; exact had7
  obtain ⟨S, HI, HO⟩ := hideS fun (L : Ran) (vs : Nat → Value) (w' : World) => ((L 12 = false → Grows w4 w' ∧ DsS [none, none, none, none, none, none, none, some (PsBest w4.heap.size X bo), some (PsBest w4.heap.size X bo), some (PsCh w4.heap.size X), none, none, none] L vs w') ∧ KnS [some (.slice (some ⟨G, 0, none⟩) l.length l.length), some (.int .i64 N), some (.slice (some ad7) ls.length c7), some (.int .i64 N), some (.pointer (some (ad7.add N))), some (.slice BN xN.length dN), some (.agg #[.int .i64 want.k, .int .i64 want.r, .slice I want.m.length ci, .int .i64 want.s]), none, none, none, none, some (.pointer (some ⟨G, N * 4, none⟩)), none] L vs ∧ (L 12 = true → (∀ j, j < 12 → j ≠ 10 → L j = true) ∧ (∃ t u, vs 8 = .tuple #[t, u]) ∧ w4.grownBy w' (some G) ∧ ChG w' (w.heap.size + 2) G l.length (fun k => False ∨ k = N) f))
  refine wp_region_genT S 13 84 (by kernel_rfl) (by kernel_rfl) rfl ?_ ?_
  ·exact HI.out _ _ _ ⟨fun _ => ⟨Grows.drew' _, ds_none _ _ _⟩, kn_none _ _, fun h => by cases h⟩
  simp only [List.take_succ_cons, List.take_zero, List.drop_succ_cons, List.drop_zero]
  refine gent_consR (fun vs L w1 hL hw1 => ?_) ?_
  ·obtain ⟨p0, q1, p2⟩ := HO.out _ _ _ hw1
   refine gen_plain rfl ?_
   have ns : L 12 = false := by
    cases h : L 12
    ·rfl
    ·exact absurd ((p2 h).1 0 (by omega) (by omega)) (by rw [hL.1]; simp)
   obtain ⟨q0, q2⟩ := p0 ns
   go_simp
   exact gr_val (HI.out _ _ _ ⟨fun _ => ⟨q0, ds_free q2 rfl⟩, kn_known q1 rfl, fun h => absurd (show L 12 = true from h) (by rw [ns]; simp)⟩)
  refine gent_consR (fun vs L w1 hL hw1 => ?_) ?_
  ·obtain ⟨p0, q1, p2⟩ := HO.out _ _ _ hw1
   refine gen_plain rfl ?_
   have ns : L 12 = false := by
    cases h : L 12
    ·rfl
    ·exact absurd ((p2 h).1 1 (by omega) (by omega)) (by rw [hL.1]; simp)
   obtain ⟨q0, q2⟩ := p0 ns
   go_simp
   exact gr_val (HI.out _ _ _ ⟨fun _ => ⟨q0, ds_free q2 rfl⟩, kn_known q1 rfl, fun h => absurd (show L 12 = true from h) (by rw [ns]; simp)⟩)
  refine gent_consR (fun vs L w1 hL hw1 => ?_) ?_
  ·obtain ⟨p0, q1, p2⟩ := HO.out _ _ _ hw1
   refine gen_plain rfl ?_
   have ns : L 12 = false := by
    cases h : L 12
    ·rfl
    ·exact absurd ((p2 h).1 2 (by omega) (by omega)) (by rw [hL.1]; simp)
   obtain ⟨q0, q2⟩ := p0 ns
   go_simp
   exact gr_val (HI.out _ _ _ ⟨fun _ => ⟨q0, ds_free q2 rfl⟩, kn_known q1 rfl, fun h => absurd (show L 12 = true from h) (by rw [ns]; simp)⟩)
  refine gent_consR (fun vs L w1 hL hw1 => ?_) ?_
  ·obtain ⟨p0, q1, p2⟩ := HO.out _ _ _ hw1
   refine gen_plain rfl ?_
   have ns : L 12 = false := by
    cases h : L 12
    ·rfl
    ·exact absurd ((p2 h).1 3 (by omega) (by omega)) (by rw [hL.1]; simp)
   obtain ⟨q0, q2⟩ := p0 ns
   go_simp
   exact gr_val (HI.out _ _ _ ⟨fun _ => ⟨q0, ds_free q2 rfl⟩, kn_known q1 rfl, fun h => absurd (show L 12 = true from h) (by rw [ns]; simp)⟩)
  refine gent_consR (fun vs L w1 hL hw1 => ?_) ?_
  ·obtain ⟨p0, q1, p2⟩ := HO.out _ _ _ hw1
   refine gen_plain rfl ?_
   have ns : L 12 = false := by
    cases h : L 12
    ·rfl
    ·exact absurd ((p2 h).1 4 (by omega) (by omega)) (by rw [hL.1]; simp)
   obtain ⟨q0, q2⟩ := p0 ns
   have l2 : L 2 = true := hL.need 2 (by kernel_rfl)
   have e2 := q1 2 _ rfl l2
   have l3 : L 3 = true := hL.need 3 (by kernel_rfl)
   have e3 := q1 3 _ rfl l3
   simp only [e2, e3]
   go_simp
   exact gr_val (HI.out _ _ _ ⟨fun _ => ⟨q0, ds_free q2 rfl⟩, kn_known q1 rfl, fun h => absurd (show L 12 = true from h) (by rw [ns]; simp)⟩)
  refine gent_consR (fun vs L w1 hL hw1 => ?_) ?_
  ·obtain ⟨p0, q1, p2⟩ := HO.out _ _ _ hw1
   refine gen_plain rfl ?_
   have ns : L 12 = false := by
    cases h : L 12
    ·rfl
    ·exact absurd ((p2 h).1 5 (by omega) (by omega)) (by rw [hL.1]; simp)
   obtain ⟨q0, q2⟩ := p0 ns
   have l4 : L 4 = true := hL.need 4 (by kernel_rfl)
   have e4 := q1 4 _ rfl l4
   simp only [e4]
   have xb := (Below.cell q0 had7c).trans hcN
   go_simp
   exact gr_val (HI.out _ _ _ ⟨fun _ => ⟨q0, ds_free q2 rfl⟩, kn_known q1 rfl, fun h => absurd (show L 12 = true from h) (by rw [ns]; simp)⟩)
  refine gent_consR (fun vs L w1 hL hw1 => ?_) ?_
  ·obtain ⟨p0, q1, p2⟩ := HO.out _ _ _ hw1
   refine gen_plain rfl ?_
   have ns : L 12 = false := by
    cases h : L 12
    ·rfl
    ·exact absurd ((p2 h).1 6 (by omega) (by omega)) (by rw [hL.1]; simp)
   obtain ⟨q0, q2⟩ := p0 ns
   have xb := (kw.grows q0).cell
   go_simp
   exact gr_val (HI.out _ _ _ ⟨fun _ => ⟨q0, ds_free q2 rfl⟩, kn_known q1 rfl, fun h => absurd (show L 12 = true from h) (by rw [ns]; simp)⟩)
  refine gent_consR (fun vs L w1 hL hw1 => ?_) ?_
  ·obtain ⟨p0, q1, p2⟩ := HO.out _ _ _ hw1
   refine gen_plain rfl ?_
   have ns : L 12 = false := by
    cases h : L 12
    ·rfl
    ·exact absurd ((p2 h).1 7 (by omega) (by omega)) (by rw [hL.1]; simp)
   obtain ⟨q0, q2⟩ := p0 ns
   have l5 : L 5 = true := hL.need 5 (by kernel_rfl)
   have e5 := q1 5 _ rfl l5
   have l6 : L 6 = true := hL.need 6 (by kernel_rfl)
   have e6 := q1 6 _ rfl l6
   simp only [e5, e6]
   go_simp
   refine gr_call ?_
   refine (HBE.out _ q0).mono ?_
   rintro e w6 ⟨⟨v6, rfl, A9, c9, rfl, hc9, hx9⟩, hg⟩
   have hsz := q0.size
   exact ⟨_, rfl, HI.out _ _ _ ⟨fun _ => ⟨below_grows q0 (Nat.le_refl _) hg, ds_put (q2.grows hg) rfl ⟨A9, c9, rfl, hc9, RdB.mono hx9 (fun k hk => by unfold Ge at *; omega)⟩⟩, kn_free q1 rfl, fun h => absurd (show L 12 = true from h) (by rw [ns]; simp)⟩⟩
  refine gent_consR (fun vs L w1 hL hw1 => ?_) ?_
  ·obtain ⟨p0, q1, p2⟩ := HO.out _ _ _ hw1
   refine gen_plain rfl ?_
   have ns : L 12 = false := by
    cases h : L 12
    ·rfl
    ·exact absurd ((p2 h).1 8 (by omega) (by omega)) (by rw [hL.1]; simp)
   obtain ⟨q0, q2⟩ := p0 ns
   have l7 : L 7 = true := hL.need 7 (by kernel_rfl)
   have p7 := q2 7 _ rfl l7
   go_simp
   exact gr_val (HI.out _ _ _ ⟨fun _ => ⟨q0, ds_put q2 rfl p7⟩, kn_free q1 rfl, fun h => absurd (show L 12 = true from h) (by rw [ns]; simp)⟩)
  refine gent_consR (fun vs L w1 hL hw1 => ?_) ?_
  ·obtain ⟨p0, q1, p2⟩ := HO.out _ _ _ hw1
   refine gen_plain rfl ?_
   have ns : L 12 = false := by
    cases h : L 12
    ·rfl
    ·exact absurd ((p2 h).1 9 (by omega) (by omega)) (by rw [hL.1]; simp)
   obtain ⟨q0, q2⟩ := p0 ns
   have l8 : L 8 = true := hL.need 8 (by kernel_rfl)
   obtain ⟨A9, c9, e9, hc9, hx9⟩ := q2 8 _ rfl l8
   simp only [e9]
   go_simp
   exact gr_val (HI.out _ _ _ ⟨fun _ => ⟨q0, ds_put q2 rfl ⟨A9, c9, rfl, hc9, hx9⟩⟩, kn_free q1 rfl, fun h => absurd (show L 12 = true from h) (by rw [ns]; simp)⟩)
  refine gent_consR (fun vs L w1 hL hw1 => ?_) ?_
  ·obtain ⟨p0, q1, p2⟩ := HO.out _ _ _ hw1
   refine gen_plain rfl ?_
   have htup : ∃ t u, vs 8 = .tuple #[t, u] := by
    cases h : L 12
    ·obtain ⟨A9, c9, e9, -⟩ := (p0 h).2 8 _ rfl (hL.need 8 (by kernel_rfl))
     exact ⟨_, _, e9⟩
    ·exact (p2 h).2.1
   obtain ⟨t, u, e9⟩ := htup
   simp only [e9]
   go_simp
   exact gr_val (HI.out _ _ _ ⟨fun h => ⟨(p0 h).1, ds_free (p0 h).2 rfl⟩, kn_free q1 rfl, fun h => ⟨(fun j h1 h2 => by have := (p2 h).1 j h1 h2; unfold upd; rw [if_neg h2]; exact this), ⟨t, u, (show vs 8 = _ from e9)⟩, (p2 h).2.2⟩⟩)
  refine gent_consR (fun vs L w1 hL hw1 => ?_) ?_
  ·obtain ⟨p0, q1, p2⟩ := HO.out _ _ _ hw1
   refine gen_plain rfl ?_
   have ns : L 12 = false := by
    cases h : L 12
    ·rfl
    ·exact absurd ((p2 h).1 11 (by omega) (by omega)) (by rw [hL.1]; simp)
   obtain ⟨q0, q2⟩ := p0 ns
   have l0 : L 0 = true := hL.need 0 (by kernel_rfl)
   have e0 := q1 0 _ rfl l0
   have l1 : L 1 = true := hL.need 1 (by kernel_rfl)
   have e1 := q1 1 _ rfl l1
   simp only [e0, e1]
   go_simp
   exact gr_val (HI.out _ _ _ ⟨fun _ => ⟨q0, ds_free q2 rfl⟩, kn_known q1 rfl, fun h => absurd (show L 12 = true from h) (by rw [ns]; simp)⟩)
  refine gent_consR (fun vs L w1 hL hw1 => ?_) ?_
  ·obtain ⟨p0, q1, p2⟩ := HO.out _ _ _ hw1
   refine gen_plain rfl ?_
   have ns : L 12 = false := hL.1
   obtain ⟨q0, q2⟩ := p0 ns
   have l11 : L 11 = true := hL.need 11 (by kernel_rfl)
   have e11 := q1 11 _ rfl l11
   obtain ⟨A9, c9, e9, hc9, hx9⟩ := q2 9 _ rfl (hL.need 9 (by kernel_rfl))
   obtain ⟨A8, c8, e8, -, -⟩ := q2 8 _ rfl (hL.need 8 (by kernel_rfl))
   have hc0 := hch.grows q0
   obtain ⟨v0, v1, v2, v3, y0, y1, y2, y3, z0, z1, z2, z3⟩ := hc0.old (i := N) (by omega)
   have hcp := hc0.put (i := N) (A := A9) (c := c9) (by omega) (by rw [HX.out]; exact hc9) (by rw [HX.out]; exact hx9.mono (fun k hk => by unfold Ge at hk; omega))
   rw [HX.out] at hcp
   simp only [e11, e9, add_head]
   go_simp
   refine gr_skip ?_
   show S (upd L 12) (setV vs 12 undef) (putC w1 G (N * 4) X A9 c9)
   exact HI.out _ _ _ ⟨fun h => absurd (show true = false from h) (by simp), kn_free q1 rfl, fun _ => ⟨(fun j h1 h2 => by have := hL.all 12 10 (by kernel_rfl) j h1 h2; unfold upd; split <;> first | rfl | exact this), ⟨_, _, (show vs 8 = _ from e8)⟩, only_trans (d_only_grows (World.grownBy.refl w4 (some G)) q0) (putC_only w1 G (N * 4) X A9 c9), hcp⟩⟩
  refine gent_nil ?_
  intro vs L W2 hall hS
  obtain ⟨-, q1, p2⟩ := HO.out _ _ _ hS
  obtain ⟨-, -, hgb, hch2⟩ := p2 (hall 12 (by omega))
  clear hall hS HI HO p2 q1 HX hch HBE had7c hcN hbN
  iterate 13
   try generalize vs _ = yv
  replace hg4 := Below.grown hg4 hgb hg4.size (fun q e => by injection e with e; omega)
  have hch := ChG.sub (W2 := fun k => N ≤ k) hch2 (fun k hk hw => .inr (by have := HN.out; omega))
  clear hch2 hgb hB4 hGlt hle5 had7 hdN kw
  have hwN2 : IntKind.i64.wrap ((N : Int) - 1) = (N : Int) - 1 := IntWalk.i64_in _ (by omega)
  generalize W2 = w5 at *
  go_wp2_with fail
  go_loopw [12] (fun i wr => ∃ (j m : Nat) (z : Int), j + m = N ∧ i = .int .i64 z ∧ Hid (z = (j : Int) - 1) ∧ ChG wr (w.heap.size + 2) G l.length (fun k => j ≤ k) f ∧ Below w3.heap.size w3 wr) (fun i _ => (intOf i + 1).toNat)
  case atStart => exact ⟨N, 0, _, by omega, rfl, Lib.hid rfl, hch, hg4⟩
  case round =>
   clear hch hg4
   obtain ⟨j, m, z, hjm, rfl, HZ, hch, hg4⟩ := hrel
   have hB4 := below_grows hB (Nat.le_refl _) hg4
   have hGlt := hch.lt
   have hle5 : w.heap.size + 2 ≤ wr.heap.size := by have := hg4.size; omega
   have hle6 : w3.heap.size ≤ wr.heap.size := hg4.size
   cases j with
   | zero =>
    have hz : z = -1 := HZ.out
    subst hz
    have d1 : decide ((0 : Int) ≤ -1) = false := by decide
    replace k5 := k5.below hg4 hs5
    have x5 := k5.cell
    have f5 := k5.frozen
    have hdone := ChG.done hch (fun i _ => Nat.zero_le i) (by omega)
    have hB3 := (hB4.setCell (p := ⟨w.heap.size + 1, 0, none⟩) (by simp) (.int .i64 0)).setCell (p := ⟨w.heap.size + 1, 1, none⟩) (by simp) (.int .i64 0)
    have x3z := ((k5.set_ 0 (.int .i64 0)).set_ 1 (.int .i64 0)).cell
    have hlen : ((List.range l.length).map f).length = l.length := by rw [List.length_map, List.length_range]
    go_wp2
    have hd2 := (hdone.grown (d_only_set (d_only_set (World.grownBy.refl wr (some (w.heap.size + 1))) 0 (.int .i64 0)) 1 (.int .i64 0)) (fun g e hh => by injection e with e; unfold Ge at hh; omega)).mono (ok2 := Ge w.heap.size) (fun k hk => by unfold Ge at *; omega)
    generalize World.setCell (World.setCell wr _ _) _ _ = wz at *
    refine bodyPost_ret (v := .tuple #[.slice (some ⟨G, 0, none⟩) l.length l.length, .agg #[.int .i64 0, .int .i64 0], .int .i64 0]) (by simp [results, Tryz.results16, go_sem, x3z]) rfl ?_
    rw [HE.out]
    exact ⟨⟨some ⟨G, 0, none⟩, l.length, by rw [hlen], by rw [hlen]; exact Nat.le_refl _, hd2⟩, hB3⟩
   | succ j =>
    obtain rfl : z = (j : Int) := by have := HZ.out; omega
    obtain ⟨j1, hj1⟩ : ∃ j1, j + 1 = j1 := ⟨_, rfl⟩
    replace hch := ChG.sub (W2 := fun k => j1 ≤ k) hch (fun k _ hw => by omega)
    have HJ1 := Lib.hid hj1
    have HJM := Lib.hid hjm
    clear hj1 hjm
    have d1 : decide ((0 : Int) ≤ (j : Int)) = true := by simp only [decide_eq_true_eq]; omega
    have d2 : decide (0 ≤ j) = true := by simp only [decide_eq_true_eq]; omega
    have hwj : IntKind.i64.wrap ((j : Int) + 1) = (j1 : Int) := by rw [IntWalk.i64_in _ (by have := HN.out; have := HJM.out; omega)]; have := HJ1.out; omega
    have hwm : IntKind.i64.wrap ((j : Int) - 1) = (j : Int) - 1 := IntWalk.i64_in _ (by have := HN.out; have := HJM.out; omega)
    have c1 : (0 : Int) ≤ (j : Int) := by omega
    have c2 : (j : Int) < (l.length : Int) := by have := HN.out; have := HJM.out; omega
    have c3 : (j : Int) < (ls.length : Int) := by have := HN.out; have := HLL.out; have := HJM.out; omega
    have c4 : (j1 : Int) < (l.length : Int) := by have := HN.out; have := HJM.out; have := HJ1.out; omega
    have c5 : (0 : Int) ≤ (j1 : Int) := by omega
    have c6 : j < l.length := by omega
    have c7_ : j < ls.length := by omega
    have c8 : j1 < l.length := by omega
    obtain ⟨ad8, xN, BN, dN, e7, had7, hxN, hdN, hcN, hbN⟩ := hlb.elem hg4 (k := j) c7_
    injection e7 with e7
    subst e7
    obtain ⟨ad, p, B, cp, e1, had, hp, -, -, q20, q21⟩ := h.elem hB4 (k := j) c6
    subst e1
    obtain ⟨AY, cY, hcY, hiY, hcellY⟩ := hch.at_ (i := j1) c8 (Nat.le_refl _)
    have hOY := HOC.out j1 c8
    have hst := HSTEP.out j (by have := HJM.out; omega)
    rw [show ls.getD j [] = xN by rw [List.getD_eq_getElem?_getD, hxN]; rfl, show l.getD j noPt = p by rw [List.getD_eq_getElem?_getD, hp]; rfl, HJ1.out] at hst
    have hfN : FL xN := by
     have := HFL.out j c6
     rwa [show ls.getD j [] = xN by rw [List.getD_eq_getElem?_getD, hxN]; rfl] at this
    generalize f j1 = Y at *
    have HX0 : Hid (f j = (bestL (topP Y) Y (productF (bits .andNot .i64 15 p.v) xN (singleF Y)).1).1) := Lib.hid hst
    have HFS := Lib.hid (fl_single Y).1
    have hls1 : (singleF Y).length ≤ 1 := (fl_single Y).2.2
    have HFP := Lib.hid (fl_prodF (d := bits .andNot .i64 15 p.v) hfN (fl_single Y).1)
    have HFN := Lib.hid hfN
    have hlN := hfN.2
    clear hst hxN hp hfN
    go_upto_region 10 with fail
    have HDD : Hid (∃ d, bits .andNot .i64 15 p.v = d) := Lib.hid ⟨_, rfl⟩
    obtain ⟨dd, hdd⟩ := HDD.out
    rw [hdd] at HX0 HFP
    have HDE := Lib.hid hdd
    clear hdd HDD
    have HS := Lib.hid (fun (w0 : World) (hg : Grows wr w0) => psingle_any (w := w0) (ci := cY) (InB.ints (hiY.grows hg)) hcY hOY.2.2)
    have HR := Lib.hid (fun (w0 : World) (A9 : Option Addr) (c9 : Nat) (hg : Grows wr w0) (h9 : Bxs w0 (Ge wr.heap.size) A9 (singleF Y)) => reach_any (w := w0) (c := dN) (d := c9) dd rfl rfl (hbN.grows (below_grows hg4 (Nat.le_refl _) hg)) h9 (by omega) (by omega) HFN.out.1 HFS.out.1)
    generalize singleF Y = sY at *
    generalize productF dd xN sY = pr at *
    obtain ⟨pl, pe⟩ := pr
    have HX1 : Hid (f j = (bestL (topP Y) Y pl).1) := HX0
    have HFP1 : Hid (FL pl) := HFP
    clear HX0 HFP
    have had7c : (ad7.add j).block < wr.heap.size := by rw [block_of_add]; exact had7
    have hadc : (ad.add (j * 2)).block < wr.heap.size := by rw [block_of_add]; exact had
    obtain ⟨S, HI, HO⟩ := hideS fun (L : Ran) (vs : Nat → Value) (w' : World) => (Grows wr w' ∧ KnS [some (.slice (some ad7) ls.length c7), some (.int .i64 j), some (.pointer (some (ad7.add j))), some (.slice BN xN.length dN), some (.slice (some ⟨G, 0, none⟩) l.length l.length), some (.int .i64 j), some (.int .i64 j1), some (.pointer (some ⟨G, j1 * 4, none⟩)), some (.agg #[.int .i64 Y.k, .int .i64 Y.r, .slice AY Y.m.length cY, .int .i64 Y.s]), none, some (.slice (some ad) l.length c), some (.int .i64 j), some (.pointer (some (ad.add (j * 2)))), some (.pointer (some { block := (ad.add (j * 2)).block, off := (ad.add (j * 2)).off + 1 })), some (.int .i64 p.v), some (.int .i64 dd), none, none, none, some (.int .i64 pe), none, some (.int .i64 pe)] L vs ∧ DsS [none, none, none, none, none, none, none, none, none, some (PsN wr.heap.size sY), none, none, none, none, none, none, some (PsT wr.heap.size pl pe), some (PsT wr.heap.size pl pe), some (PsN wr.heap.size pl), none, some (PsN wr.heap.size pl), none] L vs w')
    refine wp_region_genT S 22 84 (by kernel_rfl) (by kernel_rfl) rfl ?_ ?_
    ·exact HI.out _ _ _ ⟨Grows.drew' _, kn_none _ _, ds_none _ _ _⟩
    simp only [List.take_succ_cons, List.take_zero, List.drop_succ_cons, List.drop_zero]
    refine gent_consR (fun vs L w1 hL hw1 => ?_) ?_
    ·obtain ⟨q0, q1, q2⟩ := HO.out _ _ _ hw1
     refine gen_plain rfl ?_
     go_simp
     exact gr_val (HI.out _ _ _ ⟨q0, kn_known q1 rfl, ds_free q2 rfl⟩)
    refine gent_consR (fun vs L w1 hL hw1 => ?_) ?_
    ·obtain ⟨q0, q1, q2⟩ := HO.out _ _ _ hw1
     refine gen_plain rfl ?_
     go_simp
     exact gr_val (HI.out _ _ _ ⟨q0, kn_known q1 rfl, ds_free q2 rfl⟩)
    refine gent_consR (fun vs L w1 hL hw1 => ?_) ?_
    ·obtain ⟨q0, q1, q2⟩ := HO.out _ _ _ hw1
     refine gen_plain rfl ?_
     have l0 : L 0 = true := hL.need 0 (by kernel_rfl)
     have e0 := q1 0 _ rfl l0
     have l1 : L 1 = true := hL.need 1 (by kernel_rfl)
     have e1 := q1 1 _ rfl l1
     simp only [e0, e1]
     go_simp
     exact gr_val (HI.out _ _ _ ⟨q0, kn_known q1 rfl, ds_free q2 rfl⟩)
    refine gent_consR (fun vs L w1 hL hw1 => ?_) ?_
    ·obtain ⟨q0, q1, q2⟩ := HO.out _ _ _ hw1
     refine gen_plain rfl ?_
     have l2 : L 2 = true := hL.need 2 (by kernel_rfl)
     have e2 := q1 2 _ rfl l2
     simp only [e2]
     have xb := (Below.cell q0 had7c).trans hcN
     go_simp
     exact gr_val (HI.out _ _ _ ⟨q0, kn_known q1 rfl, ds_free q2 rfl⟩)
    refine gent_consR (fun vs L w1 hL hw1 => ?_) ?_
    ·obtain ⟨q0, q1, q2⟩ := HO.out _ _ _ hw1
     refine gen_plain rfl ?_
     go_simp
     exact gr_val (HI.out _ _ _ ⟨q0, kn_known q1 rfl, ds_free q2 rfl⟩)
    refine gent_consR (fun vs L w1 hL hw1 => ?_) ?_
    ·obtain ⟨q0, q1, q2⟩ := HO.out _ _ _ hw1
     refine gen_plain rfl ?_
     go_simp
     exact gr_val (HI.out _ _ _ ⟨q0, kn_known q1 rfl, ds_free q2 rfl⟩)
    refine gent_consR (fun vs L w1 hL hw1 => ?_) ?_
    ·obtain ⟨q0, q1, q2⟩ := HO.out _ _ _ hw1
     refine gen_plain rfl ?_
     have l5 : L 5 = true := hL.need 5 (by kernel_rfl)
     have e5 := q1 5 _ rfl l5
     simp only [e5]
     go_simp
     exact gr_val (HI.out _ _ _ ⟨q0, kn_known q1 rfl, ds_free q2 rfl⟩)
    refine gent_consR (fun vs L w1 hL hw1 => ?_) ?_
    ·obtain ⟨q0, q1, q2⟩ := HO.out _ _ _ hw1
     refine gen_plain rfl ?_
     have l4 : L 4 = true := hL.need 4 (by kernel_rfl)
     have e4 := q1 4 _ rfl l4
     have l6 : L 6 = true := hL.need 6 (by kernel_rfl)
     have e6 := q1 6 _ rfl l6
     simp only [e4, e6]
     go_simp
     exact gr_val (HI.out _ _ _ ⟨q0, kn_known q1 rfl, ds_free q2 rfl⟩)
    refine gent_consR (fun vs L w1 hL hw1 => ?_) ?_
    ·obtain ⟨q0, q1, q2⟩ := HO.out _ _ _ hw1
     refine gen_plain rfl ?_
     have l7 : L 7 = true := hL.need 7 (by kernel_rfl)
     have e7 := q1 7 _ rfl l7
     simp only [e7]
     obtain ⟨y0, y1, y2, y3⟩ := hcellY.grows q0 (show G < _ by omega)
     go_simp
     exact gr_val (HI.out _ _ _ ⟨q0, kn_known q1 rfl, ds_free q2 rfl⟩)
    refine gent_consR (fun vs L w1 hL hw1 => ?_) ?_
    ·obtain ⟨q0, q1, q2⟩ := HO.out _ _ _ hw1
     refine gen_plain rfl ?_
     have l8 : L 8 = true := hL.need 8 (by kernel_rfl)
     have e8 := q1 8 _ rfl l8
     simp only [e8]
     go_simp
     refine gr_call ?_
     refine (HS.out _ q0).mono ?_
     rintro e w6 ⟨⟨A9, c9, rfl, hc9, hx9⟩, hg⟩
     have hsz := q0.size
     exact ⟨_, rfl, HI.out _ _ _ ⟨below_grows q0 (Nat.le_refl _) hg, kn_free q1 rfl, ds_put (q2.grows hg) rfl ⟨A9, c9, rfl, hc9, hx9.mono (fun k hk => by unfold Ge at *; omega)⟩⟩⟩
    refine gent_consR (fun vs L w1 hL hw1 => ?_) ?_
    ·obtain ⟨q0, q1, q2⟩ := HO.out _ _ _ hw1
     refine gen_plain rfl ?_
     go_simp
     exact gr_val (HI.out _ _ _ ⟨q0, kn_known q1 rfl, ds_free q2 rfl⟩)
    refine gent_consR (fun vs L w1 hL hw1 => ?_) ?_
    ·obtain ⟨q0, q1, q2⟩ := HO.out _ _ _ hw1
     refine gen_plain rfl ?_
     go_simp
     exact gr_val (HI.out _ _ _ ⟨q0, kn_known q1 rfl, ds_free q2 rfl⟩)
    refine gent_consR (fun vs L w1 hL hw1 => ?_) ?_
    ·obtain ⟨q0, q1, q2⟩ := HO.out _ _ _ hw1
     refine gen_plain rfl ?_
     have l10 : L 10 = true := hL.need 10 (by kernel_rfl)
     have e10 := q1 10 _ rfl l10
     have l11 : L 11 = true := hL.need 11 (by kernel_rfl)
     have e11 := q1 11 _ rfl l11
     simp only [e10, e11]
     go_simp
     exact gr_val (HI.out _ _ _ ⟨q0, kn_known q1 rfl, ds_free q2 rfl⟩)
    refine gent_consR (fun vs L w1 hL hw1 => ?_) ?_
    ·obtain ⟨q0, q1, q2⟩ := HO.out _ _ _ hw1
     refine gen_plain rfl ?_
     have l12 : L 12 = true := hL.need 12 (by kernel_rfl)
     have e12 := q1 12 _ rfl l12
     simp only [e12]
     go_simp
     exact gr_val (HI.out _ _ _ ⟨q0, kn_known q1 rfl, ds_free q2 rfl⟩)
    refine gent_consR (fun vs L w1 hL hw1 => ?_) ?_
    ·obtain ⟨q0, q1, q2⟩ := HO.out _ _ _ hw1
     refine gen_plain rfl ?_
     have l13 : L 13 = true := hL.need 13 (by kernel_rfl)
     have e13 := q1 13 _ rfl l13
     simp only [e13]
     have xb := (Below.cell (p := ⟨(ad.add (j * 2)).block, (ad.add (j * 2)).off + 1, none⟩) q0 hadc).trans q21
     go_simp
     exact gr_val (HI.out _ _ _ ⟨q0, kn_known q1 rfl, ds_free q2 rfl⟩)
    refine gent_consR (fun vs L w1 hL hw1 => ?_) ?_
    ·obtain ⟨q0, q1, q2⟩ := HO.out _ _ _ hw1
     refine gen_plain rfl ?_
     have l14 : L 14 = true := hL.need 14 (by kernel_rfl)
     have e14 := q1 14 _ rfl l14
     simp only [e14]
     go_simp
     rw [HDE.out]
     exact gr_val (HI.out _ _ _ ⟨q0, kn_known q1 rfl, ds_free q2 rfl⟩)
    refine gent_consR (fun vs L w1 hL hw1 => ?_) ?_
    ·obtain ⟨q0, q1, q2⟩ := HO.out _ _ _ hw1
     refine gen_plain rfl ?_
     have l3 : L 3 = true := hL.need 3 (by kernel_rfl)
     have e3 := q1 3 _ rfl l3
     have l15 : L 15 = true := hL.need 15 (by kernel_rfl)
     have e15 := q1 15 _ rfl l15
     simp only [e3, e15]
     obtain ⟨A9, c9, e9, hc9, hx9⟩ := q2 9 _ rfl (hL.need 9 (by kernel_rfl))
     simp only [e9]
     go_simp
     refine gr_call ?_
     refine (HR.out _ A9 c9 q0 hx9).mono ?_
     rintro e w6 ⟨⟨v6, rfl, hw6⟩, hg⟩
     obtain ⟨A9, c9, rfl, hc9, hx9⟩ := hw6.read
     have hsz := q0.size
     exact ⟨_, rfl, HI.out _ _ _ ⟨below_grows q0 (Nat.le_refl _) hg, kn_free q1 rfl, ds_put (q2.grows hg) rfl ⟨A9, c9, rfl, hc9, hx9.mono (fun k hk => by unfold Ge at *; omega)⟩⟩⟩
    refine gent_consR (fun vs L w1 hL hw1 => ?_) ?_
    ·obtain ⟨q0, q1, q2⟩ := HO.out _ _ _ hw1
     refine gen_plain rfl ?_
     have p16 := q2 16 _ rfl (hL.need 16 (by kernel_rfl))
     go_simp
     exact gr_val (HI.out _ _ _ ⟨q0, kn_free q1 rfl, ds_put q2 rfl p16⟩)
    refine gent_consR (fun vs L w1 hL hw1 => ?_) ?_
    ·obtain ⟨q0, q1, q2⟩ := HO.out _ _ _ hw1
     refine gen_plain rfl ?_
     obtain ⟨A9, c9, e9, hc9, hx9⟩ := q2 17 _ rfl (hL.need 17 (by kernel_rfl))
     simp only [e9]
     go_simp
     exact gr_val (HI.out _ _ _ ⟨q0, kn_free q1 rfl, ds_put q2 rfl ⟨A9, c9, rfl, hc9, hx9⟩⟩)
    refine gent_consR (fun vs L w1 hL hw1 => ?_) ?_
    ·obtain ⟨q0, q1, q2⟩ := HO.out _ _ _ hw1
     refine gen_plain rfl ?_
     obtain ⟨A9, c9, e9, hc9, hx9⟩ := q2 17 _ rfl (hL.need 17 (by kernel_rfl))
     simp only [e9]
     go_simp
     exact gr_val (HI.out _ _ _ ⟨q0, kn_known q1 rfl, ds_free q2 rfl⟩)
    refine gent_consR (fun vs L w1 hL hw1 => ?_) ?_
    ·obtain ⟨q0, q1, q2⟩ := HO.out _ _ _ hw1
     refine gen_plain rfl ?_
     have p18 := q2 18 _ rfl (hL.need 18 (by kernel_rfl))
     go_simp
     exact gr_val (HI.out _ _ _ ⟨q0, kn_free q1 rfl, ds_put q2 rfl p18⟩)
    refine gent_consR (fun vs L w1 hL hw1 => ?_) ?_
    ·obtain ⟨q0, q1, q2⟩ := HO.out _ _ _ hw1
     refine gen_plain rfl ?_
     have l19 : L 19 = true := hL.need 19 (by kernel_rfl)
     have e19 := q1 19 _ rfl l19
     simp only [e19]
     go_simp
     exact gr_val (HI.out _ _ _ ⟨q0, kn_known q1 rfl, ds_free q2 rfl⟩)
    refine gent_nil ?_
    intro vs L W2 hall hS
    obtain ⟨q0, q1, q2⟩ := HO.out _ _ _ hS
    have e21 := q1 21 _ rfl (hall 21 (by omega))
    obtain ⟨A9, c9, e20, hc9, hx9⟩ := q2 20 _ rfl (hall 20 (by omega))
    have hcellY2 := hcellY.grows q0 hGlt
    have hch1 := hch.grows q0
    have hg5 := below_grows hg4 (Nat.le_refl _) q0
    have hiY2 := RdB.grows hiY q0
    have hszW := q0.size
    have hl9 := HFP1.out.2
    clear hall hS HI HO q1 q2 hcellY hch hg4 hB4 hiY hcN had7c hadc hbN HS HR q20 q21
    simp only [e20, e21]
    clear e20 e21
    iterate 22
     try generalize vs _ = yv
    have hch := hch1
    have HBE := Lib.hid (fun (w0 : World) (hg : Grows W2 w0) => pbestl_any (w := w0) (c := c9) (ci := cY) (want := Y) (I := AY) (hx9.grows hg) (by omega) hc9 HFP1.out.okb (fun b hb => (HFP1.out.1 b hb).2) (InB.ints (hiY2.grows hg)) hOY)
    generalize bestL (topP Y) Y pl = XO at *
    obtain ⟨X, bo⟩ := XO
    have HX : Hid (f j = X) := HX1
    clear HX1 hch1
    have hGlt2 := hch.lt
    have hle7 : w.heap.size + 2 ≤ W2.heap.size := by omega
    obtain ⟨y0, y1, y2, y3⟩ := hcellY2
    go_wp2_with fail
    refine (HBE.out _ (Below.refl _ _)).mono ?_
    rintro e w7 ⟨⟨v7, rfl, A6, n6, rfl, hn6, hx6⟩, hq⟩
    have hsz7 := hq.size
    replace hg5 := below_grows hg5 (Nat.le_refl _) hq
    have hch2 := hch.grows hq
    clear hq HBE hch y0 y1 y2 y3 hx9
    obtain ⟨v0, v1, v2, v3, y0, y1, y2, y3, z0, z1, z2, z3⟩ := hch2.old (i := j) c6
    have hcp := hch2.put (i := j) (A := A6) (c := n6) c6 (by rw [HX.out]; exact hn6) (by rw [HX.out]; exact RdB.mono hx6 (fun k hk => by unfold Ge at hk; omega))
    rw [HX.out] at hcp
    have hg6 := Below.grown hg5 (putC_only w7 G (j * 4) X A6 n6) hg5.size (fun q e => by injection e with e; omega)
    have hch3 := ChG.sub (W2 := fun k => j ≤ k) hcp (fun k hk hw => by have := HJ1.out; omega)
    clear hch2 hcp hg5 hx6 HX
    go_wp2
    go_roundw
    case rel => exact ⟨j, m + 1, _, by have := HJM.out; omega, rfl, Lib.hid rfl, hch3, hg6⟩
    case measure => simp [intOf]
 ·have HE := Lib.hid (choose_no (want := want) HF.out hfe)
  have e5 : (fe != 0) = true := bne_iff_ne.2 hfe
  have e6 : decide (fe = 0) = false := decide_eq_false hfe
  have x5 := k5.cell
  have f5 := k5.frozen
  have x8 := k8.cell
  clear hfe h hi
  go_upto_region 3 with fail
  have hB3 := ((hB.setCell (p := ⟨w.heap.size + 1, 0, none⟩) (by simp) (.int .i64 fa)).setCell (p := ⟨w.heap.size + 1, 1, none⟩) (by simp) (.int .i64 fb)).drew
  have x3z := ((k5.set_ 0 (.int .i64 fa)).set_ 1 (.int .i64 fb)).drew.cell
  go_region
  go_wp2
  generalize World.drew _ = wz at *
  refine bodyPost_ret (v := .tuple #[.slice none 0 0, .agg #[.int .i64 fa, .int .i64 fb], .int .i64 fe]) (by simp [results, Tryz.results16, go_sem, x3z]) rfl ?_
  rw [HE.out]
  exact ⟨⟨none, 0, rfl, Nat.le_refl _, Chs.nil⟩, hB3⟩
end Go.Proofs.YtjbkjgmcfommgaaGreat

namespace Go.Proofs.YtjbkjgmcfommgaaGreat
open Go.RowKit
set_option maxHeartbeats 64000000 in
set_option maxRecDepth 10000 in
theorem agree_any {A B : Option Addr} {c d : Nat} {a b : Ch} {w : World} (dd : Int) (ia : Ints w A a.m) (ib : Ints w B b.m) (ha : a.m.length ≤ 1000000) (hb : b.m.length ≤ 1000000) :
 Calls Tryz.prog 43 #[.agg #[.int .i64 a.k, .int .i64 a.r, .slice A a.m.length c, .int .i64 a.s], .agg #[.int .i64 b.k, .int .i64 b.r, .slice B b.m.length d, .int .i64 b.s], .int .i64 dd] w fun e w' => e = .returned (.bool (agD dd a b)) ∧ Grows w w' := by
 have k3 := (Blk.new w 42 #[.int .i64 a.k, .int .i64 a.r, .slice A a.m.length c, .int .i64 a.s]).alloc (Obj.cells #[.int .i64 b.k, .int .i64 b.r, .slice B b.m.length d, .int .i64 b.s] 42)
 have k4 := blk_new_at (X := w.alloc (Obj.cells #[.int .i64 a.k, .int .i64 a.r, .slice A a.m.length c, .int .i64 a.s] 42)) (n := w.heap.size + 1) (t := 42) (cs := #[.int .i64 b.k, .int .i64 b.r, .slice B b.m.length d, .int .i64 b.s]) (by simp)
 have hB := ((Below.refl w.heap.size w).alloc (Nat.le_refl _) (Obj.cells #[.int .i64 a.k, .int .i64 a.r, .slice A a.m.length c, .int .i64 a.s] 42)).alloc (by simp) (Obj.cells #[.int .i64 b.k, .int .i64 b.r, .slice B b.m.length d, .int .i64 b.s] 42)
 go_enter Tryz.func43, Tryz.ntmps43
 go_upto_region 1 with fail
 have hs1 : (w.alloc (Obj.cells #[.int .i64 a.k, .int .i64 a.r, .slice A a.m.length c, .int .i64 a.s] 42)).heap.size = w.heap.size + 1 := by simp
 try rw [hs1] at k4
 clear hs1
 generalize World.alloc (World.alloc w _) _ = w2 at *
 have HG : Hid (agD dd a b = ((!bitZ dd 1 || decide (a.k = b.k)) && (!bitZ dd 2 || decide (a.r = b.r)) && (!bitZ dd 4 || decide (a.m = b.m)) && (!bitZ dd 8 || decide (a.s = b.s)))) := Lib.hid rfl
 have HC := Lib.hid (fun (w0 : World) (hg : Grows w2 w0) => psame_any A B c d a.m b.m w0 (Ints.grows (Ints.grows ia hB) hg) (Ints.grows (Ints.grows ib hB) hg) (by omega) (by omega))
 have x3 := k3.cell
 have x4 := k4.cell
 cases h1 : bitZ dd 1 with
 | false =>
  cases h2 : bitZ dd 2 with
  | false =>
   cases h3 : bitZ dd 4 with
   | false =>
    cases h4 : bitZ dd 8 with
    | false =>
     have HE : Hid (agD dd a b = true) := Lib.hid (HG.out.trans (by simp only [h1, h2, h3, h4, Bool.not_true, Bool.not_false, Bool.true_or, Bool.false_or, Bool.and_true, Bool.true_and, Bool.and_false, Bool.false_and]))
     have u1 : (bits .and .i64 dd 1 == 0) = true := by have := h1; unfold bitZ at this; simpa using this
     have t1 : decide (bits .and .i64 dd 1 = 0) = true := by have := u1; simpa using this
     have u2 : (bits .and .i64 dd 2 == 0) = true := by have := h2; unfold bitZ at this; simpa using this
     have t2 : decide (bits .and .i64 dd 2 = 0) = true := by have := u2; simpa using this
     have u3 : (bits .and .i64 dd 4 == 0) = true := by have := h3; unfold bitZ at this; simpa using this
     have t3 : decide (bits .and .i64 dd 4 = 0) = true := by have := u3; simpa using this
     have u4 : (bits .and .i64 dd 8 == 0) = true := by have := h4; unfold bitZ at this; simpa using this
     have t4 : decide (bits .and .i64 dd 8 = 0) = true := by have := u4; simpa using this
     clear HG h1 h2 h3 h4
     go_wp2
     go_ret
     exact ⟨ret_bool HE.out.symm, hB⟩
    | true =>
     cases g4 : decide (a.s = b.s) with
     | false =>
      have HE : Hid (agD dd a b = false) := Lib.hid (HG.out.trans (by simp only [h1, h2, h3, h4, g4, Bool.not_true, Bool.not_false, Bool.true_or, Bool.false_or, Bool.and_true, Bool.true_and, Bool.and_false, Bool.false_and]))
      have u1 : (bits .and .i64 dd 1 == 0) = true := by have := h1; unfold bitZ at this; simpa using this
      have t1 : decide (bits .and .i64 dd 1 = 0) = true := by have := u1; simpa using this
      have u2 : (bits .and .i64 dd 2 == 0) = true := by have := h2; unfold bitZ at this; simpa using this
      have t2 : decide (bits .and .i64 dd 2 = 0) = true := by have := u2; simpa using this
      have u3 : (bits .and .i64 dd 4 == 0) = true := by have := h3; unfold bitZ at this; simpa using this
      have t3 : decide (bits .and .i64 dd 4 = 0) = true := by have := u3; simpa using this
      have u4 : (bits .and .i64 dd 8 == 0) = false := by have := h4; unfold bitZ at this; simpa using this
      have t4 : decide (bits .and .i64 dd 8 = 0) = false := by have := u4; simpa using this
      have v4 : (a.s == b.s) = false := by have := g4; simpa using this
      clear HG h1 h2 h3 h4
      go_wp2
      go_ret
      exact ⟨ret_bool HE.out.symm, hB⟩
     | true =>
      have HE : Hid (agD dd a b = true) := Lib.hid (HG.out.trans (by simp only [h1, h2, h3, h4, g4, Bool.not_true, Bool.not_false, Bool.true_or, Bool.false_or, Bool.and_true, Bool.true_and, Bool.and_false, Bool.false_and]))
      have u1 : (bits .and .i64 dd 1 == 0) = true := by have := h1; unfold bitZ at this; simpa using this
      have t1 : decide (bits .and .i64 dd 1 = 0) = true := by have := u1; simpa using this
      have u2 : (bits .and .i64 dd 2 == 0) = true := by have := h2; unfold bitZ at this; simpa using this
      have t2 : decide (bits .and .i64 dd 2 = 0) = true := by have := u2; simpa using this
      have u3 : (bits .and .i64 dd 4 == 0) = true := by have := h3; unfold bitZ at this; simpa using this
      have t3 : decide (bits .and .i64 dd 4 = 0) = true := by have := u3; simpa using this
      have u4 : (bits .and .i64 dd 8 == 0) = false := by have := h4; unfold bitZ at this; simpa using this
      have t4 : decide (bits .and .i64 dd 8 = 0) = false := by have := u4; simpa using this
      have v4 : (a.s == b.s) = true := by have := g4; simpa using this
      clear HG h1 h2 h3 h4
      go_wp2
      go_ret
      exact ⟨ret_bool HE.out.symm, hB⟩
   | true =>
    cases g3 : decide (a.m = b.m) with
    | false =>
     have HE : Hid (agD dd a b = false) := Lib.hid (HG.out.trans (by simp only [h1, h2, h3, g3, Bool.not_true, Bool.not_false, Bool.true_or, Bool.false_or, Bool.and_true, Bool.true_and, Bool.and_false, Bool.false_and]))
     have u1 : (bits .and .i64 dd 1 == 0) = true := by have := h1; unfold bitZ at this; simpa using this
     have t1 : decide (bits .and .i64 dd 1 = 0) = true := by have := u1; simpa using this
     have u2 : (bits .and .i64 dd 2 == 0) = true := by have := h2; unfold bitZ at this; simpa using this
     have t2 : decide (bits .and .i64 dd 2 = 0) = true := by have := u2; simpa using this
     have u3 : (bits .and .i64 dd 4 == 0) = false := by have := h3; unfold bitZ at this; simpa using this
     have t3 : decide (bits .and .i64 dd 4 = 0) = false := by have := u3; simpa using this
     clear HG h1 h2 h3
     go_wp2_with fail
     refine (HC.out _ (Below.refl _ _)).mono ?_
     rw [g3]
     rintro e w3 ⟨rfl, hq⟩
     replace k3 := k3.grows hq
     replace k4 := k4.grows hq
     replace hB := below_grows hB (Nat.le_refl _) hq
     clear hq x3 x4
     have x3 := k3.cell
     have x4 := k4.cell
     go_wp2
     go_ret
     exact ⟨ret_bool HE.out.symm, hB⟩
    | true =>
     cases h4 : bitZ dd 8 with
     | false =>
      have HE : Hid (agD dd a b = true) := Lib.hid (HG.out.trans (by simp only [h1, h2, h3, g3, h4, Bool.not_true, Bool.not_false, Bool.true_or, Bool.false_or, Bool.and_true, Bool.true_and, Bool.and_false, Bool.false_and]))
      have u1 : (bits .and .i64 dd 1 == 0) = true := by have := h1; unfold bitZ at this; simpa using this
      have t1 : decide (bits .and .i64 dd 1 = 0) = true := by have := u1; simpa using this
      have u2 : (bits .and .i64 dd 2 == 0) = true := by have := h2; unfold bitZ at this; simpa using this
      have t2 : decide (bits .and .i64 dd 2 = 0) = true := by have := u2; simpa using this
      have u3 : (bits .and .i64 dd 4 == 0) = false := by have := h3; unfold bitZ at this; simpa using this
      have t3 : decide (bits .and .i64 dd 4 = 0) = false := by have := u3; simpa using this
      have u4 : (bits .and .i64 dd 8 == 0) = true := by have := h4; unfold bitZ at this; simpa using this
      have t4 : decide (bits .and .i64 dd 8 = 0) = true := by have := u4; simpa using this
      clear HG h1 h2 h3 h4
      go_wp2_with fail
      refine (HC.out _ (Below.refl _ _)).mono ?_
      rw [g3]
      rintro e w3 ⟨rfl, hq⟩
      replace k3 := k3.grows hq
      replace k4 := k4.grows hq
      replace hB := below_grows hB (Nat.le_refl _) hq
      clear hq x3 x4
      have x3 := k3.cell
      have x4 := k4.cell
      go_wp2
      go_ret
      exact ⟨ret_bool HE.out.symm, hB⟩
     | true =>
      cases g4 : decide (a.s = b.s) with
      | false =>
       have HE : Hid (agD dd a b = false) := Lib.hid (HG.out.trans (by simp only [h1, h2, h3, g3, h4, g4, Bool.not_true, Bool.not_false, Bool.true_or, Bool.false_or, Bool.and_true, Bool.true_and, Bool.and_false, Bool.false_and]))
       have u1 : (bits .and .i64 dd 1 == 0) = true := by have := h1; unfold bitZ at this; simpa using this
       have t1 : decide (bits .and .i64 dd 1 = 0) = true := by have := u1; simpa using this
       have u2 : (bits .and .i64 dd 2 == 0) = true := by have := h2; unfold bitZ at this; simpa using this
       have t2 : decide (bits .and .i64 dd 2 = 0) = true := by have := u2; simpa using this
       have u3 : (bits .and .i64 dd 4 == 0) = false := by have := h3; unfold bitZ at this; simpa using this
       have t3 : decide (bits .and .i64 dd 4 = 0) = false := by have := u3; simpa using this
       have u4 : (bits .and .i64 dd 8 == 0) = false := by have := h4; unfold bitZ at this; simpa using this
       have t4 : decide (bits .and .i64 dd 8 = 0) = false := by have := u4; simpa using this
       have v4 : (a.s == b.s) = false := by have := g4; simpa using this
       clear HG h1 h2 h3 h4
       go_wp2_with fail
       refine (HC.out _ (Below.refl _ _)).mono ?_
       rw [g3]
       rintro e w3 ⟨rfl, hq⟩
       replace k3 := k3.grows hq
       replace k4 := k4.grows hq
       replace hB := below_grows hB (Nat.le_refl _) hq
       clear hq x3 x4
       have x3 := k3.cell
       have x4 := k4.cell
       go_wp2
       go_ret
       exact ⟨ret_bool HE.out.symm, hB⟩
      | true =>
       have HE : Hid (agD dd a b = true) := Lib.hid (HG.out.trans (by simp only [h1, h2, h3, g3, h4, g4, Bool.not_true, Bool.not_false, Bool.true_or, Bool.false_or, Bool.and_true, Bool.true_and, Bool.and_false, Bool.false_and]))
       have u1 : (bits .and .i64 dd 1 == 0) = true := by have := h1; unfold bitZ at this; simpa using this
       have t1 : decide (bits .and .i64 dd 1 = 0) = true := by have := u1; simpa using this
       have u2 : (bits .and .i64 dd 2 == 0) = true := by have := h2; unfold bitZ at this; simpa using this
       have t2 : decide (bits .and .i64 dd 2 = 0) = true := by have := u2; simpa using this
       have u3 : (bits .and .i64 dd 4 == 0) = false := by have := h3; unfold bitZ at this; simpa using this
       have t3 : decide (bits .and .i64 dd 4 = 0) = false := by have := u3; simpa using this
       have u4 : (bits .and .i64 dd 8 == 0) = false := by have := h4; unfold bitZ at this; simpa using this
       have t4 : decide (bits .and .i64 dd 8 = 0) = false := by have := u4; simpa using this
       have v4 : (a.s == b.s) = true := by have := g4; simpa using this
       clear HG h1 h2 h3 h4
       go_wp2_with fail
       refine (HC.out _ (Below.refl _ _)).mono ?_
       rw [g3]
       rintro e w3 ⟨rfl, hq⟩
       replace k3 := k3.grows hq
       replace k4 := k4.grows hq
       replace hB := below_grows hB (Nat.le_refl _) hq
       clear hq x3 x4
       have x3 := k3.cell
       have x4 := k4.cell
       go_wp2
       go_ret
       exact ⟨ret_bool HE.out.symm, hB⟩
  | true =>
   cases g2 : decide (a.r = b.r) with
   | false =>
    have HE : Hid (agD dd a b = false) := Lib.hid (HG.out.trans (by simp only [h1, h2, g2, Bool.not_true, Bool.not_false, Bool.true_or, Bool.false_or, Bool.and_true, Bool.true_and, Bool.and_false, Bool.false_and]))
    have u1 : (bits .and .i64 dd 1 == 0) = true := by have := h1; unfold bitZ at this; simpa using this
    have t1 : decide (bits .and .i64 dd 1 = 0) = true := by have := u1; simpa using this
    have u2 : (bits .and .i64 dd 2 == 0) = false := by have := h2; unfold bitZ at this; simpa using this
    have t2 : decide (bits .and .i64 dd 2 = 0) = false := by have := u2; simpa using this
    have v2 : (a.r == b.r) = false := by have := g2; simpa using this
    clear HG h1 h2
    go_wp2
    go_ret
    exact ⟨ret_bool HE.out.symm, hB⟩
   | true =>
    cases h3 : bitZ dd 4 with
    | false =>
     cases h4 : bitZ dd 8 with
     | false =>
      have HE : Hid (agD dd a b = true) := Lib.hid (HG.out.trans (by simp only [h1, h2, g2, h3, h4, Bool.not_true, Bool.not_false, Bool.true_or, Bool.false_or, Bool.and_true, Bool.true_and, Bool.and_false, Bool.false_and]))
      have u1 : (bits .and .i64 dd 1 == 0) = true := by have := h1; unfold bitZ at this; simpa using this
      have t1 : decide (bits .and .i64 dd 1 = 0) = true := by have := u1; simpa using this
      have u2 : (bits .and .i64 dd 2 == 0) = false := by have := h2; unfold bitZ at this; simpa using this
      have t2 : decide (bits .and .i64 dd 2 = 0) = false := by have := u2; simpa using this
      have v2 : (a.r == b.r) = true := by have := g2; simpa using this
      have u3 : (bits .and .i64 dd 4 == 0) = true := by have := h3; unfold bitZ at this; simpa using this
      have t3 : decide (bits .and .i64 dd 4 = 0) = true := by have := u3; simpa using this
      have u4 : (bits .and .i64 dd 8 == 0) = true := by have := h4; unfold bitZ at this; simpa using this
      have t4 : decide (bits .and .i64 dd 8 = 0) = true := by have := u4; simpa using this
      clear HG h1 h2 h3 h4
      go_wp2
      go_ret
      exact ⟨ret_bool HE.out.symm, hB⟩
     | true =>
      cases g4 : decide (a.s = b.s) with
      | false =>
       have HE : Hid (agD dd a b = false) := Lib.hid (HG.out.trans (by simp only [h1, h2, g2, h3, h4, g4, Bool.not_true, Bool.not_false, Bool.true_or, Bool.false_or, Bool.and_true, Bool.true_and, Bool.and_false, Bool.false_and]))
       have u1 : (bits .and .i64 dd 1 == 0) = true := by have := h1; unfold bitZ at this; simpa using this
       have t1 : decide (bits .and .i64 dd 1 = 0) = true := by have := u1; simpa using this
       have u2 : (bits .and .i64 dd 2 == 0) = false := by have := h2; unfold bitZ at this; simpa using this
       have t2 : decide (bits .and .i64 dd 2 = 0) = false := by have := u2; simpa using this
       have v2 : (a.r == b.r) = true := by have := g2; simpa using this
       have u3 : (bits .and .i64 dd 4 == 0) = true := by have := h3; unfold bitZ at this; simpa using this
       have t3 : decide (bits .and .i64 dd 4 = 0) = true := by have := u3; simpa using this
       have u4 : (bits .and .i64 dd 8 == 0) = false := by have := h4; unfold bitZ at this; simpa using this
       have t4 : decide (bits .and .i64 dd 8 = 0) = false := by have := u4; simpa using this
       have v4 : (a.s == b.s) = false := by have := g4; simpa using this
       clear HG h1 h2 h3 h4
       go_wp2
       go_ret
       exact ⟨ret_bool HE.out.symm, hB⟩
      | true =>
       have HE : Hid (agD dd a b = true) := Lib.hid (HG.out.trans (by simp only [h1, h2, g2, h3, h4, g4, Bool.not_true, Bool.not_false, Bool.true_or, Bool.false_or, Bool.and_true, Bool.true_and, Bool.and_false, Bool.false_and]))
       have u1 : (bits .and .i64 dd 1 == 0) = true := by have := h1; unfold bitZ at this; simpa using this
       have t1 : decide (bits .and .i64 dd 1 = 0) = true := by have := u1; simpa using this
       have u2 : (bits .and .i64 dd 2 == 0) = false := by have := h2; unfold bitZ at this; simpa using this
       have t2 : decide (bits .and .i64 dd 2 = 0) = false := by have := u2; simpa using this
       have v2 : (a.r == b.r) = true := by have := g2; simpa using this
       have u3 : (bits .and .i64 dd 4 == 0) = true := by have := h3; unfold bitZ at this; simpa using this
       have t3 : decide (bits .and .i64 dd 4 = 0) = true := by have := u3; simpa using this
       have u4 : (bits .and .i64 dd 8 == 0) = false := by have := h4; unfold bitZ at this; simpa using this
       have t4 : decide (bits .and .i64 dd 8 = 0) = false := by have := u4; simpa using this
       have v4 : (a.s == b.s) = true := by have := g4; simpa using this
       clear HG h1 h2 h3 h4
       go_wp2
       go_ret
       exact ⟨ret_bool HE.out.symm, hB⟩
    | true =>
     cases g3 : decide (a.m = b.m) with
     | false =>
      have HE : Hid (agD dd a b = false) := Lib.hid (HG.out.trans (by simp only [h1, h2, g2, h3, g3, Bool.not_true, Bool.not_false, Bool.true_or, Bool.false_or, Bool.and_true, Bool.true_and, Bool.and_false, Bool.false_and]))
      have u1 : (bits .and .i64 dd 1 == 0) = true := by have := h1; unfold bitZ at this; simpa using this
      have t1 : decide (bits .and .i64 dd 1 = 0) = true := by have := u1; simpa using this
      have u2 : (bits .and .i64 dd 2 == 0) = false := by have := h2; unfold bitZ at this; simpa using this
      have t2 : decide (bits .and .i64 dd 2 = 0) = false := by have := u2; simpa using this
      have v2 : (a.r == b.r) = true := by have := g2; simpa using this
      have u3 : (bits .and .i64 dd 4 == 0) = false := by have := h3; unfold bitZ at this; simpa using this
      have t3 : decide (bits .and .i64 dd 4 = 0) = false := by have := u3; simpa using this
      clear HG h1 h2 h3
      go_wp2_with fail
      refine (HC.out _ (Below.refl _ _)).mono ?_
      rw [g3]
      rintro e w3 ⟨rfl, hq⟩
      replace k3 := k3.grows hq
      replace k4 := k4.grows hq
      replace hB := below_grows hB (Nat.le_refl _) hq
      clear hq x3 x4
      have x3 := k3.cell
      have x4 := k4.cell
      go_wp2
      go_ret
      exact ⟨ret_bool HE.out.symm, hB⟩
     | true =>
      cases h4 : bitZ dd 8 with
      | false =>
       have HE : Hid (agD dd a b = true) := Lib.hid (HG.out.trans (by simp only [h1, h2, g2, h3, g3, h4, Bool.not_true, Bool.not_false, Bool.true_or, Bool.false_or, Bool.and_true, Bool.true_and, Bool.and_false, Bool.false_and]))
       have u1 : (bits .and .i64 dd 1 == 0) = true := by have := h1; unfold bitZ at this; simpa using this
       have t1 : decide (bits .and .i64 dd 1 = 0) = true := by have := u1; simpa using this
       have u2 : (bits .and .i64 dd 2 == 0) = false := by have := h2; unfold bitZ at this; simpa using this
       have t2 : decide (bits .and .i64 dd 2 = 0) = false := by have := u2; simpa using this
       have v2 : (a.r == b.r) = true := by have := g2; simpa using this
       have u3 : (bits .and .i64 dd 4 == 0) = false := by have := h3; unfold bitZ at this; simpa using this
       have t3 : decide (bits .and .i64 dd 4 = 0) = false := by have := u3; simpa using this
       have u4 : (bits .and .i64 dd 8 == 0) = true := by have := h4; unfold bitZ at this; simpa using this
       have t4 : decide (bits .and .i64 dd 8 = 0) = true := by have := u4; simpa using this
       clear HG h1 h2 h3 h4
       go_wp2_with fail
       refine (HC.out _ (Below.refl _ _)).mono ?_
       rw [g3]
       rintro e w3 ⟨rfl, hq⟩
       replace k3 := k3.grows hq
       replace k4 := k4.grows hq
       replace hB := below_grows hB (Nat.le_refl _) hq
       clear hq x3 x4
       have x3 := k3.cell
       have x4 := k4.cell
       go_wp2
       go_ret
       exact ⟨ret_bool HE.out.symm, hB⟩
      | true =>
       cases g4 : decide (a.s = b.s) with
       | false =>
        have HE : Hid (agD dd a b = false) := Lib.hid (HG.out.trans (by simp only [h1, h2, g2, h3, g3, h4, g4, Bool.not_true, Bool.not_false, Bool.true_or, Bool.false_or, Bool.and_true, Bool.true_and, Bool.and_false, Bool.false_and]))
        have u1 : (bits .and .i64 dd 1 == 0) = true := by have := h1; unfold bitZ at this; simpa using this
        have t1 : decide (bits .and .i64 dd 1 = 0) = true := by have := u1; simpa using this
        have u2 : (bits .and .i64 dd 2 == 0) = false := by have := h2; unfold bitZ at this; simpa using this
        have t2 : decide (bits .and .i64 dd 2 = 0) = false := by have := u2; simpa using this
        have v2 : (a.r == b.r) = true := by have := g2; simpa using this
        have u3 : (bits .and .i64 dd 4 == 0) = false := by have := h3; unfold bitZ at this; simpa using this
        have t3 : decide (bits .and .i64 dd 4 = 0) = false := by have := u3; simpa using this
        have u4 : (bits .and .i64 dd 8 == 0) = false := by have := h4; unfold bitZ at this; simpa using this
        have t4 : decide (bits .and .i64 dd 8 = 0) = false := by have := u4; simpa using this
        have v4 : (a.s == b.s) = false := by have := g4; simpa using this
        clear HG h1 h2 h3 h4
        go_wp2_with fail
        refine (HC.out _ (Below.refl _ _)).mono ?_
        rw [g3]
        rintro e w3 ⟨rfl, hq⟩
        replace k3 := k3.grows hq
        replace k4 := k4.grows hq
        replace hB := below_grows hB (Nat.le_refl _) hq
        clear hq x3 x4
        have x3 := k3.cell
        have x4 := k4.cell
        go_wp2
        go_ret
        exact ⟨ret_bool HE.out.symm, hB⟩
       | true =>
        have HE : Hid (agD dd a b = true) := Lib.hid (HG.out.trans (by simp only [h1, h2, g2, h3, g3, h4, g4, Bool.not_true, Bool.not_false, Bool.true_or, Bool.false_or, Bool.and_true, Bool.true_and, Bool.and_false, Bool.false_and]))
        have u1 : (bits .and .i64 dd 1 == 0) = true := by have := h1; unfold bitZ at this; simpa using this
        have t1 : decide (bits .and .i64 dd 1 = 0) = true := by have := u1; simpa using this
        have u2 : (bits .and .i64 dd 2 == 0) = false := by have := h2; unfold bitZ at this; simpa using this
        have t2 : decide (bits .and .i64 dd 2 = 0) = false := by have := u2; simpa using this
        have v2 : (a.r == b.r) = true := by have := g2; simpa using this
        have u3 : (bits .and .i64 dd 4 == 0) = false := by have := h3; unfold bitZ at this; simpa using this
        have t3 : decide (bits .and .i64 dd 4 = 0) = false := by have := u3; simpa using this
        have u4 : (bits .and .i64 dd 8 == 0) = false := by have := h4; unfold bitZ at this; simpa using this
        have t4 : decide (bits .and .i64 dd 8 = 0) = false := by have := u4; simpa using this
        have v4 : (a.s == b.s) = true := by have := g4; simpa using this
        clear HG h1 h2 h3 h4
        go_wp2_with fail
        refine (HC.out _ (Below.refl _ _)).mono ?_
        rw [g3]
        rintro e w3 ⟨rfl, hq⟩
        replace k3 := k3.grows hq
        replace k4 := k4.grows hq
        replace hB := below_grows hB (Nat.le_refl _) hq
        clear hq x3 x4
        have x3 := k3.cell
        have x4 := k4.cell
        go_wp2
        go_ret
        exact ⟨ret_bool HE.out.symm, hB⟩
 | true =>
  cases g1 : decide (a.k = b.k) with
  | false =>
   have HE : Hid (agD dd a b = false) := Lib.hid (HG.out.trans (by simp only [h1, g1, Bool.not_true, Bool.not_false, Bool.true_or, Bool.false_or, Bool.and_true, Bool.true_and, Bool.and_false, Bool.false_and]))
   have u1 : (bits .and .i64 dd 1 == 0) = false := by have := h1; unfold bitZ at this; simpa using this
   have t1 : decide (bits .and .i64 dd 1 = 0) = false := by have := u1; simpa using this
   have v1 : (a.k == b.k) = false := by have := g1; simpa using this
   clear HG h1
   go_wp2
   go_ret
   exact ⟨ret_bool HE.out.symm, hB⟩
  | true =>
   cases h2 : bitZ dd 2 with
   | false =>
    cases h3 : bitZ dd 4 with
    | false =>
     cases h4 : bitZ dd 8 with
     | false =>
      have HE : Hid (agD dd a b = true) := Lib.hid (HG.out.trans (by simp only [h1, g1, h2, h3, h4, Bool.not_true, Bool.not_false, Bool.true_or, Bool.false_or, Bool.and_true, Bool.true_and, Bool.and_false, Bool.false_and]))
      have u1 : (bits .and .i64 dd 1 == 0) = false := by have := h1; unfold bitZ at this; simpa using this
      have t1 : decide (bits .and .i64 dd 1 = 0) = false := by have := u1; simpa using this
      have v1 : (a.k == b.k) = true := by have := g1; simpa using this
      have u2 : (bits .and .i64 dd 2 == 0) = true := by have := h2; unfold bitZ at this; simpa using this
      have t2 : decide (bits .and .i64 dd 2 = 0) = true := by have := u2; simpa using this
      have u3 : (bits .and .i64 dd 4 == 0) = true := by have := h3; unfold bitZ at this; simpa using this
      have t3 : decide (bits .and .i64 dd 4 = 0) = true := by have := u3; simpa using this
      have u4 : (bits .and .i64 dd 8 == 0) = true := by have := h4; unfold bitZ at this; simpa using this
      have t4 : decide (bits .and .i64 dd 8 = 0) = true := by have := u4; simpa using this
      clear HG h1 h2 h3 h4
      go_wp2
      go_ret
      exact ⟨ret_bool HE.out.symm, hB⟩
     | true =>
      cases g4 : decide (a.s = b.s) with
      | false =>
       have HE : Hid (agD dd a b = false) := Lib.hid (HG.out.trans (by simp only [h1, g1, h2, h3, h4, g4, Bool.not_true, Bool.not_false, Bool.true_or, Bool.false_or, Bool.and_true, Bool.true_and, Bool.and_false, Bool.false_and]))
       have u1 : (bits .and .i64 dd 1 == 0) = false := by have := h1; unfold bitZ at this; simpa using this
       have t1 : decide (bits .and .i64 dd 1 = 0) = false := by have := u1; simpa using this
       have v1 : (a.k == b.k) = true := by have := g1; simpa using this
       have u2 : (bits .and .i64 dd 2 == 0) = true := by have := h2; unfold bitZ at this; simpa using this
       have t2 : decide (bits .and .i64 dd 2 = 0) = true := by have := u2; simpa using this
       have u3 : (bits .and .i64 dd 4 == 0) = true := by have := h3; unfold bitZ at this; simpa using this
       have t3 : decide (bits .and .i64 dd 4 = 0) = true := by have := u3; simpa using this
       have u4 : (bits .and .i64 dd 8 == 0) = false := by have := h4; unfold bitZ at this; simpa using this
       have t4 : decide (bits .and .i64 dd 8 = 0) = false := by have := u4; simpa using this
       have v4 : (a.s == b.s) = false := by have := g4; simpa using this
       clear HG h1 h2 h3 h4
       go_wp2
       go_ret
       exact ⟨ret_bool HE.out.symm, hB⟩
      | true =>
       have HE : Hid (agD dd a b = true) := Lib.hid (HG.out.trans (by simp only [h1, g1, h2, h3, h4, g4, Bool.not_true, Bool.not_false, Bool.true_or, Bool.false_or, Bool.and_true, Bool.true_and, Bool.and_false, Bool.false_and]))
       have u1 : (bits .and .i64 dd 1 == 0) = false := by have := h1; unfold bitZ at this; simpa using this
       have t1 : decide (bits .and .i64 dd 1 = 0) = false := by have := u1; simpa using this
       have v1 : (a.k == b.k) = true := by have := g1; simpa using this
       have u2 : (bits .and .i64 dd 2 == 0) = true := by have := h2; unfold bitZ at this; simpa using this
       have t2 : decide (bits .and .i64 dd 2 = 0) = true := by have := u2; simpa using this
       have u3 : (bits .and .i64 dd 4 == 0) = true := by have := h3; unfold bitZ at this; simpa using this
       have t3 : decide (bits .and .i64 dd 4 = 0) = true := by have := u3; simpa using this
       have u4 : (bits .and .i64 dd 8 == 0) = false := by have := h4; unfold bitZ at this; simpa using this
       have t4 : decide (bits .and .i64 dd 8 = 0) = false := by have := u4; simpa using this
       have v4 : (a.s == b.s) = true := by have := g4; simpa using this
       clear HG h1 h2 h3 h4
       go_wp2
       go_ret
       exact ⟨ret_bool HE.out.symm, hB⟩
    | true =>
     cases g3 : decide (a.m = b.m) with
     | false =>
      have HE : Hid (agD dd a b = false) := Lib.hid (HG.out.trans (by simp only [h1, g1, h2, h3, g3, Bool.not_true, Bool.not_false, Bool.true_or, Bool.false_or, Bool.and_true, Bool.true_and, Bool.and_false, Bool.false_and]))
      have u1 : (bits .and .i64 dd 1 == 0) = false := by have := h1; unfold bitZ at this; simpa using this
      have t1 : decide (bits .and .i64 dd 1 = 0) = false := by have := u1; simpa using this
      have v1 : (a.k == b.k) = true := by have := g1; simpa using this
      have u2 : (bits .and .i64 dd 2 == 0) = true := by have := h2; unfold bitZ at this; simpa using this
      have t2 : decide (bits .and .i64 dd 2 = 0) = true := by have := u2; simpa using this
      have u3 : (bits .and .i64 dd 4 == 0) = false := by have := h3; unfold bitZ at this; simpa using this
      have t3 : decide (bits .and .i64 dd 4 = 0) = false := by have := u3; simpa using this
      clear HG h1 h2 h3
      go_wp2_with fail
      refine (HC.out _ (Below.refl _ _)).mono ?_
      rw [g3]
      rintro e w3 ⟨rfl, hq⟩
      replace k3 := k3.grows hq
      replace k4 := k4.grows hq
      replace hB := below_grows hB (Nat.le_refl _) hq
      clear hq x3 x4
      have x3 := k3.cell
      have x4 := k4.cell
      go_wp2
      go_ret
      exact ⟨ret_bool HE.out.symm, hB⟩
     | true =>
      cases h4 : bitZ dd 8 with
      | false =>
       have HE : Hid (agD dd a b = true) := Lib.hid (HG.out.trans (by simp only [h1, g1, h2, h3, g3, h4, Bool.not_true, Bool.not_false, Bool.true_or, Bool.false_or, Bool.and_true, Bool.true_and, Bool.and_false, Bool.false_and]))
       have u1 : (bits .and .i64 dd 1 == 0) = false := by have := h1; unfold bitZ at this; simpa using this
       have t1 : decide (bits .and .i64 dd 1 = 0) = false := by have := u1; simpa using this
       have v1 : (a.k == b.k) = true := by have := g1; simpa using this
       have u2 : (bits .and .i64 dd 2 == 0) = true := by have := h2; unfold bitZ at this; simpa using this
       have t2 : decide (bits .and .i64 dd 2 = 0) = true := by have := u2; simpa using this
       have u3 : (bits .and .i64 dd 4 == 0) = false := by have := h3; unfold bitZ at this; simpa using this
       have t3 : decide (bits .and .i64 dd 4 = 0) = false := by have := u3; simpa using this
       have u4 : (bits .and .i64 dd 8 == 0) = true := by have := h4; unfold bitZ at this; simpa using this
       have t4 : decide (bits .and .i64 dd 8 = 0) = true := by have := u4; simpa using this
       clear HG h1 h2 h3 h4
       go_wp2_with fail
       refine (HC.out _ (Below.refl _ _)).mono ?_
       rw [g3]
       rintro e w3 ⟨rfl, hq⟩
       replace k3 := k3.grows hq
       replace k4 := k4.grows hq
       replace hB := below_grows hB (Nat.le_refl _) hq
       clear hq x3 x4
       have x3 := k3.cell
       have x4 := k4.cell
       go_wp2
       go_ret
       exact ⟨ret_bool HE.out.symm, hB⟩
      | true =>
       cases g4 : decide (a.s = b.s) with
       | false =>
        have HE : Hid (agD dd a b = false) := Lib.hid (HG.out.trans (by simp only [h1, g1, h2, h3, g3, h4, g4, Bool.not_true, Bool.not_false, Bool.true_or, Bool.false_or, Bool.and_true, Bool.true_and, Bool.and_false, Bool.false_and]))
        have u1 : (bits .and .i64 dd 1 == 0) = false := by have := h1; unfold bitZ at this; simpa using this
        have t1 : decide (bits .and .i64 dd 1 = 0) = false := by have := u1; simpa using this
        have v1 : (a.k == b.k) = true := by have := g1; simpa using this
        have u2 : (bits .and .i64 dd 2 == 0) = true := by have := h2; unfold bitZ at this; simpa using this
        have t2 : decide (bits .and .i64 dd 2 = 0) = true := by have := u2; simpa using this
        have u3 : (bits .and .i64 dd 4 == 0) = false := by have := h3; unfold bitZ at this; simpa using this
        have t3 : decide (bits .and .i64 dd 4 = 0) = false := by have := u3; simpa using this
        have u4 : (bits .and .i64 dd 8 == 0) = false := by have := h4; unfold bitZ at this; simpa using this
        have t4 : decide (bits .and .i64 dd 8 = 0) = false := by have := u4; simpa using this
        have v4 : (a.s == b.s) = false := by have := g4; simpa using this
        clear HG h1 h2 h3 h4
        go_wp2_with fail
        refine (HC.out _ (Below.refl _ _)).mono ?_
        rw [g3]
        rintro e w3 ⟨rfl, hq⟩
        replace k3 := k3.grows hq
        replace k4 := k4.grows hq
        replace hB := below_grows hB (Nat.le_refl _) hq
        clear hq x3 x4
        have x3 := k3.cell
        have x4 := k4.cell
        go_wp2
        go_ret
        exact ⟨ret_bool HE.out.symm, hB⟩
       | true =>
        have HE : Hid (agD dd a b = true) := Lib.hid (HG.out.trans (by simp only [h1, g1, h2, h3, g3, h4, g4, Bool.not_true, Bool.not_false, Bool.true_or, Bool.false_or, Bool.and_true, Bool.true_and, Bool.and_false, Bool.false_and]))
        have u1 : (bits .and .i64 dd 1 == 0) = false := by have := h1; unfold bitZ at this; simpa using this
        have t1 : decide (bits .and .i64 dd 1 = 0) = false := by have := u1; simpa using this
        have v1 : (a.k == b.k) = true := by have := g1; simpa using this
        have u2 : (bits .and .i64 dd 2 == 0) = true := by have := h2; unfold bitZ at this; simpa using this
        have t2 : decide (bits .and .i64 dd 2 = 0) = true := by have := u2; simpa using this
        have u3 : (bits .and .i64 dd 4 == 0) = false := by have := h3; unfold bitZ at this; simpa using this
        have t3 : decide (bits .and .i64 dd 4 = 0) = false := by have := u3; simpa using this
        have u4 : (bits .and .i64 dd 8 == 0) = false := by have := h4; unfold bitZ at this; simpa using this
        have t4 : decide (bits .and .i64 dd 8 = 0) = false := by have := u4; simpa using this
        have v4 : (a.s == b.s) = true := by have := g4; simpa using this
        clear HG h1 h2 h3 h4
        go_wp2_with fail
        refine (HC.out _ (Below.refl _ _)).mono ?_
        rw [g3]
        rintro e w3 ⟨rfl, hq⟩
        replace k3 := k3.grows hq
        replace k4 := k4.grows hq
        replace hB := below_grows hB (Nat.le_refl _) hq
        clear hq x3 x4
        have x3 := k3.cell
        have x4 := k4.cell
        go_wp2
        go_ret
        exact ⟨ret_bool HE.out.symm, hB⟩
   | true =>
    cases g2 : decide (a.r = b.r) with
    | false =>
     have HE : Hid (agD dd a b = false) := Lib.hid (HG.out.trans (by simp only [h1, g1, h2, g2, Bool.not_true, Bool.not_false, Bool.true_or, Bool.false_or, Bool.and_true, Bool.true_and, Bool.and_false, Bool.false_and]))
     have u1 : (bits .and .i64 dd 1 == 0) = false := by have := h1; unfold bitZ at this; simpa using this
     have t1 : decide (bits .and .i64 dd 1 = 0) = false := by have := u1; simpa using this
     have v1 : (a.k == b.k) = true := by have := g1; simpa using this
     have u2 : (bits .and .i64 dd 2 == 0) = false := by have := h2; unfold bitZ at this; simpa using this
     have t2 : decide (bits .and .i64 dd 2 = 0) = false := by have := u2; simpa using this
     have v2 : (a.r == b.r) = false := by have := g2; simpa using this
     clear HG h1 h2
     go_wp2
     go_ret
     exact ⟨ret_bool HE.out.symm, hB⟩
    | true =>
     cases h3 : bitZ dd 4 with
     | false =>
      cases h4 : bitZ dd 8 with
      | false =>
       have HE : Hid (agD dd a b = true) := Lib.hid (HG.out.trans (by simp only [h1, g1, h2, g2, h3, h4, Bool.not_true, Bool.not_false, Bool.true_or, Bool.false_or, Bool.and_true, Bool.true_and, Bool.and_false, Bool.false_and]))
       have u1 : (bits .and .i64 dd 1 == 0) = false := by have := h1; unfold bitZ at this; simpa using this
       have t1 : decide (bits .and .i64 dd 1 = 0) = false := by have := u1; simpa using this
       have v1 : (a.k == b.k) = true := by have := g1; simpa using this
       have u2 : (bits .and .i64 dd 2 == 0) = false := by have := h2; unfold bitZ at this; simpa using this
       have t2 : decide (bits .and .i64 dd 2 = 0) = false := by have := u2; simpa using this
       have v2 : (a.r == b.r) = true := by have := g2; simpa using this
       have u3 : (bits .and .i64 dd 4 == 0) = true := by have := h3; unfold bitZ at this; simpa using this
       have t3 : decide (bits .and .i64 dd 4 = 0) = true := by have := u3; simpa using this
       have u4 : (bits .and .i64 dd 8 == 0) = true := by have := h4; unfold bitZ at this; simpa using this
       have t4 : decide (bits .and .i64 dd 8 = 0) = true := by have := u4; simpa using this
       clear HG h1 h2 h3 h4
       go_wp2
       go_ret
       exact ⟨ret_bool HE.out.symm, hB⟩
      | true =>
       cases g4 : decide (a.s = b.s) with
       | false =>
        have HE : Hid (agD dd a b = false) := Lib.hid (HG.out.trans (by simp only [h1, g1, h2, g2, h3, h4, g4, Bool.not_true, Bool.not_false, Bool.true_or, Bool.false_or, Bool.and_true, Bool.true_and, Bool.and_false, Bool.false_and]))
        have u1 : (bits .and .i64 dd 1 == 0) = false := by have := h1; unfold bitZ at this; simpa using this
        have t1 : decide (bits .and .i64 dd 1 = 0) = false := by have := u1; simpa using this
        have v1 : (a.k == b.k) = true := by have := g1; simpa using this
        have u2 : (bits .and .i64 dd 2 == 0) = false := by have := h2; unfold bitZ at this; simpa using this
        have t2 : decide (bits .and .i64 dd 2 = 0) = false := by have := u2; simpa using this
        have v2 : (a.r == b.r) = true := by have := g2; simpa using this
        have u3 : (bits .and .i64 dd 4 == 0) = true := by have := h3; unfold bitZ at this; simpa using this
        have t3 : decide (bits .and .i64 dd 4 = 0) = true := by have := u3; simpa using this
        have u4 : (bits .and .i64 dd 8 == 0) = false := by have := h4; unfold bitZ at this; simpa using this
        have t4 : decide (bits .and .i64 dd 8 = 0) = false := by have := u4; simpa using this
        have v4 : (a.s == b.s) = false := by have := g4; simpa using this
        clear HG h1 h2 h3 h4
        go_wp2
        go_ret
        exact ⟨ret_bool HE.out.symm, hB⟩
       | true =>
        have HE : Hid (agD dd a b = true) := Lib.hid (HG.out.trans (by simp only [h1, g1, h2, g2, h3, h4, g4, Bool.not_true, Bool.not_false, Bool.true_or, Bool.false_or, Bool.and_true, Bool.true_and, Bool.and_false, Bool.false_and]))
        have u1 : (bits .and .i64 dd 1 == 0) = false := by have := h1; unfold bitZ at this; simpa using this
        have t1 : decide (bits .and .i64 dd 1 = 0) = false := by have := u1; simpa using this
        have v1 : (a.k == b.k) = true := by have := g1; simpa using this
        have u2 : (bits .and .i64 dd 2 == 0) = false := by have := h2; unfold bitZ at this; simpa using this
        have t2 : decide (bits .and .i64 dd 2 = 0) = false := by have := u2; simpa using this
        have v2 : (a.r == b.r) = true := by have := g2; simpa using this
        have u3 : (bits .and .i64 dd 4 == 0) = true := by have := h3; unfold bitZ at this; simpa using this
        have t3 : decide (bits .and .i64 dd 4 = 0) = true := by have := u3; simpa using this
        have u4 : (bits .and .i64 dd 8 == 0) = false := by have := h4; unfold bitZ at this; simpa using this
        have t4 : decide (bits .and .i64 dd 8 = 0) = false := by have := u4; simpa using this
        have v4 : (a.s == b.s) = true := by have := g4; simpa using this
        clear HG h1 h2 h3 h4
        go_wp2
        go_ret
        exact ⟨ret_bool HE.out.symm, hB⟩
     | true =>
      cases g3 : decide (a.m = b.m) with
      | false =>
       have HE : Hid (agD dd a b = false) := Lib.hid (HG.out.trans (by simp only [h1, g1, h2, g2, h3, g3, Bool.not_true, Bool.not_false, Bool.true_or, Bool.false_or, Bool.and_true, Bool.true_and, Bool.and_false, Bool.false_and]))
       have u1 : (bits .and .i64 dd 1 == 0) = false := by have := h1; unfold bitZ at this; simpa using this
       have t1 : decide (bits .and .i64 dd 1 = 0) = false := by have := u1; simpa using this
       have v1 : (a.k == b.k) = true := by have := g1; simpa using this
       have u2 : (bits .and .i64 dd 2 == 0) = false := by have := h2; unfold bitZ at this; simpa using this
       have t2 : decide (bits .and .i64 dd 2 = 0) = false := by have := u2; simpa using this
       have v2 : (a.r == b.r) = true := by have := g2; simpa using this
       have u3 : (bits .and .i64 dd 4 == 0) = false := by have := h3; unfold bitZ at this; simpa using this
       have t3 : decide (bits .and .i64 dd 4 = 0) = false := by have := u3; simpa using this
       clear HG h1 h2 h3
       go_wp2_with fail
       refine (HC.out _ (Below.refl _ _)).mono ?_
       rw [g3]
       rintro e w3 ⟨rfl, hq⟩
       replace k3 := k3.grows hq
       replace k4 := k4.grows hq
       replace hB := below_grows hB (Nat.le_refl _) hq
       clear hq x3 x4
       have x3 := k3.cell
       have x4 := k4.cell
       go_wp2
       go_ret
       exact ⟨ret_bool HE.out.symm, hB⟩
      | true =>
       cases h4 : bitZ dd 8 with
       | false =>
        have HE : Hid (agD dd a b = true) := Lib.hid (HG.out.trans (by simp only [h1, g1, h2, g2, h3, g3, h4, Bool.not_true, Bool.not_false, Bool.true_or, Bool.false_or, Bool.and_true, Bool.true_and, Bool.and_false, Bool.false_and]))
        have u1 : (bits .and .i64 dd 1 == 0) = false := by have := h1; unfold bitZ at this; simpa using this
        have t1 : decide (bits .and .i64 dd 1 = 0) = false := by have := u1; simpa using this
        have v1 : (a.k == b.k) = true := by have := g1; simpa using this
        have u2 : (bits .and .i64 dd 2 == 0) = false := by have := h2; unfold bitZ at this; simpa using this
        have t2 : decide (bits .and .i64 dd 2 = 0) = false := by have := u2; simpa using this
        have v2 : (a.r == b.r) = true := by have := g2; simpa using this
        have u3 : (bits .and .i64 dd 4 == 0) = false := by have := h3; unfold bitZ at this; simpa using this
        have t3 : decide (bits .and .i64 dd 4 = 0) = false := by have := u3; simpa using this
        have u4 : (bits .and .i64 dd 8 == 0) = true := by have := h4; unfold bitZ at this; simpa using this
        have t4 : decide (bits .and .i64 dd 8 = 0) = true := by have := u4; simpa using this
        clear HG h1 h2 h3 h4
        go_wp2_with fail
        refine (HC.out _ (Below.refl _ _)).mono ?_
        rw [g3]
        rintro e w3 ⟨rfl, hq⟩
        replace k3 := k3.grows hq
        replace k4 := k4.grows hq
        replace hB := below_grows hB (Nat.le_refl _) hq
        clear hq x3 x4
        have x3 := k3.cell
        have x4 := k4.cell
        go_wp2
        go_ret
        exact ⟨ret_bool HE.out.symm, hB⟩
       | true =>
        cases g4 : decide (a.s = b.s) with
        | false =>
         have HE : Hid (agD dd a b = false) := Lib.hid (HG.out.trans (by simp only [h1, g1, h2, g2, h3, g3, h4, g4, Bool.not_true, Bool.not_false, Bool.true_or, Bool.false_or, Bool.and_true, Bool.true_and, Bool.and_false, Bool.false_and]))
         have u1 : (bits .and .i64 dd 1 == 0) = false := by have := h1; unfold bitZ at this; simpa using this
         have t1 : decide (bits .and .i64 dd 1 = 0) = false := by have := u1; simpa using this
         have v1 : (a.k == b.k) = true := by have := g1; simpa using this
         have u2 : (bits .and .i64 dd 2 == 0) = false := by have := h2; unfold bitZ at this; simpa using this
         have t2 : decide (bits .and .i64 dd 2 = 0) = false := by have := u2; simpa using this
         have v2 : (a.r == b.r) = true := by have := g2; simpa using this
         have u3 : (bits .and .i64 dd 4 == 0) = false := by have := h3; unfold bitZ at this; simpa using this
         have t3 : decide (bits .and .i64 dd 4 = 0) = false := by have := u3; simpa using this
         have u4 : (bits .and .i64 dd 8 == 0) = false := by have := h4; unfold bitZ at this; simpa using this
         have t4 : decide (bits .and .i64 dd 8 = 0) = false := by have := u4; simpa using this
         have v4 : (a.s == b.s) = false := by have := g4; simpa using this
         clear HG h1 h2 h3 h4
         go_wp2_with fail
         refine (HC.out _ (Below.refl _ _)).mono ?_
         rw [g3]
         rintro e w3 ⟨rfl, hq⟩
         replace k3 := k3.grows hq
         replace k4 := k4.grows hq
         replace hB := below_grows hB (Nat.le_refl _) hq
         clear hq x3 x4
         have x3 := k3.cell
         have x4 := k4.cell
         go_wp2
         go_ret
         exact ⟨ret_bool HE.out.symm, hB⟩
        | true =>
         have HE : Hid (agD dd a b = true) := Lib.hid (HG.out.trans (by simp only [h1, g1, h2, g2, h3, g3, h4, g4, Bool.not_true, Bool.not_false, Bool.true_or, Bool.false_or, Bool.and_true, Bool.true_and, Bool.and_false, Bool.false_and]))
         have u1 : (bits .and .i64 dd 1 == 0) = false := by have := h1; unfold bitZ at this; simpa using this
         have t1 : decide (bits .and .i64 dd 1 = 0) = false := by have := u1; simpa using this
         have v1 : (a.k == b.k) = true := by have := g1; simpa using this
         have u2 : (bits .and .i64 dd 2 == 0) = false := by have := h2; unfold bitZ at this; simpa using this
         have t2 : decide (bits .and .i64 dd 2 = 0) = false := by have := u2; simpa using this
         have v2 : (a.r == b.r) = true := by have := g2; simpa using this
         have u3 : (bits .and .i64 dd 4 == 0) = false := by have := h3; unfold bitZ at this; simpa using this
         have t3 : decide (bits .and .i64 dd 4 = 0) = false := by have := u3; simpa using this
         have u4 : (bits .and .i64 dd 8 == 0) = false := by have := h4; unfold bitZ at this; simpa using this
         have t4 : decide (bits .and .i64 dd 8 = 0) = false := by have := u4; simpa using this
         have v4 : (a.s == b.s) = true := by have := g4; simpa using this
         clear HG h1 h2 h3 h4
         go_wp2_with fail
         refine (HC.out _ (Below.refl _ _)).mono ?_
         rw [g3]
         rintro e w3 ⟨rfl, hq⟩
         replace k3 := k3.grows hq
         replace k4 := k4.grows hq
         replace hB := below_grows hB (Nat.le_refl _) hq
         clear hq x3 x4
         have x3 := k3.cell
         have x4 := k4.cell
         go_wp2
         go_ret
         exact ⟨ret_bool HE.out.symm, hB⟩
end Go.Proofs.YtjbkjgmcfommgaaGreat
