/-
  YtobhdldlhhigdaaScValid: shared parts, 1. Plain theorems.
-/
import Derived.StillTail
import Derived.Below
import Derived.WalkKit
import Derived.Laws.OwnMore
import Derived.Deep.AppendLies
import Derived.Deep.Draws
import Derived.Laws.Rows
import Derived.Maps.AppendAt
import Derived.RegionTactic
import Derived.OwnWalk
import Derived.Lib.Hide
import Derived.Test.YtobhdldlhhigdaaRows
import Derived.ProofKit
import Derived.OpenShut
import Derived.SizedLaws
import Derived.Carry
import Derived.WalkLawsBesides
import Derived.Laws.Tables
import Derived.Deep.DeepCutAuto
import Derived.Deep.CutBlock
import Derived.Deep.RegionWith
import Derived.Lib.SliceRun
namespace Go.Proofs.Ytobhdldlhhigdaa
/-- A row of four integers: a node (ID, kind, inputs, outputs) or a link (from, output, to, input). -/
structure Q4 where
 a : Int
 b : Int
 c : Int
 d : Int
deriving DecidableEq
def q0 : Q4 := ⟨0, 0, 0, 0⟩
def fineN (n : Q4) : Bool := decide (1 ≤ n.a) && decide (n.a ≤ 2147483647) && ((n.b == 1 && n.c == 0 && n.d == 1) || (n.b == 2 && n.c == 1 && n.d == 0) || (n.b == 3 && decide (1 ≤ n.c) && decide (n.c ≤ 8) && n.d == 1) || (n.b == 4 && n.c == 1 && n.d == 1) || (n.b == 5 && n.c == 1 && decide (1 ≤ n.d) && decide (n.d ≤ 8)))
def findN (ns : List Q4) (id : Int) : Option Q4 := ns.find? fun n => n.a == id
/-- The last one: as a map keeps it. -/
def lastN (ns : List Q4) (id : Int) : Option Q4 := ns.reverse.find? fun n => n.a == id
def nodeN (ns : List Q4) (id : Int) : Q4 := (findN ns id).getD q0
def endsL (ns : List Q4) (l : Q4) : Bool := decide (0 ≤ l.b) && decide (l.b < (nodeN ns l.a).d) && decide (0 ≤ l.d) && decide (l.d < (nodeN ns l.c).c)
def lessL (x y : Q4) : Bool := if x.a = y.a then (if x.b = y.b then (if x.c = y.c then decide (x.d < y.d) else decide (x.c < y.c)) else decide (x.b < y.b)) else decide (x.a < y.a)
def clashL (ns : List Q4) (x l : Q4) : Bool := (x.c == l.c && x.d == l.d && (nodeN ns l.c).b != 3) || (x.a == l.a && x.b == l.b && (nodeN ns l.a).b != 5 && (nodeN ns l.a).b != 1)
def crowdL (ns : List Q4) (l : Q4) (o : List Q4) : Bool := o.any fun x => clashL ns x l
def stepN (ns : List Q4) (k : Nat) : Bool := fineN (ns.getD k q0) && (k == 0 || decide ((ns.getD (k - 1) q0).a < (ns.getD k q0).a))
def okN (ns : List Q4) : Bool := (List.range ns.length).all (stepN ns)
def stepK (ns ls : List Q4) (k : Nat) : Bool := endsL ns (ls.getD k q0) && (k == 0 || lessL (ls.getD (k - 1) q0) (ls.getD k q0)) && !crowdL ns (ls.getD k q0) (ls.take k)
def okK (ns ls : List Q4) : Bool := (List.range ls.length).all (stepK ns ls)
def freeN (ls : List Q4) (out : List Int) (n : Q4) : Bool := !out.contains n.a && ls.all fun l => l.c != n.a || out.contains l.a
def nextN (ns ls : List Q4) (out : List Int) : Option Q4 := ns.find? (freeN ls out)
def runN (ns ls : List Q4) : Nat → List Int → List Int
 | 0, out => out
 | k + 1, out => match nextN ns ls out with | none => out | some n => runN ns ls k (out ++ [n.a])
def orderL (ns ls : List Q4) : List Int := runN ns ls ns.length []
def validG (ns ls : List Q4) : Bool := decide (ns.length ≤ 64) && decide (ls.length ≤ 256) && okN ns && okK ns ls && decide ((orderL ns ls).length = ns.length)
theorem range_all_no {n k : Nat} {f : Nat → Bool} (hk : k < n) (h : f k = false) : (List.range n).all f = false := by
 cases e : (List.range n).all f
 ·rfl
 ·rw [List.all_eq_true] at e
  rw [e k (List.mem_range.2 hk)] at h
  cases h
theorem range_all_up {k : Nat} {f : Nat → Bool} (h : (List.range k).all f = true) (hk : f k = true) : (List.range (k + 1)).all f = true := by
 rw [List.range_succ, List.all_append, h]
 simp [hk]
theorem range_all_at {n k : Nat} {f : Nat → Bool} (h : (List.range n).all f = true) (hk : k < n) : f k = true := List.all_eq_true.1 h k (List.mem_range.2 hk)
/-- How many nodes are yet to come. -/
def leftN (ns : List Q4) (out : List Int) : Nat := (ns.filter fun n => !out.contains n.a).length
theorem filter_lt {α : Type} {p q : α → Bool} {l : List α} (h : ∀ x, q x = true → p x = true) {x : α} (hx : x ∈ l) (h1 : p x = true) (h2 : q x = false) : (l.filter q).length < (l.filter p).length := by
 induction l with
 | nil => simp at hx
 | cons y l ih =>
  have hle : ∀ l : List α, (l.filter q).length ≤ (l.filter p).length := by
   intro l
   induction l with
   | nil => simp
   | cons z l ih =>
    simp only [List.filter_cons]
    cases e : q z
    ·cases p z <;> simp <;> omega
    ·rw [h z e]; simp; omega
  simp only [List.filter_cons]
  rcases List.mem_cons.1 hx with rfl | hx
  ·rw [h1, h2]
   simp
   have := hle l
   omega
  ·have := ih hx
   cases e : q y
   ·cases p y <;> simp <;> omega
   ·rw [h y e]; simp; omega
theorem next_some {ns ls : List Q4} {out : List Int} {n : Q4} (h : nextN ns ls out = some n) : n ∈ ns ∧ freeN ls out n = true := ⟨List.mem_of_find?_eq_some h, by simpa using List.find?_some h⟩
theorem free_new {ls : List Q4} {out : List Int} {n : Q4} (h : freeN ls out n = true) : n.a ∉ out := by
 simp only [freeN, Bool.and_eq_true, Bool.not_eq_true', List.contains_eq_mem, decide_eq_false_iff_not] at h
 exact h.1
theorem free_from {ls : List Q4} {out : List Int} {n : Q4} (h : freeN ls out n = true) {l : Q4} (hl : l ∈ ls) (hc : l.c = n.a) : l.a ∈ out := by
 simp only [freeN, Bool.and_eq_true, List.all_eq_true, Bool.or_eq_true, bne_iff_ne, ne_eq, List.contains_eq_mem, decide_eq_true_eq] at h
 rcases h.2 l hl with x | x
 ·exact absurd hc x
 ·exact x
theorem left_lt {ns ls : List Q4} {out : List Int} {n : Q4} (h : nextN ns ls out = some n) : leftN ns (out ++ [n.a]) < leftN ns out := by
 obtain ⟨h1, h2⟩ := next_some h
 refine filter_lt (fun x hx => ?_) h1 ?_ ?_
 ·simp only [Bool.not_eq_true', List.contains_eq_mem, decide_eq_false_iff_not, List.mem_append] at hx ⊢
  exact fun hc => hx (.inl hc)
 ·simpa using free_new h2
 ·simp
theorem run_stop {ns ls : List Q4} {out : List Int} (h : nextN ns ls out = none) : ∀ k, runN ns ls k out = out
 | 0 => rfl
 | k + 1 => by simp [runN, h]
theorem run_enough {ns ls : List Q4} : ∀ k out, leftN ns out ≤ k → ∀ m, leftN ns out ≤ m → runN ns ls k out = runN ns ls m out
 | k, out, hk, m, hm => by
  cases e : nextN ns ls out with
  | none => rw [run_stop e, run_stop e]
  | some n =>
   have hl := left_lt e
   cases k with
   | zero => omega
   | succ k =>
    cases m with
    | zero => omega
    | succ m =>
     simp only [runN, e]
     exact run_enough k _ (by omega) m (by omega)
theorem left_nil (ns : List Q4) : leftN ns [] ≤ ns.length := List.length_filter_le _ _
/-- One step more. -/
theorem order_step {ns ls : List Q4} {out : List Int} {n : Q4} (h : nextN ns ls out = some n) (he : runN ns ls (leftN ns out) out = orderL ns ls) : runN ns ls (leftN ns (out ++ [n.a])) (out ++ [n.a]) = orderL ns ls := by
 rw [← he]
 have hl := left_lt h
 cases e : leftN ns out with
 | zero => omega
 | succ k =>
  simp only [runN, h]
  exact run_enough _ _ (Nat.le_refl _) _ (by omega)
theorem order_nil (ns ls : List Q4) : runN ns ls (leftN ns []) [] = orderL ns ls := run_enough _ _ (Nat.le_refl _) _ (left_nil ns)
theorem order_end {ns ls : List Q4} {out : List Int} (h : nextN ns ls out = none) (he : runN ns ls (leftN ns out) out = orderL ns ls) : out = orderL ns ls := by rw [← he, run_stop h]
/-- A partial order: ids of nodes, each once, behind all that lead to it. -/
def Run (ns ls : List Q4) (out : List Int) : Prop := out.Nodup ∧ (∀ i ∈ out, ∃ n ∈ ns, n.a = i) ∧ ∀ p i q, out = p ++ i :: q → ∀ l ∈ ls, l.c = i → l.a ∈ p
theorem run_nil (ns ls : List Q4) : Run ns ls [] := ⟨List.nodup_nil, by simp, fun p i q h => by simp at h⟩
theorem run_snoc {ns ls : List Q4} {out : List Int} {n : Q4} (h : Run ns ls out) (hn : n ∈ ns) (hf : freeN ls out n = true) : Run ns ls (out ++ [n.a]) := by
 obtain ⟨h1, h2, h3⟩ := h
 refine ⟨?_, ?_, ?_⟩
 ·rw [List.nodup_append]
  refine ⟨h1, by simp, ?_⟩
  intro x hx y hy e
  simp only [List.mem_singleton] at hy
  subst e hy
  exact free_new hf hx
 ·intro i hi
  rcases List.mem_append.1 hi with hi | hi
  ·exact h2 i hi
  ·simp only [List.mem_singleton] at hi
   exact ⟨n, hn, hi.symm⟩
 ·intro p i q e l hl hc
  rcases List.eq_nil_or_concat q with rfl | ⟨q', z, rfl⟩
  ·have := List.append_inj_left' e rfl
   have e2 := List.append_inj_right' e rfl
   simp only [List.cons.injEq, and_true] at e2
   subst this
   exact free_from hf hl (hc.trans e2.symm)
  ·have e3 : out ++ [n.a] = (p ++ i :: q') ++ [z] := by rw [e]; simp
   have := List.append_inj_left' e3 rfl
   exact h3 p i q' this l hl hc
theorem run_run {ns ls : List Q4} : ∀ k out, Run ns ls out → Run ns ls (runN ns ls k out)
 | 0, out, h => h
 | k + 1, out, h => by
  cases e : nextN ns ls out with
  | none => simp only [runN, e]; exact h
  | some n =>
   simp only [runN, e]
   exact run_run k _ (run_snoc h (next_some e).1 (next_some e).2)
theorem order_run (ns ls : List Q4) : Run ns ls (orderL ns ls) := run_run _ _ (run_nil ns ls)
theorem order_stuck (ns ls : List Q4) : nextN ns ls (orderL ns ls) = none := by
 have : ∀ k out, leftN ns out ≤ k → nextN ns ls (runN ns ls k out) = none := by
  intro k
  induction k with
  | zero =>
   intro out h
   cases e : nextN ns ls out with
   | none => simpa [runN] using e
   | some n => have := left_lt e; omega
  | succ k ih =>
   intro out h
   cases e : nextN ns ls out with
   | none => simp only [runN, e]
   | some n =>
    simp only [runN, e]
    exact ih _ (by have := left_lt e; omega)
 exact this _ _ (left_nil ns)
/-- Where some order of all nodes is known, the order has all of them. -/
theorem order_all {ns ls : List Q4} {t : List Int} (ht : ∀ n ∈ ns, n.a ∈ t) (hT : ∀ i ∈ t, ∃ n ∈ ns, n.a = i) (h : ∀ p i q, t = p ++ i :: q → ∀ l ∈ ls, l.c = i → l.a ∈ p) : ∀ n ∈ ns, n.a ∈ orderL ns ls := by
 have hs := order_stuck ns ls
 have : ∀ q p, t = p ++ q → (∀ i ∈ p, i ∈ orderL ns ls) → ∀ i ∈ t, i ∈ orderL ns ls := by
  intro q
  induction q with
  | nil => intro p e hp i hi; rw [e, List.append_nil] at hi; exact hp i hi
  | cons z q ih =>
   intro p e hp
   refine ih (p ++ [z]) (by simp [e]) ?_
   intro i hi
   rcases List.mem_append.1 hi with hi | hi
   ·exact hp i hi
   ·simp only [List.mem_singleton] at hi
    subst hi
    refine Classical.byContradiction fun hc => ?_
    obtain ⟨n, hn, en⟩ := hT i (by rw [e]; simp)
    have := List.find?_eq_none.1 hs n hn
    apply this
    simp only [freeN, Bool.and_eq_true, Bool.not_eq_true', List.contains_eq_mem, decide_eq_false_iff_not, List.all_eq_true, Bool.or_eq_true, bne_iff_ne, ne_eq, decide_eq_true_eq]
    refine ⟨by rw [en]; exact hc, fun l hl => ?_⟩
    by_cases hx : l.c = n.a
    ·exact .inr (hp _ (h p i q e l hl (hx.trans en)))
    ·exact .inl hx
 exact fun n hn => this t [] rfl (by simp) _ (ht n hn)
end Go.Proofs.Ytobhdldlhhigdaa

namespace Go.Proofs.Ytobhdldlhhigdaa
/-- One link on the way: the best sum at a node. -/
def relaxL (W : Int → Int) (id : Int) (S : Int → Option Int) (l : Q4) : Int → Option Int :=
 if l.c = id then match S l.a with | none => S | some s => fun y => if y = id then some (max ((S id).getD 0) (s + W id)) else S y else S
def passL (W : Int → Int) (ls : List Q4) (S : Int → Option Int) (id : Int) : Int → Option Int := ls.foldl (relaxL W id) S
def startL (W : Int → Int) (a : Int) : Int → Option Int := fun y => if y = a then some (W a) else none
def longS (W : Int → Int) (ls : List Q4) (order : List Int) (a : Int) : Int → Option Int := order.foldl (passL W ls) (startL W a)
theorem relax_of (W : Int → Int) (id : Int) (S : Int → Option Int) (l : Q4) (h : l.c = id) : relaxL W id S l = match S l.a with | none => S | some s => fun y => if y = id then some (max ((S id).getD 0) (s + W id)) else S y := by simp [relaxL, h]
theorem relax_ne (W : Int → Int) (id : Int) (S : Int → Option Int) (l : Q4) (h : l.c ≠ id) : relaxL W id S l = S := by simp [relaxL, h]
/-- The inputs of a node, in the order of the links. -/
def inL (ls : List Q4) (id : Int) : List Q4 := ls.filter fun l => l.c == id
theorem pass_in (W : Int → Int) (ls : List Q4) (id : Int) (S : Int → Option Int) : (inL ls id).foldl (relaxL W id) S = passL W ls S id := by
 unfold inL passL
 induction ls generalizing S with
 | nil => rfl
 | cons l ls ih =>
  rw [List.filter_cons, List.foldl_cons]
  by_cases h : l.c = id
  ·simp only [h, beq_self_eq_true, if_true, List.foldl_cons]
   exact ih _
  ·have : (l.c == id) = false := by simp [h]
   rw [this, relax_ne W id S l h]
   simpa using ih S
/-- All sums are within bounds. -/
def SB (S : Int → Option Int) (m : Int) : Prop := ∀ y v, S y = some v → 0 ≤ v ∧ v ≤ m
def WB (W : Int → Int) : Prop := ∀ y, 0 ≤ W y ∧ W y ≤ 1099511627776
theorem sb_start {W : Int → Int} (hW : WB W) (a : Int) : SB (startL W a) 1099511627776 := by
 intro y v h
 unfold startL at h
 split at h
 ·injection h with h; subst h; exact hW a
 ·cases h
theorem SB.mono {S : Int → Option Int} {m n : Int} (h : SB S m) (hm : m ≤ n) : SB S n := fun y v e => ⟨(h y v e).1, by have := (h y v e).2; omega⟩
theorem sb_relax {W : Int → Int} (hW : WB W) {S : Int → Option Int} {m : Int} (h : SB S m) (h0 : 0 ≤ m) (id : Int) (l : Q4) : SB (relaxL W id S l) (m + 1099511627776) := by
 unfold relaxL
 split
 ·cases e : S l.a with
  | none => exact h.mono (by omega)
  | some s =>
   intro y v hv
   simp only at hv
   split at hv
   ·injection hv with hv
    have h1 := h _ _ e
    have h2 := hW id
    cases e2 : S id with
    | none => rw [e2] at hv; simp only [Option.getD_none] at hv; omega
    | some t => have h3 := h _ _ e2; rw [e2] at hv; simp only [Option.getD_some] at hv; omega
   ·exact (h.mono (by omega)) y v hv
 ·exact h.mono (by omega)
theorem sb_fold {W : Int → Int} (hW : WB W) (id : Int) : ∀ (ls : List Q4) {S : Int → Option Int} {m : Int}, SB S m → 0 ≤ m → SB (ls.foldl (relaxL W id) S) (m + ls.length * 1099511627776)
 | [], S, m, h, h0 => by simpa using h
 | l :: ls, S, m, h, h0 => by
  rw [List.foldl_cons]
  have := sb_fold hW id ls (sb_relax hW h h0 id l) (by omega)
  refine this.mono ?_
  simp only [List.length_cons]
  omega
theorem sb_pass {W : Int → Int} (hW : WB W) (ls : List Q4) (hl : ls.length ≤ 256) {S : Int → Option Int} {k : Nat} (h : SB S (1099511627776 + k * 281474976710656)) (id : Int) : SB (passL W ls S id) (1099511627776 + (k + 1 : Nat) * 281474976710656) := by
 refine (sb_fold hW id ls h (by omega)).mono ?_
 omega
/-- What is there grows. -/
def LeS (S T : Int → Option Int) : Prop := ∀ y v, S y = some v → ∃ u, T y = some u ∧ v ≤ u
theorem LeS.rfl' (S : Int → Option Int) : LeS S S := fun _ v h => ⟨v, h, Int.le_refl _⟩
theorem LeS.trans {S T U : Int → Option Int} (h : LeS S T) (k : LeS T U) : LeS S U := fun y v e => by
 obtain ⟨u, e1, h1⟩ := h y v e
 obtain ⟨t, e2, h2⟩ := k y u e1
 exact ⟨t, e2, by omega⟩
theorem le_relax (W : Int → Int) (id : Int) (S : Int → Option Int) (l : Q4) : LeS S (relaxL W id S l) := by
 intro y v h
 unfold relaxL
 split
 ·cases e : S l.a with
  | none => exact ⟨v, h, Int.le_refl _⟩
  | some s =>
   simp only
   split
   ·rename_i hy
    subst hy
    rw [h]
    simp only [Option.getD_some, Option.some.injEq]
    exact ⟨_, rfl, by omega⟩
   ·exact ⟨v, h, Int.le_refl _⟩
 ·exact ⟨v, h, Int.le_refl _⟩
theorem le_fold (W : Int → Int) (id : Int) : ∀ (ls : List Q4) (S : Int → Option Int), LeS S (ls.foldl (relaxL W id) S)
 | [], S => LeS.rfl' S
 | l :: ls, S => (le_relax W id S l).trans (le_fold W id ls _)
theorem le_passes (W : Int → Int) (ls : List Q4) : ∀ (o : List Int) (S : Int → Option Int), LeS S (o.foldl (passL W ls) S)
 | [], S => LeS.rfl' S
 | i :: o, S => (le_fold W i ls S).trans (le_passes W ls o _)
/-- Over a link the sum is at least that of both ends. -/
theorem long_link {W : Int → Int} {ls : List Q4} {order : List Int} {l : Q4} (hl : l ∈ ls) (ho : l.c ∈ order) : ∃ v, longS W ls order l.a l.c = some v ∧ W l.a + W l.c ≤ v := by
 unfold longS
 obtain ⟨p, q, rfl⟩ := List.append_of_mem ho
 rw [List.foldl_append, List.foldl_cons]
 obtain ⟨u, e1, h1⟩ := le_passes W ls p (startL W l.a) l.a (W l.a) (by simp [startL])
 generalize p.foldl (passL W ls) (startL W l.a) = S at *
 obtain ⟨r, t, rfl⟩ := List.append_of_mem hl
 have : ∃ v, passL W (r ++ l :: t) S l.c l.c = some v ∧ W l.a + W l.c ≤ v := by
  unfold passL
  rw [List.foldl_append, List.foldl_cons]
  obtain ⟨s, e2, h2⟩ := le_fold W l.c r S l.a u e1
  generalize r.foldl (relaxL W l.c) S = T at *
  have : ∃ v, relaxL W l.c T l l.c = some v ∧ W l.a + W l.c ≤ v := by
   rw [relax_of _ _ _ _ rfl, e2]
   simp only [if_true, Option.some.injEq]
   exact ⟨_, rfl, by omega⟩
  obtain ⟨v, e3, h3⟩ := this
  obtain ⟨x, e4, h4⟩ := le_fold W l.c t _ _ _ e3
  exact ⟨x, e4, by omega⟩
 obtain ⟨v, e3, h3⟩ := this
 obtain ⟨x, e4, h4⟩ := le_passes W (r ++ l :: t) q _ _ _ e3
 exact ⟨x, e4, by omega⟩
theorem getD_at' {l : List Q4} {k : Nat} {x : Q4} (hx : l[k]? = some x) : l.getD k q0 = x := by rw [List.getD_eq_getElem?_getD, hx]; rfl
theorem okN_iff (ns : List Q4) : okN ns = true ↔ (∀ n ∈ ns, fineN n = true) ∧ ns.Pairwise fun x y => x.a < y.a := by
 have key : okN ns = true ↔ ∀ k, (hk : k < ns.length) → fineN ns[k] = true ∧ (k = 0 ∨ (ns.getD (k - 1) q0).a < ns[k].a) := by
  unfold okN
  rw [List.all_eq_true]
  constructor
  ·intro h k hk
   have := h k (List.mem_range.2 hk)
   unfold stepN at this
   rw [getD_at' (List.getElem?_eq_getElem hk)] at this
   simpa [Bool.and_eq_true, Bool.or_eq_true] using this
  ·intro h k hk
   have hk := List.mem_range.1 hk
   unfold stepN
   rw [getD_at' (List.getElem?_eq_getElem hk)]
   simpa [Bool.and_eq_true, Bool.or_eq_true] using h k hk
 rw [key, List.pairwise_iff_getElem]
 constructor
 ·intro h
  refine ⟨fun n hn => ?_, ?_⟩
  ·obtain ⟨k, hk, rfl⟩ := List.getElem_of_mem hn
   exact (h k hk).1
  ·intro i j hi hj hij
   induction j with
   | zero => omega
   | succ j ih =>
    have h1 := (h (j + 1) hj).2
    rw [Nat.add_sub_cancel, getD_at' (List.getElem?_eq_getElem (by omega))] at h1
    by_cases e : i = j
    ·subst e; omega
    ·have := ih (by omega) (by omega); omega
 ·rintro ⟨h1, h2⟩ k hk
  refine ⟨h1 _ (List.getElem_mem hk), ?_⟩
  cases k with
  | zero => exact .inl rfl
  | succ k =>
   right
   rw [Nat.add_sub_cancel, getD_at' (List.getElem?_eq_getElem (by omega))]
   exact h2 k (k + 1) (by omega) hk (by omega)
theorem less_irrefl (x : Q4) : lessL x x = false := by simp [lessL]
theorem less_trans {x y z : Q4} (h : lessL x y = true) (k : lessL y z = true) : lessL x z = true := by
 unfold lessL at *
 repeat' split at h
 all_goals repeat' split at k
 all_goals simp only [decide_eq_true_eq] at h k
 all_goals repeat' split
 all_goals first | (simp only [decide_eq_true_eq]; omega) | omega
theorem less_total {x y : Q4} (h : lessL x y = false) (hne : x ≠ y) : lessL y x = true := by
 have : x.a ≠ y.a ∨ x.b ≠ y.b ∨ x.c ≠ y.c ∨ x.d ≠ y.d := by
  cases x; cases y
  simp only [ne_eq, Q4.mk.injEq, not_and] at hne ⊢
  rename_i a b c d a2 b2 c2 d2
  by_cases e1 : a = a2
  ·by_cases e2 : b = b2
   ·by_cases e3 : c = c2
    ·exact .inr (.inr (.inr (hne e1 e2 e3)))
    ·exact .inr (.inr (.inl e3))
   ·exact .inr (.inl e2)
  ·exact .inl e1
 unfold lessL at *
 repeat' split at h
 all_goals simp only [decide_eq_false_iff_not] at h
 all_goals repeat' split
 all_goals first | (simp only [decide_eq_true_eq]; omega) | omega
theorem clash_comm (ns : List Q4) (x l : Q4) : clashL ns x l = clashL ns l x := by
 unfold clashL
 have e1 : (x.c == l.c && x.d == l.d && (nodeN ns l.c).b != 3) = (l.c == x.c && l.d == x.d && (nodeN ns x.c).b != 3) := by
  by_cases h : x.c = l.c
  ·rw [h, beq_self_eq_true, BEq.comm (a := x.d)]
  ·have h2 : (l.c == x.c) = false := by simpa using fun e => h e.symm
   have h3 : (x.c == l.c) = false := by simpa using h
   rw [h2, h3]
   rfl
 have e2 : (x.a == l.a && x.b == l.b && (nodeN ns l.a).b != 5 && (nodeN ns l.a).b != 1) = (l.a == x.a && l.b == x.b && (nodeN ns x.a).b != 5 && (nodeN ns x.a).b != 1) := by
  by_cases h : x.a = l.a
  ·rw [h, beq_self_eq_true, BEq.comm (a := x.b)]
  ·have h2 : (l.a == x.a) = false := by simpa using fun e => h e.symm
   have h3 : (x.a == l.a) = false := by simpa using h
   rw [h2, h3]
   rfl
 rw [e1, e2]
theorem okK_iff (ns ls : List Q4) : okK ns ls = true ↔ (∀ l ∈ ls, endsL ns l = true) ∧ (ls.Pairwise fun x y => lessL x y = true) ∧ ls.Pairwise fun x y => clashL ns x y = false := by
 have key : okK ns ls = true ↔ ∀ k, (hk : k < ls.length) → endsL ns ls[k] = true ∧ (k = 0 ∨ lessL (ls.getD (k - 1) q0) ls[k] = true) ∧ crowdL ns ls[k] (ls.take k) = false := by
  unfold okK
  rw [List.all_eq_true]
  constructor
  ·intro h k hk
   have := h k (List.mem_range.2 hk)
   unfold stepK at this
   rw [getD_at' (List.getElem?_eq_getElem hk)] at this
   simp only [Bool.and_eq_true, Bool.or_eq_true, beq_iff_eq, Bool.not_eq_true'] at this
   exact ⟨this.1.1, this.1.2, this.2⟩
  ·intro h k hk
   have hk := List.mem_range.1 hk
   unfold stepK
   rw [getD_at' (List.getElem?_eq_getElem hk)]
   obtain ⟨h1, h2, h3⟩ := h k hk
   simp only [Bool.and_eq_true, Bool.or_eq_true, beq_iff_eq, Bool.not_eq_true']
   exact ⟨⟨h1, h2⟩, h3⟩
 rw [key]
 constructor
 ·intro h
  refine ⟨fun n hn => ?_, ?_, ?_⟩
  ·obtain ⟨k, hk, rfl⟩ := List.getElem_of_mem hn
   exact (h k hk).1
  ·rw [List.pairwise_iff_getElem]
   intro i j hi hj hij
   induction j with
   | zero => omega
   | succ j ih =>
    have h1 := (h (j + 1) hj).2.1
    rw [Nat.add_sub_cancel, getD_at' (List.getElem?_eq_getElem (by omega))] at h1
    have h1 : lessL ls[j] ls[j + 1] = true := by rcases h1 with h1 | h1; omega; exact h1
    by_cases e : i = j
    ·subst e; exact h1
    ·exact less_trans (ih (by omega) (by omega)) h1
  ·rw [List.pairwise_iff_getElem]
   intro i j hi hj hij
   have := (h j hj).2.2
   unfold crowdL at this
   rw [List.any_eq_false] at this
   have h2 := this (ls[i]) (List.mem_take_iff_getElem.2 ⟨i, by omega, rfl⟩)
   simpa using h2
 ·rintro ⟨h1, h2, h3⟩ k hk
  rw [List.pairwise_iff_getElem] at h2 h3
  refine ⟨h1 _ (List.getElem_mem hk), ?_, ?_⟩
  ·cases k with
   | zero => exact .inl rfl
   | succ k =>
    right
    rw [Nat.add_sub_cancel, getD_at' (List.getElem?_eq_getElem (by omega))]
    exact h2 k (k + 1) (by omega) hk (by omega)
  ·unfold crowdL
   rw [List.any_eq_false]
   intro x hx
   obtain ⟨i, hi, rfl⟩ := List.mem_take_iff_getElem.1 hx
   have := h3 i k (by omega) hk (by omega)
   simpa using this
/-- Ahead of all that are not less. -/
def insN (ns : List Q4) (k : Nat) (n : Q4) : List Q4 := ns.take k ++ [n] ++ ns.drop k
def cutAt (ns : List Q4) (p : Q4 → Bool) (k : Nat) : Prop := k ≤ ns.length ∧ (∀ x ∈ ns.take k, p x = true) ∧ ∀ x, ns[k]? = some x → p x = false
theorem ins_mem {ns : List Q4} {k : Nat} {n x : Q4} : x ∈ insN ns k n ↔ x = n ∨ x ∈ ns := by
 unfold insN
 simp only [List.append_assoc, List.mem_append, List.cons_append, List.nil_append, List.mem_cons]
 conv => rhs; rw [← List.take_append_drop k ns]
 rw [List.mem_append]
 constructor
 ·rintro (h | h | h)
  ·exact .inr (.inl h)
  ·exact .inl h
  ·exact .inr (.inr h)
 ·rintro (h | h | h)
  ·exact .inr (.inl h)
  ·exact .inl h
  ·exact .inr (.inr h)
theorem ins_length {ns : List Q4} {k : Nat} {n : Q4} (hk : k ≤ ns.length) : (insN ns k n).length = ns.length + 1 := by
 unfold insN
 simp only [List.length_append, List.length_take, List.length_drop, List.length_singleton]
 omega
theorem pairwise_ins {R : Q4 → Q4 → Prop} {ns : List Q4} {k : Nat} {n : Q4} (h : ns.Pairwise R) (h1 : ∀ x ∈ ns.take k, R x n) (h2 : ∀ x ∈ ns.drop k, R n x) : (insN ns k n).Pairwise R := by
 unfold insN
 have h3 := h
 rw [← List.take_append_drop k ns, List.pairwise_append] at h3
 rw [List.append_assoc, List.pairwise_append]
 refine ⟨h3.1, ?_, ?_⟩
 ·rw [List.singleton_append, List.pairwise_cons]
  exact ⟨h2, h3.2.1⟩
 ·intro x hx y hy
  rw [List.singleton_append, List.mem_cons] at hy
  rcases hy with rfl | hy
  ·exact h1 x hx
  ·exact h3.2.2 x hx y hy
theorem drop_rel {R : Q4 → Q4 → Prop} {ns : List Q4} {k : Nat} (h : ns.Pairwise R) {P : Q4 → Prop} (h0 : ∀ x, ns[k]? = some x → P x) (hs : ∀ x y, P x → R x y → P y) : ∀ x ∈ ns.drop k, P x := by
 intro x hx
 rcases Nat.lt_or_ge k ns.length with hk | hk
 ·rw [List.drop_eq_getElem_cons hk, List.mem_cons] at hx
  have h1 := h0 _ (List.getElem?_eq_getElem hk)
  rcases hx with rfl | hx
  ·exact h1
  ·have h3 := h
   rw [← List.take_append_drop k ns, List.pairwise_append, List.drop_eq_getElem_cons hk, List.pairwise_cons] at h3
   exact hs _ _ h1 (h3.2.1.1 x hx)
 ·rw [List.drop_of_length_le hk] at hx
  cases hx
theorem ins_asc {ns : List Q4} {k : Nat} {n : Q4} (h : ns.Pairwise fun x y => x.a < y.a) (hc : cutAt ns (fun x => decide (x.a < n.a)) k) (hn : ∀ x ∈ ns, x.a ≠ n.a) : (insN ns k n).Pairwise fun x y => x.a < y.a := by
 refine pairwise_ins h (fun x hx => by simpa using hc.2.1 x hx) ?_
 refine drop_rel h (P := fun x => n.a < x.a) (fun x hx => ?_) (fun x y hx hy => by omega)
 have h1 := hc.2.2 x hx
 have h2 := hn x (List.mem_of_getElem? hx)
 simp only [decide_eq_false_iff_not] at h1
 omega
theorem ins_less {ls : List Q4} {k : Nat} {n : Q4} (h : ls.Pairwise fun x y => lessL x y = true) (hc : cutAt ls (fun x => lessL x n) k) (hn : n ∉ ls) : (insN ls k n).Pairwise fun x y => lessL x y = true := by
 refine pairwise_ins h (fun x hx => hc.2.1 x hx) ?_
 refine drop_rel h (P := fun x => lessL n x = true) (fun x hx => ?_) (fun x y hx hy => less_trans hx hy)
 exact less_total (hc.2.2 x hx) (fun e => hn (e ▸ List.mem_of_getElem? hx))
theorem find_of_mem {ns : List Q4} (h : ns.Pairwise fun x y => x.a < y.a) {n : Q4} (hn : n ∈ ns) : findN ns n.a = some n := by
 unfold findN
 induction ns with
 | nil => cases hn
 | cons x ns ih =>
  rw [List.pairwise_cons] at h
  rw [List.find?_cons]
  rcases List.mem_cons.1 hn with rfl | hn
  ·simp
  ·have := h.1 n hn
   have e : (x.a == n.a) = false := by simp; omega
   rw [e]
   exact ih h.2 hn
theorem find_no {ns : List Q4} {id : Int} (h : ∀ n ∈ ns, n.a ≠ id) : findN ns id = none := by
 unfold findN
 rw [List.find?_eq_none]
 intro x hx
 simpa using h x hx
theorem find_some {ns : List Q4} {id : Int} {n : Q4} (h : findN ns id = some n) : n ∈ ns ∧ n.a = id := ⟨List.mem_of_find?_eq_some h, by simpa using List.find?_some h⟩
/-- Two lists with the same nodes, each in order, find the same. -/
theorem find_sub {ns ms : List Q4} (hm : ms.Pairwise fun x y => x.a < y.a) {id : Int} {n : Q4} (h : findN ns id = some n) (hs : n ∈ ms) : findN ms id = some n := by
 obtain ⟨_, h2⟩ := find_some h
 subst h2
 exact find_of_mem hm hs
theorem ends_node {ns : List Q4} {l : Q4} (h : endsL ns l = true) : (∃ n, findN ns l.a = some n) ∧ ∃ n, findN ns l.c = some n := by
 unfold endsL nodeN at h
 simp only [Bool.and_eq_true, decide_eq_true_eq] at h
 constructor
 ·cases e : findN ns l.a with
  | some n => exact ⟨n, rfl⟩
  | none => rw [e] at h; simp only [Option.getD_none, q0] at h; omega
 ·cases e : findN ns l.c with
  | some n => exact ⟨n, rfl⟩
  | none => rw [e] at h; simp only [Option.getD_none, q0] at h; omega
theorem nodup_len : ∀ {l m : List Int}, l.Nodup → (∀ x ∈ l, x ∈ m) → l.length ≤ m.length
 | [], m, _, _ => by simp
 | x :: l, m, h, hs => by
  rw [List.nodup_cons] at h
  have := nodup_len (l := l) (m := m.erase x) h.2 (fun y hy => (List.mem_erase_of_ne (show y ≠ x from fun e => h.1 (e ▸ hy))).2 (hs y (by simp [hy])))
  rw [List.length_erase_of_mem (hs x (by simp))] at this
  have : 0 < m.length := List.length_pos_of_mem (hs x (by simp))
  simp only [List.length_cons]
  omega
theorem ids_nodup {ns : List Q4} (h : ns.Pairwise fun x y => x.a < y.a) : (ns.map Q4.a).Nodup := by
 unfold List.Nodup
 rw [List.pairwise_map]
 exact h.imp fun hx => by omega
theorem order_le {ns ls : List Q4} : (orderL ns ls).length ≤ ns.length := by
 have h := order_run ns ls
 have := nodup_len (m := ns.map Q4.a) h.1 (fun x hx => by
  obtain ⟨n, hn, e⟩ := h.2.1 x hx
  exact List.mem_map.2 ⟨n, hn, e⟩)
 simpa using this
theorem order_full {ns ls : List Q4} (h : ns.Pairwise fun x y => x.a < y.a) : (orderL ns ls).length = ns.length ↔ ∀ n ∈ ns, n.a ∈ orderL ns ls := by
 have hr := order_run ns ls
 constructor
 ·intro e n hn
  refine Classical.byContradiction fun hc => ?_
  have := nodup_len (l := n.a :: orderL ns ls) (m := ns.map Q4.a) (List.nodup_cons.2 ⟨hc, hr.1⟩) (fun x hx => by
   rcases List.mem_cons.1 hx with rfl | hx
   ·exact List.mem_map.2 ⟨n, hn, rfl⟩
   ·obtain ⟨n, hn, e⟩ := hr.2.1 x hx
    exact List.mem_map.2 ⟨n, hn, e⟩)
  simp only [List.length_cons, List.length_map] at this
  omega
 ·intro ha
  have h1 := nodup_len (m := orderL ns ls) (ids_nodup h) (fun x hx => by
   obtain ⟨n, hn, rfl⟩ := List.mem_map.1 hx
   exact ha n hn)
  have h2 := order_le (ns := ns) (ls := ls)
  simp only [List.length_map] at h1
  omega
theorem valid_parts {ns ls : List Q4} : validG ns ls = true ↔ ns.length ≤ 64 ∧ ls.length ≤ 256 ∧ okN ns = true ∧ okK ns ls = true ∧ (orderL ns ls).length = ns.length := by
 unfold validG
 simp only [Bool.and_eq_true, decide_eq_true_eq]
 constructor
 ·rintro ⟨⟨⟨⟨a, b⟩, c⟩, d⟩, e⟩; exact ⟨a, b, c, d, e⟩
 ·rintro ⟨a, b, c, d, e⟩; exact ⟨⟨⟨⟨a, b⟩, c⟩, d⟩, e⟩
/-- A node more keeps a graph valid. -/
theorem valid_add {ns ls : List Q4} {n : Q4} {k : Nat} (h : validG ns ls = true) (hf : fineN n = true) (hn : findN ns n.a = none) (hl : ns.length < 64) (hc : cutAt ns (fun x => decide (x.a < n.a)) k) : validG (insN ns k n) ls = true := by
 rw [valid_parts] at h ⊢
 obtain ⟨h1, h2, h3, h4, h5⟩ := h
 rw [okN_iff] at h3
 rw [okK_iff] at h4
 have hne : ∀ x ∈ ns, x.a ≠ n.a := by
  unfold findN at hn
  rw [List.find?_eq_none] at hn
  exact fun x hx => by simpa using hn x hx
 have hasc := ins_asc h3.2 hc hne
 have hnode : ∀ id m, findN ns id = some m → nodeN (insN ns k n) id = nodeN ns id := fun id m e => by
  unfold nodeN
  rw [e, find_sub hasc e (ins_mem.2 (.inr (find_some e).1))]
 refine ⟨by rw [ins_length hc.1]; omega, h2, ?_, ?_, ?_⟩
 ·rw [okN_iff]
  refine ⟨fun x hx => ?_, hasc⟩
  rcases ins_mem.1 hx with rfl | hx
  ·exact hf
  ·exact h3.1 x hx
 ·rw [okK_iff]
  refine ⟨fun l hl => ?_, h4.2.1, ?_⟩
  ·have := h4.1 l hl
   obtain ⟨⟨m, e1⟩, ⟨m2, e2⟩⟩ := ends_node this
   unfold endsL at this ⊢
   rw [hnode _ _ e1, hnode _ _ e2]
   exact this
  ·refine List.Pairwise.imp_of_mem ?_ h4.2.2
   intro x y hx hy hxy
   obtain ⟨⟨m, e1⟩, ⟨m2, e2⟩⟩ := ends_node (h4.1 y hy)
   unfold clashL at hxy ⊢
   rw [hnode _ _ e1, hnode _ _ e2]
   exact hxy
 ·rw [order_full hasc]
  rw [order_full h3.2] at h5
  have hr := order_run ns ls
  refine order_all (t := orderL ns ls ++ [n.a]) ?_ ?_ ?_
  ·intro x hx
   rcases ins_mem.1 hx with rfl | hx
   ·simp
   ·exact List.mem_append_left _ (h5 x hx)
  ·intro i hi
   rcases List.mem_append.1 hi with hi | hi
   ·obtain ⟨m, hm, e⟩ := hr.2.1 i hi
    exact ⟨m, ins_mem.2 (.inr hm), e⟩
   ·simp only [List.mem_singleton] at hi
    exact ⟨n, ins_mem.2 (.inl rfl), hi.symm⟩
  ·intro p i q e l hl hi
   rcases List.eq_nil_or_concat q with rfl | ⟨q', z, rfl⟩
   ·have e1 := List.append_inj_left' e rfl
    have e2 := List.append_inj_right' e rfl
    simp only [List.cons.injEq, and_true] at e2
    obtain ⟨_, ⟨m, e3⟩⟩ := ends_node (h4.1 l hl)
    have := find_some e3
    exact absurd (this.2.trans (hi.trans e2.symm)) (hne m this.1)
   ·have e3 : orderL ns ls ++ [n.a] = (p ++ i :: q') ++ [z] := by rw [e]; simp
    exact hr.2.2 p i q' (List.append_inj_left' e3 rfl) l hl hi
/-- A link more keeps a graph valid, if there is an order. -/
theorem valid_connect {ns ls : List Q4} {l : Q4} {k : Nat} (h : validG ns ls = true) (he : endsL ns l = true) (hn : l ∉ ls) (hl : ls.length < 256) (hcr : crowdL ns l ls = false) (hc : cutAt ls (fun x => lessL x l) k) (ho : ns.length ≤ (orderL ns (insN ls k l)).length) : validG ns (insN ls k l) = true := by
 rw [valid_parts] at h ⊢
 obtain ⟨h1, h2, h3, h4, h5⟩ := h
 rw [okK_iff] at h4
 refine ⟨h1, by rw [ins_length hc.1]; omega, h3, ?_, Nat.le_antisymm order_le ho⟩
 rw [okK_iff]
 unfold crowdL at hcr
 rw [List.any_eq_false] at hcr
 refine ⟨fun x hx => ?_, ins_less h4.2.1 hc hn, pairwise_ins h4.2.2 (fun x hx => ?_) (fun x hx => ?_)⟩
 ·rcases ins_mem.1 hx with rfl | hx
  ·exact he
  ·exact h4.1 x hx
 ·simpa using hcr x (List.mem_of_mem_take hx)
 ·rw [clash_comm]
  simpa using hcr x (List.mem_of_mem_drop hx)
end Go.Proofs.Ytobhdldlhhigdaa

namespace Go.Proofs.Ytobhdldlhhigdaa
/-! Slots: a the node, b the worker, c the start, d the end. -/
def endS (l : List Q4) (x : Int) : Option Int := (findN l x).map Q4.d
def readyS (ls l : List Q4) (id t : Int) : Bool := ls.all fun k => k.c != id || (match endS l k.a with | none => false | some e => decide (e ≤ t))
def nextS (order : List Int) (ls l : List Q4) (t : Int) : Option Int := order.find? fun id => (endS l id).isNone && readyS ls l id t
def freeS (busy : List Int) (t : Int) : Option Nat := busy.findIdx? fun b => decide (b ≤ t)
def laterS (l : List Q4) (t : Int) : Int := l.foldl (fun o s => if t < s.d ∧ (o < 0 ∨ s.d < o) then s.d else o) (-1)
structure St where
 l : List Q4
 busy : List Int
 t : Int
def stepS (W : Int → Int) (order : List Int) (ls : List Q4) (s : St) : St :=
 match nextS order ls s.l s.t, freeS s.busy s.t with
 | some id, some w => ⟨s.l ++ [⟨id, w, s.t, s.t + W id⟩], s.busy.set w (s.t + W id), s.t⟩
 | _, _ => ⟨s.l, s.busy, laterS s.l s.t⟩
def startS (wk : Nat) : St := ⟨[], List.replicate wk 0, 0⟩
def runS (W : Int → Int) (order : List Int) (ls : List Q4) (n : Nat) : Nat → St → St
 | 0, s => s
 | k + 1, s => if s.l.length < n then runS W order ls n k (stepS W order ls s) else s
/-- Work that is done by a time. -/
def workS : List Q4 → Int → Int
 | [], _ => 0
 | s :: l, t => max 0 (min t s.d - s.c) + workS l t
def costsS (W : Int → Int) : List Q4 → Int
 | [] => 0
 | s :: l => W s.a + costsS W l
theorem work_append (a b : List Q4) (t : Int) : workS (a ++ b) t = workS a t + workS b t := by
 induction a with
 | nil => simp [workS]
 | cons s a ih => simp only [List.cons_append, workS, ih]; omega
theorem costs_append (W : Int → Int) (a b : List Q4) : costsS W (a ++ b) = costsS W a + costsS W b := by
 induction a with
 | nil => simp [costsS]
 | cons s a ih => simp only [List.cons_append, costsS, ih]; omega
theorem work_nonneg (l : List Q4) (t : Int) : 0 ≤ workS l t := by
 induction l with
 | nil => simp [workS]
 | cons s l ih => simp only [workS]; omega
theorem work_mono (l : List Q4) {t u : Int} (h : t ≤ u) : workS l t ≤ workS l u := by
 induction l with
 | nil => simp [workS]
 | cons s l ih => simp only [workS]; omega
/-- One slot's work between its start and its end. -/
theorem work_one {l : List Q4} {s : Q4} (hs : s ∈ l) (h : s.c ≤ s.d) : workS l s.c + (s.d - s.c) ≤ workS l s.d := by
 induction l with
 | nil => cases hs
 | cons u l ih =>
  simp only [workS]
  rcases List.mem_cons.1 hs with rfl | hs
  ·have := work_mono l h
   omega
  ·have := ih hs
   omega
theorem work_le (W : Int → Int) (hW : ∀ x, 0 ≤ W x) {l : List Q4} (h : ∀ s ∈ l, s.d = s.c + W s.a) (t : Int) : workS l t ≤ costsS W l := by
 induction l with
 | nil => simp [workS, costsS]
 | cons s l ih =>
  simp only [workS, costsS]
  have h1 := ih fun u hu => h u (by simp [hu])
  have h2 := h s (by simp)
  have h3 := hW s.a
  omega
/-- Where each of so many workers has a slot that covers a stretch, that much work is done in it. -/
theorem work_all {e u : Int} (heu : e ≤ u) : ∀ (wk : Nat) (l : List Q4), (∀ i : Nat, i < wk → ∃ s ∈ l, s.b = (i : Int) ∧ s.c ≤ e ∧ u ≤ s.d) → (wk : Int) * (u - e) ≤ workS l u - workS l e := by
 intro wk
 induction wk with
 | zero => intro l _; have := work_mono l heu; omega
 | succ k ih =>
  intro l h
  have split : ∀ (l : List Q4) (t : Int), workS l t = workS (l.filter fun s => s.b == (k : Int)) t + workS (l.filter fun s => !(s.b == (k : Int))) t := by
   intro l t
   induction l with
   | nil => simp [workS]
   | cons s l ih =>
    simp only [List.filter_cons, workS]
    cases hb : s.b == (k : Int)
    ·simp only [Bool.not_false, if_true, workS, Bool.false_eq_true, if_false]; omega
    ·simp only [Bool.not_true, Bool.false_eq_true, if_false, if_true, workS]; omega
  rw [split l u, split l e]
  have h1 := ih (l.filter fun s => !(s.b == (k : Int))) (fun i hi => by
   obtain ⟨s, hs, hb, hc, hd⟩ := h i (by omega)
   refine ⟨s, List.mem_filter.2 ⟨hs, ?_⟩, hb, hc, hd⟩
   simp only [Bool.not_eq_true', beq_eq_false_iff_ne, ne_eq]
   omega)
  obtain ⟨s, hs, hb, hc, hd⟩ := h k (by omega)
  have hs2 : s ∈ l.filter fun s => s.b == (k : Int) := List.mem_filter.2 ⟨hs, by simp [hb]⟩
  have h2 : (u - e) ≤ workS (l.filter fun s => s.b == (k : Int)) u - workS (l.filter fun s => s.b == (k : Int)) e := by
   generalize (l.filter fun s => s.b == (k : Int)) = m at hs2
   induction m with
   | nil => cases hs2
   | cons v m ih2 =>
    simp only [workS]
    rcases List.mem_cons.1 hs2 with rfl | hs2
    ·have := work_mono m heu
     omega
    ·have := ih2 hs2
     omega
  have e1 : ((k + 1 : Nat) : Int) * (u - e) = (k : Int) * (u - e) + (u - e) := by
   rw [Int.natCast_add, Int.add_mul]
   simp
  omega
theorem later_spec {l : List Q4} {t : Int} (ht : 0 ≤ t) (h : ∃ s ∈ l, t < s.d) : t < laterS l t ∧ (∃ s ∈ l, s.d = laterS l t) ∧ ∀ s ∈ l, t < s.d → laterS l t ≤ s.d := by
 have key : ∀ (l : List Q4) (o : Int), (o = -1 ∨ t < o) → (let r := l.foldl (fun o s => if t < s.d ∧ (o < 0 ∨ s.d < o) then s.d else o) o; (r = -1 ∧ o = -1 ∧ ∀ s ∈ l, ¬ t < s.d) ∨ (t < r ∧ (r = o ∨ ∃ s ∈ l, s.d = r) ∧ (t < o → r ≤ o) ∧ ∀ s ∈ l, t < s.d → r ≤ s.d)) := by
  intro l
  induction l with
  | nil =>
   intro o ho
   rcases ho with rfl | ho
   ·exact .inl ⟨rfl, rfl, by simp⟩
   ·exact .inr ⟨ho, .inl rfl, fun _ => Int.le_refl _, by simp⟩
  | cons s l ih =>
   intro o ho
   rw [List.foldl_cons]
   by_cases hc : t < s.d ∧ (o < 0 ∨ s.d < o)
   ·rw [if_pos hc]
    rcases ih s.d (.inr hc.1) with ⟨h1, h2, _⟩ | ⟨h1, h2, h3, h4⟩
    ·omega
    ·refine .inr ⟨h1, .inr ?_, fun ho2 => ?_, fun u hu hd => ?_⟩
     ·rcases h2 with h2 | ⟨u, hu, h2⟩
      ·exact ⟨s, by simp, h2.symm⟩
      ·exact ⟨u, by simp [hu], h2⟩
     ·have := h3 hc.1
      omega
     ·rcases List.mem_cons.1 hu with rfl | hu
      ·exact h3 hc.1
      ·exact h4 u hu hd
   ·rw [if_neg hc]
    rcases ih o ho with ⟨h1, h2, h3⟩ | ⟨h1, h2, h3, h4⟩
    ·refine .inl ⟨h1, h2, fun u hu => ?_⟩
     rcases List.mem_cons.1 hu with rfl | hu
     ·omega
     ·exact h3 u hu
    ·refine .inr ⟨h1, h2.imp id fun ⟨u, hu, e⟩ => ⟨u, by simp [hu], e⟩, h3, fun u hu hd => ?_⟩
     rcases List.mem_cons.1 hu with rfl | hu
     ·rcases ho with rfl | ho
      ·omega
      ·have := h3 ho
       omega
     ·exact h4 u hu hd
 obtain ⟨s, hs, hd⟩ := h
 rcases key l (-1) (.inl rfl) with ⟨h1, _, h3⟩ | ⟨h1, h2, _, h4⟩
 ·exact absurd hd (h3 s hs)
 ·refine ⟨h1, ?_, h4⟩
  rcases h2 with h2 | h2
  ·have : laterS l t = -1 := h2
   unfold laterS at this
   rw [this] at h1
   omega
  ·exact h2
theorem ready_iff {ls l : List Q4} {id t : Int} : readyS ls l id t = true ↔ ∀ k ∈ ls, k.c = id → ∃ v, findN l k.a = some v ∧ v.d ≤ t := by
 unfold readyS endS
 rw [List.all_eq_true]
 constructor
 ·intro h k hk hc
  have := h k hk
  simp only [Bool.or_eq_true, bne_iff_ne, ne_eq] at this
  rcases this with h1 | h1
  ·exact absurd hc h1
  ·cases e : findN l k.a with
   | none => rw [e] at h1; cases h1
   | some v => rw [e] at h1; exact ⟨v, rfl, by simpa using h1⟩
 ·intro h k hk
  simp only [Bool.or_eq_true, bne_iff_ne, ne_eq]
  by_cases hc : k.c = id
  ·obtain ⟨v, e, h1⟩ := h k hk hc
   right
   rw [e]
   simpa using h1
  ·exact .inl hc
theorem find_append (l : List Q4) (s : Q4) (x : Int) : findN (l ++ [s]) x = match findN l x with | some v => some v | none => if s.a = x then some s else none := by
 unfold findN
 rw [List.find?_append]
 cases l.find? fun n => n.a == x with
 | some v => rfl
 | none =>
  simp only [Option.none_or, List.find?_cons, List.find?_nil]
  by_cases e : s.a = x
  ·simp [e]
  ·have : (s.a == x) = false := by simpa using e
   rw [this, if_neg e]
theorem find_new {l : List Q4} {s : Q4} {x : Int} {v : Q4} (h : findN l x = some v) : findN (l ++ [s]) x = some v := by rw [find_append, h]
theorem ends_none {l : List Q4} {x : Int} : endS l x = none ↔ ∀ u ∈ l, u.a ≠ x := by
 unfold endS findN
 rw [Option.map_eq_none_iff, List.find?_eq_none]
 constructor
 ·intro h u hu
  simpa using h u hu
 ·intro h u hu
  simpa using h u hu
theorem find_uniq {l : List Q4} (h : (l.map Q4.a).Nodup) {u : Q4} (hu : u ∈ l) : findN l u.a = some u := by
 unfold findN
 induction l with
 | nil => cases hu
 | cons v l ih =>
  rw [List.map_cons, List.nodup_cons] at h
  rw [List.find?_cons]
  rcases List.mem_cons.1 hu with rfl | hu
  ·simp
  ·have : v.a ≠ u.a := fun e => h.1 (e ▸ List.mem_map.2 ⟨u, hu, rfl⟩)
   have e : (v.a == u.a) = false := by simpa using this
   rw [e]
   exact ih h.2 hu
/-- What a list of nodes in order, and workers, must be. -/
structure Pr (W : Int → Int) (order : List Int) (ls : List Q4) (wk : Nat) : Prop where
 w : ∀ x, 0 ≤ W x
 nd : order.Nodup
 pre : ∀ p i q, order = p ++ i :: q → ∀ k ∈ ls, k.c = i → k.a ∈ p
 wk1 : 1 ≤ wk
structure Dp (W : Int → Int) (ls : List Q4) (D : Int → Int) : Prop where
 d0 : ∀ x, 0 ≤ D x
 dl : ∀ k ∈ ls, D k.a + W k.a ≤ D k.c
structure SInv (W : Int → Int) (order : List Int) (ls : List Q4) (wk : Nat) (D : Int → Int) (s : St) : Prop where
 bl : s.busy.length = wk
 t0 : 0 ≤ s.t
 sl : ∀ u ∈ s.l, 0 ≤ u.c ∧ u.c ≤ s.t ∧ u.d = u.c + W u.a ∧ (∃ i : Nat, i < wk ∧ u.b = i) ∧ u.a ∈ order
 nd : (s.l.map Q4.a).Nodup
 be : ∀ u ∈ s.l, ∀ i : Nat, u.b = i → ∀ x, s.busy[i]? = some x → u.d ≤ x
 bt : ∀ (i : Nat) x, s.busy[i]? = some x → x = 0 ∨ ∃ u ∈ s.l, u.b = (i : Int) ∧ u.d = x
 ov : s.l.Pairwise fun u v => u.b = v.b → u.d ≤ v.c
 pr : ∀ u ∈ s.l, ∀ k ∈ ls, k.c = u.a → ∃ v, findN s.l k.a = some v ∧ v.d ≤ u.c
 id : ∀ j ∈ order, endS s.l j = none → ∀ e, 0 ≤ e → e ≤ s.t → readyS ls s.l j e = true → wk * (s.t - e) ≤ workS s.l s.t - workS s.l e
 gr : ∀ u ∈ s.l, wk * u.c ≤ workS s.l u.c + (wk - 1) * D u.a
 bc : ∀ (i : Nat) x, s.busy[i]? = some x → costsS W (s.l.filter fun u => u.b == (i : Int)) ≤ x ∧ 0 ≤ x
theorem inv_start {W : Int → Int} {order : List Int} {ls : List Q4} {wk : Nat} {D : Int → Int} : SInv W order ls wk D (startS wk) := by
 have hb : ∀ (i : Nat) x, (startS wk).busy[i]? = some x → x = 0 := by
  intro i x h
  have := List.mem_of_getElem? h
  simp only [startS, List.mem_replicate] at this
  exact this.2
 refine ⟨by simp [startS], by simp [startS], by simp [startS], by simp [startS], by simp [startS], fun i x h => .inl ?_, by simp [startS], by simp [startS], ?_, by simp [startS], fun i x h => ?_⟩
 ·exact hb i x h
 ·intro j _ _ e h0 h1 _
  simp only [startS] at h1 ⊢
  have : e = 0 := by omega
  subst this
  simp [workS]
 ·rw [hb i x h]; simp [startS, costsS]
/-- The time from which a node can begin. -/
theorem ready_from {l : List Q4} {id t : Int} (ht : 0 ≤ t) : ∀ (ks : List Q4), (∀ k ∈ ks, k.c = id → ∃ v, findN l k.a = some v ∧ v.d ≤ t ∧ 0 ≤ v.d) →
 ∃ e, 0 ≤ e ∧ e ≤ t ∧ (∀ k ∈ ks, k.c = id → ∃ v, findN l k.a = some v ∧ v.d ≤ e) ∧ (e = 0 ∨ ∃ k ∈ ks, k.c = id ∧ ∃ v, findN l k.a = some v ∧ v.d = e)
 | [], _ => ⟨0, by omega, ht, by simp, .inl rfl⟩
 | k :: ks, h => by
  obtain ⟨e, h0, h1, h2, h3⟩ := ready_from ht ks fun k hk => h k (by simp [hk])
  by_cases hc : k.c = id
  ·obtain ⟨v, hv, hv1, hv2⟩ := h k (by simp) hc
   by_cases hle : v.d ≤ e
   ·refine ⟨e, h0, h1, fun q hq hqc => ?_, h3.imp_right fun ⟨q, hq, r⟩ => ⟨q, by simp [hq], r⟩⟩
    rcases List.mem_cons.1 hq with rfl | hq
    ·exact ⟨v, hv, hle⟩
    ·exact h2 q hq hqc
   ·refine ⟨v.d, hv2, hv1, fun q hq hqc => ?_, .inr ⟨k, by simp, hc, v, hv, rfl⟩⟩
    rcases List.mem_cons.1 hq with rfl | hq
    ·exact ⟨v, hv, by omega⟩
    ·obtain ⟨u, hu, hu1⟩ := h2 q hq hqc
     exact ⟨u, hu, by omega⟩
  ·refine ⟨e, h0, h1, fun q hq hqc => ?_, h3.imp_right fun ⟨q, hq, r⟩ => ⟨q, by simp [hq], r⟩⟩
   rcases List.mem_cons.1 hq with rfl | hq
   ·exact absurd hqc hc
   ·exact h2 q hq hqc
section
variable {W : Int → Int} {order : List Int} {ls : List Q4} {wk : Nat} {D : Int → Int} {s : St}
theorem next_at {id : Int} (h : nextS order ls s.l s.t = some id) : id ∈ order ∧ endS s.l id = none ∧ readyS ls s.l id s.t = true := by
 unfold nextS at h
 have h1 := List.mem_of_find?_eq_some h
 have h2 := List.find?_some h
 simp only [Bool.and_eq_true, Option.isNone_iff_eq_none] at h2
 exact ⟨h1, h2.1, h2.2⟩
theorem free_at {w : Nat} (h : freeS s.busy s.t = some w) : ∃ x, s.busy[w]? = some x ∧ x ≤ s.t := by
 unfold freeS at h
 obtain ⟨hk, h1, _⟩ := List.findIdx?_eq_some_iff_getElem.1 h
 exact ⟨_, List.getElem?_eq_getElem hk, by simpa using h1⟩
theorem inv_add (hp : Pr W order ls wk) (hd : Dp W ls D) (hi : SInv W order ls wk D s) {id : Int} {w : Nat} (hn : nextS order ls s.l s.t = some id) (hf : freeS s.busy s.t = some w) :
 SInv W order ls wk D ⟨s.l ++ [⟨id, w, s.t, s.t + W id⟩], s.busy.set w (s.t + W id), s.t⟩ := by
 obtain ⟨hmem, hnone, hrd⟩ := next_at hn
 obtain ⟨x0, hx0, hx1⟩ := free_at hf
 have hw : w < wk := by rw [← hi.bl]; exact (List.getElem?_eq_some_iff.1 hx0).1
 have hWid := hp.w id
 have hne := ends_none.1 hnone
 have hnw : ∀ t, t ≤ s.t → workS [⟨id, w, s.t, s.t + W id⟩] t = 0 := by
  intro t ht
  simp only [workS]
  omega
 have hset : ∀ (i : Nat) x, (s.busy.set w (s.t + W id))[i]? = some x → (i = w ∧ x = s.t + W id) ∨ (i ≠ w ∧ s.busy[i]? = some x) := by
  intro i x h
  rw [List.getElem?_set] at h
  by_cases e : w = i
  ·subst e
   rw [if_pos rfl] at h
   split at h
   ·injection h with h; exact .inl ⟨rfl, h.symm⟩
   ·cases h
  ·rw [if_neg e] at h
   exact .inr ⟨fun h2 => e h2.symm, h⟩
 refine ⟨by simpa using hi.bl, hi.t0, ?_, ?_, ?_, ?_, ?_, ?_, ?_, ?_, ?_⟩
 ·intro u hu
  rcases List.mem_append.1 hu with hu | hu
  ·exact hi.sl u hu
  ·simp only [List.mem_singleton] at hu
   subst hu
   exact ⟨hi.t0, Int.le_refl _, rfl, ⟨w, hw, rfl⟩, hmem⟩
 ·rw [List.map_append, List.nodup_append]
  refine ⟨hi.nd, by simp, ?_⟩
  intro a ha b hb e
  simp only [List.map_cons, List.map_nil, List.mem_singleton] at hb
  obtain ⟨u, hu, rfl⟩ := List.mem_map.1 ha
  exact hne u hu (e.trans hb)
 ·intro u hu i hb x hx
  rcases hset i x hx with ⟨rfl, rfl⟩ | ⟨hiw, hx⟩
  ·rcases List.mem_append.1 hu with hu | hu
   ·have := hi.be u hu i hb x0 hx0
    omega
   ·simp only [List.mem_singleton] at hu
    subst hu
    exact Int.le_refl _
  ·rcases List.mem_append.1 hu with hu | hu
   ·exact hi.be u hu i hb x hx
   ·simp only [List.mem_singleton] at hu
    subst hu
    have hb : (w : Int) = (i : Int) := hb
    omega
 ·intro i x hx
  rcases hset i x hx with ⟨rfl, rfl⟩ | ⟨hiw, hx⟩
  ·exact .inr ⟨_, List.mem_append_right _ (List.mem_singleton.2 rfl), rfl, rfl⟩
  ·rcases hi.bt i x hx with h | ⟨u, hu, h1, h2⟩
   ·exact .inl h
   ·exact .inr ⟨u, List.mem_append_left _ hu, h1, h2⟩
 ·rw [List.pairwise_append]
  refine ⟨hi.ov, by simp, ?_⟩
  intro u hu v hv hb
  simp only [List.mem_singleton] at hv
  subst hv
  have := hi.be u hu w hb x0 hx0
  show u.d ≤ s.t
  omega
 ·intro u hu k hk hc
  rcases List.mem_append.1 hu with hu | hu
  ·obtain ⟨v, hv, h1⟩ := hi.pr u hu k hk hc
   exact ⟨v, find_new hv, h1⟩
  ·simp only [List.mem_singleton] at hu
   subst hu
   obtain ⟨v, hv, h1⟩ := ready_iff.1 hrd k hk hc
   exact ⟨v, find_new hv, h1⟩
 ·intro j hj hjn e h0 h1 hr
  have h1 : e ≤ s.t := h1
  have hjn2 : endS s.l j = none := by
   rw [ends_none] at hjn ⊢
   exact fun u hu => hjn u (List.mem_append_left _ hu)
  have hjid : id ≠ j := by
   have := ends_none.1 hjn ⟨id, w, s.t, s.t + W id⟩ (by simp)
   exact this
  dsimp only
  rw [work_append, work_append, hnw _ (Int.le_refl _), hnw _ h1]
  by_cases hall : readyS ls s.l j e = true
  ·have := hi.id j hj hjn2 e h0 h1 hall
   show (wk : Int) * (s.t - e) ≤ _
   omega
  ·-- the new slot is one that j waits for
   have : e = s.t := by
    refine Classical.byContradiction fun hc => hall (ready_iff.2 fun k hk hkc => ?_)
    obtain ⟨v, hv, h2⟩ := ready_iff.1 hr k hk hkc
    rw [find_append] at hv
    cases e9 : findN s.l k.a with
    | some u => rw [e9] at hv; injection hv with hv; subst hv; exact ⟨u, rfl, h2⟩
    | none =>
     rw [e9] at hv
     simp only at hv
     split at hv
     ·injection hv with hv
      subst hv
      have h2 : s.t + W id ≤ e := h2
      omega
     ·cases hv
   subst this
   show (wk : Int) * (s.t - s.t) ≤ _
   rw [Int.sub_self, Int.mul_zero]
   omega
 ·intro u hu
  rcases List.mem_append.1 hu with hu | hu
  ·rw [work_append, hnw _ (hi.sl u hu).2.1]
   have := hi.gr u hu
   omega
  ·simp only [List.mem_singleton] at hu
   subst hu
   rw [work_append, hnw _ (Int.le_refl _)]
   show (wk : Int) * s.t ≤ workS s.l s.t + 0 + (wk - 1) * D id
   obtain ⟨e, h0, h1, h2, h3⟩ := ready_from (l := s.l) (id := id) hi.t0 ls (fun k hk hc => by
    obtain ⟨v, hv, h1⟩ := ready_iff.1 hrd k hk hc
    have hs := hi.sl v (find_some hv).1
    have := hp.w v.a
    exact ⟨v, hv, h1, by omega⟩)
   have hidle := hi.id id hmem hnone e h0 h1 (ready_iff.2 h2)
   have hwk : (0 : Int) ≤ (wk : Int) - 1 := by have := hp.wk1; omega
   have hsplit : (wk : Int) * s.t = wk * (s.t - e) + wk * e := by rw [← Int.mul_add]; congr 1; omega
   rcases h3 with rfl | ⟨k, hk, hc, v, hv, rfl⟩
   ·have hD := Int.mul_nonneg hwk (hd.d0 id)
    have hw0 := work_nonneg s.l 0
    rw [Int.mul_zero] at hsplit
    omega
   ·obtain ⟨hvl, hva⟩ := find_some hv
    have hgr := hi.gr v hvl
    have hs := hi.sl v hvl
    have hwv := hp.w v.a
    have h9 := work_one hvl (by omega : v.c ≤ v.d)
    have hdl := hd.dl k hk
    rw [hc, ← hva] at hdl
    have hmul : ((wk : Int) - 1) * (D v.a + W v.a) ≤ (wk - 1) * D id := Int.mul_le_mul_of_nonneg_left hdl hwk
    have e1 : (wk : Int) * v.d = wk * v.c + wk * W v.a := by rw [← Int.mul_add, hs.2.2.1]
    have e2 : ((wk : Int) - 1) * (D v.a + W v.a) = (wk - 1) * D v.a + (wk * W v.a - W v.a) := by rw [Int.mul_add, Int.sub_mul (wk : Int) 1 (W v.a), Int.one_mul]
    have e3 : v.d - v.c = W v.a := by omega
    rw [e3] at h9
    omega
 ·intro i x hx
  rw [List.filter_append, costs_append]
  rcases hset i x hx with ⟨rfl, rfl⟩ | ⟨hiw, hx⟩
  ·have := hi.bc i x0 hx0
   have e1 : (([⟨id, i, s.t, s.t + W id⟩] : List Q4).filter fun u => u.b == (i : Int)) = [⟨id, i, s.t, s.t + W id⟩] := by simp
   rw [e1]
   simp only [costsS]
   have := hi.t0
   omega
  ·have h1 := hi.bc i x hx
   have e1 : (([⟨id, w, s.t, s.t + W id⟩] : List Q4).filter fun u => u.b == (i : Int)) = [] := by
    simp
    omega
   rw [e1]
   simp only [costsS]
   omega
/-- Something is still running, if no slot can be given. -/
theorem still_runs (hp : Pr W order ls wk) (hi : SInv W order ls wk D s) (hl : s.l.length < order.length) (hno : nextS order ls s.l s.t = none ∨ freeS s.busy s.t = none) : ∃ u ∈ s.l, s.t < u.d := by
 rcases hno with hno | hno
 ·-- the first node without a slot
  have hex : ∃ j ∈ order, endS s.l j = none := by
   refine Classical.byContradiction fun hc => ?_
   have hall : ∀ j ∈ order, j ∈ s.l.map Q4.a := by
    intro j hj
    refine Classical.byContradiction fun h => hc ⟨j, hj, ends_none.2 fun u hu e => h (List.mem_map.2 ⟨u, hu, e⟩)⟩
   have := nodup_len hp.nd hall
   rw [List.length_map] at this
   omega
  cases hff : order.find? fun j => (endS s.l j).isNone with
  | none =>
   obtain ⟨j, hj, hn⟩ := hex
   have := List.find?_eq_none.1 hff j hj
   rw [hn] at this
   simp at this
  | some j =>
   obtain ⟨hj1, p, q, hpq, hall⟩ := List.find?_eq_some_iff_append.1 hff
   simp only [Option.isNone_iff_eq_none] at hj1
   have hnr : readyS ls s.l j s.t = false := by
    unfold nextS at hno
    have := List.find?_eq_none.1 hno j (by rw [hpq]; simp)
    rw [hj1] at this
    simpa using this
   refine Classical.byContradiction fun hc => ?_
   have : readyS ls s.l j s.t = true := by
    rw [ready_iff]
    intro k hk hkc
    have hkp := hp.pre p j q hpq k hk hkc
    have hks := hall _ hkp
    simp only [Bool.not_eq_true', Option.isNone_eq_false_iff, Option.isSome_iff_exists] at hks
    obtain ⟨e, he⟩ := hks
    unfold endS at he
    cases hv : findN s.l k.a with
    | none => rw [hv] at he; cases he
    | some v =>
     refine ⟨v, rfl, ?_⟩
     refine Classical.byContradiction fun h => hc ⟨v, (find_some hv).1, by omega⟩
   rw [this] at hnr
   cases hnr
 ·unfold freeS at hno
  rw [List.findIdx?_eq_none_iff] at hno
  obtain ⟨x, hx⟩ : ∃ x, s.busy[0]? = some x := ⟨_, List.getElem?_eq_getElem (by have := hi.bl; have := hp.wk1; omega)⟩
  have h1 := hno x (List.mem_of_getElem? hx)
  simp only [decide_eq_false_iff_not] at h1
  rcases hi.bt 0 x hx with h | ⟨u, hu, _, h2⟩
  ·have := hi.t0; omega
  ·exact ⟨u, hu, by omega⟩
theorem inv_wait (hp : Pr W order ls wk) (hi : SInv W order ls wk D s) (hl : s.l.length < order.length) (hno : nextS order ls s.l s.t = none ∨ freeS s.busy s.t = none) :
 SInv W order ls wk D ⟨s.l, s.busy, laterS s.l s.t⟩ ∧ s.t < laterS s.l s.t ∧ ∃ u ∈ s.l, s.t < u.d ∧ u.d = laterS s.l s.t := by
 obtain ⟨h1, ⟨u, hu, hud⟩, h3⟩ := later_spec hi.t0 (still_runs hp hi hl hno)
 refine ⟨⟨hi.bl, by have := hi.t0; show 0 ≤ laterS s.l s.t; omega, ?_, hi.nd, hi.be, ?_, hi.ov, hi.pr, ?_, hi.gr, hi.bc⟩, h1, u, hu, by omega, hud⟩
 ·intro u hu
  obtain ⟨a, b, c⟩ := hi.sl u hu
  exact ⟨a, by show u.c ≤ laterS s.l s.t; omega, c⟩
 ·intro i x hx
  rcases hi.bt i x hx with h | h
  ·exact .inl h
  ·exact .inr h
 ·intro j hj hjn e h0 h9 hr
  have h9 : e ≤ laterS s.l s.t := h9
  show (wk : Int) * (laterS s.l s.t - e) ≤ workS s.l (laterS s.l s.t) - workS s.l e
  by_cases hee : e = laterS s.l s.t
  ·rw [← hee, Int.sub_self, Int.mul_zero]
   omega
  -- j could begin at the time before
  have hrt : ∀ e', e' < laterS s.l s.t → readyS ls s.l j e' = true → readyS ls s.l j s.t = true := by
   intro e' he' hr'
   rw [ready_iff] at hr' ⊢
   intro k hk hkc
   obtain ⟨v, hv, h2⟩ := hr' k hk hkc
   refine ⟨v, hv, ?_⟩
   refine Classical.byContradiction fun hc => ?_
   have := h3 v (find_some hv).1 (by omega)
   omega
  have hnow := hrt e (by omega) hr
  have hfree : freeS s.busy s.t = none := by
   rcases hno with hno | hno
   ·unfold nextS at hno
    have := List.find?_eq_none.1 hno j hj
    rw [hjn, hnow] at this
    simp at this
   ·exact hno
  unfold freeS at hfree
  rw [List.findIdx?_eq_none_iff] at hfree
  have hcov : ∀ e', s.t ≤ e' → ∀ i : Nat, i < wk → ∃ u ∈ s.l, u.b = (i : Int) ∧ u.c ≤ e' ∧ laterS s.l s.t ≤ u.d := by
   intro e' he' i hi2
   obtain ⟨x, hx⟩ : ∃ x, s.busy[i]? = some x := ⟨_, List.getElem?_eq_getElem (by have := hi.bl; omega)⟩
   have h4 := hfree x (List.mem_of_getElem? hx)
   simp only [decide_eq_false_iff_not] at h4
   rcases hi.bt i x hx with h | ⟨u, hu, hb, h5⟩
   ·have := hi.t0; omega
   ·exact ⟨u, hu, hb, by have := (hi.sl u hu).2.1; omega, h3 u hu (by omega)⟩
  by_cases hle : s.t ≤ e
  ·exact work_all h9 wk s.l (hcov e hle)
  ·have w1 := hi.id j hj hjn e h0 (by omega) hr
   have w2 := work_all (Int.le_of_lt h1) wk s.l (hcov s.t (Int.le_refl _))
   have hsplit : (wk : Int) * (laterS s.l s.t - e) = wk * (laterS s.l s.t - s.t) + wk * (s.t - e) := by rw [← Int.mul_add]; congr 1; omega
   omega
/-- How far there is to go. -/
def muS (n : Nat) (s : St) : Nat := 2 * (n - s.l.length) + (s.l.filter fun u => decide (s.t < u.d)).length
theorem step_inv (hp : Pr W order ls wk) (hd : Dp W ls D) (hi : SInv W order ls wk D s) (hl : s.l.length < order.length) :
 SInv W order ls wk D (stepS W order ls s) ∧ muS order.length (stepS W order ls s) < muS order.length s := by
 unfold stepS
 cases hn : nextS order ls s.l s.t with
 | none =>
  obtain ⟨h1, h2, u, hu, h3, h4⟩ := inv_wait hp hi hl (.inl hn)
  refine ⟨h1, ?_⟩
  unfold muS
  have := filter_lt (p := fun u : Q4 => decide (s.t < u.d)) (q := fun u : Q4 => decide (laterS s.l s.t < u.d)) (l := s.l) (fun x hx => by simp only [decide_eq_true_eq] at hx ⊢; omega) hu (by simpa using h3) (by simp; omega)
  show 2 * (order.length - s.l.length) + (s.l.filter fun u => decide (laterS s.l s.t < u.d)).length < _
  omega
 | some id =>
  cases hf : freeS s.busy s.t with
  | none =>
   obtain ⟨h1, h2, u, hu, h3, h4⟩ := inv_wait hp hi hl (.inr hf)
   refine ⟨h1, ?_⟩
   unfold muS
   have := filter_lt (p := fun u : Q4 => decide (s.t < u.d)) (q := fun u : Q4 => decide (laterS s.l s.t < u.d)) (l := s.l) (fun x hx => by simp only [decide_eq_true_eq] at hx ⊢; omega) hu (by simpa using h3) (by simp; omega)
   show 2 * (order.length - s.l.length) + (s.l.filter fun u => decide (laterS s.l s.t < u.d)).length < _
   omega
  | some w =>
   refine ⟨inv_add hp hd hi hn hf, ?_⟩
   unfold muS
   show 2 * (order.length - (s.l ++ [_]).length) + ((s.l ++ [_]).filter fun u : Q4 => decide (s.t < u.d)).length < _
   rw [List.filter_append, List.length_append, List.length_append]
   have : ((([⟨id, w, s.t, s.t + W id⟩] : List Q4)).filter fun u => decide (s.t < u.d)).length ≤ 1 := List.length_filter_le _ _
   simp only [List.length_singleton]
   omega
theorem run_inv (hp : Pr W order ls wk) (hd : Dp W ls D) : ∀ (k : Nat) (s : St), SInv W order ls wk D s → muS order.length s ≤ k → SInv W order ls wk D (runS W order ls order.length k s) ∧ order.length ≤ (runS W order ls order.length k s).l.length
 | 0, s, hi, hm => by
  refine ⟨hi, ?_⟩
  unfold muS at hm
  show order.length ≤ s.l.length
  omega
 | k + 1, s, hi, hm => by
  unfold runS
  by_cases hl : s.l.length < order.length
  ·rw [if_pos hl]
   obtain ⟨h1, h2⟩ := step_inv hp hd hi hl
   exact run_inv hp hd k _ h1 (by omega)
  ·rw [if_neg hl]
   exact ⟨hi, by omega⟩
end
end Go.Proofs.Ytobhdldlhhigdaa

namespace Go.Proofs.Ytobhdldlhhigdaa
open Go.RowKit
/-- Only new memory: all that was there is as it was. -/
abbrev Grows (w w' : World) : Prop := Below w.heap.size w w'
theorem Grows.rfl' (w : World) : Grows w w := Below.refl _ _
theorem Grows.trans' {a b c : World} (h : Grows a b) (k : Grows b c) : Grows a c := Below.trans h (k.mono h.size)
theorem Grows.drew' (w : World) : Grows w w.drew := (Below.refl _ _).drew
/-- The op gives the value v and only new memory. -/
def calmR (P : Program) (w : World) : Result Next → Value → Prop
 | .ok (.value u) w', v => u = v ∧ Grows w w'
 | .ok .skip w', v => v = undef ∧ Grows w w'
 | .ok (.enter f args) w', v => Calls P f args w' fun e w'' => e = .returned v ∧ Grows w w''
 | _, _ => False
/-- The op gives some value with D, and only new memory. -/
def floatR (P : Program) (w : World) (D : Value → World → Prop) : Result Next → Prop
 | .ok (.value u) w' => D u w' ∧ Grows w w'
 | .ok (.enter f args) w' => Calls P f args w' fun e w'' => ∃ u, e = .returned u ∧ D u w'' ∧ Grows w w''
 | _ => False
section
variable {P : Program} {ops : Array Oper} {S : World → Prop} {md : Region.Mode}
def CalmAt (P : Program) (ops : Array Oper) (S : World → Prop) (o : Oper) (v : Value) (a : Act) : Prop :=
 (Region.wanted o (yielded ops a.tmps) = true ∧ ∀ w, S w → calmR P w ((execOp a.eval o).run P w) v) ∨ (Region.wanted o (yielded ops a.tmps) = false ∧ v = undef)
def FloatAt (P : Program) (S : World → Prop) (o : Oper) (D : Value → World → Prop) (a : Act) : Prop :=
 o.guard = none ∧ ∀ w, S w → floatR P w D ((execOp a.eval o).run P w)
abbrev Floats := List (Nat × (Value → World → Prop))
def Floats.at (fl : Floats) (k : Nat) : Option (Value → World → Prop) := fl.lookup k
theorem run_agree {o : Oper} (hs : ∀ cs b, o.op ≠ .select cs b) {a a' : Act} (h : ∀ t ∈ o.looksAt ops, a.tmps[t]? = a'.tmps[t]?) : execOp a.eval o = execOp a'.eval o := by
 refine execOp_congr o hs fun x hx => ?_
 cases x with
 | tmp t =>
  have := h t (List.mem_append_left _ (List.mem_filterMap.2 ⟨.tmp t, by simpa using hx, rfl⟩))
  simp [Act.eval, this]
 | _ => rfl
theorem wanted_agree {o : Oper} {a a' : Act} (h : ∀ t ∈ o.looksAt ops, a.tmps[t]? = a'.tmps[t]?) : Region.wanted o (yielded ops a.tmps) = Region.wanted o (yielded ops a'.tmps) := by
 unfold Region.wanted
 cases hg : o.guard with
 | none => rfl
 | some gw =>
  obtain ⟨g, want⟩ := gw
  have hy : yielded ops a.tmps g = yielded ops a'.tmps g := by
   unfold yielded
   cases ht : (ops[g]?).bind (·.dst) with
   | none => rfl
   | some t =>
    have := h t (List.mem_append_right _ (by simp [hg, ht]))
    simp [this]
  simp only [hy]
theorem CalmAt.agree {o : Oper} (hs : ∀ cs b, o.op ≠ .select cs b) {v : Value} {a a' : Act} (h : ∀ t ∈ o.looksAt ops, a.tmps[t]? = a'.tmps[t]?) (hc : CalmAt P ops S o v a) : CalmAt P ops S o v a' := by
 unfold CalmAt at *
 rw [← run_agree (ops := ops) hs h, ← wanted_agree h]
 exact hc
/-! ### the walk in the order of the text -/
def wpCalm (P : Program) (ops : Array Oper) (S : World → Prop) (fl : Floats) (L : Act → Prop) : List Oper → Nat → Act → Prop
 | [], _, a => L a
 | o :: l, k, a =>
  match fl.at k with
  | some D => FloatAt P S o D a ∧ wpCalm P ops S fl L l (k + 1) a
  | none => ∃ v, CalmAt P ops S o v a ∧ wpCalm P ops S fl L l (k + 1) (a.put o.dst v)
def stepAct (fl : Floats) (val : Nat → Value) (o : Oper) (k : Nat) (a : Act) : Act := match fl.at k with | some _ => a | none => a.put o.dst (val k)
def fin (fl : Floats) (val : Nat → Value) : List Oper → Nat → Act → Act
 | [], _, a => a
 | o :: l, k, a => fin fl val l (k + 1) (stepAct fl val o k a)
def Good (P : Program) (ops : Array Oper) (S : World → Prop) (fl : Floats) (val : Nat → Value) : List Oper → Nat → Act → Prop
 | [], _, _ => True
 | o :: l, k, a => (match fl.at k with | some D => FloatAt P S o D a | none => CalmAt P ops S o (val k) a) ∧ Good P ops S fl val l (k + 1) (stepAct fl val o k a)
theorem fin_congr {fl : Floats} {val val' : Nat → Value} : ∀ (l : List Oper) (k : Nat) (a : Act), (∀ j, k ≤ j → val j = val' j) → fin fl val l k a = fin fl val' l k a
 | [], _, _, _ => rfl
 | o :: l, k, a, h => by
  simp only [fin, stepAct, h k (Nat.le_refl _)]
  exact fin_congr l (k + 1) _ fun j hj => h j (by omega)
theorem Good_congr {fl : Floats} {val val' : Nat → Value} : ∀ (l : List Oper) (k : Nat) (a : Act), (∀ j, k ≤ j → val j = val' j) → Good P ops S fl val l k a → Good P ops S fl val' l k a
 | [], _, _, _, _ => trivial
 | o :: l, k, a, h, hg => by
  simp only [Good, stepAct, h k (Nat.le_refl _)] at hg ⊢
  exact ⟨hg.1, Good_congr l (k + 1) _ (fun j hj => h j (by omega)) hg.2⟩
theorem good_of_wpCalm {fl : Floats} {L : Act → Prop} : ∀ (l : List Oper) (k : Nat) (a : Act), wpCalm P ops S fl L l k a → ∃ val, Good P ops S fl val l k a ∧ L (fin fl val l k a)
 | [], _, a, h => ⟨fun _ => undef, trivial, h⟩
 | o :: l, k, a, h => by
  unfold wpCalm at h
  cases hf : fl.at k with
  | some D =>
   simp only [hf] at h
   obtain ⟨val, hg, hL⟩ := good_of_wpCalm l (k + 1) a h.2
   exact ⟨val, by simp only [Good, hf, stepAct]; exact ⟨h.1, hg⟩, by simp only [fin, stepAct, hf]; exact hL⟩
  | none =>
   simp only [hf] at h
   obtain ⟨v, hc, h2⟩ := h
   obtain ⟨val, hg, hL⟩ := good_of_wpCalm l (k + 1) (a.put o.dst v) h2
   have hcg : ∀ j, k + 1 ≤ j → val j = (fun i => if i = k then v else val i) j := fun j hj => by simp only []; rw [if_neg (by omega)]
   refine ⟨fun i => if i = k then v else val i, ?_, ?_⟩
   ·simp only [Good, hf, stepAct, if_true]
    exact ⟨hc, Good_congr l (k + 1) _ hcg hg⟩
   ·simp only [fin, stepAct, hf, if_true]
    rw [← fin_congr l (k + 1) _ hcg]
    exact hL
/-! ### what the frame holds in the order of the text -/
theorem put_size (a : Act) (d : Option Tmp) (v : Value) : (a.put d v).tmps.size = a.tmps.size := by cases d <;> simp [Act.put]
theorem put_defers' (a : Act) (d : Option Tmp) (v : Value) : (a.put d v).defers = a.defers := by cases d <;> rfl
theorem put_get_ne {a : Act} {d : Option Tmp} {v : Value} {t : Nat} (h : d ≠ some t) : (a.put d v).tmps[t]? = a.tmps[t]? := by
 cases d with
 | none => rfl
 | some d => exact Array.getElem?_setIfInBounds_ne (fun e => h (by rw [e]))
theorem put_get_eq {a : Act} {v : Value} {t : Nat} (h : t < a.tmps.size) : (a.put (some t) v).tmps[t]? = some v := by
 simp [Act.put, h]
theorem stepAct_size (fl : Floats) (val : Nat → Value) (o : Oper) (k : Nat) (a : Act) : (stepAct fl val o k a).tmps.size = a.tmps.size := by
 unfold stepAct; split
 ·rfl
 ·exact put_size _ _ _
theorem stepAct_defers (fl : Floats) (val : Nat → Value) (o : Oper) (k : Nat) (a : Act) : (stepAct fl val o k a).defers = a.defers := by
 unfold stepAct; split
 ·rfl
 ·exact put_defers' _ _ _
theorem fin_size {fl : Floats} {val : Nat → Value} : ∀ (l : List Oper) (k : Nat) (a : Act), (fin fl val l k a).tmps.size = a.tmps.size
 | [], _, _ => rfl
 | _ :: l, k, _ => (fin_size l (k + 1) _).trans (stepAct_size _ _ _ _ _)
theorem fin_defers {fl : Floats} {val : Nat → Value} : ∀ (l : List Oper) (k : Nat) (a : Act), (fin fl val l k a).defers = a.defers
 | [], _, _ => rfl
 | _ :: l, k, _ => (fin_defers l (k + 1) _).trans (stepAct_defers _ _ _ _ _)
/-- A slot that no calm op of the list writes. -/
theorem fin_other {fl : Floats} {val : Nat → Value} {t : Nat} : ∀ (l : List Oper) (k : Nat) (a : Act), (∀ j o, l[j]? = some o → fl.at (k + j) = none → o.dst ≠ some t) → (fin fl val l k a).tmps[t]? = a.tmps[t]?
 | [], _, _, _ => rfl
 | o :: l, k, a, h => by
  have h0 : (stepAct fl val o k a).tmps[t]? = a.tmps[t]? := by
   unfold stepAct
   cases hf : fl.at k with
   | some D => rfl
   | none => exact put_get_ne (h 0 o rfl (by simpa using hf))
  rw [fin, fin_other l (k + 1) _ fun j o' hj hn => h (j + 1) o' (by simpa using hj) (by rw [← hn]; congr 1; omega)]
  exact h0
/-- The slot of calm op number j, where no two ops write one slot. -/
theorem fin_at {fl : Floats} {val : Nat → Value} {t : Nat} : ∀ (l : List Oper) (k : Nat) (a : Act) (j : Nat) (o : Oper), l[j]? = some o → o.dst = some t → fl.at (k + j) = none → t < a.tmps.size →
 (∀ i o', l[i]? = some o' → i ≠ j → o'.dst ≠ some t) → (fin fl val l k a).tmps[t]? = some (val (k + j))
 | [], _, _, _, _, hj, _, _, _, _ => by simp at hj
 | o' :: l, k, _, 0, _, hj, hd, hn, ht, hu => by
  simp only [List.getElem?_cons_zero, Option.some.injEq] at hj
  subst hj
  rw [fin, fin_other l (k + 1) _ fun j o' hj _ => hu (j + 1) o' (by simpa using hj) (by omega)]
  simp only [stepAct, show fl.at k = none from by simpa using hn, hd, Nat.add_zero]
  exact put_get_eq ht
 | _ :: l, k, _, j + 1, o, hj, hd, hn, ht, hu => by
  rw [fin, show k + (j + 1) = k + 1 + j by omega]
  exact fin_at l (k + 1) _ j o (by simpa using hj) hd (by rw [← hn]; congr 1; omega) (by rw [stepAct_size]; exact ht) fun i o' hi hne => hu (i + 1) o' (by simpa using hi) (by omega)
theorem good_at {fl : Floats} {val : Nat → Value} : ∀ (l : List Oper) (k : Nat) (a : Act) (j : Nat) (o : Oper), Good P ops S fl val l k a → l[j]? = some o →
 (match fl.at (k + j) with | some D => FloatAt P S o D (fin fl val (l.take j) k a) | none => CalmAt P ops S o (val (k + j)) (fin fl val (l.take j) k a))
 | [], _, _, _, _, _, hj => by simp at hj
 | _ :: l, k, _, 0, o, hg, hj => by
  simp only [List.getElem?_cons_zero, Option.some.injEq] at hj
  subst hj
  simpa [Good, fin] using hg.1
 | _ :: l, k, _, j + 1, o, hg, hj => by
  have := good_at l (k + 1) _ j o hg.2 (by simpa using hj)
  rw [show k + 1 + j = k + (j + 1) by omega] at this
  simpa [fin] using this
/-! ### the check, in one closed Bool -/
def mixB (md : Region.Mode) (ops : Array Oper) (n N : Nat) (ks : List Nat) : Bool :=
 Region.noSelect ops && decide (n ≤ ops.size) && decide ks.Nodup && ks.all (fun k => decide (k < n) && ((ops[k]?).bind (·.dst)).isSome) &&
 (decide (n = ops.size) || (decide (n < ops.size) && Region.sinkB md ops n && Region.chainB md ops n)) &&
 Region.seqB md ops (ops.size - n) n ((Array.replicate n true) ++ (Array.replicate (ops.size - n) false)) &&
 (List.range n).all (fun i => match ops[i]? with
   | none => false
   | some o => (match o.dst with | none => true | some t => decide (t < N)) && o.after.all (fun e => !Region.binds md e || decide (e.on < i)) &&
    (List.range n).all (fun k => (k == i || match o.dst with | none => true | some t => !((ops[k]?).bind (·.dst) == some t)) &&
      (match (ops[k]?).bind (·.dst) with
       | none => true
       | some t => !(o.looksAt ops).contains t || (decide (k < i) && !ks.contains k && Region.waitsFor md ops i k))))
structure MixOk (md : Region.Mode) (ops : Array Oper) (n N : Nat) (ks : List Nat) : Prop where
 sel : Region.noSelect ops = true
 le : n ≤ ops.size
 nd : ks.Nodup
 fl : ∀ k ∈ ks, k < n ∧ ∃ t, (ops[k]?).bind (·.dst) = some t
 tail : n = ops.size ∨ (n < ops.size ∧ Region.sinkB md ops n = true ∧ Region.chainB md ops n = true)
 seq : Region.seqB md ops (ops.size - n) n ((Array.replicate n true) ++ (Array.replicate (ops.size - n) false)) = true
 bd : ∀ i o t, i < n → ops[i]? = some o → o.dst = some t → t < N
 back : ∀ i o, i < n → ops[i]? = some o → ∀ e ∈ o.after, Region.binds md e = true → e.on < i
 ne : ∀ i o k o' t, i < n → k < n → ops[i]? = some o → ops[k]? = some o' → k ≠ i → o.dst = some t → o'.dst ≠ some t
 look : ∀ i o k o' t, i < n → k < n → ops[i]? = some o → ops[k]? = some o' → o'.dst = some t → t ∈ o.looksAt ops → k < i ∧ k ∉ ks ∧ Region.waitsFor md ops i k = true
theorem mixOk_of {n N : Nat} {ks : List Nat} (h : mixB md ops n N ks = true) : MixOk md ops n N ks := by
 simp only [mixB, Bool.and_eq_true, decide_eq_true_eq, List.all_eq_true, Bool.or_eq_true, List.mem_range] at h
 obtain ⟨⟨⟨⟨⟨⟨h1, h2⟩, h3⟩, h4⟩, h5⟩, h6⟩, h7⟩ := h
 have H : ∀ i o, i < n → ops[i]? = some o → _ := fun i o hi ho => by
  have := h7 i hi
  rw [ho] at this
  exact this
 refine ⟨h1, h2, h3, fun k hk => ⟨(h4 k hk).1, Option.isSome_iff_exists.1 (h4 k hk).2⟩, ?_, h6, ?_, ?_, ?_, ?_⟩
 ·rcases h5 with h5 | h5
  ·exact .inl h5
  ·exact .inr ⟨h5.1.1, h5.1.2, h5.2⟩
 ·intro i o t hi ho hd
  have := (H i o hi ho)
  simp only [Bool.and_eq_true, hd, decide_eq_true_eq] at this
  exact this.1.1
 ·intro i o hi ho e he hb
  have := (H i o hi ho)
  simp only [Bool.and_eq_true] at this
  have h8 := Array.all_eq_true_iff_forall_mem.1 this.1.2 e he
  simpa [hb] using h8
 ·intro i o k o' t hi hk ho ho' hne hd
  have := (H i o hi ho)
  simp only [Bool.and_eq_true, List.all_eq_true, List.mem_range] at this
  have h8 := (this.2 k hk).1
  simp only [ho', Option.bind_some, hd, Bool.or_eq_true, beq_iff_eq, hne, false_or, Bool.not_eq_true', beq_eq_false_iff_ne] at h8
  exact h8
 ·intro i o k o' t hi hk ho ho' hd ht
  have := (H i o hi ho)
  simp only [Bool.and_eq_true, List.all_eq_true, List.mem_range] at this
  have h8 := (this.2 k hk).2
  have hc : (o.looksAt ops).contains t = true := by simpa using ht
  simp only [ho', Option.bind_some, hd, hc, Bool.not_true, Bool.false_or, Bool.and_eq_true, decide_eq_true_eq, Bool.not_eq_true', List.contains_eq_mem, decide_eq_false_iff_not] at h8
  exact ⟨h8.1.1, h8.1.2, h8.2⟩
/-! ### one op in whatever order -/
theorem calm_wpOp {Q : Exit → Act → World → Prop} {i : Nat} {o : Oper} {v : Value} {a : Act} {w : World} {K : Act → World → Prop} (hi : ops[i]? = some o) (hc : CalmAt P ops S o v a) (hw : S w)
 (hK : ∀ w', Grows w w' → K (a.put o.dst v) w') : wpOp P ops Q i K a w := by
 unfold wpOp
 simp only [hi]
 rcases hc with ⟨hwt, hr⟩ | ⟨hwt, rfl⟩
 ·simp only [hwt, if_true]
  refine .inl ?_
  have := hr w hw
  unfold Oper.wp
  generalize (execOp a.eval o).run P w = r at *
  cases r with
  | ok n w' =>
   cases n <;> simp only [calmR] at this <;> simp only [Oper.upon]
   case value u => obtain ⟨rfl, hg⟩ := this; exact hK _ hg
   case skip => obtain ⟨rfl, hg⟩ := this; exact hK _ hg
   case enter f args => exact this.mono fun e w'' ⟨he, hg⟩ => by subst he; exact hK _ hg
  | halt x w' => simp only [calmR] at this
 ·simp only [hwt, Bool.false_eq_true, if_false]
  exact hK _ (Below.refl _ _)
theorem float_wpOp {Q : Exit → Act → World → Prop} {i : Nat} {o : Oper} {D : Value → World → Prop} {a : Act} {w : World} {K : Act → World → Prop} (hi : ops[i]? = some o) (hc : FloatAt P S o D a) (hw : S w)
 (hK : ∀ u w', D u w' → Grows w w' → K (a.put o.dst u) w') : wpOp P ops Q i K a w := by
 unfold wpOp
 simp only [hi, Region.wanted, hc.1, if_true]
 refine .inl ?_
 have := hc.2 w hw
 unfold Oper.wp
 generalize (execOp a.eval o).run P w = r at *
 cases r with
 | ok n w' =>
  cases n <;> simp only [floatR] at this <;> simp only [Oper.upon]
  case value u => exact hK _ _ this.1 this.2
  case enter f args => exact this.mono fun e w'' ⟨u, he, hd, hg⟩ => by subst he; exact hK _ _ hd hg
 | halt x w' => simp only [floatR] at this
/-! ### the state in whatever order -/
structure Inv (S : World → Prop) (ops : Array Oper) (n : Nat) (fl : Floats) (val : Nat → Value) (a0 : Act) (listed : Array Bool) (a : Act) (w : World) : Prop where
 s : S w
 defers : a.defers = a0.defers
 size : a.tmps.size = a0.tmps.size
 calm : ∀ k o t, k < n → ops[k]? = some o → o.dst = some t → listed.getD k false = true → fl.at k = none → a.tmps[t]? = some (val k)
 float : ∀ k o t D, k < n → ops[k]? = some o → o.dst = some t → listed.getD k false = true → fl.at k = some D → ∃ v, a.tmps[t]? = some v ∧ D v w
 other : ∀ t, (∀ k o, k < n → ops[k]? = some o → listed.getD k false = true → o.dst ≠ some t) → a.tmps[t]? = a0.tmps[t]?
theorem lookup_mem {fl : Floats} {k : Nat} : k ∉ fl.map (·.1) → fl.at k = none := by
 intro h
 unfold Floats.at
 rw [List.lookup_eq_none_iff]
 intro p hp
 simp only [bne_iff_ne, ne_eq]
 intro e
 exact h (List.mem_map.2 ⟨p, hp, e.symm⟩)
theorem lookup_some {k : Nat} {D : Value → World → Prop} : ∀ {fl : Floats}, (fl.map (·.1)).Nodup → (k, D) ∈ fl → fl.at k = some D
 | [], _, h => by simp at h
 | (k', D') :: r, hn, h => by
  simp only [List.map_cons, List.nodup_cons] at hn
  unfold Floats.at
  rw [List.lookup_cons]
  rcases List.mem_cons.1 h with h | h
  ·injection h with h1 h2
   subst h1; subst h2
   simp
  ·have hne : k ≠ k' := fun e => hn.1 (List.mem_map.2 ⟨(k, D), h, e⟩)
   simp only [beq_eq_false_iff_ne.2 hne]
   exact lookup_some (fl := r) hn.2 h
theorem lookup_key {fl : Floats} {k : Nat} {D : Value → World → Prop} (h : fl.at k = some D) : k ∈ fl.map (·.1) := by
 apply Classical.byContradiction
 intro hn
 rw [lookup_mem hn] at h
 cases h
theorem countP_lt {p q : Nat → Bool} {i : Nat} : ∀ (l : List Nat), i ∈ l → (∀ j ∈ l, q j = true → p j = true) → p i = true → q i = false → l.countP q < l.countP p
 | [], h, _, _, _ => by simp at h
 | x :: l, h, hle, hp, hq => by
  have hmono : l.countP q ≤ l.countP p := List.countP_mono_left fun j hj hq' => hle j (by simp [hj]) hq'
  by_cases hx : i = x
  ·subst hx
   rw [List.countP_cons, List.countP_cons, hp, hq]
   simp
   omega
  ·have hi : i ∈ l := by
    rcases List.mem_cons.1 h with h | h
    ·exact absurd h hx
    ·exact h
   have := countP_lt l hi (fun j hj => hle j (by simp [hj])) hp hq
   rw [List.countP_cons, List.countP_cons]
   have h2 := hle x (by simp)
   cases hqx : q x
   ·simp; omega
   ·rw [h2 hqx]; simp; omega
theorem wpAny_more {Q : Exit → Act → World → Prop} : ∀ (f : Nat) (listed : Array Bool) (a : Act) (w : World), wpAny P md ops Q f listed a w → wpAny P md ops Q (f + 1) listed a w
 | 0, _, _, _, h => ⟨fun _ => h.2, fun i hi => by rw [h.1] at hi; cases hi⟩
 | f + 1, _, _, _, h => ⟨h.1, fun i hi => wpOp_mono (fun a' w' h' => wpAny_more f _ a' w' h') (h.2 i hi)⟩
theorem wpAny_fuel {Q : Exit → Act → World → Prop} (g : Nat) (listed : Array Bool) (a : Act) (w : World) (h : wpAny P md ops Q g listed a w) : ∀ f, wpAny P md ops Q (f + g) listed a w
 | 0 => by rw [Nat.zero_add]; exact h
 | f + 1 => by rw [show f + 1 + g = (f + g) + 1 by omega]; exact wpAny_more _ _ _ _ (wpAny_fuel g listed a w h f)
section
variable {n N : Nat} {ks : List Nat} {fl : Floats} {val : Nat → Value} {a0 : Act}
theorem take_get {i : Nat} {o : Oper} (hi : i < n) (ho : ops[i]? = some o) : (ops.toList.take n)[i]? = some o := by
 rw [List.getElem?_take, if_pos hi]; simpa using ho
theorem of_take_get {i : Nat} {o : Oper} (ho : (ops.toList.take n)[i]? = some o) : i < n ∧ ops[i]? = some o := by
 rw [List.getElem?_take] at ho
 split at ho
 ·exact ⟨by assumption, by simpa using ho⟩
 ·cases ho
theorem op_step (ok : MixOk md ops n N ks) (hks : fl.map (·.1) = ks) (hN : a0.tmps.size = N) (good : Good P ops S fl val (ops.toList.take n) 0 a0)
 {listed : Array Bool} {a : Act} {w : World} (inv : Inv S ops n fl val a0 listed a w) {i : Nat} {o : Oper} (hi : i < n) (ho : ops[i]? = some o) (hr : i ∈ Region.ready md ops listed) :
 (match fl.at i with | some D => FloatAt P S o D a | none => CalmAt P ops S o (val i) a) := by
 have hg := good_at (ops.toList.take n) 0 a0 i o good (take_get hi ho)
 rw [Nat.zero_add] at hg
 rw [List.take_take, Nat.min_eq_left (by omega)] at hg
 have hs : ∀ cs b, o.op ≠ .select cs b := fun cs b => Region.noSelect_spec ok.sel i o cs b ho
 have agree : ∀ t ∈ o.looksAt ops, (fin fl val (ops.toList.take i) 0 a0).tmps[t]? = a.tmps[t]? := by
  intro t ht
  by_cases hex : ∃ k o', k < n ∧ ops[k]? = some o' ∧ o'.dst = some t
  ·obtain ⟨k, o', hk, ho', hd⟩ := hex
   obtain ⟨h1, h2, h3⟩ := ok.look i o k o' t hi hk ho ho' hd ht
   have hcalm : fl.at k = none := lookup_mem (by rw [hks]; exact h2)
   have hlisted : listed.getD k false = true := by
    obtain ⟨oj, hoj, e, he, hb, hon⟩ := Region.waitsFor_spec h3
    obtain ⟨_, oi, hoi, hall⟩ := mem_ready.1 hr
    have : oj = oi := Option.some.inj (hoj.symm.trans hoi)
    subst this
    have := hall e he hb
    rwa [hon] at this
   have e1 := inv.calm k o' t hk ho' hd hlisted hcalm
   have hlt : t < a0.tmps.size := by rw [hN]; exact ok.bd k o' t hk ho' hd
   have e2 := fin_at (fl := fl) (val := val) (ops.toList.take i) 0 a0 k o' (take_get h1 ho') hd (by rw [Nat.zero_add]; exact hcalm) hlt (by
    intro j oj hj hne hdj
    obtain ⟨hji, hoj⟩ := of_take_get hj
    exact ok.ne j oj k o' t (by omega) hk hoj ho' (Ne.symm hne) hdj hd)
   rw [Nat.zero_add] at e2
   rw [e1, e2]
  ·have e1 := inv.other t fun k o' hk ho' _ hd => hex ⟨k, o', hk, ho', hd⟩
   have e2 := fin_other (fl := fl) (val := val) (t := t) (ops.toList.take i) 0 a0 fun j oj hj _ hd => by
    obtain ⟨hji, hoj⟩ := of_take_get hj
    exact hex ⟨j, oj, by omega, hoj, hd⟩
   rw [e1, e2]
 cases hf : fl.at i with
 | some D =>
  simp only [hf] at hg ⊢
  exact ⟨hg.1, by rw [← run_agree (ops := ops) hs agree]; exact hg.2⟩
 | none =>
  simp only [hf] at hg ⊢
  exact hg.agree hs agree
theorem inv_step (ok : MixOk md ops n N ks) (hN : a0.tmps.size = N) (hS : ∀ w w', S w → Grows w w' → S w') (hD : ∀ k D, fl.at k = some D → ∀ v w w', D v w → Grows w w' → D v w')
 {listed : Array Bool} {a : Act} {w w' : World} (inv : Inv S ops n fl val a0 listed a w) {i : Nat} {o : Oper} (hi : i < n) (ho : ops[i]? = some o) (hl : i < listed.size) {u : Value}
 (hu : fl.at i = none → u = val i) (huf : ∀ D, fl.at i = some D → D u w') (hg : Grows w w') : Inv S ops n fl val a0 (listed.setIfInBounds i true) (a.put o.dst u) w' := by
 have key : ∀ k o' t, k < n → ops[k]? = some o' → o'.dst = some t → k ≠ i → (a.put o.dst u).tmps[t]? = a.tmps[t]? := by
  intro k o' t hk ho' hd hne
  exact put_get_ne fun e => ok.ne i o k o' t hi hk ho ho' hne e hd
 refine ⟨hS _ _ inv.s hg, (put_defers' _ _ _).trans inv.defers, (put_size _ _ _).trans inv.size, ?_, ?_, ?_⟩
 ·intro k o' t hk ho' hd hlk hc
  by_cases hki : k = i
  ·subst hki
   have : o' = o := Option.some.inj (ho'.symm.trans ho)
   subst this
   rw [hd, put_get_eq (by rw [inv.size, hN]; exact ok.bd k o' t hk ho' hd), hu hc]
  ·rw [key k o' t hk ho' hd hki]
   exact inv.calm k o' t hk ho' hd (by rwa [getD_set_ne false (Ne.symm hki)] at hlk) hc
 ·intro k o' t D hk ho' hd hlk hc
  by_cases hki : k = i
  ·subst hki
   have : o' = o := Option.some.inj (ho'.symm.trans ho)
   subst this
   exact ⟨u, by rw [hd, put_get_eq (by rw [inv.size, hN]; exact ok.bd k o' t hk ho' hd)], huf D hc⟩
  ·rw [key k o' t hk ho' hd hki]
   obtain ⟨v, hv, hDv⟩ := inv.float k o' t D hk ho' hd (by rwa [getD_set_ne false (Ne.symm hki)] at hlk) hc
   exact ⟨v, hv, hD k D hc v _ _ hDv hg⟩
 ·intro t ht
  have h1 : o.dst ≠ some t := ht i o hi ho (by simp [hl])
  rw [put_get_ne h1]
  exact inv.other t fun k o' hk ho' hlk => ht k o' hk ho' (getD_set_true hlk)
theorem head_run {Q : Exit → Act → World → Prop} (ok : MixOk md ops n N ks) (hks : fl.map (·.1) = ks) (hN : a0.tmps.size = N) (hS : ∀ w w', S w → Grows w w' → S w')
 (hD : ∀ k D, fl.at k = some D → ∀ v w w', D v w → Grows w w' → D v w') (good : Good P ops S fl val (ops.toList.take n) 0 a0) (g : Nat)
 (H : ∀ listed a w, HeadInv md ops n listed → (∀ i, i < n → listed.getD i false = true) → Inv S ops n fl val a0 listed a w → wpAny P md ops Q g listed a w) :
 ∀ (f : Nat) (listed : Array Bool) (a : Act) (w : World), ((List.range n).countP fun i => !listed.getD i false) ≤ f → HeadInv md ops n listed → Inv S ops n fl val a0 listed a w →
  wpAny P md ops Q (f + g) listed a w := by
 intro f
 induction f with
 | zero =>
  intro listed a w hc hinv inv
  rw [Nat.zero_add]
  refine H listed a w hinv (fun i hi => ?_) inv
  have h0 : ((List.range n).countP fun i => !listed.getD i false) = 0 := by omega
  rw [List.countP_eq_zero] at h0
  have := h0 i (List.mem_range.2 hi)
  simpa using this
 | succ f ih =>
  intro listed a w hc hinv inv
  by_cases hall : ∀ i, i < n → listed.getD i false = true
  ·exact wpAny_fuel g listed a w (H listed a w hinv hall inv) (f + 1)
  ·-- some op of the head is not listed yet
   have hex : ∃ i, i < n ∧ listed.getD i false = false := by
    apply Classical.byContradiction
    intro hno
    exact hall fun i hi => by
     cases h : listed.getD i false
     ·exact absurd ⟨i, hi, h⟩ hno
     ·rfl
   obtain ⟨i0, hi0, hl0⟩ := hex
   have hsz : ∀ i, i < n → i < listed.size := fun i hi => by rw [hinv.size]; have := ok.le; omega
   -- the least one is ready
   have hready : Region.ready md ops listed ≠ [] := by
    have : ∀ d i, i ≤ d → i < n → listed.getD i false = false → ∃ j, j ∈ Region.ready md ops listed := by
     intro d
     induction d with
     | zero =>
      intro i hid hi hl
      obtain ⟨o, ho⟩ : ∃ o, ops[i]? = some o := ⟨ops[i]'(by have := ok.le; omega), by simp [show i < ops.size by have := ok.le; omega]⟩
      refine ⟨i, mem_ready.2 ⟨getD_in (hsz i hi) hl, o, ho, fun e he hb => ?_⟩⟩
      have := ok.back i o hi ho e he hb
      omega
     | succ d ihd =>
      intro i hid hi hl
      obtain ⟨o, ho⟩ : ∃ o, ops[i]? = some o := ⟨ops[i]'(by have := ok.le; omega), by simp [show i < ops.size by have := ok.le; omega]⟩
      by_cases hw : ∀ e ∈ o.after, Region.binds md e = true → listed.getD e.on false = true
      ·exact ⟨i, mem_ready.2 ⟨getD_in (hsz i hi) hl, o, ho, hw⟩⟩
      ·have : ∃ e ∈ o.after, Region.binds md e = true ∧ listed.getD e.on false = false := by
        apply Classical.byContradiction
        intro hno
        exact hw fun e he hb => by
         cases h : listed.getD e.on false
         ·exact absurd ⟨e, he, hb, h⟩ hno
         ·rfl
       obtain ⟨e, he, hb, hle⟩ := this
       have hlt := ok.back i o hi ho e he hb
       exact ihd e.on (by omega) (by omega) hle
    obtain ⟨j, hj⟩ := this i0 i0 (Nat.le_refl _) hi0 hl0
    intro h0
    rw [h0] at hj
    cases hj
   rw [show f + 1 + g = (f + g) + 1 by omega]
   refine ⟨fun h0 => absurd h0 hready, fun i hir => ?_⟩
   have hin : i < n := by
    rcases Nat.lt_or_ge i n with h | h
    ·exact h
    ·exfalso
     obtain ⟨_, oi, hoi, _⟩ := mem_ready.1 hir
     have hlt : i < ops.size := (Array.getElem?_eq_some_iff.1 hoi).1
     rcases ok.tail with ht | ⟨ht, hs, hch⟩
     ·omega
     ·exact tail_waits hs hch ht hinv _ i0 rfl hi0 (getD_in (hsz i0 hi0) hl0) i h hir
   obtain ⟨hun, o, ho, _⟩ := mem_ready.1 hir
   have hst := op_step ok hks hN good inv hin ho hir
   have hunf : listed.getD i false = false := getD_both hun
   have hcnt : ((List.range n).countP fun j => !(listed.setIfInBounds i true).getD j false) ≤ f := by
    have := countP_lt (p := fun j => !listed.getD j false) (q := fun j => !(listed.setIfInBounds i true).getD j false) (List.range n) (List.mem_range.2 hin)
     (fun j _ hj => by
       simp only [Bool.not_eq_true'] at hj ⊢
       cases h : listed.getD j false
       ·rfl
       ·rw [getD_set_true h] at hj; cases hj) (by simp only [hunf, Bool.not_false]) (by simp [hsz i hin])
    omega
   have hinv' := hinv.set hir hin
   cases hf : fl.at i with
   | some D =>
    simp only [hf] at hst
    exact float_wpOp ho hst inv.s fun u w' hu hg => ih _ _ _ hcnt hinv' (inv_step ok hN hS hD inv hin ho (hsz i hin) (fun h => by rw [hf] at h; cases h) (fun D' h => by rw [hf] at h; injection h with h; subst h; exact hu) hg)
   | none =>
    simp only [hf] at hst
    exact calm_wpOp ho hst inv.s fun w' hg => ih _ _ _ hcnt hinv' (inv_step ok hN hS hD inv hin ho (hsz i hin) (fun _ => rfl) (fun D' h => by rw [hf] at h; cases h) hg)
/-- Behind the head: each float's value, and what is known of it. -/
def endMix (ops : Array Oper) (T : Act → World → Prop) (S : World → Prop) : Floats → Act → (World → Prop) → Prop
 | [], a, F => ∀ w, S w → F w → T a w
 | (k, D) :: r, a, F => ∀ v, endMix ops T S r (a.put ((ops[k]?).bind (·.dst)) v) fun w => F w ∧ D v w
theorem endMix_out {T : Act → World → Prop} {a : Act} {w : World} (hs : S w) : ∀ (r : Floats) (b : Act) (F : World → Prop), endMix ops T S r b F → F w → b.defers = a.defers → b.tmps.size = a.tmps.size →
 (∀ k D, (k, D) ∈ r → ∃ t v, (ops[k]?).bind (·.dst) = some t ∧ a.tmps[t]? = some v ∧ D v w) →
 (∀ t : Nat, (∀ k D, (k, D) ∈ r → (ops[k]?).bind (·.dst) ≠ some t) → b.tmps[t]? = a.tmps[t]?) → T a w
 | [], b, F, h, hF, hd, hsz, _, hag => by
  have hb : b = a := by
   obtain ⟨bt, bd⟩ := b
   obtain ⟨at', ad⟩ := a
   simp only at hd hsz hag
   subst hd
   congr 1
   exact Array.ext_getElem? fun t => hag t (by simp)
  subst hb
  exact h w hs hF
 | (k, D) :: r, b, F, h, hF, hd, hsz, hfl, hag => by
  obtain ⟨t, v, ht, hv, hDv⟩ := hfl k D (by simp)
  have hlt : t < b.tmps.size := by
   rw [hsz]
   rcases Nat.lt_or_ge t a.tmps.size with h1 | h1
   ·exact h1
   ·rw [Array.getElem?_eq_none h1] at hv; cases hv
  refine endMix_out hs r _ _ (h v) ⟨hF, hDv⟩ ((put_defers' _ _ _).trans hd) ((put_size _ _ _).trans hsz) (fun k' D' hk' => hfl k' D' (by simp [hk'])) fun t' ht' => ?_
  rw [ht]
  by_cases e : t = t'
  ·subst e
   rw [put_get_eq hlt, hv]
  ·rw [put_get_ne (by simpa using e)]
   refine hag t' fun k' D' hk' => ?_
   rcases List.mem_cons.1 hk' with hk' | hk'
   ·injection hk' with h1 h2
    subst h1
    rw [ht]
    simpa using e
   ·exact ht' k' D' hk'
end
theorem wp_region_mix {id : Nat} {Q : Exit → Act → World → Prop} {a : Act} {w : World} {l : List Oper} (S : World → Prop) (fl : Floats) (n N : Nat) (hm : P.follows .mixedOrders = true) (hB : mixB .any l.toArray n N (fl.map (·.1)) = true)
 (hN : a.tmps.size = N) (hS : ∀ w w', S w → Grows w w' → S w') (hD : ∀ k D, fl.at k = some D → ∀ v w w', D v w → Grows w w' → D v w') (h0 : S w.drew)
 (h : wpCalm P l.toArray S fl (fun a' => endMix l.toArray (fun a'' w' => wpList P l.toArray Q (l.drop n) a'' w') S fl a' fun _ => True) (l.take n) 0 a) : (Code.region id l.toArray true).wp P Q a w := by
 have ok := mixOk_of hB
 have hle : n ≤ l.length := by simpa using ok.le
 obtain ⟨val, good, hL⟩ := good_of_wpCalm (l.take n) 0 a h
 refine wp_region_any hm ?_
 have inv0 : HeadInv .any l.toArray n (Array.replicate l.toArray.size false) :=
  ⟨by simp, fun j oj _ hl => (by rw [getD_replicate_false] at hl; cases hl), fun t _ ht => getD_in (by simpa using ht) (getD_replicate_false _ _)⟩
 have key := head_run (md := .any) (Q := Q) (ops := l.toArray) (S := S) (fl := fl) (val := val) (a0 := a) ok rfl hN hS hD (by simpa using good) (l.length - n) (by
  intro listed b w' hinv hall inv
  refine (show l.length - n = (l.drop n).length by simp) ▸ wpAny_of_seq (l.drop n) n listed b w' (fun j => by simp [List.getElem?_drop]) ?_ ?_
  ·have hls : listed = (Array.replicate n true) ++ (Array.replicate (l.length - n) false) := by
    refine Array.ext (by simp [hinv.size]; omega) fun i h1 h2 => ?_
    have hsz : i < l.length := by have := hinv.size; simp at this; omega
    by_cases hin : i < n
    ·have := hall i hin
     rw [Array.getElem_append_left (by simpa using hin)]
     simpa [h1] using this
    ·have := hinv.tail i (by omega) (by simpa using hsz)
     rw [Array.getElem_append_right (by simp; omega)]
     simpa [h1] using this
   have := ok.seq
   rw [hls]
   simpa using this
  ·refine endMix_out (ops := l.toArray) (T := fun a'' w' => wpList P l.toArray Q (l.drop n) a'' w') inv.s fl _ _ hL trivial ((fin_defers _ _ _).trans inv.defers.symm) ((fin_size _ _ _).trans inv.size.symm) ?_ ?_
   ·intro k D hk
    obtain ⟨hkn, t, ht⟩ := ok.fl k (List.mem_map.2 ⟨(k, D), hk, rfl⟩)
    obtain ⟨o, ho, hd⟩ := Option.bind_eq_some_iff.1 ht
    obtain ⟨v, hv, hDv⟩ := inv.float k o t D hkn ho hd (hall k hkn) (lookup_some ok.nd hk)
    exact ⟨t, v, ht, hv, hDv⟩
   ·intro t ht
    by_cases hex : ∃ k o', k < n ∧ l.toArray[k]? = some o' ∧ o'.dst = some t
    ·obtain ⟨k, o', hk, ho', hd⟩ := hex
     have hcalm : fl.at k = none := by
      cases hf : fl.at k with
      | none => rfl
      | some D =>
       exfalso
       have hm := lookup_key hf
       obtain ⟨⟨k', D'⟩, hmem, rfl⟩ := List.mem_map.1 hm
       exact ht k' D' hmem (by simp only [ho', Option.bind_some, hd])
     have e1 := inv.calm k o' t hk ho' hd (hall k hk) hcalm
     have e2 := fin_at (fl := fl) (val := val) (l.take n) 0 a k o' (by have := take_get (ops := l.toArray) hk ho'; simpa using this) hd (by rw [Nat.zero_add]; exact hcalm)
      (by rw [hN]; exact ok.bd k o' t hk ho' hd) (by
        intro j oj hj hne hdj
        obtain ⟨hji, hoj⟩ := of_take_get (ops := l.toArray) (by simpa using hj)
        exact ok.ne j oj k o' t hji hk hoj ho' (Ne.symm hne) hdj hd)
     rw [Nat.zero_add] at e2
     rw [e1, e2]
    ·have e1 := inv.other t fun k o' hk ho' _ hd => hex ⟨k, o', hk, ho', hd⟩
     have e2 := fin_other (fl := fl) (val := val) (t := t) (l.take n) 0 a fun j oj hj _ hd => by
      obtain ⟨hji, hoj⟩ := of_take_get (ops := l.toArray) (by simpa using hj)
      exact hex ⟨j, oj, hji, hoj, hd⟩
     rw [e1, e2]) n (Array.replicate l.toArray.size false) a w.drew (by
   have := List.countP_le_length (p := fun i => !(Array.replicate l.toArray.size false).getD i false) (l := List.range n)
   simpa using this) inv0 ⟨h0, rfl, rfl, fun k o t _ _ _ hl => (by rw [getD_replicate_false] at hl; cases hl), fun k o t D _ _ _ hl => (by rw [getD_replicate_false] at hl; cases hl), fun t _ => rfl⟩
 rw [show n + (l.length - n) = l.toArray.size by simp; omega] at key
 exact key
/-! ### the steps of a walk -/
section
variable {fl : Floats} {L : Act → Prop} {o : Oper} {l : List Oper} {k : Nat} {a a' : Act} {v : Value}
theorem calm_plain (hg : o.guard = none) (hf : fl.at k = none) (hc : ∀ w, S w → calmR P w ((execOp a.eval o).run P w) v) (ha : a.put o.dst v = a') (h : wpCalm P ops S fl L l (k + 1) a') : wpCalm P ops S fl L (o :: l) k a := by
 subst ha
 simp only [wpCalm, hf]
 exact ⟨v, .inl ⟨by simp [Region.wanted, hg], hc⟩, h⟩
theorem calm_yes (hf : fl.at k = none) (hw : Region.wanted o (yielded ops a.tmps) = true) (hc : ∀ w, S w → calmR P w ((execOp a.eval o).run P w) v) (ha : a.put o.dst v = a') (h : wpCalm P ops S fl L l (k + 1) a') : wpCalm P ops S fl L (o :: l) k a := by
 subst ha
 simp only [wpCalm, hf]
 exact ⟨v, .inl ⟨hw, hc⟩, h⟩
theorem calm_no (hf : fl.at k = none) (hw : Region.wanted o (yielded ops a.tmps) = false) (ha : a.put o.dst undef = a') (h : wpCalm P ops S fl L l (k + 1) a') : wpCalm P ops S fl L (o :: l) k a := by
 subst ha
 simp only [wpCalm, hf]
 exact ⟨undef, .inr ⟨hw, rfl⟩, h⟩
theorem calm_float {D : Value → World → Prop} (hg : o.guard = none) (hf : fl.at k = some D) (hc : ∀ w, S w → floatR P w D ((execOp a.eval o).run P w)) (h : wpCalm P ops S fl L l (k + 1) a) : wpCalm P ops S fl L (o :: l) k a := by
 simp only [wpCalm, hf]
 exact ⟨⟨hg, hc⟩, h⟩
theorem calm_done (h : L a) : wpCalm P ops S fl L [] k a := h
end
theorem end_none {ops : Array Oper} {S : World → Prop} {T : Act → World → Prop} {a : Act} (h : ∀ w, S w → T a w) : endMix ops T S [] a fun _ => True := fun w hs _ => h w hs
theorem end_one {ops : Array Oper} {S : World → Prop} {T : Act → World → Prop} {a : Act} {k : Nat} {d : Option Tmp} {D : Value → World → Prop} (hd : (ops[k]?).bind (·.dst) = d)
 (h : ∀ v w, S w → D v w → T (a.put d v) w) : endMix ops T S [(k, D)] a fun _ => True := fun v w hs hD => hd ▸ h v w hs hD.2
theorem float_one {k : Nat} {D : Value → World → Prop} (h : ∀ v w w', D v w → Grows w w' → D v w') : ∀ k' D', Floats.at [(k, D)] k' = some D' → ∀ v w w', D' v w → Grows w w' → D' v w' := by
 intro k' D' h'
 unfold Floats.at at h'
 rw [List.lookup_cons] at h'
 split at h'
 ·injection h' with h'; subst h'; exact h
 ·simp at h'
theorem float_none : ∀ k' D', Floats.at [] k' = some D' → ∀ v w w', D' v w → Grows w w' → D' v w' := by
 intro k' D' h'; cases h'
theorem calmR_value (P : Program) (w w' : World) (v u : Value) : calmR P w (.ok (.value u) w') v = (u = v ∧ Grows w w') := rfl
theorem calmR_skip (P : Program) (w w' : World) (v : Value) : calmR P w (.ok .skip w') v = (v = undef ∧ Grows w w') := rfl
theorem calmR_enter (P : Program) (w w' : World) (v : Value) (f : FuncId) (args : Array Value) : calmR P w (.ok (.enter f args) w') v = Calls P f args w' fun e w'' => e = .returned v ∧ Grows w w'' := rfl
theorem floatR_value (P : Program) (w w' : World) (D : Value → World → Prop) (u : Value) : floatR P w D (.ok (.value u) w') = (D u w' ∧ Grows w w') := rfl
theorem floatR_enter (P : Program) (w w' : World) (D : Value → World → Prop) (f : FuncId) (args : Array Value) : floatR P w D (.ok (.enter f args) w') = Calls P f args w' fun e w'' => ∃ u, e = .returned u ∧ D u w'' ∧ Grows w w'' := rfl
theorem calm_val {P : Program} {w : World} {v : Value} : calmR P w (.ok (.value v) w) v := ⟨rfl, Below.refl _ _⟩
theorem calm_skip {P : Program} {w : World} : calmR P w (.ok .skip w) undef := ⟨rfl, Below.refl _ _⟩
/-- A contract that leaves the world as it is, as one that only makes memory. -/
theorem calm_same {P : Program} {f : FuncId} {args : Array Value} {w : World} {v : Value} (h : Calls P f args w fun e w' => e = .returned v ∧ w = w') : Calls P f args w fun e w' => e = .returned v ∧ Grows w w' :=
 h.mono fun _ _ ⟨he, hw⟩ => ⟨he, hw ▸ Below.refl _ _⟩
theorem calm_call {P : Program} {w : World} {u : Value} {f : FuncId} {args : Array Value} (h : Calls P f args w fun e w' => e = .returned u ∧ Grows w w') : calmR P w (.ok (.enter f args) w) u := h
theorem calm_quiet {P : Program} {w : World} {u : Value} {f : FuncId} {args : Array Value} (h : Calls P f args w fun e w' => e = .returned u ∧ w = w') : calmR P w (.ok (.enter f args) w) u := calm_same h
end
end Go.Proofs.Ytobhdldlhhigdaa

namespace Go.Proofs.Ytobhdldlhhigdaa
open Go.RowKit
theorem block_of_add (a : Addr) (n : Nat) : (a.add n).block = a.block := by unfold Addr.add; split <;> rfl
theorem add_of_add (a : Addr) (i j : Nat) : (a.add i).add j = a.add (i + j) := by
 unfold Addr.add
 by_cases hi : i = 0 <;> by_cases hj : j = 0 <;> simp [hi, hj, Nat.add_assoc]
def Reads (w : World) (B size : Nat) (A : Option Addr) (n : Nat) (xs : List Value) : Prop :=
 xs.length = n * size ∧ (0 < n → ∃ ad, A = some ad ∧ ad.block < B ∧ ∀ j u, xs[j]? = some u → w.cell? (ad.add j) = some u)
section
variable {w w' : World} {B B' size n : Nat} {A : Option Addr} {xs : List Value}
theorem Reads.none_ : Reads w B size A 0 [] := ⟨by simp, fun h => absurd h (by omega)⟩
theorem Reads.at_ {k : Nat} (h : Reads w B 1 A n xs) (hk : k < n) : ∃ ad u, A = some ad ∧ ad.block < B ∧ xs[k]? = some u ∧ w.cell? (ad.add k) = some u := by
 obtain ⟨ad, e, hb, hc⟩ := h.2 (by omega)
 have hl : k < xs.length := by have := h.1; omega
 exact ⟨ad, xs[k], e, hb, List.getElem?_eq_getElem hl, hc k _ (List.getElem?_eq_getElem hl)⟩
theorem Reads.keep (h : Reads w B size A n xs) (hk : ∀ p : Addr, p.block < B → w'.cell? p = w.cell? p) : Reads w' B size A n xs :=
 ⟨h.1, fun hn => by
  obtain ⟨ad, e, hb, hc⟩ := h.2 hn
  exact ⟨ad, e, hb, fun j u hu => (hk _ (by rw [block_of_add]; exact hb)).trans (hc j u hu)⟩⟩
theorem Reads.more (h : Reads w B size A n xs) (hB : B ≤ B') : Reads w B' size A n xs :=
 ⟨h.1, fun hn => by
  obtain ⟨ad, e, hb, hc⟩ := h.2 hn
  exact ⟨ad, e, by omega, hc⟩⟩
theorem Reads.below (h : Reads w B size A n xs) (hb : Below B w w') : Reads w' B size A n xs := h.keep fun _ hp => hb.cell hp
theorem Reads.drew (h : Reads w B size A n xs) : Reads w.drew B size A n xs := h
theorem Reads.drewN (h : Reads w B size A n xs) (k : Nat) : Reads (w.drewN k) B size A n xs := h
theorem Reads.alloc (h : Reads w B size A n xs) (hB : B ≤ w.heap.size) (o : Obj) : Reads (w.alloc o) B size A n xs := h.keep fun p hp => World.cell?_alloc_lt w o p (by omega)
theorem Reads.setCell (h : Reads w B size A n xs) {p : Addr} (hB : B ≤ p.block) (u : Value) : Reads (w.setCell p u) B size A n xs :=
 h.keep fun q hq => World.cell?_setCell_other w p q u (fun e => by subst e; omega)
theorem Reads.grown (h : Reads w B size A n xs) {row : Option Nat} (hg : w.grownBy w' row) (hB : B ≤ w.heap.size) (hr : ∀ g, row = some g → B ≤ g) : Reads w' B size A n xs :=
 h.keep fun p hp => World.cell?_of_block (hg.block p.block (by omega) (fun e => by have := hr _ e.symm; omega))
theorem Reads.cut (h : Reads w B size A n xs) {k cap : Nat} (hk : k ≤ n) (hc : n ≤ cap) :
 Reads w B size (if cap = k then A else A.map (·.add (k * size))) (n - k) (xs.drop (k * size)) := by
 refine ⟨by rw [List.length_drop, h.1, Nat.sub_mul], fun hn => ?_⟩
 obtain ⟨ad, rfl, hb, hcell⟩ := h.2 (by omega)
 rw [if_neg (by omega)]
 refine ⟨ad.add (k * size), rfl, by rw [block_of_add]; exact hb, fun j u hu => ?_⟩
 rw [add_of_add]
 exact hcell _ u (by rw [← hu, List.getElem?_drop])
theorem Reads.of_own {base : Nat} {e : TypeId} {c : Nat} (h : w.ownsRow base e size (.slice A n c) n xs) : Reads w w.heap.size size A n xs := by
 refine ⟨h.1, fun hn => ?_⟩
 obtain ⟨g, cap, hv, _, hlt⟩ := h.form hn
 have hA : A = some ⟨g, 0, none⟩ := by injection hv
 subst hA
 exact ⟨_, rfl, hlt, h.cells (g := g) rfl⟩
end
def Blk (w : World) (g : Nat) (t : TypeId) (cs : Array Value) : Prop := w.heap[g]? = some (.cells cs t (0, 0))
section
variable {w w' : World} {g : Nat} {t : TypeId} {cs : Array Value}
theorem Blk.lt (h : Blk w g t cs) : g < w.heap.size := by
 rcases Nat.lt_or_ge g w.heap.size with hlt | hge
 ·exact hlt
 ·unfold Blk at h; rw [Array.getElem?_eq_none hge] at h; cases h
theorem Blk.cell (h : Blk w g t cs) (i : Nat) : w.cell? ⟨g, i, none⟩ = cs[i]? := cell_of_row w g i cs t (0, 0) h
theorem Blk.frozen (h : Blk w g t cs) (i : Nat) : w.frozen? ⟨g, i, none⟩ = false := by
 unfold Blk at h
 simp [World.frozen?, h]
theorem Blk.new (w : World) (t : TypeId) (cs : Array Value) : Blk (w.alloc (.cells cs t)) w.heap.size t cs := heap_alloc_new w _
theorem Blk.drew (h : Blk w g t cs) : Blk w.drew g t cs := h
theorem Blk.drewN (h : Blk w g t cs) (n : Nat) : Blk (w.drewN n) g t cs := h
theorem Blk.alloc (h : Blk w g t cs) (o : Obj) : Blk (w.alloc o) g t cs := (Below.heap_alloc w o g h.lt).trans h
theorem Blk.set_ (h : Blk w g t cs) (i : Nat) (u : Value) : Blk (w.setCell ⟨g, i, none⟩ u) g t (cs.setIfInBounds i u) := by
 unfold Blk at h ⊢
 simp [World.setCell, Array.getElem?_modify, h]
theorem Blk.far (h : Blk w g t cs) {p : Addr} (hp : g ≠ p.block) (u : Value) : Blk (w.setCell p u) g t cs := (Below.heap_setCell w p u g hp).trans h
theorem Blk.below {B : Nat} (h : Blk w g t cs) (hb : Below B w w') (hg : g < B) : Blk w' g t cs := (hb.block g hg).trans h
theorem Blk.grown {row : Option Nat} (h : Blk w g t cs) (hb : w.grownBy w' row) (hg : some g ≠ row) : Blk w' g t cs := (hb.block g h.lt hg).trans h
theorem Blk.ne_ {g' : Nat} {t' : TypeId} {cs' : Array Value} (h : Blk w g t cs) (h' : Blk w g' t' cs') (hne : t ≠ t') : g ≠ g' := by
 rintro rfl
 unfold Blk at h h'
 rw [h] at h'
 injection h' with h'
 injection h' with _ ht
 exact hne ht
theorem own_blk_ne {base : Nat} {e : TypeId} {size n : Nat} {v : Value} {xs : List Value} (h : w.ownsRow base e size v n xs) (hg : Blk w g t cs) (hne : e ≠ t) : v.ownBlock ≠ some g := by
 rcases h.2 with ⟨rfl, _⟩ | ⟨g', cap, cur, rfl, _, hh, _⟩
 ·simp [Value.ownBlock]
 ·intro he
  have : g' = g := by simpa [Value.ownBlock] using he
  subst this
  exact Blk.ne_ (t := e) hh hg hne rfl
end
section
variable {P : Program} (w : World)
theorem run_append_of_nil (base : Nat) (t ty e : TypeId) (i : TypeInfo) (size : Nat) (ht : P.underlying t = some (.slice e)) (hi : P.info? e = some i)
 (v : Value) (n : Nat) (xs : List Value) (hown : w.ownsRow base e size v n xs) (c : Nat) : (Builtin.append_ #[t, t] ty #[v, .slice none 0 c]).run P w = .ok v w := by
 rcases hown.2 with ⟨rfl, rfl⟩ | ⟨g, cap, cur, rfl, _, _, hnc, _⟩
 ·simp [Builtin.append_, run_underlying ht, sizeOf, typeInfo, hi, Builtin.lenOf, Builtin.firstCells]
 ·simp [Builtin.append_, run_underlying ht, sizeOf, typeInfo, hi, Builtin.lenOf, Builtin.firstCells, hnc, storeCells]
theorem run_append_any (base : Nat) (t ty e : TypeId) (i : TypeInfo) (z : Value) (size bytes : Nat) (ht : P.underlying t = some (.slice e)) (hi : P.info? e = some i) (hz : i.zero = some z)
 (hsize : i.size = size) (hby : i.bytes = bytes) (hzs : z.cells.size = size) (hsz : 0 < size)
 (v : Value) (n : Nat) (xs : List Value) (hown : w.ownsRow base e size v n xs)
 (B : Nat) (A : Option Addr) (m c : Nat) (news : List Value) (hr : Reads w B size A m news) (h1 : ∀ u ∈ news, u.oneCell' = true)
 (h63 : n + m ≤ maxLen) (hbytes : (n + m) * bytes ≤ 140737488355328) (hbase : base ≤ w.heap.size) :
 ∃ v' w', (Builtin.append_ #[t, t] ty #[v, .slice A m c]).run P w = .ok v' w' ∧ w'.ownsRow base e size v' (n + m) (xs ++ news) ∧ w.grownBy w' v.ownBlock ∧
  (v'.ownBlock = v.ownBlock ∨ v'.ownBlock = some w.heap.size) := by
 rcases A with _ | ad
 ·have hm : m = 0 := by
   rcases Nat.eq_zero_or_pos m with h0 | h0
   ·exact h0
   ·obtain ⟨ad, h, _⟩ := hr.2 h0
    cases h
  subst hm
  have hn : news = [] := List.eq_nil_of_length_eq_zero (by simpa using hr.1)
  subst hn
  exact ⟨v, w, run_append_of_nil w base t ty e i size ht hi v n xs hown c, by simpa using hown, World.grownBy.refl w _, .inl rfl⟩
 ·have hcells : ∀ j u, news[j]? = some u → w.cell? (ad.add j) = some u := by
   intro j u hu
   rcases Nat.eq_zero_or_pos m with h0 | h0
   ·subst h0
    have hn : news = [] := List.eq_nil_of_length_eq_zero (by simpa using hr.1)
    subst hn
    simp at hu
   ·obtain ⟨ad', h, _, hc⟩ := hr.2 h0
    injection h with h
    subst h
    exact hc j u hu
  obtain ⟨v', w', hrun, h2, h3, _, h5⟩ := run_append_own_at (P := P) w base t ty e i z size bytes ht hi hz hsize hby hzs hsz v n xs hown ad m c news hr.1 hcells h1 h63 hbytes hbase
  exact ⟨v', w', hrun, h2, h3, h5⟩
theorem wp_append_any {o : Oper} {a : Act} {K : Act → World → Prop} {Q : Exit → Act → World → Prop} (s x : Operand) (t : TypeId)
 (ho : o.op = .call { callee := .builtin .append, args := #[s, x], argTypes := #[t, t] })
 (base : Nat) (e : TypeId) (i : TypeInfo) (z : Value) (size bytes : Nat) (ht : P.underlying t = some (.slice e)) (hi : P.info? e = some i) (hz : i.zero = some z)
 (hsize : i.size = size) (hby : i.bytes = bytes) (hzs : z.cells.size = size) (hsz : 0 < size)
 (v : Value) (n : Nat) (xs : List Value) (hs : a.eval s = v) (hown : w.ownsRow base e size v n xs)
 (B : Nat) (A : Option Addr) (m c : Nat) (news : List Value) (hx : a.eval x = .slice A m c) (hr : Reads w B size A m news) (h1 : ∀ u ∈ news, u.oneCell' = true)
 (h63 : n + m ≤ maxLen) (hbytes : (n + m) * bytes ≤ 140737488355328) (hbase : base ≤ w.heap.size)
 (h : ∀ v' w', w'.ownsRow base e size v' (n + m) (xs ++ news) → w.grownBy w' v.ownBlock → (v'.ownBlock = v.ownBlock ∨ v'.ownBlock = some w.heap.size) → K (a.put o.dst v') w') : o.wp P a w K Q := by
 obtain ⟨v', w', hrun, h2, h3, h4⟩ := run_append_any (P := P) w base t o.type e i z size bytes ht hi hz hsize hby hzs hsz v n xs hown B A m c news hr h1 h63 hbytes hbase
 unfold Oper.wp execOp
 simp only [ho, resolve, invoke, builtin, Sem.run_bind, Sem.run_pure, Result.andThen_ok, List.map_toArray, List.map_cons, List.map_nil, hs, hx, hrun]
 exact h v' w' h2 h3 h4
theorem wpList_append_any {ops : Array Oper} {rest : List Oper} {o : Oper} {a : Act} {Q : Exit → Act → World → Prop} (hgd : o.guard = none) (s x : Operand) (t : TypeId)
 (ho : o.op = .call { callee := .builtin .append, args := #[s, x], argTypes := #[t, t] })
 (base : Nat) (e : TypeId) (i : TypeInfo) (z : Value) (size bytes : Nat) (ht : P.underlying t = some (.slice e)) (hi : P.info? e = some i) (hz : i.zero = some z)
 (hsize : i.size = size) (hby : i.bytes = bytes) (hzs : z.cells.size = size) (hsz : 0 < size)
 (v : Value) (n : Nat) (xs : List Value) (hs : a.eval s = v) (hown : w.ownsRow base e size v n xs)
 (B : Nat) (A : Option Addr) (m c : Nat) (news : List Value) (hx : a.eval x = .slice A m c) (hr : Reads w B size A m news) (h1 : ∀ u ∈ news, u.oneCell' = true)
 (h63 : n + m ≤ maxLen) (hbytes : (n + m) * bytes ≤ 140737488355328) (hbase : base ≤ w.heap.size)
 (h : ∀ v' w', w'.ownsRow base e size v' (n + m) (xs ++ news) → w.grownBy w' v.ownBlock → (v'.ownBlock = v.ownBlock ∨ v'.ownBlock = some w.heap.size) → wpList P ops Q rest (a.put o.dst v') w') : wpList P ops Q (o :: rest) a w :=
 wpList_plain hgd fun _ hK => wp_append_any w s x t ho base e i z size bytes ht hi hz hsize hby hzs hsz v n xs hs hown B A m c news hx hr h1 h63 hbytes hbase fun v' w' h2 h3 h4 => hK _ _ (h v' w' h2 h3 h4)
theorem step_append_any {ops : Array Oper} {o : Oper} {a : Act} {K : Act → World → Prop} {Q : Exit → Act → World → Prop} {E : Prop} (hgd : o.guard = none) (s x : Operand) (t : TypeId)
 (ho : o.op = .call { callee := .builtin .append, args := #[s, x], argTypes := #[t, t] })
 (base : Nat) (e : TypeId) (i : TypeInfo) (z : Value) (size bytes : Nat) (ht : P.underlying t = some (.slice e)) (hi : P.info? e = some i) (hz : i.zero = some z)
 (hsize : i.size = size) (hby : i.bytes = bytes) (hzs : z.cells.size = size) (hsz : 0 < size)
 (v : Value) (n : Nat) (xs : List Value) (hs : a.eval s = v) (hown : w.ownsRow base e size v n xs)
 (B : Nat) (A : Option Addr) (m c : Nat) (news : List Value) (hx : a.eval x = .slice A m c) (hr : Reads w B size A m news) (h1 : ∀ u ∈ news, u.oneCell' = true)
 (h63 : n + m ≤ maxLen) (hbytes : (n + m) * bytes ≤ 140737488355328) (hbase : base ≤ w.heap.size)
 (h : ∀ v' w', w'.ownsRow base e size v' (n + m) (xs ++ news) → w.grownBy w' v.ownBlock → (v'.ownBlock = v.ownBlock ∨ v'.ownBlock = some w.heap.size) → K (a.put o.dst v') w') :
 if Region.wanted o (yielded ops a.tmps) = true then Oper.wp P o a w K Q else E := by
 have hw : Region.wanted o (yielded ops a.tmps) = true := by simp [Region.wanted, hgd]
 rw [if_pos hw]
 exact wp_append_any w s x t ho base e i z size bytes ht hi hz hsize hby hzs hsz v n xs hs hown B A m c news hx hr h1 h63 hbytes hbase h
end
theorem Blk.grows {w w' : World} {g : Nat} {t : TypeId} {cs : Array Value} (h : Blk w g t cs) (hg : Grows w w') : Blk w' g t cs := h.below hg h.lt
theorem below_grows {B : Nat} {a w w' : World} (h : Below B a w) (hB : B ≤ a.heap.size) (hg : Grows w w') : Below B a w' := h.trans (hg.mono (Nat.le_trans hB h.size))
theorem Reads.grows {w w' : World} {size n : Nat} {A : Option Addr} {xs : List Value} (h : Reads w w.heap.size size A n xs) (hg : Grows w w') : Reads w' w'.heap.size size A n xs := (h.below hg).more hg.size
theorem blk_new2 (w : World) (o : Obj) (t : TypeId) (cs : Array Value) (_ : Unit := ()) : Blk ((w.alloc o).alloc (.cells cs t)) (w.heap.size + 1) t cs := by
 have := Blk.new (w.alloc o) t cs
 simpa using this
theorem blk_new_at {X : World} {n : Nat} {t : TypeId} {cs : Array Value} (h : X.heap.size = n) : Blk (X.alloc (.cells cs t)) n t cs := h ▸ Blk.new X t cs
theorem ret_int {k : IntKind} {a b : Int} (h : a = b) : Ending.returned (.int k a) = .returned (.int k b) := by rw [h]
theorem ret_bool {a b : Bool} (h : a = b) : Ending.returned (.bool a) = .returned (.bool b) := by rw [h]
end Go.Proofs.Ytobhdldlhhigdaa

namespace Go.Proofs.Ytobhdldlhhigdaa
open Go.ChangeShapes Go.WideShapes Go.ChangeAt Go.RowKit
theorem laid_out : laidOutB Try.prog = true := by kernel_rfl
theorem own_knob : ownKnob Try.prog.godebug = none := by kernel_rfl
section
variable {H : Type} {enc : TypeId × Value → H} {P : Program}
theorem trodAll_keeps (hl : laidOutB P = true) {W W' : World} (hb : Below W.heap.size W W') :
 ∀ (ts : List TypeId) (vs : List Value) (ds : List (DataW H)) (ps : List MemPlace), (∀ t ∈ ts, P.readableRec t = true ∧ t < P.types.size) → (∀ x ∈ ps, x.block < W.heap.size) →
  DataW.TrodAll enc P W 0 (fun _ => true) true ts vs ds ps → DataW.TrodAll enc P W' 0 (fun b => decide (b < W.heap.size)) true ts vs ds ps
 | [], vs, ds, ps, _, _, h => by
  obtain ⟨rfl, rfl, rfl⟩ := trodAll_nil h
  exact trodAll_mk0
 | t :: ts, vs, ds, ps, hr, hlt, h => by
  obtain ⟨v, vs', d, ds', p, q, rfl, rfl, rfl, h1, h2⟩ := trodAll_cons h
  have hlp : ∀ x ∈ p, x.block < W.heap.size := fun x hx => hlt x (by simp [hx])
  have hlq : ∀ x ∈ q, x.block < W.heap.size := fun x hx => hlt x (by simp [hx])
  exact trodAll_cons_mk (Below.trod hl (hr t (by simp)).1 (hr t (by simp)).2 h1 hb hlp) (trodAll_keeps hl hb ts vs' ds' q (fun t' ht' => hr t' (by simp [ht'])) hlq h2)
theorem trodAll_length {W : World} {b : Nat} {sp : Nat → Bool} {hd : Bool} : ∀ (ts : List TypeId) (vs : List Value) (ds : List (DataW H)) (ps : List MemPlace), DataW.TrodAll enc P W b sp hd ts vs ds ps → ds.length = ts.length
 | [], vs, ds, ps, h => by obtain ⟨rfl, rfl, rfl⟩ := trodAll_nil h; rfl
 | t :: ts, vs, ds, ps, h => by
  obtain ⟨v, vs', d, ds', p, q, rfl, rfl, rfl, h1, h2⟩ := trodAll_cons h
  simp [trodAll_length ts vs' ds' q h2]
/-- The row's post of a law that returned true and wrote to no old memory. -/
theorem law_post (hl : laidOutB P = true) {f : Func} {s : ChangeSpec} {W W' : World} {args : Array Value} {ds gs : List (DataW H)} {before : List MemPlace} {tb : TypeId}
 (hW : DataW.Whole enc P f.params.toList s.vars false W args.toList ds gs before) (hr : ∀ t ∈ f.params.toList, P.readableRec t = true ∧ t < P.types.size) (hv : s.vars = [])
 (hres : f.resultTypes = #[tb]) (htb : P.underlying tb = some .bool)
 (hspec : ∀ ds : List (DataW H), ds.length = f.params.toList.length → s.fn H ds = { results := [.lit (.bool true)], args := ds })
 (hb : Below W.heap.size W W') : s.post enc P f false true false false W args (.bool true) W' := by
 have hlt : ∀ p ∈ before, p.block < W.heap.size := fun p hp => hW.lt p hp
 have hW' := hW
 obtain ⟨p, q, hA, hV, rfl, _, _⟩ := hW
 rw [hv] at hV
 obtain ⟨rfl, rfl⟩ := trodVars_none hV
 have hs := hspec ds (trodAll_length _ _ _ _ hA)
 have hs' : s.fn H (ds ++ []) = { results := [.lit (.bool true)], args := ds } := by rw [List.append_nil]; exact hs
 refine ⟨ds, [], p ++ [], [], p, [], hW', ?_, ?_, ?_, ?_, fun h => by cases h⟩
 ·rw [hs', hres]
  exact trodAll_cons_mk (shut_bool htb true) trodAll_mk0
 ·rw [hs']
  exact trodAll_keeps hl hb _ _ _ _ hr (fun x hx => hlt x (by simp [hx])) hA
 ·rw [hs', hv]
  exact rfl
 ·exact hb.frame _
end
end Go.Proofs.Ytobhdldlhhigdaa

namespace Go.Proofs.Ytobhdldlhhigdaa
open Go.RowKit
/-- The slice value at A reads as the ints l. -/
def Ints (w : World) (A : Option Addr) (l : List Int) : Prop := Reads w w.heap.size 1 A l.length (l.map (Value.int .i64))
theorem Ints.grows {w w' : World} {A : Option Addr} {l : List Int} (h : Ints w A l) (hg : Grows w w') : Ints w' A l := Reads.grows h hg
theorem Ints.at_ {w : World} {A : Option Addr} {l : List Int} (h : Ints w A l) {k : Nat} (hk : k < l.length) : ∃ ad x, A = some ad ∧ ad.block < w.heap.size ∧ l[k]? = some x ∧ w.cell? (ad.add k) = some (.int .i64 x) := by
 obtain ⟨ad, u, e, hb, hx, hc⟩ := Reads.at_ h hk
 refine ⟨ad, l[k], e, hb, List.getElem?_eq_getElem hk, ?_⟩
 rw [hc]
 rw [List.getElem?_map, List.getElem?_eq_getElem hk] at hx
 exact hx.symm
theorem take_snoc {α : Type} {l : List α} {k : Nat} {x : α} (h : l[k]? = some x) : l.take (k + 1) = l.take k ++ [x] := by
 obtain ⟨hk, rfl⟩ := List.getElem?_eq_some_iff.1 h
 exact List.take_succ_eq_append_getElem hk
theorem tmod_eq (v n : Int) (hn : 1 ≤ n) : (v.tmod n < 0 → v.tmod n + n = v % n) ∧ (0 ≤ v.tmod n → v.tmod n = v % n) := by
 have h1 : v.tmod n = if 0 ≤ v ∨ n ∣ v then v % n else v % n - n := by
  rw [Int.tmod_eq_emod]
  split <;> simp <;> omega
 have h2 := Int.emod_nonneg v (b := n) (by omega)
 have h3 := Int.emod_lt_of_pos v (b := n) (by omega)
 split at h1 <;> omega
theorem mod_any (v n : Int) (w : World) (hn : 1 ≤ n) (hn2 : n ≤ 9223372036854775807) : Calls Try.prog 11 #[.int .i64 v, .int .i64 n] w fun e w' => e = .returned (.int .i64 (v % n)) ∧ w = w' := by
 have h1 := Int.tmod_lt_of_pos v (show 0 < n by omega)
 have h2 := Int.lt_tmod_of_pos v (show 0 < n by omega)
 have H := tmod_eq v n hn
 obtain ⟨ha, hb⟩ := H
 have Ha := Lib.hid ha
 have Hb := Lib.hid hb
 clear ha hb
 go_enter Try.func11, Try.ntmps11
 go_wp2
 all_goals go_ret
 all_goals refine ⟨ret_int ?_, rfl⟩
 ·exact Ha.out (by assumption)
 ·exact Hb.out (by assumption)
end Go.Proofs.Ytobhdldlhhigdaa

namespace Go.Proofs.Ytobhdldlhhigdaa
open Go.RowKit
theorem Blk.row {w : World} {g : Nat} {t : TypeId} {old cs : Array Value} (h : Blk w g t old) : Blk (w.setRow g cs) g t cs := by
 unfold Blk at *
 simp [World.setRow, Array.getElem?_modify, h]
theorem Blk.row_far {w : World} {g k : Nat} {t : TypeId} {cs cs' : Array Value} (h : Blk w k t cs) (hne : k ≠ g) : Blk (w.setRow g cs') k t cs := by
 unfold Blk at *
 simp [World.setRow, Array.getElem?_modify, h, Ne.symm hne]
theorem below_row {B : Nat} {a w : World} (h : Below B a w) {g : Nat} (hg : B ≤ g) (cs : Array Value) : Below B a (w.setRow g cs) :=
 ⟨h.os, h.tape, h.output, by simpa [World.setRow] using h.size, fun k hk => by
  have hne : ¬ g = k := by omega
  rw [← h.block k hk]
  simp [World.setRow, Array.getElem?_modify, hne]⟩
section
variable {P : Program} {ops : Array Oper} {rest : List Oper} {o : Oper} {a : Act} {w : World} {Q : Exit → Act → World → Prop} {g : Nat} {t ty : TypeId} {cs old : Array Value} {d : TypeDesc}
theorem wpList_load_row (hgd : o.guard = none) (p : Operand) (ho : o.op = .load ty p) (hp : a.eval p = .pointer (some ⟨g, 0, none⟩)) (hb : Blk w g t cs)
 (hu : P.underlying ty = some d) (hd : (match d with | .struct _ | .array _ _ => true | _ => false) = true) (hi : (P.info? ty).map (·.size) = some cs.size)
 (h : wpList P ops Q rest (a.put o.dst (.agg cs)) w) : wpList P ops Q (o :: rest) a w :=
 wpList_plain hgd fun _ hK => by
  have hl := run_loadVar_row (P := P) w g t ty cs (0, 0) d hb hu hd hi
  unfold Oper.wp execOp
  simp only [ho, Instr.loadAt, Instr.sureAddr, Sem.run_bind, Sem.run_pure, Result.andThen_ok, hp, hl]
  exact hK _ _ h
theorem wpList_store_row (hgd : o.guard = none) (p v : Operand) (ho : o.op = .store ty p v) (hdst : o.dst = none) (hp : a.eval p = .pointer (some ⟨g, 0, none⟩)) (hv : a.eval v = .agg cs) (hb : Blk w g t old)
 (hi : (P.info? ty).map (·.size) = some cs.size) (hs : old.size = cs.size) (h1 : cs.all (·.oneCell') = true)
 (h : wpList P ops Q rest a (w.setRow g cs)) : wpList P ops Q (o :: rest) a w :=
 wpList_plain hgd fun _ hK => by
  have hl := run_storeVar_row (P := P) w g t ty old cs hb hi hs h1
  unfold Oper.wp execOp
  simp only [ho, Instr.storeAt, Instr.sureAddr, Sem.run_bind, Sem.run_pure, Result.andThen_ok, hp, hv, hl]
  first
   | exact hK _ _ (by rw [hdst]; exact h)
   | exact hK _ _ h
/-- A struct or an array read from the midst of a block. -/
theorem run_load_part (w : World) (A : Addr) (ty : TypeId) (cs : Array Value) (d : TypeDesc) (hc : ∀ j v, cs[j]? = some v → w.cell? (A.add j) = some v)
 (hu : P.underlying ty = some d) (hd : (match d with | .struct _ | .array _ _ => true | _ => false) = true) (hi : (P.info? ty).map (·.size) = some cs.size) :
 (loadVar ty A).run P w = .ok (.agg cs) w := by
 have hl : (loadCells A cs.toList.length).run P w = .ok cs.toList.toArray w :=
  run_loadCells_list (P := P) w A cs.toList (fun j v hv => hc j v (by simpa using hv))
 cases hq : P.info? ty with
 | none => simp [hq] at hi
 | some i =>
  have hs : i.size = cs.size := by simpa [hq] using hi
  have hagg : (isAgg ty).run P w = .ok true w := by
   unfold isAgg
   rw [Sem.run_bind, run_underlying hu w]
   cases d <;> simp_all
  simp only [Array.length_toList, Array.toArray_toList] at hl
  simp [loadVar, Sem.run_bind, hagg, sizeOf, typeInfo, hq, hs, hl]
theorem wpList_load_part (hgd : o.guard = none) (p : Operand) (ho : o.op = .load ty p) {A : Addr} (hp : a.eval p = .pointer (some A)) (hc : ∀ j v, cs[j]? = some v → w.cell? (A.add j) = some v)
 (hu : P.underlying ty = some d) (hd : (match d with | .struct _ | .array _ _ => true | _ => false) = true) (hi : (P.info? ty).map (·.size) = some cs.size)
 (h : wpList P ops Q rest (a.put o.dst (.agg cs)) w) : wpList P ops Q (o :: rest) a w :=
 wpList_plain hgd fun _ hK => by
  have hl := run_load_part (P := P) w A ty cs d hc hu hd hi
  unfold Oper.wp execOp
  simp only [ho, Instr.loadAt, Instr.sureAddr, Sem.run_bind, Sem.run_pure, Result.andThen_ok, hp, hl]
  exact hK _ _ h
/-- 'a[k]' of an array by value whose elements are numbers. -/
theorem run_index_arr (w : World) {t e : TypeId} {n : Nat} (cs : Array Value) {k : Nat} {kd kk : IntKind} {i : TypeInfo} {v : Value} (h : P.underlying t = some (.array n e)) (he : P.underlying e = some (.int kd)) (hi : P.info? e = some i) (h1 : i.size = 1) (hk : k < n) (hx : cs[k]? = some v) :
 (Instr.index t (.agg cs) (.int kk k)).run P w = .ok v w := by
 have hagg : (isAgg e).run P w = .ok false w := by
  unfold isAgg
  rw [Sem.run_bind, run_underlying he w]
  simp
 have hc : 0 ≤ (k : Int) ∧ (k : Int) < n := by omega
 simp [Instr.index, run_underlying h, asIntOf, hk, hc, part, sizeOf, typeInfo, hi, h1, hagg, hx]
/-- .. under a guard that says yes. -/
theorem wpList_load_rowg (hgd : Region.wanted o (yielded ops a.tmps) = true) (p : Operand) (ho : o.op = .load ty p) (hp : a.eval p = .pointer (some ⟨g, 0, none⟩)) (hb : Blk w g t cs)
 (hu : P.underlying ty = some d) (hd : (match d with | .struct _ | .array _ _ => true | _ => false) = true) (hi : (P.info? ty).map (·.size) = some cs.size)
 (h : wpList P ops Q rest (a.put o.dst (.agg cs)) w) : wpList P ops Q (o :: rest) a w :=
 BigFrame.wpList_want hgd fun _ hK => by
  have hl := run_loadVar_row (P := P) w g t ty cs (0, 0) d hb hu hd hi
  unfold Oper.wp execOp
  simp only [ho, Instr.loadAt, Instr.sureAddr, Sem.run_bind, Sem.run_pure, Result.andThen_ok, hp, hl]
  exact hK _ _ h
end
end Go.Proofs.Ytobhdldlhhigdaa

namespace Go.Proofs.Ytobhdldlhhigdaa
open Go.RowKit
/-- The op gives the value v and leads into a world with T. -/
def stepR (P : Program) (T : World → Prop) : Result Next → Value → Prop
 | .ok (.value u) w', v => u = v ∧ T w'
 | .ok .skip w', v => v = undef ∧ T w'
 | .ok (.enter f args) w', v => Calls P f args w' fun e w'' => e = .returned v ∧ T w''
 | _, _ => False
def StepAt (P : Program) (ops : Array Oper) (S T : World → Prop) (o : Oper) (v : Value) (a : Act) : Prop :=
 (Region.wanted o (yielded ops a.tmps) = true ∧ ∀ w, S w → stepR P T ((execOp a.eval o).run P w) v) ∨ (Region.wanted o (yielded ops a.tmps) = false ∧ v = undef ∧ ∀ w, S w → T w)
def stIx : List Nat → Nat → Option Nat
 | [], _ => none
 | x :: r, k => if x = k then some 0 else (stIx r k).map (· + 1)
theorem stIx_some : ∀ {r : List Nat} {k j : Nat}, stIx r k = some j → r[j]? = some k
 | [], _, _, h => by cases h
 | x :: r, k, j, h => by
  unfold stIx at h
  split at h
  ·injection h with h; subst h; simp; assumption
  ·obtain ⟨i, hi, rfl⟩ := Option.map_eq_some_iff.1 h
   simpa using stIx_some hi
theorem stIx_none : ∀ {r : List Nat} {k : Nat}, stIx r k = none → k ∉ r
 | [], _, _ => by simp
 | x :: r, k, h => by
  unfold stIx at h
  split at h
  ·cases h
  ·rename_i hne
   have := stIx_none (r := r) (k := k) (by simpa using h)
   simp only [List.mem_cons, not_or]
   exact ⟨fun e => hne e.symm, this⟩
section
variable {P : Program} {ops : Array Oper} {S : Nat → World → Prop} {md : Region.Mode}
def stHi (md : Region.Mode) (ops : Array Oper) : List Nat → Nat → Nat
 | [], _ => 0
 | s :: r, i => if Region.waitsFor md ops s i then 0 else stHi md ops r i + 1
def StAt (P : Program) (md : Region.Mode) (ops : Array Oper) (S : Nat → World → Prop) (sts : List Nat) (k : Nat) (o : Oper) (v : Value) (a : Act) : Prop :=
 match stIx sts k with
 | some j => StepAt P ops (S j) (S (j + 1)) o v a
 | none => CalmAt P ops (fun w => ∃ p, p ≤ stHi md ops sts k ∧ S p w) o v a
def wpSt (P : Program) (md : Region.Mode) (ops : Array Oper) (S : Nat → World → Prop) (sts : List Nat) (L : Act → Prop) : List Oper → Nat → Act → Prop
 | [], _, a => L a
 | o :: l, k, a => ∃ v, StAt P md ops S sts k o v a ∧ wpSt P md ops S sts L l (k + 1) (a.put o.dst v)
def GoodS (P : Program) (md : Region.Mode) (ops : Array Oper) (S : Nat → World → Prop) (sts : List Nat) (val : Nat → Value) : List Oper → Nat → Act → Prop
 | [], _, _ => True
 | o :: l, k, a => StAt P md ops S sts k o (val k) a ∧ GoodS P md ops S sts val l (k + 1) (a.put o.dst (val k))
theorem GoodS_congr {sts : List Nat} {val val' : Nat → Value} : ∀ (l : List Oper) (k : Nat) (a : Act), (∀ j, k ≤ j → val j = val' j) → GoodS P md ops S sts val l k a → GoodS P md ops S sts val' l k a
 | [], _, _, _, _ => trivial
 | o :: l, k, a, h, hg => by
  simp only [GoodS, h k (Nat.le_refl _)] at hg ⊢
  exact ⟨hg.1, GoodS_congr l (k + 1) _ (fun j hj => h j (by omega)) hg.2⟩
theorem good_of_wpSt {sts : List Nat} {L : Act → Prop} : ∀ (l : List Oper) (k : Nat) (a : Act), wpSt P md ops S sts L l k a → ∃ val, GoodS P md ops S sts val l k a ∧ L (fin [] val l k a)
 | [], _, a, h => ⟨fun _ => undef, trivial, h⟩
 | o :: l, k, a, h => by
  obtain ⟨v, hc, h2⟩ := h
  obtain ⟨val, hg, hL⟩ := good_of_wpSt l (k + 1) (a.put o.dst v) h2
  have hcg : ∀ j, k + 1 ≤ j → val j = (fun i => if i = k then v else val i) j := fun j hj => by simp only []; rw [if_neg (by omega)]
  refine ⟨fun i => if i = k then v else val i, ?_, ?_⟩
  ·simp only [GoodS, if_true]
   exact ⟨hc, GoodS_congr l (k + 1) _ hcg hg⟩
  ·simp only [fin, stepAct, Floats.at, List.lookup_nil, if_true]
   rw [← fin_congr l (k + 1) _ hcg]
   exact hL
theorem goodS_at {sts : List Nat} {val : Nat → Value} : ∀ (l : List Oper) (k : Nat) (a : Act) (j : Nat) (o : Oper), GoodS P md ops S sts val l k a → l[j]? = some o → StAt P md ops S sts (k + j) o (val (k + j)) (fin [] val (l.take j) k a)
 | [], _, _, _, _, _, hj => by simp at hj
 | _ :: l, k, _, 0, o, hg, hj => by
  simp only [List.getElem?_cons_zero, Option.some.injEq] at hj
  subst hj
  simpa [GoodS, fin] using hg.1
 | o' :: l, k, a, j + 1, o, hg, hj => by
  have := goodS_at l (k + 1) _ j o hg.2 (by simpa using hj)
  rw [show k + 1 + j = k + (j + 1) by omega] at this
  simpa [fin, stepAct, Floats.at] using this
theorem stHi_le : ∀ {sts : List Nat} {i p : Nat}, p ≤ sts.length → (∀ j s, sts[j]? = some s → j < p → Region.waitsFor md ops s i = false) → p ≤ stHi md ops sts i
 | [], _, _, h, _ => by simpa [stHi] using h
 | s :: r, i, 0, _, _ => Nat.zero_le _
 | s :: r, i, p + 1, h, hh => by
  have h0 := hh 0 s rfl (by omega)
  unfold stHi
  rw [h0]
  simp only [Bool.false_eq_true, if_false]
  have := stHi_le (sts := r) (i := i) (p := p) (by simpa using h) fun j s' hj hlt => hh (j + 1) s' (by simpa using hj) (by omega)
  omega
theorem StAt.agree {sts : List Nat} {k : Nat} {o : Oper} (hs : ∀ cs b, o.op ≠ .select cs b) {v : Value} {a a' : Act} (h : ∀ t ∈ o.looksAt ops, a.tmps[t]? = a'.tmps[t]?) (hc : StAt P md ops S sts k o v a) : StAt P md ops S sts k o v a' := by
 unfold StAt StepAt CalmAt at *
 rw [← run_agree (ops := ops) hs h, ← wanted_agree h]
 exact hc
def stepB (md : Region.Mode) (ops : Array Oper) (n N : Nat) (sts : List Nat) : Bool :=
 mixB md ops n N [] && decide sts.Nodup && sts.all (fun s => decide (s < n)) && (List.range (sts.length - 1)).all (fun j => Region.waitsFor md ops (sts.getD (j + 1) 0) (sts.getD j 0))
structure InvS (S : Nat → World → Prop) (ops : Array Oper) (n : Nat) (sts : List Nat) (val : Nat → Value) (a0 : Act) (listed : Array Bool) (a : Act) (w : World) : Prop where
 s : ∃ p, p ≤ sts.length ∧ S p w ∧ ∀ j i, sts[j]? = some i → (listed.getD i false = true ↔ j < p)
 defers : a.defers = a0.defers
 size : a.tmps.size = a0.tmps.size
 calm : ∀ k o t, k < n → ops[k]? = some o → o.dst = some t → listed.getD k false = true → a.tmps[t]? = some (val k)
 other : ∀ t, (∀ k o, k < n → ops[k]? = some o → listed.getD k false = true → o.dst ≠ some t) → a.tmps[t]? = a0.tmps[t]?
theorem stepAt_wpOp {Q : Exit → Act → World → Prop} {S T : World → Prop} {i : Nat} {o : Oper} {v : Value} {a : Act} {w : World} {K : Act → World → Prop} (hi : ops[i]? = some o) (hc : StepAt P ops S T o v a) (hw : S w)
 (hK : ∀ w', T w' → K (a.put o.dst v) w') : wpOp P ops Q i K a w := by
 unfold wpOp
 simp only [hi]
 rcases hc with ⟨hwt, hr⟩ | ⟨hwt, rfl, ht⟩
 ·simp only [hwt, if_true]
  refine .inl ?_
  have := hr w hw
  unfold Oper.wp
  generalize (execOp a.eval o).run P w = r at *
  cases r with
  | ok n w' =>
   cases n <;> simp only [stepR] at this <;> simp only [Oper.upon]
   case value u => obtain ⟨rfl, hg⟩ := this; exact hK _ hg
   case skip => obtain ⟨rfl, hg⟩ := this; exact hK _ hg
   case enter f args => exact this.mono fun e w'' ⟨he, hg⟩ => by subst he; exact hK _ hg
  | halt x w' => simp only [stepR] at this
 ·simp only [hwt, Bool.false_eq_true, if_false]
  exact hK _ (ht w hw)
section
variable {n N : Nat} {sts : List Nat} {val : Nat → Value} {a0 : Act}
theorem op_stepS (ok : MixOk md ops n N []) (hN : a0.tmps.size = N) (good : GoodS P md ops S sts val (ops.toList.take n) 0 a0)
 {listed : Array Bool} {a : Act} {w : World} (inv : InvS S ops n sts val a0 listed a w) {i : Nat} {o : Oper} (hi : i < n) (ho : ops[i]? = some o) (hr : i ∈ Region.ready md ops listed) : StAt P md ops S sts i o (val i) a := by
 have hg := goodS_at (ops.toList.take n) 0 a0 i o good (take_get hi ho)
 rw [Nat.zero_add] at hg
 rw [List.take_take, Nat.min_eq_left (by omega)] at hg
 have hs : ∀ cs b, o.op ≠ .select cs b := fun cs b => Region.noSelect_spec ok.sel i o cs b ho
 have agree : ∀ t ∈ o.looksAt ops, (fin [] val (ops.toList.take i) 0 a0).tmps[t]? = a.tmps[t]? := by
  intro t ht
  by_cases hex : ∃ k o', k < n ∧ ops[k]? = some o' ∧ o'.dst = some t
  ·obtain ⟨k, o', hk, ho', hd⟩ := hex
   obtain ⟨h1, _, h3⟩ := ok.look i o k o' t hi hk ho ho' hd ht
   have hlisted : listed.getD k false = true := by
    obtain ⟨oj, hoj, e, he, hb, hon⟩ := Region.waitsFor_spec h3
    obtain ⟨_, oi, hoi, hall⟩ := mem_ready.1 hr
    have : oj = oi := Option.some.inj (hoj.symm.trans hoi)
    subst this
    have := hall e he hb
    rwa [hon] at this
   have e1 := inv.calm k o' t hk ho' hd hlisted
   have hlt : t < a0.tmps.size := by rw [hN]; exact ok.bd k o' t hk ho' hd
   have e2 := fin_at (fl := []) (val := val) (ops.toList.take i) 0 a0 k o' (take_get h1 ho') hd rfl hlt (by
    intro j oj hj hne hdj
    obtain ⟨hji, hoj⟩ := of_take_get hj
    exact ok.ne j oj k o' t (by omega) hk hoj ho' (Ne.symm hne) hdj hd)
   rw [Nat.zero_add] at e2
   rw [e1, e2]
  ·have e1 := inv.other t fun k o' hk ho' _ hd => hex ⟨k, o', hk, ho', hd⟩
   have e2 := fin_other (fl := []) (val := val) (t := t) (ops.toList.take i) 0 a0 fun j oj hj _ hd => by
    obtain ⟨hji, hoj⟩ := of_take_get hj
    exact hex ⟨j, oj, by omega, hoj, hd⟩
   rw [e1, e2]
 exact hg.agree hs agree
theorem inv_stepS (ok : MixOk md ops n N []) (hN : a0.tmps.size = N) {listed : Array Bool} {a : Act} {w w' : World} (inv : InvS S ops n sts val a0 listed a w) {i : Nat} {o : Oper} (hi : i < n) (ho : ops[i]? = some o) (hl : i < listed.size)
 (hs : ∃ p, p ≤ sts.length ∧ S p w' ∧ ∀ j i', sts[j]? = some i' → ((listed.setIfInBounds i true).getD i' false = true ↔ j < p)) : InvS S ops n sts val a0 (listed.setIfInBounds i true) (a.put o.dst (val i)) w' := by
 have key : ∀ k o' t, k < n → ops[k]? = some o' → o'.dst = some t → k ≠ i → (a.put o.dst (val i)).tmps[t]? = a.tmps[t]? := by
  intro k o' t hk ho' hd hne
  exact put_get_ne fun e => ok.ne i o k o' t hi hk ho ho' hne e hd
 refine ⟨hs, (put_defers' _ _ _).trans inv.defers, (put_size _ _ _).trans inv.size, ?_, ?_⟩
 ·intro k o' t hk ho' hd hlk
  by_cases hki : k = i
  ·subst hki
   have : o' = o := Option.some.inj (ho'.symm.trans ho)
   subst this
   rw [hd, put_get_eq (by rw [inv.size, hN]; exact ok.bd k o' t hk ho' hd)]
  ·rw [key k o' t hk ho' hd hki]
   exact inv.calm k o' t hk ho' hd (by rwa [getD_set_ne false (Ne.symm hki)] at hlk)
 ·intro t ht
  have h1 : o.dst ≠ some t := ht i o hi ho (by simp [hl])
  rw [put_get_ne h1]
  exact inv.other t fun k o' hk ho' hlk => ht k o' hk ho' (getD_set_true hlk)
structure StepOk (md : Region.Mode) (ops : Array Oper) (n : Nat) (sts : List Nat) : Prop where
 nd : sts.Nodup
 lt : ∀ s ∈ sts, s < n
 chain : ∀ j i k, sts[j]? = some i → sts[j + 1]? = some k → Region.waitsFor md ops k i = true
theorem stepOk_of (h : stepB md ops n N sts = true) : MixOk md ops n N [] ∧ StepOk md ops n sts := by
 simp only [stepB, Bool.and_eq_true, decide_eq_true_eq, List.all_eq_true, List.mem_range] at h
 obtain ⟨⟨⟨h1, h2⟩, h3⟩, h4⟩ := h
 refine ⟨mixOk_of h1, h2, h3, fun j i k hi hk => ?_⟩
 have hj : j + 1 < sts.length := (List.getElem?_eq_some_iff.1 hk).1
 have := h4 j (by omega)
 simpa [List.getD_eq_getElem?_getD, hi, hk] using this
theorem head_runS {Q : Exit → Act → World → Prop} (ok : MixOk md ops n N []) (sk : StepOk md ops n sts) (hN : a0.tmps.size = N) (hS : ∀ p w w', S p w → Grows w w' → S p w')
 (good : GoodS P md ops S sts val (ops.toList.take n) 0 a0) (g : Nat)
 (H : ∀ listed a w, HeadInv md ops n listed → (∀ i, i < n → listed.getD i false = true) → InvS S ops n sts val a0 listed a w → wpAny P md ops Q g listed a w) :
 ∀ (f : Nat) (listed : Array Bool) (a : Act) (w : World), ((List.range n).countP fun i => !listed.getD i false) ≤ f → HeadInv md ops n listed → InvS S ops n sts val a0 listed a w →
  wpAny P md ops Q (f + g) listed a w := by
 intro f
 induction f with
 | zero =>
  intro listed a w hc hinv inv
  rw [Nat.zero_add]
  refine H listed a w hinv (fun i hi => ?_) inv
  have h0 : ((List.range n).countP fun i => !listed.getD i false) = 0 := by omega
  rw [List.countP_eq_zero] at h0
  have := h0 i (List.mem_range.2 hi)
  simpa using this
 | succ f ih =>
  intro listed a w hc hinv inv
  by_cases hall : ∀ i, i < n → listed.getD i false = true
  ·exact wpAny_fuel g listed a w (H listed a w hinv hall inv) (f + 1)
  ·have hex : ∃ i, i < n ∧ listed.getD i false = false := by
    apply Classical.byContradiction
    intro hno
    exact hall fun i hi => by
     cases h : listed.getD i false
     ·exact absurd ⟨i, hi, h⟩ hno
     ·rfl
   obtain ⟨i0, hi0, hl0⟩ := hex
   have hsz : ∀ i, i < n → i < listed.size := fun i hi => by rw [hinv.size]; have := ok.le; omega
   have hready : Region.ready md ops listed ≠ [] := by
    have : ∀ d i, i ≤ d → i < n → listed.getD i false = false → ∃ j, j ∈ Region.ready md ops listed := by
     intro d
     induction d with
     | zero =>
      intro i hid hi hl
      obtain ⟨o, ho⟩ : ∃ o, ops[i]? = some o := ⟨ops[i]'(by have := ok.le; omega), by simp [show i < ops.size by have := ok.le; omega]⟩
      refine ⟨i, mem_ready.2 ⟨getD_in (hsz i hi) hl, o, ho, fun e he hb => ?_⟩⟩
      have := ok.back i o hi ho e he hb
      omega
     | succ d ihd =>
      intro i hid hi hl
      obtain ⟨o, ho⟩ : ∃ o, ops[i]? = some o := ⟨ops[i]'(by have := ok.le; omega), by simp [show i < ops.size by have := ok.le; omega]⟩
      by_cases hw : ∀ e ∈ o.after, Region.binds md e = true → listed.getD e.on false = true
      ·exact ⟨i, mem_ready.2 ⟨getD_in (hsz i hi) hl, o, ho, hw⟩⟩
      ·have : ∃ e ∈ o.after, Region.binds md e = true ∧ listed.getD e.on false = false := by
        apply Classical.byContradiction
        intro hno
        exact hw fun e he hb => by
         cases h : listed.getD e.on false
         ·exact absurd ⟨e, he, hb, h⟩ hno
         ·rfl
       obtain ⟨e, he, hb, hle⟩ := this
       have hlt := ok.back i o hi ho e he hb
       exact ihd e.on (by omega) (by omega) hle
    obtain ⟨j, hj⟩ := this i0 i0 (Nat.le_refl _) hi0 hl0
    intro h0
    rw [h0] at hj
    cases hj
   rw [show f + 1 + g = (f + g) + 1 by omega]
   refine ⟨fun h0 => absurd h0 hready, fun i hir => ?_⟩
   have hin : i < n := by
    rcases Nat.lt_or_ge i n with h | h
    ·exact h
    ·exfalso
     obtain ⟨_, oi, hoi, _⟩ := mem_ready.1 hir
     have hlt : i < ops.size := (Array.getElem?_eq_some_iff.1 hoi).1
     rcases ok.tail with ht | ⟨ht, hs, hch⟩
     ·omega
     ·exact tail_waits hs hch ht hinv _ i0 rfl hi0 (getD_in (hsz i0 hi0) hl0) i h hir
   obtain ⟨hun, o, ho, hwaits⟩ := mem_ready.1 hir
   have hst := op_stepS ok hN good inv hin ho hir
   have hunf : listed.getD i false = false := getD_both hun
   have hcnt : ((List.range n).countP fun j => !(listed.setIfInBounds i true).getD j false) ≤ f := by
    have := countP_lt (p := fun j => !listed.getD j false) (q := fun j => !(listed.setIfInBounds i true).getD j false) (List.range n) (List.mem_range.2 hin)
     (fun j _ hj => by
       simp only [Bool.not_eq_true'] at hj ⊢
       cases h : listed.getD j false
       ·rfl
       ·rw [getD_set_true h] at hj; cases hj) (by simp only [hunf, Bool.not_false]) (by simp [hsz i hin])
    omega
   have hinv' := hinv.set hir hin
   obtain ⟨p, hp, hsp, hpl⟩ := inv.s
   cases hf : stIx sts i with
   | some j =>
    have hj := stIx_some hf
    simp only [StAt, hf] at hst
    have hpj : p = j := by
     have h1 : ¬ j < p := fun h => by
      have := (hpl j i hj).2 h
      rw [hunf] at this
      cases this
     have h2 : j ≤ p := by
      rcases Nat.eq_zero_or_pos j with h0 | h0
      ·omega
      ·have hjl := (List.getElem?_eq_some_iff.1 hj).1
       have hk : sts[j - 1]? = some (sts[j - 1]'(by omega)) := List.getElem?_eq_getElem (by omega)
       have hwf := sk.chain (j - 1) _ i hk (by rw [Nat.sub_add_cancel h0]; exact hj)
       obtain ⟨oj, hoj, e, he, hb, hon⟩ := Region.waitsFor_spec hwf
       have : oj = o := Option.some.inj (hoj.symm.trans ho)
       subst this
       have hh := hwaits e he hb
       rw [hon] at hh
       have := (hpl (j - 1) _ hk).1 hh
       omega
     omega
    subst hpj
    refine stepAt_wpOp ho hst hsp fun w' hw' => ih _ _ _ hcnt hinv' (inv_stepS ok hN inv hin ho (hsz i hin) ⟨p + 1, (List.getElem?_eq_some_iff.1 hj).1, hw', fun k i' hk => ?_⟩)
    by_cases hkp : k = p
    ·subst hkp
     have : i' = i := Option.some.inj (hk.symm.trans hj)
     subst this
     simp [hsz i' hin]
    ·have hne : i ≠ i' := by
      rintro rfl
      have hk1 := (List.getElem?_eq_some_iff.1 hk).1
      exact hkp ((List.getElem?_inj hk1 sk.nd).1 (hk.trans hj.symm))
     rw [getD_set_ne false hne, hpl k i' hk]
     omega
   | none =>
    have hni := stIx_none hf
    simp only [StAt, hf] at hst
    have hhi : p ≤ stHi md ops sts i := stHi_le hp fun j s hj hlt => by
     cases hwf : Region.waitsFor md ops s i
     ·rfl
     ·exfalso
      obtain ⟨oj, hoj, e, he, hb, hon⟩ := Region.waitsFor_spec hwf
      have h1 := (hpl j s hj).2 hlt
      have h2 := hinv.closed s oj hoj h1 e he hb
      rw [hon, hunf] at h2
      cases h2
    refine calm_wpOp ho hst ⟨p, hhi, hsp⟩ fun w' hg => ih _ _ _ hcnt hinv' (inv_stepS ok hN inv hin ho (hsz i hin) ⟨p, hp, hS p _ _ hsp hg, fun k i' hk => ?_⟩)
    have hne : i ≠ i' := by
     rintro rfl
     exact hni (List.mem_of_getElem? hk)
    rw [getD_set_ne false hne, hpl k i' hk]
end
theorem wp_region_step {id : Nat} {Q : Exit → Act → World → Prop} {a : Act} {w : World} {l : List Oper} (S : Nat → World → Prop) (sts : List Nat) (n N : Nat) (hm : P.follows .mixedOrders = true) (hB : stepB .any l.toArray n N sts = true)
 (hN : a.tmps.size = N) (hS : ∀ p w w', S p w → Grows w w' → S p w') (h0 : S 0 w.drew)
 (h : wpSt P .any l.toArray S sts (fun a' => ∀ w', S sts.length w' → wpList P l.toArray Q (l.drop n) a' w') (l.take n) 0 a) : (Code.region id l.toArray true).wp P Q a w := by
 obtain ⟨ok, sk⟩ := stepOk_of hB
 have hle : n ≤ l.length := by simpa using ok.le
 obtain ⟨val, good, hL⟩ := good_of_wpSt (l.take n) 0 a h
 refine wp_region_any hm ?_
 have inv0 : HeadInv .any l.toArray n (Array.replicate l.toArray.size false) :=
  ⟨by simp, fun j oj _ hl => (by rw [getD_replicate_false] at hl; cases hl), fun t _ ht => getD_in (by simpa using ht) (getD_replicate_false _ _)⟩
 have key := head_runS (md := .any) (Q := Q) (ops := l.toArray) (S := S) (sts := sts) (val := val) (a0 := a) ok sk hN hS (by simpa using good) (l.length - n) (by
  intro listed b w' hinv hall inv
  refine (show l.length - n = (l.drop n).length by simp) ▸ wpAny_of_seq (l.drop n) n listed b w' (fun j => by simp [List.getElem?_drop]) ?_ ?_
  ·have hls : listed = (Array.replicate n true) ++ (Array.replicate (l.length - n) false) := by
    refine Array.ext (by simp [hinv.size]; omega) fun i h1 h2 => ?_
    have hsz : i < l.length := by have := hinv.size; simp at this; omega
    by_cases hin : i < n
    ·have := hall i hin
     rw [Array.getElem_append_left (by simpa using hin)]
     simpa [h1] using this
    ·have := hinv.tail i (by omega) (by simpa using hsz)
     rw [Array.getElem_append_right (by simp; omega)]
     simpa [h1] using this
   have := ok.seq
   rw [hls]
   simpa using this
  ·obtain ⟨p, hp, hsp, hpl⟩ := inv.s
   have hpe : p = sts.length := by
    rcases Nat.lt_or_ge p sts.length with hlt | hge
    ·have hk : sts[p]? = some (sts[p]'hlt) := List.getElem?_eq_getElem hlt
     have := (hpl p _ hk).1 (hall _ (sk.lt _ (List.getElem_mem hlt)))
     omega
    ·omega
   subst hpe
   have hb : b = fin [] val (l.take n) 0 a := by
    have e1 : b.defers = (fin [] val (l.take n) 0 a).defers := inv.defers.trans (fin_defers _ _ _).symm
    have e2 : b.tmps = (fin [] val (l.take n) 0 a).tmps := by
     refine Array.ext_getElem? fun t => ?_
     by_cases hex : ∃ k o', k < n ∧ l.toArray[k]? = some o' ∧ o'.dst = some t
     ·obtain ⟨k, o', hk, ho', hd⟩ := hex
      have e1 := inv.calm k o' t hk ho' hd (hall k hk)
      have e2 := fin_at (fl := []) (val := val) (l.take n) 0 a k o' (by have := take_get (ops := l.toArray) hk ho'; simpa using this) hd rfl
       (by rw [hN]; exact ok.bd k o' t hk ho' hd) (by
         intro j oj hj hne hdj
         obtain ⟨hji, hoj⟩ := of_take_get (ops := l.toArray) (by simpa using hj)
         exact ok.ne j oj k o' t hji hk hoj ho' (Ne.symm hne) hdj hd)
      rw [Nat.zero_add] at e2
      rw [e1, e2]
     ·have e1 := inv.other t fun k o' hk ho' _ hd => hex ⟨k, o', hk, ho', hd⟩
      have e2 := fin_other (fl := []) (val := val) (t := t) (l.take n) 0 a fun j oj hj _ hd => by
       obtain ⟨hji, hoj⟩ := of_take_get (ops := l.toArray) (by simpa using hj)
       exact hex ⟨j, oj, by omega, hoj, hd⟩
      rw [e1, e2]
    obtain ⟨bt, bd⟩ := b
    generalize fin [] val (l.take n) 0 a = z at *
    obtain ⟨zt, zd⟩ := z
    simp only at e1 e2
    rw [e1, e2]
   rw [hb]
   exact hL w' hsp) n (Array.replicate l.toArray.size false) a w.drew (by
   have := List.countP_le_length (p := fun i => !(Array.replicate l.toArray.size false).getD i false) (l := List.range n)
   simpa using this) inv0 ⟨⟨0, Nat.zero_le _, h0, fun j i _ => ⟨fun h => (by rw [getD_replicate_false] at h; cases h), fun h => absurd h (Nat.not_lt_zero _)⟩⟩, rfl, rfl, fun k o t _ _ _ hl => (by rw [getD_replicate_false] at hl; cases hl), fun t _ => rfl⟩
 rw [show n + (l.length - n) = l.toArray.size by simp; omega] at key
 exact key
section
variable {sts : List Nat} {L : Act → Prop} {o : Oper} {l : List Oper} {k : Nat} {a a' : Act} {v : Value}
theorem st_plain (hf : stIx sts k = none) (hg : o.guard = none) (hc : ∀ w, (∃ p, S p w) → calmR P w ((execOp a.eval o).run P w) v) (ha : a.put o.dst v = a') (h : wpSt P md ops S sts L l (k + 1) a') : wpSt P md ops S sts L (o :: l) k a := by
 subst ha
 exact ⟨v, by simp only [StAt, hf]; exact .inl ⟨by simp [Region.wanted, hg], fun w ⟨p, _, h⟩ => hc w ⟨p, h⟩⟩, h⟩
theorem st_yes (hf : stIx sts k = none) (hw : Region.wanted o (yielded ops a.tmps) = true) (hc : ∀ w, (∃ p, S p w) → calmR P w ((execOp a.eval o).run P w) v) (ha : a.put o.dst v = a') (h : wpSt P md ops S sts L l (k + 1) a') : wpSt P md ops S sts L (o :: l) k a := by
 subst ha
 exact ⟨v, by simp only [StAt, hf]; exact .inl ⟨hw, fun w ⟨p, _, h⟩ => hc w ⟨p, h⟩⟩, h⟩
/-- An operation that some step waits for: it sees the states up to that step only. -/
theorem st_upto {j : Nat} (hj : stHi md ops sts k = j) (hf : stIx sts k = none) (hg : o.guard = none) (hc : ∀ w, (∃ p, p ≤ j ∧ S p w) → calmR P w ((execOp a.eval o).run P w) v) (ha : a.put o.dst v = a') (h : wpSt P md ops S sts L l (k + 1) a') : wpSt P md ops S sts L (o :: l) k a := by
 subst ha
 exact ⟨v, by simp only [StAt, hf, hj]; exact .inl ⟨by simp [Region.wanted, hg], hc⟩, h⟩
theorem st_upto_yes {j : Nat} (hj : stHi md ops sts k = j) (hf : stIx sts k = none) (hw : Region.wanted o (yielded ops a.tmps) = true) (hc : ∀ w, (∃ p, p ≤ j ∧ S p w) → calmR P w ((execOp a.eval o).run P w) v) (ha : a.put o.dst v = a') (h : wpSt P md ops S sts L l (k + 1) a') : wpSt P md ops S sts L (o :: l) k a := by
 subst ha
 exact ⟨v, by simp only [StAt, hf, hj]; exact .inl ⟨hw, hc⟩, h⟩
theorem st_no (hf : stIx sts k = none) (hw : Region.wanted o (yielded ops a.tmps) = false) (ha : a.put o.dst undef = a') (h : wpSt P md ops S sts L l (k + 1) a') : wpSt P md ops S sts L (o :: l) k a := by
 subst ha
 exact ⟨undef, by simp only [StAt, hf]; exact .inr ⟨hw, rfl⟩, h⟩
theorem st_step {j : Nat} (hf : stIx sts k = some j) (hg : o.guard = none) (hc : ∀ w, S j w → stepR P (S (j + 1)) ((execOp a.eval o).run P w) v) (ha : a.put o.dst v = a') (h : wpSt P md ops S sts L l (k + 1) a') : wpSt P md ops S sts L (o :: l) k a := by
 subst ha
 exact ⟨v, by simp only [StAt, hf]; exact .inl ⟨by simp [Region.wanted, hg], hc⟩, h⟩
theorem st_step_yes {j : Nat} (hf : stIx sts k = some j) (hw : Region.wanted o (yielded ops a.tmps) = true) (hc : ∀ w, S j w → stepR P (S (j + 1)) ((execOp a.eval o).run P w) v) (ha : a.put o.dst v = a') (h : wpSt P md ops S sts L l (k + 1) a') : wpSt P md ops S sts L (o :: l) k a := by
 subst ha
 exact ⟨v, by simp only [StAt, hf]; exact .inl ⟨hw, hc⟩, h⟩
theorem st_step_no {j : Nat} (hf : stIx sts k = some j) (hw : Region.wanted o (yielded ops a.tmps) = false) (hc : ∀ w, S j w → S (j + 1) w) (ha : a.put o.dst undef = a') (h : wpSt P md ops S sts L l (k + 1) a') : wpSt P md ops S sts L (o :: l) k a := by
 subst ha
 exact ⟨undef, by simp only [StAt, hf]; exact .inr ⟨hw, rfl, hc⟩, h⟩
theorem st_done (h : L a) : wpSt P md ops S sts L [] k a := h
theorem step_skip {T : World → Prop} {w : World} (h : T w) : stepR P T (.ok .skip w) undef := ⟨rfl, h⟩
theorem step_val {T : World → Prop} {w : World} {u : Value} (h : T w) : stepR P T (.ok (.value u) w) u := ⟨rfl, h⟩
theorem step_call {T : World → Prop} {w : World} {u : Value} {f : FuncId} {args : Array Value} (h : Calls P f args w fun e w' => e = .returned u ∧ T w') : stepR P T (.ok (.enter f args) w) u := h
end
end
end Go.Proofs.Ytobhdldlhhigdaa

namespace Go.Proofs.Ytobhdldlhhigdaa
open Go.RowKit
abbrev Ran := Nat → Bool
def upd (L : Ran) (i : Nat) : Ran := fun k => if k = i then true else L k
/-- The operations that operation i waits for, directly and through others. -/
def needs (md : Region.Mode) (ops : Array Oper) : Nat → Nat → List Nat
 | 0, _ => []
 | n + 1, i => match ops[i]? with
  | none => []
  | some o => (o.after.toList.filter (fun e => Region.binds md e)).flatMap fun e => e.on :: needs md ops n e.on
/-- Where an operation of the region may run: it has not run yet, and all that it waits for has. -/
def At (md : Region.Mode) (ops : Array Oper) (i : Nat) (L : Ran) : Prop := L i = false ∧ ∀ k ∈ needs md ops 4 i, L k = true
theorem At.need {md : Region.Mode} {ops : Array Oper} {i : Nat} {L : Ran} (h : At md ops i L) (k : Nat) (hk : (needs md ops 4 i).contains k = true) : L k = true := h.2 k (by simpa using hk)
/-- The op gives some value with D, and leads into a world with T. -/
def someR (D : Value → World → Prop) (T : World → Prop) : Result Next → Prop
 | .ok (.value u) w' => D u w' ∧ T w'
 | _ => False
section
variable {P : Program} {ops : Array Oper} {S : Ran → World → Prop} {R : World → World → Prop} {md : Region.Mode}
def CalmF (P : Program) (md : Region.Mode) (ops : Array Oper) (S : Ran → World → Prop) (R : World → World → Prop) (i : Nat) (o : Oper) (v : Value) (a : Act) : Prop :=
 (Region.wanted o (yielded ops a.tmps) = true ∧ ∀ L w, At md ops i L → S L w → stepR P (fun w' => S (upd L i) w' ∧ R w w') ((execOp a.eval o).run P w) v) ∨
   (Region.wanted o (yielded ops a.tmps) = false ∧ v = undef ∧ ∀ L w, At md ops i L → S L w → S (upd L i) w ∧ R w w)
def FloatF (P : Program) (md : Region.Mode) (ops : Array Oper) (S : Ran → World → Prop) (R : World → World → Prop) (i : Nat) (o : Oper) (D : Value → World → Prop) (a : Act) : Prop :=
 o.guard = none ∧ ∀ L w, At md ops i L → S L w → someR D (fun w' => S (upd L i) w' ∧ R w w') ((execOp a.eval o).run P w)
theorem CalmF.agree {i : Nat} {o : Oper} (hs : ∀ cs b, o.op ≠ .select cs b) {v : Value} {a a' : Act} (h : ∀ t ∈ o.looksAt ops, a.tmps[t]? = a'.tmps[t]?) (hc : CalmF P md ops S R i o v a) : CalmF P md ops S R i o v a' := by
 unfold CalmF at *
 rw [← run_agree (ops := ops) hs h, ← wanted_agree h]
 exact hc
def wpFree (P : Program) (md : Region.Mode) (ops : Array Oper) (S : Ran → World → Prop) (R : World → World → Prop) (fl : Floats) (L : Act → Prop) : List Oper → Nat → Act → Prop
 | [], _, a => L a
 | o :: l, k, a =>
  match fl.at k with
  | some D => FloatF P md ops S R k o D a ∧ wpFree P md ops S R fl L l (k + 1) a
  | none => ∃ v, CalmF P md ops S R k o v a ∧ wpFree P md ops S R fl L l (k + 1) (a.put o.dst v)
def GoodR (P : Program) (md : Region.Mode) (ops : Array Oper) (S : Ran → World → Prop) (R : World → World → Prop) (fl : Floats) (val : Nat → Value) : List Oper → Nat → Act → Prop
 | [], _, _ => True
 | o :: l, k, a => (match fl.at k with | some D => FloatF P md ops S R k o D a | none => CalmF P md ops S R k o (val k) a) ∧ GoodR P md ops S R fl val l (k + 1) (stepAct fl val o k a)
theorem GoodR_congr {fl : Floats} {val val' : Nat → Value} : ∀ (l : List Oper) (k : Nat) (a : Act), (∀ j, k ≤ j → val j = val' j) → GoodR P md ops S R fl val l k a → GoodR P md ops S R fl val' l k a
 | [], _, _, _, _ => trivial
 | o :: l, k, a, h, hg => by
  simp only [GoodR, stepAct, h k (Nat.le_refl _)] at hg ⊢
  exact ⟨hg.1, GoodR_congr l (k + 1) _ (fun j hj => h j (by omega)) hg.2⟩
theorem good_of_wpFree {fl : Floats} {L : Act → Prop} : ∀ (l : List Oper) (k : Nat) (a : Act), wpFree P md ops S R fl L l k a → ∃ val, GoodR P md ops S R fl val l k a ∧ L (fin fl val l k a)
 | [], _, a, h => ⟨fun _ => undef, trivial, h⟩
 | o :: l, k, a, h => by
  unfold wpFree at h
  cases hf : fl.at k with
  | some D =>
   simp only [hf] at h
   obtain ⟨val, hg, hL⟩ := good_of_wpFree l (k + 1) a h.2
   exact ⟨val, by simp only [GoodR, hf, stepAct]; exact ⟨h.1, hg⟩, by simp only [fin, stepAct, hf]; exact hL⟩
  | none =>
   simp only [hf] at h
   obtain ⟨v, hc, h2⟩ := h
   obtain ⟨val, hg, hL⟩ := good_of_wpFree l (k + 1) (a.put o.dst v) h2
   have hcg : ∀ j, k + 1 ≤ j → val j = (fun i => if i = k then v else val i) j := fun j hj => by simp only []; rw [if_neg (by omega)]
   refine ⟨fun i => if i = k then v else val i, ?_, ?_⟩
   ·simp only [GoodR, hf, stepAct, if_true]
    exact ⟨hc, GoodR_congr l (k + 1) _ hcg hg⟩
   ·simp only [fin, stepAct, hf, if_true]
    rw [← fin_congr l (k + 1) _ hcg]
    exact hL
theorem goodR_at {fl : Floats} {val : Nat → Value} : ∀ (l : List Oper) (k : Nat) (a : Act) (j : Nat) (o : Oper), GoodR P md ops S R fl val l k a → l[j]? = some o →
 (match fl.at (k + j) with | some D => FloatF P md ops S R (k + j) o D (fin fl val (l.take j) k a) | none => CalmF P md ops S R (k + j) o (val (k + j)) (fin fl val (l.take j) k a))
 | [], _, _, _, _, _, hj => by simp at hj
 | _ :: l, k, _, 0, o, hg, hj => by
  simp only [List.getElem?_cons_zero, Option.some.injEq] at hj
  subst hj
  simpa [GoodR, fin] using hg.1
 | _ :: l, k, _, j + 1, o, hg, hj => by
  have   := goodR_at l (k + 1) _ j o hg.2 (by simpa using hj)
  rw [show k + 1 + j = k + (j + 1) by omega] at this
  simpa [fin] using this
def ranOf (listed : Array Bool) : Ran := fun k => listed.getD k false
theorem ranOf_set {listed : Array Bool} {i : Nat} (h : i < listed.size) : ranOf (listed.setIfInBounds i true) = upd (ranOf listed) i := by
 funext k
 unfold ranOf upd
 by_cases e : k = i
 ·subst e
  simp [h]
 ·rw [if_neg e, getD_set_ne false (Ne.symm e)]
theorem needs_ran {listed : Array Bool} {n : Nat} (hinv : HeadInv md ops n listed) : ∀ (f i : Nat) (o : Oper), ops[i]? = some o → (∀ e ∈ o.after, Region.binds md e = true → listed.getD e.on false = true) → ∀ k ∈ needs md ops f i, ranOf listed k = true
 | 0, _, _, _, _, _, hk => by simp [needs] at hk
 | f + 1, i, o, ho, hw, k, hk => by
  unfold needs at hk
  rw [ho] at hk
  simp only [List.mem_flatMap, List.mem_filter, Array.mem_toList_iff] at hk
  obtain ⟨e, ⟨he, hb⟩, hk⟩ := hk
  have h1 := hw e he hb
  rcases List.mem_cons.1 hk with hk | hk
  ·subst hk
   exact h1
  ·have hex : ∃ oj, ops[e.on]? = some oj := by
    rcases Nat.lt_or_ge e.on ops.size with hlt | hge
    ·exact ⟨ops[e.on]'hlt, by simp [hlt]⟩
    ·exfalso
     rw [Array.getD_eq_getD_getElem?, Array.getElem?_eq_none (by rw [hinv.size]; exact hge)] at h1
     cases h1
   obtain ⟨oj, hoj⟩ := hex
   exact needs_ran hinv f e.on oj hoj (fun e' he' hb' => hinv.closed e.on oj hoj h1 e' he' hb') k hk
theorem calmF_wpOp {Q : Exit → Act → World → Prop} {L : Ran} {i : Nat} {o : Oper} {v : Value} {a : Act} {w : World} {K : Act → World → Prop} (hi : ops[i]? = some o) (hc : CalmF P md ops S R i o v a) (hL : At md ops i L) (hw : S L w)
 (hK : ∀ w', S (upd L i) w' → R w w' → K (a.put o.dst v) w') : wpOp P ops Q i K a w := by
 unfold wpOp
 simp only [hi]
 rcases hc with ⟨hwt, hr⟩ | ⟨hwt, rfl, ht⟩
 ·simp only [hwt, if_true]
  refine .inl ?_
  have := hr L w hL hw
  unfold Oper.wp
  generalize (execOp a.eval o).run P w = r at *
  cases r with
  | ok n w' =>
   cases n <;> simp only [stepR] at this <;> simp only [Oper.upon]
   case value u => obtain ⟨rfl, hg, hr⟩ := this; exact hK _ hg hr
   case skip => obtain ⟨rfl, hg, hr⟩ := this; exact hK _ hg hr
   case enter f args => exact this.mono fun e w'' ⟨he, hg, hr⟩ => by subst he; exact hK _ hg hr
  | halt x w' => simp only [stepR] at this
 ·simp only [hwt, Bool.false_eq_true, if_false]
  exact hK _ (ht L w hL hw).1 (ht L w hL hw).2
theorem floatF_wpOp {Q : Exit → Act → World → Prop} {L : Ran} {i : Nat} {o : Oper} {D : Value → World → Prop} {a : Act} {w : World} {K : Act → World → Prop} (hi : ops[i]? = some o) (hc : FloatF P md ops S R i o D a) (hL : At md ops i L) (hw : S L w)
 (hK : ∀ u w', D u w' → S (upd L i) w' → R w w' → K (a.put o.dst u) w') : wpOp P ops Q i K a w := by
 unfold wpOp
 simp only [hi, Region.wanted, hc.1, if_true]
 refine .inl ?_
 have := hc.2 L w hL hw
 unfold Oper.wp
 generalize (execOp a.eval o).run P w = r at *
 cases r with
 | ok n w' =>
  cases n <;> simp only [someR] at this <;> simp only [Oper.upon]
  case value u => exact hK _ _ this.1 this.2.1 this.2.2
 | halt x w' => simp only [someR] at this
structure InvR (S : Ran → World → Prop) (ops : Array Oper) (n : Nat) (fl : Floats) (val : Nat → Value) (a0 : Act) (listed : Array Bool) (a : Act) (w : World) : Prop where
 s : S (ranOf listed) w
 defers : a.defers = a0.defers
 size : a.tmps.size = a0.tmps.size
 calm : ∀ k o t, k < n → ops[k]? = some o → o.dst = some t → listed.getD k false = true → fl.at k = none → a.tmps[t]? = some (val k)
 float : ∀ k o t D, k < n → ops[k]? = some o → o.dst = some t → listed.getD k false = true → fl.at k = some D → ∃ v, a.tmps[t]? = some v ∧ D v w
 other : ∀ t, (∀ k o, k < n → ops[k]? = some o → listed.getD k false = true → o.dst ≠ some t) → a.tmps[t]? = a0.tmps[t]?
section
variable {n N : Nat} {ks : List Nat} {fl : Floats} {val : Nat → Value} {a0 : Act}
theorem op_stepR (ok : MixOk md ops n N ks) (hks : fl.map (·.1) = ks) (hN : a0.tmps.size = N) (good : GoodR P md ops S R fl val (ops.toList.take n) 0 a0)
 {listed : Array Bool} {a : Act} {w : World} (inv : InvR S ops n fl val a0 listed a w) {i : Nat} {o : Oper} (hi : i < n) (ho : ops[i]? = some o) (hr : i ∈ Region.ready md ops listed) :
 (match fl.at i with | some D => FloatF P md ops S R i o D a | none => CalmF P md ops S R i o (val i) a) := by
 have hg   := goodR_at (ops.toList.take n) 0 a0 i o good (take_get hi ho)
 rw [Nat.zero_add] at hg
 rw [List.take_take, Nat.min_eq_left (by omega)] at hg
 have hs : ∀ cs b, o.op ≠ .select cs b := fun cs b => Region.noSelect_spec ok.sel i o cs b ho
 have agree : ∀ t ∈ o.looksAt ops, (fin fl val (ops.toList.take i) 0 a0).tmps[t]? = a.tmps[t]? := by
  intro t ht
  by_cases hex : ∃ k o', k < n ∧ ops[k]? = some o' ∧ o'.dst = some t
  ·obtain ⟨k, o', hk, ho', hd⟩ := hex
   obtain ⟨h1, h2, h3⟩ := ok.look i o k o' t hi hk ho ho' hd ht
   have hcalm : fl.at k = none := lookup_mem (by rw [hks]; exact h2)
   have hlisted : listed.getD k false = true := by
    obtain ⟨oj, hoj, e, he, hb, hon⟩ := Region.waitsFor_spec h3
    obtain ⟨_, oi, hoi, hall⟩ := mem_ready.1 hr
    have : oj = oi := Option.some.inj (hoj.symm.trans hoi)
    subst this
    have := hall e he hb
    rwa [hon] at this
   have e1 := inv.calm k o' t hk ho' hd hlisted hcalm
   have hlt : t < a0.tmps.size := by rw [hN]; exact ok.bd k o' t hk ho' hd
   have e2 := fin_at (fl := fl) (val := val) (ops.toList.take i) 0 a0 k o' (take_get h1 ho') hd (by rw [Nat.zero_add]; exact hcalm) hlt (by
    intro j oj hj hne hdj
    obtain ⟨hji, hoj⟩ := of_take_get hj
    exact ok.ne j oj k o' t (by omega) hk hoj ho' (Ne.symm hne) hdj hd)
   rw [Nat.zero_add] at e2
   rw [e1, e2]
  ·have e1 := inv.other t fun k o' hk ho' _ hd => hex ⟨k, o', hk, ho', hd⟩
   have e2 := fin_other (fl := fl) (val := val) (t := t) (ops.toList.take i) 0 a0 fun j oj hj _ hd => by
    obtain ⟨hji, hoj⟩ := of_take_get hj
    exact hex ⟨j, oj, by omega, hoj, hd⟩
   rw [e1, e2]
 cases hf : fl.at i with
 | some D =>
  simp only [hf] at hg ⊢
  exact ⟨hg.1, by rw [← run_agree (ops := ops) hs agree]; exact hg.2⟩
 | none =>
  simp only [hf] at hg ⊢
  exact hg.agree hs agree
theorem inv_stepR (ok : MixOk md ops n N ks) (hN : a0.tmps.size = N) (hD : ∀ k D, fl.at k = some D → ∀ v w w', D v w → R w w' → D v w')
 {listed : Array Bool} {a : Act} {w w' : World} (inv : InvR S ops n fl val a0 listed a w) {i : Nat} {o : Oper} (hi : i < n) (ho : ops[i]? = some o) (hl : i < listed.size) {u : Value}
 (hu : fl.at i = none → u = val i) (huf : ∀ D, fl.at i = some D → D u w') (hs : S (ranOf (listed.setIfInBounds i true)) w') (hg : R w w') : InvR S ops n fl val a0 (listed.setIfInBounds i true) (a.put o.dst u) w' := by
 have key : ∀ k o' t, k < n → ops[k]? = some o' → o'.dst = some t → k ≠ i → (a.put o.dst u).tmps[t]? = a.tmps[t]? := by
  intro k o' t hk ho' hd hne
  exact put_get_ne fun e => ok.ne i o k o' t hi hk ho ho' hne e hd
 refine ⟨hs, (put_defers' _ _ _).trans inv.defers, (put_size _ _ _).trans inv.size, ?_, ?_, ?_⟩
 ·intro k o' t hk ho' hd hlk hc
  by_cases hki : k = i
  ·subst hki
   have : o' = o := Option.some.inj (ho'.symm.trans ho)
   subst this
   rw [hd, put_get_eq (by rw [inv.size, hN]; exact ok.bd k o' t hk ho' hd), hu hc]
  ·rw [key k o' t hk ho' hd hki]
   exact inv.calm k o' t hk ho' hd (by rwa [getD_set_ne false (Ne.symm hki)] at hlk) hc
 ·intro k o' t D hk ho' hd hlk hc
  by_cases hki : k = i
  ·subst hki
   have : o' = o := Option.some.inj (ho'.symm.trans ho)
   subst this
   exact ⟨u, by rw [hd, put_get_eq (by rw [inv.size, hN]; exact ok.bd k o' t hk ho' hd)], huf D hc⟩
  ·rw [key k o' t hk ho' hd hki]
   obtain ⟨v, hv, hDv⟩ := inv.float k o' t D hk ho' hd (by rwa [getD_set_ne false (Ne.symm hki)] at hlk) hc
   exact ⟨v, hv, hD k D hc v _ _ hDv hg⟩
 ·intro t ht
  have h1 : o.dst ≠ some t := ht i o hi ho (by simp [hl])
  rw [put_get_ne h1]
  exact inv.other t fun k o' hk ho' hlk => ht k o' hk ho' (getD_set_true hlk)
theorem head_runR {Q : Exit → Act → World → Prop} (ok : MixOk md ops n N ks) (hks : fl.map (·.1) = ks) (hN : a0.tmps.size = N) 
 (hD : ∀ k D, fl.at k = some D → ∀ v w w', D v w → R w w' → D v w') (good : GoodR P md ops S R fl val (ops.toList.take n) 0 a0) (g : Nat)
 (H : ∀ listed a w, HeadInv md ops n listed → (∀ i, i < n → listed.getD i false = true) → InvR S ops n fl val a0 listed a w → wpAny P md ops Q g listed a w) :
 ∀ (f : Nat) (listed : Array Bool) (a : Act) (w : World), ((List.range n).countP fun i => !listed.getD i false) ≤ f → HeadInv md ops n listed → InvR S ops n fl val a0 listed a w →
  wpAny P md ops Q (f + g) listed a w := by
 intro f
 induction f with
 | zero =>
  intro listed a w hc hinv inv
  rw [Nat.zero_add]
  refine H listed a w hinv (fun i hi => ?_) inv
  have h0 : ((List.range n).countP fun i => !listed.getD i false) = 0 := by omega
  rw [List.countP_eq_zero] at h0
  have := h0 i (List.mem_range.2 hi)
  simpa using this
 | succ f ih =>
  intro listed a w hc hinv inv
  by_cases hall : ∀ i, i < n → listed.getD i false = true
  ·exact wpAny_fuel g listed a w (H listed a w hinv hall inv) (f + 1)
  ·-- some op of the head is not listed yet
   have hex : ∃ i, i < n ∧ listed.getD i false = false := by
    apply Classical.byContradiction
    intro hno
    exact hall fun i hi => by
     cases h : listed.getD i false
     ·exact absurd ⟨i, hi, h⟩ hno
     ·rfl
   obtain ⟨i0, hi0, hl0⟩ := hex
   have hsz : ∀ i, i < n → i < listed.size := fun i hi => by rw [hinv.size]; have := ok.le; omega
   -- the least one is ready
   have hready : Region.ready md ops listed ≠ [] := by
    have : ∀ d i, i ≤ d → i < n → listed.getD i false = false → ∃ j, j ∈ Region.ready md ops listed := by
     intro d
     induction d with
     | zero =>
      intro i hid hi hl
      obtain ⟨o, ho⟩ : ∃ o, ops[i]? = some o := ⟨ops[i]'(by have := ok.le; omega), by simp [show i < ops.size by have := ok.le; omega]⟩
      refine ⟨i, mem_ready.2 ⟨getD_in (hsz i hi) hl, o, ho, fun e he hb => ?_⟩⟩
      have := ok.back i o hi ho e he hb
      omega
     | succ d ihd =>
      intro i hid hi hl
      obtain ⟨o, ho⟩ : ∃ o, ops[i]? = some o := ⟨ops[i]'(by have := ok.le; omega), by simp [show i < ops.size by have := ok.le; omega]⟩
      by_cases hw : ∀ e ∈ o.after, Region.binds md e = true → listed.getD e.on false = true
      ·exact ⟨i, mem_ready.2 ⟨getD_in (hsz i hi) hl, o, ho, hw⟩⟩
      ·have : ∃ e ∈ o.after, Region.binds md e = true ∧ listed.getD e.on false = false := by
        apply Classical.byContradiction
        intro hno
        exact hw fun e he hb => by
         cases h : listed.getD e.on false
         ·exact absurd ⟨e, he, hb, h⟩ hno
         ·rfl
       obtain ⟨e, he, hb, hle⟩ := this
       have hlt := ok.back i o hi ho e he hb
       exact ihd e.on (by omega) (by omega) hle
    obtain ⟨j, hj⟩ := this i0 i0 (Nat.le_refl _) hi0 hl0
    intro h0
    rw [h0] at hj
    cases hj
   rw [show f + 1 + g = (f + g) + 1 by omega]
   refine ⟨fun h0 => absurd h0 hready, fun i hir => ?_⟩
   have hin : i < n := by
    rcases Nat.lt_or_ge i n with h | h
    ·exact h
    ·exfalso
     obtain ⟨_, oi, hoi, _⟩ := mem_ready.1 hir
     have hlt : i < ops.size := (Array.getElem?_eq_some_iff.1 hoi).1
     rcases ok.tail with ht | ⟨ht, hs, hch⟩
     ·omega
     ·exact tail_waits hs hch ht hinv _ i0 rfl hi0 (getD_in (hsz i0 hi0) hl0) i h hir
   obtain ⟨hun, o, ho, hwaits⟩ := mem_ready.1 hir
   have hst := op_stepR ok hks hN good inv hin ho hir
   have hunf : listed.getD i false = false := getD_both hun
   have hcnt : ((List.range n).countP fun j => !(listed.setIfInBounds i true).getD j false) ≤ f := by
    have := countP_lt (p := fun j => !listed.getD j false) (q := fun j => !(listed.setIfInBounds i true).getD j false) (List.range n) (List.mem_range.2 hin)
     (fun j _ hj => by
       simp only [Bool.not_eq_true'] at hj ⊢
       cases h : listed.getD j false
       ·rfl
       ·rw [getD_set_true h] at hj; cases hj) (by simp only [hunf, Bool.not_false]) (by simp [hsz i hin])
    omega
   have hinv' := hinv.set hir hin
   have hat : At md ops i (ranOf listed) := ⟨hunf, needs_ran hinv _ i o ho hwaits⟩
   cases hf : fl.at i with
   | some D =>
    simp only [hf] at hst
    refine floatF_wpOp ho hst hat inv.s fun u w' hu hs hg => ih _ _ _ hcnt hinv' (inv_stepR ok hN hD inv hin ho (hsz i hin) (fun h => by rw [hf] at h; cases h) (fun D' h => by rw [hf] at h; injection h with h; subst h; exact hu) ?_ hg)
    rw [ranOf_set (hsz i hin)]
    exact hs
   | none =>
    simp only [hf] at hst
    refine calmF_wpOp ho hst hat inv.s fun w' hs hg => ih _ _ _ hcnt hinv' (inv_stepR ok hN hD inv hin ho (hsz i hin) (fun _ => rfl) (fun D' h => by rw [hf] at h; cases h) ?_ hg)
    rw [ranOf_set (hsz i hin)]
    exact hs
end
theorem wp_region_free {id : Nat} {Q : Exit → Act → World → Prop} {a : Act} {w : World} {l : List Oper} (S : Ran → World → Prop) (R : World → World → Prop) (fl : Floats) (n N : Nat) (hm : P.follows .mixedOrders = true) (hB : mixB .any l.toArray n N (fl.map (·.1)) = true)
 (hN : a.tmps.size = N) (hD : ∀ k D, fl.at k = some D → ∀ v w w', D v w → R w w' → D v w') (h0 : S (fun _ => false) w.drew)
 (h : wpFree P .any l.toArray S R fl (fun a' => endMix l.toArray (fun a'' w' => wpList P l.toArray Q (l.drop n) a'' w') (fun w' => ∃ L, (∀ k, k < n → L k = true) ∧ S L w') fl a' fun _ => True) (l.take n) 0 a) : (Code.region id l.toArray true).wp P Q a w := by
 have ok := mixOk_of hB
 have hle : n ≤ l.length := by simpa using ok.le
 obtain ⟨val, good, hL⟩ := good_of_wpFree (l.take n) 0 a h
 refine wp_region_any hm ?_
 have inv0 : HeadInv .any l.toArray n (Array.replicate l.toArray.size false) :=
  ⟨by simp, fun j oj _ hl => (by rw [getD_replicate_false] at hl; cases hl), fun t _ ht => getD_in (by simpa using ht) (getD_replicate_false _ _)⟩
 have key := head_runR (md := .any) (Q := Q) (ops := l.toArray) (S := S) (R := R) (fl := fl) (val := val) (a0 := a) ok rfl hN hD (by simpa using good) (l.length - n) (by
  intro listed b w' hinv hall inv
  refine (show l.length - n = (l.drop n).length by simp) ▸ wpAny_of_seq (l.drop n) n listed b w' (fun j => by simp [List.getElem?_drop]) ?_ ?_
  ·have hls : listed = (Array.replicate n true) ++ (Array.replicate (l.length - n) false) := by
    refine Array.ext (by simp [hinv.size]; omega) fun i h1 h2 => ?_
    have hsz : i < l.length := by have := hinv.size; simp at this; omega
    by_cases hin : i < n
    ·have := hall i hin
     rw [Array.getElem_append_left (by simpa using hin)]
     simpa [h1] using this
    ·have := hinv.tail i (by omega) (by simpa using hsz)
     rw [Array.getElem_append_right (by simp; omega)]
     simpa [h1] using this
   have := ok.seq
   rw [hls]
   simpa using this
  ·refine endMix_out (ops := l.toArray) (T := fun a'' w' => wpList P l.toArray Q (l.drop n) a'' w') ⟨ranOf listed, fun k hk => hall k hk, inv.s⟩ fl _ _ hL trivial ((fin_defers _ _ _).trans inv.defers.symm) ((fin_size _ _ _).trans inv.size.symm) ?_ ?_
   ·intro k D hk
    obtain ⟨hkn, t, ht⟩ := ok.fl k (List.mem_map.2 ⟨(k, D), hk, rfl⟩)
    obtain ⟨o, ho, hd⟩ := Option.bind_eq_some_iff.1 ht
    obtain ⟨v, hv, hDv⟩ := inv.float k o t D hkn ho hd (hall k hkn) (lookup_some ok.nd hk)
    exact ⟨t, v, ht, hv, hDv⟩
   ·intro t ht
    by_cases hex : ∃ k o', k < n ∧ l.toArray[k]? = some o' ∧ o'.dst = some t
    ·obtain ⟨k, o', hk, ho', hd⟩ := hex
     have hcalm : fl.at k = none := by
      cases hf : fl.at k with
      | none => rfl
      | some D =>
       exfalso
       have hm := lookup_key hf
       obtain ⟨⟨k', D'⟩, hmem, rfl⟩ := List.mem_map.1 hm
       exact ht k' D' hmem (by simp only [ho', Option.bind_some, hd])
     have e1 := inv.calm k o' t hk ho' hd (hall k hk) hcalm
     have e2 := fin_at (fl := fl) (val := val) (l.take n) 0 a k o' (by have := take_get (ops := l.toArray) hk ho'; simpa using this) hd (by rw [Nat.zero_add]; exact hcalm)
      (by rw [hN]; exact ok.bd k o' t hk ho' hd) (by
        intro j oj hj hne hdj
        obtain ⟨hji, hoj⟩ := of_take_get (ops := l.toArray) (by simpa using hj)
        exact ok.ne j oj k o' t hji hk hoj ho' (Ne.symm hne) hdj hd)
     rw [Nat.zero_add] at e2
     rw [e1, e2]
    ·have e1 := inv.other t fun k o' hk ho' _ hd => hex ⟨k, o', hk, ho', hd⟩
     have e2 := fin_other (fl := fl) (val := val) (t := t) (l.take n) 0 a fun j oj hj _ hd => by
      obtain ⟨hji, hoj⟩ := of_take_get (ops := l.toArray) (by simpa using hj)
      exact hex ⟨j, oj, hji, hoj, hd⟩
     rw [e1, e2]) n (Array.replicate l.toArray.size false) a w.drew (by
   have := List.countP_le_length (p := fun i => !(Array.replicate l.toArray.size false).getD i false) (l := List.range n)
   simpa using this) inv0 ⟨by rw [show ranOf (Array.replicate l.toArray.size false) = fun _ => false from funext fun k => getD_replicate_false _ _]; exact h0, rfl, rfl, fun k o t _ _ _ hl => (by rw [getD_replicate_false] at hl; cases hl), fun k o t D _ _ _ hl => (by rw [getD_replicate_false] at hl; cases hl), fun t _ => rfl⟩
 rw [show n + (l.length - n) = l.toArray.size by simp; omega] at key
 exact key
section
variable {fl : Floats} {L : Act → Prop} {o : Oper} {l : List Oper} {k : Nat} {a a' : Act} {v : Value}
theorem fr_plain (hg : o.guard = none) (hf : fl.at k = none) (hc : ∀ L w, At md ops k L → S L w → stepR P (fun w' => S (upd L k) w' ∧ R w w') ((execOp a.eval o).run P w) v) (ha : a.put o.dst v = a') (h : wpFree P md ops S R fl L l (k + 1) a') : wpFree P md ops S R fl L (o :: l) k a := by
 subst ha
 simp only [wpFree, hf]
 exact ⟨v, .inl ⟨by simp [Region.wanted, hg], hc⟩, h⟩
theorem fr_yes (hf : fl.at k = none) (hw : Region.wanted o (yielded ops a.tmps) = true) (hc : ∀ L w, At md ops k L → S L w → stepR P (fun w' => S (upd L k) w' ∧ R w w') ((execOp a.eval o).run P w) v) (ha : a.put o.dst v = a') (h : wpFree P md ops S R fl L l (k + 1) a') : wpFree P md ops S R fl L (o :: l) k a := by
 subst ha
 simp only [wpFree, hf]
 exact ⟨v, .inl ⟨hw, hc⟩, h⟩
theorem fr_no (hf : fl.at k = none) (hw : Region.wanted o (yielded ops a.tmps) = false) (hc : ∀ L w, At md ops k L → S L w → S (upd L k) w ∧ R w w) (ha : a.put o.dst undef = a') (h : wpFree P md ops S R fl L l (k + 1) a') : wpFree P md ops S R fl L (o :: l) k a := by
 subst ha
 simp only [wpFree, hf]
 exact ⟨undef, .inr ⟨hw, rfl, hc⟩, h⟩
theorem fr_float {D : Value → World → Prop} (hg : o.guard = none) (hf : fl.at k = some D) (hc : ∀ L w, At md ops k L → S L w → someR D (fun w' => S (upd L k) w' ∧ R w w') ((execOp a.eval o).run P w)) (h : wpFree P md ops S R fl L l (k + 1) a) : wpFree P md ops S R fl L (o :: l) k a := by
 simp only [wpFree, hf]
 exact ⟨⟨hg, hc⟩, h⟩
theorem fr_done (h : L a) : wpFree P md ops S R fl L [] k a := h
end
theorem fr_grow {P : Program} {T : World → Prop} {w : World} {u : Value} {f : FuncId} {args : Array Value} (h : Calls P f args w fun e w' => e = .returned u ∧ Grows w w') (ht : ∀ w', Grows w w' → T w') : stepR P T (.ok (.enter f args) w) u :=
 h.mono fun _ _ ⟨he, hg⟩ => ⟨he, ht _ hg⟩
theorem fr_some {D : Value → World → Prop} {T : World → Prop} {w : World} {u : Value} (hd : D u w) (ht : T w) : someR D T (.ok (.value u) w) := ⟨hd, ht⟩
end
/-- Only the blocks bs may have changed, and there may be new ones. -/
def Only (bs : List Nat) (w w' : World) : Prop := w.heap.size ≤ w'.heap.size ∧ ∀ k, k < w.heap.size → k ∉ bs → w'.heap[k]? = w.heap[k]?
theorem Only.refl (bs : List Nat) (w : World) : Only bs w w := ⟨Nat.le_refl _, fun _ _ _ => rfl⟩
theorem Only.grows {bs : List Nat} {w w' : World} (h : Grows w w') : Only bs w w' := ⟨h.size, fun k hk _ => h.block k hk⟩
theorem Only.grown {bs : List Nat} {w w' : World} {g : Nat} (h : w.grownBy w' (some g)) (hg : g ∈ bs) : Only bs w w' := ⟨h.size, fun k hk hn => h.block k hk (fun e => by injection e with e; subst e; exact hn hg)⟩
theorem Only.set {bs : List Nat} {a w : World} (h : Only bs a w) {p : Addr} (hp : p.block ∈ bs) (u : Value) : Only bs a (w.setCell p u) := ⟨by simpa [World.setCell] using h.1, fun k hk hn => (Below.heap_setCell w p u k (fun e => hn (e ▸ hp))).trans (h.2 k hk hn)⟩
theorem Only.alloc {bs : List Nat} {a w : World} (h : Only bs a w) (o : Obj) : Only bs a (w.alloc o) := ⟨Nat.le_trans h.1 (by simp), fun k hk hn => (Below.heap_alloc w o k (Nat.lt_of_lt_of_le hk h.1)).trans (h.2 k hk hn)⟩
theorem Blk.only {bs : List Nat} {w w' : World} {g : Nat} {t : TypeId} {cs : Array Value} (h : Blk w g t cs) (ho : Only bs w w') (hg : g ∉ bs) : Blk w' g t cs := (ho.2 g h.lt hg).trans h
end Go.Proofs.Ytobhdldlhhigdaa

namespace Go.Proofs.Ytobhdldlhhigdaa
open Go.RowKit
section
variable {P : Program} {ops : Array Oper} {S : Ran → World → Prop} {R : World → World → Prop} {md : Region.Mode} {fk sk t : Nat} {D : Ran → Value → World → Prop}
def FloatO (P : Program) (md : Region.Mode) (ops : Array Oper) (S : Ran → World → Prop) (R : World → World → Prop) (D : Ran → Value → World → Prop) (i : Nat) (o : Oper) (a : Act) : Prop :=
 o.guard = none ∧ ∀ L w, At md ops i L → S L w → someR (D (upd L i)) (fun w' => S (upd L i) w' ∧ R w w') ((execOp a.eval o).run P w)
def SinkO (P : Program) (md : Region.Mode) (ops : Array Oper) (S : Ran → World → Prop) (D : Ran → Value → World → Prop) (t : Nat) (i : Nat) (o : Oper) (a : Act) : Prop :=
 o.guard = none ∧ o.dst = none ∧ ∀ v L w, At md ops i L → S L w → D L v w → stepR P (fun w' => S (upd L i) w' ∧ D (upd L i) v w') ((execOp (a.put (some t) v).eval o).run P w) undef
def OneO (P : Program) (md : Region.Mode) (ops : Array Oper) (S : Ran → World → Prop) (R : World → World → Prop) (fk sk t : Nat) (D : Ran → Value → World → Prop) (k : Nat) (o : Oper) (v : Value) (a : Act) : Prop :=
 if k = fk then FloatO P md ops S R D k o a else if k = sk then SinkO P md ops S D t k o a else CalmF P md ops S R k o v a
def fl1 (fk : Nat) : Floats := [(fk, fun _ _ => True)]
def wpOwn (P : Program) (md : Region.Mode) (ops : Array Oper) (S : Ran → World → Prop) (R : World → World → Prop) (fk sk t : Nat) (D : Ran → Value → World → Prop) (L : Act → Prop) : List Oper → Nat → Act → Prop
 | [], _, a => L a
 | o :: l, k, a => ∃ v, OneO P md ops S R fk sk t D k o v a ∧ wpOwn P md ops S R fk sk t D L l (k + 1) (stepAct (fl1 fk) (fun _ => v) o k a)
def GoodO (P : Program) (md : Region.Mode) (ops : Array Oper) (S : Ran → World → Prop) (R : World → World → Prop) (fk sk t : Nat) (D : Ran → Value → World → Prop) (val : Nat → Value) : List Oper → Nat → Act → Prop
 | [], _, _ => True
 | o :: l, k, a => OneO P md ops S R fk sk t D k o (val k) a ∧ GoodO P md ops S R fk sk t D val l (k + 1) (stepAct (fl1 fk) val o k a)
theorem stepAct_val (fl : Floats) (val val' : Nat → Value) (o : Oper) (k : Nat) (a : Act) (h : val k = val' k) : stepAct fl val o k a = stepAct fl val' o k a := by
 unfold stepAct; rw [h]
theorem GoodO_congr {val val' : Nat → Value} : ∀ (l : List Oper) (k : Nat) (a : Act), (∀ j, k ≤ j → val j = val' j) → GoodO P md ops S R fk sk t D val l k a → GoodO P md ops S R fk sk t D val' l k a
 | [], _, _, _, _ => trivial
 | o :: l, k, a, h, hg => by
  simp only [GoodO, h k (Nat.le_refl _)] at hg ⊢
  rw [stepAct_val _ val val' o k a (h k (Nat.le_refl _))] at hg
  exact ⟨hg.1, GoodO_congr l (k + 1) _ (fun j hj => h j (by omega)) hg.2⟩
theorem good_of_wpOwn {L : Act → Prop} : ∀ (l : List Oper) (k : Nat) (a : Act), wpOwn P md ops S R fk sk t D L l k a → ∃ val, GoodO P md ops S R fk sk t D val l k a ∧ L (fin (fl1 fk) val l k a)
 | [], _, a, h => ⟨fun _ => undef, trivial, h⟩
 | o :: l, k, a, h => by
  obtain ⟨v, hc, h2⟩ := h
  obtain ⟨val, hg, hL⟩ := good_of_wpOwn l (k + 1) _ h2
  have hcg : ∀ j, k + 1 ≤ j → val j = (fun i => if i = k then v else val i) j := fun j hj => by simp only []; rw [if_neg (by omega)]
  have hs : stepAct (fl1 fk) (fun _ => v) o k a = stepAct (fl1 fk) (fun i => if i = k then v else val i) o k a := stepAct_val _ _ _ o k a (by simp)
  rw [hs] at hg hL
  refine ⟨fun i => if i = k then v else val i, ⟨by simpa using hc, GoodO_congr l (k + 1) _ hcg hg⟩, ?_⟩
  simp only [fin]
  rw [← fin_congr l (k + 1) _ hcg]
  exact hL
theorem goodO_at {val : Nat → Value} : ∀ (l : List Oper) (k : Nat) (a : Act) (j : Nat) (o : Oper), GoodO P md ops S R fk sk t D val l k a → l[j]? = some o → OneO P md ops S R fk sk t D (k + j) o (val (k + j)) (fin (fl1 fk) val (l.take j) k a)
 | [], _, _, _, _, _, hj => by simp at hj
 | _ :: l, k, _, 0, o, hg, hj => by
  simp only [List.getElem?_cons_zero, Option.some.injEq] at hj
  subst hj
  simpa [GoodO, fin] using hg.1
 | o' :: l, k, a, j + 1, o, hg, hj => by
  have := goodO_at l (k + 1) _ j o hg.2 (by simpa using hj)
  rw [show k + 1 + j = k + (j + 1) by omega] at this
  simpa [fin] using this
theorem fl1_at (fk k : Nat) : ((fl1 fk).at k = none ↔ k ≠ fk) := by
 unfold fl1 Floats.at
 rw [List.lookup_cons]
 by_cases h : k = fk
 ·subst h; simp
 ·have e : (k == fk) = false := by simpa using h
  simp [h, e]
def ownB (md : Region.Mode) (ops : Array Oper) (n N fk sk t : Nat) : Bool :=
 Region.noSelect ops && decide (n ≤ ops.size) && decide (fk < n) && decide (sk < n) && decide (fk ≠ sk) && ((ops[fk]?).bind (·.dst) == some t) && ((ops[sk]?).bind (·.dst) == none) && Region.waitsFor md ops sk fk &&
 (decide (n = ops.size) || (decide (n < ops.size) && Region.sinkB md ops n && Region.chainB md ops n)) &&
 Region.seqB md ops (ops.size - n) n ((Array.replicate n true) ++ (Array.replicate (ops.size - n) false)) &&
 (List.range n).all (fun i => match ops[i]? with
   | none => false
   | some o => (match o.dst with | none => true | some t => decide (t < N)) && o.after.all (fun e => !Region.binds md e || decide (e.on < i)) &&
    (List.range n).all (fun k => (k == i || match o.dst with | none => true | some t => !((ops[k]?).bind (·.dst) == some t)) &&
      (match (ops[k]?).bind (·.dst) with
       | none => true
       | some t => !(o.looksAt ops).contains t || (decide (k < i) && (!(k == fk) || i == sk) && Region.waitsFor md ops i k))))
structure OwnOk (md : Region.Mode) (ops : Array Oper) (n N fk sk t : Nat) : Prop where
 sel : Region.noSelect ops = true
 le : n ≤ ops.size
 fl : fk < n
 sl : sk < n
 fs : fk ≠ sk
 fd : (ops[fk]?).bind (·.dst) = some t
 sd : (ops[sk]?).bind (·.dst) = none
 sw : Region.waitsFor md ops sk fk = true
 tail : n = ops.size ∨ (n < ops.size ∧ Region.sinkB md ops n = true ∧ Region.chainB md ops n = true)
 seq : Region.seqB md ops (ops.size - n) n ((Array.replicate n true) ++ (Array.replicate (ops.size - n) false)) = true
 bd : ∀ i o t, i < n → ops[i]? = some o → o.dst = some t → t < N
 back : ∀ i o, i < n → ops[i]? = some o → ∀ e ∈ o.after, Region.binds md e = true → e.on < i
 ne : ∀ i o k o' t, i < n → k < n → ops[i]? = some o → ops[k]? = some o' → k ≠ i → o.dst = some t → o'.dst ≠ some t
 look : ∀ i o k o' t, i < n → k < n → ops[i]? = some o → ops[k]? = some o' → o'.dst = some t → t ∈ o.looksAt ops → k < i ∧ (k = fk → i = sk) ∧ Region.waitsFor md ops i k = true
theorem ownOk_of {n N : Nat} (h : ownB md ops n N fk sk t = true) : OwnOk md ops n N fk sk t := by
 simp only [ownB, Bool.and_eq_true, decide_eq_true_eq, List.all_eq_true, Bool.or_eq_true, List.mem_range, beq_iff_eq] at h
 obtain ⟨⟨⟨⟨⟨⟨⟨⟨⟨⟨h1, h2⟩, h3⟩, h3b⟩, h3c⟩, h4⟩, h4b⟩, h4c⟩, h5⟩, h6⟩, h7⟩ := h
 have H : ∀ i o, i < n → ops[i]? = some o → _ := fun i o hi ho => by
  have := h7 i hi
  rw [ho] at this
  exact this
 refine ⟨h1, h2, h3, h3b, h3c, h4, h4b, h4c, ?_, h6, ?_, ?_, ?_, ?_⟩
 ·rcases h5 with h5 | h5
  ·exact .inl h5
  ·exact .inr ⟨h5.1.1, h5.1.2, h5.2⟩
 ·intro i o t hi ho hd
  have := (H i o hi ho)
  simp only [Bool.and_eq_true, hd, decide_eq_true_eq] at this
  exact this.1.1
 ·intro i o hi ho e he hb
  have := (H i o hi ho)
  simp only [Bool.and_eq_true] at this
  have h8 := Array.all_eq_true_iff_forall_mem.1 this.1.2 e he
  simpa [hb] using h8
 ·intro i o k o' t hi hk ho ho' hne hd
  have := (H i o hi ho)
  simp only [Bool.and_eq_true, List.all_eq_true, List.mem_range] at this
  have h8 := (this.2 k hk).1
  simp only [ho', Option.bind_some, hd, Bool.or_eq_true, beq_iff_eq, hne, false_or, Bool.not_eq_true', beq_eq_false_iff_ne] at h8
  exact h8
 ·intro i o k o' t hi hk ho ho' hd ht
  have := (H i o hi ho)
  simp only [Bool.and_eq_true, List.all_eq_true, List.mem_range] at this
  have h8 := (this.2 k hk).2
  have hc : (o.looksAt ops).contains t = true := by simpa using ht
  simp only [ho', Option.bind_some, hd, hc, Bool.not_true, Bool.false_or, Bool.and_eq_true, decide_eq_true_eq, Bool.or_eq_true, Bool.not_eq_true', beq_eq_false_iff_ne, beq_iff_eq] at h8
  exact ⟨h8.1.1, fun e => h8.1.2.resolve_left (fun hne => hne e), h8.2⟩
structure InvO (S : Ran → World → Prop) (ops : Array Oper) (n fk t : Nat) (D : Ran → Value → World → Prop) (val : Nat → Value) (a0 : Act) (listed : Array Bool) (a : Act) (w : World) : Prop where
 s : S (ranOf listed) w
 defers : a.defers = a0.defers
 size : a.tmps.size = a0.tmps.size
 calm : ∀ k o t, k < n → ops[k]? = some o → o.dst = some t → listed.getD k false = true → k ≠ fk → a.tmps[t]? = some (val k)
 float : listed.getD fk false = true → ∃ v, a.tmps[t]? = some v ∧ D (ranOf listed) v w
 other : ∀ t, (∀ k o, k < n → ops[k]? = some o → listed.getD k false = true → o.dst ≠ some t) → a.tmps[t]? = a0.tmps[t]?
section
variable {n N : Nat} {val : Nat → Value} {a0 : Act}
/-- What the operation is, met in the actual frame. -/
theorem op_stepO (ok : OwnOk md ops n N fk sk t) (hN : a0.tmps.size = N) (good : GoodO P md ops S R fk sk t D val (ops.toList.take n) 0 a0)
 {listed : Array Bool} {a : Act} {w : World} (inv : InvO S ops n fk t D val a0 listed a w) {i : Nat} {o : Oper} (hi : i < n) (ho : ops[i]? = some o) (hr : i ∈ Region.ready md ops listed) :
 (i = fk ∧ FloatO P md ops S R D i o a) ∨ (i ≠ fk ∧ i ≠ sk ∧ CalmF P md ops S R i o (val i) a) ∨
   (i = sk ∧ i ≠ fk ∧ o.guard = none ∧ o.dst = none ∧ ∀ v, a.tmps[t]? = some v → ∀ L w, At md ops i L → S L w → D L v w → stepR P (fun w' => S (upd L i) w' ∧ D (upd L i) v w') ((execOp a.eval o).run P w) undef) := by
 have hg := goodO_at (ops.toList.take n) 0 a0 i o good (take_get hi ho)
 rw [Nat.zero_add] at hg
 rw [List.take_take, Nat.min_eq_left (by omega)] at hg
 have hs : ∀ cs b, o.op ≠ .select cs b := fun cs b => Region.noSelect_spec ok.sel i o cs b ho
 have wait : ∀ k, Region.waitsFor md ops i k = true → listed.getD k false = true := by
  intro k h3
  obtain ⟨oj, hoj, e, he, hb, hon⟩ := Region.waitsFor_spec h3
  obtain ⟨_, oi, hoi, hall⟩ := mem_ready.1 hr
  have : oj = oi := Option.some.inj (hoj.symm.trans hoi)
  subst this
  have := hall e he hb
  rwa [hon] at this
 have agree : ∀ u ∈ o.looksAt ops, u ≠ t → (fin (fl1 fk) val (ops.toList.take i) 0 a0).tmps[u]? = a.tmps[u]? := by
  intro u hu hut
  by_cases hex : ∃ k o', k < n ∧ ops[k]? = some o' ∧ o'.dst = some u
  ·obtain ⟨k, o', hk, ho', hd⟩ := hex
   obtain ⟨h1, h2, h3⟩ := ok.look i o k o' u hi hk ho ho' hd hu
   have hkf : k ≠ fk := by
    rintro rfl
    have := ok.fd
    rw [ho'] at this
    simp only [Option.bind_some, hd, Option.some.injEq] at this
    exact hut this
   have e1 := inv.calm k o' u hk ho' hd (wait k h3) hkf
   have hlt : u < a0.tmps.size := by rw [hN]; exact ok.bd k o' u hk ho' hd
   have e2 := fin_at (fl := fl1 fk) (val := val) (ops.toList.take i) 0 a0 k o' (take_get h1 ho') hd (by rw [Nat.zero_add]; exact (fl1_at fk k).2 hkf) hlt (by
    intro j oj hj hne hdj
    obtain ⟨hji, hoj⟩ := of_take_get hj
    exact ok.ne j oj k o' u (by omega) hk hoj ho' (Ne.symm hne) hdj hd)
   rw [Nat.zero_add] at e2
   rw [e1, e2]
  ·have e1 := inv.other u fun k o' hk ho' _ hd => hex ⟨k, o', hk, ho', hd⟩
   have e2 := fin_other (fl := fl1 fk) (val := val) (t := u) (ops.toList.take i) 0 a0 fun j oj hj _ hd => by
    obtain ⟨hji, hoj⟩ := of_take_get hj
    exact hex ⟨j, oj, by omega, hoj, hd⟩
   rw [e1, e2]
 obtain ⟨of, hof, hofd⟩ : ∃ of, ops[fk]? = some of ∧ of.dst = some t := by
  obtain ⟨of, h1, h2⟩ := Option.bind_eq_some_iff.1 ok.fd
  exact ⟨of, h1, h2⟩
 have not_look : i ≠ sk → t ∉ o.looksAt ops := fun hne ht => hne ((ok.look i o fk of t hi ok.fl ho hof hofd ht).2.1 rfl)
 unfold OneO at hg
 by_cases hf : i = fk
 ·rw [if_pos hf] at hg
  have hne : i ≠ sk := by rw [hf]; exact ok.fs
  refine .inl ⟨hf, hg.1, ?_⟩
  have := hg.2
  rw [run_agree (ops := ops) hs (fun u hu => agree u hu (fun e => not_look hne (e ▸ hu)))] at this
  exact this
 ·rw [if_neg hf] at hg
  by_cases hk : i = sk
  ·rw [if_pos hk] at hg
   refine .inr (.inr ⟨hk, hf, hg.1, hg.2.1, fun v hv => ?_⟩)
   have := hg.2.2 v
   have hta : t < a0.tmps.size := by rw [hN]; exact ok.bd fk of t ok.fl hof hofd
   rw [run_agree (ops := ops) (a' := a) hs (fun u hu => ?_)] at this
   ·exact this
   ·by_cases hut : u = t
    ·subst hut
     rw [put_get_eq (by rw [fin_size]; exact hta), hv]
    ·rw [put_get_ne (by simpa using Ne.symm hut)]
     exact agree u hu hut
  ·rw [if_neg hk] at hg
   exact .inr (.inl ⟨hf, hk, hg.agree hs (fun u hu => agree u hu (fun e => not_look hk (e ▸ hu)))⟩)
theorem inv_stepO (ok : OwnOk md ops n N fk sk t) (hN : a0.tmps.size = N) {listed : Array Bool} {a : Act} {w w' : World} (inv : InvO S ops n fk t D val a0 listed a w) {i : Nat} {o : Oper} (hi : i < n) (ho : ops[i]? = some o) (hl : i < listed.size) {u : Value}
 (hu : i ≠ fk → o.dst ≠ none → u = val i) (hs : S (ranOf (listed.setIfInBounds i true)) w')
 (hf : (listed.setIfInBounds i true).getD fk false = true → ∃ v, (a.put o.dst u).tmps[t]? = some v ∧ D (ranOf (listed.setIfInBounds i true)) v w') : InvO S ops n fk t D val a0 (listed.setIfInBounds i true) (a.put o.dst u) w' := by
 have key : ∀ k o' t, k < n → ops[k]? = some o' → o'.dst = some t → k ≠ i → (a.put o.dst u).tmps[t]? = a.tmps[t]? := by
  intro k o' t hk ho' hd hne
  exact put_get_ne fun e => ok.ne i o k o' t hi hk ho ho' hne e hd
 refine ⟨hs, (put_defers' _ _ _).trans inv.defers, (put_size _ _ _).trans inv.size, ?_, hf, ?_⟩
 ·intro k o' t hk ho' hd hlk hkf
  by_cases hki : k = i
  ·subst hki
   have : o' = o := Option.some.inj (ho'.symm.trans ho)
   subst this
   rw [hd, put_get_eq (by rw [inv.size, hN]; exact ok.bd k o' t hk ho' hd), hu hkf (by rw [hd]; simp)]
  ·rw [key k o' t hk ho' hd hki]
   exact inv.calm k o' t hk ho' hd (by rwa [getD_set_ne false (Ne.symm hki)] at hlk) hkf
 ·intro t ht
  have h1 : o.dst ≠ some t := ht i o hi ho (by simp [hl])
  rw [put_get_ne h1]
  exact inv.other t fun k o' hk ho' hlk => ht k o' hk ho' (getD_set_true hlk)
theorem head_runO {Q : Exit → Act → World → Prop} (ok : OwnOk md ops n N fk sk t) (hN : a0.tmps.size = N) 
 (hD : ∀ L i v w w', i ≠ fk → i ≠ sk → At md ops i L → L fk = true → D L v w → R w w' → D (upd L i) v w') (good : GoodO P md ops S R fk sk t D val (ops.toList.take n) 0 a0) (g : Nat)
 (H : ∀ listed a w, HeadInv md ops n listed → (∀ i, i < n → listed.getD i false = true) → InvO S ops n fk t D val a0 listed a w → wpAny P md ops Q g listed a w) :
 ∀ (f : Nat) (listed : Array Bool) (a : Act) (w : World), ((List.range n).countP fun i => !listed.getD i false) ≤ f → HeadInv md ops n listed → InvO S ops n fk t D val a0 listed a w →
  wpAny P md ops Q (f + g) listed a w := by
 intro f
 induction f with
 | zero =>
  intro listed a w hc hinv inv
  rw [Nat.zero_add]
  refine H listed a w hinv (fun i hi => ?_) inv
  have h0 : ((List.range n).countP fun i => !listed.getD i false) = 0 := by omega
  rw [List.countP_eq_zero] at h0
  have := h0 i (List.mem_range.2 hi)
  simpa using this
 | succ f ih =>
  intro listed a w hc hinv inv
  by_cases hall : ∀ i, i < n → listed.getD i false = true
  ·exact wpAny_fuel g listed a w (H listed a w hinv hall inv) (f + 1)
  ·-- some op of the head is not listed yet
   have hex : ∃ i, i < n ∧ listed.getD i false = false := by
    apply Classical.byContradiction
    intro hno
    exact hall fun i hi => by
     cases h : listed.getD i false
     ·exact absurd ⟨i, hi, h⟩ hno
     ·rfl
   obtain ⟨i0, hi0, hl0⟩ := hex
   have hsz : ∀ i, i < n → i < listed.size := fun i hi => by rw [hinv.size]; have := ok.le; omega
   -- the least one is ready
   have hready : Region.ready md ops listed ≠ [] := by
    have : ∀ d i, i ≤ d → i < n → listed.getD i false = false → ∃ j, j ∈ Region.ready md ops listed := by
     intro d
     induction d with
     | zero =>
      intro i hid hi hl
      obtain ⟨o, ho⟩ : ∃ o, ops[i]? = some o := ⟨ops[i]'(by have := ok.le; omega), by simp [show i < ops.size by have := ok.le; omega]⟩
      refine ⟨i, mem_ready.2 ⟨getD_in (hsz i hi) hl, o, ho, fun e he hb => ?_⟩⟩
      have := ok.back i o hi ho e he hb
      omega
     | succ d ihd =>
      intro i hid hi hl
      obtain ⟨o, ho⟩ : ∃ o, ops[i]? = some o := ⟨ops[i]'(by have := ok.le; omega), by simp [show i < ops.size by have := ok.le; omega]⟩
      by_cases hw : ∀ e ∈ o.after, Region.binds md e = true → listed.getD e.on false = true
      ·exact ⟨i, mem_ready.2 ⟨getD_in (hsz i hi) hl, o, ho, hw⟩⟩
      ·have : ∃ e ∈ o.after, Region.binds md e = true ∧ listed.getD e.on false = false := by
        apply Classical.byContradiction
        intro hno
        exact hw fun e he hb => by
         cases h : listed.getD e.on false
         ·exact absurd ⟨e, he, hb, h⟩ hno
         ·rfl
       obtain ⟨e, he, hb, hle⟩ := this
       have hlt := ok.back i o hi ho e he hb
       exact ihd e.on (by omega) (by omega) hle
    obtain ⟨j, hj⟩ := this i0 i0 (Nat.le_refl _) hi0 hl0
    intro h0
    rw [h0] at hj
    cases hj
   rw [show f + 1 + g = (f + g) + 1 by omega]
   refine ⟨fun h0 => absurd h0 hready, fun i hir => ?_⟩
   have hin : i < n := by
    rcases Nat.lt_or_ge i n with h | h
    ·exact h
    ·exfalso
     obtain ⟨_, oi, hoi, _⟩ := mem_ready.1 hir
     have hlt : i < ops.size := (Array.getElem?_eq_some_iff.1 hoi).1
     rcases ok.tail with ht | ⟨ht, hs, hch⟩
     ·omega
     ·exact tail_waits hs hch ht hinv _ i0 rfl hi0 (getD_in (hsz i0 hi0) hl0) i h hir
   obtain ⟨hun, o, ho, hwaits⟩ := mem_ready.1 hir
   have hst := op_stepO ok hN good inv hin ho hir
   have hunf : listed.getD i false = false := getD_both hun
   have hcnt : ((List.range n).countP fun j => !(listed.setIfInBounds i true).getD j false) ≤ f := by
    have := countP_lt (p := fun j => !listed.getD j false) (q := fun j => !(listed.setIfInBounds i true).getD j false) (List.range n) (List.mem_range.2 hin)
     (fun j _ hj => by
       simp only [Bool.not_eq_true'] at hj ⊢
       cases h : listed.getD j false
       ·rfl
       ·rw [getD_set_true h] at hj; cases hj) (by simp only [hunf, Bool.not_false]) (by simp [hsz i hin])
    omega
   have hinv' := hinv.set hir hin
   have hat : At md ops i (ranOf listed) := ⟨hunf, needs_ran hinv _ i o ho hwaits⟩
   have hran := ranOf_set (hsz i hin)
   have keepf : i ≠ fk → (listed.setIfInBounds i true).getD fk false = true → listed.getD fk false = true := fun hne h => by rwa [getD_set_ne false hne] at h
   have oft : ∀ u, i ≠ fk → (a.put o.dst u).tmps[t]? = a.tmps[t]? := by
    intro u hne
    obtain ⟨of, hof, hofd⟩ := Option.bind_eq_some_iff.1 ok.fd
    exact put_get_ne fun e => ok.ne fk of i o t ok.fl hin hof ho hne hofd e
   rcases hst with ⟨hfe, hg, hst⟩ | ⟨hfn, hkn, hst⟩ | ⟨hke, hfn, hgd, hdn, hst⟩
   ·unfold wpOp
    simp only [ho, Region.wanted, hg, if_true]
    refine .inl ?_
    have := hst _ _ hat inv.s
    unfold Oper.wp
    generalize (execOp a.eval o).run P w = r at *
    cases r with
    | ok n' w' =>
     cases n' <;> simp only [someR] at this <;> simp only [Oper.upon]
     case value u =>
      refine ih _ _ _ hcnt hinv' (inv_stepO ok hN inv hin ho (hsz i hin) (fun h => absurd hfe h) (by rw [hran]; exact this.2.1) fun _ => ⟨u, ?_, by rw [hran]; exact this.1⟩)
      obtain ⟨of, hof, hofd⟩ := Option.bind_eq_some_iff.1 ok.fd
      have : o = of := Option.some.inj (ho.symm.trans (by rw [hfe]; exact hof))
      subst this
      rw [hofd]
      exact put_get_eq (by rw [inv.size, hN]; exact ok.bd fk o t ok.fl hof hofd)
    | halt x w' => simp only [someR] at this
   ·refine calmF_wpOp ho hst hat inv.s fun w' hs hg => ih _ _ _ hcnt hinv' (inv_stepO ok hN inv hin ho (hsz i hin) (fun _ _ => rfl) (by rw [hran]; exact hs) fun hl => ?_)
    obtain ⟨v, hv, hd⟩ := inv.float (keepf hfn hl)
    exact ⟨v, by rw [oft _ hfn]; exact hv, by rw [hran]; exact hD _ _ _ _ _ hfn hkn hat (keepf hfn hl) hd hg⟩
   ·have hfl : listed.getD fk false = true := by
     obtain ⟨oj, hoj, e, he, hb, hon⟩ := Region.waitsFor_spec ok.sw
     have : oj = o := Option.some.inj (hoj.symm.trans (by rw [← hke]; exact ho))
     subst this
     have := hwaits e he hb
     rwa [hon] at this
    obtain ⟨v, hv, hd⟩ := inv.float hfl
    unfold wpOp
    simp only [ho, Region.wanted, hgd, if_true]
    refine .inl ?_
    have := hst v hv _ _ hat inv.s hd
    unfold Oper.wp
    generalize (execOp a.eval o).run P w = r at *
    have fin' : ∀ (u : Value) (w' : World), S (upd (ranOf listed) i) w' → D (upd (ranOf listed) i) v w' → wpAny P md ops Q (f + g) (listed.setIfInBounds i true) (a.put o.dst u) w' := fun u w' h1 h2 =>
     ih _ _ _ hcnt hinv' (inv_stepO ok hN inv hin ho (hsz i hin) (fun _ h => absurd hdn h) (by rw [hran]; exact h1) fun _ => ⟨v, by rw [oft _ hfn]; exact hv, by rw [hran]; exact h2⟩)
    cases r with
    | ok n' w' =>
     cases n' <;> simp only [stepR] at this <;> simp only [Oper.upon]
     case value u => exact fin' _ _ this.2.1 this.2.2
     case skip => exact fin' _ _ this.2.1 this.2.2
     case enter f' args => exact this.mono fun e w'' ⟨he, h1, h2⟩ => by subst he; exact fin' _ _ h1 h2
    | halt x w' => simp only [stepR] at this
end
theorem wp_region_own {id : Nat} {Q : Exit → Act → World → Prop} {a : Act} {w : World} {l : List Oper} (S : Ran → World → Prop) (R : World → World → Prop) (fk sk t : Nat) (D : Ran → Value → World → Prop) (n N : Nat) (hm : P.follows .mixedOrders = true) (hB : ownB .any l.toArray n N fk sk t = true)
 (hN : a.tmps.size = N) (hD : ∀ L i v w w', i ≠ fk → i ≠ sk → At .any l.toArray i L → L fk = true → D L v w → R w w' → D (upd L i) v w') (h0 : S (fun _ => false) w.drew)
 (h : wpOwn P .any l.toArray S R fk sk t D (fun a' => ∀ v L w', (∀ k, k < n → L k = true) → S L w' → D L v w' → wpList P l.toArray Q (l.drop n) (a'.put (some t) v) w') (l.take n) 0 a) : (Code.region id l.toArray true).wp P Q a w := by
 have ok := ownOk_of hB
 have hle : n ≤ l.length := by simpa using ok.le
 obtain ⟨val, good, hL⟩ := good_of_wpOwn (l.take n) 0 a h
 refine wp_region_any hm ?_
 have inv0 : HeadInv .any l.toArray n (Array.replicate l.toArray.size false) :=
  ⟨by simp, fun j oj _ hl => (by rw [getD_replicate_false] at hl; cases hl), fun t _ ht => getD_in (by simpa using ht) (getD_replicate_false _ _)⟩
 have key := head_runO (md := .any) (Q := Q) (ops := l.toArray) (S := S) (R := R) (val := val) (a0 := a) ok hN hD (by simpa using good) (l.length - n) (by
  intro listed b w' hinv hall inv
  refine (show l.length - n = (l.drop n).length by simp) ▸ wpAny_of_seq (l.drop n) n listed b w' (fun j => by simp [List.getElem?_drop]) ?_ ?_
  ·have hls : listed = (Array.replicate n true) ++ (Array.replicate (l.length - n) false) := by
    refine Array.ext (by simp [hinv.size]; omega) fun i h1 h2 => ?_
    have hsz : i < l.length := by have := hinv.size; simp at this; omega
    by_cases hin : i < n
    ·have := hall i hin
     rw [Array.getElem_append_left (by simpa using hin)]
     simpa [h1] using this
    ·have := hinv.tail i (by omega) (by simpa using hsz)
     rw [Array.getElem_append_right (by simp; omega)]
     simpa [h1] using this
   have := ok.seq
   rw [hls]
   simpa using this
  ·obtain ⟨v, hv, hd⟩ := inv.float (hall fk ok.fl)
   obtain ⟨of, hof, hofd⟩ := Option.bind_eq_some_iff.1 ok.fd
   have hb : b = (fin (fl1 fk) val (l.take n) 0 a).put (some t) v := by
    have e1 : b.defers = ((fin (fl1 fk) val (l.take n) 0 a).put (some t) v).defers := inv.defers.trans ((fin_defers _ _ _).symm.trans (put_defers' _ _ _).symm)
    have e2 : b.tmps = ((fin (fl1 fk) val (l.take n) 0 a).put (some t) v).tmps := by
     refine Array.ext_getElem? fun u => ?_
     by_cases hut : u = t
     ·subst hut
      rw [put_get_eq (by rw [fin_size, hN]; exact ok.bd fk of u ok.fl hof hofd), hv]
     rw [put_get_ne (by simpa using Ne.symm hut)]
     by_cases hex : ∃ k o', k < n ∧ l.toArray[k]? = some o' ∧ o'.dst = some u
     ·obtain ⟨k, o', hk, ho', hd'⟩ := hex
      have hkf : k ≠ fk := by
       rintro rfl
       have : o' = of := Option.some.inj (ho'.symm.trans hof)
       subst this
       rw [hofd] at hd'
       exact hut (Option.some.inj hd').symm
      have e1 := inv.calm k o' u hk ho' hd' (hall k hk) hkf
      have e2 := fin_at (fl := fl1 fk) (val := val) (l.take n) 0 a k o' (by have := take_get (ops := l.toArray) hk ho'; simpa using this) hd' (by rw [Nat.zero_add]; exact (fl1_at fk k).2 hkf)
       (by rw [hN]; exact ok.bd k o' u hk ho' hd') (by
         intro j oj hj hne hdj
         obtain ⟨hji, hoj⟩ := of_take_get (ops := l.toArray) (by simpa using hj)
         exact ok.ne j oj k o' u hji hk hoj ho' (Ne.symm hne) hdj hd')
      rw [Nat.zero_add] at e2
      rw [e1, e2]
     ·have e1 := inv.other u fun k o' hk ho' _ hd => hex ⟨k, o', hk, ho', hd⟩
      have e2 := fin_other (fl := fl1 fk) (val := val) (t := u) (l.take n) 0 a fun j oj hj _ hd => by
       obtain ⟨hji, hoj⟩ := of_take_get (ops := l.toArray) (by simpa using hj)
       exact hex ⟨j, oj, by omega, hoj, hd⟩
      rw [e1, e2]
    obtain ⟨bt, bd⟩ := b
    generalize (fin (fl1 fk) val (l.take n) 0 a).put (some t) v = z at *
    obtain ⟨zt, zd⟩ := z
    simp only at e1 e2
    rw [e1, e2]
   rw [hb]
   exact hL v (ranOf listed) w' (fun k hk => hall k hk) inv.s hd) n (Array.replicate l.toArray.size false) a w.drew (by
   have := List.countP_le_length (p := fun i => !(Array.replicate l.toArray.size false).getD i false) (l := List.range n)
   simpa using this) inv0 ⟨by rw [show ranOf (Array.replicate l.toArray.size false) = fun _ => false from funext fun k => getD_replicate_false _ _]; exact h0, rfl, rfl, fun k o t _ _ _ hl => (by rw [getD_replicate_false] at hl; cases hl), fun hl => (by rw [getD_replicate_false] at hl; cases hl), fun t _ => rfl⟩
 rw [show n + (l.length - n) = l.toArray.size by simp; omega] at key
 exact key
section
variable {L : Act → Prop} {o : Oper} {l : List Oper} {k : Nat} {a a' : Act} {v : Value}
theorem ow_plain (hf : k ≠ fk) (hk : k ≠ sk) (hg : o.guard = none) (hc : ∀ L w, At md ops k L → S L w → stepR P (fun w' => S (upd L k) w' ∧ R w w') ((execOp a.eval o).run P w) v) (ha : a.put o.dst v = a') (h : wpOwn P md ops S R fk sk t D L l (k + 1) a') : wpOwn P md ops S R fk sk t D L (o :: l) k a := by
 subst ha
 have e : (fl1 fk).at k = none := (fl1_at fk k).2 hf
 refine ⟨v, by unfold OneO; rw [if_neg hf, if_neg hk]; exact .inl ⟨by simp [Region.wanted, hg], hc⟩, ?_⟩
 simp only [stepAct, e]
 exact h
theorem ow_float (hf : k = fk) (hg : o.guard = none) (hc : ∀ L w, At md ops k L → S L w → someR (D (upd L k)) (fun w' => S (upd L k) w' ∧ R w w') ((execOp a.eval o).run P w)) (h : wpOwn P md ops S R fk sk t D L l (k + 1) a) : wpOwn P md ops S R fk sk t D L (o :: l) k a := by
 refine ⟨undef, by unfold OneO; rw [if_pos hf]; exact ⟨hg, hc⟩, ?_⟩
 cases e : (fl1 fk).at k with
 | none => exact absurd hf ((fl1_at fk k).1 e)
 | some d => simp only [stepAct, e]; exact h
theorem ow_sink (hf : k ≠ fk) (hk : k = sk) (hg : o.guard = none) (hd : o.dst = none) (hc : ∀ v L w, At md ops k L → S L w → D L v w → stepR P (fun w' => S (upd L k) w' ∧ D (upd L k) v w') ((execOp (a.put (some t) v).eval o).run P w) undef) (h : wpOwn P md ops S R fk sk t D L l (k + 1) a) : wpOwn P md ops S R fk sk t D L (o :: l) k a := by
 have e : (fl1 fk).at k = none := (fl1_at fk k).2 hf
 refine ⟨undef, by unfold OneO; rw [if_neg hf, if_pos hk]; exact ⟨hg, hd, hc⟩, ?_⟩
 simp only [stepAct, e, hd]
 exact h
theorem ow_done (h : L a) : wpOwn P md ops S R fk sk t D L [] k a := h
end
end
end Go.Proofs.Ytobhdldlhhigdaa

namespace Go.Proofs.Ytobhdldlhhigdaa
open Go.RowKit
section
variable {P : Program} {o : Oper} {ev : Operand → Value} {w : World} {g : Nat} {t ty : TypeId} {cs old : Array Value} {d : TypeDesc}
theorem step_load_row {T : World → Prop} (p : Operand) (ho : o.op = .load ty p) (hp : ev p = .pointer (some ⟨g, 0, none⟩)) (hb : Blk w g t cs)
 (hu : P.underlying ty = some d) (hd : (match d with | .struct _ | .array _ _ => true | _ => false) = true) (hi : (P.info? ty).map (·.size) = some cs.size) (h : T w) :
 stepR P T ((execOp ev o).run P w) (.agg cs) := by
 have hl := run_loadVar_row (P := P) w g t ty cs (0, 0) d hb hu hd hi
 unfold execOp
 simp only [ho, Instr.loadAt, Instr.sureAddr, Sem.run_bind, Sem.run_pure, Result.andThen_ok, hp, hl]
 exact step_val h
theorem calm_load_row (p : Operand) (ho : o.op = .load ty p) (hp : ev p = .pointer (some ⟨g, 0, none⟩)) (hb : Blk w g t cs)
 (hu : P.underlying ty = some d) (hd : (match d with | .struct _ | .array _ _ => true | _ => false) = true) (hi : (P.info? ty).map (·.size) = some cs.size) :
 calmR P w ((execOp ev o).run P w) (.agg cs) := by
 have hl := run_loadVar_row (P := P) w g t ty cs (0, 0) d hb hu hd hi
 unfold execOp
 simp only [ho, Instr.loadAt, Instr.sureAddr, Sem.run_bind, Sem.run_pure, Result.andThen_ok, hp, hl]
 exact calm_val
theorem step_store_row {T : World → Prop} (p v : Operand) (ho : o.op = .store ty p v) (hp : ev p = .pointer (some ⟨g, 0, none⟩)) (hv : ev v = .agg cs) (hb : Blk w g t old)
 (hi : (P.info? ty).map (·.size) = some cs.size) (hs : old.size = cs.size) (h1 : cs.all (·.oneCell') = true) (h : T (w.setRow g cs)) :
 stepR P T ((execOp ev o).run P w) undef := by
 have hl := run_storeVar_row (P := P) w g t ty old cs hb hi hs h1
 unfold execOp
 simp only [ho, Instr.storeAt, Instr.sureAddr, Sem.run_bind, Sem.run_pure, Result.andThen_ok, hp, hv, hl]
 exact step_skip h
/-- A cell that was there before is read as it was. -/
theorem below_cell {B : Nat} {a w : World} (h : Below B a w) {p : Addr} {v : Value} (hp : p.block < B) (hc : a.cell? p = some v) : w.cell? p = some v := by
 have hb := h.block p.block hp
 unfold World.cell? at hc ⊢
 rw [hb]
 exact hc
theorem row_only {w : World} {g : Nat} {cs : Array Value} : Only [g] w (w.setRow g cs) :=
 ⟨by simp [World.setRow], fun k _ hk => by
  have hne : ¬ g = k := fun e => hk (by simp [e])
  simp [World.setRow, Array.getElem?_modify, hne]⟩
end
end Go.Proofs.Ytobhdldlhhigdaa

namespace Go.Proofs.Ytobhdldlhhigdaa
open Go.RowKit
theorem run_max2 {P : Program} (w : World) (ts : Array TypeId) (ty : TypeId) (k : IntKind) (m n : Int) : (Builtin.max_ ts ty #[.int k m, .int k n]).run P w = .ok (.int k (max m n)) w := by
 have e : max m n = if m < n then n else m := by split <;> omega
 rw [e]
 simp [Builtin.max_, Builtin.max2, List.foldlM]
 try split <;> simp_all
theorem run_min2 {P : Program} (w : World) (ts : Array TypeId) (ty : TypeId) (k : IntKind) (m n : Int) : (Builtin.min_ ts ty #[.int k m, .int k n]).run P w = .ok (.int k (min m n)) w := by
 have e : min m n = if n < m then n else m := by split <;> omega
 rw [e]
 simp [Builtin.min_, Builtin.min2, List.foldlM]
 try split <;> simp_all
theorem wpList_max2 {P : Program} {ops : Array Oper} {rest : List Oper} {o : Oper} {a : Act} {w : World} {Q : Exit → Act → World → Prop} (hgd : o.guard = none) (x y : Operand) (ts : Array TypeId)
 (ho : o.op = .call { callee := .builtin .max, args := #[x, y], argTypes := ts }) (k : IntKind) (m n : Int) (hx : a.eval x = .int k m) (hy : a.eval y = .int k n)
 (h : wpList P ops Q rest (a.put o.dst (.int k (max m n))) w) : wpList P ops Q (o :: rest) a w :=
 wpList_plain hgd fun _ hK => by
  unfold Oper.wp execOp
  simp only [ho, resolve, invoke, builtin, Sem.run_bind, Sem.run_pure, Result.andThen_ok, List.map_toArray, List.map_cons, List.map_nil, hx, hy, run_max2]
  exact hK _ _ h
theorem wpList_min2 {P : Program} {ops : Array Oper} {rest : List Oper} {o : Oper} {a : Act} {w : World} {Q : Exit → Act → World → Prop} (hgd : o.guard = none) (x y : Operand) (ts : Array TypeId)
 (ho : o.op = .call { callee := .builtin .min, args := #[x, y], argTypes := ts }) (k : IntKind) (m n : Int) (hx : a.eval x = .int k m) (hy : a.eval y = .int k n)
 (h : wpList P ops Q rest (a.put o.dst (.int k (min m n))) w) : wpList P ops Q (o :: rest) a w :=
 wpList_plain hgd fun _ hK => by
  unfold Oper.wp execOp
  simp only [ho, resolve, invoke, builtin, Sem.run_bind, Sem.run_pure, Result.andThen_ok, List.map_toArray, List.map_cons, List.map_nil, hx, hy, run_min2]
  exact hK _ _ h
end Go.Proofs.Ytobhdldlhhigdaa

namespace Go.Proofs.Ytobhdldlhhigdaa
open Go.RowKit
def Q4.cs (g : Q4) : Array Value := #[.int .i64 g.a, .int .i64 g.b, .int .i64 g.c, .int .i64 g.d]
def Q4.ls (g : Q4) : List Value := [.int .i64 g.a, .int .i64 g.b, .int .i64 g.c, .int .i64 g.d]
def qcells (l : List Q4) : List Value := l.flatMap Q4.ls
set_option maxRecDepth 100000 in
theorem qcells_len (l : List Q4) : (qcells l).length = l.length * 4 := by
 induction l with
 | nil => rfl
 | cons g l ih => simp only [qcells, List.flatMap_cons, List.length_append, List.length_cons] at *; rw [ih]; simp [Q4.ls]; omega
set_option maxRecDepth 100000 in
theorem qcells_at (l : List Q4) (k : Nat) (g : Q4) (h : l[k]? = some g) (j : Nat) (hj : j < 4) : (qcells l)[k * 4 + j]? = g.ls[j]? := by
 induction l generalizing k with
 | nil => simp at h
 | cons x l ih =>
  simp only [qcells, List.flatMap_cons]
  cases k with
  | zero =>
   simp only [List.getElem?_cons_zero, Option.some.injEq] at h
   subst h
   rw [List.getElem?_append_left (by simp [Q4.ls]; omega)]
   simp
  | succ k =>
   rw [List.getElem?_append_right (by simp [Q4.ls]; omega)]
   have := ih k (by simpa using h)
   simp only [qcells] at this
   rw [← this]
   congr 1
   simp [Q4.ls]
   omega
set_option maxRecDepth 100000 in
theorem qcells_append (a b : List Q4) : qcells (a ++ b) = qcells a ++ qcells b := by simp [qcells]
def Qs (w : World) (A : Option Addr) (l : List Q4) : Prop := Reads w w.heap.size 4 A l.length (qcells l)
set_option maxRecDepth 100000 in
theorem Qs.grows {w w' : World} {A : Option Addr} {l : List Q4} (h : Qs w A l) (hg : Grows w w') : Qs w' A l := Reads.grows h hg
set_option maxRecDepth 100000 in
theorem Qs.at_ {w : World} {A : Option Addr} {l : List Q4} (h : Qs w A l) {k : Nat} (hk : k < l.length) :
 ∃ ad g, A = some ad ∧ ad.block < w.heap.size ∧ l[k]? = some g ∧ ∀ j v, g.cs[j]? = some v → w.cell? (ad.add (k * 4 + j)) = some v := by
 obtain ⟨ad, e, hb, hc⟩ := h.2 (by omega)
 refine ⟨ad, l[k], e, hb, List.getElem?_eq_getElem hk, fun j v hv => hc _ _ ?_⟩
 have hj : j < 4 := by
  have := (Array.getElem?_eq_some_iff.1 hv).1
  simpa [Q4.cs] using this
 rw [qcells_at l k _ (List.getElem?_eq_getElem hk) j hj]
 simpa [Q4.cs, Q4.ls] using hv
/-- The cells of an element, as a walk asks for them. -/
def CellsQ (w : World) (p : Addr) (g : Q4) : Prop :=
 w.cell? p = some (.int .i64 g.a) ∧ w.cell? { block := p.block, off := p.off + 1 } = some (.int .i64 g.b) ∧ w.cell? { block := p.block, off := p.off + 2 } = some (.int .i64 g.c) ∧
  w.cell? { block := p.block, off := p.off + 3 } = some (.int .i64 g.d)
set_option maxRecDepth 100000 in
theorem Qs.elem {w : World} {A : Option Addr} {l : List Q4} (h : Qs w A l) {k : Nat} (hk : k < l.length) :
 ∃ ad g, A = some ad ∧ ad.block < w.heap.size ∧ l[k]? = some g ∧ CellsQ w (ad.add (k * 4)) g := by
 obtain ⟨ad, g, e, hb, hg, hc⟩ := h.at_ hk
 refine ⟨ad, g, e, hb, hg, ?_⟩
 have e0 : (ad.add (k * 4)).add 0 = ad.add (k * 4) := by simp [Addr.add]
 have hj : ∀ j v, g.cs[j]? = some v → w.cell? ((ad.add (k * 4)).add j) = some v := fun j v hv => by rw [add_of_add]; exact hc j v hv
 have ej : ∀ j, j ≠ 0 → (ad.add (k * 4)).add j = { block := (ad.add (k * 4)).block, off := (ad.add (k * 4)).off + j } := fun j hj0 => by
  generalize ad.add (k * 4) = p
  unfold Addr.add
  rw [if_neg hj0]
 refine ⟨by have := hj 0 _ rfl; rwa [e0] at this, ?_, ?_, ?_⟩
 ·have := hj 1 _ rfl; rwa [ej 1 (by omega)] at this
 ·have := hj 2 _ rfl; rwa [ej 2 (by omega)] at this
 ·have := hj 3 _ rfl; rwa [ej 3 (by omega)] at this
set_option maxRecDepth 100000 in
/-- An element, wherever the world has grown to. -/
theorem Qs.addr {w : World} {A : Option Addr} {l : List Q4} (h : Qs w A l) {k : Nat} (hk : k < l.length) : ∃ ad x, A = some ad ∧ ad.block < w.heap.size ∧ l[k]? = some x ∧ ∀ w', Grows w w' → CellsQ w' (ad.add (k * 4)) x := by
 obtain ⟨ad, x, e, hb, hx, _⟩ := h.elem hk
 refine ⟨ad, x, e, hb, hx, fun w' hg => ?_⟩
 obtain ⟨ad', x', e', _, hx', hc⟩ := (h.grows hg).elem hk
 rw [e] at e'
 injection e' with e'
 rw [hx] at hx'
 injection hx' with hx'
 subst e' hx'
 exact hc
set_option maxRecDepth 100000 in
theorem qs_take {w : World} {A : Option Addr} {l : List Q4} (h : Qs w A l) (k : Nat) (hk : k ≤ l.length) : Qs w A (l.take k) := by
 have e : ∀ j, j < k * 4 → (qcells (l.take k))[j]? = (qcells l)[j]? := by
  intro j hj
  have : qcells l = qcells (l.take k) ++ qcells (l.drop k) := by rw [← qcells_append, List.take_append_drop]
  rw [this, List.getElem?_append_left (by rw [qcells_len, List.length_take]; omega)]
 refine ⟨by rw [qcells_len], fun hn => ?_⟩
 obtain ⟨ad, e1, hb, hc⟩ := h.2 (by rw [List.length_take] at hn; omega)
 refine ⟨ad, e1, hb, fun j v hv => hc j v ?_⟩
 have hj := (List.getElem?_eq_some_iff.1 hv).1
 rw [qcells_len, List.length_take] at hj
 rw [← e j (by omega)]
 exact hv
set_option maxRecDepth 100000 in
theorem grown_none {w w' : World} (h : Grows w w') : w.grownBy w' none := ⟨h.os, h.tape, h.output, h.size, fun k hk _ => h.block k hk⟩
set_option maxRecDepth 100000 in
theorem own_grows {w w' : World} {base : Nat} {e : TypeId} {size n : Nat} {v : Value} {xs : List Value} (h : w.ownsRow base e size v n xs) (hg : Grows w w') : w'.ownsRow base e size v n xs := by
 refine h.kept (grown_none hg) ?_
 cases e : v.ownBlock
 ·exact .inl rfl
 ·exact .inr (by simp)
set_option maxRecDepth 100000 in
theorem qinfo_n : ∃ i : TypeInfo, Try.prog.info? 46 = some i ∧ i.size = 4 ∧ i.bytes = 32 ∧ i.zero = some (.agg #[.int .i64 0, .int .i64 0, .int .i64 0, .int .i64 0]) ∧ (Value.agg #[.int .i64 0, .int .i64 0, .int .i64 0, .int .i64 0]).cells.size = 4 := ⟨_, by first | exact Try.info46 | rfl, rfl, rfl, rfl, rfl⟩
set_option maxRecDepth 100000 in
theorem qinfo_l : ∃ i : TypeInfo, Try.prog.info? 49 = some i ∧ i.size = 4 ∧ i.bytes = 32 ∧ i.zero = some (.agg #[.int .i64 0, .int .i64 0, .int .i64 0, .int .i64 0]) ∧ (Value.agg #[.int .i64 0, .int .i64 0, .int .i64 0, .int .i64 0]).cells.size = 4 := ⟨_, by first | exact Try.info49 | rfl, rfl, rfl, rfl, rfl⟩
set_option maxRecDepth 100000 in
theorem qs_own {w : World} {base : Nat} {v : Value} {e : TypeId} {l : List Q4} (h : w.ownsRow base e 4 v l.length (qcells l)) : ∃ (A : Option Addr) (c : Nat), v = .slice A l.length c ∧ l.length ≤ c ∧ Qs w A l := by
 rcases h.2 with ⟨rfl, hn⟩ | ⟨g, cap, cur, rfl, hb, hg, hnc, hm, hs, ht⟩
 ·exact ⟨none, 0, by rw [hn], by omega, Reads.of_own (c := 0) (by simpa [hn] using h)⟩
 ·exact ⟨_, cap, rfl, hnc, Reads.of_own h⟩
set_option maxRecDepth 100000 in
theorem qcells_one (l : List Q4) : ∀ u ∈ qcells l, u.oneCell' = true := by
 intro u hu
 obtain ⟨g, _, hg⟩ := List.mem_flatMap.1 hu
 simp only [Q4.ls, List.mem_cons, List.not_mem_nil, or_false] at hg
 rcases hg with rfl | rfl | rfl | rfl <;> rfl
set_option maxRecDepth 100000 in
set_option maxHeartbeats 4000000 in
theorem fine_any (n : Q4) (w : World) : Calls Try.prog 63 #[.agg n.cs] w fun e w' => e = .returned (.bool (fineN n)) ∧ Grows w w' := by
 obtain ⟨a, b, c, d⟩ := n
 simp only [Q4.cs]
 go_enter Try.func63, Try.ntmps63
 go_wp2
 all_goals (go_ret; refine ⟨ret_bool ?_, (Below.refl _ _).alloc (Nat.le_refl _) _⟩; apply Bool.eq_iff_iff.2; simp only [fineN, Bool.and_eq_true, Bool.or_eq_true, decide_eq_true_eq, beq_iff_eq, beq_eq_false_iff_ne, ne_eq, Bool.false_eq_true, false_iff] at * <;> omega)
set_option maxRecDepth 100000 in
set_option maxHeartbeats 4000000 in
theorem fits_any (n : Q4) (w : World) : Calls Try.prog 49 #[.agg n.cs] w fun e w' => e = .returned (.bool (fineN n)) ∧ Grows w w' := by
 obtain ⟨a, b, c, d⟩ := n
 simp only [Q4.cs]
 go_enter Try.func49, Try.ntmps49
 go_wp2
 all_goals (go_ret; refine ⟨ret_bool ?_, (Below.refl _ _).alloc (Nat.le_refl _) _⟩; apply Bool.eq_iff_iff.2; simp only [fineN, Bool.and_eq_true, Bool.or_eq_true, decide_eq_true_eq, beq_iff_eq, beq_eq_false_iff_ne, ne_eq, Bool.false_eq_true, false_iff] at * <;> omega)
end Go.Proofs.Ytobhdldlhhigdaa

namespace Go.Proofs.Ytobhdldlhhigdaa
open Go.RowKit
set_option maxRecDepth 100000 in
theorem find_up {ns : List Q4} {k : Nat} {x : Q4} {id : Int} (h : findN (ns.take k) id = none) (hx : ns[k]? = some x) (hne : ¬ x.a = id) : findN (ns.take (k + 1)) id = none := by
 rw [take_snoc hx]
 unfold findN at *
 rw [List.find?_append, h]
 simp [hne]
set_option maxRecDepth 100000 in
theorem find_at {ns : List Q4} {k : Nat} {x : Q4} {id : Int} (h : findN (ns.take k) id = none) (hx : ns[k]? = some x) (he : x.a = id) : findN ns id = some x := by
 have : ns = ns.take k ++ x :: ns.drop (k + 1) := by
  have h2 := take_snoc hx
  have h3 := List.take_append_drop (k + 1) ns
  rw [h2] at h3
  simpa using h3.symm
 rw [this]
 unfold findN at *
 rw [List.find?_append, h]
 simp [he]
set_option maxRecDepth 100000 in
theorem ints_val {w : World} {A : Option Addr} {l : List Int} (h : Reads w w.heap.size 1 A l.length (l.map (Value.int .i64))) {k : Nat} (hk : k < l.length) : ∃ ad x, A = some ad ∧ l[k]? = some x ∧ w.cell? (ad.add k) = some (.int .i64 x) := by
 obtain ⟨ad, u, rfl, -, hu, hc⟩ := h.at_ hk
 rw [List.getElem?_map, List.getElem?_eq_getElem hk] at hu
 simp only [Option.map_some, Option.some.injEq] at hu
 subst hu
 exact ⟨ad, _, rfl, List.getElem?_eq_getElem hk, hc⟩
set_option maxRecDepth 100000 in
set_option maxHeartbeats 4000000 in
theorem node_any (A A2 : Option Addr) (c c2 m : Nat) (ns : List Q4) (id : Int) (w : World) (h : Qs w A ns) (hl : ns.length ≤ 9223372036854775807) :
 Calls Try.prog 43 #[.agg #[.slice A ns.length c, .slice A2 m c2], .int .i64 id] w fun e w' => e = .returned (.tuple #[.agg (nodeN ns id).cs, .bool (findN ns id).isSome]) ∧ Grows w w' := by
 have k2 := (Blk.new w 26 #[.slice A ns.length c, .slice A2 m c2]).alloc (Obj.cells #[.int .i64 0, .int .i64 0, .int .i64 0, .int .i64 0] 46)
 have k4 := blk_new_at (X := w.alloc (Obj.cells #[.slice A ns.length c, .slice A2 m c2] 26)) (n := w.heap.size + 1) (t := 46) (cs := #[.int .i64 0, .int .i64 0, .int .i64 0, .int .i64 0]) (by simp)
 have hB := ((Below.refl w.heap.size w).alloc (Nat.le_refl _) (Obj.cells #[.slice A ns.length c, .slice A2 m c2] 26)).alloc (by simp) (Obj.cells #[.int .i64 0, .int .i64 0, .int .i64 0, .int .i64 0] 46)
 go_enter Try.func43, Try.ntmps43
 go_upto_region 1 with fail
 generalize World.alloc (World.alloc w _) _ = w1 at *
 have x2 := k2.cell 0
 go_wp2_with fail
 clear x2 k2
 have hge : w.heap.size ≤ w.heap.size + 1 := Nat.le_succ _
 generalize w.heap.size + 1 = G4 at *
 go_loopw [11] (fun i wr => ∃ k : Nat, k ≤ ns.length ∧ i = .int .i64 k ∧ Hid (findN (ns.take k) id = none) ∧ Below w.heap.size w wr ∧ Blk wr G4 46 #[.int .i64 0, .int .i64 0, .int .i64 0, .int .i64 0]) (fun i _ => ns.length - (intOf i).toNat)
 case atStart => exact ⟨0, by omega, rfl, Lib.hid rfl, hB, k4⟩
 case round =>
  clear hB k4
  obtain ⟨k, hk, rfl, hf, hB, k4⟩ := hrel
  by_cases hlt : k < ns.length
  ·obtain ⟨ad, x, rfl, had, hx, c0, c1, c2, c3⟩ := (h.grows hB).elem hlt
   have HX := Lib.hid hx
   clear hx
   have k7 := Blk.new wr 46 #[.int .i64 x.a, .int .i64 x.b, .int .i64 x.c, .int .i64 x.d]
   have hq := (Below.refl wr.heap.size wr).alloc (Nat.le_refl _) (Obj.cells #[.int .i64 x.a, .int .i64 x.b, .int .i64 x.c, .int .i64 x.d] 46)
   have k40 := k4
   go_upto_region 4 with fail
   clear c0 c1 c2 c3
   replace hB := below_grows hB (Nat.le_refl _) hq
   replace k4 := k4.grows hq
   have hne : ¬ G4 = wr.heap.size := fun e => by subst e; exact absurd k40.lt (Nat.lt_irrefl _)
   clear hq k40
   generalize World.alloc wr _ = w4 at *
   generalize wr.heap.size = G7 at *
   have x7 := k7.cell
   by_cases e : x.a = id
   ·have HE := Lib.hid (find_at hf.out HX.out e)
    have y4 := k4.frozen
    have x4 := k4.cell
    subst e
    go_wp2
    refine bodyPost_ret (v := .tuple #[.agg #[.int .i64 x.a, .int .i64 x.b, .int .i64 x.c, .int .i64 x.d], .bool true]) (by simp [results, Try.results43, go_sem, x4]) rfl ⟨?_, ?_⟩
    ·rw [show nodeN ns x.a = x by unfold nodeN; rw [HE.out]; rfl, HE.out]
     rfl
    ·iterate 4 refine Below.setCell ?_ (by first | exact hge | (simp; omega)) _
     exact hB
   ·have HE := Lib.hid (find_up hf.out HX.out e)
    have e2 : (x.a == id) = false := by simp [e]
    go_wp2
    go_roundw
    case rel => exact ⟨k + 1, by omega, by go_num, HE, hB, k4⟩
    case measure => simp [intOf]; omega
  ·have HE : Hid (findN ns id = none) := Lib.hid (by have := hf.out; rwa [List.take_of_length_le (by omega)] at this)
   have x4 := k4.cell
   have y4 := k4.frozen
   go_wp2
   refine bodyPost_ret (v := .tuple #[.agg #[.int .i64 0, .int .i64 0, .int .i64 0, .int .i64 0], .bool false]) (by simp [results, Try.results43, go_sem, x4]) rfl ⟨?_, ?_⟩
   ·rw [show nodeN ns id = q0 by unfold nodeN; rw [HE.out]; rfl, HE.out]
    rfl
   ·iterate 4 refine Below.setCell ?_ (by first | exact hge | (simp; omega)) _
    exact hB
set_option maxRecDepth 100000 in
theorem cont_up {l : List Int} {k : Nat} {x id : Int} (h : (l.take k).contains id = false) (hx : l[k]? = some x) (hne : ¬ x = id) : (l.take (k + 1)).contains id = false := by
 rw [take_snoc hx]
 simp only [List.contains_eq_mem, decide_eq_false_iff_not, List.mem_append, List.mem_singleton] at *
 rintro (h1 | h1)
 ·exact h h1
 ·exact hne h1.symm
set_option maxRecDepth 100000 in
theorem cont_at {l : List Int} {k : Nat} {x : Int} (hx : l[k]? = some x) : l.contains x = true := by
 simp only [List.contains_eq_mem, decide_eq_true_eq]
 exact List.mem_of_getElem? hx
set_option maxRecDepth 100000 in
set_option maxHeartbeats 4000000 in
theorem in_any (A : Option Addr) (c : Nat) (l : List Int) (id : Int) (w : World) (h : Reads w w.heap.size 1 A l.length (l.map (Value.int .i64))) (hl : l.length ≤ 9223372036854775807) :
 Calls Try.prog 62 #[.slice A l.length c, .int .i64 id] w fun e w' => e = .returned (.bool (l.contains id)) ∧ w = w' := by
 go_enter Try.func62, Try.ntmps62
 go_wp2_with fail
 go_loop [9] (fun i => ∃ k : Nat, k ≤ l.length ∧ i = .int .i64 k ∧ Hid ((l.take k).contains id = false)) (fun i => l.length - (intOf i).toNat)
 case atStart => exact ⟨0, by omega, rfl, Lib.hid (by simp)⟩
 case round =>
  obtain ⟨k, hk, rfl, hf⟩ := hrel
  by_cases hlt : k < l.length
  ·obtain ⟨ad, x, rfl, hx, c0⟩ := ints_val h hlt
   have HX := Lib.hid hx
   clear hx
   by_cases e : x = id
   ·subst e
    have HE := Lib.hid (cont_at HX.out)
    go_wp2
    go_ret
    have he2 := HE.out
    simp only [List.contains_eq_mem] at he2
    rw [he2]
    exact ⟨rfl, rfl⟩
   ·have HE := Lib.hid (cont_up hf.out HX.out e)
    have e2 : (x == id) = false := by simp [e]
    go_wp2
    go_round
    case rel => exact ⟨k + 1, by omega, by go_num, HE⟩
    case measure => simp [intOf]; omega
  ·have HE : Hid (l.contains id = false) := Lib.hid (by have := hf.out; rwa [List.take_of_length_le (by omega)] at this)
   go_wp2
   go_ret
   have he2 := HE.out
   simp only [List.contains_eq_mem] at he2
   rw [he2]
   exact ⟨rfl, rfl⟩
/-- The place of a node. -/
def placeN (ns : List Q4) (id : Int) : Option Nat := ns.findIdx? fun n => n.a == id
def placeV (o : Option Nat) : Int := match o with | some k => (k : Int) | none => -1
set_option maxRecDepth 100000 in
theorem place_up {ns : List Q4} {k : Nat} {x : Q4} {id : Int} (h : placeN (ns.take k) id = none) (hx : ns[k]? = some x) (hne : ¬ x.a = id) : placeN (ns.take (k + 1)) id = none := by
 unfold placeN at *
 rw [take_snoc hx]
 rw [List.findIdx?_eq_none_iff] at *
 intro y hy
 rcases List.mem_append.1 hy with hy | hy
 ·exact h y hy
 ·simp only [List.mem_singleton] at hy
  subst hy
  simp [hne]
set_option maxRecDepth 100000 in
theorem place_at {ns : List Q4} {k : Nat} {x : Q4} {id : Int} (h : placeN (ns.take k) id = none) (hx : ns[k]? = some x) (he : x.a = id) : placeN ns id = some k := by
 unfold placeN at *
 rw [List.findIdx?_eq_none_iff] at h
 rw [List.findIdx?_eq_some_iff_getElem]
 obtain ⟨hk, hx⟩ := List.getElem?_eq_some_iff.1 hx
 refine ⟨hk, by rw [hx]; simp [he], fun j hj => ?_⟩
 have := h (ns[j]'(by omega)) (by
  rw [List.mem_take_iff_getElem]
  exact ⟨j, by omega, rfl⟩)
 simp only [Bool.not_eq_true]
 exact this
set_option maxRecDepth 100000 in
set_option maxHeartbeats 4000000 in
theorem place_any (A A2 : Option Addr) (c c2 m : Nat) (ns : List Q4) (id : Int) (w : World) (h : Qs w A ns) (hl : ns.length ≤ 9223372036854775807) :
 Calls Try.prog 37 #[.agg #[.slice A ns.length c, .slice A2 m c2], .int .i64 id] w fun e w' => e = .returned (.int .i64 (placeV (placeN ns id))) ∧ Grows w w' := by
 have k2 := Blk.new w 26 #[.slice A ns.length c, .slice A2 m c2]
 have hB := (Below.refl w.heap.size w).alloc (Nat.le_refl _) (Obj.cells #[.slice A ns.length c, .slice A2 m c2] 26)
 go_enter Try.func37, Try.ntmps37
 go_upto_region 1 with fail
 generalize World.alloc w _ = w1 at *
 have h1 := h.grows hB
 have x2 := k2.cell 0
 go_wp2_with fail
 go_loop [5] (fun i => ∃ k : Nat, k ≤ ns.length ∧ i = .int .i64 k ∧ Hid (placeN (ns.take k) id = none)) (fun i => ns.length - (intOf i).toNat)
 case atStart => exact ⟨0, by omega, rfl, Lib.hid rfl⟩
 case round =>
  obtain ⟨k, hk, rfl, hf⟩ := hrel
  by_cases hlt : k < ns.length
  ·obtain ⟨ad, x, rfl, had, hx, c0, c1, c2, c3⟩ := h1.elem hlt
   have HX := Lib.hid hx
   clear hx
   by_cases e : x.a = id
   ·have HE := Lib.hid (place_at hf.out HX.out e)
    subst e
    go_wp2
    go_ret
    rw [HE.out]
    exact ⟨rfl, hB⟩
   ·have HE := Lib.hid (place_up hf.out HX.out e)
    have e2 : (x.a == id) = false := by simp [e]
    go_wp2
    go_round
    case rel => exact ⟨k + 1, by omega, by go_num, HE⟩
    case measure => simp [intOf]; omega
  ·have HE : Hid (placeN ns id = none) := Lib.hid (by have := hf.out; rwa [List.take_of_length_le (by omega)] at this)
   go_wp2
   go_ret
   rw [HE.out]
   exact ⟨rfl, hB⟩
end Go.Proofs.Ytobhdldlhhigdaa

namespace Go.Proofs.Ytobhdldlhhigdaa
/-! The sums along paths: S x is the cost of x and the greatest sum of those that x waits for. -/
def bestS (S : Int → Int) (ls : List Q4) (x : Int) : Int := ls.foldl (fun o k => if k.c = x then max o (S k.a) else o) 0
theorem best_spec (S : Int → Int) (ls : List Q4) (x : Int) : 0 ≤ bestS S ls x ∧ (∀ k ∈ ls, k.c = x → S k.a ≤ bestS S ls x) ∧ (bestS S ls x = 0 ∨ ∃ k ∈ ls, k.c = x ∧ S k.a = bestS S ls x) := by
 have key : ∀ (ls : List Q4) (o : Int), 0 ≤ o → (let r := ls.foldl (fun o k => if k.c = x then max o (S k.a) else o) o; o ≤ r ∧ (∀ k ∈ ls, k.c = x → S k.a ≤ r) ∧ (r = o ∨ ∃ k ∈ ls, k.c = x ∧ S k.a = r)) := by
  intro ls
  induction ls with
  | nil => intro o _; exact ⟨Int.le_refl _, by simp, .inl rfl⟩
  | cons k ls ih =>
   intro o ho
   rw [List.foldl_cons]
   by_cases hc : k.c = x
   ·rw [if_pos hc]
    obtain ⟨h1, h2, h3⟩ := ih (max o (S k.a)) (by omega)
    refine ⟨by omega, fun q hq hqc => ?_, ?_⟩
    ·rcases List.mem_cons.1 hq with rfl | hq
     ·omega
     ·exact h2 q hq hqc
    ·rcases h3 with h3 | ⟨q, hq, h3⟩
     ·by_cases hm : o ≤ S k.a
      ·exact .inr ⟨k, by simp, hc, by rw [h3]; omega⟩
      ·exact .inl (by rw [h3]; omega)
     ·exact .inr ⟨q, by simp [hq], h3⟩
   ·rw [if_neg hc]
    obtain ⟨h1, h2, h3⟩ := ih o ho
    refine ⟨h1, fun q hq hqc => ?_, h3.imp_right fun ⟨q, hq, r⟩ => ⟨q, by simp [hq], r⟩⟩
    rcases List.mem_cons.1 hq with rfl | hq
    ·exact absurd hqc hc
    ·exact h2 q hq hqc
 exact key ls 0 (Int.le_refl _)
/-- One node more has its sum. -/
def addS (W : Int → Int) (ls : List Q4) (S : Int → Int) (x : Int) : Int → Int := fun y => if y = x then bestS S ls x + W x else S y
def sumsS (W : Int → Int) (ls : List Q4) (order : List Int) : Int → Int := order.foldl (addS W ls) (fun _ => 0)
def maxS (S : Int → Int) : List Int → Int
 | [] => 0
 | x :: o => max (S x) (maxS S o)
theorem max_le (S : Int → Int) : ∀ {o : List Int} {x : Int}, x ∈ o → S x ≤ maxS S o
 | y :: o, x, h => by
  simp only [maxS]
  rcases List.mem_cons.1 h with rfl | h
  ·omega
  ·have := max_le S h
   omega
theorem max_nonneg (S : Int → Int) : ∀ (o : List Int), 0 ≤ maxS S o
 | [] => Int.le_refl _
 | y :: o => by simp only [maxS]; have := max_nonneg S o; omega
theorem max_bd (S : Int → Int) {b : Int} (hb : 0 ≤ b) : ∀ {o : List Int}, (∀ x ∈ o, S x ≤ b) → maxS S o ≤ b
 | [], _ => hb
 | y :: o, h => by
  simp only [maxS]
  have h1 := h y (by simp)
  have h2 := max_bd S hb (o := o) fun x hx => h x (by simp [hx])
  omega
/-- The greatest sum of all. -/
def critS (W : Int → Int) (ls : List Q4) (order : List Int) : Int := maxS (sumsS W ls order) order
/-- Later nodes change no earlier sum. -/
theorem add_other (W : Int → Int) (ls : List Q4) : ∀ (o : List Int) (S : Int → Int) {y : Int}, y ∉ o → o.foldl (addS W ls) S y = S y
 | [], _, _, _ => rfl
 | x :: o, S, y, h => by
  rw [List.foldl_cons, add_other W ls o _ fun hy => h (by simp [hy])]
  unfold addS
  rw [if_neg fun e => h (by simp [e])]
theorem best_congr {S T : Int → Int} {ls : List Q4} {x : Int} (h : ∀ k ∈ ls, k.c = x → S k.a = T k.a) : bestS S ls x = bestS T ls x := by
 unfold bestS
 generalize (0 : Int) = o
 induction ls generalizing o with
 | nil => rfl
 | cons k ls ih =>
  rw [List.foldl_cons, List.foldl_cons]
  by_cases hc : k.c = x
  ·rw [if_pos hc, if_pos hc, h k (by simp) hc]
   exact ih (fun q hq => h q (by simp [hq])) _
  ·rw [if_neg hc, if_neg hc]
   exact ih (fun q hq => h q (by simp [hq])) _
/-- Each node's sum is its cost and the greatest of those that it waits for. -/
theorem sums_eq {W : Int → Int} {ls : List Q4} {order : List Int} (hn : order.Nodup) (hp : ∀ p i q, order = p ++ i :: q → ∀ k ∈ ls, k.c = i → k.a ∈ p) {x : Int} (hx : x ∈ order) :
 sumsS W ls order x = bestS (sumsS W ls order) ls x + W x := by
 obtain ⟨p, q, rfl⟩ := List.append_of_mem hx
 have hnd := hn
 rw [List.nodup_append] at hnd
 obtain ⟨hnp, hnq, hdis⟩ := hnd
 rw [List.nodup_cons] at hnq
 unfold sumsS
 rw [List.foldl_append, List.foldl_cons]
 generalize hS : p.foldl (addS W ls) (fun _ => 0) = S
 rw [add_other W ls q _ hnq.1]
 have e1 : addS W ls S x x = bestS S ls x + W x := by simp [addS]
 rw [e1]
 congr 1
 refine best_congr fun k hk hc => ?_
 have hkp := hp p x q rfl k hk hc
 have h1 : k.a ∉ q := fun h => hdis k.a hkp k.a (by simp [h]) rfl
 have h2 : k.a ≠ x := fun h => hdis k.a hkp x (by simp) h
 rw [add_other W ls q _ h1]
 simp [addS, h2]
/-- Two graphs: fewer links, lower costs: lower sums. -/
theorem sums_le {W W' : Int → Int} {ls ls' : List Q4} {order order' : List Int} (hn : order.Nodup) (hp : ∀ p i q, order = p ++ i :: q → ∀ k ∈ ls, k.c = i → k.a ∈ p)
 (hn' : order'.Nodup) (hp' : ∀ p i q, order' = p ++ i :: q → ∀ k ∈ ls', k.c = i → k.a ∈ p) (hsub : ∀ x ∈ order', x ∈ order) (hls : ∀ k ∈ ls', k ∈ ls) (hW : ∀ x ∈ order', W' x ≤ W x) :
 ∀ x ∈ order', sumsS W' ls' order' x ≤ sumsS W ls order x := by
 have key : ∀ q p, order' = p ++ q → (∀ x ∈ p, sumsS W' ls' order' x ≤ sumsS W ls order x) → ∀ x ∈ order', sumsS W' ls' order' x ≤ sumsS W ls order x := by
  intro q
  induction q with
  | nil => intro p e h x hx; rw [e, List.append_nil] at hx; exact h x hx
  | cons z q ih =>
   intro p e h
   refine ih (p ++ [z]) (by simp [e]) ?_
   intro x hx
   rcases List.mem_append.1 hx with hx | hx
   ·exact h x hx
   ·simp only [List.mem_singleton] at hx
    subst hx
    have hz : x ∈ order' := by rw [e]; simp
    rw [sums_eq hn' hp' hz, sums_eq hn hp (hsub x hz)]
    have h1 := hW x hz
    have h2 : bestS (sumsS W' ls' order') ls' x ≤ bestS (sumsS W ls order) ls x := by
     obtain ⟨a1, a2, a3⟩ := best_spec (sumsS W' ls' order') ls' x
     obtain ⟨b1, b2, b3⟩ := best_spec (sumsS W ls order) ls x
     rcases a3 with a3 | ⟨k, hk, hc, a3⟩
     ·omega
     ·have := h k.a (hp' p x q e k hk hc)
      have := b2 k (hls k hk) hc
      omega
    omega
 exact key order' [] rfl (by simp)
theorem crit_le {W W' : Int → Int} {ls ls' : List Q4} {order order' : List Int} (hn : order.Nodup) (hp : ∀ p i q, order = p ++ i :: q → ∀ k ∈ ls, k.c = i → k.a ∈ p)
 (hn' : order'.Nodup) (hp' : ∀ p i q, order' = p ++ i :: q → ∀ k ∈ ls', k.c = i → k.a ∈ p) (hsub : ∀ x ∈ order', x ∈ order) (hls : ∀ k ∈ ls', k ∈ ls) (hW : ∀ x ∈ order', W' x ≤ W x) :
 critS W' ls' order' ≤ critS W ls order := by
 refine max_bd _ (max_nonneg _ _) fun x hx => ?_
 have h1 := sums_le hn hp hn' hp' hsub hls hW x hx
 have h2 := max_le (sumsS W ls order) (hsub x hx)
 exact Int.le_trans h1 h2
/-- The sums without a node's own cost: what the proof of the bound wants. -/
theorem dp_of {W : Int → Int} {ls : List Q4} {order : List Int} (hn : order.Nodup) (hp : ∀ p i q, order = p ++ i :: q → ∀ k ∈ ls, k.c = i → k.a ∈ p) (hc : ∀ k ∈ ls, k.c ∈ order) :
 Dp W ls (fun x => bestS (sumsS W ls order) ls x) := by
 refine ⟨fun x => (best_spec _ _ _).1, fun k hk => ?_⟩
 have hka : k.a ∈ order := by
  obtain ⟨p, q, e⟩ := List.append_of_mem (hc k hk)
  rw [e]
  exact List.mem_append_left _ (hp p k.c q e k hk rfl)
 have h1 := sums_eq hn hp hka (W := W)
 have h2 := (best_spec (sumsS W ls order) ls k.c).2.1 k hk rfl
 show bestS (sumsS W ls order) ls k.a + W k.a ≤ bestS (sumsS W ls order) ls k.c
 omega
section
variable {W : Int → Int} {order : List Int} {ls : List Q4} {wk : Nat} {s : St}
/-- No slot ends before the path to it does. -/
theorem end_ge (hp : Pr W order ls wk) {D : Int → Int} (hi : SInv W order ls wk D s) : ∀ u ∈ s.l, sumsS W ls order u.a ≤ u.d := by
 have key : ∀ q p, order = p ++ q → (∀ x ∈ p, ∀ u ∈ s.l, u.a = x → sumsS W ls order x ≤ u.d) → ∀ x ∈ order, ∀ u ∈ s.l, u.a = x → sumsS W ls order x ≤ u.d := by
  intro q
  induction q with
  | nil => intro p e h x hx; rw [e, List.append_nil] at hx; exact h x hx
  | cons z q ih =>
   intro p e h
   refine ih (p ++ [z]) (by simp [e]) ?_
   intro x hx u hu hux
   rcases List.mem_append.1 hx with hx | hx
   ·exact h x hx u hu hux
   ·simp only [List.mem_singleton] at hx
    subst hx
    rw [sums_eq hp.nd hp.pre (by rw [e]; simp)]
    have hs := hi.sl u hu
    rw [hux] at hs
    have h2 : bestS (sumsS W ls order) ls x ≤ u.c := by
     obtain ⟨a1, a2, a3⟩ := best_spec (sumsS W ls order) ls x
     rcases a3 with a3 | ⟨k, hk, hc, a3⟩
     ·omega
     ·obtain ⟨v, hv, h3⟩ := hi.pr u hu k hk (hc.trans hux.symm)
      have h4 := h k.a (hp.pre p x q e k hk hc) v (find_some hv).1 (find_some hv).2
      omega
    omega
 intro u hu
 exact key order [] rfl (by simp) u.a (hi.sl u hu).2.2.2.2 u hu rfl
/-- Graham: no slot ends behind the bound. -/
theorem end_le (hp : Pr W order ls wk) (hi : SInv W order ls wk (fun x => bestS (sumsS W ls order) ls x) s) : ∀ u ∈ s.l, wk * u.d ≤ costsS W s.l + (wk - 1) * critS W ls order := by
 intro u hu
 have hg := hi.gr u hu
 have hs := hi.sl u hu
 have hw := hp.w u.a
 have h1 := work_one hu (by omega : u.c ≤ u.d)
 have h2 := work_le W hp.w (fun v hv => (hi.sl v hv).2.2.1) u.d
 have h3 := sums_eq hp.nd hp.pre hs.2.2.2.2 (W := W)
 have h4 := max_le (sumsS W ls order) hs.2.2.2.2
 have hwk : (0 : Int) ≤ (wk : Int) - 1 := by have := hp.wk1; omega
 have h5 : ((wk : Int) - 1) * (bestS (sumsS W ls order) ls u.a + W u.a) ≤ (wk - 1) * critS W ls order := Int.mul_le_mul_of_nonneg_left (by unfold critS; omega) hwk
 have e1 : (wk : Int) * u.d = wk * u.c + wk * W u.a := by rw [← Int.mul_add, hs.2.2.1]
 have e2 : ((wk : Int) - 1) * (bestS (sumsS W ls order) ls u.a + W u.a) = (wk - 1) * bestS (sumsS W ls order) ls u.a + (wk * W u.a - W u.a) := by rw [Int.mul_add, Int.sub_mul (wk : Int) 1 (W u.a), Int.one_mul]
 have e3 : u.d - u.c = W u.a := by omega
 rw [e3] at h1
 omega
end
/-- What a right slot is, number i of a list. -/
def slotOk (ns ls : List Q4) (W : Int → Int) (wk : Int) (l : List Q4) (i : Nat) (s : Q4) : Bool :=
 (findN ns s.a).isSome && (placeN l s.a == some i) && decide (0 ≤ s.b) && decide (s.b < wk) && decide (0 ≤ s.c) && decide (s.c ≤ s.d) && (s.d - s.c == W s.a) && readyS ls l s.a s.c &&
 (l.take i).all fun u => !(u.b == s.b && decide (s.c < u.d) && decide (u.c < s.d))
def allOk (ns ls : List Q4) (W : Int → Int) (wk : Int) (l : List Q4) : Bool := (List.range l.length).all fun i => slotOk ns ls W wk l i (l.getD i q0)
def spanL (l : List Q4) : Int := l.foldl (fun o s => max o s.d) 0
theorem span_spec (l : List Q4) : 0 ≤ spanL l ∧ (∀ s ∈ l, s.d ≤ spanL l) ∧ (spanL l = 0 ∨ ∃ s ∈ l, s.d = spanL l) := by
 have key : ∀ (l : List Q4) (o : Int), (let r := l.foldl (fun o s => max o s.d) o; o ≤ r ∧ (∀ s ∈ l, s.d ≤ r) ∧ (r = o ∨ ∃ s ∈ l, s.d = r)) := by
  intro l
  induction l with
  | nil => intro o; exact ⟨Int.le_refl _, by simp, .inl rfl⟩
  | cons s l ih =>
   intro o
   rw [List.foldl_cons]
   obtain ⟨h1, h2, h3⟩ := ih (max o s.d)
   refine ⟨by omega, fun u hu => ?_, ?_⟩
   ·rcases List.mem_cons.1 hu with rfl | hu
    ·omega
    ·exact h2 u hu
   ·rcases h3 with h3 | ⟨u, hu, h3⟩
    ·by_cases hm : o ≤ s.d
     ·exact .inr ⟨s, by simp, by rw [h3]; omega⟩
     ·exact .inl (by rw [h3]; omega)
    ·exact .inr ⟨u, by simp [hu], h3⟩
 exact key l 0
theorem place_uniq {l : List Q4} (h : (l.map Q4.a).Nodup) {i : Nat} {u : Q4} (hu : l[i]? = some u) : placeN l u.a = some i := by
 obtain ⟨hi, hu2⟩ := List.getElem?_eq_some_iff.1 hu
 unfold placeN
 rw [List.findIdx?_eq_some_iff_getElem]
 refine ⟨hi, by rw [hu2]; simp, fun j hj => ?_⟩
 simp only [beq_iff_eq]
 intro e
 have h1 : (l.map Q4.a)[j]? = some u.a := by rw [List.getElem?_map, List.getElem?_eq_getElem (by omega)]; simp [e]
 have h2 : (l.map Q4.a)[i]? = some u.a := by rw [List.getElem?_map, hu]; rfl
 have hlt : j < (l.map Q4.a).length := by rw [List.length_map]; omega
 have := (List.getElem?_inj hlt h).1 (h1.trans h2.symm)
 omega
section
variable {W : Int → Int} {order : List Int} {ls ns : List Q4} {wk : Nat} {s : St} {D : Int → Int}
/-- The list that grows is right at each of its places. -/
theorem inv_ok (hp : Pr W order ls wk) (hi : SInv W order ls wk D s) (ho : ∀ x ∈ order, ∃ n ∈ ns, n.a = x) : allOk ns ls W wk s.l = true := by
 unfold allOk
 rw [List.all_eq_true]
 intro i hi2
 have hi2 := List.mem_range.1 hi2
 obtain ⟨u, hu⟩ : ∃ u, s.l[i]? = some u := ⟨_, List.getElem?_eq_getElem hi2⟩
 rw [getD_at' hu]
 have hum := List.mem_of_getElem? hu
 obtain ⟨h1, h2, h3, ⟨w, hw, hb⟩, h5⟩ := hi.sl u hum
 have hwu := hp.w u.a
 obtain ⟨n, hn, hna⟩ := ho u.a h5
 have hf : (findN ns u.a).isSome = true := by
  unfold findN
  rw [List.find?_isSome]
  exact ⟨n, hn, by simp [hna]⟩
 have hr : readyS ls s.l u.a u.c = true := ready_iff.2 fun k hk hc => hi.pr u hum k hk hc
 have ho2 : ((s.l.take i).all fun v => !(v.b == u.b && decide (u.c < v.d) && decide (v.c < u.d))) = true := by
  rw [List.all_eq_true]
  intro v hv
  obtain ⟨j, hj, rfl⟩ := List.mem_take_iff_getElem.1 hv
  obtain ⟨hi3, hu3⟩ := List.getElem?_eq_some_iff.1 hu
  have := List.pairwise_iff_getElem.1 hi.ov j i (by omega) hi3 (by omega)
  rw [hu3] at this
  simp only [Bool.not_eq_true', Bool.and_eq_false_iff, beq_eq_false_iff_ne, ne_eq, decide_eq_false_iff_not]
  by_cases e : (s.l[j]).b = u.b
  ·have := this e
   exact .inl (.inr (by omega))
  ·exact .inl (.inl e)
 unfold slotOk
 rw [hf, place_uniq hi.nd hu, hr, ho2]
 simp only [Bool.true_and, Bool.and_true, beq_self_eq_true, Bool.and_eq_true, decide_eq_true_eq, beq_iff_eq]
 refine ⟨⟨⟨⟨?_, ?_⟩, ?_⟩, ?_⟩, ?_⟩ <;> omega
theorem costs_perm {l : List Q4} {o : List Int} (hn : (l.map Q4.a).Nodup) (h1 : ∀ u ∈ l, u.a ∈ o) (h2 : o.length ≤ l.length) : ∀ x ∈ o, ∃ u ∈ l, u.a = x := by
 intro x hx
 refine Classical.byContradiction fun hc => ?_
 have := nodup_len (l := x :: l.map Q4.a) (m := o) (List.nodup_cons.2 ⟨fun h => hc (by obtain ⟨u, hu, e⟩ := List.mem_map.1 h; exact ⟨u, hu, e⟩), hn⟩) (fun y hy => by
  rcases List.mem_cons.1 hy with rfl | hy
  ·exact hx
  ·obtain ⟨u, hu, rfl⟩ := List.mem_map.1 hy
   exact h1 u hu)
 simp only [List.length_cons, List.length_map] at this
 omega
def sumI (W : Int → Int) : List Int → Int
 | [] => 0
 | x :: o => W x + sumI W o
theorem sum_erase (W : Int → Int) : ∀ {o : List Int} {x : Int}, x ∈ o → sumI W o = W x + sumI W (o.erase x)
 | y :: o, x, h => by
  by_cases e : y = x
  ·subst e
   simp [sumI]
  ·rw [List.erase_cons_tail (by simpa using e)]
   have hx : x ∈ o := by
    rcases List.mem_cons.1 h with rfl | h
    ·exact absurd rfl e
    ·exact h
   have := sum_erase W hx
   simp only [sumI]
   omega
theorem costs_sum (W : Int → Int) : ∀ {l : List Q4} {o : List Int}, (l.map Q4.a).Nodup → o.Nodup → (∀ u ∈ l, u.a ∈ o) → o.length ≤ l.length → costsS W l = sumI W o
 | [], o, _, _, _, h => by
  have : o = [] := List.eq_nil_of_length_eq_zero (by simpa using h)
  subst this
  rfl
 | u :: l, o, hn, ho, h1, h2 => by
  rw [List.map_cons, List.nodup_cons] at hn
  have hu := h1 u (by simp)
  rw [sum_erase W hu]
  simp only [costsS]
  congr 1
  refine costs_sum W hn.2 (ho.erase _) (fun v hv => ?_) ?_
  ·have hne : v.a ≠ u.a := fun e => hn.1 (e ▸ List.mem_map.2 ⟨v, hv, rfl⟩)
   exact (List.mem_erase_of_ne hne).2 (h1 v (by simp [hv]))
  ·rw [List.length_erase_of_mem hu]
   simp only [List.length_cons] at h2
   omega
/-- Graham's theorem, of the list that is whole. -/
theorem graham (hp : Pr W order ls wk) (hi : SInv W order ls wk (fun x => bestS (sumsS W ls order) ls x) s) (hl : order.length ≤ s.l.length) :
 critS W ls order ≤ spanL s.l ∧ (wk : Int) * spanL s.l ≤ sumI W order + (wk - 1) * critS W ls order ∧ (wk = 1 → spanL s.l = sumI W order) := by
 have hsum := costs_sum W hi.nd hp.nd (fun u hu => (hi.sl u hu).2.2.2.2) hl
 obtain ⟨s0, s1, s2⟩ := span_spec s.l
 have hcov := costs_perm hi.nd (fun u hu => (hi.sl u hu).2.2.2.2) hl
 have hup : (wk : Int) * spanL s.l ≤ sumI W order + (wk - 1) * critS W ls order := by
  rw [← hsum]
  rcases s2 with s2 | ⟨u, hu, s2⟩
  ·rw [s2, Int.mul_zero]
   have h1 : 0 ≤ costsS W s.l := by
    have := work_le W hp.w (fun v hv => (hi.sl v hv).2.2.1) 0
    have := work_nonneg s.l 0
    omega
   have h2 : 0 ≤ critS W ls order := max_nonneg _ _
   have hwk : (0 : Int) ≤ (wk : Int) - 1 := by have := hp.wk1; omega
   have := Int.mul_nonneg hwk h2
   omega
  ·rw [← s2]
   exact end_le hp hi u hu
 refine ⟨?_, hup, fun h1 => ?_⟩
 ·refine max_bd _ s0 fun x hx => ?_
  obtain ⟨u, hu, rfl⟩ := hcov x hx
  have := end_ge hp hi u hu
  have := s1 u hu
  omega
 ·subst h1
  have : spanL s.l ≤ sumI W order := by
   have : ((1 : Nat) : Int) * spanL s.l ≤ sumI W order + (((1 : Nat) : Int) - 1) * critS W ls order := hup
   have e : (((1 : Nat) : Int) - 1) = 0 := by omega
   rw [e, Int.zero_mul] at this
   omega
  obtain ⟨x, hx⟩ : ∃ x, s.busy[0]? = some x := ⟨_, List.getElem?_eq_getElem (by have := hi.bl; omega)⟩
  have h3 := (hi.bc 0 x hx).1
  have h5 := (hi.bc 0 x hx).2
  have e : (s.l.filter fun u => u.b == ((0 : Nat) : Int)) = s.l := by
   rw [List.filter_eq_self]
   intro u hu
   obtain ⟨_, _, _, ⟨w, hw, hb⟩, _⟩ := hi.sl u hu
   rw [hb]
   simp
   omega
  rw [e, hsum] at h3
  -- the worker is busy up to the end of a slot, or not at all
  have h4 : x ≤ spanL s.l := by
   rcases hi.bt 0 x hx with h | ⟨u, hu, _, h6⟩
   ·omega
   ·have := s1 u hu
    omega
  omega
end
end Go.Proofs.Ytobhdldlhhigdaa

namespace Go.Proofs.Ytobhdldlhhigdaa
theorem max_append (S : Int → Int) : ∀ (a b : List Int), maxS S (a ++ b) = max (maxS S a) (maxS S b)
 | [], b => by have := max_nonneg S b; simp only [List.nil_append, maxS]; omega
 | x :: a, b => by simp only [List.cons_append, maxS, max_append S a b]; omega
theorem max_congr {S T : Int → Int} : ∀ {o : List Int}, (∀ x ∈ o, S x = T x) → maxS S o = maxS T o
 | [], _ => rfl
 | x :: o, h => by simp only [maxS]; rw [h x (by simp), max_congr fun y hy => h y (by simp [hy])]
/-- The sums as far as the order is gone through. -/
def sumsK (W : Int → Int) (ls : List Q4) (order : List Int) (k : Nat) : Int → Int := (order.take k).foldl (addS W ls) (fun _ => 0)
def critK (W : Int → Int) (ls : List Q4) (order : List Int) (k : Nat) : Int := maxS (sumsK W ls order k) (order.take k)
theorem sumsK_succ {W : Int → Int} {ls : List Q4} {order : List Int} {k : Nat} {x : Int} (h : order[k]? = some x) : sumsK W ls order (k + 1) = addS W ls (sumsK W ls order k) x := by
 unfold sumsK
 rw [take_snoc h, List.foldl_append]
 rfl
theorem critK_succ {W : Int → Int} {ls : List Q4} {order : List Int} {k : Nat} {x : Int} (hn : order.Nodup) (hw : ∀ x, 0 ≤ W x) (h : order[k]? = some x) :
 critK W ls order (k + 1) = max (critK W ls order k) (bestS (sumsK W ls order k) ls x + W x) := by
 unfold critK
 rw [take_snoc h, max_append, sumsK_succ h]
 have hx : x ∉ order.take k := by
  have h2 := hn
  rw [← List.take_append_drop (k + 1) order, take_snoc h, List.append_assoc, List.nodup_append] at h2
  exact fun hx => h2.2.2 x hx x (by simp) rfl
 congr 1
 ·refine max_congr fun y hy => ?_
  unfold addS
  rw [if_neg (show ¬ y = x from fun e => hx (e ▸ hy))]
 ·have h1 := (best_spec (sumsK W ls order k) ls x).1
  have h2 := hw x
  simp only [maxS, addS, if_true]
  omega
theorem critK_zero (W : Int → Int) (ls : List Q4) (order : List Int) : critK W ls order 0 = 0 := rfl
theorem critK_end {W : Int → Int} {ls : List Q4} {order : List Int} {k : Nat} (h : order.length ≤ k) : critK W ls order k = critS W ls order := by
 unfold critK critS sumsK sumsS
 rw [List.take_of_length_le h]
/-- No sum is too large for a slot. -/
theorem sumsK_bd {W : Int → Int} {C : Int} (hC : 0 ≤ C) (hw : ∀ x, 0 ≤ W x ∧ W x ≤ C) {ls : List Q4} {order : List Int} : ∀ (k : Nat) (x : Int), 0 ≤ sumsK W ls order k x ∧ sumsK W ls order k x ≤ k * C
 | 0, x => by simp [sumsK]
 | k + 1, x => by
  have ih := sumsK_bd hC hw (ls := ls) (order := order) k
  have e : ((k + 1 : Nat) : Int) * C = k * C + C := by rw [Int.natCast_add, Int.add_mul]; simp
  rw [e]
  cases h : order[k]? with
  | none =>
   have hk : order.length ≤ k := List.getElem?_eq_none_iff.1 h
   have : sumsK W ls order (k + 1) = sumsK W ls order k := by
    unfold sumsK
    rw [List.take_of_length_le hk, List.take_of_length_le (by omega)]
   rw [this]
   have := ih x
   omega
  | some y =>
   rw [sumsK_succ h]
   unfold addS
   split
   ·have h2 := hw y
    obtain ⟨b1, _, b3⟩ := best_spec (sumsK W ls order k) ls y
    rcases b3 with b3 | ⟨q, _, _, b3⟩
    ·have := (ih x)
     omega
    ·have := ih q.a
     omega
   ·have := ih x
    omega
theorem critK_bd {W : Int → Int} {C : Int} (hC : 0 ≤ C) (hw : ∀ x, 0 ≤ W x ∧ W x ≤ C) {ls : List Q4} {order : List Int} (k : Nat) : 0 ≤ critK W ls order k ∧ critK W ls order k ≤ k * C := by
 refine ⟨max_nonneg _ _, max_bd _ (Int.mul_nonneg (by omega) hC) fun x _ => (sumsK_bd hC hw k x).2⟩
/-- The best of those that a node waits for, as far as the links are gone through. -/
def bestK (S : Int → Int) (ls : List Q4) (x : Int) (j : Nat) : Int := bestS S (ls.take j) x
theorem bestK_succ {S : Int → Int} {ls : List Q4} {x : Int} {j : Nat} {k : Q4} (h : ls[j]? = some k) : bestK S ls x (j + 1) = if k.c = x then max (bestK S ls x j) (S k.a) else bestK S ls x j := by
 unfold bestK bestS
 rw [take_snoc h, List.foldl_append]
 rfl
theorem bestK_end {S : Int → Int} {ls : List Q4} {x : Int} {j : Nat} (h : ls.length ≤ j) : bestK S ls x j = bestS S ls x := by
 unfold bestK
 rw [List.take_of_length_le h]
theorem best_bd {S : Int → Int} {ls : List Q4} {x B : Int} (hB : 0 ≤ B) (h : ∀ y, 0 ≤ S y ∧ S y ≤ B) : 0 ≤ bestS S ls x ∧ bestS S ls x ≤ B := by
 obtain ⟨b1, _, b3⟩ := best_spec S ls x
 rcases b3 with b3 | ⟨q, _, _, b3⟩
 ·omega
 ·have := h q.a
  omega
/-! The times of a schedule that grows. -/
def TB (C : Int) (s : St) : Prop := 0 ≤ s.t ∧ s.t ≤ s.l.length * C ∧ (∀ u ∈ s.l, 0 ≤ u.d ∧ u.d ≤ s.l.length * C) ∧ ∀ b ∈ s.busy, 0 ≤ b ∧ b ≤ s.l.length * C
theorem tb_start (C : Int) (wk : Nat) : TB C (startS wk) := by
 refine ⟨by simp [startS], by simp [startS], by simp [startS], fun b hb => ?_⟩
 simp only [startS, List.mem_replicate] at hb
 rw [hb.2]
 simp [startS]
theorem tb_add {W : Int → Int} {C : Int} (hw : ∀ x, 0 ≤ W x ∧ W x ≤ C) {s : St} (h : TB C s) (id : Int) (w : Nat) : TB C ⟨s.l ++ [⟨id, w, s.t, s.t + W id⟩], s.busy.set w (s.t + W id), s.t⟩ := by
 obtain ⟨h1, h2, h3, h4⟩ := h
 have hwi := hw id
 have e : (((s.l ++ [(⟨id, w, s.t, s.t + W id⟩ : Q4)]).length : Nat) : Int) * C = s.l.length * C + C := by rw [List.length_append, Int.natCast_add, Int.add_mul]; simp
 refine ⟨h1, ?_, fun u hu => ?_, fun b hb => ?_⟩
 ·show s.t ≤ (((s.l ++ [_]).length : Nat) : Int) * C
  rw [e]
  omega
 ·rw [e]
  rcases List.mem_append.1 hu with hu | hu
  ·have := h3 u hu
   omega
  ·simp only [List.mem_singleton] at hu
   subst hu
   dsimp only
   omega
 ·rw [e]
  rcases List.mem_or_eq_of_mem_set hb with hb | rfl
  ·have := h4 b hb
   omega
  ·omega
theorem tb_wait {C : Int} {s : St} (h : TB C s) (hl : ∃ u ∈ s.l, u.d = laterS s.l s.t) : TB C ⟨s.l, s.busy, laterS s.l s.t⟩ := by
 obtain ⟨h1, h2, h3, h4⟩ := h
 obtain ⟨u, hu, e⟩ := hl
 have := h3 u hu
 exact ⟨by show 0 ≤ laterS s.l s.t; omega, by show laterS s.l s.t ≤ s.l.length * C; omega, h3, h4⟩
end Go.Proofs.Ytobhdldlhhigdaa

namespace Go.Proofs.Ytobhdldlhhigdaa
open Go.RowKit
set_option maxRecDepth 100000 in
set_option maxHeartbeats 4000000 in
theorem less_any (x l : Q4) (w : World) : Calls Try.prog 51 #[.agg x.cs, .agg l.cs] w fun e w' => e = .returned (.bool (lessL x l)) ∧ Grows w w' := by
 obtain ⟨a, b, c, d⟩ := x
 obtain ⟨a2, b2, c2, d2⟩ := l
 simp only [Q4.cs]
 go_enter Try.func51, Try.ntmps51
 go_wp2
 all_goals (go_ret; refine ⟨ret_bool ?_, ((Below.refl _ _).alloc (Nat.le_refl _) _).alloc (by simp) _⟩; simp_all [lessL])
def portsL (ns : List Q4) (l : Q4) : Bool := (findN ns l.a).isSome && (findN ns l.c).isSome && decide (0 ≤ l.b) && decide (l.b < (nodeN ns l.a).d) && decide (0 ≤ l.d) && decide (l.d < (nodeN ns l.c).c)
set_option maxRecDepth 100000 in
theorem portsL_eq (ns : List Q4) (l : Q4) : portsL ns l = endsL ns l := by
 have z1 : q0.c = 0 := rfl
 have z2 : q0.d = 0 := rfl
 unfold portsL endsL
 cases e1 : findN ns l.a
 ·have e : nodeN ns l.a = q0 := by unfold nodeN; rw [e1]; rfl
  rw [e]
  apply Bool.eq_iff_iff.2
  simp only [Option.isSome_none, Bool.false_and, Bool.false_eq_true, Bool.and_eq_true, decide_eq_true_eq, false_iff]
  omega
 cases e2 : findN ns l.c
 ·have e : nodeN ns l.c = q0 := by unfold nodeN; rw [e2]; rfl
  rw [e]
  apply Bool.eq_iff_iff.2
  simp only [Option.isSome_none, Bool.and_false, Bool.false_and, Bool.false_eq_true, Bool.and_eq_true, decide_eq_true_eq, false_iff]
  omega
 simp
set_option maxRecDepth 100000 in
theorem any_up {l : List Q4} {k : Nat} {x : Q4} {f : Q4 → Bool} (h : (l.take k).any f = false) (hx : l[k]? = some x) (hf : f x = false) : (l.take (k + 1)).any f = false := by
 rw [take_snoc hx, List.any_append, h]
 simp [hf]
set_option maxRecDepth 100000 in
theorem any_at {l : List Q4} {k : Nat} {x : Q4} {f : Q4 → Bool} (hx : l[k]? = some x) (hf : f x = true) : l.any f = true := List.any_eq_true.2 ⟨x, List.mem_of_getElem? hx, hf⟩
set_option maxRecDepth 100000 in
set_option maxHeartbeats 4000000 in
theorem ports_any (A A2 : Option Addr) (c c2 m : Nat) (ns : List Q4) (l : Q4) (w : World) (h : Qs w A ns) (hl : ns.length ≤ 9223372036854775807) :
 Calls Try.prog 44 #[.agg #[.slice A ns.length c, .slice A2 m c2], .agg l.cs] w fun e w' => e = .returned (.bool (portsL ns l)) ∧ Grows w w' := by
 have k2 := (Blk.new w 26 #[.slice A ns.length c, .slice A2 m c2]).alloc (Obj.cells #[.int .i64 l.a, .int .i64 l.b, .int .i64 l.c, .int .i64 l.d] 49)
 have k3 := blk_new_at (X := w.alloc (Obj.cells #[.slice A ns.length c, .slice A2 m c2] 26)) (n := w.heap.size + 1) (t := 49) (cs := #[.int .i64 l.a, .int .i64 l.b, .int .i64 l.c, .int .i64 l.d]) (by simp)
 have hB := ((Below.refl w.heap.size w).alloc (Nat.le_refl _) (Obj.cells #[.slice A ns.length c, .slice A2 m c2] 26)).alloc (by simp) (Obj.cells #[.int .i64 l.a, .int .i64 l.b, .int .i64 l.c, .int .i64 l.d] 49)
 simp only [Q4.cs]
 go_enter Try.func44, Try.ntmps44
 go_upto_region 1 with fail
 have hge : w.heap.size ≤ w.heap.size + 1 := Nat.le_succ _
 generalize World.alloc (World.alloc w _) _ = w1 at *
 have x2 := k2.cell
 have x3 := k3.cell
 go_wp2_with fail
 refine (node_any A A2 c c2 m ns l.a _ (h.grows hB) hl).mono ?_
 rintro e w2 ⟨rfl, hq⟩
 replace k2 := k2.grows hq
 replace k3 := k3.grows hq
 replace hB := below_grows hB (Nat.le_refl _) hq
 clear hq x2 x3
 generalize hn1 : nodeN ns l.a = n1 at *
 generalize hf1 : (findN ns l.a).isSome = f1 at *
 have Hn1 := Lib.hid hn1
 have Hf1 := Lib.hid hf1
 clear hn1 hf1
 have x2 := k2.cell
 have x3 := k3.cell
 simp only [Q4.cs]
 go_upto_region 2 with fail
 clear x2 x3
 have k5 := Blk.new w2 46 #[.int .i64 n1.a, .int .i64 n1.b, .int .i64 n1.c, .int .i64 n1.d]
 have hq := (Below.refl w2.heap.size w2).alloc (Nat.le_refl _) (Obj.cells #[.int .i64 n1.a, .int .i64 n1.b, .int .i64 n1.c, .int .i64 n1.d] 46)
 replace k2 := k2.grows hq
 replace k3 := k3.grows hq
 replace hB := below_grows hB (Nat.le_refl _) hq
 clear hq
 generalize World.alloc w2 _ = w3 at *
 generalize w2.heap.size = G5 at *
 have x2 := k2.cell
 have x3 := k3.cell
 go_wp2_with fail
 refine (node_any A A2 c c2 m ns l.c _ (h.grows hB) hl).mono ?_
 rintro e w4 ⟨rfl, hq⟩
 replace k2 := k2.grows hq
 replace k3 := k3.grows hq
 replace k5 := k5.grows hq
 replace hB := below_grows hB (Nat.le_refl _) hq
 clear hq x2 x3
 generalize hn2 : nodeN ns l.c = n2 at *
 generalize hf2 : (findN ns l.c).isSome = f2 at *
 have Hn2 := Lib.hid hn2
 have Hf2 := Lib.hid hf2
 clear hn2 hf2
 have x2 := k2.cell
 have x3 := k3.cell
 simp only [Q4.cs]
 go_upto_region 3 with fail
 clear x2 x3
 have k7 := Blk.new w4 46 #[.int .i64 n2.a, .int .i64 n2.b, .int .i64 n2.c, .int .i64 n2.d]
 have hq := (Below.refl w4.heap.size w4).alloc (Nat.le_refl _) (Obj.cells #[.int .i64 n2.a, .int .i64 n2.b, .int .i64 n2.c, .int .i64 n2.d] 46)
 replace k3 := k3.grows hq
 replace k5 := k5.grows hq
 replace hB := below_grows hB (Nat.le_refl _) hq
 clear hq k2
 generalize World.alloc w4 _ = w5 at *
 generalize w4.heap.size = G7 at *
 have x3 := k3.cell
 have x5 := k5.cell
 have x7 := k7.cell
 cases f1
 all_goals cases f2
 all_goals go_wp2
 all_goals go_ret
 all_goals (refine ⟨ret_bool ?_, hB⟩; unfold portsL; rw [Hn1.out, Hn2.out, Hf1.out, Hf2.out]; apply Bool.eq_iff_iff.2; simp only [Bool.and_eq_true, Bool.true_and, Bool.false_and, Bool.false_eq_true, decide_eq_true_eq, false_iff] at *; try omega)
set_option maxRecDepth 100000 in
set_option maxHeartbeats 4000000 in
theorem crowd_any (A A2 A3 : Option Addr) (c c2 c3 m : Nat) (ns ot : List Q4) (l : Q4) (w : World) (h : Qs w A ns) (hl : ns.length ≤ 9223372036854775807) (ho : Qs w A3 ot) (hol : ot.length ≤ 9223372036854775807) :
 Calls Try.prog 50 #[.agg #[.slice A ns.length c, .slice A2 m c2], .agg l.cs, .slice A3 ot.length c3] w fun e w' => e = .returned (.bool (crowdL ns l ot)) ∧ Grows w w' := by
 have k2 := (Blk.new w 26 #[.slice A ns.length c, .slice A2 m c2]).alloc (Obj.cells #[.int .i64 l.a, .int .i64 l.b, .int .i64 l.c, .int .i64 l.d] 49)
 have k3 := blk_new_at (X := w.alloc (Obj.cells #[.slice A ns.length c, .slice A2 m c2] 26)) (n := w.heap.size + 1) (t := 49) (cs := #[.int .i64 l.a, .int .i64 l.b, .int .i64 l.c, .int .i64 l.d]) (by simp)
 have hB := ((Below.refl w.heap.size w).alloc (Nat.le_refl _) (Obj.cells #[.slice A ns.length c, .slice A2 m c2] 26)).alloc (by simp) (Obj.cells #[.int .i64 l.a, .int .i64 l.b, .int .i64 l.c, .int .i64 l.d] 49)
 simp only [Q4.cs]
 go_enter Try.func50, Try.ntmps50
 go_upto_region 1 with fail
 have hge : w.heap.size ≤ w.heap.size + 1 := Nat.le_succ _
 generalize World.alloc (World.alloc w _) _ = w1 at *
 have x2 := k2.cell
 have x3 := k3.cell
 go_wp2_with fail
 refine (node_any A A2 c c2 m ns l.a _ (h.grows hB) hl).mono ?_
 rintro e w2 ⟨rfl, hq⟩
 replace k2 := k2.grows hq
 replace k3 := k3.grows hq
 replace hB := below_grows hB (Nat.le_refl _) hq
 clear hq x2 x3
 generalize hn1 : nodeN ns l.a = n1 at *
 generalize hf1 : (findN ns l.a).isSome = f1 at *
 have Hn1 := Lib.hid hn1
 have Hf1 := Lib.hid hf1
 clear hn1 hf1
 have x2 := k2.cell
 have x3 := k3.cell
 simp only [Q4.cs]
 go_upto_region 2 with fail
 clear x2 x3
 have k5 := Blk.new w2 46 #[.int .i64 n1.a, .int .i64 n1.b, .int .i64 n1.c, .int .i64 n1.d]
 have hq := (Below.refl w2.heap.size w2).alloc (Nat.le_refl _) (Obj.cells #[.int .i64 n1.a, .int .i64 n1.b, .int .i64 n1.c, .int .i64 n1.d] 46)
 replace k2 := k2.grows hq
 replace k3 := k3.grows hq
 replace hB := below_grows hB (Nat.le_refl _) hq
 clear hq
 generalize World.alloc w2 _ = w3 at *
 generalize w2.heap.size = G5 at *
 have x2 := k2.cell
 have x3 := k3.cell
 go_wp2_with fail
 refine (node_any A A2 c c2 m ns l.c _ (h.grows hB) hl).mono ?_
 rintro e w4 ⟨rfl, hq⟩
 replace k2 := k2.grows hq
 replace k3 := k3.grows hq
 replace k5 := k5.grows hq
 replace hB := below_grows hB (Nat.le_refl _) hq
 clear hq x2 x3
 generalize hn2 : nodeN ns l.c = n2 at *
 generalize hf2 : (findN ns l.c).isSome = f2 at *
 have Hn2 := Lib.hid hn2
 have Hf2 := Lib.hid hf2
 clear hn2 hf2
 have x2 := k2.cell
 have x3 := k3.cell
 simp only [Q4.cs]
 go_upto_region 3 with fail
 clear x2 x3
 have k7 := Blk.new w4 46 #[.int .i64 n2.a, .int .i64 n2.b, .int .i64 n2.c, .int .i64 n2.d]
 have hq := (Below.refl w4.heap.size w4).alloc (Nat.le_refl _) (Obj.cells #[.int .i64 n2.a, .int .i64 n2.b, .int .i64 n2.c, .int .i64 n2.d] 46)
 replace k3 := k3.grows hq
 replace k5 := k5.grows hq
 replace hB := below_grows hB (Nat.le_refl _) hq
 clear hq k2
 generalize World.alloc w4 _ = w5 at *
 generalize w4.heap.size = G7 at *
 have x3 := k3.cell
 have x5 := k5.cell
 have x7 := k7.cell
 clear hge Hf1 Hf2 x3 x5 x7
 obtain ⟨p1, hp1⟩ : ∃ p, p = n1.b := ⟨_, rfl⟩
 obtain ⟨p2, hp2⟩ : ∃ p, p = n2.b := ⟨_, rfl⟩
 have ho2 := ho.grows hB
 have HF : Hid (∀ x, clashL ns x l = ((x.c == l.c && x.d == l.d && p2 != 3) || (x.a == l.a && x.b == l.b && p1 != 5 && p1 != 1))) := Lib.hid (fun x => by unfold clashL; rw [Hn1.out, Hn2.out, hp1, hp2])
 rw [← hp1] at k5
 rw [← hp2] at k7
 clear hp1 hp2
 go_wp2_with fail
 go_loopw [29] (fun i wr => ∃ k : Nat, k ≤ ot.length ∧ i = .int .i64 k ∧ Hid ((ot.take k).any (fun x => clashL ns x l) = false) ∧ Below w.heap.size w wr ∧ Blk wr (w.heap.size + 1) 49 #[.int .i64 l.a, .int .i64 l.b, .int .i64 l.c, .int .i64 l.d] ∧ Blk wr G5 46 #[.int .i64 n1.a, .int .i64 p1, .int .i64 n1.c, .int .i64 n1.d] ∧ Blk wr G7 46 #[.int .i64 n2.a, .int .i64 p2, .int .i64 n2.c, .int .i64 n2.d]) (fun i _ => ot.length - (intOf i).toNat)
 case atStart => exact ⟨0, by omega, rfl, Lib.hid (by simp), hB, k3, k5, k7⟩
 case round =>
  clear hB k3 k5 k7 ho2
  obtain ⟨k, hk, rfl, hf, hB, k3, k5, k7⟩ := hrel
  by_cases hlt : k < ot.length
  ·obtain ⟨ad, x, rfl, had, hx, c0, c1, c2, c3⟩ := (ho.grows hB).elem hlt
   have HX := Lib.hid hx
   clear hx
   have kx := Blk.new wr 49 #[.int .i64 x.a, .int .i64 x.b, .int .i64 x.c, .int .i64 x.d]
   have hq := (Below.refl wr.heap.size wr).alloc (Nat.le_refl _) (Obj.cells #[.int .i64 x.a, .int .i64 x.b, .int .i64 x.c, .int .i64 x.d] 49)
   go_upto_region 6 with fail
   clear c0 c1 c2 c3
   replace hB := below_grows hB (Nat.le_refl _) hq
   replace k3 := k3.grows hq
   replace k5 := k5.grows hq
   replace k7 := k7.grows hq
   clear hq
   generalize World.alloc wr _ = w6 at *
   generalize wr.heap.size = G9 at *
   have x3 := k3.cell
   have x5 := k5.cell
   have x7 := k7.cell
   have xx := kx.cell
   go_wp2
   all_goals first
    | (go_ret
       refine ⟨ret_bool ?_, hB⟩
       unfold crowdL
       exact (any_at HX.out (by rw [HF.out]; simp_all)).symm)
    | (go_roundw
       case rel => exact ⟨k + 1, by omega, by go_num, Lib.hid (any_up hf.out HX.out (by rw [HF.out]; simp_all)), hB, k3, k5, k7⟩
       case measure => simp [intOf]; omega)
  ·have HE : Hid (ot.any (fun x => clashL ns x l) = false) := Lib.hid (by have := hf.out; rwa [List.take_of_length_le (by omega)] at this)
   go_wp2
   go_ret
   refine ⟨ret_bool ?_, hB⟩
   exact HE.out.symm
end Go.Proofs.Ytobhdldlhhigdaa

namespace Go.Proofs.Ytobhdldlhhigdaa
open Go.RowKit
set_option maxRecDepth 100000 in
theorem iinfo : ∃ i : TypeInfo, Try.prog.info? 3 = some i ∧ i.size = 1 ∧ i.bytes = 8 ∧ i.zero = some (.int .i64 0) ∧ (Value.int .i64 0).cells.size = 1 := ⟨_, by first | exact Try.info3 | rfl, rfl, rfl, rfl, rfl⟩
def OwnI (w : World) (base : Nat) (v : Value) (l : List Int) : Prop := w.ownsRow base 3 1 v l.length (l.map (Value.int .i64))
set_option maxRecDepth 100000 in
theorem ownI_nil (w : World) (base : Nat) : OwnI w base (.slice none 0 0) [] := World.ownsRow_nil w base 3 1
set_option maxRecDepth 100000 in
theorem OwnI.read {w : World} {base : Nat} {v : Value} {l : List Int} (h : OwnI w base v l) : ∃ (A : Option Addr) (c : Nat), v = .slice A l.length c ∧ l.length ≤ c ∧ Ints w A l := by
 rcases h.2 with ⟨rfl, hn⟩ | ⟨g, cap, cur, rfl, hb, hg, hnc, hm, hs, ht⟩
 ·exact ⟨none, 0, by rw [hn], by omega, Reads.of_own (c := 0) (by simpa [hn, OwnI] using h)⟩
 ·exact ⟨_, cap, rfl, hnc, Reads.of_own h⟩
set_option maxRecDepth 100000 in
theorem OwnI.grows {w w' : World} {base : Nat} {v : Value} {l : List Int} (h : OwnI w base v l) (hg : Grows w w') : OwnI w' base v l := own_grows h hg
set_option maxRecDepth 100000 in
theorem OwnI.below {w w' : World} {base : Nat} {v : Value} {l : List Int} {u : World} (h : OwnI w base v l) (hB : Below base u w) (hg : w.grownBy w' v.ownBlock) (hs : base ≤ w.heap.size) : Below base u w' := hB.grown hg hs fun q hq => (h.lt q hq).1
set_option maxRecDepth 100000 in
theorem OwnI.mono {w : World} {base base' : Nat} {v : Value} {l : List Int} (h : OwnI w base v l) (hb : base' ≤ base) : OwnI w base' v l := ⟨h.1, h.2.imp id fun ⟨g, cap, cur, e, hg, r⟩ => ⟨g, cap, cur, e, by omega, r⟩⟩
set_option maxRecDepth 100000 in
theorem ints_lit (w : World) (x : Int) : Ints (w.alloc (.cells #[.int .i64 x] 3)) (some ⟨w.heap.size, 0, none⟩) [x] := by
 have hb := Blk.new w 3 #[.int .i64 x]
 refine ⟨rfl, fun _ => ⟨_, rfl, by simp, fun j u hu => ?_⟩⟩
 have hj : j = 0 := by
  have := (List.getElem?_eq_some_iff.1 hu).1
  simp at this
  exact this
 subst hj
 have h0 := hb.cell 0
 simp only [List.map_cons, List.map_nil, List.getElem?_cons_zero, Option.some.injEq] at hu
 subst hu
 simp [Addr.add, h0]
set_option maxRecDepth 100000 in
theorem ints_one (l : List Int) : ∀ u ∈ l.map (Value.int .i64), u.oneCell' = true := by
 intro u hu
 obtain ⟨g, _, rfl⟩ := List.mem_map.1 hu
 rfl
def OwnN (w : World) (base : Nat) (v : Value) (l : List Q4) : Prop := w.ownsRow base 46 4 v l.length (qcells l)
def OwnL (w : World) (base : Nat) (v : Value) (l : List Q4) : Prop := w.ownsRow base 49 4 v l.length (qcells l)
set_option maxRecDepth 100000 in
theorem ownN_nil (w : World) (base : Nat) : OwnN w base (.slice none 0 0) [] := World.ownsRow_nil w base 46 4
set_option maxRecDepth 100000 in
theorem ownL_nil (w : World) (base : Nat) : OwnL w base (.slice none 0 0) [] := World.ownsRow_nil w base 49 4
set_option maxRecDepth 100000 in
theorem OwnN.grows {w w' : World} {base : Nat} {v : Value} {l : List Q4} (h : OwnN w base v l) (hg : Grows w w') : OwnN w' base v l := own_grows h hg
set_option maxRecDepth 100000 in
theorem OwnL.grows {w w' : World} {base : Nat} {v : Value} {l : List Q4} (h : OwnL w base v l) (hg : Grows w w') : OwnL w' base v l := own_grows h hg
set_option maxRecDepth 100000 in
theorem OwnN.read {w : World} {base : Nat} {v : Value} {l : List Q4} (h : OwnN w base v l) : ∃ (A : Option Addr) (c : Nat), v = .slice A l.length c ∧ l.length ≤ c ∧ Qs w A l := qs_own h
set_option maxRecDepth 100000 in
theorem OwnL.read {w : World} {base : Nat} {v : Value} {l : List Q4} (h : OwnL w base v l) : ∃ (A : Option Addr) (c : Nat), v = .slice A l.length c ∧ l.length ≤ c ∧ Qs w A l := qs_own h
set_option maxRecDepth 100000 in
theorem OwnN.below {w w' : World} {base : Nat} {v : Value} {l : List Q4} {u : World} (h : OwnN w base v l) (hB : Below base u w) (hg : w.grownBy w' v.ownBlock) (hs : base ≤ w.heap.size) : Below base u w' := hB.grown hg hs fun q hq => (h.lt q hq).1
set_option maxRecDepth 100000 in
theorem OwnL.below {w w' : World} {base : Nat} {v : Value} {l : List Q4} {u : World} (h : OwnL w base v l) (hB : Below base u w) (hg : w.grownBy w' v.ownBlock) (hs : base ≤ w.heap.size) : Below base u w' := hB.grown hg hs fun q hq => (h.lt q hq).1
set_option maxRecDepth 100000 in
theorem qs_lit (w : World) (x : Q4) (t : TypeId) : Qs (w.alloc (.cells x.cs t)) (some ⟨w.heap.size, 0, none⟩) [x] := by
 have hb := Blk.new w t x.cs
 refine ⟨by rw [qcells_len], fun _ => ⟨_, rfl, by simp, fun j u hu => ?_⟩⟩
 have hu2 : x.cs[j]? = some u := by simpa [qcells, Q4.ls, Q4.cs] using hu
 have := hb.cell j
 unfold Addr.add
 split
 ·rename_i e
  subst e
  rw [this]
  exact hu2
 ·simp only [Nat.zero_add]
  rw [this]
  exact hu2
section
variable {ops : Array Oper} {rest : List Oper} {o : Oper} {a : Act} {w : World} {Q : Exit → Act → World → Prop}
set_option maxRecDepth 100000 in
theorem wpList_append_int (hgd : o.guard = none) (s x : Operand) (ho : o.op = .call { callee := .builtin .append, args := #[s, x], argTypes := #[22, 22] })
 {base : Nat} {v : Value} {l m : List Int} {A : Option Addr} {c n : Nat} (hn : n = m.length) (hs : a.eval s = v) (hown : OwnI w base v l) (hx : a.eval x = .slice A n c) (hr : Ints w A m) (hlen : l.length + m.length ≤ 1000000) (hbase : base ≤ w.heap.size)
 (h : ∀ v' w', OwnI w' base v' (l ++ m) → w.grownBy w' v.ownBlock → (v'.ownBlock = v.ownBlock ∨ v'.ownBlock = some w.heap.size) → wpList Try.prog ops Q rest (a.put o.dst v') w') : wpList Try.prog ops Q (o :: rest) a w := by
 obtain ⟨i0, hi0, hi1, hi2, hi3, hi4⟩ := iinfo
 subst hn
 refine wpList_append_any w hgd s x 22 ho base 3 i0 _ 1 8 Try.underlying22 hi0 hi3 hi1 hi2 hi4 (by omega) v l.length (l.map (Value.int .i64)) hs hown w.heap.size A m.length c (m.map (Value.int .i64)) hx hr (ints_one m) (by simp only [maxLen]; omega) (by omega) hbase fun v' w' h1 h2 h3 => h v' w' ?_ h2 h3
 unfold OwnI
 rw [List.map_append, List.length_append]
 exact h1
set_option maxRecDepth 100000 in
theorem wpList_append_link (hgd : o.guard = none) (s x : Operand) (ho : o.op = .call { callee := .builtin .append, args := #[s, x], argTypes := #[24, 24] })
 {base : Nat} {v : Value} {l m : List Q4} {A : Option Addr} {c n : Nat} (hn : n = m.length) (hs : a.eval s = v) (hown : OwnL w base v l) (hx : a.eval x = .slice A n c) (hr : Qs w A m) (hlen : l.length + m.length ≤ 1000000) (hbase : base ≤ w.heap.size)
 (h : ∀ v' w', OwnL w' base v' (l ++ m) → w.grownBy w' v.ownBlock → (v'.ownBlock = v.ownBlock ∨ v'.ownBlock = some w.heap.size) → wpList Try.prog ops Q rest (a.put o.dst v') w') : wpList Try.prog ops Q (o :: rest) a w := by
 obtain ⟨i0, hi0, hi1, hi2, hi3, hi4⟩ := qinfo_l
 subst hn
 refine wpList_append_any w hgd s x 24 ho base 49 i0 _ 4 32 Try.underlying24 hi0 hi3 hi1 hi2 hi4 (by omega) v l.length (qcells l) hs hown w.heap.size A m.length c (qcells m) hx hr (qcells_one m) (by simp only [maxLen]; omega) (by omega) hbase fun v' w' h1 h2 h3 => h v' w' ?_ h2 h3
 unfold OwnL
 rw [qcells_append, List.length_append]
 exact h1
end
end Go.Proofs.Ytobhdldlhhigdaa
