/-
  YtbfdaojffffaaaaGreatTopCable: shared parts, 1. Plain theorems.
-/
import Derived.Below
import Derived.StillTail
import Derived.WalkKit
import Derived.Laws.OwnMore
import Derived.Deep.AppendLies
import Derived.Deep.Draws
import Derived.Laws.Rows
import Derived.Maps.AppendAt
import Derived.RegionTactic
import Derived.OwnWalk
import Derived.Lib.Hide
import Derived.Laws.Tables
import Derived.ChangeKeysEq
import Derived.Test.YtbfdaojffffaaaaGreatRows
import Derived.ProofKit
import Derived.OpenShut
import Derived.SizedLaws
import Derived.Carry
import Derived.WalkLawsBesides
import Derived.Deep.DeepCutAuto
import Derived.Deep.CutBlock
import Derived.Deep.RegionWith
import Derived.Lib.SliceRun
import Derived.Deep.QuietTactic
import Derived.Lib.MinMax
import Derived.ChangeAlike
import Derived.Lib.Mul64
import Derived.Laws.Bits64b
namespace Go.Proofs.YtbfdaojffffaaaaGreat
abbrev Sp := Int × Int
/-- A number lies in one of the spans. -/
def Mem (l : List Sp) (n : Int) : Prop := ∃ x ∈ l, x.1 ≤ n ∧ n ≤ x.2
theorem mem_cons (x : Sp) (l : List Sp) (n : Int) : Mem (x :: l) n ↔ (x.1 ≤ n ∧ n ≤ x.2) ∨ Mem l n := by
 unfold Mem
 simp
theorem mem_append (a b : List Sp) (n : Int) : Mem (a ++ b) n ↔ Mem a n ∨ Mem b n := by
 induction a with
 | nil => simp [Mem]
 | cons x a ih => rw [List.cons_append, mem_cons, mem_cons, ih, or_assoc]
def fineS (x : Sp) : Bool := decide (0 ≤ x.1) && decide (x.1 ≤ x.2) && decide (x.2 ≤ 2147483647)
theorem fineS_iff (x : Sp) : fineS x = true ↔ 0 ≤ x.1 ∧ x.1 ≤ x.2 ∧ x.2 ≤ 2147483647 := by
 simp [fineS, and_assoc]
/-- Spans in order, none of which touch. -/
def Canon (l : List Sp) : Prop := (∀ x ∈ l, x.1 ≤ x.2) ∧ l.Pairwise (fun x y => x.2 + 1 < y.1)
theorem canon_nil : Canon [] := ⟨by simp, List.Pairwise.nil⟩
theorem canon_cons {x : Sp} {l : List Sp} : Canon (x :: l) ↔ x.1 ≤ x.2 ∧ (∀ y ∈ l, x.2 + 1 < y.1) ∧ Canon l := by
 unfold Canon
 rw [List.pairwise_cons]
 constructor
 ·rintro ⟨h1, h2, h3⟩
  exact ⟨h1 x (by simp), h2, fun y hy => h1 y (by simp [hy]), h3⟩
 ·rintro ⟨h1, h2, h3, h4⟩
  refine ⟨fun y hy => ?_, h2, h4⟩
  rcases List.mem_cons.1 hy with rfl | hy
  ·exact h1
  ·exact h3 y hy
/-- Each neighbour lies apart. -/
def chainS : List Sp → Bool
 | x :: y :: l => decide (x.2 + 1 < y.1) && chainS (y :: l)
 | _ => true
def okS (l : List Sp) : Bool := l.all fineS && chainS l && decide (l.length ≤ 64)
theorem chainS_canon (l : List Sp) (hf : ∀ x ∈ l, x.1 ≤ x.2) : chainS l = true ↔ Canon l := by
 induction l with
 | nil => simp [chainS, canon_nil]
 | cons x l ih =>
  cases l with
  | nil => exact ⟨fun _ => canon_cons.2 ⟨hf x (by simp), by simp, canon_nil⟩, fun _ => rfl⟩
  | cons y l =>
   simp only [chainS, Bool.and_eq_true, decide_eq_true_eq]
   rw [ih (fun z hz => hf z (List.mem_cons_of_mem _ hz))]
   constructor
   ·rintro ⟨h1, h2⟩
    refine canon_cons.2 ⟨hf x (by simp), fun z hz => ?_, h2⟩
    rcases List.mem_cons.1 hz with rfl | hz
    ·exact h1
    ·have h3 := (canon_cons.1 h2).2.1 z hz
     have h4 := hf y (by simp)
     omega
   ·intro h
    exact ⟨(canon_cons.1 h).2.1 y (by simp), (canon_cons.1 h).2.2⟩
theorem okS_iff (l : List Sp) : okS l = true ↔ (∀ x ∈ l, fineS x = true) ∧ Canon l ∧ l.length ≤ 64 := by
 unfold okS
 rw [Bool.and_eq_true, Bool.and_eq_true, decide_eq_true_eq, List.all_eq_true]
 constructor
 ·rintro ⟨⟨h1, h2⟩, h3⟩
  exact ⟨h1, (chainS_canon l fun x hx => ((fineS_iff x).1 (h1 x hx)).2.1).1 h2, h3⟩
 ·rintro ⟨h1, h2, h3⟩
  exact ⟨⟨h1, (chainS_canon l h2.1).2 h2⟩, h3⟩
/-- One more span: what a loop that looks at neighbours adds. -/
theorem chainS_snoc (l : List Sp) (x : Sp) : chainS (l ++ [x]) = (chainS l && (match l.getLast? with | some y => decide (y.2 + 1 < x.1) | none => true)) := by
 induction l with
 | nil => rfl
 | cons y l ih =>
  cases l with
  | nil => simp [chainS]
  | cons z l =>
   have e : ((y :: z :: l) : List Sp).getLast? = (z :: l).getLast? := by simp [List.getLast?_cons]
   rw [e]
   simp only [List.cons_append, chainS] at ih ⊢
   rw [ih, Bool.and_assoc]
theorem chainS_prefix (p q : List Sp) (h : chainS (p ++ q) = true) : chainS p = true := by
 induction p with
 | nil => rfl
 | cons x p ih =>
  cases p with
  | nil => rfl
  | cons y p =>
   simp only [List.cons_append, chainS, Bool.and_eq_true] at h ih ⊢
   exact ⟨h.1, ih h.2⟩
theorem okS_no {l : List Sp} (k : Nat) (h : ¬((l.take k).all fineS = true ∧ chainS (l.take k) = true)) : okS l = false := by
 cases e : okS l
 ·rfl
 ·exfalso
  unfold okS at e
  rw [Bool.and_eq_true, Bool.and_eq_true] at e
  refine h ⟨?_, chainS_prefix (l.take k) (l.drop k) (by rw [List.take_append_drop]; exact e.1.2)⟩
  rw [List.all_eq_true] at e ⊢
  exact fun x hx => e.1.1 x (List.mem_of_mem_take hx)
theorem okS_yes {l : List Sp} (h1 : l.all fineS = true) (h2 : chainS l = true) : okS l = decide (l.length ≤ 64) := by
 unfold okS
 rw [h1, h2]
 rfl
def spansF (l : List Sp) : List Sp := if okS l = true then l else []
theorem spansF_len (l : List Sp) : (spansF l).length ≤ 64 := by
 unfold spansF
 split
 ·rename_i h; exact ((okS_iff l).1 h).2.2
 ·simp
end Go.Proofs.YtbfdaojffffaaaaGreat

namespace Go.Proofs.YtbfdaojffffaaaaGreat
open Go.RowKit
/-- Only new memory: all that was there is as it was. -/
abbrev Grows (w w' : World) : Prop := Below w.heap.size w w'
theorem Grows.trans' {a b c : World} (h : Grows a b) (k : Grows b c) : Grows a c := Below.trans h (k.mono h.size)
theorem Grows.drew' (w : World) : Grows w w.drew := (Below.refl _ _).drew
/-- The op gives the value v and only new memory. -/
def calmR (P : Program) (w : World) : Result Next → Value → Prop
 | .ok (.value u) w', v => u = v ∧ Grows w w'
 | .ok .skip w', v => v = undef ∧ Grows w w'
 | .ok (.enter f args) w', v => Calls P f args w' fun e w'' => e = .returned v ∧ Grows w w''
 | _, _ => False
/-- The op gives some value with D, and only new memory. -/
def floatR (P : Program) (w : World) (D : Value → World → Prop) : Result Next → Prop
 | .ok (.value u) w' => D u w' ∧ Grows w w'
 | .ok (.enter f args) w' => Calls P f args w' fun e w'' => ∃ u, e = .returned u ∧ D u w'' ∧ Grows w w''
 | _ => False
section
variable {P : Program} {ops : Array Oper} {S : World → Prop} {md : Region.Mode}
def CalmAt (P : Program) (ops : Array Oper) (S : World → Prop) (o : Oper) (v : Value) (a : Act) : Prop :=
 (Region.wanted o (yielded ops a.tmps) = true ∧ ∀ w, S w → calmR P w ((execOp a.eval o).run P w) v) ∨ (Region.wanted o (yielded ops a.tmps) = false ∧ v = undef)
def FloatAt (P : Program) (S : World → Prop) (o : Oper) (D : Value → World → Prop) (a : Act) : Prop :=
 o.guard = none ∧ ∀ w, S w → floatR P w D ((execOp a.eval o).run P w)
abbrev Floats := List (Nat × (Value → World → Prop))
def Floats.at (fl : Floats) (k : Nat) : Option (Value → World → Prop) := fl.lookup k
theorem run_agree {o : Oper} (hs : ∀ cs b, o.op ≠ .select cs b) {a a' : Act} (h : ∀ t ∈ o.looksAt ops, a.tmps[t]? = a'.tmps[t]?) : execOp a.eval o = execOp a'.eval o := by
 refine execOp_congr o hs fun x hx => ?_
 cases x with
 | tmp t =>
  have := h t (List.mem_append_left _ (List.mem_filterMap.2 ⟨.tmp t, by simpa using hx, rfl⟩))
  simp [Act.eval, this]
 | _ => rfl
theorem wanted_agree {o : Oper} {a a' : Act} (h : ∀ t ∈ o.looksAt ops, a.tmps[t]? = a'.tmps[t]?) : Region.wanted o (yielded ops a.tmps) = Region.wanted o (yielded ops a'.tmps) := by
 unfold Region.wanted
 cases hg : o.guard with
 | none => rfl
 | some gw =>
  obtain ⟨g, want⟩ := gw
  have hy : yielded ops a.tmps g = yielded ops a'.tmps g := by
   unfold yielded
   cases ht : (ops[g]?).bind (·.dst) with
   | none => rfl
   | some t =>
    have := h t (List.mem_append_right _ (by simp [hg, ht]))
    simp [this]
  simp only [hy]
theorem CalmAt.agree {o : Oper} (hs : ∀ cs b, o.op ≠ .select cs b) {v : Value} {a a' : Act} (h : ∀ t ∈ o.looksAt ops, a.tmps[t]? = a'.tmps[t]?) (hc : CalmAt P ops S o v a) : CalmAt P ops S o v a' := by
 unfold CalmAt at *
 rw [← run_agree (ops := ops) hs h, ← wanted_agree h]
 exact hc
/-! ### the walk in the order of the text -/
def wpCalm (P : Program) (ops : Array Oper) (S : World → Prop) (fl : Floats) (L : Act → Prop) : List Oper → Nat → Act → Prop
 | [], _, a => L a
 | o :: l, k, a =>
  match fl.at k with
  | some D => FloatAt P S o D a ∧ wpCalm P ops S fl L l (k + 1) a
  | none => ∃ v, CalmAt P ops S o v a ∧ wpCalm P ops S fl L l (k + 1) (a.put o.dst v)
def stepAct (fl : Floats) (val : Nat → Value) (o : Oper) (k : Nat) (a : Act) : Act := match fl.at k with | some _ => a | none => a.put o.dst (val k)
def fin (fl : Floats) (val : Nat → Value) : List Oper → Nat → Act → Act
 | [], _, a => a
 | o :: l, k, a => fin fl val l (k + 1) (stepAct fl val o k a)
def Good (P : Program) (ops : Array Oper) (S : World → Prop) (fl : Floats) (val : Nat → Value) : List Oper → Nat → Act → Prop
 | [], _, _ => True
 | o :: l, k, a => (match fl.at k with | some D => FloatAt P S o D a | none => CalmAt P ops S o (val k) a) ∧ Good P ops S fl val l (k + 1) (stepAct fl val o k a)
theorem fin_congr {fl : Floats} {val val' : Nat → Value} : ∀ (l : List Oper) (k : Nat) (a : Act), (∀ j, k ≤ j → val j = val' j) → fin fl val l k a = fin fl val' l k a
 | [], _, _, _ => rfl
 | o :: l, k, a, h => by
  simp only [fin, stepAct, h k (Nat.le_refl _)]
  exact fin_congr l (k + 1) _ fun j hj => h j (by omega)
theorem Good_congr {fl : Floats} {val val' : Nat → Value} : ∀ (l : List Oper) (k : Nat) (a : Act), (∀ j, k ≤ j → val j = val' j) → Good P ops S fl val l k a → Good P ops S fl val' l k a
 | [], _, _, _, _ => trivial
 | o :: l, k, a, h, hg => by
  simp only [Good, stepAct, h k (Nat.le_refl _)] at hg ⊢
  exact ⟨hg.1, Good_congr l (k + 1) _ (fun j hj => h j (by omega)) hg.2⟩
theorem good_of_wpCalm {fl : Floats} {L : Act → Prop} : ∀ (l : List Oper) (k : Nat) (a : Act), wpCalm P ops S fl L l k a → ∃ val, Good P ops S fl val l k a ∧ L (fin fl val l k a)
 | [], _, a, h => ⟨fun _ => undef, trivial, h⟩
 | o :: l, k, a, h => by
  unfold wpCalm at h
  cases hf : fl.at k with
  | some D =>
   simp only [hf] at h
   obtain ⟨val, hg, hL⟩ := good_of_wpCalm l (k + 1) a h.2
   exact ⟨val, by simp only [Good, hf, stepAct]; exact ⟨h.1, hg⟩, by simp only [fin, stepAct, hf]; exact hL⟩
  | none =>
   simp only [hf] at h
   obtain ⟨v, hc, h2⟩ := h
   obtain ⟨val, hg, hL⟩ := good_of_wpCalm l (k + 1) (a.put o.dst v) h2
   have hcg : ∀ j, k + 1 ≤ j → val j = (fun i => if i = k then v else val i) j := fun j hj => by simp only []; rw [if_neg (by omega)]
   refine ⟨fun i => if i = k then v else val i, ?_, ?_⟩
   ·simp only [Good, hf, stepAct, if_true]
    exact ⟨hc, Good_congr l (k + 1) _ hcg hg⟩
   ·simp only [fin, stepAct, hf, if_true]
    rw [← fin_congr l (k + 1) _ hcg]
    exact hL
/-! ### what the frame holds in the order of the text -/
theorem put_size (a : Act) (d : Option Tmp) (v : Value) : (a.put d v).tmps.size = a.tmps.size := by cases d <;> simp [Act.put]
theorem put_defers' (a : Act) (d : Option Tmp) (v : Value) : (a.put d v).defers = a.defers := by cases d <;> rfl
theorem put_get_ne {a : Act} {d : Option Tmp} {v : Value} {t : Nat} (h : d ≠ some t) : (a.put d v).tmps[t]? = a.tmps[t]? := by
 cases d with
 | none => rfl
 | some d => exact Array.getElem?_setIfInBounds_ne (fun e => h (by rw [e]))
theorem put_get_eq {a : Act} {v : Value} {t : Nat} (h : t < a.tmps.size) : (a.put (some t) v).tmps[t]? = some v := by
 simp [Act.put, h]
theorem stepAct_size (fl : Floats) (val : Nat → Value) (o : Oper) (k : Nat) (a : Act) : (stepAct fl val o k a).tmps.size = a.tmps.size := by
 unfold stepAct; split
 ·rfl
 ·exact put_size _ _ _
theorem stepAct_defers (fl : Floats) (val : Nat → Value) (o : Oper) (k : Nat) (a : Act) : (stepAct fl val o k a).defers = a.defers := by
 unfold stepAct; split
 ·rfl
 ·exact put_defers' _ _ _
theorem fin_size {fl : Floats} {val : Nat → Value} : ∀ (l : List Oper) (k : Nat) (a : Act), (fin fl val l k a).tmps.size = a.tmps.size
 | [], _, _ => rfl
 | _ :: l, k, _ => (fin_size l (k + 1) _).trans (stepAct_size _ _ _ _ _)
theorem fin_defers {fl : Floats} {val : Nat → Value} : ∀ (l : List Oper) (k : Nat) (a : Act), (fin fl val l k a).defers = a.defers
 | [], _, _ => rfl
 | _ :: l, k, _ => (fin_defers l (k + 1) _).trans (stepAct_defers _ _ _ _ _)
/-- A slot that no calm op of the list writes. -/
theorem fin_other {fl : Floats} {val : Nat → Value} {t : Nat} : ∀ (l : List Oper) (k : Nat) (a : Act), (∀ j o, l[j]? = some o → fl.at (k + j) = none → o.dst ≠ some t) → (fin fl val l k a).tmps[t]? = a.tmps[t]?
 | [], _, _, _ => rfl
 | o :: l, k, a, h => by
  have h0 : (stepAct fl val o k a).tmps[t]? = a.tmps[t]? := by
   unfold stepAct
   cases hf : fl.at k with
   | some D => rfl
   | none => exact put_get_ne (h 0 o rfl (by simpa using hf))
  rw [fin, fin_other l (k + 1) _ fun j o' hj hn => h (j + 1) o' (by simpa using hj) (by rw [← hn]; congr 1; omega)]
  exact h0
/-- The slot of calm op number j, where no two ops write one slot. -/
theorem fin_at {fl : Floats} {val : Nat → Value} {t : Nat} : ∀ (l : List Oper) (k : Nat) (a : Act) (j : Nat) (o : Oper), l[j]? = some o → o.dst = some t → fl.at (k + j) = none → t < a.tmps.size →
 (∀ i o', l[i]? = some o' → i ≠ j → o'.dst ≠ some t) → (fin fl val l k a).tmps[t]? = some (val (k + j))
 | [], _, _, _, _, hj, _, _, _, _ => by simp at hj
 | o' :: l, k, _, 0, _, hj, hd, hn, ht, hu => by
  simp only [List.getElem?_cons_zero, Option.some.injEq] at hj
  subst hj
  rw [fin, fin_other l (k + 1) _ fun j o' hj _ => hu (j + 1) o' (by simpa using hj) (by omega)]
  simp only [stepAct, show fl.at k = none from by simpa using hn, hd, Nat.add_zero]
  exact put_get_eq ht
 | _ :: l, k, _, j + 1, o, hj, hd, hn, ht, hu => by
  rw [fin, show k + (j + 1) = k + 1 + j by omega]
  exact fin_at l (k + 1) _ j o (by simpa using hj) hd (by rw [← hn]; congr 1; omega) (by rw [stepAct_size]; exact ht) fun i o' hi hne => hu (i + 1) o' (by simpa using hi) (by omega)
theorem good_at {fl : Floats} {val : Nat → Value} : ∀ (l : List Oper) (k : Nat) (a : Act) (j : Nat) (o : Oper), Good P ops S fl val l k a → l[j]? = some o →
 (match fl.at (k + j) with | some D => FloatAt P S o D (fin fl val (l.take j) k a) | none => CalmAt P ops S o (val (k + j)) (fin fl val (l.take j) k a))
 | [], _, _, _, _, _, hj => by simp at hj
 | _ :: l, k, _, 0, o, hg, hj => by
  simp only [List.getElem?_cons_zero, Option.some.injEq] at hj
  subst hj
  simpa [Good, fin] using hg.1
 | _ :: l, k, _, j + 1, o, hg, hj => by
  have := good_at l (k + 1) _ j o hg.2 (by simpa using hj)
  rw [show k + 1 + j = k + (j + 1) by omega] at this
  simpa [fin] using this
/-! ### the check, in one closed Bool -/
def mixB (md : Region.Mode) (ops : Array Oper) (n N : Nat) (ks : List Nat) : Bool :=
 Region.noSelect ops && decide (n ≤ ops.size) && decide ks.Nodup && ks.all (fun k => decide (k < n) && ((ops[k]?).bind (·.dst)).isSome) &&
 (decide (n = ops.size) || (decide (n < ops.size) && Region.sinkB md ops n && Region.chainB md ops n)) &&
 Region.seqB md ops (ops.size - n) n ((Array.replicate n true) ++ (Array.replicate (ops.size - n) false)) &&
 (List.range n).all (fun i => match ops[i]? with
   | none => false
   | some o => (match o.dst with | none => true | some t => decide (t < N)) && o.after.all (fun e => !Region.binds md e || decide (e.on < i)) &&
    (List.range n).all (fun k => (k == i || match o.dst with | none => true | some t => !((ops[k]?).bind (·.dst) == some t)) &&
      (match (ops[k]?).bind (·.dst) with
       | none => true
       | some t => !(o.looksAt ops).contains t || (decide (k < i) && !ks.contains k && Region.waitsFor md ops i k))))
structure MixOk (md : Region.Mode) (ops : Array Oper) (n N : Nat) (ks : List Nat) : Prop where
 sel : Region.noSelect ops = true
 le : n ≤ ops.size
 nd : ks.Nodup
 fl : ∀ k ∈ ks, k < n ∧ ∃ t, (ops[k]?).bind (·.dst) = some t
 tail : n = ops.size ∨ (n < ops.size ∧ Region.sinkB md ops n = true ∧ Region.chainB md ops n = true)
 seq : Region.seqB md ops (ops.size - n) n ((Array.replicate n true) ++ (Array.replicate (ops.size - n) false)) = true
 bd : ∀ i o t, i < n → ops[i]? = some o → o.dst = some t → t < N
 back : ∀ i o, i < n → ops[i]? = some o → ∀ e ∈ o.after, Region.binds md e = true → e.on < i
 ne : ∀ i o k o' t, i < n → k < n → ops[i]? = some o → ops[k]? = some o' → k ≠ i → o.dst = some t → o'.dst ≠ some t
 look : ∀ i o k o' t, i < n → k < n → ops[i]? = some o → ops[k]? = some o' → o'.dst = some t → t ∈ o.looksAt ops → k < i ∧ k ∉ ks ∧ Region.waitsFor md ops i k = true
theorem mixOk_of {n N : Nat} {ks : List Nat} (h : mixB md ops n N ks = true) : MixOk md ops n N ks := by
 simp only [mixB, Bool.and_eq_true, decide_eq_true_eq, List.all_eq_true, Bool.or_eq_true, List.mem_range] at h
 obtain ⟨⟨⟨⟨⟨⟨h1, h2⟩, h3⟩, h4⟩, h5⟩, h6⟩, h7⟩ := h
 have H : ∀ i o, i < n → ops[i]? = some o → _ := fun i o hi ho => by
  have := h7 i hi
  rw [ho] at this
  exact this
 refine ⟨h1, h2, h3, fun k hk => ⟨(h4 k hk).1, Option.isSome_iff_exists.1 (h4 k hk).2⟩, ?_, h6, ?_, ?_, ?_, ?_⟩
 ·rcases h5 with h5 | h5
  ·exact .inl h5
  ·exact .inr ⟨h5.1.1, h5.1.2, h5.2⟩
 ·intro i o t hi ho hd
  have := (H i o hi ho)
  simp only [Bool.and_eq_true, hd, decide_eq_true_eq] at this
  exact this.1.1
 ·intro i o hi ho e he hb
  have := (H i o hi ho)
  simp only [Bool.and_eq_true] at this
  have h8 := Array.all_eq_true_iff_forall_mem.1 this.1.2 e he
  simpa [hb] using h8
 ·intro i o k o' t hi hk ho ho' hne hd
  have := (H i o hi ho)
  simp only [Bool.and_eq_true, List.all_eq_true, List.mem_range] at this
  have h8 := (this.2 k hk).1
  simp only [ho', Option.bind_some, hd, Bool.or_eq_true, beq_iff_eq, hne, false_or, Bool.not_eq_true', beq_eq_false_iff_ne] at h8
  exact h8
 ·intro i o k o' t hi hk ho ho' hd ht
  have := (H i o hi ho)
  simp only [Bool.and_eq_true, List.all_eq_true, List.mem_range] at this
  have h8 := (this.2 k hk).2
  have hc : (o.looksAt ops).contains t = true := by simpa using ht
  simp only [ho', Option.bind_some, hd, hc, Bool.not_true, Bool.false_or, Bool.and_eq_true, decide_eq_true_eq, Bool.not_eq_true', List.contains_eq_mem, decide_eq_false_iff_not] at h8
  exact ⟨h8.1.1, h8.1.2, h8.2⟩
/-! ### one op in whatever order -/
theorem calm_wpOp {Q : Exit → Act → World → Prop} {i : Nat} {o : Oper} {v : Value} {a : Act} {w : World} {K : Act → World → Prop} (hi : ops[i]? = some o) (hc : CalmAt P ops S o v a) (hw : S w)
 (hK : ∀ w', Grows w w' → K (a.put o.dst v) w') : wpOp P ops Q i K a w := by
 unfold wpOp
 simp only [hi]
 rcases hc with ⟨hwt, hr⟩ | ⟨hwt, rfl⟩
 ·simp only [hwt, if_true]
  refine .inl ?_
  have := hr w hw
  unfold Oper.wp
  generalize (execOp a.eval o).run P w = r at *
  cases r with
  | ok n w' =>
   cases n <;> simp only [calmR] at this <;> simp only [Oper.upon]
   case value u => obtain ⟨rfl, hg⟩ := this; exact hK _ hg
   case skip => obtain ⟨rfl, hg⟩ := this; exact hK _ hg
   case enter f args => exact this.mono fun e w'' ⟨he, hg⟩ => by subst he; exact hK _ hg
  | halt x w' => simp only [calmR] at this
 ·simp only [hwt, Bool.false_eq_true, if_false]
  exact hK _ (Below.refl _ _)
theorem float_wpOp {Q : Exit → Act → World → Prop} {i : Nat} {o : Oper} {D : Value → World → Prop} {a : Act} {w : World} {K : Act → World → Prop} (hi : ops[i]? = some o) (hc : FloatAt P S o D a) (hw : S w)
 (hK : ∀ u w', D u w' → Grows w w' → K (a.put o.dst u) w') : wpOp P ops Q i K a w := by
 unfold wpOp
 simp only [hi, Region.wanted, hc.1, if_true]
 refine .inl ?_
 have := hc.2 w hw
 unfold Oper.wp
 generalize (execOp a.eval o).run P w = r at *
 cases r with
 | ok n w' =>
  cases n <;> simp only [floatR] at this <;> simp only [Oper.upon]
  case value u => exact hK _ _ this.1 this.2
  case enter f args => exact this.mono fun e w'' ⟨u, he, hd, hg⟩ => by subst he; exact hK _ _ hd hg
 | halt x w' => simp only [floatR] at this
/-! ### the state in whatever order -/
structure Inv (S : World → Prop) (ops : Array Oper) (n : Nat) (fl : Floats) (val : Nat → Value) (a0 : Act) (listed : Array Bool) (a : Act) (w : World) : Prop where
 s : S w
 defers : a.defers = a0.defers
 size : a.tmps.size = a0.tmps.size
 calm : ∀ k o t, k < n → ops[k]? = some o → o.dst = some t → listed.getD k false = true → fl.at k = none → a.tmps[t]? = some (val k)
 float : ∀ k o t D, k < n → ops[k]? = some o → o.dst = some t → listed.getD k false = true → fl.at k = some D → ∃ v, a.tmps[t]? = some v ∧ D v w
 other : ∀ t, (∀ k o, k < n → ops[k]? = some o → listed.getD k false = true → o.dst ≠ some t) → a.tmps[t]? = a0.tmps[t]?
theorem lookup_mem {fl : Floats} {k : Nat} : k ∉ fl.map (·.1) → fl.at k = none := by
 intro h
 unfold Floats.at
 rw [List.lookup_eq_none_iff]
 intro p hp
 simp only [bne_iff_ne, ne_eq]
 intro e
 exact h (List.mem_map.2 ⟨p, hp, e.symm⟩)
theorem lookup_some {k : Nat} {D : Value → World → Prop} : ∀ {fl : Floats}, (fl.map (·.1)).Nodup → (k, D) ∈ fl → fl.at k = some D
 | [], _, h => by simp at h
 | (k', D') :: r, hn, h => by
  simp only [List.map_cons, List.nodup_cons] at hn
  unfold Floats.at
  rw [List.lookup_cons]
  rcases List.mem_cons.1 h with h | h
  ·injection h with h1 h2
   subst h1; subst h2
   simp
  ·have hne : k ≠ k' := fun e => hn.1 (List.mem_map.2 ⟨(k, D), h, e⟩)
   simp only [beq_eq_false_iff_ne.2 hne]
   exact lookup_some (fl := r) hn.2 h
theorem lookup_key {fl : Floats} {k : Nat} {D : Value → World → Prop} (h : fl.at k = some D) : k ∈ fl.map (·.1) := by
 apply Classical.byContradiction
 intro hn
 rw [lookup_mem hn] at h
 cases h
theorem countP_lt {p q : Nat → Bool} {i : Nat} : ∀ (l : List Nat), i ∈ l → (∀ j ∈ l, q j = true → p j = true) → p i = true → q i = false → l.countP q < l.countP p
 | [], h, _, _, _ => by simp at h
 | x :: l, h, hle, hp, hq => by
  have hmono : l.countP q ≤ l.countP p := List.countP_mono_left fun j hj hq' => hle j (by simp [hj]) hq'
  by_cases hx : i = x
  ·subst hx
   rw [List.countP_cons, List.countP_cons, hp, hq]
   simp
   omega
  ·have hi : i ∈ l := by
    rcases List.mem_cons.1 h with h | h
    ·exact absurd h hx
    ·exact h
   have := countP_lt l hi (fun j hj => hle j (by simp [hj])) hp hq
   rw [List.countP_cons, List.countP_cons]
   have h2 := hle x (by simp)
   cases hqx : q x
   ·simp; omega
   ·rw [h2 hqx]; simp; omega
theorem wpAny_more {Q : Exit → Act → World → Prop} : ∀ (f : Nat) (listed : Array Bool) (a : Act) (w : World), wpAny P md ops Q f listed a w → wpAny P md ops Q (f + 1) listed a w
 | 0, _, _, _, h => ⟨fun _ => h.2, fun i hi => by rw [h.1] at hi; cases hi⟩
 | f + 1, _, _, _, h => ⟨h.1, fun i hi => wpOp_mono (fun a' w' h' => wpAny_more f _ a' w' h') (h.2 i hi)⟩
theorem wpAny_fuel {Q : Exit → Act → World → Prop} (g : Nat) (listed : Array Bool) (a : Act) (w : World) (h : wpAny P md ops Q g listed a w) : ∀ f, wpAny P md ops Q (f + g) listed a w
 | 0 => by rw [Nat.zero_add]; exact h
 | f + 1 => by rw [show f + 1 + g = (f + g) + 1 by omega]; exact wpAny_more _ _ _ _ (wpAny_fuel g listed a w h f)
section
variable {n N : Nat} {ks : List Nat} {fl : Floats} {val : Nat → Value} {a0 : Act}
theorem take_get {i : Nat} {o : Oper} (hi : i < n) (ho : ops[i]? = some o) : (ops.toList.take n)[i]? = some o := by
 rw [List.getElem?_take, if_pos hi]; simpa using ho
theorem of_take_get {i : Nat} {o : Oper} (ho : (ops.toList.take n)[i]? = some o) : i < n ∧ ops[i]? = some o := by
 rw [List.getElem?_take] at ho
 split at ho
 ·exact ⟨by assumption, by simpa using ho⟩
 ·cases ho
theorem op_step (ok : MixOk md ops n N ks) (hks : fl.map (·.1) = ks) (hN : a0.tmps.size = N) (good : Good P ops S fl val (ops.toList.take n) 0 a0)
 {listed : Array Bool} {a : Act} {w : World} (inv : Inv S ops n fl val a0 listed a w) {i : Nat} {o : Oper} (hi : i < n) (ho : ops[i]? = some o) (hr : i ∈ Region.ready md ops listed) :
 (match fl.at i with | some D => FloatAt P S o D a | none => CalmAt P ops S o (val i) a) := by
 have hg := good_at (ops.toList.take n) 0 a0 i o good (take_get hi ho)
 rw [Nat.zero_add] at hg
 rw [List.take_take, Nat.min_eq_left (by omega)] at hg
 have hs : ∀ cs b, o.op ≠ .select cs b := fun cs b => Region.noSelect_spec ok.sel i o cs b ho
 have agree : ∀ t ∈ o.looksAt ops, (fin fl val (ops.toList.take i) 0 a0).tmps[t]? = a.tmps[t]? := by
  intro t ht
  by_cases hex : ∃ k o', k < n ∧ ops[k]? = some o' ∧ o'.dst = some t
  ·obtain ⟨k, o', hk, ho', hd⟩ := hex
   obtain ⟨h1, h2, h3⟩ := ok.look i o k o' t hi hk ho ho' hd ht
   have hcalm : fl.at k = none := lookup_mem (by rw [hks]; exact h2)
   have hlisted : listed.getD k false = true := by
    obtain ⟨oj, hoj, e, he, hb, hon⟩ := Region.waitsFor_spec h3
    obtain ⟨_, oi, hoi, hall⟩ := mem_ready.1 hr
    have : oj = oi := Option.some.inj (hoj.symm.trans hoi)
    subst this
    have := hall e he hb
    rwa [hon] at this
   have e1 := inv.calm k o' t hk ho' hd hlisted hcalm
   have hlt : t < a0.tmps.size := by rw [hN]; exact ok.bd k o' t hk ho' hd
   have e2 := fin_at (fl := fl) (val := val) (ops.toList.take i) 0 a0 k o' (take_get h1 ho') hd (by rw [Nat.zero_add]; exact hcalm) hlt (by
    intro j oj hj hne hdj
    obtain ⟨hji, hoj⟩ := of_take_get hj
    exact ok.ne j oj k o' t (by omega) hk hoj ho' (Ne.symm hne) hdj hd)
   rw [Nat.zero_add] at e2
   rw [e1, e2]
  ·have e1 := inv.other t fun k o' hk ho' _ hd => hex ⟨k, o', hk, ho', hd⟩
   have e2 := fin_other (fl := fl) (val := val) (t := t) (ops.toList.take i) 0 a0 fun j oj hj _ hd => by
    obtain ⟨hji, hoj⟩ := of_take_get hj
    exact hex ⟨j, oj, by omega, hoj, hd⟩
   rw [e1, e2]
 cases hf : fl.at i with
 | some D =>
  simp only [hf] at hg ⊢
  exact ⟨hg.1, by rw [← run_agree (ops := ops) hs agree]; exact hg.2⟩
 | none =>
  simp only [hf] at hg ⊢
  exact hg.agree hs agree
theorem inv_step (ok : MixOk md ops n N ks) (hN : a0.tmps.size = N) (hS : ∀ w w', S w → Grows w w' → S w') (hD : ∀ k D, fl.at k = some D → ∀ v w w', D v w → Grows w w' → D v w')
 {listed : Array Bool} {a : Act} {w w' : World} (inv : Inv S ops n fl val a0 listed a w) {i : Nat} {o : Oper} (hi : i < n) (ho : ops[i]? = some o) (hl : i < listed.size) {u : Value}
 (hu : fl.at i = none → u = val i) (huf : ∀ D, fl.at i = some D → D u w') (hg : Grows w w') : Inv S ops n fl val a0 (listed.setIfInBounds i true) (a.put o.dst u) w' := by
 have key : ∀ k o' t, k < n → ops[k]? = some o' → o'.dst = some t → k ≠ i → (a.put o.dst u).tmps[t]? = a.tmps[t]? := by
  intro k o' t hk ho' hd hne
  exact put_get_ne fun e => ok.ne i o k o' t hi hk ho ho' hne e hd
 refine ⟨hS _ _ inv.s hg, (put_defers' _ _ _).trans inv.defers, (put_size _ _ _).trans inv.size, ?_, ?_, ?_⟩
 ·intro k o' t hk ho' hd hlk hc
  by_cases hki : k = i
  ·subst hki
   have : o' = o := Option.some.inj (ho'.symm.trans ho)
   subst this
   rw [hd, put_get_eq (by rw [inv.size, hN]; exact ok.bd k o' t hk ho' hd), hu hc]
  ·rw [key k o' t hk ho' hd hki]
   exact inv.calm k o' t hk ho' hd (by rwa [getD_set_ne false (Ne.symm hki)] at hlk) hc
 ·intro k o' t D hk ho' hd hlk hc
  by_cases hki : k = i
  ·subst hki
   have : o' = o := Option.some.inj (ho'.symm.trans ho)
   subst this
   exact ⟨u, by rw [hd, put_get_eq (by rw [inv.size, hN]; exact ok.bd k o' t hk ho' hd)], huf D hc⟩
  ·rw [key k o' t hk ho' hd hki]
   obtain ⟨v, hv, hDv⟩ := inv.float k o' t D hk ho' hd (by rwa [getD_set_ne false (Ne.symm hki)] at hlk) hc
   exact ⟨v, hv, hD k D hc v _ _ hDv hg⟩
 ·intro t ht
  have h1 : o.dst ≠ some t := ht i o hi ho (by simp [hl])
  rw [put_get_ne h1]
  exact inv.other t fun k o' hk ho' hlk => ht k o' hk ho' (getD_set_true hlk)
theorem head_run {Q : Exit → Act → World → Prop} (ok : MixOk md ops n N ks) (hks : fl.map (·.1) = ks) (hN : a0.tmps.size = N) (hS : ∀ w w', S w → Grows w w' → S w')
 (hD : ∀ k D, fl.at k = some D → ∀ v w w', D v w → Grows w w' → D v w') (good : Good P ops S fl val (ops.toList.take n) 0 a0) (g : Nat)
 (H : ∀ listed a w, HeadInv md ops n listed → (∀ i, i < n → listed.getD i false = true) → Inv S ops n fl val a0 listed a w → wpAny P md ops Q g listed a w) :
 ∀ (f : Nat) (listed : Array Bool) (a : Act) (w : World), ((List.range n).countP fun i => !listed.getD i false) ≤ f → HeadInv md ops n listed → Inv S ops n fl val a0 listed a w →
  wpAny P md ops Q (f + g) listed a w := by
 intro f
 induction f with
 | zero =>
  intro listed a w hc hinv inv
  rw [Nat.zero_add]
  refine H listed a w hinv (fun i hi => ?_) inv
  have h0 : ((List.range n).countP fun i => !listed.getD i false) = 0 := by omega
  rw [List.countP_eq_zero] at h0
  have := h0 i (List.mem_range.2 hi)
  simpa using this
 | succ f ih =>
  intro listed a w hc hinv inv
  by_cases hall : ∀ i, i < n → listed.getD i false = true
  ·exact wpAny_fuel g listed a w (H listed a w hinv hall inv) (f + 1)
  ·-- some op of the head is not listed yet
   have hex : ∃ i, i < n ∧ listed.getD i false = false := by
    apply Classical.byContradiction
    intro hno
    exact hall fun i hi => by
     cases h : listed.getD i false
     ·exact absurd ⟨i, hi, h⟩ hno
     ·rfl
   obtain ⟨i0, hi0, hl0⟩ := hex
   have hsz : ∀ i, i < n → i < listed.size := fun i hi => by rw [hinv.size]; have := ok.le; omega
   -- the least one is ready
   have hready : Region.ready md ops listed ≠ [] := by
    have : ∀ d i, i ≤ d → i < n → listed.getD i false = false → ∃ j, j ∈ Region.ready md ops listed := by
     intro d
     induction d with
     | zero =>
      intro i hid hi hl
      obtain ⟨o, ho⟩ : ∃ o, ops[i]? = some o := ⟨ops[i]'(by have := ok.le; omega), by simp [show i < ops.size by have := ok.le; omega]⟩
      refine ⟨i, mem_ready.2 ⟨getD_in (hsz i hi) hl, o, ho, fun e he hb => ?_⟩⟩
      have := ok.back i o hi ho e he hb
      omega
     | succ d ihd =>
      intro i hid hi hl
      obtain ⟨o, ho⟩ : ∃ o, ops[i]? = some o := ⟨ops[i]'(by have := ok.le; omega), by simp [show i < ops.size by have := ok.le; omega]⟩
      by_cases hw : ∀ e ∈ o.after, Region.binds md e = true → listed.getD e.on false = true
      ·exact ⟨i, mem_ready.2 ⟨getD_in (hsz i hi) hl, o, ho, hw⟩⟩
      ·have : ∃ e ∈ o.after, Region.binds md e = true ∧ listed.getD e.on false = false := by
        apply Classical.byContradiction
        intro hno
        exact hw fun e he hb => by
         cases h : listed.getD e.on false
         ·exact absurd ⟨e, he, hb, h⟩ hno
         ·rfl
       obtain ⟨e, he, hb, hle⟩ := this
       have hlt := ok.back i o hi ho e he hb
       exact ihd e.on (by omega) (by omega) hle
    obtain ⟨j, hj⟩ := this i0 i0 (Nat.le_refl _) hi0 hl0
    intro h0
    rw [h0] at hj
    cases hj
   rw [show f + 1 + g = (f + g) + 1 by omega]
   refine ⟨fun h0 => absurd h0 hready, fun i hir => ?_⟩
   have hin : i < n := by
    rcases Nat.lt_or_ge i n with h | h
    ·exact h
    ·exfalso
     obtain ⟨_, oi, hoi, _⟩ := mem_ready.1 hir
     have hlt : i < ops.size := (Array.getElem?_eq_some_iff.1 hoi).1
     rcases ok.tail with ht | ⟨ht, hs, hch⟩
     ·omega
     ·exact tail_waits hs hch ht hinv _ i0 rfl hi0 (getD_in (hsz i0 hi0) hl0) i h hir
   obtain ⟨hun, o, ho, _⟩ := mem_ready.1 hir
   have hst := op_step ok hks hN good inv hin ho hir
   have hunf : listed.getD i false = false := getD_both hun
   have hcnt : ((List.range n).countP fun j => !(listed.setIfInBounds i true).getD j false) ≤ f := by
    have := countP_lt (p := fun j => !listed.getD j false) (q := fun j => !(listed.setIfInBounds i true).getD j false) (List.range n) (List.mem_range.2 hin)
     (fun j _ hj => by
       simp only [Bool.not_eq_true'] at hj ⊢
       cases h : listed.getD j false
       ·rfl
       ·rw [getD_set_true h] at hj; cases hj) (by simp only [hunf, Bool.not_false]) (by simp [hsz i hin])
    omega
   have hinv' := hinv.set hir hin
   cases hf : fl.at i with
   | some D =>
    simp only [hf] at hst
    exact float_wpOp ho hst inv.s fun u w' hu hg => ih _ _ _ hcnt hinv' (inv_step ok hN hS hD inv hin ho (hsz i hin) (fun h => by rw [hf] at h; cases h) (fun D' h => by rw [hf] at h; injection h with h; subst h; exact hu) hg)
   | none =>
    simp only [hf] at hst
    exact calm_wpOp ho hst inv.s fun w' hg => ih _ _ _ hcnt hinv' (inv_step ok hN hS hD inv hin ho (hsz i hin) (fun _ => rfl) (fun D' h => by rw [hf] at h; cases h) hg)
/-- Behind the head: each float's value, and what is known of it. -/
def endMix (ops : Array Oper) (T : Act → World → Prop) (S : World → Prop) : Floats → Act → (World → Prop) → Prop
 | [], a, F => ∀ w, S w → F w → T a w
 | (k, D) :: r, a, F => ∀ v, endMix ops T S r (a.put ((ops[k]?).bind (·.dst)) v) fun w => F w ∧ D v w
theorem endMix_out {T : Act → World → Prop} {a : Act} {w : World} (hs : S w) : ∀ (r : Floats) (b : Act) (F : World → Prop), endMix ops T S r b F → F w → b.defers = a.defers → b.tmps.size = a.tmps.size →
 (∀ k D, (k, D) ∈ r → ∃ t v, (ops[k]?).bind (·.dst) = some t ∧ a.tmps[t]? = some v ∧ D v w) →
 (∀ t : Nat, (∀ k D, (k, D) ∈ r → (ops[k]?).bind (·.dst) ≠ some t) → b.tmps[t]? = a.tmps[t]?) → T a w
 | [], b, F, h, hF, hd, hsz, _, hag => by
  have hb : b = a := by
   obtain ⟨bt, bd⟩ := b
   obtain ⟨at', ad⟩ := a
   simp only at hd hsz hag
   subst hd
   congr 1
   exact Array.ext_getElem? fun t => hag t (by simp)
  subst hb
  exact h w hs hF
 | (k, D) :: r, b, F, h, hF, hd, hsz, hfl, hag => by
  obtain ⟨t, v, ht, hv, hDv⟩ := hfl k D (by simp)
  have hlt : t < b.tmps.size := by
   rw [hsz]
   rcases Nat.lt_or_ge t a.tmps.size with h1 | h1
   ·exact h1
   ·rw [Array.getElem?_eq_none h1] at hv; cases hv
  refine endMix_out hs r _ _ (h v) ⟨hF, hDv⟩ ((put_defers' _ _ _).trans hd) ((put_size _ _ _).trans hsz) (fun k' D' hk' => hfl k' D' (by simp [hk'])) fun t' ht' => ?_
  rw [ht]
  by_cases e : t = t'
  ·subst e
   rw [put_get_eq hlt, hv]
  ·rw [put_get_ne (by simpa using e)]
   refine hag t' fun k' D' hk' => ?_
   rcases List.mem_cons.1 hk' with hk' | hk'
   ·injection hk' with h1 h2
    subst h1
    rw [ht]
    simpa using e
   ·exact ht' k' D' hk'
end
theorem wp_region_mix {id : Nat} {Q : Exit → Act → World → Prop} {a : Act} {w : World} {l : List Oper} (S : World → Prop) (fl : Floats) (n N : Nat) (hm : P.follows .mixedOrders = true) (hB : mixB .any l.toArray n N (fl.map (·.1)) = true)
 (hN : a.tmps.size = N) (hS : ∀ w w', S w → Grows w w' → S w') (hD : ∀ k D, fl.at k = some D → ∀ v w w', D v w → Grows w w' → D v w') (h0 : S w.drew)
 (h : wpCalm P l.toArray S fl (fun a' => endMix l.toArray (fun a'' w' => wpList P l.toArray Q (l.drop n) a'' w') S fl a' fun _ => True) (l.take n) 0 a) : (Code.region id l.toArray true).wp P Q a w := by
 have ok := mixOk_of hB
 have hle : n ≤ l.length := by simpa using ok.le
 obtain ⟨val, good, hL⟩ := good_of_wpCalm (l.take n) 0 a h
 refine wp_region_any hm ?_
 have inv0 : HeadInv .any l.toArray n (Array.replicate l.toArray.size false) :=
  ⟨by simp, fun j oj _ hl => (by rw [getD_replicate_false] at hl; cases hl), fun t _ ht => getD_in (by simpa using ht) (getD_replicate_false _ _)⟩
 have key := head_run (md := .any) (Q := Q) (ops := l.toArray) (S := S) (fl := fl) (val := val) (a0 := a) ok rfl hN hS hD (by simpa using good) (l.length - n) (by
  intro listed b w' hinv hall inv
  refine (show l.length - n = (l.drop n).length by simp) ▸ wpAny_of_seq (l.drop n) n listed b w' (fun j => by simp [List.getElem?_drop]) ?_ ?_
  ·have hls : listed = (Array.replicate n true) ++ (Array.replicate (l.length - n) false) := by
    refine Array.ext (by simp [hinv.size]; omega) fun i h1 h2 => ?_
    have hsz : i < l.length := by have := hinv.size; simp at this; omega
    by_cases hin : i < n
    ·have := hall i hin
     rw [Array.getElem_append_left (by simpa using hin)]
     simpa [h1] using this
    ·have := hinv.tail i (by omega) (by simpa using hsz)
     rw [Array.getElem_append_right (by simp; omega)]
     simpa [h1] using this
   have := ok.seq
   rw [hls]
   simpa using this
  ·refine endMix_out (ops := l.toArray) (T := fun a'' w' => wpList P l.toArray Q (l.drop n) a'' w') inv.s fl _ _ hL trivial ((fin_defers _ _ _).trans inv.defers.symm) ((fin_size _ _ _).trans inv.size.symm) ?_ ?_
   ·intro k D hk
    obtain ⟨hkn, t, ht⟩ := ok.fl k (List.mem_map.2 ⟨(k, D), hk, rfl⟩)
    obtain ⟨o, ho, hd⟩ := Option.bind_eq_some_iff.1 ht
    obtain ⟨v, hv, hDv⟩ := inv.float k o t D hkn ho hd (hall k hkn) (lookup_some ok.nd hk)
    exact ⟨t, v, ht, hv, hDv⟩
   ·intro t ht
    by_cases hex : ∃ k o', k < n ∧ l.toArray[k]? = some o' ∧ o'.dst = some t
    ·obtain ⟨k, o', hk, ho', hd⟩ := hex
     have hcalm : fl.at k = none := by
      cases hf : fl.at k with
      | none => rfl
      | some D =>
       exfalso
       have hm := lookup_key hf
       obtain ⟨⟨k', D'⟩, hmem, rfl⟩ := List.mem_map.1 hm
       exact ht k' D' hmem (by simp only [ho', Option.bind_some, hd])
     have e1 := inv.calm k o' t hk ho' hd (hall k hk) hcalm
     have e2 := fin_at (fl := fl) (val := val) (l.take n) 0 a k o' (by have := take_get (ops := l.toArray) hk ho'; simpa using this) hd (by rw [Nat.zero_add]; exact hcalm)
      (by rw [hN]; exact ok.bd k o' t hk ho' hd) (by
        intro j oj hj hne hdj
        obtain ⟨hji, hoj⟩ := of_take_get (ops := l.toArray) (by simpa using hj)
        exact ok.ne j oj k o' t hji hk hoj ho' (Ne.symm hne) hdj hd)
     rw [Nat.zero_add] at e2
     rw [e1, e2]
    ·have e1 := inv.other t fun k o' hk ho' _ hd => hex ⟨k, o', hk, ho', hd⟩
     have e2 := fin_other (fl := fl) (val := val) (t := t) (l.take n) 0 a fun j oj hj _ hd => by
      obtain ⟨hji, hoj⟩ := of_take_get (ops := l.toArray) (by simpa using hj)
      exact hex ⟨j, oj, hji, hoj, hd⟩
     rw [e1, e2]) n (Array.replicate l.toArray.size false) a w.drew (by
   have := List.countP_le_length (p := fun i => !(Array.replicate l.toArray.size false).getD i false) (l := List.range n)
   simpa using this) inv0 ⟨h0, rfl, rfl, fun k o t _ _ _ hl => (by rw [getD_replicate_false] at hl; cases hl), fun k o t D _ _ _ hl => (by rw [getD_replicate_false] at hl; cases hl), fun t _ => rfl⟩
 rw [show n + (l.length - n) = l.toArray.size by simp; omega] at key
 exact key
/-! ### the steps of a walk -/
section
variable {fl : Floats} {L : Act → Prop} {o : Oper} {l : List Oper} {k : Nat} {a a' : Act} {v : Value}
theorem calm_plain (hg : o.guard = none) (hf : fl.at k = none) (hc : ∀ w, S w → calmR P w ((execOp a.eval o).run P w) v) (ha : a.put o.dst v = a') (h : wpCalm P ops S fl L l (k + 1) a') : wpCalm P ops S fl L (o :: l) k a := by
 subst ha
 simp only [wpCalm, hf]
 exact ⟨v, .inl ⟨by simp [Region.wanted, hg], hc⟩, h⟩
theorem calm_yes (hf : fl.at k = none) (hw : Region.wanted o (yielded ops a.tmps) = true) (hc : ∀ w, S w → calmR P w ((execOp a.eval o).run P w) v) (ha : a.put o.dst v = a') (h : wpCalm P ops S fl L l (k + 1) a') : wpCalm P ops S fl L (o :: l) k a := by
 subst ha
 simp only [wpCalm, hf]
 exact ⟨v, .inl ⟨hw, hc⟩, h⟩
theorem calm_no (hf : fl.at k = none) (hw : Region.wanted o (yielded ops a.tmps) = false) (ha : a.put o.dst undef = a') (h : wpCalm P ops S fl L l (k + 1) a') : wpCalm P ops S fl L (o :: l) k a := by
 subst ha
 simp only [wpCalm, hf]
 exact ⟨undef, .inr ⟨hw, rfl⟩, h⟩
theorem calm_done (h : L a) : wpCalm P ops S fl L [] k a := h
end
theorem end_none {ops : Array Oper} {S : World → Prop} {T : Act → World → Prop} {a : Act} (h : ∀ w, S w → T a w) : endMix ops T S [] a fun _ => True := fun w hs _ => h w hs
theorem float_none : ∀ k' D', Floats.at [] k' = some D' → ∀ v w w', D' v w → Grows w w' → D' v w' := by
 intro k' D' h'; cases h'
theorem calm_val {P : Program} {w : World} {v : Value} : calmR P w (.ok (.value v) w) v := ⟨rfl, Below.refl _ _⟩
/-- A contract that leaves the world as it is, as one that only makes memory. -/
theorem calm_same {P : Program} {f : FuncId} {args : Array Value} {w : World} {v : Value} (h : Calls P f args w fun e w' => e = .returned v ∧ w = w') : Calls P f args w fun e w' => e = .returned v ∧ Grows w w' :=
 h.mono fun _ _ ⟨he, hw⟩ => ⟨he, hw ▸ Below.refl _ _⟩
theorem calm_call {P : Program} {w : World} {u : Value} {f : FuncId} {args : Array Value} (h : Calls P f args w fun e w' => e = .returned u ∧ Grows w w') : calmR P w (.ok (.enter f args) w) u := h
theorem calm_quiet {P : Program} {w : World} {u : Value} {f : FuncId} {args : Array Value} (h : Calls P f args w fun e w' => e = .returned u ∧ w = w') : calmR P w (.ok (.enter f args) w) u := calm_same h
end
end Go.Proofs.YtbfdaojffffaaaaGreat

namespace Go.Proofs.YtbfdaojffffaaaaGreat
open Go.RowKit
theorem block_of_add (a : Addr) (n : Nat) : (a.add n).block = a.block := by unfold Addr.add; split <;> rfl
theorem add_of_add (a : Addr) (i j : Nat) : (a.add i).add j = a.add (i + j) := by
 unfold Addr.add
 by_cases hi : i = 0 <;> by_cases hj : j = 0 <;> simp [hi, hj, Nat.add_assoc]
def Reads (w : World) (B size : Nat) (A : Option Addr) (n : Nat) (xs : List Value) : Prop :=
 xs.length = n * size ∧ (0 < n → ∃ ad, A = some ad ∧ ad.block < B ∧ ∀ j u, xs[j]? = some u → w.cell? (ad.add j) = some u)
section
variable {w w' : World} {B B' size n : Nat} {A : Option Addr} {xs : List Value}
theorem Reads.none_ : Reads w B size A 0 [] := ⟨by simp, fun h => absurd h (by omega)⟩
theorem Reads.at_ {k : Nat} (h : Reads w B 1 A n xs) (hk : k < n) : ∃ ad u, A = some ad ∧ ad.block < B ∧ xs[k]? = some u ∧ w.cell? (ad.add k) = some u := by
 obtain ⟨ad, e, hb, hc⟩ := h.2 (by omega)
 have hl : k < xs.length := by have := h.1; omega
 exact ⟨ad, xs[k], e, hb, List.getElem?_eq_getElem hl, hc k _ (List.getElem?_eq_getElem hl)⟩
theorem Reads.keep (h : Reads w B size A n xs) (hk : ∀ p : Addr, p.block < B → w'.cell? p = w.cell? p) : Reads w' B size A n xs :=
 ⟨h.1, fun hn => by
  obtain ⟨ad, e, hb, hc⟩ := h.2 hn
  exact ⟨ad, e, hb, fun j u hu => (hk _ (by rw [block_of_add]; exact hb)).trans (hc j u hu)⟩⟩
theorem Reads.more (h : Reads w B size A n xs) (hB : B ≤ B') : Reads w B' size A n xs :=
 ⟨h.1, fun hn => by
  obtain ⟨ad, e, hb, hc⟩ := h.2 hn
  exact ⟨ad, e, by omega, hc⟩⟩
theorem Reads.below (h : Reads w B size A n xs) (hb : Below B w w') : Reads w' B size A n xs := h.keep fun _ hp => hb.cell hp
theorem Reads.drew (h : Reads w B size A n xs) : Reads w.drew B size A n xs := h
theorem Reads.drewN (h : Reads w B size A n xs) (k : Nat) : Reads (w.drewN k) B size A n xs := h
theorem Reads.alloc (h : Reads w B size A n xs) (hB : B ≤ w.heap.size) (o : Obj) : Reads (w.alloc o) B size A n xs := h.keep fun p hp => World.cell?_alloc_lt w o p (by omega)
theorem Reads.setCell (h : Reads w B size A n xs) {p : Addr} (hB : B ≤ p.block) (u : Value) : Reads (w.setCell p u) B size A n xs :=
 h.keep fun q hq => World.cell?_setCell_other w p q u (fun e => by subst e; omega)
theorem Reads.grown (h : Reads w B size A n xs) {row : Option Nat} (hg : w.grownBy w' row) (hB : B ≤ w.heap.size) (hr : ∀ g, row = some g → B ≤ g) : Reads w' B size A n xs :=
 h.keep fun p hp => World.cell?_of_block (hg.block p.block (by omega) (fun e => by have := hr _ e.symm; omega))
theorem Reads.cut (h : Reads w B size A n xs) {k cap : Nat} (hk : k ≤ n) (hc : n ≤ cap) :
 Reads w B size (if cap = k then A else A.map (·.add (k * size))) (n - k) (xs.drop (k * size)) := by
 refine ⟨by rw [List.length_drop, h.1, Nat.sub_mul], fun hn => ?_⟩
 obtain ⟨ad, rfl, hb, hcell⟩ := h.2 (by omega)
 rw [if_neg (by omega)]
 refine ⟨ad.add (k * size), rfl, by rw [block_of_add]; exact hb, fun j u hu => ?_⟩
 rw [add_of_add]
 exact hcell _ u (by rw [← hu, List.getElem?_drop])
theorem Reads.of_own {base : Nat} {e : TypeId} {c : Nat} (h : w.ownsRow base e size (.slice A n c) n xs) : Reads w w.heap.size size A n xs := by
 refine ⟨h.1, fun hn => ?_⟩
 obtain ⟨g, cap, hv, _, hlt⟩ := h.form hn
 have hA : A = some ⟨g, 0, none⟩ := by injection hv
 subst hA
 exact ⟨_, rfl, hlt, h.cells (g := g) rfl⟩
end
def Blk (w : World) (g : Nat) (t : TypeId) (cs : Array Value) : Prop := w.heap[g]? = some (.cells cs t (0, 0))
section
variable {w w' : World} {g : Nat} {t : TypeId} {cs : Array Value}
theorem Blk.lt (h : Blk w g t cs) : g < w.heap.size := by
 rcases Nat.lt_or_ge g w.heap.size with hlt | hge
 ·exact hlt
 ·unfold Blk at h; rw [Array.getElem?_eq_none hge] at h; cases h
theorem Blk.cell (h : Blk w g t cs) (i : Nat) : w.cell? ⟨g, i, none⟩ = cs[i]? := cell_of_row w g i cs t (0, 0) h
theorem Blk.frozen (h : Blk w g t cs) (i : Nat) : w.frozen? ⟨g, i, none⟩ = false := by
 unfold Blk at h
 simp [World.frozen?, h]
theorem Blk.new (w : World) (t : TypeId) (cs : Array Value) : Blk (w.alloc (.cells cs t)) w.heap.size t cs := heap_alloc_new w _
theorem Blk.drew (h : Blk w g t cs) : Blk w.drew g t cs := h
theorem Blk.drewN (h : Blk w g t cs) (n : Nat) : Blk (w.drewN n) g t cs := h
theorem Blk.alloc (h : Blk w g t cs) (o : Obj) : Blk (w.alloc o) g t cs := (Below.heap_alloc w o g h.lt).trans h
theorem Blk.set_ (h : Blk w g t cs) (i : Nat) (u : Value) : Blk (w.setCell ⟨g, i, none⟩ u) g t (cs.setIfInBounds i u) := by
 unfold Blk at h ⊢
 simp [World.setCell, Array.getElem?_modify, h]
theorem Blk.far (h : Blk w g t cs) {p : Addr} (hp : g ≠ p.block) (u : Value) : Blk (w.setCell p u) g t cs := (Below.heap_setCell w p u g hp).trans h
theorem Blk.below {B : Nat} (h : Blk w g t cs) (hb : Below B w w') (hg : g < B) : Blk w' g t cs := (hb.block g hg).trans h
theorem Blk.grown {row : Option Nat} (h : Blk w g t cs) (hb : w.grownBy w' row) (hg : some g ≠ row) : Blk w' g t cs := (hb.block g h.lt hg).trans h
theorem Blk.ne_ {g' : Nat} {t' : TypeId} {cs' : Array Value} (h : Blk w g t cs) (h' : Blk w g' t' cs') (hne : t ≠ t') : g ≠ g' := by
 rintro rfl
 unfold Blk at h h'
 rw [h] at h'
 injection h' with h'
 injection h' with _ ht
 exact hne ht
theorem own_blk_ne {base : Nat} {e : TypeId} {size n : Nat} {v : Value} {xs : List Value} (h : w.ownsRow base e size v n xs) (hg : Blk w g t cs) (hne : e ≠ t) : v.ownBlock ≠ some g := by
 rcases h.2 with ⟨rfl, _⟩ | ⟨g', cap, cur, rfl, _, hh, _⟩
 ·simp [Value.ownBlock]
 ·intro he
  have : g' = g := by simpa [Value.ownBlock] using he
  subst this
  exact Blk.ne_ (t := e) hh hg hne rfl
end
section
variable {P : Program} (w : World)
theorem run_append_of_nil (base : Nat) (t ty e : TypeId) (i : TypeInfo) (size : Nat) (ht : P.underlying t = some (.slice e)) (hi : P.info? e = some i)
 (v : Value) (n : Nat) (xs : List Value) (hown : w.ownsRow base e size v n xs) (c : Nat) : (Builtin.append_ #[t, t] ty #[v, .slice none 0 c]).run P w = .ok v w := by
 rcases hown.2 with ⟨rfl, rfl⟩ | ⟨g, cap, cur, rfl, _, _, hnc, _⟩
 ·simp [Builtin.append_, run_underlying ht, sizeOf, typeInfo, hi, Builtin.lenOf, Builtin.firstCells]
 ·simp [Builtin.append_, run_underlying ht, sizeOf, typeInfo, hi, Builtin.lenOf, Builtin.firstCells, hnc, storeCells]
theorem run_append_any (base : Nat) (t ty e : TypeId) (i : TypeInfo) (z : Value) (size bytes : Nat) (ht : P.underlying t = some (.slice e)) (hi : P.info? e = some i) (hz : i.zero = some z)
 (hsize : i.size = size) (hby : i.bytes = bytes) (hzs : z.cells.size = size) (hsz : 0 < size)
 (v : Value) (n : Nat) (xs : List Value) (hown : w.ownsRow base e size v n xs)
 (B : Nat) (A : Option Addr) (m c : Nat) (news : List Value) (hr : Reads w B size A m news) (h1 : ∀ u ∈ news, u.oneCell' = true)
 (h63 : n + m ≤ maxLen) (hbytes : (n + m) * bytes ≤ 140737488355328) (hbase : base ≤ w.heap.size) :
 ∃ v' w', (Builtin.append_ #[t, t] ty #[v, .slice A m c]).run P w = .ok v' w' ∧ w'.ownsRow base e size v' (n + m) (xs ++ news) ∧ w.grownBy w' v.ownBlock ∧
  (v'.ownBlock = v.ownBlock ∨ v'.ownBlock = some w.heap.size) := by
 rcases A with _ | ad
 ·have hm : m = 0 := by
   rcases Nat.eq_zero_or_pos m with h0 | h0
   ·exact h0
   ·obtain ⟨ad, h, _⟩ := hr.2 h0
    cases h
  subst hm
  have hn : news = [] := List.eq_nil_of_length_eq_zero (by simpa using hr.1)
  subst hn
  exact ⟨v, w, run_append_of_nil w base t ty e i size ht hi v n xs hown c, by simpa using hown, World.grownBy.refl w _, .inl rfl⟩
 ·have hcells : ∀ j u, news[j]? = some u → w.cell? (ad.add j) = some u := by
   intro j u hu
   rcases Nat.eq_zero_or_pos m with h0 | h0
   ·subst h0
    have hn : news = [] := List.eq_nil_of_length_eq_zero (by simpa using hr.1)
    subst hn
    simp at hu
   ·obtain ⟨ad', h, _, hc⟩ := hr.2 h0
    injection h with h
    subst h
    exact hc j u hu
  obtain ⟨v', w', hrun, h2, h3, _, h5⟩ := run_append_own_at (P := P) w base t ty e i z size bytes ht hi hz hsize hby hzs hsz v n xs hown ad m c news hr.1 hcells h1 h63 hbytes hbase
  exact ⟨v', w', hrun, h2, h3, h5⟩
theorem wp_append_any {o : Oper} {a : Act} {K : Act → World → Prop} {Q : Exit → Act → World → Prop} (s x : Operand) (t : TypeId)
 (ho : o.op = .call { callee := .builtin .append, args := #[s, x], argTypes := #[t, t] })
 (base : Nat) (e : TypeId) (i : TypeInfo) (z : Value) (size bytes : Nat) (ht : P.underlying t = some (.slice e)) (hi : P.info? e = some i) (hz : i.zero = some z)
 (hsize : i.size = size) (hby : i.bytes = bytes) (hzs : z.cells.size = size) (hsz : 0 < size)
 (v : Value) (n : Nat) (xs : List Value) (hs : a.eval s = v) (hown : w.ownsRow base e size v n xs)
 (B : Nat) (A : Option Addr) (m c : Nat) (news : List Value) (hx : a.eval x = .slice A m c) (hr : Reads w B size A m news) (h1 : ∀ u ∈ news, u.oneCell' = true)
 (h63 : n + m ≤ maxLen) (hbytes : (n + m) * bytes ≤ 140737488355328) (hbase : base ≤ w.heap.size)
 (h : ∀ v' w', w'.ownsRow base e size v' (n + m) (xs ++ news) → w.grownBy w' v.ownBlock → (v'.ownBlock = v.ownBlock ∨ v'.ownBlock = some w.heap.size) → K (a.put o.dst v') w') : o.wp P a w K Q := by
 obtain ⟨v', w', hrun, h2, h3, h4⟩ := run_append_any (P := P) w base t o.type e i z size bytes ht hi hz hsize hby hzs hsz v n xs hown B A m c news hr h1 h63 hbytes hbase
 unfold Oper.wp execOp
 simp only [ho, resolve, invoke, builtin, Sem.run_bind, Sem.run_pure, Result.andThen_ok, List.map_toArray, List.map_cons, List.map_nil, hs, hx, hrun]
 exact h v' w' h2 h3 h4
theorem wpList_append_any {ops : Array Oper} {rest : List Oper} {o : Oper} {a : Act} {Q : Exit → Act → World → Prop} (hgd : o.guard = none) (s x : Operand) (t : TypeId)
 (ho : o.op = .call { callee := .builtin .append, args := #[s, x], argTypes := #[t, t] })
 (base : Nat) (e : TypeId) (i : TypeInfo) (z : Value) (size bytes : Nat) (ht : P.underlying t = some (.slice e)) (hi : P.info? e = some i) (hz : i.zero = some z)
 (hsize : i.size = size) (hby : i.bytes = bytes) (hzs : z.cells.size = size) (hsz : 0 < size)
 (v : Value) (n : Nat) (xs : List Value) (hs : a.eval s = v) (hown : w.ownsRow base e size v n xs)
 (B : Nat) (A : Option Addr) (m c : Nat) (news : List Value) (hx : a.eval x = .slice A m c) (hr : Reads w B size A m news) (h1 : ∀ u ∈ news, u.oneCell' = true)
 (h63 : n + m ≤ maxLen) (hbytes : (n + m) * bytes ≤ 140737488355328) (hbase : base ≤ w.heap.size)
 (h : ∀ v' w', w'.ownsRow base e size v' (n + m) (xs ++ news) → w.grownBy w' v.ownBlock → (v'.ownBlock = v.ownBlock ∨ v'.ownBlock = some w.heap.size) → wpList P ops Q rest (a.put o.dst v') w') : wpList P ops Q (o :: rest) a w :=
 wpList_plain hgd fun _ hK => wp_append_any w s x t ho base e i z size bytes ht hi hz hsize hby hzs hsz v n xs hs hown B A m c news hx hr h1 h63 hbytes hbase fun v' w' h2 h3 h4 => hK _ _ (h v' w' h2 h3 h4)
end
theorem Blk.grows {w w' : World} {g : Nat} {t : TypeId} {cs : Array Value} (h : Blk w g t cs) (hg : Grows w w') : Blk w' g t cs := h.below hg h.lt
theorem below_grows {B : Nat} {a w w' : World} (h : Below B a w) (hB : B ≤ a.heap.size) (hg : Grows w w') : Below B a w' := h.trans (hg.mono (Nat.le_trans hB h.size))
theorem Reads.grows {w w' : World} {size n : Nat} {A : Option Addr} {xs : List Value} (h : Reads w w.heap.size size A n xs) (hg : Grows w w') : Reads w' w'.heap.size size A n xs := (h.below hg).more hg.size
theorem blk_new_at {X : World} {n : Nat} {t : TypeId} {cs : Array Value} (h : X.heap.size = n) : Blk (X.alloc (.cells cs t)) n t cs := h ▸ Blk.new X t cs
theorem ret_int {k : IntKind} {a b : Int} (h : a = b) : Ending.returned (.int k a) = .returned (.int k b) := by rw [h]
theorem ret_bool {a b : Bool} (h : a = b) : Ending.returned (.bool a) = .returned (.bool b) := by rw [h]
end Go.Proofs.YtbfdaojffffaaaaGreat

namespace Go.Proofs.YtbfdaojffffaaaaGreat
open Go.RowKit
theorem Blk.row {w : World} {g : Nat} {t : TypeId} {old cs : Array Value} (h : Blk w g t old) : Blk (w.setRow g cs) g t cs := by
 unfold Blk at *
 simp [World.setRow, Array.getElem?_modify, h]
theorem Blk.row_far {w : World} {g k : Nat} {t : TypeId} {cs cs' : Array Value} (h : Blk w k t cs) (hne : k ≠ g) : Blk (w.setRow g cs') k t cs := by
 unfold Blk at *
 simp [World.setRow, Array.getElem?_modify, h, Ne.symm hne]
theorem below_row {B : Nat} {a w : World} (h : Below B a w) {g : Nat} (hg : B ≤ g) (cs : Array Value) : Below B a (w.setRow g cs) :=
 ⟨h.os, h.tape, h.output, by simpa [World.setRow] using h.size, fun k hk => by
  have hne : ¬ g = k := by omega
  rw [← h.block k hk]
  simp [World.setRow, Array.getElem?_modify, hne]⟩
section
variable {P : Program} {ops : Array Oper} {rest : List Oper} {o : Oper} {a : Act} {w : World} {Q : Exit → Act → World → Prop} {g : Nat} {t ty : TypeId} {cs old : Array Value} {d : TypeDesc}
theorem wpList_load_row (hgd : o.guard = none) (p : Operand) (ho : o.op = .load ty p) (hp : a.eval p = .pointer (some ⟨g, 0, none⟩)) (hb : Blk w g t cs)
 (hu : P.underlying ty = some d) (hd : (match d with | .struct _ | .array _ _ => true | _ => false) = true) (hi : (P.info? ty).map (·.size) = some cs.size)
 (h : wpList P ops Q rest (a.put o.dst (.agg cs)) w) : wpList P ops Q (o :: rest) a w :=
 wpList_plain hgd fun _ hK => by
  have hl := run_loadVar_row (P := P) w g t ty cs (0, 0) d hb hu hd hi
  unfold Oper.wp execOp
  simp only [ho, Instr.loadAt, Instr.sureAddr, Sem.run_bind, Sem.run_pure, Result.andThen_ok, hp, hl]
  exact hK _ _ h
theorem wpList_store_row (hgd : o.guard = none) (p v : Operand) (ho : o.op = .store ty p v) (hdst : o.dst = none) (hp : a.eval p = .pointer (some ⟨g, 0, none⟩)) (hv : a.eval v = .agg cs) (hb : Blk w g t old)
 (hi : (P.info? ty).map (·.size) = some cs.size) (hs : old.size = cs.size) (h1 : cs.all (·.oneCell') = true)
 (h : wpList P ops Q rest a (w.setRow g cs)) : wpList P ops Q (o :: rest) a w :=
 wpList_plain hgd fun _ hK => by
  have hl := run_storeVar_row (P := P) w g t ty old cs hb hi hs h1
  unfold Oper.wp execOp
  simp only [ho, Instr.storeAt, Instr.sureAddr, Sem.run_bind, Sem.run_pure, Result.andThen_ok, hp, hv, hl]
  first
   | exact hK _ _ (by rw [hdst]; exact h)
   | exact hK _ _ h
/-- A struct or an array read from the midst of a block. -/
theorem run_load_part (w : World) (A : Addr) (ty : TypeId) (cs : Array Value) (d : TypeDesc) (hc : ∀ j v, cs[j]? = some v → w.cell? (A.add j) = some v)
 (hu : P.underlying ty = some d) (hd : (match d with | .struct _ | .array _ _ => true | _ => false) = true) (hi : (P.info? ty).map (·.size) = some cs.size) :
 (loadVar ty A).run P w = .ok (.agg cs) w := by
 have hl : (loadCells A cs.toList.length).run P w = .ok cs.toList.toArray w :=
  run_loadCells_list (P := P) w A cs.toList (fun j v hv => hc j v (by simpa using hv))
 cases hq : P.info? ty with
 | none => simp [hq] at hi
 | some i =>
  have hs : i.size = cs.size := by simpa [hq] using hi
  have hagg : (isAgg ty).run P w = .ok true w := by
   unfold isAgg
   rw [Sem.run_bind, run_underlying hu w]
   cases d <;> simp_all
  simp only [Array.length_toList, Array.toArray_toList] at hl
  simp [loadVar, Sem.run_bind, hagg, sizeOf, typeInfo, hq, hs, hl]
theorem wpList_load_part (hgd : o.guard = none) (p : Operand) (ho : o.op = .load ty p) {A : Addr} (hp : a.eval p = .pointer (some A)) (hc : ∀ j v, cs[j]? = some v → w.cell? (A.add j) = some v)
 (hu : P.underlying ty = some d) (hd : (match d with | .struct _ | .array _ _ => true | _ => false) = true) (hi : (P.info? ty).map (·.size) = some cs.size)
 (h : wpList P ops Q rest (a.put o.dst (.agg cs)) w) : wpList P ops Q (o :: rest) a w :=
 wpList_plain hgd fun _ hK => by
  have hl := run_load_part (P := P) w A ty cs d hc hu hd hi
  unfold Oper.wp execOp
  simp only [ho, Instr.loadAt, Instr.sureAddr, Sem.run_bind, Sem.run_pure, Result.andThen_ok, hp, hl]
  exact hK _ _ h
/-- .. under a guard that says yes. -/
theorem wpList_load_rowg (hgd : Region.wanted o (yielded ops a.tmps) = true) (p : Operand) (ho : o.op = .load ty p) (hp : a.eval p = .pointer (some ⟨g, 0, none⟩)) (hb : Blk w g t cs)
 (hu : P.underlying ty = some d) (hd : (match d with | .struct _ | .array _ _ => true | _ => false) = true) (hi : (P.info? ty).map (·.size) = some cs.size)
 (h : wpList P ops Q rest (a.put o.dst (.agg cs)) w) : wpList P ops Q (o :: rest) a w :=
 BigFrame.wpList_want hgd fun _ hK => by
  have hl := run_loadVar_row (P := P) w g t ty cs (0, 0) d hb hu hd hi
  unfold Oper.wp execOp
  simp only [ho, Instr.loadAt, Instr.sureAddr, Sem.run_bind, Sem.run_pure, Result.andThen_ok, hp, hl]
  exact hK _ _ h
end
end Go.Proofs.YtbfdaojffffaaaaGreat

namespace Go.Proofs.YtbfdaojffffaaaaGreat
open Go.RowKit
section
variable {P : Program} {ops : Array Oper} {rest : List Oper} {o : Oper} {a : Act} {w : World} {Q : Exit → Act → World → Prop} {g : Nat} {t ty : TypeId} {cs old : Array Value} {d : TypeDesc}
end
end Go.Proofs.YtbfdaojffffaaaaGreat

namespace Go.Proofs.YtbfdaojffffaaaaGreat
open Go.RowKit
end Go.Proofs.YtbfdaojffffaaaaGreat

namespace Go.Proofs.YtbfdaojffffaaaaGreat
open Go.ChangeShapes Go.WideShapes Go.ChangeAt Go.RowKit
theorem laid_out : laidOutB Tryz.prog = true := by kernel_rfl
theorem own_knob : ownKnob Tryz.prog.godebug = none := by kernel_rfl
section
variable {H : Type} {enc : TypeId × Value → H} {P : Program}
theorem trodAll_keeps (hl : laidOutB P = true) {W W' : World} (hb : Below W.heap.size W W') :
 ∀ (ts : List TypeId) (vs : List Value) (ds : List (DataW H)) (ps : List MemPlace), (∀ t ∈ ts, P.readableRec t = true ∧ t < P.types.size) → (∀ x ∈ ps, x.block < W.heap.size) →
  DataW.TrodAll enc P W 0 (fun _ => true) true ts vs ds ps → DataW.TrodAll enc P W' 0 (fun b => decide (b < W.heap.size)) true ts vs ds ps
 | [], vs, ds, ps, _, _, h => by
  obtain ⟨rfl, rfl, rfl⟩ := trodAll_nil h
  exact trodAll_mk0
 | t :: ts, vs, ds, ps, hr, hlt, h => by
  obtain ⟨v, vs', d, ds', p, q, rfl, rfl, rfl, h1, h2⟩ := trodAll_cons h
  have hlp : ∀ x ∈ p, x.block < W.heap.size := fun x hx => hlt x (by simp [hx])
  have hlq : ∀ x ∈ q, x.block < W.heap.size := fun x hx => hlt x (by simp [hx])
  exact trodAll_cons_mk (Below.trod hl (hr t (by simp)).1 (hr t (by simp)).2 h1 hb hlp) (trodAll_keeps hl hb ts vs' ds' q (fun t' ht' => hr t' (by simp [ht'])) hlq h2)
theorem trodAll_length {W : World} {b : Nat} {sp : Nat → Bool} {hd : Bool} : ∀ (ts : List TypeId) (vs : List Value) (ds : List (DataW H)) (ps : List MemPlace), DataW.TrodAll enc P W b sp hd ts vs ds ps → ds.length = ts.length
 | [], vs, ds, ps, h => by obtain ⟨rfl, rfl, rfl⟩ := trodAll_nil h; rfl
 | t :: ts, vs, ds, ps, h => by
  obtain ⟨v, vs', d, ds', p, q, rfl, rfl, rfl, h1, h2⟩ := trodAll_cons h
  simp [trodAll_length ts vs' ds' q h2]
/-- The row's post of a law that returned true and wrote to no old memory. -/
theorem law_post (hl : laidOutB P = true) {f : Func} {s : ChangeSpec} {W W' : World} {args : Array Value} {ds gs : List (DataW H)} {before : List MemPlace} {tb : TypeId}
 (hW : DataW.Whole enc P f.params.toList s.vars false W args.toList ds gs before) (hr : ∀ t ∈ f.params.toList, P.readableRec t = true ∧ t < P.types.size) (hv : s.vars = [])
 (hres : f.resultTypes = #[tb]) (htb : P.underlying tb = some .bool)
 (hspec : ∀ ds : List (DataW H), ds.length = f.params.toList.length → s.fn H ds = { results := [.lit (.bool true)], args := ds })
 (hb : Below W.heap.size W W') : s.post enc P f false true false false W args (.bool true) W' := by
 have hlt : ∀ p ∈ before, p.block < W.heap.size := fun p hp => hW.lt p hp
 have hW' := hW
 obtain ⟨p, q, hA, hV, rfl, _, _⟩ := hW
 rw [hv] at hV
 obtain ⟨rfl, rfl⟩ := trodVars_none hV
 have hs := hspec ds (trodAll_length _ _ _ _ hA)
 have hs' : s.fn H (ds ++ []) = { results := [.lit (.bool true)], args := ds } := by rw [List.append_nil]; exact hs
 refine ⟨ds, [], p ++ [], [], p, [], hW', ?_, ?_, ?_, ?_, fun h => by cases h⟩
 ·rw [hs', hres]
  exact trodAll_cons_mk (shut_bool htb true) trodAll_mk0
 ·rw [hs']
  exact trodAll_keeps hl hb _ _ _ _ hr (fun x hx => hlt x (by simp [hx])) hA
 ·rw [hs', hv]
  exact rfl
 ·exact hb.frame _
end
end Go.Proofs.YtbfdaojffffaaaaGreat

namespace Go.Proofs.YtbfdaojffffaaaaGreat
open Go.RowKit
/-- The slice value at A reads as the ints l. -/
def Ints (w : World) (A : Option Addr) (l : List Int) : Prop := Reads w w.heap.size 1 A l.length (l.map (Value.int .i64))
theorem Ints.grows {w w' : World} {A : Option Addr} {l : List Int} (h : Ints w A l) (hg : Grows w w') : Ints w' A l := Reads.grows h hg
theorem Ints.at_ {w : World} {A : Option Addr} {l : List Int} (h : Ints w A l) {k : Nat} (hk : k < l.length) : ∃ ad x, A = some ad ∧ ad.block < w.heap.size ∧ l[k]? = some x ∧ w.cell? (ad.add k) = some (.int .i64 x) := by
 obtain ⟨ad, u, e, hb, hx, hc⟩ := Reads.at_ h hk
 refine ⟨ad, l[k], e, hb, List.getElem?_eq_getElem hk, ?_⟩
 rw [hc]
 rw [List.getElem?_map, List.getElem?_eq_getElem hk] at hx
 exact hx.symm
theorem take_snoc {α : Type} {l : List α} {k : Nat} {x : α} (h : l[k]? = some x) : l.take (k + 1) = l.take k ++ [x] := by
 obtain ⟨hk, rfl⟩ := List.getElem?_eq_some_iff.1 h
 exact List.take_succ_eq_append_getElem hk
end Go.Proofs.YtbfdaojffffaaaaGreat

namespace Go.Proofs.YtbfdaojffffaaaaGreat
open Go.RowKit
set_option maxRecDepth 100000
def csS (x : Sp) : Array Value := #[.int .i64 x.1, .int .i64 x.2]
def lsS (x : Sp) : List Value := [.int .i64 x.1, .int .i64 x.2]
def scells (l : List Sp) : List Value := l.flatMap lsS
theorem scells_append (a b : List Sp) : scells (a ++ b) = scells a ++ scells b := by simp [scells]
theorem scells_at (l : List Sp) (k : Nat) (g : Sp) (h : l[k]? = some g) (j : Nat) (hj : j < 2) : (scells l)[k * 2 + j]? = (lsS g)[j]? := by
 induction l generalizing k with
 | nil => simp at h
 | cons x l ih =>
  simp only [scells, List.flatMap_cons]
  cases k with
  | zero =>
   simp only [List.getElem?_cons_zero, Option.some.injEq] at h
   subst h
   rw [List.getElem?_append_left (by simp [lsS]; omega)]
   simp
  | succ k =>
   rw [List.getElem?_append_right (by simp [lsS]; omega)]
   have := ih k (by simpa using h)
   simp only [scells] at this
   rw [← this]
   congr 1
   simp [lsS]
   omega
theorem scells_one (l : List Sp) : ∀ u ∈ scells l, u.oneCell' = true := by
 intro u hu
 obtain ⟨g, _, hg⟩ := List.mem_flatMap.1 hu
 simp only [lsS, List.mem_cons, List.not_mem_nil, or_false] at hg
 rcases hg with rfl | rfl <;> rfl
def Sps (w : World) (A : Option Addr) (l : List Sp) : Prop := Reads w w.heap.size 2 A l.length (scells l)
theorem Sps.grows {w w' : World} {A : Option Addr} {l : List Sp} (h : Sps w A l) (hg : Grows w w') : Sps w' A l := Reads.grows h hg
theorem sps_nil (w : World) : Sps w none [] := Reads.none_
theorem Sps.at_ {w : World} {A : Option Addr} {l : List Sp} (h : Sps w A l) {k : Nat} (hk : k < l.length) :
 ∃ ad g, A = some ad ∧ ad.block < w.heap.size ∧ l[k]? = some g ∧ ∀ j v, (csS g)[j]? = some v → w.cell? (ad.add (k * 2 + j)) = some v := by
 obtain ⟨ad, e, hb, hc⟩ := h.2 (by omega)
 refine ⟨ad, l[k], e, hb, List.getElem?_eq_getElem hk, fun j v hv => hc _ _ ?_⟩
 have hj : j < 2 := by
  have := (Array.getElem?_eq_some_iff.1 hv).1
  simpa [csS] using this
 rw [scells_at l k _ (List.getElem?_eq_getElem hk) j hj]
 simpa [csS, lsS] using hv
/-- The cells of an element, as a walk asks for them. -/
def CellsS (w : World) (p : Addr) (g : Sp) : Prop := w.cell? p = some (.int .i64 g.1) ∧ w.cell? { block := p.block, off := p.off + 1 } = some (.int .i64 g.2)
theorem Sps.elem {w : World} {A : Option Addr} {l : List Sp} (h : Sps w A l) {k : Nat} (hk : k < l.length) :
 ∃ ad g, A = some ad ∧ ad.block < w.heap.size ∧ l[k]? = some g ∧ CellsS w (ad.add (k * 2)) g := by
 obtain ⟨ad, g, e, hb, hg, hc⟩ := h.at_ hk
 refine ⟨ad, g, e, hb, hg, ?_⟩
 have e0 : (ad.add (k * 2)).add 0 = ad.add (k * 2) := by simp [Addr.add]
 have hj : ∀ j v, (csS g)[j]? = some v → w.cell? ((ad.add (k * 2)).add j) = some v := fun j v hv => by rw [add_of_add]; exact hc j v hv
 have ej : ∀ j, j ≠ 0 → (ad.add (k * 2)).add j = { block := (ad.add (k * 2)).block, off := (ad.add (k * 2)).off + j } := fun j hj0 => by
  generalize ad.add (k * 2) = p
  unfold Addr.add
  rw [if_neg hj0]
 refine ⟨by have := hj 0 _ rfl; rwa [e0] at this, ?_⟩
 have := hj 1 _ rfl
 rwa [ej 1 (by omega)] at this
theorem Sps.grown {w w' : World} {A : Option Addr} {l : List Sp} (h : Sps w A l) {row : Option Nat} (hg : w.grownBy w' row) (hne : ∀ ad, A = some ad → 0 < l.length → some ad.block ≠ row) : Sps w' A l := by
 refine ⟨h.1, fun hn => ?_⟩
 obtain ⟨ad, e, hb, hc⟩ := h.2 hn
 have hn' := hne ad e hn
 exact ⟨ad, e, Nat.lt_of_lt_of_le hb hg.size, fun j u hu => (World.cell?_of_block (hg.block (ad.add j).block (by rw [block_of_add]; exact hb) (by rw [block_of_add]; exact hn'))).trans (hc j u hu)⟩
theorem sinfo : ∃ i : TypeInfo, Tryz.prog.info? 129 = some i ∧ i.size = 2 ∧ i.bytes = 16 ∧ i.zero = some (.agg #[.int .i64 0, .int .i64 0]) ∧ (Value.agg #[.int .i64 0, .int .i64 0]).cells.size = 2 := ⟨_, by first | exact Tryz.info129 | rfl, rfl, rfl, rfl, rfl⟩
/-- A row of one's own. -/
def Own (w : World) (base : Nat) (v : Value) (l : List Sp) : Prop := w.ownsRow base 129 2 v l.length (scells l)
theorem own_nil (w : World) (base : Nat) : Own w base (.slice none 0 0) [] := World.ownsRow_nil w base 129 2
theorem Own.read {w : World} {base : Nat} {v : Value} {l : List Sp} (h : Own w base v l) : ∃ (A : Option Addr) (c : Nat), v = .slice A l.length c ∧ l.length ≤ c ∧ Sps w A l ∧ ∀ ad, A = some ad → base ≤ ad.block := by
 have hlt := h.lt
 rcases h.2 with ⟨rfl, hn⟩ | ⟨g, cap, cur, rfl, hb, hg, hnc, hm, hs, ht⟩
 ·refine ⟨none, 0, by rw [hn], by omega, Reads.of_own (c := 0) (by simpa [Own, hn] using h), fun ad e => by cases e⟩
 ·exact ⟨_, cap, rfl, hnc, Reads.of_own h, fun ad e => by injection e with e; subst e; exact hb⟩
theorem grown_none2 {w w' : World} (h : Grows w w') : w.grownBy w' none := ⟨h.os, h.tape, h.output, h.size, fun k hk _ => h.block k hk⟩
theorem Own.grows {w w' : World} {base : Nat} {v : Value} {l : List Sp} (h : Own w base v l) (hg : Grows w w') : Own w' base v l := by
 refine h.kept (grown_none2 hg) ?_
 cases e : v.ownBlock
 ·exact .inl rfl
 ·exact .inr (by simp)
theorem Own.mono {w : World} {base base' : Nat} {v : Value} {l : List Sp} (h : Own w base v l) (hb : base' ≤ base) : Own w base' v l :=
 ⟨h.1, h.2.imp id fun ⟨g, cap, cur, hv, hg, r⟩ => ⟨g, cap, cur, hv, Nat.le_trans hb hg, r⟩⟩
section
variable {ops : Array Oper} {rest : List Oper} {o : Oper} {a : Act} {w : World} {Q : Exit → Act → World → Prop} {K : Act → World → Prop}
theorem wp_append_sp (s x : Operand) (ho : o.op = .call { callee := .builtin .append, args := #[s, x], argTypes := #[130, 130] })
 {base : Nat} {v : Value} {l m : List Sp} {A : Option Addr} {c n : Nat} (hn : n = m.length) (hs : a.eval s = v) (hown : Own w base v l) (hx : a.eval x = .slice A n c) (hr : Sps w A m) (hlen : l.length + m.length ≤ 1000000) (hbase : base ≤ w.heap.size)
 (h : ∀ v' w', Own w' base v' (l ++ m) → w.grownBy w' v.ownBlock → K (a.put o.dst v') w') : o.wp Tryz.prog a w K Q := by
 obtain ⟨i0, hi0, hi1, hi2, hi3, hi4⟩ := sinfo
 subst hn
 refine wp_append_any w s x 130 ho base 129 i0 _ 2 16 Tryz.underlying130 hi0 hi3 hi1 hi2 hi4 (by omega) v l.length (scells l) hs hown w.heap.size A m.length c (scells m) hx hr (scells_one m) (by simp only [maxLen]; omega) (by omega) hbase fun v' w' h1 h2 _ => h v' w' ?_ h2
 unfold Own
 rw [scells_append, List.length_append]
 exact h1
theorem wpList_append_sp (hgd : o.guard = none) (s x : Operand) (ho : o.op = .call { callee := .builtin .append, args := #[s, x], argTypes := #[130, 130] })
 {base : Nat} {v : Value} {l m : List Sp} {A : Option Addr} {c n : Nat} (hn : n = m.length) (hs : a.eval s = v) (hown : Own w base v l) (hx : a.eval x = .slice A n c) (hr : Sps w A m) (hlen : l.length + m.length ≤ 1000000) (hbase : base ≤ w.heap.size)
 (h : ∀ v' w', Own w' base v' (l ++ m) → w.grownBy w' v.ownBlock → wpList Tryz.prog ops Q rest (a.put o.dst v') w') : wpList Tryz.prog ops Q (o :: rest) a w :=
 wpList_plain hgd fun _ hK => wp_append_sp s x ho hn hs hown hx hr hlen hbase fun v' w' h1 h2 => hK _ _ (h v' w' h1 h2)
end
theorem Own.below {w w' : World} {base : Nat} {v : Value} {l : List Sp} {u : World} (h : Own w base v l) (hB : Below base u w) (hg : w.grownBy w' v.ownBlock) (hs : base ≤ w.heap.size) : Below base u w' := hB.grown hg hs fun q hq => (h.lt q hq).1
end Go.Proofs.YtbfdaojffffaaaaGreat

namespace Go.Proofs.YtbfdaojffffaaaaGreat
open Go.RowKit
set_option maxRecDepth 100000
theorem fine_any (x : Sp) (w : World) : Calls Tryz.prog 311 #[.agg #[.int .i64 x.1, .int .i64 x.2]] w fun e w' => e = .returned (.bool (fineS x)) ∧ Grows w w' := by
  have hB := (Below.refl w.heap.size w).alloc (Nat.le_refl _) (Obj.cells #[.int .i64 x.1, .int .i64 x.2] 129)
  by_cases h1 : 0 ≤ x.1
  · by_cases h2 : x.1 ≤ x.2
    · by_cases h3 : x.2 ≤ 2147483647
      · have e : fineS x = true := (fineS_iff x).2 ⟨h1, h2, h3⟩
        have HE := Lib.hid e
        clear e
        go_enter Tryz.func311, Tryz.ntmps311
        go_wp2
        go_ret
        exact ⟨ret_bool HE.out.symm, hB⟩
      · have e : fineS x = false := by simp [fineS, h3]
        have HE := Lib.hid e
        clear e
        go_enter Tryz.func311, Tryz.ntmps311
        go_wp2
        go_ret
        exact ⟨ret_bool HE.out.symm, hB⟩
    · have e : fineS x = false := by simp [fineS, h2]
      have HE := Lib.hid e
      clear e
      go_enter Tryz.func311, Tryz.ntmps311
      go_wp2
      go_ret
      exact ⟨ret_bool HE.out.symm, hB⟩
  · have e : fineS x = false := by simp [fineS, h1]
    have HE := Lib.hid e
    clear e
    go_enter Tryz.func311, Tryz.ntmps311
    go_wp2
    go_ret
    exact ⟨ret_bool HE.out.symm, hB⟩
/-- A set as a value. -/
def SetV (w : World) (l : List Sp) (v : Value) : Prop := ∃ A c, v = .agg #[.slice A l.length c] ∧ l.length ≤ c ∧ Sps w A l
theorem SetV.grows {w w' : World} {l : List Sp} {v : Value} (h : SetV w l v) (hg : Grows w w') : SetV w' l v := by
  obtain ⟨A, c, e, hc, hs⟩ := h
  exact ⟨A, c, e, hc, hs.grows hg⟩
theorem all_snoc {l : List Sp} {k : Nat} {x : Sp} (h : l[k]? = some x) : (l.take (k + 1)).all fineS = ((l.take k).all fineS && fineS x) := by
  rw [take_snoc h]
  simp
set_option maxHeartbeats 8000000 in
theorem valid_any (A : Option Addr) (c : Nat) (l : List Sp) (w : World) (h : Sps w A l) (hl : l.length ≤ 9223372036854775807) :
    Calls Tryz.prog 290 #[.agg #[.slice A l.length c]] w fun e w' => e = .returned (.bool (okS l)) ∧ Grows w w' := by
  have k2 := Blk.new w 132 #[.slice A l.length c]
  have hB := (Below.refl w.heap.size w).alloc (Nat.le_refl _) (Obj.cells #[.slice A l.length c] 132)
  go_enter Tryz.func290, Tryz.ntmps290
  go_upto_region 1 with fail
  generalize World.alloc w _ = w1 at *
  have x2 := k2.cell
  go_wp2_with fail
  clear x2
  go_loopw [8] (fun i wr => ∃ k : Nat, k ≤ l.length ∧ i = .int .i64 k ∧ Below w.heap.size w wr ∧ Blk wr w.heap.size 132 #[.slice A l.length c] ∧ (l.take k).all fineS = true ∧ chainS (l.take k) = true) (fun i _ => l.length - (intOf i).toNat)
  case atStart => exact ⟨0, by omega, rfl, hB, k2, rfl, rfl⟩
  case round =>
    clear hB k2
    obtain ⟨k, hk, rfl, hB, k2, hall, hch⟩ := hrel
    by_cases hlt : k < l.length
    · obtain ⟨ad, x, rfl, had, hx, c0, c1⟩ := (h.grows hB).elem hlt
      have HA := Lib.hid (all_snoc hx)
      have HT : Hid (l.take (k + 1) = l.take k ++ [x]) := take_snoc hx
      clear hx
      have k5 := Blk.new wr 129 #[.int .i64 x.1, .int .i64 x.2]
      have hq := (Below.refl wr.heap.size wr).alloc (Nat.le_refl _) (Obj.cells #[.int .i64 x.1, .int .i64 x.2] 129)
      have hB4 := below_grows hB (Nat.le_refl _) hq
      replace k2 := k2.grows hq
      go_upto_region 4 with fail
      have hsW := h.grows hB4
      clear hq c0 c1
      generalize World.alloc wr _ = W4 at *
      generalize wr.heap.size = G5 at *
      cases hfx : fineS x
      · have v1 : ∀ w1, Calls Tryz.prog 311 #[.agg #[.int .i64 x.1, .int .i64 x.2]] w1 fun e w' => e = .returned (.bool false) ∧ Grows w1 w' := fun w1 => by
          have := fine_any x w1
          rw [hfx] at this
          exact this
        refine wp_region_mix (fun w' => Grows W4 w') [] 20 38 (by kernel_rfl) (by kernel_rfl) rfl ?_ float_none ?_ ?_
        · exact fun w1 w2 h0 hg => below_grows h0 (Nat.le_refl _) hg
        · exact Grows.drew' _
        · skip
          simp only [List.take_succ_cons, List.take_zero, List.drop_succ_cons, List.drop_zero]
          iterate 20
            first
              | (refine calm_no rfl rfl (a' := ?_) ?_ ?_
                 rotate_left 1
                 · simp only [Act.put, List.setIfInBounds_toArray, List.set_cons_succ, List.set_cons_zero]
                   rfl)
              | (first | refine calm_plain rfl rfl (v := ?_) (a' := ?_) (fun w1 hw1 => ?_) ?_ ?_ | refine calm_yes rfl rfl (v := ?_) (a' := ?_) (fun w1 hw1 => ?_) ?_ ?_
                 rotate_left 2
                 · have h0 := hw1
                   have c5 := (k5.grows h0).cell
                   have c2 := (k2.grows h0).cell
                   go_simp
                   first | exact calm_val | (refine calm_call ?_; with_reducible exact v1 _)
                 · simp only [Act.put, List.setIfInBounds_toArray, List.set_cons_succ, List.set_cons_zero]
                   rfl)
          refine calm_done (end_none ?_)
          intro w7 hq
          have hB7 := below_grows hB4 (Nat.le_refl _) hq
          have HE := Lib.hid (okS_no (k + 1) (l := l) (by rw [HA.out, hfx]; simp))
          clear hq
          go_wp2
          go_ret
          exact ⟨ret_bool HE.out.symm, hB7⟩
      · have v1 : ∀ w1, Calls Tryz.prog 311 #[.agg #[.int .i64 x.1, .int .i64 x.2]] w1 fun e w' => e = .returned (.bool true) ∧ Grows w1 w' := fun w1 => by
          have := fine_any x w1
          rw [hfx] at this
          exact this
        by_cases h0 : k = 0
        · subst h0
          have hgood : (l.take (0 + 1)).all fineS = true ∧ chainS (l.take (0 + 1)) = true := ⟨by rw [HA.out, hall, hfx]; rfl, by rw [HT.out]; rfl⟩
          refine wp_region_mix (fun w' => Grows W4 w') [] 20 38 (by kernel_rfl) (by kernel_rfl) rfl ?_ float_none ?_ ?_
          · exact fun w1 w2 h0 hg => below_grows h0 (Nat.le_refl _) hg
          · exact Grows.drew' _
          · skip
            simp only [List.take_succ_cons, List.take_zero, List.drop_succ_cons, List.drop_zero]
            iterate 20
              first
                | (refine calm_no rfl rfl (a' := ?_) ?_ ?_
                   rotate_left 1
                   · simp only [Act.put, List.setIfInBounds_toArray, List.set_cons_succ, List.set_cons_zero]
                     rfl)
                | (first | refine calm_plain rfl rfl (v := ?_) (a' := ?_) (fun w1 hw1 => ?_) ?_ ?_ | refine calm_yes rfl rfl (v := ?_) (a' := ?_) (fun w1 hw1 => ?_) ?_ ?_
                   rotate_left 2
                   · have h0 := hw1
                     have c5 := (k5.grows h0).cell
                     have c2 := (k2.grows h0).cell
                     go_simp
                     first | exact calm_val | (refine calm_call ?_; with_reducible exact v1 _)
                   · simp only [Act.put, List.setIfInBounds_toArray, List.set_cons_succ, List.set_cons_zero]
                     rfl)
            refine calm_done (end_none ?_)
            intro w7 hq
            have hB7 := below_grows hB4 (Nat.le_refl _) hq
            have k27 := k2.grows hq
            have HG := Lib.hid hgood
            clear hq hgood
            go_wp2
            go_roundw
            case rel => exact ⟨0 + 1, by omega, by go_num, hB7, k27, HG.out.1, HG.out.2⟩
            case measure => simp [intOf]; omega
        · obtain ⟨m, rfl⟩ : ∃ m, k = m + 1 := ⟨k - 1, by omega⟩
          obtain ⟨ad', y, e, hlt2, hy, hd0, hd1⟩ := hsW.elem (k := m) (by omega)
          injection e with e
          subst e
          have hyf : fineS y = true := List.all_eq_true.1 hall y (by rw [take_snoc hy]; simp)
          rw [fineS_iff] at hyf
          have HC : Hid (chainS (l.take (m + 1 + 1)) = decide (y.2 + 1 < x.1)) := Lib.hid (by rw [HT.out, chainS_snoc, hch, take_snoc hy, List.getLast?_concat]; rfl)
          have hidx : IntKind.i64.wrap (m : Int) = (m : Int) := IntWalk.i64_in _ (by omega)
          have hml : (m : Int) < (l.length : Int) := by omega
          have hadd : IntKind.i64.wrap (y.2 + 1) = y.2 + 1 := IntWalk.i64_in _ (by omega)
          have hpos : decide ((0 : Int) < ((m + 1 : Nat) : Int)) = true := decide_eq_true (by omega)
          have hlt2 : (⟨(ad.add (m * 2)).block, (ad.add (m * 2)).off + 1, none⟩ : Addr).block < W4.heap.size := by rw [block_of_add]; exact hlt2
          clear hd0 hy
          by_cases hgap : x.1 ≤ y.2 + 1
          · skip
            refine wp_region_mix (fun w' => Grows W4 w') [] 20 38 (by kernel_rfl) (by kernel_rfl) rfl ?_ float_none ?_ ?_
            · exact fun w1 w2 h0 hg => below_grows h0 (Nat.le_refl _) hg
            · exact Grows.drew' _
            · skip
              simp only [List.take_succ_cons, List.take_zero, List.drop_succ_cons, List.drop_zero]
              iterate 20
                first
                  | (refine calm_no rfl rfl (a' := ?_) ?_ ?_
                     rotate_left 1
                     · simp only [Act.put, List.setIfInBounds_toArray, List.set_cons_succ, List.set_cons_zero]
                       rfl)
                  | (first | refine calm_plain rfl rfl (v := ?_) (a' := ?_) (fun w1 hw1 => ?_) ?_ ?_ | refine calm_yes rfl rfl (v := ?_) (a' := ?_) (fun w1 hw1 => ?_) ?_ ?_
                     rotate_left 2
                     · have h0 := hw1
                       have c5 := (k5.grows h0).cell
                       have c2 := (k2.grows h0).cell
                       have d1 := (h0.cell (p := _) hlt2).trans hd1
                       go_simp
                       first | exact calm_val | (refine calm_call ?_; with_reducible exact v1 _)
                     · simp only [Act.put, List.setIfInBounds_toArray, List.set_cons_succ, List.set_cons_zero]
                       rfl)
              refine calm_done (end_none ?_)
              intro w7 hq
              have hB7 := below_grows hB4 (Nat.le_refl _) hq
              have HE := Lib.hid (okS_no (m + 1 + 1) (l := l) (by rw [HC.out]; simp; omega))
              clear hq
              go_wp2
              go_ret
              exact ⟨ret_bool HE.out.symm, hB7⟩
          · have hgood : (l.take (m + 1 + 1)).all fineS = true ∧ chainS (l.take (m + 1 + 1)) = true := ⟨by rw [HA.out, hall, hfx]; rfl, by rw [HC.out]; simp; omega⟩
            refine wp_region_mix (fun w' => Grows W4 w') [] 20 38 (by kernel_rfl) (by kernel_rfl) rfl ?_ float_none ?_ ?_
            · exact fun w1 w2 h0 hg => below_grows h0 (Nat.le_refl _) hg
            · exact Grows.drew' _
            · skip
              simp only [List.take_succ_cons, List.take_zero, List.drop_succ_cons, List.drop_zero]
              iterate 20
                first
                  | (refine calm_no rfl rfl (a' := ?_) ?_ ?_
                     rotate_left 1
                     · simp only [Act.put, List.setIfInBounds_toArray, List.set_cons_succ, List.set_cons_zero]
                       rfl)
                  | (first | refine calm_plain rfl rfl (v := ?_) (a' := ?_) (fun w1 hw1 => ?_) ?_ ?_ | refine calm_yes rfl rfl (v := ?_) (a' := ?_) (fun w1 hw1 => ?_) ?_ ?_
                     rotate_left 2
                     · have h0 := hw1
                       have c5 := (k5.grows h0).cell
                       have c2 := (k2.grows h0).cell
                       have d1 := (h0.cell (p := _) hlt2).trans hd1
                       go_simp
                       first | exact calm_val | (refine calm_call ?_; with_reducible exact v1 _)
                     · simp only [Act.put, List.setIfInBounds_toArray, List.set_cons_succ, List.set_cons_zero]
                       rfl)
              refine calm_done (end_none ?_)
              intro w7 hq
              have hB7 := below_grows hB4 (Nat.le_refl _) hq
              have k27 := k2.grows hq
              have HG := Lib.hid hgood
              clear hq hgood
              go_wp2
              go_roundw
              case rel => exact ⟨m + 1 + 1, by omega, by go_num, hB7, k27, HG.out.1, HG.out.2⟩
              case measure => simp [intOf]; omega
    · have e : l.take k = l := List.take_of_length_le (by omega)
      rw [e] at hall hch
      have x2 := k2.cell
      have HE := Lib.hid (okS_yes hall hch)
      clear e hall hch
      by_cases h64 : l.length ≤ 64
      · go_wp2
        go_ret
        exact ⟨ret_bool (by rw [HE.out, decide_eq_decide]; omega), hB⟩
      · go_wp2
        go_ret
        exact ⟨ret_bool (by rw [HE.out, decide_eq_decide]; omega), hB⟩
set_option maxHeartbeats 4000000 in
theorem spans_any (A : Option Addr) (c : Nat) (l : List Sp) (w : World) (h : Sps w A l) (hl : l.length ≤ 9223372036854775807) :
    Calls Tryz.prog 243 #[.agg #[.slice A l.length c]] w fun e w' => (∃ A2 c2, e = .returned (.slice A2 (spansF l).length c2) ∧ Sps w' A2 (spansF l) ∧ (l.length ≤ c → (spansF l).length ≤ c2)) ∧ Grows w w' := by
  have k2 := Blk.new w 132 #[.slice A l.length c]
  have hB := (Below.refl w.heap.size w).alloc (Nat.le_refl _) (Obj.cells #[.slice A l.length c] 132)
  go_enter Tryz.func243, Tryz.ntmps243
  go_upto_region 1 with fail
  have h1 := h.grows hB
  generalize World.alloc w _ = w1 at *
  have x2 := k2.cell 0
  go_wp2_with fail
  refine (valid_any A c l _ h1 hl).mono ?_
  rintro e w2 ⟨rfl, hq⟩
  replace hB := below_grows hB (Nat.le_refl _) hq
  replace k2 := k2.grows hq
  have h2 := h1.grows hq
  clear x2 hq
  have x2 := k2.cell 0
  cases hok : okS l
  · have e : spansF l = [] := if_neg (by rw [hok]; simp)
    have HE := Lib.hid e
    clear e
    go_wp2
    go_ret
    rw [HE.out]
    exact ⟨⟨none, 0, rfl, sps_nil _, fun _ => Nat.le_refl _⟩, hB⟩
  · have e : spansF l = l := if_pos hok
    have HE := Lib.hid e
    clear e
    go_wp2
    go_ret
    rw [HE.out]
    exact ⟨⟨A, c, rfl, h2, id⟩, hB⟩
end Go.Proofs.YtbfdaojffffaaaaGreat


namespace Go.Proofs.YtbfdaojffffaaaaGreat
open Go.RowKit
def hasP (n : Int) (x : Sp) : Bool := (decide (x.1 ≤ n) && decide (n ≤ x.2))
def hasF (l : List Sp) (n : Int) : Bool := (spansF l).any fun x => hasP n x
theorem has_p (n : Int) (x : Sp) (B : Nat) (w : World) (kn : Blk w B 3 #[.int .i64 n]) : Calls Tryz.prog 244 #[.agg #[.int .i64 x.1, .int .i64 x.2], .pointer (some ⟨B, 0, none⟩)] w fun e w' => e = .returned (.bool (hasP n x)) ∧ Grows w w' := by
 have hB := (Below.refl w.heap.size w).alloc (Nat.le_refl _) (Obj.cells #[.int .i64 x.1, .int .i64 x.2] 129)
 have x1 := (kn.grows hB).cell 0
 by_cases h1 : x.1 ≤ n
 ·by_cases h2 : n ≤ x.2
  ·have HE : Hid (hasP n x = true) := Lib.hid (by simp [hasP, h1, h2])
   go_enter Tryz.func244, Tryz.ntmps244
   go_wp2
   go_ret
   exact ⟨ret_bool HE.out.symm, hB⟩
  ·have HE : Hid (hasP n x = false) := Lib.hid (by simp [hasP, h2])
   go_enter Tryz.func244, Tryz.ntmps244
   go_wp2
   go_ret
   exact ⟨ret_bool HE.out.symm, hB⟩
 ·have HE : Hid (hasP n x = false) := Lib.hid (by simp [hasP, h1])
  go_enter Tryz.func244, Tryz.ntmps244
  go_wp2
  go_ret
  exact ⟨ret_bool HE.out.symm, hB⟩
def Found_has (n : Int) (l : List Sp) (r : Int) : Prop := (r = -1 ∧ ∀ x ∈ l, hasP n x = false) ∨ (0 ≤ r ∧ ∃ x ∈ l, hasP n x = true)
set_option maxHeartbeats 4000000 in
theorem index_has (n : Int) (A : Option Addr) (c : Nat) (l : List Sp) (w : World) (B : Nat) (kn : Blk w B 3 #[.int .i64 n]) (h : Sps w A l) (hl : l.length ≤ 9223372036854775807) (F : Value) (hF : F = .func (.func 244) #[] #[.pointer (some ⟨B, 0, none⟩)]) :
 Calls Tryz.prog 291 #[.slice A l.length c, F] w fun e w' => (∃ r, Found_has n l r ∧ e = .returned (.int .i64 r)) ∧ Grows w w' := by
 subst hF
 go_enter Tryz.func291, Tryz.ntmps291
 go_wp2
 go_loopw [8] (fun i wr => ∃ k : Nat, k ≤ l.length ∧ i = .int .i64 k ∧ Grows w wr ∧ ∀ x ∈ l.take k, hasP n x = false) (fun i _ => l.length - (intOf i).toNat)
 case atStart => exact ⟨0, by omega, rfl, Below.refl _ _, by simp⟩
 case round =>
  obtain ⟨k, hk, rfl, hB, hall⟩ := hrel
  by_cases hlt : k < l.length
  ·obtain ⟨ad, x, rfl, had, hx, c0, c1⟩ := (h.grows hB).elem hlt
   have HX : Hid (l.take (k + 1) = l.take k ++ [x]) := take_snoc hx
   have HM : Hid (x ∈ l) := List.mem_of_getElem? hx
   clear hx
   go_wp2_with fail
   refine (has_p n x B _ (kn.grows hB)).mono ?_
   rintro e w2 ⟨rfl, hq⟩
   replace hB := below_grows hB (Nat.le_refl _) hq
   clear c0 c1 hq
   cases ho : hasP n x
   ·go_wp2
    go_roundw
    case rel =>
     refine ⟨k + 1, by omega, by go_num, hB, ?_⟩
     rw [HX.out]
     intro y hy
     rcases List.mem_append.1 hy with hy | hy
     ·exact hall y hy
     ·simp at hy; subst hy; exact ho
    case measure => simp [intOf]; omega
   ·go_wp2
    go_ret
    exact ⟨⟨_, .inr ⟨by omega, x, HM.out, ho⟩, rfl⟩, hB⟩
  ·have e : l.take k = l := List.take_of_length_le (by omega)
   rw [e] at hall
   go_wp2
   go_ret
   exact ⟨⟨-1, .inl ⟨rfl, hall⟩, rfl⟩, hB⟩
set_option maxHeartbeats 4000000 in
theorem cont_has (n : Int) (A : Option Addr) (c : Nat) (l : List Sp) (w : World) (B : Nat) (kn : Blk w B 3 #[.int .i64 n]) (h : Sps w A l) (hl : l.length ≤ 9223372036854775807) :
 Calls Tryz.prog 242 #[.slice A l.length c, .func (.func 244) #[] #[.pointer (some ⟨B, 0, none⟩)]] w fun e w' => e = .returned (.bool (l.any fun x => hasP n x)) ∧ Grows w w' := by
 go_enter Tryz.func242, Tryz.ntmps242
 go_wp2_with fail
 refine (index_has n A c l _ B kn h hl _ rfl).mono ?_
 rintro e w2 ⟨⟨r, hr, rfl⟩, hB⟩
 have hd : decide (0 ≤ r) = l.any fun x => hasP n x := by
  rcases hr with ⟨rfl, ha⟩ | ⟨h0, x, hx, ho⟩
  ·rw [show decide ((0 : Int) ≤ -1) = false from rfl]
   symm
   rw [List.any_eq_false]
   intro x hx
   rw [ha x hx]
   simp
  ·rw [show decide (0 ≤ r) = true from by simpa using h0]
   symm
   exact List.any_eq_true.2 ⟨x, hx, ho⟩
 go_wp2
 go_ret
 exact ⟨rfl, hB⟩
set_option maxHeartbeats 4000000 in
theorem has_any (A : Option Addr) (c : Nat) (l : List Sp) (n : Int) (w : World) (h : Sps w A l) (hl : l.length ≤ 9223372036854775807) :
 Calls Tryz.prog 168 #[.agg #[.slice A l.length c], .int .i64 n] w fun e w' => e = .returned (.bool (hasF l n)) ∧ Grows w w' := by
 have k2 := (Blk.new w 132 #[.slice A l.length c]).alloc (Obj.cells #[.int .i64 n] 3)
 have k3 := blk_new_at (X := w.alloc (Obj.cells #[.slice A l.length c] 132)) (n := w.heap.size + 1) (t := 3) (cs := #[.int .i64 n]) (by simp)
 have hB := ((Below.refl w.heap.size w).alloc (Nat.le_refl _) (Obj.cells #[.slice A l.length c] 132)).alloc (by simp) (Obj.cells #[.int .i64 n] 3)
 go_enter Tryz.func168, Tryz.ntmps168
 go_upto_region 1 with fail
 have h1 := h.grows hB
 generalize World.alloc (World.alloc w _) _ = w1 at *
 have x2 := k2.cell 0
 go_wp2_with fail
 refine (spans_any A c l _ h1 hl).mono ?_
 rintro e w2 ⟨⟨A2, c2, rfl, h2, -⟩, hq⟩
 replace hB := below_grows hB (Nat.le_refl _) hq
 have hl2 := spansF_len l
 have HF : Hid (hasF l n = (spansF l).any fun x => hasP n x) := Lib.hid rfl
 generalize spansF l = o at *
 go_wp2_with fail
 refine (cont_has n A2 c2 o _ _ (k3.grows hq) h2 (by omega)).mono ?_
 rintro e w3 ⟨rfl, hq2⟩
 replace hB := below_grows hB (Nat.le_refl _) hq2
 go_wp2
 go_ret
 exact ⟨ret_bool HF.out.symm, hB⟩
end Go.Proofs.YtbfdaojffffaaaaGreat

namespace Go.Proofs.YtbfdaojffffaaaaGreat
open Go.RowKit
/-- The op gives the value v and leads into a world with T. -/
def stepR (P : Program) (T : World → Prop) : Result Next → Value → Prop
 | .ok (.value u) w', v => u = v ∧ T w'
 | .ok .skip w', v => v = undef ∧ T w'
 | .ok (.enter f args) w', v => Calls P f args w' fun e w'' => e = .returned v ∧ T w''
 | _, _ => False
def StepAt (P : Program) (ops : Array Oper) (S T : World → Prop) (o : Oper) (v : Value) (a : Act) : Prop :=
 (Region.wanted o (yielded ops a.tmps) = true ∧ ∀ w, S w → stepR P T ((execOp a.eval o).run P w) v) ∨ (Region.wanted o (yielded ops a.tmps) = false ∧ v = undef ∧ ∀ w, S w → T w)
def stIx : List Nat → Nat → Option Nat
 | [], _ => none
 | x :: r, k => if x = k then some 0 else (stIx r k).map (· + 1)
theorem stIx_some : ∀ {r : List Nat} {k j : Nat}, stIx r k = some j → r[j]? = some k
 | [], _, _, h => by cases h
 | x :: r, k, j, h => by
  unfold stIx at h
  split at h
  ·injection h with h; subst h; simp; assumption
  ·obtain ⟨i, hi, rfl⟩ := Option.map_eq_some_iff.1 h
   simpa using stIx_some hi
theorem stIx_none : ∀ {r : List Nat} {k : Nat}, stIx r k = none → k ∉ r
 | [], _, _ => by simp
 | x :: r, k, h => by
  unfold stIx at h
  split at h
  ·cases h
  ·rename_i hne
   have := stIx_none (r := r) (k := k) (by simpa using h)
   simp only [List.mem_cons, not_or]
   exact ⟨fun e => hne e.symm, this⟩
section
variable {P : Program} {ops : Array Oper} {S : Nat → World → Prop} {md : Region.Mode}
def stHi (md : Region.Mode) (ops : Array Oper) : List Nat → Nat → Nat
 | [], _ => 0
 | s :: r, i => if Region.waitsFor md ops s i then 0 else stHi md ops r i + 1
def StAt (P : Program) (md : Region.Mode) (ops : Array Oper) (S : Nat → World → Prop) (sts : List Nat) (k : Nat) (o : Oper) (v : Value) (a : Act) : Prop :=
 match stIx sts k with
 | some j => StepAt P ops (S j) (S (j + 1)) o v a
 | none => CalmAt P ops (fun w => ∃ p, p ≤ stHi md ops sts k ∧ S p w) o v a
def wpSt (P : Program) (md : Region.Mode) (ops : Array Oper) (S : Nat → World → Prop) (sts : List Nat) (L : Act → Prop) : List Oper → Nat → Act → Prop
 | [], _, a => L a
 | o :: l, k, a => ∃ v, StAt P md ops S sts k o v a ∧ wpSt P md ops S sts L l (k + 1) (a.put o.dst v)
def GoodS (P : Program) (md : Region.Mode) (ops : Array Oper) (S : Nat → World → Prop) (sts : List Nat) (val : Nat → Value) : List Oper → Nat → Act → Prop
 | [], _, _ => True
 | o :: l, k, a => StAt P md ops S sts k o (val k) a ∧ GoodS P md ops S sts val l (k + 1) (a.put o.dst (val k))
theorem GoodS_congr {sts : List Nat} {val val' : Nat → Value} : ∀ (l : List Oper) (k : Nat) (a : Act), (∀ j, k ≤ j → val j = val' j) → GoodS P md ops S sts val l k a → GoodS P md ops S sts val' l k a
 | [], _, _, _, _ => trivial
 | o :: l, k, a, h, hg => by
  simp only [GoodS, h k (Nat.le_refl _)] at hg ⊢
  exact ⟨hg.1, GoodS_congr l (k + 1) _ (fun j hj => h j (by omega)) hg.2⟩
theorem good_of_wpSt {sts : List Nat} {L : Act → Prop} : ∀ (l : List Oper) (k : Nat) (a : Act), wpSt P md ops S sts L l k a → ∃ val, GoodS P md ops S sts val l k a ∧ L (fin [] val l k a)
 | [], _, a, h => ⟨fun _ => undef, trivial, h⟩
 | o :: l, k, a, h => by
  obtain ⟨v, hc, h2⟩ := h
  obtain ⟨val, hg, hL⟩ := good_of_wpSt l (k + 1) (a.put o.dst v) h2
  have hcg : ∀ j, k + 1 ≤ j → val j = (fun i => if i = k then v else val i) j := fun j hj => by simp only []; rw [if_neg (by omega)]
  refine ⟨fun i => if i = k then v else val i, ?_, ?_⟩
  ·simp only [GoodS, if_true]
   exact ⟨hc, GoodS_congr l (k + 1) _ hcg hg⟩
  ·simp only [fin, stepAct, Floats.at, List.lookup_nil, if_true]
   rw [← fin_congr l (k + 1) _ hcg]
   exact hL
theorem goodS_at {sts : List Nat} {val : Nat → Value} : ∀ (l : List Oper) (k : Nat) (a : Act) (j : Nat) (o : Oper), GoodS P md ops S sts val l k a → l[j]? = some o → StAt P md ops S sts (k + j) o (val (k + j)) (fin [] val (l.take j) k a)
 | [], _, _, _, _, _, hj => by simp at hj
 | _ :: l, k, _, 0, o, hg, hj => by
  simp only [List.getElem?_cons_zero, Option.some.injEq] at hj
  subst hj
  simpa [GoodS, fin] using hg.1
 | o' :: l, k, a, j + 1, o, hg, hj => by
  have := goodS_at l (k + 1) _ j o hg.2 (by simpa using hj)
  rw [show k + 1 + j = k + (j + 1) by omega] at this
  simpa [fin, stepAct, Floats.at] using this
theorem stHi_le : ∀ {sts : List Nat} {i p : Nat}, p ≤ sts.length → (∀ j s, sts[j]? = some s → j < p → Region.waitsFor md ops s i = false) → p ≤ stHi md ops sts i
 | [], _, _, h, _ => by simpa [stHi] using h
 | s :: r, i, 0, _, _ => Nat.zero_le _
 | s :: r, i, p + 1, h, hh => by
  have h0 := hh 0 s rfl (by omega)
  unfold stHi
  rw [h0]
  simp only [Bool.false_eq_true, if_false]
  have := stHi_le (sts := r) (i := i) (p := p) (by simpa using h) fun j s' hj hlt => hh (j + 1) s' (by simpa using hj) (by omega)
  omega
theorem StAt.agree {sts : List Nat} {k : Nat} {o : Oper} (hs : ∀ cs b, o.op ≠ .select cs b) {v : Value} {a a' : Act} (h : ∀ t ∈ o.looksAt ops, a.tmps[t]? = a'.tmps[t]?) (hc : StAt P md ops S sts k o v a) : StAt P md ops S sts k o v a' := by
 unfold StAt StepAt CalmAt at *
 rw [← run_agree (ops := ops) hs h, ← wanted_agree h]
 exact hc
def stepB (md : Region.Mode) (ops : Array Oper) (n N : Nat) (sts : List Nat) : Bool :=
 mixB md ops n N [] && decide sts.Nodup && sts.all (fun s => decide (s < n)) && (List.range (sts.length - 1)).all (fun j => Region.waitsFor md ops (sts.getD (j + 1) 0) (sts.getD j 0))
structure InvS (S : Nat → World → Prop) (ops : Array Oper) (n : Nat) (sts : List Nat) (val : Nat → Value) (a0 : Act) (listed : Array Bool) (a : Act) (w : World) : Prop where
 s : ∃ p, p ≤ sts.length ∧ S p w ∧ ∀ j i, sts[j]? = some i → (listed.getD i false = true ↔ j < p)
 defers : a.defers = a0.defers
 size : a.tmps.size = a0.tmps.size
 calm : ∀ k o t, k < n → ops[k]? = some o → o.dst = some t → listed.getD k false = true → a.tmps[t]? = some (val k)
 other : ∀ t, (∀ k o, k < n → ops[k]? = some o → listed.getD k false = true → o.dst ≠ some t) → a.tmps[t]? = a0.tmps[t]?
theorem stepAt_wpOp {Q : Exit → Act → World → Prop} {S T : World → Prop} {i : Nat} {o : Oper} {v : Value} {a : Act} {w : World} {K : Act → World → Prop} (hi : ops[i]? = some o) (hc : StepAt P ops S T o v a) (hw : S w)
 (hK : ∀ w', T w' → K (a.put o.dst v) w') : wpOp P ops Q i K a w := by
 unfold wpOp
 simp only [hi]
 rcases hc with ⟨hwt, hr⟩ | ⟨hwt, rfl, ht⟩
 ·simp only [hwt, if_true]
  refine .inl ?_
  have := hr w hw
  unfold Oper.wp
  generalize (execOp a.eval o).run P w = r at *
  cases r with
  | ok n w' =>
   cases n <;> simp only [stepR] at this <;> simp only [Oper.upon]
   case value u => obtain ⟨rfl, hg⟩ := this; exact hK _ hg
   case skip => obtain ⟨rfl, hg⟩ := this; exact hK _ hg
   case enter f args => exact this.mono fun e w'' ⟨he, hg⟩ => by subst he; exact hK _ hg
  | halt x w' => simp only [stepR] at this
 ·simp only [hwt, Bool.false_eq_true, if_false]
  exact hK _ (ht w hw)
section
variable {n N : Nat} {sts : List Nat} {val : Nat → Value} {a0 : Act}
theorem op_stepS (ok : MixOk md ops n N []) (hN : a0.tmps.size = N) (good : GoodS P md ops S sts val (ops.toList.take n) 0 a0)
 {listed : Array Bool} {a : Act} {w : World} (inv : InvS S ops n sts val a0 listed a w) {i : Nat} {o : Oper} (hi : i < n) (ho : ops[i]? = some o) (hr : i ∈ Region.ready md ops listed) : StAt P md ops S sts i o (val i) a := by
 have hg := goodS_at (ops.toList.take n) 0 a0 i o good (take_get hi ho)
 rw [Nat.zero_add] at hg
 rw [List.take_take, Nat.min_eq_left (by omega)] at hg
 have hs : ∀ cs b, o.op ≠ .select cs b := fun cs b => Region.noSelect_spec ok.sel i o cs b ho
 have agree : ∀ t ∈ o.looksAt ops, (fin [] val (ops.toList.take i) 0 a0).tmps[t]? = a.tmps[t]? := by
  intro t ht
  by_cases hex : ∃ k o', k < n ∧ ops[k]? = some o' ∧ o'.dst = some t
  ·obtain ⟨k, o', hk, ho', hd⟩ := hex
   obtain ⟨h1, _, h3⟩ := ok.look i o k o' t hi hk ho ho' hd ht
   have hlisted : listed.getD k false = true := by
    obtain ⟨oj, hoj, e, he, hb, hon⟩ := Region.waitsFor_spec h3
    obtain ⟨_, oi, hoi, hall⟩ := mem_ready.1 hr
    have : oj = oi := Option.some.inj (hoj.symm.trans hoi)
    subst this
    have := hall e he hb
    rwa [hon] at this
   have e1 := inv.calm k o' t hk ho' hd hlisted
   have hlt : t < a0.tmps.size := by rw [hN]; exact ok.bd k o' t hk ho' hd
   have e2 := fin_at (fl := []) (val := val) (ops.toList.take i) 0 a0 k o' (take_get h1 ho') hd rfl hlt (by
    intro j oj hj hne hdj
    obtain ⟨hji, hoj⟩ := of_take_get hj
    exact ok.ne j oj k o' t (by omega) hk hoj ho' (Ne.symm hne) hdj hd)
   rw [Nat.zero_add] at e2
   rw [e1, e2]
  ·have e1 := inv.other t fun k o' hk ho' _ hd => hex ⟨k, o', hk, ho', hd⟩
   have e2 := fin_other (fl := []) (val := val) (t := t) (ops.toList.take i) 0 a0 fun j oj hj _ hd => by
    obtain ⟨hji, hoj⟩ := of_take_get hj
    exact hex ⟨j, oj, by omega, hoj, hd⟩
   rw [e1, e2]
 exact hg.agree hs agree
theorem inv_stepS (ok : MixOk md ops n N []) (hN : a0.tmps.size = N) {listed : Array Bool} {a : Act} {w w' : World} (inv : InvS S ops n sts val a0 listed a w) {i : Nat} {o : Oper} (hi : i < n) (ho : ops[i]? = some o) (hl : i < listed.size)
 (hs : ∃ p, p ≤ sts.length ∧ S p w' ∧ ∀ j i', sts[j]? = some i' → ((listed.setIfInBounds i true).getD i' false = true ↔ j < p)) : InvS S ops n sts val a0 (listed.setIfInBounds i true) (a.put o.dst (val i)) w' := by
 have key : ∀ k o' t, k < n → ops[k]? = some o' → o'.dst = some t → k ≠ i → (a.put o.dst (val i)).tmps[t]? = a.tmps[t]? := by
  intro k o' t hk ho' hd hne
  exact put_get_ne fun e => ok.ne i o k o' t hi hk ho ho' hne e hd
 refine ⟨hs, (put_defers' _ _ _).trans inv.defers, (put_size _ _ _).trans inv.size, ?_, ?_⟩
 ·intro k o' t hk ho' hd hlk
  by_cases hki : k = i
  ·subst hki
   have : o' = o := Option.some.inj (ho'.symm.trans ho)
   subst this
   rw [hd, put_get_eq (by rw [inv.size, hN]; exact ok.bd k o' t hk ho' hd)]
  ·rw [key k o' t hk ho' hd hki]
   exact inv.calm k o' t hk ho' hd (by rwa [getD_set_ne false (Ne.symm hki)] at hlk)
 ·intro t ht
  have h1 : o.dst ≠ some t := ht i o hi ho (by simp [hl])
  rw [put_get_ne h1]
  exact inv.other t fun k o' hk ho' hlk => ht k o' hk ho' (getD_set_true hlk)
structure StepOk (md : Region.Mode) (ops : Array Oper) (n : Nat) (sts : List Nat) : Prop where
 nd : sts.Nodup
 lt : ∀ s ∈ sts, s < n
 chain : ∀ j i k, sts[j]? = some i → sts[j + 1]? = some k → Region.waitsFor md ops k i = true
theorem stepOk_of (h : stepB md ops n N sts = true) : MixOk md ops n N [] ∧ StepOk md ops n sts := by
 simp only [stepB, Bool.and_eq_true, decide_eq_true_eq, List.all_eq_true, List.mem_range] at h
 obtain ⟨⟨⟨h1, h2⟩, h3⟩, h4⟩ := h
 refine ⟨mixOk_of h1, h2, h3, fun j i k hi hk => ?_⟩
 have hj : j + 1 < sts.length := (List.getElem?_eq_some_iff.1 hk).1
 have := h4 j (by omega)
 simpa [List.getD_eq_getElem?_getD, hi, hk] using this
theorem head_runS {Q : Exit → Act → World → Prop} (ok : MixOk md ops n N []) (sk : StepOk md ops n sts) (hN : a0.tmps.size = N) (hS : ∀ p w w', S p w → Grows w w' → S p w')
 (good : GoodS P md ops S sts val (ops.toList.take n) 0 a0) (g : Nat)
 (H : ∀ listed a w, HeadInv md ops n listed → (∀ i, i < n → listed.getD i false = true) → InvS S ops n sts val a0 listed a w → wpAny P md ops Q g listed a w) :
 ∀ (f : Nat) (listed : Array Bool) (a : Act) (w : World), ((List.range n).countP fun i => !listed.getD i false) ≤ f → HeadInv md ops n listed → InvS S ops n sts val a0 listed a w →
  wpAny P md ops Q (f + g) listed a w := by
 intro f
 induction f with
 | zero =>
  intro listed a w hc hinv inv
  rw [Nat.zero_add]
  refine H listed a w hinv (fun i hi => ?_) inv
  have h0 : ((List.range n).countP fun i => !listed.getD i false) = 0 := by omega
  rw [List.countP_eq_zero] at h0
  have := h0 i (List.mem_range.2 hi)
  simpa using this
 | succ f ih =>
  intro listed a w hc hinv inv
  by_cases hall : ∀ i, i < n → listed.getD i false = true
  ·exact wpAny_fuel g listed a w (H listed a w hinv hall inv) (f + 1)
  ·have hex : ∃ i, i < n ∧ listed.getD i false = false := by
    apply Classical.byContradiction
    intro hno
    exact hall fun i hi => by
     cases h : listed.getD i false
     ·exact absurd ⟨i, hi, h⟩ hno
     ·rfl
   obtain ⟨i0, hi0, hl0⟩ := hex
   have hsz : ∀ i, i < n → i < listed.size := fun i hi => by rw [hinv.size]; have := ok.le; omega
   have hready : Region.ready md ops listed ≠ [] := by
    have : ∀ d i, i ≤ d → i < n → listed.getD i false = false → ∃ j, j ∈ Region.ready md ops listed := by
     intro d
     induction d with
     | zero =>
      intro i hid hi hl
      obtain ⟨o, ho⟩ : ∃ o, ops[i]? = some o := ⟨ops[i]'(by have := ok.le; omega), by simp [show i < ops.size by have := ok.le; omega]⟩
      refine ⟨i, mem_ready.2 ⟨getD_in (hsz i hi) hl, o, ho, fun e he hb => ?_⟩⟩
      have := ok.back i o hi ho e he hb
      omega
     | succ d ihd =>
      intro i hid hi hl
      obtain ⟨o, ho⟩ : ∃ o, ops[i]? = some o := ⟨ops[i]'(by have := ok.le; omega), by simp [show i < ops.size by have := ok.le; omega]⟩
      by_cases hw : ∀ e ∈ o.after, Region.binds md e = true → listed.getD e.on false = true
      ·exact ⟨i, mem_ready.2 ⟨getD_in (hsz i hi) hl, o, ho, hw⟩⟩
      ·have : ∃ e ∈ o.after, Region.binds md e = true ∧ listed.getD e.on false = false := by
        apply Classical.byContradiction
        intro hno
        exact hw fun e he hb => by
         cases h : listed.getD e.on false
         ·exact absurd ⟨e, he, hb, h⟩ hno
         ·rfl
       obtain ⟨e, he, hb, hle⟩ := this
       have hlt := ok.back i o hi ho e he hb
       exact ihd e.on (by omega) (by omega) hle
    obtain ⟨j, hj⟩ := this i0 i0 (Nat.le_refl _) hi0 hl0
    intro h0
    rw [h0] at hj
    cases hj
   rw [show f + 1 + g = (f + g) + 1 by omega]
   refine ⟨fun h0 => absurd h0 hready, fun i hir => ?_⟩
   have hin : i < n := by
    rcases Nat.lt_or_ge i n with h | h
    ·exact h
    ·exfalso
     obtain ⟨_, oi, hoi, _⟩ := mem_ready.1 hir
     have hlt : i < ops.size := (Array.getElem?_eq_some_iff.1 hoi).1
     rcases ok.tail with ht | ⟨ht, hs, hch⟩
     ·omega
     ·exact tail_waits hs hch ht hinv _ i0 rfl hi0 (getD_in (hsz i0 hi0) hl0) i h hir
   obtain ⟨hun, o, ho, hwaits⟩ := mem_ready.1 hir
   have hst := op_stepS ok hN good inv hin ho hir
   have hunf : listed.getD i false = false := getD_both hun
   have hcnt : ((List.range n).countP fun j => !(listed.setIfInBounds i true).getD j false) ≤ f := by
    have := countP_lt (p := fun j => !listed.getD j false) (q := fun j => !(listed.setIfInBounds i true).getD j false) (List.range n) (List.mem_range.2 hin)
     (fun j _ hj => by
       simp only [Bool.not_eq_true'] at hj ⊢
       cases h : listed.getD j false
       ·rfl
       ·rw [getD_set_true h] at hj; cases hj) (by simp only [hunf, Bool.not_false]) (by simp [hsz i hin])
    omega
   have hinv' := hinv.set hir hin
   obtain ⟨p, hp, hsp, hpl⟩ := inv.s
   cases hf : stIx sts i with
   | some j =>
    have hj := stIx_some hf
    simp only [StAt, hf] at hst
    have hpj : p = j := by
     have h1 : ¬ j < p := fun h => by
      have := (hpl j i hj).2 h
      rw [hunf] at this
      cases this
     have h2 : j ≤ p := by
      rcases Nat.eq_zero_or_pos j with h0 | h0
      ·omega
      ·have hjl := (List.getElem?_eq_some_iff.1 hj).1
       have hk : sts[j - 1]? = some (sts[j - 1]'(by omega)) := List.getElem?_eq_getElem (by omega)
       have hwf := sk.chain (j - 1) _ i hk (by rw [Nat.sub_add_cancel h0]; exact hj)
       obtain ⟨oj, hoj, e, he, hb, hon⟩ := Region.waitsFor_spec hwf
       have : oj = o := Option.some.inj (hoj.symm.trans ho)
       subst this
       have hh := hwaits e he hb
       rw [hon] at hh
       have := (hpl (j - 1) _ hk).1 hh
       omega
     omega
    subst hpj
    refine stepAt_wpOp ho hst hsp fun w' hw' => ih _ _ _ hcnt hinv' (inv_stepS ok hN inv hin ho (hsz i hin) ⟨p + 1, (List.getElem?_eq_some_iff.1 hj).1, hw', fun k i' hk => ?_⟩)
    by_cases hkp : k = p
    ·subst hkp
     have : i' = i := Option.some.inj (hk.symm.trans hj)
     subst this
     simp [hsz i' hin]
    ·have hne : i ≠ i' := by
      rintro rfl
      have hk1 := (List.getElem?_eq_some_iff.1 hk).1
      exact hkp ((List.getElem?_inj hk1 sk.nd).1 (hk.trans hj.symm))
     rw [getD_set_ne false hne, hpl k i' hk]
     omega
   | none =>
    have hni := stIx_none hf
    simp only [StAt, hf] at hst
    have hhi : p ≤ stHi md ops sts i := stHi_le hp fun j s hj hlt => by
     cases hwf : Region.waitsFor md ops s i
     ·rfl
     ·exfalso
      obtain ⟨oj, hoj, e, he, hb, hon⟩ := Region.waitsFor_spec hwf
      have h1 := (hpl j s hj).2 hlt
      have h2 := hinv.closed s oj hoj h1 e he hb
      rw [hon, hunf] at h2
      cases h2
    refine calm_wpOp ho hst ⟨p, hhi, hsp⟩ fun w' hg => ih _ _ _ hcnt hinv' (inv_stepS ok hN inv hin ho (hsz i hin) ⟨p, hp, hS p _ _ hsp hg, fun k i' hk => ?_⟩)
    have hne : i ≠ i' := by
     rintro rfl
     exact hni (List.mem_of_getElem? hk)
    rw [getD_set_ne false hne, hpl k i' hk]
end
theorem wp_region_step {id : Nat} {Q : Exit → Act → World → Prop} {a : Act} {w : World} {l : List Oper} (S : Nat → World → Prop) (sts : List Nat) (n N : Nat) (hm : P.follows .mixedOrders = true) (hB : stepB .any l.toArray n N sts = true)
 (hN : a.tmps.size = N) (hS : ∀ p w w', S p w → Grows w w' → S p w') (h0 : S 0 w.drew)
 (h : wpSt P .any l.toArray S sts (fun a' => ∀ w', S sts.length w' → wpList P l.toArray Q (l.drop n) a' w') (l.take n) 0 a) : (Code.region id l.toArray true).wp P Q a w := by
 obtain ⟨ok, sk⟩ := stepOk_of hB
 have hle : n ≤ l.length := by simpa using ok.le
 obtain ⟨val, good, hL⟩ := good_of_wpSt (l.take n) 0 a h
 refine wp_region_any hm ?_
 have inv0 : HeadInv .any l.toArray n (Array.replicate l.toArray.size false) :=
  ⟨by simp, fun j oj _ hl => (by rw [getD_replicate_false] at hl; cases hl), fun t _ ht => getD_in (by simpa using ht) (getD_replicate_false _ _)⟩
 have key := head_runS (md := .any) (Q := Q) (ops := l.toArray) (S := S) (sts := sts) (val := val) (a0 := a) ok sk hN hS (by simpa using good) (l.length - n) (by
  intro listed b w' hinv hall inv
  refine (show l.length - n = (l.drop n).length by simp) ▸ wpAny_of_seq (l.drop n) n listed b w' (fun j => by simp [List.getElem?_drop]) ?_ ?_
  ·have hls : listed = (Array.replicate n true) ++ (Array.replicate (l.length - n) false) := by
    refine Array.ext (by simp [hinv.size]; omega) fun i h1 h2 => ?_
    have hsz : i < l.length := by have := hinv.size; simp at this; omega
    by_cases hin : i < n
    ·have := hall i hin
     rw [Array.getElem_append_left (by simpa using hin)]
     simpa [h1] using this
    ·have := hinv.tail i (by omega) (by simpa using hsz)
     rw [Array.getElem_append_right (by simp; omega)]
     simpa [h1] using this
   have := ok.seq
   rw [hls]
   simpa using this
  ·obtain ⟨p, hp, hsp, hpl⟩ := inv.s
   have hpe : p = sts.length := by
    rcases Nat.lt_or_ge p sts.length with hlt | hge
    ·have hk : sts[p]? = some (sts[p]'hlt) := List.getElem?_eq_getElem hlt
     have := (hpl p _ hk).1 (hall _ (sk.lt _ (List.getElem_mem hlt)))
     omega
    ·omega
   subst hpe
   have hb : b = fin [] val (l.take n) 0 a := by
    have e1 : b.defers = (fin [] val (l.take n) 0 a).defers := inv.defers.trans (fin_defers _ _ _).symm
    have e2 : b.tmps = (fin [] val (l.take n) 0 a).tmps := by
     refine Array.ext_getElem? fun t => ?_
     by_cases hex : ∃ k o', k < n ∧ l.toArray[k]? = some o' ∧ o'.dst = some t
     ·obtain ⟨k, o', hk, ho', hd⟩ := hex
      have e1 := inv.calm k o' t hk ho' hd (hall k hk)
      have e2 := fin_at (fl := []) (val := val) (l.take n) 0 a k o' (by have := take_get (ops := l.toArray) hk ho'; simpa using this) hd rfl
       (by rw [hN]; exact ok.bd k o' t hk ho' hd) (by
         intro j oj hj hne hdj
         obtain ⟨hji, hoj⟩ := of_take_get (ops := l.toArray) (by simpa using hj)
         exact ok.ne j oj k o' t hji hk hoj ho' (Ne.symm hne) hdj hd)
      rw [Nat.zero_add] at e2
      rw [e1, e2]
     ·have e1 := inv.other t fun k o' hk ho' _ hd => hex ⟨k, o', hk, ho', hd⟩
      have e2 := fin_other (fl := []) (val := val) (t := t) (l.take n) 0 a fun j oj hj _ hd => by
       obtain ⟨hji, hoj⟩ := of_take_get (ops := l.toArray) (by simpa using hj)
       exact hex ⟨j, oj, by omega, hoj, hd⟩
      rw [e1, e2]
    obtain ⟨bt, bd⟩ := b
    generalize fin [] val (l.take n) 0 a = z at *
    obtain ⟨zt, zd⟩ := z
    simp only at e1 e2
    rw [e1, e2]
   rw [hb]
   exact hL w' hsp) n (Array.replicate l.toArray.size false) a w.drew (by
   have := List.countP_le_length (p := fun i => !(Array.replicate l.toArray.size false).getD i false) (l := List.range n)
   simpa using this) inv0 ⟨⟨0, Nat.zero_le _, h0, fun j i _ => ⟨fun h => (by rw [getD_replicate_false] at h; cases h), fun h => absurd h (Nat.not_lt_zero _)⟩⟩, rfl, rfl, fun k o t _ _ _ hl => (by rw [getD_replicate_false] at hl; cases hl), fun t _ => rfl⟩
 rw [show n + (l.length - n) = l.toArray.size by simp; omega] at key
 exact key
section
variable {sts : List Nat} {L : Act → Prop} {o : Oper} {l : List Oper} {k : Nat} {a a' : Act} {v : Value}
theorem st_plain (hf : stIx sts k = none) (hg : o.guard = none) (hc : ∀ w, (∃ p, S p w) → calmR P w ((execOp a.eval o).run P w) v) (ha : a.put o.dst v = a') (h : wpSt P md ops S sts L l (k + 1) a') : wpSt P md ops S sts L (o :: l) k a := by
 subst ha
 exact ⟨v, by simp only [StAt, hf]; exact .inl ⟨by simp [Region.wanted, hg], fun w ⟨p, _, h⟩ => hc w ⟨p, h⟩⟩, h⟩
/-- An operation that some step waits for: it sees the states up to that step only. -/
theorem st_upto {j : Nat} (hj : stHi md ops sts k = j) (hf : stIx sts k = none) (hg : o.guard = none) (hc : ∀ w, (∃ p, p ≤ j ∧ S p w) → calmR P w ((execOp a.eval o).run P w) v) (ha : a.put o.dst v = a') (h : wpSt P md ops S sts L l (k + 1) a') : wpSt P md ops S sts L (o :: l) k a := by
 subst ha
 exact ⟨v, by simp only [StAt, hf, hj]; exact .inl ⟨by simp [Region.wanted, hg], hc⟩, h⟩
theorem st_step {j : Nat} (hf : stIx sts k = some j) (hg : o.guard = none) (hc : ∀ w, S j w → stepR P (S (j + 1)) ((execOp a.eval o).run P w) v) (ha : a.put o.dst v = a') (h : wpSt P md ops S sts L l (k + 1) a') : wpSt P md ops S sts L (o :: l) k a := by
 subst ha
 exact ⟨v, by simp only [StAt, hf]; exact .inl ⟨by simp [Region.wanted, hg], hc⟩, h⟩
theorem st_done (h : L a) : wpSt P md ops S sts L [] k a := h
theorem step_skip {T : World → Prop} {w : World} (h : T w) : stepR P T (.ok .skip w) undef := ⟨rfl, h⟩
end
end
end Go.Proofs.YtbfdaojffffaaaaGreat

namespace Go.Proofs.YtbfdaojffffaaaaGreat
open Go.RowKit
abbrev Ran := Nat → Bool
def upd (L : Ran) (i : Nat) : Ran := fun k => if k = i then true else L k
/-- The operations that operation i waits for, directly and through others. -/
def needs (md : Region.Mode) (ops : Array Oper) : Nat → Nat → List Nat
 | 0, _ => []
 | n + 1, i => match ops[i]? with
  | none => []
  | some o => (o.after.toList.filter (fun e => Region.binds md e)).flatMap fun e => e.on :: needs md ops n e.on
/-- Where an operation of the region may run: it has not run yet, and all that it waits for has. -/
def At (md : Region.Mode) (ops : Array Oper) (i : Nat) (L : Ran) : Prop := L i = false ∧ ∀ k ∈ needs md ops 4 i, L k = true
theorem At.need {md : Region.Mode} {ops : Array Oper} {i : Nat} {L : Ran} (h : At md ops i L) (k : Nat) (hk : (needs md ops 4 i).contains k = true) : L k = true := h.2 k (by simpa using hk)
section
variable {P : Program} {ops : Array Oper} {S : Ran → World → Prop} {R : World → World → Prop} {md : Region.Mode}
def CalmF (P : Program) (md : Region.Mode) (ops : Array Oper) (S : Ran → World → Prop) (R : World → World → Prop) (i : Nat) (o : Oper) (v : Value) (a : Act) : Prop :=
 (Region.wanted o (yielded ops a.tmps) = true ∧ ∀ L w, At md ops i L → S L w → stepR P (fun w' => S (upd L i) w' ∧ R w w') ((execOp a.eval o).run P w) v) ∨
   (Region.wanted o (yielded ops a.tmps) = false ∧ v = undef ∧ ∀ L w, At md ops i L → S L w → S (upd L i) w ∧ R w w)
theorem CalmF.agree {i : Nat} {o : Oper} (hs : ∀ cs b, o.op ≠ .select cs b) {v : Value} {a a' : Act} (h : ∀ t ∈ o.looksAt ops, a.tmps[t]? = a'.tmps[t]?) (hc : CalmF P md ops S R i o v a) : CalmF P md ops S R i o v a' := by
 unfold CalmF at *
 rw [← run_agree (ops := ops) hs h, ← wanted_agree h]
 exact hc
def ranOf (listed : Array Bool) : Ran := fun k => listed.getD k false
theorem ranOf_set {listed : Array Bool} {i : Nat} (h : i < listed.size) : ranOf (listed.setIfInBounds i true) = upd (ranOf listed) i := by
 funext k
 unfold ranOf upd
 by_cases e : k = i
 ·subst e
  simp [h]
 ·rw [if_neg e, getD_set_ne false (Ne.symm e)]
theorem needs_ran {listed : Array Bool} {n : Nat} (hinv : HeadInv md ops n listed) : ∀ (f i : Nat) (o : Oper), ops[i]? = some o → (∀ e ∈ o.after, Region.binds md e = true → listed.getD e.on false = true) → ∀ k ∈ needs md ops f i, ranOf listed k = true
 | 0, _, _, _, _, _, hk => by simp [needs] at hk
 | f + 1, i, o, ho, hw, k, hk => by
  unfold needs at hk
  rw [ho] at hk
  simp only [List.mem_flatMap, List.mem_filter, Array.mem_toList_iff] at hk
  obtain ⟨e, ⟨he, hb⟩, hk⟩ := hk
  have h1 := hw e he hb
  rcases List.mem_cons.1 hk with hk | hk
  ·subst hk
   exact h1
  ·have hex : ∃ oj, ops[e.on]? = some oj := by
    rcases Nat.lt_or_ge e.on ops.size with hlt | hge
    ·exact ⟨ops[e.on]'hlt, by simp [hlt]⟩
    ·exfalso
     rw [Array.getD_eq_getD_getElem?, Array.getElem?_eq_none (by rw [hinv.size]; exact hge)] at h1
     cases h1
   obtain ⟨oj, hoj⟩ := hex
   exact needs_ran hinv f e.on oj hoj (fun e' he' hb' => hinv.closed e.on oj hoj h1 e' he' hb') k hk
section
variable {n N : Nat} {ks : List Nat} {fl : Floats} {val : Nat → Value} {a0 : Act}
end
section
variable {fl : Floats} {L : Act → Prop} {o : Oper} {l : List Oper} {k : Nat} {a a' : Act} {v : Value}
end
end
/-- Only the blocks bs may have changed, and there may be new ones. -/
def Only (bs : List Nat) (w w' : World) : Prop := w.heap.size ≤ w'.heap.size ∧ ∀ k, k < w.heap.size → k ∉ bs → w'.heap[k]? = w.heap[k]?
theorem Only.refl (bs : List Nat) (w : World) : Only bs w w := ⟨Nat.le_refl _, fun _ _ _ => rfl⟩
theorem Only.grows {bs : List Nat} {w w' : World} (h : Grows w w') : Only bs w w' := ⟨h.size, fun k hk _ => h.block k hk⟩
theorem Only.grown {bs : List Nat} {w w' : World} {g : Nat} (h : w.grownBy w' (some g)) (hg : g ∈ bs) : Only bs w w' := ⟨h.size, fun k hk hn => h.block k hk (fun e => by injection e with e; subst e; exact hn hg)⟩
theorem Only.set {bs : List Nat} {a w : World} (h : Only bs a w) {p : Addr} (hp : p.block ∈ bs) (u : Value) : Only bs a (w.setCell p u) := ⟨by simpa [World.setCell] using h.1, fun k hk hn => (Below.heap_setCell w p u k (fun e => hn (e ▸ hp))).trans (h.2 k hk hn)⟩
theorem Only.alloc {bs : List Nat} {a w : World} (h : Only bs a w) (o : Obj) : Only bs a (w.alloc o) := ⟨Nat.le_trans h.1 (by simp), fun k hk hn => (Below.heap_alloc w o k (Nat.lt_of_lt_of_le hk h.1)).trans (h.2 k hk hn)⟩
theorem Blk.only {bs : List Nat} {w w' : World} {g : Nat} {t : TypeId} {cs : Array Value} (h : Blk w g t cs) (ho : Only bs w w') (hg : g ∉ bs) : Blk w' g t cs := (ho.2 g h.lt hg).trans h
end Go.Proofs.YtbfdaojffffaaaaGreat

namespace Go.Proofs.YtbfdaojffffaaaaGreat
open Go.RowKit
section
variable {P : Program} {ops : Array Oper} {S : Ran → World → Prop} {R : World → World → Prop} {md : Region.Mode} {fk sk t : Nat} {D : Ran → Value → World → Prop}
def fl1 (fk : Nat) : Floats := [(fk, fun _ _ => True)]
section
variable {n N : Nat} {val : Nat → Value} {a0 : Act}
end
section
variable {L : Act → Prop} {o : Oper} {l : List Oper} {k : Nat} {a a' : Act} {v : Value}
end
end
end Go.Proofs.YtbfdaojffffaaaaGreat

namespace Go.Proofs.YtbfdaojffffaaaaGreat
open Go.RowKit
/-- What is kept of a region, hidden from the walk's rules. -/
theorem hideS {α β γ : Type} (B : α → β → γ → Prop) : ∃ S : α → β → γ → Prop, Hid (∀ L vs w', B L vs w' → S L vs w') ∧ Hid (∀ L vs w', S L vs w' → B L vs w') := ⟨B, fun _ _ _ h => h, fun _ _ _ h => h⟩
/-- The values, with that of operation k. -/
def setV (vs : Nat → Value) (k : Nat) (u : Value) : Nat → Value := fun j => if j = k then u else vs j
def genR (P : Program) (T : Value → World → Prop) : Result Next → Prop
 | .ok (.value u) w' => T u w'
 | .ok .skip w' => T undef w'
 | .ok (.enter f args) w' => Calls P f args w' fun e w'' => ∃ u, e = .returned u ∧ T u w''
 | _ => False
section
variable {P : Program} {ops : Array Oper} {S : Ran → (Nat → Value) → World → Prop} {md : Region.Mode}
def GenOp (P : Program) (ops : Array Oper) (S : Ran → (Nat → Value) → World → Prop) (k : Nat) (o : Oper) (a : Act) (vs : Nat → Value) (L : Ran) (w : World) : Prop :=
 (Region.wanted o (yielded ops a.tmps) = true ∧ genR P (fun u w' => S (upd L k) (setV vs k u) w') ((execOp a.eval o).run P w)) ∨ (Region.wanted o (yielded ops a.tmps) = false ∧ S (upd L k) (setV vs k undef) w)
theorem gen_wpOp {Q : Exit → Act → World → Prop} {L : Ran} {i : Nat} {o : Oper} {a : Act} {w : World} {vs : Nat → Value} {K : Act → World → Prop} (hi : ops[i]? = some o) (hc : GenOp P ops S i o a vs L w)
 (hK : ∀ u w', S (upd L i) (setV vs i u) w' → K (a.put o.dst u) w') : wpOp P ops Q i K a w := by
 unfold wpOp
 simp only [hi]
 rcases hc with ⟨hwt, hr⟩ | ⟨hwt, ht⟩
 ·simp only [hwt, if_true]
  refine .inl ?_
  unfold Oper.wp
  generalize (execOp a.eval o).run P w = r at *
  cases r with
  | ok n w' =>
   cases n <;> simp only [genR] at hr <;> simp only [Oper.upon]
   case value u => exact hK _ _ hr
   case skip => exact hK _ _ hr
   case enter f args => exact hr.mono fun e w'' ⟨u, he, hs⟩ => by subst he; exact hK _ _ hs
  | halt x w' => simp only [genR] at hr
 ·simp only [hwt, Bool.false_eq_true, if_false]
  exact hK _ _ ht
structure InvG (S : Ran → (Nat → Value) → World → Prop) (ops : Array Oper) (vs : Nat → Value) (a0 : Act) (listed : Array Bool) (a : Act) (w : World) : Prop where
 s : S (ranOf listed) vs w
 defers : a.defers = a0.defers
 size : a.tmps.size = a0.tmps.size
 calm : ∀ k o t, ops[k]? = some o → o.dst = some t → listed.getD k false = true → a.tmps[t]? = some (vs k)
 other : ∀ t, (∀ k o, ops[k]? = some o → listed.getD k false = true → o.dst ≠ some t) → a.tmps[t]? = a0.tmps[t]?
variable {N : Nat} {a0 : Act}
theorem lt_of_get {k : Nat} {o : Oper} (h : ops[k]? = some o) : k < ops.size := (Array.getElem?_eq_some_iff.1 h).1
end
theorem act_ext {a b : Act} (hd : a.defers = b.defers) (hs : a.tmps.size = b.tmps.size) (ht : ∀ t : Nat, a.tmps[t]? = b.tmps[t]?) : a = b := by
 cases a
 cases b
 simp only at hd hs ht
 subst hd
 congr 1
 exact Array.ext_getElem? ht
def GenW (P : Program) (full : List Oper) (S : Ran → (Nat → Value) → World → Prop) (E : Act → World → Prop) : List Oper → Nat → ((Nat → Value) → Act) → Prop
 | [], _, A => ∀ vs L w', (∀ k, k < full.length → L k = true) → S L vs w' → E (A vs) w'
 | o :: l, k, A => (∀ vs L w, At .any full.toArray k L → S L vs w → GenOp P full.toArray S k o (A vs) vs L w) ∧ GenW P full S E l (k + 1) (fun vs => (A vs).put o.dst (vs k))
theorem genW_out {P : Program} {full : List Oper} {S : Ran → (Nat → Value) → World → Prop} {E : Act → World → Prop} : ∀ (l : List Oper) (k : Nat) (A : (Nat → Value) → Act), GenW P full S E l k A →
 (∀ j o, l[j]? = some o → ∀ vs L w, At .any full.toArray (k + j) L → S L vs w → GenOp P full.toArray S (k + j) o (fin [] vs (l.take j) k (A vs)) vs L w) ∧ ∀ vs L w', (∀ k, k < full.length → L k = true) → S L vs w' → E (fin [] vs l k (A vs)) w'
 | [], _, _, h => ⟨fun j o hj => by simp at hj, h⟩
 | o :: l, k, A, h => by
  obtain ⟨h1, h2⟩ := genW_out l (k + 1) _ h.2
  refine ⟨fun j o' hj => ?_, h2⟩
  cases j with
  | zero =>
   simp only [List.getElem?_cons_zero, Option.some.injEq] at hj
   subst hj
   exact h.1
  | succ j =>
   have := h1 j o' (by simpa using hj)
   rw [show k + 1 + j = k + (j + 1) by omega] at this
   exact this
section
variable {P : Program} {full l : List Oper} {S : Ran → (Nat → Value) → World → Prop} {E : Act → World → Prop} {o : Oper} {k : Nat} {A A' : (Nat → Value) → Act}
theorem gen_cons (hc : ∀ vs L w, At .any full.toArray k L → S L vs w → GenOp P full.toArray S k o (A vs) vs L w) (hA : ∀ vs, (A vs).put o.dst (vs k) = A' vs) (h : GenW P full S E l (k + 1) A') : GenW P full S E (o :: l) k A := by
 obtain rfl : (fun vs => (A vs).put o.dst (vs k)) = A' := funext hA
 exact ⟨hc, h⟩
theorem gen_consR (hc : ∀ vs L w, At .any full.toArray k L → S L vs w → GenOp P full.toArray S k o (A vs) vs L w) (h : GenW P full S E l (k + 1) A') (hA : ∀ vs, (A vs).put o.dst (vs k) = A' vs := by intro vs; simp only [Act.put, List.setIfInBounds_toArray, List.set_cons_succ, List.set_cons_zero]; rfl) : GenW P full S E (o :: l) k A := gen_cons hc hA h
theorem gen_nil (h : ∀ vs L w', (∀ k, k < full.length → L k = true) → S L vs w' → E (A vs) w') : GenW P full S E [] k A := h
variable {ops : Array Oper} {a : Act} {vs : Nat → Value} {L : Ran} {w : World}
theorem gen_plain (hg : o.guard = none) (h : genR P (fun u w' => S (upd L k) (setV vs k u) w') ((execOp a.eval o).run P w)) : GenOp P ops S k o a vs L w := .inl ⟨by simp [Region.wanted, hg], h⟩
theorem gen_yes (hw : Region.wanted o (yielded ops a.tmps) = true) (h : genR P (fun u w' => S (upd L k) (setV vs k u) w') ((execOp a.eval o).run P w)) : GenOp P ops S k o a vs L w := .inl ⟨hw, h⟩
variable {T : Value → World → Prop}
theorem gr_val {u : Value} (h : T u w) : genR P T (.ok (.value u) w) := h
theorem gr_skip (h : T undef w) : genR P T (.ok .skip w) := h
theorem gr_call {f : FuncId} {args : Array Value} (h : Calls P f args w fun e w' => ∃ u, e = .returned u ∧ T u w') : genR P T (.ok (.enter f args) w) := h
/-- The values that are known. -/
def KnS (KN : List (Option Value)) (L : Ran) (vs : Nat → Value) : Prop := ∀ j v, KN[j]? = some (some v) → L j = true → vs j = v
theorem kn_none (KN : List (Option Value)) (vs : Nat → Value) : KnS KN (fun _ => false) vs := fun _ _ _ h => by cases h
theorem kn_known {KN : List (Option Value)} {u : Value} (h : KnS KN L vs) (hk : KN[k]? = some (some u)) : KnS KN (upd L k) (setV vs k u) := by
 intro j v hj hL
 unfold setV
 unfold upd at hL
 by_cases e : j = k
 ·subst e
  rw [if_pos rfl]
  rw [hk] at hj
  injection hj with hj
  injection hj
 ·rw [if_neg e] at hL ⊢
  exact h j v hj hL
theorem kn_free {KN : List (Option Value)} {u : Value} (h : KnS KN L vs) (hk : KN[k]? = some none) : KnS KN (upd L k) (setV vs k u) := by
 intro j v hj hL
 unfold setV
 unfold upd at hL
 by_cases e : j = k
 ·subst e
  rw [hk] at hj
  cases hj
 ·rw [if_neg e] at hL ⊢
  exact h j v hj hL
end
end Go.Proofs.YtbfdaojffffaaaaGreat

namespace Go.Proofs.YtbfdaojffffaaaaGreat
open Go.RowKit
abbrev DiceT : TypeId := 106
theorem d_only_grows {a w w' : World} {row : Option Nat} (h : a.grownBy w row) (hg : Grows w w') : a.grownBy w' row :=
 ⟨hg.os.trans h.os, hg.tape.trans h.tape, hg.output.trans h.output, Nat.le_trans h.size hg.size, fun k hk hn => (hg.block k (Nat.lt_of_lt_of_le hk h.size)).trans (h.block k hk hn)⟩
theorem d_only_set {a w : World} {g : Nat} (h : a.grownBy w (some g)) (i : Nat) (u : Value) : a.grownBy (w.setCell ⟨g, i, none⟩ u) (some g) :=
 ⟨h.os, h.tape, h.output, by simpa [World.setCell] using h.size, fun k hk hn => (Below.heap_setCell w ⟨g, i, none⟩ u k (fun e => hn (by rw [e]))).trans (h.block k hk hn)⟩
/-- The dice in block g hold the bytes l; they lie below block B. -/
structure DiceAt (w : World) (B g : Nat) (A : Option Addr) (c : Nat) (l : List Int) : Prop where
 blk : Blk w g DiceT #[.slice A l.length c]
 bytes : Reads w B 1 A l.length (l.map (Value.int .u8))
 cap : l.length ≤ c
 lo : B ≤ g
 wf : ∀ x ∈ l, 0 ≤ x ∧ x ≤ 255
 len : l.length ≤ 300
def Dice (w : World) (B g : Nat) (l : List Int) : Prop := ∃ A c, DiceAt w B g A c l
theorem Dice.grows {w w' : World} {B g : Nat} {l : List Int} (h : Dice w B g l) (hg : Grows w w') : Dice w' B g l := by
 obtain ⟨A, c, h⟩ := h
 exact ⟨A, c, h.blk.grows hg, h.bytes.below (hg.mono (Nat.le_trans h.lo (Nat.le_of_lt h.blk.lt))), h.cap, h.lo, h.wf, h.len⟩
theorem Dice.put {w : World} {B g : Nat} {l : List Int} (h : Dice w B g l) {p : Addr} (hp : B ≤ p.block) (hg : g ≠ p.block) (u : Value) : Dice (w.setCell p u) B g l := by
 obtain ⟨A, c, h⟩ := h
 exact ⟨A, c, h.blk.far hg u, h.bytes.setCell hp u, h.cap, h.lo, h.wf, h.len⟩
theorem Dice.lt {w : World} {B g : Nat} {l : List Int} (h : Dice w B g l) : g < w.heap.size := by
 obtain ⟨A, c, h⟩ := h
 exact h.blk.lt
def rollV (l : List Int) (n : Int) : Int := (l.head?.getD 0) % n
theorem rollV_bd (l : List Int) {n : Int} (h : 1 ≤ n) : 0 ≤ rollV l n ∧ rollV l n < n := ⟨Int.emod_nonneg _ (by omega), Int.emod_lt_of_pos _ (by omega)⟩
set_option maxHeartbeats 4000000 in
theorem roll_any (B g : Nat) (l : List Int) (n : Int) (w : World) (h : Dice w B g l) (hn : 2 ≤ n) (hn2 : n ≤ 9223372036854775807) :
 Calls Tryz.prog 24 #[.pointer (some ⟨g, 0, none⟩), .int .i64 n] w fun e w' => e = .returned (.int .i64 (rollV l n)) ∧ Dice w' B g l.tail ∧ w.grownBy w' (some g) ∧ w'.heap.size = w.heap.size := by
 obtain ⟨A, c, h⟩ := h
 have x1 := h.blk.cell
 have f1 := h.blk.frozen
 rcases l with _ | ⟨x, r⟩
 ·go_enter Tryz.func24, Tryz.ntmps24
  go_wp2
  go_ret
  exact ⟨by simp [rollV], ⟨A, c, h⟩, World.grownBy.refl _ _, rfl⟩
 ·have hle := h.len
  have hcp := h.cap
  obtain ⟨ad, u, rfl, hb, hu, hc⟩ := h.bytes.at_ (k := 0) (by simp)
  have hu' : Value.int .u8 x = u := by simpa using hu
  subst hu'
  have hc0 : w.cell? ad = some (.int .u8 x) := by rw [← hc]; congr 1
  have hx := h.wf x (by simp)
  have hwc : IntKind.i64.wrap x = x := IntWalk.i64_in _ (by omega)
  have ht : Int.tmod x n = x % n := Int.tmod_eq_emod_of_nonneg hx.1
  have hm1 := Int.emod_nonneg x (show n ≠ 0 by omega)
  have hm2 := Int.emod_lt_of_pos x (show 0 < n by omega)
  have hwm : IntKind.i64.wrap (x % n) = x % n := IntWalk.i64_in _ (by omega)
  have hn0 : (n == 0) = false := by simp; omega
  have hn1 : decide (n ≤ 1) = false := by simp; omega
  have hl0 : ((r.length : Int) + 1 == 0) = false := by simp; omega
  simp only [List.length_cons] at hle hcp
  by_cases hc1 : c = 1
  ·subst hc1
   have hr : r = [] := List.eq_nil_of_length_eq_zero (by omega)
   subst hr
   go_enter Tryz.func24, Tryz.ntmps24
   go_wp2
   go_ret
   refine ⟨by simp [rollV], ⟨some ad, 0, ?_, ⟨rfl, fun h => absurd h (by simp)⟩, by simp, h.lo, by simp, by simp⟩, d_only_set (World.grownBy.refl _ _) _ _, by simp⟩
   exact h.blk.set_ 0 _
  ·go_enter Tryz.func24, Tryz.ntmps24
   go_wp2
   go_ret
   refine ⟨by simp [rollV], ⟨some (ad.add 1), c - 1, ?_, ?_, by show r.length ≤ c - 1; omega, h.lo, fun y hy => h.wf y (List.mem_cons_of_mem x hy), by show r.length ≤ 300; omega⟩, d_only_set (World.grownBy.refl _ _) _ _, by simp⟩
   ·exact h.blk.set_ 0 _
   ·have h2 := h.bytes.cut (k := 1) (cap := c) (by simp) (by simpa using hcp)
    rw [if_neg (by simpa using hc1)] at h2
    have h3 : Reads w B 1 (some (ad.add 1)) r.length (r.map (Value.int .u8)) := by simpa using h2
    exact h3.setCell h.lo _
theorem Reads.take_ {w : World} {B n m : Nat} {A : Option Addr} {xs : List Value} (h : Reads w B 1 A n xs) (hm : m ≤ n) : Reads w B 1 A m (xs.take m) := by
 refine ⟨by simp [h.1]; omega, fun hn => ?_⟩
 obtain ⟨ad, hA, hb, hc⟩ := h.2 (by omega)
 refine ⟨ad, hA, hb, fun j u hu => hc j u ?_⟩
 rw [List.getElem?_take] at hu
 split at hu
 ·exact hu
 ·cases hu
end Go.Proofs.YtbfdaojffffaaaaGreat

namespace Go.Proofs.YtbfdaojffffaaaaGreat
open Go.RowKit
set_option maxRecDepth 100000 in
theorem grown_none {w w' : World} (h : Grows w w') : w.grownBy w' none := ⟨h.os, h.tape, h.output, h.size, fun k hk _ => h.block k hk⟩
set_option maxRecDepth 100000 in
theorem own_grows {w w' : World} {base : Nat} {e : TypeId} {size n : Nat} {v : Value} {xs : List Value} (h : w.ownsRow base e size v n xs) (hg : Grows w w') : w'.ownsRow base e size v n xs := by
 refine h.kept (grown_none hg) ?_
 cases e : v.ownBlock
 ·exact .inl rfl
 ·exact .inr (by simp)
theorem ints_lits (w : World) (l : List Int) (cs : Array Value) (t : TypeId) (h : cs.toList = l.map (Value.int .i64)) : Ints (w.alloc (.cells cs t)) (some ⟨w.heap.size, 0, none⟩) l := by
 have hb := Blk.new w t cs
 refine ⟨by simp, fun _ => ⟨_, rfl, by simp, fun j u hu => ?_⟩⟩
 have := hb.cell j
 have e : (⟨w.heap.size, 0, none⟩ : Addr).add j = ⟨w.heap.size, j, none⟩ := by unfold Addr.add; split <;> simp_all
 rw [e, this, ← Array.getElem?_toList, h]
 exact hu
set_option maxRecDepth 100000 in
theorem iinfo : ∃ i : TypeInfo, Tryz.prog.info? 3 = some i ∧ i.size = 1 ∧ i.bytes = 8 ∧ i.zero = some (.int .i64 0) ∧ (Value.int .i64 0).cells.size = 1 := ⟨_, by first | exact Tryz.info3 | rfl, rfl, rfl, rfl, rfl⟩
set_option maxRecDepth 100000 in
theorem ints_one (l : List Int) : ∀ u ∈ l.map (Value.int .i64), u.oneCell' = true := by
 intro u hu
 obtain ⟨g, _, rfl⟩ := List.mem_map.1 hu
 rfl
def OwnI (w : World) (base : Nat) (v : Value) (l : List Int) : Prop := w.ownsRow base 3 1 v l.length (l.map (Value.int .i64))
set_option maxRecDepth 100000 in
theorem ownI_nil (w : World) (base : Nat) : OwnI w base (.slice none 0 0) [] := World.ownsRow_nil w base 3 1
set_option maxRecDepth 100000 in
theorem OwnI.read {w : World} {base : Nat} {v : Value} {l : List Int} (h : OwnI w base v l) : ∃ (A : Option Addr) (c : Nat), v = .slice A l.length c ∧ l.length ≤ c ∧ Ints w A l := by
 rcases h.2 with ⟨rfl, hn⟩ | ⟨g, cap, cur, rfl, hb, hg, hnc, hm, hs, ht⟩
 ·exact ⟨none, 0, by rw [hn], by omega, Reads.of_own (c := 0) (by simpa [hn, OwnI] using h)⟩
 ·exact ⟨_, cap, rfl, hnc, Reads.of_own h⟩
set_option maxRecDepth 100000 in
theorem OwnI.grows {w w' : World} {base : Nat} {v : Value} {l : List Int} (h : OwnI w base v l) (hg : Grows w w') : OwnI w' base v l := own_grows h hg
set_option maxRecDepth 100000 in
theorem OwnI.below {w w' : World} {base : Nat} {v : Value} {l : List Int} {u : World} (h : OwnI w base v l) (hB : Below base u w) (hg : w.grownBy w' v.ownBlock) (hs : base ≤ w.heap.size) : Below base u w' := hB.grown hg hs fun q hq => (h.lt q hq).1
set_option maxRecDepth 100000 in
theorem OwnI.mono {w : World} {base base' : Nat} {v : Value} {l : List Int} (h : OwnI w base v l) (hb : base' ≤ base) : OwnI w base' v l := ⟨h.1, h.2.imp id fun ⟨g, cap, cur, e, hg, r⟩ => ⟨g, cap, cur, e, by omega, r⟩⟩
section
variable {ops : Array Oper} {rest : List Oper} {o : Oper} {a : Act} {w : World} {Q : Exit → Act → World → Prop}
set_option maxRecDepth 100000 in
theorem wpList_append_int (hgd : o.guard = none) (s x : Operand) (ho : o.op = .call { callee := .builtin .append, args := #[s, x], argTypes := #[31, 31] })
 {base : Nat} {v : Value} {l m : List Int} {A : Option Addr} {c n : Nat} (hn : n = m.length) (hs : a.eval s = v) (hown : OwnI w base v l) (hx : a.eval x = .slice A n c) (hr : Ints w A m) (hlen : l.length + m.length ≤ 1000000) (hbase : base ≤ w.heap.size)
 (h : ∀ v' w', OwnI w' base v' (l ++ m) → w.grownBy w' v.ownBlock → (v'.ownBlock = v.ownBlock ∨ v'.ownBlock = some w.heap.size) → wpList Tryz.prog ops Q rest (a.put o.dst v') w') : wpList Tryz.prog ops Q (o :: rest) a w := by
 obtain ⟨i0, hi0, hi1, hi2, hi3, hi4⟩ := iinfo
 subst hn
 refine wpList_append_any w hgd s x 31 ho base 3 i0 _ 1 8 Tryz.underlying31 hi0 hi3 hi1 hi2 hi4 (by omega) v l.length (l.map (Value.int .i64)) hs hown w.heap.size A m.length c (m.map (Value.int .i64)) hx hr (ints_one m) (by simp only [maxLen]; omega) (by omega) hbase fun v' w' h1 h2 h3 => h v' w' ?_ h2 h3
 unfold OwnI
 rw [List.map_append, List.length_append]
 exact h1
end
set_option maxRecDepth 100000 in
theorem OwnI.ints {w : World} {base : Nat} {A : Option Addr} {n c : Nat} {l : List Int} (h : OwnI w base (.slice A n c) l) : Ints w A l := by
 obtain ⟨A', c', e, _, hi⟩ := h.read
 injection e with e1 e2 e3
 rw [e1]
 exact hi
set_option maxRecDepth 100000 in
theorem grows_drewN (w : World) (n : Nat) : Grows w (w.drewN n) := ⟨rfl, rfl, rfl, Nat.le_refl _, fun _ _ => rfl⟩
theorem ints_take {w : World} {A : Option Addr} {l : List Int} (h : Ints w A l) {k : Nat} (hk : k ≤ l.length) : Ints w A (l.take k) := by
 refine ⟨by simp, fun hn => ?_⟩
 have hl : (l.take k).length = k := by rw [List.length_take]; omega
 obtain ⟨ad, e, hb, hc⟩ := h.2 (by omega)
 refine ⟨ad, e, hb, fun j u hu => hc j u ?_⟩
 rw [List.map_take, List.getElem?_take] at hu
 split at hu
 ·exact hu
 ·cases hu
def idxZ (m : List Int) (p : Int) : Int := match m.findIdx? (fun x => x == p) with | some k => (k : Int) | none => -1
theorem idxZ_has (m : List Int) (p : Int) : decide (0 ≤ idxZ m p) = decide (p ∈ m) := by
 unfold idxZ
 split
 ·rename_i k e
  obtain ⟨hk, h1, _⟩ := List.findIdx?_eq_some_iff_getElem.1 e
  have : p ∈ m := by
   have h2 : m[k] = p := by simpa using h1
   exact h2 ▸ List.getElem_mem hk
  simp [this]
 ·rename_i e
  rw [List.findIdx?_eq_none_iff] at e
  have : ¬ p ∈ m := fun h => by simpa using e p h
  simp [this]
theorem idx_next {m : List Int} {p x : Int} {k : Nat} (h : ∀ y ∈ m.take k, y ≠ p) (hx : m[k]? = some x) (hne : x ≠ p) : ∀ y ∈ m.take (k + 1), y ≠ p := by
 rw [take_snoc hx]
 intro y hy
 rcases List.mem_append.1 hy with hy | hy
 ·exact h y hy
 ·simp only [List.mem_singleton] at hy
  exact hy ▸ hne
theorem idx_found {m : List Int} {p : Int} {k : Nat} (h : ∀ y ∈ m.take k, y ≠ p) (hx : m[k]? = some p) : idxZ m p = (k : Int) := by
 obtain ⟨hk, hx⟩ := List.getElem?_eq_some_iff.1 hx
 have e : m.findIdx? (fun x => x == p) = some k := by
  rw [List.findIdx?_eq_some_iff_getElem]
  refine ⟨hk, by simp [hx], fun j hj => ?_⟩
  have := h (m[j]'(by omega)) (by rw [List.mem_take_iff_getElem]; exact ⟨j, by omega, rfl⟩)
  simpa using this
 unfold idxZ
 rw [e]
theorem idx_not {m : List Int} {p : Int} (h : ∀ y ∈ m, y ≠ p) : idxZ m p = -1 := by
 have e : m.findIdx? (fun x => x == p) = none := by
  rw [List.findIdx?_eq_none_iff]
  intro x hx
  simpa using h x hx
 unfold idxZ
 rw [e]
def commonL (a b : List Int) : List Int := a.filter fun p => decide (p ∈ b)
theorem common_snoc {a b : List Int} {x : Int} {k : Nat} (hx : a[k]? = some x) : commonL (a.take (k + 1)) b = commonL (a.take k) b ++ (if x ∈ b then [x] else []) := by
 rw [take_snoc hx]
 unfold commonL
 rw [List.filter_append]
 by_cases h : x ∈ b <;> simp [h]
theorem common_len (a b : List Int) : (commonL a b).length ≤ a.length := List.length_filter_le _ _
set_option maxHeartbeats 2000000 in
theorem equal_any (A B : Option Addr) (c d : Nat) (a b : List Int) (w : World) (ha : Ints w A a) (hb : Ints w B b) (hl : a.length ≤ 9223372036854775807) (_hl2 : b.length ≤ 9223372036854775807) :
 Calls Tryz.prog 99 #[.slice A a.length c, .slice B b.length d] w fun e w' => e = .returned (.bool (decide (a = b))) ∧ Grows w w' := by
 go_enter Tryz.func99, Tryz.ntmps99
 by_cases hll : a.length = b.length
 case neg =>
  have HE : Hid (decide (a = b) = false) := Lib.hid (by simp only [decide_eq_false_iff_not]; intro e; exact hll (by rw [e]))
  have hlen2 : ((a.length : Int) != (b.length : Int)) = true := by simp only [bne_iff_ne, ne_eq]; omega
  go_wp2
  go_ret
  exact ⟨ret_bool HE.out.symm, Below.refl _ _⟩
 have hlen2 : ((a.length : Int) != (b.length : Int)) = false := by simp only [bne_eq_false_iff_eq]; omega
 have HLL := Lib.hid hll
 clear hll
 go_wp2_with fail
 go_loopw [13] (fun i wr => ∃ k : Nat, k ≤ a.length ∧ i = .int .i64 k ∧ Hid (a.take k = b.take k) ∧ Grows w wr) (fun i _ => a.length - (intOf i).toNat)
 case atStart => exact ⟨0, by omega, rfl, Lib.hid rfl, Below.refl _ _⟩
 case round =>
  obtain ⟨k, hk, rfl, HF, hB⟩ := hrel
  by_cases hlt : k < a.length
  ·have hlt2 : k < b.length := by have := HLL.out; omega
   obtain ⟨ad, x, rfl, had, hx, q0⟩ := (ha.grows hB).at_ hlt
   obtain ⟨ad2, y, rfl, had2, hy, q1⟩ := (hb.grows hB).at_ hlt2
   have HX := Lib.hid hx
   have HY := Lib.hid hy
   clear hx hy
   go_upto_region 6 with fail
   by_cases hxy : x = y
   ·have HE : Hid (a.take (k + 1) = b.take (k + 1)) := Lib.hid (by rw [take_snoc HX.out, take_snoc HY.out, HF.out, hxy])
    have hn : (x != y) = false := by simpa using hxy
    clear hxy
    go_quiet (fail)
    generalize hY : World.drewN wr _ = w9 at *
    have hq : Grows wr w9 := hY ▸ grows_drewN wr _
    clear hY
    replace hB := below_grows hB (Nat.le_refl _) hq
    clear hq q0 q1
    go_wp2
    go_roundw
    case rel => exact ⟨k + 1, by omega, by go_num, HE, hB⟩
    case measure => simp [intOf]; omega
   ·have HE : Hid (decide (a = b) = false) := Lib.hid (by
     simp only [decide_eq_false_iff_not]
     intro e
     have h1 := HX.out
     rw [e, HY.out] at h1
     injection h1 with h1
     exact hxy h1.symm)
    have hn : (x != y) = true := by simpa using hxy
    clear hxy
    go_quiet (fail)
    generalize hY : World.drewN wr _ = w9 at *
    have hq : Grows wr w9 := hY ▸ grows_drewN wr _
    clear hY
    replace hB := below_grows hB (Nat.le_refl _) hq
    clear hq q0 q1
    go_wp2
    go_ret
    exact ⟨ret_bool HE.out.symm, hB⟩
  ·have HE : Hid (decide (a = b) = true) := Lib.hid (by
    simp only [decide_eq_true_eq]
    have h1 := HF.out
    have h2 := HLL.out
    rwa [List.take_of_length_le (by omega), List.take_of_length_le (by omega)] at h1)
   go_wp2
   go_ret
   exact ⟨ret_bool HE.out.symm, hB⟩
theorem psame_any (A B : Option Addr) (c d : Nat) (a b : List Int) (w : World) (ha : Ints w A a) (hb : Ints w B b) (hl : a.length ≤ 9223372036854775807) (hl2 : b.length ≤ 9223372036854775807) :
 Calls Tryz.prog 180 #[.slice A a.length c, .slice B b.length d] w fun e w' => e = .returned (.bool (decide (a = b))) ∧ Grows w w' := by
 go_enter Tryz.func180, Tryz.ntmps180
 go_wp2_with fail
 refine (equal_any A B c d a b _ ha hb hl hl2).mono ?_
 rintro e w1 ⟨rfl, hB⟩
 go_wp2
 go_ret
 exact ⟨rfl, hB⟩
set_option maxHeartbeats 2000000 in
theorem index_any (A : Option Addr) (c : Nat) (m : List Int) (p : Int) (w : World) (h : Ints w A m) (hl : m.length ≤ 9223372036854775807) : Calls Tryz.prog 239 #[.slice A m.length c, .int .i64 p] w fun e w' => e = .returned (.int .i64 (idxZ m p)) ∧ Grows w w' := by
 go_enter Tryz.func239, Tryz.ntmps239
 go_wp2_with fail
 go_loopw [8] (fun i wr => ∃ k : Nat, k ≤ m.length ∧ i = .int .i64 k ∧ Hid (∀ y ∈ m.take k, y ≠ p) ∧ Grows w wr) (fun i _ => m.length - (intOf i).toNat)
 case atStart => exact ⟨0, by omega, rfl, Lib.hid (by simp), Below.refl _ _⟩
 case round =>
  obtain ⟨k, hk, rfl, HF, hB⟩ := hrel
  by_cases hlt : k < m.length
  ·obtain ⟨ad, x, rfl, had, hx, q0⟩ := (h.grows hB).at_ hlt
   by_cases hxp : x = p
   ·subst hxp
    have HE : Hid (idxZ m x = (k : Int)) := Lib.hid (idx_found HF.out hx)
    clear hx HF
    go_wp2
    go_ret
    exact ⟨ret_int HE.out.symm, hB⟩
   ·have HE : Hid (∀ y ∈ m.take (k + 1), y ≠ p) := Lib.hid (idx_next HF.out hx hxp)
    have h1 : (x == p) = false := by simpa using hxp
    have h2 : (p == x) = false := by simpa using fun e : p = x => hxp e.symm
    clear hx HF hxp
    go_wp2
    go_roundw
    case rel => exact ⟨k + 1, by omega, by go_num, HE, hB⟩
    case measure => simp [intOf]; omega
  ·have HE : Hid (idxZ m p = -1) := Lib.hid (idx_not (by have := HF.out; rwa [List.take_of_length_le (by omega)] at this))
   go_wp2
   go_ret
   exact ⟨ret_int HE.out.symm, hB⟩
theorem contains_any (A : Option Addr) (c : Nat) (m : List Int) (p : Int) (w : World) (h : Ints w A m) (hl : m.length ≤ 9223372036854775807) : Calls Tryz.prog 238 #[.slice A m.length c, .int .i64 p] w fun e w' => e = .returned (.bool (decide (p ∈ m))) ∧ Grows w w' := by
 rw [← idxZ_has]
 go_enter Tryz.func238, Tryz.ntmps238
 go_wp2_with fail
 refine (index_any A c m p _ h hl).mono ?_
 rintro e w1 ⟨rfl, hB⟩
 go_wp2
 go_ret
 exact ⟨rfl, hB⟩
set_option maxHeartbeats 4000000 in
theorem pcommon_any (A B : Option Addr) (c d : Nat) (a b : List Int) (w : World) (ha : Ints w A a) (hb : Ints w B b) (hl : a.length ≤ 1000000) (hl2 : b.length ≤ 9223372036854775807) :
 Calls Tryz.prog 161 #[.slice A a.length c, .slice B b.length d] w fun e w' => (∃ v, e = .returned v ∧ OwnI w' w.heap.size v (commonL a b)) ∧ Grows w w' := by
 go_enter Tryz.func161, Tryz.ntmps161
 go_wp2_with fail
 go_loopw [5, 10] (fun v i wr => ∃ k : Nat, k ≤ a.length ∧ i = .int .i64 k ∧ OwnI wr w.heap.size v (commonL (a.take k) b) ∧ Below w.heap.size w wr) (fun _ i _ => a.length - (intOf i).toNat)
 case atStart => exact ⟨0, by omega, rfl, ownI_nil _ _, Below.refl _ _⟩
 case round =>
  obtain ⟨k, hk, rfl, ho, hB⟩ := hrel
  by_cases hlt : k < a.length
  ·obtain ⟨ad, x, rfl, had, hx, q0⟩ := (ha.grows hB).at_ hlt
   have HS := Lib.hid (common_snoc (b := b) hx)
   clear hx
   go_wp2_with fail
   refine (contains_any B d b x _ (hb.grows hB) hl2).mono ?_
   rintro e w1 ⟨rfl, hq⟩
   replace hB := below_grows hB (Nat.le_refl _) hq
   replace ho := ho.grows hq
   clear hq q0
   by_cases hxb : x ∈ b
   ·have h1 : decide (x ∈ b) = true := by simpa using hxb
    have h2 : decide (0 ≤ idxZ b x) = true := by rw [idxZ_has, h1]
    have HS2 : Hid (commonL (a.take (k + 1)) b = commonL (a.take k) b ++ [x]) := Lib.hid (by rw [HS.out, if_pos hxb])
    have hcl := common_len (a.take k) b
    rw [List.length_take] at hcl
    clear hxb HS
    generalize commonL (a.take k) b = q at *
    go_upto_region 6 with fail
    refine wp_region_lit ?_
    iterate 2
     refine wpList_plain rfl (fun K hK => ?_)
     go_simp
     refine hK _ _ ?_
     clear hK K
    have hr := ints_lits w1 [x] #[.int .i64 x] 3 rfl
    have hq := (Below.refl w1.heap.size w1).alloc (Nat.le_refl _) (Obj.cells #[.int .i64 x] 3)
    iterate 1
     refine wpList_plain rfl (fun K hK => ?_)
     go_simp
     refine hK _ _ ?_
     clear hK K
    have ho1 := ho.grows hq
    refine wpList_append_int rfl (.tmp 17) (.tmp 19) rfl (l := q) (m := [x]) rfl rfl ho1 rfl hr (by simp only [List.length_cons, List.length_nil]; omega) (Nat.le_trans hB.size hq.size) ?_
    intro v5 w12 ho2 hgr _
    have hB2 := ho1.below (below_grows hB (Nat.le_refl _) hq) hgr (Nat.le_trans hB.size hq.size)
    clear hq hgr ho ho1 hB hr
    rw [← HS2.out] at ho2
    go_wp2
    go_roundw
    case rel => exact ⟨k + 1, by omega, by go_num, ho2, hB2⟩
    case measure => simp [intOf]; omega
   ·have h1 : decide (x ∈ b) = false := by simpa using hxb
    have h2 : decide (0 ≤ idxZ b x) = false := by rw [idxZ_has, h1]
    have HS2 : Hid (commonL (a.take (k + 1)) b = commonL (a.take k) b) := Lib.hid (by rw [HS.out, if_neg hxb, List.append_nil])
    clear hxb HS
    rw [← HS2.out] at ho
    go_wp2
    go_roundw
    case rel => exact ⟨k + 1, by omega, by go_num, ho, hB⟩
    case measure => simp [intOf]; omega
  ·rw [List.take_of_length_le (by omega)] at ho
   go_wp2
   go_ret
   exact ⟨⟨_, rfl, ho⟩, hB⟩
end Go.Proofs.YtbfdaojffffaaaaGreat

namespace Go.Proofs.YtbfdaojffffaaaaGreat
open Go.RowKit
def gF (n d : Int) : Int := Int.gcd n d
def okR (n d : Int) : Bool := decide (1 ≤ n) && decide (1 ≤ d) && decide (n ≤ 68719476736) && decide (d ≤ 68719476736) && (gF n d == 1)
def okAd (a : Int) : Bool := decide (-4096 ≤ a) && decide (a ≤ 4096)
def okPh (n d a p f : Int) : Bool := okR n d && decide (n ≤ 768000) && decide (d ≤ 768000) && okAd a && decide (0 ≤ p) && decide (p ≤ 1125899906842624) && decide (0 ≤ f) && decide (f < d * 65536)
theorem okR_bd {n d : Int} (h : okR n d = true) : 1 ≤ n ∧ 1 ≤ d ∧ n ≤ 68719476736 ∧ d ≤ 68719476736 ∧ gF n d = 1 := by
 simpa [okR, and_assoc] using h
theorem okPh_bd {n d a p f : Int} (h : okPh n d a p f = true) : 1 ≤ n ∧ n ≤ 768000 ∧ 1 ≤ d ∧ d ≤ 768000 ∧ -4096 ≤ a ∧ a ≤ 4096 ∧ 0 ≤ p ∧ p ≤ 1125899906842624 ∧ 0 ≤ f ∧ f < d * 65536 := by
 simp only [okPh, okAd, Bool.and_eq_true, decide_eq_true_eq] at h
 obtain ⟨⟨⟨⟨⟨⟨⟨h1, h2⟩, h3⟩, h4, h5⟩, h6⟩, h7⟩, h8⟩, h9⟩ := h
 obtain ⟨g1, g2, -⟩ := okR_bd h1
 exact ⟨g1, h2, g2, h3, h4, h5, h6, h7, h8, h9⟩
theorem gcd_round (m n : Nat) : Nat.gcd n (m % n) = Nat.gcd m n := by
 rw [Nat.gcd_comm m n, Nat.gcd_rec n m, Nat.gcd_comm]
theorem tmod_cast (m n : Nat) : Int.tmod (m : Int) (n : Int) = ((m % n : Nat) : Int) := by
 rw [Int.tmod_eq_emod_of_nonneg (by omega)]
 exact (Int.natCast_emod m n).symm
set_option maxHeartbeats 2000000 in
theorem gcd_nat (a b : Nat) (w : World) (ha : a ≤ 9223372036854775807) (hb : b ≤ 9223372036854775807) : Calls Tryz.prog 162 #[.int .i64 a, .int .i64 b] w fun e w' => e = .returned (.int .i64 (Nat.gcd a b)) ∧ Grows w w' := by
 go_enter Tryz.func162, Tryz.ntmps162
 go_wp2
 go_loopw [0, 1] (fun x y wr => ∃ m n : Nat, x = .int .i64 m ∧ y = .int .i64 n ∧ Nat.gcd m n = Nat.gcd a b ∧ m ≤ 9223372036854775807 ∧ n ≤ 9223372036854775807 ∧ Grows w wr) (fun _ y _ => (intOf y).toNat)
 case atStart => exact ⟨a, b, rfl, rfl, rfl, ha, hb, Below.refl _ _⟩
 case round =>
  obtain ⟨m, n, rfl, rfl, hg, hm, hn, hB⟩ := hrel
  rcases Nat.eq_zero_or_pos n with h0 | h0
  ·subst h0
   rw [Nat.gcd_zero_right] at hg
   subst hg
   go_wp2
   go_ret
   exact ⟨rfl, hB⟩
  ·have hne : ((n : Int) == 0) = false := by simp; omega
   have hne' : ¬ (n : Int) = 0 := by omega
   have hlt := Nat.mod_lt m h0
   have ht := tmod_cast m n
   go_wp2
   go_region
   all_goals go_wp2
   all_goals
    go_roundw
    case rel => exact ⟨n, m % n, by first | rfl | go_num, by first | rfl | (rw [ht]) | go_num, by rw [gcd_round, hg], hn, by omega, hB.drew⟩
    case measure => simp [intOf] <;> omega
theorem gcd_any (a b : Int) (w : World) (h1 : 0 ≤ a) (h2 : 0 ≤ b) (ha : a ≤ 9223372036854775807) (hb : b ≤ 9223372036854775807) : Calls Tryz.prog 162 #[.int .i64 a, .int .i64 b] w fun e w' => e = .returned (.int .i64 (gF a b)) ∧ Grows w w' := by
 obtain ⟨m, rfl⟩ := Int.eq_ofNat_of_zero_le h1
 obtain ⟨n, rfl⟩ := Int.eq_ofNat_of_zero_le h2
 exact gcd_nat m n w (by omega) (by omega)
set_option maxHeartbeats 4000000 in
theorem ratio_any (n d : Int) (w : World) : Calls Tryz.prog 240 #[.agg #[.int .i64 n, .int .i64 d]] w fun e w' => e = .returned (.bool (okR n d)) ∧ Grows w w' := by
 have hB := (Below.refl w.heap.size w).alloc (Nat.le_refl _) (Obj.cells #[.int .i64 n, .int .i64 d] 42)
 go_enter Tryz.func240, Tryz.ntmps240
 go_wp2_with (go_at_call 162; refine (gcd_any _ _ _ (by omega) (by omega) (by omega) (by omega)).mono ?_; rintro e w1 ⟨rfl, hq⟩; replace hB := below_grows hB (by simp) hq)
 all_goals (go_ret; refine ⟨ret_bool ?_, by assumption⟩; simp_all [okR]; try omega)
theorem tuned_any (a : Int) (w : World) : Calls Tryz.prog 249 #[.int .i64 a] w fun e w' => e = .returned (.bool (okAd a)) ∧ w = w' := by
 go_enter Tryz.func249, Tryz.ntmps249
 go_wp2
 all_goals (go_ret; refine ⟨ret_bool ?_, rfl⟩; simp_all [okAd]; try omega)
theorem parts_any (n d a p f : Int) (w : World) (h1 : 0 ≤ d) (h2 : d ≤ 768000) : Calls Tryz.prog 250 #[.agg #[.int .i64 n, .int .i64 d, .int .i64 a, .int .i64 p, .int .i64 f]] w fun e w' => e = .returned (.int .i64 (d * 65536)) ∧ Grows w w' := by
 go_enter Tryz.func250, Tryz.ntmps250
 go_wp2
 go_ret
 exact ⟨rfl, (Below.refl _ _).alloc (Nat.le_refl _) _⟩
end Go.Proofs.YtbfdaojffffaaaaGreat

namespace Go.Proofs.YtbfdaojffffaaaaGreat
open Go.RowKit
set_option maxRecDepth 100000 in
set_option maxHeartbeats 8000000 in
theorem valid_0 (n d a p f : Int) (w : World) (h0 : okR n d = false) : Calls Tryz.prog 181 #[.agg #[.int .i64 n, .int .i64 d, .int .i64 a, .int .i64 p, .int .i64 f]] w fun e w' => e = .returned (.bool false) ∧ Grows w w' := by
 have hB := (Below.refl w.heap.size w).alloc (Nat.le_refl _) (Obj.cells #[.int .i64 n, .int .i64 d, .int .i64 a, .int .i64 p, .int .i64 f] 44)
 have k1 := Blk.new w 44 #[.int .i64 n, .int .i64 d, .int .i64 a, .int .i64 p, .int .i64 f]
 go_enter Tryz.func181, Tryz.ntmps181
 go_wp2
 generalize World.alloc w _ = w1 at *
 refine wp_region_mix (fun w' => Below w.heap.size w w' ∧ Blk w' w.heap.size 44 #[.int .i64 n, .int .i64 d, .int .i64 a, .int .i64 p, .int .i64 f]) [] 43 45 (by kernel_rfl) (by kernel_rfl) rfl ?_ float_none ?_ ?_
 ·exact fun w1 w2 ⟨h0, h1⟩ hg => ⟨below_grows h0 (Nat.le_refl _) hg, h1.grows hg⟩
 ·exact ⟨hB.drew, k1.drew⟩
 ·clear hB k1
  simp only [List.take_succ_cons, List.take_zero, List.drop_succ_cons, List.drop_zero]
  iterate 43
   first
    | (refine calm_no rfl rfl (a' := ?_) ?_ ?_
       rotate_left 1
       ·simp only [Act.put, List.setIfInBounds_toArray, List.set_cons_succ, List.set_cons_zero]
        rfl)
    | (first | refine calm_plain rfl rfl (v := ?_) (a' := ?_) (fun w1 hw1 => ?_) ?_ ?_ | refine calm_yes rfl rfl (v := ?_) (a' := ?_) (fun w1 hw1 => ?_) ?_ ?_
       rotate_left 2
       ·obtain ⟨_, j1⟩ := hw1
        have c1 := j1.cell
        go_simp
        first | exact calm_val | (refine calm_call ?_; exact ratio_any _ _ _) | (refine calm_quiet ?_; exact tuned_any _ _) | (refine calm_call ?_; refine parts_any _ _ _ _ _ _ ?_ ?_ <;> omega)
       ·simp only [Act.put, List.setIfInBounds_toArray, List.set_cons_succ, List.set_cons_zero]
        rfl)
  refine calm_done (end_none ?_)
  rintro w7 ⟨hB, -⟩
  go_wp2
  go_ret
  exact ⟨rfl, hB⟩
set_option maxRecDepth 100000 in
set_option maxHeartbeats 8000000 in
theorem valid_1 (n d a p f : Int) (w : World) (h0 : okR n d = true) (h1 : 768000 < n) : Calls Tryz.prog 181 #[.agg #[.int .i64 n, .int .i64 d, .int .i64 a, .int .i64 p, .int .i64 f]] w fun e w' => e = .returned (.bool false) ∧ Grows w w' := by
 have q1 : decide (n ≤ 768000) = false := by simp; omega
 obtain ⟨g1, g2, -⟩ := okR_bd h0
 have hB := (Below.refl w.heap.size w).alloc (Nat.le_refl _) (Obj.cells #[.int .i64 n, .int .i64 d, .int .i64 a, .int .i64 p, .int .i64 f] 44)
 have k1 := Blk.new w 44 #[.int .i64 n, .int .i64 d, .int .i64 a, .int .i64 p, .int .i64 f]
 go_enter Tryz.func181, Tryz.ntmps181
 go_wp2
 generalize World.alloc w _ = w1 at *
 refine wp_region_mix (fun w' => Below w.heap.size w w' ∧ Blk w' w.heap.size 44 #[.int .i64 n, .int .i64 d, .int .i64 a, .int .i64 p, .int .i64 f]) [] 43 45 (by kernel_rfl) (by kernel_rfl) rfl ?_ float_none ?_ ?_
 ·exact fun w1 w2 ⟨h0, h1⟩ hg => ⟨below_grows h0 (Nat.le_refl _) hg, h1.grows hg⟩
 ·exact ⟨hB.drew, k1.drew⟩
 ·clear hB k1
  simp only [List.take_succ_cons, List.take_zero, List.drop_succ_cons, List.drop_zero]
  iterate 43
   first
    | (refine calm_no rfl rfl (a' := ?_) ?_ ?_
       rotate_left 1
       ·simp only [Act.put, List.setIfInBounds_toArray, List.set_cons_succ, List.set_cons_zero]
        rfl)
    | (first | refine calm_plain rfl rfl (v := ?_) (a' := ?_) (fun w1 hw1 => ?_) ?_ ?_ | refine calm_yes rfl rfl (v := ?_) (a' := ?_) (fun w1 hw1 => ?_) ?_ ?_
       rotate_left 2
       ·obtain ⟨_, j1⟩ := hw1
        have c1 := j1.cell
        go_simp
        first | exact calm_val | (refine calm_call ?_; exact ratio_any _ _ _) | (refine calm_quiet ?_; exact tuned_any _ _) | (refine calm_call ?_; refine parts_any _ _ _ _ _ _ ?_ ?_ <;> omega)
       ·simp only [Act.put, List.setIfInBounds_toArray, List.set_cons_succ, List.set_cons_zero]
        rfl)
  refine calm_done (end_none ?_)
  rintro w7 ⟨hB, -⟩
  go_wp2
  go_ret
  exact ⟨rfl, hB⟩
set_option maxRecDepth 100000 in
set_option maxHeartbeats 8000000 in
theorem valid_2 (n d a p f : Int) (w : World) (h0 : okR n d = true) (h1 : n ≤ 768000) (h2 : 768000 < d) : Calls Tryz.prog 181 #[.agg #[.int .i64 n, .int .i64 d, .int .i64 a, .int .i64 p, .int .i64 f]] w fun e w' => e = .returned (.bool false) ∧ Grows w w' := by
 have q1 : decide (n ≤ 768000) = true := by simp; omega
 have q2 : decide (d ≤ 768000) = false := by simp; omega
 obtain ⟨g1, g2, -⟩ := okR_bd h0
 have hB := (Below.refl w.heap.size w).alloc (Nat.le_refl _) (Obj.cells #[.int .i64 n, .int .i64 d, .int .i64 a, .int .i64 p, .int .i64 f] 44)
 have k1 := Blk.new w 44 #[.int .i64 n, .int .i64 d, .int .i64 a, .int .i64 p, .int .i64 f]
 go_enter Tryz.func181, Tryz.ntmps181
 go_wp2
 generalize World.alloc w _ = w1 at *
 refine wp_region_mix (fun w' => Below w.heap.size w w' ∧ Blk w' w.heap.size 44 #[.int .i64 n, .int .i64 d, .int .i64 a, .int .i64 p, .int .i64 f]) [] 43 45 (by kernel_rfl) (by kernel_rfl) rfl ?_ float_none ?_ ?_
 ·exact fun w1 w2 ⟨h0, h1⟩ hg => ⟨below_grows h0 (Nat.le_refl _) hg, h1.grows hg⟩
 ·exact ⟨hB.drew, k1.drew⟩
 ·clear hB k1
  simp only [List.take_succ_cons, List.take_zero, List.drop_succ_cons, List.drop_zero]
  iterate 43
   first
    | (refine calm_no rfl rfl (a' := ?_) ?_ ?_
       rotate_left 1
       ·simp only [Act.put, List.setIfInBounds_toArray, List.set_cons_succ, List.set_cons_zero]
        rfl)
    | (first | refine calm_plain rfl rfl (v := ?_) (a' := ?_) (fun w1 hw1 => ?_) ?_ ?_ | refine calm_yes rfl rfl (v := ?_) (a' := ?_) (fun w1 hw1 => ?_) ?_ ?_
       rotate_left 2
       ·obtain ⟨_, j1⟩ := hw1
        have c1 := j1.cell
        go_simp
        first | exact calm_val | (refine calm_call ?_; exact ratio_any _ _ _) | (refine calm_quiet ?_; exact tuned_any _ _) | (refine calm_call ?_; refine parts_any _ _ _ _ _ _ ?_ ?_ <;> omega)
       ·simp only [Act.put, List.setIfInBounds_toArray, List.set_cons_succ, List.set_cons_zero]
        rfl)
  refine calm_done (end_none ?_)
  rintro w7 ⟨hB, -⟩
  go_wp2
  go_ret
  exact ⟨rfl, hB⟩
set_option maxRecDepth 100000 in
set_option maxHeartbeats 8000000 in
theorem valid_3 (n d a p f : Int) (w : World) (h0 : okR n d = true) (h1 : n ≤ 768000) (h2 : d ≤ 768000) (h3 : okAd a = false) : Calls Tryz.prog 181 #[.agg #[.int .i64 n, .int .i64 d, .int .i64 a, .int .i64 p, .int .i64 f]] w fun e w' => e = .returned (.bool false) ∧ Grows w w' := by
 have q1 : decide (n ≤ 768000) = true := by simp; omega
 have q2 : decide (d ≤ 768000) = true := by simp; omega
 obtain ⟨g1, g2, -⟩ := okR_bd h0
 have hB := (Below.refl w.heap.size w).alloc (Nat.le_refl _) (Obj.cells #[.int .i64 n, .int .i64 d, .int .i64 a, .int .i64 p, .int .i64 f] 44)
 have k1 := Blk.new w 44 #[.int .i64 n, .int .i64 d, .int .i64 a, .int .i64 p, .int .i64 f]
 go_enter Tryz.func181, Tryz.ntmps181
 go_wp2
 generalize World.alloc w _ = w1 at *
 refine wp_region_mix (fun w' => Below w.heap.size w w' ∧ Blk w' w.heap.size 44 #[.int .i64 n, .int .i64 d, .int .i64 a, .int .i64 p, .int .i64 f]) [] 43 45 (by kernel_rfl) (by kernel_rfl) rfl ?_ float_none ?_ ?_
 ·exact fun w1 w2 ⟨h0, h1⟩ hg => ⟨below_grows h0 (Nat.le_refl _) hg, h1.grows hg⟩
 ·exact ⟨hB.drew, k1.drew⟩
 ·clear hB k1
  simp only [List.take_succ_cons, List.take_zero, List.drop_succ_cons, List.drop_zero]
  iterate 43
   first
    | (refine calm_no rfl rfl (a' := ?_) ?_ ?_
       rotate_left 1
       ·simp only [Act.put, List.setIfInBounds_toArray, List.set_cons_succ, List.set_cons_zero]
        rfl)
    | (first | refine calm_plain rfl rfl (v := ?_) (a' := ?_) (fun w1 hw1 => ?_) ?_ ?_ | refine calm_yes rfl rfl (v := ?_) (a' := ?_) (fun w1 hw1 => ?_) ?_ ?_
       rotate_left 2
       ·obtain ⟨_, j1⟩ := hw1
        have c1 := j1.cell
        go_simp
        first | exact calm_val | (refine calm_call ?_; exact ratio_any _ _ _) | (refine calm_quiet ?_; exact tuned_any _ _) | (refine calm_call ?_; refine parts_any _ _ _ _ _ _ ?_ ?_ <;> omega)
       ·simp only [Act.put, List.setIfInBounds_toArray, List.set_cons_succ, List.set_cons_zero]
        rfl)
  refine calm_done (end_none ?_)
  rintro w7 ⟨hB, -⟩
  go_wp2
  go_ret
  exact ⟨rfl, hB⟩
set_option maxRecDepth 100000 in
set_option maxHeartbeats 8000000 in
theorem valid_4 (n d a p f : Int) (w : World) (h0 : okR n d = true) (h1 : n ≤ 768000) (h2 : d ≤ 768000) (h3 : okAd a = true) (h4 : p < 0) : Calls Tryz.prog 181 #[.agg #[.int .i64 n, .int .i64 d, .int .i64 a, .int .i64 p, .int .i64 f]] w fun e w' => e = .returned (.bool false) ∧ Grows w w' := by
 have q1 : decide (n ≤ 768000) = true := by simp; omega
 have q2 : decide (d ≤ 768000) = true := by simp; omega
 have q4 : decide (0 ≤ p) = false := by simp; omega
 obtain ⟨g1, g2, -⟩ := okR_bd h0
 have hB := (Below.refl w.heap.size w).alloc (Nat.le_refl _) (Obj.cells #[.int .i64 n, .int .i64 d, .int .i64 a, .int .i64 p, .int .i64 f] 44)
 have k1 := Blk.new w 44 #[.int .i64 n, .int .i64 d, .int .i64 a, .int .i64 p, .int .i64 f]
 go_enter Tryz.func181, Tryz.ntmps181
 go_wp2
 generalize World.alloc w _ = w1 at *
 refine wp_region_mix (fun w' => Below w.heap.size w w' ∧ Blk w' w.heap.size 44 #[.int .i64 n, .int .i64 d, .int .i64 a, .int .i64 p, .int .i64 f]) [] 43 45 (by kernel_rfl) (by kernel_rfl) rfl ?_ float_none ?_ ?_
 ·exact fun w1 w2 ⟨h0, h1⟩ hg => ⟨below_grows h0 (Nat.le_refl _) hg, h1.grows hg⟩
 ·exact ⟨hB.drew, k1.drew⟩
 ·clear hB k1
  simp only [List.take_succ_cons, List.take_zero, List.drop_succ_cons, List.drop_zero]
  iterate 43
   first
    | (refine calm_no rfl rfl (a' := ?_) ?_ ?_
       rotate_left 1
       ·simp only [Act.put, List.setIfInBounds_toArray, List.set_cons_succ, List.set_cons_zero]
        rfl)
    | (first | refine calm_plain rfl rfl (v := ?_) (a' := ?_) (fun w1 hw1 => ?_) ?_ ?_ | refine calm_yes rfl rfl (v := ?_) (a' := ?_) (fun w1 hw1 => ?_) ?_ ?_
       rotate_left 2
       ·obtain ⟨_, j1⟩ := hw1
        have c1 := j1.cell
        go_simp
        first | exact calm_val | (refine calm_call ?_; exact ratio_any _ _ _) | (refine calm_quiet ?_; exact tuned_any _ _) | (refine calm_call ?_; refine parts_any _ _ _ _ _ _ ?_ ?_ <;> omega)
       ·simp only [Act.put, List.setIfInBounds_toArray, List.set_cons_succ, List.set_cons_zero]
        rfl)
  refine calm_done (end_none ?_)
  rintro w7 ⟨hB, -⟩
  go_wp2
  go_ret
  exact ⟨rfl, hB⟩
set_option maxRecDepth 100000 in
set_option maxHeartbeats 8000000 in
theorem valid_5 (n d a p f : Int) (w : World) (h0 : okR n d = true) (h1 : n ≤ 768000) (h2 : d ≤ 768000) (h3 : okAd a = true) (h4 : 0 ≤ p) (h5 : 1125899906842624 < p) : Calls Tryz.prog 181 #[.agg #[.int .i64 n, .int .i64 d, .int .i64 a, .int .i64 p, .int .i64 f]] w fun e w' => e = .returned (.bool false) ∧ Grows w w' := by
 have q1 : decide (n ≤ 768000) = true := by simp; omega
 have q2 : decide (d ≤ 768000) = true := by simp; omega
 have q4 : decide (0 ≤ p) = true := by simp; omega
 have q5 : decide (p ≤ 1125899906842624) = false := by simp; omega
 obtain ⟨g1, g2, -⟩ := okR_bd h0
 have hB := (Below.refl w.heap.size w).alloc (Nat.le_refl _) (Obj.cells #[.int .i64 n, .int .i64 d, .int .i64 a, .int .i64 p, .int .i64 f] 44)
 have k1 := Blk.new w 44 #[.int .i64 n, .int .i64 d, .int .i64 a, .int .i64 p, .int .i64 f]
 go_enter Tryz.func181, Tryz.ntmps181
 go_wp2
 generalize World.alloc w _ = w1 at *
 refine wp_region_mix (fun w' => Below w.heap.size w w' ∧ Blk w' w.heap.size 44 #[.int .i64 n, .int .i64 d, .int .i64 a, .int .i64 p, .int .i64 f]) [] 43 45 (by kernel_rfl) (by kernel_rfl) rfl ?_ float_none ?_ ?_
 ·exact fun w1 w2 ⟨h0, h1⟩ hg => ⟨below_grows h0 (Nat.le_refl _) hg, h1.grows hg⟩
 ·exact ⟨hB.drew, k1.drew⟩
 ·clear hB k1
  simp only [List.take_succ_cons, List.take_zero, List.drop_succ_cons, List.drop_zero]
  iterate 43
   first
    | (refine calm_no rfl rfl (a' := ?_) ?_ ?_
       rotate_left 1
       ·simp only [Act.put, List.setIfInBounds_toArray, List.set_cons_succ, List.set_cons_zero]
        rfl)
    | (first | refine calm_plain rfl rfl (v := ?_) (a' := ?_) (fun w1 hw1 => ?_) ?_ ?_ | refine calm_yes rfl rfl (v := ?_) (a' := ?_) (fun w1 hw1 => ?_) ?_ ?_
       rotate_left 2
       ·obtain ⟨_, j1⟩ := hw1
        have c1 := j1.cell
        go_simp
        first | exact calm_val | (refine calm_call ?_; exact ratio_any _ _ _) | (refine calm_quiet ?_; exact tuned_any _ _) | (refine calm_call ?_; refine parts_any _ _ _ _ _ _ ?_ ?_ <;> omega)
       ·simp only [Act.put, List.setIfInBounds_toArray, List.set_cons_succ, List.set_cons_zero]
        rfl)
  refine calm_done (end_none ?_)
  rintro w7 ⟨hB, -⟩
  go_wp2
  go_ret
  exact ⟨rfl, hB⟩
set_option maxRecDepth 100000 in
set_option maxHeartbeats 8000000 in
theorem valid_6 (n d a p f : Int) (w : World) (h0 : okR n d = true) (h1 : n ≤ 768000) (h2 : d ≤ 768000) (h3 : okAd a = true) (h4 : 0 ≤ p) (h5 : p ≤ 1125899906842624) (h6 : f < 0) : Calls Tryz.prog 181 #[.agg #[.int .i64 n, .int .i64 d, .int .i64 a, .int .i64 p, .int .i64 f]] w fun e w' => e = .returned (.bool false) ∧ Grows w w' := by
 have q1 : decide (n ≤ 768000) = true := by simp; omega
 have q2 : decide (d ≤ 768000) = true := by simp; omega
 have q4 : decide (0 ≤ p) = true := by simp; omega
 have q5 : decide (p ≤ 1125899906842624) = true := by simp; omega
 have q6 : decide (0 ≤ f) = false := by simp; omega
 obtain ⟨g1, g2, -⟩ := okR_bd h0
 have hB := (Below.refl w.heap.size w).alloc (Nat.le_refl _) (Obj.cells #[.int .i64 n, .int .i64 d, .int .i64 a, .int .i64 p, .int .i64 f] 44)
 have k1 := Blk.new w 44 #[.int .i64 n, .int .i64 d, .int .i64 a, .int .i64 p, .int .i64 f]
 go_enter Tryz.func181, Tryz.ntmps181
 go_wp2
 generalize World.alloc w _ = w1 at *
 refine wp_region_mix (fun w' => Below w.heap.size w w' ∧ Blk w' w.heap.size 44 #[.int .i64 n, .int .i64 d, .int .i64 a, .int .i64 p, .int .i64 f]) [] 43 45 (by kernel_rfl) (by kernel_rfl) rfl ?_ float_none ?_ ?_
 ·exact fun w1 w2 ⟨h0, h1⟩ hg => ⟨below_grows h0 (Nat.le_refl _) hg, h1.grows hg⟩
 ·exact ⟨hB.drew, k1.drew⟩
 ·clear hB k1
  simp only [List.take_succ_cons, List.take_zero, List.drop_succ_cons, List.drop_zero]
  iterate 43
   first
    | (refine calm_no rfl rfl (a' := ?_) ?_ ?_
       rotate_left 1
       ·simp only [Act.put, List.setIfInBounds_toArray, List.set_cons_succ, List.set_cons_zero]
        rfl)
    | (first | refine calm_plain rfl rfl (v := ?_) (a' := ?_) (fun w1 hw1 => ?_) ?_ ?_ | refine calm_yes rfl rfl (v := ?_) (a' := ?_) (fun w1 hw1 => ?_) ?_ ?_
       rotate_left 2
       ·obtain ⟨_, j1⟩ := hw1
        have c1 := j1.cell
        go_simp
        first | exact calm_val | (refine calm_call ?_; exact ratio_any _ _ _) | (refine calm_quiet ?_; exact tuned_any _ _) | (refine calm_call ?_; refine parts_any _ _ _ _ _ _ ?_ ?_ <;> omega)
       ·simp only [Act.put, List.setIfInBounds_toArray, List.set_cons_succ, List.set_cons_zero]
        rfl)
  refine calm_done (end_none ?_)
  rintro w7 ⟨hB, -⟩
  go_wp2
  go_ret
  exact ⟨rfl, hB⟩
set_option maxRecDepth 100000 in
set_option maxHeartbeats 8000000 in
theorem valid_7 (n d a p f : Int) (w : World) (h0 : okR n d = true) (h1 : n ≤ 768000) (h2 : d ≤ 768000) (h3 : okAd a = true) (h4 : 0 ≤ p) (h5 : p ≤ 1125899906842624) (h6 : 0 ≤ f) (h7 : d * 65536 ≤ f) : Calls Tryz.prog 181 #[.agg #[.int .i64 n, .int .i64 d, .int .i64 a, .int .i64 p, .int .i64 f]] w fun e w' => e = .returned (.bool false) ∧ Grows w w' := by
 have q1 : decide (n ≤ 768000) = true := by simp; omega
 have q2 : decide (d ≤ 768000) = true := by simp; omega
 have q4 : decide (0 ≤ p) = true := by simp; omega
 have q5 : decide (p ≤ 1125899906842624) = true := by simp; omega
 have q6 : decide (0 ≤ f) = true := by simp; omega
 have q7 : decide (f < d * 65536) = false := by simp; omega
 obtain ⟨g1, g2, -⟩ := okR_bd h0
 have hB := (Below.refl w.heap.size w).alloc (Nat.le_refl _) (Obj.cells #[.int .i64 n, .int .i64 d, .int .i64 a, .int .i64 p, .int .i64 f] 44)
 have k1 := Blk.new w 44 #[.int .i64 n, .int .i64 d, .int .i64 a, .int .i64 p, .int .i64 f]
 go_enter Tryz.func181, Tryz.ntmps181
 go_wp2
 generalize World.alloc w _ = w1 at *
 refine wp_region_mix (fun w' => Below w.heap.size w w' ∧ Blk w' w.heap.size 44 #[.int .i64 n, .int .i64 d, .int .i64 a, .int .i64 p, .int .i64 f]) [] 43 45 (by kernel_rfl) (by kernel_rfl) rfl ?_ float_none ?_ ?_
 ·exact fun w1 w2 ⟨h0, h1⟩ hg => ⟨below_grows h0 (Nat.le_refl _) hg, h1.grows hg⟩
 ·exact ⟨hB.drew, k1.drew⟩
 ·clear hB k1
  simp only [List.take_succ_cons, List.take_zero, List.drop_succ_cons, List.drop_zero]
  iterate 43
   first
    | (refine calm_no rfl rfl (a' := ?_) ?_ ?_
       rotate_left 1
       ·simp only [Act.put, List.setIfInBounds_toArray, List.set_cons_succ, List.set_cons_zero]
        rfl)
    | (first | refine calm_plain rfl rfl (v := ?_) (a' := ?_) (fun w1 hw1 => ?_) ?_ ?_ | refine calm_yes rfl rfl (v := ?_) (a' := ?_) (fun w1 hw1 => ?_) ?_ ?_
       rotate_left 2
       ·obtain ⟨_, j1⟩ := hw1
        have c1 := j1.cell
        go_simp
        first | exact calm_val | (refine calm_call ?_; exact ratio_any _ _ _) | (refine calm_quiet ?_; exact tuned_any _ _) | (refine calm_call ?_; refine parts_any _ _ _ _ _ _ ?_ ?_ <;> omega)
       ·simp only [Act.put, List.setIfInBounds_toArray, List.set_cons_succ, List.set_cons_zero]
        rfl)
  refine calm_done (end_none ?_)
  rintro w7 ⟨hB, -⟩
  go_wp2
  go_ret
  exact ⟨rfl, hB⟩
set_option maxRecDepth 100000 in
set_option maxHeartbeats 8000000 in
theorem valid_8 (n d a p f : Int) (w : World) (h0 : okR n d = true) (h1 : n ≤ 768000) (h2 : d ≤ 768000) (h3 : okAd a = true) (h4 : 0 ≤ p) (h5 : p ≤ 1125899906842624) (h6 : 0 ≤ f) (h7 : f < d * 65536) : Calls Tryz.prog 181 #[.agg #[.int .i64 n, .int .i64 d, .int .i64 a, .int .i64 p, .int .i64 f]] w fun e w' => e = .returned (.bool true) ∧ Grows w w' := by
 have q1 : decide (n ≤ 768000) = true := by simp; omega
 have q2 : decide (d ≤ 768000) = true := by simp; omega
 have q4 : decide (0 ≤ p) = true := by simp; omega
 have q5 : decide (p ≤ 1125899906842624) = true := by simp; omega
 have q6 : decide (0 ≤ f) = true := by simp; omega
 have q7 : decide (f < d * 65536) = true := by simp; omega
 obtain ⟨g1, g2, -⟩ := okR_bd h0
 have hB := (Below.refl w.heap.size w).alloc (Nat.le_refl _) (Obj.cells #[.int .i64 n, .int .i64 d, .int .i64 a, .int .i64 p, .int .i64 f] 44)
 have k1 := Blk.new w 44 #[.int .i64 n, .int .i64 d, .int .i64 a, .int .i64 p, .int .i64 f]
 go_enter Tryz.func181, Tryz.ntmps181
 go_wp2
 generalize World.alloc w _ = w1 at *
 refine wp_region_mix (fun w' => Below w.heap.size w w' ∧ Blk w' w.heap.size 44 #[.int .i64 n, .int .i64 d, .int .i64 a, .int .i64 p, .int .i64 f]) [] 43 45 (by kernel_rfl) (by kernel_rfl) rfl ?_ float_none ?_ ?_
 ·exact fun w1 w2 ⟨h0, h1⟩ hg => ⟨below_grows h0 (Nat.le_refl _) hg, h1.grows hg⟩
 ·exact ⟨hB.drew, k1.drew⟩
 ·clear hB k1
  simp only [List.take_succ_cons, List.take_zero, List.drop_succ_cons, List.drop_zero]
  iterate 43
   first
    | (refine calm_no rfl rfl (a' := ?_) ?_ ?_
       rotate_left 1
       ·simp only [Act.put, List.setIfInBounds_toArray, List.set_cons_succ, List.set_cons_zero]
        rfl)
    | (first | refine calm_plain rfl rfl (v := ?_) (a' := ?_) (fun w1 hw1 => ?_) ?_ ?_ | refine calm_yes rfl rfl (v := ?_) (a' := ?_) (fun w1 hw1 => ?_) ?_ ?_
       rotate_left 2
       ·obtain ⟨_, j1⟩ := hw1
        have c1 := j1.cell
        go_simp
        first | exact calm_val | (refine calm_call ?_; exact ratio_any _ _ _) | (refine calm_quiet ?_; exact tuned_any _ _) | (refine calm_call ?_; refine parts_any _ _ _ _ _ _ ?_ ?_ <;> omega)
       ·simp only [Act.put, List.setIfInBounds_toArray, List.set_cons_succ, List.set_cons_zero]
        rfl)
  refine calm_done (end_none ?_)
  rintro w7 ⟨hB, -⟩
  go_wp2
  go_ret
  exact ⟨rfl, hB⟩
set_option maxRecDepth 100000 in
theorem phvalid_any (n d a p f : Int) (w : World) : Calls Tryz.prog 181 #[.agg #[.int .i64 n, .int .i64 d, .int .i64 a, .int .i64 p, .int .i64 f]] w fun e w' => e = .returned (.bool (okPh n d a p f)) ∧ Grows w w' := by
 cases h0 : okR n d
 ·rw [show okPh n d a p f = false from by simp [okPh, h0]]; exact valid_0 n d a p f w h0
 by_cases h1 : n ≤ 768000
 case neg => rw [show okPh n d a p f = false from by simp only [okPh, okAd, Bool.and_eq_false_iff, decide_eq_false_iff_not]; simp [h1]]; exact valid_1 n d a p f w h0 (by omega)
 by_cases h2 : d ≤ 768000
 case neg => rw [show okPh n d a p f = false from by simp only [okPh, okAd, Bool.and_eq_false_iff, decide_eq_false_iff_not]; simp [h2]]; exact valid_2 n d a p f w h0 h1 (by omega)
 cases h3 : okAd a
 ·rw [show okPh n d a p f = false from by simp [okPh, h3]]; exact valid_3 n d a p f w h0 h1 h2 h3
 by_cases h4 : 0 ≤ p
 case neg => rw [show okPh n d a p f = false from by simp only [okPh, okAd, Bool.and_eq_false_iff, decide_eq_false_iff_not]; simp [h4]]; exact valid_4 n d a p f w h0 h1 h2 h3 (by omega)
 by_cases h5 : p ≤ 1125899906842624
 case neg => rw [show okPh n d a p f = false from by simp only [okPh, okAd, Bool.and_eq_false_iff, decide_eq_false_iff_not]; simp [h5]]; exact valid_5 n d a p f w h0 h1 h2 h3 h4 (by omega)
 by_cases h6 : 0 ≤ f
 case neg => rw [show okPh n d a p f = false from by simp only [okPh, okAd, Bool.and_eq_false_iff, decide_eq_false_iff_not]; simp [h6]]; exact valid_6 n d a p f w h0 h1 h2 h3 h4 h5 (by omega)
 by_cases h7 : f < d * 65536
 case neg => rw [show okPh n d a p f = false from by simp only [okPh, okAd, Bool.and_eq_false_iff, decide_eq_false_iff_not]; simp [h7]]; exact valid_7 n d a p f w h0 h1 h2 h3 h4 h5 h6 (by omega)
 rw [show okPh n d a p f = true from by simp_all [okPh, okAd]]; exact valid_8 n d a p f w h0 h1 h2 h3 h4 h5 h6 h7
end Go.Proofs.YtbfdaojffffaaaaGreat

namespace Go.Proofs.YtbfdaojffffaaaaGreat
open Go.RowKit
end Go.Proofs.YtbfdaojffffaaaaGreat

namespace Go.Proofs.YtbfdaojffffaaaaGreat
open Go.RowKit
set_option maxRecDepth 100000 in
theorem mul_bd {x y a b : Int} (h1 : 0 ≤ x) (h2 : x ≤ a) (h3 : 0 ≤ y) (h4 : y ≤ b) : 0 ≤ x * y ∧ x * y ≤ a * b :=
 ⟨Int.mul_nonneg h1 h3, Int.mul_le_mul h2 h4 h3 (by omega)⟩
def aheadF (n a f k : Int) : Int := f + k * n * (65536 + a)
def errF (n d a p f k : Int) : Int := if okPh n d a p f = false then 1 else if k < 0 ∨ 65536 < k then 2 else 0
structure AtV where
 p : Int
 f : Int
 e : Int
def atF (n d a p f k : Int) : AtV := if errF n d a p f k = 0 then ⟨p + aheadF n a f k / (d * 65536), aheadF n a f k % (d * 65536), 0⟩ else ⟨0, 0, errF n d a p f k⟩
structure PhV where
 n : Int
 d : Int
 a : Int
 p : Int
 f : Int
 e : Int
def advE (n d a p f k : Int) : Int := if errF n d a p f k = 0 ∧ 1125899906842624 < (atF n d a p f k).p then 2 else errF n d a p f k
def advF (n d a p f k : Int) : PhV := if advE n d a p f k = 0 then ⟨n, d, a, (atF n d a p f k).p, (atF n d a p f k).f, 0⟩ else ⟨0, 0, 0, 0, 0, advE n d a p f k⟩
def newF (n d : Int) : PhV := if okPh n d 0 0 0 then ⟨n, d, 0, 0, 0, 0⟩ else ⟨0, 0, 0, 0, 0, 1⟩
def tuneF (n d a p f k : Int) : PhV := if okPh n d a p f = false then ⟨0, 0, 0, 0, 0, 1⟩ else if okAd k = false then ⟨0, 0, 0, 0, 0, 2⟩ else ⟨n, d, k, p, f, 0⟩
set_option maxRecDepth 100000 in
theorem errF_cases (n d a p f k : Int) : (okPh n d a p f = false ∧ errF n d a p f k = 1) ∨ (okPh n d a p f = true ∧ (k < 0 ∨ 65536 < k) ∧ errF n d a p f k = 2) ∨ (okPh n d a p f = true ∧ 0 ≤ k ∧ k ≤ 65536 ∧ errF n d a p f k = 0) := by
 unfold errF
 cases h : okPh n d a p f
 ·exact .inl ⟨rfl, by simp⟩
 ·by_cases hk : k < 0 ∨ 65536 < k
  ·exact .inr (.inl ⟨rfl, hk, by simp [hk]⟩)
  ·exact .inr (.inr ⟨rfl, by omega, by omega, by simp [hk]⟩)
set_option maxRecDepth 100000 in
/-- The bounds of what lies ahead. -/
theorem ahead_bd {n d a p f k : Int} (h : okPh n d a p f = true) (h1 : 0 ≤ k) (h2 : k ≤ 65537) :
 0 ≤ k * n ∧ k * n ≤ 50332416000 ∧ 0 ≤ k * n * (65536 + a) ∧ k * n * (65536 + a) ≤ 3504746790912000 ∧ 0 ≤ aheadF n a f k ∧ aheadF n a f k ≤ 3504797122560000 ∧ 0 ≤ n * (65536 + a) ∧ n * (65536 + a) ≤ 53477376000 ∧ k * (n * (65536 + a)) = k * n * (65536 + a) := by
 obtain ⟨b1, b2, b3, b4, b5, b6, b7, b8, b9, b10⟩ := okPh_bd h
 obtain ⟨c1, c2⟩ := mul_bd h1 h2 (by omega : 0 ≤ n) b2
 obtain ⟨c3, c4⟩ := mul_bd c1 c2 (by omega : 0 ≤ 65536 + a) (by omega : 65536 + a ≤ 69632)
 obtain ⟨c5, c6⟩ := mul_bd (by omega : 0 ≤ n) b2 (by omega : 0 ≤ 65536 + a) (by omega : 65536 + a ≤ 69632)
 unfold aheadF
 refine ⟨c1, by omega, c3, by omega, by omega, by omega, c5, by omega, (Int.mul_assoc _ _ _).symm⟩
set_option maxRecDepth 100000 in
set_option maxHeartbeats 2000000 in
theorem ahead_any (n d a p f k : Int) (w : World) (h : okPh n d a p f = true) (h1 : 0 ≤ k) (h2 : k ≤ 65537) : Calls Tryz.prog 302 #[.agg #[.int .i64 n, .int .i64 d, .int .i64 a, .int .i64 p, .int .i64 f], .int .i64 k] w fun e w' => e = .returned (.int .i64 (aheadF n a f k)) ∧ Grows w w' := by
 obtain ⟨c1, c2, c3, c4, c5, c6, -, -, -⟩ := ahead_bd h h1 h2
 obtain ⟨b1, b2, b3, b4, b5, b6, b7, b8, b9, b10⟩ := okPh_bd h
 unfold aheadF at *
 have wa : IntKind.i64.wrap (k * n) = k * n := IntWalk.i64_in _ (by omega)
 have wb : IntKind.i64.wrap (65536 + a) = 65536 + a := IntWalk.i64_in _ (by omega)
 have wc : IntKind.i64.wrap (k * n * (65536 + a)) = k * n * (65536 + a) := IntWalk.i64_in _ (by omega)
 have wd : IntKind.i64.wrap (f + k * n * (65536 + a)) = f + k * n * (65536 + a) := IntWalk.i64_in _ (by omega)
 go_enter Tryz.func302, Tryz.ntmps302
 go_wp2
 go_ret
 exact ⟨rfl, (Below.refl _ _).alloc (Nat.le_refl _) _⟩
set_option maxRecDepth 100000 in
set_option maxHeartbeats 4000000 in
theorem check_any (n d a p f k : Int) (w : World) : Calls Tryz.prog 303 #[.agg #[.int .i64 n, .int .i64 d, .int .i64 a, .int .i64 p, .int .i64 f], .int .i64 k] w fun e w' => e = .returned (.int .i64 (errF n d a p f k)) ∧ Grows w w' := by
 rcases errF_cases n d a p f k with ⟨H, he⟩ | ⟨H, hk, he⟩ | ⟨H, h1, h2, he⟩
 all_goals
  rw [he]
  go_enter Tryz.func303, Tryz.ntmps303
  go_wp2_with fail
  refine (phvalid_any n d a p f _).mono ?_
  rintro e w1 ⟨rfl, hq⟩
  rw [H]
  have hB := below_grows ((Below.refl w.heap.size w).alloc (Nat.le_refl _) _) (by simp) hq
  clear hq
  go_wp2
  all_goals first
   | (go_ret; exact ⟨rfl, hB⟩)
   | (exfalso; omega)
set_option maxRecDepth 100000 in
set_option maxHeartbeats 8000000 in
theorem at_bad (n d a p f k : Int) (w : World) (he : errF n d a p f k ≠ 0) : Calls Tryz.prog 305 #[.agg #[.int .i64 n, .int .i64 d, .int .i64 a, .int .i64 p, .int .i64 f], .int .i64 k] w fun e w' => e = .returned (.tuple #[.int .i64 0, .int .i64 0, .int .i64 (errF n d a p f k)]) ∧ Grows w w' := by
 go_enter Tryz.func305, Tryz.ntmps305
 have hne : (errF n d a p f k == 0) = false := by simpa using he
 go_wp2_with fail
 refine (check_any n d a p f k _).mono ?_
 rintro e w1 ⟨rfl, hq⟩
 have k2 := Blk.grows (Blk.new _ _ _) hq
 have hB := below_grows ((Below.refl w.heap.size w).alloc (Nat.le_refl _) _) (by simp) hq
 have x2 := k2.cell
 have f2 := k2.frozen
 have z2 := k2.lt
 clear hq
 go_wp2
 refine bodyPost_ret (v := .tuple #[.int .i64 0, .int .i64 0, .int .i64 (errF n d a p f k)]) (by simp [results, Tryz.results305, go_sem]) rfl ⟨rfl, hB⟩
set_option maxRecDepth 100000 in
set_option maxHeartbeats 8000000 in
theorem at_good (n d a p f k : Int) (w : World) (H : okPh n d a p f = true) (h1 : 0 ≤ k) (h2 : k ≤ 65536) : Calls Tryz.prog 305 #[.agg #[.int .i64 n, .int .i64 d, .int .i64 a, .int .i64 p, .int .i64 f], .int .i64 k] w fun e w' => e = .returned (.tuple #[.int .i64 (p + aheadF n a f k / (d * 65536)), .int .i64 (aheadF n a f k % (d * 65536)), .int .i64 0]) ∧ Grows w w' := by
 obtain ⟨c1, c2, c3, c4, c5, c6, -, -, c7⟩ := ahead_bd H h1 (by omega : k ≤ 65537)
 obtain ⟨b1, b2, b3, b4, b5, b6, b7, b8, b9, b10⟩ := okPh_bd H
 have d1 : 0 ≤ aheadF n a f k / (d * 65536) := Int.ediv_nonneg c5 (by omega)
 have d2 : aheadF n a f k / (d * 65536) ≤ aheadF n a f k := Int.ediv_le_self _ c5
 have we : IntKind.i64.wrap (p + aheadF n a f k / (d * 65536)) = p + aheadF n a f k / (d * 65536) := IntWalk.i64_in _ (by omega)
 have t1 : Int.tdiv (aheadF n a f k) (d * 65536) = aheadF n a f k / (d * 65536) := Int.tdiv_eq_ediv_of_nonneg c5
 have t2 : Int.tmod (aheadF n a f k) (d * 65536) = aheadF n a f k % (d * 65536) := Int.tmod_eq_emod_of_nonneg c5
 have t3 : (d * 65536 == 0) = false := by simp; omega
 have t4 : ¬ d * 65536 = 0 := by omega
 have t5 : ¬ d * 65536 = -1 := by omega
 have t6 : IntKind.i64.wrap (aheadF n a f k / (d * 65536)) = aheadF n a f k / (d * 65536) := IntWalk.i64_in _ (by omega)
 have t8 := Int.emod_nonneg (aheadF n a f k) t4
 have t9 := Int.emod_lt_of_pos (aheadF n a f k) (show 0 < d * 65536 by omega)
 have t7 : IntKind.i64.wrap (aheadF n a f k % (d * 65536)) = aheadF n a f k % (d * 65536) := IntWalk.i64_in _ (by omega)
 have he : errF n d a p f k = 0 := by unfold errF; rw [if_neg (by simp [H]), if_neg (by omega)]
 go_enter Tryz.func305, Tryz.ntmps305
 go_wp2_with fail
 refine (check_any n d a p f k _).mono ?_
 rintro e w1 ⟨rfl, hq⟩
 have k2 := Blk.grows (Blk.new _ _ _) hq
 have hB := below_grows ((Below.refl w.heap.size w).alloc (Nat.le_refl _) _) (by simp) hq
 have x2 := k2.cell
 have f2 := k2.frozen
 have z2 := k2.lt
 clear hq
 rw [he]
 go_wp2_with fail
 refine (ahead_any n d a p f k _ H h1 (by omega)).mono ?_
 rintro e w2 ⟨rfl, hq⟩
 replace k2 := k2.grows hq
 replace hB := below_grows hB (Nat.le_refl _) hq
 clear hq x2 f2 z2
 go_wp2
 generalize hx : aheadF n a f k = x at *
 have hd0 : 0 ≤ d := by omega
 refine wp_region_mix (fun w' => Below w.heap.size w w' ∧ Blk w' w.heap.size 44 #[.int .i64 n, .int .i64 d, .int .i64 a, .int .i64 p, .int .i64 f]) [] 14 29 (by kernel_rfl) (by kernel_rfl) rfl ?_ float_none ?_ ?_
 ·exact fun w1 w2 ⟨h0, h1⟩ hg => ⟨below_grows h0 (Nat.le_refl _) hg, h1.grows hg⟩
 ·exact ⟨hB.drew, k2.drew⟩
 ·clear hB k2
  simp only [List.take_succ_cons, List.take_zero, List.drop_succ_cons, List.drop_zero]
  iterate 14
   refine calm_plain rfl rfl (v := ?_) (a' := ?_) (fun w1 hw1 => ?_) ?_ ?_
   rotate_left 2
   ·obtain ⟨_, j1⟩ := hw1
    have c1 := j1.cell
    go_simp
    first | exact calm_val | (refine calm_call ?_; refine parts_any _ _ _ _ _ _ ?_ ?_ <;> assumption)
   ·simp only [Act.put, List.setIfInBounds_toArray, List.set_cons_succ, List.set_cons_zero]
    rfl
  refine calm_done (end_none ?_)
  rintro w7 ⟨hB, -⟩
  go_wp2
  refine bodyPost_ret (v := .tuple #[.int .i64 (p + x / (d * 65536)), .int .i64 (x % (d * 65536)), .int .i64 0]) (by simp [results, Tryz.results305, go_sem]) rfl ⟨by rw [hx], hB⟩
set_option maxRecDepth 100000 in
theorem at_any (n d a p f k : Int) (w : World) : Calls Tryz.prog 305 #[.agg #[.int .i64 n, .int .i64 d, .int .i64 a, .int .i64 p, .int .i64 f], .int .i64 k] w fun e w' => e = .returned (.tuple #[.int .i64 (atF n d a p f k).p, .int .i64 (atF n d a p f k).f, .int .i64 (atF n d a p f k).e]) ∧ Grows w w' := by
 unfold atF
 rcases errF_cases n d a p f k with ⟨H, he⟩ | ⟨H, hk, he⟩ | ⟨H, h1, h2, he⟩
 ·rw [if_neg (by omega)]
  exact at_bad n d a p f k w (by omega)
 ·rw [if_neg (by omega)]
  exact at_bad n d a p f k w (by omega)
 ·rw [if_pos he]
  exact at_good n d a p f k w H h1 h2
set_option maxRecDepth 100000 in
set_option maxHeartbeats 4000000 in
theorem adv_bad (n d a p f k ap af ae : Int) (w : World) (h1 : (atF n d a p f k).p = ap) (h2 : (atF n d a p f k).f = af) (h3 : (atF n d a p f k).e = ae) (he : ¬ ae = 0) : Calls Tryz.prog 304 #[.agg #[.int .i64 n, .int .i64 d, .int .i64 a, .int .i64 p, .int .i64 f], .int .i64 k] w fun e w' => e = .returned (.tuple #[.agg #[.int .i64 0, .int .i64 0, .int .i64 0, .int .i64 0, .int .i64 0], .int .i64 ae]) ∧ Grows w w' := by
 have hne : (ae == 0) = false := by simpa using he
 go_enter Tryz.func304, Tryz.ntmps304
 go_wp2_with fail
 refine (at_any n d a p f k _).mono ?_
 rintro e w1 ⟨rfl, hq⟩
 rw [h1, h2, h3]
 clear h1 h2 h3
 have k2 := Blk.grows (Blk.alloc (Blk.new _ _ _) _) hq
 have k4 := Blk.grows (blk_new_at (n := w.heap.size + 1) (by simp)) hq
 have hB := below_grows (((Below.refl w.heap.size w).alloc (Nat.le_refl _) _).alloc (by simp) _) (by simp) hq
 have x2 := k2.cell
 have f2 := k2.frozen
 have z2 := k2.lt
 have x4 := k4.cell
 have f4 := k4.frozen
 have z4 := k4.lt
 clear hq
 go_wp2
 refine bodyPost_ret (v := .tuple #[.agg #[.int .i64 0, .int .i64 0, .int .i64 0, .int .i64 0, .int .i64 0], .int .i64 ae]) (by simp [results, Tryz.results304, go_sem, x4]) rfl ⟨rfl, ?_⟩
 repeat (first | refine Below.setCell ?_ (by simp <;> omega) _ | refine Below.alloc ?_ (by simp <;> omega) _)
 exact hB
set_option maxRecDepth 100000 in
set_option maxHeartbeats 4000000 in
theorem adv_rng (n d a p f k ap af ae : Int) (w : World) (h1 : (atF n d a p f k).p = ap) (h2 : (atF n d a p f k).f = af) (h3 : (atF n d a p f k).e = ae) (he : ae = 0) (hp : 1125899906842624 < ap) : Calls Tryz.prog 304 #[.agg #[.int .i64 n, .int .i64 d, .int .i64 a, .int .i64 p, .int .i64 f], .int .i64 k] w fun e w' => e = .returned (.tuple #[.agg #[.int .i64 0, .int .i64 0, .int .i64 0, .int .i64 0, .int .i64 0], .int .i64 2]) ∧ Grows w w' := by
 subst he
 go_enter Tryz.func304, Tryz.ntmps304
 go_wp2_with fail
 refine (at_any n d a p f k _).mono ?_
 rintro e w1 ⟨rfl, hq⟩
 rw [h1, h2, h3]
 clear h1 h2 h3
 have k2 := Blk.grows (Blk.alloc (Blk.new _ _ _) _) hq
 have k4 := Blk.grows (blk_new_at (n := w.heap.size + 1) (by simp)) hq
 have hB := below_grows (((Below.refl w.heap.size w).alloc (Nat.le_refl _) _).alloc (by simp) _) (by simp) hq
 have x2 := k2.cell
 have f2 := k2.frozen
 have z2 := k2.lt
 have x4 := k4.cell
 have f4 := k4.frozen
 have z4 := k4.lt
 clear hq
 go_wp2
 refine bodyPost_ret (v := .tuple #[.agg #[.int .i64 0, .int .i64 0, .int .i64 0, .int .i64 0, .int .i64 0], .int .i64 2]) (by simp [results, Tryz.results304, go_sem, x4]) rfl ⟨rfl, ?_⟩
 repeat (first | refine Below.setCell ?_ (by simp <;> omega) _ | refine Below.alloc ?_ (by simp <;> omega) _)
 exact hB
set_option maxRecDepth 100000 in
set_option maxHeartbeats 4000000 in
theorem adv_good (n d a p f k ap af ae : Int) (w : World) (h1 : (atF n d a p f k).p = ap) (h2 : (atF n d a p f k).f = af) (h3 : (atF n d a p f k).e = ae) (he : ae = 0) (hp : ap ≤ 1125899906842624) : Calls Tryz.prog 304 #[.agg #[.int .i64 n, .int .i64 d, .int .i64 a, .int .i64 p, .int .i64 f], .int .i64 k] w fun e w' => e = .returned (.tuple #[.agg #[.int .i64 n, .int .i64 d, .int .i64 a, .int .i64 ap, .int .i64 af], .int .i64 0]) ∧ Grows w w' := by
 subst he
 go_enter Tryz.func304, Tryz.ntmps304
 go_wp2_with fail
 refine (at_any n d a p f k _).mono ?_
 rintro e w1 ⟨rfl, hq⟩
 rw [h1, h2, h3]
 clear h1 h2 h3
 have k2 := Blk.grows (Blk.alloc (Blk.new _ _ _) _) hq
 have k4 := Blk.grows (blk_new_at (n := w.heap.size + 1) (by simp)) hq
 have hB := below_grows (((Below.refl w.heap.size w).alloc (Nat.le_refl _) _).alloc (by simp) _) (by simp) hq
 have x2 := k2.cell
 have f2 := k2.frozen
 have z2 := k2.lt
 have x4 := k4.cell
 have f4 := k4.frozen
 have z4 := k4.lt
 clear hq
 go_wp2
 refine bodyPost_ret (v := .tuple #[.agg #[.int .i64 n, .int .i64 d, .int .i64 a, .int .i64 ap, .int .i64 af], .int .i64 0]) (by simp [results, Tryz.results304, go_sem, x4]) rfl ⟨rfl, ?_⟩
 repeat (first | refine Below.setCell ?_ (by simp <;> omega) _ | refine Below.alloc ?_ (by simp <;> omega) _)
 exact hB
set_option maxRecDepth 100000 in
theorem adv_any (n d a p f k : Int) (w : World) : Calls Tryz.prog 304 #[.agg #[.int .i64 n, .int .i64 d, .int .i64 a, .int .i64 p, .int .i64 f], .int .i64 k] w fun e w' => e = .returned (.tuple #[.agg #[.int .i64 (advF n d a p f k).n, .int .i64 (advF n d a p f k).d, .int .i64 (advF n d a p f k).a, .int .i64 (advF n d a p f k).p, .int .i64 (advF n d a p f k).f], .int .i64 (advF n d a p f k).e]) ∧ Grows w w' := by
 have hee : (atF n d a p f k).e = errF n d a p f k := by unfold atF; split <;> simp_all
 by_cases he : errF n d a p f k = 0
 ·by_cases hp : 1125899906842624 < (atF n d a p f k).p
  ·have e1 : advE n d a p f k = 2 := by unfold advE; rw [if_pos ⟨he, hp⟩]
   have key : advF n d a p f k = ⟨0, 0, 0, 0, 0, 2⟩ := by unfold advF; rw [if_neg (by omega), e1]
   rw [key]
   exact adv_rng n d a p f k _ _ _ w rfl rfl rfl (by rw [hee]; exact he) hp
  ·have e1 : advE n d a p f k = 0 := by unfold advE; rw [if_neg (by omega), he]
   have key : advF n d a p f k = ⟨n, d, a, (atF n d a p f k).p, (atF n d a p f k).f, 0⟩ := by unfold advF; rw [if_pos e1]
   rw [key]
   exact adv_good n d a p f k _ _ _ w rfl rfl rfl (by rw [hee]; exact he) (Int.not_lt.1 hp)
 ·have e1 : advE n d a p f k = errF n d a p f k := by unfold advE; rw [if_neg (by omega)]
  have key : advF n d a p f k = ⟨0, 0, 0, 0, 0, (atF n d a p f k).e⟩ := by unfold advF; rw [if_neg (by omega), e1, hee]
  rw [key]
  exact adv_bad n d a p f k _ _ _ w rfl rfl rfl (by rw [hee]; exact he)
set_option maxRecDepth 100000 in
set_option maxHeartbeats 4000000 in
theorem new_no (n d : Int) (w : World) (H : okPh n d 0 0 0 = false) : Calls Tryz.prog 163 #[.agg #[.int .i64 n, .int .i64 d]] w fun e w' => e = .returned (.tuple #[.agg #[.int .i64 0, .int .i64 0, .int .i64 0, .int .i64 0, .int .i64 0], .int .i64 1]) ∧ Grows w w' := by
 go_enter Tryz.func163, Tryz.ntmps163
 go_wp2_with fail
 refine (phvalid_any n d 0 0 0 _).mono ?_
 rintro e w1 ⟨rfl, hq⟩
 rw [H]
 have k2 := Blk.grows (Blk.alloc (blk_new_at (n := w.heap.size + 1) (by simp)) _) hq
 have k4 := Blk.grows (blk_new_at (n := w.heap.size + 2) (by simp)) hq
 have hB := below_grows ((((Below.refl w.heap.size w).alloc (Nat.le_refl _) _).alloc (by simp) _).alloc (by simp <;> omega) _) (by simp <;> omega) hq
 have x2 := k2.cell
 have f2 := k2.frozen
 have z2 := k2.lt
 have x4 := k4.cell
 have z4 := k4.lt
 clear hq
 go_wp2
 refine bodyPost_ret (v := .tuple #[.agg #[.int .i64 0, .int .i64 0, .int .i64 0, .int .i64 0, .int .i64 0], .int .i64 1]) (by simp [results, Tryz.results163, go_sem, x2]) rfl ⟨rfl, ?_⟩
 repeat (first | refine Below.setCell ?_ (by simp <;> omega) _ | refine Below.alloc ?_ (by simp <;> omega) _)
 exact hB
set_option maxRecDepth 100000 in
set_option maxHeartbeats 4000000 in
theorem new_yes (n d : Int) (w : World) (H : okPh n d 0 0 0 = true) : Calls Tryz.prog 163 #[.agg #[.int .i64 n, .int .i64 d]] w fun e w' => e = .returned (.tuple #[.agg #[.int .i64 n, .int .i64 d, .int .i64 0, .int .i64 0, .int .i64 0], .int .i64 0]) ∧ Grows w w' := by
 go_enter Tryz.func163, Tryz.ntmps163
 go_wp2_with fail
 refine (phvalid_any n d 0 0 0 _).mono ?_
 rintro e w1 ⟨rfl, hq⟩
 rw [H]
 have k2 := Blk.grows (Blk.alloc (blk_new_at (n := w.heap.size + 1) (by simp)) _) hq
 have k4 := Blk.grows (blk_new_at (n := w.heap.size + 2) (by simp)) hq
 have hB := below_grows ((((Below.refl w.heap.size w).alloc (Nat.le_refl _) _).alloc (by simp) _).alloc (by simp <;> omega) _) (by simp <;> omega) hq
 have x2 := k2.cell
 have f2 := k2.frozen
 have z2 := k2.lt
 have x4 := k4.cell
 have z4 := k4.lt
 clear hq
 go_wp2
 refine bodyPost_ret (v := .tuple #[.agg #[.int .i64 n, .int .i64 d, .int .i64 0, .int .i64 0, .int .i64 0], .int .i64 0]) (by simp [results, Tryz.results163, go_sem, x2]) rfl ⟨rfl, ?_⟩
 repeat (first | refine Below.setCell ?_ (by simp <;> omega) _ | refine Below.alloc ?_ (by simp <;> omega) _)
 exact hB
set_option maxRecDepth 100000 in
theorem new_any (n d : Int) (w : World) : Calls Tryz.prog 163 #[.agg #[.int .i64 n, .int .i64 d]] w fun e w' => e = .returned (.tuple #[.agg #[.int .i64 (newF n d).n, .int .i64 (newF n d).d, .int .i64 (newF n d).a, .int .i64 (newF n d).p, .int .i64 (newF n d).f], .int .i64 (newF n d).e]) ∧ Grows w w' := by
 unfold newF
 cases H : okPh n d 0 0 0
 ·exact new_no n d w H
 ·exact new_yes n d w H
set_option maxRecDepth 100000 in
set_option maxHeartbeats 4000000 in
theorem tune_bad (n d a p f k : Int) (w : World) (H : okPh n d a p f = false) : Calls Tryz.prog 211 #[.agg #[.int .i64 n, .int .i64 d, .int .i64 a, .int .i64 p, .int .i64 f], .int .i64 k] w fun e w' => e = .returned (.tuple #[.agg #[.int .i64 0, .int .i64 0, .int .i64 0, .int .i64 0, .int .i64 0], .int .i64 1]) ∧ Grows w w' := by
 go_enter Tryz.func211, Tryz.ntmps211
 go_wp2_with fail
 refine (phvalid_any n d a p f _).mono ?_
 rintro e w1 ⟨rfl, hq⟩
 rw [H]
 have k2 := Blk.grows (Blk.alloc (Blk.new _ _ _) _) hq
 have k4 := Blk.grows (blk_new_at (n := w.heap.size + 1) (by simp)) hq
 have hB := below_grows (((Below.refl w.heap.size w).alloc (Nat.le_refl _) _).alloc (by simp) _) (by simp) hq
 have x2 := k2.cell
 have f2 := k2.frozen
 have z2 := k2.lt
 have x4 := k4.cell
 have f4 := k4.frozen
 have z4 := k4.lt
 clear hq
 go_wp2_with (go_at_call 249; refine (tuned_any _ _).mono ?_; rintro e w' ⟨rfl, rfl⟩)
 refine bodyPost_ret (v := .tuple #[.agg #[.int .i64 0, .int .i64 0, .int .i64 0, .int .i64 0, .int .i64 0], .int .i64 1]) (by simp [results, Tryz.results211, go_sem, x4]) rfl ⟨rfl, ?_⟩
 repeat (first | refine Below.setCell ?_ (by simp <;> omega) _ | refine Below.alloc ?_ (by simp <;> omega) _)
 exact hB
set_option maxRecDepth 100000 in
set_option maxHeartbeats 4000000 in
theorem tune_rng (n d a p f k : Int) (w : World) (H : okPh n d a p f = true) (HA : okAd k = false) : Calls Tryz.prog 211 #[.agg #[.int .i64 n, .int .i64 d, .int .i64 a, .int .i64 p, .int .i64 f], .int .i64 k] w fun e w' => e = .returned (.tuple #[.agg #[.int .i64 0, .int .i64 0, .int .i64 0, .int .i64 0, .int .i64 0], .int .i64 2]) ∧ Grows w w' := by
 go_enter Tryz.func211, Tryz.ntmps211
 go_wp2_with fail
 refine (phvalid_any n d a p f _).mono ?_
 rintro e w1 ⟨rfl, hq⟩
 rw [H]
 have k2 := Blk.grows (Blk.alloc (Blk.new _ _ _) _) hq
 have k4 := Blk.grows (blk_new_at (n := w.heap.size + 1) (by simp)) hq
 have hB := below_grows (((Below.refl w.heap.size w).alloc (Nat.le_refl _) _).alloc (by simp) _) (by simp) hq
 have x2 := k2.cell
 have f2 := k2.frozen
 have z2 := k2.lt
 have x4 := k4.cell
 have f4 := k4.frozen
 have z4 := k4.lt
 clear hq
 go_wp2_with (go_at_call 249; refine (tuned_any _ _).mono ?_; rintro e w' ⟨rfl, rfl⟩)
 refine bodyPost_ret (v := .tuple #[.agg #[.int .i64 0, .int .i64 0, .int .i64 0, .int .i64 0, .int .i64 0], .int .i64 2]) (by simp [results, Tryz.results211, go_sem, x4]) rfl ⟨rfl, ?_⟩
 repeat (first | refine Below.setCell ?_ (by simp <;> omega) _ | refine Below.alloc ?_ (by simp <;> omega) _)
 exact hB
set_option maxRecDepth 100000 in
set_option maxHeartbeats 4000000 in
theorem tune_good (n d a p f k : Int) (w : World) (H : okPh n d a p f = true) (HA : okAd k = true) : Calls Tryz.prog 211 #[.agg #[.int .i64 n, .int .i64 d, .int .i64 a, .int .i64 p, .int .i64 f], .int .i64 k] w fun e w' => e = .returned (.tuple #[.agg #[.int .i64 n, .int .i64 d, .int .i64 k, .int .i64 p, .int .i64 f], .int .i64 0]) ∧ Grows w w' := by
 have ⟨ha1, ha2⟩ : -4096 ≤ k ∧ k ≤ 4096 := by simpa [okAd] using HA
 go_enter Tryz.func211, Tryz.ntmps211
 go_wp2_with fail
 refine (phvalid_any n d a p f _).mono ?_
 rintro e w1 ⟨rfl, hq⟩
 rw [H]
 have k2 := Blk.grows (Blk.alloc (Blk.new _ _ _) _) hq
 have k4 := Blk.grows (blk_new_at (n := w.heap.size + 1) (by simp)) hq
 have hB := below_grows (((Below.refl w.heap.size w).alloc (Nat.le_refl _) _).alloc (by simp) _) (by simp) hq
 have x2 := k2.cell
 have f2 := k2.frozen
 have z2 := k2.lt
 have x4 := k4.cell
 have f4 := k4.frozen
 have z4 := k4.lt
 clear hq
 go_wp2_with (go_at_call 249; refine (tuned_any _ _).mono ?_; rintro e w' ⟨rfl, rfl⟩)
 refine bodyPost_ret (v := .tuple #[.agg #[.int .i64 n, .int .i64 d, .int .i64 k, .int .i64 p, .int .i64 f], .int .i64 0]) (by simp [results, Tryz.results211, go_sem, x4]) rfl ⟨rfl, ?_⟩
 repeat (first | refine Below.setCell ?_ (by simp <;> omega) _ | refine Below.alloc ?_ (by simp <;> omega) _)
 exact hB
set_option maxRecDepth 100000 in
theorem tune_any (n d a p f k : Int) (w : World) : Calls Tryz.prog 211 #[.agg #[.int .i64 n, .int .i64 d, .int .i64 a, .int .i64 p, .int .i64 f], .int .i64 k] w fun e w' => e = .returned (.tuple #[.agg #[.int .i64 (tuneF n d a p f k).n, .int .i64 (tuneF n d a p f k).d, .int .i64 (tuneF n d a p f k).a, .int .i64 (tuneF n d a p f k).p, .int .i64 (tuneF n d a p f k).f], .int .i64 (tuneF n d a p f k).e]) ∧ Grows w w' := by
 unfold tuneF
 cases H : okPh n d a p f
 ·exact tune_bad n d a p f k w H
 ·cases HA : okAd k
  ·exact tune_rng n d a p f k w H HA
  ·exact tune_good n d a p f k w H HA
end Go.Proofs.YtbfdaojffffaaaaGreat

namespace Go.Proofs.YtbfdaojffffaaaaGreat
open Go.RowKit
theorem okPh_mk {n d a p f : Int} (h : okR n d = true) (h1 : n ≤ 768000) (h2 : d ≤ 768000) (h3 : -4096 ≤ a ∧ a ≤ 4096) (h4 : 0 ≤ p ∧ p ≤ 1125899906842624) (h5 : 0 ≤ f ∧ f < d * 65536) : okPh n d a p f = true := by
 simp only [okPh, okAd, Bool.and_eq_true, decide_eq_true_eq]
 exact ⟨⟨⟨⟨⟨⟨⟨h, h1⟩, h2⟩, h3⟩, h4.1⟩, h4.2⟩, h5.1⟩, h5.2⟩
theorem okPh_r {n d a p f : Int} (h : okPh n d a p f = true) : okR n d = true := by
 simp only [okPh, Bool.and_eq_true] at h
 exact h.1.1.1.1.1.1.1
def needF (n d a f k : Int) : Int := if k = 0 then 0 else max (aheadF n a f (k - 1) / (d * 65536) + 2) (aheadF n a f k / (d * 65536))
set_option maxRecDepth 100000 in
set_option maxHeartbeats 8000000 in
theorem need_less (n d a p f k : Int) (w : World) (H : okPh n d a p f = true) (h1 : 1 ≤ k) (h2 : k ≤ 65537) (hm : aheadF n a f k / (d * 65536) ≤ aheadF n a f (k - 1) / (d * 65536) + 2) : Calls Tryz.prog 271 #[.agg #[.int .i64 n, .int .i64 d, .int .i64 a, .int .i64 p, .int .i64 f], .int .i64 k] w fun e w' => e = .returned (.int .i64 (aheadF n a f (k - 1) / (d * 65536) + 2)) ∧ Grows w w' := by
 obtain ⟨-, -, -, -, c5, c6, -, -, -⟩ := ahead_bd H (by omega : 0 ≤ k) h2
 obtain ⟨-, -, -, -, g5, g6, -, -, -⟩ := ahead_bd H (by omega : 0 ≤ k - 1) (by omega)
 obtain ⟨b1, b2, b3, b4, b5, b6, b7, b8, b9, b10⟩ := okPh_bd H
 have hd0 : 0 ≤ d := by omega
 have hk0 : 0 ≤ k - 1 := by omega
 have hk1 : k - 1 ≤ 65537 := by omega
 have hk2 : 0 ≤ k := by omega
 have kz : (k == 0) = false := by simp; omega
 have wk : IntKind.i64.wrap (k - 1) = k - 1 := IntWalk.i64_in _ (by omega)
 have t3 : (d * 65536 == 0) = false := by simp; omega
 have t4 : ¬ d * 65536 = 0 := by omega
 have t5 : ¬ d * 65536 = -1 := by omega
 have d1 : 0 ≤ aheadF n a f k / (d * 65536) := Int.ediv_nonneg c5 (by omega)
 have d2 : aheadF n a f k / (d * 65536) ≤ aheadF n a f k := Int.ediv_le_self _ c5
 have d3 : 0 ≤ aheadF n a f (k - 1) / (d * 65536) := Int.ediv_nonneg g5 (by omega)
 have d4 : aheadF n a f (k - 1) / (d * 65536) ≤ aheadF n a f (k - 1) := Int.ediv_le_self _ g5
 have t1 : Int.tdiv (aheadF n a f k) (d * 65536) = aheadF n a f k / (d * 65536) := Int.tdiv_eq_ediv_of_nonneg c5
 have t2 : Int.tdiv (aheadF n a f (k - 1)) (d * 65536) = aheadF n a f (k - 1) / (d * 65536) := Int.tdiv_eq_ediv_of_nonneg g5
 have t6 : IntKind.i64.wrap (aheadF n a f k / (d * 65536)) = aheadF n a f k / (d * 65536) := IntWalk.i64_in _ (by omega)
 have t7 : IntKind.i64.wrap (aheadF n a f (k - 1) / (d * 65536)) = aheadF n a f (k - 1) / (d * 65536) := IntWalk.i64_in _ (by omega)
 have t8 : IntKind.i64.wrap (aheadF n a f (k - 1) / (d * 65536) + 2) = aheadF n a f (k - 1) / (d * 65536) + 2 := IntWalk.i64_in _ (by omega)
 have q1 : decide (aheadF n a f (k - 1) / (d * 65536) + 2 < aheadF n a f k / (d * 65536)) = false := by simp; omega
 have q2 : ¬ aheadF n a f (k - 1) / (d * 65536) + 2 < aheadF n a f k / (d * 65536) := by omega
 have hB := (Below.refl w.heap.size w).alloc (Nat.le_refl _) (Obj.cells #[.int .i64 n, .int .i64 d, .int .i64 a, .int .i64 p, .int .i64 f] 44)
 have k2 := Blk.new w 44 #[.int .i64 n, .int .i64 d, .int .i64 a, .int .i64 p, .int .i64 f]
 go_enter Tryz.func271, Tryz.ntmps271
 go_wp2
 generalize World.alloc w _ = w1 at *
 refine wp_region_mix (fun w' => Below w.heap.size w w' ∧ Blk w' w.heap.size 44 #[.int .i64 n, .int .i64 d, .int .i64 a, .int .i64 p, .int .i64 f]) [] 16 22 (by kernel_rfl) (by kernel_rfl) rfl ?_ float_none ?_ ?_
 ·exact fun w1 w2 ⟨h0, h1⟩ hg => ⟨below_grows h0 (Nat.le_refl _) hg, h1.grows hg⟩
 ·exact ⟨hB.drew, k2.drew⟩
 ·clear hB k2
  simp only [List.take_succ_cons, List.take_zero, List.drop_succ_cons, List.drop_zero]
  iterate 16
   refine calm_plain rfl rfl (v := ?_) (a' := ?_) (fun w1 hw1 => ?_) ?_ ?_
   rotate_left 2
   ·obtain ⟨_, j1⟩ := hw1
    have c1 := j1.cell
    go_simp
    first | exact calm_val | (refine calm_call ?_; refine ahead_any _ _ _ _ _ _ _ ?_ ?_ ?_ <;> first | assumption | omega) | (refine calm_call ?_; refine parts_any _ _ _ _ _ _ ?_ ?_ <;> assumption)
   ·simp only [Act.put, List.setIfInBounds_toArray, List.set_cons_succ, List.set_cons_zero]
    rfl
  refine calm_done (end_none ?_)
  rintro w7 ⟨hB, -⟩
  go_wp2
  go_ret
  first | exact ⟨rfl, hB⟩ | exact ⟨congrArg (fun x => Ending.returned (Value.int .i64 x)) (Int.max_eq_left hm), hB⟩
set_option maxRecDepth 100000 in
set_option maxHeartbeats 8000000 in
theorem need_more (n d a p f k : Int) (w : World) (H : okPh n d a p f = true) (h1 : 1 ≤ k) (h2 : k ≤ 65537) (hm : aheadF n a f (k - 1) / (d * 65536) + 2 < aheadF n a f k / (d * 65536)) : Calls Tryz.prog 271 #[.agg #[.int .i64 n, .int .i64 d, .int .i64 a, .int .i64 p, .int .i64 f], .int .i64 k] w fun e w' => e = .returned (.int .i64 (aheadF n a f k / (d * 65536))) ∧ Grows w w' := by
 obtain ⟨-, -, -, -, c5, c6, -, -, -⟩ := ahead_bd H (by omega : 0 ≤ k) h2
 obtain ⟨-, -, -, -, g5, g6, -, -, -⟩ := ahead_bd H (by omega : 0 ≤ k - 1) (by omega)
 obtain ⟨b1, b2, b3, b4, b5, b6, b7, b8, b9, b10⟩ := okPh_bd H
 have hd0 : 0 ≤ d := by omega
 have hk0 : 0 ≤ k - 1 := by omega
 have hk1 : k - 1 ≤ 65537 := by omega
 have hk2 : 0 ≤ k := by omega
 have kz : (k == 0) = false := by simp; omega
 have wk : IntKind.i64.wrap (k - 1) = k - 1 := IntWalk.i64_in _ (by omega)
 have t3 : (d * 65536 == 0) = false := by simp; omega
 have t4 : ¬ d * 65536 = 0 := by omega
 have t5 : ¬ d * 65536 = -1 := by omega
 have d1 : 0 ≤ aheadF n a f k / (d * 65536) := Int.ediv_nonneg c5 (by omega)
 have d2 : aheadF n a f k / (d * 65536) ≤ aheadF n a f k := Int.ediv_le_self _ c5
 have d3 : 0 ≤ aheadF n a f (k - 1) / (d * 65536) := Int.ediv_nonneg g5 (by omega)
 have d4 : aheadF n a f (k - 1) / (d * 65536) ≤ aheadF n a f (k - 1) := Int.ediv_le_self _ g5
 have t1 : Int.tdiv (aheadF n a f k) (d * 65536) = aheadF n a f k / (d * 65536) := Int.tdiv_eq_ediv_of_nonneg c5
 have t2 : Int.tdiv (aheadF n a f (k - 1)) (d * 65536) = aheadF n a f (k - 1) / (d * 65536) := Int.tdiv_eq_ediv_of_nonneg g5
 have t6 : IntKind.i64.wrap (aheadF n a f k / (d * 65536)) = aheadF n a f k / (d * 65536) := IntWalk.i64_in _ (by omega)
 have t7 : IntKind.i64.wrap (aheadF n a f (k - 1) / (d * 65536)) = aheadF n a f (k - 1) / (d * 65536) := IntWalk.i64_in _ (by omega)
 have t8 : IntKind.i64.wrap (aheadF n a f (k - 1) / (d * 65536) + 2) = aheadF n a f (k - 1) / (d * 65536) + 2 := IntWalk.i64_in _ (by omega)
 have q1 : decide (aheadF n a f (k - 1) / (d * 65536) + 2 < aheadF n a f k / (d * 65536)) = true := by simpa using hm
 have hB := (Below.refl w.heap.size w).alloc (Nat.le_refl _) (Obj.cells #[.int .i64 n, .int .i64 d, .int .i64 a, .int .i64 p, .int .i64 f] 44)
 have k2 := Blk.new w 44 #[.int .i64 n, .int .i64 d, .int .i64 a, .int .i64 p, .int .i64 f]
 go_enter Tryz.func271, Tryz.ntmps271
 go_wp2
 generalize World.alloc w _ = w1 at *
 refine wp_region_mix (fun w' => Below w.heap.size w w' ∧ Blk w' w.heap.size 44 #[.int .i64 n, .int .i64 d, .int .i64 a, .int .i64 p, .int .i64 f]) [] 16 22 (by kernel_rfl) (by kernel_rfl) rfl ?_ float_none ?_ ?_
 ·exact fun w1 w2 ⟨h0, h1⟩ hg => ⟨below_grows h0 (Nat.le_refl _) hg, h1.grows hg⟩
 ·exact ⟨hB.drew, k2.drew⟩
 ·clear hB k2
  simp only [List.take_succ_cons, List.take_zero, List.drop_succ_cons, List.drop_zero]
  iterate 16
   refine calm_plain rfl rfl (v := ?_) (a' := ?_) (fun w1 hw1 => ?_) ?_ ?_
   rotate_left 2
   ·obtain ⟨_, j1⟩ := hw1
    have c1 := j1.cell
    go_simp
    first | exact calm_val | (refine calm_call ?_; refine ahead_any _ _ _ _ _ _ _ ?_ ?_ ?_ <;> first | assumption | omega) | (refine calm_call ?_; refine parts_any _ _ _ _ _ _ ?_ ?_ <;> assumption)
   ·simp only [Act.put, List.setIfInBounds_toArray, List.set_cons_succ, List.set_cons_zero]
    rfl
  refine calm_done (end_none ?_)
  rintro w7 ⟨hB, -⟩
  go_wp2
  go_ret
  first | exact ⟨rfl, hB⟩ | exact ⟨congrArg (fun x => Ending.returned (Value.int .i64 x)) (Int.max_eq_right (Int.le_of_lt hm)), hB⟩
set_option maxRecDepth 100000 in
theorem need_any (n d a p f k : Int) (w : World) (H : okPh n d a p f = true) (h1 : 0 ≤ k) (h2 : k ≤ 65537) : Calls Tryz.prog 271 #[.agg #[.int .i64 n, .int .i64 d, .int .i64 a, .int .i64 p, .int .i64 f], .int .i64 k] w fun e w' => e = .returned (.int .i64 (needF n d a f k)) ∧ Grows w w' := by
 unfold needF
 by_cases h0 : k = 0
 ·subst h0
  go_enter Tryz.func271, Tryz.ntmps271
  go_wp2
  go_ret
  exact ⟨rfl, (Below.refl _ _).alloc (Nat.le_refl _) _⟩
 ·rw [if_neg h0]
  by_cases hm : aheadF n a f k / (d * 65536) ≤ aheadF n a f (k - 1) / (d * 65536) + 2
  ·rw [Int.max_eq_left hm]; exact need_less n d a p f k w H (by omega) h2 hm
  ·rw [Int.max_eq_right (by omega)]; exact need_more n d a p f k w H (by omega) h2 (by omega)
def needP (n d a p f k : Int) : Int := if errF n d a p f k = 0 then needF n d a f k else 0
set_option maxRecDepth 100000 in
set_option maxHeartbeats 4000000 in
theorem neede_any (n d a p f k : Int) (w : World) : Calls Tryz.prog 273 #[.agg #[.int .i64 n, .int .i64 d, .int .i64 a, .int .i64 p, .int .i64 f], .int .i64 k] w fun e w' => e = .returned (.tuple #[.int .i64 (needP n d a p f k), .int .i64 (errF n d a p f k)]) ∧ Grows w w' := by
 unfold needP
 by_cases he : errF n d a p f k = 0
 ·rw [if_pos he, he]
  have ⟨H, h1, h2⟩ : okPh n d a p f = true ∧ 0 ≤ k ∧ k ≤ 65536 := by
   rcases errF_cases n d a p f k with ⟨H, e⟩ | ⟨H, hk, e⟩ | ⟨H, h1, h2, e⟩
   ·omega
   ·omega
   ·exact ⟨H, h1, h2⟩
  go_enter Tryz.func273, Tryz.ntmps273
  go_wp2_with fail
  refine (check_any n d a p f k _).mono ?_
  rintro e w1 ⟨rfl, hq⟩
  have k2 := Blk.grows (Blk.new _ _ _) hq
  have hB := below_grows ((Below.refl w.heap.size w).alloc (Nat.le_refl _) _) (by simp) hq
  have x2 := k2.cell
  have f2 := k2.frozen
  have z2 := k2.lt
  clear hq
  rw [he]
  go_wp2_with fail
  refine (need_any n d a p f k _ H h1 (by omega)).mono ?_
  rintro e w2 ⟨rfl, hq⟩
  replace hB := below_grows hB (Nat.le_refl _) hq
  go_wp2
  go_ret2
  exact ⟨rfl, hB⟩
 ·rw [if_neg he]
  have hne : (errF n d a p f k == 0) = false := by simpa using he
  go_enter Tryz.func273, Tryz.ntmps273
  go_wp2_with fail
  refine (check_any n d a p f k _).mono ?_
  rintro e w1 ⟨rfl, hq⟩
  have k2 := Blk.grows (Blk.new _ _ _) hq
  have hB := below_grows ((Below.refl w.heap.size w).alloc (Nat.le_refl _) _) (by simp) hq
  have x2 := k2.cell
  have f2 := k2.frozen
  have z2 := k2.lt
  clear hq
  go_wp2
  go_ret2
  exact ⟨rfl, hB⟩
end Go.Proofs.YtbfdaojffffaaaaGreat

namespace Go.Proofs.YtbfdaojffffaaaaGreat
open Go.RowKit
set_option maxRecDepth 100000 in
theorem ahead_mono {n d a p f j k : Int} (h : okPh n d a p f = true) (hjk : j ≤ k) : aheadF n a f j ≤ aheadF n a f k := by
 obtain ⟨-, -, -, -, -, -, c1, -, -⟩ := ahead_bd (k := 0) h (by omega) (by omega)
 have := Int.mul_le_mul_of_nonneg_right hjk c1
 unfold aheadF
 rw [Int.mul_assoc, Int.mul_assoc]
 omega
set_option maxRecDepth 100000 in
theorem need_mono {n d a p f j k : Int} (h : okPh n d a p f = true) (h0 : 0 ≤ j) (hjk : j ≤ k) (hk : k ≤ 65537) : needF n d a f j ≤ needF n d a f k := by
 obtain ⟨b1, b2, b3, b4, b5, b6, b7, b8, b9, b10⟩ := okPh_bd h
 have hd : 0 < d * 65536 := by omega
 by_cases hj : j = 0
 ·subst hj
  unfold needF
  rw [if_pos rfl]
  split
  ·omega
  ·obtain ⟨-, -, -, -, c5, -, -, -, -⟩ := ahead_bd h (by omega : 0 ≤ k) hk
   have := Int.ediv_nonneg c5 (by omega : 0 ≤ d * 65536)
   omega
 ·unfold needF
  rw [if_neg hj, if_neg (by omega)]
  have h1 := Int.ediv_le_ediv hd (ahead_mono h (show j - 1 ≤ k - 1 by omega))
  have h2 := Int.ediv_le_ediv hd (ahead_mono h hjk)
  omega
/-- r is how many output frames can be made of m input frames. -/
def IsMake (n d a f m r : Int) : Prop := 0 ≤ r ∧ r ≤ 65536 ∧ needF n d a f r ≤ m ∧ (r = 65536 ∨ m < needF n d a f (r + 1))
set_option maxRecDepth 100000 in
theorem need_zero {n d a f : Int} : needF n d a f 0 = 0 := by unfold needF; rw [if_pos rfl]
set_option maxRecDepth 100000 in
set_option maxHeartbeats 4000000 in
theorem clo_any (n d a p f m i : Int) (g2 g3 : Nat) (w : World) (H : okPh n d a p f = true) (k2 : Blk w g2 44 #[.int .i64 n, .int .i64 d, .int .i64 a, .int .i64 p, .int .i64 f]) (k3 : Blk w g3 2 #[.int .i64 m]) (h1 : 0 ≤ i) (h2 : i < 65536) :
 Calls Tryz.prog 270 #[.int .i64 i, .pointer (some ⟨g2, 0, none⟩), .pointer (some ⟨g3, 0, none⟩)] w fun e w' => e = .returned (.bool (decide (m < needF n d a f (i + 1)))) ∧ Grows w w' := by
 have wi : IntKind.i64.wrap (i + 1) = i + 1 := IntWalk.i64_in _ (by omega)
 have i1 : 0 ≤ i + 1 := by omega
 have i2 : i + 1 ≤ 65537 := by omega
 go_enter Tryz.func270, Tryz.ntmps270
 go_wp2
 refine wp_region_mix (fun w' => Below w.heap.size w w' ∧ Blk w' g2 44 #[.int .i64 n, .int .i64 d, .int .i64 a, .int .i64 p, .int .i64 f] ∧ Blk w' g3 2 #[.int .i64 m]) [] 7 11 (by kernel_rfl) (by kernel_rfl) rfl ?_ float_none ?_ ?_
 ·exact fun w1 w2 ⟨h0, h1, h2⟩ hg => ⟨below_grows h0 (Nat.le_refl _) hg, h1.grows hg, h2.grows hg⟩
 ·exact ⟨(Below.refl _ _).drew, k2.drew, k3.drew⟩
 ·clear k2 k3
  simp only [List.take_succ_cons, List.take_zero, List.drop_succ_cons, List.drop_zero]
  iterate 7
   refine calm_plain rfl rfl (v := ?_) (a' := ?_) (fun w1 hw1 => ?_) ?_ ?_
   rotate_left 2
   ·obtain ⟨_, j2, j3⟩ := hw1
    have c2 := j2.cell
    have c3 := j3.cell
    go_simp
    first | exact calm_val | (refine calm_call ?_; refine need_any _ _ _ _ _ _ _ ?_ ?_ ?_ <;> first | assumption | omega)
   ·simp only [Act.put, List.setIfInBounds_toArray, List.set_cons_succ, List.set_cons_zero]
    rfl
  refine calm_done (end_none ?_)
  rintro w7 ⟨hB, -, -⟩
  go_wp2
  go_ret
  exact ⟨rfl, hB⟩
set_option maxRecDepth 100000 in
set_option maxHeartbeats 8000000 in
theorem search_any (n d a p f m : Int) (g2 g3 : Nat) (w : World) (H : okPh n d a p f = true) (k2 : Blk w g2 44 #[.int .i64 n, .int .i64 d, .int .i64 a, .int .i64 p, .int .i64 f]) (k3 : Blk w g3 2 #[.int .i64 m]) (h1 : 0 ≤ m) :
 Calls Tryz.prog 269 #[.int .i64 65536, .func (.func 270) #[] #[.pointer (some ⟨g2, 0, none⟩), .pointer (some ⟨g3, 0, none⟩)]] w fun e w' => (∃ r, IsMake n d a f m r ∧ e = .returned (.int .i64 r)) ∧ Grows w w' := by
 go_enter Tryz.func269, Tryz.ntmps269
 go_wp2
 go_loopw [5, 6] (fun u v wr => ∃ i j : Int, u = .int .i64 i ∧ v = .int .i64 j ∧ 0 ≤ i ∧ i ≤ j ∧ j ≤ 65536 ∧ needF n d a f i ≤ m ∧ (j = 65536 ∨ m < needF n d a f (j + 1)) ∧ Grows w wr ∧ Blk wr g2 44 #[.int .i64 n, .int .i64 d, .int .i64 a, .int .i64 p, .int .i64 f] ∧ Blk wr g3 2 #[.int .i64 m]) (fun u v _ => (intOf v - intOf u).toNat)
 case atStart => exact ⟨0, 65536, rfl, rfl, by omega, by omega, by omega, by rw [need_zero]; omega, .inl rfl, Below.refl _ _, k2, k3⟩
 case round =>
  clear k2 k3
  obtain ⟨i, j, rfl, rfl, hi, hij, hj, hn1, hn2, hB, k2, k3⟩ := hrel
  by_cases hlt : i < j
  ·have wa : IntKind.i64.wrap (i + j) = i + j := IntWalk.i64_in _ (by omega)
   have wb : IntKind.u64.wrap (i + j) = i + j := IntWalk.u64_in _ (by omega)
   have wc : IntKind.u64.wrap ((i + j) / 2) = (i + j) / 2 := IntWalk.u64_in _ (by omega)
   have wd : IntKind.i64.wrap ((i + j) / 2) = (i + j) / 2 := IntWalk.i64_in _ (by omega)
   have hh1 : i ≤ (i + j) / 2 := by omega
   have hh2 : (i + j) / 2 < j := by omega
   obtain ⟨h, hh⟩ : ∃ h, (i + j) / 2 = h := ⟨_, rfl⟩
   rw [hh] at hh1 hh2 wc wd
   have we : IntKind.i64.wrap (h + 1) = h + 1 := IntWalk.i64_in _ (by omega)
   go_wp2_with fail
   refine (clo_any n d a p f m h g2 g3 _ H k2 k3 (by omega) (by omega)).mono ?_
   rintro e w2 ⟨rfl, hq⟩
   replace k2 := k2.grows hq
   replace k3 := k3.grows hq
   replace hB := hB.trans' hq
   by_cases hm : m < needF n d a f (h + 1)
   ·have q1 : decide (m < needF n d a f (h + 1)) = true := by simpa using hm
    go_wp2
    go_roundw
    case rel => exact ⟨i, h, rfl, rfl, by omega, by omega, by omega, hn1, .inr hm, hB, k2, k3⟩
    case measure => simp [intOf] <;> omega
   ·have q1 : decide (m < needF n d a f (h + 1)) = false := by simpa using hm
    go_wp2
    go_roundw
    case rel => exact ⟨h + 1, j, by go_num, rfl, by omega, by omega, by omega, by omega, hn2, hB, k2, k3⟩
    case measure => simp [intOf] <;> omega
  ·have hij' : i = j := by omega
   subst hij'
   go_wp2
   go_ret
   exact ⟨⟨i, ⟨hi, by omega, hn1, hn2⟩, rfl⟩, hB⟩
set_option maxRecDepth 100000 in
set_option maxHeartbeats 8000000 in
theorem mk_good (n d a p f m : Int) (w : World) (H : okPh n d a p f = true) (h1 : 0 ≤ m) (h2 : m ≤ 1099511627776) : Calls Tryz.prog 213 #[.agg #[.int .i64 n, .int .i64 d, .int .i64 a, .int .i64 p, .int .i64 f], .int .i64 m] w fun e w' => (∃ r, IsMake n d a f m r ∧ e = .returned (.tuple #[.int .i64 r, .int .i64 0])) ∧ Grows w w' := by
 go_enter Tryz.func213, Tryz.ntmps213
 go_wp2_with fail
 refine (phvalid_any n d a p f _).mono ?_
 rintro e w1 ⟨rfl, hq⟩
 rw [H]
 have k2 := Blk.grows (Blk.alloc (Blk.new _ _ _) _) hq
 have k3 := Blk.grows (blk_new_at (n := w.heap.size + 1) (by simp)) hq
 have hB := below_grows (((Below.refl w.heap.size w).alloc (Nat.le_refl _) _).alloc (by simp) _) (by simp) hq
 have x3 := k3.cell
 have z3 := k3.lt
 clear hq
 go_wp2_with fail
 refine (search_any n d a p f m _ _ _ H k2 k3 h1).mono ?_
 rintro e w2 ⟨⟨r, hr, rfl⟩, hq⟩
 replace hB := below_grows hB (Nat.le_refl _) hq
 go_wp2
 go_ret2
 exact ⟨⟨r, hr, rfl⟩, hB⟩
end Go.Proofs.YtbfdaojffffaaaaGreat

namespace Go.Proofs.YtbfdaojffffaaaaGreat
open Go.RowKit
theorem gF_bd {a b : Int} (h1 : 1 ≤ a) (h2 : 1 ≤ b) : 1 ≤ gF a b ∧ gF a b ≤ a ∧ gF a b ≤ b ∧ gF a b ∣ a ∧ gF a b ∣ b := by
 have h3 : 0 < Int.gcd a b := Int.gcd_pos_of_ne_zero_left _ (by omega)
 have h4 : gF a b ∣ a := Int.gcd_dvd_left ..
 have h5 : gF a b ∣ b := Int.gcd_dvd_right ..
 unfold gF at *
 exact ⟨by omega, Int.le_of_dvd (by omega) h4, Int.le_of_dvd (by omega) h5, h4, h5⟩
theorem okR_div {a b : Int} (h1 : 1 ≤ a) (h2 : 1 ≤ b) (h3 : a ≤ 68719476736) (h4 : b ≤ 68719476736) : okR (a / gF a b) (b / gF a b) = true ∧ a / gF a b ≤ a ∧ b / gF a b ≤ b ∧ 1 ≤ a / gF a b ∧ 1 ≤ b / gF a b := by
 obtain ⟨g1, g2, g3, g4, g5⟩ := gF_bd h1 h2
 have a1 : 1 ≤ a / gF a b := (Int.le_ediv_iff_mul_le (by omega)).2 (by omega)
 have b1 : 1 ≤ b / gF a b := (Int.le_ediv_iff_mul_le (by omega)).2 (by omega)
 have a2 := Int.ediv_le_self (a := a) (gF a b) (by omega)
 have b2 := Int.ediv_le_self (a := b) (gF a b) (by omega)
 have hg : gF (a / gF a b) (b / gF a b) = 1 := by
  obtain ⟨m, rfl⟩ := Int.eq_ofNat_of_zero_le (show 0 ≤ a by omega)
  obtain ⟨n, rfl⟩ := Int.eq_ofNat_of_zero_le (show 0 ≤ b by omega)
  have e1 : gF (m : Int) (n : Int) = ((Nat.gcd m n : Nat) : Int) := rfl
  have e2 : Nat.gcd (m / Nat.gcd m n) (n / Nat.gcd m n) = 1 := Nat.coprime_div_gcd_div_gcd (Nat.gcd_pos_of_pos_left _ (by omega))
  rw [e1, ← Int.natCast_ediv, ← Int.natCast_ediv]
  show ((Nat.gcd (m / Nat.gcd m n) (n / Nat.gcd m n) : Nat) : Int) = 1
  rw [e2]
  rfl
 exact ⟨by simp only [okR, hg, Bool.and_eq_true, decide_eq_true_eq]; exact ⟨⟨⟨⟨a1, b1⟩, by omega⟩, by omega⟩, rfl⟩, by omega, by omega, a1, b1⟩
theorem gF_comm (a b : Int) : gF a b = gF b a := by unfold gF; rw [Int.gcd_comm]
theorem okR_inv {n d : Int} (h : okR n d = true) : okR d n = true := by
 have ⟨h1, h2, h3, h4, h5⟩ := okR_bd h
 rw [gF_comm] at h5
 simp only [okR, h5, Bool.and_eq_true, decide_eq_true_eq]
 exact ⟨⟨⟨⟨h2, h1⟩, h4⟩, h3⟩, rfl⟩
set_option maxRecDepth 100000 in
set_option maxHeartbeats 4000000 in
theorem pmake_good (a b : Int) (w : World) (h1 : 1 ≤ a) (h2 : 1 ≤ b) (h3 : a ≤ 68719476736) (h4 : b ≤ 68719476736) : Calls Tryz.prog 84 #[.int .i64 a, .int .i64 b] w fun e w' => e = .returned (.tuple #[.agg #[.int .i64 (a / gF a b), .int .i64 (b / gF a b)], .int .i64 0]) ∧ Grows w w' := by
 obtain ⟨g1, g2, g3, -, -⟩ := gF_bd h1 h2
 obtain ⟨-, q1, q2, q3, q4⟩ := okR_div h1 h2 h3 h4
 have t1 : Int.tdiv a (gF a b) = a / gF a b := Int.tdiv_eq_ediv_of_nonneg (by omega)
 have t2 : Int.tdiv b (gF a b) = b / gF a b := Int.tdiv_eq_ediv_of_nonneg (by omega)
 have t3 : (gF a b == 0) = false := by simp; omega
 have t4 : ¬ gF a b = 0 := by omega
 have t5 : ¬ gF a b = -1 := by omega
 have wa : IntKind.i64.wrap (a / gF a b) = a / gF a b := IntWalk.i64_in _ (by omega)
 have wb : IntKind.i64.wrap (b / gF a b) = b / gF a b := IntWalk.i64_in _ (by omega)
 have bx : a / gF a b ≤ 68719476736 := by omega
 have byy : b / gF a b ≤ 68719476736 := by omega
 go_enter Tryz.func84, Tryz.ntmps84
 go_wp2_with fail
 refine (gcd_any a b _ (by omega) (by omega) (by omega) (by omega)).mono ?_
 rintro e w1 ⟨rfl, hq⟩
 have k4 := Blk.grows (Blk.new _ _ _) hq
 have hB := below_grows ((Below.refl w.heap.size w).alloc (Nat.le_refl _) _) (by simp) hq
 clear hq
 generalize hx : a / gF a b = x at *
 generalize hy : b / gF a b = y at *
 generalize hgg : gF a b = gg at *
 have x4 := k4.cell
 have f4 := k4.frozen
 go_wp2
 go_region
 all_goals go_wp2
 all_goals
  have kk := ((k4.drew.set_ 0 (.int .i64 x)).set_ 1 (.int .i64 y))
  have hB2 := ((hB.drew.setCell (p := ⟨w.heap.size, 0, none⟩) (by simp) (.int .i64 x)).setCell (p := ⟨w.heap.size, 1, none⟩) (by simp) (.int .i64 y))
  refine bodyPost_ret (v := .tuple #[.agg #[.int .i64 x, .int .i64 y], .int .i64 0]) (by simp [results, Tryz.results84, go_sem, x4]) rfl ⟨by rw [hgg, hx, hy], hB2⟩
set_option maxRecDepth 100000 in
set_option maxHeartbeats 4000000 in
theorem pinv_good (n d : Int) (w : World) (h : okR n d = true) : Calls Tryz.prog 179 #[.agg #[.int .i64 n, .int .i64 d]] w fun e w' => e = .returned (.tuple #[.agg #[.int .i64 d, .int .i64 n], .int .i64 0]) ∧ Grows w w' := by
 go_enter Tryz.func179, Tryz.ntmps179
 go_wp2_with fail
 refine (ratio_any n d _).mono ?_
 rintro e w1 ⟨rfl, hq⟩
 rw [h]
 have k1 := Blk.grows (Blk.alloc (Blk.new _ _ _) _) hq
 have k2 := Blk.grows (blk_new_at (n := w.heap.size + 1) (by simp)) hq
 have hB := below_grows (((Below.refl w.heap.size w).alloc (Nat.le_refl _) _).alloc (by simp) _) (by simp) hq
 have x1 := k1.cell
 have x2 := k2.cell
 have f2 := k2.frozen
 clear hq
 go_wp2
 refine bodyPost_ret (v := .tuple #[.agg #[.int .i64 d, .int .i64 n], .int .i64 0]) (by simp [results, Tryz.results179, go_sem, x2]) rfl ⟨rfl, ?_⟩
 exact (hB.setCell (p := ⟨w.heap.size + 1, 0, none⟩) (by simp) _).setCell (p := ⟨w.heap.size + 1, 1, none⟩) (by simp) _
namespace M64
theorem maskN (a : Nat) (ha : a < 18446744073709551616) : bits .and .u64 (a : Int) 4294967295 = ((a % 4294967296 : Nat) : Int) := by
 have h := bits_and_u64_nat a 4294967295 ha (by omega)
 have e : a &&& 4294967295 = a % 4294967296 := Nat.and_two_pow_sub_one_eq_mod a 32
 rw [e] at h
 exact h
theorem divN (a : Nat) : (a : Int) / 4294967296 = ((a / 4294967296 : Nat) : Int) := by omega
theorem mulN (a b : Nat) : (a : Int) * (b : Int) = ((a * b : Nat) : Int) := (Int.natCast_mul a b).symm
theorem addN (a b : Nat) : (a : Int) + (b : Int) = ((a + b : Nat) : Int) := (Int.natCast_add a b).symm
theorem wrapN (a : Nat) (ha : a < 18446744073709551616) : IntKind.u64.wrap (a : Int) = (a : Int) := by rw [IntKind.wrap_u64]; omega
theorem wrapM (a : Nat) : IntKind.u64.wrap (a : Int) = ((a % 18446744073709551616 : Nat) : Int) := by rw [IntKind.wrap_u64]; omega
end M64
set_option maxRecDepth 100000 in
set_option maxHeartbeats 4000000 in
theorem mul64_any (x y : Nat) (hx : x < 18446744073709551616) (hy : y < 18446744073709551616) (w : World) :
 Calls Tryz.prog 122 #[.int .u64 x, .int .u64 y] w fun e w' => e = .returned (.tuple #[.int .u64 ((x * y / 18446744073709551616 : Nat) : Int), .int .u64 ((x * y % 18446744073709551616 : Nat) : Int)]) ∧ w' = w := by
 obtain ⟨bd, bt, bw, hhi⟩ := Lib.mul64_hi x y hx hy
 have ba := Lib.half_mul_le (a := x / 4294967296) (b := y / 4294967296) (by omega) (by omega)
 have bb := Lib.half_mul_le (a := x / 4294967296) (b := y % 4294967296) (by omega) (by omega)
 have bc := Lib.half_mul_le (a := x % 4294967296) (b := y / 4294967296) (by omega) (by omega)
 have ba' : x / 4294967296 * (y / 4294967296) < 18446744073709551616 := by omega
 have bb' : x / 4294967296 * (y % 4294967296) < 18446744073709551616 := by omega
 have bc' : x % 4294967296 * (y / 4294967296) < 18446744073709551616 := by omega
 have bh1 : x / 4294967296 * (y / 4294967296) + (x / 4294967296 * (y % 4294967296) + x % 4294967296 * (y % 4294967296) / 4294967296) / 4294967296 < 18446744073709551616 := by omega
 have bh : x / 4294967296 * (y / 4294967296) + (x / 4294967296 * (y % 4294967296) + x % 4294967296 * (y % 4294967296) / 4294967296) / 4294967296 + ((x / 4294967296 * (y % 4294967296) + x % 4294967296 * (y % 4294967296) / 4294967296) % 4294967296 + x % 4294967296 * (y / 4294967296)) / 4294967296 < 18446744073709551616 := by omega
 go_enter Tryz.func122, Tryz.ntmps122
 go_wp2
 simp only [M64.maskN x hx, M64.maskN y hy, M64.divN, M64.mulN, M64.addN, M64.wrapN _ bd, M64.wrapN _ bb', M64.wrapN _ bt, M64.maskN _ bt, M64.wrapN _ bc', M64.wrapN _ bw, M64.wrapN _ ba', M64.wrapN _ bh1, M64.wrapN _ bh, M64.wrapM (x * y)]
 rw [hhi]
 go_ret2
 exact ⟨rfl, rfl⟩
set_option maxRecDepth 100000 in
set_option maxHeartbeats 4000000 in
theorem div64_low (lo y : Int) (h1 : 0 ≤ lo) (h2 : lo < 18446744073709551616) (h3 : 1 ≤ y) (h4 : y < 18446744073709551616) (w : World) :
 Calls Tryz.prog 123 #[.int .u64 0, .int .u64 lo, .int .u64 y] w fun e w' => e = .returned (.tuple #[.int .u64 (lo / y), .int .u64 (lo % y)]) ∧ Grows w w' := by
 have t3 : (y == 0) = false := by simp; omega
 have t4 : ¬ y = 0 := by omega
 have t6 : ¬ y ≤ 0 := by omega
 have t7 : decide (y ≤ 0) = false := by simp; omega
 have t1 : Int.tdiv lo y = lo / y := Int.tdiv_eq_ediv_of_nonneg (by omega)
 have t2 : Int.tmod lo y = lo % y := Int.tmod_eq_emod_of_nonneg (by omega)
 have b1 := Int.ediv_le_self (a := lo) y h1
 have b2 := Int.ediv_nonneg h1 (show 0 ≤ y by omega)
 have b3 := Int.emod_nonneg lo t4
 have b4 := Int.emod_lt_of_pos lo (show 0 < y by omega)
 have wa : IntKind.u64.wrap (lo / y) = lo / y := IntWalk.u64_in _ (by omega)
 have wb : IntKind.u64.wrap (lo % y) = lo % y := IntWalk.u64_in _ (by omega)
 go_enter Tryz.func123, Tryz.ntmps123
 go_wp2
 go_region
 all_goals go_wp2
 all_goals
  go_ret2
  exact ⟨by first | rfl | simp [t1, t2, wa, wb], (Below.refl _ _).drew⟩
end Go.Proofs.YtbfdaojffffaaaaGreat

namespace Go.Proofs.YtbfdaojffffaaaaGreat
open Go.RowKit
set_option maxRecDepth 100000 in
set_option maxHeartbeats 4000000 in
theorem rtchk_any (k n d : Int) (w : World) (h : okR n d = true) (h1 : -1125899906842624 ≤ k) (h2 : k ≤ 1125899906842624) : Calls Tryz.prog 171 #[.int .i64 k, .agg #[.int .i64 n, .int .i64 d]] w fun e w' => e = .returned (.int .i64 0) ∧ Grows w w' := by
 go_enter Tryz.func171, Tryz.ntmps171
 go_wp2_with fail
 refine (ratio_any n d _).mono ?_
 rintro e w1 ⟨rfl, hq⟩
 rw [h]
 have hB := below_grows ((Below.refl w.heap.size w).alloc (Nat.le_refl _) _) (by simp) hq
 clear hq
 have e1 : decide (k < -1125899906842624) = false := by simp only [decide_eq_false_iff_not]; omega
 have e2 : decide (1125899906842624 < k) = false := by simp only [decide_eq_false_iff_not]; omega
 go_wp2
 go_ret
 exact ⟨rfl, hB⟩
theorem div_lo {k n d : Int} (h : okR n d = true) (h1 : 0 ≤ k) (_h2 : k * n < 4611686018427387904) :
 0 ≤ k * n ∧ 0 ≤ k * n / d ∧ k * n / d ≤ k * n ∧ 0 ≤ k * n % d ∧ k * n % d < d ∧ k * n % d ≤ k * n := by
 obtain ⟨a1, a2, a3, a4, -⟩ := okR_bd h
 have b0 : 0 ≤ k * n := Int.mul_nonneg h1 (by omega)
 have b1 := Int.ediv_nonneg b0 (show 0 ≤ d by omega)
 have b2 := Int.ediv_le_self (a := k * n) d b0
 have b3 := Int.emod_nonneg (k * n) (show d ≠ 0 by omega)
 have b4 := Int.emod_lt_of_pos (k * n) (show 0 < d by omega)
 have b5 : k * n % d ≤ k * n := by
  have := Int.mul_ediv_add_emod (k * n) d
  have := Int.mul_nonneg (show 0 ≤ d by omega) b1
  omega
 exact ⟨b0, b1, b2, b3, b4, b5⟩
set_option maxRecDepth 100000 in
set_option maxHeartbeats 8000000 in
theorem divide_lo (k n d : Int) (w : World) (h : okR n d = true) (h1 : 0 ≤ k) (h3 : k ≤ 1125899906842624) (h2 : k * n < 4611686018427387904) : Calls Tryz.prog 172 #[.int .i64 k, .agg #[.int .i64 n, .int .i64 d]] w fun e w' => e = .returned (.tuple #[.int .i64 (k * n / d), .int .i64 (k * n % d), .bool true]) ∧ Grows w w' := by
 obtain ⟨a1, a2, a3, a4, -⟩ := okR_bd h
 obtain ⟨b0, b1, b2, b3, b4, b5⟩ := div_lo h h1 h2
 have wk : IntKind.u64.wrap k = k := IntWalk.u64_in _ (by omega)
 have wn : IntKind.u64.wrap n = n := IntWalk.u64_in _ (by omega)
 have wd : IntKind.u64.wrap d = d := IntWalk.u64_in _ (by omega)
 have hm := fun w => mul64_any k.toNat n.toNat (by omega) (by omega) w
 rw [Int.toNat_of_nonneg h1, Int.toNat_of_nonneg (show 0 ≤ n by omega)] at hm
 have e0 : ((k.toNat * n.toNat : Nat) : Int) = k * n := by rw [Int.natCast_mul, Int.toNat_of_nonneg h1, Int.toNat_of_nonneg (show 0 ≤ n by omega)]
 have e1 : ((k.toNat * n.toNat / 18446744073709551616 : Nat) : Int) = 0 := by omega
 have e2 : ((k.toNat * n.toNat % 18446744073709551616 : Nat) : Int) = k * n := by omega
 rw [e1, e2] at hm
 clear e0 e1 e2
 have hv := fun w => div64_low (k * n) d b0 (by omega) a2 (by omega) w
 generalize k * n / d = q at *
 generalize k * n % d = r at *
 have wq : IntKind.i64.wrap q = q := IntWalk.i64_in _ (by omega)
 have wr' : IntKind.i64.wrap r = r := IntWalk.i64_in _ (by omega)
 generalize k * n = p at *
 have d1 : decide (k < 0) = false := by simp only [decide_eq_false_iff_not]; omega
 have d2 : decide (d ≤ 0) = false := by simp only [decide_eq_false_iff_not]; omega
 have d3 : decide (4611686018427387904 < q) = false := by simp only [decide_eq_false_iff_not]; omega
 go_enter Tryz.func172, Tryz.ntmps172
 go_wp2_with fail
 refine (hm _).mono ?_
 rintro e w1 ⟨rfl, rfl⟩
 go_wp2_with fail
 refine (hv _).mono ?_
 rintro e w1 ⟨rfl, hq⟩
 have hB := below_grows ((Below.refl w.heap.size w).alloc (Nat.le_refl _) _) (by simp) hq
 clear hq
 go_wp2
 refine bodyPost_ret (v := .tuple #[.int .i64 q, .int .i64 r, .bool true]) (by simp [results, Tryz.results172, go_sem]) rfl ⟨rfl, hB⟩
set_option maxRecDepth 100000 in
set_option maxHeartbeats 8000000 in
theorem both_lo (k n d : Int) (w : World) (h : okR n d = true) (h1 : 0 ≤ k) (h3 : k ≤ 1125899906842624) (h2 : k * n < 4611686018427387904) : Calls Tryz.prog 315 #[.int .i64 k, .agg #[.int .i64 n, .int .i64 d]] w fun e w' => e = .returned (.tuple #[.int .i64 (k * n / d), .int .i64 (k * n % d), .int .i64 0]) ∧ Grows w w' := by
 obtain ⟨b0, b1, b2, b3, b4, b5⟩ := div_lo h h1 h2
 have hv := fun w => divide_lo k n d w h h1 h3 h2
 generalize k * n / d = q at *
 generalize k * n % d = r at *
 have d3 : decide (q < -4611686018427387904) = false := by simp only [decide_eq_false_iff_not]; omega
 go_enter Tryz.func315, Tryz.ntmps315
 go_wp2_with fail
 refine (rtchk_any k n d _ h (by omega) h3).mono ?_
 rintro e w1 ⟨rfl, hq⟩
 have k3 := Blk.grows (Blk.new _ _ _) hq
 have x3 := k3.cell
 have hB := below_grows ((Below.refl w.heap.size w).alloc (Nat.le_refl _) _) (by simp) hq
 clear hq
 go_wp2_with fail
 refine (hv _).mono ?_
 rintro e w2 ⟨rfl, hq⟩
 replace hB := below_grows hB (Nat.le_refl _) hq
 clear hq
 go_wp2
 refine bodyPost_ret (v := .tuple #[.int .i64 q, .int .i64 r, .int .i64 0]) (by simp [results, Tryz.results315, go_sem]) rfl ⟨rfl, hB⟩
set_option maxRecDepth 100000 in
set_option maxHeartbeats 8000000 in
theorem floor_lo (k n d : Int) (w : World) (h : okR n d = true) (h1 : 0 ≤ k) (h3 : k ≤ 1125899906842624) (h2 : k * n < 4611686018427387904) : Calls Tryz.prog 313 #[.int .i64 k, .agg #[.int .i64 n, .int .i64 d]] w fun e w' => e = .returned (.tuple #[.int .i64 (k * n / d), .int .i64 0]) ∧ Grows w w' := by
 go_enter Tryz.func313, Tryz.ntmps313
 go_wp2_with fail
 refine (both_lo k n d _ h h1 h3 h2).mono ?_
 rintro e w1 ⟨rfl, hq⟩
 have hB := below_grows ((Below.refl w.heap.size w).alloc (Nat.le_refl _) _) (by simp) hq
 clear hq
 go_wp2
 go_ret2
 exact ⟨rfl, hB⟩
/-- A quotient, rounded upwards. -/
def ceilF (a d : Int) : Int := (a + d - 1) / d
theorem ceil_of {a d : Int} (hd : 0 < d) : (0 < a % d → ceilF a d = a / d + 1) ∧ (a % d = 0 → ceilF a d = a / d) := by
 have e := Int.mul_ediv_add_emod a d
 have l := Int.emod_lt_of_pos a hd
 unfold ceilF
 refine ⟨fun h => ?_, fun h => ?_⟩
 ·have e2 : a + d - 1 = (a % d - 1) + d * (a / d + 1) := by rw [Int.mul_add]; omega
  rw [e2, Int.add_mul_ediv_left _ _ (by omega), Int.ediv_eq_zero_of_lt (by omega) (by omega)]
  omega
 ·have e2 : a + d - 1 = (d - 1) + d * (a / d) := by omega
  rw [e2, Int.add_mul_ediv_left _ _ (by omega), Int.ediv_eq_zero_of_lt (by omega) (by omega)]
  omega
theorem ceil_ge {a d : Int} (hd : 0 < d) : a ≤ ceilF a d * d := by
 have e := Int.mul_ediv_add_emod a d
 have l := Int.emod_lt_of_pos a hd
 have l2 := Int.emod_nonneg a (show d ≠ 0 by omega)
 have hc := ceil_of (a := a) hd
 by_cases h0 : a % d = 0
 ·rw [hc.2 h0, Int.mul_comm]; omega
 ·rw [hc.1 (by omega), Int.add_mul, Int.mul_comm]; omega
set_option maxRecDepth 100000 in
set_option maxHeartbeats 8000000 in
theorem ceil_lo (k n d : Int) (w : World) (h : okR n d = true) (h1 : 0 ≤ k) (h3 : k ≤ 1125899906842624) (h2 : k * n < 4611686018427387904) : Calls Tryz.prog 91 #[.int .i64 k, .agg #[.int .i64 n, .int .i64 d]] w fun e w' => e = .returned (.tuple #[.int .i64 (ceilF (k * n) d), .int .i64 0]) ∧ Grows w w' := by
 obtain ⟨b0, b1, b2, b3, b4, b5⟩ := div_lo h h1 h2
 have hv := fun w => divide_lo k n d w h h1 h3 h2
 have hcl := ceil_of (a := k * n) (d := d) (okR_bd h).2.1
 generalize ceilF (k * n) d = cl at *
 generalize k * n / d = q at *
 generalize k * n % d = r at *
 have wq : IntKind.i64.wrap (q + 1) = q + 1 := IntWalk.i64_in _ (by omega)
 have d1 : decide (q < -4611686018427387904) = false := by simp only [decide_eq_false_iff_not]; omega
 have d2 : decide (q + 1 < -4611686018427387904) = false := by simp only [decide_eq_false_iff_not]; omega
 have d3 : decide (4611686018427387904 < q) = false := by simp only [decide_eq_false_iff_not]; omega
 have d4 : decide (4611686018427387904 < q + 1) = false := by simp only [decide_eq_false_iff_not]; omega
 by_cases hr : 0 < r
 ·rw [hcl.1 hr]
  have d5 : decide (0 < r) = true := decide_eq_true hr
  go_enter Tryz.func91, Tryz.ntmps91
  go_wp2_with fail
  refine (rtchk_any k n d _ h (by omega) h3).mono ?_
  rintro e w1 ⟨rfl, hq⟩
  have k3 := Blk.grows (Blk.new _ _ _) hq
  have x3 := k3.cell
  have hB := below_grows ((Below.refl w.heap.size w).alloc (Nat.le_refl _) _) (by simp) hq
  clear hq
  go_wp2_with fail
  refine (hv _).mono ?_
  rintro e w2 ⟨rfl, hq⟩
  replace hB := below_grows hB (Nat.le_refl _) hq
  clear hq
  go_wp2
  go_ret2
  exact ⟨rfl, hB⟩
 ·rw [hcl.2 (by omega)]
  have d5 : decide (0 < r) = false := decide_eq_false hr
  go_enter Tryz.func91, Tryz.ntmps91
  go_wp2_with fail
  refine (rtchk_any k n d _ h (by omega) h3).mono ?_
  rintro e w1 ⟨rfl, hq⟩
  have k3 := Blk.grows (Blk.new _ _ _) hq
  have x3 := k3.cell
  have hB := below_grows ((Below.refl w.heap.size w).alloc (Nat.le_refl _) _) (by simp) hq
  clear hq
  go_wp2_with fail
  refine (hv _).mono ?_
  rintro e w2 ⟨rfl, hq⟩
  replace hB := below_grows hB (Nat.le_refl _) hq
  clear hq
  go_wp2
  go_ret2
  exact ⟨rfl, hB⟩
end Go.Proofs.YtbfdaojffffaaaaGreat

namespace Go.Proofs.YtbfdaojffffaaaaGreat
/-- The adjustment of a control for a fill. -/
def adjF (T dead G M y : Int) : Int := if y < T then -(min M (max 0 (T - y - dead) * G)) else min M (max 0 (y - T - dead) * G)
theorem adj_bd {T dead G M y : Int} (hG : 0 ≤ G) (hM : 0 ≤ M) : -M ≤ adjF T dead G M y ∧ adjF T dead G M y ≤ M := by
 have h1 : 0 ≤ max 0 (T - y - dead) * G := Int.mul_nonneg (by omega) hG
 have h2 : 0 ≤ max 0 (y - T - dead) * G := Int.mul_nonneg (by omega) hG
 unfold adjF
 split <;> omega
section
variable {N D T dead G M L dr jit J : Int} {S Y f : Nat → Int} {Q : Nat}
end
end Go.Proofs.YtbfdaojffffaaaaGreat

namespace Go.Proofs.YtbfdaojffffaaaaGreat
open Go.RowKit
def okCt (T dd G M : Int) : Prop := 0 ≤ T ∧ T ≤ 65536 ∧ 0 ≤ dd ∧ dd ≤ 65536 ∧ 1 ≤ G ∧ G ≤ 4096 ∧ 0 ≤ M ∧ M ≤ 4096
/-- A period, a drift and a jitter that are possible. -/
def okDe (pn pd dr j : Int) : Prop := okR pn pd = true ∧ pd ≤ 768000 ∧ pd ≤ pn * 64 ∧ pn ≤ pd * 524288 ∧ 0 ≤ dr ∧ dr ≤ 4096 ∧ 0 ≤ j ∧ j ≤ 65536
set_option maxRecDepth 100000 in
set_option maxHeartbeats 8000000 in
theorem cvalid_any (T dd G M : Int) (w : World) (h : okCt T dd G M) : Calls Tryz.prog 135 #[.agg #[.int .i64 T, .int .i64 dd, .int .i64 G, .int .i64 M]] w fun e w' => e = .returned (.bool true) ∧ Grows w w' := by
 obtain ⟨h1, h2, h3, h4, h5, h6, h7, h8⟩ := h
 have d0 : decide (0 ≤ T) = true := by simp only [decide_eq_true_iff]; omega
 have d1 : decide (T ≤ 65536) = true := by simp only [decide_eq_true_iff]; omega
 have d2 : decide (0 ≤ dd) = true := by simp only [decide_eq_true_iff]; omega
 have d3 : decide (dd ≤ 65536) = true := by simp only [decide_eq_true_iff]; omega
 have d4 : decide (1 ≤ G) = true := by simp only [decide_eq_true_iff]; omega
 have d5 : decide (G ≤ 4096) = true := by simp only [decide_eq_true_iff]; omega
 have d6 : decide (0 ≤ M) = true := by simp only [decide_eq_true_iff]; omega
 have d7 : decide (M ≤ 4096) = true := by simp only [decide_eq_true_iff]; omega
 go_enter Tryz.func135, Tryz.ntmps135
 go_wp2
 go_ret
 exact ⟨rfl, (Below.refl _ _).alloc (Nat.le_refl _) _⟩
set_option maxRecDepth 100000 in
set_option maxHeartbeats 8000000 in
theorem csize_any (T dd G M d : Int) (g : Nat) (w : World) (k : Blk w g 40 #[.int .i64 T, .int .i64 dd, .int .i64 G, .int .i64 M]) (h : okCt T dd G M) (hd : 0 ≤ d) (hd2 : d ≤ 2147483647) :
 Calls Tryz.prog 268 #[.int .i64 d, .pointer (some ⟨g, 0, none⟩)] w fun e w' => e = .returned (.int .i64 (min M (max 0 (d - dd) * G))) ∧ Grows w w' := by
 obtain ⟨h1, h2, h3, h4, h5, h6, h7, h8⟩ := h
 have c := k.cell
 have b1 : 0 ≤ max 0 (d - dd) * G := Int.mul_nonneg (by omega) (by omega)
 have b2 : max 0 (d - dd) * G ≤ 2147483647 * 4096 := Int.mul_le_mul (by omega) h6 (by omega) (by omega)
 have wa : IntKind.i64.wrap (d - dd) = d - dd := IntWalk.i64_in _ (by omega)
 have wb : IntKind.i64.wrap (max 0 (d - dd) * G) = max 0 (d - dd) * G := IntWalk.i64_in _ (by omega)
 go_enter Tryz.func268, Tryz.ntmps268
 go_wp2
 first
  | (go_ret; exact ⟨rfl, Below.refl _ _⟩)
  | (go_region; all_goals go_wp2; all_goals go_ret; all_goals exact ⟨rfl, (Below.refl _ _).drew⟩)
set_option maxRecDepth 100000 in
set_option maxHeartbeats 8000000 in
theorem cadj_any (T dd G M y : Int) (w : World) (h : okCt T dd G M) (hy : 0 ≤ y) (hy2 : y ≤ 2147483647) :
 Calls Tryz.prog 212 #[.agg #[.int .i64 T, .int .i64 dd, .int .i64 G, .int .i64 M], .int .i64 y] w fun e w' => e = .returned (.int .i64 (adjF T dd G M y)) ∧ Grows w w' := by
 have h' := h
 obtain ⟨h1, h2, h3, h4, h5, h6, h7, h8⟩ := h'
 have hmf : ∀ (fn : Fn) (first cap : Array Value) (w : World), (Instr.makeFunc fn first cap).run Tryz.prog w = .ok (.func fn first cap) w := fun _ _ _ _ => rfl
 have d1 : decide (y < 0) = false := by simp only [decide_eq_false_iff_not]; omega
 have d2 : decide (2147483647 < y) = false := by simp only [decide_eq_false_iff_not]; omega
 by_cases hlt : y < T
 ·have e0 : adjF T dd G M y = -(min M (max 0 (T - y - dd) * G)) := by unfold adjF; rw [if_pos hlt]
  rw [e0]
  have d3 : decide (y < T) = true := decide_eq_true hlt
  have wa : IntKind.i64.wrap (T - y) = T - y := IntWalk.i64_in _ (by omega)
  have b1 : 0 ≤ max 0 (T - y - dd) * G := Int.mul_nonneg (by omega) (by omega)
  have wb : IntKind.i64.wrap (-(min M (max 0 (T - y - dd) * G))) = -(min M (max 0 (T - y - dd) * G)) := IntWalk.i64_in _ (by omega)
  have cs := fun g w k => csize_any T dd G M (T - y) g w k h (by omega) (by omega)
  generalize min M (max 0 (T - y - dd) * G) = z at *
  go_enter Tryz.func212, Tryz.ntmps212
  go_wp2_with fail
  refine (cvalid_any T dd G M _ h).mono ?_
  rintro e w1 ⟨rfl, hq⟩
  have k2 := Blk.grows (Blk.new _ _ _) hq
  have x2 := k2.cell
  have hB := below_grows ((Below.refl w.heap.size w).alloc (Nat.le_refl _) _) (by simp) hq
  clear hq
  go_wp2_with fail
  refine (cs _ _ k2).mono ?_
  rintro e w2 ⟨rfl, hq⟩
  replace hB := below_grows hB (Nat.le_refl _) hq
  clear hq
  go_wp2
  go_ret
  exact ⟨rfl, hB⟩
 ·have e0 : adjF T dd G M y = min M (max 0 (y - T - dd) * G) := by unfold adjF; rw [if_neg hlt]
  rw [e0]
  have d3 : decide (y < T) = false := decide_eq_false hlt
  have wa : IntKind.i64.wrap (y - T) = y - T := IntWalk.i64_in _ (by omega)
  have cs := fun g w k => csize_any T dd G M (y - T) g w k h (by omega) (by omega)
  generalize min M (max 0 (y - T - dd) * G) = z at *
  go_enter Tryz.func212, Tryz.ntmps212
  go_wp2_with fail
  refine (cvalid_any T dd G M _ h).mono ?_
  rintro e w1 ⟨rfl, hq⟩
  have k2 := Blk.grows (Blk.new _ _ _) hq
  have x2 := k2.cell
  have hB := below_grows ((Below.refl w.heap.size w).alloc (Nat.le_refl _) _) (by simp) hq
  clear hq
  go_wp2_with fail
  refine (cs _ _ k2).mono ?_
  rintro e w2 ⟨rfl, hq⟩
  replace hB := below_grows hB (Nat.le_refl _) hq
  clear hq
  go_wp2
  go_ret
  exact ⟨rfl, hB⟩
set_option maxRecDepth 100000 in
set_option maxHeartbeats 8000000 in
theorem cup_any (a b : Int) (w : World) (h1 : 0 ≤ a) (h2 : 1 ≤ b) (h3 : a ≤ 4611686018427387903) (h4 : b ≤ 4611686018427387903) : Calls Tryz.prog 174 #[.int .i64 a, .int .i64 b] w fun e w' => e = .returned (.int .i64 (ceilF a b)) ∧ Grows w w' := by
 have wa : IntKind.i64.wrap (a + b) = a + b := IntWalk.i64_in _ (by omega)
 have wb : IntKind.i64.wrap (a + b - 1) = a + b - 1 := IntWalk.i64_in _ (by omega)
 have t1 : Int.tdiv (a + b - 1) b = (a + b - 1) / b := Int.tdiv_eq_ediv_of_nonneg (by omega)
 have t3 : (b == 0) = false := by simp; omega
 have t4 : ¬ b = 0 := by omega
 have t5 : ¬ b = -1 := by omega
 have b1 := Int.ediv_le_self (a := a + b - 1) b (by omega)
 have b2 := Int.ediv_nonneg (show 0 ≤ a + b - 1 by omega) (show 0 ≤ b by omega)
 have wc : IntKind.i64.wrap ((a + b - 1) / b) = (a + b - 1) / b := IntWalk.i64_in _ (by omega)
 unfold ceilF
 go_enter Tryz.func174, Tryz.ntmps174
 go_wp2
 go_ret
 exact ⟨by first | rfl | simp [t1, wc], Below.refl _ _⟩
def wobF (pn pd k : Int) : Int := ceilF (2 * k * pn) (65536 * pd)
set_option maxRecDepth 100000 in
set_option maxHeartbeats 8000000 in
theorem cwob_any (pn pd k : Int) (w : World) (h1 : 1 ≤ pn) (h2 : 1 ≤ pd) (h3 : pn ≤ 68719476736) (h4 : pd ≤ 68719476736) (h5 : 0 ≤ k) (h6 : k ≤ 8192) : Calls Tryz.prog 175 #[.agg #[.int .i64 pn, .int .i64 pd], .int .i64 k] w fun e w' => e = .returned (.int .i64 (wobF pn pd k)) ∧ Grows w w' := by
 have b0 : 0 ≤ 2 * k * pn := Int.mul_nonneg (by omega) (by omega)
 have b1 : 2 * k * pn ≤ 16384 * 68719476736 := Int.mul_le_mul (by omega) h3 (by omega) (by omega)
 have wa : IntKind.i64.wrap (2 * k) = 2 * k := IntWalk.i64_in _ (by omega)
 have wb : IntKind.i64.wrap (2 * k * pn) = 2 * k * pn := IntWalk.i64_in _ (by omega)
 have wc : IntKind.i64.wrap (65536 * pd) = 65536 * pd := IntWalk.i64_in _ (by omega)
 go_enter Tryz.func175, Tryz.ntmps175
 go_wp2_with fail
 refine (cup_any (2 * k * pn) (65536 * pd) _ b0 (by omega) (by omega) (by omega)).mono ?_
 rintro e w1 ⟨rfl, hq⟩
 have hB := below_grows ((Below.refl w.heap.size w).alloc (Nat.le_refl _) _) (by simp) hq
 clear hq
 go_wp2
 go_ret
 exact ⟨rfl, hB⟩
set_option maxRecDepth 100000 in
set_option maxHeartbeats 8000000 in
theorem cpos_any (pn pd : Int) (w : World) (h : okR pn pd = true) (h1 : pd ≤ 768000) (h2 : pd ≤ pn * 64) (h3 : pn ≤ pd * 524288) : Calls Tryz.prog 247 #[.agg #[.int .i64 pn, .int .i64 pd]] w fun e w' => e = .returned (.bool true) ∧ Grows w w' := by
 obtain ⟨a1, a2, a3, a4, -⟩ := okR_bd h
 have wa : IntKind.i64.wrap (pn * 64) = pn * 64 := IntWalk.i64_in _ (by omega)
 have wb : IntKind.i64.wrap (pd * 64) = pd * 64 := IntWalk.i64_in _ (by omega)
 have wc : IntKind.i64.wrap (pd * 64 * 8192) = pd * 64 * 8192 := IntWalk.i64_in _ (by omega)
 have d1 : decide (pd ≤ 768000) = true := by simp only [decide_eq_true_iff]; omega
 have d2 : decide (pd ≤ pn * 64) = true := by simp only [decide_eq_true_iff]; omega
 have d3 : decide (pn ≤ pd * 64 * 8192) = true := by simp only [decide_eq_true_iff]; omega
 go_enter Tryz.func247, Tryz.ntmps247
 go_wp2_with fail
 refine (ratio_any pn pd _).mono ?_
 rintro e w1 ⟨rfl, hq⟩
 rw [h]
 have k1 := Blk.grows (Blk.new _ _ _) hq
 have x1 := k1.cell
 have hB := below_grows ((Below.refl w.heap.size w).alloc (Nat.le_refl _) _) (by simp) hq
 clear hq
 go_wp2
 go_ret
 exact ⟨rfl, hB⟩
set_option maxRecDepth 100000 in
set_option maxHeartbeats 8000000 in
theorem cdecl_any (pn pd dr j : Int) (w : World) (h : okDe pn pd dr j) : Calls Tryz.prog 173 #[.agg #[.int .i64 pn, .int .i64 pd], .int .i64 dr, .int .i64 j] w fun e w' => e = .returned (.bool true) ∧ Grows w w' := by
 obtain ⟨h1, h2, h3, h4, h5, h6, h7, h8⟩ := h
 have d1 : decide (0 ≤ dr) = true := by simp only [decide_eq_true_iff]; omega
 have d2 : decide (dr ≤ 4096) = true := by simp only [decide_eq_true_iff]; omega
 have d3 : decide (0 ≤ j) = true := by simp only [decide_eq_true_iff]; omega
 have d4 : decide (j ≤ 65536) = true := by simp only [decide_eq_true_iff]; omega
 go_enter Tryz.func173, Tryz.ntmps173
 go_wp2_with fail
 refine (cpos_any pn pd _ h1 h2 h3 h4).mono ?_
 rintro e w1 ⟨rfl, hq⟩
 have hB := below_grows ((Below.refl w.heap.size w).alloc (Nat.le_refl _) _) (by simp) hq
 clear hq
 go_wp2
 go_ret
 exact ⟨rfl, hB⟩
def boundF (dd G M pn pd dr j st : Int) : Int := max st (dd + ceilF M G) + wobF pn pd (dr + M) + 2 * j + 2
def demandF (M pn pd dr j : Int) : Int := ceilF pn pd + wobF pn pd (dr + M) + 2 * j + 3
theorem ceil_bd {a b : Int} (h1 : 0 ≤ a) (h2 : 1 ≤ b) : 0 ≤ ceilF a b ∧ ceilF a b ≤ a := by
 unfold ceilF
 refine ⟨Int.ediv_nonneg (by omega) (by omega), ?_⟩
 rcases Int.lt_or_eq_of_le h1 with h | h
 ·have : a + b - 1 ≤ a * b := by
   have := Int.mul_nonneg (show 0 ≤ a - 1 by omega) (show 0 ≤ b - 1 by omega)
   have e : (a - 1) * (b - 1) = a * b - a - b + 1 := by grind
   omega
  exact Int.ediv_le_of_le_mul (by omega) this
 ·subst h
  rw [Int.ediv_eq_zero_of_lt (by omega) (by omega)]
  omega
theorem wob_bd {pn pd k : Int} (h1 : 1 ≤ pn) (h2 : 1 ≤ pd) (h3 : pn ≤ 68719476736) (h5 : 0 ≤ k) (h6 : k ≤ 8192) : 0 ≤ wobF pn pd k ∧ wobF pn pd k ≤ 16384 * 68719476736 := by
 have b0 : 0 ≤ 2 * k * pn := Int.mul_nonneg (by omega) (by omega)
 have b1 : 2 * k * pn ≤ 16384 * 68719476736 := Int.mul_le_mul (by omega) h3 (by omega) (by omega)
 have := ceil_bd (b := 65536 * pd) b0 (by omega)
 unfold wobF
 omega
set_option maxRecDepth 100000 in
set_option maxHeartbeats 8000000 in
theorem cbound_any (T dd G M pn pd dr j st : Int) (w : World) (h : okCt T dd G M) (hD : okDe pn pd dr j) (hs1 : 0 ≤ st) (hs2 : st ≤ 65536) (hm : 65536 * dr ≤ M * (65536 - dr)) :
 Calls Tryz.prog 176 #[.agg #[.int .i64 T, .int .i64 dd, .int .i64 G, .int .i64 M], .agg #[.int .i64 pn, .int .i64 pd], .int .i64 dr, .int .i64 j, .int .i64 st] w fun e w' => e = .returned (.tuple #[.int .i64 (boundF dd G M pn pd dr j st), .int .i64 0]) ∧ Grows w w' := by
 have hC := h
 have hDD := hD
 obtain ⟨h1, h2, h3, h4, h5, h6, h7, h8⟩ := h
 obtain ⟨a1, a2, a3, a4, -⟩ := okR_bd hD.1
 obtain ⟨-, -, -, -, g5, g6, g7, g8⟩ := hD
 obtain ⟨u1, u2⟩ := wob_bd a1 a2 a3 (show 0 ≤ dr + M by omega) (by omega)
 have wm : IntKind.i64.wrap (dr + M) = dr + M := IntWalk.i64_in _ (by omega)
 have wj : IntKind.i64.wrap (2 * j) = 2 * j := IntWalk.i64_in _ (by omega)
 obtain ⟨v1, v2⟩ := ceil_bd h7 h5
 have cu := fun w => cup_any M G w h7 h5 (by omega) (by omega)
 have cw := fun w => cwob_any pn pd (dr + M) w a1 a2 a3 a4 (by omega) (by omega)
 have b1 : M * (65536 - dr) ≤ 4096 * 65536 := Int.mul_le_mul h8 (by omega) (by omega) (by omega)
 have w1' : IntKind.i64.wrap (65536 - dr) = 65536 - dr := IntWalk.i64_in _ (by omega)
 have w2' : IntKind.i64.wrap (M * (65536 - dr)) = M * (65536 - dr) := IntWalk.i64_in _ (by omega)
 have w3' : IntKind.i64.wrap (65536 * dr) = 65536 * dr := IntWalk.i64_in _ (by omega)
 have d1 : decide (st < 0) = false := by simp only [decide_eq_false_iff_not]; omega
 have d2 : decide (65536 < st) = false := by simp only [decide_eq_false_iff_not]; omega
 have d3 : decide (M * (65536 - dr) < 65536 * dr) = false := by simp only [decide_eq_false_iff_not]; omega
 unfold boundF
 generalize ceilF M G = c1 at *
 generalize wobF pn pd (dr + M) = c2 at *
 have w4' : IntKind.i64.wrap (dd + c1) = dd + c1 := IntWalk.i64_in _ (by omega)
 have w5' : IntKind.i64.wrap (max st (dd + c1) + c2) = max st (dd + c1) + c2 := IntWalk.i64_in _ (by omega)
 have w6' : IntKind.i64.wrap (max st (dd + c1) + c2 + 2 * j) = max st (dd + c1) + c2 + 2 * j := IntWalk.i64_in _ (by omega)
 have w7' : IntKind.i64.wrap (max st (dd + c1) + c2 + 2 * j + 2) = max st (dd + c1) + c2 + 2 * j + 2 := IntWalk.i64_in _ (by omega)
 go_enter Tryz.func176, Tryz.ntmps176
 go_wp2_with fail
 refine (cvalid_any T dd G M _ hC).mono ?_
 rintro e w1 ⟨rfl, hq⟩
 have k5 := Blk.grows (Blk.alloc (Blk.new _ _ _) _) hq
 have k6 := Blk.grows (blk_new_at (n := w.heap.size + 1) (by simp)) hq
 have x5 := k5.cell
 have x6 := k6.cell
 have hB := below_grows (((Below.refl w.heap.size w).alloc (Nat.le_refl _) _).alloc (by simp) _) (by simp) hq
 clear hq
 go_wp2_with fail
 refine (cdecl_any pn pd dr j _ hDD).mono ?_
 rintro e w2 ⟨rfl, hq⟩
 replace k5 := k5.grows hq
 replace k6 := k6.grows hq
 replace x5 := k5.cell
 replace x6 := k6.cell
 replace hB := below_grows hB (Nat.le_refl _) hq
 clear hq
 go_upto_region 8 with fail
 clear x5 x6 d1 d2 d3 b1 w1' w2' w3' hm hC hDD
 refine wp_region_mix (fun w' => Grows w2 w') [] 20 55 (by kernel_rfl) (by kernel_rfl) rfl ?_ float_none ?_ ?_
 ·exact fun w1 w2 h0 hg => below_grows h0 (Nat.le_refl _) hg
 ·exact Grows.drew' _
 ·skip
  simp only [List.take_succ_cons, List.take_zero, List.drop_succ_cons, List.drop_zero]
  iterate 20
   refine calm_plain rfl rfl (v := ?_) (a' := ?_) (fun w1 hw1 => ?_) ?_ ?_
   rotate_left 2
   ·have h0 := hw1
    have x5 := (k5.grows h0).cell
    have x6 := (k6.grows h0).cell
    go_simp
    first | exact calm_val | (refine calm_call ?_; with_reducible exact cu _) | (refine calm_call ?_; with_reducible exact cw _)
   ·simp only [Act.put, List.setIfInBounds_toArray, List.set_cons_succ, List.set_cons_zero]
    rfl
  refine calm_done (end_none ?_)
  rintro W2 hg
  replace hB := below_grows hB (Nat.le_refl _) hg
  go_wp2
  go_ret2
  exact ⟨rfl, hB⟩
set_option maxRecDepth 100000 in
set_option maxHeartbeats 8000000 in
theorem cdemand_any (T dd G M pn pd dr j : Int) (w : World) (h : okCt T dd G M) (hD : okDe pn pd dr j) (hm : 65536 * dr ≤ M * (65536 - dr)) :
 Calls Tryz.prog 177 #[.agg #[.int .i64 T, .int .i64 dd, .int .i64 G, .int .i64 M], .agg #[.int .i64 pn, .int .i64 pd], .int .i64 dr, .int .i64 j] w fun e w' => e = .returned (.tuple #[.int .i64 (demandF M pn pd dr j), .int .i64 0]) ∧ Grows w w' := by
 have hC := h
 have hDD := hD
 obtain ⟨h1, h2, h3, h4, h5, h6, h7, h8⟩ := h
 obtain ⟨a1, a2, a3, a4, -⟩ := okR_bd hD.1
 obtain ⟨-, -, -, -, g5, g6, g7, g8⟩ := hD
 obtain ⟨u1, u2⟩ := wob_bd a1 a2 a3 (show 0 ≤ dr + M by omega) (by omega)
 have wm : IntKind.i64.wrap (dr + M) = dr + M := IntWalk.i64_in _ (by omega)
 have wj : IntKind.i64.wrap (2 * j) = 2 * j := IntWalk.i64_in _ (by omega)
 obtain ⟨v1, v2⟩ := ceil_bd (show 0 ≤ pn by omega) a2
 have cu := fun w => cup_any pn pd w (by omega) a2 (by omega) (by omega)
 have cw := fun w => cwob_any pn pd (dr + M) w a1 a2 a3 a4 (by omega) (by omega)
 unfold demandF
 generalize ceilF pn pd = c1 at *
 generalize wobF pn pd (dr + M) = c2 at *
 have w5' : IntKind.i64.wrap (c1 + c2) = c1 + c2 := IntWalk.i64_in _ (by omega)
 have w6' : IntKind.i64.wrap (c1 + c2 + 2 * j) = c1 + c2 + 2 * j := IntWalk.i64_in _ (by omega)
 have w7' : IntKind.i64.wrap (c1 + c2 + 2 * j + 3) = c1 + c2 + 2 * j + 3 := IntWalk.i64_in _ (by omega)
 go_enter Tryz.func177, Tryz.ntmps177
 go_wp2_with fail
 refine (cbound_any T dd G M pn pd dr j 0 _ hC hDD (by omega) (by omega) hm).mono ?_
 rintro e w1 ⟨rfl, hq⟩
 have k4 := Blk.grows (Blk.alloc (Blk.new _ _ _) _) hq
 have k5 := Blk.grows (blk_new_at (n := w.heap.size + 1) (by simp)) hq
 have hB := below_grows (((Below.refl w.heap.size w).alloc (Nat.le_refl _) _).alloc (by simp) _) (by simp) hq
 clear hq
 generalize boundF dd G M pn pd dr j 0 = bb
 go_upto_region 4 with fail
 clear hm hC hDD
 refine wp_region_mix (fun w' => Grows w1 w') [] 16 39 (by kernel_rfl) (by kernel_rfl) rfl ?_ float_none ?_ ?_
 ·exact fun w1 w2 h0 hg => below_grows h0 (Nat.le_refl _) hg
 ·exact Grows.drew' _
 ·skip
  simp only [List.take_succ_cons, List.take_zero, List.drop_succ_cons, List.drop_zero]
  iterate 16
   refine calm_plain rfl rfl (v := ?_) (a' := ?_) (fun w1 hw1 => ?_) ?_ ?_
   rotate_left 2
   ·have h0 := hw1
    have x5 := (k5.grows h0).cell
    have x4 := (k4.grows h0).cell
    go_simp
    first | exact calm_val | (refine calm_call ?_; with_reducible exact cu _) | (refine calm_call ?_; with_reducible exact cw _)
   ·simp only [Act.put, List.setIfInBounds_toArray, List.set_cons_succ, List.set_cons_zero]
    rfl
  refine calm_done (end_none ?_)
  rintro W2 hg
  replace hB := below_grows hB (Nat.le_refl _) hg
  go_wp2
  go_ret2
  exact ⟨rfl, hB⟩
end Go.Proofs.YtbfdaojffffaaaaGreat

namespace Go.Proofs.YtbfdaojffffaaaaGreat
open Go.RowKit
def mostF (dr : Int) : Int := ceilF (65536 * dr) (65536 - dr)
def startF (pn pd dr j : Int) : Int := wobF pn pd dr + j + 1
def pboundF (pn pd dr j dd G : Int) : Int := boundF dd G (mostF dr) pn pd dr j (startF pn pd dr j)
def targetF (pn pd dr j dd G : Int) : Int := demandF (mostF dr) pn pd dr j + pboundF pn pd dr j dd G
/-- What can be planned. -/
def okPl (pn pd dr j dd G : Int) : Prop := okDe pn pd dr j ∧ 0 ≤ dd ∧ dd ≤ 65536 ∧ 1 ≤ G ∧ G ≤ 4096 ∧ mostF dr ≤ 4096 ∧ startF pn pd dr j ≤ 65536 ∧ targetF pn pd dr j dd G + pboundF pn pd dr j dd G ≤ 65536
theorem most_bd {dr : Int} (h1 : 0 ≤ dr) (h2 : dr ≤ 4096) : 0 ≤ mostF dr ∧ 65536 * dr ≤ mostF dr * (65536 - dr) := ⟨(ceil_bd (by omega) (by omega)).1, ceil_ge (by omega)⟩
theorem pbound_nn {pn pd dr j dd G : Int} (h : okPl pn pd dr j dd G) : 0 ≤ pboundF pn pd dr j dd G ∧ 0 ≤ startF pn pd dr j ∧ 0 ≤ demandF (mostF dr) pn pd dr j := by
 obtain ⟨hD, h1, h2, h3, h4, h5, h6, h7⟩ := h
 obtain ⟨a1, a2, a3, a4, -⟩ := okR_bd hD.1
 obtain ⟨-, -, -, -, g5, g6, g7, g8⟩ := hD
 obtain ⟨m1, m2⟩ := most_bd g5 g6
 obtain ⟨u1, u2⟩ := wob_bd a1 a2 a3 (show 0 ≤ dr + mostF dr by omega) (by omega)
 obtain ⟨u3, u4⟩ := wob_bd a1 a2 a3 (show 0 ≤ dr by omega) (by omega)
 obtain ⟨v1, v2⟩ := ceil_bd m1 h3
 obtain ⟨v3, v4⟩ := ceil_bd (show 0 ≤ pn by omega) a2
 unfold pboundF boundF startF demandF
 omega
set_option maxRecDepth 100000 in
set_option maxHeartbeats 8000000 in
theorem cplan_any (pn pd dr j dd G : Int) (w : World) (h : okPl pn pd dr j dd G) :
 Calls Tryz.prog 92 #[.agg #[.int .i64 pn, .int .i64 pd], .int .i64 dr, .int .i64 j, .int .i64 dd, .int .i64 G] w fun e w' => e = .returned (.tuple #[.agg #[.int .i64 (targetF pn pd dr j dd G), .int .i64 dd, .int .i64 G, .int .i64 (mostF dr)], .int .i64 (targetF pn pd dr j dd G + pboundF pn pd dr j dd G), .int .i64 0]) ∧ Grows w w' := by
 obtain ⟨n1, n2, n3⟩ := pbound_nn h
 obtain ⟨hD, h1, h2, h3, h4, h5, h6, h7⟩ := h
 obtain ⟨a1, a2, a3, a4, -⟩ := okR_bd hD.1
 have hDD := hD
 obtain ⟨-, -, -, -, g5, g6, g7, g8⟩ := hD
 obtain ⟨m1, m2⟩ := most_bd g5 g6
 obtain ⟨u3, u4⟩ := wob_bd a1 a2 a3 (show 0 ≤ dr by omega) (by omega)
 have cu := fun w => cup_any (65536 * dr) (65536 - dr) w (by omega) (by omega) (by omega) (by omega)
 have cw := fun w => cwob_any pn pd dr w a1 a2 a3 a4 (by omega) (by omega)
 have cb := fun w => cbound_any 0 dd G (mostF dr) pn pd dr j (startF pn pd dr j) w ⟨by omega, by omega, h1, h2, h3, h4, m1, h5⟩ hDD n2 h6 m2
 have cd := fun w => cdemand_any 0 dd G (mostF dr) pn pd dr j w ⟨by omega, by omega, h1, h2, h3, h4, m1, h5⟩ hDD m2
 have w1' : IntKind.i64.wrap (65536 - dr) = 65536 - dr := IntWalk.i64_in _ (by omega)
 have w2' : IntKind.i64.wrap (65536 * dr) = 65536 * dr := IntWalk.i64_in _ (by omega)
 have hst : startF pn pd dr j = wobF pn pd dr + j + 1 := rfl
 have hT : targetF pn pd dr j dd G = demandF (mostF dr) pn pd dr j + pboundF pn pd dr j dd G := rfl
 have e1 : boundF dd G (mostF dr) pn pd dr j (startF pn pd dr j) = pboundF pn pd dr j dd G := rfl
 rw [e1] at cb
 have e2 : ceilF (65536 * dr) (65536 - dr) = mostF dr := rfl
 rw [e2] at cu
 clear e1 e2
 generalize mostF dr = M at *
 generalize startF pn pd dr j = st at *
 generalize wobF pn pd dr = wb at *
 generalize pboundF pn pd dr j dd G = bd at *
 generalize demandF M pn pd dr j = dm at *
 generalize targetF pn pd dr j dd G = T at *
 have w3' : IntKind.i64.wrap (wb + j) = wb + j := IntWalk.i64_in _ (by omega)
 have w4' : IntKind.i64.wrap (wb + j + 1) = st := by rw [hst]; exact IntWalk.i64_in _ (by omega)
 have w5' : IntKind.i64.wrap (dm + bd) = T := by rw [hT]; exact IntWalk.i64_in _ (by omega)
 have w6' : IntKind.i64.wrap (T + bd) = T + bd := IntWalk.i64_in _ (by omega)
 have d1 : decide (dd < 0) = false := by simp only [decide_eq_false_iff_not]; omega
 have d2 : decide (65536 < dd) = false := by simp only [decide_eq_false_iff_not]; omega
 have d3 : decide (G < 1) = false := by simp only [decide_eq_false_iff_not]; omega
 have d4 : decide (4096 < G) = false := by simp only [decide_eq_false_iff_not]; omega
 have d5 : decide (4096 < M) = false := by simp only [decide_eq_false_iff_not]; omega
 have d6 : decide (65536 < T + bd) = false := by simp only [decide_eq_false_iff_not]; omega
 clear hst hT
 go_enter Tryz.func92, Tryz.ntmps92
 go_wp2_with fail
 refine (cdecl_any pn pd dr j _ hDD).mono ?_
 rintro e w1 ⟨rfl, hq⟩
 have k5 := Blk.grows (Blk.alloc (Blk.new _ _ _) _) hq
 have k10 := Blk.grows (blk_new_at (n := w.heap.size + 1) (by simp)) hq
 have hB := below_grows (((Below.refl w.heap.size w).alloc (Nat.le_refl _) _).alloc (by simp) _) (by simp) hq
 clear hq
 go_wp2_with fail
 refine (cu _).mono ?_
 rintro e w2 ⟨rfl, hq⟩
 replace k5 := k5.grows hq
 replace k10 := k10.grows hq
 replace hB := below_grows hB (Nat.le_refl _) hq
 clear hq
 go_upto_region 4 with fail
 have hs := k10.lt
 have k13 := Blk.new w2 40 #[.int .i64 0, .int .i64 dd, .int .i64 G, .int .i64 M]
 have hq := (Below.refl w2.heap.size w2).alloc (Nat.le_refl _) (Obj.cells #[.int .i64 0, .int .i64 dd, .int .i64 G, .int .i64 M] 40)
 replace k5 := k5.grows hq
 replace k10 := k10.grows hq
 replace hB := below_grows hB (Nat.le_refl _) hq
 clear hq
 generalize w2.heap.size = q at *
 generalize World.alloc w2 _ = w3 at *
 have x5 := k5.cell
 have x13 := k13.cell
 go_wp2_with fail
 refine (cw _).mono ?_
 rintro e w4 ⟨rfl, hq⟩
 replace k5 := k5.grows hq
 replace k10 := k10.grows hq
 replace k13 := k13.grows hq
 replace hB := below_grows hB (Nat.le_refl _) hq
 replace x5 := k5.cell
 replace x13 := k13.cell
 clear hq
 go_wp2_with fail
 refine (cb _).mono ?_
 rintro e w5 ⟨rfl, hq⟩
 replace k5 := k5.grows hq
 replace k10 := k10.grows hq
 replace k13 := k13.grows hq
 replace hB := below_grows hB (Nat.le_refl _) hq
 replace x5 := k5.cell
 replace x13 := k13.cell
 clear hq
 go_wp2_with fail
 refine (cd _).mono ?_
 rintro e w6 ⟨rfl, hq⟩
 replace k10 := k10.grows hq
 replace k13 := k13.grows hq
 replace hB := below_grows hB (Nat.le_refl _) hq
 clear hq x5 k5
 have f13 := k13.frozen
 replace x13 := k13.cell
 go_upto_region 10 with fail
 replace k10 := k10.far (p := ⟨q, 0, none⟩) (by simp; omega) (.int .i64 T)
 replace k13 := k13.set_ 0 (.int .i64 T)
 replace hB := hB.setCell (p := ⟨q, 0, none⟩) (by simp; omega) (.int .i64 T)
 generalize World.setCell w6 _ _ = w7 at *
 replace x13 := k13.cell
 have x10 := k10.cell
 have f10 := k10.frozen
 clear f13
 go_wp2
 go_region
 all_goals go_wp2
 all_goals
  refine bodyPost_ret (v := .tuple #[.agg #[.int .i64 T, .int .i64 dd, .int .i64 G, .int .i64 M], .int .i64 (T + bd), .int .i64 0]) (by simp [results, Tryz.results92, go_sem, x10]) rfl ⟨rfl, ?_⟩
  exact (((hB.drew.setCell (p := ⟨w.heap.size + 1, 0, none⟩) (by simp) _).setCell (p := ⟨w.heap.size + 1, 1, none⟩) (by simp) _).setCell (p := ⟨w.heap.size + 1, 2, none⟩) (by simp) _).setCell (p := ⟨w.heap.size + 1, 3, none⟩) (by simp) _
end Go.Proofs.YtbfdaojffffaaaaGreat

namespace Go.Proofs.YtbfdaojffffaaaaGreat
open Go.RowKit
def Sams (w : World) (A : Option Addr) (l : List Int) : Prop := Reads w w.heap.size 1 A l.length (l.map (Value.int .i32))
theorem Sams.grows {w w' : World} {A : Option Addr} {l : List Int} (h : Sams w A l) (hg : Grows w w') : Sams w' A l := Reads.grows h hg
theorem Sams.at_ {w : World} {A : Option Addr} {l : List Int} (h : Sams w A l) {k : Nat} (hk : k < l.length) : ∃ ad x, A = some ad ∧ ad.block < w.heap.size ∧ l[k]? = some x ∧ w.cell? (ad.add k) = some (.int .i32 x) := by
 obtain ⟨ad, u, e, hb, hx, hc⟩ := Reads.at_ h hk
 refine ⟨ad, l[k], e, hb, List.getElem?_eq_getElem hk, ?_⟩
 rw [hc]
 rw [List.getElem?_map, List.getElem?_eq_getElem hk] at hx
 exact hx.symm
theorem sams_lits (w : World) (l : List Int) (cs : Array Value) (t : TypeId) (h : cs.toList = l.map (Value.int .i32)) : Sams (w.alloc (.cells cs t)) (some ⟨w.heap.size, 0, none⟩) l := by
 have hb := Blk.new w t cs
 refine ⟨by simp, fun _ => ⟨_, rfl, by simp, fun j u hu => ?_⟩⟩
 have := hb.cell j
 have e : (⟨w.heap.size, 0, none⟩ : Addr).add j = ⟨w.heap.size, j, none⟩ := by unfold Addr.add; split <;> simp_all
 rw [e, this, ← Array.getElem?_toList, h]
 exact hu
set_option maxRecDepth 100000 in
theorem s32info : ∃ i : TypeInfo, Tryz.prog.info? 21 = some i ∧ i.size = 1 ∧ i.bytes = 4 ∧ i.zero = some (.int .i32 0) ∧ (Value.int .i32 0).cells.size = 1 := ⟨_, by first | exact Tryz.info21 | rfl, rfl, rfl, rfl, rfl⟩
set_option maxRecDepth 100000 in
theorem sams_one (l : List Int) : ∀ u ∈ l.map (Value.int .i32), u.oneCell' = true := by
 intro u hu
 obtain ⟨g, _, rfl⟩ := List.mem_map.1 hu
 rfl
def OwnS (w : World) (base : Nat) (v : Value) (l : List Int) : Prop := w.ownsRow base 21 1 v l.length (l.map (Value.int .i32))
set_option maxRecDepth 100000 in
theorem ownS_nil (w : World) (base : Nat) : OwnS w base (.slice none 0 0) [] := World.ownsRow_nil w base 21 1
set_option maxRecDepth 100000 in
theorem OwnS.read {w : World} {base : Nat} {v : Value} {l : List Int} (h : OwnS w base v l) : ∃ (A : Option Addr) (c : Nat), v = .slice A l.length c ∧ l.length ≤ c ∧ Sams w A l := by
 rcases h.2 with ⟨rfl, hn⟩ | ⟨g, cap, cur, rfl, hb, hg, hnc, hm, hs, ht⟩
 ·exact ⟨none, 0, by rw [hn], by omega, Reads.of_own (c := 0) (by simpa [hn, OwnS] using h)⟩
 ·exact ⟨_, cap, rfl, hnc, Reads.of_own h⟩
set_option maxRecDepth 100000 in
theorem OwnS.grows {w w' : World} {base : Nat} {v : Value} {l : List Int} (h : OwnS w base v l) (hg : Grows w w') : OwnS w' base v l := own_grows h hg
set_option maxRecDepth 100000 in
theorem OwnS.below {w w' : World} {base : Nat} {v : Value} {l : List Int} {u : World} (h : OwnS w base v l) (hB : Below base u w) (hg : w.grownBy w' v.ownBlock) (hs : base ≤ w.heap.size) : Below base u w' := hB.grown hg hs fun q hq => (h.lt q hq).1
set_option maxRecDepth 100000 in
theorem OwnS.mono {w : World} {base base' : Nat} {v : Value} {l : List Int} (h : OwnS w base v l) (hb : base' ≤ base) : OwnS w base' v l := ⟨h.1, h.2.imp id fun ⟨g, cap, cur, e, hg, r⟩ => ⟨g, cap, cur, e, by omega, r⟩⟩
section
variable {ops : Array Oper} {rest : List Oper} {o : Oper} {a : Act} {w : World} {Q : Exit → Act → World → Prop}
set_option maxRecDepth 100000 in
theorem wpList_append_s32 (hgd : o.guard = none) (s x : Operand) (ho : o.op = .call { callee := .builtin .append, args := #[s, x], argTypes := #[45, 45] })
 {base : Nat} {v : Value} {l m : List Int} {A : Option Addr} {c n : Nat} (hn : n = m.length) (hs : a.eval s = v) (hown : OwnS w base v l) (hx : a.eval x = .slice A n c) (hr : Sams w A m) (hlen : l.length + m.length ≤ 4000000) (hbase : base ≤ w.heap.size)
 (h : ∀ v' w', OwnS w' base v' (l ++ m) → w.grownBy w' v.ownBlock → (v'.ownBlock = v.ownBlock ∨ v'.ownBlock = some w.heap.size) → wpList Tryz.prog ops Q rest (a.put o.dst v') w') : wpList Tryz.prog ops Q (o :: rest) a w := by
 obtain ⟨i0, hi0, hi1, hi2, hi3, hi4⟩ := s32info
 subst hn
 refine wpList_append_any w hgd s x 45 ho base 21 i0 _ 1 4 Tryz.underlying45 hi0 hi3 hi1 hi2 hi4 (by omega) v l.length (l.map (Value.int .i32)) hs hown w.heap.size A m.length c (m.map (Value.int .i32)) hx hr (sams_one m) (by simp only [maxLen]; omega) (by omega) hbase fun v' w' h1 h2 h3 => h v' w' ?_ h2 h3
 unfold OwnS
 rw [List.map_append, List.length_append]
 exact h1
end
set_option maxRecDepth 100000 in
theorem OwnS.sams {w : World} {base : Nat} {A : Option Addr} {n c : Nat} {l : List Int} (h : OwnS w base (.slice A n c) l) : Sams w A l := by
 obtain ⟨A', c', e, _, hi⟩ := h.read
 injection e with e1 e2 e3
 rw [e1]
 exact hi
theorem sams_take {w : World} {A : Option Addr} {l : List Int} (h : Sams w A l) {k : Nat} (hk : k ≤ l.length) : Sams w A (l.take k) := by
 refine ⟨by simp, fun hn => ?_⟩
 have hl : (l.take k).length = k := by rw [List.length_take]; omega
 obtain ⟨ad, e, hb, hc⟩ := h.2 (by omega)
 refine ⟨ad, e, hb, fun j u hu => hc j u ?_⟩
 rw [List.map_take, List.getElem?_take] at hu
 split at hu
 ·exact hu
 ·cases hu
theorem sams_nil (w : World) : Sams w none [] := Reads.none_
/-- A call of the library's append whose run is known. -/
theorem wpList_append_run {P : Program} {ops : Array Oper} {rest : List Oper} {o : Oper} {a : Act} {w w' : World} {Q : Exit → Act → World → Prop} {v' u x' : Value} (hgd : o.guard = none) (s x : Operand) (t1 t2 : TypeId)
 (ho : o.op = .call { callee := .builtin .append, args := #[s, x], argTypes := #[t1, t2] }) (hs : a.eval s = u) (hx : a.eval x = x') (hrun : (Builtin.append_ #[t1, t2] o.type #[u, x']).run P w = .ok v' w')
 (h : wpList P ops Q rest (a.put o.dst v') w') : wpList P ops Q (o :: rest) a w :=
 wpList_plain hgd fun _ hK => by
  unfold Oper.wp execOp
  simp only [ho, resolve, invoke, builtin, Sem.run_bind, Sem.run_pure, Result.andThen_ok, List.map_toArray, List.map_cons, List.map_nil, hs, hx, hrun]
  exact hK _ _ h
/-- append(s, make([]int32, 0)...) -/
theorem run_append_none (w : World) (ty : TypeId) (A : Option Addr) (n c : Nat) (hc : n ≤ c) : (Builtin.append_ #[45, 3] ty #[.slice A n c, .int .i64 0]).run Tryz.prog w = .ok (.slice A n c) w := by
 obtain ⟨i0, hi0, hi1, hi2, hi3, hi4⟩ := s32info
 have hz : IntKind.i64.wrap 0 = 0 := by decide
 cases A <;> simp [Builtin.append_, run_underlying Tryz.underlying45, run_underlying Tryz.underlying3, sizeOf, typeInfo, hi0, hi2, asInt, asIntOf, hz, hc, storeCells]
/-- append([]int32(nil), make([]int32, n)...) -/
theorem run_append_count (w : World) (ty : TypeId) (n : Nat) (h0 : 0 < n) (h1 : n ≤ 4000000) : ∃ cap cur, n ≤ cap ∧ cap ≤ maxLen ∧ cur.size = cap * 1 ∧
 (Builtin.append_ #[45, 3] ty #[.slice none 0 0, .int .i64 n]).run Tryz.prog w = .ok (.slice (some ⟨w.heap.size, 0, none⟩) n cap) (w.drew.alloc (.cells cur 21)) := by
 obtain ⟨i0, hi0, hi1, hi2, hi3, hi4⟩ := s32info
 have hz : IntKind.i64.wrap (n : Int) = (n : Int) := IntWalk.i64_in _ (by omega)
 have g1 := grownCap_ge w n 0 21
 have g2 := grownCap_le_maxLen w n 0 21 (by simp only [maxLen]; omega)
 have hn : n ≠ 0 := by omega
 have n1 : ¬ ((n : Int) < 0) := by omega
 have n2 : ¬ (281474976710656 < (n : Int) * 4) := by omega
 have h63' : ¬ (9223372036854775807 < (n : Int)) := by omega
 have h48' : ¬ (281474976710656 < Builtin.nextslicecap n 0 * 4) := by rw [nextslicecap_zero h0]; omega
 have hzc : ∀ k, (Builtin.zeroCells (Value.int .i32 0).cells k).size = k := fun k => by rw [size_zeroCells, hi4, Nat.mul_one]
 refine ⟨grownCap w n 0 21, Builtin.zeroCells (Value.int .i32 0).cells n ++ Builtin.zeroCells (Value.int .i32 0).cells (grownCap w n 0 21 - n), g1, g2, by simp only [Array.size_append, hzc]; omega, ?_⟩
 simp [Builtin.append_, run_underlying Tryz.underlying45, run_underlying Tryz.underlying3, sizeOf, typeInfo, zeroValue, hi0, hi1, hi2, hi3, asInt, asIntOf, hz, n1, n2, hn, h63', h48', Question.forced, run_firstCells_none, newRow, grownCap]
set_option maxRecDepth 100000 in
set_option maxHeartbeats 4000000 in
theorem grow_any (n : Nat) (w : World) (h1 : n ≤ 4000000) : Calls Tryz.prog 293 #[.slice none 0 0, .int .i64 n] w fun e w' => (∃ v, e = .returned v ∧ OwnS w' w.heap.size v []) ∧ Grows w w' := by
 have d1 : decide ((n : Int) < 0) = false := by simp only [decide_eq_false_iff_not]; omega
 have wn : IntKind.i64.wrap (n : Int) = (n : Int) := IntWalk.i64_in _ (by omega)
 go_enter Tryz.func293, Tryz.ntmps293
 rcases Nat.eq_zero_or_pos n with h0 | h0
 ·subst h0
  go_wp2
  go_ret
  exact ⟨⟨_, rfl, ownS_nil _ _⟩, Below.refl _ _⟩
 ·have d2 : decide (0 < (n : Int)) = true := by simp only [decide_eq_true_iff]; omega
  obtain ⟨cap, cur, c1, c2, c3, hr⟩ : ∃ cap cur, n ≤ cap ∧ cap ≤ maxLen ∧ cur.size = cap * 1 ∧ ∀ ty, (Builtin.append_ #[45, 3] ty #[.slice none 0 0, .int .i64 n]).run Tryz.prog w = .ok (.slice (some ⟨w.heap.size, 0, none⟩) n cap) (w.drew.alloc (.cells cur 21)) := by
   obtain ⟨cap, cur, c1, c2, c3, hr⟩ := run_append_count w 0 n h0 h1
   exact ⟨cap, cur, c1, c2, c3, fun ty => hr⟩
  go_wp2_with (refine wpList_append_run rfl _ _ _ _ rfl rfl rfl (hr _) ?_)
  go_wp2
  go_ret
  refine ⟨⟨_, rfl, ?_⟩, ?_⟩
  ·exact World.ownsRow_made w.drew cur cap (Nat.le_refl _) c2 c3
  ·exact (Below.refl _ _).drew.alloc (Nat.le_refl _) _
def catU (a b : List Int) : Nat → List Int
 | 0 => []
 | 1 => a
 | _ => a ++ b
set_option maxRecDepth 100000 in
set_option maxHeartbeats 8000000 in
theorem concat_any (C A B : Option Addr) (cc ca cb : Nat) (a b : List Int) (w : World) (hC : Reads w w.heap.size 1 C 2 [.slice A a.length ca, .slice B b.length cb]) (ha : Sams w A a) (hb : Sams w B b) (h1 : a.length ≤ 1048576) (h2 : b.length ≤ 1048576) :
 Calls Tryz.prog 248 #[.slice C 2 cc] w fun e w' => (∃ v, e = .returned v ∧ OwnS w' w.heap.size v (a ++ b)) ∧ Grows w w' := by
 go_enter Tryz.func248, Tryz.ntmps248
 go_wp2_with fail
 go_loopw [3, 11] (fun s i wr => ∃ k : Nat, k ≤ 2 ∧ i = .int .i64 k ∧ s = .int .i64 (catU a b k).length ∧ Grows w wr) (fun _ i _ => 2 - (intOf i).toNat)
 case atStart => exact ⟨0, by omega, rfl, rfl, Below.refl _ _⟩
 case round =>
  obtain ⟨k, hk, rfl, rfl, hB⟩ := hrel
  by_cases hlt : k < 2
  ·obtain ⟨ad, u, rfl, had, hu, q0⟩ := (Reads.grows hC hB).at_ hlt
   match k, hlt with
   | 0, _ =>
    injection hu with hu
    subst hu
    have q1 : wr.cell? ad = some (.slice A a.length ca) := q0
    have wa : IntKind.i64.wrap (0 + (a.length : Int)) = (a.length : Int) := by rw [Int.zero_add]; exact IntWalk.i64_in _ (by omega)
    have wb : IntKind.i64.wrap (a.length : Int) = (a.length : Int) := IntWalk.i64_in _ (by omega)
    have d1 : decide ((a.length : Int) < 0) = false := by simp only [decide_eq_false_iff_not]; omega
    simp only [catU, List.length_nil, Int.cast_ofNat_Int]
    go_wp2
    go_roundw
    case rel => exact ⟨1, by omega, rfl, rfl, hB⟩
    case measure => simp [intOf]
   | 1, _ =>
    injection hu with hu
    subst hu
    have q1 : wr.cell? ⟨ad.block, ad.off + 1, none⟩ = some (.slice B b.length cb) := q0
    have wa : IntKind.i64.wrap ((a.length : Int) + (b.length : Int)) = ((a ++ b).length : Int) := by rw [List.length_append, Int.natCast_add]; exact IntWalk.i64_in _ (by omega)
    have d1 : decide (((a ++ b).length : Int) < 0) = false := by simp only [decide_eq_false_iff_not]; omega
    obtain ⟨n, hn⟩ : ∃ n, (a ++ b).length = n := ⟨_, rfl⟩
    have HN := Lib.hid hn
    rw [hn] at wa d1
    clear hn
    simp only [catU, Int.cast_ofNat_Int]
    go_wp2
    go_roundw
    case rel => exact ⟨2, by omega, rfl, by rw [← HN.out]; rfl, hB⟩
    case measure => simp [intOf]
  ·have : k = 2 := by omega
   subst this
   obtain ⟨n, hn⟩ : ∃ n, (catU a b 2).length = n := ⟨_, rfl⟩
   have hn2 : n ≤ 4000000 := by rw [← hn]; show (a ++ b).length ≤ _; rw [List.length_append]; omega
   rw [hn]
   clear hn
   go_wp2_with fail
   refine (grow_any n _ hn2).mono ?_
   rintro e w1 ⟨⟨v, rfl, ho⟩, hq⟩
   replace ho := ho.mono hB.size
   replace hB := below_grows hB (Nat.le_refl _) hq
   clear hq
   go_wp2_with fail
   go_loopw [6, 27] (fun v i wr => ∃ k : Nat, k ≤ 2 ∧ i = .int .i64 k ∧ OwnS wr w.heap.size v (catU a b k) ∧ Grows w wr) (fun _ i _ => 2 - (intOf i).toNat)
   case atStart => exact ⟨0, by omega, rfl, ho, hB⟩
   case round =>
    clear ho hB hn2
    obtain ⟨k, hk, rfl, ho, hB⟩ := hrel
    by_cases hlt : k < 2
    ·obtain ⟨ad, u, rfl, had, hu, q0⟩ := (Reads.grows hC hB).at_ hlt
     match k, hlt with
     | 0, _ =>
      injection hu with hu
      subst hu
      have q1 : wr.cell? ad = some (.slice A a.length ca) := q0
      have hs := ha.grows hB
      simp only [Int.cast_ofNat_Int]
      go_upto_region 13 with fail
      refine wp_region_lit ?_
      iterate 2
       refine wpList_plain rfl (fun K hK => ?_)
       go_simp
       refine hK _ _ ?_
       clear hK K
      refine wpList_append_s32 rfl (.tmp 31) (.tmp 32) rfl (l := []) (m := a) rfl rfl ho rfl hs (by simp only [List.length_nil]; omega) hB.size ?_
      intro v5 w12 ho2 hgr _
      have hB2 := ho.below hB hgr hB.size
      go_wp2
      go_roundw
      case rel => exact ⟨1, by omega, rfl, ho2, hB2⟩
      case measure => simp [intOf]
     | 1, _ =>
      injection hu with hu
      subst hu
      have q1 : wr.cell? ⟨ad.block, ad.off + 1, none⟩ = some (.slice B b.length cb) := q0
      have hs := hb.grows hB
      simp only [Int.cast_ofNat_Int]
      go_upto_region 13 with fail
      refine wp_region_lit ?_
      iterate 2
       refine wpList_plain rfl (fun K hK => ?_)
       go_simp
       refine hK _ _ ?_
       clear hK K
      refine wpList_append_s32 rfl (.tmp 31) (.tmp 32) rfl (l := a) (m := b) rfl rfl ho rfl hs (by omega) hB.size ?_
      intro v5 w12 ho2 hgr _
      have hB2 := ho.below hB hgr hB.size
      go_wp2
      go_roundw
      case rel => exact ⟨2, by omega, rfl, ho2, hB2⟩
      case measure => simp [intOf]
    ·have : k = 2 := by omega
     subst this
     go_wp2
     go_ret
     exact ⟨⟨_, rfl, ho⟩, hB⟩
set_option maxRecDepth 100000 in
set_option maxHeartbeats 8000000 in
theorem s32clone_any (A : Option Addr) (c : Nat) (l : List Int) (w : World) (h : Sams w A l) (hl : l.length ≤ 1048576) :
 Calls Tryz.prog 131 #[.slice A l.length c] w fun e w' => (∃ v, e = .returned v ∧ OwnS w' w.heap.size v l) ∧ Grows w w' := by
 go_enter Tryz.func131, Tryz.ntmps131
 go_wp2_with fail
 rw [Lib.run_eql_slice_nil (P := Tryz.prog) w 45 21 _ _ _ _ _ Tryz.underlying45]
 rcases A with _ | ad
 ·have h0 : l.length = 0 := by
   rcases Nat.eq_zero_or_pos l.length with h0 | h0
   ·exact h0
   ·obtain ⟨ad, hh, _⟩ := h.2 h0
    cases hh
  obtain rfl : l = [] := List.length_eq_zero_iff.1 h0
  go_wp2
  go_ret
  exact ⟨⟨_, rfl, ownS_nil w w.heap.size⟩, Below.refl _ _⟩
 ·go_upto_region 3 with fail
  refine wp_region_lit ?_
  iterate 2
   refine wpList_plain rfl (fun K hK => ?_)
   go_simp
   refine hK _ _ ?_
   clear hK K
  have hB1 := (Below.refl w.heap.size w).alloc (Nat.le_refl _) (Obj.cells #[] 21)
  have how : OwnS (w.alloc (Obj.cells #[] 21)) w.heap.size (.slice (some ⟨w.heap.size, 0, none⟩) 0 0) [] := World.ownsRow_lit w #[] 0 (Nat.le_refl _) (by simp [maxLen]) rfl
  have h1 := h.grows hB1
  generalize hW : World.alloc w _ = w1 at *
  refine wpList_append_s32 rfl (.tmp 5) (.tmp 6) rfl (m := l) rfl rfl how rfl h1 (by simp only [List.length_nil]; omega) hB1.size ?_
  intro v' w2 hown hgr _
  have hB2 := how.below hB1 hgr hB1.size
  rw [List.nil_append] at hown
  clear how hgr h1 h hB1 hW
  go_wp2
  go_ret
  exact ⟨⟨_, rfl, hown⟩, hB2⟩
end Go.Proofs.YtbfdaojffffaaaaGreat
