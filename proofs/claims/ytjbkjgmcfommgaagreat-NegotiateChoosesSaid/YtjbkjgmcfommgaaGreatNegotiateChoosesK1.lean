/-
  YtjbkjgmcfommgaaGreatNegotiateChooses: shared parts, 1. Plain theorems.
-/
import Derived.Below
import Derived.StillTail
import Derived.WalkKit
import Derived.Laws.OwnMore
import Derived.Deep.AppendLies
import Derived.Deep.Draws
import Derived.Laws.Rows
import Derived.Maps.AppendAt
import Derived.RegionTactic
import Derived.OwnWalk
import Derived.Lib.Hide
import Derived.Laws.Tables
import Derived.ChangeKeysEq
import Derived.Test.YtjbkjgmcfommgaaGreatRows
import Derived.ProofKit
import Derived.OpenShut
import Derived.SizedLaws
import Derived.Carry
import Derived.WalkLawsBesides
import Derived.Deep.DeepCutAuto
import Derived.Deep.CutBlock
import Derived.Deep.RegionWith
import Derived.Lib.SliceRun
import Derived.Deep.QuietTactic
import Derived.Lib.MinMax
namespace Go.Proofs.YtjbkjgmcfommgaaGreat
abbrev Sp := Int × Int
/-- A number lies in one of the spans. -/
def Mem (l : List Sp) (n : Int) : Prop := ∃ x ∈ l, x.1 ≤ n ∧ n ≤ x.2
theorem mem_nil (n : Int) : ¬ Mem [] n := by rintro ⟨x, hx, _⟩; cases hx
theorem mem_cons (x : Sp) (l : List Sp) (n : Int) : Mem (x :: l) n ↔ (x.1 ≤ n ∧ n ≤ x.2) ∨ Mem l n := by
 unfold Mem
 simp
theorem mem_append (a b : List Sp) (n : Int) : Mem (a ++ b) n ↔ Mem a n ∨ Mem b n := by
 induction a with
 | nil => simp [Mem]
 | cons x a ih => rw [List.cons_append, mem_cons, mem_cons, ih, or_assoc]
def fineS (x : Sp) : Bool := decide (0 ≤ x.1) && decide (x.1 ≤ x.2) && decide (x.2 ≤ 2147483647)
theorem fineS_iff (x : Sp) : fineS x = true ↔ 0 ≤ x.1 ∧ x.1 ≤ x.2 ∧ x.2 ≤ 2147483647 := by
 simp [fineS, and_assoc]
/-- Spans in order, none of which touch. -/
def Canon (l : List Sp) : Prop := (∀ x ∈ l, x.1 ≤ x.2) ∧ l.Pairwise (fun x y => x.2 + 1 < y.1)
theorem canon_nil : Canon [] := ⟨by simp, List.Pairwise.nil⟩
theorem canon_cons {x : Sp} {l : List Sp} : Canon (x :: l) ↔ x.1 ≤ x.2 ∧ (∀ y ∈ l, x.2 + 1 < y.1) ∧ Canon l := by
 unfold Canon
 rw [List.pairwise_cons]
 constructor
 ·rintro ⟨h1, h2, h3⟩
  exact ⟨h1 x (by simp), h2, fun y hy => h1 y (by simp [hy]), h3⟩
 ·rintro ⟨h1, h2, h3, h4⟩
  refine ⟨fun y hy => ?_, h2, h4⟩
  rcases List.mem_cons.1 hy with rfl | hy
  ·exact h1
  ·exact h3 y hy
theorem canon_gt {x : Sp} {l : List Sp} (h : Canon (x :: l)) {n : Int} (hn : Mem l n) : x.2 + 1 < n := by
 obtain ⟨y, hy, h1, _⟩ := hn
 have := (canon_cons.1 h).2.1 y hy
 omega
/-- A set has one form. -/
theorem canon_unique {a b : List Sp} (ha : Canon a) (hb : Canon b) (h : ∀ n, Mem a n ↔ Mem b n) : a = b := by
 induction a generalizing b with
 | nil =>
  cases b with
  | nil => rfl
  | cons y b =>
   have hy := (canon_cons.1 hb).1
   exact absurd ((h y.1).2 ((mem_cons _ _ _).2 (.inl ⟨Int.le_refl _, hy⟩))) (mem_nil _)
 | cons x a ih =>
  have hx := (canon_cons.1 ha).1
  cases b with
  | nil => exact absurd ((h x.1).1 ((mem_cons _ _ _).2 (.inl ⟨Int.le_refl _, hx⟩))) (mem_nil _)
  | cons y b =>
   have hy := (canon_cons.1 hb).1
   have low : ∀ {z : Sp} {l : List Sp}, Canon (z :: l) → ∀ n, Mem (z :: l) n → z.1 ≤ n := fun hz n hn => by
    have := (canon_cons.1 hz).1
    rcases (mem_cons _ _ _).1 hn with hn | hn
    ·exact hn.1
    ·have := canon_gt hz hn; omega
   have e1 : x.1 = y.1 := by
    have h1 := low hb x.1 ((h x.1).1 ((mem_cons _ _ _).2 (.inl ⟨Int.le_refl _, hx⟩)))
    have h2 := low ha y.1 ((h y.1).2 ((mem_cons _ _ _).2 (.inl ⟨Int.le_refl _, hy⟩)))
    omega
   have e2 : x.2 = y.2 := by
    apply Classical.byContradiction
    intro hne
    by_cases hlt : x.2 < y.2
    ·have h1 := (h (x.2 + 1)).2 ((mem_cons _ _ _).2 (.inl ⟨by omega, by omega⟩))
     rcases (mem_cons _ _ _).1 h1 with h1 | h1
     ·omega
     ·have := canon_gt ha h1; omega
    ·have h1 := (h (y.2 + 1)).1 ((mem_cons _ _ _).2 (.inl ⟨by omega, by omega⟩))
     rcases (mem_cons _ _ _).1 h1 with h1 | h1
     ·omega
     ·have := canon_gt hb h1; omega
   obtain rfl : x = y := Prod.ext e1 e2
   congr 1
   refine ih (canon_cons.1 ha).2.2 (canon_cons.1 hb).2.2 fun n => ⟨fun hn => ?_, fun hn => ?_⟩
   ·have hg := canon_gt ha hn
    rcases (mem_cons _ _ _).1 ((h n).1 ((mem_cons _ _ _).2 (.inr hn))) with h1 | h1
    ·omega
    ·exact h1
   ·have hg := canon_gt hb hn
    rcases (mem_cons _ _ _).1 ((h n).2 ((mem_cons _ _ _).2 (.inr hn))) with h1 | h1
    ·omega
    ·exact h1
/-- What a walk does with one more span. -/
def mergeS (out : List Sp) (s : Sp) : List Sp := match out.getLast? with
 | some y => if s.1 ≤ y.2 + 1 then out.dropLast ++ [(y.1, max y.2 s.2)] else out ++ [s]
 | none => [s]
def mergeL (l : List Sp) : List Sp := l.foldl mergeS []
theorem mergeL_snoc (l : List Sp) (s : Sp) : mergeL (l ++ [s]) = mergeS (mergeL l) s := by simp [mergeL]
theorem mergeS_len (out : List Sp) (s : Sp) : (mergeS out s).length ≤ out.length + 1 := by
 unfold mergeS
 split
 ·rename_i y hy
  have : out ≠ [] := by rintro rfl; cases hy
  have : 0 < out.length := List.length_pos_iff.2 this
  split <;> simp <;> omega
 ·simp
theorem mergeL_len (l : List Sp) : (mergeL l).length ≤ l.length := by
 have key : ∀ (l out : List Sp), (l.foldl mergeS out).length ≤ out.length + l.length := by
  intro l
  induction l with
  | nil => intro out; simp
  | cons x l ih =>
   intro out
   have h1 := ih (mergeS out x)
   have h2 := mergeS_len out x
   simp only [List.foldl_cons, List.length_cons]
   omega
 simpa [mergeL] using key l []
theorem canon_snoc {out : List Sp} {s : Sp} : Canon (out ++ [s]) ↔ Canon out ∧ s.1 ≤ s.2 ∧ ∀ y ∈ out, y.2 + 1 < s.1 := by
 unfold Canon
 rw [List.pairwise_append]
 constructor
 ·rintro ⟨h1, h2, _, h4⟩
  exact ⟨⟨fun x hx => h1 x (by simp [hx]), h2⟩, h1 s (by simp), fun y hy => h4 y hy s (by simp)⟩
 ·rintro ⟨⟨h1, h2⟩, h3, h4⟩
  refine ⟨fun x hx => ?_, h2, List.pairwise_singleton _ _, fun y hy z hz => ?_⟩
  ·rcases List.mem_append.1 hx with hx | hx
   ·exact h1 x hx
   ·rw [List.mem_singleton.1 hx]; exact h3
  ·rw [List.mem_singleton.1 hz]; exact h4 y hy
theorem last_split {out : List Sp} {y : Sp} (h : out.getLast? = some y) : out = out.dropLast ++ [y] := by
 obtain ⟨l, rfl⟩ := List.getLast?_eq_some_iff.1 h
 simp
/-- Merging spans that are sorted: their one form. -/
theorem mergeL_form (l : List Sp) (hs : l.Pairwise (fun x y => x.1 ≤ y.1)) (hf : ∀ x ∈ l, x.1 ≤ x.2) :
 Canon (mergeL l) ∧ (∀ n, Mem (mergeL l) n ↔ Mem l n) ∧ ∀ y ∈ mergeL l, ∃ x ∈ l, y.1 = x.1 := by
 have key : ∀ k, k ≤ l.length → Canon (mergeL (l.take k)) ∧ (∀ n, Mem (mergeL (l.take k)) n ↔ Mem (l.take k) n) ∧ ∀ y ∈ mergeL (l.take k), ∃ x ∈ l.take k, y.1 = x.1 := by
  intro k
  induction k with
  | zero => intro _; exact ⟨canon_nil, fun n => Iff.rfl, fun y hy => by simp [mergeL] at hy⟩
  | succ k ih =>
   intro hk
   obtain ⟨h1, h2, h3⟩ := ih (by omega)
   have hlt : k < l.length := by omega
   have ht : l.take (k + 1) = l.take k ++ [l[k]] := (List.take_succ_eq_append_getElem hlt)
   rw [ht, mergeL_snoc]
   generalize hs1 : l[k] = s at *
   have hsf : s.1 ≤ s.2 := hf s (by rw [← hs1]; exact List.getElem_mem hlt)
   have hle : ∀ x ∈ l.take k, x.1 ≤ s.1 := by
    have hp : (l.take k ++ [s]).Pairwise (fun x y => x.1 ≤ y.1) := by rw [← ht]; exact hs.sublist (List.take_sublist _ _)
    intro x hx
    exact (List.pairwise_append.1 hp).2.2 x hx s (by simp)
   generalize hout : mergeL (l.take k) = out at *
   generalize l.take k = p at *
   unfold mergeS
   cases hl : out.getLast? with
   | none =>
    obtain rfl : out = [] := List.getLast?_eq_none_iff.1 hl
    simp only []
    refine ⟨canon_cons.2 ⟨hsf, by simp, canon_nil⟩, fun n => ?_, fun y hy => ⟨s, by simp, by rw [List.mem_singleton.1 hy]⟩⟩
    rw [mem_append, ← h2 n]
    exact ⟨fun h => .inr h, fun h => h.elim (fun h => absurd h (mem_nil _)) id⟩
   | some y =>
    have he := last_split hl
    simp only []
    generalize out.dropLast = q at *
    subst he
    have hc := canon_snoc.1 h1
    have hy1 : y.1 ≤ s.1 := by
     obtain ⟨x, hx, e⟩ := h3 y (by simp)
     rw [e]
     exact hle x hx
    by_cases ht2 : s.1 ≤ y.2 + 1
    ·rw [if_pos ht2]
     refine ⟨canon_snoc.2 ⟨hc.1, by simp only []; omega, hc.2.2⟩, fun n => ?_, fun z hz => ?_⟩
     ·have h2n := h2 n
      rw [mem_append] at h2n ⊢
      rw [mem_append, ← h2n, or_assoc]
      refine or_congr Iff.rfl ?_
      rw [mem_cons, mem_cons, mem_cons]
      simp only [mem_nil, or_false]
      omega
     ·rcases List.mem_append.1 hz with hz | hz
      ·obtain ⟨x, hx, e⟩ := h3 z (by simp [hz])
       exact ⟨x, by simp [hx], e⟩
      ·rw [List.mem_singleton.1 hz]
       obtain ⟨x, hx, e⟩ := h3 y (by simp)
       exact ⟨x, by simp [hx], e⟩
    ·rw [if_neg ht2]
     refine ⟨canon_snoc.2 ⟨h1, hsf, fun z hz => ?_⟩, fun n => ?_, fun z hz => ?_⟩
     ·rcases List.mem_append.1 hz with hz | hz
      ·have h5 := hc.2.2 z hz
       have h6 := hc.2.1
       omega
      ·rw [List.mem_singleton.1 hz]; omega
     ·rw [mem_append p, mem_append (q ++ [y]), h2 n]
     ·rcases List.mem_append.1 hz with hz | hz
      ·obtain ⟨x, hx, e⟩ := h3 z hz
       exact ⟨x, by simp [hx], e⟩
      ·exact ⟨s, by simp, by rw [List.mem_singleton.1 hz]⟩
 have := key l.length (Nat.le_refl _)
 rwa [List.take_length] at this
theorem mergeS_fine {out : List Sp} {s : Sp} (ho : ∀ y ∈ out, fineS y = true) (hs : fineS s = true) : ∀ y ∈ mergeS out s, fineS y = true := by
 unfold mergeS
 split
 ·rename_i y hy
  have hym : fineS y = true := ho y (by rw [last_split hy]; simp)
  split
  ·intro z hz
   rcases List.mem_append.1 hz with hz | hz
   ·exact ho z (List.dropLast_subset _ hz)
   ·rw [List.mem_singleton.1 hz]
    rw [fineS_iff] at hym hs ⊢
    simp only []
    omega
  ·intro z hz
   rcases List.mem_append.1 hz with hz | hz
   ·exact ho z hz
   ·rw [List.mem_singleton.1 hz]; exact hs
 ·intro z hz
  rw [List.mem_singleton.1 hz]; exact hs
theorem mergeL_fine (l : List Sp) (h : ∀ x ∈ l, fineS x = true) : ∀ y ∈ mergeL l, fineS y = true := by
 have key : ∀ (l out : List Sp), (∀ x ∈ l, fineS x = true) → (∀ y ∈ out, fineS y = true) → ∀ y ∈ l.foldl mergeS out, fineS y = true := by
  intro l
  induction l with
  | nil => intro out _ ho; exact ho
  | cons x l ih => intro out hl ho; exact ih _ (fun z hz => hl z (List.mem_cons_of_mem _ hz)) (mergeS_fine ho (hl x (by simp)))
 exact key l [] h (by simp)
/-- The form o of the numbers of l. -/
def Forms (l o : List Sp) : Prop := Canon o ∧ (∀ n, Mem o n ↔ Mem l n) ∧ o.length ≤ l.length
theorem forms_uniq {l o o' : List Sp} (h : Forms l o) (h' : Forms l o') : o = o' := canon_unique h.1 h'.1 fun n => (h.2.1 n).trans (h'.2.1 n).symm
theorem forms_merge {l d : List Sp} (hf : ∀ x ∈ l, x.1 ≤ x.2) (hp : d.Perm l) (hs : d.Pairwise (fun x y => x.1 ≤ y.1)) : Forms l (mergeL d) := by
 obtain ⟨h1, h2, _⟩ := mergeL_form d hs (fun x hx => hf x (hp.mem_iff.1 hx))
 refine ⟨h1, fun n => (h2 n).trans ?_, ?_⟩
 ·unfold Mem
  exact ⟨fun ⟨x, hx, h⟩ => ⟨x, hp.mem_iff.1 hx, h⟩, fun ⟨x, hx, h⟩ => ⟨x, hp.mem_iff.2 hx, h⟩⟩
 ·rw [← hp.length_eq]; exact mergeL_len d
/-- Each neighbour lies apart. -/
def chainS : List Sp → Bool
 | x :: y :: l => decide (x.2 + 1 < y.1) && chainS (y :: l)
 | _ => true
def okS (l : List Sp) : Bool := l.all fineS && chainS l && decide (l.length ≤ 64)
theorem chainS_canon (l : List Sp) (hf : ∀ x ∈ l, x.1 ≤ x.2) : chainS l = true ↔ Canon l := by
 induction l with
 | nil => simp [chainS, canon_nil]
 | cons x l ih =>
  cases l with
  | nil => exact ⟨fun _ => canon_cons.2 ⟨hf x (by simp), by simp, canon_nil⟩, fun _ => rfl⟩
  | cons y l =>
   simp only [chainS, Bool.and_eq_true, decide_eq_true_eq]
   rw [ih (fun z hz => hf z (List.mem_cons_of_mem _ hz))]
   constructor
   ·rintro ⟨h1, h2⟩
    refine canon_cons.2 ⟨hf x (by simp), fun z hz => ?_, h2⟩
    rcases List.mem_cons.1 hz with rfl | hz
    ·exact h1
    ·have h3 := (canon_cons.1 h2).2.1 z hz
     have h4 := hf y (by simp)
     omega
   ·intro h
    exact ⟨(canon_cons.1 h).2.1 y (by simp), (canon_cons.1 h).2.2⟩
theorem okS_iff (l : List Sp) : okS l = true ↔ (∀ x ∈ l, fineS x = true) ∧ Canon l ∧ l.length ≤ 64 := by
 unfold okS
 rw [Bool.and_eq_true, Bool.and_eq_true, decide_eq_true_eq, List.all_eq_true]
 constructor
 ·rintro ⟨⟨h1, h2⟩, h3⟩
  exact ⟨h1, (chainS_canon l fun x hx => ((fineS_iff x).1 (h1 x hx)).2.1).1 h2, h3⟩
 ·rintro ⟨h1, h2, h3⟩
  exact ⟨⟨h1, (chainS_canon l h2.1).2 h2⟩, h3⟩
/-- One more span: what a loop that looks at neighbours adds. -/
theorem chainS_snoc (l : List Sp) (x : Sp) : chainS (l ++ [x]) = (chainS l && (match l.getLast? with | some y => decide (y.2 + 1 < x.1) | none => true)) := by
 induction l with
 | nil => rfl
 | cons y l ih =>
  cases l with
  | nil => simp [chainS]
  | cons z l =>
   have e : ((y :: z :: l) : List Sp).getLast? = (z :: l).getLast? := by simp [List.getLast?_cons]
   rw [e]
   simp only [List.cons_append, chainS] at ih ⊢
   rw [ih, Bool.and_assoc]
theorem chainS_prefix (p q : List Sp) (h : chainS (p ++ q) = true) : chainS p = true := by
 induction p with
 | nil => rfl
 | cons x p ih =>
  cases p with
  | nil => rfl
  | cons y p =>
   simp only [List.cons_append, chainS, Bool.and_eq_true] at h ih ⊢
   exact ⟨h.1, ih h.2⟩
theorem okS_no {l : List Sp} (k : Nat) (h : ¬((l.take k).all fineS = true ∧ chainS (l.take k) = true)) : okS l = false := by
 cases e : okS l
 ·rfl
 ·exfalso
  unfold okS at e
  rw [Bool.and_eq_true, Bool.and_eq_true] at e
  refine h ⟨?_, chainS_prefix (l.take k) (l.drop k) (by rw [List.take_append_drop]; exact e.1.2)⟩
  rw [List.all_eq_true] at e ⊢
  exact fun x hx => e.1.1 x (List.mem_of_mem_take hx)
theorem okS_yes {l : List Sp} (h1 : l.all fineS = true) (h2 : chainS l = true) : okS l = decide (l.length ≤ 64) := by
 unfold okS
 rw [h1, h2]
 rfl
def spansF (l : List Sp) : List Sp := if okS l = true then l else []
theorem spansF_canon (l : List Sp) : Canon (spansF l) := by
 unfold spansF
 split
 ·rename_i h; exact ((okS_iff l).1 h).2.1
 ·exact canon_nil
theorem spansF_len (l : List Sp) : (spansF l).length ≤ 64 := by
 unfold spansF
 split
 ·rename_i h; exact ((okS_iff l).1 h).2.2
 ·simp
theorem spansF_fine (l : List Sp) : ∀ x ∈ spansF l, fineS x = true := by
 unfold spansF
 split
 ·rename_i h; exact ((okS_iff l).1 h).1
 ·simp
/-- The pieces of an intersection. -/
def cutS (x y : Sp) : List Sp := if max x.1 y.1 ≤ min x.2 y.2 then [(max x.1 y.1, min x.2 y.2)] else []
def interF (a b : List Sp) : List Sp := a.flatMap fun x => b.flatMap fun y => cutS x y
theorem cut_none {x y : Sp} (h : x.2 < y.1 ∨ y.2 < x.1) : cutS x y = [] := by
 unfold cutS
 rw [if_neg (by omega)]
theorem cuts_right {x : Sp} {b : List Sp} (h : ∀ y ∈ b, x.2 < y.1) : (b.flatMap fun y => cutS x y) = [] := by
 rw [List.flatMap_eq_nil_iff]
 exact fun y hy => cut_none (.inl (h y hy))
theorem cuts_left {y : Sp} {a b : List Sp} (h : ∀ x ∈ a, y.2 < x.1) : interF a (y :: b) = interF a b := by
 unfold interF
 induction a with
 | nil => rfl
 | cons x a ih =>
  rw [List.flatMap_cons, List.flatMap_cons, ih fun z hz => h z (List.mem_cons_of_mem _ hz), List.flatMap_cons, cut_none (.inr (h x (by simp)))]
  rfl
theorem inter_nil_right (a : List Sp) : interF a [] = [] := by
 unfold interF
 rw [List.flatMap_eq_nil_iff]
 exact fun _ _ => rfl
/-- One step of a walk along two sets. -/
theorem inter_step {x y : Sp} {a b : List Sp} (ha : Canon (x :: a)) (hb : Canon (y :: b)) :
 interF (x :: a) (y :: b) = cutS x y ++ (if x.2 < y.2 then interF a (y :: b) else interF (x :: a) b) := by
 have h1 := (canon_cons.1 ha).2.1
 have h2 := (canon_cons.1 hb).2.1
 split
 ·rename_i h
  show (((y :: b).flatMap fun y => cutS x y) ++ interF a (y :: b)) = _
  rw [List.flatMap_cons, cuts_right (fun z hz => by have := h2 z hz; omega), List.append_nil]
 ·rename_i h
  show (((y :: b).flatMap fun y => cutS x y) ++ interF a (y :: b)) = cutS x y ++ ((b.flatMap fun y => cutS x y) ++ interF a b)
  rw [cuts_left (fun z hz => by have := h1 z hz; omega), List.flatMap_cons, List.append_assoc]
theorem mem_cut (x y : Sp) (n : Int) : Mem (cutS x y) n ↔ (x.1 ≤ n ∧ n ≤ x.2) ∧ (y.1 ≤ n ∧ n ≤ y.2) := by
 unfold cutS
 split
 ·rw [mem_cons]
  simp only [mem_nil, or_false]
  omega
 ·constructor
  ·exact fun h => absurd h (mem_nil _)
  ·intro h; omega
theorem mem_inter (a b : List Sp) (n : Int) : Mem (interF a b) n ↔ Mem a n ∧ Mem b n := by
 have one : ∀ (x : Sp) (b : List Sp), Mem (b.flatMap fun y => cutS x y) n ↔ (x.1 ≤ n ∧ n ≤ x.2) ∧ Mem b n := by
  intro x b
  induction b with
  | nil => exact ⟨fun h => absurd h (mem_nil _), fun h => absurd h.2 (mem_nil _)⟩
  | cons y b ih =>
   rw [List.flatMap_cons, mem_append, ih, mem_cut, mem_cons]
   constructor
   ·rintro (h | h)
    ·exact ⟨h.1, .inl h.2⟩
    ·exact ⟨h.1, .inr h.2⟩
   ·rintro ⟨h, h2 | h2⟩
    ·exact .inl ⟨h, h2⟩
    ·exact .inr ⟨h, h2⟩
 unfold interF
 induction a with
 | nil => exact ⟨fun h => absurd h (mem_nil _), fun h => absurd h.1 (mem_nil _)⟩
 | cons x a ih =>
  rw [List.flatMap_cons, mem_append, mem_cons]
  refine (or_congr (one x b) ih).trans ?_
  constructor
  ·rintro (h | h)
   ·exact ⟨.inl h.1, h.2⟩
   ·exact ⟨.inr h.1, h.2⟩
  ·rintro ⟨h | h, h2⟩
   ·exact .inl ⟨h, h2⟩
   ·exact .inr ⟨h, h2⟩
/-- Each piece lies inside a span of each; the pieces are in order and apart. -/
theorem inter_form (a b : List Sp) (ha : Canon a) (hb : Canon b) :
 Canon (interF a b) ∧ (interF a b).length ≤ a.length + b.length ∧ ∀ z ∈ interF a b, (∃ x ∈ a, x.1 ≤ z.1 ∧ z.2 ≤ x.2) ∧ ∃ y ∈ b, y.1 ≤ z.1 ∧ z.2 ≤ y.2 := by
 have key : ∀ (m : Nat) (a b : List Sp), a.length + b.length ≤ m → Canon a → Canon b → Canon (interF a b) ∧ (interF a b).length ≤ a.length + b.length ∧ ∀ z ∈ interF a b, (∃ x ∈ a, x.1 ≤ z.1 ∧ z.2 ≤ x.2) ∧ ∃ y ∈ b, y.1 ≤ z.1 ∧ z.2 ≤ y.2 := by
  intro m
  induction m with
  | zero =>
   intro a b hm _ _
   obtain rfl : a = [] := List.length_eq_zero_iff.1 (by omega)
   exact ⟨canon_nil, Nat.zero_le _, fun z hz => by cases hz⟩
  | succ m ih =>
   intro a b hm ha hb
   cases a with
   | nil => exact ⟨canon_nil, Nat.zero_le _, fun z hz => by cases hz⟩
   | cons x a =>
    cases b with
    | nil => rw [inter_nil_right]; exact ⟨canon_nil, Nat.zero_le _, fun z hz => by cases hz⟩
    | cons y b =>
     rw [inter_step ha hb]
     have hx := (canon_cons.1 ha).1
     have hy := (canon_cons.1 hb).1
     have h1 := (canon_cons.1 ha).2.1
     have h2 := (canon_cons.1 hb).2.1
     obtain ⟨rest, hr, hrc, hrl, hrm, hrg⟩ : ∃ rest, (if x.2 < y.2 then interF a (y :: b) else interF (x :: a) b) = rest ∧ Canon rest ∧ rest.length ≤ a.length + b.length + 1 ∧ (∀ z ∈ rest, (∃ x' ∈ x :: a, x'.1 ≤ z.1 ∧ z.2 ≤ x'.2) ∧ ∃ y' ∈ y :: b, y'.1 ≤ z.1 ∧ z.2 ≤ y'.2) ∧ ∀ z ∈ rest, min x.2 y.2 + 1 < z.1 := by
      split
      ·rename_i h
       obtain ⟨i1, i2, i3⟩ := ih a (y :: b) (by simp only [List.length_cons] at *; omega) (canon_cons.1 ha).2.2 hb
       refine ⟨_, rfl, i1, by simp only [List.length_cons] at *; omega, fun z hz => ?_, fun z hz => ?_⟩
       ·obtain ⟨⟨x', hx', e⟩, e2⟩ := i3 z hz
        exact ⟨⟨x', List.mem_cons_of_mem _ hx', e⟩, e2⟩
       ·obtain ⟨⟨x', hx', e⟩, _⟩ := i3 z hz
        have := h1 x' hx'
        omega
      ·rename_i h
       obtain ⟨i1, i2, i3⟩ := ih (x :: a) b (by simp only [List.length_cons] at *; omega) ha (canon_cons.1 hb).2.2
       refine ⟨_, rfl, i1, by simp only [List.length_cons] at *; omega, fun z hz => ?_, fun z hz => ?_⟩
       ·obtain ⟨e2, ⟨y', hy', e⟩⟩ := i3 z hz
        exact ⟨e2, ⟨y', List.mem_cons_of_mem _ hy', e⟩⟩
       ·obtain ⟨_, ⟨y', hy', e⟩⟩ := i3 z hz
        have := h2 y' hy'
        omega
     rw [hr]
     unfold cutS
     split
     ·rename_i hc
      simp only [List.cons_append, List.nil_append]
      refine ⟨canon_cons.2 ⟨hc, hrg, hrc⟩, by simp only [List.length_cons]; omega, fun z hz => ?_⟩
      rcases List.mem_cons.1 hz with rfl | hz
      ·exact ⟨⟨x, by simp, by simp only []; omega, by simp only []; omega⟩, ⟨y, by simp, by simp only []; omega, by simp only []; omega⟩⟩
      ·exact hrm z hz
     ·simp only [List.nil_append]
      exact ⟨hrc, by simp only [List.length_cons]; omega, hrm⟩
 exact key _ a b (Nat.le_refl _) ha hb
end Go.Proofs.YtjbkjgmcfommgaaGreat

namespace Go.Proofs.YtjbkjgmcfommgaaGreat
open Go.RowKit
/-- Only new memory: all that was there is as it was. -/
abbrev Grows (w w' : World) : Prop := Below w.heap.size w w'
theorem Grows.rfl' (w : World) : Grows w w := Below.refl _ _
theorem Grows.drew' (w : World) : Grows w w.drew := (Below.refl _ _).drew
/-- The op gives the value v and only new memory. -/
def calmR (P : Program) (w : World) : Result Next → Value → Prop
 | .ok (.value u) w', v => u = v ∧ Grows w w'
 | .ok .skip w', v => v = undef ∧ Grows w w'
 | .ok (.enter f args) w', v => Calls P f args w' fun e w'' => e = .returned v ∧ Grows w w''
 | _, _ => False
/-- The op gives some value with D, and only new memory. -/
def floatR (P : Program) (w : World) (D : Value → World → Prop) : Result Next → Prop
 | .ok (.value u) w' => D u w' ∧ Grows w w'
 | .ok (.enter f args) w' => Calls P f args w' fun e w'' => ∃ u, e = .returned u ∧ D u w'' ∧ Grows w w''
 | _ => False
section
variable {P : Program} {ops : Array Oper} {S : World → Prop} {md : Region.Mode}
def CalmAt (P : Program) (ops : Array Oper) (S : World → Prop) (o : Oper) (v : Value) (a : Act) : Prop :=
 (Region.wanted o (yielded ops a.tmps) = true ∧ ∀ w, S w → calmR P w ((execOp a.eval o).run P w) v) ∨ (Region.wanted o (yielded ops a.tmps) = false ∧ v = undef)
def FloatAt (P : Program) (S : World → Prop) (o : Oper) (D : Value → World → Prop) (a : Act) : Prop :=
 o.guard = none ∧ ∀ w, S w → floatR P w D ((execOp a.eval o).run P w)
abbrev Floats := List (Nat × (Value → World → Prop))
def Floats.at (fl : Floats) (k : Nat) : Option (Value → World → Prop) := fl.lookup k
theorem run_agree {o : Oper} (hs : ∀ cs b, o.op ≠ .select cs b) {a a' : Act} (h : ∀ t ∈ o.looksAt ops, a.tmps[t]? = a'.tmps[t]?) : execOp a.eval o = execOp a'.eval o := by
 refine execOp_congr o hs fun x hx => ?_
 cases x with
 | tmp t =>
  have := h t (List.mem_append_left _ (List.mem_filterMap.2 ⟨.tmp t, by simpa using hx, rfl⟩))
  simp [Act.eval, this]
 | _ => rfl
theorem wanted_agree {o : Oper} {a a' : Act} (h : ∀ t ∈ o.looksAt ops, a.tmps[t]? = a'.tmps[t]?) : Region.wanted o (yielded ops a.tmps) = Region.wanted o (yielded ops a'.tmps) := by
 unfold Region.wanted
 cases hg : o.guard with
 | none => rfl
 | some gw =>
  obtain ⟨g, want⟩ := gw
  have hy : yielded ops a.tmps g = yielded ops a'.tmps g := by
   unfold yielded
   cases ht : (ops[g]?).bind (·.dst) with
   | none => rfl
   | some t =>
    have := h t (List.mem_append_right _ (by simp [hg, ht]))
    simp [this]
  simp only [hy]
theorem CalmAt.agree {o : Oper} (hs : ∀ cs b, o.op ≠ .select cs b) {v : Value} {a a' : Act} (h : ∀ t ∈ o.looksAt ops, a.tmps[t]? = a'.tmps[t]?) (hc : CalmAt P ops S o v a) : CalmAt P ops S o v a' := by
 unfold CalmAt at *
 rw [← run_agree (ops := ops) hs h, ← wanted_agree h]
 exact hc
/-! ### the walk in the order of the text -/
def wpCalm (P : Program) (ops : Array Oper) (S : World → Prop) (fl : Floats) (L : Act → Prop) : List Oper → Nat → Act → Prop
 | [], _, a => L a
 | o :: l, k, a =>
  match fl.at k with
  | some D => FloatAt P S o D a ∧ wpCalm P ops S fl L l (k + 1) a
  | none => ∃ v, CalmAt P ops S o v a ∧ wpCalm P ops S fl L l (k + 1) (a.put o.dst v)
def stepAct (fl : Floats) (val : Nat → Value) (o : Oper) (k : Nat) (a : Act) : Act := match fl.at k with | some _ => a | none => a.put o.dst (val k)
def fin (fl : Floats) (val : Nat → Value) : List Oper → Nat → Act → Act
 | [], _, a => a
 | o :: l, k, a => fin fl val l (k + 1) (stepAct fl val o k a)
def Good (P : Program) (ops : Array Oper) (S : World → Prop) (fl : Floats) (val : Nat → Value) : List Oper → Nat → Act → Prop
 | [], _, _ => True
 | o :: l, k, a => (match fl.at k with | some D => FloatAt P S o D a | none => CalmAt P ops S o (val k) a) ∧ Good P ops S fl val l (k + 1) (stepAct fl val o k a)
theorem fin_congr {fl : Floats} {val val' : Nat → Value} : ∀ (l : List Oper) (k : Nat) (a : Act), (∀ j, k ≤ j → val j = val' j) → fin fl val l k a = fin fl val' l k a
 | [], _, _, _ => rfl
 | o :: l, k, a, h => by
  simp only [fin, stepAct, h k (Nat.le_refl _)]
  exact fin_congr l (k + 1) _ fun j hj => h j (by omega)
theorem Good_congr {fl : Floats} {val val' : Nat → Value} : ∀ (l : List Oper) (k : Nat) (a : Act), (∀ j, k ≤ j → val j = val' j) → Good P ops S fl val l k a → Good P ops S fl val' l k a
 | [], _, _, _, _ => trivial
 | o :: l, k, a, h, hg => by
  simp only [Good, stepAct, h k (Nat.le_refl _)] at hg ⊢
  exact ⟨hg.1, Good_congr l (k + 1) _ (fun j hj => h j (by omega)) hg.2⟩
theorem good_of_wpCalm {fl : Floats} {L : Act → Prop} : ∀ (l : List Oper) (k : Nat) (a : Act), wpCalm P ops S fl L l k a → ∃ val, Good P ops S fl val l k a ∧ L (fin fl val l k a)
 | [], _, a, h => ⟨fun _ => undef, trivial, h⟩
 | o :: l, k, a, h => by
  unfold wpCalm at h
  cases hf : fl.at k with
  | some D =>
   simp only [hf] at h
   obtain ⟨val, hg, hL⟩ := good_of_wpCalm l (k + 1) a h.2
   exact ⟨val, by simp only [Good, hf, stepAct]; exact ⟨h.1, hg⟩, by simp only [fin, stepAct, hf]; exact hL⟩
  | none =>
   simp only [hf] at h
   obtain ⟨v, hc, h2⟩ := h
   obtain ⟨val, hg, hL⟩ := good_of_wpCalm l (k + 1) (a.put o.dst v) h2
   have hcg : ∀ j, k + 1 ≤ j → val j = (fun i => if i = k then v else val i) j := fun j hj => by simp only []; rw [if_neg (by omega)]
   refine ⟨fun i => if i = k then v else val i, ?_, ?_⟩
   ·simp only [Good, hf, stepAct, if_true]
    exact ⟨hc, Good_congr l (k + 1) _ hcg hg⟩
   ·simp only [fin, stepAct, hf, if_true]
    rw [← fin_congr l (k + 1) _ hcg]
    exact hL
/-! ### what the frame holds in the order of the text -/
theorem put_size (a : Act) (d : Option Tmp) (v : Value) : (a.put d v).tmps.size = a.tmps.size := by cases d <;> simp [Act.put]
theorem put_defers' (a : Act) (d : Option Tmp) (v : Value) : (a.put d v).defers = a.defers := by cases d <;> rfl
theorem put_get_ne {a : Act} {d : Option Tmp} {v : Value} {t : Nat} (h : d ≠ some t) : (a.put d v).tmps[t]? = a.tmps[t]? := by
 cases d with
 | none => rfl
 | some d => exact Array.getElem?_setIfInBounds_ne (fun e => h (by rw [e]))
theorem put_get_eq {a : Act} {v : Value} {t : Nat} (h : t < a.tmps.size) : (a.put (some t) v).tmps[t]? = some v := by
 simp [Act.put, h]
theorem stepAct_size (fl : Floats) (val : Nat → Value) (o : Oper) (k : Nat) (a : Act) : (stepAct fl val o k a).tmps.size = a.tmps.size := by
 unfold stepAct; split
 ·rfl
 ·exact put_size _ _ _
theorem stepAct_defers (fl : Floats) (val : Nat → Value) (o : Oper) (k : Nat) (a : Act) : (stepAct fl val o k a).defers = a.defers := by
 unfold stepAct; split
 ·rfl
 ·exact put_defers' _ _ _
theorem fin_size {fl : Floats} {val : Nat → Value} : ∀ (l : List Oper) (k : Nat) (a : Act), (fin fl val l k a).tmps.size = a.tmps.size
 | [], _, _ => rfl
 | _ :: l, k, _ => (fin_size l (k + 1) _).trans (stepAct_size _ _ _ _ _)
theorem fin_defers {fl : Floats} {val : Nat → Value} : ∀ (l : List Oper) (k : Nat) (a : Act), (fin fl val l k a).defers = a.defers
 | [], _, _ => rfl
 | _ :: l, k, _ => (fin_defers l (k + 1) _).trans (stepAct_defers _ _ _ _ _)
/-- A slot that no calm op of the list writes. -/
theorem fin_other {fl : Floats} {val : Nat → Value} {t : Nat} : ∀ (l : List Oper) (k : Nat) (a : Act), (∀ j o, l[j]? = some o → fl.at (k + j) = none → o.dst ≠ some t) → (fin fl val l k a).tmps[t]? = a.tmps[t]?
 | [], _, _, _ => rfl
 | o :: l, k, a, h => by
  have h0 : (stepAct fl val o k a).tmps[t]? = a.tmps[t]? := by
   unfold stepAct
   cases hf : fl.at k with
   | some D => rfl
   | none => exact put_get_ne (h 0 o rfl (by simpa using hf))
  rw [fin, fin_other l (k + 1) _ fun j o' hj hn => h (j + 1) o' (by simpa using hj) (by rw [← hn]; congr 1; omega)]
  exact h0
/-- The slot of calm op number j, where no two ops write one slot. -/
theorem fin_at {fl : Floats} {val : Nat → Value} {t : Nat} : ∀ (l : List Oper) (k : Nat) (a : Act) (j : Nat) (o : Oper), l[j]? = some o → o.dst = some t → fl.at (k + j) = none → t < a.tmps.size →
 (∀ i o', l[i]? = some o' → i ≠ j → o'.dst ≠ some t) → (fin fl val l k a).tmps[t]? = some (val (k + j))
 | [], _, _, _, _, hj, _, _, _, _ => by simp at hj
 | o' :: l, k, _, 0, _, hj, hd, hn, ht, hu => by
  simp only [List.getElem?_cons_zero, Option.some.injEq] at hj
  subst hj
  rw [fin, fin_other l (k + 1) _ fun j o' hj _ => hu (j + 1) o' (by simpa using hj) (by omega)]
  simp only [stepAct, show fl.at k = none from by simpa using hn, hd, Nat.add_zero]
  exact put_get_eq ht
 | _ :: l, k, _, j + 1, o, hj, hd, hn, ht, hu => by
  rw [fin, show k + (j + 1) = k + 1 + j by omega]
  exact fin_at l (k + 1) _ j o (by simpa using hj) hd (by rw [← hn]; congr 1; omega) (by rw [stepAct_size]; exact ht) fun i o' hi hne => hu (i + 1) o' (by simpa using hi) (by omega)
theorem good_at {fl : Floats} {val : Nat → Value} : ∀ (l : List Oper) (k : Nat) (a : Act) (j : Nat) (o : Oper), Good P ops S fl val l k a → l[j]? = some o →
 (match fl.at (k + j) with | some D => FloatAt P S o D (fin fl val (l.take j) k a) | none => CalmAt P ops S o (val (k + j)) (fin fl val (l.take j) k a))
 | [], _, _, _, _, _, hj => by simp at hj
 | _ :: l, k, _, 0, o, hg, hj => by
  simp only [List.getElem?_cons_zero, Option.some.injEq] at hj
  subst hj
  simpa [Good, fin] using hg.1
 | _ :: l, k, _, j + 1, o, hg, hj => by
  have := good_at l (k + 1) _ j o hg.2 (by simpa using hj)
  rw [show k + 1 + j = k + (j + 1) by omega] at this
  simpa [fin] using this
/-! ### the check, in one closed Bool -/
def mixB (md : Region.Mode) (ops : Array Oper) (n N : Nat) (ks : List Nat) : Bool :=
 Region.noSelect ops && decide (n ≤ ops.size) && decide ks.Nodup && ks.all (fun k => decide (k < n) && ((ops[k]?).bind (·.dst)).isSome) &&
 (decide (n = ops.size) || (decide (n < ops.size) && Region.sinkB md ops n && Region.chainB md ops n)) &&
 Region.seqB md ops (ops.size - n) n ((Array.replicate n true) ++ (Array.replicate (ops.size - n) false)) &&
 (List.range n).all (fun i => match ops[i]? with
   | none => false
   | some o => (match o.dst with | none => true | some t => decide (t < N)) && o.after.all (fun e => !Region.binds md e || decide (e.on < i)) &&
    (List.range n).all (fun k => (k == i || match o.dst with | none => true | some t => !((ops[k]?).bind (·.dst) == some t)) &&
      (match (ops[k]?).bind (·.dst) with
       | none => true
       | some t => !(o.looksAt ops).contains t || (decide (k < i) && !ks.contains k && Region.waitsFor md ops i k))))
structure MixOk (md : Region.Mode) (ops : Array Oper) (n N : Nat) (ks : List Nat) : Prop where
 sel : Region.noSelect ops = true
 le : n ≤ ops.size
 nd : ks.Nodup
 fl : ∀ k ∈ ks, k < n ∧ ∃ t, (ops[k]?).bind (·.dst) = some t
 tail : n = ops.size ∨ (n < ops.size ∧ Region.sinkB md ops n = true ∧ Region.chainB md ops n = true)
 seq : Region.seqB md ops (ops.size - n) n ((Array.replicate n true) ++ (Array.replicate (ops.size - n) false)) = true
 bd : ∀ i o t, i < n → ops[i]? = some o → o.dst = some t → t < N
 back : ∀ i o, i < n → ops[i]? = some o → ∀ e ∈ o.after, Region.binds md e = true → e.on < i
 ne : ∀ i o k o' t, i < n → k < n → ops[i]? = some o → ops[k]? = some o' → k ≠ i → o.dst = some t → o'.dst ≠ some t
 look : ∀ i o k o' t, i < n → k < n → ops[i]? = some o → ops[k]? = some o' → o'.dst = some t → t ∈ o.looksAt ops → k < i ∧ k ∉ ks ∧ Region.waitsFor md ops i k = true
theorem mixOk_of {n N : Nat} {ks : List Nat} (h : mixB md ops n N ks = true) : MixOk md ops n N ks := by
 simp only [mixB, Bool.and_eq_true, decide_eq_true_eq, List.all_eq_true, Bool.or_eq_true, List.mem_range] at h
 obtain ⟨⟨⟨⟨⟨⟨h1, h2⟩, h3⟩, h4⟩, h5⟩, h6⟩, h7⟩ := h
 have H : ∀ i o, i < n → ops[i]? = some o → _ := fun i o hi ho => by
  have := h7 i hi
  rw [ho] at this
  exact this
 refine ⟨h1, h2, h3, fun k hk => ⟨(h4 k hk).1, Option.isSome_iff_exists.1 (h4 k hk).2⟩, ?_, h6, ?_, ?_, ?_, ?_⟩
 ·rcases h5 with h5 | h5
  ·exact .inl h5
  ·exact .inr ⟨h5.1.1, h5.1.2, h5.2⟩
 ·intro i o t hi ho hd
  have := (H i o hi ho)
  simp only [Bool.and_eq_true, hd, decide_eq_true_eq] at this
  exact this.1.1
 ·intro i o hi ho e he hb
  have := (H i o hi ho)
  simp only [Bool.and_eq_true] at this
  have h8 := Array.all_eq_true_iff_forall_mem.1 this.1.2 e he
  simpa [hb] using h8
 ·intro i o k o' t hi hk ho ho' hne hd
  have := (H i o hi ho)
  simp only [Bool.and_eq_true, List.all_eq_true, List.mem_range] at this
  have h8 := (this.2 k hk).1
  simp only [ho', Option.bind_some, hd, Bool.or_eq_true, beq_iff_eq, hne, false_or, Bool.not_eq_true', beq_eq_false_iff_ne] at h8
  exact h8
 ·intro i o k o' t hi hk ho ho' hd ht
  have := (H i o hi ho)
  simp only [Bool.and_eq_true, List.all_eq_true, List.mem_range] at this
  have h8 := (this.2 k hk).2
  have hc : (o.looksAt ops).contains t = true := by simpa using ht
  simp only [ho', Option.bind_some, hd, hc, Bool.not_true, Bool.false_or, Bool.and_eq_true, decide_eq_true_eq, Bool.not_eq_true', List.contains_eq_mem, decide_eq_false_iff_not] at h8
  exact ⟨h8.1.1, h8.1.2, h8.2⟩
/-! ### one op in whatever order -/
theorem calm_wpOp {Q : Exit → Act → World → Prop} {i : Nat} {o : Oper} {v : Value} {a : Act} {w : World} {K : Act → World → Prop} (hi : ops[i]? = some o) (hc : CalmAt P ops S o v a) (hw : S w)
 (hK : ∀ w', Grows w w' → K (a.put o.dst v) w') : wpOp P ops Q i K a w := by
 unfold wpOp
 simp only [hi]
 rcases hc with ⟨hwt, hr⟩ | ⟨hwt, rfl⟩
 ·simp only [hwt, if_true]
  refine .inl ?_
  have := hr w hw
  unfold Oper.wp
  generalize (execOp a.eval o).run P w = r at *
  cases r with
  | ok n w' =>
   cases n <;> simp only [calmR] at this <;> simp only [Oper.upon]
   case value u => obtain ⟨rfl, hg⟩ := this; exact hK _ hg
   case skip => obtain ⟨rfl, hg⟩ := this; exact hK _ hg
   case enter f args => exact this.mono fun e w'' ⟨he, hg⟩ => by subst he; exact hK _ hg
  | halt x w' => simp only [calmR] at this
 ·simp only [hwt, Bool.false_eq_true, if_false]
  exact hK _ (Below.refl _ _)
theorem float_wpOp {Q : Exit → Act → World → Prop} {i : Nat} {o : Oper} {D : Value → World → Prop} {a : Act} {w : World} {K : Act → World → Prop} (hi : ops[i]? = some o) (hc : FloatAt P S o D a) (hw : S w)
 (hK : ∀ u w', D u w' → Grows w w' → K (a.put o.dst u) w') : wpOp P ops Q i K a w := by
 unfold wpOp
 simp only [hi, Region.wanted, hc.1, if_true]
 refine .inl ?_
 have := hc.2 w hw
 unfold Oper.wp
 generalize (execOp a.eval o).run P w = r at *
 cases r with
 | ok n w' =>
  cases n <;> simp only [floatR] at this <;> simp only [Oper.upon]
  case value u => exact hK _ _ this.1 this.2
  case enter f args => exact this.mono fun e w'' ⟨u, he, hd, hg⟩ => by subst he; exact hK _ _ hd hg
 | halt x w' => simp only [floatR] at this
/-! ### the state in whatever order -/
structure Inv (S : World → Prop) (ops : Array Oper) (n : Nat) (fl : Floats) (val : Nat → Value) (a0 : Act) (listed : Array Bool) (a : Act) (w : World) : Prop where
 s : S w
 defers : a.defers = a0.defers
 size : a.tmps.size = a0.tmps.size
 calm : ∀ k o t, k < n → ops[k]? = some o → o.dst = some t → listed.getD k false = true → fl.at k = none → a.tmps[t]? = some (val k)
 float : ∀ k o t D, k < n → ops[k]? = some o → o.dst = some t → listed.getD k false = true → fl.at k = some D → ∃ v, a.tmps[t]? = some v ∧ D v w
 other : ∀ t, (∀ k o, k < n → ops[k]? = some o → listed.getD k false = true → o.dst ≠ some t) → a.tmps[t]? = a0.tmps[t]?
theorem lookup_mem {fl : Floats} {k : Nat} : k ∉ fl.map (·.1) → fl.at k = none := by
 intro h
 unfold Floats.at
 rw [List.lookup_eq_none_iff]
 intro p hp
 simp only [bne_iff_ne, ne_eq]
 intro e
 exact h (List.mem_map.2 ⟨p, hp, e.symm⟩)
theorem lookup_some {k : Nat} {D : Value → World → Prop} : ∀ {fl : Floats}, (fl.map (·.1)).Nodup → (k, D) ∈ fl → fl.at k = some D
 | [], _, h => by simp at h
 | (k', D') :: r, hn, h => by
  simp only [List.map_cons, List.nodup_cons] at hn
  unfold Floats.at
  rw [List.lookup_cons]
  rcases List.mem_cons.1 h with h | h
  ·injection h with h1 h2
   subst h1; subst h2
   simp
  ·have hne : k ≠ k' := fun e => hn.1 (List.mem_map.2 ⟨(k, D), h, e⟩)
   simp only [beq_eq_false_iff_ne.2 hne]
   exact lookup_some (fl := r) hn.2 h
theorem lookup_key {fl : Floats} {k : Nat} {D : Value → World → Prop} (h : fl.at k = some D) : k ∈ fl.map (·.1) := by
 apply Classical.byContradiction
 intro hn
 rw [lookup_mem hn] at h
 cases h
theorem countP_lt {p q : Nat → Bool} {i : Nat} : ∀ (l : List Nat), i ∈ l → (∀ j ∈ l, q j = true → p j = true) → p i = true → q i = false → l.countP q < l.countP p
 | [], h, _, _, _ => by simp at h
 | x :: l, h, hle, hp, hq => by
  have hmono : l.countP q ≤ l.countP p := List.countP_mono_left fun j hj hq' => hle j (by simp [hj]) hq'
  by_cases hx : i = x
  ·subst hx
   rw [List.countP_cons, List.countP_cons, hp, hq]
   simp
   omega
  ·have hi : i ∈ l := by
    rcases List.mem_cons.1 h with h | h
    ·exact absurd h hx
    ·exact h
   have := countP_lt l hi (fun j hj => hle j (by simp [hj])) hp hq
   rw [List.countP_cons, List.countP_cons]
   have h2 := hle x (by simp)
   cases hqx : q x
   ·simp; omega
   ·rw [h2 hqx]; simp; omega
theorem wpAny_more {Q : Exit → Act → World → Prop} : ∀ (f : Nat) (listed : Array Bool) (a : Act) (w : World), wpAny P md ops Q f listed a w → wpAny P md ops Q (f + 1) listed a w
 | 0, _, _, _, h => ⟨fun _ => h.2, fun i hi => by rw [h.1] at hi; cases hi⟩
 | f + 1, _, _, _, h => ⟨h.1, fun i hi => wpOp_mono (fun a' w' h' => wpAny_more f _ a' w' h') (h.2 i hi)⟩
theorem wpAny_fuel {Q : Exit → Act → World → Prop} (g : Nat) (listed : Array Bool) (a : Act) (w : World) (h : wpAny P md ops Q g listed a w) : ∀ f, wpAny P md ops Q (f + g) listed a w
 | 0 => by rw [Nat.zero_add]; exact h
 | f + 1 => by rw [show f + 1 + g = (f + g) + 1 by omega]; exact wpAny_more _ _ _ _ (wpAny_fuel g listed a w h f)
section
variable {n N : Nat} {ks : List Nat} {fl : Floats} {val : Nat → Value} {a0 : Act}
theorem take_get {i : Nat} {o : Oper} (hi : i < n) (ho : ops[i]? = some o) : (ops.toList.take n)[i]? = some o := by
 rw [List.getElem?_take, if_pos hi]; simpa using ho
theorem of_take_get {i : Nat} {o : Oper} (ho : (ops.toList.take n)[i]? = some o) : i < n ∧ ops[i]? = some o := by
 rw [List.getElem?_take] at ho
 split at ho
 ·exact ⟨by assumption, by simpa using ho⟩
 ·cases ho
theorem op_step (ok : MixOk md ops n N ks) (hks : fl.map (·.1) = ks) (hN : a0.tmps.size = N) (good : Good P ops S fl val (ops.toList.take n) 0 a0)
 {listed : Array Bool} {a : Act} {w : World} (inv : Inv S ops n fl val a0 listed a w) {i : Nat} {o : Oper} (hi : i < n) (ho : ops[i]? = some o) (hr : i ∈ Region.ready md ops listed) :
 (match fl.at i with | some D => FloatAt P S o D a | none => CalmAt P ops S o (val i) a) := by
 have hg := good_at (ops.toList.take n) 0 a0 i o good (take_get hi ho)
 rw [Nat.zero_add] at hg
 rw [List.take_take, Nat.min_eq_left (by omega)] at hg
 have hs : ∀ cs b, o.op ≠ .select cs b := fun cs b => Region.noSelect_spec ok.sel i o cs b ho
 have agree : ∀ t ∈ o.looksAt ops, (fin fl val (ops.toList.take i) 0 a0).tmps[t]? = a.tmps[t]? := by
  intro t ht
  by_cases hex : ∃ k o', k < n ∧ ops[k]? = some o' ∧ o'.dst = some t
  ·obtain ⟨k, o', hk, ho', hd⟩ := hex
   obtain ⟨h1, h2, h3⟩ := ok.look i o k o' t hi hk ho ho' hd ht
   have hcalm : fl.at k = none := lookup_mem (by rw [hks]; exact h2)
   have hlisted : listed.getD k false = true := by
    obtain ⟨oj, hoj, e, he, hb, hon⟩ := Region.waitsFor_spec h3
    obtain ⟨_, oi, hoi, hall⟩ := mem_ready.1 hr
    have : oj = oi := Option.some.inj (hoj.symm.trans hoi)
    subst this
    have := hall e he hb
    rwa [hon] at this
   have e1 := inv.calm k o' t hk ho' hd hlisted hcalm
   have hlt : t < a0.tmps.size := by rw [hN]; exact ok.bd k o' t hk ho' hd
   have e2 := fin_at (fl := fl) (val := val) (ops.toList.take i) 0 a0 k o' (take_get h1 ho') hd (by rw [Nat.zero_add]; exact hcalm) hlt (by
    intro j oj hj hne hdj
    obtain ⟨hji, hoj⟩ := of_take_get hj
    exact ok.ne j oj k o' t (by omega) hk hoj ho' (Ne.symm hne) hdj hd)
   rw [Nat.zero_add] at e2
   rw [e1, e2]
  ·have e1 := inv.other t fun k o' hk ho' _ hd => hex ⟨k, o', hk, ho', hd⟩
   have e2 := fin_other (fl := fl) (val := val) (t := t) (ops.toList.take i) 0 a0 fun j oj hj _ hd => by
    obtain ⟨hji, hoj⟩ := of_take_get hj
    exact hex ⟨j, oj, by omega, hoj, hd⟩
   rw [e1, e2]
 cases hf : fl.at i with
 | some D =>
  simp only [hf] at hg ⊢
  exact ⟨hg.1, by rw [← run_agree (ops := ops) hs agree]; exact hg.2⟩
 | none =>
  simp only [hf] at hg ⊢
  exact hg.agree hs agree
theorem inv_step (ok : MixOk md ops n N ks) (hN : a0.tmps.size = N) (hS : ∀ w w', S w → Grows w w' → S w') (hD : ∀ k D, fl.at k = some D → ∀ v w w', D v w → Grows w w' → D v w')
 {listed : Array Bool} {a : Act} {w w' : World} (inv : Inv S ops n fl val a0 listed a w) {i : Nat} {o : Oper} (hi : i < n) (ho : ops[i]? = some o) (hl : i < listed.size) {u : Value}
 (hu : fl.at i = none → u = val i) (huf : ∀ D, fl.at i = some D → D u w') (hg : Grows w w') : Inv S ops n fl val a0 (listed.setIfInBounds i true) (a.put o.dst u) w' := by
 have key : ∀ k o' t, k < n → ops[k]? = some o' → o'.dst = some t → k ≠ i → (a.put o.dst u).tmps[t]? = a.tmps[t]? := by
  intro k o' t hk ho' hd hne
  exact put_get_ne fun e => ok.ne i o k o' t hi hk ho ho' hne e hd
 refine ⟨hS _ _ inv.s hg, (put_defers' _ _ _).trans inv.defers, (put_size _ _ _).trans inv.size, ?_, ?_, ?_⟩
 ·intro k o' t hk ho' hd hlk hc
  by_cases hki : k = i
  ·subst hki
   have : o' = o := Option.some.inj (ho'.symm.trans ho)
   subst this
   rw [hd, put_get_eq (by rw [inv.size, hN]; exact ok.bd k o' t hk ho' hd), hu hc]
  ·rw [key k o' t hk ho' hd hki]
   exact inv.calm k o' t hk ho' hd (by rwa [getD_set_ne false (Ne.symm hki)] at hlk) hc
 ·intro k o' t D hk ho' hd hlk hc
  by_cases hki : k = i
  ·subst hki
   have : o' = o := Option.some.inj (ho'.symm.trans ho)
   subst this
   exact ⟨u, by rw [hd, put_get_eq (by rw [inv.size, hN]; exact ok.bd k o' t hk ho' hd)], huf D hc⟩
  ·rw [key k o' t hk ho' hd hki]
   obtain ⟨v, hv, hDv⟩ := inv.float k o' t D hk ho' hd (by rwa [getD_set_ne false (Ne.symm hki)] at hlk) hc
   exact ⟨v, hv, hD k D hc v _ _ hDv hg⟩
 ·intro t ht
  have h1 : o.dst ≠ some t := ht i o hi ho (by simp [hl])
  rw [put_get_ne h1]
  exact inv.other t fun k o' hk ho' hlk => ht k o' hk ho' (getD_set_true hlk)
theorem head_run {Q : Exit → Act → World → Prop} (ok : MixOk md ops n N ks) (hks : fl.map (·.1) = ks) (hN : a0.tmps.size = N) (hS : ∀ w w', S w → Grows w w' → S w')
 (hD : ∀ k D, fl.at k = some D → ∀ v w w', D v w → Grows w w' → D v w') (good : Good P ops S fl val (ops.toList.take n) 0 a0) (g : Nat)
 (H : ∀ listed a w, HeadInv md ops n listed → (∀ i, i < n → listed.getD i false = true) → Inv S ops n fl val a0 listed a w → wpAny P md ops Q g listed a w) :
 ∀ (f : Nat) (listed : Array Bool) (a : Act) (w : World), ((List.range n).countP fun i => !listed.getD i false) ≤ f → HeadInv md ops n listed → Inv S ops n fl val a0 listed a w →
  wpAny P md ops Q (f + g) listed a w := by
 intro f
 induction f with
 | zero =>
  intro listed a w hc hinv inv
  rw [Nat.zero_add]
  refine H listed a w hinv (fun i hi => ?_) inv
  have h0 : ((List.range n).countP fun i => !listed.getD i false) = 0 := by omega
  rw [List.countP_eq_zero] at h0
  have := h0 i (List.mem_range.2 hi)
  simpa using this
 | succ f ih =>
  intro listed a w hc hinv inv
  by_cases hall : ∀ i, i < n → listed.getD i false = true
  ·exact wpAny_fuel g listed a w (H listed a w hinv hall inv) (f + 1)
  ·-- some op of the head is not listed yet
   have hex : ∃ i, i < n ∧ listed.getD i false = false := by
    apply Classical.byContradiction
    intro hno
    exact hall fun i hi => by
     cases h : listed.getD i false
     ·exact absurd ⟨i, hi, h⟩ hno
     ·rfl
   obtain ⟨i0, hi0, hl0⟩ := hex
   have hsz : ∀ i, i < n → i < listed.size := fun i hi => by rw [hinv.size]; have := ok.le; omega
   -- the least one is ready
   have hready : Region.ready md ops listed ≠ [] := by
    have : ∀ d i, i ≤ d → i < n → listed.getD i false = false → ∃ j, j ∈ Region.ready md ops listed := by
     intro d
     induction d with
     | zero =>
      intro i hid hi hl
      obtain ⟨o, ho⟩ : ∃ o, ops[i]? = some o := ⟨ops[i]'(by have := ok.le; omega), by simp [show i < ops.size by have := ok.le; omega]⟩
      refine ⟨i, mem_ready.2 ⟨getD_in (hsz i hi) hl, o, ho, fun e he hb => ?_⟩⟩
      have := ok.back i o hi ho e he hb
      omega
     | succ d ihd =>
      intro i hid hi hl
      obtain ⟨o, ho⟩ : ∃ o, ops[i]? = some o := ⟨ops[i]'(by have := ok.le; omega), by simp [show i < ops.size by have := ok.le; omega]⟩
      by_cases hw : ∀ e ∈ o.after, Region.binds md e = true → listed.getD e.on false = true
      ·exact ⟨i, mem_ready.2 ⟨getD_in (hsz i hi) hl, o, ho, hw⟩⟩
      ·have : ∃ e ∈ o.after, Region.binds md e = true ∧ listed.getD e.on false = false := by
        apply Classical.byContradiction
        intro hno
        exact hw fun e he hb => by
         cases h : listed.getD e.on false
         ·exact absurd ⟨e, he, hb, h⟩ hno
         ·rfl
       obtain ⟨e, he, hb, hle⟩ := this
       have hlt := ok.back i o hi ho e he hb
       exact ihd e.on (by omega) (by omega) hle
    obtain ⟨j, hj⟩ := this i0 i0 (Nat.le_refl _) hi0 hl0
    intro h0
    rw [h0] at hj
    cases hj
   rw [show f + 1 + g = (f + g) + 1 by omega]
   refine ⟨fun h0 => absurd h0 hready, fun i hir => ?_⟩
   have hin : i < n := by
    rcases Nat.lt_or_ge i n with h | h
    ·exact h
    ·exfalso
     obtain ⟨_, oi, hoi, _⟩ := mem_ready.1 hir
     have hlt : i < ops.size := (Array.getElem?_eq_some_iff.1 hoi).1
     rcases ok.tail with ht | ⟨ht, hs, hch⟩
     ·omega
     ·exact tail_waits hs hch ht hinv _ i0 rfl hi0 (getD_in (hsz i0 hi0) hl0) i h hir
   obtain ⟨hun, o, ho, _⟩ := mem_ready.1 hir
   have hst := op_step ok hks hN good inv hin ho hir
   have hunf : listed.getD i false = false := getD_both hun
   have hcnt : ((List.range n).countP fun j => !(listed.setIfInBounds i true).getD j false) ≤ f := by
    have := countP_lt (p := fun j => !listed.getD j false) (q := fun j => !(listed.setIfInBounds i true).getD j false) (List.range n) (List.mem_range.2 hin)
     (fun j _ hj => by
       simp only [Bool.not_eq_true'] at hj ⊢
       cases h : listed.getD j false
       ·rfl
       ·rw [getD_set_true h] at hj; cases hj) (by simp only [hunf, Bool.not_false]) (by simp [hsz i hin])
    omega
   have hinv' := hinv.set hir hin
   cases hf : fl.at i with
   | some D =>
    simp only [hf] at hst
    exact float_wpOp ho hst inv.s fun u w' hu hg => ih _ _ _ hcnt hinv' (inv_step ok hN hS hD inv hin ho (hsz i hin) (fun h => by rw [hf] at h; cases h) (fun D' h => by rw [hf] at h; injection h with h; subst h; exact hu) hg)
   | none =>
    simp only [hf] at hst
    exact calm_wpOp ho hst inv.s fun w' hg => ih _ _ _ hcnt hinv' (inv_step ok hN hS hD inv hin ho (hsz i hin) (fun _ => rfl) (fun D' h => by rw [hf] at h; cases h) hg)
/-- Behind the head: each float's value, and what is known of it. -/
def endMix (ops : Array Oper) (T : Act → World → Prop) (S : World → Prop) : Floats → Act → (World → Prop) → Prop
 | [], a, F => ∀ w, S w → F w → T a w
 | (k, D) :: r, a, F => ∀ v, endMix ops T S r (a.put ((ops[k]?).bind (·.dst)) v) fun w => F w ∧ D v w
theorem endMix_out {T : Act → World → Prop} {a : Act} {w : World} (hs : S w) : ∀ (r : Floats) (b : Act) (F : World → Prop), endMix ops T S r b F → F w → b.defers = a.defers → b.tmps.size = a.tmps.size →
 (∀ k D, (k, D) ∈ r → ∃ t v, (ops[k]?).bind (·.dst) = some t ∧ a.tmps[t]? = some v ∧ D v w) →
 (∀ t : Nat, (∀ k D, (k, D) ∈ r → (ops[k]?).bind (·.dst) ≠ some t) → b.tmps[t]? = a.tmps[t]?) → T a w
 | [], b, F, h, hF, hd, hsz, _, hag => by
  have hb : b = a := by
   obtain ⟨bt, bd⟩ := b
   obtain ⟨at', ad⟩ := a
   simp only at hd hsz hag
   subst hd
   congr 1
   exact Array.ext_getElem? fun t => hag t (by simp)
  subst hb
  exact h w hs hF
 | (k, D) :: r, b, F, h, hF, hd, hsz, hfl, hag => by
  obtain ⟨t, v, ht, hv, hDv⟩ := hfl k D (by simp)
  have hlt : t < b.tmps.size := by
   rw [hsz]
   rcases Nat.lt_or_ge t a.tmps.size with h1 | h1
   ·exact h1
   ·rw [Array.getElem?_eq_none h1] at hv; cases hv
  refine endMix_out hs r _ _ (h v) ⟨hF, hDv⟩ ((put_defers' _ _ _).trans hd) ((put_size _ _ _).trans hsz) (fun k' D' hk' => hfl k' D' (by simp [hk'])) fun t' ht' => ?_
  rw [ht]
  by_cases e : t = t'
  ·subst e
   rw [put_get_eq hlt, hv]
  ·rw [put_get_ne (by simpa using e)]
   refine hag t' fun k' D' hk' => ?_
   rcases List.mem_cons.1 hk' with hk' | hk'
   ·injection hk' with h1 h2
    subst h1
    rw [ht]
    simpa using e
   ·exact ht' k' D' hk'
end
theorem wp_region_mix {id : Nat} {Q : Exit → Act → World → Prop} {a : Act} {w : World} {l : List Oper} (S : World → Prop) (fl : Floats) (n N : Nat) (hm : P.follows .mixedOrders = true) (hB : mixB .any l.toArray n N (fl.map (·.1)) = true)
 (hN : a.tmps.size = N) (hS : ∀ w w', S w → Grows w w' → S w') (hD : ∀ k D, fl.at k = some D → ∀ v w w', D v w → Grows w w' → D v w') (h0 : S w.drew)
 (h : wpCalm P l.toArray S fl (fun a' => endMix l.toArray (fun a'' w' => wpList P l.toArray Q (l.drop n) a'' w') S fl a' fun _ => True) (l.take n) 0 a) : (Code.region id l.toArray true).wp P Q a w := by
 have ok := mixOk_of hB
 have hle : n ≤ l.length := by simpa using ok.le
 obtain ⟨val, good, hL⟩ := good_of_wpCalm (l.take n) 0 a h
 refine wp_region_any hm ?_
 have inv0 : HeadInv .any l.toArray n (Array.replicate l.toArray.size false) :=
  ⟨by simp, fun j oj _ hl => (by rw [getD_replicate_false] at hl; cases hl), fun t _ ht => getD_in (by simpa using ht) (getD_replicate_false _ _)⟩
 have key := head_run (md := .any) (Q := Q) (ops := l.toArray) (S := S) (fl := fl) (val := val) (a0 := a) ok rfl hN hS hD (by simpa using good) (l.length - n) (by
  intro listed b w' hinv hall inv
  refine (show l.length - n = (l.drop n).length by simp) ▸ wpAny_of_seq (l.drop n) n listed b w' (fun j => by simp [List.getElem?_drop]) ?_ ?_
  ·have hls : listed = (Array.replicate n true) ++ (Array.replicate (l.length - n) false) := by
    refine Array.ext (by simp [hinv.size]; omega) fun i h1 h2 => ?_
    have hsz : i < l.length := by have := hinv.size; simp at this; omega
    by_cases hin : i < n
    ·have := hall i hin
     rw [Array.getElem_append_left (by simpa using hin)]
     simpa [h1] using this
    ·have := hinv.tail i (by omega) (by simpa using hsz)
     rw [Array.getElem_append_right (by simp; omega)]
     simpa [h1] using this
   have := ok.seq
   rw [hls]
   simpa using this
  ·refine endMix_out (ops := l.toArray) (T := fun a'' w' => wpList P l.toArray Q (l.drop n) a'' w') inv.s fl _ _ hL trivial ((fin_defers _ _ _).trans inv.defers.symm) ((fin_size _ _ _).trans inv.size.symm) ?_ ?_
   ·intro k D hk
    obtain ⟨hkn, t, ht⟩ := ok.fl k (List.mem_map.2 ⟨(k, D), hk, rfl⟩)
    obtain ⟨o, ho, hd⟩ := Option.bind_eq_some_iff.1 ht
    obtain ⟨v, hv, hDv⟩ := inv.float k o t D hkn ho hd (hall k hkn) (lookup_some ok.nd hk)
    exact ⟨t, v, ht, hv, hDv⟩
   ·intro t ht
    by_cases hex : ∃ k o', k < n ∧ l.toArray[k]? = some o' ∧ o'.dst = some t
    ·obtain ⟨k, o', hk, ho', hd⟩ := hex
     have hcalm : fl.at k = none := by
      cases hf : fl.at k with
      | none => rfl
      | some D =>
       exfalso
       have hm := lookup_key hf
       obtain ⟨⟨k', D'⟩, hmem, rfl⟩ := List.mem_map.1 hm
       exact ht k' D' hmem (by simp only [ho', Option.bind_some, hd])
     have e1 := inv.calm k o' t hk ho' hd (hall k hk) hcalm
     have e2 := fin_at (fl := fl) (val := val) (l.take n) 0 a k o' (by have := take_get (ops := l.toArray) hk ho'; simpa using this) hd (by rw [Nat.zero_add]; exact hcalm)
      (by rw [hN]; exact ok.bd k o' t hk ho' hd) (by
        intro j oj hj hne hdj
        obtain ⟨hji, hoj⟩ := of_take_get (ops := l.toArray) (by simpa using hj)
        exact ok.ne j oj k o' t hji hk hoj ho' (Ne.symm hne) hdj hd)
     rw [Nat.zero_add] at e2
     rw [e1, e2]
    ·have e1 := inv.other t fun k o' hk ho' _ hd => hex ⟨k, o', hk, ho', hd⟩
     have e2 := fin_other (fl := fl) (val := val) (t := t) (l.take n) 0 a fun j oj hj _ hd => by
      obtain ⟨hji, hoj⟩ := of_take_get (ops := l.toArray) (by simpa using hj)
      exact hex ⟨j, oj, hji, hoj, hd⟩
     rw [e1, e2]) n (Array.replicate l.toArray.size false) a w.drew (by
   have := List.countP_le_length (p := fun i => !(Array.replicate l.toArray.size false).getD i false) (l := List.range n)
   simpa using this) inv0 ⟨h0, rfl, rfl, fun k o t _ _ _ hl => (by rw [getD_replicate_false] at hl; cases hl), fun k o t D _ _ _ hl => (by rw [getD_replicate_false] at hl; cases hl), fun t _ => rfl⟩
 rw [show n + (l.length - n) = l.toArray.size by simp; omega] at key
 exact key
/-! ### the steps of a walk -/
section
variable {fl : Floats} {L : Act → Prop} {o : Oper} {l : List Oper} {k : Nat} {a a' : Act} {v : Value}
theorem calm_plain (hg : o.guard = none) (hf : fl.at k = none) (hc : ∀ w, S w → calmR P w ((execOp a.eval o).run P w) v) (ha : a.put o.dst v = a') (h : wpCalm P ops S fl L l (k + 1) a') : wpCalm P ops S fl L (o :: l) k a := by
 subst ha
 simp only [wpCalm, hf]
 exact ⟨v, .inl ⟨by simp [Region.wanted, hg], hc⟩, h⟩
theorem calm_yes (hf : fl.at k = none) (hw : Region.wanted o (yielded ops a.tmps) = true) (hc : ∀ w, S w → calmR P w ((execOp a.eval o).run P w) v) (ha : a.put o.dst v = a') (h : wpCalm P ops S fl L l (k + 1) a') : wpCalm P ops S fl L (o :: l) k a := by
 subst ha
 simp only [wpCalm, hf]
 exact ⟨v, .inl ⟨hw, hc⟩, h⟩
theorem calm_no (hf : fl.at k = none) (hw : Region.wanted o (yielded ops a.tmps) = false) (ha : a.put o.dst undef = a') (h : wpCalm P ops S fl L l (k + 1) a') : wpCalm P ops S fl L (o :: l) k a := by
 subst ha
 simp only [wpCalm, hf]
 exact ⟨undef, .inr ⟨hw, rfl⟩, h⟩
theorem calm_done (h : L a) : wpCalm P ops S fl L [] k a := h
end
theorem end_none {ops : Array Oper} {S : World → Prop} {T : Act → World → Prop} {a : Act} (h : ∀ w, S w → T a w) : endMix ops T S [] a fun _ => True := fun w hs _ => h w hs
theorem float_none : ∀ k' D', Floats.at [] k' = some D' → ∀ v w w', D' v w → Grows w w' → D' v w' := by
 intro k' D' h'; cases h'
theorem calm_val {P : Program} {w : World} {v : Value} : calmR P w (.ok (.value v) w) v := ⟨rfl, Below.refl _ _⟩
theorem calm_call {P : Program} {w : World} {u : Value} {f : FuncId} {args : Array Value} (h : Calls P f args w fun e w' => e = .returned u ∧ Grows w w') : calmR P w (.ok (.enter f args) w) u := h
end
end Go.Proofs.YtjbkjgmcfommgaaGreat

namespace Go.Proofs.YtjbkjgmcfommgaaGreat
open Go.RowKit
theorem block_of_add (a : Addr) (n : Nat) : (a.add n).block = a.block := by unfold Addr.add; split <;> rfl
theorem add_of_add (a : Addr) (i j : Nat) : (a.add i).add j = a.add (i + j) := by
 unfold Addr.add
 by_cases hi : i = 0 <;> by_cases hj : j = 0 <;> simp [hi, hj, Nat.add_assoc]
def Reads (w : World) (B size : Nat) (A : Option Addr) (n : Nat) (xs : List Value) : Prop :=
 xs.length = n * size ∧ (0 < n → ∃ ad, A = some ad ∧ ad.block < B ∧ ∀ j u, xs[j]? = some u → w.cell? (ad.add j) = some u)
section
variable {w w' : World} {B B' size n : Nat} {A : Option Addr} {xs : List Value}
theorem Reads.none_ : Reads w B size A 0 [] := ⟨by simp, fun h => absurd h (by omega)⟩
theorem Reads.at_ {k : Nat} (h : Reads w B 1 A n xs) (hk : k < n) : ∃ ad u, A = some ad ∧ ad.block < B ∧ xs[k]? = some u ∧ w.cell? (ad.add k) = some u := by
 obtain ⟨ad, e, hb, hc⟩ := h.2 (by omega)
 have hl : k < xs.length := by have := h.1; omega
 exact ⟨ad, xs[k], e, hb, List.getElem?_eq_getElem hl, hc k _ (List.getElem?_eq_getElem hl)⟩
theorem Reads.keep (h : Reads w B size A n xs) (hk : ∀ p : Addr, p.block < B → w'.cell? p = w.cell? p) : Reads w' B size A n xs :=
 ⟨h.1, fun hn => by
  obtain ⟨ad, e, hb, hc⟩ := h.2 hn
  exact ⟨ad, e, hb, fun j u hu => (hk _ (by rw [block_of_add]; exact hb)).trans (hc j u hu)⟩⟩
theorem Reads.more (h : Reads w B size A n xs) (hB : B ≤ B') : Reads w B' size A n xs :=
 ⟨h.1, fun hn => by
  obtain ⟨ad, e, hb, hc⟩ := h.2 hn
  exact ⟨ad, e, by omega, hc⟩⟩
theorem Reads.below (h : Reads w B size A n xs) (hb : Below B w w') : Reads w' B size A n xs := h.keep fun _ hp => hb.cell hp
theorem Reads.drew (h : Reads w B size A n xs) : Reads w.drew B size A n xs := h
theorem Reads.drewN (h : Reads w B size A n xs) (k : Nat) : Reads (w.drewN k) B size A n xs := h
theorem Reads.alloc (h : Reads w B size A n xs) (hB : B ≤ w.heap.size) (o : Obj) : Reads (w.alloc o) B size A n xs := h.keep fun p hp => World.cell?_alloc_lt w o p (by omega)
theorem Reads.setCell (h : Reads w B size A n xs) {p : Addr} (hB : B ≤ p.block) (u : Value) : Reads (w.setCell p u) B size A n xs :=
 h.keep fun q hq => World.cell?_setCell_other w p q u (fun e => by subst e; omega)
theorem Reads.grown (h : Reads w B size A n xs) {row : Option Nat} (hg : w.grownBy w' row) (hB : B ≤ w.heap.size) (hr : ∀ g, row = some g → B ≤ g) : Reads w' B size A n xs :=
 h.keep fun p hp => World.cell?_of_block (hg.block p.block (by omega) (fun e => by have := hr _ e.symm; omega))
theorem Reads.cut (h : Reads w B size A n xs) {k cap : Nat} (hk : k ≤ n) (hc : n ≤ cap) :
 Reads w B size (if cap = k then A else A.map (·.add (k * size))) (n - k) (xs.drop (k * size)) := by
 refine ⟨by rw [List.length_drop, h.1, Nat.sub_mul], fun hn => ?_⟩
 obtain ⟨ad, rfl, hb, hcell⟩ := h.2 (by omega)
 rw [if_neg (by omega)]
 refine ⟨ad.add (k * size), rfl, by rw [block_of_add]; exact hb, fun j u hu => ?_⟩
 rw [add_of_add]
 exact hcell _ u (by rw [← hu, List.getElem?_drop])
theorem Reads.of_own {base : Nat} {e : TypeId} {c : Nat} (h : w.ownsRow base e size (.slice A n c) n xs) : Reads w w.heap.size size A n xs := by
 refine ⟨h.1, fun hn => ?_⟩
 obtain ⟨g, cap, hv, _, hlt⟩ := h.form hn
 have hA : A = some ⟨g, 0, none⟩ := by injection hv
 subst hA
 exact ⟨_, rfl, hlt, h.cells (g := g) rfl⟩
end
def Blk (w : World) (g : Nat) (t : TypeId) (cs : Array Value) : Prop := w.heap[g]? = some (.cells cs t (0, 0))
section
variable {w w' : World} {g : Nat} {t : TypeId} {cs : Array Value}
theorem Blk.lt (h : Blk w g t cs) : g < w.heap.size := by
 rcases Nat.lt_or_ge g w.heap.size with hlt | hge
 ·exact hlt
 ·unfold Blk at h; rw [Array.getElem?_eq_none hge] at h; cases h
theorem Blk.cell (h : Blk w g t cs) (i : Nat) : w.cell? ⟨g, i, none⟩ = cs[i]? := cell_of_row w g i cs t (0, 0) h
theorem Blk.frozen (h : Blk w g t cs) (i : Nat) : w.frozen? ⟨g, i, none⟩ = false := by
 unfold Blk at h
 simp [World.frozen?, h]
theorem Blk.new (w : World) (t : TypeId) (cs : Array Value) : Blk (w.alloc (.cells cs t)) w.heap.size t cs := heap_alloc_new w _
theorem Blk.drew (h : Blk w g t cs) : Blk w.drew g t cs := h
theorem Blk.drewN (h : Blk w g t cs) (n : Nat) : Blk (w.drewN n) g t cs := h
theorem Blk.alloc (h : Blk w g t cs) (o : Obj) : Blk (w.alloc o) g t cs := (Below.heap_alloc w o g h.lt).trans h
theorem Blk.set_ (h : Blk w g t cs) (i : Nat) (u : Value) : Blk (w.setCell ⟨g, i, none⟩ u) g t (cs.setIfInBounds i u) := by
 unfold Blk at h ⊢
 simp [World.setCell, Array.getElem?_modify, h]
theorem Blk.far (h : Blk w g t cs) {p : Addr} (hp : g ≠ p.block) (u : Value) : Blk (w.setCell p u) g t cs := (Below.heap_setCell w p u g hp).trans h
theorem Blk.below {B : Nat} (h : Blk w g t cs) (hb : Below B w w') (hg : g < B) : Blk w' g t cs := (hb.block g hg).trans h
theorem Blk.grown {row : Option Nat} (h : Blk w g t cs) (hb : w.grownBy w' row) (hg : some g ≠ row) : Blk w' g t cs := (hb.block g h.lt hg).trans h
theorem Blk.ne_ {g' : Nat} {t' : TypeId} {cs' : Array Value} (h : Blk w g t cs) (h' : Blk w g' t' cs') (hne : t ≠ t') : g ≠ g' := by
 rintro rfl
 unfold Blk at h h'
 rw [h] at h'
 injection h' with h'
 injection h' with _ ht
 exact hne ht
theorem own_blk_ne {base : Nat} {e : TypeId} {size n : Nat} {v : Value} {xs : List Value} (h : w.ownsRow base e size v n xs) (hg : Blk w g t cs) (hne : e ≠ t) : v.ownBlock ≠ some g := by
 rcases h.2 with ⟨rfl, _⟩ | ⟨g', cap, cur, rfl, _, hh, _⟩
 ·simp [Value.ownBlock]
 ·intro he
  have : g' = g := by simpa [Value.ownBlock] using he
  subst this
  exact Blk.ne_ (t := e) hh hg hne rfl
end
section
variable {P : Program} (w : World)
theorem run_append_of_nil (base : Nat) (t ty e : TypeId) (i : TypeInfo) (size : Nat) (ht : P.underlying t = some (.slice e)) (hi : P.info? e = some i)
 (v : Value) (n : Nat) (xs : List Value) (hown : w.ownsRow base e size v n xs) (c : Nat) : (Builtin.append_ #[t, t] ty #[v, .slice none 0 c]).run P w = .ok v w := by
 rcases hown.2 with ⟨rfl, rfl⟩ | ⟨g, cap, cur, rfl, _, _, hnc, _⟩
 ·simp [Builtin.append_, run_underlying ht, sizeOf, typeInfo, hi, Builtin.lenOf, Builtin.firstCells]
 ·simp [Builtin.append_, run_underlying ht, sizeOf, typeInfo, hi, Builtin.lenOf, Builtin.firstCells, hnc, storeCells]
theorem run_append_any (base : Nat) (t ty e : TypeId) (i : TypeInfo) (z : Value) (size bytes : Nat) (ht : P.underlying t = some (.slice e)) (hi : P.info? e = some i) (hz : i.zero = some z)
 (hsize : i.size = size) (hby : i.bytes = bytes) (hzs : z.cells.size = size) (hsz : 0 < size)
 (v : Value) (n : Nat) (xs : List Value) (hown : w.ownsRow base e size v n xs)
 (B : Nat) (A : Option Addr) (m c : Nat) (news : List Value) (hr : Reads w B size A m news) (h1 : ∀ u ∈ news, u.oneCell' = true)
 (h63 : n + m ≤ maxLen) (hbytes : (n + m) * bytes ≤ 140737488355328) (hbase : base ≤ w.heap.size) :
 ∃ v' w', (Builtin.append_ #[t, t] ty #[v, .slice A m c]).run P w = .ok v' w' ∧ w'.ownsRow base e size v' (n + m) (xs ++ news) ∧ w.grownBy w' v.ownBlock ∧
  (v'.ownBlock = v.ownBlock ∨ v'.ownBlock = some w.heap.size) := by
 rcases A with _ | ad
 ·have hm : m = 0 := by
   rcases Nat.eq_zero_or_pos m with h0 | h0
   ·exact h0
   ·obtain ⟨ad, h, _⟩ := hr.2 h0
    cases h
  subst hm
  have hn : news = [] := List.eq_nil_of_length_eq_zero (by simpa using hr.1)
  subst hn
  exact ⟨v, w, run_append_of_nil w base t ty e i size ht hi v n xs hown c, by simpa using hown, World.grownBy.refl w _, .inl rfl⟩
 ·have hcells : ∀ j u, news[j]? = some u → w.cell? (ad.add j) = some u := by
   intro j u hu
   rcases Nat.eq_zero_or_pos m with h0 | h0
   ·subst h0
    have hn : news = [] := List.eq_nil_of_length_eq_zero (by simpa using hr.1)
    subst hn
    simp at hu
   ·obtain ⟨ad', h, _, hc⟩ := hr.2 h0
    injection h with h
    subst h
    exact hc j u hu
  obtain ⟨v', w', hrun, h2, h3, _, h5⟩ := run_append_own_at (P := P) w base t ty e i z size bytes ht hi hz hsize hby hzs hsz v n xs hown ad m c news hr.1 hcells h1 h63 hbytes hbase
  exact ⟨v', w', hrun, h2, h3, h5⟩
theorem wp_append_any {o : Oper} {a : Act} {K : Act → World → Prop} {Q : Exit → Act → World → Prop} (s x : Operand) (t : TypeId)
 (ho : o.op = .call { callee := .builtin .append, args := #[s, x], argTypes := #[t, t] })
 (base : Nat) (e : TypeId) (i : TypeInfo) (z : Value) (size bytes : Nat) (ht : P.underlying t = some (.slice e)) (hi : P.info? e = some i) (hz : i.zero = some z)
 (hsize : i.size = size) (hby : i.bytes = bytes) (hzs : z.cells.size = size) (hsz : 0 < size)
 (v : Value) (n : Nat) (xs : List Value) (hs : a.eval s = v) (hown : w.ownsRow base e size v n xs)
 (B : Nat) (A : Option Addr) (m c : Nat) (news : List Value) (hx : a.eval x = .slice A m c) (hr : Reads w B size A m news) (h1 : ∀ u ∈ news, u.oneCell' = true)
 (h63 : n + m ≤ maxLen) (hbytes : (n + m) * bytes ≤ 140737488355328) (hbase : base ≤ w.heap.size)
 (h : ∀ v' w', w'.ownsRow base e size v' (n + m) (xs ++ news) → w.grownBy w' v.ownBlock → (v'.ownBlock = v.ownBlock ∨ v'.ownBlock = some w.heap.size) → K (a.put o.dst v') w') : o.wp P a w K Q := by
 obtain ⟨v', w', hrun, h2, h3, h4⟩ := run_append_any (P := P) w base t o.type e i z size bytes ht hi hz hsize hby hzs hsz v n xs hown B A m c news hr h1 h63 hbytes hbase
 unfold Oper.wp execOp
 simp only [ho, resolve, invoke, builtin, Sem.run_bind, Sem.run_pure, Result.andThen_ok, List.map_toArray, List.map_cons, List.map_nil, hs, hx, hrun]
 exact h v' w' h2 h3 h4
theorem wpList_append_any {ops : Array Oper} {rest : List Oper} {o : Oper} {a : Act} {Q : Exit → Act → World → Prop} (hgd : o.guard = none) (s x : Operand) (t : TypeId)
 (ho : o.op = .call { callee := .builtin .append, args := #[s, x], argTypes := #[t, t] })
 (base : Nat) (e : TypeId) (i : TypeInfo) (z : Value) (size bytes : Nat) (ht : P.underlying t = some (.slice e)) (hi : P.info? e = some i) (hz : i.zero = some z)
 (hsize : i.size = size) (hby : i.bytes = bytes) (hzs : z.cells.size = size) (hsz : 0 < size)
 (v : Value) (n : Nat) (xs : List Value) (hs : a.eval s = v) (hown : w.ownsRow base e size v n xs)
 (B : Nat) (A : Option Addr) (m c : Nat) (news : List Value) (hx : a.eval x = .slice A m c) (hr : Reads w B size A m news) (h1 : ∀ u ∈ news, u.oneCell' = true)
 (h63 : n + m ≤ maxLen) (hbytes : (n + m) * bytes ≤ 140737488355328) (hbase : base ≤ w.heap.size)
 (h : ∀ v' w', w'.ownsRow base e size v' (n + m) (xs ++ news) → w.grownBy w' v.ownBlock → (v'.ownBlock = v.ownBlock ∨ v'.ownBlock = some w.heap.size) → wpList P ops Q rest (a.put o.dst v') w') : wpList P ops Q (o :: rest) a w :=
 wpList_plain hgd fun _ hK => wp_append_any w s x t ho base e i z size bytes ht hi hz hsize hby hzs hsz v n xs hs hown B A m c news hx hr h1 h63 hbytes hbase fun v' w' h2 h3 h4 => hK _ _ (h v' w' h2 h3 h4)
end
theorem Blk.grows {w w' : World} {g : Nat} {t : TypeId} {cs : Array Value} (h : Blk w g t cs) (hg : Grows w w') : Blk w' g t cs := h.below hg h.lt
theorem below_grows {B : Nat} {a w w' : World} (h : Below B a w) (hB : B ≤ a.heap.size) (hg : Grows w w') : Below B a w' := h.trans (hg.mono (Nat.le_trans hB h.size))
theorem Reads.grows {w w' : World} {size n : Nat} {A : Option Addr} {xs : List Value} (h : Reads w w.heap.size size A n xs) (hg : Grows w w') : Reads w' w'.heap.size size A n xs := (h.below hg).more hg.size
theorem blk_new_at {X : World} {n : Nat} {t : TypeId} {cs : Array Value} (h : X.heap.size = n) : Blk (X.alloc (.cells cs t)) n t cs := h ▸ Blk.new X t cs
theorem ret_int {k : IntKind} {a b : Int} (h : a = b) : Ending.returned (.int k a) = .returned (.int k b) := by rw [h]
theorem ret_bool {a b : Bool} (h : a = b) : Ending.returned (.bool a) = .returned (.bool b) := by rw [h]
end Go.Proofs.YtjbkjgmcfommgaaGreat

namespace Go.Proofs.YtjbkjgmcfommgaaGreat
open Go.RowKit
theorem Blk.row {w : World} {g : Nat} {t : TypeId} {old cs : Array Value} (h : Blk w g t old) : Blk (w.setRow g cs) g t cs := by
 unfold Blk at *
 simp [World.setRow, Array.getElem?_modify, h]
section
variable {P : Program} {ops : Array Oper} {rest : List Oper} {o : Oper} {a : Act} {w : World} {Q : Exit → Act → World → Prop} {g : Nat} {t ty : TypeId} {cs old : Array Value} {d : TypeDesc}
end
end Go.Proofs.YtjbkjgmcfommgaaGreat

namespace Go.Proofs.YtjbkjgmcfommgaaGreat
open Go.RowKit
section
variable {P : Program} {ops : Array Oper} {rest : List Oper} {o : Oper} {a : Act} {w : World} {Q : Exit → Act → World → Prop} {g : Nat} {t ty : TypeId} {cs old : Array Value} {d : TypeDesc}
end
end Go.Proofs.YtjbkjgmcfommgaaGreat

namespace Go.Proofs.YtjbkjgmcfommgaaGreat
open Go.RowKit
theorem run_max2 {P : Program} (w : World) (ts : Array TypeId) (ty : TypeId) (k : IntKind) (m n : Int) : (Builtin.max_ ts ty #[.int k m, .int k n]).run P w = .ok (.int k (max m n)) w := by
 have e : max m n = if m < n then n else m := by split <;> omega
 rw [e]
 simp [Builtin.max_, Builtin.max2, List.foldlM]
 try split <;> simp_all
theorem run_min2 {P : Program} (w : World) (ts : Array TypeId) (ty : TypeId) (k : IntKind) (m n : Int) : (Builtin.min_ ts ty #[.int k m, .int k n]).run P w = .ok (.int k (min m n)) w := by
 have e : min m n = if n < m then n else m := by split <;> omega
 rw [e]
 simp [Builtin.min_, Builtin.min2, List.foldlM]
 try split <;> simp_all
theorem wpList_max2 {P : Program} {ops : Array Oper} {rest : List Oper} {o : Oper} {a : Act} {w : World} {Q : Exit → Act → World → Prop} (hgd : o.guard = none) (x y : Operand) (ts : Array TypeId)
 (ho : o.op = .call { callee := .builtin .max, args := #[x, y], argTypes := ts }) (k : IntKind) (m n : Int) (hx : a.eval x = .int k m) (hy : a.eval y = .int k n)
 (h : wpList P ops Q rest (a.put o.dst (.int k (max m n))) w) : wpList P ops Q (o :: rest) a w :=
 wpList_plain hgd fun _ hK => by
  unfold Oper.wp execOp
  simp only [ho, resolve, invoke, builtin, Sem.run_bind, Sem.run_pure, Result.andThen_ok, List.map_toArray, List.map_cons, List.map_nil, hx, hy, run_max2]
  exact hK _ _ h
theorem wpList_min2 {P : Program} {ops : Array Oper} {rest : List Oper} {o : Oper} {a : Act} {w : World} {Q : Exit → Act → World → Prop} (hgd : o.guard = none) (x y : Operand) (ts : Array TypeId)
 (ho : o.op = .call { callee := .builtin .min, args := #[x, y], argTypes := ts }) (k : IntKind) (m n : Int) (hx : a.eval x = .int k m) (hy : a.eval y = .int k n)
 (h : wpList P ops Q rest (a.put o.dst (.int k (min m n))) w) : wpList P ops Q (o :: rest) a w :=
 wpList_plain hgd fun _ hK => by
  unfold Oper.wp execOp
  simp only [ho, resolve, invoke, builtin, Sem.run_bind, Sem.run_pure, Result.andThen_ok, List.map_toArray, List.map_cons, List.map_nil, hx, hy, run_min2]
  exact hK _ _ h
end Go.Proofs.YtjbkjgmcfommgaaGreat

namespace Go.Proofs.YtjbkjgmcfommgaaGreat
open Go.ChangeShapes Go.WideShapes Go.ChangeAt Go.RowKit
theorem laid_out : laidOutB Tryz.prog = true := by kernel_rfl
theorem own_knob : ownKnob Tryz.prog.godebug = none := by kernel_rfl
section
variable {H : Type} {enc : TypeId × Value → H} {P : Program}
theorem trodAll_keeps (hl : laidOutB P = true) {W W' : World} (hb : Below W.heap.size W W') :
 ∀ (ts : List TypeId) (vs : List Value) (ds : List (DataW H)) (ps : List MemPlace), (∀ t ∈ ts, P.readableRec t = true ∧ t < P.types.size) → (∀ x ∈ ps, x.block < W.heap.size) →
  DataW.TrodAll enc P W 0 (fun _ => true) true ts vs ds ps → DataW.TrodAll enc P W' 0 (fun b => decide (b < W.heap.size)) true ts vs ds ps
 | [], vs, ds, ps, _, _, h => by
  obtain ⟨rfl, rfl, rfl⟩ := trodAll_nil h
  exact trodAll_mk0
 | t :: ts, vs, ds, ps, hr, hlt, h => by
  obtain ⟨v, vs', d, ds', p, q, rfl, rfl, rfl, h1, h2⟩ := trodAll_cons h
  have hlp : ∀ x ∈ p, x.block < W.heap.size := fun x hx => hlt x (by simp [hx])
  have hlq : ∀ x ∈ q, x.block < W.heap.size := fun x hx => hlt x (by simp [hx])
  exact trodAll_cons_mk (Below.trod hl (hr t (by simp)).1 (hr t (by simp)).2 h1 hb hlp) (trodAll_keeps hl hb ts vs' ds' q (fun t' ht' => hr t' (by simp [ht'])) hlq h2)
theorem trodAll_length {W : World} {b : Nat} {sp : Nat → Bool} {hd : Bool} : ∀ (ts : List TypeId) (vs : List Value) (ds : List (DataW H)) (ps : List MemPlace), DataW.TrodAll enc P W b sp hd ts vs ds ps → ds.length = ts.length
 | [], vs, ds, ps, h => by obtain ⟨rfl, rfl, rfl⟩ := trodAll_nil h; rfl
 | t :: ts, vs, ds, ps, h => by
  obtain ⟨v, vs', d, ds', p, q, rfl, rfl, rfl, h1, h2⟩ := trodAll_cons h
  simp [trodAll_length ts vs' ds' q h2]
/-- The row's post of a law that returned true and wrote to no old memory. -/
theorem law_post (hl : laidOutB P = true) {f : Func} {s : ChangeSpec} {W W' : World} {args : Array Value} {ds gs : List (DataW H)} {before : List MemPlace} {tb : TypeId}
 (hW : DataW.Whole enc P f.params.toList s.vars false W args.toList ds gs before) (hr : ∀ t ∈ f.params.toList, P.readableRec t = true ∧ t < P.types.size) (hv : s.vars = [])
 (hres : f.resultTypes = #[tb]) (htb : P.underlying tb = some .bool)
 (hspec : ∀ ds : List (DataW H), ds.length = f.params.toList.length → s.fn H ds = { results := [.lit (.bool true)], args := ds })
 (hb : Below W.heap.size W W') : s.post enc P f false true false false W args (.bool true) W' := by
 have hlt : ∀ p ∈ before, p.block < W.heap.size := fun p hp => hW.lt p hp
 have hW' := hW
 obtain ⟨p, q, hA, hV, rfl, _, _⟩ := hW
 rw [hv] at hV
 obtain ⟨rfl, rfl⟩ := trodVars_none hV
 have hs := hspec ds (trodAll_length _ _ _ _ hA)
 have hs' : s.fn H (ds ++ []) = { results := [.lit (.bool true)], args := ds } := by rw [List.append_nil]; exact hs
 refine ⟨ds, [], p ++ [], [], p, [], hW', ?_, ?_, ?_, ?_, fun h => by cases h⟩
 ·rw [hs', hres]
  exact trodAll_cons_mk (shut_bool htb true) trodAll_mk0
 ·rw [hs']
  exact trodAll_keeps hl hb _ _ _ _ hr (fun x hx => hlt x (by simp [hx])) hA
 ·rw [hs', hv]
  exact rfl
 ·exact hb.frame _
end
end Go.Proofs.YtjbkjgmcfommgaaGreat

namespace Go.Proofs.YtjbkjgmcfommgaaGreat
open Go.RowKit
/-- The slice value at A reads as the ints l. -/
def Ints (w : World) (A : Option Addr) (l : List Int) : Prop := Reads w w.heap.size 1 A l.length (l.map (Value.int .i64))
theorem Ints.grows {w w' : World} {A : Option Addr} {l : List Int} (h : Ints w A l) (hg : Grows w w') : Ints w' A l := Reads.grows h hg
theorem Ints.at_ {w : World} {A : Option Addr} {l : List Int} (h : Ints w A l) {k : Nat} (hk : k < l.length) : ∃ ad x, A = some ad ∧ ad.block < w.heap.size ∧ l[k]? = some x ∧ w.cell? (ad.add k) = some (.int .i64 x) := by
 obtain ⟨ad, u, e, hb, hx, hc⟩ := Reads.at_ h hk
 refine ⟨ad, l[k], e, hb, List.getElem?_eq_getElem hk, ?_⟩
 rw [hc]
 rw [List.getElem?_map, List.getElem?_eq_getElem hk] at hx
 exact hx.symm
theorem take_snoc {α : Type} {l : List α} {k : Nat} {x : α} (h : l[k]? = some x) : l.take (k + 1) = l.take k ++ [x] := by
 obtain ⟨hk, rfl⟩ := List.getElem?_eq_some_iff.1 h
 exact List.take_succ_eq_append_getElem hk
end Go.Proofs.YtjbkjgmcfommgaaGreat

namespace Go.Proofs.YtjbkjgmcfommgaaGreat
open Go.RowKit
set_option maxRecDepth 100000
def csS (x : Sp) : Array Value := #[.int .i64 x.1, .int .i64 x.2]
def lsS (x : Sp) : List Value := [.int .i64 x.1, .int .i64 x.2]
def scells (l : List Sp) : List Value := l.flatMap lsS
theorem scells_len (l : List Sp) : (scells l).length = l.length * 2 := by
 induction l with
 | nil => rfl
 | cons g l ih => simp only [scells, List.flatMap_cons, List.length_append, List.length_cons] at *; rw [ih]; simp [lsS]; omega
theorem scells_append (a b : List Sp) : scells (a ++ b) = scells a ++ scells b := by simp [scells]
theorem scells_at (l : List Sp) (k : Nat) (g : Sp) (h : l[k]? = some g) (j : Nat) (hj : j < 2) : (scells l)[k * 2 + j]? = (lsS g)[j]? := by
 induction l generalizing k with
 | nil => simp at h
 | cons x l ih =>
  simp only [scells, List.flatMap_cons]
  cases k with
  | zero =>
   simp only [List.getElem?_cons_zero, Option.some.injEq] at h
   subst h
   rw [List.getElem?_append_left (by simp [lsS]; omega)]
   simp
  | succ k =>
   rw [List.getElem?_append_right (by simp [lsS]; omega)]
   have := ih k (by simpa using h)
   simp only [scells] at this
   rw [← this]
   congr 1
   simp [lsS]
   omega
theorem scells_one (l : List Sp) : ∀ u ∈ scells l, u.oneCell' = true := by
 intro u hu
 obtain ⟨g, _, hg⟩ := List.mem_flatMap.1 hu
 simp only [lsS, List.mem_cons, List.not_mem_nil, or_false] at hg
 rcases hg with rfl | rfl <;> rfl
theorem scells_split (l : List Sp) (k : Nat) : scells l = scells (l.take k) ++ scells (l.drop k) := by rw [← scells_append, List.take_append_drop]
theorem scells_drop (l : List Sp) (k : Nat) : scells (l.drop k) = (scells l).drop (k * 2) := by
 by_cases hk : k ≤ l.length
 ·rw [scells_split l k, List.drop_left' (by rw [scells_len, List.length_take]; omega)]
 ·rw [List.drop_of_length_le (by omega), List.drop_of_length_le (by rw [scells_len]; omega)]
  rfl
theorem scells_take (l : List Sp) (k : Nat) : scells (l.take k) = (scells l).take (k * 2) := by
 by_cases hk : k ≤ l.length
 ·rw [scells_split l k, List.take_left' (by rw [scells_len, List.length_take]; omega)]
 ·rw [List.take_of_length_le (by omega), List.take_of_length_le (by rw [scells_len]; omega)]
def Sps (w : World) (A : Option Addr) (l : List Sp) : Prop := Reads w w.heap.size 2 A l.length (scells l)
theorem Sps.grows {w w' : World} {A : Option Addr} {l : List Sp} (h : Sps w A l) (hg : Grows w w') : Sps w' A l := Reads.grows h hg
theorem sps_nil (w : World) : Sps w none [] := Reads.none_
theorem Sps.at_ {w : World} {A : Option Addr} {l : List Sp} (h : Sps w A l) {k : Nat} (hk : k < l.length) :
 ∃ ad g, A = some ad ∧ ad.block < w.heap.size ∧ l[k]? = some g ∧ ∀ j v, (csS g)[j]? = some v → w.cell? (ad.add (k * 2 + j)) = some v := by
 obtain ⟨ad, e, hb, hc⟩ := h.2 (by omega)
 refine ⟨ad, l[k], e, hb, List.getElem?_eq_getElem hk, fun j v hv => hc _ _ ?_⟩
 have hj : j < 2 := by
  have := (Array.getElem?_eq_some_iff.1 hv).1
  simpa [csS] using this
 rw [scells_at l k _ (List.getElem?_eq_getElem hk) j hj]
 simpa [csS, lsS] using hv
/-- The cells of an element, as a walk asks for them. -/
def CellsS (w : World) (p : Addr) (g : Sp) : Prop := w.cell? p = some (.int .i64 g.1) ∧ w.cell? { block := p.block, off := p.off + 1 } = some (.int .i64 g.2)
theorem Sps.elem {w : World} {A : Option Addr} {l : List Sp} (h : Sps w A l) {k : Nat} (hk : k < l.length) :
 ∃ ad g, A = some ad ∧ ad.block < w.heap.size ∧ l[k]? = some g ∧ CellsS w (ad.add (k * 2)) g := by
 obtain ⟨ad, g, e, hb, hg, hc⟩ := h.at_ hk
 refine ⟨ad, g, e, hb, hg, ?_⟩
 have e0 : (ad.add (k * 2)).add 0 = ad.add (k * 2) := by simp [Addr.add]
 have hj : ∀ j v, (csS g)[j]? = some v → w.cell? ((ad.add (k * 2)).add j) = some v := fun j v hv => by rw [add_of_add]; exact hc j v hv
 have ej : ∀ j, j ≠ 0 → (ad.add (k * 2)).add j = { block := (ad.add (k * 2)).block, off := (ad.add (k * 2)).off + j } := fun j hj0 => by
  generalize ad.add (k * 2) = p
  unfold Addr.add
  rw [if_neg hj0]
 refine ⟨by have := hj 0 _ rfl; rwa [e0] at this, ?_⟩
 have := hj 1 _ rfl
 rwa [ej 1 (by omega)] at this
theorem Sps.grown {w w' : World} {A : Option Addr} {l : List Sp} (h : Sps w A l) {row : Option Nat} (hg : w.grownBy w' row) (hne : ∀ ad, A = some ad → 0 < l.length → some ad.block ≠ row) : Sps w' A l := by
 refine ⟨h.1, fun hn => ?_⟩
 obtain ⟨ad, e, hb, hc⟩ := h.2 hn
 have hn' := hne ad e hn
 exact ⟨ad, e, Nat.lt_of_lt_of_le hb hg.size, fun j u hu => (World.cell?_of_block (hg.block (ad.add j).block (by rw [block_of_add]; exact hb) (by rw [block_of_add]; exact hn'))).trans (hc j u hu)⟩
theorem sps_drop {w : World} {A : Option Addr} {l : List Sp} (h : Sps w A l) {k cap : Nat} (hk : k ≤ l.length) (hc : l.length ≤ cap) : Sps w (if cap = k then A else A.map (fun x => x.add (k * 2))) (l.drop k) := by
 have := Reads.cut h hk hc
 unfold Sps
 rw [List.length_drop, scells_drop]
 exact this
theorem sps_take {w : World} {A : Option Addr} {l : List Sp} (h : Sps w A l) (k : Nat) : Sps w A (l.take k) := by
 refine ⟨by rw [scells_len], fun hn => ?_⟩
 rw [List.length_take] at hn
 obtain ⟨ad, e, hb, hc⟩ := h.2 (by omega)
 refine ⟨ad, e, hb, fun j u hu => hc j u ?_⟩
 rw [scells_take, List.getElem?_take] at hu
 split at hu
 ·exact hu
 ·cases hu
theorem sps_lit (w : World) (x : Sp) : Sps (w.alloc (.cells (csS x) 86)) (some ⟨w.heap.size, 0, none⟩) [x] := by
 refine ⟨rfl, fun _ => ⟨_, rfl, by simp, fun j u hu => ?_⟩⟩
 have hb := Blk.new w 86 (csS x)
 have ha : (⟨w.heap.size, 0, none⟩ : Addr).add j = ⟨w.heap.size, j, none⟩ := by
  unfold Addr.add
  split
  ·simp_all
  ·simp
 rw [ha, hb.cell]
 simpa [scells, lsS, csS] using hu
theorem sinfo : ∃ i : TypeInfo, Tryz.prog.info? 86 = some i ∧ i.size = 2 ∧ i.bytes = 16 ∧ i.zero = some (.agg #[.int .i64 0, .int .i64 0]) ∧ (Value.agg #[.int .i64 0, .int .i64 0]).cells.size = 2 := ⟨_, by first | exact Tryz.info86 | rfl, rfl, rfl, rfl, rfl⟩
/-- A row of one's own. -/
def Own (w : World) (base : Nat) (v : Value) (l : List Sp) : Prop := w.ownsRow base 86 2 v l.length (scells l)
theorem own_nil (w : World) (base : Nat) : Own w base (.slice none 0 0) [] := World.ownsRow_nil w base 86 2
theorem Own.read {w : World} {base : Nat} {v : Value} {l : List Sp} (h : Own w base v l) : ∃ (A : Option Addr) (c : Nat), v = .slice A l.length c ∧ l.length ≤ c ∧ Sps w A l ∧ ∀ ad, A = some ad → base ≤ ad.block := by
 have hlt := h.lt
 rcases h.2 with ⟨rfl, hn⟩ | ⟨g, cap, cur, rfl, hb, hg, hnc, hm, hs, ht⟩
 ·refine ⟨none, 0, by rw [hn], by omega, Reads.of_own (c := 0) (by simpa [Own, hn] using h), fun ad e => by cases e⟩
 ·exact ⟨_, cap, rfl, hnc, Reads.of_own h, fun ad e => by injection e with e; subst e; exact hb⟩
theorem grown_none2 {w w' : World} (h : Grows w w') : w.grownBy w' none := ⟨h.os, h.tape, h.output, h.size, fun k hk _ => h.block k hk⟩
theorem Own.grows {w w' : World} {base : Nat} {v : Value} {l : List Sp} (h : Own w base v l) (hg : Grows w w') : Own w' base v l := by
 refine h.kept (grown_none2 hg) ?_
 cases e : v.ownBlock
 ·exact .inl rfl
 ·exact .inr (by simp)
theorem Own.mono {w : World} {base base' : Nat} {v : Value} {l : List Sp} (h : Own w base v l) (hb : base' ≤ base) : Own w base' v l :=
 ⟨h.1, h.2.imp id fun ⟨g, cap, cur, hv, hg, r⟩ => ⟨g, cap, cur, hv, Nat.le_trans hb hg, r⟩⟩
theorem Own.addr {w : World} {base cap : Nat} {ad : Addr} {l : List Sp} (h : Own w base (.slice (some ad) l.length cap) l) (hn : 0 < l.length) : ∃ g, ad = ⟨g, 0, none⟩ ∧ base ≤ g ∧ g < w.heap.size := by
 obtain ⟨g, cap', hv, hb, hlt⟩ := h.form hn
 injection hv with e1 _ _
 injection e1 with e1
 exact ⟨g, e1, hb, hlt⟩
theorem Own.frozenAt {w : World} {base g cap : Nat} {l : List Sp} (h : Own w base (.slice (some ⟨g, 0, none⟩) l.length cap) l) (i : Nat) : w.frozen? ⟨g, i, none⟩ = false := World.ownsRow.frozenAt h i
/-- The end of the last span written anew. -/
theorem Own.setHi {w : World} {base g cap : Nat} {q : List Sp} {y : Sp} (h : Own w base (.slice (some ⟨g, 0, none⟩) (q ++ [y]).length cap) (q ++ [y])) (z : Int) :
 Own (w.setCell ⟨g, q.length * 2 + 1, none⟩ (.int .i64 z)) base (.slice (some ⟨g, 0, none⟩) (q ++ [y]).length cap) (q ++ [(y.1, z)]) := by
 have h1 := (World.ownsRow.stored h (q.length * 2 + 1) (.int .i64 z)).1
 unfold Own
 have e : (scells (q ++ [y])).set (q.length * 2 + 1) (.int .i64 z) = scells (q ++ [(y.1, z)]) := by
  rw [scells_append, scells_append, List.set_append_right _ _ (by rw [scells_len]; omega), scells_len]
  rw [show q.length * 2 + 1 - q.length * 2 = 1 by omega]
  rfl
 rw [e] at h1
 simpa using h1
section
variable {ops : Array Oper} {rest : List Oper} {o : Oper} {a : Act} {w : World} {Q : Exit → Act → World → Prop} {K : Act → World → Prop}
theorem wp_append_sp (s x : Operand) (ho : o.op = .call { callee := .builtin .append, args := #[s, x], argTypes := #[56, 56] })
 {base : Nat} {v : Value} {l m : List Sp} {A : Option Addr} {c n : Nat} (hn : n = m.length) (hs : a.eval s = v) (hown : Own w base v l) (hx : a.eval x = .slice A n c) (hr : Sps w A m) (hlen : l.length + m.length ≤ 1000000) (hbase : base ≤ w.heap.size)
 (h : ∀ v' w', Own w' base v' (l ++ m) → w.grownBy w' v.ownBlock → K (a.put o.dst v') w') : o.wp Tryz.prog a w K Q := by
 obtain ⟨i0, hi0, hi1, hi2, hi3, hi4⟩ := sinfo
 subst hn
 refine wp_append_any w s x 56 ho base 86 i0 _ 2 16 Tryz.underlying56 hi0 hi3 hi1 hi2 hi4 (by omega) v l.length (scells l) hs hown w.heap.size A m.length c (scells m) hx hr (scells_one m) (by simp only [maxLen]; omega) (by omega) hbase fun v' w' h1 h2 _ => h v' w' ?_ h2
 unfold Own
 rw [scells_append, List.length_append]
 exact h1
theorem wpList_append_sp (hgd : o.guard = none) (s x : Operand) (ho : o.op = .call { callee := .builtin .append, args := #[s, x], argTypes := #[56, 56] })
 {base : Nat} {v : Value} {l m : List Sp} {A : Option Addr} {c n : Nat} (hn : n = m.length) (hs : a.eval s = v) (hown : Own w base v l) (hx : a.eval x = .slice A n c) (hr : Sps w A m) (hlen : l.length + m.length ≤ 1000000) (hbase : base ≤ w.heap.size)
 (h : ∀ v' w', Own w' base v' (l ++ m) → w.grownBy w' v.ownBlock → wpList Tryz.prog ops Q rest (a.put o.dst v') w') : wpList Tryz.prog ops Q (o :: rest) a w :=
 wpList_plain hgd fun _ hK => wp_append_sp s x ho hn hs hown hx hr hlen hbase fun v' w' h1 h2 => hK _ _ (h v' w' h1 h2)
end
theorem Own.below {w w' : World} {base : Nat} {v : Value} {l : List Sp} {u : World} (h : Own w base v l) (hB : Below base u w) (hg : w.grownBy w' v.ownBlock) (hs : base ≤ w.heap.size) : Below base u w' := hB.grown hg hs fun q hq => (h.lt q hq).1
/-- Spans do not lie in a block that holds a slice alone. -/
theorem Sps.ne_slice {w : World} {A : Option Addr} {l : List Sp} (h : Sps w A l) {g : Nat} {t : TypeId} {B : Option Addr} {n c : Nat} (hb : Blk w g t #[.slice B n c]) (ad : Addr) (ha : A = some ad) (hl : 0 < l.length) : ad.block ≠ g := by
 intro he
 obtain ⟨ad', x, e, _, _, hc⟩ := h.at_ hl
 rw [ha] at e
 injection e with e
 subst e
 have h1 := hc 1 _ rfl
 have e1 : ad.add (0 * 2 + 1) = ⟨ad.block, ad.off + 1, none⟩ := by unfold Addr.add; rw [if_neg (by omega)]
 rw [e1, he, hb.cell, Array.getElem?_eq_none (by simp)] at h1
 cases h1
theorem Sps.setOther {w : World} {A : Option Addr} {l : List Sp} (h : Sps w A l) {g : Nat} {t : TypeId} {B : Option Addr} {n c : Nat} (hb : Blk w g t #[.slice B n c]) (u : Value) : Sps (w.setCell ⟨g, 0, none⟩ u) A l := by
 refine ⟨h.1, fun hn => ?_⟩
 obtain ⟨ad, e, hlt, hc⟩ := h.2 hn
 have hne := h.ne_slice hb ad e hn
 exact ⟨ad, e, by simpa [World.setCell] using hlt, fun j u' hu => (World.cell?_setCell_other w _ _ u (fun ee => hne (by have := congrArg Addr.block ee; rw [block_of_add] at this; exact this.symm ▸ rfl))).trans (hc j u' hu)⟩
end Go.Proofs.YtjbkjgmcfommgaaGreat

namespace Go.Proofs.YtjbkjgmcfommgaaGreat
open Go.RowKit
set_option maxRecDepth 100000
theorem fine_any (x : Sp) (w : World) : Calls Tryz.prog 144 #[.agg #[.int .i64 x.1, .int .i64 x.2]] w fun e w' => e = .returned (.bool (fineS x)) ∧ Grows w w' := by
  have hB := (Below.refl w.heap.size w).alloc (Nat.le_refl _) (Obj.cells #[.int .i64 x.1, .int .i64 x.2] 86)
  by_cases h1 : 0 ≤ x.1
  · by_cases h2 : x.1 ≤ x.2
    · by_cases h3 : x.2 ≤ 2147483647
      · have e : fineS x = true := (fineS_iff x).2 ⟨h1, h2, h3⟩
        have HE := Lib.hid e
        clear e
        go_enter Tryz.func144, Tryz.ntmps144
        go_wp2
        go_ret
        exact ⟨ret_bool HE.out.symm, hB⟩
      · have e : fineS x = false := by simp [fineS, h3]
        have HE := Lib.hid e
        clear e
        go_enter Tryz.func144, Tryz.ntmps144
        go_wp2
        go_ret
        exact ⟨ret_bool HE.out.symm, hB⟩
    · have e : fineS x = false := by simp [fineS, h2]
      have HE := Lib.hid e
      clear e
      go_enter Tryz.func144, Tryz.ntmps144
      go_wp2
      go_ret
      exact ⟨ret_bool HE.out.symm, hB⟩
  · have e : fineS x = false := by simp [fineS, h1]
    have HE := Lib.hid e
    clear e
    go_enter Tryz.func144, Tryz.ntmps144
    go_wp2
    go_ret
    exact ⟨ret_bool HE.out.symm, hB⟩
def sortS (l : List Sp) : List Sp := l.mergeSort fun x y => decide (x.1 ≤ y.1)
def formS (l : List Sp) : List Sp := mergeL (sortS l)
theorem sortS_perm (l : List Sp) : (sortS l).Perm l := List.mergeSort_perm _ _
theorem sortS_sorted (l : List Sp) : (sortS l).Pairwise (fun x y => x.1 ≤ y.1) := by
  have := List.pairwise_mergeSort (le := fun x y : Sp => decide (x.1 ≤ y.1)) (fun a b c h1 h2 => by simp at *; omega) (fun a b => by simp; omega) l
  exact this.imp fun h => by simpa using h
theorem formS_forms {l : List Sp} (hf : ∀ x ∈ l, fineS x = true) : Forms l (formS l) := forms_merge (fun x hx => ((fineS_iff x).1 (hf x hx)).2.1) (sortS_perm l) (sortS_sorted l)
theorem form_eq {l d : List Sp} (hf : ∀ x ∈ l, fineS x = true) (hp : d.Perm l) (hs : d.Pairwise (fun x y => x.1 ≤ y.1)) : mergeL d = formS l :=
  forms_uniq (forms_merge (fun x hx => ((fineS_iff x).1 (hf x hx)).2.1) hp hs) (formS_forms hf)
def makeF (l : List Sp) : List Sp × Int := if l.all fineS = true then (if 64 < (formS l).length then ([], 3) else (formS l, 0)) else ([], 2)
/-- A set as a value. -/
def SetV (w : World) (l : List Sp) (v : Value) : Prop := ∃ A c, v = .agg #[.slice A l.length c] ∧ l.length ≤ c ∧ Sps w A l
theorem SetV.grows {w w' : World} {l : List Sp} {v : Value} (h : SetV w l v) (hg : Grows w w') : SetV w' l v := by
  obtain ⟨A, c, e, hc, hs⟩ := h
  exact ⟨A, c, e, hc, hs.grows hg⟩
theorem all_snoc {l : List Sp} {k : Nat} {x : Sp} (h : l[k]? = some x) : (l.take (k + 1)).all fineS = ((l.take k).all fineS && fineS x) := by
  rw [take_snoc h]
  simp
set_option maxHeartbeats 8000000 in
theorem valid_any (A : Option Addr) (c : Nat) (l : List Sp) (w : World) (h : Sps w A l) (hl : l.length ≤ 9223372036854775807) :
    Calls Tryz.prog 122 #[.agg #[.slice A l.length c]] w fun e w' => e = .returned (.bool (okS l)) ∧ Grows w w' := by
  have k2 := Blk.new w 58 #[.slice A l.length c]
  have hB := (Below.refl w.heap.size w).alloc (Nat.le_refl _) (Obj.cells #[.slice A l.length c] 58)
  go_enter Tryz.func122, Tryz.ntmps122
  go_upto_region 1 with fail
  generalize World.alloc w _ = w1 at *
  have x2 := k2.cell
  go_wp2_with fail
  clear x2
  go_loopw [8] (fun i wr => ∃ k : Nat, k ≤ l.length ∧ i = .int .i64 k ∧ Below w.heap.size w wr ∧ Blk wr w.heap.size 58 #[.slice A l.length c] ∧ (l.take k).all fineS = true ∧ chainS (l.take k) = true) (fun i _ => l.length - (intOf i).toNat)
  case atStart => exact ⟨0, by omega, rfl, hB, k2, rfl, rfl⟩
  case round =>
    clear hB k2
    obtain ⟨k, hk, rfl, hB, k2, hall, hch⟩ := hrel
    by_cases hlt : k < l.length
    · obtain ⟨ad, x, rfl, had, hx, c0, c1⟩ := (h.grows hB).elem hlt
      have HA := Lib.hid (all_snoc hx)
      have HT : Hid (l.take (k + 1) = l.take k ++ [x]) := take_snoc hx
      clear hx
      have k5 := Blk.new wr 86 #[.int .i64 x.1, .int .i64 x.2]
      have hq := (Below.refl wr.heap.size wr).alloc (Nat.le_refl _) (Obj.cells #[.int .i64 x.1, .int .i64 x.2] 86)
      have hB4 := below_grows hB (Nat.le_refl _) hq
      replace k2 := k2.grows hq
      go_upto_region 4 with fail
      have hsW := h.grows hB4
      clear hq c0 c1
      generalize World.alloc wr _ = W4 at *
      generalize wr.heap.size = G5 at *
      cases hfx : fineS x
      · have v1 : ∀ w1, Calls Tryz.prog 144 #[.agg #[.int .i64 x.1, .int .i64 x.2]] w1 fun e w' => e = .returned (.bool false) ∧ Grows w1 w' := fun w1 => by
          have := fine_any x w1
          rw [hfx] at this
          exact this
        refine wp_region_mix (fun w' => Grows W4 w') [] 20 38 (by kernel_rfl) (by kernel_rfl) rfl ?_ float_none ?_ ?_
        · exact fun w1 w2 h0 hg => below_grows h0 (Nat.le_refl _) hg
        · exact Grows.drew' _
        · skip
          simp only [List.take_succ_cons, List.take_zero, List.drop_succ_cons, List.drop_zero]
          iterate 20
            first
              | (refine calm_no rfl rfl (a' := ?_) ?_ ?_
                 rotate_left 1
                 · simp only [Act.put, List.setIfInBounds_toArray, List.set_cons_succ, List.set_cons_zero]
                   rfl)
              | (first | refine calm_plain rfl rfl (v := ?_) (a' := ?_) (fun w1 hw1 => ?_) ?_ ?_ | refine calm_yes rfl rfl (v := ?_) (a' := ?_) (fun w1 hw1 => ?_) ?_ ?_
                 rotate_left 2
                 · have h0 := hw1
                   have c5 := (k5.grows h0).cell
                   have c2 := (k2.grows h0).cell
                   go_simp
                   first | exact calm_val | (refine calm_call ?_; with_reducible exact v1 _)
                 · simp only [Act.put, List.setIfInBounds_toArray, List.set_cons_succ, List.set_cons_zero]
                   rfl)
          refine calm_done (end_none ?_)
          intro w7 hq
          have hB7 := below_grows hB4 (Nat.le_refl _) hq
          have HE := Lib.hid (okS_no (k + 1) (l := l) (by rw [HA.out, hfx]; simp))
          clear hq
          go_wp2
          go_ret
          exact ⟨ret_bool HE.out.symm, hB7⟩
      · have v1 : ∀ w1, Calls Tryz.prog 144 #[.agg #[.int .i64 x.1, .int .i64 x.2]] w1 fun e w' => e = .returned (.bool true) ∧ Grows w1 w' := fun w1 => by
          have := fine_any x w1
          rw [hfx] at this
          exact this
        by_cases h0 : k = 0
        · subst h0
          have hgood : (l.take (0 + 1)).all fineS = true ∧ chainS (l.take (0 + 1)) = true := ⟨by rw [HA.out, hall, hfx]; rfl, by rw [HT.out]; rfl⟩
          refine wp_region_mix (fun w' => Grows W4 w') [] 20 38 (by kernel_rfl) (by kernel_rfl) rfl ?_ float_none ?_ ?_
          · exact fun w1 w2 h0 hg => below_grows h0 (Nat.le_refl _) hg
          · exact Grows.drew' _
          · skip
            simp only [List.take_succ_cons, List.take_zero, List.drop_succ_cons, List.drop_zero]
            iterate 20
              first
                | (refine calm_no rfl rfl (a' := ?_) ?_ ?_
                   rotate_left 1
                   · simp only [Act.put, List.setIfInBounds_toArray, List.set_cons_succ, List.set_cons_zero]
                     rfl)
                | (first | refine calm_plain rfl rfl (v := ?_) (a' := ?_) (fun w1 hw1 => ?_) ?_ ?_ | refine calm_yes rfl rfl (v := ?_) (a' := ?_) (fun w1 hw1 => ?_) ?_ ?_
                   rotate_left 2
                   · have h0 := hw1
                     have c5 := (k5.grows h0).cell
                     have c2 := (k2.grows h0).cell
                     go_simp
                     first | exact calm_val | (refine calm_call ?_; with_reducible exact v1 _)
                   · simp only [Act.put, List.setIfInBounds_toArray, List.set_cons_succ, List.set_cons_zero]
                     rfl)
            refine calm_done (end_none ?_)
            intro w7 hq
            have hB7 := below_grows hB4 (Nat.le_refl _) hq
            have k27 := k2.grows hq
            have HG := Lib.hid hgood
            clear hq hgood
            go_wp2
            go_roundw
            case rel => exact ⟨0 + 1, by omega, by go_num, hB7, k27, HG.out.1, HG.out.2⟩
            case measure => simp [intOf]; omega
        · obtain ⟨m, rfl⟩ : ∃ m, k = m + 1 := ⟨k - 1, by omega⟩
          obtain ⟨ad', y, e, hlt2, hy, hd0, hd1⟩ := hsW.elem (k := m) (by omega)
          injection e with e
          subst e
          have hyf : fineS y = true := List.all_eq_true.1 hall y (by rw [take_snoc hy]; simp)
          rw [fineS_iff] at hyf
          have HC : Hid (chainS (l.take (m + 1 + 1)) = decide (y.2 + 1 < x.1)) := Lib.hid (by rw [HT.out, chainS_snoc, hch, take_snoc hy, List.getLast?_concat]; rfl)
          have hidx : IntKind.i64.wrap (m : Int) = (m : Int) := IntWalk.i64_in _ (by omega)
          have hml : (m : Int) < (l.length : Int) := by omega
          have hadd : IntKind.i64.wrap (y.2 + 1) = y.2 + 1 := IntWalk.i64_in _ (by omega)
          have hpos : decide ((0 : Int) < ((m + 1 : Nat) : Int)) = true := decide_eq_true (by omega)
          have hlt2 : (⟨(ad.add (m * 2)).block, (ad.add (m * 2)).off + 1, none⟩ : Addr).block < W4.heap.size := by rw [block_of_add]; exact hlt2
          clear hd0 hy
          by_cases hgap : x.1 ≤ y.2 + 1
          · skip
            refine wp_region_mix (fun w' => Grows W4 w') [] 20 38 (by kernel_rfl) (by kernel_rfl) rfl ?_ float_none ?_ ?_
            · exact fun w1 w2 h0 hg => below_grows h0 (Nat.le_refl _) hg
            · exact Grows.drew' _
            · skip
              simp only [List.take_succ_cons, List.take_zero, List.drop_succ_cons, List.drop_zero]
              iterate 20
                first
                  | (refine calm_no rfl rfl (a' := ?_) ?_ ?_
                     rotate_left 1
                     · simp only [Act.put, List.setIfInBounds_toArray, List.set_cons_succ, List.set_cons_zero]
                       rfl)
                  | (first | refine calm_plain rfl rfl (v := ?_) (a' := ?_) (fun w1 hw1 => ?_) ?_ ?_ | refine calm_yes rfl rfl (v := ?_) (a' := ?_) (fun w1 hw1 => ?_) ?_ ?_
                     rotate_left 2
                     · have h0 := hw1
                       have c5 := (k5.grows h0).cell
                       have c2 := (k2.grows h0).cell
                       have d1 := (h0.cell (p := _) hlt2).trans hd1
                       go_simp
                       first | exact calm_val | (refine calm_call ?_; with_reducible exact v1 _)
                     · simp only [Act.put, List.setIfInBounds_toArray, List.set_cons_succ, List.set_cons_zero]
                       rfl)
              refine calm_done (end_none ?_)
              intro w7 hq
              have hB7 := below_grows hB4 (Nat.le_refl _) hq
              have HE := Lib.hid (okS_no (m + 1 + 1) (l := l) (by rw [HC.out]; simp; omega))
              clear hq
              go_wp2
              go_ret
              exact ⟨ret_bool HE.out.symm, hB7⟩
          · have hgood : (l.take (m + 1 + 1)).all fineS = true ∧ chainS (l.take (m + 1 + 1)) = true := ⟨by rw [HA.out, hall, hfx]; rfl, by rw [HC.out]; simp; omega⟩
            refine wp_region_mix (fun w' => Grows W4 w') [] 20 38 (by kernel_rfl) (by kernel_rfl) rfl ?_ float_none ?_ ?_
            · exact fun w1 w2 h0 hg => below_grows h0 (Nat.le_refl _) hg
            · exact Grows.drew' _
            · skip
              simp only [List.take_succ_cons, List.take_zero, List.drop_succ_cons, List.drop_zero]
              iterate 20
                first
                  | (refine calm_no rfl rfl (a' := ?_) ?_ ?_
                     rotate_left 1
                     · simp only [Act.put, List.setIfInBounds_toArray, List.set_cons_succ, List.set_cons_zero]
                       rfl)
                  | (first | refine calm_plain rfl rfl (v := ?_) (a' := ?_) (fun w1 hw1 => ?_) ?_ ?_ | refine calm_yes rfl rfl (v := ?_) (a' := ?_) (fun w1 hw1 => ?_) ?_ ?_
                     rotate_left 2
                     · have h0 := hw1
                       have c5 := (k5.grows h0).cell
                       have c2 := (k2.grows h0).cell
                       have d1 := (h0.cell (p := _) hlt2).trans hd1
                       go_simp
                       first | exact calm_val | (refine calm_call ?_; with_reducible exact v1 _)
                     · simp only [Act.put, List.setIfInBounds_toArray, List.set_cons_succ, List.set_cons_zero]
                       rfl)
              refine calm_done (end_none ?_)
              intro w7 hq
              have hB7 := below_grows hB4 (Nat.le_refl _) hq
              have k27 := k2.grows hq
              have HG := Lib.hid hgood
              clear hq hgood
              go_wp2
              go_roundw
              case rel => exact ⟨m + 1 + 1, by omega, by go_num, hB7, k27, HG.out.1, HG.out.2⟩
              case measure => simp [intOf]; omega
    · have e : l.take k = l := List.take_of_length_le (by omega)
      rw [e] at hall hch
      have x2 := k2.cell
      have HE := Lib.hid (okS_yes hall hch)
      clear e hall hch
      by_cases h64 : l.length ≤ 64
      · go_wp2
        go_ret
        exact ⟨ret_bool (by rw [HE.out, decide_eq_decide]; omega), hB⟩
      · go_wp2
        go_ret
        exact ⟨ret_bool (by rw [HE.out, decide_eq_decide]; omega), hB⟩
set_option maxHeartbeats 4000000 in
theorem spans_any (A : Option Addr) (c : Nat) (l : List Sp) (w : World) (h : Sps w A l) (hl : l.length ≤ 9223372036854775807) :
    Calls Tryz.prog 112 #[.agg #[.slice A l.length c]] w fun e w' => (∃ A2 c2, e = .returned (.slice A2 (spansF l).length c2) ∧ Sps w' A2 (spansF l) ∧ (l.length ≤ c → (spansF l).length ≤ c2)) ∧ Grows w w' := by
  have k2 := Blk.new w 58 #[.slice A l.length c]
  have hB := (Below.refl w.heap.size w).alloc (Nat.le_refl _) (Obj.cells #[.slice A l.length c] 58)
  go_enter Tryz.func112, Tryz.ntmps112
  go_upto_region 1 with fail
  have h1 := h.grows hB
  generalize World.alloc w _ = w1 at *
  have x2 := k2.cell 0
  go_wp2_with fail
  refine (valid_any A c l _ h1 hl).mono ?_
  rintro e w2 ⟨rfl, hq⟩
  replace hB := below_grows hB (Nat.le_refl _) hq
  replace k2 := k2.grows hq
  have h2 := h1.grows hq
  clear x2 hq
  have x2 := k2.cell 0
  cases hok : okS l
  · have e : spansF l = [] := if_neg (by rw [hok]; simp)
    have HE := Lib.hid e
    clear e
    go_wp2
    go_ret
    rw [HE.out]
    exact ⟨⟨none, 0, rfl, sps_nil _, fun _ => Nat.le_refl _⟩, hB⟩
  · have e : spansF l = l := if_pos hok
    have HE := Lib.hid e
    clear e
    go_wp2
    go_ret
    rw [HE.out]
    exact ⟨⟨A, c, rfl, h2, id⟩, hB⟩
set_option maxHeartbeats 8000000 in
theorem rvalid_any (A : Option Addr) (c : Nat) (l : List Sp) (w : World) (h : Sps w A l) (hl : l.length ≤ 9223372036854775807) :
    Calls Tryz.prog 125 #[.agg #[.slice A l.length c]] w fun e w' => e = .returned (.bool (okS l)) ∧ Grows w w' := by
  have k2 := Blk.new w 58 #[.slice A l.length c]
  have hB := (Below.refl w.heap.size w).alloc (Nat.le_refl _) (Obj.cells #[.slice A l.length c] 58)
  go_enter Tryz.func125, Tryz.ntmps125
  go_upto_region 1 with fail
  generalize World.alloc w _ = w1 at *
  have x2 := k2.cell
  go_wp2_with fail
  clear x2
  go_loopw [8] (fun i wr => ∃ k : Nat, k ≤ l.length ∧ i = .int .i64 k ∧ Below w.heap.size w wr ∧ Blk wr w.heap.size 58 #[.slice A l.length c] ∧ (l.take k).all fineS = true ∧ chainS (l.take k) = true) (fun i _ => l.length - (intOf i).toNat)
  case atStart => exact ⟨0, by omega, rfl, hB, k2, rfl, rfl⟩
  case round =>
    clear hB k2
    obtain ⟨k, hk, rfl, hB, k2, hall, hch⟩ := hrel
    by_cases hlt : k < l.length
    · obtain ⟨ad, x, rfl, had, hx, c0, c1⟩ := (h.grows hB).elem hlt
      have HA := Lib.hid (all_snoc hx)
      have HT : Hid (l.take (k + 1) = l.take k ++ [x]) := take_snoc hx
      clear hx
      have k5 := Blk.new wr 86 #[.int .i64 x.1, .int .i64 x.2]
      have hq := (Below.refl wr.heap.size wr).alloc (Nat.le_refl _) (Obj.cells #[.int .i64 x.1, .int .i64 x.2] 86)
      have hB4 := below_grows hB (Nat.le_refl _) hq
      replace k2 := k2.grows hq
      go_upto_region 4 with fail
      have hsW := h.grows hB4
      clear hq c0 c1
      generalize World.alloc wr _ = W4 at *
      generalize wr.heap.size = G5 at *
      have e0 := k5.cell 0
      have e1 := k5.cell 1
      by_cases h1 : x.1 < 0
      · skip
        go_region
        have hq := Grows.drew' W4
        generalize World.drew _ = w7 at *
        have hB7 := below_grows hB4 (Nat.le_refl _) hq
        have HE := Lib.hid (okS_no (k + 1) (l := l) (by rw [HA.out, show fineS x = false by simp [fineS]; omega]; simp))
        clear hq
        go_wp2
        go_ret
        exact ⟨ret_bool HE.out.symm, hB7⟩
      by_cases h2 : x.2 < x.1
      · skip
        go_region
        have hq := Grows.drew' W4
        generalize World.drew _ = w7 at *
        have hB7 := below_grows hB4 (Nat.le_refl _) hq
        have HE := Lib.hid (okS_no (k + 1) (l := l) (by rw [HA.out, show fineS x = false by simp [fineS]; omega]; simp))
        clear hq
        go_wp2
        go_ret
        exact ⟨ret_bool HE.out.symm, hB7⟩
      by_cases h3 : 2147483647 < x.2
      · skip
        go_region
        have hq := Grows.drew' W4
        generalize World.drew _ = w7 at *
        have hB7 := below_grows hB4 (Nat.le_refl _) hq
        have HE := Lib.hid (okS_no (k + 1) (l := l) (by rw [HA.out, show fineS x = false by simp [fineS]; omega]; simp))
        clear hq
        go_wp2
        go_ret
        exact ⟨ret_bool HE.out.symm, hB7⟩
      have hfx : fineS x = true := (fineS_iff x).2 ⟨by omega, by omega, by omega⟩
      have HF := Lib.hid hfx
      clear hfx
      by_cases h0 : k = 0
      · subst h0
        have hgood : (l.take (0 + 1)).all fineS = true ∧ chainS (l.take (0 + 1)) = true := ⟨by rw [HA.out, hall, HF.out]; rfl, by rw [HT.out]; rfl⟩
        go_region
        have hq := Grows.drew' W4
        generalize World.drew _ = w7 at *
        have hB7 := below_grows hB4 (Nat.le_refl _) hq
        have k27 := k2.grows hq
        have HG := Lib.hid hgood
        clear hq hgood
        go_wp2
        go_roundw
        case rel => exact ⟨0 + 1, by omega, by go_num, hB7, k27, HG.out.1, HG.out.2⟩
        case measure => simp [intOf]; omega
      obtain ⟨m, rfl⟩ : ∃ m, k = m + 1 := ⟨k - 1, by omega⟩
      obtain ⟨ad', y, e, hlt2, hy, hd0, hd1⟩ := hsW.elem (k := m) (by omega)
      injection e with e
      subst e
      have HC : Hid (chainS (l.take (m + 1 + 1)) = decide (y.2 + 1 < x.1)) := Lib.hid (by rw [HT.out, chainS_snoc, hch, take_snoc hy, List.getLast?_concat]; rfl)
      have hidx : IntKind.i64.wrap (m : Int) = (m : Int) := IntWalk.i64_in _ (by omega)
      have hml : (m : Int) < (l.length : Int) := by omega
      have hsub : IntKind.i64.wrap (x.1 - 1) = x.1 - 1 := IntWalk.i64_in _ (by omega)
      have hpos : decide ((0 : Int) < ((m + 1 : Nat) : Int)) = true := decide_eq_true (by omega)
      have x2 := k2.cell 0
      clear hd0 hy
      by_cases hgap : x.1 - 1 ≤ y.2
      · skip
        go_region
        have hq := Grows.drew' W4
        generalize World.drew _ = w7 at *
        have hB7 := below_grows hB4 (Nat.le_refl _) hq
        have HE := Lib.hid (okS_no (m + 1 + 1) (l := l) (by rw [HC.out]; simp; omega))
        clear hq
        go_wp2
        go_ret
        exact ⟨ret_bool HE.out.symm, hB7⟩
      · have hgood : (l.take (m + 1 + 1)).all fineS = true ∧ chainS (l.take (m + 1 + 1)) = true := ⟨by rw [HA.out, hall, HF.out]; rfl, by rw [HC.out]; simp; omega⟩
        go_region
        have hq := Grows.drew' W4
        generalize World.drew _ = w7 at *
        have hB7 := below_grows hB4 (Nat.le_refl _) hq
        have k27 := k2.grows hq
        have HG := Lib.hid hgood
        clear hq hgood
        go_wp2
        go_roundw
        case rel => exact ⟨m + 1 + 1, by omega, by go_num, hB7, k27, HG.out.1, HG.out.2⟩
        case measure => simp [intOf]; omega
    · have e : l.take k = l := List.take_of_length_le (by omega)
      rw [e] at hall hch
      have x2 := k2.cell
      have HE := Lib.hid (okS_yes hall hch)
      clear e hall hch
      by_cases h64 : l.length ≤ 64
      · go_wp2
        go_ret
        exact ⟨ret_bool (by rw [HE.out, decide_eq_decide]; omega), hB⟩
      · go_wp2
        go_ret
        exact ⟨ret_bool (by rw [HE.out, decide_eq_decide]; omega), hB⟩
set_option maxHeartbeats 4000000 in
theorem rspans_any (A : Option Addr) (c : Nat) (l : List Sp) (w : World) (h : Sps w A l) (hl : l.length ≤ 9223372036854775807) :
    Calls Tryz.prog 110 #[.agg #[.slice A l.length c]] w fun e w' => (∃ A2 c2, e = .returned (.slice A2 (spansF l).length c2) ∧ Sps w' A2 (spansF l) ∧ (l.length ≤ c → (spansF l).length ≤ c2)) ∧ Grows w w' := by
  have k2 := Blk.new w 58 #[.slice A l.length c]
  have hB := (Below.refl w.heap.size w).alloc (Nat.le_refl _) (Obj.cells #[.slice A l.length c] 58)
  go_enter Tryz.func110, Tryz.ntmps110
  go_upto_region 1 with fail
  have h1 := h.grows hB
  generalize World.alloc w _ = w1 at *
  have x2 := k2.cell 0
  go_wp2_with fail
  refine (rvalid_any A c l _ h1 hl).mono ?_
  rintro e w2 ⟨rfl, hq⟩
  replace hB := below_grows hB (Nat.le_refl _) hq
  replace k2 := k2.grows hq
  have h2 := h1.grows hq
  clear x2 hq
  have x2 := k2.cell 0
  cases hok : okS l
  · have e : spansF l = [] := if_neg (by rw [hok]; simp)
    have HE := Lib.hid e
    clear e
    go_wp2
    go_ret
    rw [HE.out]
    exact ⟨⟨none, 0, rfl, sps_nil _, fun _ => Nat.le_refl _⟩, hB⟩
  · have e : spansF l = l := if_pos hok
    have HE := Lib.hid e
    clear e
    go_wp2
    go_ret
    rw [HE.out]
    exact ⟨⟨A, c, rfl, h2, id⟩, hB⟩
end Go.Proofs.YtjbkjgmcfommgaaGreat


namespace Go.Proofs.YtjbkjgmcfommgaaGreat
open Go.RowKit
def hasP (n : Int) (x : Sp) : Bool := (decide (x.1 ≤ n) && decide (n ≤ x.2))
def hasF (l : List Sp) (n : Int) : Bool := (spansF l).any fun x => hasP n x
theorem has_p (n : Int) (x : Sp) (B : Nat) (w : World) (kn : Blk w B 3 #[.int .i64 n]) : Calls Tryz.prog 113 #[.agg #[.int .i64 x.1, .int .i64 x.2], .pointer (some ⟨B, 0, none⟩)] w fun e w' => e = .returned (.bool (hasP n x)) ∧ Grows w w' := by
 have hB := (Below.refl w.heap.size w).alloc (Nat.le_refl _) (Obj.cells #[.int .i64 x.1, .int .i64 x.2] 86)
 have x1 := (kn.grows hB).cell 0
 by_cases h1 : x.1 ≤ n
 ·by_cases h2 : n ≤ x.2
  ·have HE : Hid (hasP n x = true) := Lib.hid (by simp [hasP, h1, h2])
   go_enter Tryz.func113, Tryz.ntmps113
   go_wp2
   go_ret
   exact ⟨ret_bool HE.out.symm, hB⟩
  ·have HE : Hid (hasP n x = false) := Lib.hid (by simp [hasP, h2])
   go_enter Tryz.func113, Tryz.ntmps113
   go_wp2
   go_ret
   exact ⟨ret_bool HE.out.symm, hB⟩
 ·have HE : Hid (hasP n x = false) := Lib.hid (by simp [hasP, h1])
  go_enter Tryz.func113, Tryz.ntmps113
  go_wp2
  go_ret
  exact ⟨ret_bool HE.out.symm, hB⟩
def Found_has (n : Int) (l : List Sp) (r : Int) : Prop := (r = -1 ∧ ∀ x ∈ l, hasP n x = false) ∨ (0 ≤ r ∧ ∃ x ∈ l, hasP n x = true)
set_option maxHeartbeats 4000000 in
theorem index_has (n : Int) (A : Option Addr) (c : Nat) (l : List Sp) (w : World) (B : Nat) (kn : Blk w B 3 #[.int .i64 n]) (h : Sps w A l) (hl : l.length ≤ 9223372036854775807) (F : Value) (hF : F = .func (.func 113) #[] #[.pointer (some ⟨B, 0, none⟩)]) :
 Calls Tryz.prog 139 #[.slice A l.length c, F] w fun e w' => (∃ r, Found_has n l r ∧ e = .returned (.int .i64 r)) ∧ Grows w w' := by
 subst hF
 go_enter Tryz.func139, Tryz.ntmps139
 go_wp2
 go_loopw [8] (fun i wr => ∃ k : Nat, k ≤ l.length ∧ i = .int .i64 k ∧ Grows w wr ∧ ∀ x ∈ l.take k, hasP n x = false) (fun i _ => l.length - (intOf i).toNat)
 case atStart => exact ⟨0, by omega, rfl, Below.refl _ _, by simp⟩
 case round =>
  obtain ⟨k, hk, rfl, hB, hall⟩ := hrel
  by_cases hlt : k < l.length
  ·obtain ⟨ad, x, rfl, had, hx, c0, c1⟩ := (h.grows hB).elem hlt
   have HX : Hid (l.take (k + 1) = l.take k ++ [x]) := take_snoc hx
   have HM : Hid (x ∈ l) := List.mem_of_getElem? hx
   clear hx
   go_wp2_with fail
   refine (has_p n x B _ (kn.grows hB)).mono ?_
   rintro e w2 ⟨rfl, hq⟩
   replace hB := below_grows hB (Nat.le_refl _) hq
   clear c0 c1 hq
   cases ho : hasP n x
   ·go_wp2
    go_roundw
    case rel =>
     refine ⟨k + 1, by omega, by go_num, hB, ?_⟩
     rw [HX.out]
     intro y hy
     rcases List.mem_append.1 hy with hy | hy
     ·exact hall y hy
     ·simp at hy; subst hy; exact ho
    case measure => simp [intOf]; omega
   ·go_wp2
    go_ret
    exact ⟨⟨_, .inr ⟨by omega, x, HM.out, ho⟩, rfl⟩, hB⟩
  ·have e : l.take k = l := List.take_of_length_le (by omega)
   rw [e] at hall
   go_wp2
   go_ret
   exact ⟨⟨-1, .inl ⟨rfl, hall⟩, rfl⟩, hB⟩
set_option maxHeartbeats 4000000 in
theorem cont_has (n : Int) (A : Option Addr) (c : Nat) (l : List Sp) (w : World) (B : Nat) (kn : Blk w B 3 #[.int .i64 n]) (h : Sps w A l) (hl : l.length ≤ 9223372036854775807) :
 Calls Tryz.prog 111 #[.slice A l.length c, .func (.func 113) #[] #[.pointer (some ⟨B, 0, none⟩)]] w fun e w' => e = .returned (.bool (l.any fun x => hasP n x)) ∧ Grows w w' := by
 go_enter Tryz.func111, Tryz.ntmps111
 go_wp2_with fail
 refine (index_has n A c l _ B kn h hl _ rfl).mono ?_
 rintro e w2 ⟨⟨r, hr, rfl⟩, hB⟩
 have hd : decide (0 ≤ r) = l.any fun x => hasP n x := by
  rcases hr with ⟨rfl, ha⟩ | ⟨h0, x, hx, ho⟩
  ·rw [show decide ((0 : Int) ≤ -1) = false from rfl]
   symm
   rw [List.any_eq_false]
   intro x hx
   rw [ha x hx]
   simp
  ·rw [show decide (0 ≤ r) = true from by simpa using h0]
   symm
   exact List.any_eq_true.2 ⟨x, hx, ho⟩
 go_wp2
 go_ret
 exact ⟨rfl, hB⟩
set_option maxHeartbeats 4000000 in
theorem has_any (A : Option Addr) (c : Nat) (l : List Sp) (n : Int) (w : World) (h : Sps w A l) (hl : l.length ≤ 9223372036854775807) :
 Calls Tryz.prog 75 #[.agg #[.slice A l.length c], .int .i64 n] w fun e w' => e = .returned (.bool (hasF l n)) ∧ Grows w w' := by
 have k2 := (Blk.new w 58 #[.slice A l.length c]).alloc (Obj.cells #[.int .i64 n] 3)
 have k3 := blk_new_at (X := w.alloc (Obj.cells #[.slice A l.length c] 58)) (n := w.heap.size + 1) (t := 3) (cs := #[.int .i64 n]) (by simp)
 have hB := ((Below.refl w.heap.size w).alloc (Nat.le_refl _) (Obj.cells #[.slice A l.length c] 58)).alloc (by simp) (Obj.cells #[.int .i64 n] 3)
 go_enter Tryz.func75, Tryz.ntmps75
 go_upto_region 1 with fail
 have h1 := h.grows hB
 generalize World.alloc (World.alloc w _) _ = w1 at *
 have x2 := k2.cell 0
 go_wp2_with fail
 refine (spans_any A c l _ h1 hl).mono ?_
 rintro e w2 ⟨⟨A2, c2, rfl, h2, -⟩, hq⟩
 replace hB := below_grows hB (Nat.le_refl _) hq
 have hl2 := spansF_len l
 have HF : Hid (hasF l n = (spansF l).any fun x => hasP n x) := Lib.hid rfl
 generalize spansF l = o at *
 go_wp2_with fail
 refine (cont_has n A2 c2 o _ _ (k3.grows hq) h2 (by omega)).mono ?_
 rintro e w3 ⟨rfl, hq2⟩
 replace hB := below_grows hB (Nat.le_refl _) hq2
 go_wp2
 go_ret
 exact ⟨ret_bool HF.out.symm, hB⟩
def farD (a b : Int) : Int := if a < b then b - a else a - b
theorem u64_sub (a b : Int) (h : 0 ≤ a - b ∧ a - b < 18446744073709551616) : IntKind.u64.wrap (IntKind.u64.wrap a - IntKind.u64.wrap b) = a - b := by
 simp only [IntKind.wrap, IntKind.bits, IntKind.signed] <;> simp <;> omega
def nearS (n : Int) (s : Int × Bool) (x : Sp) : Int × Bool :=
 if s.2 = false ∨ farD (max x.1 (min x.2 n)) n < farD s.1 n then (max x.1 (min x.2 n), true) else s
def nearF (l : List Sp) (n : Int) : Int × Bool := (spansF l).foldl (nearS n) (0, false)
theorem near_bd (n : Int) (l : List Sp) (hf : ∀ x ∈ l, fineS x = true) : 0 ≤ (l.foldl (nearS n) (0, false)).1 ∧ (l.foldl (nearS n) (0, false)).1 ≤ 2147483647 := by
 have key : ∀ (l : List Sp) (s : Int × Bool), (∀ x ∈ l, fineS x = true) → 0 ≤ s.1 ∧ s.1 ≤ 2147483647 → 0 ≤ (l.foldl (nearS n) s).1 ∧ (l.foldl (nearS n) s).1 ≤ 2147483647 := by
  intro l
  induction l with
  | nil => intro s _ h; exact h
  | cons x l ih =>
   intro s hl h
   refine ih _ (fun z hz => hl z (List.mem_cons_of_mem _ hz)) ?_
   have hx := (fineS_iff x).1 (hl x (by simp))
   unfold nearS
   split
   ·simp only []; omega
   ·exact h
 exact key l _ hf ⟨by simp, by simp⟩
theorem dist_any (a b : Int) (w : World) (ha : -9223372036854775808 ≤ a ∧ a ≤ 9223372036854775807) (hb : -9223372036854775808 ≤ b ∧ b ≤ 9223372036854775807) : Calls Tryz.prog 132 #[.int .i64 a, .int .i64 b] w fun e w' => e = .returned (.int .u64 (farD a b)) ∧ Grows w w' := by
 by_cases h1 : a < b
 ·have hu := u64_sub b a (by omega)
  have HE : Hid (farD a b = b - a) := Lib.hid (if_pos h1)
  go_enter Tryz.func132, Tryz.ntmps132
  go_wp2
  go_ret
  exact ⟨ret_int HE.out.symm, Below.refl _ _⟩
 ·have hu := u64_sub a b (by omega)
  have HE : Hid (farD a b = a - b) := Lib.hid (if_neg h1)
  go_enter Tryz.func132, Tryz.ntmps132
  go_wp2
  go_ret
  exact ⟨ret_int HE.out.symm, Below.refl _ _⟩
theorem away_any (a b : Int) (w : World) (ha : -9223372036854775808 ≤ a ∧ a ≤ 9223372036854775807) (hb : -9223372036854775808 ≤ b ∧ b ≤ 9223372036854775807) : Calls Tryz.prog 126 #[.int .i64 a, .int .i64 b] w fun e w' => e = .returned (.int .u64 (farD a b)) ∧ Grows w w' := by
 by_cases h1 : a < b
 ·have hu := u64_sub b a (by omega)
  have HE : Hid (farD a b = b - a) := Lib.hid (if_pos h1)
  go_enter Tryz.func126, Tryz.ntmps126
  go_wp2
  go_ret
  exact ⟨ret_int HE.out.symm, Below.refl _ _⟩
 ·have hu := u64_sub a b (by omega)
  have HE : Hid (farD a b = a - b) := Lib.hid (if_neg h1)
  go_enter Tryz.func126, Tryz.ntmps126
  go_wp2
  go_ret
  exact ⟨ret_int HE.out.symm, Below.refl _ _⟩
set_option maxHeartbeats 8000000 in
theorem near_any (A : Option Addr) (c : Nat) (l : List Sp) (n : Int) (w : World) (h : Sps w A l) (hl : l.length ≤ 9223372036854775807) (hn : -9223372036854775808 ≤ n ∧ n ≤ 9223372036854775807) :
 Calls Tryz.prog 101 #[.agg #[.slice A l.length c], .int .i64 n] w fun e w' => e = .returned (.tuple #[.int .i64 (nearF l n).1, .bool (nearF l n).2]) ∧ Grows w w' := by
 have k2 := Blk.new w 58 #[.slice A l.length c]
 have hB := (Below.refl w.heap.size w).alloc (Nat.le_refl _) (Obj.cells #[.slice A l.length c] 58)
 go_enter Tryz.func101, Tryz.ntmps101
 go_upto_region 1 with fail
 have h1 := h.grows hB
 generalize World.alloc w _ = w1 at *
 have x2 := k2.cell 0
 go_wp2_with fail
 refine (spans_any A c l _ h1 hl).mono ?_
 rintro e w2 ⟨⟨A2, c2, rfl, h2, -⟩, hq⟩
 replace hB := below_grows hB (Nat.le_refl _) hq
 have hl2 := spansF_len l
 have hfo := spansF_fine l
 have HF : Hid (nearF l n = (spansF l).foldl (nearS n) (0, false)) := Lib.hid rfl
 generalize spansF l = o at *
 clear x2 hq
 go_wp2_with fail
 go_loopw [6, 7, 14] (fun b q i wr => ∃ k : Nat, k ≤ o.length ∧ i = .int .i64 k ∧ Grows w2 wr ∧ b = .int .i64 ((o.take k).foldl (nearS n) (0, false)).1 ∧ q = .bool ((o.take k).foldl (nearS n) (0, false)).2) (fun _ _ i _ => o.length - (intOf i).toNat)
 case atStart => exact ⟨0, by omega, rfl, Below.refl _ _, rfl, rfl⟩
 case round =>
  obtain ⟨k, hk, rfl, hg, rfl, rfl⟩ := hrel
  by_cases hlt : k < o.length
  ·obtain ⟨ad, x, rfl, had, hx, c0, c1⟩ := (h2.grows hg).elem hlt
   have HX : Hid ((o.take (k + 1)).foldl (nearS n) (0, false) = nearS n ((o.take k).foldl (nearS n) (0, false)) x) := Lib.hid (by rw [take_snoc hx, List.foldl_append]; rfl)
   have hxf := (fineS_iff x).1 (hfo x (List.mem_of_getElem? hx))
   have hbd := near_bd n (o.take k) (fun z hz => hfo z (List.mem_of_mem_take hz))
   generalize (o.take k).foldl (nearS n) (0, false) = s at *
   obtain ⟨best, ok⟩ := s
   simp only [] at hbd ⊢
   clear hx
   have hq := (Below.refl wr.heap.size wr).alloc (Nat.le_refl _) (Obj.cells #[.int .i64 x.1, .int .i64 x.2] 86)
   replace hg := below_grows hg (Nat.le_refl _) hq
   clear hq
   go_upto_region 6 with fail
   clear c0 c1
   have hK : 0 ≤ max x.1 (min x.2 n) ∧ max x.1 (min x.2 n) ≤ 2147483647 := by omega
   have HN : Hid (∀ q, nearS n (best, q) x = if q = false ∨ farD (max x.1 (min x.2 n)) n < farD best n then (max x.1 (min x.2 n), true) else (best, q)) := Lib.hid fun q => rfl
   generalize World.alloc wr _ = w4 at *
   generalize wr.heap.size = G9 at *
   generalize max x.1 (min x.2 n) = K at *
   cases ok
   ·have HE : Hid ((o.take (k + 1)).foldl (nearS n) (0, false) = (K, true)) := Lib.hid (by rw [HX.out, HN.out, if_pos (.inl rfl)])
    clear HX HN
    go_wp2
    go_roundw
    case rel => exact ⟨k + 1, by omega, by go_num, hg, by rw [HE.out], by rw [HE.out]⟩
    case measure => simp [intOf]; omega
   ·go_wp2_with fail
    refine (dist_any K n _ (by omega) hn).mono ?_
    rintro e w5 ⟨rfl, hq⟩
    replace hg := below_grows hg (Nat.le_refl _) hq
    go_wp2_with fail
    refine (dist_any best n _ (by omega) hn).mono ?_
    rintro e w6 ⟨rfl, hq2⟩
    replace hg := below_grows hg (Nat.le_refl _) hq2
    clear hq hq2
    by_cases hd : farD K n < farD best n
    ·have HE : Hid ((o.take (k + 1)).foldl (nearS n) (0, false) = (K, true)) := Lib.hid (by rw [HX.out, HN.out, if_pos (.inr hd)])
     clear HX HN
     go_wp2
     go_roundw
     case rel => exact ⟨k + 1, by omega, by go_num, hg, by rw [HE.out], by rw [HE.out]⟩
     case measure => simp [intOf]; omega
    ·have HE : Hid ((o.take (k + 1)).foldl (nearS n) (0, false) = (best, true)) := Lib.hid (by rw [HX.out, HN.out, if_neg (by simp; omega)])
     clear HX HN
     go_wp2
     go_roundw
     case rel => exact ⟨k + 1, by omega, by go_num, hg, by rw [HE.out], by rw [HE.out]⟩
     case measure => simp [intOf]; omega
  ·have e : o.take k = o := List.take_of_length_le (by omega)
   rw [e, ← HF.out]
   clear e
   go_wp2
   exact bodyPost_ret (v := .tuple #[.int .i64 (nearF l n).1, .bool (nearF l n).2]) (by simp [results, Tryz.results101, go_sem]) rfl ⟨rfl, below_grows hB (Nat.le_refl _) hg⟩
set_option maxHeartbeats 8000000 in
theorem rnear_any (A : Option Addr) (c : Nat) (l : List Sp) (n : Int) (w : World) (h : Sps w A l) (hl : l.length ≤ 9223372036854775807) (hn : -9223372036854775808 ≤ n ∧ n ≤ 9223372036854775807) :
 Calls Tryz.prog 97 #[.agg #[.slice A l.length c], .int .i64 n] w fun e w' => e = .returned (.tuple #[.int .i64 (nearF l n).1, .bool (nearF l n).2]) ∧ Grows w w' := by
 have k2 := Blk.new w 58 #[.slice A l.length c]
 have hB := (Below.refl w.heap.size w).alloc (Nat.le_refl _) (Obj.cells #[.slice A l.length c] 58)
 go_enter Tryz.func97, Tryz.ntmps97
 go_upto_region 1 with fail
 have h1 := h.grows hB
 generalize World.alloc w _ = w1 at *
 have x2 := k2.cell 0
 go_wp2_with fail
 refine (rspans_any A c l _ h1 hl).mono ?_
 rintro e w2 ⟨⟨A2, c2, rfl, h2, -⟩, hq⟩
 replace hB := below_grows hB (Nat.le_refl _) hq
 have hl2 := spansF_len l
 have hfo := spansF_fine l
 have HF : Hid (nearF l n = (spansF l).foldl (nearS n) (0, false)) := Lib.hid rfl
 generalize spansF l = o at *
 clear x2 hq
 go_wp2_with fail
 go_loopw [6, 7, 14] (fun b q i wr => ∃ k : Nat, k ≤ o.length ∧ i = .int .i64 k ∧ Grows w2 wr ∧ b = .int .i64 ((o.take k).foldl (nearS n) (0, false)).1 ∧ q = .bool ((o.take k).foldl (nearS n) (0, false)).2) (fun _ _ i _ => o.length - (intOf i).toNat)
 case atStart => exact ⟨0, by omega, rfl, Below.refl _ _, rfl, rfl⟩
 case round =>
  obtain ⟨k, hk, rfl, hg, rfl, rfl⟩ := hrel
  by_cases hlt : k < o.length
  ·obtain ⟨ad, x, rfl, had, hx, c0, c1⟩ := (h2.grows hg).elem hlt
   have HX : Hid ((o.take (k + 1)).foldl (nearS n) (0, false) = nearS n ((o.take k).foldl (nearS n) (0, false)) x) := Lib.hid (by rw [take_snoc hx, List.foldl_append]; rfl)
   have hxf := (fineS_iff x).1 (hfo x (List.mem_of_getElem? hx))
   have hbd := near_bd n (o.take k) (fun z hz => hfo z (List.mem_of_mem_take hz))
   generalize (o.take k).foldl (nearS n) (0, false) = s at *
   obtain ⟨best, ok⟩ := s
   simp only [] at hbd ⊢
   clear hx
   have hq := (Below.refl wr.heap.size wr).alloc (Nat.le_refl _) (Obj.cells #[.int .i64 x.1, .int .i64 x.2] 86)
   replace hg := below_grows hg (Nat.le_refl _) hq
   clear hq
   go_upto_region 6 with fail
   clear c0 c1
   have hK : 0 ≤ max x.1 (min x.2 n) ∧ max x.1 (min x.2 n) ≤ 2147483647 := by omega
   have HN : Hid (∀ q, nearS n (best, q) x = if q = false ∨ farD (max x.1 (min x.2 n)) n < farD best n then (max x.1 (min x.2 n), true) else (best, q)) := Lib.hid fun q => rfl
   generalize World.alloc wr _ = w4 at *
   generalize wr.heap.size = G9 at *
   generalize max x.1 (min x.2 n) = K at *
   cases ok
   ·have HE : Hid ((o.take (k + 1)).foldl (nearS n) (0, false) = (K, true)) := Lib.hid (by rw [HX.out, HN.out, if_pos (.inl rfl)])
    clear HX HN
    go_wp2
    go_roundw
    case rel => exact ⟨k + 1, by omega, by go_num, hg, by rw [HE.out], by rw [HE.out]⟩
    case measure => simp [intOf]; omega
   ·go_wp2_with fail
    refine (away_any K n _ (by omega) hn).mono ?_
    rintro e w5 ⟨rfl, hq⟩
    replace hg := below_grows hg (Nat.le_refl _) hq
    go_wp2_with fail
    refine (away_any best n _ (by omega) hn).mono ?_
    rintro e w6 ⟨rfl, hq2⟩
    replace hg := below_grows hg (Nat.le_refl _) hq2
    clear hq hq2
    by_cases hd : farD K n < farD best n
    ·have HE : Hid ((o.take (k + 1)).foldl (nearS n) (0, false) = (K, true)) := Lib.hid (by rw [HX.out, HN.out, if_pos (.inr hd)])
     clear HX HN
     go_wp2
     go_roundw
     case rel => exact ⟨k + 1, by omega, by go_num, hg, by rw [HE.out], by rw [HE.out]⟩
     case measure => simp [intOf]; omega
    ·have HE : Hid ((o.take (k + 1)).foldl (nearS n) (0, false) = (best, true)) := Lib.hid (by rw [HX.out, HN.out, if_neg (by simp; omega)])
     clear HX HN
     go_wp2
     go_roundw
     case rel => exact ⟨k + 1, by omega, by go_num, hg, by rw [HE.out], by rw [HE.out]⟩
     case measure => simp [intOf]; omega
  ·have e : o.take k = o := List.take_of_length_le (by omega)
   rw [e, ← HF.out]
   clear e
   go_wp2
   exact bodyPost_ret (v := .tuple #[.int .i64 (nearF l n).1, .bool (nearF l n).2]) (by simp [results, Tryz.results97, go_sem]) rfl ⟨rfl, below_grows hB (Nat.le_refl _) hg⟩
end Go.Proofs.YtjbkjgmcfommgaaGreat

namespace Go.Proofs.YtjbkjgmcfommgaaGreat
open Go.RowKit
/-- The op gives the value v and leads into a world with T. -/
def stepR (P : Program) (T : World → Prop) : Result Next → Value → Prop
 | .ok (.value u) w', v => u = v ∧ T w'
 | .ok .skip w', v => v = undef ∧ T w'
 | .ok (.enter f args) w', v => Calls P f args w' fun e w'' => e = .returned v ∧ T w''
 | _, _ => False
def StepAt (P : Program) (ops : Array Oper) (S T : World → Prop) (o : Oper) (v : Value) (a : Act) : Prop :=
 (Region.wanted o (yielded ops a.tmps) = true ∧ ∀ w, S w → stepR P T ((execOp a.eval o).run P w) v) ∨ (Region.wanted o (yielded ops a.tmps) = false ∧ v = undef ∧ ∀ w, S w → T w)
def stIx : List Nat → Nat → Option Nat
 | [], _ => none
 | x :: r, k => if x = k then some 0 else (stIx r k).map (· + 1)
theorem stIx_some : ∀ {r : List Nat} {k j : Nat}, stIx r k = some j → r[j]? = some k
 | [], _, _, h => by cases h
 | x :: r, k, j, h => by
  unfold stIx at h
  split at h
  ·injection h with h; subst h; simp; assumption
  ·obtain ⟨i, hi, rfl⟩ := Option.map_eq_some_iff.1 h
   simpa using stIx_some hi
theorem stIx_none : ∀ {r : List Nat} {k : Nat}, stIx r k = none → k ∉ r
 | [], _, _ => by simp
 | x :: r, k, h => by
  unfold stIx at h
  split at h
  ·cases h
  ·rename_i hne
   have := stIx_none (r := r) (k := k) (by simpa using h)
   simp only [List.mem_cons, not_or]
   exact ⟨fun e => hne e.symm, this⟩
section
variable {P : Program} {ops : Array Oper} {S : Nat → World → Prop} {md : Region.Mode}
def stHi (md : Region.Mode) (ops : Array Oper) : List Nat → Nat → Nat
 | [], _ => 0
 | s :: r, i => if Region.waitsFor md ops s i then 0 else stHi md ops r i + 1
def StAt (P : Program) (md : Region.Mode) (ops : Array Oper) (S : Nat → World → Prop) (sts : List Nat) (k : Nat) (o : Oper) (v : Value) (a : Act) : Prop :=
 match stIx sts k with
 | some j => StepAt P ops (S j) (S (j + 1)) o v a
 | none => CalmAt P ops (fun w => ∃ p, p ≤ stHi md ops sts k ∧ S p w) o v a
def wpSt (P : Program) (md : Region.Mode) (ops : Array Oper) (S : Nat → World → Prop) (sts : List Nat) (L : Act → Prop) : List Oper → Nat → Act → Prop
 | [], _, a => L a
 | o :: l, k, a => ∃ v, StAt P md ops S sts k o v a ∧ wpSt P md ops S sts L l (k + 1) (a.put o.dst v)
def GoodS (P : Program) (md : Region.Mode) (ops : Array Oper) (S : Nat → World → Prop) (sts : List Nat) (val : Nat → Value) : List Oper → Nat → Act → Prop
 | [], _, _ => True
 | o :: l, k, a => StAt P md ops S sts k o (val k) a ∧ GoodS P md ops S sts val l (k + 1) (a.put o.dst (val k))
theorem GoodS_congr {sts : List Nat} {val val' : Nat → Value} : ∀ (l : List Oper) (k : Nat) (a : Act), (∀ j, k ≤ j → val j = val' j) → GoodS P md ops S sts val l k a → GoodS P md ops S sts val' l k a
 | [], _, _, _, _ => trivial
 | o :: l, k, a, h, hg => by
  simp only [GoodS, h k (Nat.le_refl _)] at hg ⊢
  exact ⟨hg.1, GoodS_congr l (k + 1) _ (fun j hj => h j (by omega)) hg.2⟩
theorem good_of_wpSt {sts : List Nat} {L : Act → Prop} : ∀ (l : List Oper) (k : Nat) (a : Act), wpSt P md ops S sts L l k a → ∃ val, GoodS P md ops S sts val l k a ∧ L (fin [] val l k a)
 | [], _, a, h => ⟨fun _ => undef, trivial, h⟩
 | o :: l, k, a, h => by
  obtain ⟨v, hc, h2⟩ := h
  obtain ⟨val, hg, hL⟩ := good_of_wpSt l (k + 1) (a.put o.dst v) h2
  have hcg : ∀ j, k + 1 ≤ j → val j = (fun i => if i = k then v else val i) j := fun j hj => by simp only []; rw [if_neg (by omega)]
  refine ⟨fun i => if i = k then v else val i, ?_, ?_⟩
  ·simp only [GoodS, if_true]
   exact ⟨hc, GoodS_congr l (k + 1) _ hcg hg⟩
  ·simp only [fin, stepAct, Floats.at, List.lookup_nil, if_true]
   rw [← fin_congr l (k + 1) _ hcg]
   exact hL
theorem goodS_at {sts : List Nat} {val : Nat → Value} : ∀ (l : List Oper) (k : Nat) (a : Act) (j : Nat) (o : Oper), GoodS P md ops S sts val l k a → l[j]? = some o → StAt P md ops S sts (k + j) o (val (k + j)) (fin [] val (l.take j) k a)
 | [], _, _, _, _, _, hj => by simp at hj
 | _ :: l, k, _, 0, o, hg, hj => by
  simp only [List.getElem?_cons_zero, Option.some.injEq] at hj
  subst hj
  simpa [GoodS, fin] using hg.1
 | o' :: l, k, a, j + 1, o, hg, hj => by
  have := goodS_at l (k + 1) _ j o hg.2 (by simpa using hj)
  rw [show k + 1 + j = k + (j + 1) by omega] at this
  simpa [fin, stepAct, Floats.at] using this
theorem stHi_le : ∀ {sts : List Nat} {i p : Nat}, p ≤ sts.length → (∀ j s, sts[j]? = some s → j < p → Region.waitsFor md ops s i = false) → p ≤ stHi md ops sts i
 | [], _, _, h, _ => by simpa [stHi] using h
 | s :: r, i, 0, _, _ => Nat.zero_le _
 | s :: r, i, p + 1, h, hh => by
  have h0 := hh 0 s rfl (by omega)
  unfold stHi
  rw [h0]
  simp only [Bool.false_eq_true, if_false]
  have := stHi_le (sts := r) (i := i) (p := p) (by simpa using h) fun j s' hj hlt => hh (j + 1) s' (by simpa using hj) (by omega)
  omega
theorem StAt.agree {sts : List Nat} {k : Nat} {o : Oper} (hs : ∀ cs b, o.op ≠ .select cs b) {v : Value} {a a' : Act} (h : ∀ t ∈ o.looksAt ops, a.tmps[t]? = a'.tmps[t]?) (hc : StAt P md ops S sts k o v a) : StAt P md ops S sts k o v a' := by
 unfold StAt StepAt CalmAt at *
 rw [← run_agree (ops := ops) hs h, ← wanted_agree h]
 exact hc
def stepB (md : Region.Mode) (ops : Array Oper) (n N : Nat) (sts : List Nat) : Bool :=
 mixB md ops n N [] && decide sts.Nodup && sts.all (fun s => decide (s < n)) && (List.range (sts.length - 1)).all (fun j => Region.waitsFor md ops (sts.getD (j + 1) 0) (sts.getD j 0))
structure InvS (S : Nat → World → Prop) (ops : Array Oper) (n : Nat) (sts : List Nat) (val : Nat → Value) (a0 : Act) (listed : Array Bool) (a : Act) (w : World) : Prop where
 s : ∃ p, p ≤ sts.length ∧ S p w ∧ ∀ j i, sts[j]? = some i → (listed.getD i false = true ↔ j < p)
 defers : a.defers = a0.defers
 size : a.tmps.size = a0.tmps.size
 calm : ∀ k o t, k < n → ops[k]? = some o → o.dst = some t → listed.getD k false = true → a.tmps[t]? = some (val k)
 other : ∀ t, (∀ k o, k < n → ops[k]? = some o → listed.getD k false = true → o.dst ≠ some t) → a.tmps[t]? = a0.tmps[t]?
theorem stepAt_wpOp {Q : Exit → Act → World → Prop} {S T : World → Prop} {i : Nat} {o : Oper} {v : Value} {a : Act} {w : World} {K : Act → World → Prop} (hi : ops[i]? = some o) (hc : StepAt P ops S T o v a) (hw : S w)
 (hK : ∀ w', T w' → K (a.put o.dst v) w') : wpOp P ops Q i K a w := by
 unfold wpOp
 simp only [hi]
 rcases hc with ⟨hwt, hr⟩ | ⟨hwt, rfl, ht⟩
 ·simp only [hwt, if_true]
  refine .inl ?_
  have := hr w hw
  unfold Oper.wp
  generalize (execOp a.eval o).run P w = r at *
  cases r with
  | ok n w' =>
   cases n <;> simp only [stepR] at this <;> simp only [Oper.upon]
   case value u => obtain ⟨rfl, hg⟩ := this; exact hK _ hg
   case skip => obtain ⟨rfl, hg⟩ := this; exact hK _ hg
   case enter f args => exact this.mono fun e w'' ⟨he, hg⟩ => by subst he; exact hK _ hg
  | halt x w' => simp only [stepR] at this
 ·simp only [hwt, Bool.false_eq_true, if_false]
  exact hK _ (ht w hw)
section
variable {n N : Nat} {sts : List Nat} {val : Nat → Value} {a0 : Act}
theorem op_stepS (ok : MixOk md ops n N []) (hN : a0.tmps.size = N) (good : GoodS P md ops S sts val (ops.toList.take n) 0 a0)
 {listed : Array Bool} {a : Act} {w : World} (inv : InvS S ops n sts val a0 listed a w) {i : Nat} {o : Oper} (hi : i < n) (ho : ops[i]? = some o) (hr : i ∈ Region.ready md ops listed) : StAt P md ops S sts i o (val i) a := by
 have hg := goodS_at (ops.toList.take n) 0 a0 i o good (take_get hi ho)
 rw [Nat.zero_add] at hg
 rw [List.take_take, Nat.min_eq_left (by omega)] at hg
 have hs : ∀ cs b, o.op ≠ .select cs b := fun cs b => Region.noSelect_spec ok.sel i o cs b ho
 have agree : ∀ t ∈ o.looksAt ops, (fin [] val (ops.toList.take i) 0 a0).tmps[t]? = a.tmps[t]? := by
  intro t ht
  by_cases hex : ∃ k o', k < n ∧ ops[k]? = some o' ∧ o'.dst = some t
  ·obtain ⟨k, o', hk, ho', hd⟩ := hex
   obtain ⟨h1, _, h3⟩ := ok.look i o k o' t hi hk ho ho' hd ht
   have hlisted : listed.getD k false = true := by
    obtain ⟨oj, hoj, e, he, hb, hon⟩ := Region.waitsFor_spec h3
    obtain ⟨_, oi, hoi, hall⟩ := mem_ready.1 hr
    have : oj = oi := Option.some.inj (hoj.symm.trans hoi)
    subst this
    have := hall e he hb
    rwa [hon] at this
   have e1 := inv.calm k o' t hk ho' hd hlisted
   have hlt : t < a0.tmps.size := by rw [hN]; exact ok.bd k o' t hk ho' hd
   have e2 := fin_at (fl := []) (val := val) (ops.toList.take i) 0 a0 k o' (take_get h1 ho') hd rfl hlt (by
    intro j oj hj hne hdj
    obtain ⟨hji, hoj⟩ := of_take_get hj
    exact ok.ne j oj k o' t (by omega) hk hoj ho' (Ne.symm hne) hdj hd)
   rw [Nat.zero_add] at e2
   rw [e1, e2]
  ·have e1 := inv.other t fun k o' hk ho' _ hd => hex ⟨k, o', hk, ho', hd⟩
   have e2 := fin_other (fl := []) (val := val) (t := t) (ops.toList.take i) 0 a0 fun j oj hj _ hd => by
    obtain ⟨hji, hoj⟩ := of_take_get hj
    exact hex ⟨j, oj, by omega, hoj, hd⟩
   rw [e1, e2]
 exact hg.agree hs agree
theorem inv_stepS (ok : MixOk md ops n N []) (hN : a0.tmps.size = N) {listed : Array Bool} {a : Act} {w w' : World} (inv : InvS S ops n sts val a0 listed a w) {i : Nat} {o : Oper} (hi : i < n) (ho : ops[i]? = some o) (hl : i < listed.size)
 (hs : ∃ p, p ≤ sts.length ∧ S p w' ∧ ∀ j i', sts[j]? = some i' → ((listed.setIfInBounds i true).getD i' false = true ↔ j < p)) : InvS S ops n sts val a0 (listed.setIfInBounds i true) (a.put o.dst (val i)) w' := by
 have key : ∀ k o' t, k < n → ops[k]? = some o' → o'.dst = some t → k ≠ i → (a.put o.dst (val i)).tmps[t]? = a.tmps[t]? := by
  intro k o' t hk ho' hd hne
  exact put_get_ne fun e => ok.ne i o k o' t hi hk ho ho' hne e hd
 refine ⟨hs, (put_defers' _ _ _).trans inv.defers, (put_size _ _ _).trans inv.size, ?_, ?_⟩
 ·intro k o' t hk ho' hd hlk
  by_cases hki : k = i
  ·subst hki
   have : o' = o := Option.some.inj (ho'.symm.trans ho)
   subst this
   rw [hd, put_get_eq (by rw [inv.size, hN]; exact ok.bd k o' t hk ho' hd)]
  ·rw [key k o' t hk ho' hd hki]
   exact inv.calm k o' t hk ho' hd (by rwa [getD_set_ne false (Ne.symm hki)] at hlk)
 ·intro t ht
  have h1 : o.dst ≠ some t := ht i o hi ho (by simp [hl])
  rw [put_get_ne h1]
  exact inv.other t fun k o' hk ho' hlk => ht k o' hk ho' (getD_set_true hlk)
structure StepOk (md : Region.Mode) (ops : Array Oper) (n : Nat) (sts : List Nat) : Prop where
 nd : sts.Nodup
 lt : ∀ s ∈ sts, s < n
 chain : ∀ j i k, sts[j]? = some i → sts[j + 1]? = some k → Region.waitsFor md ops k i = true
theorem stepOk_of (h : stepB md ops n N sts = true) : MixOk md ops n N [] ∧ StepOk md ops n sts := by
 simp only [stepB, Bool.and_eq_true, decide_eq_true_eq, List.all_eq_true, List.mem_range] at h
 obtain ⟨⟨⟨h1, h2⟩, h3⟩, h4⟩ := h
 refine ⟨mixOk_of h1, h2, h3, fun j i k hi hk => ?_⟩
 have hj : j + 1 < sts.length := (List.getElem?_eq_some_iff.1 hk).1
 have := h4 j (by omega)
 simpa [List.getD_eq_getElem?_getD, hi, hk] using this
theorem head_runS {Q : Exit → Act → World → Prop} (ok : MixOk md ops n N []) (sk : StepOk md ops n sts) (hN : a0.tmps.size = N) (hS : ∀ p w w', S p w → Grows w w' → S p w')
 (good : GoodS P md ops S sts val (ops.toList.take n) 0 a0) (g : Nat)
 (H : ∀ listed a w, HeadInv md ops n listed → (∀ i, i < n → listed.getD i false = true) → InvS S ops n sts val a0 listed a w → wpAny P md ops Q g listed a w) :
 ∀ (f : Nat) (listed : Array Bool) (a : Act) (w : World), ((List.range n).countP fun i => !listed.getD i false) ≤ f → HeadInv md ops n listed → InvS S ops n sts val a0 listed a w →
  wpAny P md ops Q (f + g) listed a w := by
 intro f
 induction f with
 | zero =>
  intro listed a w hc hinv inv
  rw [Nat.zero_add]
  refine H listed a w hinv (fun i hi => ?_) inv
  have h0 : ((List.range n).countP fun i => !listed.getD i false) = 0 := by omega
  rw [List.countP_eq_zero] at h0
  have := h0 i (List.mem_range.2 hi)
  simpa using this
 | succ f ih =>
  intro listed a w hc hinv inv
  by_cases hall : ∀ i, i < n → listed.getD i false = true
  ·exact wpAny_fuel g listed a w (H listed a w hinv hall inv) (f + 1)
  ·have hex : ∃ i, i < n ∧ listed.getD i false = false := by
    apply Classical.byContradiction
    intro hno
    exact hall fun i hi => by
     cases h : listed.getD i false
     ·exact absurd ⟨i, hi, h⟩ hno
     ·rfl
   obtain ⟨i0, hi0, hl0⟩ := hex
   have hsz : ∀ i, i < n → i < listed.size := fun i hi => by rw [hinv.size]; have := ok.le; omega
   have hready : Region.ready md ops listed ≠ [] := by
    have : ∀ d i, i ≤ d → i < n → listed.getD i false = false → ∃ j, j ∈ Region.ready md ops listed := by
     intro d
     induction d with
     | zero =>
      intro i hid hi hl
      obtain ⟨o, ho⟩ : ∃ o, ops[i]? = some o := ⟨ops[i]'(by have := ok.le; omega), by simp [show i < ops.size by have := ok.le; omega]⟩
      refine ⟨i, mem_ready.2 ⟨getD_in (hsz i hi) hl, o, ho, fun e he hb => ?_⟩⟩
      have := ok.back i o hi ho e he hb
      omega
     | succ d ihd =>
      intro i hid hi hl
      obtain ⟨o, ho⟩ : ∃ o, ops[i]? = some o := ⟨ops[i]'(by have := ok.le; omega), by simp [show i < ops.size by have := ok.le; omega]⟩
      by_cases hw : ∀ e ∈ o.after, Region.binds md e = true → listed.getD e.on false = true
      ·exact ⟨i, mem_ready.2 ⟨getD_in (hsz i hi) hl, o, ho, hw⟩⟩
      ·have : ∃ e ∈ o.after, Region.binds md e = true ∧ listed.getD e.on false = false := by
        apply Classical.byContradiction
        intro hno
        exact hw fun e he hb => by
         cases h : listed.getD e.on false
         ·exact absurd ⟨e, he, hb, h⟩ hno
         ·rfl
       obtain ⟨e, he, hb, hle⟩ := this
       have hlt := ok.back i o hi ho e he hb
       exact ihd e.on (by omega) (by omega) hle
    obtain ⟨j, hj⟩ := this i0 i0 (Nat.le_refl _) hi0 hl0
    intro h0
    rw [h0] at hj
    cases hj
   rw [show f + 1 + g = (f + g) + 1 by omega]
   refine ⟨fun h0 => absurd h0 hready, fun i hir => ?_⟩
   have hin : i < n := by
    rcases Nat.lt_or_ge i n with h | h
    ·exact h
    ·exfalso
     obtain ⟨_, oi, hoi, _⟩ := mem_ready.1 hir
     have hlt : i < ops.size := (Array.getElem?_eq_some_iff.1 hoi).1
     rcases ok.tail with ht | ⟨ht, hs, hch⟩
     ·omega
     ·exact tail_waits hs hch ht hinv _ i0 rfl hi0 (getD_in (hsz i0 hi0) hl0) i h hir
   obtain ⟨hun, o, ho, hwaits⟩ := mem_ready.1 hir
   have hst := op_stepS ok hN good inv hin ho hir
   have hunf : listed.getD i false = false := getD_both hun
   have hcnt : ((List.range n).countP fun j => !(listed.setIfInBounds i true).getD j false) ≤ f := by
    have := countP_lt (p := fun j => !listed.getD j false) (q := fun j => !(listed.setIfInBounds i true).getD j false) (List.range n) (List.mem_range.2 hin)
     (fun j _ hj => by
       simp only [Bool.not_eq_true'] at hj ⊢
       cases h : listed.getD j false
       ·rfl
       ·rw [getD_set_true h] at hj; cases hj) (by simp only [hunf, Bool.not_false]) (by simp [hsz i hin])
    omega
   have hinv' := hinv.set hir hin
   obtain ⟨p, hp, hsp, hpl⟩ := inv.s
   cases hf : stIx sts i with
   | some j =>
    have hj := stIx_some hf
    simp only [StAt, hf] at hst
    have hpj : p = j := by
     have h1 : ¬ j < p := fun h => by
      have := (hpl j i hj).2 h
      rw [hunf] at this
      cases this
     have h2 : j ≤ p := by
      rcases Nat.eq_zero_or_pos j with h0 | h0
      ·omega
      ·have hjl := (List.getElem?_eq_some_iff.1 hj).1
       have hk : sts[j - 1]? = some (sts[j - 1]'(by omega)) := List.getElem?_eq_getElem (by omega)
       have hwf := sk.chain (j - 1) _ i hk (by rw [Nat.sub_add_cancel h0]; exact hj)
       obtain ⟨oj, hoj, e, he, hb, hon⟩ := Region.waitsFor_spec hwf
       have : oj = o := Option.some.inj (hoj.symm.trans ho)
       subst this
       have hh := hwaits e he hb
       rw [hon] at hh
       have := (hpl (j - 1) _ hk).1 hh
       omega
     omega
    subst hpj
    refine stepAt_wpOp ho hst hsp fun w' hw' => ih _ _ _ hcnt hinv' (inv_stepS ok hN inv hin ho (hsz i hin) ⟨p + 1, (List.getElem?_eq_some_iff.1 hj).1, hw', fun k i' hk => ?_⟩)
    by_cases hkp : k = p
    ·subst hkp
     have : i' = i := Option.some.inj (hk.symm.trans hj)
     subst this
     simp [hsz i' hin]
    ·have hne : i ≠ i' := by
      rintro rfl
      have hk1 := (List.getElem?_eq_some_iff.1 hk).1
      exact hkp ((List.getElem?_inj hk1 sk.nd).1 (hk.trans hj.symm))
     rw [getD_set_ne false hne, hpl k i' hk]
     omega
   | none =>
    have hni := stIx_none hf
    simp only [StAt, hf] at hst
    have hhi : p ≤ stHi md ops sts i := stHi_le hp fun j s hj hlt => by
     cases hwf : Region.waitsFor md ops s i
     ·rfl
     ·exfalso
      obtain ⟨oj, hoj, e, he, hb, hon⟩ := Region.waitsFor_spec hwf
      have h1 := (hpl j s hj).2 hlt
      have h2 := hinv.closed s oj hoj h1 e he hb
      rw [hon, hunf] at h2
      cases h2
    refine calm_wpOp ho hst ⟨p, hhi, hsp⟩ fun w' hg => ih _ _ _ hcnt hinv' (inv_stepS ok hN inv hin ho (hsz i hin) ⟨p, hp, hS p _ _ hsp hg, fun k i' hk => ?_⟩)
    have hne : i ≠ i' := by
     rintro rfl
     exact hni (List.mem_of_getElem? hk)
    rw [getD_set_ne false hne, hpl k i' hk]
end
theorem wp_region_step {id : Nat} {Q : Exit → Act → World → Prop} {a : Act} {w : World} {l : List Oper} (S : Nat → World → Prop) (sts : List Nat) (n N : Nat) (hm : P.follows .mixedOrders = true) (hB : stepB .any l.toArray n N sts = true)
 (hN : a.tmps.size = N) (hS : ∀ p w w', S p w → Grows w w' → S p w') (h0 : S 0 w.drew)
 (h : wpSt P .any l.toArray S sts (fun a' => ∀ w', S sts.length w' → wpList P l.toArray Q (l.drop n) a' w') (l.take n) 0 a) : (Code.region id l.toArray true).wp P Q a w := by
 obtain ⟨ok, sk⟩ := stepOk_of hB
 have hle : n ≤ l.length := by simpa using ok.le
 obtain ⟨val, good, hL⟩ := good_of_wpSt (l.take n) 0 a h
 refine wp_region_any hm ?_
 have inv0 : HeadInv .any l.toArray n (Array.replicate l.toArray.size false) :=
  ⟨by simp, fun j oj _ hl => (by rw [getD_replicate_false] at hl; cases hl), fun t _ ht => getD_in (by simpa using ht) (getD_replicate_false _ _)⟩
 have key := head_runS (md := .any) (Q := Q) (ops := l.toArray) (S := S) (sts := sts) (val := val) (a0 := a) ok sk hN hS (by simpa using good) (l.length - n) (by
  intro listed b w' hinv hall inv
  refine (show l.length - n = (l.drop n).length by simp) ▸ wpAny_of_seq (l.drop n) n listed b w' (fun j => by simp [List.getElem?_drop]) ?_ ?_
  ·have hls : listed = (Array.replicate n true) ++ (Array.replicate (l.length - n) false) := by
    refine Array.ext (by simp [hinv.size]; omega) fun i h1 h2 => ?_
    have hsz : i < l.length := by have := hinv.size; simp at this; omega
    by_cases hin : i < n
    ·have := hall i hin
     rw [Array.getElem_append_left (by simpa using hin)]
     simpa [h1] using this
    ·have := hinv.tail i (by omega) (by simpa using hsz)
     rw [Array.getElem_append_right (by simp; omega)]
     simpa [h1] using this
   have := ok.seq
   rw [hls]
   simpa using this
  ·obtain ⟨p, hp, hsp, hpl⟩ := inv.s
   have hpe : p = sts.length := by
    rcases Nat.lt_or_ge p sts.length with hlt | hge
    ·have hk : sts[p]? = some (sts[p]'hlt) := List.getElem?_eq_getElem hlt
     have := (hpl p _ hk).1 (hall _ (sk.lt _ (List.getElem_mem hlt)))
     omega
    ·omega
   subst hpe
   have hb : b = fin [] val (l.take n) 0 a := by
    have e1 : b.defers = (fin [] val (l.take n) 0 a).defers := inv.defers.trans (fin_defers _ _ _).symm
    have e2 : b.tmps = (fin [] val (l.take n) 0 a).tmps := by
     refine Array.ext_getElem? fun t => ?_
     by_cases hex : ∃ k o', k < n ∧ l.toArray[k]? = some o' ∧ o'.dst = some t
     ·obtain ⟨k, o', hk, ho', hd⟩ := hex
      have e1 := inv.calm k o' t hk ho' hd (hall k hk)
      have e2 := fin_at (fl := []) (val := val) (l.take n) 0 a k o' (by have := take_get (ops := l.toArray) hk ho'; simpa using this) hd rfl
       (by rw [hN]; exact ok.bd k o' t hk ho' hd) (by
         intro j oj hj hne hdj
         obtain ⟨hji, hoj⟩ := of_take_get (ops := l.toArray) (by simpa using hj)
         exact ok.ne j oj k o' t hji hk hoj ho' (Ne.symm hne) hdj hd)
      rw [Nat.zero_add] at e2
      rw [e1, e2]
     ·have e1 := inv.other t fun k o' hk ho' _ hd => hex ⟨k, o', hk, ho', hd⟩
      have e2 := fin_other (fl := []) (val := val) (t := t) (l.take n) 0 a fun j oj hj _ hd => by
       obtain ⟨hji, hoj⟩ := of_take_get (ops := l.toArray) (by simpa using hj)
       exact hex ⟨j, oj, by omega, hoj, hd⟩
      rw [e1, e2]
    obtain ⟨bt, bd⟩ := b
    generalize fin [] val (l.take n) 0 a = z at *
    obtain ⟨zt, zd⟩ := z
    simp only at e1 e2
    rw [e1, e2]
   rw [hb]
   exact hL w' hsp) n (Array.replicate l.toArray.size false) a w.drew (by
   have := List.countP_le_length (p := fun i => !(Array.replicate l.toArray.size false).getD i false) (l := List.range n)
   simpa using this) inv0 ⟨⟨0, Nat.zero_le _, h0, fun j i _ => ⟨fun h => (by rw [getD_replicate_false] at h; cases h), fun h => absurd h (Nat.not_lt_zero _)⟩⟩, rfl, rfl, fun k o t _ _ _ hl => (by rw [getD_replicate_false] at hl; cases hl), fun t _ => rfl⟩
 rw [show n + (l.length - n) = l.toArray.size by simp; omega] at key
 exact key
section
variable {sts : List Nat} {L : Act → Prop} {o : Oper} {l : List Oper} {k : Nat} {a a' : Act} {v : Value}
theorem st_plain (hf : stIx sts k = none) (hg : o.guard = none) (hc : ∀ w, (∃ p, S p w) → calmR P w ((execOp a.eval o).run P w) v) (ha : a.put o.dst v = a') (h : wpSt P md ops S sts L l (k + 1) a') : wpSt P md ops S sts L (o :: l) k a := by
 subst ha
 exact ⟨v, by simp only [StAt, hf]; exact .inl ⟨by simp [Region.wanted, hg], fun w ⟨p, _, h⟩ => hc w ⟨p, h⟩⟩, h⟩
/-- An operation that some step waits for: it sees the states up to that step only. -/
theorem st_upto {j : Nat} (hj : stHi md ops sts k = j) (hf : stIx sts k = none) (hg : o.guard = none) (hc : ∀ w, (∃ p, p ≤ j ∧ S p w) → calmR P w ((execOp a.eval o).run P w) v) (ha : a.put o.dst v = a') (h : wpSt P md ops S sts L l (k + 1) a') : wpSt P md ops S sts L (o :: l) k a := by
 subst ha
 exact ⟨v, by simp only [StAt, hf, hj]; exact .inl ⟨by simp [Region.wanted, hg], hc⟩, h⟩
theorem st_step {j : Nat} (hf : stIx sts k = some j) (hg : o.guard = none) (hc : ∀ w, S j w → stepR P (S (j + 1)) ((execOp a.eval o).run P w) v) (ha : a.put o.dst v = a') (h : wpSt P md ops S sts L l (k + 1) a') : wpSt P md ops S sts L (o :: l) k a := by
 subst ha
 exact ⟨v, by simp only [StAt, hf]; exact .inl ⟨by simp [Region.wanted, hg], hc⟩, h⟩
theorem st_done (h : L a) : wpSt P md ops S sts L [] k a := h
theorem step_skip {T : World → Prop} {w : World} (h : T w) : stepR P T (.ok .skip w) undef := ⟨rfl, h⟩
theorem step_call {T : World → Prop} {w : World} {u : Value} {f : FuncId} {args : Array Value} (h : Calls P f args w fun e w' => e = .returned u ∧ T w') : stepR P T (.ok (.enter f args) w) u := h
end
end
end Go.Proofs.YtjbkjgmcfommgaaGreat

namespace Go.Proofs.YtjbkjgmcfommgaaGreat
open Go.RowKit
abbrev Ran := Nat → Bool
def upd (L : Ran) (i : Nat) : Ran := fun k => if k = i then true else L k
/-- The operations that operation i waits for, directly and through others. -/
def needs (md : Region.Mode) (ops : Array Oper) : Nat → Nat → List Nat
 | 0, _ => []
 | n + 1, i => match ops[i]? with
  | none => []
  | some o => (o.after.toList.filter (fun e => Region.binds md e)).flatMap fun e => e.on :: needs md ops n e.on
/-- Where an operation of the region may run: it has not run yet, and all that it waits for has. -/
def At (md : Region.Mode) (ops : Array Oper) (i : Nat) (L : Ran) : Prop := L i = false ∧ ∀ k ∈ needs md ops 4 i, L k = true
theorem At.need {md : Region.Mode} {ops : Array Oper} {i : Nat} {L : Ran} (h : At md ops i L) (k : Nat) (hk : (needs md ops 4 i).contains k = true) : L k = true := h.2 k (by simpa using hk)
section
variable {P : Program} {ops : Array Oper} {S : Ran → World → Prop} {R : World → World → Prop} {md : Region.Mode}
def CalmF (P : Program) (md : Region.Mode) (ops : Array Oper) (S : Ran → World → Prop) (R : World → World → Prop) (i : Nat) (o : Oper) (v : Value) (a : Act) : Prop :=
 (Region.wanted o (yielded ops a.tmps) = true ∧ ∀ L w, At md ops i L → S L w → stepR P (fun w' => S (upd L i) w' ∧ R w w') ((execOp a.eval o).run P w) v) ∨
   (Region.wanted o (yielded ops a.tmps) = false ∧ v = undef ∧ ∀ L w, At md ops i L → S L w → S (upd L i) w ∧ R w w)
theorem CalmF.agree {i : Nat} {o : Oper} (hs : ∀ cs b, o.op ≠ .select cs b) {v : Value} {a a' : Act} (h : ∀ t ∈ o.looksAt ops, a.tmps[t]? = a'.tmps[t]?) (hc : CalmF P md ops S R i o v a) : CalmF P md ops S R i o v a' := by
 unfold CalmF at *
 rw [← run_agree (ops := ops) hs h, ← wanted_agree h]
 exact hc
def ranOf (listed : Array Bool) : Ran := fun k => listed.getD k false
theorem ranOf_set {listed : Array Bool} {i : Nat} (h : i < listed.size) : ranOf (listed.setIfInBounds i true) = upd (ranOf listed) i := by
 funext k
 unfold ranOf upd
 by_cases e : k = i
 ·subst e
  simp [h]
 ·rw [if_neg e, getD_set_ne false (Ne.symm e)]
theorem needs_ran {listed : Array Bool} {n : Nat} (hinv : HeadInv md ops n listed) : ∀ (f i : Nat) (o : Oper), ops[i]? = some o → (∀ e ∈ o.after, Region.binds md e = true → listed.getD e.on false = true) → ∀ k ∈ needs md ops f i, ranOf listed k = true
 | 0, _, _, _, _, _, hk => by simp [needs] at hk
 | f + 1, i, o, ho, hw, k, hk => by
  unfold needs at hk
  rw [ho] at hk
  simp only [List.mem_flatMap, List.mem_filter, Array.mem_toList_iff] at hk
  obtain ⟨e, ⟨he, hb⟩, hk⟩ := hk
  have h1 := hw e he hb
  rcases List.mem_cons.1 hk with hk | hk
  ·subst hk
   exact h1
  ·have hex : ∃ oj, ops[e.on]? = some oj := by
    rcases Nat.lt_or_ge e.on ops.size with hlt | hge
    ·exact ⟨ops[e.on]'hlt, by simp [hlt]⟩
    ·exfalso
     rw [Array.getD_eq_getD_getElem?, Array.getElem?_eq_none (by rw [hinv.size]; exact hge)] at h1
     cases h1
   obtain ⟨oj, hoj⟩ := hex
   exact needs_ran hinv f e.on oj hoj (fun e' he' hb' => hinv.closed e.on oj hoj h1 e' he' hb') k hk
section
variable {n N : Nat} {ks : List Nat} {fl : Floats} {val : Nat → Value} {a0 : Act}
end
section
variable {fl : Floats} {L : Act → Prop} {o : Oper} {l : List Oper} {k : Nat} {a a' : Act} {v : Value}
end
end
/-- Only the blocks bs may have changed, and there may be new ones. -/
def Only (bs : List Nat) (w w' : World) : Prop := w.heap.size ≤ w'.heap.size ∧ ∀ k, k < w.heap.size → k ∉ bs → w'.heap[k]? = w.heap[k]?
theorem Only.refl (bs : List Nat) (w : World) : Only bs w w := ⟨Nat.le_refl _, fun _ _ _ => rfl⟩
theorem Only.grows {bs : List Nat} {w w' : World} (h : Grows w w') : Only bs w w' := ⟨h.size, fun k hk _ => h.block k hk⟩
theorem Only.grown {bs : List Nat} {w w' : World} {g : Nat} (h : w.grownBy w' (some g)) (hg : g ∈ bs) : Only bs w w' := ⟨h.size, fun k hk hn => h.block k hk (fun e => by injection e with e; subst e; exact hn hg)⟩
theorem Only.set {bs : List Nat} {a w : World} (h : Only bs a w) {p : Addr} (hp : p.block ∈ bs) (u : Value) : Only bs a (w.setCell p u) := ⟨by simpa [World.setCell] using h.1, fun k hk hn => (Below.heap_setCell w p u k (fun e => hn (e ▸ hp))).trans (h.2 k hk hn)⟩
theorem Only.alloc {bs : List Nat} {a w : World} (h : Only bs a w) (o : Obj) : Only bs a (w.alloc o) := ⟨Nat.le_trans h.1 (by simp), fun k hk hn => (Below.heap_alloc w o k (Nat.lt_of_lt_of_le hk h.1)).trans (h.2 k hk hn)⟩
theorem Blk.only {bs : List Nat} {w w' : World} {g : Nat} {t : TypeId} {cs : Array Value} (h : Blk w g t cs) (ho : Only bs w w') (hg : g ∉ bs) : Blk w' g t cs := (ho.2 g h.lt hg).trans h
end Go.Proofs.YtjbkjgmcfommgaaGreat

namespace Go.Proofs.YtjbkjgmcfommgaaGreat
open Go.RowKit
section
variable {P : Program} {ops : Array Oper} {S : Ran → World → Prop} {R : World → World → Prop} {md : Region.Mode} {fk sk t : Nat} {D : Ran → Value → World → Prop}
section
variable {n N : Nat} {val : Nat → Value} {a0 : Act}
end
section
variable {L : Act → Prop} {o : Oper} {l : List Oper} {k : Nat} {a a' : Act} {v : Value}
end
end
end Go.Proofs.YtjbkjgmcfommgaaGreat

namespace Go.Proofs.YtjbkjgmcfommgaaGreat
open Go.RowKit
/-- What is kept of a region, hidden from the walk's rules. -/
theorem hideS {α β γ : Type} (B : α → β → γ → Prop) : ∃ S : α → β → γ → Prop, Hid (∀ L vs w', B L vs w' → S L vs w') ∧ Hid (∀ L vs w', S L vs w' → B L vs w') := ⟨B, fun _ _ _ h => h, fun _ _ _ h => h⟩
/-- The values, with that of operation k. -/
def setV (vs : Nat → Value) (k : Nat) (u : Value) : Nat → Value := fun j => if j = k then u else vs j
def genR (P : Program) (T : Value → World → Prop) : Result Next → Prop
 | .ok (.value u) w' => T u w'
 | .ok .skip w' => T undef w'
 | .ok (.enter f args) w' => Calls P f args w' fun e w'' => ∃ u, e = .returned u ∧ T u w''
 | _ => False
section
variable {P : Program} {ops : Array Oper} {S : Ran → (Nat → Value) → World → Prop} {md : Region.Mode}
def GenOp (P : Program) (ops : Array Oper) (S : Ran → (Nat → Value) → World → Prop) (k : Nat) (o : Oper) (a : Act) (vs : Nat → Value) (L : Ran) (w : World) : Prop :=
 (Region.wanted o (yielded ops a.tmps) = true ∧ genR P (fun u w' => S (upd L k) (setV vs k u) w') ((execOp a.eval o).run P w)) ∨ (Region.wanted o (yielded ops a.tmps) = false ∧ S (upd L k) (setV vs k undef) w)
theorem gen_wpOp {Q : Exit → Act → World → Prop} {L : Ran} {i : Nat} {o : Oper} {a : Act} {w : World} {vs : Nat → Value} {K : Act → World → Prop} (hi : ops[i]? = some o) (hc : GenOp P ops S i o a vs L w)
 (hK : ∀ u w', S (upd L i) (setV vs i u) w' → K (a.put o.dst u) w') : wpOp P ops Q i K a w := by
 unfold wpOp
 simp only [hi]
 rcases hc with ⟨hwt, hr⟩ | ⟨hwt, ht⟩
 ·simp only [hwt, if_true]
  refine .inl ?_
  unfold Oper.wp
  generalize (execOp a.eval o).run P w = r at *
  cases r with
  | ok n w' =>
   cases n <;> simp only [genR] at hr <;> simp only [Oper.upon]
   case value u => exact hK _ _ hr
   case skip => exact hK _ _ hr
   case enter f args => exact hr.mono fun e w'' ⟨u, he, hs⟩ => by subst he; exact hK _ _ hs
  | halt x w' => simp only [genR] at hr
 ·simp only [hwt, Bool.false_eq_true, if_false]
  exact hK _ _ ht
structure InvG (S : Ran → (Nat → Value) → World → Prop) (ops : Array Oper) (vs : Nat → Value) (a0 : Act) (listed : Array Bool) (a : Act) (w : World) : Prop where
 s : S (ranOf listed) vs w
 defers : a.defers = a0.defers
 size : a.tmps.size = a0.tmps.size
 calm : ∀ k o t, ops[k]? = some o → o.dst = some t → listed.getD k false = true → a.tmps[t]? = some (vs k)
 other : ∀ t, (∀ k o, ops[k]? = some o → listed.getD k false = true → o.dst ≠ some t) → a.tmps[t]? = a0.tmps[t]?
variable {N : Nat} {a0 : Act}
theorem lt_of_get {k : Nat} {o : Oper} (h : ops[k]? = some o) : k < ops.size := (Array.getElem?_eq_some_iff.1 h).1
theorem gen_agree (ok : MixOk md ops ops.size N []) (hN : a0.tmps.size = N) {vs : Nat → Value} {listed : Array Bool} {a : Act} {w : World} (inv : InvG S ops vs a0 listed a w) {i : Nat} {o : Oper} (ho : ops[i]? = some o) (hr : i ∈ Region.ready md ops listed) :
 ∀ t ∈ o.looksAt ops, (fin [] vs (ops.toList.take i) 0 a0).tmps[t]? = a.tmps[t]? := by
 intro t ht
 have hi := lt_of_get ho
 by_cases hex : ∃ (k : Nat) (o' : Oper), ops[k]? = some o' ∧ o'.dst = some t
 ·obtain ⟨k, o', ho', hd⟩ := hex
  have hk := lt_of_get ho'
  obtain ⟨h1, _, h3⟩ := ok.look i o k o' t hi hk ho ho' hd ht
  have hlisted : listed.getD k false = true := by
   obtain ⟨oj, hoj, e, he, hb, hon⟩ := Region.waitsFor_spec h3
   obtain ⟨_, oi, hoi, hall⟩ := mem_ready.1 hr
   have : oj = oi := Option.some.inj (hoj.symm.trans hoi)
   subst this
   have := hall e he hb
   rwa [hon] at this
  have e1 := inv.calm k o' t ho' hd hlisted
  have hlt : t < a0.tmps.size := by rw [hN]; exact ok.bd k o' t hk ho' hd
  have e2 := fin_at (fl := []) (val := vs) (ops.toList.take i) 0 a0 k o' (take_get h1 ho') hd rfl hlt (by
   intro j oj hj hne hdj
   obtain ⟨hji, hoj⟩ := of_take_get hj
   exact ok.ne j oj k o' t (by omega) hk hoj ho' (Ne.symm hne) hdj hd)
  rw [Nat.zero_add] at e2
  rw [e1, e2]
 ·have e1 := inv.other t fun k o' ho' _ hd => hex ⟨k, o', ho', hd⟩
  have e2 := fin_other (fl := []) (val := vs) (ops.toList.take i) 0 a0 fun j oj hj _ hd => by
   obtain ⟨_, hoj⟩ := of_take_get hj
   exact hex ⟨j, oj, hoj, hd⟩
  rw [e1, e2]
theorem inv_stepG (ok : MixOk md ops ops.size N []) (hN : a0.tmps.size = N) {vs : Nat → Value} {listed : Array Bool} {a : Act} {w w' : World} (inv : InvG S ops vs a0 listed a w) {i : Nat} {o : Oper} (ho : ops[i]? = some o) (hl : i < listed.size) {u : Value}
 (hs : S (ranOf (listed.setIfInBounds i true)) (setV vs i u) w') : InvG S ops (setV vs i u) a0 (listed.setIfInBounds i true) (a.put o.dst u) w' := by
 have hi := lt_of_get ho
 have key : ∀ k o' t, ops[k]? = some o' → o'.dst = some t → k ≠ i → (a.put o.dst u).tmps[t]? = a.tmps[t]? := by
  intro k o' t ho' hd hne
  exact put_get_ne fun e => ok.ne i o k o' t hi (lt_of_get ho') ho ho' hne e hd
 refine ⟨hs, (put_defers' _ _ _).trans inv.defers, (put_size _ _ _).trans inv.size, ?_, ?_⟩
 ·intro k o' t ho' hd hlk
  by_cases hki : k = i
  ·subst hki
   have : o' = o := Option.some.inj (ho'.symm.trans ho)
   subst this
   rw [hd, put_get_eq (by rw [inv.size, hN]; exact ok.bd k o' t hi ho' hd)]
   simp [setV]
  ·rw [key k o' t ho' hd hki, inv.calm k o' t ho' hd (by rwa [getD_set_ne false (Ne.symm hki)] at hlk)]
   simp [setV, hki]
 ·intro t ht
  have h1 : o.dst ≠ some t := ht i o ho (by simp [hl])
  rw [put_get_ne h1]
  exact inv.other t fun k o' ho' hlk => ht k o' ho' (getD_set_true hlk)
theorem gen_run {Q : Exit → Act → World → Prop} (ok : MixOk md ops ops.size N []) (hN : a0.tmps.size = N)
 (good : ∀ k o, ops[k]? = some o → ∀ vs L w, At md ops k L → S L vs w → GenOp P ops S k o (fin [] vs (ops.toList.take k) 0 a0) vs L w)
 (H : ∀ listed a w vs, (∀ i, i < ops.size → listed.getD i false = true) → InvG S ops vs a0 listed a w → Q .normal a w) :
 ∀ (f : Nat) (listed : Array Bool) (a : Act) (w : World) (vs : Nat → Value), ((List.range ops.size).countP fun i => !listed.getD i false) ≤ f → HeadInv md ops ops.size listed → InvG S ops vs a0 listed a w →
  wpAny P md ops Q f listed a w := by
 have done : ∀ listed : Array Bool, (∀ i, i < ops.size → listed.getD i false = true) → Region.ready md ops listed = [] := by
  intro listed hall
  rw [List.eq_nil_iff_forall_not_mem]
  intro i hi
  obtain ⟨h1, o, ho, _⟩ := mem_ready.1 hi
  have := hall i (lt_of_get ho)
  rw [getD_both h1] at this
  cases this
 intro f
 induction f with
 | zero =>
  intro listed a w vs hc hinv inv
  have hall : ∀ i, i < ops.size → listed.getD i false = true := fun i hi => by
   have h0 : ((List.range ops.size).countP fun i => !listed.getD i false) = 0 := by omega
   rw [List.countP_eq_zero] at h0
   have := h0 i (List.mem_range.2 hi)
   simpa using this
  exact ⟨done listed hall, H listed a w vs hall inv⟩
 | succ f ih =>
  intro listed a w vs hc hinv inv
  by_cases hall : ∀ i, i < ops.size → listed.getD i false = true
  ·exact ⟨fun _ => H listed a w vs hall inv, fun i hi => by rw [done listed hall] at hi; cases hi⟩
  ·have hex : ∃ i, i < ops.size ∧ listed.getD i false = false := by
    apply Classical.byContradiction
    intro hno
    exact hall fun i hi => by
     cases h : listed.getD i false
     ·exact absurd ⟨i, hi, h⟩ hno
     ·rfl
   obtain ⟨i0, hi0, hl0⟩ := hex
   have hsz : ∀ i, i < ops.size → i < listed.size := fun i hi => by rw [hinv.size]; exact hi
   have hready : Region.ready md ops listed ≠ [] := by
    have : ∀ d i, i ≤ d → i < ops.size → listed.getD i false = false → ∃ j, j ∈ Region.ready md ops listed := by
     intro d
     induction d with
     | zero =>
      intro i hid hi hl
      obtain ⟨o, ho⟩ : ∃ o, ops[i]? = some o := ⟨ops[i], by simp [hi]⟩
      refine ⟨i, mem_ready.2 ⟨getD_in (hsz i hi) hl, o, ho, fun e he hb => ?_⟩⟩
      have := ok.back i o hi ho e he hb
      omega
     | succ d ihd =>
      intro i hid hi hl
      obtain ⟨o, ho⟩ : ∃ o, ops[i]? = some o := ⟨ops[i], by simp [hi]⟩
      by_cases hw : ∀ e ∈ o.after, Region.binds md e = true → listed.getD e.on false = true
      ·exact ⟨i, mem_ready.2 ⟨getD_in (hsz i hi) hl, o, ho, hw⟩⟩
      ·have : ∃ e ∈ o.after, Region.binds md e = true ∧ listed.getD e.on false = false := by
        apply Classical.byContradiction
        intro hno
        exact hw fun e he hb => by
         cases h : listed.getD e.on false
         ·exact absurd ⟨e, he, hb, h⟩ hno
         ·rfl
       obtain ⟨e, he, hb, hle⟩ := this
       have hlt := ok.back i o hi ho e he hb
       exact ihd e.on (by omega) (by omega) hle
    obtain ⟨j, hj⟩ := this i0 i0 (Nat.le_refl _) hi0 hl0
    intro h0
    rw [h0] at hj
    cases hj
   refine ⟨fun h0 => absurd h0 hready, fun i hir => ?_⟩
   obtain ⟨hun, o, ho, hwaits⟩ := mem_ready.1 hir
   have hin := lt_of_get ho
   have hunf : listed.getD i false = false := getD_both hun
   have hcnt : ((List.range ops.size).countP fun j => !(listed.setIfInBounds i true).getD j false) ≤ f := by
    have := countP_lt (p := fun j => !listed.getD j false) (q := fun j => !(listed.setIfInBounds i true).getD j false) (List.range ops.size) (List.mem_range.2 hin)
     (fun j _ hj => by
       simp only [Bool.not_eq_true'] at hj ⊢
       cases h : listed.getD j false
       ·rfl
       ·rw [getD_set_true h] at hj; cases hj) (by simp only [hunf, Bool.not_false]) (by simp [hsz i hin])
    omega
   have hinv' := hinv.set hir hin
   have hat : At md ops i (ranOf listed) := ⟨hunf, needs_ran hinv _ i o ho hwaits⟩
   have hag := gen_agree ok hN inv ho hir
   have hg := good i o ho vs (ranOf listed) w hat inv.s
   have hs : ∀ cs b, o.op ≠ .select cs b := fun cs b => Region.noSelect_spec ok.sel i o cs b ho
   unfold GenOp at hg
   rw [run_agree (ops := ops) hs hag, wanted_agree hag] at hg
   refine gen_wpOp ho hg fun u w' hs' => ih _ _ _ _ hcnt hinv' (inv_stepG ok hN inv ho (hsz i hin) ?_)
   rw [ranOf_set (hsz i hin)]
   exact hs'
end
theorem act_ext {a b : Act} (hd : a.defers = b.defers) (hs : a.tmps.size = b.tmps.size) (ht : ∀ t : Nat, a.tmps[t]? = b.tmps[t]?) : a = b := by
 cases a
 cases b
 simp only at hd hs ht
 subst hd
 congr 1
 exact Array.ext_getElem? ht
theorem wp_region_gen {P : Program} {id : Nat} {Q : Exit → Act → World → Prop} {a : Act} {w : World} {l : List Oper} (S : Ran → (Nat → Value) → World → Prop) (N : Nat) (hm : P.follows .mixedOrders = true) (hB : mixB .any l.toArray l.length N [] = true)
 (hN : a.tmps.size = N) (h0 : S (fun _ => false) (fun _ => undef) w.drew)
 (good : ∀ k o, l[k]? = some o → ∀ vs L w, At .any l.toArray k L → S L vs w → GenOp P l.toArray S k o (fin [] vs (l.take k) 0 a) vs L w)
 (h : ∀ vs L w', (∀ k, k < l.length → L k = true) → S L vs w' → Q .normal (fin [] vs l 0 a) w') : (Code.region id l.toArray true).wp P Q a w := by
 have ok := mixOk_of hB
 have ok' : MixOk .any l.toArray l.toArray.size N [] := by simpa using ok
 refine wp_region_any hm ?_
 have inv0 : HeadInv .any l.toArray l.toArray.size (Array.replicate l.toArray.size false) :=
  ⟨by simp, fun j oj _ hl => (by rw [getD_replicate_false] at hl; cases hl), fun t ht ht' => by omega⟩
 refine gen_run (md := .any) (Q := Q) (ops := l.toArray) (S := S) (a0 := a) ok' hN (by simpa using good) ?_ l.toArray.size (Array.replicate l.toArray.size false) a w.drew (fun _ => undef) ?_ inv0 ?_
 ·intro listed a' w' vs hall inv
  have he : a' = fin [] vs l 0 a := by
   refine act_ext (inv.defers.trans (fin_defers _ _ _).symm) (inv.size.trans (fin_size _ _ _).symm) fun t => ?_
   by_cases hex : ∃ (k : Nat) (o' : Oper), l.toArray[k]? = some o' ∧ o'.dst = some t
   ·obtain ⟨k, o', ho', hd⟩ := hex
    have hk := lt_of_get ho'
    have e1 := inv.calm k o' t ho' hd (hall k hk)
    have e2 := fin_at (fl := []) (val := vs) l 0 a k o' (by simpa using ho') hd rfl (by rw [hN]; exact ok'.bd k o' t hk ho' hd) (by
     intro j oj hj hne hdj
     exact ok'.ne j oj k o' t (lt_of_get (ops := l.toArray) (by simpa using hj)) hk (by simpa using hj) ho' (Ne.symm hne) hdj hd)
    rw [Nat.zero_add] at e2
    rw [e1, e2]
   ·have e1 := inv.other t fun k o' ho' _ hd => hex ⟨k, o', ho', hd⟩
    have e2 := fin_other (fl := []) (val := vs) (t := t) l 0 a fun j oj hj _ hd => hex ⟨j, oj, by simpa using hj, hd⟩
    rw [e1, e2]
  rw [he]
  exact h vs (ranOf listed) w' (fun k hk => hall k (by simpa using hk)) inv.s
 ·have := List.countP_le_length (p := fun i => !(Array.replicate l.toArray.size false).getD i false) (l := List.range l.toArray.size)
  simpa using this
 ·exact ⟨by rw [show ranOf (Array.replicate l.toArray.size false) = fun _ => false from funext fun k => getD_replicate_false _ _]; exact h0, rfl, rfl, fun k o t _ _ hl => (by rw [getD_replicate_false] at hl; cases hl), fun t _ => rfl⟩
def GenW (P : Program) (full : List Oper) (S : Ran → (Nat → Value) → World → Prop) (E : Act → World → Prop) : List Oper → Nat → ((Nat → Value) → Act) → Prop
 | [], _, A => ∀ vs L w', (∀ k, k < full.length → L k = true) → S L vs w' → E (A vs) w'
 | o :: l, k, A => (∀ vs L w, At .any full.toArray k L → S L vs w → GenOp P full.toArray S k o (A vs) vs L w) ∧ GenW P full S E l (k + 1) (fun vs => (A vs).put o.dst (vs k))
theorem genW_out {P : Program} {full : List Oper} {S : Ran → (Nat → Value) → World → Prop} {E : Act → World → Prop} : ∀ (l : List Oper) (k : Nat) (A : (Nat → Value) → Act), GenW P full S E l k A →
 (∀ j o, l[j]? = some o → ∀ vs L w, At .any full.toArray (k + j) L → S L vs w → GenOp P full.toArray S (k + j) o (fin [] vs (l.take j) k (A vs)) vs L w) ∧ ∀ vs L w', (∀ k, k < full.length → L k = true) → S L vs w' → E (fin [] vs l k (A vs)) w'
 | [], _, _, h => ⟨fun j o hj => by simp at hj, h⟩
 | o :: l, k, A, h => by
  obtain ⟨h1, h2⟩ := genW_out l (k + 1) _ h.2
  refine ⟨fun j o' hj => ?_, h2⟩
  cases j with
  | zero =>
   simp only [List.getElem?_cons_zero, Option.some.injEq] at hj
   subst hj
   exact h.1
  | succ j =>
   have := h1 j o' (by simpa using hj)
   rw [show k + 1 + j = k + (j + 1) by omega] at this
   exact this
theorem wp_region_genW {P : Program} {id : Nat} {Q : Exit → Act → World → Prop} {a : Act} {w : World} {l : List Oper} (S : Ran → (Nat → Value) → World → Prop) (N : Nat) (hm : P.follows .mixedOrders = true) (hB : mixB .any l.toArray l.length N [] = true)
 (hN : a.tmps.size = N) (h0 : S (fun _ => false) (fun _ => undef) w.drew) (h : GenW P l S (Q .normal) l 0 (fun _ => a)) : (Code.region id l.toArray true).wp P Q a w := by
 obtain ⟨h1, h2⟩ := genW_out l 0 _ h
 refine wp_region_gen S N hm hB hN h0 (fun k o hk vs L w' hL hS => ?_) h2
 have := h1 k o hk vs L w'
 rw [Nat.zero_add] at this
 exact this hL hS
section
variable {P : Program} {full l : List Oper} {S : Ran → (Nat → Value) → World → Prop} {E : Act → World → Prop} {o : Oper} {k : Nat} {A A' : (Nat → Value) → Act}
theorem gen_cons (hc : ∀ vs L w, At .any full.toArray k L → S L vs w → GenOp P full.toArray S k o (A vs) vs L w) (hA : ∀ vs, (A vs).put o.dst (vs k) = A' vs) (h : GenW P full S E l (k + 1) A') : GenW P full S E (o :: l) k A := by
 obtain rfl : (fun vs => (A vs).put o.dst (vs k)) = A' := funext hA
 exact ⟨hc, h⟩
theorem gen_consR (hc : ∀ vs L w, At .any full.toArray k L → S L vs w → GenOp P full.toArray S k o (A vs) vs L w) (h : GenW P full S E l (k + 1) A') (hA : ∀ vs, (A vs).put o.dst (vs k) = A' vs := by intro vs; simp only [Act.put, List.setIfInBounds_toArray, List.set_cons_succ, List.set_cons_zero]; rfl) : GenW P full S E (o :: l) k A := gen_cons hc hA h
theorem gen_nil (h : ∀ vs L w', (∀ k, k < full.length → L k = true) → S L vs w' → E (A vs) w') : GenW P full S E [] k A := h
variable {ops : Array Oper} {a : Act} {vs : Nat → Value} {L : Ran} {w : World}
theorem gen_plain (hg : o.guard = none) (h : genR P (fun u w' => S (upd L k) (setV vs k u) w') ((execOp a.eval o).run P w)) : GenOp P ops S k o a vs L w := .inl ⟨by simp [Region.wanted, hg], h⟩
variable {T : Value → World → Prop}
theorem gr_val {u : Value} (h : T u w) : genR P T (.ok (.value u) w) := h
theorem gr_skip (h : T undef w) : genR P T (.ok .skip w) := h
theorem gr_call {f : FuncId} {args : Array Value} (h : Calls P f args w fun e w' => ∃ u, e = .returned u ∧ T u w') : genR P T (.ok (.enter f args) w) := h
/-- The values that are known. -/
def KnS (KN : List (Option Value)) (L : Ran) (vs : Nat → Value) : Prop := ∀ j v, KN[j]? = some (some v) → L j = true → vs j = v
theorem kn_none (KN : List (Option Value)) (vs : Nat → Value) : KnS KN (fun _ => false) vs := fun _ _ _ h => by cases h
theorem kn_known {KN : List (Option Value)} {u : Value} (h : KnS KN L vs) (hk : KN[k]? = some (some u)) : KnS KN (upd L k) (setV vs k u) := by
 intro j v hj hL
 unfold setV
 unfold upd at hL
 by_cases e : j = k
 ·subst e
  rw [if_pos rfl]
  rw [hk] at hj
  injection hj with hj
  injection hj
 ·rw [if_neg e] at hL ⊢
  exact h j v hj hL
theorem kn_free {KN : List (Option Value)} {u : Value} (h : KnS KN L vs) (hk : KN[k]? = some none) : KnS KN (upd L k) (setV vs k u) := by
 intro j v hj hL
 unfold setV
 unfold upd at hL
 by_cases e : j = k
 ·subst e
  rw [hk] at hj
  cases hj
 ·rw [if_neg e] at hL ⊢
  exact h j v hj hL
end
end Go.Proofs.YtjbkjgmcfommgaaGreat

namespace Go.Proofs.YtjbkjgmcfommgaaGreat
open Go.RowKit
abbrev DiceT : TypeId := 67
theorem d_only_grows {a w w' : World} {row : Option Nat} (h : a.grownBy w row) (hg : Grows w w') : a.grownBy w' row :=
 ⟨hg.os.trans h.os, hg.tape.trans h.tape, hg.output.trans h.output, Nat.le_trans h.size hg.size, fun k hk hn => (hg.block k (Nat.lt_of_lt_of_le hk h.size)).trans (h.block k hk hn)⟩
theorem d_only_set {a w : World} {g : Nat} (h : a.grownBy w (some g)) (i : Nat) (u : Value) : a.grownBy (w.setCell ⟨g, i, none⟩ u) (some g) :=
 ⟨h.os, h.tape, h.output, by simpa [World.setCell] using h.size, fun k hk hn => (Below.heap_setCell w ⟨g, i, none⟩ u k (fun e => hn (by rw [e]))).trans (h.block k hk hn)⟩
/-- The dice in block g hold the bytes l; they lie below block B. -/
structure DiceAt (w : World) (B g : Nat) (A : Option Addr) (c : Nat) (l : List Int) : Prop where
 blk : Blk w g DiceT #[.slice A l.length c]
 bytes : Reads w B 1 A l.length (l.map (Value.int .u8))
 cap : l.length ≤ c
 lo : B ≤ g
 wf : ∀ x ∈ l, 0 ≤ x ∧ x ≤ 255
 len : l.length ≤ 300
def Dice (w : World) (B g : Nat) (l : List Int) : Prop := ∃ A c, DiceAt w B g A c l
theorem Dice.grows {w w' : World} {B g : Nat} {l : List Int} (h : Dice w B g l) (hg : Grows w w') : Dice w' B g l := by
 obtain ⟨A, c, h⟩ := h
 exact ⟨A, c, h.blk.grows hg, h.bytes.below (hg.mono (Nat.le_trans h.lo (Nat.le_of_lt h.blk.lt))), h.cap, h.lo, h.wf, h.len⟩
theorem Dice.put {w : World} {B g : Nat} {l : List Int} (h : Dice w B g l) {p : Addr} (hp : B ≤ p.block) (hg : g ≠ p.block) (u : Value) : Dice (w.setCell p u) B g l := by
 obtain ⟨A, c, h⟩ := h
 exact ⟨A, c, h.blk.far hg u, h.bytes.setCell hp u, h.cap, h.lo, h.wf, h.len⟩
theorem Dice.lt {w : World} {B g : Nat} {l : List Int} (h : Dice w B g l) : g < w.heap.size := by
 obtain ⟨A, c, h⟩ := h
 exact h.blk.lt
def rollV (l : List Int) (n : Int) : Int := (l.head?.getD 0) % n
theorem rollV_bd (l : List Int) {n : Int} (h : 1 ≤ n) : 0 ≤ rollV l n ∧ rollV l n < n := ⟨Int.emod_nonneg _ (by omega), Int.emod_lt_of_pos _ (by omega)⟩
set_option maxHeartbeats 4000000 in
theorem roll_any (B g : Nat) (l : List Int) (n : Int) (w : World) (h : Dice w B g l) (hn : 2 ≤ n) (hn2 : n ≤ 9223372036854775807) :
 Calls Tryz.prog 25 #[.pointer (some ⟨g, 0, none⟩), .int .i64 n] w fun e w' => e = .returned (.int .i64 (rollV l n)) ∧ Dice w' B g l.tail ∧ w.grownBy w' (some g) ∧ w'.heap.size = w.heap.size := by
 obtain ⟨A, c, h⟩ := h
 have x1 := h.blk.cell
 have f1 := h.blk.frozen
 rcases l with _ | ⟨x, r⟩
 ·go_enter Tryz.func25, Tryz.ntmps25
  go_wp2
  go_ret
  exact ⟨by simp [rollV], ⟨A, c, h⟩, World.grownBy.refl _ _, rfl⟩
 ·have hle := h.len
  have hcp := h.cap
  obtain ⟨ad, u, rfl, hb, hu, hc⟩ := h.bytes.at_ (k := 0) (by simp)
  have hu' : Value.int .u8 x = u := by simpa using hu
  subst hu'
  have hc0 : w.cell? ad = some (.int .u8 x) := by rw [← hc]; congr 1
  have hx := h.wf x (by simp)
  have hwc : IntKind.i64.wrap x = x := IntWalk.i64_in _ (by omega)
  have ht : Int.tmod x n = x % n := Int.tmod_eq_emod_of_nonneg hx.1
  have hm1 := Int.emod_nonneg x (show n ≠ 0 by omega)
  have hm2 := Int.emod_lt_of_pos x (show 0 < n by omega)
  have hwm : IntKind.i64.wrap (x % n) = x % n := IntWalk.i64_in _ (by omega)
  have hn0 : (n == 0) = false := by simp; omega
  have hn1 : decide (n ≤ 1) = false := by simp; omega
  have hl0 : ((r.length : Int) + 1 == 0) = false := by simp; omega
  simp only [List.length_cons] at hle hcp
  by_cases hc1 : c = 1
  ·subst hc1
   have hr : r = [] := List.eq_nil_of_length_eq_zero (by omega)
   subst hr
   go_enter Tryz.func25, Tryz.ntmps25
   go_wp2
   go_ret
   refine ⟨by simp [rollV], ⟨some ad, 0, ?_, ⟨rfl, fun h => absurd h (by simp)⟩, by simp, h.lo, by simp, by simp⟩, d_only_set (World.grownBy.refl _ _) _ _, by simp⟩
   exact h.blk.set_ 0 _
  ·go_enter Tryz.func25, Tryz.ntmps25
   go_wp2
   go_ret
   refine ⟨by simp [rollV], ⟨some (ad.add 1), c - 1, ?_, ?_, by show r.length ≤ c - 1; omega, h.lo, fun y hy => h.wf y (List.mem_cons_of_mem x hy), by show r.length ≤ 300; omega⟩, d_only_set (World.grownBy.refl _ _) _ _, by simp⟩
   ·exact h.blk.set_ 0 _
   ·have h2 := h.bytes.cut (k := 1) (cap := c) (by simp) (by simpa using hcp)
    rw [if_neg (by simpa using hc1)] at h2
    have h3 : Reads w B 1 (some (ad.add 1)) r.length (r.map (Value.int .u8)) := by simpa using h2
    exact h3.setCell h.lo _
theorem Reads.take_ {w : World} {B n m : Nat} {A : Option Addr} {xs : List Value} (h : Reads w B 1 A n xs) (hm : m ≤ n) : Reads w B 1 A m (xs.take m) := by
 refine ⟨by simp [h.1]; omega, fun hn => ?_⟩
 obtain ⟨ad, hA, hb, hc⟩ := h.2 (by omega)
 refine ⟨ad, hA, hb, fun j u hu => hc j u ?_⟩
 rw [List.getElem?_take] at hu
 split at hu
 ·exact hu
 ·cases hu
end Go.Proofs.YtjbkjgmcfommgaaGreat

namespace Go.Proofs.YtjbkjgmcfommgaaGreat
open Go.RowKit
set_option maxRecDepth 100000 in
theorem grown_none {w w' : World} (h : Grows w w') : w.grownBy w' none := ⟨h.os, h.tape, h.output, h.size, fun k hk _ => h.block k hk⟩
set_option maxRecDepth 100000 in
theorem own_grows {w w' : World} {base : Nat} {e : TypeId} {size n : Nat} {v : Value} {xs : List Value} (h : w.ownsRow base e size v n xs) (hg : Grows w w') : w'.ownsRow base e size v n xs := by
 refine h.kept (grown_none hg) ?_
 cases e : v.ownBlock
 ·exact .inl rfl
 ·exact .inr (by simp)
theorem ints_lits (w : World) (l : List Int) (cs : Array Value) (t : TypeId) (h : cs.toList = l.map (Value.int .i64)) : Ints (w.alloc (.cells cs t)) (some ⟨w.heap.size, 0, none⟩) l := by
 have hb := Blk.new w t cs
 refine ⟨by simp, fun _ => ⟨_, rfl, by simp, fun j u hu => ?_⟩⟩
 have := hb.cell j
 have e : (⟨w.heap.size, 0, none⟩ : Addr).add j = ⟨w.heap.size, j, none⟩ := by unfold Addr.add; split <;> simp_all
 rw [e, this, ← Array.getElem?_toList, h]
 exact hu
set_option maxRecDepth 100000 in
theorem iinfo : ∃ i : TypeInfo, Tryz.prog.info? 3 = some i ∧ i.size = 1 ∧ i.bytes = 8 ∧ i.zero = some (.int .i64 0) ∧ (Value.int .i64 0).cells.size = 1 := ⟨_, by first | exact Tryz.info3 | rfl, rfl, rfl, rfl, rfl⟩
set_option maxRecDepth 100000 in
theorem ints_one (l : List Int) : ∀ u ∈ l.map (Value.int .i64), u.oneCell' = true := by
 intro u hu
 obtain ⟨g, _, rfl⟩ := List.mem_map.1 hu
 rfl
def OwnI (w : World) (base : Nat) (v : Value) (l : List Int) : Prop := w.ownsRow base 3 1 v l.length (l.map (Value.int .i64))
set_option maxRecDepth 100000 in
theorem ownI_nil (w : World) (base : Nat) : OwnI w base (.slice none 0 0) [] := World.ownsRow_nil w base 3 1
set_option maxRecDepth 100000 in
theorem OwnI.read {w : World} {base : Nat} {v : Value} {l : List Int} (h : OwnI w base v l) : ∃ (A : Option Addr) (c : Nat), v = .slice A l.length c ∧ l.length ≤ c ∧ Ints w A l := by
 rcases h.2 with ⟨rfl, hn⟩ | ⟨g, cap, cur, rfl, hb, hg, hnc, hm, hs, ht⟩
 ·exact ⟨none, 0, by rw [hn], by omega, Reads.of_own (c := 0) (by simpa [hn, OwnI] using h)⟩
 ·exact ⟨_, cap, rfl, hnc, Reads.of_own h⟩
set_option maxRecDepth 100000 in
theorem OwnI.grows {w w' : World} {base : Nat} {v : Value} {l : List Int} (h : OwnI w base v l) (hg : Grows w w') : OwnI w' base v l := own_grows h hg
set_option maxRecDepth 100000 in
theorem OwnI.below {w w' : World} {base : Nat} {v : Value} {l : List Int} {u : World} (h : OwnI w base v l) (hB : Below base u w) (hg : w.grownBy w' v.ownBlock) (hs : base ≤ w.heap.size) : Below base u w' := hB.grown hg hs fun q hq => (h.lt q hq).1
set_option maxRecDepth 100000 in
theorem OwnI.mono {w : World} {base base' : Nat} {v : Value} {l : List Int} (h : OwnI w base v l) (hb : base' ≤ base) : OwnI w base' v l := ⟨h.1, h.2.imp id fun ⟨g, cap, cur, e, hg, r⟩ => ⟨g, cap, cur, e, by omega, r⟩⟩
section
variable {ops : Array Oper} {rest : List Oper} {o : Oper} {a : Act} {w : World} {Q : Exit → Act → World → Prop}
set_option maxRecDepth 100000 in
theorem wpList_append_int (hgd : o.guard = none) (s x : Operand) (ho : o.op = .call { callee := .builtin .append, args := #[s, x], argTypes := #[38, 38] })
 {base : Nat} {v : Value} {l m : List Int} {A : Option Addr} {c n : Nat} (hn : n = m.length) (hs : a.eval s = v) (hown : OwnI w base v l) (hx : a.eval x = .slice A n c) (hr : Ints w A m) (hlen : l.length + m.length ≤ 1000000) (hbase : base ≤ w.heap.size)
 (h : ∀ v' w', OwnI w' base v' (l ++ m) → w.grownBy w' v.ownBlock → (v'.ownBlock = v.ownBlock ∨ v'.ownBlock = some w.heap.size) → wpList Tryz.prog ops Q rest (a.put o.dst v') w') : wpList Tryz.prog ops Q (o :: rest) a w := by
 obtain ⟨i0, hi0, hi1, hi2, hi3, hi4⟩ := iinfo
 subst hn
 refine wpList_append_any w hgd s x 38 ho base 3 i0 _ 1 8 Tryz.underlying38 hi0 hi3 hi1 hi2 hi4 (by omega) v l.length (l.map (Value.int .i64)) hs hown w.heap.size A m.length c (m.map (Value.int .i64)) hx hr (ints_one m) (by simp only [maxLen]; omega) (by omega) hbase fun v' w' h1 h2 h3 => h v' w' ?_ h2 h3
 unfold OwnI
 rw [List.map_append, List.length_append]
 exact h1
end
set_option maxRecDepth 100000 in
theorem OwnI.ints {w : World} {base : Nat} {A : Option Addr} {n c : Nat} {l : List Int} (h : OwnI w base (.slice A n c) l) : Ints w A l := by
 obtain ⟨A', c', e, _, hi⟩ := h.read
 injection e with e1 e2 e3
 rw [e1]
 exact hi
set_option maxRecDepth 100000 in
theorem grows_drewN (w : World) (n : Nat) : Grows w (w.drewN n) := ⟨rfl, rfl, rfl, Nat.le_refl _, fun _ _ => rfl⟩
theorem ints_take {w : World} {A : Option Addr} {l : List Int} (h : Ints w A l) {k : Nat} (hk : k ≤ l.length) : Ints w A (l.take k) := by
 refine ⟨by simp, fun hn => ?_⟩
 have hl : (l.take k).length = k := by rw [List.length_take]; omega
 obtain ⟨ad, e, hb, hc⟩ := h.2 (by omega)
 refine ⟨ad, e, hb, fun j u hu => hc j u ?_⟩
 rw [List.map_take, List.getElem?_take] at hu
 split at hu
 ·exact hu
 ·cases hu
def cmpZ (a b : Int) : Int := if a < b then -1 else if b < a then 1 else 0
def orZ (l : List Int) : Int := (l.find? (fun x => x != 0)).getD 0
theorem orZ_cons (x : Int) (l : List Int) : orZ (x :: l) = if x = 0 then orZ l else x := by
 unfold orZ
 by_cases h : x = 0
 ·rw [List.find?_cons_of_neg (by simp [h]), if_pos h]
 ·rw [List.find?_cons_of_pos (by simpa using h), if_neg h]
  rfl
def idxZ (m : List Int) (p : Int) : Int := match m.findIdx? (fun x => x == p) with | some k => (k : Int) | none => -1
theorem idxZ_has (m : List Int) (p : Int) : decide (0 ≤ idxZ m p) = decide (p ∈ m) := by
 unfold idxZ
 split
 ·rename_i k e
  obtain ⟨hk, h1, _⟩ := List.findIdx?_eq_some_iff_getElem.1 e
  have : p ∈ m := by
   have h2 : m[k] = p := by simpa using h1
   exact h2 ▸ List.getElem_mem hk
  simp [this]
 ·rename_i e
  rw [List.findIdx?_eq_none_iff] at e
  have : ¬ p ∈ m := fun h => by simpa using e p h
  simp [this]
theorem idx_next {m : List Int} {p x : Int} {k : Nat} (h : ∀ y ∈ m.take k, y ≠ p) (hx : m[k]? = some x) (hne : x ≠ p) : ∀ y ∈ m.take (k + 1), y ≠ p := by
 rw [take_snoc hx]
 intro y hy
 rcases List.mem_append.1 hy with hy | hy
 ·exact h y hy
 ·simp only [List.mem_singleton] at hy
  exact hy ▸ hne
theorem idx_found {m : List Int} {p : Int} {k : Nat} (h : ∀ y ∈ m.take k, y ≠ p) (hx : m[k]? = some p) : idxZ m p = (k : Int) := by
 obtain ⟨hk, hx⟩ := List.getElem?_eq_some_iff.1 hx
 have e : m.findIdx? (fun x => x == p) = some k := by
  rw [List.findIdx?_eq_some_iff_getElem]
  refine ⟨hk, by simp [hx], fun j hj => ?_⟩
  have := h (m[j]'(by omega)) (by rw [List.mem_take_iff_getElem]; exact ⟨j, by omega, rfl⟩)
  simpa using this
 unfold idxZ
 rw [e]
theorem idx_not {m : List Int} {p : Int} (h : ∀ y ∈ m, y ≠ p) : idxZ m p = -1 := by
 have e : m.findIdx? (fun x => x == p) = none := by
  rw [List.findIdx?_eq_none_iff]
  intro x hx
  simpa using h x hx
 unfold idxZ
 rw [e]
def commonL (a b : List Int) : List Int := a.filter fun p => decide (p ∈ b)
theorem common_snoc {a b : List Int} {x : Int} {k : Nat} (hx : a[k]? = some x) : commonL (a.take (k + 1)) b = commonL (a.take k) b ++ (if x ∈ b then [x] else []) := by
 rw [take_snoc hx]
 unfold commonL
 rw [List.filter_append]
 by_cases h : x ∈ b <;> simp [h]
theorem common_len (a b : List Int) : (commonL a b).length ≤ a.length := List.length_filter_le _ _
theorem nani_any (x : Int) (w : World) : Calls Tryz.prog 146 #[.int .i64 x] w fun e w' => e = .returned (.bool false) ∧ Grows w w' := by
 go_enter Tryz.func146, Tryz.ntmps146
 go_wp2
 go_ret
 exact ⟨rfl, Below.refl _ _⟩
theorem cmpi_any (a b : Int) (w : World) : Calls Tryz.prog 134 #[.int .i64 a, .int .i64 b] w fun e w' => e = .returned (.int .i64 (cmpZ a b)) ∧ Grows w w' := by
 go_enter Tryz.func134, Tryz.ntmps134
 go_wp2_with fail
 refine (nani_any a _).mono ?_
 rintro e w1 ⟨rfl, hB⟩
 go_wp2_with fail
 refine (nani_any b _).mono ?_
 rintro e w2 ⟨rfl, hq⟩
 replace hB := below_grows hB (Nat.le_refl _) hq
 clear hq
 by_cases h1 : a < b
 ·have HE : Hid (cmpZ a b = -1) := Lib.hid (if_pos h1)
  go_wp2
  go_ret
  exact ⟨ret_int HE.out.symm, hB⟩
 ·by_cases h2 : b < a
  ·have HE : Hid (cmpZ a b = 1) := Lib.hid (by unfold cmpZ; rw [if_neg h1, if_pos h2])
   go_wp2
   go_ret
   exact ⟨ret_int HE.out.symm, hB⟩
  ·have HE : Hid (cmpZ a b = 0) := Lib.hid (by unfold cmpZ; rw [if_neg h1, if_neg h2])
   go_wp2
   go_ret
   exact ⟨ret_int HE.out.symm, hB⟩
theorem nanu_any (x : Int) (w : World) : Calls Tryz.prog 147 #[.int .u64 x] w fun e w' => e = .returned (.bool false) ∧ Grows w w' := by
 go_enter Tryz.func147, Tryz.ntmps147
 go_wp2
 go_ret
 exact ⟨rfl, Below.refl _ _⟩
theorem cmpu_any (a b : Int) (w : World) : Calls Tryz.prog 137 #[.int .u64 a, .int .u64 b] w fun e w' => e = .returned (.int .i64 (cmpZ a b)) ∧ Grows w w' := by
 go_enter Tryz.func137, Tryz.ntmps137
 go_wp2_with fail
 refine (nanu_any a _).mono ?_
 rintro e w1 ⟨rfl, hB⟩
 go_wp2_with fail
 refine (nanu_any b _).mono ?_
 rintro e w2 ⟨rfl, hq⟩
 replace hB := below_grows hB (Nat.le_refl _) hq
 clear hq
 by_cases h1 : a < b
 ·have HE : Hid (cmpZ a b = -1) := Lib.hid (if_pos h1)
  go_wp2
  go_ret
  exact ⟨ret_int HE.out.symm, hB⟩
 ·by_cases h2 : b < a
  ·have HE : Hid (cmpZ a b = 1) := Lib.hid (by unfold cmpZ; rw [if_neg h1, if_pos h2])
   go_wp2
   go_ret
   exact ⟨ret_int HE.out.symm, hB⟩
  ·have HE : Hid (cmpZ a b = 0) := Lib.hid (by unfold cmpZ; rw [if_neg h1, if_neg h2])
   go_wp2
   go_ret
   exact ⟨ret_int HE.out.symm, hB⟩
theorem or_any (A : Option Addr) (c : Nat) (l : List Int) (w : World) (h : Ints w A l) (hl : l.length ≤ 9223372036854775807) : Calls Tryz.prog 133 #[.slice A l.length c] w fun e w' => e = .returned (.int .i64 (orZ l)) ∧ Grows w w' := by
 go_enter Tryz.func133, Tryz.ntmps133
 go_wp2_with fail
 go_loopw [8] (fun i wr => ∃ k : Nat, k ≤ l.length ∧ i = .int .i64 k ∧ Hid (orZ l = orZ (l.drop k)) ∧ Grows w wr) (fun i _ => l.length - (intOf i).toNat)
 case atStart => exact ⟨0, by omega, rfl, Lib.hid rfl, Below.refl _ _⟩
 case round =>
  obtain ⟨k, hk, rfl, HF, hB⟩ := hrel
  by_cases hlt : k < l.length
  ·obtain ⟨ad, x, rfl, had, hx, q0⟩ := (h.grows hB).at_ hlt
   have HD : Hid (orZ l = if x = 0 then orZ (l.drop (k + 1)) else x) := Lib.hid (by
    obtain ⟨_, e⟩ := List.getElem?_eq_some_iff.1 hx
    rw [HF.out, List.drop_eq_getElem_cons hlt, orZ_cons, e])
   clear hx HF
   by_cases h0 : x = 0
   ·have HE : Hid (orZ l = orZ (l.drop (k + 1))) := Lib.hid (by rw [HD.out, if_pos h0])
    subst h0
    clear HD
    go_wp2
    go_roundw
    case rel => exact ⟨k + 1, by omega, by go_num, HE, hB⟩
    case measure => simp [intOf]; omega
   ·have HE : Hid (orZ l = x) := Lib.hid (by rw [HD.out, if_neg h0])
    have hne : (x != 0) = true := by simpa using h0
    clear HD h0
    go_wp2
    go_ret
    exact ⟨ret_int HE.out.symm, hB⟩
  ·have HE : Hid (orZ l = 0) := Lib.hid (by rw [HF.out, List.drop_of_length_le (by omega)]; rfl)
   go_wp2
   go_ret
   exact ⟨ret_int HE.out.symm, hB⟩
set_option maxHeartbeats 2000000 in
theorem equal_any (A B : Option Addr) (c d : Nat) (a b : List Int) (w : World) (ha : Ints w A a) (hb : Ints w B b) (hl : a.length ≤ 9223372036854775807) (_hl2 : b.length ≤ 9223372036854775807) :
 Calls Tryz.prog 116 #[.slice A a.length c, .slice B b.length d] w fun e w' => e = .returned (.bool (decide (a = b))) ∧ Grows w w' := by
 go_enter Tryz.func116, Tryz.ntmps116
 by_cases hll : a.length = b.length
 case neg =>
  have HE : Hid (decide (a = b) = false) := Lib.hid (by simp only [decide_eq_false_iff_not]; intro e; exact hll (by rw [e]))
  have hlen2 : ((a.length : Int) != (b.length : Int)) = true := by simp only [bne_iff_ne, ne_eq]; omega
  go_wp2
  go_ret
  exact ⟨ret_bool HE.out.symm, Below.refl _ _⟩
 have hlen2 : ((a.length : Int) != (b.length : Int)) = false := by simp only [bne_eq_false_iff_eq]; omega
 have HLL := Lib.hid hll
 clear hll
 go_wp2_with fail
 go_loopw [13] (fun i wr => ∃ k : Nat, k ≤ a.length ∧ i = .int .i64 k ∧ Hid (a.take k = b.take k) ∧ Grows w wr) (fun i _ => a.length - (intOf i).toNat)
 case atStart => exact ⟨0, by omega, rfl, Lib.hid rfl, Below.refl _ _⟩
 case round =>
  obtain ⟨k, hk, rfl, HF, hB⟩ := hrel
  by_cases hlt : k < a.length
  ·have hlt2 : k < b.length := by have := HLL.out; omega
   obtain ⟨ad, x, rfl, had, hx, q0⟩ := (ha.grows hB).at_ hlt
   obtain ⟨ad2, y, rfl, had2, hy, q1⟩ := (hb.grows hB).at_ hlt2
   have HX := Lib.hid hx
   have HY := Lib.hid hy
   clear hx hy
   go_upto_region 6 with fail
   by_cases hxy : x = y
   ·have HE : Hid (a.take (k + 1) = b.take (k + 1)) := Lib.hid (by rw [take_snoc HX.out, take_snoc HY.out, HF.out, hxy])
    have hn : (x != y) = false := by simpa using hxy
    clear hxy
    go_quiet (fail)
    generalize hY : World.drewN wr _ = w9 at *
    have hq : Grows wr w9 := hY ▸ grows_drewN wr _
    clear hY
    replace hB := below_grows hB (Nat.le_refl _) hq
    clear hq q0 q1
    go_wp2
    go_roundw
    case rel => exact ⟨k + 1, by omega, by go_num, HE, hB⟩
    case measure => simp [intOf]; omega
   ·have HE : Hid (decide (a = b) = false) := Lib.hid (by
     simp only [decide_eq_false_iff_not]
     intro e
     have h1 := HX.out
     rw [e, HY.out] at h1
     injection h1 with h1
     exact hxy h1.symm)
    have hn : (x != y) = true := by simpa using hxy
    clear hxy
    go_quiet (fail)
    generalize hY : World.drewN wr _ = w9 at *
    have hq : Grows wr w9 := hY ▸ grows_drewN wr _
    clear hY
    replace hB := below_grows hB (Nat.le_refl _) hq
    clear hq q0 q1
    go_wp2
    go_ret
    exact ⟨ret_bool HE.out.symm, hB⟩
  ·have HE : Hid (decide (a = b) = true) := Lib.hid (by
    simp only [decide_eq_true_eq]
    have h1 := HF.out
    have h2 := HLL.out
    rwa [List.take_of_length_le (by omega), List.take_of_length_le (by omega)] at h1)
   go_wp2
   go_ret
   exact ⟨ret_bool HE.out.symm, hB⟩
set_option maxHeartbeats 2000000 in
theorem rsame6_any (A B : Option Addr) (c d : Nat) (a b : List Int) (w : World) (ha : Ints w A a) (hb : Ints w B b) (hl : a.length ≤ 9223372036854775807) (_hl2 : b.length ≤ 9223372036854775807) :
 Calls Tryz.prog 78 #[.slice A a.length c, .slice B b.length d] w fun e w' => e = .returned (.bool (decide (a = b))) ∧ Grows w w' := by
 go_enter Tryz.func78, Tryz.ntmps78
 by_cases hll : a.length = b.length
 case neg =>
  have HE : Hid (decide (a = b) = false) := Lib.hid (by simp only [decide_eq_false_iff_not]; intro e; exact hll (by rw [e]))
  have hlen2 : ((a.length : Int) != (b.length : Int)) = true := by simp only [bne_iff_ne, ne_eq]; omega
  go_wp2
  go_ret
  exact ⟨ret_bool HE.out.symm, Below.refl _ _⟩
 have hlen2 : ((a.length : Int) != (b.length : Int)) = false := by simp only [bne_eq_false_iff_eq]; omega
 have HLL := Lib.hid hll
 clear hll
 go_wp2_with fail
 go_loopw [13] (fun i wr => ∃ k : Nat, k ≤ a.length ∧ i = .int .i64 k ∧ Hid (a.take k = b.take k) ∧ Grows w wr) (fun i _ => a.length - (intOf i).toNat)
 case atStart => exact ⟨0, by omega, rfl, Lib.hid rfl, Below.refl _ _⟩
 case round =>
  obtain ⟨k, hk, rfl, HF, hB⟩ := hrel
  by_cases hlt : k < a.length
  ·have hlt2 : k < b.length := by have := HLL.out; omega
   obtain ⟨ad, x, rfl, had, hx, q0⟩ := (ha.grows hB).at_ hlt
   obtain ⟨ad2, y, rfl, had2, hy, q1⟩ := (hb.grows hB).at_ hlt2
   have HX := Lib.hid hx
   have HY := Lib.hid hy
   clear hx hy
   go_upto_region 6 with fail
   by_cases hxy : x = y
   ·have HE : Hid (a.take (k + 1) = b.take (k + 1)) := Lib.hid (by rw [take_snoc HX.out, take_snoc HY.out, HF.out, hxy])
    have hn : (x != y) = false := by simpa using hxy
    clear hxy
    go_quiet (fail)
    generalize hY : World.drewN wr _ = w9 at *
    have hq : Grows wr w9 := hY ▸ grows_drewN wr _
    clear hY
    replace hB := below_grows hB (Nat.le_refl _) hq
    clear hq q0 q1
    go_wp2
    go_roundw
    case rel => exact ⟨k + 1, by omega, by go_num, HE, hB⟩
    case measure => simp [intOf]; omega
   ·have HE : Hid (decide (a = b) = false) := Lib.hid (by
     simp only [decide_eq_false_iff_not]
     intro e
     have h1 := HX.out
     rw [e, HY.out] at h1
     injection h1 with h1
     exact hxy h1.symm)
    have hn : (x != y) = true := by simpa using hxy
    clear hxy
    go_quiet (fail)
    generalize hY : World.drewN wr _ = w9 at *
    have hq : Grows wr w9 := hY ▸ grows_drewN wr _
    clear hY
    replace hB := below_grows hB (Nat.le_refl _) hq
    clear hq q0 q1
    go_wp2
    go_ret
    exact ⟨ret_bool HE.out.symm, hB⟩
  ·have HE : Hid (decide (a = b) = true) := Lib.hid (by
    simp only [decide_eq_true_eq]
    have h1 := HF.out
    have h2 := HLL.out
    rwa [List.take_of_length_le (by omega), List.take_of_length_le (by omega)] at h1)
   go_wp2
   go_ret
   exact ⟨ret_bool HE.out.symm, hB⟩
theorem psame_any (A B : Option Addr) (c d : Nat) (a b : List Int) (w : World) (ha : Ints w A a) (hb : Ints w B b) (hl : a.length ≤ 9223372036854775807) (hl2 : b.length ≤ 9223372036854775807) :
 Calls Tryz.prog 77 #[.slice A a.length c, .slice B b.length d] w fun e w' => e = .returned (.bool (decide (a = b))) ∧ Grows w w' := by
 go_enter Tryz.func77, Tryz.ntmps77
 go_wp2_with fail
 refine (equal_any A B c d a b _ ha hb hl hl2).mono ?_
 rintro e w1 ⟨rfl, hB⟩
 go_wp2
 go_ret
 exact ⟨rfl, hB⟩
set_option maxHeartbeats 2000000 in
theorem index_any (A : Option Addr) (c : Nat) (m : List Int) (p : Int) (w : World) (h : Ints w A m) (hl : m.length ≤ 9223372036854775807) : Calls Tryz.prog 145 #[.slice A m.length c, .int .i64 p] w fun e w' => e = .returned (.int .i64 (idxZ m p)) ∧ Grows w w' := by
 go_enter Tryz.func145, Tryz.ntmps145
 go_wp2_with fail
 go_loopw [8] (fun i wr => ∃ k : Nat, k ≤ m.length ∧ i = .int .i64 k ∧ Hid (∀ y ∈ m.take k, y ≠ p) ∧ Grows w wr) (fun i _ => m.length - (intOf i).toNat)
 case atStart => exact ⟨0, by omega, rfl, Lib.hid (by simp), Below.refl _ _⟩
 case round =>
  obtain ⟨k, hk, rfl, HF, hB⟩ := hrel
  by_cases hlt : k < m.length
  ·obtain ⟨ad, x, rfl, had, hx, q0⟩ := (h.grows hB).at_ hlt
   by_cases hxp : x = p
   ·subst hxp
    have HE : Hid (idxZ m x = (k : Int)) := Lib.hid (idx_found HF.out hx)
    clear hx HF
    go_wp2
    go_ret
    exact ⟨ret_int HE.out.symm, hB⟩
   ·have HE : Hid (∀ y ∈ m.take (k + 1), y ≠ p) := Lib.hid (idx_next HF.out hx hxp)
    have h1 : (x == p) = false := by simpa using hxp
    have h2 : (p == x) = false := by simpa using fun e : p = x => hxp e.symm
    clear hx HF hxp
    go_wp2
    go_roundw
    case rel => exact ⟨k + 1, by omega, by go_num, HE, hB⟩
    case measure => simp [intOf]; omega
  ·have HE : Hid (idxZ m p = -1) := Lib.hid (idx_not (by have := HF.out; rwa [List.take_of_length_le (by omega)] at this))
   go_wp2
   go_ret
   exact ⟨ret_int HE.out.symm, hB⟩
set_option maxHeartbeats 2000000 in
theorem rindex6_any (A : Option Addr) (c : Nat) (m : List Int) (p : Int) (w : World) (h : Ints w A m) (hl : m.length ≤ 9223372036854775807) : Calls Tryz.prog 124 #[.slice A m.length c, .int .i64 p] w fun e w' => e = .returned (.int .i64 (idxZ m p)) ∧ Grows w w' := by
 go_enter Tryz.func124, Tryz.ntmps124
 go_wp2_with fail
 go_loopw [9] (fun i wr => ∃ k : Nat, k ≤ m.length ∧ i = .int .i64 k ∧ Hid (∀ y ∈ m.take k, y ≠ p) ∧ Grows w wr) (fun i _ => m.length - (intOf i).toNat)
 case atStart => exact ⟨0, by omega, rfl, Lib.hid (by simp), Below.refl _ _⟩
 case round =>
  obtain ⟨k, hk, rfl, HF, hB⟩ := hrel
  by_cases hlt : k < m.length
  ·obtain ⟨ad, x, rfl, had, hx, q0⟩ := (h.grows hB).at_ hlt
   by_cases hxp : x = p
   ·subst hxp
    have HE : Hid (idxZ m x = (k : Int)) := Lib.hid (idx_found HF.out hx)
    clear hx HF
    go_wp2
    go_ret
    exact ⟨ret_int HE.out.symm, hB⟩
   ·have HE : Hid (∀ y ∈ m.take (k + 1), y ≠ p) := Lib.hid (idx_next HF.out hx hxp)
    have h1 : (x == p) = false := by simpa using hxp
    have h2 : (p == x) = false := by simpa using fun e : p = x => hxp e.symm
    clear hx HF hxp
    go_wp2
    go_roundw
    case rel => exact ⟨k + 1, by omega, by go_num, HE, hB⟩
    case measure => simp [intOf]; omega
  ·have HE : Hid (idxZ m p = -1) := Lib.hid (idx_not (by have := HF.out; rwa [List.take_of_length_le (by omega)] at this))
   go_wp2
   go_ret
   exact ⟨ret_int HE.out.symm, hB⟩
theorem contains_any (A : Option Addr) (c : Nat) (m : List Int) (p : Int) (w : World) (h : Ints w A m) (hl : m.length ≤ 9223372036854775807) : Calls Tryz.prog 123 #[.slice A m.length c, .int .i64 p] w fun e w' => e = .returned (.bool (decide (p ∈ m))) ∧ Grows w w' := by
 rw [← idxZ_has]
 go_enter Tryz.func123, Tryz.ntmps123
 go_wp2_with fail
 refine (index_any A c m p _ h hl).mono ?_
 rintro e w1 ⟨rfl, hB⟩
 go_wp2
 go_ret
 exact ⟨rfl, hB⟩
set_option maxHeartbeats 4000000 in
theorem pcommon_any (A B : Option Addr) (c d : Nat) (a b : List Int) (w : World) (ha : Ints w A a) (hb : Ints w B b) (hl : a.length ≤ 1000000) (hl2 : b.length ≤ 9223372036854775807) :
 Calls Tryz.prog 135 #[.slice A a.length c, .slice B b.length d] w fun e w' => (∃ v, e = .returned v ∧ OwnI w' w.heap.size v (commonL a b)) ∧ Grows w w' := by
 go_enter Tryz.func135, Tryz.ntmps135
 go_wp2_with fail
 go_loopw [5, 10] (fun v i wr => ∃ k : Nat, k ≤ a.length ∧ i = .int .i64 k ∧ OwnI wr w.heap.size v (commonL (a.take k) b) ∧ Below w.heap.size w wr) (fun _ i _ => a.length - (intOf i).toNat)
 case atStart => exact ⟨0, by omega, rfl, ownI_nil _ _, Below.refl _ _⟩
 case round =>
  obtain ⟨k, hk, rfl, ho, hB⟩ := hrel
  by_cases hlt : k < a.length
  ·obtain ⟨ad, x, rfl, had, hx, q0⟩ := (ha.grows hB).at_ hlt
   have HS := Lib.hid (common_snoc (b := b) hx)
   clear hx
   go_wp2_with fail
   refine (contains_any B d b x _ (hb.grows hB) hl2).mono ?_
   rintro e w1 ⟨rfl, hq⟩
   replace hB := below_grows hB (Nat.le_refl _) hq
   replace ho := ho.grows hq
   clear hq q0
   by_cases hxb : x ∈ b
   ·have h1 : decide (x ∈ b) = true := by simpa using hxb
    have h2 : decide (0 ≤ idxZ b x) = true := by rw [idxZ_has, h1]
    have HS2 : Hid (commonL (a.take (k + 1)) b = commonL (a.take k) b ++ [x]) := Lib.hid (by rw [HS.out, if_pos hxb])
    have hcl := common_len (a.take k) b
    rw [List.length_take] at hcl
    clear hxb HS
    generalize commonL (a.take k) b = q at *
    go_upto_region 6 with fail
    refine wp_region_lit ?_
    iterate 2
     refine wpList_plain rfl (fun K hK => ?_)
     go_simp
     refine hK _ _ ?_
     clear hK K
    have hr := ints_lits w1 [x] #[.int .i64 x] 3 rfl
    have hq := (Below.refl w1.heap.size w1).alloc (Nat.le_refl _) (Obj.cells #[.int .i64 x] 3)
    iterate 1
     refine wpList_plain rfl (fun K hK => ?_)
     go_simp
     refine hK _ _ ?_
     clear hK K
    have ho1 := ho.grows hq
    refine wpList_append_int rfl (.tmp 17) (.tmp 19) rfl (l := q) (m := [x]) rfl rfl ho1 rfl hr (by simp only [List.length_cons, List.length_nil]; omega) (Nat.le_trans hB.size hq.size) ?_
    intro v5 w12 ho2 hgr _
    have hB2 := ho1.below (below_grows hB (Nat.le_refl _) hq) hgr (Nat.le_trans hB.size hq.size)
    clear hq hgr ho ho1 hB hr
    rw [← HS2.out] at ho2
    go_wp2
    go_roundw
    case rel => exact ⟨k + 1, by omega, by go_num, ho2, hB2⟩
    case measure => simp [intOf]; omega
   ·have h1 : decide (x ∈ b) = false := by simpa using hxb
    have h2 : decide (0 ≤ idxZ b x) = false := by rw [idxZ_has, h1]
    have HS2 : Hid (commonL (a.take (k + 1)) b = commonL (a.take k) b) := Lib.hid (by rw [HS.out, if_neg hxb, List.append_nil])
    clear hxb HS
    rw [← HS2.out] at ho
    go_wp2
    go_roundw
    case rel => exact ⟨k + 1, by omega, by go_num, ho, hB⟩
    case measure => simp [intOf]; omega
  ·rw [List.take_of_length_le (by omega)] at ho
   go_wp2
   go_ret
   exact ⟨⟨_, rfl, ho⟩, hB⟩
set_option maxHeartbeats 4000000 in
theorem rcommon6_any (A B : Option Addr) (c d : Nat) (a b : List Int) (w : World) (ha : Ints w A a) (hb : Ints w B b) (hl : a.length ≤ 1000000) (hl2 : b.length ≤ 9223372036854775807) :
 Calls Tryz.prog 128 #[.slice A a.length c, .slice B b.length d] w fun e w' => (∃ v, e = .returned v ∧ OwnI w' w.heap.size v (commonL a b)) ∧ Grows w w' := by
 go_enter Tryz.func128, Tryz.ntmps128
 go_wp2_with fail
 go_loopw [5, 10] (fun v i wr => ∃ k : Nat, k ≤ a.length ∧ i = .int .i64 k ∧ OwnI wr w.heap.size v (commonL (a.take k) b) ∧ Below w.heap.size w wr) (fun _ i _ => a.length - (intOf i).toNat)
 case atStart => exact ⟨0, by omega, rfl, ownI_nil _ _, Below.refl _ _⟩
 case round =>
  obtain ⟨k, hk, rfl, ho, hB⟩ := hrel
  by_cases hlt : k < a.length
  ·obtain ⟨ad, x, rfl, had, hx, q0⟩ := (ha.grows hB).at_ hlt
   have HS := Lib.hid (common_snoc (b := b) hx)
   clear hx
   go_wp2_with fail
   refine (rindex6_any B d b x _ (hb.grows hB) hl2).mono ?_
   rintro e w1 ⟨rfl, hq⟩
   replace hB := below_grows hB (Nat.le_refl _) hq
   replace ho := ho.grows hq
   clear hq q0
   by_cases hxb : x ∈ b
   ·have h1 : decide (x ∈ b) = true := by simpa using hxb
    have h2 : decide (0 ≤ idxZ b x) = true := by rw [idxZ_has, h1]
    have HS2 : Hid (commonL (a.take (k + 1)) b = commonL (a.take k) b ++ [x]) := Lib.hid (by rw [HS.out, if_pos hxb])
    have hcl := common_len (a.take k) b
    rw [List.length_take] at hcl
    clear hxb HS
    generalize commonL (a.take k) b = q at *
    go_upto_region 6 with fail
    refine wp_region_lit ?_
    iterate 2
     refine wpList_plain rfl (fun K hK => ?_)
     go_simp
     refine hK _ _ ?_
     clear hK K
    have hr := ints_lits w1 [x] #[.int .i64 x] 3 rfl
    have hq := (Below.refl w1.heap.size w1).alloc (Nat.le_refl _) (Obj.cells #[.int .i64 x] 3)
    iterate 1
     refine wpList_plain rfl (fun K hK => ?_)
     go_simp
     refine hK _ _ ?_
     clear hK K
    have ho1 := ho.grows hq
    refine wpList_append_int rfl (.tmp 18) (.tmp 20) rfl (l := q) (m := [x]) rfl rfl ho1 rfl hr (by simp only [List.length_cons, List.length_nil]; omega) (Nat.le_trans hB.size hq.size) ?_
    intro v5 w12 ho2 hgr _
    have hB2 := ho1.below (below_grows hB (Nat.le_refl _) hq) hgr (Nat.le_trans hB.size hq.size)
    clear hq hgr ho ho1 hB hr
    rw [← HS2.out] at ho2
    go_wp2
    go_roundw
    case rel => exact ⟨k + 1, by omega, by go_num, ho2, hB2⟩
    case measure => simp [intOf]; omega
   ·have h1 : decide (x ∈ b) = false := by simpa using hxb
    have h2 : decide (0 ≤ idxZ b x) = false := by rw [idxZ_has, h1]
    have HS2 : Hid (commonL (a.take (k + 1)) b = commonL (a.take k) b) := Lib.hid (by rw [HS.out, if_neg hxb, List.append_nil])
    clear hxb HS
    rw [← HS2.out] at ho
    go_wp2
    go_roundw
    case rel => exact ⟨k + 1, by omega, by go_num, ho, hB⟩
    case measure => simp [intOf]; omega
  ·rw [List.take_of_length_le (by omega)] at ho
   go_wp2
   go_ret
   exact ⟨⟨_, rfl, ho⟩, hB⟩
end Go.Proofs.YtjbkjgmcfommgaaGreat

namespace Go.Proofs.YtjbkjgmcfommgaaGreat
open Go.RowKit
def I64 (n : Int) : Prop := -9223372036854775808 ≤ n ∧ n ≤ 9223372036854775807
def closerF (want a b : Int) : Int := orZ [cmpZ (farD a want) (farD b want), cmpZ a b]
theorem closer_eq (want a b : Int) : closerF want a b = if cmpZ (farD a want) (farD b want) = 0 then cmpZ a b else cmpZ (farD a want) (farD b want) := by
 unfold closerF
 rw [orZ_cons, orZ_cons]
 by_cases h : cmpZ a b = 0
 ·rw [if_pos h, h]
  rfl
 ·rw [if_neg h]
def kindZ (want a b : Int) : Int := if a = b then 0 else if a = want ∨ (b ≠ want ∧ b < a) then -1 else 1
def lexZ : List Int → List Int → Int
 | [], [] => 0
 | [], _ :: _ => -1
 | _ :: _, [] => 1
 | x :: a, y :: b => if cmpZ x y = 0 then lexZ a b else cmpZ x y
def mapsF (want a b : List Int) : Int :=
 if decide (a = want) = decide (b = want) then orZ [cmpZ ((commonL want b).length : Int) ((commonL want a).length : Int), cmpZ (a.length : Int) (b.length : Int), lexZ a b] else if a = want then -1 else 1
structure Ch where
 k : Int
 r : Int
 m : List Int
 s : Int
deriving DecidableEq
def OKC (c : Ch) : Prop := I64 c.r ∧ I64 c.s ∧ c.m.length ≤ 1000000
def cmpL (want a b : Ch) : List Int := [kindZ want.k a.k b.k, closerF want.r a.r b.r, mapsF want.m a.m b.m, closerF want.s a.s b.s]
def cmpF (want a b : Ch) : Int := orZ (cmpL want a b)
theorem odist_any (a b : Int) (w : World) (ha : -9223372036854775808 ≤ a ∧ a ≤ 9223372036854775807) (hb : -9223372036854775808 ≤ b ∧ b ≤ 9223372036854775807) : Calls Tryz.prog 138 #[.int .i64 a, .int .i64 b] w fun e w' => e = .returned (.int .u64 (farD a b)) ∧ Grows w w' := by
 by_cases h1 : a < b
 ·have hu := u64_sub b a (by omega)
  have HE : Hid (farD a b = b - a) := Lib.hid (if_pos h1)
  go_enter Tryz.func138, Tryz.ntmps138
  go_wp2
  go_ret
  exact ⟨ret_int HE.out.symm, Below.refl _ _⟩
 ·have hu := u64_sub a b (by omega)
  have HE : Hid (farD a b = a - b) := Lib.hid (if_neg h1)
  go_enter Tryz.func138, Tryz.ntmps138
  go_wp2
  go_ret
  exact ⟨ret_int HE.out.symm, Below.refl _ _⟩
theorem raway10_any (a b : Int) (w : World) (ha : -9223372036854775808 ≤ a ∧ a ≤ 9223372036854775807) (hb : -9223372036854775808 ≤ b ∧ b ≤ 9223372036854775807) : Calls Tryz.prog 129 #[.int .i64 a, .int .i64 b] w fun e w' => e = .returned (.int .u64 (farD a b)) ∧ Grows w w' := by
 by_cases h1 : b < a
 ·have hu := u64_sub a b (by omega)
  have HE : Hid (farD a b = a - b) := Lib.hid (if_neg (by omega))
  go_enter Tryz.func129, Tryz.ntmps129
  go_wp2
  go_ret
  exact ⟨ret_int HE.out.symm, Below.refl _ _⟩
 ·have hu := u64_sub b a (by omega)
  have HE : Hid (farD a b = b - a) := Lib.hid (by unfold farD; split <;> omega)
  go_enter Tryz.func129, Tryz.ntmps129
  go_wp2
  go_ret
  exact ⟨ret_int HE.out.symm, Below.refl _ _⟩
theorem closer_any (want a b : Int) (w : World) (hw : I64 want) (ha : I64 a) (hb : I64 b) : Calls Tryz.prog 107 #[.int .i64 want, .int .i64 a, .int .i64 b] w fun e w' => e = .returned (.int .i64 (closerF want a b)) ∧ Grows w w' := by
 have hB := Below.refl w.heap.size w
 go_enter Tryz.func107, Tryz.ntmps107
 go_wp2_with fail
 refine (odist_any a want _ ha hw).mono ?_
 rintro e w1 ⟨rfl, hq⟩
 replace hB := below_grows hB (Nat.le_refl _) hq
 clear hq
 go_wp2_with fail
 refine (odist_any b want _ hb hw).mono ?_
 rintro e w2 ⟨rfl, hq⟩
 replace hB := below_grows hB (Nat.le_refl _) hq
 clear hq
 go_wp2_with fail
 refine (cmpu_any (farD a want) (farD b want) _).mono ?_
 rintro e w3 ⟨rfl, hq⟩
 replace hB := below_grows hB (Nat.le_refl _) hq
 clear hq
 go_wp2_with fail
 refine (cmpi_any a b _).mono ?_
 rintro e w4 ⟨rfl, hq⟩
 replace hB := below_grows hB (Nat.le_refl _) hq
 clear hq
 have hL := ints_lits w4 [cmpZ (farD a want) (farD b want), cmpZ a b] #[.int .i64 (cmpZ (farD a want) (farD b want)), .int .i64 (cmpZ a b)] 3 rfl
 replace hB := below_grows hB (Nat.le_refl _) ((Below.refl w4.heap.size w4).alloc (Nat.le_refl _) (Obj.cells #[.int .i64 (cmpZ (farD a want) (farD b want)), .int .i64 (cmpZ a b)] 3))
 go_wp2_with fail
 refine (or_any _ 2 [cmpZ (farD a want) (farD b want), cmpZ a b] _ hL (by simp)).mono ?_
 rintro e w5 ⟨rfl, hq⟩
 replace hB := below_grows hB (Nat.le_refl _) hq
 clear hq
 go_wp2
 go_ret
 exact ⟨rfl, hB⟩
set_option maxHeartbeats 4000000 in
theorem lex_any (A B : Option Addr) (c d : Nat) (a b : List Int) (w : World) (ha : Ints w A a) (hb : Ints w B b) (hl : a.length ≤ 9223372036854775807) (hl2 : b.length ≤ 9223372036854775807) :
 Calls Tryz.prog 136 #[.slice A a.length c, .slice B b.length d] w fun e w' => e = .returned (.int .i64 (lexZ a b)) ∧ Grows w w' := by
 go_enter Tryz.func136, Tryz.ntmps136
 go_wp2_with fail
 go_loopw [11] (fun i wr => ∃ k : Nat, k ≤ a.length ∧ k ≤ b.length ∧ i = .int .i64 k ∧ Hid (lexZ a b = lexZ (a.drop k) (b.drop k)) ∧ Grows w wr) (fun i _ => a.length - (intOf i).toNat)
 case atStart => exact ⟨0, by omega, by omega, rfl, Lib.hid rfl, Below.refl _ _⟩
 case round =>
  obtain ⟨k, hk, hk2, rfl, HF, hB⟩ := hrel
  by_cases hlt : k < a.length
  ·obtain ⟨ad, x, rfl, had, hx, q0⟩ := (ha.grows hB).at_ hlt
   by_cases hlt2 : k < b.length
   case neg =>
    have HE : Hid (lexZ a b = 1) := Lib.hid (by
     rw [HF.out, List.drop_eq_getElem_cons hlt, List.drop_of_length_le (show b.length ≤ k by omega)]
     rfl)
    have h1 : decide ((b.length : Int) ≤ (k : Int)) = true := by simp only [decide_eq_true_eq]; omega
    clear hx HF
    go_wp2
    go_ret
    exact ⟨ret_int HE.out.symm, hB⟩
   obtain ⟨ad2, y, rfl, had2, hy, q1⟩ := (hb.grows hB).at_ hlt2
   have HD : Hid (lexZ a b = if cmpZ x y = 0 then lexZ (a.drop (k + 1)) (b.drop (k + 1)) else cmpZ x y) := Lib.hid (by
    obtain ⟨_, e1⟩ := List.getElem?_eq_some_iff.1 hx
    obtain ⟨_, e2⟩ := List.getElem?_eq_some_iff.1 hy
    rw [HF.out, List.drop_eq_getElem_cons hlt, List.drop_eq_getElem_cons hlt2, e1, e2]
    rfl)
   have h1 : decide ((b.length : Int) ≤ (k : Int)) = false := by simp only [decide_eq_false_iff_not]; omega
   clear hx hy HF
   go_wp2_with fail
   refine (cmpi_any x y _).mono ?_
   rintro e w1 ⟨rfl, hq⟩
   replace hB := below_grows hB (Nat.le_refl _) hq
   clear hq q0 q1
   by_cases h0 : cmpZ x y = 0
   ·have HE : Hid (lexZ a b = lexZ (a.drop (k + 1)) (b.drop (k + 1))) := Lib.hid (by rw [HD.out, if_pos h0])
    clear HD
    rw [h0]
    clear h0
    go_wp2
    go_roundw
    case rel => exact ⟨k + 1, by omega, by omega, by go_num, HE, hB⟩
    case measure => simp [intOf]; omega
   ·have HE : Hid (lexZ a b = cmpZ x y) := Lib.hid (by rw [HD.out, if_neg h0])
    have hne : (cmpZ x y != 0) = true := by simpa using h0
    clear HD h0
    go_wp2
    go_ret
    exact ⟨ret_int HE.out.symm, hB⟩
  ·by_cases h2 : a.length < b.length
   ·have HE : Hid (lexZ a b = -1) := Lib.hid (by
     rw [HF.out, List.drop_of_length_le (show a.length ≤ k by omega), List.drop_eq_getElem_cons (show k < b.length by omega)]
     rfl)
    have h1 : decide ((a.length : Int) < (b.length : Int)) = true := by simp only [decide_eq_true_eq]; omega
    clear HF
    go_wp2
    go_ret
    exact ⟨ret_int HE.out.symm, hB⟩
   ·have HE : Hid (lexZ a b = 0) := Lib.hid (by
     rw [HF.out, List.drop_of_length_le (show a.length ≤ k by omega), List.drop_of_length_le (show b.length ≤ k by omega)]
     rfl)
    have h1 : decide ((a.length : Int) < (b.length : Int)) = false := by simp only [decide_eq_false_iff_not]; omega
    clear HF
    go_wp2
    go_ret
    exact ⟨ret_int HE.out.symm, hB⟩
set_option maxHeartbeats 8000000 in
theorem maps_any (I A B : Option Addr) (ci c d : Nat) (want a b : List Int) (w : World) (hi : Ints w I want) (ha : Ints w A a) (hb : Ints w B b) (hlw : want.length ≤ 1000000) (hl : a.length ≤ 9223372036854775807) (hl2 : b.length ≤ 9223372036854775807) :
 Calls Tryz.prog 104 #[.slice I want.length ci, .slice A a.length c, .slice B b.length d] w fun e w' => e = .returned (.int .i64 (mapsF want a b)) ∧ Grows w w' := by
 have hB := Below.refl w.heap.size w
 have hlw2 : want.length ≤ 9223372036854775807 := by omega
 go_enter Tryz.func104, Tryz.ntmps104
 go_wp2_with fail
 refine (psame_any A I c ci a want _ ha hi hl hlw2).mono ?_
 rintro e w1 ⟨rfl, hq⟩
 replace hB := below_grows hB (Nat.le_refl _) hq
 replace hi := hi.grows hq
 replace ha := ha.grows hq
 replace hb := hb.grows hq
 clear hq
 go_wp2_with fail
 refine (psame_any B I d ci b want _ hb hi hl2 hlw2).mono ?_
 rintro e w2 ⟨rfl, hq⟩
 replace hB := below_grows hB (Nat.le_refl _) hq
 replace hi := hi.grows hq
 replace ha := ha.grows hq
 replace hb := hb.grows hq
 clear hq
 by_cases e1 : a = want
 ·by_cases e2 : b = want
  ·have HE : Hid (mapsF want a b = orZ [cmpZ ((commonL want b).length : Int) ((commonL want a).length : Int), cmpZ (a.length : Int) (b.length : Int), lexZ a b]) := Lib.hid (by unfold mapsF; rw [if_pos (by simp [e1, e2])])
   rw [decide_eq_true e1, decide_eq_true e2]
   clear e1 e2
   go_wp2_with fail
   refine (pcommon_any I B ci d want b _ hi hb hlw hl2).mono ?_
   rintro e w3 ⟨⟨v3, rfl, ho3⟩, hq⟩
   replace hB := below_grows hB (Nat.le_refl _) hq
   replace hi := hi.grows hq
   replace ha := ha.grows hq
   replace hb := hb.grows hq
   clear hq
   obtain ⟨A3, c3, rfl, -, -⟩ := ho3.read
   clear ho3
   go_wp2_with fail
   refine (pcommon_any I A ci c want a _ hi ha hlw hl).mono ?_
   rintro e w4 ⟨⟨v4, rfl, ho4⟩, hq⟩
   replace hB := below_grows hB (Nat.le_refl _) hq
   replace hi := hi.grows hq
   replace ha := ha.grows hq
   replace hb := hb.grows hq
   clear hq
   obtain ⟨A4, c4, rfl, -, -⟩ := ho4.read
   clear ho4
   go_wp2_with fail
   refine (cmpi_any ((commonL want b).length : Int) ((commonL want a).length : Int) _).mono ?_
   rintro e w5 ⟨rfl, hq⟩
   replace hB := below_grows hB (Nat.le_refl _) hq
   replace hi := hi.grows hq
   replace ha := ha.grows hq
   replace hb := hb.grows hq
   clear hq
   go_wp2_with fail
   refine (cmpi_any (a.length : Int) (b.length : Int) _).mono ?_
   rintro e w6 ⟨rfl, hq⟩
   replace hB := below_grows hB (Nat.le_refl _) hq
   replace hi := hi.grows hq
   replace ha := ha.grows hq
   replace hb := hb.grows hq
   clear hq
   go_wp2_with fail
   refine (lex_any A B c d a b _ ha hb hl hl2).mono ?_
   rintro e w7 ⟨rfl, hq⟩
   replace hB := below_grows hB (Nat.le_refl _) hq
   replace hi := hi.grows hq
   replace ha := ha.grows hq
   replace hb := hb.grows hq
   clear hq
   generalize cmpZ ((commonL want b).length : Int) ((commonL want a).length : Int) = z1 at *
   generalize cmpZ (a.length : Int) (b.length : Int) = z2 at *
   generalize lexZ a b = z3 at *
   have hL := ints_lits w7 [z1, z2, z3] #[.int .i64 z1, .int .i64 z2, .int .i64 z3] 3 rfl
   replace hB := below_grows hB (Nat.le_refl _) ((Below.refl w7.heap.size w7).alloc (Nat.le_refl _) (Obj.cells #[.int .i64 z1, .int .i64 z2, .int .i64 z3] 3))
   go_wp2_with fail
   refine (or_any _ 3 [z1, z2, z3] _ hL (by simp)).mono ?_
   rintro e w8 ⟨rfl, hq⟩
   replace hB := below_grows hB (Nat.le_refl _) hq
   clear hq
   go_wp2
   go_ret
   exact ⟨ret_int HE.out.symm, hB⟩
  ·have HE : Hid (mapsF want a b = -1) := Lib.hid (by unfold mapsF; rw [if_neg (by simp [e1, e2]), if_pos e1])
   rw [decide_eq_true e1, decide_eq_false e2]
   clear e1 e2
   go_wp2
   go_ret
   exact ⟨ret_int HE.out.symm, hB⟩
 ·by_cases e2 : b = want
  ·have HE : Hid (mapsF want a b = 1) := Lib.hid (by unfold mapsF; rw [if_neg (by simp [e1, e2]), if_neg e1])
   rw [decide_eq_false e1, decide_eq_true e2]
   clear e1 e2
   go_wp2
   go_ret
   exact ⟨ret_int HE.out.symm, hB⟩
  ·have HE : Hid (mapsF want a b = orZ [cmpZ ((commonL want b).length : Int) ((commonL want a).length : Int), cmpZ (a.length : Int) (b.length : Int), lexZ a b]) := Lib.hid (by unfold mapsF; rw [if_pos (by simp [e1, e2])])
   rw [decide_eq_false e1, decide_eq_false e2]
   clear e1 e2
   go_wp2_with fail
   refine (pcommon_any I B ci d want b _ hi hb hlw hl2).mono ?_
   rintro e w3 ⟨⟨v3, rfl, ho3⟩, hq⟩
   replace hB := below_grows hB (Nat.le_refl _) hq
   replace hi := hi.grows hq
   replace ha := ha.grows hq
   replace hb := hb.grows hq
   clear hq
   obtain ⟨A3, c3, rfl, -, -⟩ := ho3.read
   clear ho3
   go_wp2_with fail
   refine (pcommon_any I A ci c want a _ hi ha hlw hl).mono ?_
   rintro e w4 ⟨⟨v4, rfl, ho4⟩, hq⟩
   replace hB := below_grows hB (Nat.le_refl _) hq
   replace hi := hi.grows hq
   replace ha := ha.grows hq
   replace hb := hb.grows hq
   clear hq
   obtain ⟨A4, c4, rfl, -, -⟩ := ho4.read
   clear ho4
   go_wp2_with fail
   refine (cmpi_any ((commonL want b).length : Int) ((commonL want a).length : Int) _).mono ?_
   rintro e w5 ⟨rfl, hq⟩
   replace hB := below_grows hB (Nat.le_refl _) hq
   replace hi := hi.grows hq
   replace ha := ha.grows hq
   replace hb := hb.grows hq
   clear hq
   go_wp2_with fail
   refine (cmpi_any (a.length : Int) (b.length : Int) _).mono ?_
   rintro e w6 ⟨rfl, hq⟩
   replace hB := below_grows hB (Nat.le_refl _) hq
   replace hi := hi.grows hq
   replace ha := ha.grows hq
   replace hb := hb.grows hq
   clear hq
   go_wp2_with fail
   refine (lex_any A B c d a b _ ha hb hl hl2).mono ?_
   rintro e w7 ⟨rfl, hq⟩
   replace hB := below_grows hB (Nat.le_refl _) hq
   replace hi := hi.grows hq
   replace ha := ha.grows hq
   replace hb := hb.grows hq
   clear hq
   generalize cmpZ ((commonL want b).length : Int) ((commonL want a).length : Int) = z1 at *
   generalize cmpZ (a.length : Int) (b.length : Int) = z2 at *
   generalize lexZ a b = z3 at *
   have hL := ints_lits w7 [z1, z2, z3] #[.int .i64 z1, .int .i64 z2, .int .i64 z3] 3 rfl
   replace hB := below_grows hB (Nat.le_refl _) ((Below.refl w7.heap.size w7).alloc (Nat.le_refl _) (Obj.cells #[.int .i64 z1, .int .i64 z2, .int .i64 z3] 3))
   go_wp2_with fail
   refine (or_any _ 3 [z1, z2, z3] _ hL (by simp)).mono ?_
   rintro e w8 ⟨rfl, hq⟩
   replace hB := below_grows hB (Nat.le_refl _) hq
   clear hq
   go_wp2
   go_ret
   exact ⟨ret_int HE.out.symm, hB⟩
theorem test1_any {I A B : Option Addr} {ci c d : Nat} {want a b : Ch} {Gw Ga Gb : Nat} {w : World} (kw : Blk w Gw 42 #[.int .i64 want.k, .int .i64 want.r, .slice I want.m.length ci, .int .i64 want.s]) (ka : Blk w Ga 42 #[.int .i64 a.k, .int .i64 a.r, .slice A a.m.length c, .int .i64 a.s]) (kb : Blk w Gb 42 #[.int .i64 b.k, .int .i64 b.r, .slice B b.m.length d, .int .i64 b.s]) : Calls Tryz.prog 105 #[.pointer (some ⟨Ga, 0, none⟩), .pointer (some ⟨Gb, 0, none⟩), .pointer (some ⟨Gw, 0, none⟩)] w fun e w' => e = .returned (.int .i64 (kindZ want.k a.k b.k)) ∧ Grows w w' := by
 have xw := kw.cell
 have xa := ka.cell
 have xb := kb.cell
 go_enter Tryz.func105, Tryz.ntmps105
 by_cases h1 : a.k = b.k
 ·have HE : Hid (kindZ want.k a.k b.k = 0) := Lib.hid (by unfold kindZ; rw [if_pos h1])
  have d1 : (a.k == b.k) = true := by simpa using h1
  clear h1
  go_wp2
  go_ret
  exact ⟨ret_int HE.out.symm, Below.refl _ _⟩
 have d1 : (a.k == b.k) = false := by simpa using h1
 by_cases h2 : a.k = want.k
 ·have HE : Hid (kindZ want.k a.k b.k = -1) := Lib.hid (by unfold kindZ; rw [if_neg h1, if_pos (.inl h2)])
  have d2 : (a.k == want.k) = true := by simpa using h2
  clear h1 h2
  go_wp2
  go_ret
  exact ⟨ret_int HE.out.symm, Below.refl _ _⟩
 have d2 : (a.k == want.k) = false := by simpa using h2
 by_cases h3 : b.k = want.k
 ·have HE : Hid (kindZ want.k a.k b.k = 1) := Lib.hid (by unfold kindZ; rw [if_neg h1, if_neg (by omega)])
  have d3 : (b.k != want.k) = false := by simpa using h3
  clear h1 h2 h3
  go_wp2
  go_ret
  exact ⟨ret_int HE.out.symm, Below.refl _ _⟩
 have d3 : (b.k != want.k) = true := by simpa using h3
 by_cases h4 : b.k < a.k
 ·have HE : Hid (kindZ want.k a.k b.k = -1) := Lib.hid (by unfold kindZ; rw [if_neg h1, if_pos (.inr ⟨h3, h4⟩)])
  have d4 : decide (b.k < a.k) = true := by simpa using h4
  clear h1 h2 h3 h4
  go_wp2
  go_ret
  exact ⟨ret_int HE.out.symm, Below.refl _ _⟩
 ·have HE : Hid (kindZ want.k a.k b.k = 1) := Lib.hid (by unfold kindZ; rw [if_neg h1, if_neg (by omega)])
  have d4 : decide (b.k < a.k) = false := by simpa using h4
  clear h1 h2 h3 h4
  go_wp2
  go_ret
  exact ⟨ret_int HE.out.symm, Below.refl _ _⟩
theorem test2_any {I A B : Option Addr} {ci c d : Nat} {want a b : Ch} {Gw Ga Gb : Nat} {w : World} (kw : Blk w Gw 42 #[.int .i64 want.k, .int .i64 want.r, .slice I want.m.length ci, .int .i64 want.s]) (ka : Blk w Ga 42 #[.int .i64 a.k, .int .i64 a.r, .slice A a.m.length c, .int .i64 a.s]) (kb : Blk w Gb 42 #[.int .i64 b.k, .int .i64 b.r, .slice B b.m.length d, .int .i64 b.s]) (hw : OKC want) (ha : OKC a) (hb : OKC b) : Calls Tryz.prog 106 #[.pointer (some ⟨Gw, 0, none⟩), .pointer (some ⟨Ga, 0, none⟩), .pointer (some ⟨Gb, 0, none⟩)] w fun e w' => e = .returned (.int .i64 (closerF want.r a.r b.r)) ∧ Grows w w' := by
 have xw := kw.cell
 have xa := ka.cell
 have xb := kb.cell
 go_enter Tryz.func106, Tryz.ntmps106
 go_wp2_with fail
 refine (closer_any want.r a.r b.r _ hw.1 ha.1 hb.1).mono ?_
 rintro e w1 ⟨rfl, hq⟩
 go_wp2
 go_ret
 exact ⟨rfl, hq⟩
theorem test3_any {I A B : Option Addr} {ci c d : Nat} {want a b : Ch} {Gw Ga Gb : Nat} {w : World} (kw : Blk w Gw 42 #[.int .i64 want.k, .int .i64 want.r, .slice I want.m.length ci, .int .i64 want.s]) (ka : Blk w Ga 42 #[.int .i64 a.k, .int .i64 a.r, .slice A a.m.length c, .int .i64 a.s]) (kb : Blk w Gb 42 #[.int .i64 b.k, .int .i64 b.r, .slice B b.m.length d, .int .i64 b.s]) (hw : OKC want) (ha : OKC a) (hb : OKC b) (iw : Ints w I want.m) (ia : Ints w A a.m) (ib : Ints w B b.m) : Calls Tryz.prog 108 #[.pointer (some ⟨Gw, 0, none⟩), .pointer (some ⟨Ga, 0, none⟩), .pointer (some ⟨Gb, 0, none⟩)] w fun e w' => e = .returned (.int .i64 (mapsF want.m a.m b.m)) ∧ Grows w w' := by
 have xw := kw.cell
 have xa := ka.cell
 have xb := kb.cell
 go_enter Tryz.func108, Tryz.ntmps108
 go_wp2_with fail
 refine (maps_any I A B ci c d want.m a.m b.m _ iw ia ib hw.2.2 (by have := ha.2.2; omega) (by have := hb.2.2; omega)).mono ?_
 rintro e w1 ⟨rfl, hq⟩
 go_wp2
 go_ret
 exact ⟨rfl, hq⟩
theorem test4_any {I A B : Option Addr} {ci c d : Nat} {want a b : Ch} {Gw Ga Gb : Nat} {w : World} (kw : Blk w Gw 42 #[.int .i64 want.k, .int .i64 want.r, .slice I want.m.length ci, .int .i64 want.s]) (ka : Blk w Ga 42 #[.int .i64 a.k, .int .i64 a.r, .slice A a.m.length c, .int .i64 a.s]) (kb : Blk w Gb 42 #[.int .i64 b.k, .int .i64 b.r, .slice B b.m.length d, .int .i64 b.s]) (hw : OKC want) (ha : OKC a) (hb : OKC b) : Calls Tryz.prog 109 #[.pointer (some ⟨Gw, 0, none⟩), .pointer (some ⟨Ga, 0, none⟩), .pointer (some ⟨Gb, 0, none⟩)] w fun e w' => e = .returned (.int .i64 (closerF want.s a.s b.s)) ∧ Grows w w' := by
 have xw := kw.cell
 have xa := ka.cell
 have xb := kb.cell
 go_enter Tryz.func109, Tryz.ntmps109
 go_wp2_with fail
 refine (closer_any want.s a.s b.s _ hw.2.1 ha.2.1 hb.2.1).mono ?_
 rintro e w1 ⟨rfl, hq⟩
 go_wp2
 go_ret
 exact ⟨rfl, hq⟩
set_option maxHeartbeats 8000000 in
theorem compare_any (I A B : Option Addr) (ci c d : Nat) (want a b : Ch) (w : World) (iw : Ints w I want.m) (ia : Ints w A a.m) (ib : Ints w B b.m) (hw : OKC want) (ha : OKC a) (hb : OKC b) :
 Calls Tryz.prog 68 #[.agg #[.int .i64 want.k, .int .i64 want.r, .slice I want.m.length ci, .int .i64 want.s], .agg #[.int .i64 a.k, .int .i64 a.r, .slice A a.m.length c, .int .i64 a.s], .agg #[.int .i64 b.k, .int .i64 b.r, .slice B b.m.length d, .int .i64 b.s]] w fun e w' => e = .returned (.int .i64 (cmpF want a b)) ∧ Grows w w' := by
 have k1 := ((Blk.new w 42 #[.int .i64 want.k, .int .i64 want.r, .slice I want.m.length ci, .int .i64 want.s]).alloc (Obj.cells #[.int .i64 a.k, .int .i64 a.r, .slice A a.m.length c, .int .i64 a.s] 42)).alloc (Obj.cells #[.int .i64 b.k, .int .i64 b.r, .slice B b.m.length d, .int .i64 b.s] 42)
 have k2 := (Blk.new (w.alloc (Obj.cells #[.int .i64 want.k, .int .i64 want.r, .slice I want.m.length ci, .int .i64 want.s] 42)) 42 #[.int .i64 a.k, .int .i64 a.r, .slice A a.m.length c, .int .i64 a.s]).alloc (Obj.cells #[.int .i64 b.k, .int .i64 b.r, .slice B b.m.length d, .int .i64 b.s] 42)
 have k3 := Blk.new ((w.alloc (Obj.cells #[.int .i64 want.k, .int .i64 want.r, .slice I want.m.length ci, .int .i64 want.s] 42)).alloc (Obj.cells #[.int .i64 a.k, .int .i64 a.r, .slice A a.m.length c, .int .i64 a.s] 42)) 42 #[.int .i64 b.k, .int .i64 b.r, .slice B b.m.length d, .int .i64 b.s]
 have hB := (((Below.refl w.heap.size w).alloc (Nat.le_refl _) (Obj.cells #[.int .i64 want.k, .int .i64 want.r, .slice I want.m.length ci, .int .i64 want.s] 42)).alloc (by simp) (Obj.cells #[.int .i64 a.k, .int .i64 a.r, .slice A a.m.length c, .int .i64 a.s] 42)).alloc (by simp; omega) (Obj.cells #[.int .i64 b.k, .int .i64 b.r, .slice B b.m.length d, .int .i64 b.s] 42)
 go_enter Tryz.func68, Tryz.ntmps68
 go_upto_region 1 with fail
 have hs1 : (w.alloc (Obj.cells #[.int .i64 want.k, .int .i64 want.r, .slice I want.m.length ci, .int .i64 want.s] 42)).heap.size = w.heap.size + 1 := by simp
 have hs2 : ((w.alloc (Obj.cells #[.int .i64 want.k, .int .i64 want.r, .slice I want.m.length ci, .int .i64 want.s] 42)).alloc (Obj.cells #[.int .i64 a.k, .int .i64 a.r, .slice A a.m.length c, .int .i64 a.s] 42)).heap.size = w.heap.size + 1 + 1 := by simp
 rw [hs1] at k2
 rw [hs2] at k3
 clear hs1 hs2
 replace iw := iw.grows hB
 replace ia := ia.grows hB
 replace ib := ib.grows hB
 generalize World.alloc (World.alloc (World.alloc w _) _) _ = w3 at *
 generalize hG1 : w.heap.size + 1 = Ga at *
 generalize hG2 : Ga + 1 = Gb at *
 clear hG1 hG2
 have k4 := Blk.new w3 128 #[.func (.func 105) #[] #[.pointer (some ⟨Ga, 0, none⟩), .pointer (some ⟨Gb, 0, none⟩), .pointer (some ⟨w.heap.size, 0, none⟩)], .func (.func 106) #[] #[.pointer (some ⟨w.heap.size, 0, none⟩), .pointer (some ⟨Ga, 0, none⟩), .pointer (some ⟨Gb, 0, none⟩)], .func (.func 108) #[] #[.pointer (some ⟨w.heap.size, 0, none⟩), .pointer (some ⟨Ga, 0, none⟩), .pointer (some ⟨Gb, 0, none⟩)], .func (.func 109) #[] #[.pointer (some ⟨w.heap.size, 0, none⟩), .pointer (some ⟨Ga, 0, none⟩), .pointer (some ⟨Gb, 0, none⟩)]]
 have hq := (Below.refl w3.heap.size w3).alloc (Nat.le_refl _) (Obj.cells #[.func (.func 105) #[] #[.pointer (some ⟨Ga, 0, none⟩), .pointer (some ⟨Gb, 0, none⟩), .pointer (some ⟨w.heap.size, 0, none⟩)], .func (.func 106) #[] #[.pointer (some ⟨w.heap.size, 0, none⟩), .pointer (some ⟨Ga, 0, none⟩), .pointer (some ⟨Gb, 0, none⟩)], .func (.func 108) #[] #[.pointer (some ⟨w.heap.size, 0, none⟩), .pointer (some ⟨Ga, 0, none⟩), .pointer (some ⟨Gb, 0, none⟩)], .func (.func 109) #[] #[.pointer (some ⟨w.heap.size, 0, none⟩), .pointer (some ⟨Ga, 0, none⟩), .pointer (some ⟨Gb, 0, none⟩)]] 128)
 go_upto_region 2 with fail
 replace k1 := k1.grows hq
 replace k2 := k2.grows hq
 replace k3 := k3.grows hq
 replace iw := iw.grows hq
 replace ia := ia.grows hq
 replace ib := ib.grows hq
 replace hB := below_grows hB (Nat.le_refl _) hq
 generalize World.alloc w3 _ = w4 at *
 generalize w3.heap.size = G4 at *
 clear hq
 go_wp2_with fail
 go_loopw [18] (fun i wr => ∃ k : Nat, k ≤ 4 ∧ i = .int .i64 k ∧ Hid (cmpF want a b = orZ ((cmpL want a b).drop k)) ∧ Grows w4 wr) (fun i _ => 4 - (intOf i).toNat)
 case atStart => exact ⟨0, by omega, rfl, Lib.hid rfl, Below.refl _ _⟩
 case round =>
  obtain ⟨k, hk, rfl, HF, hq⟩ := hrel
  have x4 := (k4.grows hq).cell
  match k, hk with
  | 0, _ =>
   have HD : Hid (cmpF want a b = if kindZ want.k a.k b.k = 0 then orZ ((cmpL want a b).drop 1) else kindZ want.k a.k b.k) := Lib.hid (by rw [HF.out]; exact orZ_cons _ _)
   clear HF
   simp only [Int.cast_ofNat_Int]
   go_wp2_with fail
   refine (test1_any (k1.grows hq) (k2.grows hq) (k3.grows hq)).mono ?_
   generalize kindZ want.k a.k b.k = z at HD ⊢
   rintro e w6 ⟨rfl, hq2⟩
   replace hq := below_grows hq (Nat.le_refl _) hq2
   clear hq2 x4
   by_cases h0 : z = 0
   ·have HE : Hid (cmpF want a b = orZ ((cmpL want a b).drop 1)) := Lib.hid (by rw [HD.out, if_pos h0])
    subst h0
    clear HD
    go_wp2
    go_roundw
    case rel => exact ⟨1, by omega, by go_num, HE, hq⟩
    case measure => simp [intOf]
   ·have HE : Hid (cmpF want a b = z) := Lib.hid (by rw [HD.out, if_neg h0])
    have hne : (z != 0) = true := by simpa using h0
    clear HD h0
    go_wp2
    go_ret
    exact ⟨ret_int HE.out.symm, below_grows hB (Nat.le_refl _) hq⟩
  | 1, _ =>
   have HD : Hid (cmpF want a b = if closerF want.r a.r b.r = 0 then orZ ((cmpL want a b).drop 2) else closerF want.r a.r b.r) := Lib.hid (by rw [HF.out]; exact orZ_cons _ _)
   clear HF
   simp only [Int.cast_ofNat_Int]
   go_wp2_with fail
   refine (test2_any (k1.grows hq) (k2.grows hq) (k3.grows hq) hw ha hb).mono ?_
   generalize closerF want.r a.r b.r = z at HD ⊢
   rintro e w6 ⟨rfl, hq2⟩
   replace hq := below_grows hq (Nat.le_refl _) hq2
   clear hq2 x4
   by_cases h0 : z = 0
   ·have HE : Hid (cmpF want a b = orZ ((cmpL want a b).drop 2)) := Lib.hid (by rw [HD.out, if_pos h0])
    subst h0
    clear HD
    go_wp2
    go_roundw
    case rel => exact ⟨2, by omega, by go_num, HE, hq⟩
    case measure => simp [intOf]
   ·have HE : Hid (cmpF want a b = z) := Lib.hid (by rw [HD.out, if_neg h0])
    have hne : (z != 0) = true := by simpa using h0
    clear HD h0
    go_wp2
    go_ret
    exact ⟨ret_int HE.out.symm, below_grows hB (Nat.le_refl _) hq⟩
  | 2, _ =>
   have HD : Hid (cmpF want a b = if mapsF want.m a.m b.m = 0 then orZ ((cmpL want a b).drop 3) else mapsF want.m a.m b.m) := Lib.hid (by rw [HF.out]; exact orZ_cons _ _)
   clear HF
   simp only [Int.cast_ofNat_Int]
   go_wp2_with fail
   refine (test3_any (k1.grows hq) (k2.grows hq) (k3.grows hq) hw ha hb (iw.grows hq) (ia.grows hq) (ib.grows hq)).mono ?_
   generalize mapsF want.m a.m b.m = z at HD ⊢
   rintro e w6 ⟨rfl, hq2⟩
   replace hq := below_grows hq (Nat.le_refl _) hq2
   clear hq2 x4
   by_cases h0 : z = 0
   ·have HE : Hid (cmpF want a b = orZ ((cmpL want a b).drop 3)) := Lib.hid (by rw [HD.out, if_pos h0])
    subst h0
    clear HD
    go_wp2
    go_roundw
    case rel => exact ⟨3, by omega, by go_num, HE, hq⟩
    case measure => simp [intOf]
   ·have HE : Hid (cmpF want a b = z) := Lib.hid (by rw [HD.out, if_neg h0])
    have hne : (z != 0) = true := by simpa using h0
    clear HD h0
    go_wp2
    go_ret
    exact ⟨ret_int HE.out.symm, below_grows hB (Nat.le_refl _) hq⟩
  | 3, _ =>
   have HD : Hid (cmpF want a b = if closerF want.s a.s b.s = 0 then orZ ((cmpL want a b).drop 4) else closerF want.s a.s b.s) := Lib.hid (by rw [HF.out]; exact orZ_cons _ _)
   clear HF
   simp only [Int.cast_ofNat_Int]
   go_wp2_with fail
   refine (test4_any (k1.grows hq) (k2.grows hq) (k3.grows hq) hw ha hb).mono ?_
   generalize closerF want.s a.s b.s = z at HD ⊢
   rintro e w6 ⟨rfl, hq2⟩
   replace hq := below_grows hq (Nat.le_refl _) hq2
   clear hq2 x4
   by_cases h0 : z = 0
   ·have HE : Hid (cmpF want a b = orZ ((cmpL want a b).drop 4)) := Lib.hid (by rw [HD.out, if_pos h0])
    subst h0
    clear HD
    go_wp2
    go_roundw
    case rel => exact ⟨4, by omega, by go_num, HE, hq⟩
    case measure => simp [intOf]
   ·have HE : Hid (cmpF want a b = z) := Lib.hid (by rw [HD.out, if_neg h0])
    have hne : (z != 0) = true := by simpa using h0
    clear HD h0
    go_wp2
    go_ret
    exact ⟨ret_int HE.out.symm, below_grows hB (Nat.le_refl _) hq⟩
  | 4, _ =>
   have HE : Hid (cmpF want a b = 0) := Lib.hid (by rw [HF.out]; rfl)
   clear HF
   simp only [Int.cast_ofNat_Int]
   go_wp2
   go_ret
   exact ⟨ret_int HE.out.symm, below_grows hB (Nat.le_refl _) hq⟩
end Go.Proofs.YtjbkjgmcfommgaaGreat

namespace Go.Proofs.YtjbkjgmcfommgaaGreat
open Go.RowKit
/-- The block that n elements at A take is one of those that base allows. -/
def Lo (base : Nat → Prop) (A : Option Addr) (n : Nat) : Prop := 0 < n → ∀ ad, A = some ad → base ad.block
def Ge (n : Nat) : Nat → Prop := fun k => n ≤ k
def Under (n : Nat) : Nat → Prop := fun k => k < n
def Bd (ok : Nat → Prop) (n : Nat) : Nat → Prop := fun k => ok k ∧ k < n
def RdB (w : World) (base : Nat → Prop) (size : Nat) (A : Option Addr) (n : Nat) (xs : List Value) : Prop := Reads w w.heap.size size A n xs ∧ Lo base A n
section
variable {w w' : World} {base : Nat → Prop} {size n : Nat} {A : Option Addr} {xs : List Value}
theorem RdB.nil : RdB w base size none 0 [] := ⟨Reads.none_, fun h => absurd h (by omega)⟩
theorem RdB.grows (h : RdB w base size A n xs) (hg : Grows w w') : RdB w' base size A n xs := ⟨Reads.grows h.1 hg, h.2⟩
theorem RdB.mono {b2 : Nat → Prop} (h : RdB w base size A n xs) (hb : ∀ k, base k → b2 k) : RdB w b2 size A n xs := ⟨h.1, fun hn ad e => hb _ (h.2 hn ad e)⟩
theorem RdB.grown (h : RdB w base size A n xs) {row : Option Nat} (hg : w.grownBy w' row) (hr : ∀ g, row = some g → ¬ base g) : RdB w' base size A n xs := by
 refine ⟨⟨h.1.1, fun hn => ?_⟩, h.2⟩
 obtain ⟨ad, e, hb, hc⟩ := h.1.2 hn
 have hlo := h.2 hn ad e
 have hne : some ad.block ≠ row := fun e2 => hr _ e2.symm hlo
 exact ⟨ad, e, Nat.lt_of_lt_of_le hb hg.size, fun j u hu => (World.cell?_of_block (hg.block (ad.add j).block (by rw [block_of_add]; exact hb) (by rw [block_of_add]; exact hne))).trans (hc j u hu)⟩
theorem RdB.drop {k cap : Nat} (h : RdB w base size A n xs) (hk : k ≤ n) (hc : n ≤ cap) : RdB w base size (if cap = k then A else A.map (·.add (k * size))) (n - k) (xs.drop (k * size)) := by
 refine ⟨Reads.cut h.1 hk hc, fun hn ad e => ?_⟩
 obtain ⟨ad0, e0, _⟩ := h.1.2 (by omega)
 have h0 := h.2 (by omega) ad0 e0
 subst e0
 split at e
 ·injection e with e; subst e; exact h0
 ·simp only [Option.map_some, Option.some.injEq] at e
  subst e
  rw [block_of_add]
  exact h0
theorem RdB.backU {m : Nat} {w : World} {w3 : World} (h : RdB w3 base size A n xs) (hu : ∀ k, base k → k < m) (hB : Below m w w3) (hm : m ≤ w.heap.size) : RdB w base size A n xs := by
 refine ⟨⟨h.1.1, fun hn => ?_⟩, h.2⟩
 obtain ⟨ad, e, _, hc⟩ := h.1.2 hn
 have hlo : ad.block < m := hu _ (h.2 hn ad e)
 exact ⟨ad, e, Nat.lt_of_lt_of_le hlo hm, fun j u hu => (hB.cell (p := ad.add j) (by rw [block_of_add]; exact hlo)).symm.trans (hc j u hu)⟩
theorem RdB.back {m : Nat} {w : World} {w3 : World} (h : RdB w3 (Under m) size A n xs) (hB : Below m w w3) (hm : m ≤ w.heap.size) : RdB w (Under m) size A n xs := RdB.backU h (fun _ h => h) hB hm
theorem RdB.under (h : RdB w base size A n xs) : RdB w (Under w.heap.size) size A n xs := ⟨h.1, fun hn ad e => by
 obtain ⟨ad0, e0, hb, _⟩ := h.1.2 hn
 rw [e0] at e
 injection e with e
 exact e ▸ hb⟩
theorem RdB.bd (h : RdB w base size A n xs) : RdB w (Bd base w.heap.size) size A n xs := ⟨h.1, fun hn ad e => ⟨h.2 hn ad e, h.under.2 hn ad e⟩⟩
theorem RdB.take {k : Nat} (h : RdB w base 1 A n xs) (hk : k ≤ n) : RdB w base 1 A k (xs.take k) := ⟨Reads.take_ h.1 hk, fun hn ad e => h.2 (by omega) ad e⟩
end
def InB (w : World) (base : Nat → Prop) (A : Option Addr) (l : List Int) : Prop := RdB w base 1 A l.length (l.map (Value.int .i64))
theorem InB.ints {w : World} {base : Nat → Prop} {A : Option Addr} {l : List Int} (h : InB w base A l) : Ints w A l := h.1
theorem InB.grows {w w' : World} {base : Nat → Prop} {A : Option Addr} {l : List Int} (h : InB w base A l) (hg : Grows w w') : InB w' base A l := RdB.grows h hg
theorem InB.mono {w : World} {base b2 : Nat → Prop} {A : Option Addr} {l : List Int} (h : InB w base A l) (hb : ∀ k, base k → b2 k) : InB w b2 A l := RdB.mono h hb
theorem InB.of_own {w : World} {base : Nat} {v : Value} {l : List Int} (h : OwnI w base v l) : ∃ A c, v = .slice A l.length c ∧ l.length ≤ c ∧ InB w (Ge base) A l := by
 obtain ⟨A, c, rfl, hc, hi⟩ := h.read
 refine ⟨A, c, rfl, hc, hi, fun hn ad e => ?_⟩
 subst e
 rcases h.2 with ⟨e2, _⟩ | ⟨g, cap, cur, e2, hb, _⟩
 ·injection e2 with e2; cases e2
 ·injection e2 with e2
  injection e2 with e2
  subst e2
  exact hb
def SpB (w : World) (base : Nat → Prop) (A : Option Addr) (l : List Sp) : Prop := RdB w base 2 A l.length (scells l)
theorem SpB.sps {w : World} {base : Nat → Prop} {A : Option Addr} {l : List Sp} (h : SpB w base A l) : Sps w A l := h.1
theorem SpB.grows {w w' : World} {base : Nat → Prop} {A : Option Addr} {l : List Sp} (h : SpB w base A l) (hg : Grows w w') : SpB w' base A l := RdB.grows h hg
theorem SpB.of_own {w : World} {base : Nat} {v : Value} {l : List Sp} (h : Own w base v l) : ∃ A c, v = .slice A l.length c ∧ l.length ≤ c ∧ SpB w (Ge base) A l := by
 obtain ⟨A, c, rfl, hc, hs, hlo⟩ := h.read
 exact ⟨A, c, rfl, hc, hs, fun _ ad e => hlo ad e⟩
/-- A slice of channel maps. -/
def MapsR (w : World) (base : Nat → Prop) (A : Option Addr) (m : List (List Int)) : Prop :=
 ∃ vs : List Value, RdB w base 1 A m.length vs ∧ ∀ (i : Nat) (x : List Int), m[i]? = some x → ∃ B c, vs[i]? = some (.slice B x.length c) ∧ x.length ≤ c ∧ InB w base B x
section
variable {w w' : World} {base : Nat → Prop} {A : Option Addr} {m : List (List Int)}
theorem MapsR.nil : MapsR w base none [] := ⟨[], RdB.nil, fun i x h => by simp at h⟩
theorem MapsR.grows (h : MapsR w base A m) (hg : Grows w w') : MapsR w' base A m := by
 obtain ⟨vs, h1, h2⟩ := h
 exact ⟨vs, h1.grows hg, fun i x hx => by obtain ⟨B, c, e, hc, hi⟩ := h2 i x hx; exact ⟨B, c, e, hc, hi.grows hg⟩⟩
theorem MapsR.mono {b2 : Nat → Prop} (h : MapsR w base A m) (hb : ∀ k, base k → b2 k) : MapsR w b2 A m := by
 obtain ⟨vs, h1, h2⟩ := h
 exact ⟨vs, h1.mono hb, fun i x hx => by obtain ⟨B, c, e, hc, hi⟩ := h2 i x hx; exact ⟨B, c, e, hc, RdB.mono hi hb⟩⟩
theorem MapsR.grown (h : MapsR w base A m) {row : Option Nat} (hg : w.grownBy w' row) (hr : ∀ g, row = some g → ¬ base g) : MapsR w' base A m := by
 obtain ⟨vs, h1, h2⟩ := h
 exact ⟨vs, h1.grown hg hr, fun i x hx => by obtain ⟨B, c, e, hc, hi⟩ := h2 i x hx; exact ⟨B, c, e, hc, RdB.grown hi hg hr⟩⟩
theorem MapsR.back {n : Nat} {w : World} {w3 : World} {A : Option Addr} {m : List (List Int)} (h : MapsR w3 (Under n) A m) (hB : Below n w w3) (hn : n ≤ w.heap.size) : MapsR w (Under n) A m := by
 obtain ⟨vs, h1, h2⟩ := h
 exact ⟨vs, h1.back hB hn, fun i x hx => by obtain ⟨B, c, e, hc, hi⟩ := h2 i x hx; exact ⟨B, c, e, hc, RdB.back hi hB hn⟩⟩
theorem MapsR.backU {n : Nat} {ok : Nat → Prop} {w : World} {w3 : World} {A : Option Addr} {m : List (List Int)} (h : MapsR w3 ok A m) (hu : ∀ k, ok k → k < n) (hB : Below n w w3) (hn : n ≤ w.heap.size) : MapsR w ok A m := by
 obtain ⟨vs, h1, h2⟩ := h
 exact ⟨vs, h1.backU hu hB hn, fun i x hx => by obtain ⟨B, c, e, hc, hi⟩ := h2 i x hx; exact ⟨B, c, e, hc, RdB.backU hi hu hB hn⟩⟩
theorem MapsR.under (h : MapsR w base A m) : MapsR w (Under w.heap.size) A m := by
 obtain ⟨vs, h1, h2⟩ := h
 exact ⟨vs, h1.under, fun i x hx => by obtain ⟨B, c, e, hc, hi⟩ := h2 i x hx; exact ⟨B, c, e, hc, RdB.under hi⟩⟩
theorem MapsR.bd (h : MapsR w base A m) : MapsR w (Bd base w.heap.size) A m := by
 obtain ⟨vs, h1, h2⟩ := h
 exact ⟨vs, h1.bd, fun i x hx => by obtain ⟨B, c, e, hc, hi⟩ := h2 i x hx; exact ⟨B, c, e, hc, RdB.bd hi⟩⟩
theorem MapsR.take (h : MapsR w base A m) {k : Nat} (hk : k ≤ m.length) : MapsR w base A (m.take k) := by
 obtain ⟨vs, h1, h2⟩ := h
 have e : (m.take k).length = k := by rw [List.length_take]; omega
 refine ⟨vs.take k, by rw [e]; exact h1.take hk, fun i x hx => ?_⟩
 have hik : i < k := by have := (List.getElem?_eq_some_iff.1 hx).1; omega
 rw [List.getElem?_take_of_lt hik] at hx
 obtain ⟨B, c, e, hc, hi⟩ := h2 i x hx
 exact ⟨B, c, by rw [List.getElem?_take_of_lt hik]; exact e, hc, hi⟩
theorem MapsR.elem (h : MapsR w base A m) {k : Nat} (hk : k < m.length) : ∃ ad x B c, A = some ad ∧ ad.block < w.heap.size ∧ m[k]? = some x ∧ w.cell? (ad.add k) = some (.slice B x.length c) ∧ x.length ≤ c ∧ InB w base B x := by
 obtain ⟨vs, h1, h2⟩ := h
 obtain ⟨ad, e, hb, hc⟩ := h1.1.2 (by omega)
 have hx := List.getElem?_eq_getElem hk
 obtain ⟨B, c, e2, hc2, hi⟩ := h2 k _ hx
 exact ⟨ad, _, B, c, e, hb, hx, hc k _ e2, hc2, hi⟩
end
structure Bx where
 k : Int
 r : List Sp
 m : List (List Int)
 s : List Sp
deriving DecidableEq
structure BoxP (w : World) (base : Nat → Prop) (b : Bx) (A1 : Option Addr) (c1 : Nat) (A2 : Option Addr) (c2 : Nat) (A3 : Option Addr) (c3 : Nat) : Prop where
 r : SpB w base A1 b.r
 m : MapsR w base A2 b.m
 s : SpB w base A3 b.s
 cr : b.r.length ≤ c1
 cm : b.m.length ≤ c2
 cs : b.s.length ≤ c3
def Bx.cs (b : Bx) (A1 : Option Addr) (c1 : Nat) (A2 : Option Addr) (c2 : Nat) (A3 : Option Addr) (c3 : Nat) : List Value := [.int .i64 b.k, .slice A1 b.r.length c1, .slice A2 b.m.length c2, .slice A3 b.s.length c3]
/-- A box as a value. -/
def BoxV (w : World) (base : Nat → Prop) (b : Bx) (v : Value) : Prop := ∃ A1 c1 A2 c2 A3 c3, v = .agg #[.int .i64 b.k, .slice A1 b.r.length c1, .slice A2 b.m.length c2, .slice A3 b.s.length c3] ∧ BoxP w base b A1 c1 A2 c2 A3 c3
/-- A slice of boxes. -/
def Bxs (w : World) (base : Nat → Prop) (A : Option Addr) (l : List Bx) : Prop :=
 ∃ vs : List Value, RdB w base 4 A l.length vs ∧ ∀ (i : Nat) (b : Bx), l[i]? = some b → ∃ A1 c1 A2 c2 A3 c3, BoxP w base b A1 c1 A2 c2 A3 c3 ∧ ∀ j < 4, vs[i * 4 + j]? = (b.cs A1 c1 A2 c2 A3 c3)[j]?
def CellsB (w : World) (p : Addr) (v0 v1 v2 v3 : Value) : Prop := w.cell? p = some v0 ∧ w.cell? { block := p.block, off := p.off + 1 } = some v1 ∧ w.cell? { block := p.block, off := p.off + 2 } = some v2 ∧ w.cell? { block := p.block, off := p.off + 3 } = some v3
theorem cellsB_of {w : World} {ad : Addr} {i : Nat} {cs : List Value} {v0 v1 v2 v3 : Value} (e : cs = [v0, v1, v2, v3]) (h : ∀ j < 4, ∀ u, cs[j]? = some u → w.cell? (ad.add (i * 4 + j)) = some u) : CellsB w (ad.add (i * 4)) v0 v1 v2 v3 := by
 subst e
 have e0 : (ad.add (i * 4)).add 0 = ad.add (i * 4) := by simp [Addr.add]
 have hj : ∀ j < 4, ∀ v, [v0, v1, v2, v3][j]? = some v → w.cell? ((ad.add (i * 4)).add j) = some v := fun j hj v hv => by rw [add_of_add]; exact h j hj v hv
 have ej : ∀ j, j ≠ 0 → (ad.add (i * 4)).add j = { block := (ad.add (i * 4)).block, off := (ad.add (i * 4)).off + j } := fun j hj0 => by
  generalize ad.add (i * 4) = p
  unfold Addr.add
  rw [if_neg hj0]
 refine ⟨by have := hj 0 (by omega) _ rfl; rwa [e0] at this, ?_, ?_, ?_⟩
 ·have := hj 1 (by omega) _ rfl; rwa [ej 1 (by omega)] at this
 ·have := hj 2 (by omega) _ rfl; rwa [ej 2 (by omega)] at this
 ·have := hj 3 (by omega) _ rfl; rwa [ej 3 (by omega)] at this
section
variable {w w' : World} {base : Nat → Prop} {A : Option Addr} {l : List Bx} {b : Bx} {A1 A2 A3 : Option Addr} {c1 c2 c3 : Nat} {v : Value}
theorem BoxP.grows (h : BoxP w base b A1 c1 A2 c2 A3 c3) (hg : Grows w w') : BoxP w' base b A1 c1 A2 c2 A3 c3 := ⟨h.r.grows hg, h.m.grows hg, h.s.grows hg, h.cr, h.cm, h.cs⟩
theorem BoxP.mono {b2 : Nat → Prop} (h : BoxP w base b A1 c1 A2 c2 A3 c3) (hb : ∀ k, base k → b2 k) : BoxP w b2 b A1 c1 A2 c2 A3 c3 := ⟨RdB.mono h.r hb, h.m.mono hb, RdB.mono h.s hb, h.cr, h.cm, h.cs⟩
theorem BoxP.grown (h : BoxP w base b A1 c1 A2 c2 A3 c3) {row : Option Nat} (hg : w.grownBy w' row) (hr : ∀ g, row = some g → ¬ base g) : BoxP w' base b A1 c1 A2 c2 A3 c3 := ⟨RdB.grown h.r hg hr, h.m.grown hg hr, RdB.grown h.s hg hr, h.cr, h.cm, h.cs⟩
theorem BoxP.under (h : BoxP w base b A1 c1 A2 c2 A3 c3) : BoxP w (Under w.heap.size) b A1 c1 A2 c2 A3 c3 := ⟨RdB.under h.r, h.m.under, RdB.under h.s, h.cr, h.cm, h.cs⟩
theorem BoxP.bd (h : BoxP w base b A1 c1 A2 c2 A3 c3) : BoxP w (Bd base w.heap.size) b A1 c1 A2 c2 A3 c3 := ⟨RdB.bd h.r, h.m.bd, RdB.bd h.s, h.cr, h.cm, h.cs⟩
theorem BoxV.grows (h : BoxV w base b v) (hg : Grows w w') : BoxV w' base b v := by
 obtain ⟨A1, c1, A2, c2, A3, c3, e, hp⟩ := h
 exact ⟨A1, c1, A2, c2, A3, c3, e, hp.grows hg⟩
theorem Bxs.nil : Bxs w base none [] := ⟨[], RdB.nil, fun i x h => by simp at h⟩
theorem Bxs.grows (h : Bxs w base A l) (hg : Grows w w') : Bxs w' base A l := by
 obtain ⟨vs, h1, h2⟩ := h
 exact ⟨vs, h1.grows hg, fun i x hx => by obtain ⟨A1, c1, A2, c2, A3, c3, hp, hc⟩ := h2 i x hx; exact ⟨A1, c1, A2, c2, A3, c3, hp.grows hg, hc⟩⟩
theorem Bxs.mono {b2 : Nat → Prop} (h : Bxs w base A l) (hb : ∀ k, base k → b2 k) : Bxs w b2 A l := by
 obtain ⟨vs, h1, h2⟩ := h
 exact ⟨vs, h1.mono hb, fun i x hx => by obtain ⟨A1, c1, A2, c2, A3, c3, hp, hc⟩ := h2 i x hx; exact ⟨A1, c1, A2, c2, A3, c3, hp.mono hb, hc⟩⟩
theorem Bxs.grown (h : Bxs w base A l) {row : Option Nat} (hg : w.grownBy w' row) (hr : ∀ g, row = some g → ¬ base g) : Bxs w' base A l := by
 obtain ⟨vs, h1, h2⟩ := h
 exact ⟨vs, h1.grown hg hr, fun i x hx => by obtain ⟨A1, c1, A2, c2, A3, c3, hp, hc⟩ := h2 i x hx; exact ⟨A1, c1, A2, c2, A3, c3, hp.grown hg hr, hc⟩⟩
theorem Bxs.back {n : Nat} {w : World} {w3 : World} {A : Option Addr} {l : List Bx} (h : Bxs w3 (Under n) A l) (hB : Below n w w3) (hn : n ≤ w.heap.size) : Bxs w (Under n) A l := by
 obtain ⟨vs, h1, h2⟩ := h
 exact ⟨vs, h1.back hB hn, fun i x hx => by obtain ⟨A1, c1, A2, c2, A3, c3, hp, hc⟩ := h2 i x hx; exact ⟨A1, c1, A2, c2, A3, c3, ⟨RdB.back hp.r hB hn, hp.m.back hB hn, RdB.back hp.s hB hn, hp.cr, hp.cm, hp.cs⟩, hc⟩⟩
theorem Bxs.backU {n : Nat} {ok : Nat → Prop} {w : World} {w3 : World} {A : Option Addr} {l : List Bx} (h : Bxs w3 ok A l) (hu : ∀ k, ok k → k < n) (hB : Below n w w3) (hn : n ≤ w.heap.size) : Bxs w ok A l := by
 obtain ⟨vs, h1, h2⟩ := h
 exact ⟨vs, h1.backU hu hB hn, fun i x hx => by obtain ⟨A1, c1, A2, c2, A3, c3, hp, hc⟩ := h2 i x hx; exact ⟨A1, c1, A2, c2, A3, c3, ⟨RdB.backU hp.r hu hB hn, hp.m.backU hu hB hn, RdB.backU hp.s hu hB hn, hp.cr, hp.cm, hp.cs⟩, hc⟩⟩
theorem Bxs.under (h : Bxs w base A l) : Bxs w (Under w.heap.size) A l := by
 obtain ⟨vs, h1, h2⟩ := h
 exact ⟨vs, h1.under, fun i x hx => by obtain ⟨A1, c1, A2, c2, A3, c3, hp, hc⟩ := h2 i x hx; exact ⟨A1, c1, A2, c2, A3, c3, hp.under, hc⟩⟩
theorem Bxs.bd (h : Bxs w base A l) : Bxs w (Bd base w.heap.size) A l := by
 obtain ⟨vs, h1, h2⟩ := h
 exact ⟨vs, h1.bd, fun i x hx => by obtain ⟨A1, c1, A2, c2, A3, c3, hp, hc⟩ := h2 i x hx; exact ⟨A1, c1, A2, c2, A3, c3, hp.bd, hc⟩⟩
theorem Bxs.drop (h : Bxs w base A l) {k cap : Nat} (hk : k ≤ l.length) (hc : l.length ≤ cap) : Bxs w base (if cap = k then A else A.map (·.add (k * 4))) (l.drop k) := by
 obtain ⟨vs, h1, h2⟩ := h
 refine ⟨vs.drop (k * 4), by rw [List.length_drop]; exact h1.drop hk hc, fun i x hx => ?_⟩
 rw [List.getElem?_drop] at hx
 obtain ⟨A1, c1, A2, c2, A3, c3, hp, hcc⟩ := h2 (k + i) x hx
 refine ⟨A1, c1, A2, c2, A3, c3, hp, fun j hj => ?_⟩
 rw [← hcc j hj, List.getElem?_drop]
 congr 1
 omega
theorem Bxs.elem (h : Bxs w base A l) {k : Nat} (hk : k < l.length) : ∃ ad b A1 c1 A2 c2 A3 c3, A = some ad ∧ ad.block < w.heap.size ∧ l[k]? = some b ∧ BoxP w base b A1 c1 A2 c2 A3 c3 ∧
 CellsB w (ad.add (k * 4)) (.int .i64 b.k) (.slice A1 b.r.length c1) (.slice A2 b.m.length c2) (.slice A3 b.s.length c3) := by
 obtain ⟨vs, h1, h2⟩ := h
 obtain ⟨ad, e, hb, hc⟩ := h1.1.2 (by omega)
 have hx := List.getElem?_eq_getElem hk
 obtain ⟨A1, c1, A2, c2, A3, c3, hp, hcc⟩ := h2 k _ hx
 exact ⟨ad, _, A1, c1, A2, c2, A3, c3, e, hb, hx, hp, cellsB_of rfl fun j hj u hu => hc _ u ((hcc j hj).trans hu)⟩
end
/-- All members are good, none is there twice: as far as place k. -/
def GoodU {α : Type} (p : α → Bool) (m : List α) (k : Nat) : Prop := (∀ y ∈ m.take k, p y = true) ∧ (m.take k).Nodup
def uniqOk {α : Type} [DecidableEq α] (p : α → Bool) (m : List α) : Bool := m.all p && decide m.Nodup
section
variable {α : Type} {p : α → Bool} {m : List α} {k : Nat} {x : α}
theorem good_zero : GoodU p m 0 := ⟨by simp, by simp⟩
theorem good_next (h : GoodU p m k) (hx : m[k]? = some x) (hp : p x = true) (hn : x ∉ m.take k) : GoodU p m (k + 1) := by
 unfold GoodU
 rw [take_snoc hx]
 refine ⟨fun y hy => ?_, ?_⟩
 ·rcases List.mem_append.1 hy with hy | hy
  ·exact h.1 y hy
  ·simp only [List.mem_singleton] at hy
   exact hy ▸ hp
 ·rw [List.nodup_append]
  refine ⟨h.2, by simp, fun a ha b hb => ?_⟩
  simp only [List.mem_singleton] at hb
  subst hb
  exact fun e => hn (e ▸ ha)
end
section
variable {α : Type} [DecidableEq α] {p : α → Bool} {m : List α} {k : Nat} {x : α}
theorem good_bad (hx : m[k]? = some x) (hp : p x = false) : uniqOk p m = false := by
 unfold uniqOk
 have : m.all p = false := by
  rw [List.all_eq_false]
  exact ⟨x, List.mem_of_getElem? hx, by simp [hp]⟩
 rw [this, Bool.false_and]
theorem good_twice (hx : m[k]? = some x) (hn : x ∈ m.take k) : uniqOk p m = false := by
 unfold uniqOk
 have : ¬ m.Nodup := fun h => by
  have h2 := (List.take_sublist (k + 1) m).nodup h
  rw [take_snoc hx, List.nodup_append] at h2
  exact h2.2.2 x hn x (by simp) rfl
 simp [this]
theorem good_end (h : GoodU p m k) (hk : m.length ≤ k) : uniqOk p m = true := by
 unfold GoodU at h
 rw [List.take_of_length_le hk] at h
 unfold uniqOk
 simp only [Bool.and_eq_true, List.all_eq_true, decide_eq_true_eq]
 exact h
end
theorem idx_first {m : List Int} {x : Int} {k : Nat} (hx : m[k]? = some x) : idxZ m x = (k : Int) ↔ x ∉ m.take k := by
 constructor
 ·intro h hm
  obtain ⟨j, hj, e⟩ := List.mem_take_iff_getElem.1 hm
  unfold idxZ at h
  split at h
  ·rename_i i ei
   obtain ⟨hi, h1, h2⟩ := List.findIdx?_eq_some_iff_getElem.1 ei
   have hji : ¬ j < i := fun hlt => by simpa [e] using h2 j hlt
   omega
  ·omega
 ·intro h
  exact idx_found (fun y hy e => h (e ▸ hy)) hx
def okP (p : Int) : Bool := decide (1 ≤ p) && decide (p ≤ 8)
def validM (m : List Int) : Bool := decide (1 ≤ m.length) && decide (m.length ≤ 8) && uniqOk okP m
def withinS (l : List Sp) (lo hi : Int) : Bool := okS l && decide (0 < l.length) && decide (lo ≤ (l.headD (0, 0)).1) && decide ((l.getLastD (0, 0)).2 ≤ hi)
def mapsOk (m : List (List Int)) : Bool := decide (1 ≤ m.length) && decide (m.length ≤ 16) && uniqOk validM m
end Go.Proofs.YtjbkjgmcfommgaaGreat
