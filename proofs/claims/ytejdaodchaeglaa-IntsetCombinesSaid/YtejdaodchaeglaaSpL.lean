/-
  Layer 9, the plain law: lists of spans, what they hold, the one form that a set has. No program in sight.
-/
import Derived.Below
namespace Go.Proofs.Ytejdaodchaeglaa
abbrev Sp := Int × Int
/-- A number lies in one of the spans. -/
def Mem (l : List Sp) (n : Int) : Prop := ∃ x ∈ l, x.1 ≤ n ∧ n ≤ x.2
theorem mem_nil (n : Int) : ¬ Mem [] n := by rintro ⟨x, hx, _⟩; cases hx
theorem mem_cons (x : Sp) (l : List Sp) (n : Int) : Mem (x :: l) n ↔ (x.1 ≤ n ∧ n ≤ x.2) ∨ Mem l n := by
  unfold Mem
  simp
theorem mem_append (a b : List Sp) (n : Int) : Mem (a ++ b) n ↔ Mem a n ∨ Mem b n := by
  induction a with
  | nil => simp [Mem]
  | cons x a ih => rw [List.cons_append, mem_cons, mem_cons, ih, or_assoc]
def fineS (x : Sp) : Bool := decide (0 ≤ x.1) && decide (x.1 ≤ x.2) && decide (x.2 ≤ 2147483647)
theorem fineS_iff (x : Sp) : fineS x = true ↔ 0 ≤ x.1 ∧ x.1 ≤ x.2 ∧ x.2 ≤ 2147483647 := by
  simp [fineS, and_assoc]
/-- Spans in order, none of which touch. -/
def Canon (l : List Sp) : Prop := (∀ x ∈ l, x.1 ≤ x.2) ∧ l.Pairwise (fun x y => x.2 + 1 < y.1)
theorem canon_nil : Canon [] := ⟨by simp, List.Pairwise.nil⟩
theorem canon_cons {x : Sp} {l : List Sp} : Canon (x :: l) ↔ x.1 ≤ x.2 ∧ (∀ y ∈ l, x.2 + 1 < y.1) ∧ Canon l := by
  unfold Canon
  rw [List.pairwise_cons]
  constructor
  · rintro ⟨h1, h2, h3⟩
    exact ⟨h1 x (by simp), h2, fun y hy => h1 y (by simp [hy]), h3⟩
  · rintro ⟨h1, h2, h3, h4⟩
    refine ⟨fun y hy => ?_, h2, h4⟩
    rcases List.mem_cons.1 hy with rfl | hy
    · exact h1
    · exact h3 y hy
theorem canon_gt {x : Sp} {l : List Sp} (h : Canon (x :: l)) {n : Int} (hn : Mem l n) : x.2 + 1 < n := by
  obtain ⟨y, hy, h1, _⟩ := hn
  have := (canon_cons.1 h).2.1 y hy
  omega
/-- A set has one form. -/
theorem canon_unique {a b : List Sp} (ha : Canon a) (hb : Canon b) (h : ∀ n, Mem a n ↔ Mem b n) : a = b := by
  induction a generalizing b with
  | nil =>
    cases b with
    | nil => rfl
    | cons y b =>
      have hy := (canon_cons.1 hb).1
      exact absurd ((h y.1).2 ((mem_cons _ _ _).2 (.inl ⟨Int.le_refl _, hy⟩))) (mem_nil _)
  | cons x a ih =>
    have hx := (canon_cons.1 ha).1
    cases b with
    | nil => exact absurd ((h x.1).1 ((mem_cons _ _ _).2 (.inl ⟨Int.le_refl _, hx⟩))) (mem_nil _)
    | cons y b =>
      have hy := (canon_cons.1 hb).1
      have low : ∀ {z : Sp} {l : List Sp}, Canon (z :: l) → ∀ n, Mem (z :: l) n → z.1 ≤ n := fun hz n hn => by
        have := (canon_cons.1 hz).1
        rcases (mem_cons _ _ _).1 hn with hn | hn
        · exact hn.1
        · have := canon_gt hz hn; omega
      have e1 : x.1 = y.1 := by
        have h1 := low hb x.1 ((h x.1).1 ((mem_cons _ _ _).2 (.inl ⟨Int.le_refl _, hx⟩)))
        have h2 := low ha y.1 ((h y.1).2 ((mem_cons _ _ _).2 (.inl ⟨Int.le_refl _, hy⟩)))
        omega
      have e2 : x.2 = y.2 := by
        apply Classical.byContradiction
        intro hne
        by_cases hlt : x.2 < y.2
        · have h1 := (h (x.2 + 1)).2 ((mem_cons _ _ _).2 (.inl ⟨by omega, by omega⟩))
          rcases (mem_cons _ _ _).1 h1 with h1 | h1
          · omega
          · have := canon_gt ha h1; omega
        · have h1 := (h (y.2 + 1)).1 ((mem_cons _ _ _).2 (.inl ⟨by omega, by omega⟩))
          rcases (mem_cons _ _ _).1 h1 with h1 | h1
          · omega
          · have := canon_gt hb h1; omega
      obtain rfl : x = y := Prod.ext e1 e2
      congr 1
      refine ih (canon_cons.1 ha).2.2 (canon_cons.1 hb).2.2 fun n => ⟨fun hn => ?_, fun hn => ?_⟩
      · have hg := canon_gt ha hn
        rcases (mem_cons _ _ _).1 ((h n).1 ((mem_cons _ _ _).2 (.inr hn))) with h1 | h1
        · omega
        · exact h1
      · have hg := canon_gt hb hn
        rcases (mem_cons _ _ _).1 ((h n).2 ((mem_cons _ _ _).2 (.inr hn))) with h1 | h1
        · omega
        · exact h1
/-- What a walk does with one more span. -/
def mergeS (out : List Sp) (s : Sp) : List Sp := match out.getLast? with
  | some y => if s.1 ≤ y.2 + 1 then out.dropLast ++ [(y.1, max y.2 s.2)] else out ++ [s]
  | none => [s]
def mergeL (l : List Sp) : List Sp := l.foldl mergeS []
theorem mergeL_snoc (l : List Sp) (s : Sp) : mergeL (l ++ [s]) = mergeS (mergeL l) s := by simp [mergeL]
theorem mergeS_len (out : List Sp) (s : Sp) : (mergeS out s).length ≤ out.length + 1 := by
  unfold mergeS
  split
  · rename_i y hy
    have : out ≠ [] := by rintro rfl; cases hy
    have : 0 < out.length := List.length_pos_iff.2 this
    split <;> simp <;> omega
  · simp
theorem mergeL_len (l : List Sp) : (mergeL l).length ≤ l.length := by
  have key : ∀ (l out : List Sp), (l.foldl mergeS out).length ≤ out.length + l.length := by
    intro l
    induction l with
    | nil => intro out; simp
    | cons x l ih =>
      intro out
      have h1 := ih (mergeS out x)
      have h2 := mergeS_len out x
      simp only [List.foldl_cons, List.length_cons]
      omega
  simpa [mergeL] using key l []
theorem canon_snoc {out : List Sp} {s : Sp} : Canon (out ++ [s]) ↔ Canon out ∧ s.1 ≤ s.2 ∧ ∀ y ∈ out, y.2 + 1 < s.1 := by
  unfold Canon
  rw [List.pairwise_append]
  constructor
  · rintro ⟨h1, h2, _, h4⟩
    exact ⟨⟨fun x hx => h1 x (by simp [hx]), h2⟩, h1 s (by simp), fun y hy => h4 y hy s (by simp)⟩
  · rintro ⟨⟨h1, h2⟩, h3, h4⟩
    refine ⟨fun x hx => ?_, h2, List.pairwise_singleton _ _, fun y hy z hz => ?_⟩
    · rcases List.mem_append.1 hx with hx | hx
      · exact h1 x hx
      · rw [List.mem_singleton.1 hx]; exact h3
    · rw [List.mem_singleton.1 hz]; exact h4 y hy
theorem last_split {out : List Sp} {y : Sp} (h : out.getLast? = some y) : out = out.dropLast ++ [y] := by
  obtain ⟨l, rfl⟩ := List.getLast?_eq_some_iff.1 h
  simp
/-- Merging spans that are sorted: their one form. -/
theorem mergeL_form (l : List Sp) (hs : l.Pairwise (fun x y => x.1 ≤ y.1)) (hf : ∀ x ∈ l, x.1 ≤ x.2) :
    Canon (mergeL l) ∧ (∀ n, Mem (mergeL l) n ↔ Mem l n) ∧ ∀ y ∈ mergeL l, ∃ x ∈ l, y.1 = x.1 := by
  have key : ∀ k, k ≤ l.length → Canon (mergeL (l.take k)) ∧ (∀ n, Mem (mergeL (l.take k)) n ↔ Mem (l.take k) n) ∧ ∀ y ∈ mergeL (l.take k), ∃ x ∈ l.take k, y.1 = x.1 := by
    intro k
    induction k with
    | zero => intro _; exact ⟨canon_nil, fun n => Iff.rfl, fun y hy => by simp [mergeL] at hy⟩
    | succ k ih =>
      intro hk
      obtain ⟨h1, h2, h3⟩ := ih (by omega)
      have hlt : k < l.length := by omega
      have ht : l.take (k + 1) = l.take k ++ [l[k]] := (List.take_succ_eq_append_getElem hlt)
      rw [ht, mergeL_snoc]
      generalize hs1 : l[k] = s at *
      have hsf : s.1 ≤ s.2 := hf s (by rw [← hs1]; exact List.getElem_mem hlt)
      have hle : ∀ x ∈ l.take k, x.1 ≤ s.1 := by
        have hp : (l.take k ++ [s]).Pairwise (fun x y => x.1 ≤ y.1) := by rw [← ht]; exact hs.sublist (List.take_sublist _ _)
        intro x hx
        exact (List.pairwise_append.1 hp).2.2 x hx s (by simp)
      generalize hout : mergeL (l.take k) = out at *
      generalize l.take k = p at *
      unfold mergeS
      cases hl : out.getLast? with
      | none =>
        obtain rfl : out = [] := List.getLast?_eq_none_iff.1 hl
        simp only []
        refine ⟨canon_cons.2 ⟨hsf, by simp, canon_nil⟩, fun n => ?_, fun y hy => ⟨s, by simp, by rw [List.mem_singleton.1 hy]⟩⟩
        rw [mem_append, ← h2 n]
        exact ⟨fun h => .inr h, fun h => h.elim (fun h => absurd h (mem_nil _)) id⟩
      | some y =>
        have he := last_split hl
        simp only []
        generalize out.dropLast = q at *
        subst he
        have hc := canon_snoc.1 h1
        have hy1 : y.1 ≤ s.1 := by
          obtain ⟨x, hx, e⟩ := h3 y (by simp)
          rw [e]
          exact hle x hx
        by_cases ht2 : s.1 ≤ y.2 + 1
        · rw [if_pos ht2]
          refine ⟨canon_snoc.2 ⟨hc.1, by simp only []; omega, hc.2.2⟩, fun n => ?_, fun z hz => ?_⟩
          · have h2n := h2 n
            rw [mem_append] at h2n ⊢
            rw [mem_append, ← h2n, or_assoc]
            refine or_congr Iff.rfl ?_
            rw [mem_cons, mem_cons, mem_cons]
            simp only [mem_nil, or_false]
            omega
          · rcases List.mem_append.1 hz with hz | hz
            · obtain ⟨x, hx, e⟩ := h3 z (by simp [hz])
              exact ⟨x, by simp [hx], e⟩
            · rw [List.mem_singleton.1 hz]
              obtain ⟨x, hx, e⟩ := h3 y (by simp)
              exact ⟨x, by simp [hx], e⟩
        · rw [if_neg ht2]
          refine ⟨canon_snoc.2 ⟨h1, hsf, fun z hz => ?_⟩, fun n => ?_, fun z hz => ?_⟩
          · rcases List.mem_append.1 hz with hz | hz
            · have h5 := hc.2.2 z hz
              have h6 := hc.2.1
              omega
            · rw [List.mem_singleton.1 hz]; omega
          · rw [mem_append p, mem_append (q ++ [y]), h2 n]
          · rcases List.mem_append.1 hz with hz | hz
            · obtain ⟨x, hx, e⟩ := h3 z hz
              exact ⟨x, by simp [hx], e⟩
            · exact ⟨s, by simp, by rw [List.mem_singleton.1 hz]⟩
  have := key l.length (Nat.le_refl _)
  rwa [List.take_length] at this
theorem mergeS_fine {out : List Sp} {s : Sp} (ho : ∀ y ∈ out, fineS y = true) (hs : fineS s = true) : ∀ y ∈ mergeS out s, fineS y = true := by
  unfold mergeS
  split
  · rename_i y hy
    have hym : fineS y = true := ho y (by rw [last_split hy]; simp)
    split
    · intro z hz
      rcases List.mem_append.1 hz with hz | hz
      · exact ho z (List.dropLast_subset _ hz)
      · rw [List.mem_singleton.1 hz]
        rw [fineS_iff] at hym hs ⊢
        simp only []
        omega
    · intro z hz
      rcases List.mem_append.1 hz with hz | hz
      · exact ho z hz
      · rw [List.mem_singleton.1 hz]; exact hs
  · intro z hz
    rw [List.mem_singleton.1 hz]; exact hs
theorem mergeL_fine (l : List Sp) (h : ∀ x ∈ l, fineS x = true) : ∀ y ∈ mergeL l, fineS y = true := by
  have key : ∀ (l out : List Sp), (∀ x ∈ l, fineS x = true) → (∀ y ∈ out, fineS y = true) → ∀ y ∈ l.foldl mergeS out, fineS y = true := by
    intro l
    induction l with
    | nil => intro out _ ho; exact ho
    | cons x l ih => intro out hl ho; exact ih _ (fun z hz => hl z (List.mem_cons_of_mem _ hz)) (mergeS_fine ho (hl x (by simp)))
  exact key l [] h (by simp)
/-- The form o of the numbers of l. -/
def Forms (l o : List Sp) : Prop := Canon o ∧ (∀ n, Mem o n ↔ Mem l n) ∧ o.length ≤ l.length
theorem forms_uniq {l o o' : List Sp} (h : Forms l o) (h' : Forms l o') : o = o' := canon_unique h.1 h'.1 fun n => (h.2.1 n).trans (h'.2.1 n).symm
theorem forms_merge {l d : List Sp} (hf : ∀ x ∈ l, x.1 ≤ x.2) (hp : d.Perm l) (hs : d.Pairwise (fun x y => x.1 ≤ y.1)) : Forms l (mergeL d) := by
  obtain ⟨h1, h2, _⟩ := mergeL_form d hs (fun x hx => hf x (hp.mem_iff.1 hx))
  refine ⟨h1, fun n => (h2 n).trans ?_, ?_⟩
  · unfold Mem
    exact ⟨fun ⟨x, hx, h⟩ => ⟨x, hp.mem_iff.1 hx, h⟩, fun ⟨x, hx, h⟩ => ⟨x, hp.mem_iff.2 hx, h⟩⟩
  · rw [← hp.length_eq]; exact mergeL_len d
/-- Each neighbour lies apart. -/
def chainS : List Sp → Bool
  | x :: y :: l => decide (x.2 + 1 < y.1) && chainS (y :: l)
  | _ => true
def okS (l : List Sp) : Bool := l.all fineS && chainS l && decide (l.length ≤ 64)
theorem chainS_canon (l : List Sp) (hf : ∀ x ∈ l, x.1 ≤ x.2) : chainS l = true ↔ Canon l := by
  induction l with
  | nil => simp [chainS, canon_nil]
  | cons x l ih =>
    cases l with
    | nil => exact ⟨fun _ => canon_cons.2 ⟨hf x (by simp), by simp, canon_nil⟩, fun _ => rfl⟩
    | cons y l =>
      simp only [chainS, Bool.and_eq_true, decide_eq_true_eq]
      rw [ih (fun z hz => hf z (List.mem_cons_of_mem _ hz))]
      constructor
      · rintro ⟨h1, h2⟩
        refine canon_cons.2 ⟨hf x (by simp), fun z hz => ?_, h2⟩
        rcases List.mem_cons.1 hz with rfl | hz
        · exact h1
        · have h3 := (canon_cons.1 h2).2.1 z hz
          have h4 := hf y (by simp)
          omega
      · intro h
        exact ⟨(canon_cons.1 h).2.1 y (by simp), (canon_cons.1 h).2.2⟩
theorem okS_iff (l : List Sp) : okS l = true ↔ (∀ x ∈ l, fineS x = true) ∧ Canon l ∧ l.length ≤ 64 := by
  unfold okS
  rw [Bool.and_eq_true, Bool.and_eq_true, decide_eq_true_eq, List.all_eq_true]
  constructor
  · rintro ⟨⟨h1, h2⟩, h3⟩
    exact ⟨h1, (chainS_canon l fun x hx => ((fineS_iff x).1 (h1 x hx)).2.1).1 h2, h3⟩
  · rintro ⟨h1, h2, h3⟩
    exact ⟨⟨h1, (chainS_canon l h2.1).2 h2⟩, h3⟩
/-- One more span: what a loop that looks at neighbours adds. -/
theorem chainS_snoc (l : List Sp) (x : Sp) : chainS (l ++ [x]) = (chainS l && (match l.getLast? with | some y => decide (y.2 + 1 < x.1) | none => true)) := by
  induction l with
  | nil => rfl
  | cons y l ih =>
    cases l with
    | nil => simp [chainS]
    | cons z l =>
      have e : ((y :: z :: l) : List Sp).getLast? = (z :: l).getLast? := by simp [List.getLast?_cons]
      rw [e]
      simp only [List.cons_append, chainS] at ih ⊢
      rw [ih, Bool.and_assoc]
theorem chainS_prefix (p q : List Sp) (h : chainS (p ++ q) = true) : chainS p = true := by
  induction p with
  | nil => rfl
  | cons x p ih =>
    cases p with
    | nil => rfl
    | cons y p =>
      simp only [List.cons_append, chainS, Bool.and_eq_true] at h ih ⊢
      exact ⟨h.1, ih h.2⟩
theorem okS_no {l : List Sp} (k : Nat) (h : ¬((l.take k).all fineS = true ∧ chainS (l.take k) = true)) : okS l = false := by
  cases e : okS l
  · rfl
  · exfalso
    unfold okS at e
    rw [Bool.and_eq_true, Bool.and_eq_true] at e
    refine h ⟨?_, chainS_prefix (l.take k) (l.drop k) (by rw [List.take_append_drop]; exact e.1.2)⟩
    rw [List.all_eq_true] at e ⊢
    exact fun x hx => e.1.1 x (List.mem_of_mem_take hx)
theorem okS_yes {l : List Sp} (h1 : l.all fineS = true) (h2 : chainS l = true) : okS l = decide (l.length ≤ 64) := by
  unfold okS
  rw [h1, h2]
  rfl
def spansF (l : List Sp) : List Sp := if okS l = true then l else []
theorem spansF_canon (l : List Sp) : Canon (spansF l) := by
  unfold spansF
  split
  · rename_i h; exact ((okS_iff l).1 h).2.1
  · exact canon_nil
theorem spansF_len (l : List Sp) : (spansF l).length ≤ 64 := by
  unfold spansF
  split
  · rename_i h; exact ((okS_iff l).1 h).2.2
  · simp
theorem spansF_fine (l : List Sp) : ∀ x ∈ spansF l, fineS x = true := by
  unfold spansF
  split
  · rename_i h; exact ((okS_iff l).1 h).1
  · simp
/-- The pieces of an intersection. -/
def cutS (x y : Sp) : List Sp := if max x.1 y.1 ≤ min x.2 y.2 then [(max x.1 y.1, min x.2 y.2)] else []
def interF (a b : List Sp) : List Sp := a.flatMap fun x => b.flatMap fun y => cutS x y
theorem cut_none {x y : Sp} (h : x.2 < y.1 ∨ y.2 < x.1) : cutS x y = [] := by
  unfold cutS
  rw [if_neg (by omega)]
theorem cuts_right {x : Sp} {b : List Sp} (h : ∀ y ∈ b, x.2 < y.1) : (b.flatMap fun y => cutS x y) = [] := by
  rw [List.flatMap_eq_nil_iff]
  exact fun y hy => cut_none (.inl (h y hy))
theorem cuts_left {y : Sp} {a b : List Sp} (h : ∀ x ∈ a, y.2 < x.1) : interF a (y :: b) = interF a b := by
  unfold interF
  induction a with
  | nil => rfl
  | cons x a ih =>
    rw [List.flatMap_cons, List.flatMap_cons, ih fun z hz => h z (List.mem_cons_of_mem _ hz), List.flatMap_cons, cut_none (.inr (h x (by simp)))]
    rfl
theorem inter_nil_right (a : List Sp) : interF a [] = [] := by
  unfold interF
  rw [List.flatMap_eq_nil_iff]
  exact fun _ _ => rfl
/-- One step of a walk along two sets. -/
theorem inter_step {x y : Sp} {a b : List Sp} (ha : Canon (x :: a)) (hb : Canon (y :: b)) :
    interF (x :: a) (y :: b) = cutS x y ++ (if x.2 < y.2 then interF a (y :: b) else interF (x :: a) b) := by
  have h1 := (canon_cons.1 ha).2.1
  have h2 := (canon_cons.1 hb).2.1
  split
  · rename_i h
    show (((y :: b).flatMap fun y => cutS x y) ++ interF a (y :: b)) = _
    rw [List.flatMap_cons, cuts_right (fun z hz => by have := h2 z hz; omega), List.append_nil]
  · rename_i h
    show (((y :: b).flatMap fun y => cutS x y) ++ interF a (y :: b)) = cutS x y ++ ((b.flatMap fun y => cutS x y) ++ interF a b)
    rw [cuts_left (fun z hz => by have := h1 z hz; omega), List.flatMap_cons, List.append_assoc]
theorem mem_cut (x y : Sp) (n : Int) : Mem (cutS x y) n ↔ (x.1 ≤ n ∧ n ≤ x.2) ∧ (y.1 ≤ n ∧ n ≤ y.2) := by
  unfold cutS
  split
  · rw [mem_cons]
    simp only [mem_nil, or_false]
    omega
  · constructor
    · exact fun h => absurd h (mem_nil _)
    · intro h; omega
theorem mem_inter (a b : List Sp) (n : Int) : Mem (interF a b) n ↔ Mem a n ∧ Mem b n := by
  have one : ∀ (x : Sp) (b : List Sp), Mem (b.flatMap fun y => cutS x y) n ↔ (x.1 ≤ n ∧ n ≤ x.2) ∧ Mem b n := by
    intro x b
    induction b with
    | nil => exact ⟨fun h => absurd h (mem_nil _), fun h => absurd h.2 (mem_nil _)⟩
    | cons y b ih =>
      rw [List.flatMap_cons, mem_append, ih, mem_cut, mem_cons]
      constructor
      · rintro (h | h)
        · exact ⟨h.1, .inl h.2⟩
        · exact ⟨h.1, .inr h.2⟩
      · rintro ⟨h, h2 | h2⟩
        · exact .inl ⟨h, h2⟩
        · exact .inr ⟨h, h2⟩
  unfold interF
  induction a with
  | nil => exact ⟨fun h => absurd h (mem_nil _), fun h => absurd h.1 (mem_nil _)⟩
  | cons x a ih =>
    rw [List.flatMap_cons, mem_append, mem_cons]
    refine (or_congr (one x b) ih).trans ?_
    constructor
    · rintro (h | h)
      · exact ⟨.inl h.1, h.2⟩
      · exact ⟨.inr h.1, h.2⟩
    · rintro ⟨h | h, h2⟩
      · exact .inl ⟨h, h2⟩
      · exact .inr ⟨h, h2⟩
/-- Each piece lies inside a span of each; the pieces are in order and apart. -/
theorem inter_form (a b : List Sp) (ha : Canon a) (hb : Canon b) :
    Canon (interF a b) ∧ (interF a b).length ≤ a.length + b.length ∧ ∀ z ∈ interF a b, (∃ x ∈ a, x.1 ≤ z.1 ∧ z.2 ≤ x.2) ∧ ∃ y ∈ b, y.1 ≤ z.1 ∧ z.2 ≤ y.2 := by
  have key : ∀ (m : Nat) (a b : List Sp), a.length + b.length ≤ m → Canon a → Canon b → Canon (interF a b) ∧ (interF a b).length ≤ a.length + b.length ∧ ∀ z ∈ interF a b, (∃ x ∈ a, x.1 ≤ z.1 ∧ z.2 ≤ x.2) ∧ ∃ y ∈ b, y.1 ≤ z.1 ∧ z.2 ≤ y.2 := by
    intro m
    induction m with
    | zero =>
      intro a b hm _ _
      obtain rfl : a = [] := List.length_eq_zero_iff.1 (by omega)
      exact ⟨canon_nil, Nat.zero_le _, fun z hz => by cases hz⟩
    | succ m ih =>
      intro a b hm ha hb
      cases a with
      | nil => exact ⟨canon_nil, Nat.zero_le _, fun z hz => by cases hz⟩
      | cons x a =>
        cases b with
        | nil => rw [inter_nil_right]; exact ⟨canon_nil, Nat.zero_le _, fun z hz => by cases hz⟩
        | cons y b =>
          rw [inter_step ha hb]
          have hx := (canon_cons.1 ha).1
          have hy := (canon_cons.1 hb).1
          have h1 := (canon_cons.1 ha).2.1
          have h2 := (canon_cons.1 hb).2.1
          obtain ⟨rest, hr, hrc, hrl, hrm, hrg⟩ : ∃ rest, (if x.2 < y.2 then interF a (y :: b) else interF (x :: a) b) = rest ∧ Canon rest ∧ rest.length ≤ a.length + b.length + 1 ∧ (∀ z ∈ rest, (∃ x' ∈ x :: a, x'.1 ≤ z.1 ∧ z.2 ≤ x'.2) ∧ ∃ y' ∈ y :: b, y'.1 ≤ z.1 ∧ z.2 ≤ y'.2) ∧ ∀ z ∈ rest, min x.2 y.2 + 1 < z.1 := by
            split
            · rename_i h
              obtain ⟨i1, i2, i3⟩ := ih a (y :: b) (by simp only [List.length_cons] at *; omega) (canon_cons.1 ha).2.2 hb
              refine ⟨_, rfl, i1, by simp only [List.length_cons] at *; omega, fun z hz => ?_, fun z hz => ?_⟩
              · obtain ⟨⟨x', hx', e⟩, e2⟩ := i3 z hz
                exact ⟨⟨x', List.mem_cons_of_mem _ hx', e⟩, e2⟩
              · obtain ⟨⟨x', hx', e⟩, _⟩ := i3 z hz
                have := h1 x' hx'
                omega
            · rename_i h
              obtain ⟨i1, i2, i3⟩ := ih (x :: a) b (by simp only [List.length_cons] at *; omega) ha (canon_cons.1 hb).2.2
              refine ⟨_, rfl, i1, by simp only [List.length_cons] at *; omega, fun z hz => ?_, fun z hz => ?_⟩
              · obtain ⟨e2, ⟨y', hy', e⟩⟩ := i3 z hz
                exact ⟨e2, ⟨y', List.mem_cons_of_mem _ hy', e⟩⟩
              · obtain ⟨_, ⟨y', hy', e⟩⟩ := i3 z hz
                have := h2 y' hy'
                omega
          rw [hr]
          unfold cutS
          split
          · rename_i hc
            simp only [List.cons_append, List.nil_append]
            refine ⟨canon_cons.2 ⟨hc, hrg, hrc⟩, by simp only [List.length_cons]; omega, fun z hz => ?_⟩
            rcases List.mem_cons.1 hz with rfl | hz
            · exact ⟨⟨x, by simp, by simp only []; omega, by simp only []; omega⟩, ⟨y, by simp, by simp only []; omega, by simp only []; omega⟩⟩
            · exact hrm z hz
          · simp only [List.nil_append]
            exact ⟨hrc, by simp only [List.length_cons]; omega, hrm⟩
  exact key _ a b (Nat.le_refl _) ha hb
end Go.Proofs.Ytejdaodchaeglaa
