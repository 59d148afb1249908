/-
  Layer 37: the plain law: the order of glitches, sorting, merging. No program in sight.
-/
import Derived.Test.YtbmoiokpkcaccaaGlC
namespace Go.Proofs.Ytbmoiokpkcaccaa
def cmp3 (a b : Int) : Int := if a < b then -1 else if b < a then 1 else 0
def orI : List Int → Int
  | [] => 0
  | x :: l => if x = 0 then orI l else x
def cmpG (g h : Gl) : Int := orI [cmp3 g.a h.a, cmp3 g.k h.k, cmp3 g.s h.s, cmp3 g.d h.d, cmp3 g.q h.q, cmp3 g.f h.f]
def lessG (g h : Gl) : Bool := decide (cmpG g h < 0)
theorem cmp_neg (a b : Int) (l : List Int) : orI (cmp3 a b :: l) < 0 ↔ a < b ∨ (a = b ∧ orI l < 0) := by
  unfold cmp3
  simp only [orI]
  split
  · rename_i h
    split
    · omega
    · omega
  · rename_i h
    split
    · rename_i h2
      split
      · omega
      · omega
    · rename_i h2
      rw [if_pos rfl]
      have : a = b := by omega
      constructor
      · exact fun h => .inr ⟨this, h⟩
      · rintro (h | h)
        · omega
        · exact h.2
theorem lessG_iff (g h : Gl) : lessG g h = true ↔ g.a < h.a ∨ (g.a = h.a ∧ (g.k < h.k ∨ (g.k = h.k ∧ (g.s < h.s ∨ (g.s = h.s ∧ (g.d < h.d ∨ (g.d = h.d ∧ (g.q < h.q ∨ (g.q = h.q ∧ g.f < h.f))))))))) := by
  unfold lessG cmpG
  rw [decide_eq_true_eq, cmp_neg, cmp_neg, cmp_neg, cmp_neg, cmp_neg, cmp_neg]
  simp only [orI]
  omega
theorem lessG_no (g h : Gl) : lessG g h = false ↔ ¬ (g.a < h.a ∨ (g.a = h.a ∧ (g.k < h.k ∨ (g.k = h.k ∧ (g.s < h.s ∨ (g.s = h.s ∧ (g.d < h.d ∨ (g.d = h.d ∧ (g.q < h.q ∨ (g.q = h.q ∧ g.f < h.f)))))))))) := by
  rw [← lessG_iff, Bool.not_eq_true]
theorem gl_ext {g h : Gl} (h1 : g.k = h.k) (h2 : g.a = h.a) (h3 : g.q = h.q) (h4 : g.s = h.s) (h5 : g.d = h.d) (h6 : g.f = h.f) : g = h := by
  cases g; cases h; simp_all
theorem lessG_irrefl (g : Gl) : lessG g g = false := by rw [lessG_no]; omega
theorem lessG_asymm {g h : Gl} (x : lessG g h = true) : lessG h g = false := by rw [lessG_iff] at x; rw [lessG_no]; omega
theorem lessG_trans {g h i : Gl} (x : lessG g h = true) (y : lessG h i = true) : lessG g i = true := by
  rw [lessG_iff] at *; omega
theorem lessG_total {g h : Gl} (x : lessG g h = false) (y : lessG h g = false) : g = h := by
  rw [lessG_no] at *
  exact gl_ext (by omega) (by omega) (by omega) (by omega) (by omega) (by omega)
def leG (g h : Gl) : Bool := !lessG h g
theorem leG_iff (g h : Gl) : leG g h = true ↔ ¬ (h.a < g.a ∨ (h.a = g.a ∧ (h.k < g.k ∨ (h.k = g.k ∧ (h.s < g.s ∨ (h.s = g.s ∧ (h.d < g.d ∨ (h.d = g.d ∧ (h.q < g.q ∨ (h.q = g.q ∧ h.f < g.f)))))))))) := by
  unfold leG
  rw [Bool.not_eq_true', lessG_no]
theorem leG_trans {g h i : Gl} (x : leG g h = true) (y : leG h i = true) : leG g i = true := by
  rw [leG_iff] at *; omega
theorem leG_total (g h : Gl) : (leG g h || leG h g) = true := by
  rw [Bool.or_eq_true, leG_iff, leG_iff]; omega
theorem leG_antisymm {g h : Gl} (x : leG g h = true) (y : leG h g = true) : g = h := by
  unfold leG at *
  rw [Bool.not_eq_true'] at *
  exact lessG_total y x
theorem leG_of_less {g h : Gl} (x : lessG g h = true) : leG g h = true := by unfold leG; rw [lessG_asymm x]; rfl
abbrev SortedG (l : List Gl) : Prop := l.Pairwise fun x y => leG x y = true
theorem sorted_uniq : ∀ {a b : List Gl}, a.Perm b → SortedG a → SortedG b → a = b
  | [], b, hp, _, _ => (List.nil_perm.1 hp).symm
  | _ :: a, [], hp, _, _ => by have := hp.length_eq; simp at this
  | x :: a, y :: b, hp, ha, hb => by
    obtain ⟨hx, ha'⟩ := List.pairwise_cons.1 ha
    obtain ⟨hy, hb'⟩ := List.pairwise_cons.1 hb
    have e : x = y := by
      rcases List.mem_cons.1 (hp.mem_iff.1 (List.mem_cons_self (a := x))) with h | h
      · exact h
      · rcases List.mem_cons.1 (hp.mem_iff.2 (List.mem_cons_self (a := y))) with h2 | h2
        · exact h2.symm
        · exact leG_antisymm (hx y h2) (hy x h)
    subst e
    rw [sorted_uniq ((List.perm_cons x).1 hp) ha' hb']
def sortG (l : List Gl) : List Gl := (l.filter okG).mergeSort leG
theorem sortG_perm (l : List Gl) : (sortG l).Perm (l.filter okG) := List.mergeSort_perm _ _
theorem sortG_sorted (l : List Gl) : SortedG (sortG l) :=
  List.pairwise_mergeSort (le := leG) (fun _ _ _ h1 h2 => leG_trans h1 h2) (fun a b => leG_total a b) _
theorem sortG_ok (l : List Gl) : ∀ x ∈ sortG l, okG x = true := fun _ hx => (List.mem_filter.1 ((sortG_perm l).mem_iff.1 hx)).2
theorem sortG_eq {l d : List Gl} (hp : d.Perm (l.filter okG)) (hs : SortedG d) : d = sortG l := sorted_uniq (hp.trans (sortG_perm l).symm) hs (sortG_sorted l)
theorem sortG_of_perm {l l' : List Gl} (h : l.Perm l') : sortG l = sortG l' :=
  sortG_eq ((sortG_perm l).trans (h.filter _)) (sortG_sorted l)
theorem sortG_len (l : List Gl) : (sortG l).length ≤ l.length := by
  rw [(sortG_perm l).length_eq]; exact List.length_filter_le _ _
theorem filter_all {l : List Gl} (h : ∀ x ∈ l, okG x = true) : l.filter okG = l := List.filter_eq_self.2 h
def kinAt (out : List Gl) (g : Gl) (n : Nat) : Bool := match out[n]? with | some x => kinG x g | none => false
theorem kinAt_some {out : List Gl} {n : Nat} {y : Gl} (h : out[n]? = some y) (g : Gl) : kinAt out g n = kinG y g := by unfold kinAt; rw [h]
/-- The place of the last one of a kind below n. -/
def lastUp (out : List Gl) (g : Gl) : Nat → Option Nat
  | 0 => none
  | n + 1 => if kinAt out g n = true then some n else lastUp out g n
def lastIx (out : List Gl) (g : Gl) : Option Nat := lastUp out g out.length
theorem lastUp_some {out : List Gl} {g : Gl} {n i : Nat} (h : lastUp out g n = some i) : i < n ∧ ∃ x, out[i]? = some x ∧ kinG x g = true ∧ ∀ j y, i < j → j < n → out[j]? = some y → kinG y g = false := by
  induction n with
  | zero => cases h
  | succ n ih =>
    unfold lastUp at h
    split at h
    · rename_i hc
      injection h with h
      subst h
      cases e : out[n]? with
      | none => unfold kinAt at hc; rw [e] at hc; cases hc
      | some x => rw [kinAt_some e] at hc; exact ⟨by omega, x, rfl, hc, fun j y h1 h2 => by omega⟩
    · rename_i hc
      obtain ⟨h1, x, h2, h3, h4⟩ := ih h
      refine ⟨by omega, x, h2, h3, fun j y hj hjn hy => ?_⟩
      by_cases e : j = n
      · subst e
        rw [kinAt_some hy] at hc
        exact Bool.not_eq_true _ ▸ hc
      · exact h4 j y hj (by omega) hy
theorem lastUp_none {out : List Gl} {g : Gl} {n : Nat} (h : lastUp out g n = none) : ∀ j y, j < n → out[j]? = some y → kinG y g = false := by
  induction n with
  | zero => intro j y hj; omega
  | succ n ih =>
    unfold lastUp at h
    split at h
    · cases h
    · rename_i hc
      intro j y hj hy
      by_cases e : j = n
      · subst e
        rw [kinAt_some hy] at hc
        exact Bool.not_eq_true _ ▸ hc
      · exact ih h j y (by omega) hy
theorem lastUp_mk {out : List Gl} {g : Gl} {n i : Nat} (hi : i < n) {x : Gl} (hx : out[i]? = some x) (hk : kinG x g = true) (h : ∀ j y, i < j → j < n → out[j]? = some y → kinG y g = false) : lastUp out g n = some i := by
  cases e : lastUp out g n with
  | none => rw [lastUp_none e i x hi hx] at hk; cases hk
  | some k =>
    obtain ⟨h1, z, h2, h3, h4⟩ := lastUp_some e
    rcases Nat.lt_trichotomy i k with hlt | rfl | hlt
    · rw [h k z hlt h1 h2] at h3; cases h3
    · rfl
    · rw [h4 i x hlt hi hx] at hk; cases hk
theorem lastUp_nil {out : List Gl} {g : Gl} {n : Nat} (h : ∀ j y, j < n → out[j]? = some y → kinG y g = false) : lastUp out g n = none := by
  cases e : lastUp out g n with
  | none => rfl
  | some k =>
    obtain ⟨h1, z, h2, h3, _⟩ := lastUp_some e
    rw [h k z h1 h2] at h3; cases h3
def mergeS (out : List Gl) (g : Gl) : List Gl := match lastIx out g with
  | some i => (match joinF (out.getD i g) g with | some y => out.set i y | none => out ++ [g])
  | none => out ++ [g]
def mergeL (l : List Gl) : List Gl := l.foldl mergeS []
def mergeG (l : List Gl) : List Gl := sortG (mergeL (sortG l))
theorem mergeL_snoc (l : List Gl) (g : Gl) : mergeL (l ++ [g]) = mergeS (mergeL l) g := by simp [mergeL]
theorem mergeS_len (out : List Gl) (g : Gl) : (mergeS out g).length ≤ out.length + 1 := by
  unfold mergeS
  split
  · split <;> simp
  · simp
theorem mergeL_len (l : List Gl) : (mergeL l).length ≤ l.length := by
  have key : ∀ (l out : List Gl), (l.foldl mergeS out).length ≤ out.length + l.length := by
    intro l
    induction l with
    | nil => intro out; simp
    | cons g l ih =>
      intro out
      have h1 := ih (mergeS out g)
      have h2 := mergeS_len out g
      simp only [List.foldl_cons, List.length_cons]
      omega
  simpa [mergeL] using key l []
theorem mergeG_len (l : List Gl) : (mergeG l).length ≤ l.length := Nat.le_trans (sortG_len _) (Nat.le_trans (mergeL_len _) (sortG_len _))
theorem mergeG_of_perm {l l' : List Gl} (h : l.Perm l') : mergeG l = mergeG l' := by unfold mergeG; rw [sortG_of_perm h]
theorem joinF_ok {g h y : Gl} (e : joinF g h = some y) : okG y = true ∧ kinG y g = true ∧ kinG y h = true ∧ kinG g h = true ∧ okG g = true ∧ okG h = true ∧ y.a = g.a ∧ y.q = g.q + h.q ∧ y.f = g.f + h.f ∧ h.a = g.a + g.q ∧ g.q + h.q ≤ 4096 ∧ g.f + h.f ≤ 1099511627776 := by
  rw [joinF_eq] at e
  split at e
  · rename_i hc
    obtain ⟨h1, h2, h3, h4, h5, h6⟩ := hc
    injection e with e
    subst e
    obtain ⟨k1, k2, k3⟩ := kinG_eq h3
    obtain ⟨gk, ga, gq, gs, gd, gf⟩ := g
    obtain ⟨hk, ha, hq, hs, hd, hf⟩ := h
    simp only [] at *
    subst k1
    subst k2
    subst k3
    refine ⟨?_, by simp [kinG], by simp [kinG], by simp [kinG], h1, h2, by first | rfl | trivial, by first | rfl | trivial, by first | rfl | trivial, h4, h5, h6⟩
    rw [okG_sum h1 h2]
    simp [h5, h6]
  · cases e
theorem joinF_none {g h : Gl} (e : joinF g h = none) (h1 : okG g = true) (h2 : okG h = true) (h3 : kinG g h = true) : ¬ (h.a = g.a + g.q ∧ g.q + h.q ≤ 4096 ∧ g.f + h.f ≤ 1099511627776) := by
  rw [joinF_eq] at e
  split at e
  · cases e
  · rename_i hc
    exact fun ⟨a, b, c⟩ => hc ⟨h1, h2, h3, a, b, c⟩
theorem kinG_refl (g : Gl) : kinG g g = true := by simp [kinG]
theorem kinG_symm {g h : Gl} (x : kinG g h = true) : kinG h g = true := by
  obtain ⟨a, b, c⟩ := kinG_eq x
  simp [kinG, a, b, c]
theorem kinG_trans {g h i : Gl} (x : kinG g h = true) (y : kinG h i = true) : kinG g i = true := by
  obtain ⟨a, b, c⟩ := kinG_eq x
  obtain ⟨a', b', c'⟩ := kinG_eq y
  simp [kinG, a, b, c, a', b', c']
theorem kinG_left {g h : Gl} (x : kinG g h = true) (c : Gl) : kinG g c = kinG h c := by
  rw [Bool.eq_iff_iff]
  exact ⟨kinG_trans (kinG_symm x), kinG_trans x⟩
/-- How a merge step looks: the list parted at the last one of the kind. -/
theorem mergeS_cases (out : List Gl) (g : Gl) :
    (mergeS out g = out ++ [g] ∧ ((∀ x ∈ out, kinG x g = false) ∨ ∃ a x b, out = a ++ x :: b ∧ kinG x g = true ∧ (∀ z ∈ b, kinG z g = false) ∧ joinF x g = none)) ∨
    (∃ a x b y, out = a ++ x :: b ∧ kinG x g = true ∧ (∀ z ∈ b, kinG z g = false) ∧ joinF x g = some y ∧ mergeS out g = a ++ y :: b) := by
  cases e : lastIx out g with
  | none =>
    refine .inl ⟨by unfold mergeS; rw [e], .inl fun x hx => ?_⟩
    obtain ⟨j, hj, rfl⟩ := List.getElem_of_mem hx
    exact lastUp_none e j _ hj (List.getElem?_eq_getElem hj)
  | some i =>
    obtain ⟨h1, x, h2, h3, h4⟩ := lastUp_some e
    have hsplit : out = out.take i ++ x :: out.drop (i + 1) := by
      obtain ⟨hi, hx⟩ := List.getElem?_eq_some_iff.1 h2
      rw [← hx, ← List.drop_eq_getElem_cons hi, List.take_append_drop]
    have hb : ∀ z ∈ out.drop (i + 1), kinG z g = false := by
      intro z hz
      obtain ⟨j, hj, rfl⟩ := List.getElem_of_mem hz
      rw [List.getElem_drop]
      have hj' : i + 1 + j < out.length := by simpa [List.length_drop, Nat.add_comm, Nat.lt_sub_iff_add_lt] using (by rw [List.length_drop] at hj; omega : i + 1 + j < out.length)
      exact h4 (i + 1 + j) _ (by omega) hj' (List.getElem?_eq_getElem hj')
    have hgd : out.getD i g = x := by rw [List.getD_eq_getElem?_getD, h2]; rfl
    cases ej : joinF x g with
    | none => exact .inl ⟨by unfold mergeS; simp only [e, hgd, ej], .inr ⟨_, x, _, hsplit, h3, hb, ej⟩⟩
    | some y =>
      refine .inr ⟨_, x, _, y, hsplit, h3, hb, ej, ?_⟩
      unfold mergeS
      simp only [e, hgd, ej]
      rw [List.set_eq_take_append_cons_drop, if_pos h1]
theorem mergeS_ok {out : List Gl} {g : Gl} (ho : ∀ x ∈ out, okG x = true) (hg : okG g = true) : ∀ x ∈ mergeS out g, okG x = true := by
  rcases mergeS_cases out g with ⟨e, _⟩ | ⟨a, x, b, y, e, _, _, ej, e2⟩
  · rw [e]
    intro z hz
    rcases List.mem_append.1 hz with hz | hz
    · exact ho z hz
    · simp only [List.mem_cons, List.not_mem_nil, or_false] at hz; rw [hz]; exact hg
  · rw [e2]
    subst e
    intro z hz
    rcases List.mem_append.1 hz with hz | hz
    · exact ho z (List.mem_append.2 (.inl hz))
    · rcases List.mem_cons.1 hz with rfl | hz
      · exact (joinF_ok ej).1
      · exact ho z (List.mem_append.2 (.inr (List.mem_cons_of_mem _ hz)))
theorem mergeL_ok {l : List Gl} (h : ∀ x ∈ l, okG x = true) : ∀ x ∈ mergeL l, okG x = true := by
  have key : ∀ (l out : List Gl), (∀ x ∈ out, okG x = true) → (∀ x ∈ l, okG x = true) → ∀ x ∈ l.foldl mergeS out, okG x = true := by
    intro l
    induction l with
    | nil => intro out ho _; exact ho
    | cons g l ih =>
      intro out ho hl
      exact ih _ (mergeS_ok ho (hl g (by simp))) (fun x hx => hl x (List.mem_cons_of_mem _ hx))
  exact key l [] (by simp) h
theorem mergeL_sort_ok (l : List Gl) : ∀ x ∈ mergeL (sortG l), okG x = true := mergeL_ok (sortG_ok l)
theorem mergeG_perm (l : List Gl) : (mergeG l).Perm (mergeL (sortG l)) := by
  have := sortG_perm (mergeL (sortG l))
  rwa [filter_all (mergeL_sort_ok l)] at this
/-- The sum of frames. -/
def sumF (l : List Gl) : Int := (l.map Gl.f).sum
theorem sumF_perm {l l' : List Gl} (h : l.Perm l') : sumF l = sumF l' := by
  unfold sumF
  induction h with
  | nil => rfl
  | cons x _ ih => simp [ih]
  | swap x y l => simp; omega
  | trans _ _ h1 h2 => exact h1.trans h2
theorem sumF_append (a b : List Gl) : sumF (a ++ b) = sumF a + sumF b := by simp [sumF]
theorem mergeS_sum (out : List Gl) (g : Gl) : sumF (mergeS out g) = sumF out + g.f := by
  rcases mergeS_cases out g with ⟨e, _⟩ | ⟨a, x, b, y, e, _, _, ej, e2⟩
  · rw [e, sumF_append]; simp [sumF]
  · rw [e2, e, sumF_append, sumF_append]
    have := (joinF_ok ej).2.2.2.2.2.2.2.2.1
    simp only [sumF, List.map_cons, List.sum_cons, this]
    omega
theorem mergeL_sum (l : List Gl) : sumF (mergeL l) = sumF l := by
  have key : ∀ (l out : List Gl), sumF (l.foldl mergeS out) = sumF out + sumF l := by
    intro l
    induction l with
    | nil => intro out; simp [sumF]
    | cons g l ih =>
      intro out
      rw [List.foldl_cons, ih, mergeS_sum]
      simp only [sumF, List.map_cons, List.sum_cons]
      omega
  rw [mergeL, key]
  simp [sumF]
theorem mergeG_sum {l : List Gl} (h : ∀ x ∈ l, okG x = true) : sumF (mergeG l) = sumF l := by
  rw [sumF_perm (mergeG_perm l), mergeL_sum, sumF_perm (sortG_perm l), filter_all h]
/-- Neighbours that do not join. -/
def NoJ : List Gl → Prop
  | x :: y :: l => joinF x y = none ∧ NoJ (y :: l)
  | _ => True
theorem noJ_snoc (l : List Gl) (x g : Gl) : NoJ (l ++ [x] ++ [g]) ↔ NoJ (l ++ [x]) ∧ joinF x g = none := by
  induction l with
  | nil => simp [NoJ]
  | cons y l ih =>
    cases l with
    | nil => simp [NoJ]
    | cons z l =>
      simp only [List.cons_append, NoJ] at ih ⊢
      rw [ih, and_assoc]
theorem noJ_one (g : Gl) : NoJ [g] := trivial
/-- The list, one kind at a time, is in order and nothing in it joins. -/
def GoodM (out : List Gl) : Prop := ∀ c : Gl, SortedG (out.filter fun x => kinG x c) ∧ NoJ (out.filter fun x => kinG x c)
theorem filter_none {l : List Gl} {c : Gl} (h : ∀ z ∈ l, kinG z c = false) : l.filter (fun x => kinG x c) = [] :=
  List.filter_eq_nil_iff.2 fun z hz => by rw [h z hz]; simp
theorem kin_other {g c : Gl} (h : kinG g c = false) {x : Gl} (hx : kinG x g = true) : kinG x c = false := by
  rw [kinG_left hx]; exact h
/-- A list in good order is its own merge. -/
theorem merge_good {s : List Gl} (hN : ∀ c : Gl, NoJ (s.filter fun x => kinG x c)) : mergeL s = s := by
  have key : ∀ (q p : List Gl), s = p ++ q → mergeL p = p → mergeL s = s := by
    intro q
    induction q with
    | nil => intro p e h; rw [List.append_nil] at e; rw [e]; exact h
    | cons g q ih =>
      intro p e h
      refine ih (p ++ [g]) (by rw [e]; simp) ?_
      rw [mergeL_snoc, h]
      rcases mergeS_cases p g with ⟨e2, _⟩ | ⟨a, x, b, y, e2, hk, hb, ej, _⟩
      · exact e2
      · exfalso
        have hn := hN g
        rw [e, e2] at hn
        simp only [List.filter_append, List.filter_cons, hk, kinG_refl, if_true, List.append_assoc, List.cons_append, filter_none hb, List.nil_append] at hn
        have hpre : ∀ (l : List Gl) (r : List Gl), NoJ (l ++ x :: g :: r) → joinF x g = none := by
          intro l
          induction l with
          | nil => intro r h; exact h.1
          | cons z l ih2 =>
            intro r h
            cases l with
            | nil => exact h.2.1
            | cons z2 l => exact ih2 r h.2
        rw [hpre _ _ hn] at ej
        cases ej
  exact key s [] rfl rfl
/-- What has been merged so far, of an ordered list that is read up to p. -/
def StepI (p out : List Gl) : Prop := GoodM out ∧ (∀ x ∈ out, okG x = true) ∧ ∀ x ∈ out, x ∈ p ∨ ∃ y ∈ p, x.a < y.a
theorem step_good {p out : List Gl} {g : Gl} (h : StepI p out) (hg : okG g = true) (hs : ∀ y ∈ p, leG y g = true) : StepI (p ++ [g]) (mergeS out g) := by
  obtain ⟨hG, ho, hI⟩ := h
  have ho' := mergeS_ok ho hg
  have hle : ∀ x ∈ out, kinG x g = true → leG x g = true := by
    intro x hx hk
    rcases hI x hx with hx | ⟨y, hy, hlt⟩
    · exact hs x hx
    · have := (leG_iff y g).1 (hs y hy)
      rw [leG_iff]
      omega
  have hmem : ∀ x ∈ out, x ∈ p ++ [g] ∨ ∃ y ∈ p ++ [g], x.a < y.a := fun x hx => by
    rcases hI x hx with hx | ⟨y, hy, hlt⟩
    · exact .inl (List.mem_append.2 (.inl hx))
    · exact .inr ⟨y, List.mem_append.2 (.inl hy), hlt⟩
  rcases mergeS_cases out g with ⟨e, hc⟩ | ⟨a, x, b, y, e, hk, hb, ej, e2⟩
  · rw [e] at ho' ⊢
    refine ⟨fun c => ?_, ho', fun x hx => ?_⟩
    · obtain ⟨h1, h2⟩ := hG c
      rw [List.filter_append]
      cases hkc : kinG g c
      · rw [filter_none (l := [g]) (by simpa using hkc), List.append_nil]
        exact ⟨h1, h2⟩
      · have hf : [g].filter (fun x => kinG x c) = [g] := by simp [hkc]
        rw [hf]
        refine ⟨List.pairwise_append.2 ⟨h1, by simp, fun x hx y hy => ?_⟩, ?_⟩
        · simp only [List.mem_cons, List.not_mem_nil, or_false] at hy
          rw [hy]
          obtain ⟨hx1, hx2⟩ := List.mem_filter.1 hx
          exact hle x hx1 (kinG_trans hx2 (kinG_symm hkc))
        · rcases hc with hno | ⟨a, x, b, e3, hk, hb, ej⟩
          · rw [filter_none (fun z hz => by
              cases hz2 : kinG z c
              · rfl
              · rw [← hno z hz]; exact (kinG_trans hz2 (kinG_symm hkc)).symm)]
            exact noJ_one g
          · have hb' : ∀ z ∈ b, kinG z c = false := fun z hz => by
              cases hz2 : kinG z c
              · rfl
              · rw [← hb z hz]; exact (kinG_trans hz2 (kinG_symm hkc)).symm
            have hxc : kinG x c = true := kinG_trans hk hkc
            rw [e3, List.filter_append, List.filter_cons, if_pos hxc, filter_none hb'] at h2 ⊢
            exact (noJ_snoc _ _ _).2 ⟨h2, ej⟩
    · rcases List.mem_append.1 hx with hx | hx
      · exact hmem x hx
      · exact .inl (List.mem_append.2 (.inr hx))
  · rw [e2] at ho' ⊢
    obtain ⟨j1, j2, j3, j4, j5, j6, j7, j8, j9, j10, j11, j12⟩ := joinF_ok ej
    have hq : 1 ≤ g.q ∧ 1 ≤ g.f := by
      obtain ⟨gk, ga, gq, gs, gd, gf⟩ := g
      have := okG_bd j6
      exact ⟨this.2.2.1, this.2.2.2.2.1⟩
    have hq2 : 1 ≤ x.q := by
      obtain ⟨gk, ga, gq, gs, gd, gf⟩ := x
      have := okG_bd j5
      exact this.2.2.1
    have hxo : okG x = true := j5
    refine ⟨fun c => ?_, ho', fun z hz => ?_⟩
    · obtain ⟨h1, h2⟩ := hG c
      rw [e, List.filter_append, List.filter_cons] at h1 h2
      rw [List.filter_append, List.filter_cons]
      have hyc : kinG y c = kinG x c := kinG_left j2 c
      rw [hyc]
      cases hxc : kinG x c
      · rw [hxc] at h1 h2
        exact ⟨h1, h2⟩
      · rw [hxc, if_pos rfl] at h1 h2
        rw [if_pos rfl]
        have hb' : ∀ z ∈ b, kinG z c = false := fun z hz => by
          cases hz2 : kinG z c
          · rfl
          · rw [← hb z hz]; exact (kinG_trans (kinG_trans hz2 (kinG_symm hxc)) hk).symm
        rw [filter_none hb'] at h1 h2 ⊢
        obtain ⟨h3, _, h4⟩ := List.pairwise_append.1 h1
        obtain ⟨ky1, ky2, ky3⟩ := kinG_eq j2
        have hxy : leG x y = true := by
          rw [leG_iff]
          omega
        refine ⟨List.pairwise_append.2 ⟨h3, by simp, fun u hu v hv => ?_⟩, ?_⟩
        · simp only [List.mem_cons, List.not_mem_nil, or_false] at hv
          rw [hv]
          exact leG_trans (h4 u hu x (by simp)) hxy
        · rcases List.eq_nil_or_concat (a.filter fun x => kinG x c) with hn | ⟨l', u, hn⟩
          · rw [hn]; exact noJ_one y
          · rw [hn] at h2 ⊢
            rw [List.concat_eq_append] at h2 ⊢
            obtain ⟨h5, h6⟩ := (noJ_snoc _ _ _).1 h2
            refine (noJ_snoc _ _ _).2 ⟨h5, ?_⟩
            have hu : u ∈ a.filter fun x => kinG x c := by rw [hn]; simp
            obtain ⟨hu1, hu2⟩ := List.mem_filter.1 hu
            have huo : okG u = true := ho u (by rw [e]; exact List.mem_append.2 (.inl hu1))
            have hux : kinG u x = true := kinG_trans hu2 (kinG_symm hxc)
            have hne := joinF_none h6 huo hxo hux
            cases e5 : joinF u y with
            | none => rfl
            | some v =>
              exfalso
              obtain ⟨_, _, _, _, _, _, _, _, _, i10, i11, i12⟩ := joinF_ok e5
              exact hne ⟨by omega, by omega, by omega⟩
    · rcases List.mem_append.1 hz with hz | hz
      · exact hmem z (by rw [e]; exact List.mem_append.2 (.inl hz))
      · rcases List.mem_cons.1 hz with rfl | hz
        · exact .inr ⟨g, by simp, by omega⟩
        · exact hmem z (by rw [e]; exact List.mem_append.2 (.inr (List.mem_cons_of_mem _ hz)))
theorem merge_makes {s : List Gl} (hs : SortedG s) (ho : ∀ x ∈ s, okG x = true) : StepI s (mergeL s) := by
  have key : ∀ (q p : List Gl), s = p ++ q → StepI p (mergeL p) → StepI s (mergeL s) := by
    intro q
    induction q with
    | nil => intro p e h; rw [List.append_nil] at e; rw [e]; exact h
    | cons g q ih =>
      intro p e h
      refine ih (p ++ [g]) (by rw [e]; simp) ?_
      rw [mergeL_snoc]
      refine step_good h (ho g (by rw [e]; simp)) fun y hy => ?_
      rw [e] at hs
      exact (List.pairwise_append.1 hs).2.2 y hy g (by simp)
  exact key s [] rfl ⟨fun c => ⟨List.Pairwise.nil, trivial⟩, by simp [mergeL], by simp [mergeL]⟩
/-- Merging twice is merging once. -/
theorem mergeG_idem (l : List Gl) : mergeG (mergeG l) = mergeG l := by
  have hm := merge_makes (sortG_sorted l) (sortG_ok l)
  have hso : sortG (mergeG l) = mergeG l := by
    refine (sortG_eq ?_ (sortG_sorted _)).symm
    rw [show (mergeG l).filter okG = mergeG l from filter_all fun x hx => sortG_ok _ x hx]
    exact List.Perm.refl _
  have hgood : ∀ c : Gl, NoJ ((mergeG l).filter fun x => kinG x c) := by
    intro c
    have : (mergeG l).filter (fun x => kinG x c) = (mergeL (sortG l)).filter (fun x => kinG x c) :=
      sorted_uniq ((mergeG_perm l).filter _) ((sortG_sorted _).filter _) (hm.1 c).1
    rw [this]
    exact (hm.1 c).2
  show sortG (mergeL (sortG (mergeG l))) = mergeG l
  rw [hso, merge_good hgood, hso]
end Go.Proofs.Ytbmoiokpkcaccaa
