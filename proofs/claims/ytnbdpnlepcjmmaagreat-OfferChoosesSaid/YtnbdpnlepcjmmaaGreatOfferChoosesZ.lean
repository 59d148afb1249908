/-
  OfferChooses, for every input: the law returns true, and the arguments read behind the call as they read before. No condition.
-/
import Derived.Test.YtnbdpnlepcjmmaaGreatOfferChoosesK4
import Derived.Deep.DeepCutAuto
namespace Go.Proofs.YtnbdpnlepcjmmaaGreat
open Go.RowKit
/-- Reduced lists. -/
theorem drop_iff {l : List Bx} {i : Nat} {b : Bx} : ∀ n, dropUp l i b n = true ↔ ∃ j c, j < n ∧ l[j]? = some c ∧ dropAt i b j c = true := by
  intro n
  induction n with
  | zero => exact ⟨fun h => (by cases h), fun ⟨j, c, h, _⟩ => (by omega)⟩
  | succ n ih =>
    show (dropUp l i b n || (match l[n]? with | some c => dropAt i b n c | none => false)) = true ↔ _
    rw [Bool.or_eq_true, ih]
    constructor
    · rintro (⟨j, c, h1, h2, h3⟩ | h)
      · exact ⟨j, c, by omega, h2, h3⟩
      · cases e : l[n]? with
        | none => rw [e] at h; cases h
        | some c => rw [e] at h; exact ⟨n, c, by omega, e, h⟩
    · rintro ⟨j, c, h1, h2, h3⟩
      by_cases hj : j = n
      · subst hj
        exact Or.inr (by rw [h2]; exact h3)
      · exact Or.inl ⟨j, c, by omega, h2, h3⟩
theorem dropAt_iff {i j : Nat} {b c : Bx} : dropAt i b j c = true ↔ j ≠ i ∧ insideB b c = true ∧ (j < i ∨ insideB c b = false) := by
  unfold dropAt
  simp only [Bool.and_eq_true, Bool.or_eq_true, decide_eq_true_eq, Bool.not_eq_true', and_assoc]
/-- Box j makes box i fall away. -/
def Dom (l : List Bx) (i j : Nat) : Bool := match l[i]?, l[j]? with | some b, some c => dropAt i b j c | _, _ => false
theorem dom_iff {l : List Bx} {i j : Nat} : Dom l i j = true ↔ ∃ b c, l[i]? = some b ∧ l[j]? = some c ∧ j ≠ i ∧ insideB b c = true ∧ (j < i ∨ insideB c b = false) := by
  unfold Dom
  constructor
  · intro h
    cases e : l[i]? with
    | none => rw [e] at h; cases h
    | some b =>
      cases e2 : l[j]? with
      | none => rw [e, e2] at h; cases h
      | some c => rw [e, e2] at h; exact ⟨b, c, rfl, rfl, dropAt_iff.1 h⟩
  · rintro ⟨b, c, e, e2, h⟩
    rw [e, e2]
    exact dropAt_iff.2 h
theorem dom_trans {l : List Bx} {i j k : Nat} (h1 : Dom l i j = true) (h2 : Dom l j k = true) : Dom l i k = true := by
  obtain ⟨b, c, e1, e2, n1, i1, o1⟩ := dom_iff.1 h1
  obtain ⟨c', d, e3, e4, n2, i2, o2⟩ := dom_iff.1 h2
  rw [e2] at e3
  injection e3 with e3
  subst e3
  have h3 := insB_trans i1 i2
  have key : k < i ∨ insideB d b = false := by
    by_cases hdb : insideB d b = true
    · have c1 : insideB c b = true := insB_trans i2 hdb
      have c2 : insideB d c = true := insB_trans hdb i1
      rcases o1 with o1 | o1
      · rcases o2 with o2 | o2
        · exact .inl (by omega)
        · rw [c2] at o2; cases o2
      · rw [c1] at o1; cases o1
    · exact .inr (by simpa using hdb)
  refine dom_iff.2 ⟨b, d, e1, e4, fun e => ?_, h3, key⟩
  subst e
  rw [e1] at e4
  injection e4 with e4
  subst e4
  rcases key with h | h
  · omega
  · rw [insB_self] at h; cases h
theorem dom_irr (l : List Bx) (i : Nat) : Dom l i i = false := by
  cases h : Dom l i i
  · rfl
  · obtain ⟨_, _, _, _, n, _⟩ := dom_iff.1 h
    exact absurd rfl n
theorem count_lt {α : Type} {p q : α → Bool} : ∀ {l : List α} {x : α}, (∀ y, p y = true → q y = true) → x ∈ l → q x = true → p x = false → l.countP p < l.countP q
  | [], x, _, hx, _, _ => by cases hx
  | y :: l, x, h, hx, h1, h2 => by
    rw [List.countP_cons, List.countP_cons]
    have hm := List.countP_mono_left (l := l) (fun z _ => h z)
    rcases List.mem_cons.1 hx with e | hx
    · subst e
      rw [h1, h2]
      simp
      omega
    · have := count_lt h hx h1 h2
      by_cases hp : p y = true
      · rw [hp, h y hp]
        simp
        exact this
      · have hp2 : p y = false := by simpa using hp
        simp only [hp2, Bool.false_eq_true, if_false]
        omega
theorem keep_in {l : List Bx} {i : Nat} {b : Bx} (hi : l[i]? = some b) (hd : dropUp l i b l.length = false) : ∀ n, i < n → b ∈ keepUp l n := by
  intro n
  induction n with
  | zero => exact fun h => by omega
  | succ n ih =>
    intro h
    show b ∈ keepUp l n ++ (match l[n]? with | some b => if dropUp l n b l.length = true then [] else [b] | none => [])
    by_cases e : i = n
    · subst e
      rw [hi]
      refine List.mem_append_right _ ?_
      show b ∈ if dropUp l i b l.length = true then [] else [b]
      rw [if_neg (by rw [hd]; decide)]
      exact List.mem_singleton.2 rfl
    · exact List.mem_append_left _ (ih (by omega))
theorem drop_dom {l : List Bx} {i : Nat} {b : Bx} (hi : l[i]? = some b) : dropUp l i b l.length = true ↔ ∃ j, Dom l i j = true := by
  rw [drop_iff]
  constructor
  · rintro ⟨j, c, _, h2, h3⟩
    exact ⟨j, by unfold Dom; rw [hi, h2]; exact h3⟩
  · rintro ⟨j, h⟩
    obtain ⟨b', c, e1, e2, h3⟩ := dom_iff.1 h
    rw [hi] at e1
    injection e1 with e1
    subst e1
    exact ⟨j, c, (List.getElem?_eq_some_iff.1 e2).1, e2, dropAt_iff.2 h3⟩
theorem reduce_top_ {l : List Bx} : ∀ (m i : Nat) (b : Bx), (List.range l.length).countP (Dom l i) ≤ m → l[i]? = some b → ∃ c ∈ reduceL l, insideB b c = true := by
  intro m
  induction m with
  | zero =>
    intro i b hm hi
    refine ⟨b, keep_in hi ?_ l.length (List.getElem?_eq_some_iff.1 hi).1, insB_self b⟩
    cases h : dropUp l i b l.length
    · rfl
    · obtain ⟨j, hj⟩ := (drop_dom hi).1 h
      obtain ⟨_, c, _, e2, _⟩ := dom_iff.1 hj
      have : 0 < (List.range l.length).countP (Dom l i) := List.countP_pos_iff.2 ⟨j, List.mem_range.2 (List.getElem?_eq_some_iff.1 e2).1, hj⟩
      omega
  | succ m ih =>
    intro i b hm hi
    cases h : dropUp l i b l.length
    · exact ⟨b, keep_in hi h l.length (List.getElem?_eq_some_iff.1 hi).1, insB_self b⟩
    · obtain ⟨j, hj⟩ := (drop_dom hi).1 h
      obtain ⟨b', c, e1, e2, _, hin, _⟩ := dom_iff.1 hj
      rw [hi] at e1
      injection e1 with e1
      subst e1
      have hlt := count_lt (l := List.range l.length) (p := Dom l j) (q := Dom l i) (x := j) (fun y hy => dom_trans hj hy) (List.mem_range.2 (List.getElem?_eq_some_iff.1 e2).1) hj (dom_irr l j)
      obtain ⟨d, hd, h2⟩ := ih j c (by omega) e2
      exact ⟨d, hd, insB_trans hin h2⟩
/-- Each box lies in one that stays. -/
theorem reduce_top {l : List Bx} {b : Bx} (hb : b ∈ l) : ∃ c ∈ reduceL l, insideB b c = true := by
  obtain ⟨i, hi⟩ := List.mem_iff_getElem?.1 hb
  exact reduce_top_ _ i b (Nat.le_refl _) hi
theorem reduce_nil {l : List Bx} : reduceL l = [] ↔ l = [] := by
  constructor
  · intro h
    cases l with
    | nil => rfl
    | cons b l =>
      obtain ⟨c, hc, _⟩ := reduce_top (List.mem_cons_self .. : b ∈ b :: l)
      rw [h] at hc
      cases hc
  · intro h
    subst h
    rfl
/-- Lists whose boxes are good: FL. -/
def FL (l : List Bx) : Prop := (∀ b ∈ l, FB b) ∧ l.length ≤ 64
theorem FL.valid {l : List Bx} (h : FL l) : validL l = true := by
  unfold validL
  rw [Bool.and_eq_true, decide_eq_true_eq, List.all_eq_true]
  exact ⟨h.2, fun b hb => (h.1 b hb).1⟩
theorem FL.boxes {l : List Bx} (h : FL l) : boxesF l = l := if_pos h.valid
theorem FL.of_valid {l : List Bx} (h : validL l = true) (hk : ∀ b ∈ l, I64 b.k) : FL l := by
  unfold validL at h
  rw [Bool.and_eq_true, decide_eq_true_eq, List.all_eq_true] at h
  exact ⟨fun b hb => ⟨h.2 b hb, hk b hb⟩, h.1⟩
theorem FL.reduce {l : List Bx} (h : FL l) : FL (reduceL l) := ⟨fun b hb => h.1 b (reduce_mem b hb), Nat.le_trans (reduce_len l) h.2⟩
theorem FL.has {l : List Bx} (h : FL l) (c : Ch) : hasL l c = true ↔ ∃ b ∈ l, inB b c = true := by
  unfold hasL
  rw [h.boxes, List.any_eq_true]
theorem has_reduce {l : List Bx} (h : FL l) (c : Ch) : hasL (reduceL l) c = hasL l c := by
  rw [Bool.eq_iff_iff, h.reduce.has, h.has]
  constructor
  · rintro ⟨b, hb, hc⟩
    exact ⟨b, reduce_mem b hb, hc⟩
  · rintro ⟨b, hb, hc⟩
    obtain ⟨d, hd, hi⟩ := reduce_top hb
    exact ⟨d, hd, insB_has (h.1 b hb) (h.1 d (reduce_mem d hd)) hi hc⟩
theorem has_app {l m : List Bx} (h : FL (l ++ m)) (c : Ch) : hasL (l ++ m) c = (hasL l c || hasL m c) := by
  have hl : FL l := ⟨fun b hb => h.1 b (List.mem_append_left _ hb), by have := h.2; rw [List.length_append] at this; omega⟩
  have hm : FL m := ⟨fun b hb => h.1 b (List.mem_append_right _ hb), by have := h.2; rw [List.length_append] at this; omega⟩
  rw [Bool.eq_iff_iff, Bool.or_eq_true, h.has, hl.has, hm.has]
  constructor
  · rintro ⟨b, hb, hc⟩
    exact (List.mem_append.1 hb).elim (fun hb => .inl ⟨b, hb, hc⟩) fun hb => .inr ⟨b, hb, hc⟩
  · rintro (⟨b, hb, hc⟩ | ⟨b, hb, hc⟩)
    · exact ⟨b, List.mem_append_left _ hb, hc⟩
    · exact ⟨b, List.mem_append_right _ hb, hc⟩
/-- Products. -/
theorem len_cuts (x : Sp) (b : List Sp) : (cutsS x b).length = cutsN x b := by
  unfold cutsS cutsN
  induction b with
  | nil => rfl
  | cons y b ih =>
    rw [List.flatMap_cons, List.length_append, ih, List.filter_cons]
    unfold cutS
    by_cases h : max x.1 y.1 ≤ min x.2 y.2
    · rw [if_pos h, decide_eq_true h, if_pos rfl, List.length_cons]
      simp
      omega
    · rw [if_neg h, decide_eq_false h, if_neg (by decide), List.length_nil, Nat.zero_add]
theorem len_inter (a b : List Sp) : (interF a b).length = piecesN a b := by
  unfold piecesN
  induction a with
  | nil => rfl
  | cons x a ih =>
    have : interF (x :: a) b = cutsS x b ++ interF a b := rfl
    rw [this, List.length_append, ih, List.map_cons, List.sum_cons, len_cuts]
theorem FB.r {b : Bx} (h : FB b) : okS b.r = true := (fineB_parts h.1).2.1.1
theorem FB.s {b : Bx} (h : FB b) : okS b.s = true := (fineB_parts h.1).2.2.1.1
theorem FB.r0 {b : Bx} (h : FB b) : 0 < b.r.length := (fineB_parts h.1).2.1.2
theorem FB.s0 {b : Bx} (h : FB b) : 0 < b.s.length := (fineB_parts h.1).2.2.1.2
theorem FB.m0 {b : Bx} (h : FB b) : 0 < b.m.length := (fineB_parts h.1).2.2.2
theorem FB.k0 {b : Bx} (h : FB b) : b.k ≠ 0 := by
  have := kinds_range h.2 (fineB_parts h.1).1
  omega
theorem FB.sr {b : Bx} (h : FB b) : spansF b.r = b.r := ok_spans h.r
theorem FB.ss {b : Bx} (h : FB b) : spansF b.s = b.s := ok_spans h.s
theorem fineB_all {b : Bx} : fineB b = true ↔ kindsOk b.k = true ∧ withinS b.r 1000 768000 = true ∧ withinS b.s 1 65536 = true ∧ mapsOk b.m = true := by
  unfold fineB
  simp only [Bool.and_eq_true, and_assoc]
theorem maps_iff {m : List (List Int)} : mapsOk m = true ↔ 1 ≤ m.length ∧ m.length ≤ 16 ∧ (∀ x ∈ m, validM x = true) ∧ m.Nodup := by
  unfold mapsOk uniqOk
  simp only [Bool.and_eq_true, decide_eq_true_eq, List.all_eq_true, and_assoc]
theorem maps_sub {m n : List (List Int)} (h : mapsOk m = true) (hs : n.Sublist m) (hn : 0 < n.length) : mapsOk n = true := by
  obtain ⟨h1, h2, h3, h4⟩ := maps_iff.1 h
  exact maps_iff.2 ⟨hn, Nat.le_trans hs.length_le h2, fun x hx => h3 x (hs.subset hx), hs.nodup h4⟩
/-- Whether a choice is in a box in some dimensions. -/
def inD (d : Int) (y : Bx) (c : Ch) : Bool := (!bitZ d 1 || kindB y.k c.k) && (!bitZ d 2 || hasF y.r c.r) && (!bitZ d 4 || decide (c.m ∈ y.m)) && (!bitZ d 8 || hasF y.s c.s)
theorem bit15 : bitZ 15 1 = true ∧ bitZ 15 2 = true ∧ bitZ 15 4 = true ∧ bitZ 15 8 = true := by decide
theorem inD_all (y : Bx) (c : Ch) : inD 15 y c = inB y c := by
  unfold inD inB
  rw [bit15.1, bit15.2.1, bit15.2.2.1, bit15.2.2.2]
  simp
theorem some_iff {z : Bx} : someB z = true ↔ z.k ≠ 0 ∧ 0 < z.m.length ∧ 0 < z.r.length ∧ 0 < z.s.length := by
  unfold someB
  simp only [Bool.and_eq_true, decide_eq_true_eq, bne_iff_ne, ne_eq, and_assoc]
theorem many_iff {d : Int} {z : Bx} : manyB d z = false ↔ (bitZ d 2 = true → z.r.length ≤ 64) ∧ (bitZ d 8 = true → z.s.length ≤ 64) := by
  unfold manyB
  cases bitZ d 2 <;> cases bitZ d 8 <;> simp
theorem dims_fine {d : Int} {x y : Bx} (hx : FB x) (hy : FB y) (h : someB (dimsF d x y) = true) (hm : manyB d (dimsF d x y) = false) : FB (dimsF d x y) := by
  obtain ⟨s1, s2, s3, s4⟩ := some_iff.1 h
  obtain ⟨m1, m2⟩ := many_iff.1 hm
  obtain ⟨f1, f2, f3, f4⟩ := fineB_all.1 hx.1
  obtain ⟨g1, g2, g3, g4⟩ := fineB_all.1 hy.1
  unfold dimsF at *
  simp only [hx.sr, hx.ss, hy.sr, hy.ss] at *
  have hk : kindsOk (if bitZ d 1 = true then bits .and .i64 x.k y.k else x.k) = true ∧ I64 (if bitZ d 1 = true then bits .and .i64 x.k y.k else x.k) := by
    by_cases hb : bitZ d 1 = true
    · rw [if_pos hb] at s1 ⊢
      exact kinds_and hx.2 hy.2 f1 g1 s1
    · rw [if_neg hb]
      exact ⟨f1, hx.2⟩
  refine ⟨fineB_all.2 ⟨hk.1, ?_, ?_, ?_⟩, hk.2⟩
  · show withinS (if bitZ d 2 = true then interF x.r y.r else x.r) _ _ = true
    by_cases hb : bitZ d 2 = true
    · rw [if_pos hb] at s3 m1 ⊢
      exact within_inter f2 hy.r s3 (m1 hb)
    · rw [if_neg hb]
      exact f2
  · show withinS (if bitZ d 8 = true then interF x.s y.s else x.s) _ _ = true
    by_cases hb : bitZ d 8 = true
    · rw [if_pos hb] at s4 m2 ⊢
      exact within_inter f3 hy.s s4 (m2 hb)
    · rw [if_neg hb]
      exact f3
  · show mapsOk (if bitZ d 4 = true then x.m.filter (fun z => decide (z ∈ y.m)) else x.m) = true
    by_cases hb : bitZ d 4 = true
    · rw [if_pos hb] at s2 ⊢
      exact maps_sub f4 List.filter_sublist s2
    · rw [if_neg hb]
      exact f4
theorem dims_in {d : Int} {x y : Bx} (hx : FB x) (hy : FB y) (hm : manyB d (dimsF d x y) = false) (c : Ch) : inB (dimsF d x y) c = (inB x c && inD d y c) := by
  obtain ⟨m1, m2⟩ := many_iff.1 hm
  have e1 : kindB (dimsF d x y).k c.k = (kindB x.k c.k && (!bitZ d 1 || kindB y.k c.k)) := by
    show kindB (if bitZ d 1 = true then bits .and .i64 x.k y.k else x.k) c.k = _
    cases hb : bitZ d 1
    · simp
    · rw [if_pos rfl, kind_and hx.kr hy.kr]
      simp
  have e2 : hasF (dimsF d x y).r c.r = (hasF x.r c.r && (!bitZ d 2 || hasF y.r c.r)) := by
    have e : (dimsF d x y).r = if bitZ d 2 = true then interF (spansF x.r) (spansF y.r) else x.r := rfl
    rw [e] at m1 ⊢
    cases hb : bitZ d 2
    · simp
    · rw [hb] at m1
      rw [if_pos rfl, hx.sr, hy.sr] at *
      rw [has_inter2 hx.r hy.r (m1 rfl)]
      simp
  have e3 : decide (c.m ∈ (dimsF d x y).m) = (decide (c.m ∈ x.m) && (!bitZ d 4 || decide (c.m ∈ y.m))) := by
    show decide (c.m ∈ (if bitZ d 4 = true then x.m.filter (fun z => decide (z ∈ y.m)) else x.m)) = _
    cases hb : bitZ d 4
    · simp
    · rw [if_pos rfl]
      simp [List.mem_filter]
  have e4 : hasF (dimsF d x y).s c.s = (hasF x.s c.s && (!bitZ d 8 || hasF y.s c.s)) := by
    have e : (dimsF d x y).s = if bitZ d 8 = true then interF (spansF x.s) (spansF y.s) else x.s := rfl
    rw [e] at m2 ⊢
    cases hb : bitZ d 8
    · simp
    · rw [hb] at m2
      rw [if_pos rfl, hx.ss, hy.ss] at *
      rw [has_inter2 hx.s hy.s (m2 rfl)]
      simp
  unfold inB inD
  rw [e1, e2, e3, e4]
  generalize kindB x.k c.k = a1
  generalize hasF x.r c.r = a2
  generalize decide (c.m ∈ x.m) = a3
  generalize hasF x.s c.s = a4
  generalize (!bitZ d 1 || kindB y.k c.k) = b1
  generalize (!bitZ d 2 || hasF y.r c.r) = b2
  generalize (!bitZ d 4 || decide (c.m ∈ y.m)) = b3
  generalize (!bitZ d 8 || hasF y.s c.s) = b4
  cases a1 <;> cases a2 <;> cases a3 <;> cases a4 <;> cases b1 <;> cases b2 <;> cases b3 <;> cases b4 <;> rfl
def pairsL (a b : List Bx) : List (Bx × Bx) := a.flatMap fun x => b.map fun y => (x, y)
theorem mem_pairs {a b : List Bx} {p : Bx × Bx} : p ∈ pairsL a b ↔ p.1 ∈ a ∧ p.2 ∈ b := by
  unfold pairsL
  rw [List.mem_flatMap]
  constructor
  · rintro ⟨x, hx, h⟩
    obtain ⟨y, hy, e⟩ := List.mem_map.1 h
    subst e
    exact ⟨hx, hy⟩
  · rintro ⟨h1, h2⟩
    exact ⟨p.1, h1, List.mem_map.2 ⟨p.2, h2, rfl⟩⟩
theorem pairs_len (a b : List Bx) : (pairsL a b).length = a.length * b.length := by
  unfold pairsL
  induction a with
  | nil => simp
  | cons x a ih =>
    rw [List.flatMap_cons, List.length_append, ih, List.length_map, List.length_cons, Nat.succ_mul]
    omega
theorem prod_pairs (d : Int) (a b : List Bx) : ∀ s, a.foldl (prodRow d b) s = (pairsL a b).foldl (fun s p => prodStep d p.1 s p.2) s := by
  unfold pairsL
  induction a with
  | nil => exact fun s => rfl
  | cons x a ih =>
    intro s
    rw [List.foldl_cons, ih, List.flatMap_cons, List.foldl_append, List.foldl_map]
    rfl
def candL (d : Int) (ps : List (Bx × Bx)) : List Bx := (ps.map fun p => dimsF d p.1 p.2).filter someB
theorem prod_cand (d : Int) : ∀ (ps : List (Bx × Bx)) (out : List Bx), out.length ≤ 64 → (∀ z ∈ candL d ps, manyB d z = false) → out.length + (candL d ps).length ≤ 64 → ps.foldl (fun s p => prodStep d p.1 s p.2) (some out) = some (out ++ candL d ps) := by
  intro ps
  induction ps with
  | nil => intro out _ _ _; simp [candL]
  | cons p ps ih =>
    intro out h1 h2 h3
    rw [List.foldl_cons]
    by_cases hs : someB (dimsF d p.1 p.2) = true
    · have e : candL d (p :: ps) = dimsF d p.1 p.2 :: candL d ps := by unfold candL; rw [List.map_cons, List.filter_cons, if_pos hs]
      rw [e] at h2 h3 ⊢
      rw [List.length_cons] at h3
      rw [prodStep_yes hs (h2 _ (List.mem_cons_self ..)) (by omega), ih _ (by rw [List.length_append, List.length_singleton]; omega) (fun z hz => h2 z (List.mem_cons_of_mem _ hz)) (by rw [List.length_append, List.length_singleton]; omega)]
      simp
    · have hs2 : someB (dimsF d p.1 p.2) = false := by simpa using hs
      have e : candL d (p :: ps) = candL d ps := by unfold candL; rw [List.map_cons, List.filter_cons, if_neg hs]
      rw [e] at h2 h3 ⊢
      rw [prodStep_no hs2, ih out h1 h2 h3]
theorem prod_out (d : Int) : ∀ (ps : List (Bx × Bx)) (out r : List Bx), out.length ≤ 64 → ps.foldl (fun s p => prodStep d p.1 s p.2) (some out) = some r → r = out ++ candL d ps ∧ (∀ z ∈ candL d ps, manyB d z = false) ∧ r.length ≤ 64 := by
  intro ps
  induction ps with
  | nil => intro out r h h1; injection h1 with h1; subst h1; exact ⟨by simp [candL], fun z hz => (by cases hz), h⟩
  | cons p ps ih =>
    intro out r h h1
    rw [List.foldl_cons] at h1
    by_cases hs : someB (dimsF d p.1 p.2) = true
    · have e : candL d (p :: ps) = dimsF d p.1 p.2 :: candL d ps := by unfold candL; rw [List.map_cons, List.filter_cons, if_pos hs]
      by_cases hm : manyB d (dimsF d p.1 p.2) = true ∨ 64 ≤ out.length
      · rw [prodStep_stop hs hm, fold_none (fun x => prodStep_none d x.1 x.2)] at h1
        cases h1
      · have hm1 : manyB d (dimsF d p.1 p.2) = false := by
          cases e : manyB d (dimsF d p.1 p.2)
          · rfl
          · exact absurd (.inl e) hm
        have hm2 : out.length < 64 := by
          rcases Nat.lt_or_ge out.length 64 with h | h
          · exact h
          · exact absurd (.inr h) hm
        rw [prodStep_yes hs hm1 hm2] at h1
        obtain ⟨i1, i2, i3⟩ := ih _ r (by rw [List.length_append, List.length_singleton]; omega) h1
        rw [e]
        refine ⟨by rw [i1]; simp, fun z hz => ?_, i3⟩
        rcases List.mem_cons.1 hz with rfl | hz
        · exact hm1
        · exact i2 z hz
    · have hs2 : someB (dimsF d p.1 p.2) = false := by simpa using hs
      have e : candL d (p :: ps) = candL d ps := by unfold candL; rw [List.map_cons, List.filter_cons, if_neg hs]
      rw [prodStep_no hs2] at h1
      rw [e]
      exact ih out r h h1
theorem mem_cand {d : Int} {a b : List Bx} {z : Bx} : z ∈ candL d (pairsL a b) ↔ ∃ x ∈ a, ∃ y ∈ b, z = dimsF d x y ∧ someB z = true := by
  unfold candL
  rw [List.mem_filter, List.mem_map]
  constructor
  · rintro ⟨⟨p, hp, rfl⟩, hs⟩
    obtain ⟨h1, h2⟩ := mem_pairs.1 hp
    exact ⟨p.1, h1, p.2, h2, rfl, hs⟩
  · rintro ⟨x, hx, y, hy, rfl, hs⟩
    exact ⟨⟨(x, y), mem_pairs.2 ⟨hx, hy⟩, rfl⟩, hs⟩
theorem cand_len (d : Int) (a b : List Bx) : (candL d (pairsL a b)).length ≤ a.length * b.length := by
  rw [← pairs_len]
  unfold candL
  refine Nat.le_trans (List.length_filter_le _ _) ?_
  rw [List.length_map]
  exact Nat.le_refl _
/-- What a product is, if it is one. -/
theorem prod_some {d : Int} {a b r : List Bx} (h : prodF d a b = some r) : r = candL d (pairsL a b) ∧ (∀ z ∈ r, manyB d z = false) ∧ r.length ≤ 64 := by
  unfold prodF at h
  rw [prod_pairs] at h
  obtain ⟨h1, h2, h3⟩ := prod_out d _ [] r (by simp) h
  rw [List.nil_append] at h1
  exact ⟨h1, fun z hz => h2 z (h1 ▸ hz), h3⟩
theorem prod_is {d : Int} {a b : List Bx} (h1 : ∀ x ∈ a, ∀ y ∈ b, someB (dimsF d x y) = true → manyB d (dimsF d x y) = false) (h2 : (candL d (pairsL a b)).length ≤ 64) : prodF d a b = some (candL d (pairsL a b)) := by
  unfold prodF
  rw [prod_pairs, prod_cand d _ [] (by simp) (fun z hz => ?_) (by simpa using h2), List.nil_append]
  obtain ⟨x, hx, y, hy, rfl, hs⟩ := mem_cand.1 hz
  exact h1 x hx y hy hs
theorem prod_fine {d : Int} {a b r : List Bx} (ha : FL a) (hb : FL b) (h : prodF d a b = some r) : FL r := by
  obtain ⟨h1, h2, h3⟩ := prod_some h
  refine ⟨fun z hz => ?_, h3⟩
  have hm := h2 z hz
  rw [h1] at hz
  obtain ⟨x, hx, y, hy, rfl, hs⟩ := mem_cand.1 hz
  exact dims_fine (ha.1 x hx) (hb.1 y hy) hs hm
theorem mem_head {l : List Sp} (hc : Canon l) (h : 0 < l.length) : ∃ n, Mem l n := by
  cases l with
  | nil => simp at h
  | cons z l => exact ⟨z.1, z, List.mem_cons_self .., Int.le_refl _, hc.1 z (List.mem_cons_self ..)⟩
theorem kind_zero (k : Int) : kindB 0 k = false := by
  cases h : kindB 0 k
  · rfl
  · obtain ⟨h1, h2⟩ := kindB_rng h
    obtain ⟨j, rfl⟩ : ∃ j : Nat, k = (j : Int) := ⟨k.toNat, by omega⟩
    have := kind_bit (n := 0) (k := j) (by omega) (by omega)
    rw [show ((0 : Nat) : Int) = 0 from rfl] at this
    rw [this] at h
    simp at h
theorem dims_some {d : Int} {x y : Bx} (hx : FB x) (hy : FB y) {c : Ch} (h1 : inB x c = true) (h2 : inD d y c = true) : someB (dimsF d x y) = true := by
  obtain ⟨x1, x2, x3, x4⟩ := inB_iff.1 h1
  unfold inD at h2
  simp only [Bool.and_eq_true, Bool.or_eq_true, Bool.not_eq_true', decide_eq_true_eq] at h2
  obtain ⟨⟨⟨y1, y2⟩, y3⟩, y4⟩ := h2
  refine some_iff.2 ⟨?_, ?_, ?_, ?_⟩
  · show (if bitZ d 1 = true then bits .and .i64 x.k y.k else x.k) ≠ 0
    cases hb : bitZ d 1
    · exact hx.k0
    · rw [hb] at y1
      rw [if_pos rfl]
      intro e
      have := kind_and hx.kr hy.kr c.k
      rw [e, x1, y1.resolve_left (by decide), kind_zero] at this
      cases this
  · show 0 < (if bitZ d 4 = true then x.m.filter (fun z => decide (z ∈ y.m)) else x.m).length
    cases hb : bitZ d 4
    · exact hx.m0
    · rw [hb] at y3
      rw [if_pos rfl]
      exact List.length_pos_of_mem (List.mem_filter.2 ⟨x3, decide_eq_true (y3.resolve_left (by decide))⟩)
  · show 0 < (if bitZ d 2 = true then interF (spansF x.r) (spansF y.r) else x.r).length
    cases hb : bitZ d 2
    · exact hx.r0
    · rw [hb] at y2
      rw [if_pos rfl, hx.sr, hy.sr]
      obtain ⟨z, hz, _⟩ := (mem_inter x.r y.r c.r).2 ⟨(hasF_iff hx.r c.r).1 x2, (hasF_iff hy.r c.r).1 (y2.resolve_left (by decide))⟩
      exact List.length_pos_of_mem hz
  · show 0 < (if bitZ d 8 = true then interF (spansF x.s) (spansF y.s) else x.s).length
    cases hb : bitZ d 8
    · exact hx.s0
    · rw [hb] at y4
      rw [if_pos rfl, hx.ss, hy.ss]
      obtain ⟨z, hz, _⟩ := (mem_inter x.s y.s c.s).2 ⟨(hasF_iff hx.s c.s).1 x4, (hasF_iff hy.s c.s).1 (y4.resolve_left (by decide))⟩
      exact List.length_pos_of_mem hz
theorem some_has {d : Int} {x y : Bx} (hx : FB x) (hy : FB y) (h : someB (dimsF d x y) = true) : ∃ c, inB x c = true ∧ inD d y c = true := by
  obtain ⟨s1, s2, s3, s4⟩ := some_iff.1 h
  obtain ⟨k, hk1, hk2⟩ : ∃ k, kindB x.k k = true ∧ (!bitZ d 1 || kindB y.k k) = true := by
    have s1 : (if bitZ d 1 = true then bits .and .i64 x.k y.k else x.k) ≠ 0 := s1
    cases hb : bitZ d 1
    · exact ⟨_, topK_in hx.2 (fineB_all.1 hx.1).1 0, rfl⟩
    · rw [hb, if_pos rfl] at s1
      obtain ⟨k1, k2⟩ := kinds_and hx.2 hy.2 (fineB_all.1 hx.1).1 (fineB_all.1 hy.1).1 s1
      have := topK_in k2 k1 0
      rw [kind_and hx.kr hy.kr, Bool.and_eq_true] at this
      exact ⟨_, this.1, by rw [this.2]; rfl⟩
  obtain ⟨m, hm1, hm2⟩ : ∃ m, m ∈ x.m ∧ (!bitZ d 4 || decide (m ∈ y.m)) = true := by
    have s2 : 0 < (if bitZ d 4 = true then x.m.filter (fun z => decide (z ∈ y.m)) else x.m).length := s2
    obtain ⟨m, hm⟩ := List.exists_mem_of_length_pos s2
    cases hb : bitZ d 4
    · rw [hb, if_neg (by decide)] at hm
      exact ⟨m, hm, rfl⟩
    · rw [hb, if_pos rfl] at hm
      obtain ⟨h1, h2⟩ := List.mem_filter.1 hm
      exact ⟨m, h1, by rw [h2]; rfl⟩
  obtain ⟨r, hr1, hr2⟩ : ∃ r, hasF x.r r = true ∧ (!bitZ d 2 || hasF y.r r) = true := by
    have s3 : 0 < (if bitZ d 2 = true then interF (spansF x.r) (spansF y.r) else x.r).length := s3
    cases hb : bitZ d 2
    · obtain ⟨n, hn⟩ := mem_head (ok_canon hx.r) hx.r0
      exact ⟨n, (hasF_iff hx.r n).2 hn, rfl⟩
    · rw [hb, if_pos rfl, hx.sr, hy.sr] at s3
      obtain ⟨n, hn⟩ := mem_head (inter_form _ _ (ok_canon hx.r) (ok_canon hy.r)).1 s3
      obtain ⟨n1, n2⟩ := (mem_inter _ _ n).1 hn
      exact ⟨n, (hasF_iff hx.r n).2 n1, by rw [(hasF_iff hy.r n).2 n2]; rfl⟩
  obtain ⟨s, hs1, hs2⟩ : ∃ s, hasF x.s s = true ∧ (!bitZ d 8 || hasF y.s s) = true := by
    have s4 : 0 < (if bitZ d 8 = true then interF (spansF x.s) (spansF y.s) else x.s).length := s4
    cases hb : bitZ d 8
    · obtain ⟨n, hn⟩ := mem_head (ok_canon hx.s) hx.s0
      exact ⟨n, (hasF_iff hx.s n).2 hn, rfl⟩
    · rw [hb, if_pos rfl, hx.ss, hy.ss] at s4
      obtain ⟨n, hn⟩ := mem_head (inter_form _ _ (ok_canon hx.s) (ok_canon hy.s)).1 s4
      obtain ⟨n1, n2⟩ := (mem_inter _ _ n).1 hn
      exact ⟨n, (hasF_iff hx.s n).2 n1, by rw [(hasF_iff hy.s n).2 n2]; rfl⟩
  refine ⟨⟨k, r, m, s⟩, inB_iff.2 ⟨hk1, hr1, hm1, hs1⟩, ?_⟩
  unfold inD
  rw [hk2, hr2, hm2, hs2]
  rfl
theorem prod_has {d : Int} {a b r : List Bx} (ha : FL a) (hb : FL b) (h : prodF d a b = some r) (c : Ch) : hasL r c = true ↔ ∃ x ∈ a, ∃ y ∈ b, inB x c = true ∧ inD d y c = true := by
  obtain ⟨h1, h2, h3⟩ := prod_some h
  rw [(prod_fine ha hb h).has]
  constructor
  · rintro ⟨z, hz, hc⟩
    have hm := h2 z hz
    rw [h1] at hz
    obtain ⟨x, hx, y, hy, rfl, hs⟩ := mem_cand.1 hz
    rw [dims_in (ha.1 x hx) (hb.1 y hy) hm, Bool.and_eq_true] at hc
    exact ⟨x, hx, y, hy, hc⟩
  · rintro ⟨x, hx, y, hy, hc1, hc2⟩
    by_cases hs : someB (dimsF d x y) = true
    · have hz : dimsF d x y ∈ r := h1 ▸ mem_cand.2 ⟨x, hx, y, hy, rfl, hs⟩
      refine ⟨_, hz, ?_⟩
      rw [dims_in (ha.1 x hx) (hb.1 y hy) (h2 _ hz), hc1, hc2]
      rfl
    · exfalso
      refine hs (dims_some (ha.1 x hx) (hb.1 y hy) hc1 hc2)
/-- The program's product. -/
theorem both_some {x y : Bx} : someB (bothF x y) = someB (dimsF 15 x y) := by
  have e : dimsF 15 x y = ⟨bits .and .i64 x.k y.k, interF (spansF x.r) (spansF y.r), x.m.filter (fun z => decide (z ∈ y.m)), interF (spansF x.s) (spansF y.s)⟩ := by
    unfold dimsF
    rw [if_pos bit15.1, if_pos bit15.2.1, if_pos bit15.2.2.1, if_pos bit15.2.2.2]
  rw [e, Bool.eq_iff_iff, some_iff, some_iff]
  unfold bothF
  simp only [List.length_take]
  constructor
  · rintro ⟨h1, h2, h3, h4⟩
    exact ⟨h1, h2, by omega, by omega⟩
  · rintro ⟨h1, h2, h3, h4⟩
    exact ⟨h1, h2, by omega, by omega⟩
theorem dims15 (x y : Bx) : dimsF 15 x y = ⟨bits .and .i64 x.k y.k, interF (spansF x.r) (spansF y.r), x.m.filter (fun z => decide (z ∈ y.m)), interF (spansF x.s) (spansF y.s)⟩ := by
  unfold dimsF
  rw [if_pos bit15.1, if_pos bit15.2.1, if_pos bit15.2.2.1, if_pos bit15.2.2.2]
theorem int_step {x y : Bx} (hx : FB x) (hy : FB y) {out : List Bx} (ho : out.length ≤ 64) : intStep x (some out) y = prodStep 15 x (some out) y := by
  by_cases hs : someB (dimsF 15 x y) = true
  · have hs2 : someB (bothF x y) = true := by rw [both_some]; exact hs
    have em : manyB 15 (dimsF 15 x y) = true ↔ 64 < piecesN x.r y.r ∨ 64 < piecesN x.s y.s := by
      unfold manyB
      rw [dims15, bit15.2.1, bit15.2.2.2, ← len_inter, ← len_inter]
      simp only [hx.sr, hx.ss, hy.sr, hy.ss]
      simp
    by_cases hm : manyB 15 (dimsF 15 x y) = true ∨ 64 ≤ out.length
    · rw [prodStep_stop hs hm, intStep_stop hs2]
      rcases hm with h | h
      · exact (em.1 h).elim .inl fun h => .inr (.inl h)
      · exact .inr (.inr (by omega))
    · have h1 : ¬ 64 < piecesN x.r y.r := fun h => hm (.inl (em.2 (.inl h)))
      have h2 : ¬ 64 < piecesN x.s y.s := fun h => hm (.inl (em.2 (.inr h)))
      have h3 : out.length < 64 := by
        rcases Nat.lt_or_ge out.length 64 with h | h
        · exact h
        · exact absurd (.inr h) hm
      have h4 : manyB 15 (dimsF 15 x y) = false := by
        cases e : manyB 15 (dimsF 15 x y)
        · rfl
        · exact absurd (.inl e) hm
      rw [prodStep_yes hs h4 h3, intStep_yes hs2 h1 h2 (by omega)]
      have e : bothF x y = dimsF 15 x y := by
        rw [dims15]
        unfold bothF
        rw [hx.sr, hx.ss, hy.sr, hy.ss, List.take_of_length_le (by rw [len_inter]; omega), List.take_of_length_le (by rw [len_inter]; omega)]
      rw [e]
  · have hs1 : someB (dimsF 15 x y) = false := by simpa using hs
    rw [prodStep_no hs1, intStep_no (by rw [both_some]; exact hs1)]
theorem int_row {x : Bx} (hx : FB x) : ∀ (b out : List Bx), (∀ y ∈ b, FB y) → out.length ≤ 64 → b.foldl (intStep x) (some out) = b.foldl (prodStep 15 x) (some out) ∧ ∀ r, b.foldl (prodStep 15 x) (some out) = some r → r.length ≤ 64 := by
  intro b
  induction b with
  | nil => intro out _ h; exact ⟨rfl, fun r hr => by injection hr with hr; exact hr ▸ h⟩
  | cons y b ih =>
    intro out hb ho
    rw [List.foldl_cons, List.foldl_cons, int_step hx (hb y (List.mem_cons_self ..)) ho]
    cases e : prodStep 15 x (some out) y with
    | none =>
      rw [fold_none (intStep_none x), fold_none (prodStep_none 15 x)]
      exact ⟨rfl, fun r hr => by cases hr⟩
    | some o2 =>
      refine ih o2 (fun y hy => hb y (List.mem_cons_of_mem _ hy)) ?_
      by_cases hs : someB (dimsF 15 x y) = true
      · by_cases hm : manyB 15 (dimsF 15 x y) = true ∨ 64 ≤ out.length
        · rw [prodStep_stop hs hm] at e
          cases e
        · have h4 : manyB 15 (dimsF 15 x y) = false := by
            cases e : manyB 15 (dimsF 15 x y)
            · rfl
            · exact absurd (.inl e) hm
          have h3 : out.length < 64 := by
            rcases Nat.lt_or_ge out.length 64 with h | h
            · exact h
            · exact absurd (.inr h) hm
          rw [prodStep_yes hs h4 h3] at e
          injection e with e
          rw [← e, List.length_append, List.length_singleton]
          omega
      · rw [prodStep_no (by simpa using hs)] at e
        injection e with e
        exact e ▸ ho
theorem int_prod {a b : List Bx} (ha : ∀ x ∈ a, FB x) (hb : ∀ y ∈ b, FB y) : intF a b = prodF 15 a b := by
  unfold intF prodF
  have key : ∀ (a out : List Bx), (∀ x ∈ a, FB x) → out.length ≤ 64 → a.foldl (intRow b) (some out) = a.foldl (prodRow 15 b) (some out) := by
    intro a
    induction a with
    | nil => exact fun _ _ _ => rfl
    | cons x a ih =>
      intro out ha ho
      obtain ⟨k1, k2⟩ := int_row (ha x (List.mem_cons_self ..)) b out hb ho
      rw [List.foldl_cons, List.foldl_cons]
      show a.foldl (intRow b) (b.foldl (intStep x) (some out)) = a.foldl (prodRow 15 b) (b.foldl (prodStep 15 x) (some out))
      rw [k1]
      cases e : b.foldl (prodStep 15 x) (some out) with
      | none => rw [fold_none (intRow_none b), fold_none (prodRow_none 15 b)]
      | some r => exact ih r (fun x hx => ha x (List.mem_cons_of_mem _ hx)) (k2 r e)
  exact key a [] ha (by simp)
/-- The intersection of the program is that of the reference. -/
theorem inter_same {a b : List Bx} (ha : ∀ x ∈ a, I64 x.k) (hb : ∀ x ∈ b, I64 x.k) : interP a b = interR a b := by
  unfold interP interR
  by_cases hv : validL a = true ∧ validL b = true
  · rw [if_pos hv, if_pos hv]
    have fa := FL.of_valid hv.1 ha
    have fb := FL.of_valid hv.2 hb
    rw [int_prod fa.1 fb.1]
    unfold productF
    cases e : prodF 15 a b with
    | none => rfl
    | some r =>
      show (reduceL r, (0 : Int)) = reduceF r
      unfold reduceF
      rw [if_pos (prod_fine fa fb e).valid]
  · rw [if_neg hv, if_neg hv]
/-- Few boxes with few spans: no limit is reached. -/
def Small (a : List Bx) : Prop := ∀ b ∈ a, b.r.length ≤ 30 ∧ b.s.length ≤ 30
theorem small_prod {d : Int} {a b : List Bx} (ha : FL a) (hb : FL b) (sa : Small a) (sb : Small b) (hl : a.length * b.length ≤ 64) : prodF d a b = some (candL d (pairsL a b)) := by
  refine prod_is (fun x hx y hy _ => ?_) (Nat.le_trans (cand_len d a b) hl)
  have fx := ha.1 x hx
  have fy := hb.1 y hy
  obtain ⟨x1, x2⟩ := sa x hx
  obtain ⟨y1, y2⟩ := sb y hy
  refine many_iff.2 ⟨fun hb => ?_, fun hb => ?_⟩
  · show (if bitZ d 2 = true then interF (spansF x.r) (spansF y.r) else x.r).length ≤ 64
    rw [if_pos hb, fx.sr, fy.sr]
    have := (inter_form _ _ (ok_canon fx.r) (ok_canon fy.r)).2.1
    omega
  · show (if bitZ d 8 = true then interF (spansF x.s) (spansF y.s) else x.s).length ≤ 64
    rw [if_pos hb, fx.ss, fy.ss]
    have := (inter_form _ _ (ok_canon fx.s) (ok_canon fy.s)).2.1
    omega
theorem interP_small {a b : List Bx} (ha : FL a) (hb : FL b) (sa : Small a) (sb : Small b) (hl : a.length * b.length ≤ 64) : interP a b = (reduceL (candL 15 (pairsL a b)), 0) :=
  interP_ok ha.valid hb.valid (by rw [int_prod ha.1 hb.1]; exact small_prod ha hb sa sb hl)
/-- Members of intersections. -/
theorem has_interP {a b : List Bx} (ha : FL a) (hb : FL b) (sa : Small a) (sb : Small b) (hl : a.length * b.length ≤ 64) : FL (interP a b).1 ∧ (interP a b).2 = 0 ∧ (∀ c, hasL (interP a b).1 c = (hasL a c && hasL b c)) ∧ ((interP a b).1 = [] ↔ candL 15 (pairsL a b) = []) := by
  have hp := small_prod (d := 15) ha hb sa sb hl
  have hf := prod_fine ha hb hp
  rw [interP_small ha hb sa sb hl]
  refine ⟨hf.reduce, rfl, fun c => ?_, reduce_nil⟩
  rw [has_reduce hf, Bool.eq_iff_iff, prod_has ha hb hp, Bool.and_eq_true, ha.has, hb.has]
  constructor
  · rintro ⟨x, hx, y, hy, h1, h2⟩
    rw [inD_all] at h2
    exact ⟨⟨x, hx, h1⟩, y, hy, h2⟩
  · rintro ⟨⟨x, hx, h1⟩, y, hy, h2⟩
    exact ⟨x, hx, y, hy, h1, by rw [inD_all]; exact h2⟩
end Go.Proofs.YtnbdpnlepcjmmaaGreat

namespace Go.Proofs.YtnbdpnlepcjmmaaGreat
open Go.RowKit
theorem one_any (n : Int) (w : World) : Calls Tryz.prog 67 #[.int .i64 n] w fun e w' => (∃ A, e = .returned (.agg #[.slice A 1 1]) ∧ SpB w' (Ge w.heap.size) A [(n, n)]) ∧ Grows w w' := by
  have k2 := (Blk.new w 45 #[.slice (some ⟨w.heap.size + 1, 0, none⟩) 1 1]).alloc (Obj.cells (csS (n, n)) 93)
  have hS := sps_lit (w.alloc (Obj.cells #[.slice (some ⟨w.heap.size + 1, 0, none⟩) 1 1] 45)) (n, n)
  have hB := ((Below.refl w.heap.size w).alloc (Nat.le_refl _) (Obj.cells #[.slice (some ⟨w.heap.size + 1, 0, none⟩) 1 1] 45)).alloc (by simp) (Obj.cells (csS (n, n)) 93)
  have hs1 : (w.alloc (Obj.cells #[.slice (some ⟨w.heap.size + 1, 0, none⟩) 1 1] 45)).heap.size = w.heap.size + 1 := by simp
  have hx := k2.cell
  rw [hs1] at hS
  go_enter Tryz.func67, Tryz.ntmps67
  unfold csS at *
  go_wp2
  exact bodyPost_ret (v := .agg #[.slice (some ⟨w.heap.size + 1, 0, none⟩) 1 1]) (by simp [results, Tryz.results67, go_sem, hx]) rfl ⟨⟨_, rfl, hS, fun _ ad e => by injection e with e; subst e; exact Nat.le_succ _⟩, hB⟩
theorem rsingle0_any (n : Int) (w : World) : Calls Tryz.prog 73 #[.int .i64 n] w fun e w' => (∃ A, e = .returned (.agg #[.slice A 1 1]) ∧ SpB w' (Ge w.heap.size) A [(n, n)]) ∧ Grows w w' := by
  have k2 := (Blk.new w 45 #[.slice (some ⟨w.heap.size + 1, 0, none⟩) 1 1]).alloc (Obj.cells (csS (n, n)) 93)
  have hS := sps_lit (w.alloc (Obj.cells #[.slice (some ⟨w.heap.size + 1, 0, none⟩) 1 1] 45)) (n, n)
  have hB := ((Below.refl w.heap.size w).alloc (Nat.le_refl _) (Obj.cells #[.slice (some ⟨w.heap.size + 1, 0, none⟩) 1 1] 45)).alloc (by simp) (Obj.cells (csS (n, n)) 93)
  have hs1 : (w.alloc (Obj.cells #[.slice (some ⟨w.heap.size + 1, 0, none⟩) 1 1] 45)).heap.size = w.heap.size + 1 := by simp
  have hx := k2.cell
  rw [hs1] at hS
  go_enter Tryz.func73, Tryz.ntmps73
  unfold csS at *
  go_wp2
  exact bodyPost_ret (v := .agg #[.slice (some ⟨w.heap.size + 1, 0, none⟩) 1 1]) (by simp [results, Tryz.results73, go_sem, hx]) rfl ⟨⟨_, rfl, hS, fun _ ad e => by injection e with e; subst e; exact Nat.le_succ _⟩, hB⟩
end Go.Proofs.YtnbdpnlepcjmmaaGreat

namespace Go.Proofs.YtnbdpnlepcjmmaaGreat
open Go.RowKit
theorem shl_small_ : ∀ n : Fin 8, wrap64 (2 ^ n.val) = 2 ^ n.val := by decide +kernel
theorem shl_small {k : Int} (h0 : 0 ≤ k) (h7 : k ≤ 7) : IntKind.i64.wrap (2 ^ k.toNat) = 2 ^ k.toNat := (IntWalk.i64_left _).trans <| shl_small_ ⟨k.toNat, by omega⟩
theorem maps_one {w : World} {ok : Nat → Prop} {g : Nat} {B : Option Addr} {cx : Nat} {m : List Int} (hk : Blk w g 23 #[.slice B m.length cx]) (hg : ok g) (hi : InB w ok B m) (hc : m.length ≤ cx) : MapsR w ok (some ⟨g, 0, none⟩) [m] := by
  refine ⟨[.slice B m.length cx], ⟨⟨rfl, fun _ => ⟨_, rfl, hk.lt, fun j u hu => by rw [add_head, hk.cell, ← Array.getElem?_toList]; exact hu⟩⟩, fun _ ad e => by injection e with e; subst e; exact hg⟩, fun i y hy => ?_⟩
  have hi0 : i = 0 := by
    have := (List.getElem?_eq_some_iff.1 hy).1
    simp only [List.length_singleton] at this
    omega
  subst hi0
  simp only [List.getElem?_cons_zero, Option.some.injEq] at hy
  subst hy
  exact ⟨B, cx, rfl, hc, hi⟩
theorem okb_one {x : Ch} (K : Int) (h : x.m.length ≤ 1000000) : OKB ⟨K, [(x.r, x.r)], [x.m], [(x.s, x.s)]⟩ := ⟨by simp, by simp, by simp, fun y hy => by simp only [List.mem_singleton] at hy; subst hy; exact h⟩
/-- A block that holds one box, as a list of one. -/
theorem bxs_blk {w : World} {ok : Nat → Prop} {z : Bx} {A1 A2 A3 : Option Addr} {c1 c2 c3 g : Nat} {cs : Array Value} (hp : BoxP w ok z A1 c1 A2 c2 A3 c3) (hb : Blk w g 48 cs) (hc : cs = #[.int .i64 z.k, .slice A1 z.r.length c1, .slice A2 z.m.length c2, .slice A3 z.s.length c3]) (hw : ok g := by trivial) : Bxs w ok (some ⟨g, 0, none⟩) [z] := by
  subst hc
  refine ⟨z.cs A1 c1 A2 c2 A3 c3, ⟨⟨rfl, fun _ => ⟨_, rfl, hb.lt, fun j u hu => ?_⟩⟩, fun _ ad e => by injection e with e; subst e; exact hw⟩, fun i x hx => ?_⟩
  · rw [add_head, hb.cell, ← Array.getElem?_toList]
    exact hu
  · have hi0 : i = 0 := by
      have := (List.getElem?_eq_some_iff.1 hx).1
      simp only [List.length_singleton] at this
      omega
    subst hi0
    simp only [List.getElem?_cons_zero, Option.some.injEq] at hx
    subst hx
    exact ⟨A1, c1, A2, c2, A3, c3, hp, fun j hj => by rw [Nat.zero_mul, Nat.zero_add]⟩
theorem bxs_one2 {w : World} {ok : Nat → Prop} {z : Bx} {A1 A2 A3 : Option Addr} {c1 c2 c3 : Nat} {cs : Array Value} (hp : BoxP w ok z A1 c1 A2 c2 A3 c3) (hw : ok w.heap.size) (hc : cs = #[.int .i64 z.k, .slice A1 z.r.length c1, .slice A2 z.m.length c2, .slice A3 z.s.length c3]) : Bxs (w.alloc (.cells cs 48)) ok (some ⟨w.heap.size, 0, none⟩) [z] := by
  subst hc
  exact bxs_lit hp hw
set_option maxHeartbeats 64000000 in
set_option maxRecDepth 10000 in
theorem psingle_any {I : Option Addr} {ci : Nat} {x : Ch} {w : World} (ix : Ints w I x.m) (hci : x.m.length ≤ ci) (hxm : x.m.length ≤ 1000000) :
    Calls Tryz.prog 26 #[.agg #[.int .i64 x.k, .int .i64 x.r, .slice I x.m.length ci, .int .i64 x.s]] w fun e w' => (∃ A c, e = .returned (.slice A (singleF x).length c) ∧ (singleF x).length ≤ c ∧ Bxs w' (Ge w.heap.size) A (singleF x)) ∧ Grows w w' := by
  have k1 := Blk.new w 27 #[.int .i64 x.k, .int .i64 x.r, .slice I x.m.length ci, .int .i64 x.s]
  have hB := (Below.refl w.heap.size w).alloc (Nat.le_refl _) (Obj.cells #[.int .i64 x.k, .int .i64 x.r, .slice I x.m.length ci, .int .i64 x.s] 27)
  go_enter Tryz.func26, Tryz.ntmps26
  go_upto_region 1 with fail
  generalize World.alloc w _ = w1 at *
  have x1 := k1.cell
  by_cases h1 : x.k < 1
  · have HE : Hid (singleF x = []) := Lib.hid (if_neg (fun h => by omega))
    have d1 : decide (x.k < 1) = true := by simpa using h1
    clear h1
    go_wp2
    go_ret
    rw [HE.out]
    exact ⟨⟨none, 0, rfl, Nat.le_refl _, Bxs.nil⟩, hB⟩
  have d1 : decide (x.k < 1) = false := by simpa using h1
  by_cases h2 : 7 < x.k
  · have HE : Hid (singleF x = []) := Lib.hid (if_neg (fun h => by omega))
    have d2 : decide (7 < x.k) = true := by simpa using h2
    clear h1 h2
    go_wp2
    go_ret
    rw [HE.out]
    exact ⟨⟨none, 0, rfl, Nat.le_refl _, Bxs.nil⟩, hB⟩
  have d2 : decide (7 < x.k) = false := by simpa using h2
  have hk1 : 1 ≤ x.k := by omega
  have hk7 : x.k ≤ 7 := by omega
  have hk0 : 0 ≤ x.k := by omega
  have hK0 := shl_small hk0 hk7
  obtain ⟨K, hK⟩ : ∃ K, IntKind.i64.wrap (2 ^ x.k.toNat) = K := ⟨_, rfl⟩
  have HK : Hid (2 ^ x.k.toNat = K) := Lib.hid (hK0.symm.trans hK)
  have HS : Hid (singleF x = if fineB ⟨K, [(x.r, x.r)], [x.m], [(x.s, x.s)]⟩ = true then [⟨K, [(x.r, x.r)], [x.m], [(x.s, x.s)]⟩] else []) := Lib.hid (by
    unfold singleF oneB
    rw [HK.out]
    by_cases hf : fineB ⟨K, [(x.r, x.r)], [x.m], [(x.s, x.s)]⟩ = true
    · rw [if_pos ⟨hk1, hk7, hf⟩, if_pos hf]
    · rw [if_neg (fun h => hf h.2.2), if_neg hf])
  clear h1 h2 hK0
  go_upto_region 3 with fail
  obtain ⟨S, HI, HO⟩ := hideS fun (L : Ran) (vs : Nat → Value) (w' : World) => ((Below w.heap.size w w' ∧ Blk w' w.heap.size 27 #[.int .i64 x.k, .int .i64 x.r, .slice I x.m.length ci, .int .i64 x.s]) ∧ KnS [some (.pointer (some ⟨w.heap.size, 0, none⟩)), some (.pointer (some ⟨w.heap.size, 0, none⟩)), some (.int .i64 x.k), some (.int .i64 K), some (.pointer (some ⟨w.heap.size, 0, none⟩)), some (.pointer (some ⟨w.heap.size, 1, none⟩)), some (.int .i64 x.r), none, some (.pointer (some ⟨w.heap.size, 0, none⟩)), some (.pointer (some ⟨w.heap.size, 2, none⟩)), some (.slice I x.m.length ci), none, none, some (.pointer (some ⟨w.heap.size, 3, none⟩)), some (.int .i64 x.s), none, none, none] L vs ∧ (L 7 = true → ∃ (A : Option Addr), vs 7 = .agg #[.slice A 1 1] ∧ SpB w' (Ge w.heap.size) A [(x.r, x.r)]) ∧ (L 11 = true → OwnI w' w.heap.size (vs 11) x.m) ∧ (L 12 = true → ∃ (g : Nat) (mv : Value), vs 12 = .slice (some ⟨g, 0, none⟩) 1 1 ∧ Blk w' g 23 #[mv] ∧ w.heap.size ≤ g ∧ OwnI w' w.heap.size mv x.m) ∧ (L 15 = true → ∃ (A : Option Addr), vs 15 = .agg #[.slice A 1 1] ∧ SpB w' (Ge w.heap.size) A [(x.s, x.s)]) ∧ (L 16 = true → ∃ (A1 : Option Addr) (g : Nat) (mv : Value) (A3 : Option Addr), vs 16 = .agg #[.int .i64 K, .slice A1 1 1, .slice (some ⟨g, 0, none⟩) 1 1, .slice A3 1 1] ∧ SpB w' (Ge w.heap.size) A1 [(x.r, x.r)] ∧ SpB w' (Ge w.heap.size) A3 [(x.s, x.s)] ∧ Blk w' g 23 #[mv] ∧ w.heap.size ≤ g ∧ OwnI w' w.heap.size mv x.m) ∧ (L 17 = true → ∃ g : Nat, vs 17 = .pointer (some ⟨g, 0, none⟩) ∧ Blk w' g 48 #[.int .i64 0, .slice none 0 0, .slice none 0 0, .slice none 0 0] ∧ w.heap.size ≤ g))
  refine wp_region_genT S 18 36 (by kernel_rfl) (by kernel_rfl) rfl ?_ ?_
  · have hg := Grows.drew' w1
    exact HI.out _ _ _ ⟨⟨below_grows hB (Nat.le_refl _) hg, k1.grows hg⟩, kn_none _ _, (fun h => by cases h), (fun h => by cases h), (fun h => by cases h), (fun h => by cases h), (fun h => by cases h), (fun h => by cases h)⟩
  simp only [List.take_succ_cons, List.take_zero, List.drop_succ_cons, List.drop_zero]
  refine gent_consR (fun vs L w1 hL hw1 => ?_) ?_
  · obtain ⟨⟨qB, qk⟩, q1, q7, q11, qm, qs, qb, qz⟩ := HO.out _ _ _ hw1
    refine gen_plain rfl ?_
    go_simp
    exact gr_val (HI.out _ _ _ ⟨⟨qB, qk⟩, kn_known q1 rfl, q7, q11, qm, qs, qb, qz⟩)
  refine gent_consR (fun vs L w1 hL hw1 => ?_) ?_
  · obtain ⟨⟨qB, qk⟩, q1, q7, q11, qm, qs, qb, qz⟩ := HO.out _ _ _ hw1
    have l0 : L 0 = true := hL.need 0 (by kernel_rfl)
    have e0 := q1 0 _ rfl l0
    refine gen_plain rfl ?_
    simp only [e0]
    go_simp
    exact gr_val (HI.out _ _ _ ⟨⟨qB, qk⟩, kn_known q1 rfl, q7, q11, qm, qs, qb, qz⟩)
  refine gent_consR (fun vs L w1 hL hw1 => ?_) ?_
  · obtain ⟨⟨qB, qk⟩, q1, q7, q11, qm, qs, qb, qz⟩ := HO.out _ _ _ hw1
    have l1 : L 1 = true := hL.need 1 (by kernel_rfl)
    have e1 := q1 1 _ rfl l1
    have xc := qk.cell 0
    refine gen_plain rfl ?_
    simp only [e1]
    go_simp
    exact gr_val (HI.out _ _ _ ⟨⟨qB, qk⟩, kn_known q1 rfl, q7, q11, qm, qs, qb, qz⟩)
  refine gent_consR (fun vs L w1 hL hw1 => ?_) ?_
  · obtain ⟨⟨qB, qk⟩, q1, q7, q11, qm, qs, qb, qz⟩ := HO.out _ _ _ hw1
    have l2 : L 2 = true := hL.need 2 (by kernel_rfl)
    have e2 := q1 2 _ rfl l2
    refine gen_plain rfl ?_
    simp only [e2]
    go_simp
    exact gr_val (HI.out _ _ _ ⟨⟨qB, qk⟩, kn_known q1 rfl, q7, q11, qm, qs, qb, qz⟩)
  refine gent_consR (fun vs L w1 hL hw1 => ?_) ?_
  · obtain ⟨⟨qB, qk⟩, q1, q7, q11, qm, qs, qb, qz⟩ := HO.out _ _ _ hw1
    refine gen_plain rfl ?_
    go_simp
    exact gr_val (HI.out _ _ _ ⟨⟨qB, qk⟩, kn_known q1 rfl, q7, q11, qm, qs, qb, qz⟩)
  refine gent_consR (fun vs L w1 hL hw1 => ?_) ?_
  · obtain ⟨⟨qB, qk⟩, q1, q7, q11, qm, qs, qb, qz⟩ := HO.out _ _ _ hw1
    have l4 : L 4 = true := hL.need 4 (by kernel_rfl)
    have e4 := q1 4 _ rfl l4
    refine gen_plain rfl ?_
    simp only [e4]
    go_simp
    exact gr_val (HI.out _ _ _ ⟨⟨qB, qk⟩, kn_known q1 rfl, q7, q11, qm, qs, qb, qz⟩)
  refine gent_consR (fun vs L w1 hL hw1 => ?_) ?_
  · obtain ⟨⟨qB, qk⟩, q1, q7, q11, qm, qs, qb, qz⟩ := HO.out _ _ _ hw1
    have l5 : L 5 = true := hL.need 5 (by kernel_rfl)
    have e5 := q1 5 _ rfl l5
    have xc := qk.cell 1
    refine gen_plain rfl ?_
    simp only [e5]
    go_simp
    exact gr_val (HI.out _ _ _ ⟨⟨qB, qk⟩, kn_known q1 rfl, q7, q11, qm, qs, qb, qz⟩)
  refine gent_consR (fun vs L w1 hL hw1 => ?_) ?_
  · obtain ⟨⟨qB, qk⟩, q1, q7, q11, qm, qs, qb, qz⟩ := HO.out _ _ _ hw1
    have l6 : L 6 = true := hL.need 6 (by kernel_rfl)
    have e6 := q1 6 _ rfl l6
    refine gen_plain rfl ?_
    simp only [e6]
    go_simp
    refine gr_call ?_
    refine (one_any _ _).mono ?_
    rintro e wc ⟨⟨A5, rfl, hr5⟩, hg⟩
    have hsz := qB.size
    exact ⟨_, rfl, HI.out _ _ _ ⟨⟨below_grows qB (Nat.le_refl _) hg, qk.grows hg⟩, kn_free q1 rfl, (fun _ => ⟨A5, rfl, RdB.mono hr5 (fun k hk => by unfold Ge at *; omega)⟩), (fun h => (q11 h).grows hg), (fun h => by obtain ⟨g, mv, e, hk, hl, ho⟩ := qm h; exact ⟨g, mv, e, hk.grows hg, hl, ho.grows hg⟩), (fun h => by obtain ⟨A, e, hr⟩ := qs h; exact ⟨A, e, hr.grows hg⟩), (fun h => by obtain ⟨A1, g, mv, A3, e, hr, hs, hk, hl, ho⟩ := qb h; exact ⟨A1, g, mv, A3, e, hr.grows hg, hs.grows hg, hk.grows hg, hl, ho.grows hg⟩), (fun h => by obtain ⟨g, e, hk, hl⟩ := qz h; exact ⟨g, e, hk.grows hg, hl⟩)⟩⟩
  refine gent_consR (fun vs L w1 hL hw1 => ?_) ?_
  · obtain ⟨⟨qB, qk⟩, q1, q7, q11, qm, qs, qb, qz⟩ := HO.out _ _ _ hw1
    refine gen_plain rfl ?_
    go_simp
    exact gr_val (HI.out _ _ _ ⟨⟨qB, qk⟩, kn_known q1 rfl, q7, q11, qm, qs, qb, qz⟩)
  refine gent_consR (fun vs L w1 hL hw1 => ?_) ?_
  · obtain ⟨⟨qB, qk⟩, q1, q7, q11, qm, qs, qb, qz⟩ := HO.out _ _ _ hw1
    have l8 : L 8 = true := hL.need 8 (by kernel_rfl)
    have e8 := q1 8 _ rfl l8
    refine gen_plain rfl ?_
    simp only [e8]
    go_simp
    exact gr_val (HI.out _ _ _ ⟨⟨qB, qk⟩, kn_known q1 rfl, q7, q11, qm, qs, qb, qz⟩)
  refine gent_consR (fun vs L w1 hL hw1 => ?_) ?_
  · obtain ⟨⟨qB, qk⟩, q1, q7, q11, qm, qs, qb, qz⟩ := HO.out _ _ _ hw1
    have l9 : L 9 = true := hL.need 9 (by kernel_rfl)
    have e9 := q1 9 _ rfl l9
    have xc := qk.cell 2
    refine gen_plain rfl ?_
    simp only [e9]
    go_simp
    exact gr_val (HI.out _ _ _ ⟨⟨qB, qk⟩, kn_known q1 rfl, q7, q11, qm, qs, qb, qz⟩)
  refine gent_consR (fun vs L w1 hL hw1 => ?_) ?_
  · obtain ⟨⟨qB, qk⟩, q1, q7, q11, qm, qs, qb, qz⟩ := HO.out _ _ _ hw1
    have l10 : L 10 = true := hL.need 10 (by kernel_rfl)
    have e10 := q1 10 _ rfl l10
    refine gen_plain rfl ?_
    simp only [e10]
    go_simp
    refine gr_call ?_
    refine (iclone_any I ci x.m _ (ix.grows qB) hxm).mono ?_
    rintro e wc ⟨⟨v, rfl, hown⟩, hg⟩
    have hsz := qB.size
    exact ⟨_, rfl, HI.out _ _ _ ⟨⟨below_grows qB (Nat.le_refl _) hg, qk.grows hg⟩, kn_free q1 rfl, (fun h => by obtain ⟨A, e, hr⟩ := q7 h; exact ⟨A, e, hr.grows hg⟩), (fun _ => hown.mono hsz), (fun h => by obtain ⟨g, mv, e, hk, hl, ho⟩ := qm h; exact ⟨g, mv, e, hk.grows hg, hl, ho.grows hg⟩), (fun h => by obtain ⟨A, e, hr⟩ := qs h; exact ⟨A, e, hr.grows hg⟩), (fun h => by obtain ⟨A1, g, mv, A3, e, hr, hs, hk, hl, ho⟩ := qb h; exact ⟨A1, g, mv, A3, e, hr.grows hg, hs.grows hg, hk.grows hg, hl, ho.grows hg⟩), (fun h => by obtain ⟨g, e, hk, hl⟩ := qz h; exact ⟨g, e, hk.grows hg, hl⟩)⟩⟩
  refine gent_consR (fun vs L w1 hL hw1 => ?_) ?_
  · obtain ⟨⟨qB, qk⟩, q1, q7, q11, qm, qs, qb, qz⟩ := HO.out _ _ _ hw1
    have l11 : L 11 = true := hL.need 11 (by kernel_rfl)
    have ho := q11 l11
    obtain ⟨B, cx, ev, hcx, -⟩ := ho.read
    rw [ev] at ho
    refine gen_plain rfl ?_
    simp only [ev]
    go_simp
    have hg := (Below.refl w1.heap.size w1).alloc (Nat.le_refl _) (Obj.cells #[.slice B x.m.length cx] 23)
    have hk := Blk.new w1 23 #[.slice B x.m.length cx]
    exact gr_val (HI.out _ _ _ ⟨⟨below_grows qB (Nat.le_refl _) hg, qk.grows hg⟩, kn_free q1 rfl, (fun h => by obtain ⟨A, e, hr⟩ := q7 h; exact ⟨A, e, hr.grows hg⟩), (fun h => (q11 h).grows hg), (fun _ => ⟨w1.heap.size, _, rfl, hk, qB.size, ho.grows hg⟩), (fun h => by obtain ⟨A, e, hr⟩ := qs h; exact ⟨A, e, hr.grows hg⟩), (fun h => by obtain ⟨A1, g, mv, A3, e, hr, hs, hk, hl, ho⟩ := qb h; exact ⟨A1, g, mv, A3, e, hr.grows hg, hs.grows hg, hk.grows hg, hl, ho.grows hg⟩), (fun h => by obtain ⟨g, e, hk, hl⟩ := qz h; exact ⟨g, e, hk.grows hg, hl⟩)⟩)
  refine gent_consR (fun vs L w1 hL hw1 => ?_) ?_
  · obtain ⟨⟨qB, qk⟩, q1, q7, q11, qm, qs, qb, qz⟩ := HO.out _ _ _ hw1
    refine gen_plain rfl ?_
    go_simp
    exact gr_val (HI.out _ _ _ ⟨⟨qB, qk⟩, kn_known q1 rfl, q7, q11, qm, qs, qb, qz⟩)
  refine gent_consR (fun vs L w1 hL hw1 => ?_) ?_
  · obtain ⟨⟨qB, qk⟩, q1, q7, q11, qm, qs, qb, qz⟩ := HO.out _ _ _ hw1
    have l13 : L 13 = true := hL.need 13 (by kernel_rfl)
    have e13 := q1 13 _ rfl l13
    have xc := qk.cell 3
    refine gen_plain rfl ?_
    simp only [e13]
    go_simp
    exact gr_val (HI.out _ _ _ ⟨⟨qB, qk⟩, kn_known q1 rfl, q7, q11, qm, qs, qb, qz⟩)
  refine gent_consR (fun vs L w1 hL hw1 => ?_) ?_
  · obtain ⟨⟨qB, qk⟩, q1, q7, q11, qm, qs, qb, qz⟩ := HO.out _ _ _ hw1
    have l14 : L 14 = true := hL.need 14 (by kernel_rfl)
    have e14 := q1 14 _ rfl l14
    refine gen_plain rfl ?_
    simp only [e14]
    go_simp
    refine gr_call ?_
    refine (one_any _ _).mono ?_
    rintro e wc ⟨⟨A5, rfl, hr5⟩, hg⟩
    have hsz := qB.size
    exact ⟨_, rfl, HI.out _ _ _ ⟨⟨below_grows qB (Nat.le_refl _) hg, qk.grows hg⟩, kn_free q1 rfl, (fun h => by obtain ⟨A, e, hr⟩ := q7 h; exact ⟨A, e, hr.grows hg⟩), (fun h => (q11 h).grows hg), (fun h => by obtain ⟨g, mv, e, hk, hl, ho⟩ := qm h; exact ⟨g, mv, e, hk.grows hg, hl, ho.grows hg⟩), (fun _ => ⟨A5, rfl, RdB.mono hr5 (fun k hk => by unfold Ge at *; omega)⟩), (fun h => by obtain ⟨A1, g, mv, A3, e, hr, hs, hk, hl, ho⟩ := qb h; exact ⟨A1, g, mv, A3, e, hr.grows hg, hs.grows hg, hk.grows hg, hl, ho.grows hg⟩), (fun h => by obtain ⟨g, e, hk, hl⟩ := qz h; exact ⟨g, e, hk.grows hg, hl⟩)⟩⟩
  refine gent_consR (fun vs L w1 hL hw1 => ?_) ?_
  · obtain ⟨⟨qB, qk⟩, q1, q7, q11, qm, qs, qb, qz⟩ := HO.out _ _ _ hw1
    have l3 : L 3 = true := hL.need 3 (by kernel_rfl)
    have e3 := q1 3 _ rfl l3
    have l7 : L 7 = true := hL.need 7 (by kernel_rfl)
    have lm : L 12 = true := hL.need 12 (by kernel_rfl)
    have ls : L 15 = true := hL.need 15 (by kernel_rfl)
    obtain ⟨A1, e7, hr⟩ := q7 l7
    obtain ⟨g, mv, em, hk, hl, ho⟩ := qm lm
    obtain ⟨A3, es, hs⟩ := qs ls
    refine gen_plain rfl ?_
    simp only [e3, e7, em, es]
    go_simp
    exact gr_val (HI.out _ _ _ ⟨⟨qB, qk⟩, kn_free q1 rfl, q7, q11, qm, qs, (fun _ => ⟨A1, g, mv, A3, rfl, hr, hs, hk, hl, ho⟩), qz⟩)
  refine gent_consR (fun vs L w1 hL hw1 => ?_) ?_
  · obtain ⟨⟨qB, qk⟩, q1, q7, q11, qm, qs, qb, qz⟩ := HO.out _ _ _ hw1
    refine gen_plain rfl ?_
    go_simp
    have hg := (Below.refl w1.heap.size w1).alloc (Nat.le_refl _) (Obj.cells #[.int .i64 0, .slice none 0 0, .slice none 0 0, .slice none 0 0] 48)
    have hk := Blk.new w1 48 #[.int .i64 0, .slice none 0 0, .slice none 0 0, .slice none 0 0]
    exact gr_val (HI.out _ _ _ ⟨⟨below_grows qB (Nat.le_refl _) hg, qk.grows hg⟩, kn_free q1 rfl, (fun h => by obtain ⟨A, e, hr⟩ := q7 h; exact ⟨A, e, hr.grows hg⟩), (fun h => (q11 h).grows hg), (fun h => by obtain ⟨g, mv, e, hk, hl, ho⟩ := qm h; exact ⟨g, mv, e, hk.grows hg, hl, ho.grows hg⟩), (fun h => by obtain ⟨A, e, hr⟩ := qs h; exact ⟨A, e, hr.grows hg⟩), (fun h => by obtain ⟨A1, g, mv, A3, e, hr, hs, hk, hl, ho⟩ := qb h; exact ⟨A1, g, mv, A3, e, hr.grows hg, hs.grows hg, hk.grows hg, hl, ho.grows hg⟩), (fun _ => ⟨w1.heap.size, rfl, hk, qB.size⟩)⟩)
  refine gent_nil ?_
  intro vs L W2 hall hS
  obtain ⟨⟨hB2, qk⟩, q1, -, -, -, -, qb, qz⟩ := HO.out _ _ _ hS
  obtain ⟨A1, gm, mv, A3, eb, hr, hs, hm, hl, ho⟩ := qb (hall 16 (by omega))
  obtain ⟨G, ez, hG, hlG⟩ := qz (hall 17 (by omega))
  have e0 := q1 0 _ rfl (hall 0 (by omega))
  have e1 := q1 1 _ rfl (hall 1 (by omega))
  have e2 := q1 2 _ rfl (hall 2 (by omega))
  have e3 := q1 3 _ rfl (hall 3 (by omega))
  have e4 := q1 4 _ rfl (hall 4 (by omega))
  have e5 := q1 5 _ rfl (hall 5 (by omega))
  have e6 := q1 6 _ rfl (hall 6 (by omega))
  have e8 := q1 8 _ rfl (hall 8 (by omega))
  have e9 := q1 9 _ rfl (hall 9 (by omega))
  have e10 := q1 10 _ rfl (hall 10 (by omega))
  have e13 := q1 13 _ rfl (hall 13 (by omega))
  have e14 := q1 14 _ rfl (hall 14 (by omega))
  clear hall hS HI HO q1 qb qz hB k1 x1 qk
  simp only [e0, e1, e2, e3, e4, e5, e6, e8, e9, e10, e13, e14, eb, ez]
  clear e0 e1 e2 e3 e4 e5 e6 e8 e9 e10 e13 e14 eb ez
  have hgm : gm ≠ G := hm.ne_ hG (by decide)
  have hmG := own_blk_ne ho hG (by decide)
  have hr2 : RdB W2 (fun k => w.heap.size ≤ k ∧ k ≠ G) 2 A1 1 (scells [(x.r, x.r)]) := ⟨hr.1, fun hn ad e => ⟨hr.2 hn ad e, sp_ne_box hr.1 hG ad e hn⟩⟩
  have hs2 : RdB W2 (fun k => w.heap.size ≤ k ∧ k ≠ G) 2 A3 1 (scells [(x.s, x.s)]) := ⟨hs.1, fun hn ad e => ⟨hs.2 hn ad e, sp_ne_box hs.1 hG ad e hn⟩⟩
  have y3 := hG.cell
  have hf3 := hG.frozen
  have k3 := ((((hG.set_ 0 (.int .i64 K)).set_ 1 (.slice A1 1 1)).set_ 2 (.slice (some ⟨gm, 0, none⟩) 1 1)).set_ 3 (.slice A3 1 1))
  have hB := ((((hB2.setCell (p := ⟨G, 0, none⟩) (show w.heap.size ≤ G by omega) (.int .i64 K)).setCell (p := ⟨G, 1, none⟩) (show w.heap.size ≤ G by omega) (.slice A1 1 1)).setCell (p := ⟨G, 2, none⟩) (show w.heap.size ≤ G by omega) (.slice (some ⟨gm, 0, none⟩) 1 1)).setCell (p := ⟨G, 3, none⟩) (show w.heap.size ≤ G by omega) (.slice A3 1 1))
  replace hr2 := RdB.grown hr2 (d_only_set (d_only_set (d_only_set (d_only_set (World.grownBy.refl _ (some G)) 0 (.int .i64 K)) 1 (.slice A1 1 1)) 2 (.slice (some ⟨gm, 0, none⟩) 1 1)) 3 (.slice A3 1 1)) (fun q e => by injection e with e; omega)
  replace hs2 := RdB.grown hs2 (d_only_set (d_only_set (d_only_set (d_only_set (World.grownBy.refl _ (some G)) 0 (.int .i64 K)) 1 (.slice A1 1 1)) 2 (.slice (some ⟨gm, 0, none⟩) 1 1)) 3 (.slice A3 1 1)) (fun q e => by injection e with e; omega)
  replace hm := hm.grown (d_only_set (d_only_set (d_only_set (d_only_set (World.grownBy.refl _ (some G)) 0 (.int .i64 K)) 1 (.slice A1 1 1)) 2 (.slice (some ⟨gm, 0, none⟩) 1 1)) 3 (.slice A3 1 1)) (by intro e; injection e; omega)
  have ho2 : OwnI _ w.heap.size mv x.m := World.ownsRow.kept ho (d_only_set (d_only_set (d_only_set (d_only_set (World.grownBy.refl _ (some G)) 0 (.int .i64 K)) 1 (.slice A1 1 1)) 2 (.slice (some ⟨gm, 0, none⟩) 1 1)) 3 (.slice A3 1 1)) (.inr hmG)
  clear hr hs hG hB2 ho hmG
  go_upto_region 4 with fail
  clear y3 hf3
  generalize World.setCell (World.setCell (World.setCell (World.setCell W2 _ _) _ _) _ _) _ _ = w4 at *
  have k3 : Blk w4 G 48 #[.int .i64 K, .slice A1 1 1, .slice (some ⟨gm, 0, none⟩) 1 1, .slice A3 1 1] := k3
  obtain ⟨B, cx, rfl, hcx, hib⟩ := InB.of_own ho2
  have hmr : MapsR w4 (Ge w.heap.size) (some ⟨gm, 0, none⟩) [x.m] := maps_one hm hl hib hcx
  have hp : BoxP w4 (Ge w.heap.size) ⟨K, [(x.r, x.r)], [x.m], [(x.s, x.s)]⟩ A1 1 (some ⟨gm, 0, none⟩) 1 A3 1 := ⟨RdB.mono hr2 (fun k hk => hk.1), hmr, RdB.mono hs2 (fun k hk => hk.1), Nat.le_refl _, Nat.le_refl _, Nat.le_refl _⟩
  have hok : OKB ⟨K, [(x.r, x.r)], [x.m], [(x.s, x.s)]⟩ := okb_one K hxm
  clear hr2 hs2 hm ho2 hib hmr
  have x3 := k3.cell
  obtain ⟨z, hz⟩ : ∃ z : Bx, z = ⟨K, [(x.r, x.r)], [x.m], [(x.s, x.s)]⟩ := ⟨_, rfl⟩
  have hcon := (pfine_any hp hok)
  rw [← hz] at hcon hp hok
  have HSZ : Hid (singleF x = if fineB z = true then [z] else []) := Lib.hid (by rw [hz]; exact HS.out)
  have HZC : Hid ((#[.int .i64 K, .slice A1 1 1, .slice (some ⟨gm, 0, none⟩) 1 1, .slice A3 1 1] : Array Value) = #[.int .i64 z.k, .slice A1 z.r.length 1, .slice (some ⟨gm, 0, none⟩) z.m.length 1, .slice A3 z.s.length 1]) := Lib.hid (by rw [hz]; rfl)
  rw [← HZC.out] at hcon
  have HC := Lib.hid hcon
  clear hcon hz
  go_wp2_with fail
  refine HC.out.mono ?_
  cases hv : fineB z
  · have HE : Hid (singleF x = []) := Lib.hid (by rw [HSZ.out, if_neg (by rw [hv]; decide)])
    clear hv
    rintro e w5 ⟨rfl, hq⟩
    replace hB := below_grows hB (Nat.le_refl _) hq
    go_wp2
    go_ret
    rw [HE.out]
    exact ⟨⟨none, 0, rfl, Nat.le_refl _, Bxs.nil⟩, hB⟩
  · have HE : Hid (singleF x = [z]) := Lib.hid (by rw [HSZ.out, if_pos hv])
    clear hv
    rintro e w5 ⟨rfl, hq⟩
    replace hB := below_grows hB (Nat.le_refl _) hq
    replace k3 := k3.grows hq
    replace hp := hp.grows hq
    clear hq x3
    have x3 := k3.cell
    have hL := bxs_one2 hp (show Ge w.heap.size w5.heap.size from hB.size) HZC.out
    have hq := (Below.refl w5.heap.size w5).alloc (Nat.le_refl _) (Obj.cells #[.int .i64 K, .slice A1 1 1, .slice (some ⟨gm, 0, none⟩) 1 1, .slice A3 1 1] 48)
    have hB6 := below_grows hB (Nat.le_refl _) hq
    clear hq hB
    go_wp2
    go_ret
    rw [HE.out]
    exact ⟨⟨_, 1, rfl, Nat.le_refl _, hL⟩, hB6⟩
set_option maxHeartbeats 64000000 in
set_option maxRecDepth 10000 in
theorem rsingle_any {I : Option Addr} {ci : Nat} {x : Ch} {w : World} (ix : Ints w I x.m) (hci : x.m.length ≤ ci) (hxm : x.m.length ≤ 1000000) :
    Calls Tryz.prog 31 #[.agg #[.int .i64 x.k, .int .i64 x.r, .slice I x.m.length ci, .int .i64 x.s]] w fun e w' => (∃ A c, e = .returned (.slice A (singleF x).length c) ∧ (singleF x).length ≤ c ∧ Bxs w' (fun _ => True) A (singleF x)) ∧ Grows w w' := by
  have k1 := Blk.new w 27 #[.int .i64 x.k, .int .i64 x.r, .slice I x.m.length ci, .int .i64 x.s]
  have hB := (Below.refl w.heap.size w).alloc (Nat.le_refl _) (Obj.cells #[.int .i64 x.k, .int .i64 x.r, .slice I x.m.length ci, .int .i64 x.s] 27)
  go_enter Tryz.func31, Tryz.ntmps31
  go_upto_region 1 with fail
  generalize World.alloc w _ = w1 at *
  have x1 := k1.cell
  by_cases h1 : x.k < 1
  · have HE : Hid (singleF x = []) := Lib.hid (if_neg (fun h => by omega))
    have d1 : decide (x.k < 1) = true := by simpa using h1
    clear h1
    go_wp2
    go_ret
    rw [HE.out]
    exact ⟨⟨none, 0, rfl, Nat.le_refl _, Bxs.nil⟩, hB⟩
  have d1 : decide (x.k < 1) = false := by simpa using h1
  by_cases h2 : 7 < x.k
  · have HE : Hid (singleF x = []) := Lib.hid (if_neg (fun h => by omega))
    have d2 : decide (7 < x.k) = true := by simpa using h2
    clear h1 h2
    go_wp2
    go_ret
    rw [HE.out]
    exact ⟨⟨none, 0, rfl, Nat.le_refl _, Bxs.nil⟩, hB⟩
  have d2 : decide (7 < x.k) = false := by simpa using h2
  have hk1 : 1 ≤ x.k := by omega
  have hk7 : x.k ≤ 7 := by omega
  have hk0 : 0 ≤ x.k := by omega
  have hK0 := shl_small hk0 hk7
  obtain ⟨K, hK⟩ : ∃ K, IntKind.i64.wrap (2 ^ x.k.toNat) = K := ⟨_, rfl⟩
  have HK : Hid (2 ^ x.k.toNat = K) := Lib.hid (hK0.symm.trans hK)
  have HS : Hid (singleF x = if fineB ⟨K, [(x.r, x.r)], [x.m], [(x.s, x.s)]⟩ = true then [⟨K, [(x.r, x.r)], [x.m], [(x.s, x.s)]⟩] else []) := Lib.hid (by
    unfold singleF oneB
    rw [HK.out]
    by_cases hf : fineB ⟨K, [(x.r, x.r)], [x.m], [(x.s, x.s)]⟩ = true
    · rw [if_pos ⟨hk1, hk7, hf⟩, if_pos hf]
    · rw [if_neg (fun h => hf h.2.2), if_neg hf])
  clear h1 h2 hK0
  go_upto_region 3 with fail
  obtain ⟨S, HI, HO⟩ := hideS fun (L : Ran) (vs : Nat → Value) (w' : World) => ((Below w.heap.size w w' ∧ Blk w' w.heap.size 27 #[.int .i64 x.k, .int .i64 x.r, .slice I x.m.length ci, .int .i64 x.s]) ∧ KnS [some (.pointer (some ⟨w.heap.size, 0, none⟩)), some (.pointer (some ⟨w.heap.size, 0, none⟩)), some (.int .i64 x.k), some (.int .i64 K), some (.pointer (some ⟨w.heap.size, 0, none⟩)), some (.pointer (some ⟨w.heap.size, 1, none⟩)), some (.int .i64 x.r), none, some (.pointer (some ⟨w.heap.size, 0, none⟩)), some (.pointer (some ⟨w.heap.size, 2, none⟩)), some (.slice I x.m.length ci), none, some (.pointer (some ⟨w.heap.size, 3, none⟩)), some (.int .i64 x.s), none, none, none] L vs ∧ (L 7 = true → ∃ (A : Option Addr), vs 7 = .agg #[.slice A 1 1] ∧ SpB w' (Ge w.heap.size) A [(x.r, x.r)]) ∧ (L 11 = true → ∃ (g : Nat) (mv : Value), vs 11 = .slice (some ⟨g, 0, none⟩) 1 1 ∧ Blk w' g 23 #[mv] ∧ w.heap.size ≤ g ∧ InB w' (Under w.heap.size) I x.m ∧ mv = .slice I x.m.length ci) ∧ (L 14 = true → ∃ (A : Option Addr), vs 14 = .agg #[.slice A 1 1] ∧ SpB w' (Ge w.heap.size) A [(x.s, x.s)]) ∧ (L 15 = true → ∃ (A1 : Option Addr) (g : Nat) (mv : Value) (A3 : Option Addr), vs 15 = .agg #[.int .i64 K, .slice A1 1 1, .slice (some ⟨g, 0, none⟩) 1 1, .slice A3 1 1] ∧ SpB w' (Ge w.heap.size) A1 [(x.r, x.r)] ∧ SpB w' (Ge w.heap.size) A3 [(x.s, x.s)] ∧ Blk w' g 23 #[mv] ∧ w.heap.size ≤ g ∧ InB w' (Under w.heap.size) I x.m ∧ mv = .slice I x.m.length ci) ∧ (L 16 = true → ∃ (g : Nat) (A1 : Option Addr) (gm : Nat) (mv : Value) (A3 : Option Addr), vs 16 = .slice (some ⟨g, 0, none⟩) 1 1 ∧ Blk w' g 48 #[.int .i64 K, .slice A1 1 1, .slice (some ⟨gm, 0, none⟩) 1 1, .slice A3 1 1] ∧ SpB w' (Ge w.heap.size) A1 [(x.r, x.r)] ∧ SpB w' (Ge w.heap.size) A3 [(x.s, x.s)] ∧ Blk w' gm 23 #[mv] ∧ InB w' (Under w.heap.size) I x.m ∧ mv = .slice I x.m.length ci))
  refine wp_region_genT S 17 33 (by kernel_rfl) (by kernel_rfl) rfl ?_ ?_
  · have hg := Grows.drew' w1
    exact HI.out _ _ _ ⟨⟨below_grows hB (Nat.le_refl _) hg, k1.grows hg⟩, kn_none _ _, (fun h => by cases h), (fun h => by cases h), (fun h => by cases h), (fun h => by cases h), (fun h => by cases h)⟩
  simp only [List.take_succ_cons, List.take_zero, List.drop_succ_cons, List.drop_zero]
  refine gent_consR (fun vs L w1 hL hw1 => ?_) ?_
  · obtain ⟨⟨qB, qk⟩, q1, q7, qm, qs, qb, qz⟩ := HO.out _ _ _ hw1
    refine gen_plain rfl ?_
    go_simp
    exact gr_val (HI.out _ _ _ ⟨⟨qB, qk⟩, kn_known q1 rfl, q7, qm, qs, qb, qz⟩)
  refine gent_consR (fun vs L w1 hL hw1 => ?_) ?_
  · obtain ⟨⟨qB, qk⟩, q1, q7, qm, qs, qb, qz⟩ := HO.out _ _ _ hw1
    have l0 : L 0 = true := hL.need 0 (by kernel_rfl)
    have e0 := q1 0 _ rfl l0
    refine gen_plain rfl ?_
    simp only [e0]
    go_simp
    exact gr_val (HI.out _ _ _ ⟨⟨qB, qk⟩, kn_known q1 rfl, q7, qm, qs, qb, qz⟩)
  refine gent_consR (fun vs L w1 hL hw1 => ?_) ?_
  · obtain ⟨⟨qB, qk⟩, q1, q7, qm, qs, qb, qz⟩ := HO.out _ _ _ hw1
    have l1 : L 1 = true := hL.need 1 (by kernel_rfl)
    have e1 := q1 1 _ rfl l1
    have xc := qk.cell 0
    refine gen_plain rfl ?_
    simp only [e1]
    go_simp
    exact gr_val (HI.out _ _ _ ⟨⟨qB, qk⟩, kn_known q1 rfl, q7, qm, qs, qb, qz⟩)
  refine gent_consR (fun vs L w1 hL hw1 => ?_) ?_
  · obtain ⟨⟨qB, qk⟩, q1, q7, qm, qs, qb, qz⟩ := HO.out _ _ _ hw1
    have l2 : L 2 = true := hL.need 2 (by kernel_rfl)
    have e2 := q1 2 _ rfl l2
    refine gen_plain rfl ?_
    simp only [e2]
    go_simp
    exact gr_val (HI.out _ _ _ ⟨⟨qB, qk⟩, kn_known q1 rfl, q7, qm, qs, qb, qz⟩)
  refine gent_consR (fun vs L w1 hL hw1 => ?_) ?_
  · obtain ⟨⟨qB, qk⟩, q1, q7, qm, qs, qb, qz⟩ := HO.out _ _ _ hw1
    refine gen_plain rfl ?_
    go_simp
    exact gr_val (HI.out _ _ _ ⟨⟨qB, qk⟩, kn_known q1 rfl, q7, qm, qs, qb, qz⟩)
  refine gent_consR (fun vs L w1 hL hw1 => ?_) ?_
  · obtain ⟨⟨qB, qk⟩, q1, q7, qm, qs, qb, qz⟩ := HO.out _ _ _ hw1
    have l4 : L 4 = true := hL.need 4 (by kernel_rfl)
    have e4 := q1 4 _ rfl l4
    refine gen_plain rfl ?_
    simp only [e4]
    go_simp
    exact gr_val (HI.out _ _ _ ⟨⟨qB, qk⟩, kn_known q1 rfl, q7, qm, qs, qb, qz⟩)
  refine gent_consR (fun vs L w1 hL hw1 => ?_) ?_
  · obtain ⟨⟨qB, qk⟩, q1, q7, qm, qs, qb, qz⟩ := HO.out _ _ _ hw1
    have l5 : L 5 = true := hL.need 5 (by kernel_rfl)
    have e5 := q1 5 _ rfl l5
    have xc := qk.cell 1
    refine gen_plain rfl ?_
    simp only [e5]
    go_simp
    exact gr_val (HI.out _ _ _ ⟨⟨qB, qk⟩, kn_known q1 rfl, q7, qm, qs, qb, qz⟩)
  refine gent_consR (fun vs L w1 hL hw1 => ?_) ?_
  · obtain ⟨⟨qB, qk⟩, q1, q7, qm, qs, qb, qz⟩ := HO.out _ _ _ hw1
    have l6 : L 6 = true := hL.need 6 (by kernel_rfl)
    have e6 := q1 6 _ rfl l6
    refine gen_plain rfl ?_
    simp only [e6]
    go_simp
    refine gr_call ?_
    refine (rsingle0_any _ _).mono ?_
    rintro e wc ⟨⟨A5, rfl, hr5⟩, hg⟩
    have hsz := qB.size
    exact ⟨_, rfl, HI.out _ _ _ ⟨⟨below_grows qB (Nat.le_refl _) hg, qk.grows hg⟩, kn_free q1 rfl, (fun _ => ⟨A5, rfl, RdB.mono hr5 (fun k hk => by unfold Ge at *; omega)⟩), (fun h => by obtain ⟨g, mv, e, hk, hl, ho, hmv⟩ := qm h; exact ⟨g, mv, e, hk.grows hg, hl, ho.grows hg, hmv⟩), (fun h => by obtain ⟨A, e, hr⟩ := qs h; exact ⟨A, e, hr.grows hg⟩), (fun h => by obtain ⟨A1, g, mv, A3, e, hr, hs, hk, hl, ho, hmv⟩ := qb h; exact ⟨A1, g, mv, A3, e, hr.grows hg, hs.grows hg, hk.grows hg, hl, ho.grows hg, hmv⟩), (fun h => by obtain ⟨g, A1, gm, mv, A3, e, hb, hr, hs, hk, ho, hmv⟩ := qz h; exact ⟨g, A1, gm, mv, A3, e, hb.grows hg, hr.grows hg, hs.grows hg, hk.grows hg, ho.grows hg, hmv⟩)⟩⟩
  refine gent_consR (fun vs L w1 hL hw1 => ?_) ?_
  · obtain ⟨⟨qB, qk⟩, q1, q7, qm, qs, qb, qz⟩ := HO.out _ _ _ hw1
    refine gen_plain rfl ?_
    go_simp
    exact gr_val (HI.out _ _ _ ⟨⟨qB, qk⟩, kn_known q1 rfl, q7, qm, qs, qb, qz⟩)
  refine gent_consR (fun vs L w1 hL hw1 => ?_) ?_
  · obtain ⟨⟨qB, qk⟩, q1, q7, qm, qs, qb, qz⟩ := HO.out _ _ _ hw1
    have l8 : L 8 = true := hL.need 8 (by kernel_rfl)
    have e8 := q1 8 _ rfl l8
    refine gen_plain rfl ?_
    simp only [e8]
    go_simp
    exact gr_val (HI.out _ _ _ ⟨⟨qB, qk⟩, kn_known q1 rfl, q7, qm, qs, qb, qz⟩)
  refine gent_consR (fun vs L w1 hL hw1 => ?_) ?_
  · obtain ⟨⟨qB, qk⟩, q1, q7, qm, qs, qb, qz⟩ := HO.out _ _ _ hw1
    have l9 : L 9 = true := hL.need 9 (by kernel_rfl)
    have e9 := q1 9 _ rfl l9
    have xc := qk.cell 2
    refine gen_plain rfl ?_
    simp only [e9]
    go_simp
    exact gr_val (HI.out _ _ _ ⟨⟨qB, qk⟩, kn_known q1 rfl, q7, qm, qs, qb, qz⟩)
  refine gent_consR (fun vs L w1 hL hw1 => ?_) ?_
  · obtain ⟨⟨qB, qk⟩, q1, q7, qm, qs, qb, qz⟩ := HO.out _ _ _ hw1
    have l10 : L 10 = true := hL.need 10 (by kernel_rfl)
    have e10 := q1 10 _ rfl l10
    refine gen_plain rfl ?_
    simp only [e10]
    go_simp
    have hg := (Below.refl w1.heap.size w1).alloc (Nat.le_refl _) (Obj.cells #[.slice I x.m.length ci] 23)
    have hk := Blk.new w1 23 #[.slice I x.m.length ci]
    have hib : InB (w1.alloc (Obj.cells #[.slice I x.m.length ci] 23)) (Under w.heap.size) I x.m := InB.grows (InB.grows (RdB.under (base := fun _ => True) ⟨ix, fun _ _ _ => trivial⟩ : InB w (Under w.heap.size) I x.m) qB) hg
    exact gr_val (HI.out _ _ _ ⟨⟨below_grows qB (Nat.le_refl _) hg, qk.grows hg⟩, kn_free q1 rfl, (fun h => by obtain ⟨A, e, hr⟩ := q7 h; exact ⟨A, e, hr.grows hg⟩), (fun _ => ⟨w1.heap.size, _, rfl, hk, qB.size, hib, rfl⟩), (fun h => by obtain ⟨A, e, hr⟩ := qs h; exact ⟨A, e, hr.grows hg⟩), (fun h => by obtain ⟨A1, g, mv, A3, e, hr, hs, hk, hl, ho, hmv⟩ := qb h; exact ⟨A1, g, mv, A3, e, hr.grows hg, hs.grows hg, hk.grows hg, hl, ho.grows hg, hmv⟩), (fun h => by obtain ⟨g, A1, gm, mv, A3, e, hb, hr, hs, hk, ho, hmv⟩ := qz h; exact ⟨g, A1, gm, mv, A3, e, hb.grows hg, hr.grows hg, hs.grows hg, hk.grows hg, ho.grows hg, hmv⟩)⟩)
  refine gent_consR (fun vs L w1 hL hw1 => ?_) ?_
  · obtain ⟨⟨qB, qk⟩, q1, q7, qm, qs, qb, qz⟩ := HO.out _ _ _ hw1
    refine gen_plain rfl ?_
    go_simp
    exact gr_val (HI.out _ _ _ ⟨⟨qB, qk⟩, kn_known q1 rfl, q7, qm, qs, qb, qz⟩)
  refine gent_consR (fun vs L w1 hL hw1 => ?_) ?_
  · obtain ⟨⟨qB, qk⟩, q1, q7, qm, qs, qb, qz⟩ := HO.out _ _ _ hw1
    have l12 : L 12 = true := hL.need 12 (by kernel_rfl)
    have e12 := q1 12 _ rfl l12
    have xc := qk.cell 3
    refine gen_plain rfl ?_
    simp only [e12]
    go_simp
    exact gr_val (HI.out _ _ _ ⟨⟨qB, qk⟩, kn_known q1 rfl, q7, qm, qs, qb, qz⟩)
  refine gent_consR (fun vs L w1 hL hw1 => ?_) ?_
  · obtain ⟨⟨qB, qk⟩, q1, q7, qm, qs, qb, qz⟩ := HO.out _ _ _ hw1
    have l13 : L 13 = true := hL.need 13 (by kernel_rfl)
    have e13 := q1 13 _ rfl l13
    refine gen_plain rfl ?_
    simp only [e13]
    go_simp
    refine gr_call ?_
    refine (rsingle0_any _ _).mono ?_
    rintro e wc ⟨⟨A5, rfl, hr5⟩, hg⟩
    have hsz := qB.size
    exact ⟨_, rfl, HI.out _ _ _ ⟨⟨below_grows qB (Nat.le_refl _) hg, qk.grows hg⟩, kn_free q1 rfl, (fun h => by obtain ⟨A, e, hr⟩ := q7 h; exact ⟨A, e, hr.grows hg⟩), (fun h => by obtain ⟨g, mv, e, hk, hl, ho, hmv⟩ := qm h; exact ⟨g, mv, e, hk.grows hg, hl, ho.grows hg, hmv⟩), (fun _ => ⟨A5, rfl, RdB.mono hr5 (fun k hk => by unfold Ge at *; omega)⟩), (fun h => by obtain ⟨A1, g, mv, A3, e, hr, hs, hk, hl, ho, hmv⟩ := qb h; exact ⟨A1, g, mv, A3, e, hr.grows hg, hs.grows hg, hk.grows hg, hl, ho.grows hg, hmv⟩), (fun h => by obtain ⟨g, A1, gm, mv, A3, e, hb, hr, hs, hk, ho, hmv⟩ := qz h; exact ⟨g, A1, gm, mv, A3, e, hb.grows hg, hr.grows hg, hs.grows hg, hk.grows hg, ho.grows hg, hmv⟩)⟩⟩
  refine gent_consR (fun vs L w1 hL hw1 => ?_) ?_
  · obtain ⟨⟨qB, qk⟩, q1, q7, qm, qs, qb, qz⟩ := HO.out _ _ _ hw1
    have l3 : L 3 = true := hL.need 3 (by kernel_rfl)
    have e3 := q1 3 _ rfl l3
    have l7 : L 7 = true := hL.need 7 (by kernel_rfl)
    have lm : L 11 = true := hL.need 11 (by kernel_rfl)
    have ls : L 14 = true := hL.need 14 (by kernel_rfl)
    obtain ⟨A1, e7, hr⟩ := q7 l7
    obtain ⟨g, mv, em, hk, hl, ho, hmv⟩ := qm lm
    obtain ⟨A3, es, hs⟩ := qs ls
    refine gen_plain rfl ?_
    simp only [e3, e7, em, es]
    go_simp
    exact gr_val (HI.out _ _ _ ⟨⟨qB, qk⟩, kn_free q1 rfl, q7, qm, qs, (fun _ => ⟨A1, g, mv, A3, rfl, hr, hs, hk, hl, ho, hmv⟩), qz⟩)
  refine gent_consR (fun vs L w1 hL hw1 => ?_) ?_
  · obtain ⟨⟨qB, qk⟩, q1, q7, qm, qs, qb, qz⟩ := HO.out _ _ _ hw1
    have lb : L 15 = true := hL.need 15 (by kernel_rfl)
    obtain ⟨A1, g, mv, A3, eb, hr, hs, hk, hl, ho, hmv⟩ := qb lb
    refine gen_plain rfl ?_
    simp only [eb]
    go_simp
    have hg := (Below.refl w1.heap.size w1).alloc (Nat.le_refl _) (Obj.cells #[.int .i64 K, .slice A1 1 1, .slice (some ⟨g, 0, none⟩) 1 1, .slice A3 1 1] 48)
    have hb := Blk.new w1 48 #[.int .i64 K, .slice A1 1 1, .slice (some ⟨g, 0, none⟩) 1 1, .slice A3 1 1]
    exact gr_val (HI.out _ _ _ ⟨⟨below_grows qB (Nat.le_refl _) hg, qk.grows hg⟩, kn_free q1 rfl, (fun h => by obtain ⟨A, e, hr⟩ := q7 h; exact ⟨A, e, hr.grows hg⟩), (fun h => by obtain ⟨g, mv, e, hk, hl, ho, hmv⟩ := qm h; exact ⟨g, mv, e, hk.grows hg, hl, ho.grows hg, hmv⟩), (fun h => by obtain ⟨A, e, hr⟩ := qs h; exact ⟨A, e, hr.grows hg⟩), (fun h => by obtain ⟨A1, g, mv, A3, e, hr, hs, hk, hl, ho, hmv⟩ := qb h; exact ⟨A1, g, mv, A3, e, hr.grows hg, hs.grows hg, hk.grows hg, hl, ho.grows hg, hmv⟩), (fun _ => ⟨w1.heap.size, A1, g, mv, A3, rfl, hb, hr.grows hg, hs.grows hg, hk.grows hg, ho.grows hg, hmv⟩)⟩)
  refine gent_nil ?_
  intro vs L W2 hall hS
  obtain ⟨⟨hB2, qk⟩, q1, -, -, -, -, qz⟩ := HO.out _ _ _ hS
  obtain ⟨G, A1, gm, mv, A3, ez, hG, hr, hs, hm, ho, hmv⟩ := qz (hall 16 (by omega))
  have e0 := q1 0 _ rfl (hall 0 (by omega))
  have e1 := q1 1 _ rfl (hall 1 (by omega))
  have e2 := q1 2 _ rfl (hall 2 (by omega))
  have e3 := q1 3 _ rfl (hall 3 (by omega))
  have e4 := q1 4 _ rfl (hall 4 (by omega))
  have e5 := q1 5 _ rfl (hall 5 (by omega))
  have e6 := q1 6 _ rfl (hall 6 (by omega))
  have e8 := q1 8 _ rfl (hall 8 (by omega))
  have e9 := q1 9 _ rfl (hall 9 (by omega))
  have e10 := q1 10 _ rfl (hall 10 (by omega))
  have e12 := q1 12 _ rfl (hall 12 (by omega))
  have e13 := q1 13 _ rfl (hall 13 (by omega))
  clear hall hS HI HO q1 qz hB k1 x1 qk
  simp only [e0, e1, e2, e3, e4, e5, e6, e8, e9, e10, e12, e13, ez]
  clear e0 e1 e2 e3 e4 e5 e6 e8 e9 e10 e12 e13 ez
  subst hmv
  have hB := hB2
  have hmr : MapsR W2 (fun _ => True) (some ⟨gm, 0, none⟩) [x.m] := maps_one hm trivial (InB.mono ho (fun _ _ => trivial)) hci
  have hp : BoxP W2 (fun _ => True) ⟨K, [(x.r, x.r)], [x.m], [(x.s, x.s)]⟩ A1 1 (some ⟨gm, 0, none⟩) 1 A3 1 := ⟨RdB.mono hr (fun _ _ => trivial), hmr, RdB.mono hs (fun _ _ => trivial), Nat.le_refl _, Nat.le_refl _, Nat.le_refl _⟩
  have hok : OKB ⟨K, [(x.r, x.r)], [x.m], [(x.s, x.s)]⟩ := okb_one K hxm
  have hL := bxs_blk hp hG rfl
  obtain ⟨z, hz⟩ : ∃ z : Bx, z = ⟨K, [(x.r, x.r)], [x.m], [(x.s, x.s)]⟩ := ⟨_, rfl⟩
  rw [← hz] at hL hok
  have HE : Hid (singleF x = boxesF [z]) := Lib.hid (by
    rw [HS.out, ← hz]
    unfold boxesF validL
    simp)
  have hcon := (rlist_any (some ⟨G, 0, none⟩) 1 (fun _ => True) [z] W2 hL (by simp) (fun b hb => by simp only [List.mem_singleton] at hb; exact hb ▸ hok) (by simp))
  have HC := Lib.hid hcon
  clear hcon hr hs hm ho hmr hp hok hz hG hL hB2
  go_wp2_with fail
  refine HC.out.mono ?_
  rintro e w5 ⟨⟨A4, c4, rfl, hc4, hbx⟩, hq⟩
  replace hB := below_grows hB (Nat.le_refl _) hq
  replace hbx := hbx.grows hq
  generalize boxesF [z] = zs at *
  go_wp2
  go_ret
  rw [HE.out]
  exact ⟨⟨_, _, rfl, hc4, hbx⟩, hB⟩
end Go.Proofs.YtnbdpnlepcjmmaaGreat

namespace Go.Proofs.YtnbdpnlepcjmmaaGreat
open Go.ChangeShapes Go.WideShapes Go.RowKit Go.Deep
set_option maxRecDepth 100000 in
/-- A slice of ints among the arguments. -/
theorem open_slice_kind {H : Type} {enc : TypeId × Value → H} {P : Program} {w : World} {r : Reach} {b0 : Nat} {k : IntKind} {t e : TypeId} {v : Value} {d : DataW H} {p : List MemPlace} (ht : P.underlying t = some (.slice e)) (he : P.underlying e = some (.int k)) (hc : P.cellsOf e = 1)
 (hv : Value.okWide P w r b0 t v) (h : DataW.Trod enc P w 0 (fun _ => true) true t v d p) :
 ∃ (A : Option Addr) (c : Nat) (l : List Int), v = .slice A l.length c ∧ Reads w w.heap.size 1 A l.length (l.map (Value.int k)) ∧ l.length ≤ maxLen ∧ l.length ≤ c ∧ ∀ x ∈ l, (Lit.int k x).wf = true := by
 obtain ⟨a0, len, cap, rfl⟩ := okWide_slice ht hv
 obtain ⟨fuel, hf⟩ := h
 rcases open_ints ht he hc hf with ⟨hcs, _⟩ | ⟨a, len', cap', zs, hcs, _, hl, hm, hz, _, hcell, hwz⟩
 ·simp [Value.cells] at hcs
  obtain ⟨rfl, rfl, rfl⟩ := hcs
  exact ⟨none, 0, [], rfl, ⟨by simp, fun h => absurd h (by simp)⟩, by simp, by simp, by simp⟩
 ·simp [Value.cells] at hcs
  obtain ⟨rfl, rfl, rfl⟩ := hcs
  simp only [if_true] at hz
  have hlen : (zs.take len).length = len := by simp; omega
  refine ⟨some a, cap, zs.take len, by rw [hlen], ⟨by simp, fun _ => ⟨a, rfl, ?_, fun j u hu => ?_⟩⟩, by omega, by omega, fun x hx => hwz x (List.mem_of_mem_take hx)⟩
  ·have h0 : 0 < zs.length := by
    rename_i hpos
    rw [hlen] at hpos
    omega
   have := hcell 0 h0
   have hb : (a.add 0).block = a.block := block_of_add a 0
   rw [← hb]
   exact World.block_lt_of_cell? w _ this
  ·rw [List.getElem?_map] at hu
   obtain ⟨x, hx, rfl⟩ := Option.map_eq_some_iff.1 hu
   have hj : j < len := by
    have := (List.getElem?_eq_some_iff.1 hx).1
    rw [hlen] at this
    exact this
   rw [hcell j (by omega)]
   rw [List.getElem?_take, if_pos hj] at hx
   rw [List.getD_eq_getElem?_getD, hx]
   rfl
set_option maxRecDepth 100000 in
theorem u8_bd {n : Int} (h : (Lit.int .u8 n).wf = true) : 0 ≤ n ∧ n ≤ 255 := by
 simpa [Lit.wf, IntKind.min, IntKind.max, IntKind.signed, IntKind.bits] using h
set_option maxRecDepth 100000 in
theorem u16_bd {n : Int} (h : (Lit.int .u16 n).wf = true) : 0 ≤ n ∧ n ≤ 65535 := by
 simpa [Lit.wf, IntKind.min, IntKind.max, IntKind.signed, IntKind.bits] using h
set_option maxRecDepth 100000 in
theorem i16_bd {n : Int} (h : (Lit.int .i16 n).wf = true) : -32768 ≤ n ∧ n ≤ 32767 := by
 simpa [Lit.wf, IntKind.min, IntKind.max, IntKind.signed, IntKind.bits] using h
end Go.Proofs.YtnbdpnlepcjmmaaGreat

namespace Go.Proofs.YtnbdpnlepcjmmaaGreat
open Go.RowKit
theorem validM_len {m : List Int} (h : validM m = true) : m.length ≤ 8 := by
  unfold validM at h
  simp only [Bool.and_eq_true, decide_eq_true_eq] at h
  exact h.1.2
theorem okb_fine {b : Bx} (h : FB b) : OKB b := by
  obtain ⟨f1, f2, f3, f4⟩ := fineB_all.1 h.1
  obtain ⟨g1, g2, g3, g4⟩ := maps_iff.1 f4
  have h1 := ((okS_iff b.r).1 h.r).2.2
  have h2 := ((okS_iff b.s).1 h.s).2.2
  exact ⟨by omega, by omega, by omega, fun x hx => by have := validM_len (g3 x hx); omega⟩
theorem fl_fine {l : List Bx} (h : Fine l) (hl : l.length ≤ 64) : FL l := ⟨fun b hb => ⟨(h b hb).1, (h b hb).2.2.1⟩, hl⟩
theorem small_fine {l : List Bx} (h : Fine l) : Small l := fun b hb => by have := (h b hb).2.2.2; unfold Few at this; omega
theorem FL.okb {l : List Bx} (h : FL l) : ∀ b ∈ l, OKB b := fun b hb => okb_fine (h.1 b hb)
end Go.Proofs.YtnbdpnlepcjmmaaGreat

namespace Go.Proofs.YtnbdpnlepcjmmaaGreat
open Go.RowKit
/-- A box with the dimensions in d, the others those of x. -/
def blendB (d : Int) (x y : Bx) : Bx := ⟨if bitZ d 1 = true then y.k else x.k, if bitZ d 2 = true then y.r else x.r, if bitZ d 4 = true then y.m else x.m, if bitZ d 8 = true then y.s else x.s⟩
def apOk (d : Int) (x y : Bx) : Bool := decide ((interR [x] [blendB d x y]).2 = 0) && decide ((interR [x] [blendB d x y]).1.length = 0)
def apartF (d : Int) (a b : List Bx) : Bool := a.all fun x => b.all fun y => apOk d x y
theorem mix_fine {d : Int} {x y : Bx} (hx : FB x) (hy : FB y) : FB (blendB d x y) := by
  obtain ⟨f1, f2, f3, f4⟩ := fineB_all.1 hx.1
  obtain ⟨g1, g2, g3, g4⟩ := fineB_all.1 hy.1
  refine ⟨fineB_all.2 ⟨?_, ?_, ?_, ?_⟩, ?_⟩
  · show kindsOk (if bitZ d 1 = true then y.k else x.k) = true
    split <;> assumption
  · show withinS (if bitZ d 2 = true then y.r else x.r) _ _ = true
    split <;> assumption
  · show withinS (if bitZ d 8 = true then y.s else x.s) _ _ = true
    split <;> assumption
  · show mapsOk (if bitZ d 4 = true then y.m else x.m) = true
    split <;> assumption
  · show I64 (if bitZ d 1 = true then y.k else x.k)
    split
    · exact hy.2
    · exact hx.2
theorem inD_mix {d : Int} {x y : Bx} {c : Ch} (hc : inB x c = true) : inB (blendB d x y) c = inD d y c := by
  obtain ⟨h1, h2, h3, h4⟩ := inB_iff.1 hc
  have e1 : kindB (blendB d x y).k c.k = (!bitZ d 1 || kindB y.k c.k) := by
    show kindB (if bitZ d 1 = true then y.k else x.k) c.k = _
    cases bitZ d 1
    · simp [h1]
    · simp
  have e2 : hasF (blendB d x y).r c.r = (!bitZ d 2 || hasF y.r c.r) := by
    show hasF (if bitZ d 2 = true then y.r else x.r) c.r = _
    cases bitZ d 2
    · simp [h2]
    · simp
  have e3 : decide (c.m ∈ (blendB d x y).m) = (!bitZ d 4 || decide (c.m ∈ y.m)) := by
    show decide (c.m ∈ (if bitZ d 4 = true then y.m else x.m)) = _
    cases bitZ d 4
    · simp [h3]
    · simp
  have e4 : hasF (blendB d x y).s c.s = (!bitZ d 8 || hasF y.s c.s) := by
    show hasF (if bitZ d 8 = true then y.s else x.s) c.s = _
    cases bitZ d 8
    · simp [h4]
    · simp
  unfold inB inD
  rw [e1, e2, e3, e4]
theorem mix_some {d : Int} {x y : Bx} (hx : FB x) (hy : FB y) : someB (dimsF 15 x (blendB d x y)) = someB (dimsF d x y) := by
  rw [Bool.eq_iff_iff]
  constructor
  · intro h
    obtain ⟨c, c1, c2⟩ := some_has hx (mix_fine hx hy) h
    rw [inD_all, inD_mix c1] at c2
    exact dims_some hx hy c1 c2
  · intro h
    obtain ⟨c, c1, c2⟩ := some_has hx hy h
    exact dims_some hx (mix_fine hx hy) c1 (by rw [inD_all, inD_mix c1]; exact c2)
theorem apOk_is {d : Int} {x y : Bx} (hx : FB x) (hy : FB y) : apOk d x y = !someB (dimsF d x y) := by
  have hz := mix_fine (d := d) hx hy
  have h1 : FL [x] := ⟨fun b hb => by simp only [List.mem_singleton] at hb; exact hb ▸ hx, by simp⟩
  have h2 : FL [blendB d x y] := ⟨fun b hb => by simp only [List.mem_singleton] at hb; exact hb ▸ hz, by simp⟩
  have e : interR [x] [blendB d x y] = productF 15 [x] [blendB d x y] := if_pos ⟨h1.valid, h2.valid⟩
  have ep : prodF 15 [x] [blendB d x y] = prodStep 15 x (some []) (blendB d x y) := rfl
  unfold apOk
  rw [e, ← mix_some hx hy]
  cases hs : someB (dimsF 15 x (blendB d x y))
  · have : productF 15 [x] [blendB d x y] = ([], 0) := by
      unfold productF
      rw [ep, prodStep_no hs]
      rfl
    rw [this]
    rfl
  · cases hm : manyB 15 (dimsF 15 x (blendB d x y))
    · have : productF 15 [x] [blendB d x y] = (reduceL [dimsF 15 x (blendB d x y)], 0) := by
        unfold productF
        rw [ep, prodStep_yes hs hm (by simp)]
        exact if_pos (FL.valid ⟨fun b hb => by simp only [List.nil_append, List.mem_singleton] at hb; exact hb ▸ dims_fine hx hz hs hm, by simp⟩)
      rw [this]
      have hne : (reduceL [dimsF 15 x (blendB d x y)]).length ≠ 0 := fun h => by
        have := reduce_nil.1 (List.eq_nil_of_length_eq_zero h)
        cases this
      rw [decide_eq_false hne]
      rfl
    · have : productF 15 [x] [blendB d x y] = ([], 3) := by
        unfold productF
        rw [ep, prodStep_stop hs (.inl hm)]
      rw [this]
      rfl
/-- Whether some pair has something in common in all of d. -/
def metD (d : Int) (a b : List Bx) : Bool := a.any fun x => b.any fun y => someB (dimsF d x y)
theorem apart_is {d : Int} {a b : List Bx} (ha : FL a) (hb : FL b) : apartF d a b = !metD d a b := by
  have key : apartF d a b = a.all fun x => b.all fun y => !someB (dimsF d x y) := by
    unfold apartF
    rw [Bool.eq_iff_iff, List.all_eq_true, List.all_eq_true]
    constructor
    · intro h x hx
      rw [List.all_eq_true]
      intro y hy
      rw [← apOk_is (ha.1 x hx) (hb.1 y hy)]
      exact List.all_eq_true.1 (h x hx) y hy
    · intro h x hx
      rw [List.all_eq_true]
      intro y hy
      rw [apOk_is (ha.1 x hx) (hb.1 y hy)]
      exact List.all_eq_true.1 (h x hx) y hy
  rw [key]
  unfold metD
  rw [List.not_any_eq_all_not]
  congr 1
  funext x
  rw [List.not_any_eq_all_not]
/-- The program's test. -/
theorem common_fin : ∀ (k r m s : Bool) (d : Fin 16), (bits .and .i64 ((if k then 0 else 1) + (if r then 0 else 2) + (if m then 4 else 0) + (if s then 0 else 8)) (d.val : Int) == (d.val : Int)) = ((!bitZ d.val 1 || !k) && (!bitZ d.val 2 || !r) && (!bitZ d.val 4 || m) && (!bitZ d.val 8 || !s)) := by decide +kernel
theorem meets_is {n : Nat} (hn : n < 16) {x y : Bx} (hx : FB x) (hy : FB y) : meets (n : Int) x y = someB (dimsF (n : Int) x y) := by
  have h := common_fin (decide (bits .and .i64 x.k y.k = 0)) (decide (piecesN x.r y.r = 0)) (meetM x y) (decide (piecesN x.s y.s = 0)) ⟨n, hn⟩
  have e : meets (n : Int) x y = (bits .and .i64 ((if decide (bits .and .i64 x.k y.k = 0) = true then 0 else 1) + (if decide (piecesN x.r y.r = 0) = true then 0 else 2) + (if meetM x y = true then 4 else 0) + (if decide (piecesN x.s y.s = 0) = true then 0 else 8)) (n : Int) == (n : Int)) := by
    unfold meets commonF
    simp only [decide_eq_true_eq]
  rw [e]
  refine (h.trans ?_)
  show ((!bitZ (n : Int) 1 || !decide (bits .and .i64 x.k y.k = 0)) && (!bitZ (n : Int) 2 || !decide (piecesN x.r y.r = 0)) && (!bitZ (n : Int) 4 || meetM x y) && (!bitZ (n : Int) 8 || !decide (piecesN x.s y.s = 0))) = _
  rw [Bool.eq_iff_iff, some_iff]
  simp only [Bool.and_eq_true, Bool.or_eq_true, Bool.not_eq_true', decide_eq_false_iff_not, ← len_inter]
  have c1 : (bitZ (n : Int) 1 = false ∨ ¬ bits .and .i64 x.k y.k = 0) ↔ (dimsF (n : Int) x y).k ≠ 0 := by
    show _ ↔ (if bitZ (n : Int) 1 = true then bits .and .i64 x.k y.k else x.k) ≠ 0
    cases bitZ (n : Int) 1
    · exact ⟨fun _ => hx.k0, fun _ => .inl rfl⟩
    · exact ⟨fun h => h.resolve_left (by decide), fun h => .inr h⟩
  have c2 : (bitZ (n : Int) 2 = false ∨ ¬ (interF x.r y.r).length = 0) ↔ 0 < (dimsF (n : Int) x y).r.length := by
    show _ ↔ 0 < (if bitZ (n : Int) 2 = true then interF (spansF x.r) (spansF y.r) else x.r).length
    rw [hx.sr, hy.sr]
    cases bitZ (n : Int) 2
    · exact ⟨fun _ => hx.r0, fun _ => .inl rfl⟩
    · exact ⟨fun h => Nat.pos_of_ne_zero (h.resolve_left (by decide)), fun h => .inr (Nat.ne_of_gt h)⟩
  have c3 : (bitZ (n : Int) 4 = false ∨ meetM x y = true) ↔ 0 < (dimsF (n : Int) x y).m.length := by
    show _ ↔ 0 < (if bitZ (n : Int) 4 = true then x.m.filter (fun z => decide (z ∈ y.m)) else x.m).length
    cases bitZ (n : Int) 4
    · exact ⟨fun _ => hx.m0, fun _ => .inl rfl⟩
    · constructor
      · intro h
        obtain ⟨m, hm, hy⟩ := List.any_eq_true.1 (h.resolve_left (by decide))
        exact List.length_pos_of_mem (List.mem_filter.2 ⟨hm, hy⟩)
      · intro h
        obtain ⟨m, hm⟩ := List.exists_mem_of_length_pos h
        obtain ⟨h1, h2⟩ := List.mem_filter.1 hm
        exact .inr (List.any_eq_true.2 ⟨m, h1, h2⟩)
  have c4 : (bitZ (n : Int) 8 = false ∨ ¬ (interF x.s y.s).length = 0) ↔ 0 < (dimsF (n : Int) x y).s.length := by
    show _ ↔ 0 < (if bitZ (n : Int) 8 = true then interF (spansF x.s) (spansF y.s) else x.s).length
    rw [hx.ss, hy.ss]
    cases bitZ (n : Int) 8
    · exact ⟨fun _ => hx.s0, fun _ => .inl rfl⟩
    · exact ⟨fun h => Nat.pos_of_ne_zero (h.resolve_left (by decide)), fun h => .inr (Nat.ne_of_gt h)⟩
  rw [c1, c2, c3, c4]
  constructor
  · rintro ⟨⟨⟨h1, h2⟩, h3⟩, h4⟩
    exact ⟨h1, h3, h2, h4⟩
  · rintro ⟨h1, h3, h2, h4⟩
    exact ⟨⟨⟨h1, h2⟩, h3⟩, h4⟩
theorem met_is {n : Nat} (hn : n < 16) {a b : List Bx} (ha : FL a) (hb : FL b) : metF a b (n : Int) = metD (n : Int) a b := by
  unfold metF metD
  rw [Bool.eq_iff_iff, List.any_eq_true, List.any_eq_true]
  constructor
  · rintro ⟨x, hx, h⟩
    obtain ⟨y, hy, h⟩ := List.any_eq_true.1 h
    exact ⟨x, hx, List.any_eq_true.2 ⟨y, hy, by rw [← meets_is hn (ha.1 x hx) (hb.1 y hy)]; exact h⟩⟩
  · rintro ⟨x, hx, h⟩
    obtain ⟨y, hy, h⟩ := List.any_eq_true.1 h
    exact ⟨x, hx, List.any_eq_true.2 ⟨y, hy, by rw [meets_is hn (ha.1 x hx) (hb.1 y hy)]; exact h⟩⟩
theorem metD_comm {d : Int} {a b : List Bx} (ha : FL a) (hb : FL b) : metD d a b = metD d b a := by
  have key : ∀ {a b : List Bx}, FL a → FL b → metD d a b = true → metD d b a = true := by
    intro a b ha hb h
    obtain ⟨x, hx, h⟩ := List.any_eq_true.1 h
    obtain ⟨y, hy, h⟩ := List.any_eq_true.1 h
    refine List.any_eq_true.2 ⟨y, hy, List.any_eq_true.2 ⟨x, hx, ?_⟩⟩
    obtain ⟨c, c1, c2⟩ := some_has (ha.1 x hx) (hb.1 y hy) h
    have fx := ha.1 x hx
    have fy := hb.1 y hy
    have hz := mix_fine (d := d) fx fy
    rw [← mix_some fy fx]
    obtain ⟨e, e1, e2⟩ := some_has fy fy (d := 0) (by
      have : dimsF 0 y y = y := by
        unfold dimsF
        rw [if_neg (by decide), if_neg (by decide), if_neg (by decide), if_neg (by decide)]
      rw [this]
      exact some_iff.2 ⟨fy.k0, fy.m0, fy.r0, fy.s0⟩)
    have hc : inB (blendB d y x) ⟨if bitZ d 1 = true then c.k else e.k, if bitZ d 2 = true then c.r else e.r, if bitZ d 4 = true then c.m else e.m, if bitZ d 8 = true then c.s else e.s⟩ = true := by
      obtain ⟨i1, i2, i3, i4⟩ := inB_iff.1 c1
      obtain ⟨j1, j2, j3, j4⟩ := inB_iff.1 e1
      refine inB_iff.2 ⟨?_, ?_, ?_, ?_⟩
      · show kindB (if bitZ d 1 = true then x.k else y.k) (if bitZ d 1 = true then c.k else e.k) = true
        split <;> assumption
      · show hasF (if bitZ d 2 = true then x.r else y.r) (if bitZ d 2 = true then c.r else e.r) = true
        split <;> assumption
      · show (if bitZ d 4 = true then c.m else e.m) ∈ (if bitZ d 4 = true then x.m else y.m)
        split <;> assumption
      · show hasF (if bitZ d 8 = true then x.s else y.s) (if bitZ d 8 = true then c.s else e.s) = true
        split <;> assumption
    refine dims_some fy (mix_fine fy fx) (c := ⟨if bitZ d 1 = true then c.k else e.k, if bitZ d 2 = true then c.r else e.r, if bitZ d 4 = true then c.m else e.m, if bitZ d 8 = true then c.s else e.s⟩) ?_ (by rw [inD_all]; exact hc)
    unfold inD at c2
    simp only [Bool.and_eq_true, Bool.or_eq_true, Bool.not_eq_true', decide_eq_true_eq] at c2
    obtain ⟨⟨⟨d1, d2⟩, d3⟩, d4⟩ := c2
    obtain ⟨j1, j2, j3, j4⟩ := inB_iff.1 e1
    refine inB_iff.2 ⟨?_, ?_, ?_, ?_⟩
    · show kindB y.k (if bitZ d 1 = true then c.k else e.k) = true
      split
      · rename_i hb; exact d1.resolve_left (by rw [hb]; decide)
      · exact j1
    · show hasF y.r (if bitZ d 2 = true then c.r else e.r) = true
      split
      · rename_i hb; exact d2.resolve_left (by rw [hb]; decide)
      · exact j2
    · show (if bitZ d 4 = true then c.m else e.m) ∈ y.m
      split
      · rename_i hb; exact d3.resolve_left (by rw [hb]; decide)
      · exact j3
    · show hasF y.s (if bitZ d 8 = true then c.s else e.s) = true
      split
      · rename_i hb; exact d4.resolve_left (by rw [hb]; decide)
      · exact j4
  rw [Bool.eq_iff_iff]
  exact ⟨key ha hb, key hb ha⟩
theorem met_zero {a b : List Bx} (ha : FL a) (_hb : FL b) (h1 : a ≠ []) (h2 : b ≠ []) : metD 0 a b = true := by
  obtain ⟨x, hx⟩ := List.exists_mem_of_ne_nil a h1
  obtain ⟨y, hy⟩ := List.exists_mem_of_ne_nil b h2
  have fx := ha.1 x hx
  refine List.any_eq_true.2 ⟨x, hx, List.any_eq_true.2 ⟨y, hy, ?_⟩⟩
  have : dimsF 0 x y = x := by
    unfold dimsF
    rw [if_neg (by decide), if_neg (by decide), if_neg (by decide), if_neg (by decide)]
  rw [this]
  exact some_iff.2 ⟨fx.k0, fx.m0, fx.r0, fx.s0⟩
end Go.Proofs.YtnbdpnlepcjmmaaGreat

namespace Go.Proofs.YtnbdpnlepcjmmaaGreat
open Go.RowKit
theorem ones_fin : ∀ n : Fin 16, ∀ k ∈ [1, 2, 4, 8], bits .and .i64 (n.val : Int) (k : Int) ≠ 0 → ∃ s : Fin 16, bits .andNot .i64 (n.val : Int) (k : Int) = (s.val : Int) ∧ ones (s.val : Int) < ones (n.val : Int) ∧ s.val < 15 := by decide +kernel
theorem bl_spec (l m : List Bx) : ∀ n, n ≤ 14 → (blUp l m n = 15 ∨ ∃ s : Nat, blUp l m n = (s : Int) ∧ 1 ≤ s ∧ s ≤ n ∧ metF l m (s : Int) = false) ∧ (∀ s : Nat, 1 ≤ s → s ≤ n → metF l m (s : Int) = false → ones (blUp l m n) ≤ ones (s : Int)) := by
  intro n
  induction n with
  | zero => exact fun _ => ⟨.inl rfl, fun s h1 h2 => by omega⟩
  | succ n ih =>
    intro h
    obtain ⟨i1, i2⟩ := ih (by omega)
    have e : blUp l m (n + 1) = if (decide (ones ((n : Int) + 1) < ones (blUp l m n)) && !metF l m ((n : Int) + 1)) = true then (n : Int) + 1 else blUp l m n := rfl
    have en : ((n + 1 : Nat) : Int) = (n : Int) + 1 := by omega
    rw [e]
    by_cases hc : (decide (ones ((n : Int) + 1) < ones (blUp l m n)) && !metF l m ((n : Int) + 1)) = true
    · rw [if_pos hc]
      rw [Bool.and_eq_true, decide_eq_true_eq, Bool.not_eq_true'] at hc
      refine ⟨.inr ⟨n + 1, en.symm, by omega, by omega, by rw [en]; exact hc.2⟩, fun s h1 h2 h3 => ?_⟩
      by_cases hs : s = n + 1
      · subst hs
        rw [en]
        exact Int.le_refl _
      · have := i2 s h1 (by omega) h3
        omega
    · rw [if_neg hc]
      refine ⟨i1.imp id fun ⟨s, h1, h2, h3, h4⟩ => ⟨s, h1, h2, by omega, h4⟩, fun s h1 h2 h3 => ?_⟩
      by_cases hs : s = n + 1
      · subst hs
        rw [en] at h3 ⊢
        rw [h3, Bool.not_false, Bool.and_true, decide_eq_true_eq] at hc
        omega
      · exact i2 s h1 (by omega) h3
theorem blame_spec {a b : List Bx} (ha : FL a) (hb : FL b) : ∃ n : Nat, n < 16 ∧ blameF a b = (n : Int) ∧ (a = [] ∨ b = [] → n = 15) ∧ (a ≠ [] → b ≠ [] → (metD 15 a b = true → n = 0) ∧ (metD 15 a b = false → n ≠ 0) ∧ (n ≠ 0 → metD (n : Int) a b = false ∧ ∀ k ∈ [1, 2, 4, 8], bits .and .i64 (n : Int) (k : Int) ≠ 0 → metD (bits .andNot .i64 (n : Int) (k : Int)) a b = true)) := by
  unfold blameF
  rw [ha.boxes, hb.boxes]
  by_cases he : a = [] ∨ b = []
  · rw [if_pos he]
    refine ⟨15, by omega, rfl, fun _ => rfl, fun h1 h2 => absurd he (fun h => h.elim h1 h2)⟩
  · rw [if_neg he]
    have h15 := met_is (n := 15) (by omega) ha hb
    rw [show ((15 : Nat) : Int) = 15 from rfl] at h15
    rw [h15]
    cases hm : metD 15 a b
    · rw [if_neg (by decide)]
      obtain ⟨s1, s2⟩ := bl_spec a b 14 (Nat.le_refl _)
      obtain ⟨n, hn, hn1, hn2, hn3⟩ : ∃ n : Nat, blUp a b 14 = (n : Int) ∧ 1 ≤ n ∧ n < 16 ∧ metD (n : Int) a b = false := by
        rcases s1 with h | ⟨s, h1, h2, h3, h4⟩
        · exact ⟨15, h, by omega, by omega, hm⟩
        · exact ⟨s, h1, h2, by omega, by rw [← met_is (by omega) ha hb]; exact h4⟩
      refine ⟨n, hn2, hn, fun h => absurd h he, fun h1 h2 => ⟨fun h => (by cases h), fun _ => (by omega), fun _ => ⟨hn3, fun k hk hb2 => ?_⟩⟩⟩
      obtain ⟨s, e, ho, hs⟩ := ones_fin ⟨n, hn2⟩ k hk hb2
      have e : bits .andNot .i64 (n : Int) (k : Int) = (s.val : Int) := e
      rw [e]
      by_cases h0 : s.val = 0
      · rw [h0]
        exact met_zero ha hb h1 h2
      · cases hv : metD (s.val : Int) a b
        · rw [← met_is s.isLt ha hb] at hv
          have := s2 s.val (by omega) (by omega) hv
          rw [hn] at this
          have ho : ones (s.val : Int) < ones (n : Int) := ho
          omega
        · rfl
    · rw [if_pos rfl]
      refine ⟨0, by omega, rfl, fun h => absurd h he, fun h1 h2 => ⟨fun _ => rfl, fun h => (by cases h), fun h => absurd rfl h⟩⟩
theorem blame_comm {a b : List Bx} (ha : FL a) (hb : FL b) : blameF b a = blameF a b := by
  have hmet : ∀ n : Nat, n < 16 → metF b a (n : Int) = metF a b (n : Int) := fun n hn => by
    rw [met_is hn ha hb, met_is hn hb ha, metD_comm hb ha]
  have hup : ∀ n, n ≤ 14 → blUp b a n = blUp a b n := by
    intro n
    induction n with
    | zero => exact fun _ => rfl
    | succ n ih =>
      intro h
      have en : ((n + 1 : Nat) : Int) = (n : Int) + 1 := by omega
      have hm := hmet (n + 1) (by omega)
      rw [en] at hm
      show (if (decide (ones ((n : Int) + 1) < ones (blUp b a n)) && !metF b a ((n : Int) + 1)) = true then (n : Int) + 1 else blUp b a n) = (if (decide (ones ((n : Int) + 1) < ones (blUp a b n)) && !metF a b ((n : Int) + 1)) = true then (n : Int) + 1 else blUp a b n)
      rw [ih (by omega), hm]
  unfold blameF
  rw [ha.boxes, hb.boxes, hup 14 (Nat.le_refl _)]
  have h15 := hmet 15 (by omega)
  rw [show ((15 : Nat) : Int) = 15 from rfl] at h15
  rw [h15]
  by_cases he : a = [] ∨ b = []
  · rw [if_pos he, if_pos he.symm]
  · rw [if_neg he, if_neg (fun h => he h.symm)]
theorem cand_met {a b : List Bx} : candL 15 (pairsL a b) = [] ↔ metD 15 a b = false := by
  constructor
  · intro h
    cases hv : metD 15 a b
    · rfl
    · obtain ⟨x, hx, hv⟩ := List.any_eq_true.1 hv
      obtain ⟨y, hy, hv⟩ := List.any_eq_true.1 hv
      have : dimsF 15 x y ∈ candL 15 (pairsL a b) := mem_cand.2 ⟨x, hx, y, hy, rfl, hv⟩
      rw [h] at this
      cases this
  · intro h
    refine List.eq_nil_iff_forall_not_mem.2 fun z hz => ?_
    obtain ⟨x, hx, y, hy, rfl, hs⟩ := mem_cand.1 hz
    have : metD 15 a b = true := List.any_eq_true.2 ⟨x, hx, List.any_eq_true.2 ⟨y, hy, hs⟩⟩
    rw [h] at this
    cases this
end Go.Proofs.YtnbdpnlepcjmmaaGreat

namespace Go.Proofs.YtnbdpnlepcjmmaaGreat
open Go.RowKit
theorem kUp_is (w b : Int) : ∀ n : Nat, n ≤ 7 → (kUp w b n = 0 ∧ ∀ y : Int, 1 ≤ y → y ≤ n → kindB b y = false) ∨ (1 ≤ kUp w b n ∧ kUp w b n ≤ n ∧ kindB b (kUp w b n) = true ∧ ∀ y : Int, 1 ≤ y → y ≤ n → kindB b y = true → kindZ w (kUp w b n) y ≤ 0) := by
 intro n
 induction n with
 | zero => exact fun _ => .inl ⟨rfl, fun y h1 h2 => by omega⟩
 | succ n ih =>
  intro hn
  have i := ih (by omega)
  have en : ((n + 1 : Nat) : Int) = (n : Int) + 1 := by omega
  have e : kUp w b (n + 1) = if kindB b ((n : Int) + 1) = true ∧ (kUp w b n = 0 ∨ kindZ w ((n : Int) + 1) (kUp w b n) < 0) then (n : Int) + 1 else kUp w b n := rfl
  have ht := tot_kindZ w
  by_cases hc : kindB b ((n : Int) + 1) = true ∧ (kUp w b n = 0 ∨ kindZ w ((n : Int) + 1) (kUp w b n) < 0)
  ·rw [e, if_pos hc]
   obtain ⟨h1, h2⟩ := hc
   refine .inr ⟨by omega, by omega, h1, fun y y1 y2 hy => ?_⟩
   by_cases hyn : y = (n : Int) + 1
   ·rw [hyn, ht.self]
    exact Int.le_refl _
   ·rcases i with ⟨i1, i2⟩ | ⟨i1, i2, i3, i4⟩
    ·rw [i2 y y1 (by omega)] at hy
     cases hy
    ·have := i4 y y1 (by omega) hy
     have h2 : kindZ w ((n : Int) + 1) (kUp w b n) < 0 := h2.elim (fun h => by omega) id
     exact ht.trans _ _ _ (by omega) this
  ·rw [e, if_neg hc]
   rcases i with ⟨i1, i2⟩ | ⟨i1, i2, i3, i4⟩
   ·refine .inl ⟨i1, fun y y1 y2 => ?_⟩
    by_cases hyn : y = (n : Int) + 1
    ·cases hv : kindB b y
     ·rfl
     ·rw [hyn] at hv
      exact absurd ⟨hv, .inl i1⟩ hc
    ·exact i2 y y1 (by omega)
   ·refine .inr ⟨i1, by omega, i3, fun y y1 y2 hy => ?_⟩
    by_cases hyn : y = (n : Int) + 1
    ·rw [hyn] at hy
     have h3 : ¬ kindZ w ((n : Int) + 1) (kUp w b n) < 0 := fun h => hc ⟨hy, .inr h⟩
     have := ht.anti ((n : Int) + 1) (kUp w b n)
     rw [hyn]
     omega
    ·exact i4 y y1 (by omega) hy
theorem topK_kUp {b : Int} (hb : I64 b) (h : kindsOk b = true) (w : Int) : topK w b = kUp w b 7 := by
 have h1 := topK_in hb h w
 obtain ⟨r1, r2⟩ := kindB_rng h1
 rcases kUp_is w b 7 (by omega) with ⟨i1, i2⟩ | ⟨i1, i2, i3, i4⟩
 ·rw [i2 _ r1 (by omega)] at h1
  cases h1
 ·have h2 := i4 _ r1 (by omega) h1
  have h3 := topK_least hb h w _ i3
  have ht := (tot_kindZ w).anti (topK w b) (kUp w b 7)
  exact kindZ_zero.1 (show kindZ w (topK w b) (kUp w b 7) = 0 by omega)
theorem top_best {b : Bx} (h : fineB b = true) (hk : I64 b.k) (w : Ch) : topP w b = bestR w b := by
 unfold topP bestR
 rw [topK_kUp hk (fineB_parts h).1]
theorem best_same {l : List Bx} (hk : ∀ b ∈ l, I64 b.k) (w : Ch) : bestL (topP w) w l = bestL (bestR w) w l := by
 unfold bestL
 have key : ∀ (m : List Bx) (s : Ch × Bool), (∀ b ∈ m, fineB b = true ∧ I64 b.k) → m.foldl (bestStep (topP w) w) s = m.foldl (bestStep (bestR w) w) s := by
  intro m
  induction m with
  | nil => exact fun _ _ => rfl
  | cons b m ih =>
   intro s h
   rw [List.foldl_cons, List.foldl_cons]
   have e : bestStep (topP w) w s b = bestStep (bestR w) w s b := by
    unfold bestStep
    rw [top_best (h b (List.mem_cons_self ..)).1 (h b (List.mem_cons_self ..)).2]
   rw [e]
   exact ih _ (fun x hx => h x (List.mem_cons_of_mem _ hx))
 exact key _ _ (fun b hb => ⟨(boxes_mem hb).2, hk b (boxes_mem hb).1⟩)
/-- The order in which the reference looks at sets of dimensions. -/
def masksL : List Int := [1, 2, 4, 8, 3, 5, 6, 9, 10, 12, 7, 11, 13, 14, 15]
def keyM (s : Int) : Int := ones s * 16 + s
theorem masks_sorted : masksL.Pairwise (fun a b => keyM a < keyM b) := by decide +kernel
theorem masks_all : ∀ s : Fin 16, 1 ≤ s.val → (s.val : Int) ∈ masksL := by decide +kernel
theorem masks_rng : ∀ z ∈ masksL, ∃ s : Fin 16, z = (s.val : Int) ∧ 1 ≤ s.val := by decide +kernel
theorem key_inj : ∀ s t : Fin 16, keyM (s.val : Int) = keyM (t.val : Int) → s = t := by decide +kernel
def apartZ (a b : List Bx) : Int := (masksL.find? fun s => !metD s a b).getD 0
def blameR (a b : List Bx) : Int := if boxesF a = [] ∨ boxesF b = [] then 15 else apartZ (boxesF a) (boxesF b)
theorem find_least {p : Int → Bool} {z : Int} {m : List Int} (hs : m.Pairwise (fun a b => keyM a < keyM b)) (h : m.find? p = some z) : z ∈ m ∧ p z = true ∧ ∀ y ∈ m, p y = true → keyM z ≤ keyM y := by
 induction m with
 | nil => cases h
 | cons x m ih =>
  rw [List.pairwise_cons] at hs
  rw [List.find?_cons] at h
  cases hp : p x
  ·rw [hp] at h
   obtain ⟨h1, h2, h3⟩ := ih hs.2 h
   refine ⟨List.mem_cons_of_mem _ h1, h2, fun y hy hpy => ?_⟩
   rcases List.mem_cons.1 hy with rfl | hy
   ·rw [hp] at hpy
    cases hpy
   ·exact h3 y hy hpy
  ·rw [hp] at h
   injection h with h
   subst h
   refine ⟨List.mem_cons_self .., hp, fun y hy _ => ?_⟩
   rcases List.mem_cons.1 hy with rfl | hy
   ·exact Int.le_refl _
   ·exact Int.le_of_lt (hs.1 y hy)
theorem bl_least (l m : List Bx) : ∀ n, n ≤ 14 → (blUp l m n = 15 ∨ ∃ s : Nat, blUp l m n = (s : Int) ∧ 1 ≤ s ∧ s ≤ n ∧ metF l m (s : Int) = false) ∧ (∀ s : Nat, 1 ≤ s → s ≤ n → metF l m (s : Int) = false → ones (blUp l m n) < ones (s : Int) ∨ (ones (blUp l m n) = ones (s : Int) ∧ blUp l m n ≤ (s : Int))) := by
 intro n
 induction n with
 | zero => exact fun _ => ⟨.inl rfl, fun s h1 h2 => by omega⟩
 | succ n ih =>
  intro h
  obtain ⟨i1, i2⟩ := ih (by omega)
  have e : blUp l m (n + 1) = if (decide (ones ((n : Int) + 1) < ones (blUp l m n)) && !metF l m ((n : Int) + 1)) = true then (n : Int) + 1 else blUp l m n := rfl
  have en : ((n + 1 : Nat) : Int) = (n : Int) + 1 := by omega
  have o15 : ∀ s : Fin 15, ones (s.val : Int) < ones 15 := by decide +kernel
  rw [e]
  by_cases hc : (decide (ones ((n : Int) + 1) < ones (blUp l m n)) && !metF l m ((n : Int) + 1)) = true
  ·rw [if_pos hc]
   rw [Bool.and_eq_true, decide_eq_true_eq, Bool.not_eq_true'] at hc
   refine ⟨.inr ⟨n + 1, en.symm, by omega, by omega, by rw [en]; exact hc.2⟩, fun s h1 h2 h3 => ?_⟩
   by_cases hs : s = n + 1
   ·subst hs
    rw [en]
    exact .inr ⟨rfl, Int.le_refl _⟩
   ·have := i2 s h1 (by omega) h3
    left
    omega
  ·rw [if_neg hc]
   refine ⟨i1.imp id fun ⟨s, h1, h2, h3, h4⟩ => ⟨s, h1, h2, by omega, h4⟩, fun s h1 h2 h3 => ?_⟩
   by_cases hs : s = n + 1
   ·subst hs
    rw [en] at h3 ⊢
    rw [h3, Bool.not_false, Bool.and_true, decide_eq_true_eq] at hc
    rcases i1 with i1 | ⟨t, t1, t2, t3, -⟩
    ·have := o15 ⟨n + 1, by omega⟩
     rw [i1] at hc
     have this : ones ((n + 1 : Nat) : Int) < ones 15 := this
     rw [en] at this
     exact absurd this hc
    ·by_cases ho : ones (blUp l m n) = ones ((n : Int) + 1)
     ·exact .inr ⟨ho, by omega⟩
     ·left
      omega
   ·exact i2 s h1 (by omega) h3
theorem met_mono {n : Nat} {a b : List Bx} (ha : FL a) (hb : FL b) (h : metD 15 a b = true) : metD (n : Int) a b = true := by
 obtain ⟨x, hx, h⟩ := List.any_eq_true.1 h
 obtain ⟨y, hy, h⟩ := List.any_eq_true.1 h
 obtain ⟨c, c1, c2⟩ := some_has (ha.1 x hx) (hb.1 y hy) h
 rw [inD_all] at c2
 obtain ⟨j1, j2, j3, j4⟩ := inB_iff.1 c2
 refine List.any_eq_true.2 ⟨x, hx, List.any_eq_true.2 ⟨y, hy, dims_some (ha.1 x hx) (hb.1 y hy) c1 ?_⟩⟩
 unfold inD
 simp only [Bool.and_eq_true, Bool.or_eq_true, Bool.not_eq_true', decide_eq_true_eq]
 exact ⟨⟨⟨.inr j1, .inr j2⟩, .inr j3⟩, .inr j4⟩
theorem blame_same {a b : List Bx} (ha : ∀ x ∈ a, I64 x.k) (hb : ∀ x ∈ b, I64 x.k) : blameR a b = blameF a b := by
 unfold blameR blameF
 by_cases he : boxesF a = [] ∨ boxesF b = []
 ·rw [if_pos he, if_pos he]
 rw [if_neg he, if_neg he]
 have fl : ∀ {l : List Bx}, (∀ x ∈ l, I64 x.k) → FL (boxesF l) := fun {l} h => ⟨fun x hx => ⟨(boxes_mem hx).2, h x (boxes_mem hx).1⟩, boxes_len l⟩
 have fa := fl ha
 have fb := fl hb
 generalize boxesF a = l at *
 generalize boxesF b = m at *
 have h15 := met_is (n := 15) (by omega) fa fb
 rw [show ((15 : Nat) : Int) = 15 from rfl] at h15
 rw [h15]
 unfold apartZ
 cases hm : metD 15 l m
 ·rw [if_neg (by decide)]
  obtain ⟨b1, b2⟩ := bl_least l m 14 (Nat.le_refl _)
  obtain ⟨r, hr, r1, r2⟩ : ∃ r : Fin 16, blUp l m 14 = (r.val : Int) ∧ 1 ≤ r.val ∧ metD (r.val : Int) l m = false := by
   rcases b1 with h | ⟨s, h1, h2, h3, h4⟩
   ·exact ⟨15, h, by decide, hm⟩
   ·exact ⟨⟨s, by omega⟩, h1, h2, by rw [← met_is (by omega) fa fb]; exact h4⟩
  have hmem := masks_all r r1
  cases hf : masksL.find? fun s => !metD s l m with
  | none =>
   have := List.find?_eq_none.1 hf _ hmem
   rw [r2] at this
   exact absurd rfl this
  | some z =>
   obtain ⟨z1, z2, z3⟩ := find_least masks_sorted hf
   obtain ⟨s, rfl, s1⟩ := masks_rng z z1
   have k1 := z3 _ hmem (by rw [r2]; rfl)
   have hs2 : metD (s.val : Int) l m = false := by simpa using z2
   have k2 : keyM (r.val : Int) ≤ keyM (s.val : Int) := by
    by_cases h15 : s.val = 15
    ·have : ∀ t : Fin 16, keyM (t.val : Int) ≤ keyM 15 := by decide +kernel
     have h := this r
     rw [h15]
     exact h
    ·have := b2 s.val s1 (by omega) (by rw [met_is s.isLt fa fb]; exact hs2)
     rw [hr] at this
     unfold keyM
     omega
   have := key_inj s r (by omega)
   show (s.val : Int) = blUp l m 14
   rw [hr, this]
 ·rw [if_pos rfl]
  have : masksL.find? (fun s => !metD s l m) = none := by
   rw [List.find?_eq_none]
   intro z hz
   obtain ⟨s, rfl, -⟩ := masks_rng z hz
   rw [met_mono fa fb hm]
   simp
  rw [this]
  rfl
end Go.Proofs.YtnbdpnlepcjmmaaGreat

namespace Go.Proofs.YtnbdpnlepcjmmaaGreat
open Go.RowKit
set_option maxHeartbeats 4000000 in
theorem ssame_eq (A A2 : Option Addr) (c c2 : Nat) (l : List Sp) (w : World) (h : Sps w A l) (h2 : Sps w A2 l) (hl : l.length ≤ 9223372036854775807) :
    Calls Tryz.prog 101 #[.agg #[.slice A l.length c], .agg #[.slice A2 l.length c2]] w fun e w' => e = .returned (.bool true) ∧ Grows w w' := by
  have k1 := (Blk.new w 45 #[.slice A l.length c]).alloc (Obj.cells #[.slice A2 l.length c2] 45)
  have k2 := blk_new_at (X := w.alloc (Obj.cells #[.slice A l.length c] 45)) (n := w.heap.size + 1) (t := 45) (cs := #[.slice A2 l.length c2]) (by simp)
  have hB := ((Below.refl w.heap.size w).alloc (Nat.le_refl _) (Obj.cells #[.slice A l.length c] 45)).alloc (by simp) (Obj.cells #[.slice A2 l.length c2] 45)
  go_enter Tryz.func101, Tryz.ntmps101
  go_upto_region 1 with fail
  have h1 := h.grows hB
  have h3 := h2.grows hB
  generalize World.alloc (World.alloc w _) _ = w1 at *
  have x1 := k1.cell 0
  have x2 := k2.cell 0
  go_wp2_with fail
  clear x1 x2
  go_loopw [16] (fun i wr => ∃ k : Nat, k ≤ l.length ∧ i = .int .i64 k ∧ Grows w1 wr) (fun i _ => l.length - (intOf i).toNat)
  case atStart => exact ⟨0, by omega, rfl, Below.refl _ _⟩
  case round =>
    obtain ⟨k, hk, rfl, hg⟩ := hrel
    by_cases hlt : k < l.length
    · obtain ⟨ad, x, rfl, had, hx, c0, c1⟩ := (h1.grows hg).elem hlt
      obtain ⟨ad2, x2, rfl, had2, hx2, d0, d1⟩ := (h3.grows hg).elem hlt
      rw [hx] at hx2
      injection hx2 with hx2
      subst hx2
      clear hx
      have k3 := k1.grows hg
      have k4 := k2.grows hg
      have y1 := k3.cell 0
      have y2 := k4.cell 0
      go_upto_region 6 with fail
      go_region
      replace hg := below_grows hg (Nat.le_refl _) (Grows.drew' wr)
      go_wp2
      go_roundw
      case rel => exact ⟨k + 1, by omega, by go_num, hg⟩
      case measure => simp [intOf]; omega
    · go_wp2
      go_ret
      exact ⟨rfl, below_grows hB (Nat.le_refl _) hg⟩
set_option maxHeartbeats 32000000 in
set_option maxRecDepth 10000 in
theorem samebox_eq {ba bb : Nat → Prop} {b : Bx} {A1 A2 A3 B1 B2 B3 : Option Addr} {c1 c2 c3 d1 d2 d3 : Nat} {w : World} (hpa : BoxP w ba b A1 c1 A2 c2 A3 c3) (hpb : BoxP w bb b B1 d1 B2 d2 B3 d3) (hl : OKB b) :
    Calls Tryz.prog 57 #[.agg #[.int .i64 b.k, .slice A1 b.r.length c1, .slice A2 b.m.length c2, .slice A3 b.s.length c3], .agg #[.int .i64 b.k, .slice B1 b.r.length d1, .slice B2 b.m.length d2, .slice B3 b.s.length d3]] w fun e w' => e = .returned (.bool true) ∧ Grows w w' := by
  obtain ⟨hlr, hls, hlm, hlx⟩ := hl
  have HLX := Lib.hid hlx
  clear hlx
  have ka := ((Blk.new w 48 #[.int .i64 b.k, .slice A1 b.r.length c1, .slice A2 b.m.length c2, .slice A3 b.s.length c3]).alloc (Obj.cells #[.int .i64 b.k, .slice B1 b.r.length d1, .slice B2 b.m.length d2, .slice B3 b.s.length d3] 48))
  have kb := (Blk.new (w.alloc (Obj.cells #[.int .i64 b.k, .slice A1 b.r.length c1, .slice A2 b.m.length c2, .slice A3 b.s.length c3] 48)) 48 #[.int .i64 b.k, .slice B1 b.r.length d1, .slice B2 b.m.length d2, .slice B3 b.s.length d3])
  have hB := (((Below.refl w.heap.size w).alloc (Nat.le_refl _) (Obj.cells #[.int .i64 b.k, .slice A1 b.r.length c1, .slice A2 b.m.length c2, .slice A3 b.s.length c3] 48)).alloc (by simp) (Obj.cells #[.int .i64 b.k, .slice B1 b.r.length d1, .slice B2 b.m.length d2, .slice B3 b.s.length d3] 48))
  go_enter Tryz.func57, Tryz.ntmps57
  go_upto_region 1 with fail
  have hs1 : (w.alloc (Obj.cells #[.int .i64 b.k, .slice A1 b.r.length c1, .slice A2 b.m.length c2, .slice A3 b.s.length c3] 48)).heap.size = w.heap.size + 1 := by simp
  rw [hs1] at kb
  clear hs1
  generalize World.alloc (World.alloc w _) _ = w2 at *
  generalize hG1 : w.heap.size + 1 = G1 at *
  have HG1 := Lib.hid hG1
  clear hG1
  have xa := ka.cell
  have xb := kb.cell
  go_wp2_with fail
  refine (ssame_eq A1 B1 c1 d1 b.r _ (hpa.r.grows hB).sps (hpb.r.grows hB).sps (by omega)).mono ?_
  rintro e w3 ⟨rfl, hq⟩
  replace hB := below_grows hB (Nat.le_refl _) hq
  replace ka := ka.grows hq
  replace kb := kb.grows hq
  clear hq xa xb
  have xa := ka.cell
  have xb := kb.cell
  go_wp2_with fail
  refine (ssame_eq A3 B3 c3 d3 b.s _ (hpa.s.grows hB).sps (hpb.s.grows hB).sps (by omega)).mono ?_
  rintro e w4 ⟨rfl, hq⟩
  replace hB := below_grows hB (Nat.le_refl _) hq
  replace ka := ka.grows hq
  replace kb := kb.grows hq
  clear hq xa xb
  have xa := ka.cell
  have xb := kb.cell
  go_wp2_with fail
  clear xa xb
  go_loopw [39] (fun i wr => ∃ k : Nat, k ≤ b.m.length ∧ i = .int .i64 k ∧ Blk wr w.heap.size 48 #[.int .i64 b.k, .slice A1 b.r.length c1, .slice A2 b.m.length c2, .slice A3 b.s.length c3] ∧ Blk wr G1 48 #[.int .i64 b.k, .slice B1 b.r.length d1, .slice B2 b.m.length d2, .slice B3 b.s.length d3] ∧ Below w.heap.size w wr) (fun i _ => b.m.length - (intOf i).toNat)
  case atStart => exact ⟨0, by omega, rfl, ka, kb, hB⟩
  case round =>
    clear ka kb hB
    obtain ⟨k, hk, rfl, ka, kb, hB⟩ := hrel
    by_cases hlt : k < b.m.length
    · obtain ⟨ad, x, C, cx, e1, had, hx, q0, hcx, hix⟩ := (hpa.m.grows hB).elem hlt
      obtain ⟨ad2, y, D, cy, e2, had2, hy, p0, hcy, hiy⟩ := (hpb.m.grows hB).elem hlt
      rw [hx] at hy
      injection hy with hy
      subst hy
      subst e1
      subst e2
      have hxl := HLX.out x (List.mem_of_getElem? hx)
      clear hx
      have HC : Hid (∀ w0, Grows wr w0 → Calls Tryz.prog 82 #[.slice C x.length cx, .slice D x.length cy] w0 fun e w' => e = .returned (.bool true) ∧ Grows w0 w') := Lib.hid fun w0 h => by
        have := rsame6_any C D cx cy x x w0 (hix.ints.grows h) (hiy.ints.grows h) (by omega) (by omega)
        simpa using this
      go_upto_region 6 with fail
      refine wp_region_mix (fun w' => Grows wr w') [] 12 55 (by kernel_rfl) (by kernel_rfl) rfl ?_ float_none ?_ ?_
      · exact fun w1 w2 h0 hg => below_grows h0 (Nat.le_refl _) hg
      · exact Grows.drew' _
      · skip
        simp only [List.take_succ_cons, List.take_zero, List.drop_succ_cons, List.drop_zero]
        iterate 12
          refine calm_plain rfl rfl (v := ?_) (a' := ?_) (fun w1 hw1 => ?_) ?_ ?_
          rotate_left 2
          · have h0 := hw1
            have xa := (ka.grows h0).cell
            have xb := (kb.grows h0).cell
            have r0 := (h0.cell (p := ad.add k) (by rw [block_of_add]; exact had)).trans q0
            have r1 := (h0.cell (p := ad2.add k) (by rw [block_of_add]; exact had2)).trans p0
            go_simp
            first | exact calm_val | (refine calm_call ?_; with_reducible exact HC.out _ h0)
          · simp only [Act.put, List.setIfInBounds_toArray, List.set_cons_succ, List.set_cons_zero]
            rfl
        refine calm_done (end_none ?_)
        intro wq hg
        replace hB := below_grows hB (Nat.le_refl _) hg
        replace ka := ka.grows hg
        replace kb := kb.grows hg
        clear hg q0 p0 HC hix hiy
        go_wp2
        go_roundw
        case rel => exact ⟨k + 1, by omega, by go_num, ka, kb, hB⟩
        case measure => simp [intOf]; omega
    · go_wp2
      go_ret
      exact ⟨rfl, hB⟩
set_option maxHeartbeats 32000000 in
set_option maxRecDepth 10000 in
theorem same_eq {ba bb : Nat → Prop} {A B : Option Addr} {c d n m : Nat} {l : List Bx} {w : World} (hn : n = l.length) (hm : m = l.length) (ha : Bxs w ba A l) (hb : Bxs w bb B l) (hl : l.length ≤ 1000000) (ho : ∀ b ∈ l, OKB b) :
    Calls Tryz.prog 21 #[.slice A n c, .slice B m d] w fun e w' => e = .returned (.bool true) ∧ Grows w w' := by
  subst hn
  subst hm
  have HO := Lib.hid ho
  clear ho
  have hB := Below.refl w.heap.size w
  go_enter Tryz.func21, Tryz.ntmps21
  go_wp2_with fail
  go_loopw [13] (fun i wr => ∃ k : Nat, k ≤ l.length ∧ i = .int .i64 k ∧ Below w.heap.size w wr) (fun i _ => l.length - (intOf i).toNat)
  case atStart => exact ⟨0, by omega, rfl, hB⟩
  case round =>
    clear hB
    obtain ⟨k, hk, rfl, hB⟩ := hrel
    by_cases hlt : k < l.length
    · obtain ⟨ad, b, A1, c1, A2, c2, A3, c3, e1, had, hx, hpa, q0, q1, q2, q3⟩ := (ha.grows hB).elem hlt
      obtain ⟨ad2, y, B1, d1, B2, d2, B3, d3, e2, had2, hy, hpb, p0, p1, p2, p3⟩ := (hb.grows hB).elem hlt
      rw [hx] at hy
      injection hy with hy
      subst hy
      subst e1
      subst e2
      have hob := HO.out b (List.mem_of_getElem? hx)
      clear hx
      have HC : Hid (∀ w0, Grows wr w0 → Calls Tryz.prog 57 #[.agg #[.int .i64 b.k, .slice A1 b.r.length c1, .slice A2 b.m.length c2, .slice A3 b.s.length c3], .agg #[.int .i64 b.k, .slice B1 b.r.length d1, .slice B2 b.m.length d2, .slice B3 b.s.length d3]] w0 fun e w' => e = .returned (.bool true) ∧ Grows w0 w') := Lib.hid fun w0 h => samebox_eq (hpa.grows h) (hpb.grows h) hob
      go_upto_region 6 with fail
      refine wp_region_mix (fun w' => Grows wr w') [] 10 27 (by kernel_rfl) (by kernel_rfl) rfl ?_ float_none ?_ ?_
      · exact fun w1 w2 h0 hg => below_grows h0 (Nat.le_refl _) hg
      · exact Grows.drew' _
      · skip
        simp only [List.take_succ_cons, List.take_zero, List.drop_succ_cons, List.drop_zero]
        iterate 10
          refine calm_plain rfl rfl (v := ?_) (a' := ?_) (fun w1 hw1 => ?_) ?_ ?_
          rotate_left 2
          · have h0 := hw1
            have r0 := (h0.cell (p := ad.add (k * 4)) (by rw [block_of_add]; exact had)).trans q0
            have r1 := (h0.cell (p := ⟨(ad.add (k * 4)).block, (ad.add (k * 4)).off + 1, none⟩) (by simp only [block_of_add]; exact had)).trans q1
            have r2 := (h0.cell (p := ⟨(ad.add (k * 4)).block, (ad.add (k * 4)).off + 2, none⟩) (by simp only [block_of_add]; exact had)).trans q2
            have r3 := (h0.cell (p := ⟨(ad.add (k * 4)).block, (ad.add (k * 4)).off + 3, none⟩) (by simp only [block_of_add]; exact had)).trans q3
            have s0 := (h0.cell (p := ad2.add (k * 4)) (by rw [block_of_add]; exact had2)).trans p0
            have s1 := (h0.cell (p := ⟨(ad2.add (k * 4)).block, (ad2.add (k * 4)).off + 1, none⟩) (by simp only [block_of_add]; exact had2)).trans p1
            have s2 := (h0.cell (p := ⟨(ad2.add (k * 4)).block, (ad2.add (k * 4)).off + 2, none⟩) (by simp only [block_of_add]; exact had2)).trans p2
            have s3 := (h0.cell (p := ⟨(ad2.add (k * 4)).block, (ad2.add (k * 4)).off + 3, none⟩) (by simp only [block_of_add]; exact had2)).trans p3
            go_simp
            first | exact calm_val | (refine calm_call ?_; with_reducible exact HC.out _ h0)
          · simp only [Act.put, List.setIfInBounds_toArray, List.set_cons_succ, List.set_cons_zero]
            rfl
        refine calm_done (end_none ?_)
        intro wq hg
        replace hB := below_grows hB (Nat.le_refl _) hg
        clear hg q0 q1 q2 q3 p0 p1 p2 p3 HC hpa hpb
        go_wp2
        go_roundw
        case rel => exact ⟨k + 1, by omega, by go_num, hB⟩
        case measure => simp [intOf]; omega
    · go_wp2
      go_ret
      exact ⟨rfl, hB⟩
end Go.Proofs.YtnbdpnlepcjmmaaGreat

namespace Go.Proofs.YtnbdpnlepcjmmaaGreat
open Go.RowKit
def Dk (n : Nat) (ba : Nat → Prop) : Nat → Prop := fun k => (ba k ∧ k < n) ∨ n + 4 ≤ k
set_option maxHeartbeats 64000000 in
set_option maxRecDepth 10000 in
theorem rdims_any {ba bb : Nat → Prop} {a b : Bx} {A1 A2 A3 B1 B2 B3 : Option Addr} {c1 c2 c3 d1 d2 d3 : Nat} {w : World} (hpa : BoxP w ba a A1 c1 A2 c2 A3 c3) (hpb : BoxP w bb b B1 d1 B2 d2 B3 d3) (hla : OKB a) (hlb : OKB b) (d : Int) :
    Calls Tryz.prog 98 #[.agg #[.int .i64 a.k, .slice A1 a.r.length c1, .slice A2 a.m.length c2, .slice A3 a.s.length c3], .agg #[.int .i64 b.k, .slice B1 b.r.length d1, .slice B2 b.m.length d2, .slice B3 b.s.length d3], .int .i64 d] w fun e w' => (∃ v, e = .returned (.tuple #[v, .bool (someB (dimsF d a b)), .bool (manyB d (dimsF d a b))]) ∧ BoxV w' (Dk w.heap.size ba) (dimsF d a b) v) ∧ Grows w w' := by
  obtain ⟨har, has_, ham, hax⟩ := hla
  obtain ⟨hbr, hbs, hbm, hbx⟩ := hlb
  have HAX := Lib.hid hax
  have HBX := Lib.hid hbx
  clear hax hbx
  have ka := ((Blk.new w 48 #[.int .i64 a.k, .slice A1 a.r.length c1, .slice A2 a.m.length c2, .slice A3 a.s.length c3]).alloc (Obj.cells #[.int .i64 b.k, .slice B1 b.r.length d1, .slice B2 b.m.length d2, .slice B3 b.s.length d3] 48)).alloc (Obj.cells #[.int .i64 0, .slice none 0 0, .slice none 0 0, .slice none 0 0] 48)
  have kb := (blk_new_at (X := w.alloc (Obj.cells #[.int .i64 a.k, .slice A1 a.r.length c1, .slice A2 a.m.length c2, .slice A3 a.s.length c3] 48)) (n := w.heap.size + 1) (t := 48) (cs := #[.int .i64 b.k, .slice B1 b.r.length d1, .slice B2 b.m.length d2, .slice B3 b.s.length d3]) (by simp)).alloc (Obj.cells #[.int .i64 0, .slice none 0 0, .slice none 0 0, .slice none 0 0] 48)
  have k4 := blk_new_at (X := (w.alloc (Obj.cells #[.int .i64 a.k, .slice A1 a.r.length c1, .slice A2 a.m.length c2, .slice A3 a.s.length c3] 48)).alloc (Obj.cells #[.int .i64 b.k, .slice B1 b.r.length d1, .slice B2 b.m.length d2, .slice B3 b.s.length d3] 48)) (n := w.heap.size + 2) (t := 48) (cs := #[.int .i64 0, .slice none 0 0, .slice none 0 0, .slice none 0 0]) (by simp)
  have hB := (((Below.refl w.heap.size w).alloc (Nat.le_refl _) (Obj.cells #[.int .i64 a.k, .slice A1 a.r.length c1, .slice A2 a.m.length c2, .slice A3 a.s.length c3] 48)).alloc (by simp) (Obj.cells #[.int .i64 b.k, .slice B1 b.r.length d1, .slice B2 b.m.length d2, .slice B3 b.s.length d3] 48)).alloc (by simp; omega) (Obj.cells #[.int .i64 0, .slice none 0 0, .slice none 0 0, .slice none 0 0] 48)
  have hs3 : (((w.alloc (Obj.cells #[.int .i64 a.k, .slice A1 a.r.length c1, .slice A2 a.m.length c2, .slice A3 a.s.length c3] 48)).alloc (Obj.cells #[.int .i64 b.k, .slice B1 b.r.length d1, .slice B2 b.m.length d2, .slice B3 b.s.length d3] 48)).alloc (Obj.cells #[.int .i64 0, .slice none 0 0, .slice none 0 0, .slice none 0 0] 48)).heap.size = w.heap.size + 3 := by simp
  have HK : Hid ((dimsF d a b).k = if bitZ d 1 = true then bits .and .i64 a.k b.k else a.k) := Lib.hid rfl
  have HR : Hid ((dimsF d a b).r = if bitZ d 2 = true then interF (spansF a.r) (spansF b.r) else a.r) := Lib.hid rfl
  have HM : Hid ((dimsF d a b).m = if bitZ d 4 = true then a.m.filter (fun x => decide (x ∈ b.m)) else a.m) := Lib.hid rfl
  have HZ : Hid ((dimsF d a b).s = if bitZ d 8 = true then interF (spansF a.s) (spansF b.s) else a.s) := Lib.hid rfl
  have HSB : Hid (someB (dimsF d a b) = (((dimsF d a b).k != 0) && decide (0 < (dimsF d a b).m.length) && decide (0 < (dimsF d a b).r.length) && decide (0 < (dimsF d a b).s.length))) := Lib.hid rfl
  have HMB : Hid (manyB d (dimsF d a b) = ((bitZ d 2 && decide (64 < (dimsF d a b).r.length)) || (bitZ d 8 && decide (64 < (dimsF d a b).s.length)))) := Lib.hid rfl
  generalize dimsF d a b = z at *
  go_enter Tryz.func98, Tryz.ntmps98
  go_upto_region 1 with fail
  generalize World.alloc (World.alloc (World.alloc w _) _) _ = w1 at *
  have xa := ka.cell
  have k9 := Blk.new w1 48 #[.int .i64 a.k, .slice A1 a.r.length c1, .slice A2 a.m.length c2, .slice A3 a.s.length c3]
  rw [hs3] at k9
  have hq := (Below.refl w1.heap.size w1).alloc (Nat.le_refl _) (Obj.cells #[.int .i64 a.k, .slice A1 a.r.length c1, .slice A2 a.m.length c2, .slice A3 a.s.length c3] 48)
  go_upto_region 2 with fail
  try rw [hs3]
  replace hB := below_grows hB (Nat.le_refl _) hq
  replace ka := ka.grows hq
  replace kb := kb.grows hq
  replace k4 := k4.grows hq
  clear hq xa hs3
  generalize World.alloc w1 _ = w2 at *
  generalize hq9 : w.heap.size + 3 = q9 at *
  go_upto_if 16 with fail
  go_cut [] (fun wx => (Below w.heap.size w wx ∧ Blk wx w.heap.size 48 #[.int .i64 a.k, .slice A1 a.r.length c1, .slice A2 a.m.length c2, .slice A3 a.s.length c3] ∧ Blk wx (w.heap.size + 1) 48 #[.int .i64 b.k, .slice B1 b.r.length d1, .slice B2 b.m.length d2, .slice B3 b.s.length d3] ∧ Blk wx (w.heap.size + 2) 48 #[.int .i64 0, .slice none 0 0, .slice none 0 0, .slice none 0 0]) ∧ Blk wx q9 48 #[.int .i64 z.k, .slice A1 a.r.length c1, .slice A2 a.m.length c2, .slice A3 a.s.length c3])
  case first =>
    cases hb : bitZ d 1
    · have e1 : (bits .and .i64 d 1 != 0) = false := hb
      have HE : Hid (z.k = a.k) := Lib.hid (by rw [HK.out, hb]; rfl)
      clear hb
      go_wp2
      go_meet
      exact ⟨⟨hB, ka, kb, k4⟩, by rw [HE.out]; exact k9⟩
    · have e1 : (bits .and .i64 d 1 != 0) = true := hb
      have HE : Hid (z.k = bits .and .i64 a.k b.k) := Lib.hid (by rw [HK.out, hb]; rfl)
      clear hb
      have xa := ka.cell
      have xb := kb.cell
      have x9 := k9.cell
      have f9 := k9.frozen
      go_wp2
      go_meet
      exact ⟨⟨hB.setCell (p := ⟨q9, 0, none⟩) (show w.heap.size ≤ q9 by omega) _, ka.far (p := ⟨q9, 0, none⟩) (show w.heap.size ≠ q9 by omega) _, kb.far (p := ⟨q9, 0, none⟩) (show w.heap.size + 1 ≠ q9 by omega) _, k4.far (p := ⟨q9, 0, none⟩) (show w.heap.size + 2 ≠ q9 by omega) _⟩, by rw [HE.out]; exact k9.set_ 0 _⟩
  case rest =>
  obtain ⟨⟨hB2, ka2, kb2, k42⟩, k92⟩ := hcut
  clear hB ka kb k4 k9
  have hB := hB2
  have ka := ka2
  have kb := kb2
  have k4 := k42
  have k9 := k92
  clear hB2 ka2 kb2 k42 k92
  generalize wc = w3 at *
  have hpm : MapsR w (Dk w.heap.size ba) A2 a.m := hpa.m.bd.mono (fun k hk => Or.inl hk)
  have hpr : RdB w (Dk w.heap.size ba) 2 A1 a.r.length (scells a.r) := RdB.mono (RdB.bd hpa.r) (fun k hk => Or.inl hk)
  have hps : RdB w (Dk w.heap.size ba) 2 A3 a.s.length (scells a.s) := RdB.mono (RdB.bd hpa.s) (fun k hk => Or.inl hk)
  go_upto_if 25 with fail
  go_cut [] (fun wx => (Below w.heap.size w wx ∧ Blk wx w.heap.size 48 #[.int .i64 a.k, .slice A1 a.r.length c1, .slice A2 a.m.length c2, .slice A3 a.s.length c3] ∧ Blk wx (w.heap.size + 1) 48 #[.int .i64 b.k, .slice B1 b.r.length d1, .slice B2 b.m.length d2, .slice B3 b.s.length d3] ∧ Blk wx (w.heap.size + 2) 48 #[.int .i64 0, .slice none 0 0, .slice none 0 0, .slice none 0 0]) ∧ ∃ (A6 : Option Addr) (c6 : Nat), Blk wx q9 48 #[.int .i64 z.k, .slice A1 a.r.length c1, .slice A6 z.m.length c6, .slice A3 a.s.length c3] ∧ z.m.length ≤ c6 ∧ MapsR wx (Dk w.heap.size ba) A6 z.m)
  case first =>
    cases hb : bitZ d 4
    · have e1 : (bits .and .i64 d 4 != 0) = false := hb
      have HE : Hid (z.m = a.m) := Lib.hid (by rw [HM.out, hb]; rfl)
      clear hb
      go_wp2
      go_meet
      exact ⟨⟨hB, ka, kb, k4⟩, A2, c2, by rw [HE.out]; exact k9, by rw [HE.out]; exact hpa.cm, by rw [HE.out]; exact hpm.grows hB⟩
    · have e1 : (bits .and .i64 d 4 != 0) = true := hb
      rw [e1]
      have HE : Hid (z.m = a.m.filter (fun x => decide (x ∈ b.m))) := Lib.hid (by rw [HM.out, hb]; rfl)
      clear hb
      have x9 := k9.cell
      have f9 := k9.frozen
      go_upto_region 6 with fail
      replace hB := hB.setCell (p := ⟨q9, 2, none⟩) (show w.heap.size ≤ q9 by omega) (.slice none 0 0)
      replace ka := ka.far (p := ⟨q9, 2, none⟩) (show w.heap.size ≠ q9 by omega) (.slice none 0 0)
      replace kb := kb.far (p := ⟨q9, 2, none⟩) (show w.heap.size + 1 ≠ q9 by omega) (.slice none 0 0)
      replace k4 := k4.far (p := ⟨q9, 2, none⟩) (show w.heap.size + 2 ≠ q9 by omega) (.slice none 0 0)
      have k9n := k9.set_ 2 (.slice none 0 0)
      clear x9 f9 k9
      generalize World.setCell w3 _ _ = w4 at *
      have k9 : Blk w4 q9 48 #[.int .i64 z.k, .slice A1 a.r.length c1, .slice none 0 0, .slice A3 a.s.length c3] := k9n
      clear k9n
      obtain ⟨b2, hb2⟩ : ∃ b2, b2 = w4.heap.size := ⟨_, rfl⟩
      have hb3 : b2 ≤ w4.heap.size := by omega
      have hl9 : q9 < b2 := by have := k9.lt; omega
      clear hb2
      have xa := ka.cell
      go_wp2_with fail
      clear xa
      go_loopw [30] (fun i wr => ∃ (k : Nat) (V : Value), k ≤ a.m.length ∧ i = .int .i64 k ∧ b2 ≤ wr.heap.size ∧ OwnMq wr b2 (Bd ba w.heap.size) V ((a.m.take k).filter fun x => decide (x ∈ b.m)) ∧ (Below w.heap.size w wr ∧ Blk wr w.heap.size 48 #[.int .i64 a.k, .slice A1 a.r.length c1, .slice A2 a.m.length c2, .slice A3 a.s.length c3] ∧ Blk wr (w.heap.size + 1) 48 #[.int .i64 b.k, .slice B1 b.r.length d1, .slice B2 b.m.length d2, .slice B3 b.s.length d3] ∧ Blk wr (w.heap.size + 2) 48 #[.int .i64 0, .slice none 0 0, .slice none 0 0, .slice none 0 0]) ∧ Blk wr q9 48 #[.int .i64 z.k, .slice A1 a.r.length c1, V, .slice A3 a.s.length c3]) (fun i _ => a.m.length - (intOf i).toNat)
      case atStart => exact ⟨0, _, by omega, rfl, hb3, OwnMq.nil, ⟨hB, ka, kb, k4⟩, k9⟩
      case round =>
        clear ka kb k4 k9 hB hb3
        obtain ⟨k, V, hk, rfl, hb3, ho, ⟨hB, ka, kb, k4⟩, k9⟩ := hrel
        obtain ⟨A2', c2', rfl, hc2', -⟩ := ho.read
        by_cases hlt : k < a.m.length
        · obtain ⟨ad, x, B0, cm, ea, had, hx, q0, hcm, hix⟩ := hpa.m.bd.elem hlt
          replace q0 := (hB.cell (p := ad.add k) (by rw [block_of_add]; exact had)).trans q0
          subst ea
          have HX := Lib.hid (filter_next (p := fun x => decide (x ∈ b.m)) hx)
          have hxl : x.length ≤ 1000000 := HAX.out x (List.mem_of_getElem? hx)
          have hkl : ((a.m.take k).filter fun x => decide (x ∈ b.m)).length + 1 ≤ 1000000 := by
            have := List.length_filter_le (fun x => decide (x ∈ b.m)) (a.m.take k)
            rw [List.length_take] at this
            omega
          clear hx
          generalize ((a.m.take k).filter fun x => decide (x ∈ b.m)) = ms at *
          have xb := kb.cell
          go_wp2_with fail
          refine (rhas_any B2 B0 d2 cm b.m x _ rfl (hpb.m.grows hB) hbm HBX.out (hix.ints.grows hB) hxl).mono ?_
          by_cases h5 : x ∈ b.m
          case neg =>
            have HT : Hid ((a.m.take (k + 1)).filter (fun x => decide (x ∈ b.m)) = ms) := Lib.hid (by rw [HX.out, decide_eq_false h5, if_neg (by decide), List.append_nil])
            rw [decide_eq_false h5]
            clear h5 HX
            rintro e w5 ⟨rfl, hg⟩
            replace hB := below_grows hB (Nat.le_refl _) hg
            replace ka := ka.grows hg
            replace kb := kb.grows hg
            replace k4 := k4.grows hg
            replace k9 := k9.grows hg
            replace ho := ho.grows hg
            replace hb3 := Nat.le_trans hb3 hg.size
            clear hg xb q0
            go_wp2
            go_roundw
            case rel => exact ⟨k + 1, _, by omega, by go_num, hb3, by rw [HT.out]; exact ho, ⟨hB, ka, kb, k4⟩, k9⟩
            case measure => simp [intOf]; omega
          have HT : Hid ((a.m.take (k + 1)).filter (fun x => decide (x ∈ b.m)) = ms ++ [x]) := Lib.hid (by rw [HX.out, decide_eq_true h5, if_pos rfl])
          rw [decide_eq_true h5]
          clear h5 HX
          rintro e w5 ⟨rfl, hg⟩
          replace hB := below_grows hB (Nat.le_refl _) hg
          replace ka := ka.grows hg
          replace kb := kb.grows hg
          replace k4 := k4.grows hg
          replace k9 := k9.grows hg
          replace ho := ho.grows hg
          replace hb3 := Nat.le_trans hb3 hg.size
          clear hg xb q0
          have x9 := k9.cell
          go_upto_region 10 with fail
          refine wp_region_lit ?_
          iterate 4
            refine wpList_plain rfl (fun K hK => ?_)
            go_simp
            refine hK _ _ ?_
            clear hK K
          have hk0 := Blk.new w5 23 #[.slice B0 x.length cm]
          have hq := (Below.refl w5.heap.size w5).alloc (Nat.le_refl _) (Obj.cells #[.slice B0 x.length cm] 23)
          have hrd : Reads (w5.alloc (Obj.cells #[.slice B0 x.length cm] 23)) (w5.alloc (Obj.cells #[.slice B0 x.length cm] 23)).heap.size 1 (some ⟨w5.heap.size, 0, none⟩) 1 [.slice B0 x.length cm] := ⟨rfl, fun _ => ⟨_, rfl, hk0.lt, fun j u hu => by rw [add_head, hk0.cell, ← Array.getElem?_toList]; exact hu⟩⟩
          replace hB := below_grows hB (Nat.le_refl _) hq
          replace ka := ka.grows hq
          replace kb := kb.grows hq
          replace k4 := k4.grows hq
          replace k9 := k9.grows hq
          replace ho := ho.grows hq
          replace hb3 := Nat.le_trans hb3 hq.size
          have hix2 := InB.grows hix hB
          have hol := ho.lt
          clear hq hk0 x9
          refine wpList_append_mapq rfl (.tmp 39) (.tmp 41) rfl rfl ho rfl hrd (by omega) hb3 hix2 hcm (fun ad e hl e2 => by have := (hol _ e2).1; have := (hix.2 hl ad e).2; omega) ?_
          intro v6 w6 ho2 hgr
          replace hB := hB.grown hgr hB.size (fun q e => by have := (hol q e).1; omega)
          replace ka := ka.grown hgr (fun e => by have := (hol _ e.symm).1; omega)
          replace kb := kb.grown hgr (fun e => by have := (hol _ e.symm).1; omega)
          replace k4 := k4.grown hgr (fun e => by have := (hol _ e.symm).1; omega)
          replace k9 := k9.grown hgr (fun e => by have := (hol _ e.symm).1; omega)
          replace hb3 := Nat.le_trans hb3 hgr.size
          clear hrd hgr ho hol hix2
          generalize ms ++ [x] = ms2 at *
          obtain ⟨A8, c8, rfl, hc8, -⟩ := ho2.read
          have y9 := k9.cell
          have f9 := k9.frozen
          replace hB := hB.setCell (p := ⟨q9, 2, none⟩) (show w.heap.size ≤ q9 by omega) (.slice A8 ms2.length c8)
          replace ka := ka.far (p := ⟨q9, 2, none⟩) (show w.heap.size ≠ q9 by omega) (.slice A8 ms2.length c8)
          replace kb := kb.far (p := ⟨q9, 2, none⟩) (show w.heap.size + 1 ≠ q9 by omega) (.slice A8 ms2.length c8)
          replace k4 := k4.far (p := ⟨q9, 2, none⟩) (show w.heap.size + 2 ≠ q9 by omega) (.slice A8 ms2.length c8)
          have k9n := k9.set_ 2 (.slice A8 ms2.length c8)
          have ho3 := ho2.only (d_only_set (World.grownBy.refl _ (some q9)) 2 (.slice A8 ms2.length c8)) (by omega) (by unfold Bd; omega)
          have hb4 : b2 ≤ (w6.setCell ⟨q9, 2, none⟩ (.slice A8 ms2.length c8)).heap.size := by simpa [World.setCell] using hb3
          clear k9 ho2 hb3
          go_wp2
          go_roundw
          case rel => exact ⟨k + 1, _, by omega, by go_num, hb4, by rw [HT.out]; exact ho3, ⟨hB, ka, kb, k4⟩, k9n⟩
          case measure => simp [intOf]; omega
        · rw [List.take_of_length_le (by omega)] at *
          obtain ⟨A9, c9, e9, hc9, hmr⟩ := ho.read
          injection e9 with e9 _ e10
          subst e9
          subst e10
          clear ho
          rw [← HE.out] at hc9 hmr k9
          go_wp2
          go_meet
          exact ⟨⟨hB, ka, kb, k4⟩, A2', c2', k9, hc9, hmr.mono (fun k hk => hk.elim (fun h => Or.inl h) (fun h => Or.inr (by omega)))⟩
  case rest =>
  obtain ⟨⟨hB2, ka2, kb2, k42⟩, A6, c6, k92, hc6, hmr⟩ := hcut
  clear hB ka kb k4 k9
  have hB := hB2
  have ka := ka2
  have kb := kb2
  have k4 := k42
  have k9 := k92
  clear hB2 ka2 kb2 k42 k92
  generalize wc = w4 at *
  go_upto_if 47 with fail
  go_cut [12] (fun v wx => v = .bool (bitZ d 2 && decide (64 < z.r.length)) ∧ (Below w.heap.size w wx ∧ Blk wx w.heap.size 48 #[.int .i64 a.k, .slice A1 a.r.length c1, .slice A2 a.m.length c2, .slice A3 a.s.length c3] ∧ Blk wx (w.heap.size + 1) 48 #[.int .i64 b.k, .slice B1 b.r.length d1, .slice B2 b.m.length d2, .slice B3 b.s.length d3] ∧ Blk wx (w.heap.size + 2) 48 #[.int .i64 0, .slice none 0 0, .slice none 0 0, .slice none 0 0]) ∧ ∃ (A5 : Option Addr) (c5 : Nat), Blk wx q9 48 #[.int .i64 z.k, .slice A5 z.r.length c5, .slice A6 z.m.length c6, .slice A3 a.s.length c3] ∧ z.r.length ≤ c5 ∧ RdB wx (Dk w.heap.size ba) 2 A5 z.r.length (scells z.r) ∧ MapsR wx (Dk w.heap.size ba) A6 z.m)
  case first =>
    cases hb : bitZ d 2
    · have e1 : (bits .and .i64 d 2 != 0) = false := hb
      have HE : Hid (z.r = a.r) := Lib.hid (by rw [HR.out, hb]; rfl)
      have HBB := Lib.hid hb
      clear hb
      go_wp2
      go_meet
      exact ⟨by rw [HBB.out]; rfl, ⟨hB, ka, kb, k4⟩, A1, c1, by rw [HE.out]; exact k9, by rw [HE.out]; exact hpa.cr, by rw [HE.out]; exact RdB.grows hpr hB, hmr⟩
    · have e1 : (bits .and .i64 d 2 != 0) = true := hb
      have HE : Hid (interF (spansF a.r) (spansF b.r) = z.r) := Lib.hid (by rw [HR.out, hb]; rfl)
      have HBB := Lib.hid hb
      clear hb
      have xa := ka.cell
      have xb := kb.cell
      go_wp2_with fail
      refine (all_any A1 c1 a.r B1 d1 b.r _ (hpa.r.grows hB).sps (by omega) (hpb.r.grows hB).sps (by omega)).mono ?_
      rw [HE.out]
      rintro e w5 ⟨⟨v, rfl, hown⟩, hq⟩
      obtain ⟨A5, c5, rfl, hc5, hr5⟩ := SpB.of_own hown
      have hl9 := k9.lt
      replace hr5 : RdB w5 (Dk w.heap.size ba) 2 A5 z.r.length (scells z.r) := RdB.mono hr5 (fun k hk => by unfold Ge at hk; unfold Dk; omega)
      replace hB := below_grows hB (Nat.le_refl _) hq
      replace ka := ka.grows hq
      replace kb := kb.grows hq
      replace k4 := k4.grows hq
      replace k9 := k9.grows hq
      replace hmr := hmr.grows hq
      clear hq hown xa xb hl9
      have x9 := k9.cell
      have f9 := k9.frozen
      go_upto_region 15 with fail
      replace hB := hB.setCell (p := ⟨q9, 1, none⟩) (show w.heap.size ≤ q9 by omega) (.slice A5 z.r.length c5)
      replace ka := ka.far (p := ⟨q9, 1, none⟩) (show w.heap.size ≠ q9 by omega) (.slice A5 z.r.length c5)
      replace kb := kb.far (p := ⟨q9, 1, none⟩) (show w.heap.size + 1 ≠ q9 by omega) (.slice A5 z.r.length c5)
      replace k4 := k4.far (p := ⟨q9, 1, none⟩) (show w.heap.size + 2 ≠ q9 by omega) (.slice A5 z.r.length c5)
      have k9n := k9.set_ 1 (.slice A5 z.r.length c5)
      have hch := d_only_set (World.grownBy.refl w5 (some q9)) 1 (.slice A5 z.r.length c5)
      replace hr5 := RdB.grown hr5 hch (fun q e hh => by injection e with e; unfold Dk at hh; omega)
      replace hmr := hmr.grown hch (fun q e hh => by injection e with e; unfold Dk at hh; omega)
      clear hch
      clear x9 f9 k9
      generalize World.setCell w5 _ _ = w6 at *
      have x9 : ∀ i, w6.cell? ⟨q9, i, none⟩ = #[.int .i64 z.k, .slice A5 z.r.length c5, .slice A6 z.m.length c6, .slice A3 a.s.length c3][i]? := k9n.cell
      go_wp2
      go_meet
      exact ⟨by rw [HBB.out, Bool.true_and]; exact congrArg Value.bool (by rw [Bool.eq_iff_iff, decide_eq_true_eq, decide_eq_true_eq]; omega), ⟨hB, ka, kb, k4⟩, A5, c5, k9n, hc5, hr5, hmr⟩
  case rest =>
  obtain ⟨rfl, ⟨hB2, ka2, kb2, k42⟩, A5, c5, k92, hc5, hr5, hmr2⟩ := hcut
  clear hB ka kb k4 k9 hmr
  have hB := hB2
  have ka := ka2
  have kb := kb2
  have k4 := k42
  have k9 := k92
  have hmr := hmr2
  clear hB2 ka2 kb2 k42 k92 hmr2
  generalize wc = w5 at *
  generalize hM1 : (bitZ d 2 && decide (64 < z.r.length)) = M1 at *
  have HM1 := Lib.hid hM1
  clear hM1
  go_upto_if 65 with fail
  go_cut [12] (fun v wx => v = .bool (manyB d z) ∧ (Below w.heap.size w wx ∧ Blk wx w.heap.size 48 #[.int .i64 a.k, .slice A1 a.r.length c1, .slice A2 a.m.length c2, .slice A3 a.s.length c3] ∧ Blk wx (w.heap.size + 1) 48 #[.int .i64 b.k, .slice B1 b.r.length d1, .slice B2 b.m.length d2, .slice B3 b.s.length d3] ∧ Blk wx (w.heap.size + 2) 48 #[.int .i64 0, .slice none 0 0, .slice none 0 0, .slice none 0 0]) ∧ ∃ (A7 : Option Addr) (c7 : Nat), Blk wx q9 48 #[.int .i64 z.k, .slice A5 z.r.length c5, .slice A6 z.m.length c6, .slice A7 z.s.length c7] ∧ z.s.length ≤ c7 ∧ RdB wx (Dk w.heap.size ba) 2 A7 z.s.length (scells z.s) ∧ RdB wx (Dk w.heap.size ba) 2 A5 z.r.length (scells z.r) ∧ MapsR wx (Dk w.heap.size ba) A6 z.m)
  case first =>
    cases hb : bitZ d 8
    · have e1 : (bits .and .i64 d 8 != 0) = false := hb
      have HE : Hid (z.s = a.s) := Lib.hid (by rw [HZ.out, hb]; rfl)
      have HBB := Lib.hid hb
      clear hb
      go_wp2
      go_meet
      exact ⟨by rw [HMB.out, HBB.out]; simp, ⟨hB, ka, kb, k4⟩, A3, c3, by rw [HE.out]; exact k9, by rw [HE.out]; exact hpa.cs, by rw [HE.out]; exact RdB.grows hps hB, hr5, hmr⟩
    · have e1 : (bits .and .i64 d 8 != 0) = true := hb
      have HE : Hid (interF (spansF a.s) (spansF b.s) = z.s) := Lib.hid (by rw [HZ.out, hb]; rfl)
      have HBB := Lib.hid hb
      clear hb
      have xa := ka.cell
      have xb := kb.cell
      go_wp2_with fail
      refine (all_any A3 c3 a.s B3 d3 b.s _ (hpa.s.grows hB).sps (by omega) (hpb.s.grows hB).sps (by omega)).mono ?_
      rw [HE.out]
      rintro e w6 ⟨⟨v, rfl, hown⟩, hq⟩
      obtain ⟨A7, c7, rfl, hc7, hr7⟩ := SpB.of_own hown
      have hl9 := k9.lt
      replace hr7 : RdB w6 (Dk w.heap.size ba) 2 A7 z.s.length (scells z.s) := RdB.mono hr7 (fun k hk => by unfold Ge at hk; unfold Dk; omega)
      replace hB := below_grows hB (Nat.le_refl _) hq
      replace ka := ka.grows hq
      replace kb := kb.grows hq
      replace k4 := k4.grows hq
      replace k9 := k9.grows hq
      replace hmr := hmr.grows hq
      replace hr5 := RdB.grows hr5 hq
      clear hq hown xa xb hl9
      have x9 := k9.cell
      have f9 := k9.frozen
      go_upto_region 18 with fail
      replace hB := hB.setCell (p := ⟨q9, 3, none⟩) (show w.heap.size ≤ q9 by omega) (.slice A7 z.s.length c7)
      replace ka := ka.far (p := ⟨q9, 3, none⟩) (show w.heap.size ≠ q9 by omega) (.slice A7 z.s.length c7)
      replace kb := kb.far (p := ⟨q9, 3, none⟩) (show w.heap.size + 1 ≠ q9 by omega) (.slice A7 z.s.length c7)
      replace k4 := k4.far (p := ⟨q9, 3, none⟩) (show w.heap.size + 2 ≠ q9 by omega) (.slice A7 z.s.length c7)
      have k9n := k9.set_ 3 (.slice A7 z.s.length c7)
      have hch := d_only_set (World.grownBy.refl w6 (some q9)) 3 (.slice A7 z.s.length c7)
      replace hr7 := RdB.grown hr7 hch (fun q e hh => by injection e with e; unfold Dk at hh; omega)
      replace hr5 := RdB.grown hr5 hch (fun q e hh => by injection e with e; unfold Dk at hh; omega)
      replace hmr := hmr.grown hch (fun q e hh => by injection e with e; unfold Dk at hh; omega)
      clear hch
      clear x9 f9 k9
      generalize World.setCell w6 _ _ = w7 at *
      have x9 : ∀ i, w7.cell? ⟨q9, i, none⟩ = #[.int .i64 z.k, .slice A5 z.r.length c5, .slice A6 z.m.length c6, .slice A7 z.s.length c7][i]? := k9n.cell
      have HMV : Hid (manyB d z = (M1 || decide (64 < z.s.length))) := Lib.hid (by rw [HMB.out, HBB.out, Bool.true_and])
      cases M1
      · have HMV2 : Hid (Value.bool (decide (64 < (z.s.length : Int))) = .bool (manyB d z)) := Lib.hid (by rw [HMV.out, Bool.false_or]; exact congrArg Value.bool (by rw [Bool.eq_iff_iff, decide_eq_true_eq, decide_eq_true_eq]; omega))
        go_wp2
        go_meet
        exact ⟨HMV2.out, ⟨hB, ka, kb, k4⟩, A7, c7, k9n, hc7, hr7, hr5, hmr⟩
      · have HMV2 : Hid (Value.bool true = .bool (manyB d z)) := Lib.hid (by rw [HMV.out]; rfl)
        go_wp2
        go_meet
        exact ⟨HMV2.out, ⟨hB, ka, kb, k4⟩, A7, c7, k9n, hc7, hr7, hr5, hmr⟩
  case rest =>
  obtain ⟨rfl, ⟨hB2, ka2, kb2, k42⟩, A7, c7, k92, hc7, hs7, hr52, hmr2⟩ := hcut
  clear hB ka kb k4 k9 hmr hr5
  have hB := hB2
  have k4 := k42
  have k9 := k92
  have hmr := hmr2
  have hr := hr52
  have hs := hs7
  clear hB2 ka2 kb2 k42 k92 hmr2 hr52 hs7
  generalize wc = w6 at *
  have HV := HSB.out
  have x9 := k9.cell
  have x4 := k4.cell
  have hf4 := k4.frozen
  have HRES : Hid (∀ w9 : World, RdB w9 (Dk w.heap.size ba) 2 A5 z.r.length (scells z.r) → RdB w9 (Dk w.heap.size ba) 2 A7 z.s.length (scells z.s) → MapsR w9 (Dk w.heap.size ba) A6 z.m → BoxV w9 (Dk w.heap.size ba) z (.agg #[.int .i64 z.k, .slice A5 z.r.length c5, .slice A6 z.m.length c6, .slice A7 z.s.length c7])) := Lib.hid (fun w9 yR yS yM => ⟨A5, c5, A6, c6, A7, c7, rfl, ⟨yR, yM, yS, hc5, hc6, hc7⟩⟩)
  have y0 := Blk.drew ((((k4.set_ 0 (.int .i64 z.k)).set_ 1 (.slice A5 z.r.length c5)).set_ 2 (.slice A6 z.m.length c6)).set_ 3 (.slice A7 z.s.length c7))
  have yB := below_grows ((((hB.setCell (p := ⟨w.heap.size + 2, 0, none⟩) (show w.heap.size ≤ w.heap.size + 2 by omega) (.int .i64 z.k)).setCell (p := ⟨w.heap.size + 2, 1, none⟩) (show w.heap.size ≤ w.heap.size + 2 by omega) (.slice A5 z.r.length c5)).setCell (p := ⟨w.heap.size + 2, 2, none⟩) (show w.heap.size ≤ w.heap.size + 2 by omega) (.slice A6 z.m.length c6)).setCell (p := ⟨w.heap.size + 2, 3, none⟩) (show w.heap.size ≤ w.heap.size + 2 by omega) (.slice A7 z.s.length c7)) (Nat.le_refl _) (Grows.drew' _)
  have yR := RdB.grows (RdB.grown hr (d_only_set (d_only_set (d_only_set (d_only_set (World.grownBy.refl _ (some (w.heap.size + 2))) 0 (.int .i64 z.k)) 1 (.slice A5 z.r.length c5)) 2 (.slice A6 z.m.length c6)) 3 (.slice A7 z.s.length c7)) (fun q e hh => by injection e with e; unfold Dk at hh; omega)) (Grows.drew' _)
  have yS := RdB.grows (RdB.grown hs (d_only_set (d_only_set (d_only_set (d_only_set (World.grownBy.refl _ (some (w.heap.size + 2))) 0 (.int .i64 z.k)) 1 (.slice A5 z.r.length c5)) 2 (.slice A6 z.m.length c6)) 3 (.slice A7 z.s.length c7)) (fun q e hh => by injection e with e; unfold Dk at hh; omega)) (Grows.drew' _)
  have yM := MapsR.grows (MapsR.grown hmr (d_only_set (d_only_set (d_only_set (d_only_set (World.grownBy.refl _ (some (w.heap.size + 2))) 0 (.int .i64 z.k)) 1 (.slice A5 z.r.length c5)) 2 (.slice A6 z.m.length c6)) 3 (.slice A7 z.s.length c7)) (fun q e hh => by injection e with e; unfold Dk at hh; omega)) (Grows.drew' _)
  have y6 := y0.cell
  clear k4 k9 hr hs hmr hB
  go_upto_region 19 with fail
  by_cases h1 : z.k = 0
  case pos =>
    have HE : Hid (someB z = false) := Lib.hid (by rw [HV, h1]; rfl)
    have dk : (z.k != 0) = false := by simpa using h1
    clear h1 HV
    go_region
    go_wp2
    refine bodyPost_ret (v := .tuple #[.agg #[.int .i64 z.k, .slice A5 z.r.length c5, .slice A6 z.m.length c6, .slice A7 z.s.length c7], .bool false, .bool (manyB d z)]) (by simp [results, Tryz.results98, go_sem, y6]) rfl ⟨⟨_, by rw [HE.out], HRES.out _ yR yS yM⟩, yB⟩
  have dk : (z.k != 0) = true := by simpa using h1
  clear h1
  by_cases h2 : 0 < z.m.length
  case neg =>
    have HE : Hid (someB z = false) := Lib.hid (by rw [HV, decide_eq_false h2]; simp)
    have dm1 : decide (0 < (z.m.length : Int)) = false := by simp only [decide_eq_false_iff_not]; omega
    have dm2 : decide (0 < z.m.length) = false := by simpa using h2
    clear h2 HV
    go_region
    go_wp2
    refine bodyPost_ret (v := .tuple #[.agg #[.int .i64 z.k, .slice A5 z.r.length c5, .slice A6 z.m.length c6, .slice A7 z.s.length c7], .bool false, .bool (manyB d z)]) (by simp [results, Tryz.results98, go_sem, y6]) rfl ⟨⟨_, by rw [HE.out], HRES.out _ yR yS yM⟩, yB⟩
  have dm1 : decide (0 < (z.m.length : Int)) = true := by simp only [decide_eq_true_eq]; omega
  have dm2 : decide (0 < z.m.length) = true := by simpa using h2
  clear h2
  by_cases h2 : 0 < z.r.length
  case neg =>
    have HE : Hid (someB z = false) := Lib.hid (by rw [HV, decide_eq_false h2]; simp)
    have dr1 : decide (0 < (z.r.length : Int)) = false := by simp only [decide_eq_false_iff_not]; omega
    have dr2 : decide (0 < z.r.length) = false := by simpa using h2
    clear h2 HV
    go_region
    go_wp2
    refine bodyPost_ret (v := .tuple #[.agg #[.int .i64 z.k, .slice A5 z.r.length c5, .slice A6 z.m.length c6, .slice A7 z.s.length c7], .bool false, .bool (manyB d z)]) (by simp [results, Tryz.results98, go_sem, y6]) rfl ⟨⟨_, by rw [HE.out], HRES.out _ yR yS yM⟩, yB⟩
  have dr1 : decide (0 < (z.r.length : Int)) = true := by simp only [decide_eq_true_eq]; omega
  have dr2 : decide (0 < z.r.length) = true := by simpa using h2
  clear h2
  by_cases h2 : 0 < z.s.length
  case neg =>
    have HE : Hid (someB z = false) := Lib.hid (by rw [HV, decide_eq_false h2]; simp)
    have ds1 : decide (0 < (z.s.length : Int)) = false := by simp only [decide_eq_false_iff_not]; omega
    have ds2 : decide (0 < z.s.length) = false := by simpa using h2
    clear h2 HV
    go_region
    go_wp2
    refine bodyPost_ret (v := .tuple #[.agg #[.int .i64 z.k, .slice A5 z.r.length c5, .slice A6 z.m.length c6, .slice A7 z.s.length c7], .bool false, .bool (manyB d z)]) (by simp [results, Tryz.results98, go_sem, y6]) rfl ⟨⟨_, by rw [HE.out], HRES.out _ yR yS yM⟩, yB⟩
  have ds1 : decide (0 < (z.s.length : Int)) = true := by simp only [decide_eq_true_eq]; omega
  have ds2 : decide (0 < z.s.length) = true := by simpa using h2
  clear h2
  have HE : Hid (someB z = true) := Lib.hid (by rw [HV, dk, dm2, dr2, ds2]; rfl)
  clear HV
  go_region
  go_wp2
  refine bodyPost_ret (v := .tuple #[.agg #[.int .i64 z.k, .slice A5 z.r.length c5, .slice A6 z.m.length c6, .slice A7 z.s.length c7], .bool true, .bool (manyB d z)]) (by simp [results, Tryz.results98, go_sem, y6]) rfl ⟨⟨_, by rw [HE.out], HRES.out _ yR yS yM⟩, yB⟩
end Go.Proofs.YtnbdpnlepcjmmaaGreat

namespace Go.Proofs.YtnbdpnlepcjmmaaGreat
open Go.RowKit
theorem okb_dims {x y : Bx} {d : Int} (hx : OKB x) : OKB (dimsF d x y) := by
  obtain ⟨h1, h2, h3, h4⟩ := hx
  have hb : ∀ u v : List Sp, (interF (spansF u) (spansF v)).length ≤ 4096 := fun u v => Nat.le_trans (interF_len _ _) (Nat.le_trans (Nat.mul_le_mul (spansF_len u) (spansF_len v)) (by omega))
  refine ⟨?_, ?_, ?_, fun m hm => ?_⟩
  · show (if bitZ d 2 = true then interF (spansF x.r) (spansF y.r) else x.r).length ≤ 1000000
    split
    · have := hb x.r y.r
      omega
    · exact h1
  · show (if bitZ d 8 = true then interF (spansF x.s) (spansF y.s) else x.s).length ≤ 1000000
    split
    · have := hb x.s y.s
      omega
    · exact h2
  · show (if bitZ d 4 = true then x.m.filter (fun z => decide (z ∈ y.m)) else x.m).length ≤ 1000000
    split
    · have := List.length_filter_le (fun z => decide (z ∈ y.m)) x.m
      omega
    · exact h3
  · have hm : m ∈ (if bitZ d 4 = true then x.m.filter (fun z => decide (z ∈ y.m)) else x.m) := hm
    split at hm
    · exact h4 m (List.mem_filter.1 hm).1
    · exact h4 m hm
theorem product_lim {d : Int} {a b : List Bx} (h : prodF d a b = none) : productF d a b = ([], 3) := by unfold productF; rw [h]
theorem product_ok {d : Int} {a b out : List Bx} (h : prodF d a b = some out) : productF d a b = reduceF out := by unfold productF; rw [h]
set_option maxHeartbeats 64000000 in
set_option maxRecDepth 10000 in
theorem rproduct_any {ba bb : Nat → Prop} {A B : Option Addr} {c d n m : Nat} {a b : List Bx} {w : World} (dd : Int) (hn : n = a.length) (hm : m = b.length) (ha : Bxs w ba A a) (hb : Bxs w bb B b) (hla : a.length ≤ 100000) (hlb : b.length ≤ 100000) (hoa : ∀ x ∈ a, OKB x) (hob : ∀ x ∈ b, OKB x) :
    Calls Tryz.prog 70 #[.slice A n c, .slice B m d, .int .i64 dd] w fun e w' => (∃ v, e = .returned (.tuple #[v, .int .i64 (productF dd a b).2]) ∧ OwnBq w' w.heap.size (fun _ => True) v (productF dd a b).1) ∧ Grows w w' := by
  subst hn hm
  have HOA := Lib.hid hoa
  have HOB := Lib.hid hob
  clear hoa hob
  replace ha := ha.under
  have hB := Below.refl w.heap.size w
  go_enter Tryz.func70, Tryz.ntmps70
  go_wp2_with fail
  go_loopw [8, 18] (fun v i wr => ∃ (k : Nat) (out : List Bx), k ≤ a.length ∧ i = .int .i64 k ∧ Hid ((a.take k).foldl (prodRow dd b) (some []) = some out) ∧ Hid (∀ z ∈ out, OKB z) ∧ out.length ≤ 64 ∧ OwnBq wr w.heap.size (fun _ => True) v out ∧ Below w.heap.size w wr) (fun _ i _ => a.length - (intOf i).toNat)
  case atStart => exact ⟨0, [], by omega, rfl, Lib.hid rfl, Lib.hid (fun z hz => by cases hz), by simp, OwnBq.nil, hB⟩
  case round =>
    clear hB
    obtain ⟨k, out0, hk, rfl, HK, HOO, hol, hw, hB⟩ := hrel
    by_cases hlt : k < a.length
    · obtain ⟨ad, x, A1, c1, A2, c2, A3, c3, e1, had, hx, hpx, q0, q1, q2, q3⟩ := ha.elemB hB hlt
      subst e1
      have HX := Lib.hid hx
      have hox := HOA.out x (List.mem_of_getElem? hx)
      clear hx
      have k8 := Blk.new wr 48 #[.int .i64 x.k, .slice A1 x.r.length c1, .slice A2 x.m.length c2, .slice A3 x.s.length c3]
      have hne := fun e => Nat.lt_irrefl _ (hw.lt _ e).2
      have hq := (Below.refl wr.heap.size wr).alloc (Nat.le_refl _) (Obj.cells #[.int .i64 x.k, .slice A1 x.r.length c1, .slice A2 x.m.length c2, .slice A3 x.s.length c3] 48)
      go_upto_region 5 with fail
      replace hB := below_grows hB (Nat.le_refl _) hq
      replace hw := hw.grows hq
      clear hq q0 q1 q2 q3
      generalize World.alloc wr _ = w5 at *
      generalize wr.heap.size = G8 at *
      have hB5 := hB
      clear hB
      go_wp2_with fail
      go_loopw [8, 24] (fun v i wq => ∃ (j : Nat) (out : List Bx), j ≤ b.length ∧ i = .int .i64 j ∧ Hid ((b.take j).foldl (prodStep dd x) (some out0) = some out) ∧ Hid (∀ z ∈ out, OKB z) ∧ out.length ≤ 64 ∧ OwnBq wq w.heap.size (fun _ => True) v out ∧ v.ownBlock ≠ some G8 ∧ Blk wq G8 48 #[.int .i64 x.k, .slice A1 x.r.length c1, .slice A2 x.m.length c2, .slice A3 x.s.length c3] ∧ Below w.heap.size w wq) (fun _ i _ => b.length - (intOf i).toNat)
      case atStart => exact ⟨0, out0, by omega, rfl, Lib.hid rfl, HOO, hol, hw, hne, k8, hB5⟩
      case round =>
        clear hw k8 hB5 HOO hol hne
        obtain ⟨j, out, hj, rfl, HJ, HOO, hol, hw, hne, k8, hB⟩ := hrel
        by_cases hjt : j < b.length
        · obtain ⟨ad2, y, B1, d1, B2, d2, B3, d3, e2, had2, hy, hpy, q0, q1, q2, q3⟩ := hb.elemB hB hjt
          subst e2
          have HY := Lib.hid hy
          have hoy := HOB.out y (List.mem_of_getElem? hy)
          clear hy
          have k10 := Blk.new wr 48 #[.int .i64 y.k, .slice B1 y.r.length d1, .slice B2 y.m.length d2, .slice B3 y.s.length d3]
          have hq := (Below.refl wr.heap.size wr).alloc (Nat.le_refl _) (Obj.cells #[.int .i64 y.k, .slice B1 y.r.length d1, .slice B2 y.m.length d2, .slice B3 y.s.length d3] 48)
          go_upto_region 8 with fail
          replace hB := below_grows hB (Nat.le_refl _) hq
          replace hw := hw.grows hq
          replace k8 := k8.grows hq
          clear hq q0 q1 q2 q3
          generalize World.alloc wr _ = w6 at *
          generalize wr.heap.size = G10 at *
          have x8 := k8.cell
          have x10 := k10.cell
          have hown := hw.lt
          go_wp2_with fail
          refine (rdims_any (hpx.grows hB) (hpy.grows hB) hox hoy dd).mono ?_
          have hoz := okb_dims (y := y) (d := dd) hox
          have HPS : Hid (someB (dimsF dd x y) = false → prodStep dd x (some out) y = some out) := Lib.hid prodStep_no
          have HPY : Hid (someB (dimsF dd x y) = true → manyB dd (dimsF dd x y) = false → out.length < 64 → prodStep dd x (some out) y = some (out ++ [dimsF dd x y])) := Lib.hid prodStep_yes
          have HPN : Hid (someB (dimsF dd x y) = true → (manyB dd (dimsF dd x y) = true ∨ 64 ≤ out.length) → prodStep dd x (some out) y = none) := Lib.hid prodStep_stop
          generalize dimsF dd x y = z at *
          rintro e w7 ⟨⟨v2, rfl, E1, f1, E2, f2, E3, f3, rfl, hpz⟩, hq⟩
          have hs6 := hB.size
          replace hpz : BoxP w7 (Aq (fun _ => True) _) z E1 f1 E2 f2 E3 f3 := hpz.mono fun k hk => ⟨trivial, fun e => by have h9 := hown _ e; unfold Dk Under at hk; omega⟩
          replace hB := below_grows hB (Nat.le_refl _) hq
          replace hw := hw.grows hq
          replace k8 := k8.grows hq
          clear hq x8 x10 k10 hown hs6
          have k13 := Blk.new w7 48 #[.int .i64 z.k, .slice E1 z.r.length f1, .slice E2 z.m.length f2, .slice E3 z.s.length f3]
          have hq := (Below.refl w7.heap.size w7).alloc (Nat.le_refl _) (Obj.cells #[.int .i64 z.k, .slice E1 z.r.length f1, .slice E2 z.m.length f2, .slice E3 z.s.length f3] 48)
          replace hB := below_grows hB (Nat.le_refl _) hq
          replace hw := hw.grows hq
          replace k8 := k8.grows hq
          replace hpz := hpz.grows hq
          go_upto_region 9 with fail
          clear hq
          generalize World.alloc w7 _ = w8 at *
          generalize w7.heap.size = G13 at *
          cases hs : someB z
          case false =>
            have HN : Hid ((b.take (j + 1)).foldl (prodStep dd x) (some out0) = some out) := Lib.hid (by rw [fold_next HY.out, HJ.out]; exact HPS.out hs)
            clear hs k13 hpz
            go_wp2
            go_roundw
            case rel => exact ⟨j + 1, out, by omega, by go_num, HN, HOO, hol, hw, hne, k8, hB⟩
            case measure => simp [intOf]; omega
          have HS := Lib.hid hs
          clear hs
          obtain ⟨A9, c9, rfl, hc9, -⟩ := hw.read
          cases hm : manyB dd z
          case true =>
            have HE : Hid (productF dd a b = ([], 3)) := Lib.hid (product_lim (prod_stop HX.out HY.out HK.out HJ.out (HPN.out HS.out (.inl hm))))
            clear hm k13 hpz
            go_wp2
            refine bodyPost_ret (v := .tuple #[.slice none 0 0, .int .i64 3]) (by simp [results, Tryz.results70, go_sem]) rfl ?_
            rw [HE.out]
            exact ⟨⟨_, rfl, OwnBq.nil⟩, hB⟩
          have HM := Lib.hid hm
          clear hm
          by_cases h1 : 64 ≤ out.length
          case pos =>
            have dq : decide ((64 : Int) ≤ (out.length : Int)) = true := by simp only [decide_eq_true_eq]; omega
            have dq2 : decide (64 ≤ out.length) = true := by simpa using h1
            have HE : Hid (productF dd a b = ([], 3)) := Lib.hid (product_lim (prod_stop HX.out HY.out HK.out HJ.out (HPN.out HS.out (.inr h1))))
            clear h1 k13 hpz
            go_wp2
            refine bodyPost_ret (v := .tuple #[.slice none 0 0, .int .i64 3]) (by simp [results, Tryz.results70, go_sem]) rfl ?_
            rw [HE.out]
            exact ⟨⟨_, rfl, OwnBq.nil⟩, hB⟩
          have dq : decide ((64 : Int) ≤ (out.length : Int)) = false := by simp only [decide_eq_false_iff_not]; omega
          have dq2 : decide (64 ≤ out.length) = false := by simpa using h1
          have HN : Hid ((b.take (j + 1)).foldl (prodStep dd x) (some out0) = some (out ++ [z])) := Lib.hid (by rw [fold_next HY.out, HJ.out]; exact HPY.out HS.out HM.out (by omega))
          have hol2 : (out ++ [z]).length ≤ 64 := by rw [List.length_append, List.length_singleton]; omega
          have HOO2 := Lib.hid (okb_snoc HOO.out hoz)
          clear h1 HJ HPS HPY HPN
          have x13 := k13.cell
          go_upto_region 12 with fail
          refine wp_region_lit ?_
          iterate 3
            refine wpList_plain rfl (fun K hK => ?_)
            go_simp
            refine hK _ _ ?_
            clear hK K
          have hown := hw.lt
          have hL := bxs_lit hpz ⟨trivial, fun e => by have := (hown _ e).2; omega⟩
          have hq := (Below.refl w8.heap.size w8).alloc (Nat.le_refl _) (Obj.cells #[.int .i64 z.k, .slice E1 z.r.length f1, .slice E2 z.m.length f2, .slice E3 z.s.length f3] 48)
          replace hw := hw.grows hq
          replace hB := below_grows hB (Nat.le_refl _) hq
          replace k8 := k8.grows hq
          have hown3 := hw.lt
          clear hq hpz hown x13 k13
          refine wpList_append_boxesq rfl (.tmp 44) (.tmp 46) rfl (m := [z]) rfl rfl hw rfl hL (by simp only [List.length_singleton]; omega) hB.size ?_
          intro v5 w12 ho2 hgr hv5
          have hne2 : v5.ownBlock ≠ some G8 := by
            rcases hv5 with e | e
            · rw [e]; exact hne
            · rw [e]; intro e2; injection e2 with e2; have := k8.lt; omega
          replace hB := hB.grown hgr hB.size (fun q e => (hown3 q e).1)
          replace k8 := k8.grown hgr (fun e => hne e.symm)
          clear hown3 hgr hw hL
          generalize out ++ [z] = out2 at *
          go_wp2
          go_roundw
          case rel => exact ⟨j + 1, out2, by omega, by go_num, HN, HOO2, hol2, ho2, hne2, k8, hB⟩
          case measure => simp [intOf]; omega
        · have HN : Hid ((a.take (k + 1)).foldl (prodRow dd b) (some []) = some out) := Lib.hid (by rw [fold_next HX.out, HK.out]; have := HJ.out; rwa [List.take_of_length_le (by omega)] at this)
          go_wp2
          go_roundw
          case rel => exact ⟨k + 1, out, by omega, by go_num, HN, HOO, hol, hw, hB⟩
          case measure => simp [intOf]; omega
    · have HE : Hid (productF dd a b = reduceF out0) := Lib.hid (product_ok (by have := HK.out; rwa [List.take_of_length_le (by omega)] at this))
      obtain ⟨A9, c9, rfl, hc9, hxo⟩ := hw.read
      go_wp2_with fail
      refine (rreduce_any rfl hxo (by omega) HOO.out).mono ?_
      rintro e w3 ⟨⟨v, rfl, hw2⟩, hq2⟩
      have hs := hB.size
      replace hB := below_grows hB (Nat.le_refl _) hq2
      go_wp2
      refine bodyPost_ret (v := .tuple #[v, .int .i64 (reduceF out0).2]) (by simp [results, Tryz.results70, go_sem]) rfl ?_
      rw [HE.out]
      exact ⟨⟨_, rfl, hw2.lower hs (fun _ _ => trivial)⟩, hB⟩
set_option maxHeartbeats 16000000 in
set_option maxRecDepth 10000 in
theorem rinterl_any {ba bb : Nat → Prop} {A B : Option Addr} {c d n m : Nat} {a b : List Bx} {w : World} (hn : n = a.length) (hm : m = b.length) (ha : Bxs w ba A a) (hb : Bxs w bb B b) (hla : a.length ≤ 100000) (hlb : b.length ≤ 100000) (hoa : ∀ x ∈ a, OKB x) (hob : ∀ x ∈ b, OKB x) :
    Calls Tryz.prog 28 #[.slice A n c, .slice B m d] w fun e w' => (∃ v, e = .returned (.tuple #[v, .int .i64 (interR a b).2]) ∧ OwnBq w' w.heap.size (fun _ => True) v (interR a b).1) ∧ Grows w w' := by
  subst hn hm
  have HOA := Lib.hid hoa
  have HOB := Lib.hid hob
  clear hoa hob
  have hB := Below.refl w.heap.size w
  go_enter Tryz.func28, Tryz.ntmps28
  go_wp2_with fail
  refine (rvalidl_any A c ba a _ ha (by omega) HOA.out).mono ?_
  cases hv : validL a
  · have HE : Hid (interR a b = ([], 1)) := Lib.hid (if_neg (fun h => by rw [hv] at h; cases h.1))
    clear hv
    rintro e w2 ⟨rfl, hq⟩
    replace hB := below_grows hB (Nat.le_refl _) hq
    go_wp2
    refine bodyPost_ret (v := .tuple #[.slice none 0 0, .int .i64 1]) (by simp [results, Tryz.results28, go_sem]) rfl ?_
    rw [HE.out]
    exact ⟨⟨_, rfl, OwnBq.nil⟩, hB⟩
  have HVA := Lib.hid hv
  clear hv
  rintro e w2 ⟨rfl, hq⟩
  replace hB := below_grows hB (Nat.le_refl _) hq
  clear hq
  go_wp2_with fail
  refine (rvalidl_any B d bb b _ (hb.grows hB) (by omega) HOB.out).mono ?_
  cases hv : validL b
  · have HE : Hid (interR a b = ([], 1)) := Lib.hid (if_neg (fun h => by rw [hv] at h; cases h.2))
    clear hv
    rintro e w3 ⟨rfl, hq⟩
    replace hB := below_grows hB (Nat.le_refl _) hq
    go_wp2
    refine bodyPost_ret (v := .tuple #[.slice none 0 0, .int .i64 1]) (by simp [results, Tryz.results28, go_sem]) rfl ?_
    rw [HE.out]
    exact ⟨⟨_, rfl, OwnBq.nil⟩, hB⟩
  have HE : Hid (interR a b = productF 15 a b) := Lib.hid (if_pos ⟨HVA.out, hv⟩)
  clear hv
  rintro e w3 ⟨rfl, hq⟩
  replace hB := below_grows hB (Nat.le_refl _) hq
  clear hq
  go_wp2_with fail
  refine (rproduct_any 15 rfl rfl (ha.grows hB) (hb.grows hB) hla hlb HOA.out HOB.out).mono ?_
  rintro e w4 ⟨⟨v, rfl, hw2⟩, hq2⟩
  have hs := hB.size
  replace hB := below_grows hB (Nat.le_refl _) hq2
  generalize productF 15 a b = pf at *
  go_wp2
  refine bodyPost_ret (v := .tuple #[v, .int .i64 pf.2]) (by simp [results, Tryz.results28, go_sem]) rfl ?_
  rw [HE.out]
  exact ⟨⟨_, rfl, hw2.lower hs (fun _ h => h)⟩, hB⟩
end Go.Proofs.YtnbdpnlepcjmmaaGreat

namespace Go.Proofs.YtnbdpnlepcjmmaaGreat
open Go.RowKit
def rowM (n : Nat) : Nat → List Int
 | 0 => []
 | k + 1 => rowM n k ++ (if ones ((k + 1 : Nat) : Int) = (n : Int) then [((k + 1 : Nat) : Int)] else [])
def outM : Nat → List Int
 | 0 => []
 | n + 1 => outM n ++ rowM (n + 1) 15
theorem out_masks : outM 4 = masksL := by decide +kernel
theorem row_len (n : Nat) : ∀ k, (rowM n k).length ≤ k := by
 intro k
 induction k with
 | zero => exact Nat.le_refl _
 | succ k ih =>
  show (rowM n k ++ _).length ≤ _
  rw [List.length_append]
  split <;> simp <;> omega
theorem out_len : ∀ n, (outM n).length ≤ n * 15 := by
 intro n
 induction n with
 | zero => exact Nat.le_refl _
 | succ n ih =>
  show (outM n ++ _).length ≤ _
  rw [List.length_append]
  have := row_len (n + 1) 15
  omega
theorem mask_fin : ∀ s : Fin 16, (bits .andNot .i64 (s.val : Int) 15 == 0) = true ∧ 0 ≤ bits .and .i64 (s.val : Int) 1 ∧ bits .and .i64 (s.val : Int) 1 ≤ 1 ∧ 0 ≤ bits .and .i64 ((s.val : Int) / 2) 1 ∧ bits .and .i64 ((s.val : Int) / 2) 1 ≤ 1 ∧ 0 ≤ bits .and .i64 ((s.val : Int) / 4) 1 ∧ bits .and .i64 ((s.val : Int) / 4) 1 ≤ 1 ∧ 0 ≤ bits .and .i64 ((s.val : Int) / 8) 1 ∧ bits .and .i64 ((s.val : Int) / 8) 1 ≤ 1 ∧ bits .and .i64 (s.val : Int) 1 + bits .and .i64 ((s.val : Int) / 2) 1 + bits .and .i64 ((s.val : Int) / 4) 1 + bits .and .i64 ((s.val : Int) / 8) 1 = ones (s.val : Int) := by decide +kernel
theorem mask_at {s : Nat} (h : s ≤ 15) : (bits .andNot .i64 (s : Int) 15 == 0) = true ∧ 0 ≤ bits .and .i64 (s : Int) 1 ∧ bits .and .i64 (s : Int) 1 ≤ 1 ∧ 0 ≤ bits .and .i64 ((s : Int) / 2) 1 ∧ bits .and .i64 ((s : Int) / 2) 1 ≤ 1 ∧ 0 ≤ bits .and .i64 ((s : Int) / 4) 1 ∧ bits .and .i64 ((s : Int) / 4) 1 ≤ 1 ∧ 0 ≤ bits .and .i64 ((s : Int) / 8) 1 ∧ bits .and .i64 ((s : Int) / 8) 1 ≤ 1 ∧ bits .and .i64 (s : Int) 1 + bits .and .i64 ((s : Int) / 2) 1 + bits .and .i64 ((s : Int) / 4) 1 + bits .and .i64 ((s : Int) / 8) 1 = ones (s : Int) := mask_fin ⟨s, by omega⟩
set_option maxHeartbeats 16000000 in
set_option maxRecDepth 100000 in
theorem masks_any (w : World) :
 Calls Tryz.prog 97 #[.int .i64 15] w fun e w' => (∃ A c, e = .returned (.slice A masksL.length c) ∧ Ints w' A masksL) ∧ Grows w w' := by
 have hB := Below.refl w.heap.size w
 go_enter Tryz.func97, Tryz.ntmps97
 go_wp2_with fail
 go_loopw [3, 4] (fun v i wr => ∃ n z : Nat, z = n + 1 ∧ n ≤ 4 ∧ i = .int .i64 z ∧ OwnI wr w.heap.size v (outM n) ∧ Below w.heap.size w wr) (fun _ i _ => 5 - (intOf i).toNat)
 case atStart => exact ⟨0, 1, rfl, by omega, rfl, ownI_nil _ _, hB⟩
 case round =>
  clear hB
  obtain ⟨n, z, hz, hn, rfl, ho, hB⟩ := hrel
  by_cases hlt : n < 4
  ·have d1 : decide ((z : Int) ≤ 4) = true := by simp only [decide_eq_true_eq]; omega
   have hwn : IntKind.i64.wrap ((z : Int) + 1) = ((z + 1 : Nat) : Int) := by rw [IntWalk.i64_in _ (by omega)]; rfl
   have hol := out_len n
   have hz5 : z ≤ 4 := by omega
   have HZ := Lib.hid hz
   clear hz hlt
   go_wp2_with fail
   go_loopw [3, 5] (fun v i wq => ∃ k s : Nat, s = k + 1 ∧ k ≤ 15 ∧ i = .int .i64 s ∧ OwnI wq w.heap.size v (outM n ++ rowM z k) ∧ Below w.heap.size w wq) (fun _ i _ => 16 - (intOf i).toNat)
   case atStart => exact ⟨0, 1, rfl, by omega, rfl, by rw [show rowM z 0 = [] from rfl, List.append_nil]; exact ho, hB⟩
   case round =>
    clear ho hB
    obtain ⟨k, s, hs, hk, rfl, ho, hB⟩ := hrel
    by_cases hkt : k < 15
    ·have d2 : decide ((s : Int) ≤ 15) = true := by simp only [decide_eq_true_eq]; omega
     have hws : IntKind.i64.wrap ((s : Int) + 1) = ((s + 1 : Nat) : Int) := by rw [IntWalk.i64_in _ (by omega)]; rfl
     obtain ⟨m1, a1, a2, a3, a4, a5, a6, a7, a8, m2⟩ := mask_at (s := s) (by omega)
     have hrl := row_len z k
     have HR : Hid (rowM z (k + 1) = rowM z k ++ (if ones ((k + 1 : Nat) : Int) = (z : Int) then [((k + 1 : Nat) : Int)] else [])) := Lib.hid rfl
     rw [← hs] at HR
     have HS := Lib.hid hs
     have HN : s ≤ 15 := by omega
     have HL : (outM n ++ rowM z k).length ≤ 1000 := by rw [List.length_append]; omega
     have w1 : wrap64 (bits .and .i64 (s : Int) 1 + bits .and .i64 ((s : Int) / 2) 1) = bits .and .i64 (s : Int) 1 + bits .and .i64 ((s : Int) / 2) 1 := IntWalk.wrap64_in _ (by omega)
     have w2 : wrap64 (bits .and .i64 (s : Int) 1 + bits .and .i64 ((s : Int) / 2) 1 + bits .and .i64 ((s : Int) / 4) 1) = bits .and .i64 (s : Int) 1 + bits .and .i64 ((s : Int) / 2) 1 + bits .and .i64 ((s : Int) / 4) 1 := IntWalk.wrap64_in _ (by omega)
     have w3 : wrap64 (bits .and .i64 (s : Int) 1 + bits .and .i64 ((s : Int) / 2) 1 + bits .and .i64 ((s : Int) / 4) 1 + bits .and .i64 ((s : Int) / 8) 1) = ones (s : Int) := (IntWalk.wrap64_in _ (by omega)).trans m2
     clear a1 a2 a3 a4 a5 a6 a7 a8 m2 hs hrl hol hkt
     by_cases hoz : ones (s : Int) = (z : Int)
     ·have e3 : (ones (s : Int) == (z : Int)) = true := by simpa using hoz
      have HQ : Hid (outM n ++ rowM z s = outM n ++ rowM z k ++ [(s : Int)]) := Lib.hid (by rw [HR.out, if_pos hoz, List.append_assoc])
      clear hoz HR
      generalize ho1 : outM n ++ rowM z k = q at *
      clear ho1
      go_upto_region 9 with fail
      refine wp_region_lit ?_
      iterate 2
       refine wpList_plain rfl (fun K hK => ?_)
       go_simp
       refine hK _ _ ?_
       clear hK K
      have hr := ints_lits wr [(s : Int)] #[.int .i64 (s : Int)] 3 rfl
      have hq := (Below.refl wr.heap.size wr).alloc (Nat.le_refl _) (Obj.cells #[.int .i64 (s : Int)] 3)
      iterate 1
       refine wpList_plain rfl (fun K hK => ?_)
       go_simp
       refine hK _ _ ?_
       clear hK K
      have ho1 := ho.grows hq
      refine wpList_append_int rfl (.tmp 36) (.tmp 38) rfl (l := q) (m := [(s : Int)]) rfl rfl ho1 rfl hr (by simp only [List.length_cons, List.length_nil]; omega) (Nat.le_trans hB.size hq.size) ?_
      intro v5 w12 ho2 hgr _
      have hB2 := ho1.below (below_grows hB (Nat.le_refl _) hq) hgr (Nat.le_trans hB.size hq.size)
      clear hq hgr ho ho1 hB hr
      rw [← HQ.out] at ho2
      go_wp2
      go_roundw
      case rel => exact ⟨s, s + 1, rfl, HN, by go_num, ho2, hB2⟩
      case measure => simp [intOf]; omega
     ·have e3 : (ones (s : Int) == (z : Int)) = false := by simpa using hoz
      have HQ : Hid (outM n ++ rowM z s = outM n ++ rowM z k) := Lib.hid (by rw [HR.out, if_neg hoz, List.append_nil])
      clear hoz HR
      rw [← HQ.out] at ho
      go_wp2
      go_roundw
      case rel => exact ⟨s, s + 1, rfl, HN, by go_num, ho, hB⟩
      case measure => simp [intOf]; omega
    ·obtain rfl : k = 15 := by omega
     subst hs
     have HQ : Hid (outM z = outM n ++ rowM z 15) := Lib.hid (by rw [HZ.out]; rfl)
     rw [← HQ.out] at ho
     clear hol
     go_wp2
     go_roundw
     case rel => exact ⟨z, z + 1, rfl, hz5, by go_num, ho, hB⟩
     case measure => simp [intOf]; omega
  ·obtain rfl : n = 4 := by omega
   subst hz
   rw [out_masks] at ho
   obtain ⟨A, c, rfl, hc, hi⟩ := ho.read
   go_wp2
   go_ret
   exact ⟨⟨A, c, rfl, hi⟩, hB⟩
end Go.Proofs.YtnbdpnlepcjmmaaGreat

namespace Go.Proofs.YtnbdpnlepcjmmaaGreat
open Go.RowKit
theorem find_here {p : Int → Bool} {M : List Int} {k : Nat} {z : Int} (h : M[k]? = some z) (hb : ∀ y ∈ M.take k, p y = false) (hz : p z = true) : M.find? p = some z := by
 have hk := (List.getElem?_eq_some_iff.1 h).1
 have e : M = M.take k ++ (z :: M.drop (k + 1)) := by
  have h1 := (List.take_append_drop k M).symm
  rw [List.drop_eq_getElem_cons hk] at h1
  have h2 := (List.getElem?_eq_some_iff.1 h).2
  rw [h2] at h1
  exact h1
 have h1 : (M.take k).find? p = none := List.find?_eq_none.2 (fun y hy => by rw [hb y hy]; simp)
 rw [e, List.find?_append, h1, List.find?_cons, hz]
 rfl
theorem any_next {α : Type} {l : List α} {p : α → Bool} {k : Nat} {x : α} (h : l[k]? = some x) : (l.take (k + 1)).any p = ((l.take k).any p || p x) := by
 rw [take_snoc h, List.any_append, List.any_cons, List.any_nil, Bool.or_false]
set_option maxHeartbeats 64000000 in
set_option maxRecDepth 10000 in
theorem rapart_any {ba bb : Nat → Prop} {A B : Option Addr} {c d n m : Nat} {a b : List Bx} {w : World} (hn : n = a.length) (hm : m = b.length) (ha : Bxs w ba A a) (hb : Bxs w bb B b) (hla : a.length ≤ 100000) (hlb : b.length ≤ 100000) (hoa : ∀ x ∈ a, OKB x) (hob : ∀ x ∈ b, OKB x) :
 Calls Tryz.prog 55 #[.slice A n c, .slice B m d, .int .i64 15] w fun e w' => e = .returned (.int .i64 (apartZ a b)) ∧ Grows w w' := by
 subst hn hm
 have HOA := Lib.hid hoa
 have HOB := Lib.hid hob
 clear hoa hob
 have HAZ : Hid (apartZ a b = (masksL.find? fun s => !metD s a b).getD 0) := Lib.hid rfl
 have hml : masksL.length ≤ 15 := Nat.le_refl 15
 have hB := Below.refl w.heap.size w
 have HMC := Lib.hid masks_any
 go_enter Tryz.func55, Tryz.ntmps55
 go_wp2_with fail
 refine (HMC.out _).mono ?_
 clear HMC
 generalize masksL = M at *
 rintro e w1 ⟨⟨A4, c4, rfl, hi⟩, hq⟩
 replace hB := below_grows hB (Nat.le_refl _) hq
 clear hq
 have hB0 := hB
 clear hB
 go_wp2_with fail
 go_loopw [20] (fun i wr => ∃ k : Nat, k ≤ M.length ∧ i = .int .i64 k ∧ Hid (∀ s ∈ M.take k, (!metD s a b) = false) ∧ Grows w1 wr) (fun i _ => M.length - (intOf i).toNat)
 case atStart => exact ⟨0, by omega, rfl, Lib.hid (by simp), Below.refl _ _⟩
 case round =>
  obtain ⟨k, hk, rfl, HK, hg⟩ := hrel
  by_cases hlt : k < M.length
  ·obtain ⟨ad, dd, rfl, had, hx, q0⟩ := (hi.grows hg).at_ hlt
   have HD := Lib.hid hx
   have hB := below_grows hB0 (Nat.le_refl _) hg
   clear hx
   have HME : Hid (metD dd a b = a.any fun x => b.any fun y => someB (dimsF dd x y)) := Lib.hid rfl
   go_wp2_with fail
   clear q0
   have hg0 := hg
   clear hg
   go_loopw [9, 26] (fun v i wq => ∃ j : Nat, j ≤ a.length ∧ i = .int .i64 j ∧ v = .bool ((a.take j).any fun x => b.any fun y => someB (dimsF dd x y)) ∧ Grows w1 wq ∧ Below w.heap.size w wq) (fun _ i _ => a.length - (intOf i).toNat)
   case atStart => exact ⟨0, by omega, rfl, rfl, hg0, hB⟩
   case round =>
    clear hB
    obtain ⟨j, hj, rfl, rfl, hg, hB⟩ := hrel
    by_cases hjt : j < a.length
    ·obtain ⟨ad2, x, A1, c1, A2, c2, A3, c3, e1, had2, hx, hpx, q0, q1, q2, q3⟩ := ha.elemB hB hjt
     subst e1
     have HX := Lib.hid hx
     have hox := HOA.out x (List.mem_of_getElem? hx)
     have HNX : Hid (((a.take (j + 1)).any fun x => b.any fun y => someB (dimsF dd x y)) = (((a.take j).any fun x => b.any fun y => someB (dimsF dd x y)) || (b.any fun y => someB (dimsF dd x y)))) := Lib.hid (any_next hx)
     generalize ((a.take j).any fun x => b.any fun y => someB (dimsF dd x y)) = v0 at *
     clear hx
     have k8 := Blk.new wr 48 #[.int .i64 x.k, .slice A1 x.r.length c1, .slice A2 x.m.length c2, .slice A3 x.s.length c3]
     have hq := (Below.refl wr.heap.size wr).alloc (Nat.le_refl _) (Obj.cells #[.int .i64 x.k, .slice A1 x.r.length c1, .slice A2 x.m.length c2, .slice A3 x.s.length c3] 48)
     go_upto_region 8 with fail
     replace hB := below_grows hB (Nat.le_refl _) hq
     replace hg := below_grows hg (Nat.le_refl _) hq
     clear hq q0 q1 q2 q3
     generalize World.alloc wr _ = w5 at *
     generalize wr.heap.size = G8 at *
     have hB5 := hB
     have hg5 := hg
     clear hB hg
     go_wp2_with fail
     go_loopw [9, 32] (fun v i wq => ∃ h : Nat, h ≤ b.length ∧ i = .int .i64 h ∧ v = .bool (v0 || (b.take h).any fun y => someB (dimsF dd x y)) ∧ Blk wq G8 48 #[.int .i64 x.k, .slice A1 x.r.length c1, .slice A2 x.m.length c2, .slice A3 x.s.length c3] ∧ Grows w1 wq ∧ Below w.heap.size w wq) (fun _ i _ => b.length - (intOf i).toNat)
     case atStart => exact ⟨0, by omega, rfl, by simp, k8, hg5, hB5⟩
     case round =>
      clear k8 hB5 hg5
      obtain ⟨h, hh, rfl, rfl, k8, hg, hB⟩ := hrel
      by_cases hht : h < b.length
      ·obtain ⟨ad3, y, B1, d1, B2, d2, B3, d3, e2, had3, hy, hpy, q0, q1, q2, q3⟩ := hb.elemB hB hht
       subst e2
       have hoy := HOB.out y (List.mem_of_getElem? hy)
       have HNY : Hid (((b.take (h + 1)).any fun y => someB (dimsF dd x y)) = (((b.take h).any fun y => someB (dimsF dd x y)) || someB (dimsF dd x y))) := Lib.hid (any_next hy)
       generalize ((b.take h).any fun y => someB (dimsF dd x y)) = v1 at *
       clear hy
       have l8 := k8.lt
       have k10 := Blk.new wr 48 #[.int .i64 y.k, .slice B1 y.r.length d1, .slice B2 y.m.length d2, .slice B3 y.s.length d3]
       have hq := (Below.refl wr.heap.size wr).alloc (Nat.le_refl _) (Obj.cells #[.int .i64 y.k, .slice B1 y.r.length d1, .slice B2 y.m.length d2, .slice B3 y.s.length d3] 48)
       go_upto_region 11 with fail
       replace hB := below_grows hB (Nat.le_refl _) hq
       replace hg := below_grows hg (Nat.le_refl _) hq
       replace k8 := k8.grows hq
       clear hq q0 q1 q2 q3
       generalize World.alloc wr _ = w6 at *
       generalize wr.heap.size = G10 at *
       have x8 := k8.cell
       have x10 := k10.cell
       go_wp2_with fail
       refine (rdims_any (hpx.grows hB) (hpy.grows hB) hox hoy dd).mono ?_
       rintro e w7 ⟨⟨v, rfl, ⟨E1, f1, E2, f2, E3, f3, rfl, -⟩⟩, hq⟩
       replace hB := below_grows hB (Nat.le_refl _) hq
       replace hg := below_grows hg (Nat.le_refl _) hq
       replace k8 := k8.grows hq
       clear hq x8 x10 k10
       generalize dimsF dd x y = z at *
       have hq := (Below.refl w7.heap.size w7).alloc (Nat.le_refl _) (Obj.cells #[.int .i64 z.k, .slice E1 z.r.length f1, .slice E2 z.m.length f2, .slice E3 z.s.length f3] 48)
       go_upto_region 12 with fail
       replace hB := below_grows hB (Nat.le_refl _) hq
       replace hg := below_grows hg (Nat.le_refl _) hq
       replace k8 := k8.grows hq
       clear hq
       generalize World.alloc w7 _ = w8 at *
       generalize hsv : someB z = sv at *
       have HN : Hid ((v0 || v1 || sv) = (v0 || ((b.take (h + 1)).any fun y => someB (dimsF dd x y)))) := Lib.hid (by rw [HNY.out, Bool.or_assoc])
       generalize hvv : (v0 || v1) = vv at *
       clear hsv hvv HNY
       cases vv
       ·rw [Bool.false_or] at HN
        go_wp2
        go_roundw
        case rel => exact ⟨h + 1, by omega, by go_num, by rw [HN.out], k8, hg, hB⟩
        case measure => simp [intOf]; omega
       ·rw [Bool.true_or] at HN
        go_wp2
        go_roundw
        case rel => exact ⟨h + 1, by omega, by go_num, by rw [← HN.out], k8, hg, hB⟩
        case measure => simp [intOf]; omega
      ·rw [List.take_of_length_le (by omega), ← HNX.out]
       go_wp2
       go_roundw
       case rel => exact ⟨j + 1, by omega, by go_num, rfl, hg, hB⟩
       case measure => simp [intOf]; omega
    ·rw [List.take_of_length_le (by omega), ← HME.out]
     cases hv : metD dd a b
     ·have HE : Hid (apartZ a b = dd) := Lib.hid (by rw [HAZ.out, find_here HD.out HK.out (by rw [hv]; rfl)]; rfl)
      clear hv
      go_wp2
      go_ret
      rw [HE.out]
      exact ⟨rfl, hB⟩
     ·have HN : Hid (∀ s ∈ M.take (k + 1), (!metD s a b) = false) := Lib.hid (by
       rw [take_snoc HD.out]
       intro s hs
       rcases List.mem_append.1 hs with hs | hs
       ·exact HK.out s hs
       ·simp only [List.mem_singleton] at hs
        subst hs
        rw [hv]
        rfl)
      clear hv
      go_wp2
      go_roundw
      case rel => exact ⟨k + 1, by omega, by go_num, HN, hg⟩
      case measure => simp [intOf]; omega
  ·have HE : Hid (apartZ a b = 0) := Lib.hid (by
    rw [HAZ.out, List.find?_eq_none.2 (fun s hs => by rw [HK.out s (by rwa [List.take_of_length_le (by omega)])]; simp)]
    rfl)
   go_wp2
   go_ret
   rw [HE.out]
   exact ⟨rfl, below_grows hB0 (Nat.le_refl _) hg⟩
set_option maxHeartbeats 16000000 in
theorem rblame_any {base bb : Nat → Prop} {A B : Option Addr} {c d : Nat} {l m : List Bx} {w : World} (h : Bxs w base A l) (hm : Bxs w bb B m) (hl : l.length ≤ 1000000) (hl2 : m.length ≤ 1000000) (hc : l.length ≤ c) (hd : m.length ≤ d) (ho : ∀ b ∈ l, OKB b) (ho2 : ∀ b ∈ m, OKB b) :
 Calls Tryz.prog 19 #[.slice A l.length c, .slice B m.length d] w fun e w' => e = .returned (.int .i64 (blameR l m)) ∧ Grows w w' := by
 have HO := Lib.hid ho
 have HO2 := Lib.hid ho2
 clear ho ho2
 have HF : Hid (blameR l m = if boxesF l = [] ∨ boxesF m = [] then 15 else apartZ (boxesF l) (boxesF m)) := Lib.hid rfl
 have hB := Below.refl w.heap.size w
 go_enter Tryz.func19, Tryz.ntmps19
 go_wp2_with fail
 refine (rlist_any A c base l _ h hl HO.out hc).mono ?_
 rintro e w1 ⟨⟨A1, c1, rfl, hc1, hx⟩, hq⟩
 replace hB := below_grows hB (Nat.le_refl _) hq
 replace hx := hx.grows hq
 replace hm := hm.grows hq
 clear hq h
 go_wp2_with fail
 refine (rlist_any B d bb m _ hm hl2 HO2.out hd).mono ?_
 rintro e w2 ⟨⟨B1, d1, rfl, hd1, hy⟩, hq⟩
 replace hB := below_grows hB (Nat.le_refl _) hq
 replace hx := hx.grows hq
 replace hy := hy.grows hq
 clear hq hm
 have HL := Lib.hid (boxes_ok HO.out)
 have HL2 := Lib.hid (boxes_ok HO2.out)
 have hbl := boxes_len l
 have hbm := boxes_len m
 generalize boxesF l = p at *
 generalize boxesF m = q at *
 by_cases h1 : p.length = 0
 ·have HE : Hid (blameR l m = 15) := Lib.hid (by rw [HF.out, if_pos (.inl (List.eq_nil_of_length_eq_zero h1))])
  have e1 : ((p.length : Int) == 0) = true := by simp only [beq_iff_eq]; omega
  clear h1
  go_wp2
  go_ret
  rw [HE.out]
  exact ⟨rfl, hB⟩
 have e1 : ((p.length : Int) == 0) = false := by simp only [beq_eq_false_iff_ne, ne_eq]; omega
 by_cases h2 : q.length = 0
 ·have HE : Hid (blameR l m = 15) := Lib.hid (by rw [HF.out, if_pos (.inr (List.eq_nil_of_length_eq_zero h2))])
  have e2 : ((q.length : Int) == 0) = true := by simp only [beq_iff_eq]; omega
  clear h1 h2
  go_wp2
  go_ret
  rw [HE.out]
  exact ⟨rfl, hB⟩
 have e2 : ((q.length : Int) == 0) = false := by simp only [beq_eq_false_iff_ne, ne_eq]; omega
 have HE : Hid (blameR l m = apartZ p q) := Lib.hid (by
  rw [HF.out, if_neg]
  rintro (h | h)
  ·exact h1 (by rw [h]; rfl)
  ·exact h2 (by rw [h]; rfl))
 clear h1 h2
 go_wp2_with fail
 refine (rapart_any (c := c1) (d := d1) rfl rfl hx hy (by omega) (by omega) HL.out HL2.out).mono ?_
 rintro e w3 ⟨rfl, hq⟩
 replace hB := below_grows hB (Nat.le_refl _) hq
 clear hq
 generalize hz : apartZ p q = z at *
 clear hz
 go_wp2
 go_ret
 rw [HE.out]
 exact ⟨rfl, hB⟩
end Go.Proofs.YtnbdpnlepcjmmaaGreat

namespace Go.Proofs.YtnbdpnlepcjmmaaGreat
open Go.ChangeShapes Go.WideShapes Go.ChangeAt Go.RowKit
theorem okc_best {f : Ch} {l : List Bx} (h : ∀ b ∈ l, OKB b) : OKC (bestL (bestR f) f l).1 := by
  unfold bestL
  have key : ∀ (m : List Bx) (s : Ch × Bool), (∀ b ∈ m, OKB b) → OKC s.1 → OKC (m.foldl (bestStep (bestR f) f) s).1 := by
    intro m
    induction m with
    | nil => exact fun _ _ h => h
    | cons b m ih =>
      intro s hm hs
      rw [List.foldl_cons]
      refine ih _ (fun x hx => hm x (List.mem_cons_of_mem _ hx)) ?_
      unfold bestStep
      split
      · exact okc_bestR (hm b (List.mem_cons_self ..))
      · exact hs
  exact key _ _ (boxes_ok h) okc_zero
namespace OfferChooses
set_option maxHeartbeats 64000000 in
set_option maxRecDepth 10000 in
theorem walk (A0 : Option Addr) (c0 : Nat) (l : List Bx) (x : Ch) (I : Option Addr) (ci : Nat) (y : Ch) (J : Option Addr) (cj : Nat) (A : Option Addr) (cs : Nat) (sd : List Int) (w : World) (hxl : Bxs w (fun _ => True) A0 l) (hll : l.length ≤ 9223372036854775807) (hc0 : l.length ≤ c0) (hlim : ∀ b ∈ l, LimB b ∧ I64 b.k) (hix : InB w (fun _ => True) I x.m) (hxm : x.m.length ≤ 9223372036854775807) (hci : x.m.length ≤ ci) (hxr : I64 x.r) (hxs : I64 x.s) (hiy : InB w (fun _ => True) J y.m) (hym : y.m.length ≤ 9223372036854775807) (hcj : y.m.length ≤ cj) (hyr : I64 y.r) (hys : I64 y.s)
    (h0 : Reads w w.heap.size 1 A sd.length (sd.map (Value.int .u8))) (hc : sd.length ≤ cs) (hl : sd.length ≤ 9223372036854775807) (hwf : ∀ x ∈ sd, 0 ≤ x ∧ x ≤ 255) :
    Calls Tryz.prog 3 #[.slice A0 l.length c0, .agg #[.int .i64 x.k, .int .i64 x.r, .slice I x.m.length ci, .int .i64 x.s], .agg #[.int .i64 y.k, .int .i64 y.r, .slice J y.m.length cj, .int .i64 y.s], .slice A sd.length cs] w fun e w' => e = .returned (.bool true) ∧ Grows w w' := by
  have HLM := Lib.hid (fun y hy => (hlim y hy).1)
  have HLI := Lib.hid (fun y hy => (hlim y hy).2)
  clear hlim
  have k5 := ((Blk.new w 27 #[.int .i64 x.k, .int .i64 x.r, .slice I x.m.length ci, .int .i64 x.s]).alloc (Obj.cells #[.int .i64 y.k, .int .i64 y.r, .slice J y.m.length cj, .int .i64 y.s] 27))
  have k6 := (Blk.new (w.alloc (Obj.cells #[.int .i64 x.k, .int .i64 x.r, .slice I x.m.length ci, .int .i64 x.s] 27)) 27 #[.int .i64 y.k, .int .i64 y.r, .slice J y.m.length cj, .int .i64 y.s])
  have hB := (((Below.refl w.heap.size w).alloc (Nat.le_refl _) (Obj.cells #[.int .i64 x.k, .int .i64 x.r, .slice I x.m.length ci, .int .i64 x.s] 27)).alloc (by simp) (Obj.cells #[.int .i64 y.k, .int .i64 y.r, .slice J y.m.length cj, .int .i64 y.s] 27))
  go_enter Tryz.func3, Tryz.ntmps3
  go_upto_region 1 with fail
  have hs1 : (w.alloc (Obj.cells #[.int .i64 x.k, .int .i64 x.r, .slice I x.m.length ci, .int .i64 x.s] 27)).heap.size = w.heap.size + 1 := by simp
  rw [hs1] at k6
  clear hs1
  replace h0 := Reads.grows h0 hB
  replace hxl := hxl.grows hB
  replace hix := hix.grows hB
  replace hiy := hiy.grows hB
  generalize World.alloc (World.alloc w _) _ = w1 at *
  generalize hG1 : w.heap.size + 1 = q6 at *
  clear hG1
  generalize hq5 : w.heap.size = q5 at *
  go_wp2_with fail
  refine (sane_any _).mono ?_
  rintro e w2 ⟨rfl, hq⟩
  replace h0 := Reads.grows h0 hq
  replace hxl := hxl.grows hq
  replace hix := hix.grows hq
  replace hiy := hiy.grows hq
  replace k5 := k5.grows hq
  replace k6 := k6.grows hq
  replace hB := below_grows (hq5 ▸ hB) (Nat.le_refl _) hq
  clear hq
  have x5 := k5.cell
  have x6 := k6.cell
  go_wp2_with fail
  refine (kboxes_any 9 (by omega) rfl hxl hll HLM.out).mono ?_
  rintro e w3 ⟨h | rfl, hq⟩
  rotate_left 1
  · replace hB := below_grows hB (Nat.le_refl _) hq
    clear hq x5 x6
    go_wp2
    go_ret
    exact ⟨rfl, hB⟩
  obtain ⟨rfl, hl9, hkept⟩ := h
  replace h0 := Reads.grows h0 hq
  replace hxl := hxl.grows hq
  replace hix := hix.grows hq
  replace hiy := hiy.grows hq
  replace k5 := k5.grows hq
  replace k6 := k6.grows hq
  replace hB := below_grows hB (Nat.le_refl _) hq
  clear hq x5 x6
  have x5 := k5.cell
  have x6 := k6.cell
  by_cases h12 : x.m.length ≤ 12
  case neg =>
    have d1 : decide ((12 : Int) < (x.m.length : Int)) = true := by simp only [decide_eq_true_eq]; omega
    have d2 : decide (12 < x.m.length) = true := by simp only [decide_eq_true_eq]; omega
    clear h12
    go_wp2
    go_ret
    exact ⟨rfl, hB⟩
  have d1 : decide ((12 : Int) < (x.m.length : Int)) = false := by simp only [decide_eq_false_iff_not]; omega
  have d2 : decide (12 < x.m.length) = false := by simp only [decide_eq_false_iff_not]; omega
  by_cases h13 : y.m.length ≤ 12
  case neg =>
    have d3 : decide ((12 : Int) < (y.m.length : Int)) = true := by simp only [decide_eq_true_eq]; omega
    have d4 : decide (12 < y.m.length) = true := by simp only [decide_eq_true_eq]; omega
    clear h12 h13
    go_wp2
    go_ret
    exact ⟨rfl, hB⟩
  have d3 : decide ((12 : Int) < (y.m.length : Int)) = false := by simp only [decide_eq_false_iff_not]; omega
  have d4 : decide (12 < y.m.length) = false := by simp only [decide_eq_false_iff_not]; omega
  have HLO : Hid (∀ y ∈ l, OKB y) := Lib.hid (fun y hy => (hkept y hy).okb)
  clear hkept
  go_wp2_with fail
  clear x5 x6 d1 d2 d3 d4
  replace hxl := hxl.under
  replace hix := RdB.under hix
  replace hiy := RdB.under hiy
  have l5 := k5.lt
  have l6 := k6.lt
  have hb3 := hB.size
  refine (made_any A cs sd _ h0 hc hl hwf).mono ?_
  rintro e w4 ⟨⟨g, a, b, c, A1, c1, A2, c2, v, rfl, hxa, hxb, hc1, hc2, hfa, hfb, hla, hlb, ⟨A3, n3, rfl, hn3, hic⟩, hokc, hD, hsz⟩, hq⟩
  replace hB := below_grows hB (Nat.le_refl _) hq
  replace hxl := hxl.grows hq
  replace k5 := k5.grows hq
  replace k6 := k6.grows hq
  replace hix := RdB.grows hix hq
  replace hiy := RdB.grows hiy hq
  clear hq h0
  have fla := fl_fine hfa (by omega)
  have flb := fl_fine hfb (by omega)
  have HFB := Lib.hid hfb
  clear hfa hfb
  have hg2 := hD.lt
  have k11 := Blk.new w4 27 #[.int .i64 c.k, .int .i64 c.r, .slice A3 c.m.length n3, .int .i64 c.s]
  have hq := (Below.refl w4.heap.size w4).alloc (Nat.le_refl _) (Obj.cells #[.int .i64 c.k, .int .i64 c.r, .slice A3 c.m.length n3, .int .i64 c.s] 27)
  go_upto_region 6 with fail
  replace hB := below_grows hB (Nat.le_refl _) hq
  replace hxl := hxl.grows hq
  replace hxa := hxa.grows hq
  replace hxb := hxb.grows hq
  replace k5 := k5.grows hq
  replace k6 := k6.grows hq
  replace hD := hD.grows hq
  replace hix := RdB.grows hix hq
  replace hiy := RdB.grows hiy hq
  replace hic := RdB.grows hic hq
  clear hq
  generalize World.alloc w4 _ = w5 at *
  generalize w4.heap.size = q11 at *
  go_wp2_with fail
  refine (choice_any w3.heap.size g _ hD hxb (by omega) hc2 HFB.out (fun k hk => by unfold Ge at hk; omega)).mono ?_
  rintro e w6 ⟨⟨z, v, rfl, ⟨A5, n5, rfl, hn5, hiz⟩, hokz⟩, -, hq⟩
  replace k5 := k5.grown hq (by intro e; injection e; omega)
  replace k6 := k6.grown hq (by intro e; injection e; omega)
  replace k11 := k11.grown hq (by intro e; injection e; omega)
  replace hxa := hxa.grown hq (fun q e hh => by injection e with e; unfold Ge at hh; omega)
  replace hxb := hxb.grown hq (fun q e hh => by injection e with e; unfold Ge at hh; omega)
  replace hic := RdB.grown hic hq (fun q e hh => by injection e with e; unfold Ge at hh; omega)
  replace hxl := hxl.grown hq (fun q e hh => by injection e with e; unfold Under at hh; omega)
  replace hix := RdB.grown hix hq (fun q e hh => by injection e with e; unfold Under at hh; omega)
  replace hiy := RdB.grown hiy hq (fun q e hh => by injection e with e; unfold Under at hh; omega)
  replace hB := hB.grown hq hB.size (fun q e => by injection e; omega)
  clear hq hD hsz hg2 l5 l6 hb3
  replace hxa := hxa.mono (b2 := fun _ => True) (fun _ _ => trivial)
  replace hxb := hxb.mono (b2 := fun _ => True) (fun _ _ => trivial)
  replace hxl := hxl.mono (b2 := fun _ => True) (fun _ _ => trivial)
  have tix : Ints w6 I x.m := InB.ints hix
  have tiy : Ints w6 J y.m := InB.ints hiy
  have tic : Ints w6 A3 c.m := InB.ints hic
  have tiz : Ints w6 A5 z.m := InB.ints hiz
  clear hix hiy hic hiz
  have k13 := Blk.new w6 27 #[.int .i64 z.k, .int .i64 z.r, .slice A5 z.m.length n5, .int .i64 z.s]
  have hq := (Below.refl w6.heap.size w6).alloc (Nat.le_refl _) (Obj.cells #[.int .i64 z.k, .int .i64 z.r, .slice A5 z.m.length n5, .int .i64 z.s] 27)
  go_upto_region 7 with fail
  replace hB := below_grows hB (Nat.le_refl _) hq
  replace hxl := hxl.grows hq
  replace hxa := hxa.grows hq
  replace hxb := hxb.grows hq
  replace k5 := k5.grows hq
  replace k6 := k6.grows hq
  replace k11 := k11.grows hq
  replace tix := tix.grows hq
  replace tiy := tiy.grows hq
  replace tic := tic.grows hq
  replace tiz := tiz.grows hq
  clear hq
  generalize World.alloc w6 _ = w7 at *
  generalize w6.heap.size = q13 at *
  have x5 := k5.cell
  have x11 := k11.cell
  go_wp2_with fail
  clear x5 x11
  have k53 := Blk.new w7 27 #[.int .i64 x.k, .int .i64 x.r, .slice I x.m.length ci, .int .i64 x.s, .int .i64 c.k, .int .i64 c.r, .slice A3 c.m.length n3, .int .i64 c.s]
  have hq := (Below.refl w7.heap.size w7).alloc (Nat.le_refl _) (Obj.cells #[.int .i64 x.k, .int .i64 x.r, .slice I x.m.length ci, .int .i64 x.s, .int .i64 c.k, .int .i64 c.r, .slice A3 c.m.length n3, .int .i64 c.s] 27)
  replace hB := below_grows hB (Nat.le_refl _) hq
  replace hxl := hxl.grows hq
  replace hxa := hxa.grows hq
  replace hxb := hxb.grows hq
  replace k5 := k5.grows hq
  replace k6 := k6.grows hq
  replace k11 := k11.grows hq
  replace k13 := k13.grows hq
  replace tix := tix.grows hq
  replace tiy := tiy.grows hq
  replace tic := tic.grows hq
  replace tiz := tiz.grows hq
  clear hq
  generalize World.alloc w7 _ = w8 at *
  generalize w7.heap.size = q53 at *
  have hrd : Reads w8 w8.heap.size 4 (some ⟨q53, 0, none⟩) 2 [.int .i64 x.k, .int .i64 x.r, .slice I x.m.length ci, .int .i64 x.s, .int .i64 c.k, .int .i64 c.r, .slice A3 c.m.length n3, .int .i64 c.s] := ⟨rfl, fun _ => ⟨_, rfl, k53.lt, fun j u hu => by rw [add_head, k53.cell, ← Array.getElem?_toList]; exact hu⟩⟩
  obtain ⟨ad, hade⟩ : ∃ ad : Addr, (⟨q53, 0, none⟩ : Addr) = ad := ⟨_, rfl⟩
  rw [hade] at hrd ⊢
  clear hade k53
  have hokx : OKC x := ⟨hxr, hxs, by omega⟩
  have hoky : OKC y := ⟨hyr, hys, by omega⟩
  have HZ : Hid (∀ k, k < 2 → ∃ (v : Ch) (Iv : Option Addr) (cv : Nat), (∀ j < 4, ∀ u, ([.int .i64 v.k, .int .i64 v.r, .slice Iv v.m.length cv, .int .i64 v.s] : List Value)[j]? = some u → ([.int .i64 x.k, .int .i64 x.r, .slice I x.m.length ci, .int .i64 x.s, .int .i64 c.k, .int .i64 c.r, .slice A3 c.m.length n3, .int .i64 c.s] : List Value)[k * 4 + j]? = some u) ∧ Ints w8 Iv v.m ∧ OKC v ∧ v.m.length ≤ cv) := Lib.hid (fun k hk => by
    have : k = 0 ∨ k = 1 := by omega
    rcases this with rfl | rfl
    · refine ⟨x, I, ci, fun j hj u hu => ?_, tix, hokx, hci⟩
      have : j = 0 ∨ j = 1 ∨ j = 2 ∨ j = 3 := by omega
      rcases this with rfl | rfl | rfl | rfl <;> exact hu
    · refine ⟨c, A3, n3, fun j hj u hu => ?_, tic, hokc, hn3⟩
      have : j = 0 ∨ j = 1 ∨ j = 2 ∨ j = 3 := by omega
      rcases this with rfl | rfl | rfl | rfl <;> exact hu)
  have HAO := Lib.hid fla.okb
  have HBO := Lib.hid flb.okb
  have HAI : Hid (∀ y ∈ a, I64 y.k) := Lib.hid (fun y hy => (fla.1 y hy).2)
  have HBI : Hid (∀ y ∈ b, I64 y.k) := Lib.hid (fun y hy => (flb.1 y hy).2)
  have HS : Hid (∀ k, k < 2 → ∃ (Az : Option Addr) (cz : Nat) (s : List Bx), ([.slice A0 l.length c0, .slice A1 a.length c1] : List Value)[k]? = some (.slice Az s.length cz) ∧ s.length ≤ cz ∧ s.length ≤ 9 ∧ (∀ y ∈ s, OKB y) ∧ (∀ y ∈ s, I64 y.k) ∧ Bxs w8 (fun _ => True) Az s) := Lib.hid (fun k hk => by
    have : k = 0 ∨ k = 1 := by omega
    rcases this with rfl | rfl
    · exact ⟨A0, c0, l, rfl, hc0, hl9, HLO.out, HLI.out, hxl⟩
    · exact ⟨A1, c1, a, rfl, hc1, by omega, fla.okb, fun y hy => (fla.1 y hy).2, hxa⟩)
  clear HLM HFB hxm hym hxr hxs hyr hys
  clear fla flb
  go_loopw [55] (fun i wr => ∃ k : Nat, k ≤ 2 ∧ i = .int .i64 k ∧ Grows w8 wr) (fun i _ => 2 - (intOf i).toNat)
  case atStart => exact ⟨0, by omega, rfl, Below.refl _ _⟩
  case round =>
    obtain ⟨k, hk, rfl, hg⟩ := hrel
    by_cases hlt : k < 2
    · have dk : decide ((k : Int) < 2) = true := by simp only [decide_eq_true_eq]; omega
      obtain ⟨v, Iv, cv, hvv, tiv, hokv, hcv⟩ := HZ.out k hlt
      obtain ⟨ad2, ea, had, hcell⟩ := (Reads.grows hrd hg).2 (by omega)
      injection ea with ea
      subst ea
      obtain ⟨q0, q1, q2, q3⟩ : CellsB wr (ad.add (k * 4)) (.int .i64 v.k) (.int .i64 v.r) (.slice Iv v.m.length cv) (.int .i64 v.s) := cellsB_of rfl (fun j hj u hu => hcell _ u (hvv j hj u hu))
      clear hcell hvv
      have k15 := Blk.new wr 27 #[.int .i64 v.k, .int .i64 v.r, .slice Iv v.m.length cv, .int .i64 v.s]
      have hq := (Below.refl wr.heap.size wr).alloc (Nat.le_refl _) (Obj.cells #[.int .i64 v.k, .int .i64 v.r, .slice Iv v.m.length cv, .int .i64 v.s] 27)
      go_upto_region 10 with fail
      replace hg := below_grows hg (Nat.le_refl _) hq
      clear hq q0 q1 q2 q3
      generalize World.alloc wr _ = w9 at *
      generalize wr.heap.size = q15 at *
      go_wp2_with fail
      have k61 := Blk.new w9 22 #[.slice A0 l.length c0, .slice A1 a.length c1]
      have hq := (Below.refl w9.heap.size w9).alloc (Nat.le_refl _) (Obj.cells #[.slice A0 l.length c0, .slice A1 a.length c1] 22)
      replace hg := below_grows hg (Nat.le_refl _) hq
      replace k15 := k15.grows hq
      clear hq
      generalize World.alloc w9 _ = w10 at *
      generalize w9.heap.size = q61 at *
      have hrs : Reads w10 w10.heap.size 1 (some ⟨q61, 0, none⟩) 2 [.slice A0 l.length c0, .slice A1 a.length c1] := ⟨rfl, fun _ => ⟨_, rfl, k61.lt, fun j u hu => by rw [add_head, k61.cell, ← Array.getElem?_toList]; exact hu⟩⟩
      obtain ⟨ae, hade⟩ : ∃ ae : Addr, (⟨q61, 0, none⟩ : Addr) = ae := ⟨_, rfl⟩
      rw [hade] at hrs ⊢
      clear hade k61
      have hg10 := hg
      clear hg
      go_loopw [63] (fun i wq => ∃ j : Nat, j ≤ 2 ∧ i = .int .i64 j ∧ Grows w10 wq) (fun i _ => 2 - (intOf i).toNat)
      case atStart => exact ⟨0, by omega, rfl, Below.refl _ _⟩
      case round =>
        obtain ⟨j, hj, rfl, hgi⟩ := hrel
        have hg := below_grows hg10 (Nat.le_refl _) hgi
        have k15r := k15.grows hgi
        by_cases hjt : j < 2
        · have dj : decide ((j : Int) < 2) = true := by simp only [decide_eq_true_eq]; omega
          obtain ⟨Az, cz, s, hsv, hsc, hs9, hso, hsi, hxs⟩ := HS.out j hjt
          obtain ⟨ae2, u, ea, hae, hu, hcell⟩ := (Reads.grows hrs hgi).at_ hjt
          rw [hsv] at hu
          injection hu with hu
          injection ea with ea
          subst hu ea
          have hcn1 := fun (w0 : World) h1 h2 => pbestl_any (w := w0) (base := fun _ => True) (A := Az) (c := cz) (I := Iv) (ci := cv) (want := v) h1 (by omega) hsc hso hsi h2 hokv
          have hcn2 := fun (w0 : World) h1 h2 => rbestl_any (w := w0) (base := fun _ => True) (A := Az) (c := cz) (I := Iv) (ci := cv) (want := v) h1 (by omega) hsc hso h2 hokv
          rw [best_same hsi v] at hcn1
          have hokp : OKC (bestL (bestR v) v s).1 := okc_best hso
          generalize (bestL (bestR v) v s).1 = p at *
          generalize (bestL (bestR v) v s).2 = pb at *
          have H1 := Lib.hid hcn1
          have H2 := Lib.hid hcn2
          clear hcn1 hcn2 hso hsi hsv
          have x15 := k15r.cell
          go_wp2_with fail
          clear hcell
          refine (H1.out _ (hxs.grows hg) (tiv.grows hg)).mono ?_
          rintro e w11 ⟨⟨vv, rfl, ⟨P1, p1, rfl, hp1, hi1⟩⟩, hq⟩
          replace hg := below_grows hg (Nat.le_refl _) hq
          replace hgi := below_grows hgi (Nat.le_refl _) hq
          replace k15r := k15r.grows hq
          clear hq H1 x15
          have t1 : Ints w11 P1 p.m := InB.ints hi1
          clear hi1
          have k18 := Blk.new w11 27 #[.int .i64 p.k, .int .i64 p.r, .slice P1 p.m.length p1, .int .i64 p.s]
          have hq := (Below.refl w11.heap.size w11).alloc (Nat.le_refl _) (Obj.cells #[.int .i64 p.k, .int .i64 p.r, .slice P1 p.m.length p1, .int .i64 p.s] 27)
          go_upto_region 14 with fail
          replace hg := below_grows hg (Nat.le_refl _) hq
          replace hgi := below_grows hgi (Nat.le_refl _) hq
          replace k15r := k15r.grows hq
          replace t1 := t1.grows hq
          clear hq
          generalize World.alloc w11 _ = w12 at *
          generalize w11.heap.size = q18 at *
          have x15 := k15r.cell
          go_wp2_with fail
          refine (H2.out _ (hxs.grows hg) (tiv.grows hg)).mono ?_
          rintro e w13 ⟨⟨vv, rfl, ⟨P2, p2, rfl, hp2, hi2⟩⟩, hq⟩
          replace hg := below_grows hg (Nat.le_refl _) hq
          replace hgi := below_grows hgi (Nat.le_refl _) hq
          replace t1 := t1.grows hq
          replace k18 := k18.grows hq
          clear hq H2 x15 k15r
          have t2 : Ints w13 P2 p.m := InB.ints hi2
          clear hi2
          have k20 := Blk.new w13 27 #[.int .i64 p.k, .int .i64 p.r, .slice P2 p.m.length p2, .int .i64 p.s]
          have hq := (Below.refl w13.heap.size w13).alloc (Nat.le_refl _) (Obj.cells #[.int .i64 p.k, .int .i64 p.r, .slice P2 p.m.length p2, .int .i64 p.s] 27)
          go_upto_region 15 with fail
          replace hg := below_grows hg (Nat.le_refl _) hq
          replace hgi := below_grows hgi (Nat.le_refl _) hq
          replace t1 := t1.grows hq
          replace t2 := t2.grows hq
          replace k18 := k18.grows hq
          clear hq
          generalize World.alloc w13 _ = w14 at *
          generalize w13.heap.size = q20 at *
          have f1 : (pb != pb) = false := by cases pb <;> rfl
          have x18 := k18.cell
          have x20 := k20.cell
          go_wp2_with fail
          have hcon := samec_any (c := p1) (d := p2) t1 t2 hokp.2.2 hokp.2.2
          rw [decide_eq_true rfl] at hcon
          refine hcon.mono ?_
          rintro e w15 ⟨rfl, hq⟩
          replace hgi := below_grows hgi (Nat.le_refl _) hq
          clear hq hcon x18 x20 k18 k20 t1 t2 hg
          go_wp2
          go_roundw
          case rel => exact ⟨j + 1, by omega, by go_num, hgi⟩
          case measure => simp [intOf]; omega
        · clear hgi hg10 k15
          go_upto_region 18 with fail
          have k6r := k6.grows hg
          have k13r := k13.grows hg
          have k11r := k11.grows hg
          have M1 := Lib.hid (fun (w0 : World) (h : Grows wr w0) => compare_any Iv J A5 cv cj n5 v y z w0 ((tiv.grows hg).grows h) ((tiy.grows hg).grows h) ((tiz.grows hg).grows h) hokv hoky hokz)
          have M2 := Lib.hid (fun (w0 : World) (h : Grows wr w0) => rcompare_any Iv J A5 cv cj n5 v y z w0 ((tiv.grows hg).grows h) ((tiy.grows hg).grows h) ((tiz.grows hg).grows h) hokv hoky hokz)
          have M3 := Lib.hid (fun (w0 : World) (h : Grows wr w0) => compare_any Iv A3 A5 cv n3 n5 v c z w0 ((tiv.grows hg).grows h) ((tic.grows hg).grows h) ((tiz.grows hg).grows h) hokv hokc hokz)
          have M4 := Lib.hid (fun (w0 : World) (h : Grows wr w0) => rcompare_any Iv A3 A5 cv n3 n5 v c z w0 ((tiv.grows hg).grows h) ((tic.grows hg).grows h) ((tiz.grows hg).grows h) hokv hokc hokz)
          generalize cmpF v y z = g1 at *
          generalize cmpF v c z = g2 at *
          have f1 : (g1 != g1) = false := by simp
          have f2 : (g2 != g2) = false := by simp
          refine wp_region_mix (fun w' => Grows wr w') [] 20 126 (by kernel_rfl) (by kernel_rfl) rfl ?_ float_none ?_ ?_
          · exact fun w1 w2 h0 hg => below_grows h0 (Nat.le_refl _) hg
          · exact Grows.drew' _
          · skip
            simp only [List.take_succ_cons, List.take_zero, List.drop_succ_cons, List.drop_zero]
            iterate 20
              first
                | (refine calm_no rfl rfl (a' := ?_) ?_ ?_
                   rotate_left 1
                   · simp only [Act.put, List.setIfInBounds_toArray, List.set_cons_succ, List.set_cons_zero]
                     rfl)
                | (first | refine calm_plain rfl rfl (v := ?_) (a' := ?_) (fun w1 hw1 => ?_) ?_ ?_ | refine calm_yes rfl rfl (v := ?_) (a' := ?_) (fun w1 hw1 => ?_) ?_ ?_
                   rotate_left 2
                   · have h0 := hw1
                     have x15 := (k15r.grows h0).cell
                     have x6 := (k6r.grows h0).cell
                     have x13 := (k13r.grows h0).cell
                     have x11 := (k11r.grows h0).cell
                     go_simp
                     first | exact calm_val | (refine calm_call ?_; with_reducible exact M1.out _ h0) | (refine calm_call ?_; with_reducible exact M2.out _ h0) | (refine calm_call ?_; with_reducible exact M3.out _ h0) | (refine calm_call ?_; with_reducible exact M4.out _ h0)
                   · simp only [Act.put, List.setIfInBounds_toArray, List.set_cons_succ, List.set_cons_zero]
                     rfl)
            refine calm_done (end_none ?_)
            intro wq hgw
            replace hg := below_grows hg (Nat.le_refl _) hgw
            clear hgw k15r k6r k13r k11r M1 M2 M3 M4
            go_wp2
            go_roundw
            case rel => exact ⟨k + 1, by omega, by go_num, hg⟩
            case measure => simp [intOf]; omega
    · replace hB := below_grows hB (Nat.le_refl _) hg
      replace hxl := hxl.grows hg
      replace hxa := hxa.grows hg
      replace hxb := hxb.grows hg
      clear hg HZ HS hrd k5 k6 k11 k13 tix tiy tic tiz
      have hcn1 := fun (w0 : World) h1 h2 => blame_any (w := w0) (base := fun _ => True) (bb := fun _ => True) (A := A1) (B := A2) (c := c1) (d := c2) (l := a) (m := b) h1 h2 (by omega) (by omega) hc1 hc2 HAO.out HBO.out
      have hcn2 := fun (w0 : World) h1 h2 => rblame_any (w := w0) (base := fun _ => True) (bb := fun _ => True) (A := A1) (B := A2) (c := c1) (d := c2) (l := a) (m := b) h1 h2 (by omega) (by omega) hc1 hc2 HAO.out HBO.out
      have hcn3 := fun (w0 : World) h1 h2 => blame_any (w := w0) (base := fun _ => True) (bb := fun _ => True) (A := A0) (B := A2) (c := c0) (d := c2) (l := l) (m := b) h1 h2 (by omega) (by omega) hc0 hc2 HLO.out HBO.out
      have hcn4 := fun (w0 : World) h1 h2 => rblame_any (w := w0) (base := fun _ => True) (bb := fun _ => True) (A := A0) (B := A2) (c := c0) (d := c2) (l := l) (m := b) h1 h2 (by omega) (by omega) hc0 hc2 HLO.out HBO.out
      simp only [blame_same HAI.out HBI.out] at hcn2
      simp only [blame_same HLI.out HBI.out] at hcn4
      generalize blameF a b = g1 at *
      generalize blameF l b = g2 at *
      have H1 := Lib.hid hcn1
      have H2 := Lib.hid hcn2
      have H3 := Lib.hid hcn3
      have H4 := Lib.hid hcn4
      clear hcn1 hcn2 hcn3 hcn4
      have f1 : (g1 == g1) = true := by simp
      have f2 : (g2 == g2) = true := by simp
      go_wp2_with fail
      refine (H1.out _ hxa hxb).mono ?_
      rintro e w9 ⟨rfl, hq⟩
      replace hB := below_grows hB (Nat.le_refl _) hq
      replace hxl := hxl.grows hq
      replace hxa := hxa.grows hq
      replace hxb := hxb.grows hq
      clear hq H1
      go_wp2_with fail
      refine (H2.out _ hxa hxb).mono ?_
      rintro e w10 ⟨rfl, hq⟩
      replace hB := below_grows hB (Nat.le_refl _) hq
      replace hxl := hxl.grows hq
      replace hxb := hxb.grows hq
      clear hq H2 hxa
      go_wp2_with fail
      refine (H3.out _ hxl hxb).mono ?_
      rintro e w11 ⟨rfl, hq⟩
      replace hB := below_grows hB (Nat.le_refl _) hq
      replace hxl := hxl.grows hq
      replace hxb := hxb.grows hq
      clear hq H3
      go_wp2_with fail
      refine (H4.out _ hxl hxb).mono ?_
      rintro e w12 ⟨rfl, hq⟩
      replace hB := below_grows hB (Nat.le_refl _) hq
      clear hq H4 hxl hxb
      go_wp2
      go_ret
      exact ⟨rfl, hB⟩
end OfferChooses
namespace OfferChooses
set_option maxRecDepth 100000 in
theorem contract (H : Type) (enc : TypeId × Value → H) (W : World) (base : Nat) (args : Array Value) (ds gs : List (DataW H)) (before : List MemPlace)
    (hval0 : ∀ (j : Nat) t v, Tryz.f3.params[j]? = some t → args[j]? = some v → Value.okWide Tryz.prog W .any base t v)
    (hW : DataW.Whole enc Tryz.prog Tryz.f3.params.toList Rows.offerChoosesSpec.vars false W args.toList ds gs before)
    (hsz0 : (DataW.weightsEach Tryz.prog (Tryz.f3.params.toList ++ Rows.offerChoosesSpec.plain.varTypes Tryz.prog) (ds ++ gs)).all (· ≤ reachBytes) = true) :
    Calls Tryz.prog 3 args W fun e W' => ∃ v, e = .returned v ∧ Rows.offerChoosesSpec.post enc Tryz.prog Tryz.f3 false true false false W args v W' := by
  have key : Calls Tryz.prog 3 args W fun e W' => e = .returned (.bool true) ∧ Below W.heap.size W W' := by
    have hval : ∀ (j : Nat) t v, Tryz.f3.params[j]? = some t → args[j]? = some v → Value.okWide Tryz.prog W .any base t v := hval0
    obtain ⟨p, q, hA0, hV, hbe, hfz, hnd⟩ := hW
    have hA : DataW.TrodAll enc Tryz.prog W 0 (fun _ => true) true Tryz.f3.params.toList args.toList ds p := hA0
    rw [Tryz.params3] at hA hval
    clear hA0 hval0
    obtain ⟨v0, vs0, d0, ds0, p0, q0, hargs, rfl, rfl, h0, r0⟩ := trodAll_cons hA
    obtain ⟨v1, vs1, d1, ds1, p1, q1, rfl, rfl, rfl, h1, r1⟩ := trodAll_cons r0
    obtain ⟨v2, vs2, d2, ds2, p2, q2, rfl, rfl, rfl, h2, r2⟩ := trodAll_cons r1
    obtain ⟨v3, vs3, d3, ds3, p3, q3, rfl, rfl, rfl, h3, r3⟩ := trodAll_cons r2
    obtain ⟨rfl, rfl, rfl⟩ := trodAll_nil r3
    obtain rfl : args = #[v0, v1, v2, v3] := by cases args; simp_all
    obtain ⟨rfl, rfl⟩ := trodVars_none hV
    have hsz : (DataW.weightsEach Tryz.prog (Tryz.f3.params.toList ++ Rows.offerChoosesSpec.plain.varTypes Tryz.prog) ([d0, d1, d2, d3] ++ [])).all (· ≤ reachBytes) = true := hsz0
    rw [Tryz.params3] at hsz
    clear hsz0
    obtain ⟨A0, c0, l, rfl, hxl, hll, hc0, hlim⟩ := open_boxes (hval 0 22 v0 rfl rfl) h0
    obtain ⟨x, I, ci, rfl, hix, hxm, hci, hxr, hxs⟩ := open_choice (hval 1 27 v1 rfl rfl) h1
    obtain ⟨y, J, cj, rfl, hiy, hym, hcj, hyr, hys⟩ := open_choice (hval 2 27 v2 rfl rfl) h2
    obtain ⟨A, c, sd, rfl, hI0, hl0, hlen0, hw0⟩ := open_slice_kind Tryz.underlying28 Tryz.underlying5 (by kernel_rfl) (hval 3 28 v3 rfl rfl) h3
    exact OfferChooses.walk A0 c0 l x I ci y J cj A c sd W hxl hll hc0 hlim hix hxm hci hxr hxs hiy hym hcj hyr hys hI0 hlen0 hl0 (fun x hx => u8_bd (hw0 x hx))
  refine key.mono fun e W' ⟨he, hb⟩ => ⟨_, he, law_post laid_out hW ?_ rfl (by kernel_rfl) Tryz.underlying4 ?_ hb⟩
  · rw [Tryz.params3]
    intro t ht
    simp only [List.mem_cons, List.not_mem_nil, or_false] at ht
    rcases ht with rfl | rfl | rfl | rfl <;> exact ⟨by kernel_rfl, of_decide_eq_true (by kernel_rfl)⟩
  · rw [Tryz.params3]
    intro ds hl
    match ds, hl with
    | [_, _, _, _], _ => rfl

set_option maxRecDepth 100000 in
theorem lifted (os : Os) (started : os.Started) (H : Type) (enc : TypeId × Value → H) :
    ReturnsInHanded {} Tryz.checked os 3 .any (Rows.offerChoosesSpec.pre6 enc Tryz.prog Tryz.f3 Rows.offerChoosesRow.domain false) (Rows.offerChoosesSpec.post enc Tryz.prog Tryz.f3 false true false false) := by
  refine returnsInHanded_of_change_sized (C := Tryz.checked) own_knob started (by kernel_rfl) Tryz.func3
    (ChangeSpec.witness6 (enc := enc) (C := Tryz.checked) false ⟨#[], #[.slice none 0 0, .agg #[.int .i64 0, .int .i64 0, .slice none 0 0, .int .i64 0], .agg #[.int .i64 0, .int .i64 0, .slice none 0 0, .int .i64 0], .slice none 0 0], []⟩ 8 (by kernel_rfl) (by kernel_rfl) (by kernel_rfl) (by kernel_rfl)) ?_
  intro W base args ds gs before hval0 hW _ hsz0 _
  exact contract H enc W base args ds gs before hval0 hW hsz0

theorem over : Rows.offerChoosesRow.holds Tryz.pinned (OpenSpec.ofChange Rows.offerChoosesSpec) :=
  OpenClaim.holds_of_wide 3 Tryz.f3 rfl rfl rfl rfl rfl rfl rfl ⟨rfl, rfl, rfl, rfl, rfl⟩ rfl rfl rfl rfl rfl (by kernel_rfl) Tryz.func3 (by kernel_rfl)
    (of_decide_eq_true (by kernel_rfl)) (by unfold Func.isWrapper; first | (rw [if_pos (by decide +kernel)]; kernel_rfl) | (rw [if_neg (by decide +kernel)]; exact ⟨rfl, rfl⟩))
    (fun os started H enc _ => lifted os started H enc)

/-- The given statement. -/
theorem proved : Rows.OfferChoosesSaid := over
end OfferChooses
#print axioms OfferChooses.proved
end Go.Proofs.YtnbdpnlepcjmmaaGreat
