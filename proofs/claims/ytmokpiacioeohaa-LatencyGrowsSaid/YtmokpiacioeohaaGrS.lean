/-
  Graphs: the longest path; a node or a link more keeps a graph valid. The plain law.
-/
import Derived.Test.YtmokpiacioeohaaGrL
namespace Go.Proofs.Ytmokpiacioeohaa
/-- One link on the way: the best sum at a node. -/
def relaxL (W : Int → Int) (id : Int) (S : Int → Option Int) (l : Q4) : Int → Option Int :=
  if l.c = id then match S l.a with | none => S | some s => fun y => if y = id then some (max ((S id).getD 0) (s + W id)) else S y else S
def passL (W : Int → Int) (ls : List Q4) (S : Int → Option Int) (id : Int) : Int → Option Int := ls.foldl (relaxL W id) S
def startL (W : Int → Int) (a : Int) : Int → Option Int := fun y => if y = a then some (W a) else none
def longS (W : Int → Int) (ls : List Q4) (order : List Int) (a : Int) : Int → Option Int := order.foldl (passL W ls) (startL W a)
theorem relax_of (W : Int → Int) (id : Int) (S : Int → Option Int) (l : Q4) (h : l.c = id) : relaxL W id S l = match S l.a with | none => S | some s => fun y => if y = id then some (max ((S id).getD 0) (s + W id)) else S y := by simp [relaxL, h]
theorem relax_ne (W : Int → Int) (id : Int) (S : Int → Option Int) (l : Q4) (h : l.c ≠ id) : relaxL W id S l = S := by simp [relaxL, h]
/-- The inputs of a node, in the order of the links. -/
def inL (ls : List Q4) (id : Int) : List Q4 := ls.filter fun l => l.c == id
theorem pass_in (W : Int → Int) (ls : List Q4) (id : Int) (S : Int → Option Int) : (inL ls id).foldl (relaxL W id) S = passL W ls S id := by
  unfold inL passL
  induction ls generalizing S with
  | nil => rfl
  | cons l ls ih =>
    rw [List.filter_cons, List.foldl_cons]
    by_cases h : l.c = id
    · simp only [h, beq_self_eq_true, if_true, List.foldl_cons]
      exact ih _
    · have : (l.c == id) = false := by simp [h]
      rw [this, relax_ne W id S l h]
      simpa using ih S
/-- All sums are within bounds. -/
def SB (S : Int → Option Int) (m : Int) : Prop := ∀ y v, S y = some v → 0 ≤ v ∧ v ≤ m
def WB (W : Int → Int) : Prop := ∀ y, 0 ≤ W y ∧ W y ≤ 1099511627776
theorem sb_start {W : Int → Int} (hW : WB W) (a : Int) : SB (startL W a) 1099511627776 := by
  intro y v h
  unfold startL at h
  split at h
  · injection h with h; subst h; exact hW a
  · cases h
theorem SB.mono {S : Int → Option Int} {m n : Int} (h : SB S m) (hm : m ≤ n) : SB S n := fun y v e => ⟨(h y v e).1, by have := (h y v e).2; omega⟩
theorem sb_relax {W : Int → Int} (hW : WB W) {S : Int → Option Int} {m : Int} (h : SB S m) (h0 : 0 ≤ m) (id : Int) (l : Q4) : SB (relaxL W id S l) (m + 1099511627776) := by
  unfold relaxL
  split
  · cases e : S l.a with
    | none => exact h.mono (by omega)
    | some s =>
      intro y v hv
      simp only at hv
      split at hv
      · injection hv with hv
        have h1 := h _ _ e
        have h2 := hW id
        cases e2 : S id with
        | none => rw [e2] at hv; simp only [Option.getD_none] at hv; omega
        | some t => have h3 := h _ _ e2; rw [e2] at hv; simp only [Option.getD_some] at hv; omega
      · exact (h.mono (by omega)) y v hv
  · exact h.mono (by omega)
theorem sb_fold {W : Int → Int} (hW : WB W) (id : Int) : ∀ (ls : List Q4) {S : Int → Option Int} {m : Int}, SB S m → 0 ≤ m → SB (ls.foldl (relaxL W id) S) (m + ls.length * 1099511627776)
  | [], S, m, h, h0 => by simpa using h
  | l :: ls, S, m, h, h0 => by
    rw [List.foldl_cons]
    have := sb_fold hW id ls (sb_relax hW h h0 id l) (by omega)
    refine this.mono ?_
    simp only [List.length_cons]
    omega
theorem sb_pass {W : Int → Int} (hW : WB W) (ls : List Q4) (hl : ls.length ≤ 256) {S : Int → Option Int} {k : Nat} (h : SB S (1099511627776 + k * 281474976710656)) (id : Int) : SB (passL W ls S id) (1099511627776 + (k + 1 : Nat) * 281474976710656) := by
  refine (sb_fold hW id ls h (by omega)).mono ?_
  omega
/-- What is there grows. -/
def LeS (S T : Int → Option Int) : Prop := ∀ y v, S y = some v → ∃ u, T y = some u ∧ v ≤ u
theorem LeS.rfl' (S : Int → Option Int) : LeS S S := fun _ v h => ⟨v, h, Int.le_refl _⟩
theorem LeS.trans {S T U : Int → Option Int} (h : LeS S T) (k : LeS T U) : LeS S U := fun y v e => by
  obtain ⟨u, e1, h1⟩ := h y v e
  obtain ⟨t, e2, h2⟩ := k y u e1
  exact ⟨t, e2, by omega⟩
theorem le_relax (W : Int → Int) (id : Int) (S : Int → Option Int) (l : Q4) : LeS S (relaxL W id S l) := by
  intro y v h
  unfold relaxL
  split
  · cases e : S l.a with
    | none => exact ⟨v, h, Int.le_refl _⟩
    | some s =>
      simp only
      split
      · rename_i hy
        subst hy
        rw [h]
        simp only [Option.getD_some, Option.some.injEq]
        exact ⟨_, rfl, by omega⟩
      · exact ⟨v, h, Int.le_refl _⟩
  · exact ⟨v, h, Int.le_refl _⟩
theorem le_fold (W : Int → Int) (id : Int) : ∀ (ls : List Q4) (S : Int → Option Int), LeS S (ls.foldl (relaxL W id) S)
  | [], S => LeS.rfl' S
  | l :: ls, S => (le_relax W id S l).trans (le_fold W id ls _)
theorem le_passes (W : Int → Int) (ls : List Q4) : ∀ (o : List Int) (S : Int → Option Int), LeS S (o.foldl (passL W ls) S)
  | [], S => LeS.rfl' S
  | i :: o, S => (le_fold W i ls S).trans (le_passes W ls o _)
/-- Over a link the sum is at least that of both ends. -/
theorem long_link {W : Int → Int} {ls : List Q4} {order : List Int} {l : Q4} (hl : l ∈ ls) (ho : l.c ∈ order) : ∃ v, longS W ls order l.a l.c = some v ∧ W l.a + W l.c ≤ v := by
  unfold longS
  obtain ⟨p, q, rfl⟩ := List.append_of_mem ho
  rw [List.foldl_append, List.foldl_cons]
  obtain ⟨u, e1, h1⟩ := le_passes W ls p (startL W l.a) l.a (W l.a) (by simp [startL])
  generalize p.foldl (passL W ls) (startL W l.a) = S at *
  obtain ⟨r, t, rfl⟩ := List.append_of_mem hl
  have : ∃ v, passL W (r ++ l :: t) S l.c l.c = some v ∧ W l.a + W l.c ≤ v := by
    unfold passL
    rw [List.foldl_append, List.foldl_cons]
    obtain ⟨s, e2, h2⟩ := le_fold W l.c r S l.a u e1
    generalize r.foldl (relaxL W l.c) S = T at *
    have : ∃ v, relaxL W l.c T l l.c = some v ∧ W l.a + W l.c ≤ v := by
      rw [relax_of _ _ _ _ rfl, e2]
      simp only [if_true, Option.some.injEq]
      exact ⟨_, rfl, by omega⟩
    obtain ⟨v, e3, h3⟩ := this
    obtain ⟨x, e4, h4⟩ := le_fold W l.c t _ _ _ e3
    exact ⟨x, e4, by omega⟩
  obtain ⟨v, e3, h3⟩ := this
  obtain ⟨x, e4, h4⟩ := le_passes W (r ++ l :: t) q _ _ _ e3
  exact ⟨x, e4, by omega⟩
theorem getD_at' {l : List Q4} {k : Nat} {x : Q4} (hx : l[k]? = some x) : l.getD k q0 = x := by rw [List.getD_eq_getElem?_getD, hx]; rfl
theorem okN_iff (ns : List Q4) : okN ns = true ↔ (∀ n ∈ ns, fineN n = true) ∧ ns.Pairwise fun x y => x.a < y.a := by
  have key : okN ns = true ↔ ∀ k, (hk : k < ns.length) → fineN ns[k] = true ∧ (k = 0 ∨ (ns.getD (k - 1) q0).a < ns[k].a) := by
    unfold okN
    rw [List.all_eq_true]
    constructor
    · intro h k hk
      have := h k (List.mem_range.2 hk)
      unfold stepN at this
      rw [getD_at' (List.getElem?_eq_getElem hk)] at this
      simpa [Bool.and_eq_true, Bool.or_eq_true] using this
    · intro h k hk
      have hk := List.mem_range.1 hk
      unfold stepN
      rw [getD_at' (List.getElem?_eq_getElem hk)]
      simpa [Bool.and_eq_true, Bool.or_eq_true] using h k hk
  rw [key, List.pairwise_iff_getElem]
  constructor
  · intro h
    refine ⟨fun n hn => ?_, ?_⟩
    · obtain ⟨k, hk, rfl⟩ := List.getElem_of_mem hn
      exact (h k hk).1
    · intro i j hi hj hij
      induction j with
      | zero => omega
      | succ j ih =>
        have h1 := (h (j + 1) hj).2
        rw [Nat.add_sub_cancel, getD_at' (List.getElem?_eq_getElem (by omega))] at h1
        by_cases e : i = j
        · subst e; omega
        · have := ih (by omega) (by omega); omega
  · rintro ⟨h1, h2⟩ k hk
    refine ⟨h1 _ (List.getElem_mem hk), ?_⟩
    cases k with
    | zero => exact .inl rfl
    | succ k =>
      right
      rw [Nat.add_sub_cancel, getD_at' (List.getElem?_eq_getElem (by omega))]
      exact h2 k (k + 1) (by omega) hk (by omega)
theorem less_irrefl (x : Q4) : lessL x x = false := by simp [lessL]
theorem less_trans {x y z : Q4} (h : lessL x y = true) (k : lessL y z = true) : lessL x z = true := by
  unfold lessL at *
  repeat' split at h
  all_goals repeat' split at k
  all_goals simp only [decide_eq_true_eq] at h k
  all_goals repeat' split
  all_goals first | (simp only [decide_eq_true_eq]; omega) | omega
theorem less_total {x y : Q4} (h : lessL x y = false) (hne : x ≠ y) : lessL y x = true := by
  have : x.a ≠ y.a ∨ x.b ≠ y.b ∨ x.c ≠ y.c ∨ x.d ≠ y.d := by
    cases x; cases y
    simp only [ne_eq, Q4.mk.injEq, not_and] at hne ⊢
    rename_i a b c d a2 b2 c2 d2
    by_cases e1 : a = a2
    · by_cases e2 : b = b2
      · by_cases e3 : c = c2
        · exact .inr (.inr (.inr (hne e1 e2 e3)))
        · exact .inr (.inr (.inl e3))
      · exact .inr (.inl e2)
    · exact .inl e1
  unfold lessL at *
  repeat' split at h
  all_goals simp only [decide_eq_false_iff_not] at h
  all_goals repeat' split
  all_goals first | (simp only [decide_eq_true_eq]; omega) | omega
theorem clash_comm (ns : List Q4) (x l : Q4) : clashL ns x l = clashL ns l x := by
  unfold clashL
  have e1 : (x.c == l.c && x.d == l.d && (nodeN ns l.c).b != 3) = (l.c == x.c && l.d == x.d && (nodeN ns x.c).b != 3) := by
    by_cases h : x.c = l.c
    · rw [h, beq_self_eq_true, BEq.comm (a := x.d)]
    · have h2 : (l.c == x.c) = false := by simpa using fun e => h e.symm
      have h3 : (x.c == l.c) = false := by simpa using h
      rw [h2, h3]
      rfl
  have e2 : (x.a == l.a && x.b == l.b && (nodeN ns l.a).b != 5 && (nodeN ns l.a).b != 1) = (l.a == x.a && l.b == x.b && (nodeN ns x.a).b != 5 && (nodeN ns x.a).b != 1) := by
    by_cases h : x.a = l.a
    · rw [h, beq_self_eq_true, BEq.comm (a := x.b)]
    · have h2 : (l.a == x.a) = false := by simpa using fun e => h e.symm
      have h3 : (x.a == l.a) = false := by simpa using h
      rw [h2, h3]
      rfl
  rw [e1, e2]
theorem okK_iff (ns ls : List Q4) : okK ns ls = true ↔ (∀ l ∈ ls, endsL ns l = true) ∧ (ls.Pairwise fun x y => lessL x y = true) ∧ ls.Pairwise fun x y => clashL ns x y = false := by
  have key : okK ns ls = true ↔ ∀ k, (hk : k < ls.length) → endsL ns ls[k] = true ∧ (k = 0 ∨ lessL (ls.getD (k - 1) q0) ls[k] = true) ∧ crowdL ns ls[k] (ls.take k) = false := by
    unfold okK
    rw [List.all_eq_true]
    constructor
    · intro h k hk
      have := h k (List.mem_range.2 hk)
      unfold stepK at this
      rw [getD_at' (List.getElem?_eq_getElem hk)] at this
      simp only [Bool.and_eq_true, Bool.or_eq_true, beq_iff_eq, Bool.not_eq_true'] at this
      exact ⟨this.1.1, this.1.2, this.2⟩
    · intro h k hk
      have hk := List.mem_range.1 hk
      unfold stepK
      rw [getD_at' (List.getElem?_eq_getElem hk)]
      obtain ⟨h1, h2, h3⟩ := h k hk
      simp only [Bool.and_eq_true, Bool.or_eq_true, beq_iff_eq, Bool.not_eq_true']
      exact ⟨⟨h1, h2⟩, h3⟩
  rw [key]
  constructor
  · intro h
    refine ⟨fun n hn => ?_, ?_, ?_⟩
    · obtain ⟨k, hk, rfl⟩ := List.getElem_of_mem hn
      exact (h k hk).1
    · rw [List.pairwise_iff_getElem]
      intro i j hi hj hij
      induction j with
      | zero => omega
      | succ j ih =>
        have h1 := (h (j + 1) hj).2.1
        rw [Nat.add_sub_cancel, getD_at' (List.getElem?_eq_getElem (by omega))] at h1
        have h1 : lessL ls[j] ls[j + 1] = true := by rcases h1 with h1 | h1; omega; exact h1
        by_cases e : i = j
        · subst e; exact h1
        · exact less_trans (ih (by omega) (by omega)) h1
    · rw [List.pairwise_iff_getElem]
      intro i j hi hj hij
      have := (h j hj).2.2
      unfold crowdL at this
      rw [List.any_eq_false] at this
      have h2 := this (ls[i]) (List.mem_take_iff_getElem.2 ⟨i, by omega, rfl⟩)
      simpa using h2
  · rintro ⟨h1, h2, h3⟩ k hk
    rw [List.pairwise_iff_getElem] at h2 h3
    refine ⟨h1 _ (List.getElem_mem hk), ?_, ?_⟩
    · cases k with
      | zero => exact .inl rfl
      | succ k =>
        right
        rw [Nat.add_sub_cancel, getD_at' (List.getElem?_eq_getElem (by omega))]
        exact h2 k (k + 1) (by omega) hk (by omega)
    · unfold crowdL
      rw [List.any_eq_false]
      intro x hx
      obtain ⟨i, hi, rfl⟩ := List.mem_take_iff_getElem.1 hx
      have := h3 i k (by omega) hk (by omega)
      simpa using this
/-- Ahead of all that are not less. -/
def insN (ns : List Q4) (k : Nat) (n : Q4) : List Q4 := ns.take k ++ [n] ++ ns.drop k
def cutAt (ns : List Q4) (p : Q4 → Bool) (k : Nat) : Prop := k ≤ ns.length ∧ (∀ x ∈ ns.take k, p x = true) ∧ ∀ x, ns[k]? = some x → p x = false
theorem ins_mem {ns : List Q4} {k : Nat} {n x : Q4} : x ∈ insN ns k n ↔ x = n ∨ x ∈ ns := by
  unfold insN
  simp only [List.append_assoc, List.mem_append, List.cons_append, List.nil_append, List.mem_cons]
  conv => rhs; rw [← List.take_append_drop k ns]
  rw [List.mem_append]
  constructor
  · rintro (h | h | h)
    · exact .inr (.inl h)
    · exact .inl h
    · exact .inr (.inr h)
  · rintro (h | h | h)
    · exact .inr (.inl h)
    · exact .inl h
    · exact .inr (.inr h)
theorem ins_length {ns : List Q4} {k : Nat} {n : Q4} (hk : k ≤ ns.length) : (insN ns k n).length = ns.length + 1 := by
  unfold insN
  simp only [List.length_append, List.length_take, List.length_drop, List.length_singleton]
  omega
theorem pairwise_ins {R : Q4 → Q4 → Prop} {ns : List Q4} {k : Nat} {n : Q4} (h : ns.Pairwise R) (h1 : ∀ x ∈ ns.take k, R x n) (h2 : ∀ x ∈ ns.drop k, R n x) : (insN ns k n).Pairwise R := by
  unfold insN
  have h3 := h
  rw [← List.take_append_drop k ns, List.pairwise_append] at h3
  rw [List.append_assoc, List.pairwise_append]
  refine ⟨h3.1, ?_, ?_⟩
  · rw [List.singleton_append, List.pairwise_cons]
    exact ⟨h2, h3.2.1⟩
  · intro x hx y hy
    rw [List.singleton_append, List.mem_cons] at hy
    rcases hy with rfl | hy
    · exact h1 x hx
    · exact h3.2.2 x hx y hy
theorem drop_rel {R : Q4 → Q4 → Prop} {ns : List Q4} {k : Nat} (h : ns.Pairwise R) {P : Q4 → Prop} (h0 : ∀ x, ns[k]? = some x → P x) (hs : ∀ x y, P x → R x y → P y) : ∀ x ∈ ns.drop k, P x := by
  intro x hx
  rcases Nat.lt_or_ge k ns.length with hk | hk
  · rw [List.drop_eq_getElem_cons hk, List.mem_cons] at hx
    have h1 := h0 _ (List.getElem?_eq_getElem hk)
    rcases hx with rfl | hx
    · exact h1
    · have h3 := h
      rw [← List.take_append_drop k ns, List.pairwise_append, List.drop_eq_getElem_cons hk, List.pairwise_cons] at h3
      exact hs _ _ h1 (h3.2.1.1 x hx)
  · rw [List.drop_of_length_le hk] at hx
    cases hx
theorem ins_asc {ns : List Q4} {k : Nat} {n : Q4} (h : ns.Pairwise fun x y => x.a < y.a) (hc : cutAt ns (fun x => decide (x.a < n.a)) k) (hn : ∀ x ∈ ns, x.a ≠ n.a) : (insN ns k n).Pairwise fun x y => x.a < y.a := by
  refine pairwise_ins h (fun x hx => by simpa using hc.2.1 x hx) ?_
  refine drop_rel h (P := fun x => n.a < x.a) (fun x hx => ?_) (fun x y hx hy => by omega)
  have h1 := hc.2.2 x hx
  have h2 := hn x (List.mem_of_getElem? hx)
  simp only [decide_eq_false_iff_not] at h1
  omega
theorem ins_less {ls : List Q4} {k : Nat} {n : Q4} (h : ls.Pairwise fun x y => lessL x y = true) (hc : cutAt ls (fun x => lessL x n) k) (hn : n ∉ ls) : (insN ls k n).Pairwise fun x y => lessL x y = true := by
  refine pairwise_ins h (fun x hx => hc.2.1 x hx) ?_
  refine drop_rel h (P := fun x => lessL n x = true) (fun x hx => ?_) (fun x y hx hy => less_trans hx hy)
  exact less_total (hc.2.2 x hx) (fun e => hn (e ▸ List.mem_of_getElem? hx))
theorem find_of_mem {ns : List Q4} (h : ns.Pairwise fun x y => x.a < y.a) {n : Q4} (hn : n ∈ ns) : findN ns n.a = some n := by
  unfold findN
  induction ns with
  | nil => cases hn
  | cons x ns ih =>
    rw [List.pairwise_cons] at h
    rw [List.find?_cons]
    rcases List.mem_cons.1 hn with rfl | hn
    · simp
    · have := h.1 n hn
      have e : (x.a == n.a) = false := by simp; omega
      rw [e]
      exact ih h.2 hn
theorem find_no {ns : List Q4} {id : Int} (h : ∀ n ∈ ns, n.a ≠ id) : findN ns id = none := by
  unfold findN
  rw [List.find?_eq_none]
  intro x hx
  simpa using h x hx
theorem find_some {ns : List Q4} {id : Int} {n : Q4} (h : findN ns id = some n) : n ∈ ns ∧ n.a = id := ⟨List.mem_of_find?_eq_some h, by simpa using List.find?_some h⟩
/-- Two lists with the same nodes, each in order, find the same. -/
theorem find_sub {ns ms : List Q4} (hm : ms.Pairwise fun x y => x.a < y.a) {id : Int} {n : Q4} (h : findN ns id = some n) (hs : n ∈ ms) : findN ms id = some n := by
  obtain ⟨_, h2⟩ := find_some h
  subst h2
  exact find_of_mem hm hs
theorem ends_node {ns : List Q4} {l : Q4} (h : endsL ns l = true) : (∃ n, findN ns l.a = some n) ∧ ∃ n, findN ns l.c = some n := by
  unfold endsL nodeN at h
  simp only [Bool.and_eq_true, decide_eq_true_eq] at h
  constructor
  · cases e : findN ns l.a with
    | some n => exact ⟨n, rfl⟩
    | none => rw [e] at h; simp only [Option.getD_none, q0] at h; omega
  · cases e : findN ns l.c with
    | some n => exact ⟨n, rfl⟩
    | none => rw [e] at h; simp only [Option.getD_none, q0] at h; omega
theorem nodup_len : ∀ {l m : List Int}, l.Nodup → (∀ x ∈ l, x ∈ m) → l.length ≤ m.length
  | [], m, _, _ => by simp
  | x :: l, m, h, hs => by
    rw [List.nodup_cons] at h
    have := nodup_len (l := l) (m := m.erase x) h.2 (fun y hy => (List.mem_erase_of_ne (show y ≠ x from fun e => h.1 (e ▸ hy))).2 (hs y (by simp [hy])))
    rw [List.length_erase_of_mem (hs x (by simp))] at this
    have : 0 < m.length := List.length_pos_of_mem (hs x (by simp))
    simp only [List.length_cons]
    omega
theorem ids_nodup {ns : List Q4} (h : ns.Pairwise fun x y => x.a < y.a) : (ns.map Q4.a).Nodup := by
  unfold List.Nodup
  rw [List.pairwise_map]
  exact h.imp fun hx => by omega
theorem order_le {ns ls : List Q4} : (orderL ns ls).length ≤ ns.length := by
  have h := order_run ns ls
  have := nodup_len (m := ns.map Q4.a) h.1 (fun x hx => by
    obtain ⟨n, hn, e⟩ := h.2.1 x hx
    exact List.mem_map.2 ⟨n, hn, e⟩)
  simpa using this
theorem order_full {ns ls : List Q4} (h : ns.Pairwise fun x y => x.a < y.a) : (orderL ns ls).length = ns.length ↔ ∀ n ∈ ns, n.a ∈ orderL ns ls := by
  have hr := order_run ns ls
  constructor
  · intro e n hn
    refine Classical.byContradiction fun hc => ?_
    have := nodup_len (l := n.a :: orderL ns ls) (m := ns.map Q4.a) (List.nodup_cons.2 ⟨hc, hr.1⟩) (fun x hx => by
      rcases List.mem_cons.1 hx with rfl | hx
      · exact List.mem_map.2 ⟨n, hn, rfl⟩
      · obtain ⟨n, hn, e⟩ := hr.2.1 x hx
        exact List.mem_map.2 ⟨n, hn, e⟩)
    simp only [List.length_cons, List.length_map] at this
    omega
  · intro ha
    have h1 := nodup_len (m := orderL ns ls) (ids_nodup h) (fun x hx => by
      obtain ⟨n, hn, rfl⟩ := List.mem_map.1 hx
      exact ha n hn)
    have h2 := order_le (ns := ns) (ls := ls)
    simp only [List.length_map] at h1
    omega
theorem valid_parts {ns ls : List Q4} : validG ns ls = true ↔ ns.length ≤ 64 ∧ ls.length ≤ 256 ∧ okN ns = true ∧ okK ns ls = true ∧ (orderL ns ls).length = ns.length := by
  unfold validG
  simp only [Bool.and_eq_true, decide_eq_true_eq]
  constructor
  · rintro ⟨⟨⟨⟨a, b⟩, c⟩, d⟩, e⟩; exact ⟨a, b, c, d, e⟩
  · rintro ⟨a, b, c, d, e⟩; exact ⟨⟨⟨⟨a, b⟩, c⟩, d⟩, e⟩
/-- A node more keeps a graph valid. -/
theorem valid_add {ns ls : List Q4} {n : Q4} {k : Nat} (h : validG ns ls = true) (hf : fineN n = true) (hn : findN ns n.a = none) (hl : ns.length < 64) (hc : cutAt ns (fun x => decide (x.a < n.a)) k) : validG (insN ns k n) ls = true := by
  rw [valid_parts] at h ⊢
  obtain ⟨h1, h2, h3, h4, h5⟩ := h
  rw [okN_iff] at h3
  rw [okK_iff] at h4
  have hne : ∀ x ∈ ns, x.a ≠ n.a := by
    unfold findN at hn
    rw [List.find?_eq_none] at hn
    exact fun x hx => by simpa using hn x hx
  have hasc := ins_asc h3.2 hc hne
  have hnode : ∀ id m, findN ns id = some m → nodeN (insN ns k n) id = nodeN ns id := fun id m e => by
    unfold nodeN
    rw [e, find_sub hasc e (ins_mem.2 (.inr (find_some e).1))]
  refine ⟨by rw [ins_length hc.1]; omega, h2, ?_, ?_, ?_⟩
  · rw [okN_iff]
    refine ⟨fun x hx => ?_, hasc⟩
    rcases ins_mem.1 hx with rfl | hx
    · exact hf
    · exact h3.1 x hx
  · rw [okK_iff]
    refine ⟨fun l hl => ?_, h4.2.1, ?_⟩
    · have := h4.1 l hl
      obtain ⟨⟨m, e1⟩, ⟨m2, e2⟩⟩ := ends_node this
      unfold endsL at this ⊢
      rw [hnode _ _ e1, hnode _ _ e2]
      exact this
    · refine List.Pairwise.imp_of_mem ?_ h4.2.2
      intro x y hx hy hxy
      obtain ⟨⟨m, e1⟩, ⟨m2, e2⟩⟩ := ends_node (h4.1 y hy)
      unfold clashL at hxy ⊢
      rw [hnode _ _ e1, hnode _ _ e2]
      exact hxy
  · rw [order_full hasc]
    rw [order_full h3.2] at h5
    have hr := order_run ns ls
    refine order_all (t := orderL ns ls ++ [n.a]) ?_ ?_ ?_
    · intro x hx
      rcases ins_mem.1 hx with rfl | hx
      · simp
      · exact List.mem_append_left _ (h5 x hx)
    · intro i hi
      rcases List.mem_append.1 hi with hi | hi
      · obtain ⟨m, hm, e⟩ := hr.2.1 i hi
        exact ⟨m, ins_mem.2 (.inr hm), e⟩
      · simp only [List.mem_singleton] at hi
        exact ⟨n, ins_mem.2 (.inl rfl), hi.symm⟩
    · intro p i q e l hl hi
      rcases List.eq_nil_or_concat q with rfl | ⟨q', z, rfl⟩
      · have e1 := List.append_inj_left' e rfl
        have e2 := List.append_inj_right' e rfl
        simp only [List.cons.injEq, and_true] at e2
        obtain ⟨_, ⟨m, e3⟩⟩ := ends_node (h4.1 l hl)
        have := find_some e3
        exact absurd (this.2.trans (hi.trans e2.symm)) (hne m this.1)
      · have e3 : orderL ns ls ++ [n.a] = (p ++ i :: q') ++ [z] := by rw [e]; simp
        exact hr.2.2 p i q' (List.append_inj_left' e3 rfl) l hl hi
/-- A link more keeps a graph valid, if there is an order. -/
theorem valid_connect {ns ls : List Q4} {l : Q4} {k : Nat} (h : validG ns ls = true) (he : endsL ns l = true) (hn : l ∉ ls) (hl : ls.length < 256) (hcr : crowdL ns l ls = false) (hc : cutAt ls (fun x => lessL x l) k) (ho : ns.length ≤ (orderL ns (insN ls k l)).length) : validG ns (insN ls k l) = true := by
  rw [valid_parts] at h ⊢
  obtain ⟨h1, h2, h3, h4, h5⟩ := h
  rw [okK_iff] at h4
  refine ⟨h1, by rw [ins_length hc.1]; omega, h3, ?_, Nat.le_antisymm order_le ho⟩
  rw [okK_iff]
  unfold crowdL at hcr
  rw [List.any_eq_false] at hcr
  refine ⟨fun x hx => ?_, ins_less h4.2.1 hc hn, pairwise_ins h4.2.2 (fun x hx => ?_) (fun x hx => ?_)⟩
  · rcases ins_mem.1 hx with rfl | hx
    · exact he
    · exact h4.1 x hx
  · simpa using hcr x (List.mem_of_mem_take hx)
  · rw [clash_comm]
    simpa using hcr x (List.mem_of_mem_drop hx)
end Go.Proofs.Ytmokpiacioeohaa
