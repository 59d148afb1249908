/-
  Graphs of nodes and links: which are valid, in which order the nodes run. The plain law.
-/
namespace Go.Proofs.Ytmokpiacioeohaa
/-- A row of four integers: a node (ID, kind, inputs, outputs) or a link (from, output, to, input). -/
structure Q4 where
  a : Int
  b : Int
  c : Int
  d : Int
deriving DecidableEq
def q0 : Q4 := ⟨0, 0, 0, 0⟩
def fineN (n : Q4) : Bool := decide (1 ≤ n.a) && decide (n.a ≤ 2147483647) && ((n.b == 1 && n.c == 0 && n.d == 1) || (n.b == 2 && n.c == 1 && n.d == 0) || (n.b == 3 && decide (1 ≤ n.c) && decide (n.c ≤ 8) && n.d == 1) || (n.b == 4 && n.c == 1 && n.d == 1) || (n.b == 5 && n.c == 1 && decide (1 ≤ n.d) && decide (n.d ≤ 8)))
def findN (ns : List Q4) (id : Int) : Option Q4 := ns.find? fun n => n.a == id
/-- The last one: as a map keeps it. -/
def lastN (ns : List Q4) (id : Int) : Option Q4 := ns.reverse.find? fun n => n.a == id
def nodeN (ns : List Q4) (id : Int) : Q4 := (findN ns id).getD q0
def endsL (ns : List Q4) (l : Q4) : Bool := decide (0 ≤ l.b) && decide (l.b < (nodeN ns l.a).d) && decide (0 ≤ l.d) && decide (l.d < (nodeN ns l.c).c)
def lessL (x y : Q4) : Bool := if x.a = y.a then (if x.b = y.b then (if x.c = y.c then decide (x.d < y.d) else decide (x.c < y.c)) else decide (x.b < y.b)) else decide (x.a < y.a)
def clashL (ns : List Q4) (x l : Q4) : Bool := (x.c == l.c && x.d == l.d && (nodeN ns l.c).b != 3) || (x.a == l.a && x.b == l.b && (nodeN ns l.a).b != 5 && (nodeN ns l.a).b != 1)
def crowdL (ns : List Q4) (l : Q4) (o : List Q4) : Bool := o.any fun x => clashL ns x l
def stepN (ns : List Q4) (k : Nat) : Bool := fineN (ns.getD k q0) && (k == 0 || decide ((ns.getD (k - 1) q0).a < (ns.getD k q0).a))
def okN (ns : List Q4) : Bool := (List.range ns.length).all (stepN ns)
def stepK (ns ls : List Q4) (k : Nat) : Bool := endsL ns (ls.getD k q0) && (k == 0 || lessL (ls.getD (k - 1) q0) (ls.getD k q0)) && !crowdL ns (ls.getD k q0) (ls.take k)
def okK (ns ls : List Q4) : Bool := (List.range ls.length).all (stepK ns ls)
def freeN (ls : List Q4) (out : List Int) (n : Q4) : Bool := !out.contains n.a && ls.all fun l => l.c != n.a || out.contains l.a
def nextN (ns ls : List Q4) (out : List Int) : Option Q4 := ns.find? (freeN ls out)
def runN (ns ls : List Q4) : Nat → List Int → List Int
  | 0, out => out
  | k + 1, out => match nextN ns ls out with | none => out | some n => runN ns ls k (out ++ [n.a])
def orderL (ns ls : List Q4) : List Int := runN ns ls ns.length []
def validG (ns ls : List Q4) : Bool := decide (ns.length ≤ 64) && decide (ls.length ≤ 256) && okN ns && okK ns ls && decide ((orderL ns ls).length = ns.length)
theorem range_all_no {n k : Nat} {f : Nat → Bool} (hk : k < n) (h : f k = false) : (List.range n).all f = false := by
  cases e : (List.range n).all f
  · rfl
  · rw [List.all_eq_true] at e
    rw [e k (List.mem_range.2 hk)] at h
    cases h
theorem range_all_up {k : Nat} {f : Nat → Bool} (h : (List.range k).all f = true) (hk : f k = true) : (List.range (k + 1)).all f = true := by
  rw [List.range_succ, List.all_append, h]
  simp [hk]
theorem range_all_at {n k : Nat} {f : Nat → Bool} (h : (List.range n).all f = true) (hk : k < n) : f k = true := List.all_eq_true.1 h k (List.mem_range.2 hk)
/-- How many nodes are yet to come. -/
def leftN (ns : List Q4) (out : List Int) : Nat := (ns.filter fun n => !out.contains n.a).length
theorem filter_lt {α : Type} {p q : α → Bool} {l : List α} (h : ∀ x, q x = true → p x = true) {x : α} (hx : x ∈ l) (h1 : p x = true) (h2 : q x = false) : (l.filter q).length < (l.filter p).length := by
  induction l with
  | nil => simp at hx
  | cons y l ih =>
    have hle : ∀ l : List α, (l.filter q).length ≤ (l.filter p).length := by
      intro l
      induction l with
      | nil => simp
      | cons z l ih =>
        simp only [List.filter_cons]
        cases e : q z
        · cases p z <;> simp <;> omega
        · rw [h z e]; simp; omega
    simp only [List.filter_cons]
    rcases List.mem_cons.1 hx with rfl | hx
    · rw [h1, h2]
      simp
      have := hle l
      omega
    · have := ih hx
      cases e : q y
      · cases p y <;> simp <;> omega
      · rw [h y e]; simp; omega
theorem next_some {ns ls : List Q4} {out : List Int} {n : Q4} (h : nextN ns ls out = some n) : n ∈ ns ∧ freeN ls out n = true := ⟨List.mem_of_find?_eq_some h, by simpa using List.find?_some h⟩
theorem free_new {ls : List Q4} {out : List Int} {n : Q4} (h : freeN ls out n = true) : n.a ∉ out := by
  simp only [freeN, Bool.and_eq_true, Bool.not_eq_true', List.contains_eq_mem, decide_eq_false_iff_not] at h
  exact h.1
theorem free_from {ls : List Q4} {out : List Int} {n : Q4} (h : freeN ls out n = true) {l : Q4} (hl : l ∈ ls) (hc : l.c = n.a) : l.a ∈ out := by
  simp only [freeN, Bool.and_eq_true, List.all_eq_true, Bool.or_eq_true, bne_iff_ne, ne_eq, List.contains_eq_mem, decide_eq_true_eq] at h
  rcases h.2 l hl with x | x
  · exact absurd hc x
  · exact x
theorem left_lt {ns ls : List Q4} {out : List Int} {n : Q4} (h : nextN ns ls out = some n) : leftN ns (out ++ [n.a]) < leftN ns out := by
  obtain ⟨h1, h2⟩ := next_some h
  refine filter_lt (fun x hx => ?_) h1 ?_ ?_
  · simp only [Bool.not_eq_true', List.contains_eq_mem, decide_eq_false_iff_not, List.mem_append] at hx ⊢
    exact fun hc => hx (.inl hc)
  · simpa using free_new h2
  · simp
theorem run_stop {ns ls : List Q4} {out : List Int} (h : nextN ns ls out = none) : ∀ k, runN ns ls k out = out
  | 0 => rfl
  | k + 1 => by simp [runN, h]
theorem run_enough {ns ls : List Q4} : ∀ k out, leftN ns out ≤ k → ∀ m, leftN ns out ≤ m → runN ns ls k out = runN ns ls m out
  | k, out, hk, m, hm => by
    cases e : nextN ns ls out with
    | none => rw [run_stop e, run_stop e]
    | some n =>
      have hl := left_lt e
      cases k with
      | zero => omega
      | succ k =>
        cases m with
        | zero => omega
        | succ m =>
          simp only [runN, e]
          exact run_enough k _ (by omega) m (by omega)
theorem left_nil (ns : List Q4) : leftN ns [] ≤ ns.length := List.length_filter_le _ _
/-- One step more. -/
theorem order_step {ns ls : List Q4} {out : List Int} {n : Q4} (h : nextN ns ls out = some n) (he : runN ns ls (leftN ns out) out = orderL ns ls) : runN ns ls (leftN ns (out ++ [n.a])) (out ++ [n.a]) = orderL ns ls := by
  rw [← he]
  have hl := left_lt h
  cases e : leftN ns out with
  | zero => omega
  | succ k =>
    simp only [runN, h]
    exact run_enough _ _ (Nat.le_refl _) _ (by omega)
theorem order_nil (ns ls : List Q4) : runN ns ls (leftN ns []) [] = orderL ns ls := run_enough _ _ (Nat.le_refl _) _ (left_nil ns)
theorem order_end {ns ls : List Q4} {out : List Int} (h : nextN ns ls out = none) (he : runN ns ls (leftN ns out) out = orderL ns ls) : out = orderL ns ls := by rw [← he, run_stop h]
/-- A partial order: ids of nodes, each once, behind all that lead to it. -/
def Run (ns ls : List Q4) (out : List Int) : Prop := out.Nodup ∧ (∀ i ∈ out, ∃ n ∈ ns, n.a = i) ∧ ∀ p i q, out = p ++ i :: q → ∀ l ∈ ls, l.c = i → l.a ∈ p
theorem run_nil (ns ls : List Q4) : Run ns ls [] := ⟨List.nodup_nil, by simp, fun p i q h => by simp at h⟩
theorem run_snoc {ns ls : List Q4} {out : List Int} {n : Q4} (h : Run ns ls out) (hn : n ∈ ns) (hf : freeN ls out n = true) : Run ns ls (out ++ [n.a]) := by
  obtain ⟨h1, h2, h3⟩ := h
  refine ⟨?_, ?_, ?_⟩
  · rw [List.nodup_append]
    refine ⟨h1, by simp, ?_⟩
    intro x hx y hy e
    simp only [List.mem_singleton] at hy
    subst e hy
    exact free_new hf hx
  · intro i hi
    rcases List.mem_append.1 hi with hi | hi
    · exact h2 i hi
    · simp only [List.mem_singleton] at hi
      exact ⟨n, hn, hi.symm⟩
  · intro p i q e l hl hc
    rcases List.eq_nil_or_concat q with rfl | ⟨q', z, rfl⟩
    · have := List.append_inj_left' e rfl
      have e2 := List.append_inj_right' e rfl
      simp only [List.cons.injEq, and_true] at e2
      subst this
      exact free_from hf hl (hc.trans e2.symm)
    · have e3 : out ++ [n.a] = (p ++ i :: q') ++ [z] := by rw [e]; simp
      have := List.append_inj_left' e3 rfl
      exact h3 p i q' this l hl hc
theorem run_run {ns ls : List Q4} : ∀ k out, Run ns ls out → Run ns ls (runN ns ls k out)
  | 0, out, h => h
  | k + 1, out, h => by
    cases e : nextN ns ls out with
    | none => simp only [runN, e]; exact h
    | some n =>
      simp only [runN, e]
      exact run_run k _ (run_snoc h (next_some e).1 (next_some e).2)
theorem order_run (ns ls : List Q4) : Run ns ls (orderL ns ls) := run_run _ _ (run_nil ns ls)
theorem order_stuck (ns ls : List Q4) : nextN ns ls (orderL ns ls) = none := by
  have : ∀ k out, leftN ns out ≤ k → nextN ns ls (runN ns ls k out) = none := by
    intro k
    induction k with
    | zero =>
      intro out h
      cases e : nextN ns ls out with
      | none => simpa [runN] using e
      | some n => have := left_lt e; omega
    | succ k ih =>
      intro out h
      cases e : nextN ns ls out with
      | none => simp only [runN, e]
      | some n =>
        simp only [runN, e]
        exact ih _ (by have := left_lt e; omega)
  exact this _ _ (left_nil ns)
/-- Where some order of all nodes is known, the order has all of them. -/
theorem order_all {ns ls : List Q4} {t : List Int} (ht : ∀ n ∈ ns, n.a ∈ t) (hT : ∀ i ∈ t, ∃ n ∈ ns, n.a = i) (h : ∀ p i q, t = p ++ i :: q → ∀ l ∈ ls, l.c = i → l.a ∈ p) : ∀ n ∈ ns, n.a ∈ orderL ns ls := by
  have hs := order_stuck ns ls
  have : ∀ q p, t = p ++ q → (∀ i ∈ p, i ∈ orderL ns ls) → ∀ i ∈ t, i ∈ orderL ns ls := by
    intro q
    induction q with
    | nil => intro p e hp i hi; rw [e, List.append_nil] at hi; exact hp i hi
    | cons z q ih =>
      intro p e hp
      refine ih (p ++ [z]) (by simp [e]) ?_
      intro i hi
      rcases List.mem_append.1 hi with hi | hi
      · exact hp i hi
      · simp only [List.mem_singleton] at hi
        subst hi
        refine Classical.byContradiction fun hc => ?_
        obtain ⟨n, hn, en⟩ := hT i (by rw [e]; simp)
        have := List.find?_eq_none.1 hs n hn
        apply this
        simp only [freeN, Bool.and_eq_true, Bool.not_eq_true', List.contains_eq_mem, decide_eq_false_iff_not, List.all_eq_true, Bool.or_eq_true, bne_iff_ne, ne_eq, decide_eq_true_eq]
        refine ⟨by rw [en]; exact hc, fun l hl => ?_⟩
        by_cases hx : l.c = n.a
        · exact .inr (hp _ (h p i q e l hl (hx.trans en)))
        · exact .inl hx
  exact fun n hn => this t [] rfl (by simp) _ (ht n hn)
end Go.Proofs.Ytmokpiacioeohaa
