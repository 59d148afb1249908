/-
  A region that draws its order, walked ONCE in the order of the text, though its calls make memory: every operation of its head gives one value in all worlds that meet S ('calm'), or some value with a property that growth keeps ('float'); its tail waits for the head. Plain lemmas over whatever program.
-/
import Derived.StillTail
import Derived.Below
import Derived.WalkKit
namespace Go.Proofs.Ytmokpiacioeohaa
open Go.RowKit

/-- Only new memory: all that was there is as it was. -/
abbrev Grows (w w' : World) : Prop := Below w.heap.size w w'
theorem Grows.rfl' (w : World) : Grows w w := Below.refl _ _
theorem Grows.trans' {a b c : World} (h : Grows a b) (k : Grows b c) : Grows a c := Below.trans h (k.mono h.size)
theorem Grows.drew' (w : World) : Grows w w.drew := (Below.refl _ _).drew

/-- The op gives the value v and only new memory. -/
def calmR (P : Program) (w : World) : Result Next → Value → Prop
  | .ok (.value u) w', v => u = v ∧ Grows w w'
  | .ok .skip w', v => v = undef ∧ Grows w w'
  | .ok (.enter f args) w', v => Calls P f args w' fun e w'' => e = .returned v ∧ Grows w w''
  | _, _ => False
/-- The op gives some value with D, and only new memory. -/
def floatR (P : Program) (w : World) (D : Value → World → Prop) : Result Next → Prop
  | .ok (.value u) w' => D u w' ∧ Grows w w'
  | .ok (.enter f args) w' => Calls P f args w' fun e w'' => ∃ u, e = .returned u ∧ D u w'' ∧ Grows w w''
  | _ => False

section
variable {P : Program} {ops : Array Oper} {S : World → Prop} {md : Region.Mode}

def CalmAt (P : Program) (ops : Array Oper) (S : World → Prop) (o : Oper) (v : Value) (a : Act) : Prop :=
  (Region.wanted o (yielded ops a.tmps) = true ∧ ∀ w, S w → calmR P w ((execOp a.eval o).run P w) v) ∨ (Region.wanted o (yielded ops a.tmps) = false ∧ v = undef)
def FloatAt (P : Program) (S : World → Prop) (o : Oper) (D : Value → World → Prop) (a : Act) : Prop :=
  o.guard = none ∧ ∀ w, S w → floatR P w D ((execOp a.eval o).run P w)

abbrev Floats := List (Nat × (Value → World → Prop))
def Floats.at (fl : Floats) (k : Nat) : Option (Value → World → Prop) := fl.lookup k

theorem run_agree {o : Oper} (hs : ∀ cs b, o.op ≠ .select cs b) {a a' : Act} (h : ∀ t ∈ o.looksAt ops, a.tmps[t]? = a'.tmps[t]?) : execOp a.eval o = execOp a'.eval o := by
  refine execOp_congr o hs fun x hx => ?_
  cases x with
  | tmp t =>
    have := h t (List.mem_append_left _ (List.mem_filterMap.2 ⟨.tmp t, by simpa using hx, rfl⟩))
    simp [Act.eval, this]
  | _ => rfl
theorem wanted_agree {o : Oper} {a a' : Act} (h : ∀ t ∈ o.looksAt ops, a.tmps[t]? = a'.tmps[t]?) : Region.wanted o (yielded ops a.tmps) = Region.wanted o (yielded ops a'.tmps) := by
  unfold Region.wanted
  cases hg : o.guard with
  | none => rfl
  | some gw =>
    obtain ⟨g, want⟩ := gw
    have hy : yielded ops a.tmps g = yielded ops a'.tmps g := by
      unfold yielded
      cases ht : (ops[g]?).bind (·.dst) with
      | none => rfl
      | some t =>
        have := h t (List.mem_append_right _ (by simp [hg, ht]))
        simp [this]
    simp only [hy]
theorem CalmAt.agree {o : Oper} (hs : ∀ cs b, o.op ≠ .select cs b) {v : Value} {a a' : Act} (h : ∀ t ∈ o.looksAt ops, a.tmps[t]? = a'.tmps[t]?) (hc : CalmAt P ops S o v a) : CalmAt P ops S o v a' := by
  unfold CalmAt at *
  rw [← run_agree (ops := ops) hs h, ← wanted_agree h]
  exact hc

/-! ### the walk in the order of the text -/
def wpCalm (P : Program) (ops : Array Oper) (S : World → Prop) (fl : Floats) (L : Act → Prop) : List Oper → Nat → Act → Prop
  | [], _, a => L a
  | o :: l, k, a =>
    match fl.at k with
    | some D => FloatAt P S o D a ∧ wpCalm P ops S fl L l (k + 1) a
    | none => ∃ v, CalmAt P ops S o v a ∧ wpCalm P ops S fl L l (k + 1) (a.put o.dst v)

def stepAct (fl : Floats) (val : Nat → Value) (o : Oper) (k : Nat) (a : Act) : Act := match fl.at k with | some _ => a | none => a.put o.dst (val k)
def fin (fl : Floats) (val : Nat → Value) : List Oper → Nat → Act → Act
  | [], _, a => a
  | o :: l, k, a => fin fl val l (k + 1) (stepAct fl val o k a)
def Good (P : Program) (ops : Array Oper) (S : World → Prop) (fl : Floats) (val : Nat → Value) : List Oper → Nat → Act → Prop
  | [], _, _ => True
  | o :: l, k, a => (match fl.at k with | some D => FloatAt P S o D a | none => CalmAt P ops S o (val k) a) ∧ Good P ops S fl val l (k + 1) (stepAct fl val o k a)

theorem fin_congr {fl : Floats} {val val' : Nat → Value} : ∀ (l : List Oper) (k : Nat) (a : Act), (∀ j, k ≤ j → val j = val' j) → fin fl val l k a = fin fl val' l k a
  | [], _, _, _ => rfl
  | o :: l, k, a, h => by
    simp only [fin, stepAct, h k (Nat.le_refl _)]
    exact fin_congr l (k + 1) _ fun j hj => h j (by omega)
theorem Good_congr {fl : Floats} {val val' : Nat → Value} : ∀ (l : List Oper) (k : Nat) (a : Act), (∀ j, k ≤ j → val j = val' j) → Good P ops S fl val l k a → Good P ops S fl val' l k a
  | [], _, _, _, _ => trivial
  | o :: l, k, a, h, hg => by
    simp only [Good, stepAct, h k (Nat.le_refl _)] at hg ⊢
    exact ⟨hg.1, Good_congr l (k + 1) _ (fun j hj => h j (by omega)) hg.2⟩
theorem good_of_wpCalm {fl : Floats} {L : Act → Prop} : ∀ (l : List Oper) (k : Nat) (a : Act), wpCalm P ops S fl L l k a → ∃ val, Good P ops S fl val l k a ∧ L (fin fl val l k a)
  | [], _, a, h => ⟨fun _ => undef, trivial, h⟩
  | o :: l, k, a, h => by
    unfold wpCalm at h
    cases hf : fl.at k with
    | some D =>
      simp only [hf] at h
      obtain ⟨val, hg, hL⟩ := good_of_wpCalm l (k + 1) a h.2
      exact ⟨val, by simp only [Good, hf, stepAct]; exact ⟨h.1, hg⟩, by simp only [fin, stepAct, hf]; exact hL⟩
    | none =>
      simp only [hf] at h
      obtain ⟨v, hc, h2⟩ := h
      obtain ⟨val, hg, hL⟩ := good_of_wpCalm l (k + 1) (a.put o.dst v) h2
      have hcg : ∀ j, k + 1 ≤ j → val j = (fun i => if i = k then v else val i) j := fun j hj => by simp only []; rw [if_neg (by omega)]
      refine ⟨fun i => if i = k then v else val i, ?_, ?_⟩
      · simp only [Good, hf, stepAct, if_true]
        exact ⟨hc, Good_congr l (k + 1) _ hcg hg⟩
      · simp only [fin, stepAct, hf, if_true]
        rw [← fin_congr l (k + 1) _ hcg]
        exact hL

/-! ### what the frame holds in the order of the text -/
theorem put_size (a : Act) (d : Option Tmp) (v : Value) : (a.put d v).tmps.size = a.tmps.size := by cases d <;> simp [Act.put]
theorem put_defers' (a : Act) (d : Option Tmp) (v : Value) : (a.put d v).defers = a.defers := by cases d <;> rfl
theorem put_get_ne {a : Act} {d : Option Tmp} {v : Value} {t : Nat} (h : d ≠ some t) : (a.put d v).tmps[t]? = a.tmps[t]? := by
  cases d with
  | none => rfl
  | some d => exact Array.getElem?_setIfInBounds_ne (fun e => h (by rw [e]))
theorem put_get_eq {a : Act} {v : Value} {t : Nat} (h : t < a.tmps.size) : (a.put (some t) v).tmps[t]? = some v := by
  simp [Act.put, h]

theorem stepAct_size (fl : Floats) (val : Nat → Value) (o : Oper) (k : Nat) (a : Act) : (stepAct fl val o k a).tmps.size = a.tmps.size := by
  unfold stepAct; split
  · rfl
  · exact put_size _ _ _
theorem stepAct_defers (fl : Floats) (val : Nat → Value) (o : Oper) (k : Nat) (a : Act) : (stepAct fl val o k a).defers = a.defers := by
  unfold stepAct; split
  · rfl
  · exact put_defers' _ _ _
theorem fin_size {fl : Floats} {val : Nat → Value} : ∀ (l : List Oper) (k : Nat) (a : Act), (fin fl val l k a).tmps.size = a.tmps.size
  | [], _, _ => rfl
  | _ :: l, k, _ => (fin_size l (k + 1) _).trans (stepAct_size _ _ _ _ _)
theorem fin_defers {fl : Floats} {val : Nat → Value} : ∀ (l : List Oper) (k : Nat) (a : Act), (fin fl val l k a).defers = a.defers
  | [], _, _ => rfl
  | _ :: l, k, _ => (fin_defers l (k + 1) _).trans (stepAct_defers _ _ _ _ _)
/-- A slot that no calm op of the list writes. -/
theorem fin_other {fl : Floats} {val : Nat → Value} {t : Nat} : ∀ (l : List Oper) (k : Nat) (a : Act), (∀ j o, l[j]? = some o → fl.at (k + j) = none → o.dst ≠ some t) → (fin fl val l k a).tmps[t]? = a.tmps[t]?
  | [], _, _, _ => rfl
  | o :: l, k, a, h => by
    have h0 : (stepAct fl val o k a).tmps[t]? = a.tmps[t]? := by
      unfold stepAct
      cases hf : fl.at k with
      | some D => rfl
      | none => exact put_get_ne (h 0 o rfl (by simpa using hf))
    rw [fin, fin_other l (k + 1) _ fun j o' hj hn => h (j + 1) o' (by simpa using hj) (by rw [← hn]; congr 1; omega)]
    exact h0
/-- The slot of calm op number j, where no two ops write one slot. -/
theorem fin_at {fl : Floats} {val : Nat → Value} {t : Nat} : ∀ (l : List Oper) (k : Nat) (a : Act) (j : Nat) (o : Oper), l[j]? = some o → o.dst = some t → fl.at (k + j) = none → t < a.tmps.size →
    (∀ i o', l[i]? = some o' → i ≠ j → o'.dst ≠ some t) → (fin fl val l k a).tmps[t]? = some (val (k + j))
  | [], _, _, _, _, hj, _, _, _, _ => by simp at hj
  | o' :: l, k, _, 0, _, hj, hd, hn, ht, hu => by
    simp only [List.getElem?_cons_zero, Option.some.injEq] at hj
    subst hj
    rw [fin, fin_other l (k + 1) _ fun j o' hj _ => hu (j + 1) o' (by simpa using hj) (by omega)]
    simp only [stepAct, show fl.at k = none from by simpa using hn, hd, Nat.add_zero]
    exact put_get_eq ht
  | _ :: l, k, _, j + 1, o, hj, hd, hn, ht, hu => by
    rw [fin, show k + (j + 1) = k + 1 + j by omega]
    exact fin_at l (k + 1) _ j o (by simpa using hj) hd (by rw [← hn]; congr 1; omega) (by rw [stepAct_size]; exact ht) fun i o' hi hne => hu (i + 1) o' (by simpa using hi) (by omega)
theorem good_at {fl : Floats} {val : Nat → Value} : ∀ (l : List Oper) (k : Nat) (a : Act) (j : Nat) (o : Oper), Good P ops S fl val l k a → l[j]? = some o →
    (match fl.at (k + j) with | some D => FloatAt P S o D (fin fl val (l.take j) k a) | none => CalmAt P ops S o (val (k + j)) (fin fl val (l.take j) k a))
  | [], _, _, _, _, _, hj => by simp at hj
  | _ :: l, k, _, 0, o, hg, hj => by
    simp only [List.getElem?_cons_zero, Option.some.injEq] at hj
    subst hj
    simpa [Good, fin] using hg.1
  | _ :: l, k, _, j + 1, o, hg, hj => by
    have := good_at l (k + 1) _ j o hg.2 (by simpa using hj)
    rw [show k + 1 + j = k + (j + 1) by omega] at this
    simpa [fin] using this

/-! ### the check, in one closed Bool -/
def mixB (md : Region.Mode) (ops : Array Oper) (n N : Nat) (ks : List Nat) : Bool :=
  Region.noSelect ops && decide (n ≤ ops.size) && decide ks.Nodup && ks.all (fun k => decide (k < n) && ((ops[k]?).bind (·.dst)).isSome) &&
  (decide (n = ops.size) || (decide (n < ops.size) && Region.sinkB md ops n && Region.chainB md ops n)) &&
  Region.seqB md ops (ops.size - n) n ((Array.replicate n true) ++ (Array.replicate (ops.size - n) false)) &&
  (List.range n).all (fun i => match ops[i]? with
    | none => false
    | some o => (match o.dst with | none => true | some t => decide (t < N)) && o.after.all (fun e => !Region.binds md e || decide (e.on < i)) &&
      (List.range n).all (fun k => (k == i || match o.dst with | none => true | some t => !((ops[k]?).bind (·.dst) == some t)) &&
        (match (ops[k]?).bind (·.dst) with
         | none => true
         | some t => !(o.looksAt ops).contains t || (decide (k < i) && !ks.contains k && Region.waitsFor md ops i k))))

structure MixOk (md : Region.Mode) (ops : Array Oper) (n N : Nat) (ks : List Nat) : Prop where
  sel : Region.noSelect ops = true
  le : n ≤ ops.size
  nd : ks.Nodup
  fl : ∀ k ∈ ks, k < n ∧ ∃ t, (ops[k]?).bind (·.dst) = some t
  tail : n = ops.size ∨ (n < ops.size ∧ Region.sinkB md ops n = true ∧ Region.chainB md ops n = true)
  seq : Region.seqB md ops (ops.size - n) n ((Array.replicate n true) ++ (Array.replicate (ops.size - n) false)) = true
  bd : ∀ i o t, i < n → ops[i]? = some o → o.dst = some t → t < N
  back : ∀ i o, i < n → ops[i]? = some o → ∀ e ∈ o.after, Region.binds md e = true → e.on < i
  ne : ∀ i o k o' t, i < n → k < n → ops[i]? = some o → ops[k]? = some o' → k ≠ i → o.dst = some t → o'.dst ≠ some t
  look : ∀ i o k o' t, i < n → k < n → ops[i]? = some o → ops[k]? = some o' → o'.dst = some t → t ∈ o.looksAt ops → k < i ∧ k ∉ ks ∧ Region.waitsFor md ops i k = true

theorem mixOk_of {n N : Nat} {ks : List Nat} (h : mixB md ops n N ks = true) : MixOk md ops n N ks := by
  simp only [mixB, Bool.and_eq_true, decide_eq_true_eq, List.all_eq_true, Bool.or_eq_true, List.mem_range] at h
  obtain ⟨⟨⟨⟨⟨⟨h1, h2⟩, h3⟩, h4⟩, h5⟩, h6⟩, h7⟩ := h
  have H : ∀ i o, i < n → ops[i]? = some o → _ := fun i o hi ho => by
    have := h7 i hi
    rw [ho] at this
    exact this
  refine ⟨h1, h2, h3, fun k hk => ⟨(h4 k hk).1, Option.isSome_iff_exists.1 (h4 k hk).2⟩, ?_, h6, ?_, ?_, ?_, ?_⟩
  · rcases h5 with h5 | h5
    · exact .inl h5
    · exact .inr ⟨h5.1.1, h5.1.2, h5.2⟩
  · intro i o t hi ho hd
    have := (H i o hi ho)
    simp only [Bool.and_eq_true, hd, decide_eq_true_eq] at this
    exact this.1.1
  · intro i o hi ho e he hb
    have := (H i o hi ho)
    simp only [Bool.and_eq_true] at this
    have h8 := Array.all_eq_true_iff_forall_mem.1 this.1.2 e he
    simpa [hb] using h8
  · intro i o k o' t hi hk ho ho' hne hd
    have := (H i o hi ho)
    simp only [Bool.and_eq_true, List.all_eq_true, List.mem_range] at this
    have h8 := (this.2 k hk).1
    simp only [ho', Option.bind_some, hd, Bool.or_eq_true, beq_iff_eq, hne, false_or, Bool.not_eq_true', beq_eq_false_iff_ne] at h8
    exact h8
  · intro i o k o' t hi hk ho ho' hd ht
    have := (H i o hi ho)
    simp only [Bool.and_eq_true, List.all_eq_true, List.mem_range] at this
    have h8 := (this.2 k hk).2
    have hc : (o.looksAt ops).contains t = true := by simpa using ht
    simp only [ho', Option.bind_some, hd, hc, Bool.not_true, Bool.false_or, Bool.and_eq_true, decide_eq_true_eq, Bool.not_eq_true', List.contains_eq_mem, decide_eq_false_iff_not] at h8
    exact ⟨h8.1.1, h8.1.2, h8.2⟩

/-! ### one op in whatever order -/
theorem calm_wpOp {Q : Exit → Act → World → Prop} {i : Nat} {o : Oper} {v : Value} {a : Act} {w : World} {K : Act → World → Prop} (hi : ops[i]? = some o) (hc : CalmAt P ops S o v a) (hw : S w)
    (hK : ∀ w', Grows w w' → K (a.put o.dst v) w') : wpOp P ops Q i K a w := by
  unfold wpOp
  simp only [hi]
  rcases hc with ⟨hwt, hr⟩ | ⟨hwt, rfl⟩
  · simp only [hwt, if_true]
    refine .inl ?_
    have := hr w hw
    unfold Oper.wp
    generalize (execOp a.eval o).run P w = r at *
    cases r with
    | ok n w' =>
      cases n <;> simp only [calmR] at this <;> simp only [Oper.upon]
      case value u => obtain ⟨rfl, hg⟩ := this; exact hK _ hg
      case skip => obtain ⟨rfl, hg⟩ := this; exact hK _ hg
      case enter f args => exact this.mono fun e w'' ⟨he, hg⟩ => by subst he; exact hK _ hg
    | halt x w' => simp only [calmR] at this
  · simp only [hwt, Bool.false_eq_true, if_false]
    exact hK _ (Below.refl _ _)
theorem float_wpOp {Q : Exit → Act → World → Prop} {i : Nat} {o : Oper} {D : Value → World → Prop} {a : Act} {w : World} {K : Act → World → Prop} (hi : ops[i]? = some o) (hc : FloatAt P S o D a) (hw : S w)
    (hK : ∀ u w', D u w' → Grows w w' → K (a.put o.dst u) w') : wpOp P ops Q i K a w := by
  unfold wpOp
  simp only [hi, Region.wanted, hc.1, if_true]
  refine .inl ?_
  have := hc.2 w hw
  unfold Oper.wp
  generalize (execOp a.eval o).run P w = r at *
  cases r with
  | ok n w' =>
    cases n <;> simp only [floatR] at this <;> simp only [Oper.upon]
    case value u => exact hK _ _ this.1 this.2
    case enter f args => exact this.mono fun e w'' ⟨u, he, hd, hg⟩ => by subst he; exact hK _ _ hd hg
  | halt x w' => simp only [floatR] at this

/-! ### the state in whatever order -/
structure Inv (S : World → Prop) (ops : Array Oper) (n : Nat) (fl : Floats) (val : Nat → Value) (a0 : Act) (listed : Array Bool) (a : Act) (w : World) : Prop where
  s : S w
  defers : a.defers = a0.defers
  size : a.tmps.size = a0.tmps.size
  calm : ∀ k o t, k < n → ops[k]? = some o → o.dst = some t → listed.getD k false = true → fl.at k = none → a.tmps[t]? = some (val k)
  float : ∀ k o t D, k < n → ops[k]? = some o → o.dst = some t → listed.getD k false = true → fl.at k = some D → ∃ v, a.tmps[t]? = some v ∧ D v w
  other : ∀ t, (∀ k o, k < n → ops[k]? = some o → listed.getD k false = true → o.dst ≠ some t) → a.tmps[t]? = a0.tmps[t]?

theorem lookup_mem {fl : Floats} {k : Nat} : k ∉ fl.map (·.1) → fl.at k = none := by
  intro h
  unfold Floats.at
  rw [List.lookup_eq_none_iff]
  intro p hp
  simp only [bne_iff_ne, ne_eq]
  intro e
  exact h (List.mem_map.2 ⟨p, hp, e.symm⟩)
theorem lookup_some {k : Nat} {D : Value → World → Prop} : ∀ {fl : Floats}, (fl.map (·.1)).Nodup → (k, D) ∈ fl → fl.at k = some D
  | [], _, h => by simp at h
  | (k', D') :: r, hn, h => by
    simp only [List.map_cons, List.nodup_cons] at hn
    unfold Floats.at
    rw [List.lookup_cons]
    rcases List.mem_cons.1 h with h | h
    · injection h with h1 h2
      subst h1; subst h2
      simp
    · have hne : k ≠ k' := fun e => hn.1 (List.mem_map.2 ⟨(k, D), h, e⟩)
      simp only [beq_eq_false_iff_ne.2 hne]
      exact lookup_some (fl := r) hn.2 h
theorem lookup_key {fl : Floats} {k : Nat} {D : Value → World → Prop} (h : fl.at k = some D) : k ∈ fl.map (·.1) := by
  apply Classical.byContradiction
  intro hn
  rw [lookup_mem hn] at h
  cases h

theorem countP_lt {p q : Nat → Bool} {i : Nat} : ∀ (l : List Nat), i ∈ l → (∀ j ∈ l, q j = true → p j = true) → p i = true → q i = false → l.countP q < l.countP p
  | [], h, _, _, _ => by simp at h
  | x :: l, h, hle, hp, hq => by
    have hmono : l.countP q ≤ l.countP p := List.countP_mono_left fun j hj hq' => hle j (by simp [hj]) hq'
    by_cases hx : i = x
    · subst hx
      rw [List.countP_cons, List.countP_cons, hp, hq]
      simp
      omega
    · have hi : i ∈ l := by
        rcases List.mem_cons.1 h with h | h
        · exact absurd h hx
        · exact h
      have := countP_lt l hi (fun j hj => hle j (by simp [hj])) hp hq
      rw [List.countP_cons, List.countP_cons]
      have h2 := hle x (by simp)
      cases hqx : q x
      · simp; omega
      · rw [h2 hqx]; simp; omega

theorem wpAny_more {Q : Exit → Act → World → Prop} : ∀ (f : Nat) (listed : Array Bool) (a : Act) (w : World), wpAny P md ops Q f listed a w → wpAny P md ops Q (f + 1) listed a w
  | 0, _, _, _, h => ⟨fun _ => h.2, fun i hi => by rw [h.1] at hi; cases hi⟩
  | f + 1, _, _, _, h => ⟨h.1, fun i hi => wpOp_mono (fun a' w' h' => wpAny_more f _ a' w' h') (h.2 i hi)⟩
theorem wpAny_fuel {Q : Exit → Act → World → Prop} (g : Nat) (listed : Array Bool) (a : Act) (w : World) (h : wpAny P md ops Q g listed a w) : ∀ f, wpAny P md ops Q (f + g) listed a w
  | 0 => by rw [Nat.zero_add]; exact h
  | f + 1 => by rw [show f + 1 + g = (f + g) + 1 by omega]; exact wpAny_more _ _ _ _ (wpAny_fuel g listed a w h f)

section
variable {n N : Nat} {ks : List Nat} {fl : Floats} {val : Nat → Value} {a0 : Act}

theorem take_get {i : Nat} {o : Oper} (hi : i < n) (ho : ops[i]? = some o) : (ops.toList.take n)[i]? = some o := by
  rw [List.getElem?_take, if_pos hi]; simpa using ho
theorem of_take_get {i : Nat} {o : Oper} (ho : (ops.toList.take n)[i]? = some o) : i < n ∧ ops[i]? = some o := by
  rw [List.getElem?_take] at ho
  split at ho
  · exact ⟨by assumption, by simpa using ho⟩
  · cases ho

theorem op_step (ok : MixOk md ops n N ks) (hks : fl.map (·.1) = ks) (hN : a0.tmps.size = N) (good : Good P ops S fl val (ops.toList.take n) 0 a0)
    {listed : Array Bool} {a : Act} {w : World} (inv : Inv S ops n fl val a0 listed a w) {i : Nat} {o : Oper} (hi : i < n) (ho : ops[i]? = some o) (hr : i ∈ Region.ready md ops listed) :
    (match fl.at i with | some D => FloatAt P S o D a | none => CalmAt P ops S o (val i) a) := by
  have hg := good_at (ops.toList.take n) 0 a0 i o good (take_get hi ho)
  rw [Nat.zero_add] at hg
  rw [List.take_take, Nat.min_eq_left (by omega)] at hg
  have hs : ∀ cs b, o.op ≠ .select cs b := fun cs b => Region.noSelect_spec ok.sel i o cs b ho
  have agree : ∀ t ∈ o.looksAt ops, (fin fl val (ops.toList.take i) 0 a0).tmps[t]? = a.tmps[t]? := by
    intro t ht
    by_cases hex : ∃ k o', k < n ∧ ops[k]? = some o' ∧ o'.dst = some t
    · obtain ⟨k, o', hk, ho', hd⟩ := hex
      obtain ⟨h1, h2, h3⟩ := ok.look i o k o' t hi hk ho ho' hd ht
      have hcalm : fl.at k = none := lookup_mem (by rw [hks]; exact h2)
      have hlisted : listed.getD k false = true := by
        obtain ⟨oj, hoj, e, he, hb, hon⟩ := Region.waitsFor_spec h3
        obtain ⟨_, oi, hoi, hall⟩ := mem_ready.1 hr
        have : oj = oi := Option.some.inj (hoj.symm.trans hoi)
        subst this
        have := hall e he hb
        rwa [hon] at this
      have e1 := inv.calm k o' t hk ho' hd hlisted hcalm
      have hlt : t < a0.tmps.size := by rw [hN]; exact ok.bd k o' t hk ho' hd
      have e2 := fin_at (fl := fl) (val := val) (ops.toList.take i) 0 a0 k o' (take_get h1 ho') hd (by rw [Nat.zero_add]; exact hcalm) hlt (by
        intro j oj hj hne hdj
        obtain ⟨hji, hoj⟩ := of_take_get hj
        exact ok.ne j oj k o' t (by omega) hk hoj ho' (Ne.symm hne) hdj hd)
      rw [Nat.zero_add] at e2
      rw [e1, e2]
    · have e1 := inv.other t fun k o' hk ho' _ hd => hex ⟨k, o', hk, ho', hd⟩
      have e2 := fin_other (fl := fl) (val := val) (t := t) (ops.toList.take i) 0 a0 fun j oj hj _ hd => by
        obtain ⟨hji, hoj⟩ := of_take_get hj
        exact hex ⟨j, oj, by omega, hoj, hd⟩
      rw [e1, e2]
  cases hf : fl.at i with
  | some D =>
    simp only [hf] at hg ⊢
    exact ⟨hg.1, by rw [← run_agree (ops := ops) hs agree]; exact hg.2⟩
  | none =>
    simp only [hf] at hg ⊢
    exact hg.agree hs agree

theorem inv_step (ok : MixOk md ops n N ks) (hN : a0.tmps.size = N) (hS : ∀ w w', S w → Grows w w' → S w') (hD : ∀ k D, fl.at k = some D → ∀ v w w', D v w → Grows w w' → D v w')
    {listed : Array Bool} {a : Act} {w w' : World} (inv : Inv S ops n fl val a0 listed a w) {i : Nat} {o : Oper} (hi : i < n) (ho : ops[i]? = some o) (hl : i < listed.size) {u : Value}
    (hu : fl.at i = none → u = val i) (huf : ∀ D, fl.at i = some D → D u w') (hg : Grows w w') : Inv S ops n fl val a0 (listed.setIfInBounds i true) (a.put o.dst u) w' := by
  have key : ∀ k o' t, k < n → ops[k]? = some o' → o'.dst = some t → k ≠ i → (a.put o.dst u).tmps[t]? = a.tmps[t]? := by
    intro k o' t hk ho' hd hne
    exact put_get_ne fun e => ok.ne i o k o' t hi hk ho ho' hne e hd
  refine ⟨hS _ _ inv.s hg, (put_defers' _ _ _).trans inv.defers, (put_size _ _ _).trans inv.size, ?_, ?_, ?_⟩
  · intro k o' t hk ho' hd hlk hc
    by_cases hki : k = i
    · subst hki
      have : o' = o := Option.some.inj (ho'.symm.trans ho)
      subst this
      rw [hd, put_get_eq (by rw [inv.size, hN]; exact ok.bd k o' t hk ho' hd), hu hc]
    · rw [key k o' t hk ho' hd hki]
      exact inv.calm k o' t hk ho' hd (by rwa [getD_set_ne false (Ne.symm hki)] at hlk) hc
  · intro k o' t D hk ho' hd hlk hc
    by_cases hki : k = i
    · subst hki
      have : o' = o := Option.some.inj (ho'.symm.trans ho)
      subst this
      exact ⟨u, by rw [hd, put_get_eq (by rw [inv.size, hN]; exact ok.bd k o' t hk ho' hd)], huf D hc⟩
    · rw [key k o' t hk ho' hd hki]
      obtain ⟨v, hv, hDv⟩ := inv.float k o' t D hk ho' hd (by rwa [getD_set_ne false (Ne.symm hki)] at hlk) hc
      exact ⟨v, hv, hD k D hc v _ _ hDv hg⟩
  · intro t ht
    have h1 : o.dst ≠ some t := ht i o hi ho (by simp [hl])
    rw [put_get_ne h1]
    exact inv.other t fun k o' hk ho' hlk => ht k o' hk ho' (getD_set_true hlk)

theorem head_run {Q : Exit → Act → World → Prop} (ok : MixOk md ops n N ks) (hks : fl.map (·.1) = ks) (hN : a0.tmps.size = N) (hS : ∀ w w', S w → Grows w w' → S w')
    (hD : ∀ k D, fl.at k = some D → ∀ v w w', D v w → Grows w w' → D v w') (good : Good P ops S fl val (ops.toList.take n) 0 a0) (g : Nat)
    (H : ∀ listed a w, HeadInv md ops n listed → (∀ i, i < n → listed.getD i false = true) → Inv S ops n fl val a0 listed a w → wpAny P md ops Q g listed a w) :
    ∀ (f : Nat) (listed : Array Bool) (a : Act) (w : World), ((List.range n).countP fun i => !listed.getD i false) ≤ f → HeadInv md ops n listed → Inv S ops n fl val a0 listed a w →
      wpAny P md ops Q (f + g) listed a w := by
  intro f
  induction f with
  | zero =>
    intro listed a w hc hinv inv
    rw [Nat.zero_add]
    refine H listed a w hinv (fun i hi => ?_) inv
    have h0 : ((List.range n).countP fun i => !listed.getD i false) = 0 := by omega
    rw [List.countP_eq_zero] at h0
    have := h0 i (List.mem_range.2 hi)
    simpa using this
  | succ f ih =>
    intro listed a w hc hinv inv
    by_cases hall : ∀ i, i < n → listed.getD i false = true
    · exact wpAny_fuel g listed a w (H listed a w hinv hall inv) (f + 1)
    · -- some op of the head is not listed yet
      have hex : ∃ i, i < n ∧ listed.getD i false = false := by
        apply Classical.byContradiction
        intro hno
        exact hall fun i hi => by
          cases h : listed.getD i false
          · exact absurd ⟨i, hi, h⟩ hno
          · rfl
      obtain ⟨i0, hi0, hl0⟩ := hex
      have hsz : ∀ i, i < n → i < listed.size := fun i hi => by rw [hinv.size]; have := ok.le; omega
      -- the least one is ready
      have hready : Region.ready md ops listed ≠ [] := by
        have : ∀ d i, i ≤ d → i < n → listed.getD i false = false → ∃ j, j ∈ Region.ready md ops listed := by
          intro d
          induction d with
          | zero =>
            intro i hid hi hl
            obtain ⟨o, ho⟩ : ∃ o, ops[i]? = some o := ⟨ops[i]'(by have := ok.le; omega), by simp [show i < ops.size by have := ok.le; omega]⟩
            refine ⟨i, mem_ready.2 ⟨getD_in (hsz i hi) hl, o, ho, fun e he hb => ?_⟩⟩
            have := ok.back i o hi ho e he hb
            omega
          | succ d ihd =>
            intro i hid hi hl
            obtain ⟨o, ho⟩ : ∃ o, ops[i]? = some o := ⟨ops[i]'(by have := ok.le; omega), by simp [show i < ops.size by have := ok.le; omega]⟩
            by_cases hw : ∀ e ∈ o.after, Region.binds md e = true → listed.getD e.on false = true
            · exact ⟨i, mem_ready.2 ⟨getD_in (hsz i hi) hl, o, ho, hw⟩⟩
            · have : ∃ e ∈ o.after, Region.binds md e = true ∧ listed.getD e.on false = false := by
                apply Classical.byContradiction
                intro hno
                exact hw fun e he hb => by
                  cases h : listed.getD e.on false
                  · exact absurd ⟨e, he, hb, h⟩ hno
                  · rfl
              obtain ⟨e, he, hb, hle⟩ := this
              have hlt := ok.back i o hi ho e he hb
              exact ihd e.on (by omega) (by omega) hle
        obtain ⟨j, hj⟩ := this i0 i0 (Nat.le_refl _) hi0 hl0
        intro h0
        rw [h0] at hj
        cases hj
      rw [show f + 1 + g = (f + g) + 1 by omega]
      refine ⟨fun h0 => absurd h0 hready, fun i hir => ?_⟩
      have hin : i < n := by
        rcases Nat.lt_or_ge i n with h | h
        · exact h
        · exfalso
          obtain ⟨_, oi, hoi, _⟩ := mem_ready.1 hir
          have hlt : i < ops.size := (Array.getElem?_eq_some_iff.1 hoi).1
          rcases ok.tail with ht | ⟨ht, hs, hch⟩
          · omega
          · exact tail_waits hs hch ht hinv _ i0 rfl hi0 (getD_in (hsz i0 hi0) hl0) i h hir
      obtain ⟨hun, o, ho, _⟩ := mem_ready.1 hir
      have hst := op_step ok hks hN good inv hin ho hir
      have hunf : listed.getD i false = false := getD_both hun
      have hcnt : ((List.range n).countP fun j => !(listed.setIfInBounds i true).getD j false) ≤ f := by
        have := countP_lt (p := fun j => !listed.getD j false) (q := fun j => !(listed.setIfInBounds i true).getD j false) (List.range n) (List.mem_range.2 hin)
          (fun j _ hj => by
            simp only [Bool.not_eq_true'] at hj ⊢
            cases h : listed.getD j false
            · rfl
            · rw [getD_set_true h] at hj; cases hj) (by simp only [hunf, Bool.not_false]) (by simp [hsz i hin])
        omega
      have hinv' := hinv.set hir hin
      cases hf : fl.at i with
      | some D =>
        simp only [hf] at hst
        exact float_wpOp ho hst inv.s fun u w' hu hg => ih _ _ _ hcnt hinv' (inv_step ok hN hS hD inv hin ho (hsz i hin) (fun h => by rw [hf] at h; cases h) (fun D' h => by rw [hf] at h; injection h with h; subst h; exact hu) hg)
      | none =>
        simp only [hf] at hst
        exact calm_wpOp ho hst inv.s fun w' hg => ih _ _ _ hcnt hinv' (inv_step ok hN hS hD inv hin ho (hsz i hin) (fun _ => rfl) (fun D' h => by rw [hf] at h; cases h) hg)

/-- Behind the head: each float's value, and what is known of it. -/
def endMix (ops : Array Oper) (T : Act → World → Prop) (S : World → Prop) : Floats → Act → (World → Prop) → Prop
  | [], a, F => ∀ w, S w → F w → T a w
  | (k, D) :: r, a, F => ∀ v, endMix ops T S r (a.put ((ops[k]?).bind (·.dst)) v) fun w => F w ∧ D v w

theorem endMix_out {T : Act → World → Prop} {a : Act} {w : World} (hs : S w) : ∀ (r : Floats) (b : Act) (F : World → Prop), endMix ops T S r b F → F w → b.defers = a.defers → b.tmps.size = a.tmps.size →
    (∀ k D, (k, D) ∈ r → ∃ t v, (ops[k]?).bind (·.dst) = some t ∧ a.tmps[t]? = some v ∧ D v w) →
    (∀ t : Nat, (∀ k D, (k, D) ∈ r → (ops[k]?).bind (·.dst) ≠ some t) → b.tmps[t]? = a.tmps[t]?) → T a w
  | [], b, F, h, hF, hd, hsz, _, hag => by
    have hb : b = a := by
      obtain ⟨bt, bd⟩ := b
      obtain ⟨at', ad⟩ := a
      simp only at hd hsz hag
      subst hd
      congr 1
      exact Array.ext_getElem? fun t => hag t (by simp)
    subst hb
    exact h w hs hF
  | (k, D) :: r, b, F, h, hF, hd, hsz, hfl, hag => by
    obtain ⟨t, v, ht, hv, hDv⟩ := hfl k D (by simp)
    have hlt : t < b.tmps.size := by
      rw [hsz]
      rcases Nat.lt_or_ge t a.tmps.size with h1 | h1
      · exact h1
      · rw [Array.getElem?_eq_none h1] at hv; cases hv
    refine endMix_out hs r _ _ (h v) ⟨hF, hDv⟩ ((put_defers' _ _ _).trans hd) ((put_size _ _ _).trans hsz) (fun k' D' hk' => hfl k' D' (by simp [hk'])) fun t' ht' => ?_
    rw [ht]
    by_cases e : t = t'
    · subst e
      rw [put_get_eq hlt, hv]
    · rw [put_get_ne (by simpa using e)]
      refine hag t' fun k' D' hk' => ?_
      rcases List.mem_cons.1 hk' with hk' | hk'
      · injection hk' with h1 h2
        subst h1
        rw [ht]
        simpa using e
      · exact ht' k' D' hk'
end

theorem wp_region_mix {id : Nat} {Q : Exit → Act → World → Prop} {a : Act} {w : World} {l : List Oper} (S : World → Prop) (fl : Floats) (n N : Nat) (hm : P.follows .mixedOrders = true) (hB : mixB .any l.toArray n N (fl.map (·.1)) = true)
    (hN : a.tmps.size = N) (hS : ∀ w w', S w → Grows w w' → S w') (hD : ∀ k D, fl.at k = some D → ∀ v w w', D v w → Grows w w' → D v w') (h0 : S w.drew)
    (h : wpCalm P l.toArray S fl (fun a' => endMix l.toArray (fun a'' w' => wpList P l.toArray Q (l.drop n) a'' w') S fl a' fun _ => True) (l.take n) 0 a) : (Code.region id l.toArray true).wp P Q a w := by
  have ok := mixOk_of hB
  have hle : n ≤ l.length := by simpa using ok.le
  obtain ⟨val, good, hL⟩ := good_of_wpCalm (l.take n) 0 a h
  refine wp_region_any hm ?_
  have inv0 : HeadInv .any l.toArray n (Array.replicate l.toArray.size false) :=
    ⟨by simp, fun j oj _ hl => (by rw [getD_replicate_false] at hl; cases hl), fun t _ ht => getD_in (by simpa using ht) (getD_replicate_false _ _)⟩
  have key := head_run (md := .any) (Q := Q) (ops := l.toArray) (S := S) (fl := fl) (val := val) (a0 := a) ok rfl hN hS hD (by simpa using good) (l.length - n) (by
    intro listed b w' hinv hall inv
    refine (show l.length - n = (l.drop n).length by simp) ▸ wpAny_of_seq (l.drop n) n listed b w' (fun j => by simp [List.getElem?_drop]) ?_ ?_
    · have hls : listed = (Array.replicate n true) ++ (Array.replicate (l.length - n) false) := by
        refine Array.ext (by simp [hinv.size]; omega) fun i h1 h2 => ?_
        have hsz : i < l.length := by have := hinv.size; simp at this; omega
        by_cases hin : i < n
        · have := hall i hin
          rw [Array.getElem_append_left (by simpa using hin)]
          simpa [h1] using this
        · have := hinv.tail i (by omega) (by simpa using hsz)
          rw [Array.getElem_append_right (by simp; omega)]
          simpa [h1] using this
      have := ok.seq
      rw [hls]
      simpa using this
    · refine endMix_out (ops := l.toArray) (T := fun a'' w' => wpList P l.toArray Q (l.drop n) a'' w') inv.s fl _ _ hL trivial ((fin_defers _ _ _).trans inv.defers.symm) ((fin_size _ _ _).trans inv.size.symm) ?_ ?_
      · intro k D hk
        obtain ⟨hkn, t, ht⟩ := ok.fl k (List.mem_map.2 ⟨(k, D), hk, rfl⟩)
        obtain ⟨o, ho, hd⟩ := Option.bind_eq_some_iff.1 ht
        obtain ⟨v, hv, hDv⟩ := inv.float k o t D hkn ho hd (hall k hkn) (lookup_some ok.nd hk)
        exact ⟨t, v, ht, hv, hDv⟩
      · intro t ht
        by_cases hex : ∃ k o', k < n ∧ l.toArray[k]? = some o' ∧ o'.dst = some t
        · obtain ⟨k, o', hk, ho', hd⟩ := hex
          have hcalm : fl.at k = none := by
            cases hf : fl.at k with
            | none => rfl
            | some D =>
              exfalso
              have hm := lookup_key hf
              obtain ⟨⟨k', D'⟩, hmem, rfl⟩ := List.mem_map.1 hm
              exact ht k' D' hmem (by simp only [ho', Option.bind_some, hd])
          have e1 := inv.calm k o' t hk ho' hd (hall k hk) hcalm
          have e2 := fin_at (fl := fl) (val := val) (l.take n) 0 a k o' (by have := take_get (ops := l.toArray) hk ho'; simpa using this) hd (by rw [Nat.zero_add]; exact hcalm)
            (by rw [hN]; exact ok.bd k o' t hk ho' hd) (by
              intro j oj hj hne hdj
              obtain ⟨hji, hoj⟩ := of_take_get (ops := l.toArray) (by simpa using hj)
              exact ok.ne j oj k o' t hji hk hoj ho' (Ne.symm hne) hdj hd)
          rw [Nat.zero_add] at e2
          rw [e1, e2]
        · have e1 := inv.other t fun k o' hk ho' _ hd => hex ⟨k, o', hk, ho', hd⟩
          have e2 := fin_other (fl := fl) (val := val) (t := t) (l.take n) 0 a fun j oj hj _ hd => by
            obtain ⟨hji, hoj⟩ := of_take_get (ops := l.toArray) (by simpa using hj)
            exact hex ⟨j, oj, hji, hoj, hd⟩
          rw [e1, e2]) n (Array.replicate l.toArray.size false) a w.drew (by
      have := List.countP_le_length (p := fun i => !(Array.replicate l.toArray.size false).getD i false) (l := List.range n)
      simpa using this) inv0 ⟨h0, rfl, rfl, fun k o t _ _ _ hl => (by rw [getD_replicate_false] at hl; cases hl), fun k o t D _ _ _ hl => (by rw [getD_replicate_false] at hl; cases hl), fun t _ => rfl⟩
  rw [show n + (l.length - n) = l.toArray.size by simp; omega] at key
  exact key

/-! ### the steps of a walk -/
section
variable {fl : Floats} {L : Act → Prop} {o : Oper} {l : List Oper} {k : Nat} {a a' : Act} {v : Value}
theorem calm_plain (hg : o.guard = none) (hf : fl.at k = none) (hc : ∀ w, S w → calmR P w ((execOp a.eval o).run P w) v) (ha : a.put o.dst v = a') (h : wpCalm P ops S fl L l (k + 1) a') : wpCalm P ops S fl L (o :: l) k a := by
  subst ha
  simp only [wpCalm, hf]
  exact ⟨v, .inl ⟨by simp [Region.wanted, hg], hc⟩, h⟩
theorem calm_yes (hf : fl.at k = none) (hw : Region.wanted o (yielded ops a.tmps) = true) (hc : ∀ w, S w → calmR P w ((execOp a.eval o).run P w) v) (ha : a.put o.dst v = a') (h : wpCalm P ops S fl L l (k + 1) a') : wpCalm P ops S fl L (o :: l) k a := by
  subst ha
  simp only [wpCalm, hf]
  exact ⟨v, .inl ⟨hw, hc⟩, h⟩
theorem calm_no (hf : fl.at k = none) (hw : Region.wanted o (yielded ops a.tmps) = false) (ha : a.put o.dst undef = a') (h : wpCalm P ops S fl L l (k + 1) a') : wpCalm P ops S fl L (o :: l) k a := by
  subst ha
  simp only [wpCalm, hf]
  exact ⟨undef, .inr ⟨hw, rfl⟩, h⟩
theorem calm_float {D : Value → World → Prop} (hg : o.guard = none) (hf : fl.at k = some D) (hc : ∀ w, S w → floatR P w D ((execOp a.eval o).run P w)) (h : wpCalm P ops S fl L l (k + 1) a) : wpCalm P ops S fl L (o :: l) k a := by
  simp only [wpCalm, hf]
  exact ⟨⟨hg, hc⟩, h⟩
theorem calm_done (h : L a) : wpCalm P ops S fl L [] k a := h
end
theorem end_none {ops : Array Oper} {S : World → Prop} {T : Act → World → Prop} {a : Act} (h : ∀ w, S w → T a w) : endMix ops T S [] a fun _ => True := fun w hs _ => h w hs
theorem end_one {ops : Array Oper} {S : World → Prop} {T : Act → World → Prop} {a : Act} {k : Nat} {d : Option Tmp} {D : Value → World → Prop} (hd : (ops[k]?).bind (·.dst) = d)
    (h : ∀ v w, S w → D v w → T (a.put d v) w) : endMix ops T S [(k, D)] a fun _ => True := fun v w hs hD => hd ▸ h v w hs hD.2
theorem float_one {k : Nat} {D : Value → World → Prop} (h : ∀ v w w', D v w → Grows w w' → D v w') : ∀ k' D', Floats.at [(k, D)] k' = some D' → ∀ v w w', D' v w → Grows w w' → D' v w' := by
  intro k' D' h'
  unfold Floats.at at h'
  rw [List.lookup_cons] at h'
  split at h'
  · injection h' with h'; subst h'; exact h
  · simp at h'
theorem float_none : ∀ k' D', Floats.at [] k' = some D' → ∀ v w w', D' v w → Grows w w' → D' v w' := by
  intro k' D' h'; cases h'
theorem calmR_value (P : Program) (w w' : World) (v u : Value) : calmR P w (.ok (.value u) w') v = (u = v ∧ Grows w w') := rfl
theorem calmR_skip (P : Program) (w w' : World) (v : Value) : calmR P w (.ok .skip w') v = (v = undef ∧ Grows w w') := rfl
theorem calmR_enter (P : Program) (w w' : World) (v : Value) (f : FuncId) (args : Array Value) : calmR P w (.ok (.enter f args) w') v = Calls P f args w' fun e w'' => e = .returned v ∧ Grows w w'' := rfl
theorem floatR_value (P : Program) (w w' : World) (D : Value → World → Prop) (u : Value) : floatR P w D (.ok (.value u) w') = (D u w' ∧ Grows w w') := rfl
theorem floatR_enter (P : Program) (w w' : World) (D : Value → World → Prop) (f : FuncId) (args : Array Value) : floatR P w D (.ok (.enter f args) w') = Calls P f args w' fun e w'' => ∃ u, e = .returned u ∧ D u w'' ∧ Grows w w'' := rfl
theorem calm_val {P : Program} {w : World} {v : Value} : calmR P w (.ok (.value v) w) v := ⟨rfl, Below.refl _ _⟩
theorem calm_skip {P : Program} {w : World} : calmR P w (.ok .skip w) undef := ⟨rfl, Below.refl _ _⟩
/-- A contract that leaves the world as it is, as one that only makes memory. -/
theorem calm_same {P : Program} {f : FuncId} {args : Array Value} {w : World} {v : Value} (h : Calls P f args w fun e w' => e = .returned v ∧ w = w') : Calls P f args w fun e w' => e = .returned v ∧ Grows w w' :=
  h.mono fun _ _ ⟨he, hw⟩ => ⟨he, hw ▸ Below.refl _ _⟩
theorem calm_call {P : Program} {w : World} {u : Value} {f : FuncId} {args : Array Value} (h : Calls P f args w fun e w' => e = .returned u ∧ Grows w w') : calmR P w (.ok (.enter f args) w) u := h
theorem calm_quiet {P : Program} {w : World} {u : Value} {f : FuncId} {args : Array Value} (h : Calls P f args w fun e w' => e = .returned u ∧ w = w') : calmR P w (.ok (.enter f args) w) u := calm_same h
end
end Go.Proofs.Ytmokpiacioeohaa
