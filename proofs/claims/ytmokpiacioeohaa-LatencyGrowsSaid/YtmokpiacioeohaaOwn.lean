/-
  XFree, with one operation that makes a block (its address is whatever it is: a 'float') and one store that fills it (the 'sink'). Plain lemmas over whatever program.
-/
import Derived.Test.YtmokpiacioeohaaFree
namespace Go.Proofs.Ytmokpiacioeohaa
open Go.RowKit

section
variable {P : Program} {ops : Array Oper} {S : Ran → World → Prop} {R : World → World → Prop} {md : Region.Mode} {fk sk t : Nat} {D : Ran → Value → World → Prop}
def FloatO (P : Program) (md : Region.Mode) (ops : Array Oper) (S : Ran → World → Prop) (R : World → World → Prop) (D : Ran → Value → World → Prop) (i : Nat) (o : Oper) (a : Act) : Prop :=
  o.guard = none ∧ ∀ L w, At md ops i L → S L w → someR (D (upd L i)) (fun w' => S (upd L i) w' ∧ R w w') ((execOp a.eval o).run P w)
def SinkO (P : Program) (md : Region.Mode) (ops : Array Oper) (S : Ran → World → Prop) (D : Ran → Value → World → Prop) (t : Nat) (i : Nat) (o : Oper) (a : Act) : Prop :=
  o.guard = none ∧ o.dst = none ∧ ∀ v L w, At md ops i L → S L w → D L v w → stepR P (fun w' => S (upd L i) w' ∧ D (upd L i) v w') ((execOp (a.put (some t) v).eval o).run P w) undef
def OneO (P : Program) (md : Region.Mode) (ops : Array Oper) (S : Ran → World → Prop) (R : World → World → Prop) (fk sk t : Nat) (D : Ran → Value → World → Prop) (k : Nat) (o : Oper) (v : Value) (a : Act) : Prop :=
  if k = fk then FloatO P md ops S R D k o a else if k = sk then SinkO P md ops S D t k o a else CalmF P md ops S R k o v a
def fl1 (fk : Nat) : Floats := [(fk, fun _ _ => True)]
def wpOwn (P : Program) (md : Region.Mode) (ops : Array Oper) (S : Ran → World → Prop) (R : World → World → Prop) (fk sk t : Nat) (D : Ran → Value → World → Prop) (L : Act → Prop) : List Oper → Nat → Act → Prop
  | [], _, a => L a
  | o :: l, k, a => ∃ v, OneO P md ops S R fk sk t D k o v a ∧ wpOwn P md ops S R fk sk t D L l (k + 1) (stepAct (fl1 fk) (fun _ => v) o k a)
def GoodO (P : Program) (md : Region.Mode) (ops : Array Oper) (S : Ran → World → Prop) (R : World → World → Prop) (fk sk t : Nat) (D : Ran → Value → World → Prop) (val : Nat → Value) : List Oper → Nat → Act → Prop
  | [], _, _ => True
  | o :: l, k, a => OneO P md ops S R fk sk t D k o (val k) a ∧ GoodO P md ops S R fk sk t D val l (k + 1) (stepAct (fl1 fk) val o k a)
theorem stepAct_val (fl : Floats) (val val' : Nat → Value) (o : Oper) (k : Nat) (a : Act) (h : val k = val' k) : stepAct fl val o k a = stepAct fl val' o k a := by
  unfold stepAct; rw [h]
theorem GoodO_congr {val val' : Nat → Value} : ∀ (l : List Oper) (k : Nat) (a : Act), (∀ j, k ≤ j → val j = val' j) → GoodO P md ops S R fk sk t D val l k a → GoodO P md ops S R fk sk t D val' l k a
  | [], _, _, _, _ => trivial
  | o :: l, k, a, h, hg => by
    simp only [GoodO, h k (Nat.le_refl _)] at hg ⊢
    rw [stepAct_val _ val val' o k a (h k (Nat.le_refl _))] at hg
    exact ⟨hg.1, GoodO_congr l (k + 1) _ (fun j hj => h j (by omega)) hg.2⟩
theorem good_of_wpOwn {L : Act → Prop} : ∀ (l : List Oper) (k : Nat) (a : Act), wpOwn P md ops S R fk sk t D L l k a → ∃ val, GoodO P md ops S R fk sk t D val l k a ∧ L (fin (fl1 fk) val l k a)
  | [], _, a, h => ⟨fun _ => undef, trivial, h⟩
  | o :: l, k, a, h => by
    obtain ⟨v, hc, h2⟩ := h
    obtain ⟨val, hg, hL⟩ := good_of_wpOwn l (k + 1) _ h2
    have hcg : ∀ j, k + 1 ≤ j → val j = (fun i => if i = k then v else val i) j := fun j hj => by simp only []; rw [if_neg (by omega)]
    have hs : stepAct (fl1 fk) (fun _ => v) o k a = stepAct (fl1 fk) (fun i => if i = k then v else val i) o k a := stepAct_val _ _ _ o k a (by simp)
    rw [hs] at hg hL
    refine ⟨fun i => if i = k then v else val i, ⟨by simpa using hc, GoodO_congr l (k + 1) _ hcg hg⟩, ?_⟩
    simp only [fin]
    rw [← fin_congr l (k + 1) _ hcg]
    exact hL
theorem goodO_at {val : Nat → Value} : ∀ (l : List Oper) (k : Nat) (a : Act) (j : Nat) (o : Oper), GoodO P md ops S R fk sk t D val l k a → l[j]? = some o → OneO P md ops S R fk sk t D (k + j) o (val (k + j)) (fin (fl1 fk) val (l.take j) k a)
  | [], _, _, _, _, _, hj => by simp at hj
  | _ :: l, k, _, 0, o, hg, hj => by
    simp only [List.getElem?_cons_zero, Option.some.injEq] at hj
    subst hj
    simpa [GoodO, fin] using hg.1
  | o' :: l, k, a, j + 1, o, hg, hj => by
    have := goodO_at l (k + 1) _ j o hg.2 (by simpa using hj)
    rw [show k + 1 + j = k + (j + 1) by omega] at this
    simpa [fin] using this
theorem fl1_at (fk k : Nat) : ((fl1 fk).at k = none ↔ k ≠ fk) := by
  unfold fl1 Floats.at
  rw [List.lookup_cons]
  by_cases h : k = fk
  · subst h; simp
  · have e : (k == fk) = false := by simpa using h
    simp [h, e]

def ownB (md : Region.Mode) (ops : Array Oper) (n N fk sk t : Nat) : Bool :=
  Region.noSelect ops && decide (n ≤ ops.size) && decide (fk < n) && decide (sk < n) && decide (fk ≠ sk) && ((ops[fk]?).bind (·.dst) == some t) && ((ops[sk]?).bind (·.dst) == none) && Region.waitsFor md ops sk fk &&
  (decide (n = ops.size) || (decide (n < ops.size) && Region.sinkB md ops n && Region.chainB md ops n)) &&
  Region.seqB md ops (ops.size - n) n ((Array.replicate n true) ++ (Array.replicate (ops.size - n) false)) &&
  (List.range n).all (fun i => match ops[i]? with
    | none => false
    | some o => (match o.dst with | none => true | some t => decide (t < N)) && o.after.all (fun e => !Region.binds md e || decide (e.on < i)) &&
      (List.range n).all (fun k => (k == i || match o.dst with | none => true | some t => !((ops[k]?).bind (·.dst) == some t)) &&
        (match (ops[k]?).bind (·.dst) with
         | none => true
         | some t => !(o.looksAt ops).contains t || (decide (k < i) && (!(k == fk) || i == sk) && Region.waitsFor md ops i k))))

structure OwnOk (md : Region.Mode) (ops : Array Oper) (n N fk sk t : Nat) : Prop where
  sel : Region.noSelect ops = true
  le : n ≤ ops.size
  fl : fk < n
  sl : sk < n
  fs : fk ≠ sk
  fd : (ops[fk]?).bind (·.dst) = some t
  sd : (ops[sk]?).bind (·.dst) = none
  sw : Region.waitsFor md ops sk fk = true
  tail : n = ops.size ∨ (n < ops.size ∧ Region.sinkB md ops n = true ∧ Region.chainB md ops n = true)
  seq : Region.seqB md ops (ops.size - n) n ((Array.replicate n true) ++ (Array.replicate (ops.size - n) false)) = true
  bd : ∀ i o t, i < n → ops[i]? = some o → o.dst = some t → t < N
  back : ∀ i o, i < n → ops[i]? = some o → ∀ e ∈ o.after, Region.binds md e = true → e.on < i
  ne : ∀ i o k o' t, i < n → k < n → ops[i]? = some o → ops[k]? = some o' → k ≠ i → o.dst = some t → o'.dst ≠ some t
  look : ∀ i o k o' t, i < n → k < n → ops[i]? = some o → ops[k]? = some o' → o'.dst = some t → t ∈ o.looksAt ops → k < i ∧ (k = fk → i = sk) ∧ Region.waitsFor md ops i k = true
theorem ownOk_of {n N : Nat} (h : ownB md ops n N fk sk t = true) : OwnOk md ops n N fk sk t := by
  simp only [ownB, Bool.and_eq_true, decide_eq_true_eq, List.all_eq_true, Bool.or_eq_true, List.mem_range, beq_iff_eq] at h
  obtain ⟨⟨⟨⟨⟨⟨⟨⟨⟨⟨h1, h2⟩, h3⟩, h3b⟩, h3c⟩, h4⟩, h4b⟩, h4c⟩, h5⟩, h6⟩, h7⟩ := h
  have H : ∀ i o, i < n → ops[i]? = some o → _ := fun i o hi ho => by
    have := h7 i hi
    rw [ho] at this
    exact this
  refine ⟨h1, h2, h3, h3b, h3c, h4, h4b, h4c, ?_, h6, ?_, ?_, ?_, ?_⟩
  · rcases h5 with h5 | h5
    · exact .inl h5
    · exact .inr ⟨h5.1.1, h5.1.2, h5.2⟩
  · intro i o t hi ho hd
    have := (H i o hi ho)
    simp only [Bool.and_eq_true, hd, decide_eq_true_eq] at this
    exact this.1.1
  · intro i o hi ho e he hb
    have := (H i o hi ho)
    simp only [Bool.and_eq_true] at this
    have h8 := Array.all_eq_true_iff_forall_mem.1 this.1.2 e he
    simpa [hb] using h8
  · intro i o k o' t hi hk ho ho' hne hd
    have := (H i o hi ho)
    simp only [Bool.and_eq_true, List.all_eq_true, List.mem_range] at this
    have h8 := (this.2 k hk).1
    simp only [ho', Option.bind_some, hd, Bool.or_eq_true, beq_iff_eq, hne, false_or, Bool.not_eq_true', beq_eq_false_iff_ne] at h8
    exact h8
  · intro i o k o' t hi hk ho ho' hd ht
    have := (H i o hi ho)
    simp only [Bool.and_eq_true, List.all_eq_true, List.mem_range] at this
    have h8 := (this.2 k hk).2
    have hc : (o.looksAt ops).contains t = true := by simpa using ht
    simp only [ho', Option.bind_some, hd, hc, Bool.not_true, Bool.false_or, Bool.and_eq_true, decide_eq_true_eq, Bool.or_eq_true, Bool.not_eq_true', beq_eq_false_iff_ne, beq_iff_eq] at h8
    exact ⟨h8.1.1, fun e => h8.1.2.resolve_left (fun hne => hne e), h8.2⟩


structure InvO (S : Ran → World → Prop) (ops : Array Oper) (n fk t : Nat) (D : Ran → Value → World → Prop) (val : Nat → Value) (a0 : Act) (listed : Array Bool) (a : Act) (w : World) : Prop where
  s : S (ranOf listed) w
  defers : a.defers = a0.defers
  size : a.tmps.size = a0.tmps.size
  calm : ∀ k o t, k < n → ops[k]? = some o → o.dst = some t → listed.getD k false = true → k ≠ fk → a.tmps[t]? = some (val k)
  float : listed.getD fk false = true → ∃ v, a.tmps[t]? = some v ∧ D (ranOf listed) v w
  other : ∀ t, (∀ k o, k < n → ops[k]? = some o → listed.getD k false = true → o.dst ≠ some t) → a.tmps[t]? = a0.tmps[t]?

section
variable {n N : Nat} {val : Nat → Value} {a0 : Act}
/-- What the operation is, met in the actual frame. -/
theorem op_stepO (ok : OwnOk md ops n N fk sk t) (hN : a0.tmps.size = N) (good : GoodO P md ops S R fk sk t D val (ops.toList.take n) 0 a0)
    {listed : Array Bool} {a : Act} {w : World} (inv : InvO S ops n fk t D val a0 listed a w) {i : Nat} {o : Oper} (hi : i < n) (ho : ops[i]? = some o) (hr : i ∈ Region.ready md ops listed) :
    (i = fk ∧ FloatO P md ops S R D i o a) ∨ (i ≠ fk ∧ i ≠ sk ∧ CalmF P md ops S R i o (val i) a) ∨
      (i = sk ∧ i ≠ fk ∧ o.guard = none ∧ o.dst = none ∧ ∀ v, a.tmps[t]? = some v → ∀ L w, At md ops i L → S L w → D L v w → stepR P (fun w' => S (upd L i) w' ∧ D (upd L i) v w') ((execOp a.eval o).run P w) undef) := by
  have hg := goodO_at (ops.toList.take n) 0 a0 i o good (take_get hi ho)
  rw [Nat.zero_add] at hg
  rw [List.take_take, Nat.min_eq_left (by omega)] at hg
  have hs : ∀ cs b, o.op ≠ .select cs b := fun cs b => Region.noSelect_spec ok.sel i o cs b ho
  have wait : ∀ k, Region.waitsFor md ops i k = true → listed.getD k false = true := by
    intro k h3
    obtain ⟨oj, hoj, e, he, hb, hon⟩ := Region.waitsFor_spec h3
    obtain ⟨_, oi, hoi, hall⟩ := mem_ready.1 hr
    have : oj = oi := Option.some.inj (hoj.symm.trans hoi)
    subst this
    have := hall e he hb
    rwa [hon] at this
  have agree : ∀ u ∈ o.looksAt ops, u ≠ t → (fin (fl1 fk) val (ops.toList.take i) 0 a0).tmps[u]? = a.tmps[u]? := by
    intro u hu hut
    by_cases hex : ∃ k o', k < n ∧ ops[k]? = some o' ∧ o'.dst = some u
    · obtain ⟨k, o', hk, ho', hd⟩ := hex
      obtain ⟨h1, h2, h3⟩ := ok.look i o k o' u hi hk ho ho' hd hu
      have hkf : k ≠ fk := by
        rintro rfl
        have := ok.fd
        rw [ho'] at this
        simp only [Option.bind_some, hd, Option.some.injEq] at this
        exact hut this
      have e1 := inv.calm k o' u hk ho' hd (wait k h3) hkf
      have hlt : u < a0.tmps.size := by rw [hN]; exact ok.bd k o' u hk ho' hd
      have e2 := fin_at (fl := fl1 fk) (val := val) (ops.toList.take i) 0 a0 k o' (take_get h1 ho') hd (by rw [Nat.zero_add]; exact (fl1_at fk k).2 hkf) hlt (by
        intro j oj hj hne hdj
        obtain ⟨hji, hoj⟩ := of_take_get hj
        exact ok.ne j oj k o' u (by omega) hk hoj ho' (Ne.symm hne) hdj hd)
      rw [Nat.zero_add] at e2
      rw [e1, e2]
    · have e1 := inv.other u fun k o' hk ho' _ hd => hex ⟨k, o', hk, ho', hd⟩
      have e2 := fin_other (fl := fl1 fk) (val := val) (t := u) (ops.toList.take i) 0 a0 fun j oj hj _ hd => by
        obtain ⟨hji, hoj⟩ := of_take_get hj
        exact hex ⟨j, oj, by omega, hoj, hd⟩
      rw [e1, e2]
  obtain ⟨of, hof, hofd⟩ : ∃ of, ops[fk]? = some of ∧ of.dst = some t := by
    obtain ⟨of, h1, h2⟩ := Option.bind_eq_some_iff.1 ok.fd
    exact ⟨of, h1, h2⟩
  have not_look : i ≠ sk → t ∉ o.looksAt ops := fun hne ht => hne ((ok.look i o fk of t hi ok.fl ho hof hofd ht).2.1 rfl)
  unfold OneO at hg
  by_cases hf : i = fk
  · rw [if_pos hf] at hg
    have hne : i ≠ sk := by rw [hf]; exact ok.fs
    refine .inl ⟨hf, hg.1, ?_⟩
    have := hg.2
    rw [run_agree (ops := ops) hs (fun u hu => agree u hu (fun e => not_look hne (e ▸ hu)))] at this
    exact this
  · rw [if_neg hf] at hg
    by_cases hk : i = sk
    · rw [if_pos hk] at hg
      refine .inr (.inr ⟨hk, hf, hg.1, hg.2.1, fun v hv => ?_⟩)
      have := hg.2.2 v
      have hta : t < a0.tmps.size := by rw [hN]; exact ok.bd fk of t ok.fl hof hofd
      rw [run_agree (ops := ops) (a' := a) hs (fun u hu => ?_)] at this
      · exact this
      · by_cases hut : u = t
        · subst hut
          rw [put_get_eq (by rw [fin_size]; exact hta), hv]
        · rw [put_get_ne (by simpa using Ne.symm hut)]
          exact agree u hu hut
    · rw [if_neg hk] at hg
      exact .inr (.inl ⟨hf, hk, hg.agree hs (fun u hu => agree u hu (fun e => not_look hk (e ▸ hu)))⟩)

theorem inv_stepO (ok : OwnOk md ops n N fk sk t) (hN : a0.tmps.size = N) {listed : Array Bool} {a : Act} {w w' : World} (inv : InvO S ops n fk t D val a0 listed a w) {i : Nat} {o : Oper} (hi : i < n) (ho : ops[i]? = some o) (hl : i < listed.size) {u : Value}
    (hu : i ≠ fk → o.dst ≠ none → u = val i) (hs : S (ranOf (listed.setIfInBounds i true)) w')
    (hf : (listed.setIfInBounds i true).getD fk false = true → ∃ v, (a.put o.dst u).tmps[t]? = some v ∧ D (ranOf (listed.setIfInBounds i true)) v w') : InvO S ops n fk t D val a0 (listed.setIfInBounds i true) (a.put o.dst u) w' := by
  have key : ∀ k o' t, k < n → ops[k]? = some o' → o'.dst = some t → k ≠ i → (a.put o.dst u).tmps[t]? = a.tmps[t]? := by
    intro k o' t hk ho' hd hne
    exact put_get_ne fun e => ok.ne i o k o' t hi hk ho ho' hne e hd
  refine ⟨hs, (put_defers' _ _ _).trans inv.defers, (put_size _ _ _).trans inv.size, ?_, hf, ?_⟩
  · intro k o' t hk ho' hd hlk hkf
    by_cases hki : k = i
    · subst hki
      have : o' = o := Option.some.inj (ho'.symm.trans ho)
      subst this
      rw [hd, put_get_eq (by rw [inv.size, hN]; exact ok.bd k o' t hk ho' hd), hu hkf (by rw [hd]; simp)]
    · rw [key k o' t hk ho' hd hki]
      exact inv.calm k o' t hk ho' hd (by rwa [getD_set_ne false (Ne.symm hki)] at hlk) hkf
  · intro t ht
    have h1 : o.dst ≠ some t := ht i o hi ho (by simp [hl])
    rw [put_get_ne h1]
    exact inv.other t fun k o' hk ho' hlk => ht k o' hk ho' (getD_set_true hlk)

theorem head_runO {Q : Exit → Act → World → Prop} (ok : OwnOk md ops n N fk sk t) (hN : a0.tmps.size = N) 
    (hD : ∀ L i v w w', i ≠ fk → i ≠ sk → At md ops i L → L fk = true → D L v w → R w w' → D (upd L i) v w') (good : GoodO P md ops S R fk sk t D val (ops.toList.take n) 0 a0) (g : Nat)
    (H : ∀ listed a w, HeadInv md ops n listed → (∀ i, i < n → listed.getD i false = true) → InvO S ops n fk t D val a0 listed a w → wpAny P md ops Q g listed a w) :
    ∀ (f : Nat) (listed : Array Bool) (a : Act) (w : World), ((List.range n).countP fun i => !listed.getD i false) ≤ f → HeadInv md ops n listed → InvO S ops n fk t D val a0 listed a w →
      wpAny P md ops Q (f + g) listed a w := by
  intro f
  induction f with
  | zero =>
    intro listed a w hc hinv inv
    rw [Nat.zero_add]
    refine H listed a w hinv (fun i hi => ?_) inv
    have h0 : ((List.range n).countP fun i => !listed.getD i false) = 0 := by omega
    rw [List.countP_eq_zero] at h0
    have := h0 i (List.mem_range.2 hi)
    simpa using this
  | succ f ih =>
    intro listed a w hc hinv inv
    by_cases hall : ∀ i, i < n → listed.getD i false = true
    · exact wpAny_fuel g listed a w (H listed a w hinv hall inv) (f + 1)
    · -- some op of the head is not listed yet
      have hex : ∃ i, i < n ∧ listed.getD i false = false := by
        apply Classical.byContradiction
        intro hno
        exact hall fun i hi => by
          cases h : listed.getD i false
          · exact absurd ⟨i, hi, h⟩ hno
          · rfl
      obtain ⟨i0, hi0, hl0⟩ := hex
      have hsz : ∀ i, i < n → i < listed.size := fun i hi => by rw [hinv.size]; have := ok.le; omega
      -- the least one is ready
      have hready : Region.ready md ops listed ≠ [] := by
        have : ∀ d i, i ≤ d → i < n → listed.getD i false = false → ∃ j, j ∈ Region.ready md ops listed := by
          intro d
          induction d with
          | zero =>
            intro i hid hi hl
            obtain ⟨o, ho⟩ : ∃ o, ops[i]? = some o := ⟨ops[i]'(by have := ok.le; omega), by simp [show i < ops.size by have := ok.le; omega]⟩
            refine ⟨i, mem_ready.2 ⟨getD_in (hsz i hi) hl, o, ho, fun e he hb => ?_⟩⟩
            have := ok.back i o hi ho e he hb
            omega
          | succ d ihd =>
            intro i hid hi hl
            obtain ⟨o, ho⟩ : ∃ o, ops[i]? = some o := ⟨ops[i]'(by have := ok.le; omega), by simp [show i < ops.size by have := ok.le; omega]⟩
            by_cases hw : ∀ e ∈ o.after, Region.binds md e = true → listed.getD e.on false = true
            · exact ⟨i, mem_ready.2 ⟨getD_in (hsz i hi) hl, o, ho, hw⟩⟩
            · have : ∃ e ∈ o.after, Region.binds md e = true ∧ listed.getD e.on false = false := by
                apply Classical.byContradiction
                intro hno
                exact hw fun e he hb => by
                  cases h : listed.getD e.on false
                  · exact absurd ⟨e, he, hb, h⟩ hno
                  · rfl
              obtain ⟨e, he, hb, hle⟩ := this
              have hlt := ok.back i o hi ho e he hb
              exact ihd e.on (by omega) (by omega) hle
        obtain ⟨j, hj⟩ := this i0 i0 (Nat.le_refl _) hi0 hl0
        intro h0
        rw [h0] at hj
        cases hj
      rw [show f + 1 + g = (f + g) + 1 by omega]
      refine ⟨fun h0 => absurd h0 hready, fun i hir => ?_⟩
      have hin : i < n := by
        rcases Nat.lt_or_ge i n with h | h
        · exact h
        · exfalso
          obtain ⟨_, oi, hoi, _⟩ := mem_ready.1 hir
          have hlt : i < ops.size := (Array.getElem?_eq_some_iff.1 hoi).1
          rcases ok.tail with ht | ⟨ht, hs, hch⟩
          · omega
          · exact tail_waits hs hch ht hinv _ i0 rfl hi0 (getD_in (hsz i0 hi0) hl0) i h hir
      obtain ⟨hun, o, ho, hwaits⟩ := mem_ready.1 hir
      have hst := op_stepO ok hN good inv hin ho hir
      have hunf : listed.getD i false = false := getD_both hun
      have hcnt : ((List.range n).countP fun j => !(listed.setIfInBounds i true).getD j false) ≤ f := by
        have := countP_lt (p := fun j => !listed.getD j false) (q := fun j => !(listed.setIfInBounds i true).getD j false) (List.range n) (List.mem_range.2 hin)
          (fun j _ hj => by
            simp only [Bool.not_eq_true'] at hj ⊢
            cases h : listed.getD j false
            · rfl
            · rw [getD_set_true h] at hj; cases hj) (by simp only [hunf, Bool.not_false]) (by simp [hsz i hin])
        omega
      have hinv' := hinv.set hir hin
      have hat : At md ops i (ranOf listed) := ⟨hunf, needs_ran hinv _ i o ho hwaits⟩
      have hran := ranOf_set (hsz i hin)
      have keepf : i ≠ fk → (listed.setIfInBounds i true).getD fk false = true → listed.getD fk false = true := fun hne h => by rwa [getD_set_ne false hne] at h
      have oft : ∀ u, i ≠ fk → (a.put o.dst u).tmps[t]? = a.tmps[t]? := by
        intro u hne
        obtain ⟨of, hof, hofd⟩ := Option.bind_eq_some_iff.1 ok.fd
        exact put_get_ne fun e => ok.ne fk of i o t ok.fl hin hof ho hne hofd e
      rcases hst with ⟨hfe, hg, hst⟩ | ⟨hfn, hkn, hst⟩ | ⟨hke, hfn, hgd, hdn, hst⟩
      · unfold wpOp
        simp only [ho, Region.wanted, hg, if_true]
        refine .inl ?_
        have := hst _ _ hat inv.s
        unfold Oper.wp
        generalize (execOp a.eval o).run P w = r at *
        cases r with
        | ok n' w' =>
          cases n' <;> simp only [someR] at this <;> simp only [Oper.upon]
          case value u =>
            refine ih _ _ _ hcnt hinv' (inv_stepO ok hN inv hin ho (hsz i hin) (fun h => absurd hfe h) (by rw [hran]; exact this.2.1) fun _ => ⟨u, ?_, by rw [hran]; exact this.1⟩)
            obtain ⟨of, hof, hofd⟩ := Option.bind_eq_some_iff.1 ok.fd
            have : o = of := Option.some.inj (ho.symm.trans (by rw [hfe]; exact hof))
            subst this
            rw [hofd]
            exact put_get_eq (by rw [inv.size, hN]; exact ok.bd fk o t ok.fl hof hofd)
        | halt x w' => simp only [someR] at this
      · refine calmF_wpOp ho hst hat inv.s fun w' hs hg => ih _ _ _ hcnt hinv' (inv_stepO ok hN inv hin ho (hsz i hin) (fun _ _ => rfl) (by rw [hran]; exact hs) fun hl => ?_)
        obtain ⟨v, hv, hd⟩ := inv.float (keepf hfn hl)
        exact ⟨v, by rw [oft _ hfn]; exact hv, by rw [hran]; exact hD _ _ _ _ _ hfn hkn hat (keepf hfn hl) hd hg⟩
      · have hfl : listed.getD fk false = true := by
          obtain ⟨oj, hoj, e, he, hb, hon⟩ := Region.waitsFor_spec ok.sw
          have : oj = o := Option.some.inj (hoj.symm.trans (by rw [← hke]; exact ho))
          subst this
          have := hwaits e he hb
          rwa [hon] at this
        obtain ⟨v, hv, hd⟩ := inv.float hfl
        unfold wpOp
        simp only [ho, Region.wanted, hgd, if_true]
        refine .inl ?_
        have := hst v hv _ _ hat inv.s hd
        unfold Oper.wp
        generalize (execOp a.eval o).run P w = r at *
        have fin' : ∀ (u : Value) (w' : World), S (upd (ranOf listed) i) w' → D (upd (ranOf listed) i) v w' → wpAny P md ops Q (f + g) (listed.setIfInBounds i true) (a.put o.dst u) w' := fun u w' h1 h2 =>
          ih _ _ _ hcnt hinv' (inv_stepO ok hN inv hin ho (hsz i hin) (fun _ h => absurd hdn h) (by rw [hran]; exact h1) fun _ => ⟨v, by rw [oft _ hfn]; exact hv, by rw [hran]; exact h2⟩)
        cases r with
        | ok n' w' =>
          cases n' <;> simp only [stepR] at this <;> simp only [Oper.upon]
          case value u => exact fin' _ _ this.2.1 this.2.2
          case skip => exact fin' _ _ this.2.1 this.2.2
          case enter f' args => exact this.mono fun e w'' ⟨he, h1, h2⟩ => by subst he; exact fin' _ _ h1 h2
        | halt x w' => simp only [stepR] at this
end

theorem wp_region_own {id : Nat} {Q : Exit → Act → World → Prop} {a : Act} {w : World} {l : List Oper} (S : Ran → World → Prop) (R : World → World → Prop) (fk sk t : Nat) (D : Ran → Value → World → Prop) (n N : Nat) (hm : P.follows .mixedOrders = true) (hB : ownB .any l.toArray n N fk sk t = true)
    (hN : a.tmps.size = N) (hD : ∀ L i v w w', i ≠ fk → i ≠ sk → At .any l.toArray i L → L fk = true → D L v w → R w w' → D (upd L i) v w') (h0 : S (fun _ => false) w.drew)
    (h : wpOwn P .any l.toArray S R fk sk t D (fun a' => ∀ v L w', (∀ k, k < n → L k = true) → S L w' → D L v w' → wpList P l.toArray Q (l.drop n) (a'.put (some t) v) w') (l.take n) 0 a) : (Code.region id l.toArray true).wp P Q a w := by
  have ok := ownOk_of hB
  have hle : n ≤ l.length := by simpa using ok.le
  obtain ⟨val, good, hL⟩ := good_of_wpOwn (l.take n) 0 a h
  refine wp_region_any hm ?_
  have inv0 : HeadInv .any l.toArray n (Array.replicate l.toArray.size false) :=
    ⟨by simp, fun j oj _ hl => (by rw [getD_replicate_false] at hl; cases hl), fun t _ ht => getD_in (by simpa using ht) (getD_replicate_false _ _)⟩
  have key := head_runO (md := .any) (Q := Q) (ops := l.toArray) (S := S) (R := R) (val := val) (a0 := a) ok hN hD (by simpa using good) (l.length - n) (by
    intro listed b w' hinv hall inv
    refine (show l.length - n = (l.drop n).length by simp) ▸ wpAny_of_seq (l.drop n) n listed b w' (fun j => by simp [List.getElem?_drop]) ?_ ?_
    · have hls : listed = (Array.replicate n true) ++ (Array.replicate (l.length - n) false) := by
        refine Array.ext (by simp [hinv.size]; omega) fun i h1 h2 => ?_
        have hsz : i < l.length := by have := hinv.size; simp at this; omega
        by_cases hin : i < n
        · have := hall i hin
          rw [Array.getElem_append_left (by simpa using hin)]
          simpa [h1] using this
        · have := hinv.tail i (by omega) (by simpa using hsz)
          rw [Array.getElem_append_right (by simp; omega)]
          simpa [h1] using this
      have := ok.seq
      rw [hls]
      simpa using this
    · obtain ⟨v, hv, hd⟩ := inv.float (hall fk ok.fl)
      obtain ⟨of, hof, hofd⟩ := Option.bind_eq_some_iff.1 ok.fd
      have hb : b = (fin (fl1 fk) val (l.take n) 0 a).put (some t) v := by
        have e1 : b.defers = ((fin (fl1 fk) val (l.take n) 0 a).put (some t) v).defers := inv.defers.trans ((fin_defers _ _ _).symm.trans (put_defers' _ _ _).symm)
        have e2 : b.tmps = ((fin (fl1 fk) val (l.take n) 0 a).put (some t) v).tmps := by
          refine Array.ext_getElem? fun u => ?_
          by_cases hut : u = t
          · subst hut
            rw [put_get_eq (by rw [fin_size, hN]; exact ok.bd fk of u ok.fl hof hofd), hv]
          rw [put_get_ne (by simpa using Ne.symm hut)]
          by_cases hex : ∃ k o', k < n ∧ l.toArray[k]? = some o' ∧ o'.dst = some u
          · obtain ⟨k, o', hk, ho', hd'⟩ := hex
            have hkf : k ≠ fk := by
              rintro rfl
              have : o' = of := Option.some.inj (ho'.symm.trans hof)
              subst this
              rw [hofd] at hd'
              exact hut (Option.some.inj hd').symm
            have e1 := inv.calm k o' u hk ho' hd' (hall k hk) hkf
            have e2 := fin_at (fl := fl1 fk) (val := val) (l.take n) 0 a k o' (by have := take_get (ops := l.toArray) hk ho'; simpa using this) hd' (by rw [Nat.zero_add]; exact (fl1_at fk k).2 hkf)
              (by rw [hN]; exact ok.bd k o' u hk ho' hd') (by
                intro j oj hj hne hdj
                obtain ⟨hji, hoj⟩ := of_take_get (ops := l.toArray) (by simpa using hj)
                exact ok.ne j oj k o' u hji hk hoj ho' (Ne.symm hne) hdj hd')
            rw [Nat.zero_add] at e2
            rw [e1, e2]
          · have e1 := inv.other u fun k o' hk ho' _ hd => hex ⟨k, o', hk, ho', hd⟩
            have e2 := fin_other (fl := fl1 fk) (val := val) (t := u) (l.take n) 0 a fun j oj hj _ hd => by
              obtain ⟨hji, hoj⟩ := of_take_get (ops := l.toArray) (by simpa using hj)
              exact hex ⟨j, oj, by omega, hoj, hd⟩
            rw [e1, e2]
        obtain ⟨bt, bd⟩ := b
        generalize (fin (fl1 fk) val (l.take n) 0 a).put (some t) v = z at *
        obtain ⟨zt, zd⟩ := z
        simp only at e1 e2
        rw [e1, e2]
      rw [hb]
      exact hL v (ranOf listed) w' (fun k hk => hall k hk) inv.s hd) n (Array.replicate l.toArray.size false) a w.drew (by
      have := List.countP_le_length (p := fun i => !(Array.replicate l.toArray.size false).getD i false) (l := List.range n)
      simpa using this) inv0 ⟨by rw [show ranOf (Array.replicate l.toArray.size false) = fun _ => false from funext fun k => getD_replicate_false _ _]; exact h0, rfl, rfl, fun k o t _ _ _ hl => (by rw [getD_replicate_false] at hl; cases hl), fun hl => (by rw [getD_replicate_false] at hl; cases hl), fun t _ => rfl⟩
  rw [show n + (l.length - n) = l.toArray.size by simp; omega] at key
  exact key

section
variable {L : Act → Prop} {o : Oper} {l : List Oper} {k : Nat} {a a' : Act} {v : Value}
theorem ow_plain (hf : k ≠ fk) (hk : k ≠ sk) (hg : o.guard = none) (hc : ∀ L w, At md ops k L → S L w → stepR P (fun w' => S (upd L k) w' ∧ R w w') ((execOp a.eval o).run P w) v) (ha : a.put o.dst v = a') (h : wpOwn P md ops S R fk sk t D L l (k + 1) a') : wpOwn P md ops S R fk sk t D L (o :: l) k a := by
  subst ha
  have e : (fl1 fk).at k = none := (fl1_at fk k).2 hf
  refine ⟨v, by unfold OneO; rw [if_neg hf, if_neg hk]; exact .inl ⟨by simp [Region.wanted, hg], hc⟩, ?_⟩
  simp only [stepAct, e]
  exact h
theorem ow_float (hf : k = fk) (hg : o.guard = none) (hc : ∀ L w, At md ops k L → S L w → someR (D (upd L k)) (fun w' => S (upd L k) w' ∧ R w w') ((execOp a.eval o).run P w)) (h : wpOwn P md ops S R fk sk t D L l (k + 1) a) : wpOwn P md ops S R fk sk t D L (o :: l) k a := by
  refine ⟨undef, by unfold OneO; rw [if_pos hf]; exact ⟨hg, hc⟩, ?_⟩
  cases e : (fl1 fk).at k with
  | none => exact absurd hf ((fl1_at fk k).1 e)
  | some d => simp only [stepAct, e]; exact h
theorem ow_sink (hf : k ≠ fk) (hk : k = sk) (hg : o.guard = none) (hd : o.dst = none) (hc : ∀ v L w, At md ops k L → S L w → D L v w → stepR P (fun w' => S (upd L k) w' ∧ D (upd L k) v w') ((execOp (a.put (some t) v).eval o).run P w) undef) (h : wpOwn P md ops S R fk sk t D L l (k + 1) a) : wpOwn P md ops S R fk sk t D L (o :: l) k a := by
  have e : (fl1 fk).at k = none := (fl1_at fk k).2 hf
  refine ⟨undef, by unfold OneO; rw [if_neg hf, if_pos hk]; exact ⟨hg, hd, hc⟩, ?_⟩
  simp only [stepAct, e, hd]
  exact h
theorem ow_done (h : L a) : wpOwn P md ops S R fk sk t D L [] k a := h
end
end
end Go.Proofs.Ytmokpiacioeohaa
