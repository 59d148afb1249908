/-
  The most general of the three rules for a region that draws its order: S says, for each set of operations that have run, what the world is; each operation, met where it may run, gives its value and leads on. Plain lemmas over whatever program.
-/
import Derived.Test.YtmokpiacioeohaaStep
import Derived.Test.YtmokpiacioeohaaWords
namespace Go.Proofs.Ytmokpiacioeohaa
open Go.RowKit

abbrev Ran := Nat → Bool
def upd (L : Ran) (i : Nat) : Ran := fun k => if k = i then true else L k
/-- The operations that operation i waits for, directly and through others. -/
def needs (md : Region.Mode) (ops : Array Oper) : Nat → Nat → List Nat
  | 0, _ => []
  | n + 1, i => match ops[i]? with
    | none => []
    | some o => (o.after.toList.filter (fun e => Region.binds md e)).flatMap fun e => e.on :: needs md ops n e.on

/-- Where an operation of the region may run: it has not run yet, and all that it waits for has. -/
def At (md : Region.Mode) (ops : Array Oper) (i : Nat) (L : Ran) : Prop := L i = false ∧ ∀ k ∈ needs md ops 4 i, L k = true
theorem At.need {md : Region.Mode} {ops : Array Oper} {i : Nat} {L : Ran} (h : At md ops i L) (k : Nat) (hk : (needs md ops 4 i).contains k = true) : L k = true := h.2 k (by simpa using hk)
/-- The op gives some value with D, and leads into a world with T. -/
def someR (D : Value → World → Prop) (T : World → Prop) : Result Next → Prop
  | .ok (.value u) w' => D u w' ∧ T w'
  | _ => False

section
variable {P : Program} {ops : Array Oper} {S : Ran → World → Prop} {R : World → World → Prop} {md : Region.Mode}
def CalmF (P : Program) (md : Region.Mode) (ops : Array Oper) (S : Ran → World → Prop) (R : World → World → Prop) (i : Nat) (o : Oper) (v : Value) (a : Act) : Prop :=
  (Region.wanted o (yielded ops a.tmps) = true ∧ ∀ L w, At md ops i L → S L w → stepR P (fun w' => S (upd L i) w' ∧ R w w') ((execOp a.eval o).run P w) v) ∨
    (Region.wanted o (yielded ops a.tmps) = false ∧ v = undef ∧ ∀ L w, At md ops i L → S L w → S (upd L i) w ∧ R w w)
def FloatF (P : Program) (md : Region.Mode) (ops : Array Oper) (S : Ran → World → Prop) (R : World → World → Prop) (i : Nat) (o : Oper) (D : Value → World → Prop) (a : Act) : Prop :=
  o.guard = none ∧ ∀ L w, At md ops i L → S L w → someR D (fun w' => S (upd L i) w' ∧ R w w') ((execOp a.eval o).run P w)
theorem CalmF.agree {i : Nat} {o : Oper} (hs : ∀ cs b, o.op ≠ .select cs b) {v : Value} {a a' : Act} (h : ∀ t ∈ o.looksAt ops, a.tmps[t]? = a'.tmps[t]?) (hc : CalmF P md ops S R i o v a) : CalmF P md ops S R i o v a' := by
  unfold CalmF at *
  rw [← run_agree (ops := ops) hs h, ← wanted_agree h]
  exact hc
def wpFree (P : Program) (md : Region.Mode) (ops : Array Oper) (S : Ran → World → Prop) (R : World → World → Prop) (fl : Floats) (L : Act → Prop) : List Oper → Nat → Act → Prop
  | [], _, a => L a
  | o :: l, k, a =>
    match fl.at k with
    | some D => FloatF P md ops S R k o D a ∧ wpFree P md ops S R fl L l (k + 1) a
    | none => ∃ v, CalmF P md ops S R k o v a ∧ wpFree P md ops S R fl L l (k + 1) (a.put o.dst v)

def GoodR (P : Program) (md : Region.Mode) (ops : Array Oper) (S : Ran → World → Prop) (R : World → World → Prop) (fl : Floats) (val : Nat → Value) : List Oper → Nat → Act → Prop
  | [], _, _ => True
  | o :: l, k, a => (match fl.at k with | some D => FloatF P md ops S R k o D a | none => CalmF P md ops S R k o (val k) a) ∧ GoodR P md ops S R fl val l (k + 1) (stepAct fl val o k a)

theorem GoodR_congr {fl : Floats} {val val' : Nat → Value} : ∀ (l : List Oper) (k : Nat) (a : Act), (∀ j, k ≤ j → val j = val' j) → GoodR P md ops S R fl val l k a → GoodR P md ops S R fl val' l k a
  | [], _, _, _, _ => trivial
  | o :: l, k, a, h, hg => by
    simp only [GoodR, stepAct, h k (Nat.le_refl _)] at hg ⊢
    exact ⟨hg.1, GoodR_congr l (k + 1) _ (fun j hj => h j (by omega)) hg.2⟩
theorem good_of_wpFree {fl : Floats} {L : Act → Prop} : ∀ (l : List Oper) (k : Nat) (a : Act), wpFree P md ops S R fl L l k a → ∃ val, GoodR P md ops S R fl val l k a ∧ L (fin fl val l k a)
  | [], _, a, h => ⟨fun _ => undef, trivial, h⟩
  | o :: l, k, a, h => by
    unfold wpFree at h
    cases hf : fl.at k with
    | some D =>
      simp only [hf] at h
      obtain ⟨val, hg, hL⟩ := good_of_wpFree l (k + 1) a h.2
      exact ⟨val, by simp only [GoodR, hf, stepAct]; exact ⟨h.1, hg⟩, by simp only [fin, stepAct, hf]; exact hL⟩
    | none =>
      simp only [hf] at h
      obtain ⟨v, hc, h2⟩ := h
      obtain ⟨val, hg, hL⟩ := good_of_wpFree l (k + 1) (a.put o.dst v) h2
      have hcg : ∀ j, k + 1 ≤ j → val j = (fun i => if i = k then v else val i) j := fun j hj => by simp only []; rw [if_neg (by omega)]
      refine ⟨fun i => if i = k then v else val i, ?_, ?_⟩
      · simp only [GoodR, hf, stepAct, if_true]
        exact ⟨hc, GoodR_congr l (k + 1) _ hcg hg⟩
      · simp only [fin, stepAct, hf, if_true]
        rw [← fin_congr l (k + 1) _ hcg]
        exact hL

theorem goodR_at {fl : Floats} {val : Nat → Value} : ∀ (l : List Oper) (k : Nat) (a : Act) (j : Nat) (o : Oper), GoodR P md ops S R fl val l k a → l[j]? = some o →
    (match fl.at (k + j) with | some D => FloatF P md ops S R (k + j) o D (fin fl val (l.take j) k a) | none => CalmF P md ops S R (k + j) o (val (k + j)) (fin fl val (l.take j) k a))
  | [], _, _, _, _, _, hj => by simp at hj
  | _ :: l, k, _, 0, o, hg, hj => by
    simp only [List.getElem?_cons_zero, Option.some.injEq] at hj
    subst hj
    simpa [GoodR, fin] using hg.1
  | _ :: l, k, _, j + 1, o, hg, hj => by
    have   := goodR_at l (k + 1) _ j o hg.2 (by simpa using hj)
    rw [show k + 1 + j = k + (j + 1) by omega] at this
    simpa [fin] using this

def ranOf (listed : Array Bool) : Ran := fun k => listed.getD k false
theorem ranOf_set {listed : Array Bool} {i : Nat} (h : i < listed.size) : ranOf (listed.setIfInBounds i true) = upd (ranOf listed) i := by
  funext k
  unfold ranOf upd
  by_cases e : k = i
  · subst e
    simp [h]
  · rw [if_neg e, getD_set_ne false (Ne.symm e)]
theorem needs_ran {listed : Array Bool} {n : Nat} (hinv : HeadInv md ops n listed) : ∀ (f i : Nat) (o : Oper), ops[i]? = some o → (∀ e ∈ o.after, Region.binds md e = true → listed.getD e.on false = true) → ∀ k ∈ needs md ops f i, ranOf listed k = true
  | 0, _, _, _, _, _, hk => by simp [needs] at hk
  | f + 1, i, o, ho, hw, k, hk => by
    unfold needs at hk
    rw [ho] at hk
    simp only [List.mem_flatMap, List.mem_filter, Array.mem_toList_iff] at hk
    obtain ⟨e, ⟨he, hb⟩, hk⟩ := hk
    have h1 := hw e he hb
    rcases List.mem_cons.1 hk with hk | hk
    · subst hk
      exact h1
    · have hex : ∃ oj, ops[e.on]? = some oj := by
        rcases Nat.lt_or_ge e.on ops.size with hlt | hge
        · exact ⟨ops[e.on]'hlt, by simp [hlt]⟩
        · exfalso
          rw [Array.getD_eq_getD_getElem?, Array.getElem?_eq_none (by rw [hinv.size]; exact hge)] at h1
          cases h1
      obtain ⟨oj, hoj⟩ := hex
      exact needs_ran hinv f e.on oj hoj (fun e' he' hb' => hinv.closed e.on oj hoj h1 e' he' hb') k hk


theorem calmF_wpOp {Q : Exit → Act → World → Prop} {L : Ran} {i : Nat} {o : Oper} {v : Value} {a : Act} {w : World} {K : Act → World → Prop} (hi : ops[i]? = some o) (hc : CalmF P md ops S R i o v a) (hL : At md ops i L) (hw : S L w)
    (hK : ∀ w', S (upd L i) w' → R w w' → K (a.put o.dst v) w') : wpOp P ops Q i K a w := by
  unfold wpOp
  simp only [hi]
  rcases hc with ⟨hwt, hr⟩ | ⟨hwt, rfl, ht⟩
  · simp only [hwt, if_true]
    refine .inl ?_
    have := hr L w hL hw
    unfold Oper.wp
    generalize (execOp a.eval o).run P w = r at *
    cases r with
    | ok n w' =>
      cases n <;> simp only [stepR] at this <;> simp only [Oper.upon]
      case value u => obtain ⟨rfl, hg, hr⟩ := this; exact hK _ hg hr
      case skip => obtain ⟨rfl, hg, hr⟩ := this; exact hK _ hg hr
      case enter f args => exact this.mono fun e w'' ⟨he, hg, hr⟩ => by subst he; exact hK _ hg hr
    | halt x w' => simp only [stepR] at this
  · simp only [hwt, Bool.false_eq_true, if_false]
    exact hK _ (ht L w hL hw).1 (ht L w hL hw).2
theorem floatF_wpOp {Q : Exit → Act → World → Prop} {L : Ran} {i : Nat} {o : Oper} {D : Value → World → Prop} {a : Act} {w : World} {K : Act → World → Prop} (hi : ops[i]? = some o) (hc : FloatF P md ops S R i o D a) (hL : At md ops i L) (hw : S L w)
    (hK : ∀ u w', D u w' → S (upd L i) w' → R w w' → K (a.put o.dst u) w') : wpOp P ops Q i K a w := by
  unfold wpOp
  simp only [hi, Region.wanted, hc.1, if_true]
  refine .inl ?_
  have := hc.2 L w hL hw
  unfold Oper.wp
  generalize (execOp a.eval o).run P w = r at *
  cases r with
  | ok n w' =>
    cases n <;> simp only [someR] at this <;> simp only [Oper.upon]
    case value u => exact hK _ _ this.1 this.2.1 this.2.2
  | halt x w' => simp only [someR] at this

structure InvR (S : Ran → World → Prop) (ops : Array Oper) (n : Nat) (fl : Floats) (val : Nat → Value) (a0 : Act) (listed : Array Bool) (a : Act) (w : World) : Prop where
  s : S (ranOf listed) w
  defers : a.defers = a0.defers
  size : a.tmps.size = a0.tmps.size
  calm : ∀ k o t, k < n → ops[k]? = some o → o.dst = some t → listed.getD k false = true → fl.at k = none → a.tmps[t]? = some (val k)
  float : ∀ k o t D, k < n → ops[k]? = some o → o.dst = some t → listed.getD k false = true → fl.at k = some D → ∃ v, a.tmps[t]? = some v ∧ D v w
  other : ∀ t, (∀ k o, k < n → ops[k]? = some o → listed.getD k false = true → o.dst ≠ some t) → a.tmps[t]? = a0.tmps[t]?

section
variable {n N : Nat} {ks : List Nat} {fl : Floats} {val : Nat → Value} {a0 : Act}
theorem op_stepR (ok : MixOk md ops n N ks) (hks : fl.map (·.1) = ks) (hN : a0.tmps.size = N) (good : GoodR P md ops S R fl val (ops.toList.take n) 0 a0)
    {listed : Array Bool} {a : Act} {w : World} (inv : InvR S ops n fl val a0 listed a w) {i : Nat} {o : Oper} (hi : i < n) (ho : ops[i]? = some o) (hr : i ∈ Region.ready md ops listed) :
    (match fl.at i with | some D => FloatF P md ops S R i o D a | none => CalmF P md ops S R i o (val i) a) := by
  have hg   := goodR_at (ops.toList.take n) 0 a0 i o good (take_get hi ho)
  rw [Nat.zero_add] at hg
  rw [List.take_take, Nat.min_eq_left (by omega)] at hg
  have hs : ∀ cs b, o.op ≠ .select cs b := fun cs b => Region.noSelect_spec ok.sel i o cs b ho
  have agree : ∀ t ∈ o.looksAt ops, (fin fl val (ops.toList.take i) 0 a0).tmps[t]? = a.tmps[t]? := by
    intro t ht
    by_cases hex : ∃ k o', k < n ∧ ops[k]? = some o' ∧ o'.dst = some t
    · obtain ⟨k, o', hk, ho', hd⟩ := hex
      obtain ⟨h1, h2, h3⟩ := ok.look i o k o' t hi hk ho ho' hd ht
      have hcalm : fl.at k = none := lookup_mem (by rw [hks]; exact h2)
      have hlisted : listed.getD k false = true := by
        obtain ⟨oj, hoj, e, he, hb, hon⟩ := Region.waitsFor_spec h3
        obtain ⟨_, oi, hoi, hall⟩ := mem_ready.1 hr
        have : oj = oi := Option.some.inj (hoj.symm.trans hoi)
        subst this
        have := hall e he hb
        rwa [hon] at this
      have e1 := inv.calm k o' t hk ho' hd hlisted hcalm
      have hlt : t < a0.tmps.size := by rw [hN]; exact ok.bd k o' t hk ho' hd
      have e2 := fin_at (fl := fl) (val := val) (ops.toList.take i) 0 a0 k o' (take_get h1 ho') hd (by rw [Nat.zero_add]; exact hcalm) hlt (by
        intro j oj hj hne hdj
        obtain ⟨hji, hoj⟩ := of_take_get hj
        exact ok.ne j oj k o' t (by omega) hk hoj ho' (Ne.symm hne) hdj hd)
      rw [Nat.zero_add] at e2
      rw [e1, e2]
    · have e1 := inv.other t fun k o' hk ho' _ hd => hex ⟨k, o', hk, ho', hd⟩
      have e2 := fin_other (fl := fl) (val := val) (t := t) (ops.toList.take i) 0 a0 fun j oj hj _ hd => by
        obtain ⟨hji, hoj⟩ := of_take_get hj
        exact hex ⟨j, oj, by omega, hoj, hd⟩
      rw [e1, e2]
  cases hf : fl.at i with
  | some D =>
    simp only [hf] at hg ⊢
    exact ⟨hg.1, by rw [← run_agree (ops := ops) hs agree]; exact hg.2⟩
  | none =>
    simp only [hf] at hg ⊢
    exact hg.agree hs agree

theorem inv_stepR (ok : MixOk md ops n N ks) (hN : a0.tmps.size = N) (hD : ∀ k D, fl.at k = some D → ∀ v w w', D v w → R w w' → D v w')
    {listed : Array Bool} {a : Act} {w w' : World} (inv : InvR S ops n fl val a0 listed a w) {i : Nat} {o : Oper} (hi : i < n) (ho : ops[i]? = some o) (hl : i < listed.size) {u : Value}
    (hu : fl.at i = none → u = val i) (huf : ∀ D, fl.at i = some D → D u w') (hs : S (ranOf (listed.setIfInBounds i true)) w') (hg : R w w') : InvR S ops n fl val a0 (listed.setIfInBounds i true) (a.put o.dst u) w' := by
  have key : ∀ k o' t, k < n → ops[k]? = some o' → o'.dst = some t → k ≠ i → (a.put o.dst u).tmps[t]? = a.tmps[t]? := by
    intro k o' t hk ho' hd hne
    exact put_get_ne fun e => ok.ne i o k o' t hi hk ho ho' hne e hd
  refine ⟨hs, (put_defers' _ _ _).trans inv.defers, (put_size _ _ _).trans inv.size, ?_, ?_, ?_⟩
  · intro k o' t hk ho' hd hlk hc
    by_cases hki : k = i
    · subst hki
      have : o' = o := Option.some.inj (ho'.symm.trans ho)
      subst this
      rw [hd, put_get_eq (by rw [inv.size, hN]; exact ok.bd k o' t hk ho' hd), hu hc]
    · rw [key k o' t hk ho' hd hki]
      exact inv.calm k o' t hk ho' hd (by rwa [getD_set_ne false (Ne.symm hki)] at hlk) hc
  · intro k o' t D hk ho' hd hlk hc
    by_cases hki : k = i
    · subst hki
      have : o' = o := Option.some.inj (ho'.symm.trans ho)
      subst this
      exact ⟨u, by rw [hd, put_get_eq (by rw [inv.size, hN]; exact ok.bd k o' t hk ho' hd)], huf D hc⟩
    · rw [key k o' t hk ho' hd hki]
      obtain ⟨v, hv, hDv⟩ := inv.float k o' t D hk ho' hd (by rwa [getD_set_ne false (Ne.symm hki)] at hlk) hc
      exact ⟨v, hv, hD k D hc v _ _ hDv hg⟩
  · intro t ht
    have h1 : o.dst ≠ some t := ht i o hi ho (by simp [hl])
    rw [put_get_ne h1]
    exact inv.other t fun k o' hk ho' hlk => ht k o' hk ho' (getD_set_true hlk)

theorem head_runR {Q : Exit → Act → World → Prop} (ok : MixOk md ops n N ks) (hks : fl.map (·.1) = ks) (hN : a0.tmps.size = N) 
    (hD : ∀ k D, fl.at k = some D → ∀ v w w', D v w → R w w' → D v w') (good : GoodR P md ops S R fl val (ops.toList.take n) 0 a0) (g : Nat)
    (H : ∀ listed a w, HeadInv md ops n listed → (∀ i, i < n → listed.getD i false = true) → InvR S ops n fl val a0 listed a w → wpAny P md ops Q g listed a w) :
    ∀ (f : Nat) (listed : Array Bool) (a : Act) (w : World), ((List.range n).countP fun i => !listed.getD i false) ≤ f → HeadInv md ops n listed → InvR S ops n fl val a0 listed a w →
      wpAny P md ops Q (f + g) listed a w := by
  intro f
  induction f with
  | zero =>
    intro listed a w hc hinv inv
    rw [Nat.zero_add]
    refine H listed a w hinv (fun i hi => ?_) inv
    have h0 : ((List.range n).countP fun i => !listed.getD i false) = 0 := by omega
    rw [List.countP_eq_zero] at h0
    have := h0 i (List.mem_range.2 hi)
    simpa using this
  | succ f ih =>
    intro listed a w hc hinv inv
    by_cases hall : ∀ i, i < n → listed.getD i false = true
    · exact wpAny_fuel g listed a w (H listed a w hinv hall inv) (f + 1)
    · -- some op of the head is not listed yet
      have hex : ∃ i, i < n ∧ listed.getD i false = false := by
        apply Classical.byContradiction
        intro hno
        exact hall fun i hi => by
          cases h : listed.getD i false
          · exact absurd ⟨i, hi, h⟩ hno
          · rfl
      obtain ⟨i0, hi0, hl0⟩ := hex
      have hsz : ∀ i, i < n → i < listed.size := fun i hi => by rw [hinv.size]; have := ok.le; omega
      -- the least one is ready
      have hready : Region.ready md ops listed ≠ [] := by
        have : ∀ d i, i ≤ d → i < n → listed.getD i false = false → ∃ j, j ∈ Region.ready md ops listed := by
          intro d
          induction d with
          | zero =>
            intro i hid hi hl
            obtain ⟨o, ho⟩ : ∃ o, ops[i]? = some o := ⟨ops[i]'(by have := ok.le; omega), by simp [show i < ops.size by have := ok.le; omega]⟩
            refine ⟨i, mem_ready.2 ⟨getD_in (hsz i hi) hl, o, ho, fun e he hb => ?_⟩⟩
            have := ok.back i o hi ho e he hb
            omega
          | succ d ihd =>
            intro i hid hi hl
            obtain ⟨o, ho⟩ : ∃ o, ops[i]? = some o := ⟨ops[i]'(by have := ok.le; omega), by simp [show i < ops.size by have := ok.le; omega]⟩
            by_cases hw : ∀ e ∈ o.after, Region.binds md e = true → listed.getD e.on false = true
            · exact ⟨i, mem_ready.2 ⟨getD_in (hsz i hi) hl, o, ho, hw⟩⟩
            · have : ∃ e ∈ o.after, Region.binds md e = true ∧ listed.getD e.on false = false := by
                apply Classical.byContradiction
                intro hno
                exact hw fun e he hb => by
                  cases h : listed.getD e.on false
                  · exact absurd ⟨e, he, hb, h⟩ hno
                  · rfl
              obtain ⟨e, he, hb, hle⟩ := this
              have hlt := ok.back i o hi ho e he hb
              exact ihd e.on (by omega) (by omega) hle
        obtain ⟨j, hj⟩ := this i0 i0 (Nat.le_refl _) hi0 hl0
        intro h0
        rw [h0] at hj
        cases hj
      rw [show f + 1 + g = (f + g) + 1 by omega]
      refine ⟨fun h0 => absurd h0 hready, fun i hir => ?_⟩
      have hin : i < n := by
        rcases Nat.lt_or_ge i n with h | h
        · exact h
        · exfalso
          obtain ⟨_, oi, hoi, _⟩ := mem_ready.1 hir
          have hlt : i < ops.size := (Array.getElem?_eq_some_iff.1 hoi).1
          rcases ok.tail with ht | ⟨ht, hs, hch⟩
          · omega
          · exact tail_waits hs hch ht hinv _ i0 rfl hi0 (getD_in (hsz i0 hi0) hl0) i h hir
      obtain ⟨hun, o, ho, hwaits⟩ := mem_ready.1 hir
      have hst := op_stepR ok hks hN good inv hin ho hir
      have hunf : listed.getD i false = false := getD_both hun
      have hcnt : ((List.range n).countP fun j => !(listed.setIfInBounds i true).getD j false) ≤ f := by
        have := countP_lt (p := fun j => !listed.getD j false) (q := fun j => !(listed.setIfInBounds i true).getD j false) (List.range n) (List.mem_range.2 hin)
          (fun j _ hj => by
            simp only [Bool.not_eq_true'] at hj ⊢
            cases h : listed.getD j false
            · rfl
            · rw [getD_set_true h] at hj; cases hj) (by simp only [hunf, Bool.not_false]) (by simp [hsz i hin])
        omega
      have hinv' := hinv.set hir hin
      have hat : At md ops i (ranOf listed) := ⟨hunf, needs_ran hinv _ i o ho hwaits⟩
      cases hf : fl.at i with
      | some D =>
        simp only [hf] at hst
        refine floatF_wpOp ho hst hat inv.s fun u w' hu hs hg => ih _ _ _ hcnt hinv' (inv_stepR ok hN hD inv hin ho (hsz i hin) (fun h => by rw [hf] at h; cases h) (fun D' h => by rw [hf] at h; injection h with h; subst h; exact hu) ?_ hg)
        rw [ranOf_set (hsz i hin)]
        exact hs
      | none =>
        simp only [hf] at hst
        refine calmF_wpOp ho hst hat inv.s fun w' hs hg => ih _ _ _ hcnt hinv' (inv_stepR ok hN hD inv hin ho (hsz i hin) (fun _ => rfl) (fun D' h => by rw [hf] at h; cases h) ?_ hg)
        rw [ranOf_set (hsz i hin)]
        exact hs
end

theorem wp_region_free {id : Nat} {Q : Exit → Act → World → Prop} {a : Act} {w : World} {l : List Oper} (S : Ran → World → Prop) (R : World → World → Prop) (fl : Floats) (n N : Nat) (hm : P.follows .mixedOrders = true) (hB : mixB .any l.toArray n N (fl.map (·.1)) = true)
    (hN : a.tmps.size = N) (hD : ∀ k D, fl.at k = some D → ∀ v w w', D v w → R w w' → D v w') (h0 : S (fun _ => false) w.drew)
    (h : wpFree P .any l.toArray S R fl (fun a' => endMix l.toArray (fun a'' w' => wpList P l.toArray Q (l.drop n) a'' w') (fun w' => ∃ L, (∀ k, k < n → L k = true) ∧ S L w') fl a' fun _ => True) (l.take n) 0 a) : (Code.region id l.toArray true).wp P Q a w := by
  have ok := mixOk_of hB
  have hle : n ≤ l.length := by simpa using ok.le
  obtain ⟨val, good, hL⟩ := good_of_wpFree (l.take n) 0 a h
  refine wp_region_any hm ?_
  have inv0 : HeadInv .any l.toArray n (Array.replicate l.toArray.size false) :=
    ⟨by simp, fun j oj _ hl => (by rw [getD_replicate_false] at hl; cases hl), fun t _ ht => getD_in (by simpa using ht) (getD_replicate_false _ _)⟩
  have key := head_runR (md := .any) (Q := Q) (ops := l.toArray) (S := S) (R := R) (fl := fl) (val := val) (a0 := a) ok rfl hN hD (by simpa using good) (l.length - n) (by
    intro listed b w' hinv hall inv
    refine (show l.length - n = (l.drop n).length by simp) ▸ wpAny_of_seq (l.drop n) n listed b w' (fun j => by simp [List.getElem?_drop]) ?_ ?_
    · have hls : listed = (Array.replicate n true) ++ (Array.replicate (l.length - n) false) := by
        refine Array.ext (by simp [hinv.size]; omega) fun i h1 h2 => ?_
        have hsz : i < l.length := by have := hinv.size; simp at this; omega
        by_cases hin : i < n
        · have := hall i hin
          rw [Array.getElem_append_left (by simpa using hin)]
          simpa [h1] using this
        · have := hinv.tail i (by omega) (by simpa using hsz)
          rw [Array.getElem_append_right (by simp; omega)]
          simpa [h1] using this
      have := ok.seq
      rw [hls]
      simpa using this
    · refine endMix_out (ops := l.toArray) (T := fun a'' w' => wpList P l.toArray Q (l.drop n) a'' w') ⟨ranOf listed, fun k hk => hall k hk, inv.s⟩ fl _ _ hL trivial ((fin_defers _ _ _).trans inv.defers.symm) ((fin_size _ _ _).trans inv.size.symm) ?_ ?_
      · intro k D hk
        obtain ⟨hkn, t, ht⟩ := ok.fl k (List.mem_map.2 ⟨(k, D), hk, rfl⟩)
        obtain ⟨o, ho, hd⟩ := Option.bind_eq_some_iff.1 ht
        obtain ⟨v, hv, hDv⟩ := inv.float k o t D hkn ho hd (hall k hkn) (lookup_some ok.nd hk)
        exact ⟨t, v, ht, hv, hDv⟩
      · intro t ht
        by_cases hex : ∃ k o', k < n ∧ l.toArray[k]? = some o' ∧ o'.dst = some t
        · obtain ⟨k, o', hk, ho', hd⟩ := hex
          have hcalm : fl.at k = none := by
            cases hf : fl.at k with
            | none => rfl
            | some D =>
              exfalso
              have hm := lookup_key hf
              obtain ⟨⟨k', D'⟩, hmem, rfl⟩ := List.mem_map.1 hm
              exact ht k' D' hmem (by simp only [ho', Option.bind_some, hd])
          have e1 := inv.calm k o' t hk ho' hd (hall k hk) hcalm
          have e2 := fin_at (fl := fl) (val := val) (l.take n) 0 a k o' (by have := take_get (ops := l.toArray) hk ho'; simpa using this) hd (by rw [Nat.zero_add]; exact hcalm)
            (by rw [hN]; exact ok.bd k o' t hk ho' hd) (by
              intro j oj hj hne hdj
              obtain ⟨hji, hoj⟩ := of_take_get (ops := l.toArray) (by simpa using hj)
              exact ok.ne j oj k o' t hji hk hoj ho' (Ne.symm hne) hdj hd)
          rw [Nat.zero_add] at e2
          rw [e1, e2]
        · have e1 := inv.other t fun k o' hk ho' _ hd => hex ⟨k, o', hk, ho', hd⟩
          have e2 := fin_other (fl := fl) (val := val) (t := t) (l.take n) 0 a fun j oj hj _ hd => by
            obtain ⟨hji, hoj⟩ := of_take_get (ops := l.toArray) (by simpa using hj)
            exact hex ⟨j, oj, hji, hoj, hd⟩
          rw [e1, e2]) n (Array.replicate l.toArray.size false) a w.drew (by
      have := List.countP_le_length (p := fun i => !(Array.replicate l.toArray.size false).getD i false) (l := List.range n)
      simpa using this) inv0 ⟨by rw [show ranOf (Array.replicate l.toArray.size false) = fun _ => false from funext fun k => getD_replicate_false _ _]; exact h0, rfl, rfl, fun k o t _ _ _ hl => (by rw [getD_replicate_false] at hl; cases hl), fun k o t D _ _ _ hl => (by rw [getD_replicate_false] at hl; cases hl), fun t _ => rfl⟩
  rw [show n + (l.length - n) = l.toArray.size by simp; omega] at key
  exact key

section
variable {fl : Floats} {L : Act → Prop} {o : Oper} {l : List Oper} {k : Nat} {a a' : Act} {v : Value}
theorem fr_plain (hg : o.guard = none) (hf : fl.at k = none) (hc : ∀ L w, At md ops k L → S L w → stepR P (fun w' => S (upd L k) w' ∧ R w w') ((execOp a.eval o).run P w) v) (ha : a.put o.dst v = a') (h : wpFree P md ops S R fl L l (k + 1) a') : wpFree P md ops S R fl L (o :: l) k a := by
  subst ha
  simp only [wpFree, hf]
  exact ⟨v, .inl ⟨by simp [Region.wanted, hg], hc⟩, h⟩
theorem fr_yes (hf : fl.at k = none) (hw : Region.wanted o (yielded ops a.tmps) = true) (hc : ∀ L w, At md ops k L → S L w → stepR P (fun w' => S (upd L k) w' ∧ R w w') ((execOp a.eval o).run P w) v) (ha : a.put o.dst v = a') (h : wpFree P md ops S R fl L l (k + 1) a') : wpFree P md ops S R fl L (o :: l) k a := by
  subst ha
  simp only [wpFree, hf]
  exact ⟨v, .inl ⟨hw, hc⟩, h⟩
theorem fr_no (hf : fl.at k = none) (hw : Region.wanted o (yielded ops a.tmps) = false) (hc : ∀ L w, At md ops k L → S L w → S (upd L k) w ∧ R w w) (ha : a.put o.dst undef = a') (h : wpFree P md ops S R fl L l (k + 1) a') : wpFree P md ops S R fl L (o :: l) k a := by
  subst ha
  simp only [wpFree, hf]
  exact ⟨undef, .inr ⟨hw, rfl, hc⟩, h⟩
theorem fr_float {D : Value → World → Prop} (hg : o.guard = none) (hf : fl.at k = some D) (hc : ∀ L w, At md ops k L → S L w → someR D (fun w' => S (upd L k) w' ∧ R w w') ((execOp a.eval o).run P w)) (h : wpFree P md ops S R fl L l (k + 1) a) : wpFree P md ops S R fl L (o :: l) k a := by
  simp only [wpFree, hf]
  exact ⟨⟨hg, hc⟩, h⟩
theorem fr_done (h : L a) : wpFree P md ops S R fl L [] k a := h
end
theorem fr_grow {P : Program} {T : World → Prop} {w : World} {u : Value} {f : FuncId} {args : Array Value} (h : Calls P f args w fun e w' => e = .returned u ∧ Grows w w') (ht : ∀ w', Grows w w' → T w') : stepR P T (.ok (.enter f args) w) u :=
  h.mono fun _ _ ⟨he, hg⟩ => ⟨he, ht _ hg⟩
theorem fr_some {D : Value → World → Prop} {T : World → Prop} {w : World} {u : Value} (hd : D u w) (ht : T w) : someR D T (.ok (.value u) w) := ⟨hd, ht⟩
end
/-- Only the blocks bs may have changed, and there may be new ones. -/
def Only (bs : List Nat) (w w' : World) : Prop := w.heap.size ≤ w'.heap.size ∧ ∀ k, k < w.heap.size → k ∉ bs → w'.heap[k]? = w.heap[k]?
theorem Only.refl (bs : List Nat) (w : World) : Only bs w w := ⟨Nat.le_refl _, fun _ _ _ => rfl⟩
theorem Only.grows {bs : List Nat} {w w' : World} (h : Grows w w') : Only bs w w' := ⟨h.size, fun k hk _ => h.block k hk⟩
theorem Only.grown {bs : List Nat} {w w' : World} {g : Nat} (h : w.grownBy w' (some g)) (hg : g ∈ bs) : Only bs w w' := ⟨h.size, fun k hk hn => h.block k hk (fun e => by injection e with e; subst e; exact hn hg)⟩
theorem Only.set {bs : List Nat} {a w : World} (h : Only bs a w) {p : Addr} (hp : p.block ∈ bs) (u : Value) : Only bs a (w.setCell p u) := ⟨by simpa [World.setCell] using h.1, fun k hk hn => (Below.heap_setCell w p u k (fun e => hn (e ▸ hp))).trans (h.2 k hk hn)⟩
theorem Only.alloc {bs : List Nat} {a w : World} (h : Only bs a w) (o : Obj) : Only bs a (w.alloc o) := ⟨Nat.le_trans h.1 (by simp), fun k hk hn => (Below.heap_alloc w o k (Nat.lt_of_lt_of_le hk h.1)).trans (h.2 k hk hn)⟩
theorem Blk.only {bs : List Nat} {w w' : World} {g : Nat} {t : TypeId} {cs : Array Value} (h : Blk w g t cs) (ho : Only bs w w') (hg : g ∉ bs) : Blk w' g t cs := (ho.2 g h.lt hg).trans h
end Go.Proofs.Ytmokpiacioeohaa
