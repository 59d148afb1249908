/-
  As XMix, for a region with calls that turn memory in a chain ('steps'): the world passes through the states S 0, S 1, ..; every other operation is calm in each of them. Plain lemmas over whatever program.
-/
import Derived.Test.YtmokpiacioeohaaMix
namespace Go.Proofs.Ytmokpiacioeohaa
open Go.RowKit

/-- The op gives the value v and leads into a world with T. -/
def stepR (P : Program) (T : World → Prop) : Result Next → Value → Prop
  | .ok (.value u) w', v => u = v ∧ T w'
  | .ok .skip w', v => v = undef ∧ T w'
  | .ok (.enter f args) w', v => Calls P f args w' fun e w'' => e = .returned v ∧ T w''
  | _, _ => False
def StepAt (P : Program) (ops : Array Oper) (S T : World → Prop) (o : Oper) (v : Value) (a : Act) : Prop :=
  (Region.wanted o (yielded ops a.tmps) = true ∧ ∀ w, S w → stepR P T ((execOp a.eval o).run P w) v) ∨ (Region.wanted o (yielded ops a.tmps) = false ∧ v = undef ∧ ∀ w, S w → T w)
def stIx : List Nat → Nat → Option Nat
  | [], _ => none
  | x :: r, k => if x = k then some 0 else (stIx r k).map (· + 1)
theorem stIx_some : ∀ {r : List Nat} {k j : Nat}, stIx r k = some j → r[j]? = some k
  | [], _, _, h => by cases h
  | x :: r, k, j, h => by
    unfold stIx at h
    split at h
    · injection h with h; subst h; simp; assumption
    · obtain ⟨i, hi, rfl⟩ := Option.map_eq_some_iff.1 h
      simpa using stIx_some hi
theorem stIx_none : ∀ {r : List Nat} {k : Nat}, stIx r k = none → k ∉ r
  | [], _, _ => by simp
  | x :: r, k, h => by
    unfold stIx at h
    split at h
    · cases h
    · rename_i hne
      have := stIx_none (r := r) (k := k) (by simpa using h)
      simp only [List.mem_cons, not_or]
      exact ⟨fun e => hne e.symm, this⟩

section
variable {P : Program} {ops : Array Oper} {S : Nat → World → Prop} {md : Region.Mode}
def stHi (md : Region.Mode) (ops : Array Oper) : List Nat → Nat → Nat
  | [], _ => 0
  | s :: r, i => if Region.waitsFor md ops s i then 0 else stHi md ops r i + 1
def StAt (P : Program) (md : Region.Mode) (ops : Array Oper) (S : Nat → World → Prop) (sts : List Nat) (k : Nat) (o : Oper) (v : Value) (a : Act) : Prop :=
  match stIx sts k with
  | some j => StepAt P ops (S j) (S (j + 1)) o v a
  | none => CalmAt P ops (fun w => ∃ p, p ≤ stHi md ops sts k ∧ S p w) o v a
def wpSt (P : Program) (md : Region.Mode) (ops : Array Oper) (S : Nat → World → Prop) (sts : List Nat) (L : Act → Prop) : List Oper → Nat → Act → Prop
  | [], _, a => L a
  | o :: l, k, a => ∃ v, StAt P md ops S sts k o v a ∧ wpSt P md ops S sts L l (k + 1) (a.put o.dst v)
def GoodS (P : Program) (md : Region.Mode) (ops : Array Oper) (S : Nat → World → Prop) (sts : List Nat) (val : Nat → Value) : List Oper → Nat → Act → Prop
  | [], _, _ => True
  | o :: l, k, a => StAt P md ops S sts k o (val k) a ∧ GoodS P md ops S sts val l (k + 1) (a.put o.dst (val k))
theorem GoodS_congr {sts : List Nat} {val val' : Nat → Value} : ∀ (l : List Oper) (k : Nat) (a : Act), (∀ j, k ≤ j → val j = val' j) → GoodS P md ops S sts val l k a → GoodS P md ops S sts val' l k a
  | [], _, _, _, _ => trivial
  | o :: l, k, a, h, hg => by
    simp only [GoodS, h k (Nat.le_refl _)] at hg ⊢
    exact ⟨hg.1, GoodS_congr l (k + 1) _ (fun j hj => h j (by omega)) hg.2⟩
theorem good_of_wpSt {sts : List Nat} {L : Act → Prop} : ∀ (l : List Oper) (k : Nat) (a : Act), wpSt P md ops S sts L l k a → ∃ val, GoodS P md ops S sts val l k a ∧ L (fin [] val l k a)
  | [], _, a, h => ⟨fun _ => undef, trivial, h⟩
  | o :: l, k, a, h => by
    obtain ⟨v, hc, h2⟩ := h
    obtain ⟨val, hg, hL⟩ := good_of_wpSt l (k + 1) (a.put o.dst v) h2
    have hcg : ∀ j, k + 1 ≤ j → val j = (fun i => if i = k then v else val i) j := fun j hj => by simp only []; rw [if_neg (by omega)]
    refine ⟨fun i => if i = k then v else val i, ?_, ?_⟩
    · simp only [GoodS, if_true]
      exact ⟨hc, GoodS_congr l (k + 1) _ hcg hg⟩
    · simp only [fin, stepAct, Floats.at, List.lookup_nil, if_true]
      rw [← fin_congr l (k + 1) _ hcg]
      exact hL
theorem goodS_at {sts : List Nat} {val : Nat → Value} : ∀ (l : List Oper) (k : Nat) (a : Act) (j : Nat) (o : Oper), GoodS P md ops S sts val l k a → l[j]? = some o → StAt P md ops S sts (k + j) o (val (k + j)) (fin [] val (l.take j) k a)
  | [], _, _, _, _, _, hj => by simp at hj
  | _ :: l, k, _, 0, o, hg, hj => by
    simp only [List.getElem?_cons_zero, Option.some.injEq] at hj
    subst hj
    simpa [GoodS, fin] using hg.1
  | o' :: l, k, a, j + 1, o, hg, hj => by
    have := goodS_at l (k + 1) _ j o hg.2 (by simpa using hj)
    rw [show k + 1 + j = k + (j + 1) by omega] at this
    simpa [fin, stepAct, Floats.at] using this
theorem stHi_le : ∀ {sts : List Nat} {i p : Nat}, p ≤ sts.length → (∀ j s, sts[j]? = some s → j < p → Region.waitsFor md ops s i = false) → p ≤ stHi md ops sts i
  | [], _, _, h, _ => by simpa [stHi] using h
  | s :: r, i, 0, _, _ => Nat.zero_le _
  | s :: r, i, p + 1, h, hh => by
    have h0 := hh 0 s rfl (by omega)
    unfold stHi
    rw [h0]
    simp only [Bool.false_eq_true, if_false]
    have := stHi_le (sts := r) (i := i) (p := p) (by simpa using h) fun j s' hj hlt => hh (j + 1) s' (by simpa using hj) (by omega)
    omega
theorem StAt.agree {sts : List Nat} {k : Nat} {o : Oper} (hs : ∀ cs b, o.op ≠ .select cs b) {v : Value} {a a' : Act} (h : ∀ t ∈ o.looksAt ops, a.tmps[t]? = a'.tmps[t]?) (hc : StAt P md ops S sts k o v a) : StAt P md ops S sts k o v a' := by
  unfold StAt StepAt CalmAt at *
  rw [← run_agree (ops := ops) hs h, ← wanted_agree h]
  exact hc

def stepB (md : Region.Mode) (ops : Array Oper) (n N : Nat) (sts : List Nat) : Bool :=
  mixB md ops n N [] && decide sts.Nodup && sts.all (fun s => decide (s < n)) && (List.range (sts.length - 1)).all (fun j => Region.waitsFor md ops (sts.getD (j + 1) 0) (sts.getD j 0))

structure InvS (S : Nat → World → Prop) (ops : Array Oper) (n : Nat) (sts : List Nat) (val : Nat → Value) (a0 : Act) (listed : Array Bool) (a : Act) (w : World) : Prop where
  s : ∃ p, p ≤ sts.length ∧ S p w ∧ ∀ j i, sts[j]? = some i → (listed.getD i false = true ↔ j < p)
  defers : a.defers = a0.defers
  size : a.tmps.size = a0.tmps.size
  calm : ∀ k o t, k < n → ops[k]? = some o → o.dst = some t → listed.getD k false = true → a.tmps[t]? = some (val k)
  other : ∀ t, (∀ k o, k < n → ops[k]? = some o → listed.getD k false = true → o.dst ≠ some t) → a.tmps[t]? = a0.tmps[t]?

theorem stepAt_wpOp {Q : Exit → Act → World → Prop} {S T : World → Prop} {i : Nat} {o : Oper} {v : Value} {a : Act} {w : World} {K : Act → World → Prop} (hi : ops[i]? = some o) (hc : StepAt P ops S T o v a) (hw : S w)
    (hK : ∀ w', T w' → K (a.put o.dst v) w') : wpOp P ops Q i K a w := by
  unfold wpOp
  simp only [hi]
  rcases hc with ⟨hwt, hr⟩ | ⟨hwt, rfl, ht⟩
  · simp only [hwt, if_true]
    refine .inl ?_
    have := hr w hw
    unfold Oper.wp
    generalize (execOp a.eval o).run P w = r at *
    cases r with
    | ok n w' =>
      cases n <;> simp only [stepR] at this <;> simp only [Oper.upon]
      case value u => obtain ⟨rfl, hg⟩ := this; exact hK _ hg
      case skip => obtain ⟨rfl, hg⟩ := this; exact hK _ hg
      case enter f args => exact this.mono fun e w'' ⟨he, hg⟩ => by subst he; exact hK _ hg
    | halt x w' => simp only [stepR] at this
  · simp only [hwt, Bool.false_eq_true, if_false]
    exact hK _ (ht w hw)

section
variable {n N : Nat} {sts : List Nat} {val : Nat → Value} {a0 : Act}
theorem op_stepS (ok : MixOk md ops n N []) (hN : a0.tmps.size = N) (good : GoodS P md ops S sts val (ops.toList.take n) 0 a0)
    {listed : Array Bool} {a : Act} {w : World} (inv : InvS S ops n sts val a0 listed a w) {i : Nat} {o : Oper} (hi : i < n) (ho : ops[i]? = some o) (hr : i ∈ Region.ready md ops listed) : StAt P md ops S sts i o (val i) a := by
  have hg := goodS_at (ops.toList.take n) 0 a0 i o good (take_get hi ho)
  rw [Nat.zero_add] at hg
  rw [List.take_take, Nat.min_eq_left (by omega)] at hg
  have hs : ∀ cs b, o.op ≠ .select cs b := fun cs b => Region.noSelect_spec ok.sel i o cs b ho
  have agree : ∀ t ∈ o.looksAt ops, (fin [] val (ops.toList.take i) 0 a0).tmps[t]? = a.tmps[t]? := by
    intro t ht
    by_cases hex : ∃ k o', k < n ∧ ops[k]? = some o' ∧ o'.dst = some t
    · obtain ⟨k, o', hk, ho', hd⟩ := hex
      obtain ⟨h1, _, h3⟩ := ok.look i o k o' t hi hk ho ho' hd ht
      have hlisted : listed.getD k false = true := by
        obtain ⟨oj, hoj, e, he, hb, hon⟩ := Region.waitsFor_spec h3
        obtain ⟨_, oi, hoi, hall⟩ := mem_ready.1 hr
        have : oj = oi := Option.some.inj (hoj.symm.trans hoi)
        subst this
        have := hall e he hb
        rwa [hon] at this
      have e1 := inv.calm k o' t hk ho' hd hlisted
      have hlt : t < a0.tmps.size := by rw [hN]; exact ok.bd k o' t hk ho' hd
      have e2 := fin_at (fl := []) (val := val) (ops.toList.take i) 0 a0 k o' (take_get h1 ho') hd rfl hlt (by
        intro j oj hj hne hdj
        obtain ⟨hji, hoj⟩ := of_take_get hj
        exact ok.ne j oj k o' t (by omega) hk hoj ho' (Ne.symm hne) hdj hd)
      rw [Nat.zero_add] at e2
      rw [e1, e2]
    · have e1 := inv.other t fun k o' hk ho' _ hd => hex ⟨k, o', hk, ho', hd⟩
      have e2 := fin_other (fl := []) (val := val) (t := t) (ops.toList.take i) 0 a0 fun j oj hj _ hd => by
        obtain ⟨hji, hoj⟩ := of_take_get hj
        exact hex ⟨j, oj, by omega, hoj, hd⟩
      rw [e1, e2]
  exact hg.agree hs agree

theorem inv_stepS (ok : MixOk md ops n N []) (hN : a0.tmps.size = N) {listed : Array Bool} {a : Act} {w w' : World} (inv : InvS S ops n sts val a0 listed a w) {i : Nat} {o : Oper} (hi : i < n) (ho : ops[i]? = some o) (hl : i < listed.size)
    (hs : ∃ p, p ≤ sts.length ∧ S p w' ∧ ∀ j i', sts[j]? = some i' → ((listed.setIfInBounds i true).getD i' false = true ↔ j < p)) : InvS S ops n sts val a0 (listed.setIfInBounds i true) (a.put o.dst (val i)) w' := by
  have key : ∀ k o' t, k < n → ops[k]? = some o' → o'.dst = some t → k ≠ i → (a.put o.dst (val i)).tmps[t]? = a.tmps[t]? := by
    intro k o' t hk ho' hd hne
    exact put_get_ne fun e => ok.ne i o k o' t hi hk ho ho' hne e hd
  refine ⟨hs, (put_defers' _ _ _).trans inv.defers, (put_size _ _ _).trans inv.size, ?_, ?_⟩
  · intro k o' t hk ho' hd hlk
    by_cases hki : k = i
    · subst hki
      have : o' = o := Option.some.inj (ho'.symm.trans ho)
      subst this
      rw [hd, put_get_eq (by rw [inv.size, hN]; exact ok.bd k o' t hk ho' hd)]
    · rw [key k o' t hk ho' hd hki]
      exact inv.calm k o' t hk ho' hd (by rwa [getD_set_ne false (Ne.symm hki)] at hlk)
  · intro t ht
    have h1 : o.dst ≠ some t := ht i o hi ho (by simp [hl])
    rw [put_get_ne h1]
    exact inv.other t fun k o' hk ho' hlk => ht k o' hk ho' (getD_set_true hlk)

structure StepOk (md : Region.Mode) (ops : Array Oper) (n : Nat) (sts : List Nat) : Prop where
  nd : sts.Nodup
  lt : ∀ s ∈ sts, s < n
  chain : ∀ j i k, sts[j]? = some i → sts[j + 1]? = some k → Region.waitsFor md ops k i = true
theorem stepOk_of (h : stepB md ops n N sts = true) : MixOk md ops n N [] ∧ StepOk md ops n sts := by
  simp only [stepB, Bool.and_eq_true, decide_eq_true_eq, List.all_eq_true, List.mem_range] at h
  obtain ⟨⟨⟨h1, h2⟩, h3⟩, h4⟩ := h
  refine ⟨mixOk_of h1, h2, h3, fun j i k hi hk => ?_⟩
  have hj : j + 1 < sts.length := (List.getElem?_eq_some_iff.1 hk).1
  have := h4 j (by omega)
  simpa [List.getD_eq_getElem?_getD, hi, hk] using this

theorem head_runS {Q : Exit → Act → World → Prop} (ok : MixOk md ops n N []) (sk : StepOk md ops n sts) (hN : a0.tmps.size = N) (hS : ∀ p w w', S p w → Grows w w' → S p w')
    (good : GoodS P md ops S sts val (ops.toList.take n) 0 a0) (g : Nat)
    (H : ∀ listed a w, HeadInv md ops n listed → (∀ i, i < n → listed.getD i false = true) → InvS S ops n sts val a0 listed a w → wpAny P md ops Q g listed a w) :
    ∀ (f : Nat) (listed : Array Bool) (a : Act) (w : World), ((List.range n).countP fun i => !listed.getD i false) ≤ f → HeadInv md ops n listed → InvS S ops n sts val a0 listed a w →
      wpAny P md ops Q (f + g) listed a w := by
  intro f
  induction f with
  | zero =>
    intro listed a w hc hinv inv
    rw [Nat.zero_add]
    refine H listed a w hinv (fun i hi => ?_) inv
    have h0 : ((List.range n).countP fun i => !listed.getD i false) = 0 := by omega
    rw [List.countP_eq_zero] at h0
    have := h0 i (List.mem_range.2 hi)
    simpa using this
  | succ f ih =>
    intro listed a w hc hinv inv
    by_cases hall : ∀ i, i < n → listed.getD i false = true
    · exact wpAny_fuel g listed a w (H listed a w hinv hall inv) (f + 1)
    · have hex : ∃ i, i < n ∧ listed.getD i false = false := by
        apply Classical.byContradiction
        intro hno
        exact hall fun i hi => by
          cases h : listed.getD i false
          · exact absurd ⟨i, hi, h⟩ hno
          · rfl
      obtain ⟨i0, hi0, hl0⟩ := hex
      have hsz : ∀ i, i < n → i < listed.size := fun i hi => by rw [hinv.size]; have := ok.le; omega
      have hready : Region.ready md ops listed ≠ [] := by
        have : ∀ d i, i ≤ d → i < n → listed.getD i false = false → ∃ j, j ∈ Region.ready md ops listed := by
          intro d
          induction d with
          | zero =>
            intro i hid hi hl
            obtain ⟨o, ho⟩ : ∃ o, ops[i]? = some o := ⟨ops[i]'(by have := ok.le; omega), by simp [show i < ops.size by have := ok.le; omega]⟩
            refine ⟨i, mem_ready.2 ⟨getD_in (hsz i hi) hl, o, ho, fun e he hb => ?_⟩⟩
            have := ok.back i o hi ho e he hb
            omega
          | succ d ihd =>
            intro i hid hi hl
            obtain ⟨o, ho⟩ : ∃ o, ops[i]? = some o := ⟨ops[i]'(by have := ok.le; omega), by simp [show i < ops.size by have := ok.le; omega]⟩
            by_cases hw : ∀ e ∈ o.after, Region.binds md e = true → listed.getD e.on false = true
            · exact ⟨i, mem_ready.2 ⟨getD_in (hsz i hi) hl, o, ho, hw⟩⟩
            · have : ∃ e ∈ o.after, Region.binds md e = true ∧ listed.getD e.on false = false := by
                apply Classical.byContradiction
                intro hno
                exact hw fun e he hb => by
                  cases h : listed.getD e.on false
                  · exact absurd ⟨e, he, hb, h⟩ hno
                  · rfl
              obtain ⟨e, he, hb, hle⟩ := this
              have hlt := ok.back i o hi ho e he hb
              exact ihd e.on (by omega) (by omega) hle
        obtain ⟨j, hj⟩ := this i0 i0 (Nat.le_refl _) hi0 hl0
        intro h0
        rw [h0] at hj
        cases hj
      rw [show f + 1 + g = (f + g) + 1 by omega]
      refine ⟨fun h0 => absurd h0 hready, fun i hir => ?_⟩
      have hin : i < n := by
        rcases Nat.lt_or_ge i n with h | h
        · exact h
        · exfalso
          obtain ⟨_, oi, hoi, _⟩ := mem_ready.1 hir
          have hlt : i < ops.size := (Array.getElem?_eq_some_iff.1 hoi).1
          rcases ok.tail with ht | ⟨ht, hs, hch⟩
          · omega
          · exact tail_waits hs hch ht hinv _ i0 rfl hi0 (getD_in (hsz i0 hi0) hl0) i h hir
      obtain ⟨hun, o, ho, hwaits⟩ := mem_ready.1 hir
      have hst := op_stepS ok hN good inv hin ho hir
      have hunf : listed.getD i false = false := getD_both hun
      have hcnt : ((List.range n).countP fun j => !(listed.setIfInBounds i true).getD j false) ≤ f := by
        have := countP_lt (p := fun j => !listed.getD j false) (q := fun j => !(listed.setIfInBounds i true).getD j false) (List.range n) (List.mem_range.2 hin)
          (fun j _ hj => by
            simp only [Bool.not_eq_true'] at hj ⊢
            cases h : listed.getD j false
            · rfl
            · rw [getD_set_true h] at hj; cases hj) (by simp only [hunf, Bool.not_false]) (by simp [hsz i hin])
        omega
      have hinv' := hinv.set hir hin
      obtain ⟨p, hp, hsp, hpl⟩ := inv.s
      cases hf : stIx sts i with
      | some j =>
        have hj := stIx_some hf
        simp only [StAt, hf] at hst
        have hpj : p = j := by
          have h1 : ¬ j < p := fun h => by
            have := (hpl j i hj).2 h
            rw [hunf] at this
            cases this
          have h2 : j ≤ p := by
            rcases Nat.eq_zero_or_pos j with h0 | h0
            · omega
            · have hjl := (List.getElem?_eq_some_iff.1 hj).1
              have hk : sts[j - 1]? = some (sts[j - 1]'(by omega)) := List.getElem?_eq_getElem (by omega)
              have hwf := sk.chain (j - 1) _ i hk (by rw [Nat.sub_add_cancel h0]; exact hj)
              obtain ⟨oj, hoj, e, he, hb, hon⟩ := Region.waitsFor_spec hwf
              have : oj = o := Option.some.inj (hoj.symm.trans ho)
              subst this
              have hh := hwaits e he hb
              rw [hon] at hh
              have := (hpl (j - 1) _ hk).1 hh
              omega
          omega
        subst hpj
        refine stepAt_wpOp ho hst hsp fun w' hw' => ih _ _ _ hcnt hinv' (inv_stepS ok hN inv hin ho (hsz i hin) ⟨p + 1, (List.getElem?_eq_some_iff.1 hj).1, hw', fun k i' hk => ?_⟩)
        by_cases hkp : k = p
        · subst hkp
          have : i' = i := Option.some.inj (hk.symm.trans hj)
          subst this
          simp [hsz i' hin]
        · have hne : i ≠ i' := by
            rintro rfl
            have hk1 := (List.getElem?_eq_some_iff.1 hk).1
            exact hkp ((List.getElem?_inj hk1 sk.nd).1 (hk.trans hj.symm))
          rw [getD_set_ne false hne, hpl k i' hk]
          omega
      | none =>
        have hni := stIx_none hf
        simp only [StAt, hf] at hst
        have hhi : p ≤ stHi md ops sts i := stHi_le hp fun j s hj hlt => by
          cases hwf : Region.waitsFor md ops s i
          · rfl
          · exfalso
            obtain ⟨oj, hoj, e, he, hb, hon⟩ := Region.waitsFor_spec hwf
            have h1 := (hpl j s hj).2 hlt
            have h2 := hinv.closed s oj hoj h1 e he hb
            rw [hon, hunf] at h2
            cases h2
        refine calm_wpOp ho hst ⟨p, hhi, hsp⟩ fun w' hg => ih _ _ _ hcnt hinv' (inv_stepS ok hN inv hin ho (hsz i hin) ⟨p, hp, hS p _ _ hsp hg, fun k i' hk => ?_⟩)
        have hne : i ≠ i' := by
          rintro rfl
          exact hni (List.mem_of_getElem? hk)
        rw [getD_set_ne false hne, hpl k i' hk]
end

theorem wp_region_step {id : Nat} {Q : Exit → Act → World → Prop} {a : Act} {w : World} {l : List Oper} (S : Nat → World → Prop) (sts : List Nat) (n N : Nat) (hm : P.follows .mixedOrders = true) (hB : stepB .any l.toArray n N sts = true)
    (hN : a.tmps.size = N) (hS : ∀ p w w', S p w → Grows w w' → S p w') (h0 : S 0 w.drew)
    (h : wpSt P .any l.toArray S sts (fun a' => ∀ w', S sts.length w' → wpList P l.toArray Q (l.drop n) a' w') (l.take n) 0 a) : (Code.region id l.toArray true).wp P Q a w := by
  obtain ⟨ok, sk⟩ := stepOk_of hB
  have hle : n ≤ l.length := by simpa using ok.le
  obtain ⟨val, good, hL⟩ := good_of_wpSt (l.take n) 0 a h
  refine wp_region_any hm ?_
  have inv0 : HeadInv .any l.toArray n (Array.replicate l.toArray.size false) :=
    ⟨by simp, fun j oj _ hl => (by rw [getD_replicate_false] at hl; cases hl), fun t _ ht => getD_in (by simpa using ht) (getD_replicate_false _ _)⟩
  have key := head_runS (md := .any) (Q := Q) (ops := l.toArray) (S := S) (sts := sts) (val := val) (a0 := a) ok sk hN hS (by simpa using good) (l.length - n) (by
    intro listed b w' hinv hall inv
    refine (show l.length - n = (l.drop n).length by simp) ▸ wpAny_of_seq (l.drop n) n listed b w' (fun j => by simp [List.getElem?_drop]) ?_ ?_
    · have hls : listed = (Array.replicate n true) ++ (Array.replicate (l.length - n) false) := by
        refine Array.ext (by simp [hinv.size]; omega) fun i h1 h2 => ?_
        have hsz : i < l.length := by have := hinv.size; simp at this; omega
        by_cases hin : i < n
        · have := hall i hin
          rw [Array.getElem_append_left (by simpa using hin)]
          simpa [h1] using this
        · have := hinv.tail i (by omega) (by simpa using hsz)
          rw [Array.getElem_append_right (by simp; omega)]
          simpa [h1] using this
      have := ok.seq
      rw [hls]
      simpa using this
    · obtain ⟨p, hp, hsp, hpl⟩ := inv.s
      have hpe : p = sts.length := by
        rcases Nat.lt_or_ge p sts.length with hlt | hge
        · have hk : sts[p]? = some (sts[p]'hlt) := List.getElem?_eq_getElem hlt
          have := (hpl p _ hk).1 (hall _ (sk.lt _ (List.getElem_mem hlt)))
          omega
        · omega
      subst hpe
      have hb : b = fin [] val (l.take n) 0 a := by
        have e1 : b.defers = (fin [] val (l.take n) 0 a).defers := inv.defers.trans (fin_defers _ _ _).symm
        have e2 : b.tmps = (fin [] val (l.take n) 0 a).tmps := by
          refine Array.ext_getElem? fun t => ?_
          by_cases hex : ∃ k o', k < n ∧ l.toArray[k]? = some o' ∧ o'.dst = some t
          · obtain ⟨k, o', hk, ho', hd⟩ := hex
            have e1 := inv.calm k o' t hk ho' hd (hall k hk)
            have e2 := fin_at (fl := []) (val := val) (l.take n) 0 a k o' (by have := take_get (ops := l.toArray) hk ho'; simpa using this) hd rfl
              (by rw [hN]; exact ok.bd k o' t hk ho' hd) (by
                intro j oj hj hne hdj
                obtain ⟨hji, hoj⟩ := of_take_get (ops := l.toArray) (by simpa using hj)
                exact ok.ne j oj k o' t hji hk hoj ho' (Ne.symm hne) hdj hd)
            rw [Nat.zero_add] at e2
            rw [e1, e2]
          · have e1 := inv.other t fun k o' hk ho' _ hd => hex ⟨k, o', hk, ho', hd⟩
            have e2 := fin_other (fl := []) (val := val) (t := t) (l.take n) 0 a fun j oj hj _ hd => by
              obtain ⟨hji, hoj⟩ := of_take_get (ops := l.toArray) (by simpa using hj)
              exact hex ⟨j, oj, by omega, hoj, hd⟩
            rw [e1, e2]
        obtain ⟨bt, bd⟩ := b
        generalize fin [] val (l.take n) 0 a = z at *
        obtain ⟨zt, zd⟩ := z
        simp only at e1 e2
        rw [e1, e2]
      rw [hb]
      exact hL w' hsp) n (Array.replicate l.toArray.size false) a w.drew (by
      have := List.countP_le_length (p := fun i => !(Array.replicate l.toArray.size false).getD i false) (l := List.range n)
      simpa using this) inv0 ⟨⟨0, Nat.zero_le _, h0, fun j i _ => ⟨fun h => (by rw [getD_replicate_false] at h; cases h), fun h => absurd h (Nat.not_lt_zero _)⟩⟩, rfl, rfl, fun k o t _ _ _ hl => (by rw [getD_replicate_false] at hl; cases hl), fun t _ => rfl⟩
  rw [show n + (l.length - n) = l.toArray.size by simp; omega] at key
  exact key

section
variable {sts : List Nat} {L : Act → Prop} {o : Oper} {l : List Oper} {k : Nat} {a a' : Act} {v : Value}
theorem st_plain (hf : stIx sts k = none) (hg : o.guard = none) (hc : ∀ w, (∃ p, S p w) → calmR P w ((execOp a.eval o).run P w) v) (ha : a.put o.dst v = a') (h : wpSt P md ops S sts L l (k + 1) a') : wpSt P md ops S sts L (o :: l) k a := by
  subst ha
  exact ⟨v, by simp only [StAt, hf]; exact .inl ⟨by simp [Region.wanted, hg], fun w ⟨p, _, h⟩ => hc w ⟨p, h⟩⟩, h⟩
theorem st_yes (hf : stIx sts k = none) (hw : Region.wanted o (yielded ops a.tmps) = true) (hc : ∀ w, (∃ p, S p w) → calmR P w ((execOp a.eval o).run P w) v) (ha : a.put o.dst v = a') (h : wpSt P md ops S sts L l (k + 1) a') : wpSt P md ops S sts L (o :: l) k a := by
  subst ha
  exact ⟨v, by simp only [StAt, hf]; exact .inl ⟨hw, fun w ⟨p, _, h⟩ => hc w ⟨p, h⟩⟩, h⟩
/-- An operation that some step waits for: it sees the states up to that step only. -/
theorem st_upto {j : Nat} (hj : stHi md ops sts k = j) (hf : stIx sts k = none) (hg : o.guard = none) (hc : ∀ w, (∃ p, p ≤ j ∧ S p w) → calmR P w ((execOp a.eval o).run P w) v) (ha : a.put o.dst v = a') (h : wpSt P md ops S sts L l (k + 1) a') : wpSt P md ops S sts L (o :: l) k a := by
  subst ha
  exact ⟨v, by simp only [StAt, hf, hj]; exact .inl ⟨by simp [Region.wanted, hg], hc⟩, h⟩
theorem st_upto_yes {j : Nat} (hj : stHi md ops sts k = j) (hf : stIx sts k = none) (hw : Region.wanted o (yielded ops a.tmps) = true) (hc : ∀ w, (∃ p, p ≤ j ∧ S p w) → calmR P w ((execOp a.eval o).run P w) v) (ha : a.put o.dst v = a') (h : wpSt P md ops S sts L l (k + 1) a') : wpSt P md ops S sts L (o :: l) k a := by
  subst ha
  exact ⟨v, by simp only [StAt, hf, hj]; exact .inl ⟨hw, hc⟩, h⟩
theorem st_no (hf : stIx sts k = none) (hw : Region.wanted o (yielded ops a.tmps) = false) (ha : a.put o.dst undef = a') (h : wpSt P md ops S sts L l (k + 1) a') : wpSt P md ops S sts L (o :: l) k a := by
  subst ha
  exact ⟨undef, by simp only [StAt, hf]; exact .inr ⟨hw, rfl⟩, h⟩
theorem st_step {j : Nat} (hf : stIx sts k = some j) (hg : o.guard = none) (hc : ∀ w, S j w → stepR P (S (j + 1)) ((execOp a.eval o).run P w) v) (ha : a.put o.dst v = a') (h : wpSt P md ops S sts L l (k + 1) a') : wpSt P md ops S sts L (o :: l) k a := by
  subst ha
  exact ⟨v, by simp only [StAt, hf]; exact .inl ⟨by simp [Region.wanted, hg], hc⟩, h⟩
theorem st_step_yes {j : Nat} (hf : stIx sts k = some j) (hw : Region.wanted o (yielded ops a.tmps) = true) (hc : ∀ w, S j w → stepR P (S (j + 1)) ((execOp a.eval o).run P w) v) (ha : a.put o.dst v = a') (h : wpSt P md ops S sts L l (k + 1) a') : wpSt P md ops S sts L (o :: l) k a := by
  subst ha
  exact ⟨v, by simp only [StAt, hf]; exact .inl ⟨hw, hc⟩, h⟩
theorem st_step_no {j : Nat} (hf : stIx sts k = some j) (hw : Region.wanted o (yielded ops a.tmps) = false) (hc : ∀ w, S j w → S (j + 1) w) (ha : a.put o.dst undef = a') (h : wpSt P md ops S sts L l (k + 1) a') : wpSt P md ops S sts L (o :: l) k a := by
  subst ha
  exact ⟨undef, by simp only [StAt, hf]; exact .inr ⟨hw, rfl, hc⟩, h⟩
theorem st_done (h : L a) : wpSt P md ops S sts L [] k a := h
theorem step_skip {T : World → Prop} {w : World} (h : T w) : stepR P T (.ok .skip w) undef := ⟨rfl, h⟩
theorem step_val {T : World → Prop} {w : World} {u : Value} (h : T w) : stepR P T (.ok (.value u) w) u := ⟨rfl, h⟩
theorem step_call {T : World → Prop} {w : World} {u : Value} {f : FuncId} {args : Array Value} (h : Calls P f args w fun e w' => e = .returned u ∧ T w') : stepR P T (.ok (.enter f args) w) u := h
end
end
end Go.Proofs.Ytmokpiacioeohaa
