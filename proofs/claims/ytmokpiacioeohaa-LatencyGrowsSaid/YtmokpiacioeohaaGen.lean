/-
  A region that draws its order, whatever its operations yield: each value is known by what holds of it once its operation has run. Plain theorems over whatever program.
-/
import Derived.Test.YtmokpiacioeohaaFree
namespace Go.Proofs.Ytmokpiacioeohaa
open Go.RowKit
/-- The values, with that of operation k. -/
def setV (vs : Nat → Value) (k : Nat) (u : Value) : Nat → Value := fun j => if j = k then u else vs j
def genR (P : Program) (T : Value → World → Prop) : Result Next → Prop
  | .ok (.value u) w' => T u w'
  | .ok .skip w' => T undef w'
  | .ok (.enter f args) w' => Calls P f args w' fun e w'' => ∃ u, e = .returned u ∧ T u w''
  | _ => False
section
variable {P : Program} {ops : Array Oper} {S : Ran → (Nat → Value) → World → Prop} {md : Region.Mode}
def GenOp (P : Program) (ops : Array Oper) (S : Ran → (Nat → Value) → World → Prop) (k : Nat) (o : Oper) (a : Act) (vs : Nat → Value) (L : Ran) (w : World) : Prop :=
  (Region.wanted o (yielded ops a.tmps) = true ∧ genR P (fun u w' => S (upd L k) (setV vs k u) w') ((execOp a.eval o).run P w)) ∨ (Region.wanted o (yielded ops a.tmps) = false ∧ S (upd L k) (setV vs k undef) w)
theorem gen_wpOp {Q : Exit → Act → World → Prop} {L : Ran} {i : Nat} {o : Oper} {a : Act} {w : World} {vs : Nat → Value} {K : Act → World → Prop} (hi : ops[i]? = some o) (hc : GenOp P ops S i o a vs L w)
    (hK : ∀ u w', S (upd L i) (setV vs i u) w' → K (a.put o.dst u) w') : wpOp P ops Q i K a w := by
  unfold wpOp
  simp only [hi]
  rcases hc with ⟨hwt, hr⟩ | ⟨hwt, ht⟩
  · simp only [hwt, if_true]
    refine .inl ?_
    unfold Oper.wp
    generalize (execOp a.eval o).run P w = r at *
    cases r with
    | ok n w' =>
      cases n <;> simp only [genR] at hr <;> simp only [Oper.upon]
      case value u => exact hK _ _ hr
      case skip => exact hK _ _ hr
      case enter f args => exact hr.mono fun e w'' ⟨u, he, hs⟩ => by subst he; exact hK _ _ hs
    | halt x w' => simp only [genR] at hr
  · simp only [hwt, Bool.false_eq_true, if_false]
    exact hK _ _ ht
structure InvG (S : Ran → (Nat → Value) → World → Prop) (ops : Array Oper) (vs : Nat → Value) (a0 : Act) (listed : Array Bool) (a : Act) (w : World) : Prop where
  s : S (ranOf listed) vs w
  defers : a.defers = a0.defers
  size : a.tmps.size = a0.tmps.size
  calm : ∀ k o t, ops[k]? = some o → o.dst = some t → listed.getD k false = true → a.tmps[t]? = some (vs k)
  other : ∀ t, (∀ k o, ops[k]? = some o → listed.getD k false = true → o.dst ≠ some t) → a.tmps[t]? = a0.tmps[t]?
variable {N : Nat} {a0 : Act}
theorem lt_of_get {k : Nat} {o : Oper} (h : ops[k]? = some o) : k < ops.size := (Array.getElem?_eq_some_iff.1 h).1
theorem gen_agree (ok : MixOk md ops ops.size N []) (hN : a0.tmps.size = N) {vs : Nat → Value} {listed : Array Bool} {a : Act} {w : World} (inv : InvG S ops vs a0 listed a w) {i : Nat} {o : Oper} (ho : ops[i]? = some o) (hr : i ∈ Region.ready md ops listed) :
    ∀ t ∈ o.looksAt ops, (fin [] vs (ops.toList.take i) 0 a0).tmps[t]? = a.tmps[t]? := by
  intro t ht
  have hi := lt_of_get ho
  by_cases hex : ∃ (k : Nat) (o' : Oper), ops[k]? = some o' ∧ o'.dst = some t
  · obtain ⟨k, o', ho', hd⟩ := hex
    have hk := lt_of_get ho'
    obtain ⟨h1, _, h3⟩ := ok.look i o k o' t hi hk ho ho' hd ht
    have hlisted : listed.getD k false = true := by
      obtain ⟨oj, hoj, e, he, hb, hon⟩ := Region.waitsFor_spec h3
      obtain ⟨_, oi, hoi, hall⟩ := mem_ready.1 hr
      have : oj = oi := Option.some.inj (hoj.symm.trans hoi)
      subst this
      have := hall e he hb
      rwa [hon] at this
    have e1 := inv.calm k o' t ho' hd hlisted
    have hlt : t < a0.tmps.size := by rw [hN]; exact ok.bd k o' t hk ho' hd
    have e2 := fin_at (fl := []) (val := vs) (ops.toList.take i) 0 a0 k o' (take_get h1 ho') hd rfl hlt (by
      intro j oj hj hne hdj
      obtain ⟨hji, hoj⟩ := of_take_get hj
      exact ok.ne j oj k o' t (by omega) hk hoj ho' (Ne.symm hne) hdj hd)
    rw [Nat.zero_add] at e2
    rw [e1, e2]
  · have e1 := inv.other t fun k o' ho' _ hd => hex ⟨k, o', ho', hd⟩
    have e2 := fin_other (fl := []) (val := vs) (ops.toList.take i) 0 a0 fun j oj hj _ hd => by
      obtain ⟨_, hoj⟩ := of_take_get hj
      exact hex ⟨j, oj, hoj, hd⟩
    rw [e1, e2]
theorem inv_stepG (ok : MixOk md ops ops.size N []) (hN : a0.tmps.size = N) {vs : Nat → Value} {listed : Array Bool} {a : Act} {w w' : World} (inv : InvG S ops vs a0 listed a w) {i : Nat} {o : Oper} (ho : ops[i]? = some o) (hl : i < listed.size) {u : Value}
    (hs : S (ranOf (listed.setIfInBounds i true)) (setV vs i u) w') : InvG S ops (setV vs i u) a0 (listed.setIfInBounds i true) (a.put o.dst u) w' := by
  have hi := lt_of_get ho
  have key : ∀ k o' t, ops[k]? = some o' → o'.dst = some t → k ≠ i → (a.put o.dst u).tmps[t]? = a.tmps[t]? := by
    intro k o' t ho' hd hne
    exact put_get_ne fun e => ok.ne i o k o' t hi (lt_of_get ho') ho ho' hne e hd
  refine ⟨hs, (put_defers' _ _ _).trans inv.defers, (put_size _ _ _).trans inv.size, ?_, ?_⟩
  · intro k o' t ho' hd hlk
    by_cases hki : k = i
    · subst hki
      have : o' = o := Option.some.inj (ho'.symm.trans ho)
      subst this
      rw [hd, put_get_eq (by rw [inv.size, hN]; exact ok.bd k o' t hi ho' hd)]
      simp [setV]
    · rw [key k o' t ho' hd hki, inv.calm k o' t ho' hd (by rwa [getD_set_ne false (Ne.symm hki)] at hlk)]
      simp [setV, hki]
  · intro t ht
    have h1 : o.dst ≠ some t := ht i o ho (by simp [hl])
    rw [put_get_ne h1]
    exact inv.other t fun k o' ho' hlk => ht k o' ho' (getD_set_true hlk)
theorem gen_run {Q : Exit → Act → World → Prop} (ok : MixOk md ops ops.size N []) (hN : a0.tmps.size = N)
    (good : ∀ k o, ops[k]? = some o → ∀ vs L w, At md ops k L → S L vs w → GenOp P ops S k o (fin [] vs (ops.toList.take k) 0 a0) vs L w)
    (H : ∀ listed a w vs, (∀ i, i < ops.size → listed.getD i false = true) → InvG S ops vs a0 listed a w → Q .normal a w) :
    ∀ (f : Nat) (listed : Array Bool) (a : Act) (w : World) (vs : Nat → Value), ((List.range ops.size).countP fun i => !listed.getD i false) ≤ f → HeadInv md ops ops.size listed → InvG S ops vs a0 listed a w →
      wpAny P md ops Q f listed a w := by
  have done : ∀ listed : Array Bool, (∀ i, i < ops.size → listed.getD i false = true) → Region.ready md ops listed = [] := by
    intro listed hall
    rw [List.eq_nil_iff_forall_not_mem]
    intro i hi
    obtain ⟨h1, o, ho, _⟩ := mem_ready.1 hi
    have := hall i (lt_of_get ho)
    rw [getD_both h1] at this
    cases this
  intro f
  induction f with
  | zero =>
    intro listed a w vs hc hinv inv
    have hall : ∀ i, i < ops.size → listed.getD i false = true := fun i hi => by
      have h0 : ((List.range ops.size).countP fun i => !listed.getD i false) = 0 := by omega
      rw [List.countP_eq_zero] at h0
      have := h0 i (List.mem_range.2 hi)
      simpa using this
    exact ⟨done listed hall, H listed a w vs hall inv⟩
  | succ f ih =>
    intro listed a w vs hc hinv inv
    by_cases hall : ∀ i, i < ops.size → listed.getD i false = true
    · exact ⟨fun _ => H listed a w vs hall inv, fun i hi => by rw [done listed hall] at hi; cases hi⟩
    · have hex : ∃ i, i < ops.size ∧ listed.getD i false = false := by
        apply Classical.byContradiction
        intro hno
        exact hall fun i hi => by
          cases h : listed.getD i false
          · exact absurd ⟨i, hi, h⟩ hno
          · rfl
      obtain ⟨i0, hi0, hl0⟩ := hex
      have hsz : ∀ i, i < ops.size → i < listed.size := fun i hi => by rw [hinv.size]; exact hi
      have hready : Region.ready md ops listed ≠ [] := by
        have : ∀ d i, i ≤ d → i < ops.size → listed.getD i false = false → ∃ j, j ∈ Region.ready md ops listed := by
          intro d
          induction d with
          | zero =>
            intro i hid hi hl
            obtain ⟨o, ho⟩ : ∃ o, ops[i]? = some o := ⟨ops[i], by simp [hi]⟩
            refine ⟨i, mem_ready.2 ⟨getD_in (hsz i hi) hl, o, ho, fun e he hb => ?_⟩⟩
            have := ok.back i o hi ho e he hb
            omega
          | succ d ihd =>
            intro i hid hi hl
            obtain ⟨o, ho⟩ : ∃ o, ops[i]? = some o := ⟨ops[i], by simp [hi]⟩
            by_cases hw : ∀ e ∈ o.after, Region.binds md e = true → listed.getD e.on false = true
            · exact ⟨i, mem_ready.2 ⟨getD_in (hsz i hi) hl, o, ho, hw⟩⟩
            · have : ∃ e ∈ o.after, Region.binds md e = true ∧ listed.getD e.on false = false := by
                apply Classical.byContradiction
                intro hno
                exact hw fun e he hb => by
                  cases h : listed.getD e.on false
                  · exact absurd ⟨e, he, hb, h⟩ hno
                  · rfl
              obtain ⟨e, he, hb, hle⟩ := this
              have hlt := ok.back i o hi ho e he hb
              exact ihd e.on (by omega) (by omega) hle
        obtain ⟨j, hj⟩ := this i0 i0 (Nat.le_refl _) hi0 hl0
        intro h0
        rw [h0] at hj
        cases hj
      refine ⟨fun h0 => absurd h0 hready, fun i hir => ?_⟩
      obtain ⟨hun, o, ho, hwaits⟩ := mem_ready.1 hir
      have hin := lt_of_get ho
      have hunf : listed.getD i false = false := getD_both hun
      have hcnt : ((List.range ops.size).countP fun j => !(listed.setIfInBounds i true).getD j false) ≤ f := by
        have := countP_lt (p := fun j => !listed.getD j false) (q := fun j => !(listed.setIfInBounds i true).getD j false) (List.range ops.size) (List.mem_range.2 hin)
          (fun j _ hj => by
            simp only [Bool.not_eq_true'] at hj ⊢
            cases h : listed.getD j false
            · rfl
            · rw [getD_set_true h] at hj; cases hj) (by simp only [hunf, Bool.not_false]) (by simp [hsz i hin])
        omega
      have hinv' := hinv.set hir hin
      have hat : At md ops i (ranOf listed) := ⟨hunf, needs_ran hinv _ i o ho hwaits⟩
      have hag := gen_agree ok hN inv ho hir
      have hg := good i o ho vs (ranOf listed) w hat inv.s
      have hs : ∀ cs b, o.op ≠ .select cs b := fun cs b => Region.noSelect_spec ok.sel i o cs b ho
      unfold GenOp at hg
      rw [run_agree (ops := ops) hs hag, wanted_agree hag] at hg
      refine gen_wpOp ho hg fun u w' hs' => ih _ _ _ _ hcnt hinv' (inv_stepG ok hN inv ho (hsz i hin) ?_)
      rw [ranOf_set (hsz i hin)]
      exact hs'
end
theorem act_ext {a b : Act} (hd : a.defers = b.defers) (hs : a.tmps.size = b.tmps.size) (ht : ∀ t : Nat, a.tmps[t]? = b.tmps[t]?) : a = b := by
  cases a
  cases b
  simp only at hd hs ht
  subst hd
  congr 1
  exact Array.ext_getElem? ht
theorem wp_region_gen {P : Program} {id : Nat} {Q : Exit → Act → World → Prop} {a : Act} {w : World} {l : List Oper} (S : Ran → (Nat → Value) → World → Prop) (N : Nat) (hm : P.follows .mixedOrders = true) (hB : mixB .any l.toArray l.length N [] = true)
    (hN : a.tmps.size = N) (h0 : S (fun _ => false) (fun _ => undef) w.drew)
    (good : ∀ k o, l[k]? = some o → ∀ vs L w, At .any l.toArray k L → S L vs w → GenOp P l.toArray S k o (fin [] vs (l.take k) 0 a) vs L w)
    (h : ∀ vs L w', (∀ k, k < l.length → L k = true) → S L vs w' → Q .normal (fin [] vs l 0 a) w') : (Code.region id l.toArray true).wp P Q a w := by
  have ok := mixOk_of hB
  have ok' : MixOk .any l.toArray l.toArray.size N [] := by simpa using ok
  refine wp_region_any hm ?_
  have inv0 : HeadInv .any l.toArray l.toArray.size (Array.replicate l.toArray.size false) :=
    ⟨by simp, fun j oj _ hl => (by rw [getD_replicate_false] at hl; cases hl), fun t ht ht' => by omega⟩
  refine gen_run (md := .any) (Q := Q) (ops := l.toArray) (S := S) (a0 := a) ok' hN (by simpa using good) ?_ l.toArray.size (Array.replicate l.toArray.size false) a w.drew (fun _ => undef) ?_ inv0 ?_
  · intro listed a' w' vs hall inv
    have he : a' = fin [] vs l 0 a := by
      refine act_ext (inv.defers.trans (fin_defers _ _ _).symm) (inv.size.trans (fin_size _ _ _).symm) fun t => ?_
      by_cases hex : ∃ (k : Nat) (o' : Oper), l.toArray[k]? = some o' ∧ o'.dst = some t
      · obtain ⟨k, o', ho', hd⟩ := hex
        have hk := lt_of_get ho'
        have e1 := inv.calm k o' t ho' hd (hall k hk)
        have e2 := fin_at (fl := []) (val := vs) l 0 a k o' (by simpa using ho') hd rfl (by rw [hN]; exact ok'.bd k o' t hk ho' hd) (by
          intro j oj hj hne hdj
          exact ok'.ne j oj k o' t (lt_of_get (ops := l.toArray) (by simpa using hj)) hk (by simpa using hj) ho' (Ne.symm hne) hdj hd)
        rw [Nat.zero_add] at e2
        rw [e1, e2]
      · have e1 := inv.other t fun k o' ho' _ hd => hex ⟨k, o', ho', hd⟩
        have e2 := fin_other (fl := []) (val := vs) (t := t) l 0 a fun j oj hj _ hd => hex ⟨j, oj, by simpa using hj, hd⟩
        rw [e1, e2]
    rw [he]
    exact h vs (ranOf listed) w' (fun k hk => hall k (by simpa using hk)) inv.s
  · have := List.countP_le_length (p := fun i => !(Array.replicate l.toArray.size false).getD i false) (l := List.range l.toArray.size)
    simpa using this
  · exact ⟨by rw [show ranOf (Array.replicate l.toArray.size false) = fun _ => false from funext fun k => getD_replicate_false _ _]; exact h0, rfl, rfl, fun k o t _ _ hl => (by rw [getD_replicate_false] at hl; cases hl), fun t _ => rfl⟩
def GenW (P : Program) (full : List Oper) (S : Ran → (Nat → Value) → World → Prop) (E : Act → World → Prop) : List Oper → Nat → ((Nat → Value) → Act) → Prop
  | [], _, A => ∀ vs L w', (∀ k, k < full.length → L k = true) → S L vs w' → E (A vs) w'
  | o :: l, k, A => (∀ vs L w, At .any full.toArray k L → S L vs w → GenOp P full.toArray S k o (A vs) vs L w) ∧ GenW P full S E l (k + 1) (fun vs => (A vs).put o.dst (vs k))
theorem genW_out {P : Program} {full : List Oper} {S : Ran → (Nat → Value) → World → Prop} {E : Act → World → Prop} : ∀ (l : List Oper) (k : Nat) (A : (Nat → Value) → Act), GenW P full S E l k A →
    (∀ j o, l[j]? = some o → ∀ vs L w, At .any full.toArray (k + j) L → S L vs w → GenOp P full.toArray S (k + j) o (fin [] vs (l.take j) k (A vs)) vs L w) ∧ ∀ vs L w', (∀ k, k < full.length → L k = true) → S L vs w' → E (fin [] vs l k (A vs)) w'
  | [], _, _, h => ⟨fun j o hj => by simp at hj, h⟩
  | o :: l, k, A, h => by
    obtain ⟨h1, h2⟩ := genW_out l (k + 1) _ h.2
    refine ⟨fun j o' hj => ?_, h2⟩
    cases j with
    | zero =>
      simp only [List.getElem?_cons_zero, Option.some.injEq] at hj
      subst hj
      exact h.1
    | succ j =>
      have := h1 j o' (by simpa using hj)
      rw [show k + 1 + j = k + (j + 1) by omega] at this
      exact this
theorem wp_region_genW {P : Program} {id : Nat} {Q : Exit → Act → World → Prop} {a : Act} {w : World} {l : List Oper} (S : Ran → (Nat → Value) → World → Prop) (N : Nat) (hm : P.follows .mixedOrders = true) (hB : mixB .any l.toArray l.length N [] = true)
    (hN : a.tmps.size = N) (h0 : S (fun _ => false) (fun _ => undef) w.drew) (h : GenW P l S (Q .normal) l 0 (fun _ => a)) : (Code.region id l.toArray true).wp P Q a w := by
  obtain ⟨h1, h2⟩ := genW_out l 0 _ h
  refine wp_region_gen S N hm hB hN h0 (fun k o hk vs L w' hL hS => ?_) h2
  have := h1 k o hk vs L w'
  rw [Nat.zero_add] at this
  exact this hL hS
section
variable {P : Program} {full l : List Oper} {S : Ran → (Nat → Value) → World → Prop} {E : Act → World → Prop} {o : Oper} {k : Nat} {A A' : (Nat → Value) → Act}
theorem gen_cons (hc : ∀ vs L w, At .any full.toArray k L → S L vs w → GenOp P full.toArray S k o (A vs) vs L w) (hA : ∀ vs, (A vs).put o.dst (vs k) = A' vs) (h : GenW P full S E l (k + 1) A') : GenW P full S E (o :: l) k A := by
  obtain rfl : (fun vs => (A vs).put o.dst (vs k)) = A' := funext hA
  exact ⟨hc, h⟩
theorem gen_nil (h : ∀ vs L w', (∀ k, k < full.length → L k = true) → S L vs w' → E (A vs) w') : GenW P full S E [] k A := h
variable {ops : Array Oper} {a : Act} {vs : Nat → Value} {L : Ran} {w : World}
theorem gen_plain (hg : o.guard = none) (h : genR P (fun u w' => S (upd L k) (setV vs k u) w') ((execOp a.eval o).run P w)) : GenOp P ops S k o a vs L w := .inl ⟨by simp [Region.wanted, hg], h⟩
theorem gen_yes (hw : Region.wanted o (yielded ops a.tmps) = true) (h : genR P (fun u w' => S (upd L k) (setV vs k u) w') ((execOp a.eval o).run P w)) : GenOp P ops S k o a vs L w := .inl ⟨hw, h⟩
theorem gen_no (hw : Region.wanted o (yielded ops a.tmps) = false) (h : S (upd L k) (setV vs k undef) w) : GenOp P ops S k o a vs L w := .inr ⟨hw, h⟩
variable {T : Value → World → Prop}
theorem gr_val {u : Value} (h : T u w) : genR P T (.ok (.value u) w) := h
theorem gr_skip (h : T undef w) : genR P T (.ok .skip w) := h
theorem gr_call {f : FuncId} {args : Array Value} (h : Calls P f args w fun e w' => ∃ u, e = .returned u ∧ T u w') : genR P T (.ok (.enter f args) w) := h
/-- The values that are known. -/
def KnS (KN : List (Option Value)) (L : Ran) (vs : Nat → Value) : Prop := ∀ j v, KN[j]? = some (some v) → L j = true → vs j = v
theorem kn_none (KN : List (Option Value)) (vs : Nat → Value) : KnS KN (fun _ => false) vs := fun _ _ _ h => by cases h
theorem kn_known {KN : List (Option Value)} {u : Value} (h : KnS KN L vs) (hk : KN[k]? = some (some u)) : KnS KN (upd L k) (setV vs k u) := by
  intro j v hj hL
  unfold setV
  unfold upd at hL
  by_cases e : j = k
  · subst e
    rw [if_pos rfl]
    rw [hk] at hj
    injection hj with hj
    injection hj
  · rw [if_neg e] at hL ⊢
    exact h j v hj hL
theorem kn_free {KN : List (Option Value)} {u : Value} (h : KnS KN L vs) (hk : KN[k]? = some none) : KnS KN (upd L k) (setV vs k u) := by
  intro j v hj hL
  unfold setV
  unfold upd at hL
  by_cases e : j = k
  · subst e
    rw [hk] at hj
    cases hj
  · rw [if_neg e] at hL ⊢
    exact h j v hj hL
end
end Go.Proofs.Ytmokpiacioeohaa
