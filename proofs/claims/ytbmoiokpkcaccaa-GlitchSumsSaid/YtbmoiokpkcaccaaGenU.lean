/-
  Drawn regions in which an operation may write a slot that an earlier one reads, if it waits for that one: otherwise as XGen. Plain theorems over whatever program.
-/
import Derived.Test.YtbmoiokpkcaccaaGen
namespace Go.Proofs.Ytbmoiokpkcaccaa
open Go.RowKit
section
variable {P : Program} {ops : Array Oper} {S : Ran → (Nat → Value) → World → Prop} {md : Region.Mode}
def mixU (md : Region.Mode) (ops : Array Oper) (N : Nat) : Bool :=
  Region.noSelect ops &&
  (List.range ops.size).all (fun i => match ops[i]? with
    | none => false
    | some o => (match o.dst with | none => true | some t => decide (t < N)) && o.after.all (fun e => !Region.binds md e || decide (e.on < i)) &&
      (List.range ops.size).all (fun k => (k == i || match o.dst with | none => true | some t => !((ops[k]?).bind (·.dst) == some t)) &&
        (match (ops[k]?).bind (·.dst) with
         | none => true
         | some t => !(o.looksAt ops).contains t || (decide (k < i) && Region.waitsFor md ops i k) || (decide (i < k) && Region.waitsFor md ops k i))))
structure MixU (md : Region.Mode) (ops : Array Oper) (N : Nat) : Prop where
  sel : Region.noSelect ops = true
  bd : ∀ i o t, i < ops.size → ops[i]? = some o → o.dst = some t → t < N
  back : ∀ i o, i < ops.size → ops[i]? = some o → ∀ e ∈ o.after, Region.binds md e = true → e.on < i
  ne : ∀ i o k o' t, i < ops.size → k < ops.size → ops[i]? = some o → ops[k]? = some o' → k ≠ i → o.dst = some t → o'.dst ≠ some t
  look : ∀ i o k o' t, i < ops.size → k < ops.size → ops[i]? = some o → ops[k]? = some o' → o'.dst = some t → t ∈ o.looksAt ops → (k < i ∧ Region.waitsFor md ops i k = true) ∨ (i < k ∧ Region.waitsFor md ops k i = true)
theorem mixU_of {N : Nat} (h : mixU md ops N = true) : MixU md ops N := by
  simp only [mixU, Bool.and_eq_true, decide_eq_true_eq, List.all_eq_true, Bool.or_eq_true, List.mem_range] at h
  obtain ⟨h1, h7⟩ := h
  have H : ∀ i o, i < ops.size → ops[i]? = some o → _ := fun i o hi ho => by
    have := h7 i hi
    rw [ho] at this
    exact this
  refine ⟨h1, ?_, ?_, ?_, ?_⟩
  · intro i o t hi ho hd
    have := (H i o hi ho)
    simp only [Bool.and_eq_true, hd, decide_eq_true_eq] at this
    exact this.1.1
  · intro i o hi ho e he hb
    have := (H i o hi ho)
    simp only [Bool.and_eq_true] at this
    have h8 := Array.all_eq_true_iff_forall_mem.1 this.1.2 e he
    simpa [hb] using h8
  · intro i o k o' t hi hk ho ho' hne hd
    have := (H i o hi ho)
    simp only [Bool.and_eq_true, List.all_eq_true, List.mem_range] at this
    have h8 := (this.2 k hk).1
    simp only [ho', Option.bind_some, hd, Bool.or_eq_true, beq_iff_eq, hne, false_or, Bool.not_eq_true', beq_eq_false_iff_ne] at h8
    exact h8
  · intro i o k o' t hi hk ho ho' hd ht
    have := (H i o hi ho)
    simp only [Bool.and_eq_true, List.all_eq_true, List.mem_range] at this
    have h8 := (this.2 k hk).2
    have hc : (o.looksAt ops).contains t = true := by simpa using ht
    simp only [ho', Option.bind_some, hd, hc, Bool.not_true, Bool.false_or, Bool.or_eq_true, Bool.and_eq_true, decide_eq_true_eq] at h8
    exact h8
variable {N : Nat} {a0 : Act}
theorem genu_agree (ok : MixU md ops N) (hN : a0.tmps.size = N) {vs : Nat → Value} {listed : Array Bool} {a : Act} {w : World} (hinv : HeadInv md ops ops.size listed) (inv : InvG S ops vs a0 listed a w) {i : Nat} {o : Oper} (ho : ops[i]? = some o) (hr : i ∈ Region.ready md ops listed) :
    ∀ t ∈ o.looksAt ops, (fin [] vs (ops.toList.take i) 0 a0).tmps[t]? = a.tmps[t]? := by
  intro t ht
  have hi := lt_of_get ho
  by_cases hex : ∃ (k : Nat) (o' : Oper), ops[k]? = some o' ∧ o'.dst = some t
  · obtain ⟨k, o', ho', hd⟩ := hex
    have hk := lt_of_get ho'
    rcases ok.look i o k o' t hi hk ho ho' hd ht with ⟨h1, h3⟩ | ⟨h1, h3⟩
    · have hlisted : listed.getD k false = true := by
        obtain ⟨oj, hoj, e, he, hb, hon⟩ := Region.waitsFor_spec h3
        obtain ⟨_, oi, hoi, hall⟩ := mem_ready.1 hr
        have : oj = oi := Option.some.inj (hoj.symm.trans hoi)
        subst this
        have := hall e he hb
        rwa [hon] at this
      have e1 := inv.calm k o' t ho' hd hlisted
      have hlt : t < a0.tmps.size := by rw [hN]; exact ok.bd k o' t hk ho' hd
      have e2 := fin_at (fl := []) (val := vs) (ops.toList.take i) 0 a0 k o' (take_get h1 ho') hd rfl hlt (by
        intro j oj hj hne hdj
        obtain ⟨hji, hoj⟩ := of_take_get hj
        exact ok.ne j oj k o' t (by omega) hk hoj ho' (Ne.symm hne) hdj hd)
      rw [Nat.zero_add] at e2
      rw [e1, e2]
    · have hun : listed.getD k false = false := by
        cases hlk : listed.getD k false
        · rfl
        · obtain ⟨oj, hoj, e, he, hb, hon⟩ := Region.waitsFor_spec h3
          have : oj = o' := Option.some.inj (hoj.symm.trans ho')
          subst this
          have h4 := hinv.closed k oj ho' hlk e he hb
          obtain ⟨h5, _⟩ := mem_ready.1 hr
          rw [hon] at h4
          rw [getD_both h5] at h4
          cases h4
      have only : ∀ (j : Nat) (oj : Oper), ops[j]? = some oj → oj.dst = some t → j = k := fun j oj hoj hdj => by
        apply Classical.byContradiction
        intro hne
        exact ok.ne j oj k o' t (lt_of_get hoj) hk hoj ho' (Ne.symm hne) hdj hd
      have e1 := inv.other t fun j oj hoj hlj hdj => by
        have := only j oj hoj hdj
        subst this
        rw [hun] at hlj
        cases hlj
      have e2 := fin_other (fl := []) (val := vs) (ops.toList.take i) 0 a0 fun j oj hj _ hdj => by
        obtain ⟨hji, hoj⟩ := of_take_get hj
        have := only j oj hoj hdj
        omega
      rw [e1, e2]
  · have e1 := inv.other t fun k o' ho' _ hd => hex ⟨k, o', ho', hd⟩
    have e2 := fin_other (fl := []) (val := vs) (ops.toList.take i) 0 a0 fun j oj hj _ hd => by
      obtain ⟨_, hoj⟩ := of_take_get hj
      exact hex ⟨j, oj, hoj, hd⟩
    rw [e1, e2]
theorem inv_stepU (ok : MixU md ops N) (hN : a0.tmps.size = N) {vs : Nat → Value} {listed : Array Bool} {a : Act} {w w' : World} (inv : InvG S ops vs a0 listed a w) {i : Nat} {o : Oper} (ho : ops[i]? = some o) (hl : i < listed.size) {u : Value}
    (hs : S (ranOf (listed.setIfInBounds i true)) (setV vs i u) w') : InvG S ops (setV vs i u) a0 (listed.setIfInBounds i true) (a.put o.dst u) w' := by
  have hi := lt_of_get ho
  have key : ∀ k o' t, ops[k]? = some o' → o'.dst = some t → k ≠ i → (a.put o.dst u).tmps[t]? = a.tmps[t]? := by
    intro k o' t ho' hd hne
    exact put_get_ne fun e => ok.ne i o k o' t hi (lt_of_get ho') ho ho' hne e hd
  refine ⟨hs, (put_defers' _ _ _).trans inv.defers, (put_size _ _ _).trans inv.size, ?_, ?_⟩
  · intro k o' t ho' hd hlk
    by_cases hki : k = i
    · subst hki
      have : o' = o := Option.some.inj (ho'.symm.trans ho)
      subst this
      rw [hd, put_get_eq (by rw [inv.size, hN]; exact ok.bd k o' t hi ho' hd)]
      simp [setV]
    · rw [key k o' t ho' hd hki, inv.calm k o' t ho' hd (by rwa [getD_set_ne false (Ne.symm hki)] at hlk)]
      simp [setV, hki]
  · intro t ht
    have h1 : o.dst ≠ some t := ht i o ho (by simp [hl])
    rw [put_get_ne h1]
    exact inv.other t fun k o' ho' hlk => ht k o' ho' (getD_set_true hlk)
theorem genu_run {Q : Exit → Act → World → Prop} (ok : MixU md ops N) (hN : a0.tmps.size = N)
    (good : ∀ k o, ops[k]? = some o → ∀ vs L w, At md ops k L → S L vs w → GenOp P ops S k o (fin [] vs (ops.toList.take k) 0 a0) vs L w)
    (H : ∀ listed a w vs, (∀ i, i < ops.size → listed.getD i false = true) → InvG S ops vs a0 listed a w → Q .normal a w) :
    ∀ (f : Nat) (listed : Array Bool) (a : Act) (w : World) (vs : Nat → Value), ((List.range ops.size).countP fun i => !listed.getD i false) ≤ f → HeadInv md ops ops.size listed → InvG S ops vs a0 listed a w →
      wpAny P md ops Q f listed a w := by
  have done : ∀ listed : Array Bool, (∀ i, i < ops.size → listed.getD i false = true) → Region.ready md ops listed = [] := by
    intro listed hall
    rw [List.eq_nil_iff_forall_not_mem]
    intro i hi
    obtain ⟨h1, o, ho, _⟩ := mem_ready.1 hi
    have := hall i (lt_of_get ho)
    rw [getD_both h1] at this
    cases this
  intro f
  induction f with
  | zero =>
    intro listed a w vs hc hinv inv
    have hall : ∀ i, i < ops.size → listed.getD i false = true := fun i hi => by
      have h0 : ((List.range ops.size).countP fun i => !listed.getD i false) = 0 := by omega
      rw [List.countP_eq_zero] at h0
      have := h0 i (List.mem_range.2 hi)
      simpa using this
    exact ⟨done listed hall, H listed a w vs hall inv⟩
  | succ f ih =>
    intro listed a w vs hc hinv inv
    by_cases hall : ∀ i, i < ops.size → listed.getD i false = true
    · exact ⟨fun _ => H listed a w vs hall inv, fun i hi => by rw [done listed hall] at hi; cases hi⟩
    · have hex : ∃ i, i < ops.size ∧ listed.getD i false = false := by
        apply Classical.byContradiction
        intro hno
        exact hall fun i hi => by
          cases h : listed.getD i false
          · exact absurd ⟨i, hi, h⟩ hno
          · rfl
      obtain ⟨i0, hi0, hl0⟩ := hex
      have hsz : ∀ i, i < ops.size → i < listed.size := fun i hi => by rw [hinv.size]; exact hi
      have hready : Region.ready md ops listed ≠ [] := by
        have : ∀ d i, i ≤ d → i < ops.size → listed.getD i false = false → ∃ j, j ∈ Region.ready md ops listed := by
          intro d
          induction d with
          | zero =>
            intro i hid hi hl
            obtain ⟨o, ho⟩ : ∃ o, ops[i]? = some o := ⟨ops[i], by simp [hi]⟩
            refine ⟨i, mem_ready.2 ⟨getD_in (hsz i hi) hl, o, ho, fun e he hb => ?_⟩⟩
            have := ok.back i o hi ho e he hb
            omega
          | succ d ihd =>
            intro i hid hi hl
            obtain ⟨o, ho⟩ : ∃ o, ops[i]? = some o := ⟨ops[i], by simp [hi]⟩
            by_cases hw : ∀ e ∈ o.after, Region.binds md e = true → listed.getD e.on false = true
            · exact ⟨i, mem_ready.2 ⟨getD_in (hsz i hi) hl, o, ho, hw⟩⟩
            · have : ∃ e ∈ o.after, Region.binds md e = true ∧ listed.getD e.on false = false := by
                apply Classical.byContradiction
                intro hno
                exact hw fun e he hb => by
                  cases h : listed.getD e.on false
                  · exact absurd ⟨e, he, hb, h⟩ hno
                  · rfl
              obtain ⟨e, he, hb, hle⟩ := this
              have hlt := ok.back i o hi ho e he hb
              exact ihd e.on (by omega) (by omega) hle
        obtain ⟨j, hj⟩ := this i0 i0 (Nat.le_refl _) hi0 hl0
        intro h0
        rw [h0] at hj
        cases hj
      refine ⟨fun h0 => absurd h0 hready, fun i hir => ?_⟩
      obtain ⟨hun, o, ho, hwaits⟩ := mem_ready.1 hir
      have hin := lt_of_get ho
      have hunf : listed.getD i false = false := getD_both hun
      have hcnt : ((List.range ops.size).countP fun j => !(listed.setIfInBounds i true).getD j false) ≤ f := by
        have := countP_lt (p := fun j => !listed.getD j false) (q := fun j => !(listed.setIfInBounds i true).getD j false) (List.range ops.size) (List.mem_range.2 hin)
          (fun j _ hj => by
            simp only [Bool.not_eq_true'] at hj ⊢
            cases h : listed.getD j false
            · rfl
            · rw [getD_set_true h] at hj; cases hj) (by simp only [hunf, Bool.not_false]) (by simp [hsz i hin])
        omega
      have hinv' := hinv.set hir hin
      have hat : At md ops i (ranOf listed) := ⟨hunf, needs_ran hinv _ i o ho hwaits⟩
      have hag := genu_agree ok hN hinv inv ho hir
      have hg := good i o ho vs (ranOf listed) w hat inv.s
      have hs : ∀ cs b, o.op ≠ .select cs b := fun cs b => Region.noSelect_spec ok.sel i o cs b ho
      unfold GenOp at hg
      rw [run_agree (ops := ops) hs hag, wanted_agree hag] at hg
      refine gen_wpOp ho hg fun u w' hs' => ih _ _ _ _ hcnt hinv' (inv_stepU ok hN inv ho (hsz i hin) ?_)
      rw [ranOf_set (hsz i hin)]
      exact hs'
end
theorem wp_region_genU0 {P : Program} {id : Nat} {Q : Exit → Act → World → Prop} {a : Act} {w : World} {l : List Oper} (S : Ran → (Nat → Value) → World → Prop) (N : Nat) (hm : P.follows .mixedOrders = true) (hB : mixU .any l.toArray N = true)
    (hN : a.tmps.size = N) (h0 : S (fun _ => false) (fun _ => undef) w.drew)
    (good : ∀ k o, l[k]? = some o → ∀ vs L w, At .any l.toArray k L → S L vs w → GenOp P l.toArray S k o (fin [] vs (l.take k) 0 a) vs L w)
    (h : ∀ vs L w', (∀ k, k < l.length → L k = true) → S L vs w' → Q .normal (fin [] vs l 0 a) w') : (Code.region id l.toArray true).wp P Q a w := by
  have ok := mixU_of hB
  have ok' : MixU .any l.toArray N := by simpa using ok
  refine wp_region_any hm ?_
  have inv0 : HeadInv .any l.toArray l.toArray.size (Array.replicate l.toArray.size false) :=
    ⟨by simp, fun j oj _ hl => (by rw [getD_replicate_false] at hl; cases hl), fun t ht ht' => by omega⟩
  refine genu_run (md := .any) (Q := Q) (ops := l.toArray) (S := S) (a0 := a) ok' hN (by simpa using good) ?_ l.toArray.size (Array.replicate l.toArray.size false) a w.drew (fun _ => undef) ?_ inv0 ?_
  · intro listed a' w' vs hall inv
    have he : a' = fin [] vs l 0 a := by
      refine act_ext (inv.defers.trans (fin_defers _ _ _).symm) (inv.size.trans (fin_size _ _ _).symm) fun t => ?_
      by_cases hex : ∃ (k : Nat) (o' : Oper), l.toArray[k]? = some o' ∧ o'.dst = some t
      · obtain ⟨k, o', ho', hd⟩ := hex
        have hk := lt_of_get ho'
        have e1 := inv.calm k o' t ho' hd (hall k hk)
        have e2 := fin_at (fl := []) (val := vs) l 0 a k o' (by simpa using ho') hd rfl (by rw [hN]; exact ok'.bd k o' t hk ho' hd) (by
          intro j oj hj hne hdj
          exact ok'.ne j oj k o' t (lt_of_get (ops := l.toArray) (by simpa using hj)) hk (by simpa using hj) ho' (Ne.symm hne) hdj hd)
        rw [Nat.zero_add] at e2
        rw [e1, e2]
      · have e1 := inv.other t fun k o' ho' _ hd => hex ⟨k, o', ho', hd⟩
        have e2 := fin_other (fl := []) (val := vs) (t := t) l 0 a fun j oj hj _ hd => hex ⟨j, oj, by simpa using hj, hd⟩
        rw [e1, e2]
    rw [he]
    exact h vs (ranOf listed) w' (fun k hk => hall k (by simpa using hk)) inv.s
  · have := List.countP_le_length (p := fun i => !(Array.replicate l.toArray.size false).getD i false) (l := List.range l.toArray.size)
    simpa using this
  · exact ⟨by rw [show ranOf (Array.replicate l.toArray.size false) = fun _ => false from funext fun k => getD_replicate_false _ _]; exact h0, rfl, rfl, fun k o t _ _ hl => (by rw [getD_replicate_false] at hl; cases hl), fun t _ => rfl⟩
theorem wp_region_genU {P : Program} {id : Nat} {Q : Exit → Act → World → Prop} {a : Act} {w : World} {l : List Oper} (S : Ran → (Nat → Value) → World → Prop) (N : Nat) (hm : P.follows .mixedOrders = true) (hB : mixU .any l.toArray N = true)
    (hN : a.tmps.size = N) (h0 : S (fun _ => false) (fun _ => undef) w.drew) (h : GenW P l S (Q .normal) l 0 (fun _ => a)) : (Code.region id l.toArray true).wp P Q a w := by
  obtain ⟨h1, h2⟩ := genW_out l 0 _ h
  refine wp_region_genU0 S N hm hB hN h0 (fun k o hk vs L w' hL hS => ?_) h2
  have := h1 k o hk vs L w'
  rw [Nat.zero_add] at this
  exact this hL hS
end Go.Proofs.Ytbmoiokpkcaccaa
