/-
  A region that draws its order and ends in operations that wait for all before them: the head as in XGen, the tail in its order. Plain theorems over whatever program.
-/
import Derived.Test.YtmokpiacioeohaaGen
namespace Go.Proofs.Ytmokpiacioeohaa
open Go.RowKit
section
variable {P : Program} {ops : Array Oper} {S : Ran → (Nat → Value) → World → Prop} {md : Region.Mode} {n N : Nat} {a0 : Act}
theorem listed_lt {listed : Array Bool} (hinv : HeadInv md ops n listed) {k : Nat} {o : Oper} (ho : ops[k]? = some o) (hl : listed.getD k false = true) : k < n := by
  rcases Nat.lt_or_ge k n with h | h
  · exact h
  · have := getD_both (hinv.tail k h (lt_of_get ho))
    rw [hl] at this
    cases this
theorem gent_agree (ok : MixOk md ops n N []) (hN : a0.tmps.size = N) {vs : Nat → Value} {listed : Array Bool} {a : Act} {w : World} (hinv : HeadInv md ops n listed) (inv : InvG S ops vs a0 listed a w) {i : Nat} {o : Oper} (hi : i < n) (ho : ops[i]? = some o) (hr : i ∈ Region.ready md ops listed) :
    ∀ t ∈ o.looksAt ops, (fin [] vs (ops.toList.take i) 0 a0).tmps[t]? = a.tmps[t]? := by
  intro t ht
  by_cases hex : ∃ (k : Nat) (o' : Oper), k < n ∧ ops[k]? = some o' ∧ o'.dst = some t
  · obtain ⟨k, o', hk, ho', hd⟩ := hex
    obtain ⟨h1, _, h3⟩ := ok.look i o k o' t hi hk ho ho' hd ht
    have hlisted : listed.getD k false = true := by
      obtain ⟨oj, hoj, e, he, hb, hon⟩ := Region.waitsFor_spec h3
      obtain ⟨_, oi, hoi, hall⟩ := mem_ready.1 hr
      have : oj = oi := Option.some.inj (hoj.symm.trans hoi)
      subst this
      have := hall e he hb
      rwa [hon] at this
    have e1 := inv.calm k o' t ho' hd hlisted
    have hlt : t < a0.tmps.size := by rw [hN]; exact ok.bd k o' t hk ho' hd
    have e2 := fin_at (fl := []) (val := vs) (ops.toList.take i) 0 a0 k o' (take_get h1 ho') hd rfl hlt (by
      intro j oj hj hne hdj
      obtain ⟨hji, hoj⟩ := of_take_get hj
      exact ok.ne j oj k o' t (by omega) hk hoj ho' (Ne.symm hne) hdj hd)
    rw [Nat.zero_add] at e2
    rw [e1, e2]
  · have e1 := inv.other t fun k o' ho' hl hd => hex ⟨k, o', listed_lt hinv ho' hl, ho', hd⟩
    have e2 := fin_other (fl := []) (val := vs) (ops.toList.take i) 0 a0 fun j oj hj _ hd => by
      obtain ⟨hji, hoj⟩ := of_take_get hj
      exact hex ⟨j, oj, by omega, hoj, hd⟩
    rw [e1, e2]
theorem inv_stepT (ok : MixOk md ops n N []) (hN : a0.tmps.size = N) {vs : Nat → Value} {listed : Array Bool} {a : Act} {w w' : World} (hinv : HeadInv md ops n listed) (inv : InvG S ops vs a0 listed a w) {i : Nat} {o : Oper} (hi : i < n) (ho : ops[i]? = some o) (hl : i < listed.size) {u : Value}
    (hs : S (ranOf (listed.setIfInBounds i true)) (setV vs i u) w') : InvG S ops (setV vs i u) a0 (listed.setIfInBounds i true) (a.put o.dst u) w' := by
  have key : ∀ k o' t, k < n → ops[k]? = some o' → o'.dst = some t → k ≠ i → (a.put o.dst u).tmps[t]? = a.tmps[t]? := by
    intro k o' t hk ho' hd hne
    exact put_get_ne fun e => ok.ne i o k o' t hi hk ho ho' hne e hd
  refine ⟨hs, (put_defers' _ _ _).trans inv.defers, (put_size _ _ _).trans inv.size, ?_, ?_⟩
  · intro k o' t ho' hd hlk
    by_cases hki : k = i
    · subst hki
      have : o' = o := Option.some.inj (ho'.symm.trans ho)
      subst this
      rw [hd, put_get_eq (by rw [inv.size, hN]; exact ok.bd k o' t hi ho' hd)]
      simp [setV]
    · have hlk' : listed.getD k false = true := by rwa [getD_set_ne false (Ne.symm hki)] at hlk
      rw [key k o' t (listed_lt hinv ho' hlk') ho' hd hki, inv.calm k o' t ho' hd hlk']
      simp [setV, hki]
  · intro t ht
    have h1 : o.dst ≠ some t := ht i o ho (by simp [hl])
    rw [put_get_ne h1]
    exact inv.other t fun k o' ho' hlk => ht k o' ho' (getD_set_true hlk)
theorem gent_run {Q : Exit → Act → World → Prop} (ok : MixOk md ops n N []) (hN : a0.tmps.size = N)
    (good : ∀ k o, k < n → ops[k]? = some o → ∀ vs L w, At md ops k L → S L vs w → GenOp P ops S k o (fin [] vs (ops.toList.take k) 0 a0) vs L w) (g : Nat)
    (H : ∀ listed a w vs, HeadInv md ops n listed → (∀ i, i < n → listed.getD i false = true) → InvG S ops vs a0 listed a w → wpAny P md ops Q g listed a w) :
    ∀ (f : Nat) (listed : Array Bool) (a : Act) (w : World) (vs : Nat → Value), ((List.range n).countP fun i => !listed.getD i false) ≤ f → HeadInv md ops n listed → InvG S ops vs a0 listed a w →
      wpAny P md ops Q (f + g) listed a w := by
  intro f
  induction f with
  | zero =>
    intro listed a w vs hc hinv inv
    rw [Nat.zero_add]
    refine H listed a w vs hinv (fun i hi => ?_) inv
    have h0 : ((List.range n).countP fun i => !listed.getD i false) = 0 := by omega
    rw [List.countP_eq_zero] at h0
    have := h0 i (List.mem_range.2 hi)
    simpa using this
  | succ f ih =>
    intro listed a w vs hc hinv inv
    by_cases hall : ∀ i, i < n → listed.getD i false = true
    · exact wpAny_fuel g listed a w (H listed a w vs hinv hall inv) (f + 1)
    · have hex : ∃ i, i < n ∧ listed.getD i false = false := by
        apply Classical.byContradiction
        intro hno
        exact hall fun i hi => by
          cases h : listed.getD i false
          · exact absurd ⟨i, hi, h⟩ hno
          · rfl
      obtain ⟨i0, hi0, hl0⟩ := hex
      have hsz : ∀ i, i < n → i < listed.size := fun i hi => by rw [hinv.size]; have := ok.le; omega
      have hready : Region.ready md ops listed ≠ [] := by
        have : ∀ d i, i ≤ d → i < n → listed.getD i false = false → ∃ j, j ∈ Region.ready md ops listed := by
          intro d
          induction d with
          | zero =>
            intro i hid hi hl
            obtain ⟨o, ho⟩ : ∃ o, ops[i]? = some o := ⟨ops[i]'(by have := ok.le; omega), by simp [show i < ops.size by have := ok.le; omega]⟩
            refine ⟨i, mem_ready.2 ⟨getD_in (hsz i hi) hl, o, ho, fun e he hb => ?_⟩⟩
            have := ok.back i o hi ho e he hb
            omega
          | succ d ihd =>
            intro i hid hi hl
            obtain ⟨o, ho⟩ : ∃ o, ops[i]? = some o := ⟨ops[i]'(by have := ok.le; omega), by simp [show i < ops.size by have := ok.le; omega]⟩
            by_cases hw : ∀ e ∈ o.after, Region.binds md e = true → listed.getD e.on false = true
            · exact ⟨i, mem_ready.2 ⟨getD_in (hsz i hi) hl, o, ho, hw⟩⟩
            · have : ∃ e ∈ o.after, Region.binds md e = true ∧ listed.getD e.on false = false := by
                apply Classical.byContradiction
                intro hno
                exact hw fun e he hb => by
                  cases h : listed.getD e.on false
                  · exact absurd ⟨e, he, hb, h⟩ hno
                  · rfl
              obtain ⟨e, he, hb, hle⟩ := this
              have hlt := ok.back i o hi ho e he hb
              exact ihd e.on (by omega) (by omega) hle
        obtain ⟨j, hj⟩ := this i0 i0 (Nat.le_refl _) hi0 hl0
        intro h0
        rw [h0] at hj
        cases hj
      rw [show f + 1 + g = (f + g) + 1 by omega]
      refine ⟨fun h0 => absurd h0 hready, fun i hir => ?_⟩
      have hin : i < n := by
        rcases Nat.lt_or_ge i n with h | h
        · exact h
        · exfalso
          obtain ⟨_, oi, hoi, _⟩ := mem_ready.1 hir
          have hlt : i < ops.size := (Array.getElem?_eq_some_iff.1 hoi).1
          rcases ok.tail with ht | ⟨ht, hs, hch⟩
          · omega
          · exact tail_waits hs hch ht hinv _ i0 rfl hi0 (getD_in (hsz i0 hi0) hl0) i h hir
      obtain ⟨hun, o, ho, hwaits⟩ := mem_ready.1 hir
      have hunf : listed.getD i false = false := getD_both hun
      have hcnt : ((List.range n).countP fun j => !(listed.setIfInBounds i true).getD j false) ≤ f := by
        have := countP_lt (p := fun j => !listed.getD j false) (q := fun j => !(listed.setIfInBounds i true).getD j false) (List.range n) (List.mem_range.2 hin)
          (fun j _ hj => by
            simp only [Bool.not_eq_true'] at hj ⊢
            cases h : listed.getD j false
            · rfl
            · rw [getD_set_true h] at hj; cases hj) (by simp only [hunf, Bool.not_false]) (by simp [hsz i hin])
        omega
      have hinv' := hinv.set hir hin
      have hat : At md ops i (ranOf listed) := ⟨hunf, needs_ran hinv _ i o ho hwaits⟩
      have hag := gent_agree ok hN hinv inv hin ho hir
      have hg := good i o hin ho vs (ranOf listed) w hat inv.s
      have hs : ∀ cs b, o.op ≠ .select cs b := fun cs b => Region.noSelect_spec ok.sel i o cs b ho
      unfold GenOp at hg
      rw [run_agree (ops := ops) hs hag, wanted_agree hag] at hg
      refine gen_wpOp ho hg fun u w' hs' => ih _ _ _ _ hcnt hinv' (inv_stepT ok hN hinv inv hin ho (hsz i hin) ?_)
      rw [ranOf_set (hsz i hin)]
      exact hs'
end
def GenT (P : Program) (full : List Oper) (n : Nat) (S : Ran → (Nat → Value) → World → Prop) (E : Act → World → Prop) : List Oper → Nat → ((Nat → Value) → Act) → Prop
  | [], _, A => ∀ vs L w', (∀ k, k < n → L k = true) → S L vs w' → E (A vs) w'
  | o :: l, k, A => (∀ vs L w, At .any full.toArray k L → S L vs w → GenOp P full.toArray S k o (A vs) vs L w) ∧ GenT P full n S E l (k + 1) (fun vs => (A vs).put o.dst (vs k))
theorem genT_out {P : Program} {full : List Oper} {n : Nat} {S : Ran → (Nat → Value) → World → Prop} {E : Act → World → Prop} : ∀ (l : List Oper) (k : Nat) (A : (Nat → Value) → Act), GenT P full n S E l k A →
    (∀ j o, l[j]? = some o → ∀ vs L w, At .any full.toArray (k + j) L → S L vs w → GenOp P full.toArray S (k + j) o (fin [] vs (l.take j) k (A vs)) vs L w) ∧ ∀ vs L w', (∀ k, k < n → L k = true) → S L vs w' → E (fin [] vs l k (A vs)) w'
  | [], _, _, h => ⟨fun j o hj => by simp at hj, h⟩
  | o :: l, k, A, h => by
    obtain ⟨h1, h2⟩ := genT_out l (k + 1) _ h.2
    refine ⟨fun j o' hj => ?_, h2⟩
    cases j with
    | zero =>
      simp only [List.getElem?_cons_zero, Option.some.injEq] at hj
      subst hj
      exact h.1
    | succ j =>
      have := h1 j o' (by simpa using hj)
      rw [show k + 1 + j = k + (j + 1) by omega] at this
      exact this
theorem wp_region_genT {P : Program} {id : Nat} {Q : Exit → Act → World → Prop} {a : Act} {w : World} {l : List Oper} (S : Ran → (Nat → Value) → World → Prop) (n N : Nat) (hm : P.follows .mixedOrders = true) (hB : mixB .any l.toArray n N [] = true)
    (hN : a.tmps.size = N) (h0 : S (fun _ => false) (fun _ => undef) w.drew)
    (h : GenT P l n S (fun a' w' => wpList P l.toArray Q (l.drop n) a' w') (l.take n) 0 (fun _ => a)) : (Code.region id l.toArray true).wp P Q a w := by
  have ok := mixOk_of hB
  have hle : n ≤ l.length := by simpa using ok.le
  obtain ⟨h1, h2⟩ := genT_out (l.take n) 0 _ h
  refine wp_region_any hm ?_
  have inv0 : HeadInv .any l.toArray n (Array.replicate l.toArray.size false) :=
    ⟨by simp, fun j oj _ hl => (by rw [getD_replicate_false] at hl; cases hl), fun t _ ht => getD_in (by simpa using ht) (getD_replicate_false _ _)⟩
  have key := gent_run (md := .any) (Q := Q) (ops := l.toArray) (S := S) (a0 := a) ok hN (fun k o hk ho vs L w' hL hS => by
      have := h1 k o (by rw [List.getElem?_take, if_pos hk]; simpa using ho) vs L w'
      rw [Nat.zero_add, List.take_take, Nat.min_eq_left (by omega)] at this
      exact this hL hS) (l.length - n) (by
    intro listed b w' vs hinv hall inv
    refine (show l.length - n = (l.drop n).length by simp) ▸ wpAny_of_seq (l.drop n) n listed b w' (fun j => by simp [List.getElem?_drop]) ?_ ?_
    · have hls : listed = (Array.replicate n true) ++ (Array.replicate (l.length - n) false) := by
        refine Array.ext (by simp [hinv.size]; omega) fun i h1 h2 => ?_
        have hsz : i < l.length := by have := hinv.size; simp at this; omega
        by_cases hin : i < n
        · have := hall i hin
          rw [Array.getElem_append_left (by simpa using hin)]
          simpa [h1] using this
        · have := hinv.tail i (by omega) (by simpa using hsz)
          rw [Array.getElem_append_right (by simp; omega)]
          simpa [h1] using this
      have := ok.seq
      rw [hls]
      simpa using this
    · have he : b = fin [] vs (l.take n) 0 a := by
        refine act_ext (inv.defers.trans (fin_defers _ _ _).symm) (inv.size.trans (fin_size _ _ _).symm) fun t => ?_
        by_cases hex : ∃ (k : Nat) (o' : Oper), k < n ∧ l.toArray[k]? = some o' ∧ o'.dst = some t
        · obtain ⟨k, o', hk, ho', hd⟩ := hex
          have e1 := inv.calm k o' t ho' hd (hall k hk)
          have e2 := fin_at (fl := []) (val := vs) (l.take n) 0 a k o' (by rw [List.getElem?_take, if_pos hk]; simpa using ho') hd rfl (by rw [hN]; exact ok.bd k o' t hk ho' hd) (by
            intro j oj hj hne hdj
            rw [List.getElem?_take] at hj
            split at hj
            · rename_i hjn
              exact ok.ne j oj k o' t hjn hk (by simpa using hj) ho' (Ne.symm hne) hdj hd
            · cases hj)
          rw [Nat.zero_add] at e2
          rw [e1, e2]
        · have e1 := inv.other t fun k o' ho' hl hd => hex ⟨k, o', listed_lt hinv ho' hl, ho', hd⟩
          have e2 := fin_other (fl := []) (val := vs) (t := t) (l.take n) 0 a fun j oj hj _ hd => by
            rw [List.getElem?_take] at hj
            split at hj
            · rename_i hjn
              exact hex ⟨j, oj, hjn, by simpa using hj, hd⟩
            · cases hj
          rw [e1, e2]
      rw [he]
      exact h2 vs (ranOf listed) w' hall inv.s)
  have := key n (Array.replicate l.toArray.size false) a w.drew (fun _ => undef) (by
      have := List.countP_le_length (p := fun i => !(Array.replicate l.toArray.size false).getD i false) (l := List.range n)
      simpa using this) inv0 ⟨by rw [show ranOf (Array.replicate l.toArray.size false) = fun _ => false from funext fun k => getD_replicate_false _ _]; exact h0, rfl, rfl, fun k o t _ _ hl => (by rw [getD_replicate_false] at hl; cases hl), fun t _ => rfl⟩
  rw [show n + (l.length - n) = l.toArray.size by simp; omega] at this
  exact this
section
variable {P : Program} {full l : List Oper} {S : Ran → (Nat → Value) → World → Prop} {E : Act → World → Prop} {o : Oper} {k n : Nat} {A A' : (Nat → Value) → Act}
theorem gent_cons (hc : ∀ vs L w, At .any full.toArray k L → S L vs w → GenOp P full.toArray S k o (A vs) vs L w) (hA : ∀ vs, (A vs).put o.dst (vs k) = A' vs) (h : GenT P full n S E l (k + 1) A') : GenT P full n S E (o :: l) k A := by
  obtain rfl : (fun vs => (A vs).put o.dst (vs k)) = A' := funext hA
  exact ⟨hc, h⟩
theorem gent_nil (h : ∀ vs L w', (∀ k, k < n → L k = true) → S L vs w' → E (A vs) w') : GenT P full n S E [] k A := h
end
end Go.Proofs.Ytmokpiacioeohaa
