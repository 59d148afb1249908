/-
  YtobhdldlhhigdaaScValid: shared parts, 2. Plain theorems.
-/
import Derived.Test.YtobhdldlhhigdaaScValidK1
import Derived.Maps.OwnSet
import Derived.Maps.Views
import Derived.DeepKeys4
namespace Go.Proofs.Ytobhdldlhhigdaa
open Go.RowKit
def nxt (o : Option Q4) : Int := match o with | some n => n.a | none => 0
def lenV : Value → Nat | .slice _ n _ => n | _ => 0
set_option maxRecDepth 100000 in
theorem nxt_up {ns ls : List Q4} {out : List Int} {k : Nat} {x : Q4} (hx : ns[k]? = some x) (h0 : ∀ n ∈ ns, n.a ≠ 0) (hf : freeN ls out x = true) (hn : nxt ((ns.take k).find? (freeN ls out)) = 0) : nxt ((ns.take (k + 1)).find? (freeN ls out)) = x.a := by
 have e : (ns.take k).find? (freeN ls out) = none := by
  cases e : (ns.take k).find? (freeN ls out) with
  | none => rfl
  | some y =>
   rw [e] at hn
   exact absurd hn (h0 y (List.mem_of_mem_take (List.mem_of_find?_eq_some e)))
 rw [take_snoc hx, List.find?_append, e]
 simp [hf, nxt]
set_option maxRecDepth 100000 in
theorem nxt_no {ns ls : List Q4} {out : List Int} {k : Nat} {x : Q4} (hx : ns[k]? = some x) (hf : freeN ls out x = false) : (ns.take (k + 1)).find? (freeN ls out) = (ns.take k).find? (freeN ls out) := by
 rw [take_snoc hx, List.find?_append]
 simp [hf]
set_option maxRecDepth 100000 in
theorem nxt_old {ns ls : List Q4} {out : List Int} {k : Nat} {x : Q4} (hx : ns[k]? = some x) (hn : nxt ((ns.take k).find? (freeN ls out)) ≠ 0) : nxt ((ns.take (k + 1)).find? (freeN ls out)) = nxt ((ns.take k).find? (freeN ls out)) := by
 rw [take_snoc hx, List.find?_append]
 cases e : (ns.take k).find? (freeN ls out) with
 | none => rw [e] at hn; exact absurd rfl hn
 | some y => simp
/-- Free as far as the links are gone through. -/
def freeK (ls : List Q4) (out : List Int) (x : Q4) (j : Nat) : Bool := !out.contains x.a && (ls.take j).all fun l => l.c != x.a || out.contains l.a
set_option maxRecDepth 100000 in
theorem freeK_end (ls : List Q4) (out : List Int) (x : Q4) {j : Nat} (h : ls.length ≤ j) : freeK ls out x j = freeN ls out x := by unfold freeK freeN; rw [List.take_of_length_le h]
set_option maxRecDepth 100000 in
theorem freeK_up {ls : List Q4} (out : List Int) (x : Q4) {j : Nat} {l : Q4} (h : ls[j]? = some l) : freeK ls out x (j + 1) = (freeK ls out x j && (l.c != x.a || out.contains l.a)) := by
 unfold freeK
 rw [take_snoc h, List.all_append]
 simp [Bool.and_assoc]
set_option maxRecDepth 100000 in
theorem freeK_zero (ls : List Q4) (out : List Int) (x : Q4) : freeK ls out x 0 = !out.contains x.a := by simp [freeK]
set_option maxRecDepth 100000 in
set_option maxHeartbeats 8000000 in
theorem rorder_any (A A2 : Option Addr) (c c2 : Nat) (ns ls : List Q4) (w : World) (h : Qs w A ns) (hl : ns.length ≤ 100000) (h2 : Qs w A2 ls) (hl2 : ls.length ≤ 9223372036854775807) (h0 : ∀ n ∈ ns, n.a ≠ 0) :
 Calls Try.prog 52 #[.agg #[.slice A ns.length c, .slice A2 ls.length c2]] w fun e w' => (∃ v, e = .returned v ∧ OwnI w' w.heap.size v (orderL ns ls)) ∧ Grows w w' := by
 have k1 := Blk.new w 26 #[.slice A ns.length c, .slice A2 ls.length c2]
 have hB := (Below.refl w.heap.size w).alloc (Nat.le_refl _) (Obj.cells #[.slice A ns.length c, .slice A2 ls.length c2] 26)
 have H0 := Lib.hid h0
 clear h0
 go_enter Try.func52, Try.ntmps52
 go_upto_region 2 with fail
 generalize World.alloc w _ = w1 at *
 go_loopw [3] (fun v wr => ∃ out : List Int, OwnI wr w.heap.size v out ∧ Hid (runN ns ls (leftN ns out) out = orderL ns ls ∧ out.length + leftN ns out ≤ ns.length) ∧ Below w.heap.size w wr ∧ Blk wr w.heap.size 26 #[.slice A ns.length c, .slice A2 ls.length c2]) (fun v _ => ns.length - lenV v)
 case atStart => exact ⟨[], ownI_nil _ _, Lib.hid ⟨order_nil ns ls, by have := left_nil ns; simp only [List.length_nil]; omega⟩, hB, k1⟩
 case round =>
  clear hB k1
  obtain ⟨out, hown, HR, hB, k1⟩ := hrel
  obtain ⟨A3, c3, rfl, hc3, hi⟩ := hown.read
  have hol : out.length ≤ 100000 := by have := HR.out.2; omega
  have x1 := k1.cell
  go_wp2_with fail
  clear x1
  generalize wr = w0 at *
  go_loopw [4, 13] (fun v i w3 => ∃ k : Nat, k ≤ ns.length ∧ i = .int .i64 k ∧ (∃ z : Int, v = .int .i64 z ∧ Hid (nxt ((ns.take k).find? (freeN ls out)) = z)) ∧ Grows w0 w3) (fun _ i _ => ns.length - (intOf i).toNat)
  case atStart => exact ⟨0, by omega, rfl, ⟨0, rfl, Lib.hid rfl⟩, Below.refl _ _⟩
  case round =>
   obtain ⟨k, hk, rfl, ⟨z, rfl, HZ⟩, hg⟩ := hrel
   by_cases hlt : k < ns.length
   ·obtain ⟨ad, x, rfl, had, hx, q0, q1, q2, q3⟩ := ((h.grows hB).grows hg).elem hlt
    have HX := Lib.hid hx
    clear hx
    have k6 := Blk.new wr 46 #[.int .i64 x.a, .int .i64 x.b, .int .i64 x.c, .int .i64 x.d]
    have hq := (Below.refl wr.heap.size wr).alloc (Nat.le_refl _) (Obj.cells #[.int .i64 x.a, .int .i64 x.b, .int .i64 x.c, .int .i64 x.d] 46)
    go_upto_region 6 with fail
    clear q0 q1 q2 q3
    replace hg := below_grows hg (Nat.le_refl _) hq
    clear hq
    generalize World.alloc wr _ = w4 at *
    generalize wr.heap.size = G6 at *
    have x6 := k6.cell
    have x1 := (k1.grows hg).cell
    go_wp2_with fail
    refine (in_any A3 c3 out x.a _ (hi.grows hg) (by omega)).mono ?_
    rintro e w5 ⟨rfl, rfl⟩
    go_wp2_with fail
    clear x6 x1
    skip
    go_loopw [7, 25] (fun v i w5 => ∃ j : Nat, j ≤ ls.length ∧ i = .int .i64 j ∧ (∃ f : Bool, v = .bool f ∧ Hid (freeK ls out x j = f)) ∧ Grows w0 w5 ∧ Blk w5 G6 46 #[.int .i64 x.a, .int .i64 x.b, .int .i64 x.c, .int .i64 x.d]) (fun _ i _ => ls.length - (intOf i).toNat)
    case atStart => exact ⟨0, by omega, rfl, ⟨_, rfl, Lib.hid (by simp [freeK])⟩, hg, k6⟩
    case round =>
     clear hg k6
     obtain ⟨j, hj, rfl, ⟨f, rfl, HF⟩, hg, k6⟩ := hrel
     by_cases hlt2 : j < ls.length
     ·obtain ⟨ad2, l, rfl, had2, hx2, q0, q1, q2, q3⟩ := ((h2.grows hB).grows hg).elem hlt2
      have HU := Lib.hid (freeK_up out x hx2)
      clear hx2
      have k9 := Blk.new wr 49 #[.int .i64 l.a, .int .i64 l.b, .int .i64 l.c, .int .i64 l.d]
      have hq := (Below.refl wr.heap.size wr).alloc (Nat.le_refl _) (Obj.cells #[.int .i64 l.a, .int .i64 l.b, .int .i64 l.c, .int .i64 l.d] 49)
      go_upto_region 10 with fail
      clear q0 q1 q2 q3
      replace hg := below_grows hg (Nat.le_refl _) hq
      replace k6 := k6.grows hq
      clear hq
      generalize World.alloc wr _ = w6 at *
      generalize wr.heap.size = G9 at *
      have x6 := k6.cell
      have x9 := k9.cell
      cases f
      ·go_wp2
       go_roundw
       case rel => exact ⟨j + 1, by omega, by go_num, ⟨_, rfl, Lib.hid (by rw [HU.out, HF.out]; rfl)⟩, hg, k6⟩
       case measure => simp [intOf]; omega
      ·cases e2 : l.c == x.a
       ·have e3 : (l.c != x.a) = true := by simp [bne, e2]
        have e4 : ¬ l.c = x.a := by simpa using e2
        go_wp2
        go_roundw
        case rel => exact ⟨j + 1, by omega, by go_num, ⟨_, rfl, Lib.hid (by rw [HU.out, HF.out]; simp_all)⟩, hg, k6⟩
        case measure => simp [intOf]; omega
       ·have e3 : (l.c != x.a) = false := by simp [bne, e2]
        go_wp2_with fail
        refine (in_any A3 c3 out l.a _ (hi.grows hg) (by omega)).mono ?_
        rintro e w7 ⟨rfl, rfl⟩
        go_wp2
        go_roundw
        case rel => exact ⟨j + 1, by omega, by go_num, ⟨_, rfl, Lib.hid (by rw [HU.out, HF.out]; simp_all)⟩, hg, k6⟩
        case measure => simp [intOf]; omega
     ·have x6 := k6.cell
      have HE := Lib.hid (freeK_end ls out x (Nat.le_of_not_lt hlt2))
      cases f
      ·go_wp2
       go_roundw
       case rel => exact ⟨k + 1, by omega, by go_num, ⟨_, rfl, Lib.hid (by rw [nxt_no HX.out (by rw [← HE.out, HF.out])]; exact HZ.out)⟩, hg⟩
       case measure => simp [intOf]; omega
      ·by_cases hz : z = 0
       ·subst hz
        go_wp2
        go_roundw
        case rel => exact ⟨k + 1, by omega, by go_num, ⟨_, rfl, Lib.hid (nxt_up HX.out H0.out (by rw [← HE.out, HF.out]) HZ.out)⟩, hg⟩
        case measure => simp [intOf]; omega
       ·have hz2 : (z == 0) = false := by simp [hz]
        go_wp2
        go_roundw
        case rel => exact ⟨k + 1, by omega, by go_num, ⟨_, rfl, Lib.hid (by rw [nxt_old HX.out (by rw [HZ.out]; exact hz)]; exact HZ.out)⟩, hg⟩
        case measure => simp [intOf]; omega
   ·have HN : Hid (nxt (nextN ns ls out) = z) := Lib.hid (by have := HZ.out; rwa [List.take_of_length_le (by omega)] at this)
    clear HZ
    replace hown := hown.grows hg
    replace hi := hi.grows hg
    replace hB := below_grows hB (Nat.le_refl _) hg
    replace k1 := k1.grows hg
    clear hg
    generalize hnx : nextN ns ls out = nx at *
    have HNX := Lib.hid hnx
    clear hnx
    cases nx with
    | none =>
     obtain rfl : z = 0 := HN.out.symm
     have HE := Lib.hid (order_end HNX.out HR.out.1)
     go_wp2
     go_ret
     refine ⟨⟨_, rfl, ?_⟩, hB⟩
     rw [← HE.out]
     exact hown
    | some n =>
     obtain rfl : z = n.a := HN.out.symm
     have hz2 : (n.a == 0) = false := by have := H0.out n (next_some HNX.out).1; simp [this]
     have HS := Lib.hid (order_step HNX.out HR.out.1)
     have HL := Lib.hid (left_lt HNX.out)
     clear HN
     have HM : Hid ((out ++ [n.a]).length + leftN ns (out ++ [n.a]) ≤ ns.length ∧ out.length + 1 ≤ ns.length) := Lib.hid (by have h1 := HR.out.2; have h3 := HL.out; rw [List.length_append]; simp only [List.length_singleton]; omega)
     clear HL HR
     go_upto_region 17 with fail
     refine wp_region_lit ?_
     iterate 3
      refine wpList_plain rfl (fun K hK => ?_)
      go_simp
      refine hK _ _ ?_
      clear hK K
     have hq := (Below.refl wr.heap.size wr).alloc (Nat.le_refl _) (Obj.cells #[.int .i64 n.a] 3)
     replace hB := below_grows hB (Nat.le_refl _) hq
     replace hown := hown.grows hq
     replace k1 := k1.grows hq
     refine wpList_append_int rfl (.tmp 55) (.tmp 57) rfl (m := [n.a]) rfl rfl hown rfl (ints_lit wr n.a) (by simp; omega) hB.size ?_
     intro v3 w8 hown3 hgr3 _
     have hB5 := hown.below hB hgr3 hB.size
     have k15 := k1.grown hgr3 (fun e => own_blk_ne hown k1 (by decide) e.symm)
     clear hown hq hB hgr3 k1 hi
     generalize hol2 : out ++ [n.a] = out2 at *
     have hlen : out2.length = out.length + 1 := by rw [← hol2]; simp
     obtain ⟨A4, c4, rfl, hc4, -⟩ := hown3.read
     have HO2 := Lib.hid hlen
     clear hol2 hlen
     go_wp2
     go_roundw
     case rel => exact ⟨out2, hown3, Lib.hid ⟨HS.out, HM.out.1⟩, hB5, k15⟩
     case measure =>
      have h1 := HM.out
      have h3 := HO2.out
      simp only [lenV]
      omega
end Go.Proofs.Ytobhdldlhhigdaa

namespace Go.Proofs.Ytobhdldlhhigdaa
open Go.RowKit
/-- What is kept of a region, hidden from the walk's rules. -/
theorem hideS {α β γ : Type} (B : α → β → γ → Prop) : ∃ S : α → β → γ → Prop, Hid (∀ L vs w', B L vs w' → S L vs w') ∧ Hid (∀ L vs w', S L vs w' → B L vs w') := ⟨B, fun _ _ _ h => h, fun _ _ _ h => h⟩
/-- The values, with that of operation k. -/
def setV (vs : Nat → Value) (k : Nat) (u : Value) : Nat → Value := fun j => if j = k then u else vs j
def genR (P : Program) (T : Value → World → Prop) : Result Next → Prop
 | .ok (.value u) w' => T u w'
 | .ok .skip w' => T undef w'
 | .ok (.enter f args) w' => Calls P f args w' fun e w'' => ∃ u, e = .returned u ∧ T u w''
 | _ => False
section
variable {P : Program} {ops : Array Oper} {S : Ran → (Nat → Value) → World → Prop} {md : Region.Mode}
def GenOp (P : Program) (ops : Array Oper) (S : Ran → (Nat → Value) → World → Prop) (k : Nat) (o : Oper) (a : Act) (vs : Nat → Value) (L : Ran) (w : World) : Prop :=
 (Region.wanted o (yielded ops a.tmps) = true ∧ genR P (fun u w' => S (upd L k) (setV vs k u) w') ((execOp a.eval o).run P w)) ∨ (Region.wanted o (yielded ops a.tmps) = false ∧ S (upd L k) (setV vs k undef) w)
theorem gen_wpOp {Q : Exit → Act → World → Prop} {L : Ran} {i : Nat} {o : Oper} {a : Act} {w : World} {vs : Nat → Value} {K : Act → World → Prop} (hi : ops[i]? = some o) (hc : GenOp P ops S i o a vs L w)
 (hK : ∀ u w', S (upd L i) (setV vs i u) w' → K (a.put o.dst u) w') : wpOp P ops Q i K a w := by
 unfold wpOp
 simp only [hi]
 rcases hc with ⟨hwt, hr⟩ | ⟨hwt, ht⟩
 ·simp only [hwt, if_true]
  refine .inl ?_
  unfold Oper.wp
  generalize (execOp a.eval o).run P w = r at *
  cases r with
  | ok n w' =>
   cases n <;> simp only [genR] at hr <;> simp only [Oper.upon]
   case value u => exact hK _ _ hr
   case skip => exact hK _ _ hr
   case enter f args => exact hr.mono fun e w'' ⟨u, he, hs⟩ => by subst he; exact hK _ _ hs
  | halt x w' => simp only [genR] at hr
 ·simp only [hwt, Bool.false_eq_true, if_false]
  exact hK _ _ ht
structure InvG (S : Ran → (Nat → Value) → World → Prop) (ops : Array Oper) (vs : Nat → Value) (a0 : Act) (listed : Array Bool) (a : Act) (w : World) : Prop where
 s : S (ranOf listed) vs w
 defers : a.defers = a0.defers
 size : a.tmps.size = a0.tmps.size
 calm : ∀ k o t, ops[k]? = some o → o.dst = some t → listed.getD k false = true → a.tmps[t]? = some (vs k)
 other : ∀ t, (∀ k o, ops[k]? = some o → listed.getD k false = true → o.dst ≠ some t) → a.tmps[t]? = a0.tmps[t]?
variable {N : Nat} {a0 : Act}
theorem lt_of_get {k : Nat} {o : Oper} (h : ops[k]? = some o) : k < ops.size := (Array.getElem?_eq_some_iff.1 h).1
theorem gen_agree (ok : MixOk md ops ops.size N []) (hN : a0.tmps.size = N) {vs : Nat → Value} {listed : Array Bool} {a : Act} {w : World} (inv : InvG S ops vs a0 listed a w) {i : Nat} {o : Oper} (ho : ops[i]? = some o) (hr : i ∈ Region.ready md ops listed) :
 ∀ t ∈ o.looksAt ops, (fin [] vs (ops.toList.take i) 0 a0).tmps[t]? = a.tmps[t]? := by
 intro t ht
 have hi := lt_of_get ho
 by_cases hex : ∃ (k : Nat) (o' : Oper), ops[k]? = some o' ∧ o'.dst = some t
 ·obtain ⟨k, o', ho', hd⟩ := hex
  have hk := lt_of_get ho'
  obtain ⟨h1, _, h3⟩ := ok.look i o k o' t hi hk ho ho' hd ht
  have hlisted : listed.getD k false = true := by
   obtain ⟨oj, hoj, e, he, hb, hon⟩ := Region.waitsFor_spec h3
   obtain ⟨_, oi, hoi, hall⟩ := mem_ready.1 hr
   have : oj = oi := Option.some.inj (hoj.symm.trans hoi)
   subst this
   have := hall e he hb
   rwa [hon] at this
  have e1 := inv.calm k o' t ho' hd hlisted
  have hlt : t < a0.tmps.size := by rw [hN]; exact ok.bd k o' t hk ho' hd
  have e2 := fin_at (fl := []) (val := vs) (ops.toList.take i) 0 a0 k o' (take_get h1 ho') hd rfl hlt (by
   intro j oj hj hne hdj
   obtain ⟨hji, hoj⟩ := of_take_get hj
   exact ok.ne j oj k o' t (by omega) hk hoj ho' (Ne.symm hne) hdj hd)
  rw [Nat.zero_add] at e2
  rw [e1, e2]
 ·have e1 := inv.other t fun k o' ho' _ hd => hex ⟨k, o', ho', hd⟩
  have e2 := fin_other (fl := []) (val := vs) (ops.toList.take i) 0 a0 fun j oj hj _ hd => by
   obtain ⟨_, hoj⟩ := of_take_get hj
   exact hex ⟨j, oj, hoj, hd⟩
  rw [e1, e2]
theorem inv_stepG (ok : MixOk md ops ops.size N []) (hN : a0.tmps.size = N) {vs : Nat → Value} {listed : Array Bool} {a : Act} {w w' : World} (inv : InvG S ops vs a0 listed a w) {i : Nat} {o : Oper} (ho : ops[i]? = some o) (hl : i < listed.size) {u : Value}
 (hs : S (ranOf (listed.setIfInBounds i true)) (setV vs i u) w') : InvG S ops (setV vs i u) a0 (listed.setIfInBounds i true) (a.put o.dst u) w' := by
 have hi := lt_of_get ho
 have key : ∀ k o' t, ops[k]? = some o' → o'.dst = some t → k ≠ i → (a.put o.dst u).tmps[t]? = a.tmps[t]? := by
  intro k o' t ho' hd hne
  exact put_get_ne fun e => ok.ne i o k o' t hi (lt_of_get ho') ho ho' hne e hd
 refine ⟨hs, (put_defers' _ _ _).trans inv.defers, (put_size _ _ _).trans inv.size, ?_, ?_⟩
 ·intro k o' t ho' hd hlk
  by_cases hki : k = i
  ·subst hki
   have : o' = o := Option.some.inj (ho'.symm.trans ho)
   subst this
   rw [hd, put_get_eq (by rw [inv.size, hN]; exact ok.bd k o' t hi ho' hd)]
   simp [setV]
  ·rw [key k o' t ho' hd hki, inv.calm k o' t ho' hd (by rwa [getD_set_ne false (Ne.symm hki)] at hlk)]
   simp [setV, hki]
 ·intro t ht
  have h1 : o.dst ≠ some t := ht i o ho (by simp [hl])
  rw [put_get_ne h1]
  exact inv.other t fun k o' ho' hlk => ht k o' ho' (getD_set_true hlk)
theorem gen_run {Q : Exit → Act → World → Prop} (ok : MixOk md ops ops.size N []) (hN : a0.tmps.size = N)
 (good : ∀ k o, ops[k]? = some o → ∀ vs L w, At md ops k L → S L vs w → GenOp P ops S k o (fin [] vs (ops.toList.take k) 0 a0) vs L w)
 (H : ∀ listed a w vs, (∀ i, i < ops.size → listed.getD i false = true) → InvG S ops vs a0 listed a w → Q .normal a w) :
 ∀ (f : Nat) (listed : Array Bool) (a : Act) (w : World) (vs : Nat → Value), ((List.range ops.size).countP fun i => !listed.getD i false) ≤ f → HeadInv md ops ops.size listed → InvG S ops vs a0 listed a w →
  wpAny P md ops Q f listed a w := by
 have done : ∀ listed : Array Bool, (∀ i, i < ops.size → listed.getD i false = true) → Region.ready md ops listed = [] := by
  intro listed hall
  rw [List.eq_nil_iff_forall_not_mem]
  intro i hi
  obtain ⟨h1, o, ho, _⟩ := mem_ready.1 hi
  have := hall i (lt_of_get ho)
  rw [getD_both h1] at this
  cases this
 intro f
 induction f with
 | zero =>
  intro listed a w vs hc hinv inv
  have hall : ∀ i, i < ops.size → listed.getD i false = true := fun i hi => by
   have h0 : ((List.range ops.size).countP fun i => !listed.getD i false) = 0 := by omega
   rw [List.countP_eq_zero] at h0
   have := h0 i (List.mem_range.2 hi)
   simpa using this
  exact ⟨done listed hall, H listed a w vs hall inv⟩
 | succ f ih =>
  intro listed a w vs hc hinv inv
  by_cases hall : ∀ i, i < ops.size → listed.getD i false = true
  ·exact ⟨fun _ => H listed a w vs hall inv, fun i hi => by rw [done listed hall] at hi; cases hi⟩
  ·have hex : ∃ i, i < ops.size ∧ listed.getD i false = false := by
    apply Classical.byContradiction
    intro hno
    exact hall fun i hi => by
     cases h : listed.getD i false
     ·exact absurd ⟨i, hi, h⟩ hno
     ·rfl
   obtain ⟨i0, hi0, hl0⟩ := hex
   have hsz : ∀ i, i < ops.size → i < listed.size := fun i hi => by rw [hinv.size]; exact hi
   have hready : Region.ready md ops listed ≠ [] := by
    have : ∀ d i, i ≤ d → i < ops.size → listed.getD i false = false → ∃ j, j ∈ Region.ready md ops listed := by
     intro d
     induction d with
     | zero =>
      intro i hid hi hl
      obtain ⟨o, ho⟩ : ∃ o, ops[i]? = some o := ⟨ops[i], by simp [hi]⟩
      refine ⟨i, mem_ready.2 ⟨getD_in (hsz i hi) hl, o, ho, fun e he hb => ?_⟩⟩
      have := ok.back i o hi ho e he hb
      omega
     | succ d ihd =>
      intro i hid hi hl
      obtain ⟨o, ho⟩ : ∃ o, ops[i]? = some o := ⟨ops[i], by simp [hi]⟩
      by_cases hw : ∀ e ∈ o.after, Region.binds md e = true → listed.getD e.on false = true
      ·exact ⟨i, mem_ready.2 ⟨getD_in (hsz i hi) hl, o, ho, hw⟩⟩
      ·have : ∃ e ∈ o.after, Region.binds md e = true ∧ listed.getD e.on false = false := by
        apply Classical.byContradiction
        intro hno
        exact hw fun e he hb => by
         cases h : listed.getD e.on false
         ·exact absurd ⟨e, he, hb, h⟩ hno
         ·rfl
       obtain ⟨e, he, hb, hle⟩ := this
       have hlt := ok.back i o hi ho e he hb
       exact ihd e.on (by omega) (by omega) hle
    obtain ⟨j, hj⟩ := this i0 i0 (Nat.le_refl _) hi0 hl0
    intro h0
    rw [h0] at hj
    cases hj
   refine ⟨fun h0 => absurd h0 hready, fun i hir => ?_⟩
   obtain ⟨hun, o, ho, hwaits⟩ := mem_ready.1 hir
   have hin := lt_of_get ho
   have hunf : listed.getD i false = false := getD_both hun
   have hcnt : ((List.range ops.size).countP fun j => !(listed.setIfInBounds i true).getD j false) ≤ f := by
    have := countP_lt (p := fun j => !listed.getD j false) (q := fun j => !(listed.setIfInBounds i true).getD j false) (List.range ops.size) (List.mem_range.2 hin)
     (fun j _ hj => by
       simp only [Bool.not_eq_true'] at hj ⊢
       cases h : listed.getD j false
       ·rfl
       ·rw [getD_set_true h] at hj; cases hj) (by simp only [hunf, Bool.not_false]) (by simp [hsz i hin])
    omega
   have hinv' := hinv.set hir hin
   have hat : At md ops i (ranOf listed) := ⟨hunf, needs_ran hinv _ i o ho hwaits⟩
   have hag := gen_agree ok hN inv ho hir
   have hg := good i o ho vs (ranOf listed) w hat inv.s
   have hs : ∀ cs b, o.op ≠ .select cs b := fun cs b => Region.noSelect_spec ok.sel i o cs b ho
   unfold GenOp at hg
   rw [run_agree (ops := ops) hs hag, wanted_agree hag] at hg
   refine gen_wpOp ho hg fun u w' hs' => ih _ _ _ _ hcnt hinv' (inv_stepG ok hN inv ho (hsz i hin) ?_)
   rw [ranOf_set (hsz i hin)]
   exact hs'
end
theorem act_ext {a b : Act} (hd : a.defers = b.defers) (hs : a.tmps.size = b.tmps.size) (ht : ∀ t : Nat, a.tmps[t]? = b.tmps[t]?) : a = b := by
 cases a
 cases b
 simp only at hd hs ht
 subst hd
 congr 1
 exact Array.ext_getElem? ht
theorem wp_region_gen {P : Program} {id : Nat} {Q : Exit → Act → World → Prop} {a : Act} {w : World} {l : List Oper} (S : Ran → (Nat → Value) → World → Prop) (N : Nat) (hm : P.follows .mixedOrders = true) (hB : mixB .any l.toArray l.length N [] = true)
 (hN : a.tmps.size = N) (h0 : S (fun _ => false) (fun _ => undef) w.drew)
 (good : ∀ k o, l[k]? = some o → ∀ vs L w, At .any l.toArray k L → S L vs w → GenOp P l.toArray S k o (fin [] vs (l.take k) 0 a) vs L w)
 (h : ∀ vs L w', (∀ k, k < l.length → L k = true) → S L vs w' → Q .normal (fin [] vs l 0 a) w') : (Code.region id l.toArray true).wp P Q a w := by
 have ok := mixOk_of hB
 have ok' : MixOk .any l.toArray l.toArray.size N [] := by simpa using ok
 refine wp_region_any hm ?_
 have inv0 : HeadInv .any l.toArray l.toArray.size (Array.replicate l.toArray.size false) :=
  ⟨by simp, fun j oj _ hl => (by rw [getD_replicate_false] at hl; cases hl), fun t ht ht' => by omega⟩
 refine gen_run (md := .any) (Q := Q) (ops := l.toArray) (S := S) (a0 := a) ok' hN (by simpa using good) ?_ l.toArray.size (Array.replicate l.toArray.size false) a w.drew (fun _ => undef) ?_ inv0 ?_
 ·intro listed a' w' vs hall inv
  have he : a' = fin [] vs l 0 a := by
   refine act_ext (inv.defers.trans (fin_defers _ _ _).symm) (inv.size.trans (fin_size _ _ _).symm) fun t => ?_
   by_cases hex : ∃ (k : Nat) (o' : Oper), l.toArray[k]? = some o' ∧ o'.dst = some t
   ·obtain ⟨k, o', ho', hd⟩ := hex
    have hk := lt_of_get ho'
    have e1 := inv.calm k o' t ho' hd (hall k hk)
    have e2 := fin_at (fl := []) (val := vs) l 0 a k o' (by simpa using ho') hd rfl (by rw [hN]; exact ok'.bd k o' t hk ho' hd) (by
     intro j oj hj hne hdj
     exact ok'.ne j oj k o' t (lt_of_get (ops := l.toArray) (by simpa using hj)) hk (by simpa using hj) ho' (Ne.symm hne) hdj hd)
    rw [Nat.zero_add] at e2
    rw [e1, e2]
   ·have e1 := inv.other t fun k o' ho' _ hd => hex ⟨k, o', ho', hd⟩
    have e2 := fin_other (fl := []) (val := vs) (t := t) l 0 a fun j oj hj _ hd => hex ⟨j, oj, by simpa using hj, hd⟩
    rw [e1, e2]
  rw [he]
  exact h vs (ranOf listed) w' (fun k hk => hall k (by simpa using hk)) inv.s
 ·have := List.countP_le_length (p := fun i => !(Array.replicate l.toArray.size false).getD i false) (l := List.range l.toArray.size)
  simpa using this
 ·exact ⟨by rw [show ranOf (Array.replicate l.toArray.size false) = fun _ => false from funext fun k => getD_replicate_false _ _]; exact h0, rfl, rfl, fun k o t _ _ hl => (by rw [getD_replicate_false] at hl; cases hl), fun t _ => rfl⟩
def GenW (P : Program) (full : List Oper) (S : Ran → (Nat → Value) → World → Prop) (E : Act → World → Prop) : List Oper → Nat → ((Nat → Value) → Act) → Prop
 | [], _, A => ∀ vs L w', (∀ k, k < full.length → L k = true) → S L vs w' → E (A vs) w'
 | o :: l, k, A => (∀ vs L w, At .any full.toArray k L → S L vs w → GenOp P full.toArray S k o (A vs) vs L w) ∧ GenW P full S E l (k + 1) (fun vs => (A vs).put o.dst (vs k))
theorem genW_out {P : Program} {full : List Oper} {S : Ran → (Nat → Value) → World → Prop} {E : Act → World → Prop} : ∀ (l : List Oper) (k : Nat) (A : (Nat → Value) → Act), GenW P full S E l k A →
 (∀ j o, l[j]? = some o → ∀ vs L w, At .any full.toArray (k + j) L → S L vs w → GenOp P full.toArray S (k + j) o (fin [] vs (l.take j) k (A vs)) vs L w) ∧ ∀ vs L w', (∀ k, k < full.length → L k = true) → S L vs w' → E (fin [] vs l k (A vs)) w'
 | [], _, _, h => ⟨fun j o hj => by simp at hj, h⟩
 | o :: l, k, A, h => by
  obtain ⟨h1, h2⟩ := genW_out l (k + 1) _ h.2
  refine ⟨fun j o' hj => ?_, h2⟩
  cases j with
  | zero =>
   simp only [List.getElem?_cons_zero, Option.some.injEq] at hj
   subst hj
   exact h.1
  | succ j =>
   have := h1 j o' (by simpa using hj)
   rw [show k + 1 + j = k + (j + 1) by omega] at this
   exact this
theorem wp_region_genW {P : Program} {id : Nat} {Q : Exit → Act → World → Prop} {a : Act} {w : World} {l : List Oper} (S : Ran → (Nat → Value) → World → Prop) (N : Nat) (hm : P.follows .mixedOrders = true) (hB : mixB .any l.toArray l.length N [] = true)
 (hN : a.tmps.size = N) (h0 : S (fun _ => false) (fun _ => undef) w.drew) (h : GenW P l S (Q .normal) l 0 (fun _ => a)) : (Code.region id l.toArray true).wp P Q a w := by
 obtain ⟨h1, h2⟩ := genW_out l 0 _ h
 refine wp_region_gen S N hm hB hN h0 (fun k o hk vs L w' hL hS => ?_) h2
 have := h1 k o hk vs L w'
 rw [Nat.zero_add] at this
 exact this hL hS
section
variable {P : Program} {full l : List Oper} {S : Ran → (Nat → Value) → World → Prop} {E : Act → World → Prop} {o : Oper} {k : Nat} {A A' : (Nat → Value) → Act}
theorem gen_cons (hc : ∀ vs L w, At .any full.toArray k L → S L vs w → GenOp P full.toArray S k o (A vs) vs L w) (hA : ∀ vs, (A vs).put o.dst (vs k) = A' vs) (h : GenW P full S E l (k + 1) A') : GenW P full S E (o :: l) k A := by
 obtain rfl : (fun vs => (A vs).put o.dst (vs k)) = A' := funext hA
 exact ⟨hc, h⟩
theorem gen_consR (hc : ∀ vs L w, At .any full.toArray k L → S L vs w → GenOp P full.toArray S k o (A vs) vs L w) (h : GenW P full S E l (k + 1) A') (hA : ∀ vs, (A vs).put o.dst (vs k) = A' vs := by intro vs; simp only [Act.put, List.setIfInBounds_toArray, List.set_cons_succ, List.set_cons_zero]; rfl) : GenW P full S E (o :: l) k A := gen_cons hc hA h
theorem gen_nil (h : ∀ vs L w', (∀ k, k < full.length → L k = true) → S L vs w' → E (A vs) w') : GenW P full S E [] k A := h
variable {ops : Array Oper} {a : Act} {vs : Nat → Value} {L : Ran} {w : World}
theorem gen_plain (hg : o.guard = none) (h : genR P (fun u w' => S (upd L k) (setV vs k u) w') ((execOp a.eval o).run P w)) : GenOp P ops S k o a vs L w := .inl ⟨by simp [Region.wanted, hg], h⟩
theorem gen_yes (hw : Region.wanted o (yielded ops a.tmps) = true) (h : genR P (fun u w' => S (upd L k) (setV vs k u) w') ((execOp a.eval o).run P w)) : GenOp P ops S k o a vs L w := .inl ⟨hw, h⟩
theorem gen_no (hw : Region.wanted o (yielded ops a.tmps) = false) (h : S (upd L k) (setV vs k undef) w) : GenOp P ops S k o a vs L w := .inr ⟨hw, h⟩
variable {T : Value → World → Prop}
theorem gr_val {u : Value} (h : T u w) : genR P T (.ok (.value u) w) := h
theorem gr_skip (h : T undef w) : genR P T (.ok .skip w) := h
theorem gr_call {f : FuncId} {args : Array Value} (h : Calls P f args w fun e w' => ∃ u, e = .returned u ∧ T u w') : genR P T (.ok (.enter f args) w) := h
/-- The values that are known. -/
def KnS (KN : List (Option Value)) (L : Ran) (vs : Nat → Value) : Prop := ∀ j v, KN[j]? = some (some v) → L j = true → vs j = v
theorem kn_none (KN : List (Option Value)) (vs : Nat → Value) : KnS KN (fun _ => false) vs := fun _ _ _ h => by cases h
theorem kn_known {KN : List (Option Value)} {u : Value} (h : KnS KN L vs) (hk : KN[k]? = some (some u)) : KnS KN (upd L k) (setV vs k u) := by
 intro j v hj hL
 unfold setV
 unfold upd at hL
 by_cases e : j = k
 ·subst e
  rw [if_pos rfl]
  rw [hk] at hj
  injection hj with hj
  injection hj
 ·rw [if_neg e] at hL ⊢
  exact h j v hj hL
theorem kn_free {KN : List (Option Value)} {u : Value} (h : KnS KN L vs) (hk : KN[k]? = some none) : KnS KN (upd L k) (setV vs k u) := by
 intro j v hj hL
 unfold setV
 unfold upd at hL
 by_cases e : j = k
 ·subst e
  rw [hk] at hj
  cases hj
 ·rw [if_neg e] at hL ⊢
  exact h j v hj hL
end
end Go.Proofs.Ytobhdldlhhigdaa

namespace Go.Proofs.Ytobhdldlhhigdaa
open Go.RowKit
/-- A property of a value that stays when the world grows. -/
abbrev GP := {P : World → Value → Prop // ∀ w w' v, P w v → Grows w w' → P w' v}
/-- The values that are described. -/
def DsS (DS : List (Option GP)) (L : Ran) (vs : Nat → Value) (w : World) : Prop := ∀ j P, DS[j]? = some (some P) → L j = true → P.1 w (vs j)
section
variable {DS : List (Option GP)} {L : Ran} {vs : Nat → Value} {w w' : World} {k : Nat} {u : Value}
set_option maxRecDepth 100000 in
theorem ds_none (DS : List (Option GP)) (vs : Nat → Value) (w : World) : DsS DS (fun _ => false) vs w := fun _ _ _ h => by cases h
set_option maxRecDepth 100000 in
theorem DsS.grows (h : DsS DS L vs w) (hg : Grows w w') : DsS DS L vs w' := fun j P hj hL => P.2 w w' (vs j) (h j P hj hL) hg
set_option maxRecDepth 100000 in
theorem ds_free (h : DsS DS L vs w) (hk : DS[k]? = some none) : DsS DS (upd L k) (setV vs k u) w := by
 intro j P hj hL
 unfold setV
 unfold upd at hL
 by_cases e : j = k
 ·subst e
  rw [hk] at hj
  cases hj
 ·rw [if_neg e] at hL ⊢
  exact h j P hj hL
set_option maxRecDepth 100000 in
theorem ds_put {P : GP} (h : DsS DS L vs w) (hk : DS[k]? = some (some P)) (hP : P.1 w u) : DsS DS (upd L k) (setV vs k u) w := by
 intro j P' hj hL
 unfold setV
 unfold upd at hL
 by_cases e : j = k
 ·subst e
  rw [hk] at hj
  injection hj with hj
  injection hj with hj
  subst hj
  rw [if_pos rfl]
  exact hP
 ·rw [if_neg e] at hL ⊢
  exact h j P' hj hL
end
end Go.Proofs.Ytobhdldlhhigdaa

namespace Go.Proofs.Ytobhdldlhhigdaa
open Go.RowKit
set_option maxRecDepth 100000 in
theorem fits_is (x : Q4) (b : Bool) (w : World) (h : fineN x = b) : Calls Try.prog 49 #[.agg #[.int .i64 x.a, .int .i64 x.b, .int .i64 x.c, .int .i64 x.d]] w fun e w' => e = .returned (.bool b) ∧ Grows w w' := by
 subst h
 exact fits_any x w
set_option maxRecDepth 100000 in
theorem ports_is (A A2 : Option Addr) (c c2 m : Nat) (ns : List Q4) (l : Q4) (b : Bool) (w : World) (h : Qs w A ns) (hl : ns.length ≤ 9223372036854775807) (he : endsL ns l = b) :
 Calls Try.prog 44 #[.agg #[.slice A ns.length c, .slice A2 m c2], .agg #[.int .i64 l.a, .int .i64 l.b, .int .i64 l.c, .int .i64 l.d]] w fun e w' => e = .returned (.bool b) ∧ Grows w w' := by
 subst he
 rw [← portsL_eq]
 exact ports_any A A2 c c2 m ns l w h hl
set_option maxRecDepth 100000 in
theorem less_is (x l : Q4) (b : Bool) (w : World) (h : lessL x l = b) : Calls Try.prog 51 #[.agg #[.int .i64 x.a, .int .i64 x.b, .int .i64 x.c, .int .i64 x.d], .agg #[.int .i64 l.a, .int .i64 l.b, .int .i64 l.c, .int .i64 l.d]] w fun e w' => e = .returned (.bool b) ∧ Grows w w' := by
 subst h
 exact less_any x l w
set_option maxRecDepth 100000 in
theorem crowd_is (A A2 A3 : Option Addr) (c c2 c3 m n : Nat) (ns ot : List Q4) (l : Q4) (b : Bool) (w : World) (h : Qs w A ns) (hl : ns.length ≤ 9223372036854775807) (ho : Qs w A3 ot) (hol : ot.length ≤ 9223372036854775807) (hn : n = ot.length) (hb : crowdL ns l ot = b) :
 Calls Try.prog 50 #[.agg #[.slice A ns.length c, .slice A2 m c2], .agg #[.int .i64 l.a, .int .i64 l.b, .int .i64 l.c, .int .i64 l.d], .slice A3 n c3] w fun e w' => e = .returned (.bool b) ∧ Grows w w' := by
 subst hb hn
 exact crowd_any A A2 A3 c c2 c3 m ns ot l w h hl ho hol
/-- A slice of so many. -/
def gLen (n : Nat) : GP := ⟨fun _ v => ∃ A c, v = .slice A n c, fun _ _ _ h _ => h⟩
set_option maxRecDepth 100000 in
theorem order_len (A A2 : Option Addr) (c c2 m : Nat) (ns ls : List Q4) (w : World) (h : Qs w A ns) (hl : ns.length ≤ 100000) (h2 : Qs w A2 ls) (hl2 : ls.length ≤ 9223372036854775807) (h0 : ∀ n ∈ ns, n.a ≠ 0) (hm : (orderL ns ls).length = m) :
 Calls Try.prog 52 #[.agg #[.slice A ns.length c, .slice A2 ls.length c2]] w fun e w' => (∃ v, e = .returned v ∧ ∃ A c, v = .slice A m c) ∧ Grows w w' := by
 subst hm
 refine (rorder_any A A2 c c2 ns ls w h hl h2 hl2 h0).mono ?_
 rintro e w' ⟨⟨v, rfl, ho⟩, hg⟩
 obtain ⟨A3, c3, rfl, -, -⟩ := ho.read
 exact ⟨⟨_, rfl, A3, c3, rfl⟩, hg⟩
set_option maxRecDepth 100000 in
theorem stepN_at {ns : List Q4} {k : Nat} {x : Q4} (hx : ns[k]? = some x) : stepN ns k = (fineN x && (k == 0 || decide ((ns.getD (k - 1) q0).a < x.a))) := by
 unfold stepN
 rw [show ns.getD k q0 = x by rw [List.getD_eq_getElem?_getD, hx]; rfl]
set_option maxRecDepth 100000 in
theorem okN_ids {ns : List Q4} (h : okN ns = true) : ∀ n ∈ ns, n.a ≠ 0 := by
 intro n hn
 obtain ⟨k, hk, rfl⟩ := List.getElem_of_mem hn
 have := range_all_at h hk
 rw [stepN_at (List.getElem?_eq_getElem hk)] at this
 simp only [Bool.and_eq_true, fineN, decide_eq_true_eq] at this
 omega
set_option maxRecDepth 100000 in
theorem stepK_at {ns ls : List Q4} {k : Nat} {x : Q4} (hx : ls[k]? = some x) : stepK ns ls k = (endsL ns x && (k == 0 || lessL (ls.getD (k - 1) q0) x) && !crowdL ns x (ls.take k)) := by
 unfold stepK
 rw [show ls.getD k q0 = x by rw [List.getD_eq_getElem?_getD, hx]; rfl]
set_option maxRecDepth 100000 in
theorem getD_at {l : List Q4} {k : Nat} {x : Q4} (hx : l[k]? = some x) : l.getD k q0 = x := by rw [List.getD_eq_getElem?_getD, hx]; rfl
set_option maxRecDepth 100000 in
theorem valid_no1 {ns ls : List Q4} {k : Nat} (hk : k < ns.length) (h : stepN ns k = false) : validG ns ls = false := by
 unfold validG okN
 rw [range_all_no hk h]
 simp
set_option maxRecDepth 100000 in
theorem valid_no2 {ns ls : List Q4} {k : Nat} (hk : k < ls.length) (h : stepK ns ls k = false) : validG ns ls = false := by
 unfold validG okK
 rw [range_all_no hk h]
 simp
set_option maxRecDepth 100000 in
set_option maxHeartbeats 8000000 in
theorem rvalidg_any (A A2 : Option Addr) (c c2 : Nat) (ns ls : List Q4) (w : World) (h : Qs w A ns) (hl : ns.length ≤ 9223372036854775807) (h2 : Qs w A2 ls) (hl2 : ls.length ≤ 9223372036854775807) (hc2 : ls.length ≤ c2) :
 Calls Try.prog 42 #[.agg #[.slice A ns.length c, .slice A2 ls.length c2]] w fun e w' => e = .returned (.bool (validG ns ls)) ∧ Grows w w' := by
 have k1 := Blk.new w 26 #[.slice A ns.length c, .slice A2 ls.length c2]
 have hB := (Below.refl w.heap.size w).alloc (Nat.le_refl _) (Obj.cells #[.slice A ns.length c, .slice A2 ls.length c2] 26)
 go_enter Try.func42, Try.ntmps42
 go_upto_region 1 with fail
 generalize World.alloc w _ = w1 at *
 have x1 := k1.cell
 by_cases b1 : 64 < ns.length
 ·go_wp2
  go_ret
  refine ⟨ret_bool ?_, hB⟩
  simp only [validG, Bool.false_eq, Bool.and_eq_false_iff, decide_eq_false_iff_not]
  omega
 by_cases b2 : 256 < ls.length
 ·go_wp2
  go_ret
  refine ⟨ret_bool ?_, hB⟩
  simp only [validG, Bool.false_eq, Bool.and_eq_false_iff, decide_eq_false_iff_not]
  omega
 have n1 : ns.length ≤ 64 := by omega
 have n2 : ls.length ≤ 256 := by omega
 go_wp2_with fail
 clear x1
 go_loopw [20] (fun i wr => ∃ k : Nat, k ≤ ns.length ∧ i = .int .i64 k ∧ Hid ((List.range k).all (stepN ns) = true) ∧ Below w.heap.size w wr ∧ Blk wr w.heap.size 26 #[.slice A ns.length c, .slice A2 ls.length c2]) (fun i _ => ns.length - (intOf i).toNat)
 case atStart => exact ⟨0, by omega, rfl, Lib.hid rfl, hB, k1⟩
 case round =>
  clear hB k1
  obtain ⟨k, hk, rfl, HA, hB, k1⟩ := hrel
  by_cases hlt : k < ns.length
  ·obtain ⟨ad, x, rfl, had, hx, q0, q1, q2, q3⟩ := (h.grows hB).elem hlt
   have HX := Lib.hid hx
   clear hx
   have k4 := Blk.new wr 46 #[.int .i64 x.a, .int .i64 x.b, .int .i64 x.c, .int .i64 x.d]
   have hq := (Below.refl wr.heap.size wr).alloc (Nat.le_refl _) (Obj.cells #[.int .i64 x.a, .int .i64 x.b, .int .i64 x.c, .int .i64 x.d] 46)
   go_upto_region 6 with fail
   clear q0 q1 q2 q3
   replace hB := below_grows hB (Nat.le_refl _) hq
   replace k1 := k1.grows hq
   clear hq
   generalize World.alloc wr _ = w4 at *
   generalize wr.heap.size = G4 at *
   cases hfn : fineN x
   ·have HF := Lib.hid hfn
    clear hfn
    obtain ⟨S, HI, HO⟩ := hideS fun (L : Ran) (vs : Nat → Value) (w' : World) => Grows w4 w' ∧ KnS [some (.agg #[.int .i64 x.a, .int .i64 x.b, .int .i64 x.c, .int .i64 x.d]), some (.bool false), some (.bool true), some (.bool true), none, none, some (undef), none, none, none, none, none, none, none, none, none, none, none, some (.bool true)] L vs
    refine wp_region_genW S 89 (by kernel_rfl) (by kernel_rfl) rfl ?_ ?_
    ·exact HI.out _ _ _ ⟨Grows.drew' _, kn_none _ _⟩
    refine gen_consR (fun vs L w1 hL hw1 => ?_) ?_
    ·obtain ⟨q0, q1⟩ := HO.out _ _ _ hw1
     refine gen_plain rfl ?_
     have x := (k4.grows q0).cell 
     go_simp
     exact gr_val (HI.out _ _ _ ⟨q0, kn_known q1 rfl⟩)
    refine gen_consR (fun vs L w1 hL hw1 => ?_) ?_
    ·obtain ⟨q0, q1⟩ := HO.out _ _ _ hw1
     refine gen_plain rfl ?_
     have l0 : L 0 = true := hL.need 0 (by kernel_rfl)
     have e0 := q1 0 _ rfl l0
     simp only [e0]
     go_simp
     refine gr_call ?_
     refine (fits_is x false w1 HF.out).mono ?_
     rintro e w2 ⟨rfl, hg⟩
     exact ⟨_, rfl, HI.out _ _ _ ⟨below_grows q0 (Nat.le_refl _) hg, kn_known q1 rfl⟩⟩
    refine gen_consR (fun vs L w1 hL hw1 => ?_) ?_
    ·obtain ⟨q0, q1⟩ := HO.out _ _ _ hw1
     refine gen_plain rfl ?_
     have l1 : L 1 = true := hL.need 1 (by kernel_rfl)
     have e1 := q1 1 _ rfl l1
     simp only [e1]
     go_simp
     exact gr_val (HI.out _ _ _ ⟨q0, kn_known q1 rfl⟩)
    refine gen_consR (fun vs L w1 hL hw1 => ?_) ?_
    ·obtain ⟨q0, q1⟩ := HO.out _ _ _ hw1
     refine gen_plain rfl ?_
     have l2 : L 2 = true := hL.need 2 (by kernel_rfl)
     have e2 := q1 2 _ rfl l2
     simp only [e2]
     go_simp
     exact gr_val (HI.out _ _ _ ⟨q0, kn_known q1 rfl⟩)
    refine gen_consR (fun vs L w1 hL hw1 => ?_) ?_
    ·obtain ⟨q0, q1⟩ := HO.out _ _ _ hw1
     have l3 : L 3 = true := hL.need 3 (by kernel_rfl)
     have e3 := q1 3 _ rfl l3
     refine gen_no ?_ ?_
     ·simp only [e3]
      rfl
     ·exact HI.out _ _ _ ⟨q0, kn_free q1 rfl⟩
    refine gen_consR (fun vs L w1 hL hw1 => ?_) ?_
    ·obtain ⟨q0, q1⟩ := HO.out _ _ _ hw1
     have l3 : L 3 = true := hL.need 3 (by kernel_rfl)
     have e3 := q1 3 _ rfl l3
     refine gen_no ?_ ?_
     ·simp only [e3]
      rfl
     ·exact HI.out _ _ _ ⟨q0, kn_free q1 rfl⟩
    refine gen_consR (fun vs L w1 hL hw1 => ?_) ?_
    ·obtain ⟨q0, q1⟩ := HO.out _ _ _ hw1
     have l3 : L 3 = true := hL.need 3 (by kernel_rfl)
     have e3 := q1 3 _ rfl l3
     refine gen_no ?_ ?_
     ·simp only [e3]
      rfl
     ·exact HI.out _ _ _ ⟨q0, kn_known q1 rfl⟩
    refine gen_consR (fun vs L w1 hL hw1 => ?_) ?_
    ·obtain ⟨q0, q1⟩ := HO.out _ _ _ hw1
     have l6 : L 6 = true := hL.need 6 (by kernel_rfl)
     have e6 := q1 6 _ rfl l6
     refine gen_no ?_ ?_
     ·simp only [e6]
      rfl
     ·exact HI.out _ _ _ ⟨q0, kn_free q1 rfl⟩
    refine gen_consR (fun vs L w1 hL hw1 => ?_) ?_
    ·obtain ⟨q0, q1⟩ := HO.out _ _ _ hw1
     have l6 : L 6 = true := hL.need 6 (by kernel_rfl)
     have e6 := q1 6 _ rfl l6
     refine gen_no ?_ ?_
     ·simp only [e6]
      rfl
     ·exact HI.out _ _ _ ⟨q0, kn_free q1 rfl⟩
    refine gen_consR (fun vs L w1 hL hw1 => ?_) ?_
    ·obtain ⟨q0, q1⟩ := HO.out _ _ _ hw1
     have l6 : L 6 = true := hL.need 6 (by kernel_rfl)
     have e6 := q1 6 _ rfl l6
     refine gen_no ?_ ?_
     ·simp only [e6]
      rfl
     ·exact HI.out _ _ _ ⟨q0, kn_free q1 rfl⟩
    refine gen_consR (fun vs L w1 hL hw1 => ?_) ?_
    ·obtain ⟨q0, q1⟩ := HO.out _ _ _ hw1
     have l6 : L 6 = true := hL.need 6 (by kernel_rfl)
     have e6 := q1 6 _ rfl l6
     refine gen_no ?_ ?_
     ·simp only [e6]
      rfl
     ·exact HI.out _ _ _ ⟨q0, kn_free q1 rfl⟩
    refine gen_consR (fun vs L w1 hL hw1 => ?_) ?_
    ·obtain ⟨q0, q1⟩ := HO.out _ _ _ hw1
     have l6 : L 6 = true := hL.need 6 (by kernel_rfl)
     have e6 := q1 6 _ rfl l6
     refine gen_no ?_ ?_
     ·simp only [e6]
      rfl
     ·exact HI.out _ _ _ ⟨q0, kn_free q1 rfl⟩
    refine gen_consR (fun vs L w1 hL hw1 => ?_) ?_
    ·obtain ⟨q0, q1⟩ := HO.out _ _ _ hw1
     have l6 : L 6 = true := hL.need 6 (by kernel_rfl)
     have e6 := q1 6 _ rfl l6
     refine gen_no ?_ ?_
     ·simp only [e6]
      rfl
     ·exact HI.out _ _ _ ⟨q0, kn_free q1 rfl⟩
    refine gen_consR (fun vs L w1 hL hw1 => ?_) ?_
    ·obtain ⟨q0, q1⟩ := HO.out _ _ _ hw1
     have l6 : L 6 = true := hL.need 6 (by kernel_rfl)
     have e6 := q1 6 _ rfl l6
     refine gen_no ?_ ?_
     ·simp only [e6]
      rfl
     ·exact HI.out _ _ _ ⟨q0, kn_free q1 rfl⟩
    refine gen_consR (fun vs L w1 hL hw1 => ?_) ?_
    ·obtain ⟨q0, q1⟩ := HO.out _ _ _ hw1
     have l6 : L 6 = true := hL.need 6 (by kernel_rfl)
     have e6 := q1 6 _ rfl l6
     refine gen_no ?_ ?_
     ·simp only [e6]
      rfl
     ·exact HI.out _ _ _ ⟨q0, kn_free q1 rfl⟩
    refine gen_consR (fun vs L w1 hL hw1 => ?_) ?_
    ·obtain ⟨q0, q1⟩ := HO.out _ _ _ hw1
     have l6 : L 6 = true := hL.need 6 (by kernel_rfl)
     have e6 := q1 6 _ rfl l6
     refine gen_no ?_ ?_
     ·simp only [e6]
      rfl
     ·exact HI.out _ _ _ ⟨q0, kn_free q1 rfl⟩
    refine gen_consR (fun vs L w1 hL hw1 => ?_) ?_
    ·obtain ⟨q0, q1⟩ := HO.out _ _ _ hw1
     have l6 : L 6 = true := hL.need 6 (by kernel_rfl)
     have e6 := q1 6 _ rfl l6
     refine gen_no ?_ ?_
     ·simp only [e6]
      rfl
     ·exact HI.out _ _ _ ⟨q0, kn_free q1 rfl⟩
    refine gen_consR (fun vs L w1 hL hw1 => ?_) ?_
    ·obtain ⟨q0, q1⟩ := HO.out _ _ _ hw1
     have l3 : L 3 = true := hL.need 3 (by kernel_rfl)
     have e3 := q1 3 _ rfl l3
     refine gen_no ?_ ?_
     ·simp only [e3]
      rfl
     ·exact HI.out _ _ _ ⟨q0, kn_free q1 rfl⟩
    refine gen_consR (fun vs L w1 hL hw1 => ?_) ?_
    ·obtain ⟨q0, q1⟩ := HO.out _ _ _ hw1
     refine gen_plain rfl ?_
     have l3 : L 3 = true := hL.need 3 (by kernel_rfl)
     have e3 := q1 3 _ rfl l3
     simp only [e3]
     go_simp
     exact gr_val (HI.out _ _ _ ⟨q0, kn_known q1 rfl⟩)
    refine gen_nil ?_
    intro vs L W6 hall hS
    obtain ⟨hq, q1⟩ := HO.out _ _ _ hS
    have eX18 := q1 18 _ rfl (hall 18 (by simp))
    clear hall hS HI HO q1
    simp only [eX18]
    go_wp2
    go_ret
    refine ⟨ret_bool ?_, below_grows hB (Nat.le_refl _) hq⟩
    exact (valid_no1 hlt (by rw [stepN_at HX.out, HF.out]; rfl)).symm
   ·have HF := Lib.hid hfn
    clear hfn
    by_cases hk0 : k = 0
    ·have hk9 : decide (0 < k) = false := by simp [hk0]
     have HK0 := Lib.hid hk0
     clear hk0
     have HA2 := Lib.hid (range_all_up HA.out (by rw [stepN_at HX.out, HF.out, HK0.out]; rfl))
     obtain ⟨S, HI, HO⟩ := hideS fun (L : Ran) (vs : Nat → Value) (w' : World) => Grows w4 w' ∧ KnS [some (.agg #[.int .i64 x.a, .int .i64 x.b, .int .i64 x.c, .int .i64 x.d]), some (.bool true), some (.bool false), some (.bool false), some (.int .i64 (k : Int)), some (.bool false), some (.bool false), none, none, none, none, none, none, none, none, none, none, some (.bool false), some (.bool false)] L vs
     refine wp_region_genW S 89 (by kernel_rfl) (by kernel_rfl) rfl ?_ ?_
     ·exact HI.out _ _ _ ⟨Grows.drew' _, kn_none _ _⟩
     refine gen_consR (fun vs L w1 hL hw1 => ?_) ?_
     ·obtain ⟨q0, q1⟩ := HO.out _ _ _ hw1
      refine gen_plain rfl ?_
      have x := (k4.grows q0).cell 
      go_simp
      exact gr_val (HI.out _ _ _ ⟨q0, kn_known q1 rfl⟩)
     refine gen_consR (fun vs L w1 hL hw1 => ?_) ?_
     ·obtain ⟨q0, q1⟩ := HO.out _ _ _ hw1
      refine gen_plain rfl ?_
      have l0 : L 0 = true := hL.need 0 (by kernel_rfl)
      have e0 := q1 0 _ rfl l0
      simp only [e0]
      go_simp
      refine gr_call ?_
      refine (fits_is x true w1 HF.out).mono ?_
      rintro e w2 ⟨rfl, hg⟩
      exact ⟨_, rfl, HI.out _ _ _ ⟨below_grows q0 (Nat.le_refl _) hg, kn_known q1 rfl⟩⟩
     refine gen_consR (fun vs L w1 hL hw1 => ?_) ?_
     ·obtain ⟨q0, q1⟩ := HO.out _ _ _ hw1
      refine gen_plain rfl ?_
      have l1 : L 1 = true := hL.need 1 (by kernel_rfl)
      have e1 := q1 1 _ rfl l1
      simp only [e1]
      go_simp
      exact gr_val (HI.out _ _ _ ⟨q0, kn_known q1 rfl⟩)
     refine gen_consR (fun vs L w1 hL hw1 => ?_) ?_
     ·obtain ⟨q0, q1⟩ := HO.out _ _ _ hw1
      refine gen_plain rfl ?_
      have l2 : L 2 = true := hL.need 2 (by kernel_rfl)
      have e2 := q1 2 _ rfl l2
      simp only [e2]
      go_simp
      exact gr_val (HI.out _ _ _ ⟨q0, kn_known q1 rfl⟩)
     refine gen_consR (fun vs L w1 hL hw1 => ?_) ?_
     ·obtain ⟨q0, q1⟩ := HO.out _ _ _ hw1
      have l3 : L 3 = true := hL.need 3 (by kernel_rfl)
      have e3 := q1 3 _ rfl l3
      refine gen_yes ?_ ?_
      ·simp only [e3]
       rfl
      go_simp
      exact gr_val (HI.out _ _ _ ⟨q0, kn_known q1 rfl⟩)
     refine gen_consR (fun vs L w1 hL hw1 => ?_) ?_
     ·obtain ⟨q0, q1⟩ := HO.out _ _ _ hw1
      have l3 : L 3 = true := hL.need 3 (by kernel_rfl)
      have e3 := q1 3 _ rfl l3
      refine gen_yes ?_ ?_
      ·simp only [e3]
       rfl
      have l4 : L 4 = true := hL.need 4 (by kernel_rfl)
      have e4 := q1 4 _ rfl l4
      simp only [e4]
      go_simp
      exact gr_val (HI.out _ _ _ ⟨q0, kn_known q1 rfl⟩)
     refine gen_consR (fun vs L w1 hL hw1 => ?_) ?_
     ·obtain ⟨q0, q1⟩ := HO.out _ _ _ hw1
      have l3 : L 3 = true := hL.need 3 (by kernel_rfl)
      have e3 := q1 3 _ rfl l3
      refine gen_yes ?_ ?_
      ·simp only [e3]
       rfl
      have l5 : L 5 = true := hL.need 5 (by kernel_rfl)
      have e5 := q1 5 _ rfl l5
      simp only [e5]
      go_simp
      exact gr_val (HI.out _ _ _ ⟨q0, kn_known q1 rfl⟩)
     refine gen_consR (fun vs L w1 hL hw1 => ?_) ?_
     ·obtain ⟨q0, q1⟩ := HO.out _ _ _ hw1
      have l6 : L 6 = true := hL.need 6 (by kernel_rfl)
      have e6 := q1 6 _ rfl l6
      refine gen_no ?_ ?_
      ·simp only [e6]
       rfl
      ·exact HI.out _ _ _ ⟨q0, kn_free q1 rfl⟩
     refine gen_consR (fun vs L w1 hL hw1 => ?_) ?_
     ·obtain ⟨q0, q1⟩ := HO.out _ _ _ hw1
      have l6 : L 6 = true := hL.need 6 (by kernel_rfl)
      have e6 := q1 6 _ rfl l6
      refine gen_no ?_ ?_
      ·simp only [e6]
       rfl
      ·exact HI.out _ _ _ ⟨q0, kn_free q1 rfl⟩
     refine gen_consR (fun vs L w1 hL hw1 => ?_) ?_
     ·obtain ⟨q0, q1⟩ := HO.out _ _ _ hw1
      have l6 : L 6 = true := hL.need 6 (by kernel_rfl)
      have e6 := q1 6 _ rfl l6
      refine gen_no ?_ ?_
      ·simp only [e6]
       rfl
      ·exact HI.out _ _ _ ⟨q0, kn_free q1 rfl⟩
     refine gen_consR (fun vs L w1 hL hw1 => ?_) ?_
     ·obtain ⟨q0, q1⟩ := HO.out _ _ _ hw1
      have l6 : L 6 = true := hL.need 6 (by kernel_rfl)
      have e6 := q1 6 _ rfl l6
      refine gen_no ?_ ?_
      ·simp only [e6]
       rfl
      ·exact HI.out _ _ _ ⟨q0, kn_free q1 rfl⟩
     refine gen_consR (fun vs L w1 hL hw1 => ?_) ?_
     ·obtain ⟨q0, q1⟩ := HO.out _ _ _ hw1
      have l6 : L 6 = true := hL.need 6 (by kernel_rfl)
      have e6 := q1 6 _ rfl l6
      refine gen_no ?_ ?_
      ·simp only [e6]
       rfl
      ·exact HI.out _ _ _ ⟨q0, kn_free q1 rfl⟩
     refine gen_consR (fun vs L w1 hL hw1 => ?_) ?_
     ·obtain ⟨q0, q1⟩ := HO.out _ _ _ hw1
      have l6 : L 6 = true := hL.need 6 (by kernel_rfl)
      have e6 := q1 6 _ rfl l6
      refine gen_no ?_ ?_
      ·simp only [e6]
       rfl
      ·exact HI.out _ _ _ ⟨q0, kn_free q1 rfl⟩
     refine gen_consR (fun vs L w1 hL hw1 => ?_) ?_
     ·obtain ⟨q0, q1⟩ := HO.out _ _ _ hw1
      have l6 : L 6 = true := hL.need 6 (by kernel_rfl)
      have e6 := q1 6 _ rfl l6
      refine gen_no ?_ ?_
      ·simp only [e6]
       rfl
      ·exact HI.out _ _ _ ⟨q0, kn_free q1 rfl⟩
     refine gen_consR (fun vs L w1 hL hw1 => ?_) ?_
     ·obtain ⟨q0, q1⟩ := HO.out _ _ _ hw1
      have l6 : L 6 = true := hL.need 6 (by kernel_rfl)
      have e6 := q1 6 _ rfl l6
      refine gen_no ?_ ?_
      ·simp only [e6]
       rfl
      ·exact HI.out _ _ _ ⟨q0, kn_free q1 rfl⟩
     refine gen_consR (fun vs L w1 hL hw1 => ?_) ?_
     ·obtain ⟨q0, q1⟩ := HO.out _ _ _ hw1
      have l6 : L 6 = true := hL.need 6 (by kernel_rfl)
      have e6 := q1 6 _ rfl l6
      refine gen_no ?_ ?_
      ·simp only [e6]
       rfl
      ·exact HI.out _ _ _ ⟨q0, kn_free q1 rfl⟩
     refine gen_consR (fun vs L w1 hL hw1 => ?_) ?_
     ·obtain ⟨q0, q1⟩ := HO.out _ _ _ hw1
      have l6 : L 6 = true := hL.need 6 (by kernel_rfl)
      have e6 := q1 6 _ rfl l6
      refine gen_no ?_ ?_
      ·simp only [e6]
       rfl
      ·exact HI.out _ _ _ ⟨q0, kn_free q1 rfl⟩
     refine gen_consR (fun vs L w1 hL hw1 => ?_) ?_
     ·obtain ⟨q0, q1⟩ := HO.out _ _ _ hw1
      have l3 : L 3 = true := hL.need 3 (by kernel_rfl)
      have e3 := q1 3 _ rfl l3
      refine gen_yes ?_ ?_
      ·simp only [e3]
       rfl
      have l6 : L 6 = true := hL.need 6 (by kernel_rfl)
      have e6 := q1 6 _ rfl l6
      simp only [e6]
      go_simp
      exact gr_val (HI.out _ _ _ ⟨q0, kn_known q1 rfl⟩)
     refine gen_consR (fun vs L w1 hL hw1 => ?_) ?_
     ·obtain ⟨q0, q1⟩ := HO.out _ _ _ hw1
      refine gen_plain rfl ?_
      have l3 : L 3 = true := hL.need 3 (by kernel_rfl)
      have e3 := q1 3 _ rfl l3
      have l17 : L 17 = true := hL.need 17 (by kernel_rfl)
      have e17 := q1 17 _ rfl l17
      simp only [e3, e17]
      go_simp
      exact gr_val (HI.out _ _ _ ⟨q0, kn_known q1 rfl⟩)
     refine gen_nil ?_
     intro vs L W6 hall hS
     obtain ⟨hq, q1⟩ := HO.out _ _ _ hS
     have eX18 := q1 18 _ rfl (hall 18 (by simp))
     clear hall hS HI HO q1
     simp only [eX18]
     go_wp2
     go_roundw
     case rel => exact ⟨k + 1, by omega, by go_num, HA2, below_grows hB (Nat.le_refl _) hq, k1.grows hq⟩
     case measure => simp [intOf]; omega
    ·obtain ⟨kp, rfl⟩ : ∃ kp, k = kp + 1 := ⟨k - 1, by omega⟩
     have hkl : kp < ns.length := by omega
     have hw : Hid (IntKind.i64.wrap (kp : Int) = (kp : Int)) := Lib.hid (IntWalk.i64_in _ (by omega))
     have hkp : Hid ((((kp + 1 : Nat) : Int)) - 1 = (kp : Int)) := Lib.hid (by omega)
     obtain ⟨ad', p, e, -, hp0, hp⟩ := h.addr (k := kp) (by omega)
     injection e with e
     subst e
     have HP := Lib.hid hp0
     clear hp0
     by_cases hge : x.a ≤ p.a
     ·have HF2 : Hid (stepN ns (kp + 1) = false) := Lib.hid (by rw [stepN_at HX.out, show kp + 1 - 1 = kp from rfl, getD_at HP.out]; simp; omega)
      obtain ⟨S, HI, HO⟩ := hideS fun (L : Ran) (vs : Nat → Value) (w' : World) => Grows w4 w' ∧ KnS [some (.agg #[.int .i64 x.a, .int .i64 x.b, .int .i64 x.c, .int .i64 x.d]), some (.bool true), some (.bool false), some (.bool false), some (.int .i64 ((kp + 1 : Nat) : Int)), some (.bool true), some (.bool true), some (.pointer (some ⟨w.heap.size, 0, none⟩)), some (.slice (some ad) ns.length c), some (.int .i64 ((kp + 1 : Nat) : Int)), some (.int .i64 (kp : Int)), some (.pointer (some (ad.add (kp * 4)))), some (.pointer (some (ad.add (kp * 4)))), some (.int .i64 p.a), some (.pointer (some ⟨G4, 0, none⟩)), some (.int .i64 x.a), some (.bool true), some (.bool true), some (.bool true)] L vs
      refine wp_region_genW S 89 (by kernel_rfl) (by kernel_rfl) rfl ?_ ?_
      ·exact HI.out _ _ _ ⟨Grows.drew' _, kn_none _ _⟩
      refine gen_consR (fun vs L w1 hL hw1 => ?_) ?_
      ·obtain ⟨q0, q1⟩ := HO.out _ _ _ hw1
       refine gen_plain rfl ?_
       have x := (k4.grows q0).cell 
       go_simp
       exact gr_val (HI.out _ _ _ ⟨q0, kn_known q1 rfl⟩)
      refine gen_consR (fun vs L w1 hL hw1 => ?_) ?_
      ·obtain ⟨q0, q1⟩ := HO.out _ _ _ hw1
       refine gen_plain rfl ?_
       have l0 : L 0 = true := hL.need 0 (by kernel_rfl)
       have e0 := q1 0 _ rfl l0
       simp only [e0]
       go_simp
       refine gr_call ?_
       refine (fits_is x true w1 HF.out).mono ?_
       rintro e w2 ⟨rfl, hg⟩
       exact ⟨_, rfl, HI.out _ _ _ ⟨below_grows q0 (Nat.le_refl _) hg, kn_known q1 rfl⟩⟩
      refine gen_consR (fun vs L w1 hL hw1 => ?_) ?_
      ·obtain ⟨q0, q1⟩ := HO.out _ _ _ hw1
       refine gen_plain rfl ?_
       have l1 : L 1 = true := hL.need 1 (by kernel_rfl)
       have e1 := q1 1 _ rfl l1
       simp only [e1]
       go_simp
       exact gr_val (HI.out _ _ _ ⟨q0, kn_known q1 rfl⟩)
      refine gen_consR (fun vs L w1 hL hw1 => ?_) ?_
      ·obtain ⟨q0, q1⟩ := HO.out _ _ _ hw1
       refine gen_plain rfl ?_
       have l2 : L 2 = true := hL.need 2 (by kernel_rfl)
       have e2 := q1 2 _ rfl l2
       simp only [e2]
       go_simp
       exact gr_val (HI.out _ _ _ ⟨q0, kn_known q1 rfl⟩)
      refine gen_consR (fun vs L w1 hL hw1 => ?_) ?_
      ·obtain ⟨q0, q1⟩ := HO.out _ _ _ hw1
       have l3 : L 3 = true := hL.need 3 (by kernel_rfl)
       have e3 := q1 3 _ rfl l3
       refine gen_yes ?_ ?_
       ·simp only [e3]
        rfl
       go_simp
       exact gr_val (HI.out _ _ _ ⟨q0, kn_known q1 rfl⟩)
      refine gen_consR (fun vs L w1 hL hw1 => ?_) ?_
      ·obtain ⟨q0, q1⟩ := HO.out _ _ _ hw1
       have l3 : L 3 = true := hL.need 3 (by kernel_rfl)
       have e3 := q1 3 _ rfl l3
       refine gen_yes ?_ ?_
       ·simp only [e3]
        rfl
       have l4 : L 4 = true := hL.need 4 (by kernel_rfl)
       have e4 := q1 4 _ rfl l4
       simp only [e4]
       go_simp
       exact gr_val (HI.out _ _ _ ⟨q0, kn_known q1 rfl⟩)
      refine gen_consR (fun vs L w1 hL hw1 => ?_) ?_
      ·obtain ⟨q0, q1⟩ := HO.out _ _ _ hw1
       have l3 : L 3 = true := hL.need 3 (by kernel_rfl)
       have e3 := q1 3 _ rfl l3
       refine gen_yes ?_ ?_
       ·simp only [e3]
        rfl
       have l5 : L 5 = true := hL.need 5 (by kernel_rfl)
       have e5 := q1 5 _ rfl l5
       simp only [e5]
       go_simp
       exact gr_val (HI.out _ _ _ ⟨q0, kn_known q1 rfl⟩)
      refine gen_consR (fun vs L w1 hL hw1 => ?_) ?_
      ·obtain ⟨q0, q1⟩ := HO.out _ _ _ hw1
       have l6 : L 6 = true := hL.need 6 (by kernel_rfl)
       have e6 := q1 6 _ rfl l6
       refine gen_yes ?_ ?_
       ·simp only [e6]
        rfl
       go_simp
       exact gr_val (HI.out _ _ _ ⟨q0, kn_known q1 rfl⟩)
      refine gen_consR (fun vs L w1 hL hw1 => ?_) ?_
      ·obtain ⟨q0, q1⟩ := HO.out _ _ _ hw1
       have l6 : L 6 = true := hL.need 6 (by kernel_rfl)
       have e6 := q1 6 _ rfl l6
       refine gen_yes ?_ ?_
       ·simp only [e6]
        rfl
       have l7 : L 7 = true := hL.need 7 (by kernel_rfl)
       have e7 := q1 7 _ rfl l7
       have x := (k1.grows q0).cell 0
       simp only [e7]
       go_simp
       exact gr_val (HI.out _ _ _ ⟨q0, kn_known q1 rfl⟩)
      refine gen_consR (fun vs L w1 hL hw1 => ?_) ?_
      ·obtain ⟨q0, q1⟩ := HO.out _ _ _ hw1
       have l6 : L 6 = true := hL.need 6 (by kernel_rfl)
       have e6 := q1 6 _ rfl l6
       refine gen_yes ?_ ?_
       ·simp only [e6]
        rfl
       go_simp
       exact gr_val (HI.out _ _ _ ⟨q0, kn_known q1 rfl⟩)
      refine gen_consR (fun vs L w1 hL hw1 => ?_) ?_
      ·obtain ⟨q0, q1⟩ := HO.out _ _ _ hw1
       have l6 : L 6 = true := hL.need 6 (by kernel_rfl)
       have e6 := q1 6 _ rfl l6
       refine gen_yes ?_ ?_
       ·simp only [e6]
        rfl
       have l9 : L 9 = true := hL.need 9 (by kernel_rfl)
       have e9 := q1 9 _ rfl l9
       simp only [e9]
       go_simp
       try simp only [hw.out]
       exact gr_val (HI.out _ _ _ ⟨q0, kn_known q1 rfl⟩)
      refine gen_consR (fun vs L w1 hL hw1 => ?_) ?_
      ·obtain ⟨q0, q1⟩ := HO.out _ _ _ hw1
       have l6 : L 6 = true := hL.need 6 (by kernel_rfl)
       have e6 := q1 6 _ rfl l6
       refine gen_yes ?_ ?_
       ·simp only [e6]
        rfl
       have l8 : L 8 = true := hL.need 8 (by kernel_rfl)
       have e8 := q1 8 _ rfl l8
       have l10 : L 10 = true := hL.need 10 (by kernel_rfl)
       have e10 := q1 10 _ rfl l10
       simp only [e8, e10]
       go_simp
       exact gr_val (HI.out _ _ _ ⟨q0, kn_known q1 rfl⟩)
      refine gen_consR (fun vs L w1 hL hw1 => ?_) ?_
      ·obtain ⟨q0, q1⟩ := HO.out _ _ _ hw1
       have l6 : L 6 = true := hL.need 6 (by kernel_rfl)
       have e6 := q1 6 _ rfl l6
       refine gen_yes ?_ ?_
       ·simp only [e6]
        rfl
       have l11 : L 11 = true := hL.need 11 (by kernel_rfl)
       have e11 := q1 11 _ rfl l11
       simp only [e11]
       go_simp
       exact gr_val (HI.out _ _ _ ⟨q0, kn_known q1 rfl⟩)
      refine gen_consR (fun vs L w1 hL hw1 => ?_) ?_
      ·obtain ⟨q0, q1⟩ := HO.out _ _ _ hw1
       have l6 : L 6 = true := hL.need 6 (by kernel_rfl)
       have e6 := q1 6 _ rfl l6
       refine gen_yes ?_ ?_
       ·simp only [e6]
        rfl
       have l12 : L 12 = true := hL.need 12 (by kernel_rfl)
       have e12 := q1 12 _ rfl l12
       simp only [e12]
       obtain ⟨y0, y1, y2, y3⟩ := hp _ (below_grows hB (Nat.le_refl _) q0)
       go_simp
       exact gr_val (HI.out _ _ _ ⟨q0, kn_known q1 rfl⟩)
      refine gen_consR (fun vs L w1 hL hw1 => ?_) ?_
      ·obtain ⟨q0, q1⟩ := HO.out _ _ _ hw1
       have l6 : L 6 = true := hL.need 6 (by kernel_rfl)
       have e6 := q1 6 _ rfl l6
       refine gen_yes ?_ ?_
       ·simp only [e6]
        rfl
       go_simp
       exact gr_val (HI.out _ _ _ ⟨q0, kn_known q1 rfl⟩)
      refine gen_consR (fun vs L w1 hL hw1 => ?_) ?_
      ·obtain ⟨q0, q1⟩ := HO.out _ _ _ hw1
       have l6 : L 6 = true := hL.need 6 (by kernel_rfl)
       have e6 := q1 6 _ rfl l6
       refine gen_yes ?_ ?_
       ·simp only [e6]
        rfl
       have l14 : L 14 = true := hL.need 14 (by kernel_rfl)
       have e14 := q1 14 _ rfl l14
       have x := (k4.grows q0).cell 0
       simp only [e14]
       go_simp
       exact gr_val (HI.out _ _ _ ⟨q0, kn_known q1 rfl⟩)
      refine gen_consR (fun vs L w1 hL hw1 => ?_) ?_
      ·obtain ⟨q0, q1⟩ := HO.out _ _ _ hw1
       have l6 : L 6 = true := hL.need 6 (by kernel_rfl)
       have e6 := q1 6 _ rfl l6
       refine gen_yes ?_ ?_
       ·simp only [e6]
        rfl
       have l13 : L 13 = true := hL.need 13 (by kernel_rfl)
       have e13 := q1 13 _ rfl l13
       have l15 : L 15 = true := hL.need 15 (by kernel_rfl)
       have e15 := q1 15 _ rfl l15
       simp only [e13, e15]
       go_simp
       exact gr_val (HI.out _ _ _ ⟨q0, kn_known q1 rfl⟩)
      refine gen_consR (fun vs L w1 hL hw1 => ?_) ?_
      ·obtain ⟨q0, q1⟩ := HO.out _ _ _ hw1
       have l3 : L 3 = true := hL.need 3 (by kernel_rfl)
       have e3 := q1 3 _ rfl l3
       refine gen_yes ?_ ?_
       ·simp only [e3]
        rfl
       have l6 : L 6 = true := hL.need 6 (by kernel_rfl)
       have e6 := q1 6 _ rfl l6
       have l16 : L 16 = true := hL.need 16 (by kernel_rfl)
       have e16 := q1 16 _ rfl l16
       simp only [e6, e16]
       go_simp
       exact gr_val (HI.out _ _ _ ⟨q0, kn_known q1 rfl⟩)
      refine gen_consR (fun vs L w1 hL hw1 => ?_) ?_
      ·obtain ⟨q0, q1⟩ := HO.out _ _ _ hw1
       refine gen_plain rfl ?_
       have l3 : L 3 = true := hL.need 3 (by kernel_rfl)
       have e3 := q1 3 _ rfl l3
       have l17 : L 17 = true := hL.need 17 (by kernel_rfl)
       have e17 := q1 17 _ rfl l17
       simp only [e3, e17]
       go_simp
       exact gr_val (HI.out _ _ _ ⟨q0, kn_known q1 rfl⟩)
      refine gen_nil ?_
      intro vs L W6 hall hS
      obtain ⟨hq, q1⟩ := HO.out _ _ _ hS
      have eX18 := q1 18 _ rfl (hall 18 (by simp))
      clear hall hS HI HO q1
      simp only [eX18]
      go_wp2
      go_ret
      refine ⟨ret_bool ?_, below_grows hB (Nat.le_refl _) hq⟩
      exact (valid_no1 hlt HF2.out).symm
     ·have HA2 := Lib.hid (range_all_up HA.out (by rw [stepN_at HX.out, HF.out, show kp + 1 - 1 = kp from rfl, getD_at HP.out]; simp; omega))
      clear HP
      obtain ⟨S, HI, HO⟩ := hideS fun (L : Ran) (vs : Nat → Value) (w' : World) => Grows w4 w' ∧ KnS [some (.agg #[.int .i64 x.a, .int .i64 x.b, .int .i64 x.c, .int .i64 x.d]), some (.bool true), some (.bool false), some (.bool false), some (.int .i64 ((kp + 1 : Nat) : Int)), some (.bool true), some (.bool true), some (.pointer (some ⟨w.heap.size, 0, none⟩)), some (.slice (some ad) ns.length c), some (.int .i64 ((kp + 1 : Nat) : Int)), some (.int .i64 (kp : Int)), some (.pointer (some (ad.add (kp * 4)))), some (.pointer (some (ad.add (kp * 4)))), some (.int .i64 p.a), some (.pointer (some ⟨G4, 0, none⟩)), some (.int .i64 x.a), some (.bool false), some (.bool false), some (.bool false)] L vs
      refine wp_region_genW S 89 (by kernel_rfl) (by kernel_rfl) rfl ?_ ?_
      ·exact HI.out _ _ _ ⟨Grows.drew' _, kn_none _ _⟩
      refine gen_consR (fun vs L w1 hL hw1 => ?_) ?_
      ·obtain ⟨q0, q1⟩ := HO.out _ _ _ hw1
       refine gen_plain rfl ?_
       have x := (k4.grows q0).cell 
       go_simp
       exact gr_val (HI.out _ _ _ ⟨q0, kn_known q1 rfl⟩)
      refine gen_consR (fun vs L w1 hL hw1 => ?_) ?_
      ·obtain ⟨q0, q1⟩ := HO.out _ _ _ hw1
       refine gen_plain rfl ?_
       have l0 : L 0 = true := hL.need 0 (by kernel_rfl)
       have e0 := q1 0 _ rfl l0
       simp only [e0]
       go_simp
       refine gr_call ?_
       refine (fits_is x true w1 HF.out).mono ?_
       rintro e w2 ⟨rfl, hg⟩
       exact ⟨_, rfl, HI.out _ _ _ ⟨below_grows q0 (Nat.le_refl _) hg, kn_known q1 rfl⟩⟩
      refine gen_consR (fun vs L w1 hL hw1 => ?_) ?_
      ·obtain ⟨q0, q1⟩ := HO.out _ _ _ hw1
       refine gen_plain rfl ?_
       have l1 : L 1 = true := hL.need 1 (by kernel_rfl)
       have e1 := q1 1 _ rfl l1
       simp only [e1]
       go_simp
       exact gr_val (HI.out _ _ _ ⟨q0, kn_known q1 rfl⟩)
      refine gen_consR (fun vs L w1 hL hw1 => ?_) ?_
      ·obtain ⟨q0, q1⟩ := HO.out _ _ _ hw1
       refine gen_plain rfl ?_
       have l2 : L 2 = true := hL.need 2 (by kernel_rfl)
       have e2 := q1 2 _ rfl l2
       simp only [e2]
       go_simp
       exact gr_val (HI.out _ _ _ ⟨q0, kn_known q1 rfl⟩)
      refine gen_consR (fun vs L w1 hL hw1 => ?_) ?_
      ·obtain ⟨q0, q1⟩ := HO.out _ _ _ hw1
       have l3 : L 3 = true := hL.need 3 (by kernel_rfl)
       have e3 := q1 3 _ rfl l3
       refine gen_yes ?_ ?_
       ·simp only [e3]
        rfl
       go_simp
       exact gr_val (HI.out _ _ _ ⟨q0, kn_known q1 rfl⟩)
      refine gen_consR (fun vs L w1 hL hw1 => ?_) ?_
      ·obtain ⟨q0, q1⟩ := HO.out _ _ _ hw1
       have l3 : L 3 = true := hL.need 3 (by kernel_rfl)
       have e3 := q1 3 _ rfl l3
       refine gen_yes ?_ ?_
       ·simp only [e3]
        rfl
       have l4 : L 4 = true := hL.need 4 (by kernel_rfl)
       have e4 := q1 4 _ rfl l4
       simp only [e4]
       go_simp
       exact gr_val (HI.out _ _ _ ⟨q0, kn_known q1 rfl⟩)
      refine gen_consR (fun vs L w1 hL hw1 => ?_) ?_
      ·obtain ⟨q0, q1⟩ := HO.out _ _ _ hw1
       have l3 : L 3 = true := hL.need 3 (by kernel_rfl)
       have e3 := q1 3 _ rfl l3
       refine gen_yes ?_ ?_
       ·simp only [e3]
        rfl
       have l5 : L 5 = true := hL.need 5 (by kernel_rfl)
       have e5 := q1 5 _ rfl l5
       simp only [e5]
       go_simp
       exact gr_val (HI.out _ _ _ ⟨q0, kn_known q1 rfl⟩)
      refine gen_consR (fun vs L w1 hL hw1 => ?_) ?_
      ·obtain ⟨q0, q1⟩ := HO.out _ _ _ hw1
       have l6 : L 6 = true := hL.need 6 (by kernel_rfl)
       have e6 := q1 6 _ rfl l6
       refine gen_yes ?_ ?_
       ·simp only [e6]
        rfl
       go_simp
       exact gr_val (HI.out _ _ _ ⟨q0, kn_known q1 rfl⟩)
      refine gen_consR (fun vs L w1 hL hw1 => ?_) ?_
      ·obtain ⟨q0, q1⟩ := HO.out _ _ _ hw1
       have l6 : L 6 = true := hL.need 6 (by kernel_rfl)
       have e6 := q1 6 _ rfl l6
       refine gen_yes ?_ ?_
       ·simp only [e6]
        rfl
       have l7 : L 7 = true := hL.need 7 (by kernel_rfl)
       have e7 := q1 7 _ rfl l7
       have x := (k1.grows q0).cell 0
       simp only [e7]
       go_simp
       exact gr_val (HI.out _ _ _ ⟨q0, kn_known q1 rfl⟩)
      refine gen_consR (fun vs L w1 hL hw1 => ?_) ?_
      ·obtain ⟨q0, q1⟩ := HO.out _ _ _ hw1
       have l6 : L 6 = true := hL.need 6 (by kernel_rfl)
       have e6 := q1 6 _ rfl l6
       refine gen_yes ?_ ?_
       ·simp only [e6]
        rfl
       go_simp
       exact gr_val (HI.out _ _ _ ⟨q0, kn_known q1 rfl⟩)
      refine gen_consR (fun vs L w1 hL hw1 => ?_) ?_
      ·obtain ⟨q0, q1⟩ := HO.out _ _ _ hw1
       have l6 : L 6 = true := hL.need 6 (by kernel_rfl)
       have e6 := q1 6 _ rfl l6
       refine gen_yes ?_ ?_
       ·simp only [e6]
        rfl
       have l9 : L 9 = true := hL.need 9 (by kernel_rfl)
       have e9 := q1 9 _ rfl l9
       simp only [e9]
       go_simp
       try simp only [hw.out]
       exact gr_val (HI.out _ _ _ ⟨q0, kn_known q1 rfl⟩)
      refine gen_consR (fun vs L w1 hL hw1 => ?_) ?_
      ·obtain ⟨q0, q1⟩ := HO.out _ _ _ hw1
       have l6 : L 6 = true := hL.need 6 (by kernel_rfl)
       have e6 := q1 6 _ rfl l6
       refine gen_yes ?_ ?_
       ·simp only [e6]
        rfl
       have l8 : L 8 = true := hL.need 8 (by kernel_rfl)
       have e8 := q1 8 _ rfl l8
       have l10 : L 10 = true := hL.need 10 (by kernel_rfl)
       have e10 := q1 10 _ rfl l10
       simp only [e8, e10]
       go_simp
       exact gr_val (HI.out _ _ _ ⟨q0, kn_known q1 rfl⟩)
      refine gen_consR (fun vs L w1 hL hw1 => ?_) ?_
      ·obtain ⟨q0, q1⟩ := HO.out _ _ _ hw1
       have l6 : L 6 = true := hL.need 6 (by kernel_rfl)
       have e6 := q1 6 _ rfl l6
       refine gen_yes ?_ ?_
       ·simp only [e6]
        rfl
       have l11 : L 11 = true := hL.need 11 (by kernel_rfl)
       have e11 := q1 11 _ rfl l11
       simp only [e11]
       go_simp
       exact gr_val (HI.out _ _ _ ⟨q0, kn_known q1 rfl⟩)
      refine gen_consR (fun vs L w1 hL hw1 => ?_) ?_
      ·obtain ⟨q0, q1⟩ := HO.out _ _ _ hw1
       have l6 : L 6 = true := hL.need 6 (by kernel_rfl)
       have e6 := q1 6 _ rfl l6
       refine gen_yes ?_ ?_
       ·simp only [e6]
        rfl
       have l12 : L 12 = true := hL.need 12 (by kernel_rfl)
       have e12 := q1 12 _ rfl l12
       simp only [e12]
       obtain ⟨y0, y1, y2, y3⟩ := hp _ (below_grows hB (Nat.le_refl _) q0)
       go_simp
       exact gr_val (HI.out _ _ _ ⟨q0, kn_known q1 rfl⟩)
      refine gen_consR (fun vs L w1 hL hw1 => ?_) ?_
      ·obtain ⟨q0, q1⟩ := HO.out _ _ _ hw1
       have l6 : L 6 = true := hL.need 6 (by kernel_rfl)
       have e6 := q1 6 _ rfl l6
       refine gen_yes ?_ ?_
       ·simp only [e6]
        rfl
       go_simp
       exact gr_val (HI.out _ _ _ ⟨q0, kn_known q1 rfl⟩)
      refine gen_consR (fun vs L w1 hL hw1 => ?_) ?_
      ·obtain ⟨q0, q1⟩ := HO.out _ _ _ hw1
       have l6 : L 6 = true := hL.need 6 (by kernel_rfl)
       have e6 := q1 6 _ rfl l6
       refine gen_yes ?_ ?_
       ·simp only [e6]
        rfl
       have l14 : L 14 = true := hL.need 14 (by kernel_rfl)
       have e14 := q1 14 _ rfl l14
       have x := (k4.grows q0).cell 0
       simp only [e14]
       go_simp
       exact gr_val (HI.out _ _ _ ⟨q0, kn_known q1 rfl⟩)
      refine gen_consR (fun vs L w1 hL hw1 => ?_) ?_
      ·obtain ⟨q0, q1⟩ := HO.out _ _ _ hw1
       have l6 : L 6 = true := hL.need 6 (by kernel_rfl)
       have e6 := q1 6 _ rfl l6
       refine gen_yes ?_ ?_
       ·simp only [e6]
        rfl
       have l13 : L 13 = true := hL.need 13 (by kernel_rfl)
       have e13 := q1 13 _ rfl l13
       have l15 : L 15 = true := hL.need 15 (by kernel_rfl)
       have e15 := q1 15 _ rfl l15
       simp only [e13, e15]
       go_simp
       exact gr_val (HI.out _ _ _ ⟨q0, kn_known q1 rfl⟩)
      refine gen_consR (fun vs L w1 hL hw1 => ?_) ?_
      ·obtain ⟨q0, q1⟩ := HO.out _ _ _ hw1
       have l3 : L 3 = true := hL.need 3 (by kernel_rfl)
       have e3 := q1 3 _ rfl l3
       refine gen_yes ?_ ?_
       ·simp only [e3]
        rfl
       have l6 : L 6 = true := hL.need 6 (by kernel_rfl)
       have e6 := q1 6 _ rfl l6
       have l16 : L 16 = true := hL.need 16 (by kernel_rfl)
       have e16 := q1 16 _ rfl l16
       simp only [e6, e16]
       go_simp
       exact gr_val (HI.out _ _ _ ⟨q0, kn_known q1 rfl⟩)
      refine gen_consR (fun vs L w1 hL hw1 => ?_) ?_
      ·obtain ⟨q0, q1⟩ := HO.out _ _ _ hw1
       refine gen_plain rfl ?_
       have l3 : L 3 = true := hL.need 3 (by kernel_rfl)
       have e3 := q1 3 _ rfl l3
       have l17 : L 17 = true := hL.need 17 (by kernel_rfl)
       have e17 := q1 17 _ rfl l17
       simp only [e3, e17]
       go_simp
       exact gr_val (HI.out _ _ _ ⟨q0, kn_known q1 rfl⟩)
      refine gen_nil ?_
      intro vs L W6 hall hS
      obtain ⟨hq, q1⟩ := HO.out _ _ _ hS
      have eX18 := q1 18 _ rfl (hall 18 (by simp))
      clear hall hS HI HO q1
      simp only [eX18]
      go_wp2
      go_roundw
      case rel => exact ⟨kp + 1 + 1, by omega, by go_num, HA2, below_grows hB (Nat.le_refl _) hq, k1.grows hq⟩
      case measure => simp [intOf]; omega
  ·have HN : Hid (okN ns = true) := Lib.hid (by have := HA.out; rwa [show k = ns.length by omega] at this)
   clear HA
   have x1 := k1.cell
   go_wp2_with fail
   clear x1
   generalize wr = w2 at *
   go_loopw [48] (fun i wr => ∃ k : Nat, k ≤ ls.length ∧ i = .int .i64 k ∧ Hid ((List.range k).all (stepK ns ls) = true) ∧ Below w.heap.size w wr ∧ Blk wr w.heap.size 26 #[.slice A ns.length c, .slice A2 ls.length c2]) (fun i _ => ls.length - (intOf i).toNat)
   case atStart => exact ⟨0, by omega, rfl, Lib.hid rfl, hB, k1⟩
   case round =>
    clear hB k1 hk hlt
    obtain ⟨k, hk, rfl, HA, hB, k1⟩ := hrel
    by_cases hlt : k < ls.length
    ·obtain ⟨ad, l, rfl, had, hx, q0, q1, q2, q3⟩ := (h2.grows hB).elem hlt
     have HX := Lib.hid hx
     clear hx
     have k6 := Blk.new wr 49 #[.int .i64 l.a, .int .i64 l.b, .int .i64 l.c, .int .i64 l.d]
     have hq := (Below.refl wr.heap.size wr).alloc (Nat.le_refl _) (Obj.cells #[.int .i64 l.a, .int .i64 l.b, .int .i64 l.c, .int .i64 l.d] 49)
     go_upto_region 12 with fail
     clear q0 q1 q2 q3
     replace hB := below_grows hB (Nat.le_refl _) hq
     replace k1 := k1.grows hq
     clear hq
     generalize World.alloc wr _ = w7 at *
     generalize wr.heap.size = G6 at *
     generalize hcb : crowdL ns l (ls.take k) = cb
     have HC := Lib.hid hcb
     clear hcb
     have HT : Hid ((ls.take k).length ≤ 9223372036854775807 ∧ k = (ls.take k).length) := Lib.hid (by rw [List.length_take]; omega)
     cases hen : endsL ns l
     ·have HE := Lib.hid hen
      clear hen
      obtain ⟨S, HI, HO⟩ := hideS fun (L : Ran) (vs : Nat → Value) (w' : World) => Grows w7 w' ∧ KnS [some (.agg #[.slice A ns.length c, .slice (some ad) ls.length c2]), some (.agg #[.int .i64 l.a, .int .i64 l.b, .int .i64 l.c, .int .i64 l.d]), some (.bool false), some (.bool true), some (.bool true), none, none, some (undef), none, none, none, none, none, none, none, none, none, none, some (.bool true), some (.bool true), none, none, none, none, none, none, none, some (.bool true)] L vs
      refine wp_region_genW S 89 (by kernel_rfl) (by kernel_rfl) rfl ?_ ?_
      ·exact HI.out _ _ _ ⟨Grows.drew' _, kn_none _ _⟩
      refine gen_consR (fun vs L w1 hL hw1 => ?_) ?_
      ·obtain ⟨q0, q1⟩ := HO.out _ _ _ hw1
       refine gen_plain rfl ?_
       have x := (k1.grows q0).cell 
       go_simp
       exact gr_val (HI.out _ _ _ ⟨q0, kn_known q1 rfl⟩)
      refine gen_consR (fun vs L w1 hL hw1 => ?_) ?_
      ·obtain ⟨q0, q1⟩ := HO.out _ _ _ hw1
       refine gen_plain rfl ?_
       have x := (k6.grows q0).cell 
       go_simp
       exact gr_val (HI.out _ _ _ ⟨q0, kn_known q1 rfl⟩)
      refine gen_consR (fun vs L w1 hL hw1 => ?_) ?_
      ·obtain ⟨q0, q1⟩ := HO.out _ _ _ hw1
       refine gen_plain rfl ?_
       have l0 : L 0 = true := hL.need 0 (by kernel_rfl)
       have e0 := q1 0 _ rfl l0
       have l1 : L 1 = true := hL.need 1 (by kernel_rfl)
       have e1 := q1 1 _ rfl l1
       simp only [e0, e1]
       go_simp
       refine gr_call ?_
       refine (ports_is A (some ad) c c2 ls.length ns l false w1 (h.grows (below_grows hB (Nat.le_refl _) q0)) hl HE.out).mono ?_
       rintro e w2 ⟨rfl, hg⟩
       exact ⟨_, rfl, HI.out _ _ _ ⟨below_grows q0 (Nat.le_refl _) hg, kn_known q1 rfl⟩⟩
      refine gen_consR (fun vs L w1 hL hw1 => ?_) ?_
      ·obtain ⟨q0, q1⟩ := HO.out _ _ _ hw1
       refine gen_plain rfl ?_
       have l2 : L 2 = true := hL.need 2 (by kernel_rfl)
       have e2 := q1 2 _ rfl l2
       simp only [e2]
       go_simp
       exact gr_val (HI.out _ _ _ ⟨q0, kn_known q1 rfl⟩)
      refine gen_consR (fun vs L w1 hL hw1 => ?_) ?_
      ·obtain ⟨q0, q1⟩ := HO.out _ _ _ hw1
       refine gen_plain rfl ?_
       have l3 : L 3 = true := hL.need 3 (by kernel_rfl)
       have e3 := q1 3 _ rfl l3
       simp only [e3]
       go_simp
       exact gr_val (HI.out _ _ _ ⟨q0, kn_known q1 rfl⟩)
      refine gen_consR (fun vs L w1 hL hw1 => ?_) ?_
      ·obtain ⟨q0, q1⟩ := HO.out _ _ _ hw1
       have l4 : L 4 = true := hL.need 4 (by kernel_rfl)
       have e4 := q1 4 _ rfl l4
       refine gen_no ?_ ?_
       ·simp only [e4]
        rfl
       ·exact HI.out _ _ _ ⟨q0, kn_free q1 rfl⟩
      refine gen_consR (fun vs L w1 hL hw1 => ?_) ?_
      ·obtain ⟨q0, q1⟩ := HO.out _ _ _ hw1
       have l4 : L 4 = true := hL.need 4 (by kernel_rfl)
       have e4 := q1 4 _ rfl l4
       refine gen_no ?_ ?_
       ·simp only [e4]
        rfl
       ·exact HI.out _ _ _ ⟨q0, kn_free q1 rfl⟩
      refine gen_consR (fun vs L w1 hL hw1 => ?_) ?_
      ·obtain ⟨q0, q1⟩ := HO.out _ _ _ hw1
       have l4 : L 4 = true := hL.need 4 (by kernel_rfl)
       have e4 := q1 4 _ rfl l4
       refine gen_no ?_ ?_
       ·simp only [e4]
        rfl
       ·exact HI.out _ _ _ ⟨q0, kn_known q1 rfl⟩
      refine gen_consR (fun vs L w1 hL hw1 => ?_) ?_
      ·obtain ⟨q0, q1⟩ := HO.out _ _ _ hw1
       have l7 : L 7 = true := hL.need 7 (by kernel_rfl)
       have e7 := q1 7 _ rfl l7
       refine gen_no ?_ ?_
       ·simp only [e7]
        rfl
       ·exact HI.out _ _ _ ⟨q0, kn_free q1 rfl⟩
      refine gen_consR (fun vs L w1 hL hw1 => ?_) ?_
      ·obtain ⟨q0, q1⟩ := HO.out _ _ _ hw1
       have l7 : L 7 = true := hL.need 7 (by kernel_rfl)
       have e7 := q1 7 _ rfl l7
       refine gen_no ?_ ?_
       ·simp only [e7]
        rfl
       ·exact HI.out _ _ _ ⟨q0, kn_free q1 rfl⟩
      refine gen_consR (fun vs L w1 hL hw1 => ?_) ?_
      ·obtain ⟨q0, q1⟩ := HO.out _ _ _ hw1
       have l7 : L 7 = true := hL.need 7 (by kernel_rfl)
       have e7 := q1 7 _ rfl l7
       refine gen_no ?_ ?_
       ·simp only [e7]
        rfl
       ·exact HI.out _ _ _ ⟨q0, kn_free q1 rfl⟩
      refine gen_consR (fun vs L w1 hL hw1 => ?_) ?_
      ·obtain ⟨q0, q1⟩ := HO.out _ _ _ hw1
       have l7 : L 7 = true := hL.need 7 (by kernel_rfl)
       have e7 := q1 7 _ rfl l7
       refine gen_no ?_ ?_
       ·simp only [e7]
        rfl
       ·exact HI.out _ _ _ ⟨q0, kn_free q1 rfl⟩
      refine gen_consR (fun vs L w1 hL hw1 => ?_) ?_
      ·obtain ⟨q0, q1⟩ := HO.out _ _ _ hw1
       have l7 : L 7 = true := hL.need 7 (by kernel_rfl)
       have e7 := q1 7 _ rfl l7
       refine gen_no ?_ ?_
       ·simp only [e7]
        rfl
       ·exact HI.out _ _ _ ⟨q0, kn_free q1 rfl⟩
      refine gen_consR (fun vs L w1 hL hw1 => ?_) ?_
      ·obtain ⟨q0, q1⟩ := HO.out _ _ _ hw1
       have l7 : L 7 = true := hL.need 7 (by kernel_rfl)
       have e7 := q1 7 _ rfl l7
       refine gen_no ?_ ?_
       ·simp only [e7]
        rfl
       ·exact HI.out _ _ _ ⟨q0, kn_free q1 rfl⟩
      refine gen_consR (fun vs L w1 hL hw1 => ?_) ?_
      ·obtain ⟨q0, q1⟩ := HO.out _ _ _ hw1
       have l7 : L 7 = true := hL.need 7 (by kernel_rfl)
       have e7 := q1 7 _ rfl l7
       refine gen_no ?_ ?_
       ·simp only [e7]
        rfl
       ·exact HI.out _ _ _ ⟨q0, kn_free q1 rfl⟩
      refine gen_consR (fun vs L w1 hL hw1 => ?_) ?_
      ·obtain ⟨q0, q1⟩ := HO.out _ _ _ hw1
       have l7 : L 7 = true := hL.need 7 (by kernel_rfl)
       have e7 := q1 7 _ rfl l7
       refine gen_no ?_ ?_
       ·simp only [e7]
        rfl
       ·exact HI.out _ _ _ ⟨q0, kn_free q1 rfl⟩
      refine gen_consR (fun vs L w1 hL hw1 => ?_) ?_
      ·obtain ⟨q0, q1⟩ := HO.out _ _ _ hw1
       have l7 : L 7 = true := hL.need 7 (by kernel_rfl)
       have e7 := q1 7 _ rfl l7
       refine gen_no ?_ ?_
       ·simp only [e7]
        rfl
       ·exact HI.out _ _ _ ⟨q0, kn_free q1 rfl⟩
      refine gen_consR (fun vs L w1 hL hw1 => ?_) ?_
      ·obtain ⟨q0, q1⟩ := HO.out _ _ _ hw1
       have l4 : L 4 = true := hL.need 4 (by kernel_rfl)
       have e4 := q1 4 _ rfl l4
       refine gen_no ?_ ?_
       ·simp only [e4]
        rfl
       ·exact HI.out _ _ _ ⟨q0, kn_free q1 rfl⟩
      refine gen_consR (fun vs L w1 hL hw1 => ?_) ?_
      ·obtain ⟨q0, q1⟩ := HO.out _ _ _ hw1
       refine gen_plain rfl ?_
       have l4 : L 4 = true := hL.need 4 (by kernel_rfl)
       have e4 := q1 4 _ rfl l4
       simp only [e4]
       go_simp
       exact gr_val (HI.out _ _ _ ⟨q0, kn_known q1 rfl⟩)
      refine gen_consR (fun vs L w1 hL hw1 => ?_) ?_
      ·obtain ⟨q0, q1⟩ := HO.out _ _ _ hw1
       refine gen_plain rfl ?_
       have l18 : L 18 = true := hL.need 18 (by kernel_rfl)
       have e18 := q1 18 _ rfl l18
       simp only [e18]
       go_simp
       exact gr_val (HI.out _ _ _ ⟨q0, kn_known q1 rfl⟩)
      refine gen_consR (fun vs L w1 hL hw1 => ?_) ?_
      ·obtain ⟨q0, q1⟩ := HO.out _ _ _ hw1
       have l19 : L 19 = true := hL.need 19 (by kernel_rfl)
       have e19 := q1 19 _ rfl l19
       refine gen_no ?_ ?_
       ·simp only [e19]
        rfl
       ·exact HI.out _ _ _ ⟨q0, kn_free q1 rfl⟩
      refine gen_consR (fun vs L w1 hL hw1 => ?_) ?_
      ·obtain ⟨q0, q1⟩ := HO.out _ _ _ hw1
       have l19 : L 19 = true := hL.need 19 (by kernel_rfl)
       have e19 := q1 19 _ rfl l19
       refine gen_no ?_ ?_
       ·simp only [e19]
        rfl
       ·exact HI.out _ _ _ ⟨q0, kn_free q1 rfl⟩
      refine gen_consR (fun vs L w1 hL hw1 => ?_) ?_
      ·obtain ⟨q0, q1⟩ := HO.out _ _ _ hw1
       have l19 : L 19 = true := hL.need 19 (by kernel_rfl)
       have e19 := q1 19 _ rfl l19
       refine gen_no ?_ ?_
       ·simp only [e19]
        rfl
       ·exact HI.out _ _ _ ⟨q0, kn_free q1 rfl⟩
      refine gen_consR (fun vs L w1 hL hw1 => ?_) ?_
      ·obtain ⟨q0, q1⟩ := HO.out _ _ _ hw1
       have l19 : L 19 = true := hL.need 19 (by kernel_rfl)
       have e19 := q1 19 _ rfl l19
       refine gen_no ?_ ?_
       ·simp only [e19]
        rfl
       ·exact HI.out _ _ _ ⟨q0, kn_free q1 rfl⟩
      refine gen_consR (fun vs L w1 hL hw1 => ?_) ?_
      ·obtain ⟨q0, q1⟩ := HO.out _ _ _ hw1
       have l19 : L 19 = true := hL.need 19 (by kernel_rfl)
       have e19 := q1 19 _ rfl l19
       refine gen_no ?_ ?_
       ·simp only [e19]
        rfl
       ·exact HI.out _ _ _ ⟨q0, kn_free q1 rfl⟩
      refine gen_consR (fun vs L w1 hL hw1 => ?_) ?_
      ·obtain ⟨q0, q1⟩ := HO.out _ _ _ hw1
       have l19 : L 19 = true := hL.need 19 (by kernel_rfl)
       have e19 := q1 19 _ rfl l19
       refine gen_no ?_ ?_
       ·simp only [e19]
        rfl
       ·exact HI.out _ _ _ ⟨q0, kn_free q1 rfl⟩
      refine gen_consR (fun vs L w1 hL hw1 => ?_) ?_
      ·obtain ⟨q0, q1⟩ := HO.out _ _ _ hw1
       have l19 : L 19 = true := hL.need 19 (by kernel_rfl)
       have e19 := q1 19 _ rfl l19
       refine gen_no ?_ ?_
       ·simp only [e19]
        rfl
       ·exact HI.out _ _ _ ⟨q0, kn_free q1 rfl⟩
      refine gen_consR (fun vs L w1 hL hw1 => ?_) ?_
      ·obtain ⟨q0, q1⟩ := HO.out _ _ _ hw1
       refine gen_plain rfl ?_
       have l19 : L 19 = true := hL.need 19 (by kernel_rfl)
       have e19 := q1 19 _ rfl l19
       simp only [e19]
       go_simp
       exact gr_val (HI.out _ _ _ ⟨q0, kn_known q1 rfl⟩)
      refine gen_nil ?_
      intro vs L W6 hall hS
      obtain ⟨hq, q1⟩ := HO.out _ _ _ hS
      have eX27 := q1 27 _ rfl (hall 27 (by simp))
      clear hall hS HI HO q1
      simp only [eX27]
      go_wp2
      go_ret
      refine ⟨ret_bool ?_, below_grows hB (Nat.le_refl _) hq⟩
      exact (valid_no2 hlt (by rw [stepK_at HX.out, HE.out]; rfl)).symm
     ·have HE := Lib.hid hen
      clear hen
      by_cases hk0 : k = 0
      ·have hkc : k ≤ c2 := by omega
       have hk9 : decide (0 < k) = false := by simp [hk0]
       have HK0 := Lib.hid hk0
       clear hk0
       cases cb
       ·have HA2 := Lib.hid (range_all_up HA.out (by rw [stepK_at HX.out, HE.out, HC.out, HK0.out]; rfl))
        obtain ⟨S, HI, HO⟩ := hideS fun (L : Ran) (vs : Nat → Value) (w' : World) => Grows w7 w' ∧ KnS [some (.agg #[.slice A ns.length c, .slice (some ad) ls.length c2]), some (.agg #[.int .i64 l.a, .int .i64 l.b, .int .i64 l.c, .int .i64 l.d]), some (.bool true), some (.bool false), some (.bool false), some (.int .i64 (k : Int)), some (.bool false), some (.bool false), none, none, none, none, none, none, none, none, none, some (.bool false), some (.bool false), some (.bool false), some (.agg #[.slice A ns.length c, .slice (some ad) ls.length c2]), some (.agg #[.int .i64 l.a, .int .i64 l.b, .int .i64 l.c, .int .i64 l.d]), some (.pointer (some ⟨w.heap.size, 1, none⟩)), some (.slice (some ad) ls.length c2), some (.int .i64 (k : Int)), some (.slice (some ad) k c2), some (.bool false), some (.bool false)] L vs
        refine wp_region_genW S 89 (by kernel_rfl) (by kernel_rfl) rfl ?_ ?_
        ·exact HI.out _ _ _ ⟨Grows.drew' _, kn_none _ _⟩
        refine gen_consR (fun vs L w1 hL hw1 => ?_) ?_
        ·obtain ⟨q0, q1⟩ := HO.out _ _ _ hw1
         refine gen_plain rfl ?_
         have x := (k1.grows q0).cell 
         go_simp
         exact gr_val (HI.out _ _ _ ⟨q0, kn_known q1 rfl⟩)
        refine gen_consR (fun vs L w1 hL hw1 => ?_) ?_
        ·obtain ⟨q0, q1⟩ := HO.out _ _ _ hw1
         refine gen_plain rfl ?_
         have x := (k6.grows q0).cell 
         go_simp
         exact gr_val (HI.out _ _ _ ⟨q0, kn_known q1 rfl⟩)
        refine gen_consR (fun vs L w1 hL hw1 => ?_) ?_
        ·obtain ⟨q0, q1⟩ := HO.out _ _ _ hw1
         refine gen_plain rfl ?_
         have l0 : L 0 = true := hL.need 0 (by kernel_rfl)
         have e0 := q1 0 _ rfl l0
         have l1 : L 1 = true := hL.need 1 (by kernel_rfl)
         have e1 := q1 1 _ rfl l1
         simp only [e0, e1]
         go_simp
         refine gr_call ?_
         refine (ports_is A (some ad) c c2 ls.length ns l true w1 (h.grows (below_grows hB (Nat.le_refl _) q0)) hl HE.out).mono ?_
         rintro e w2 ⟨rfl, hg⟩
         exact ⟨_, rfl, HI.out _ _ _ ⟨below_grows q0 (Nat.le_refl _) hg, kn_known q1 rfl⟩⟩
        refine gen_consR (fun vs L w1 hL hw1 => ?_) ?_
        ·obtain ⟨q0, q1⟩ := HO.out _ _ _ hw1
         refine gen_plain rfl ?_
         have l2 : L 2 = true := hL.need 2 (by kernel_rfl)
         have e2 := q1 2 _ rfl l2
         simp only [e2]
         go_simp
         exact gr_val (HI.out _ _ _ ⟨q0, kn_known q1 rfl⟩)
        refine gen_consR (fun vs L w1 hL hw1 => ?_) ?_
        ·obtain ⟨q0, q1⟩ := HO.out _ _ _ hw1
         refine gen_plain rfl ?_
         have l3 : L 3 = true := hL.need 3 (by kernel_rfl)
         have e3 := q1 3 _ rfl l3
         simp only [e3]
         go_simp
         exact gr_val (HI.out _ _ _ ⟨q0, kn_known q1 rfl⟩)
        refine gen_consR (fun vs L w1 hL hw1 => ?_) ?_
        ·obtain ⟨q0, q1⟩ := HO.out _ _ _ hw1
         have l4 : L 4 = true := hL.need 4 (by kernel_rfl)
         have e4 := q1 4 _ rfl l4
         refine gen_yes ?_ ?_
         ·simp only [e4]
          rfl
         go_simp
         exact gr_val (HI.out _ _ _ ⟨q0, kn_known q1 rfl⟩)
        refine gen_consR (fun vs L w1 hL hw1 => ?_) ?_
        ·obtain ⟨q0, q1⟩ := HO.out _ _ _ hw1
         have l4 : L 4 = true := hL.need 4 (by kernel_rfl)
         have e4 := q1 4 _ rfl l4
         refine gen_yes ?_ ?_
         ·simp only [e4]
          rfl
         have l5 : L 5 = true := hL.need 5 (by kernel_rfl)
         have e5 := q1 5 _ rfl l5
         simp only [e5]
         go_simp
         exact gr_val (HI.out _ _ _ ⟨q0, kn_known q1 rfl⟩)
        refine gen_consR (fun vs L w1 hL hw1 => ?_) ?_
        ·obtain ⟨q0, q1⟩ := HO.out _ _ _ hw1
         have l4 : L 4 = true := hL.need 4 (by kernel_rfl)
         have e4 := q1 4 _ rfl l4
         refine gen_yes ?_ ?_
         ·simp only [e4]
          rfl
         have l6 : L 6 = true := hL.need 6 (by kernel_rfl)
         have e6 := q1 6 _ rfl l6
         simp only [e6]
         go_simp
         exact gr_val (HI.out _ _ _ ⟨q0, kn_known q1 rfl⟩)
        refine gen_consR (fun vs L w1 hL hw1 => ?_) ?_
        ·obtain ⟨q0, q1⟩ := HO.out _ _ _ hw1
         have l7 : L 7 = true := hL.need 7 (by kernel_rfl)
         have e7 := q1 7 _ rfl l7
         refine gen_no ?_ ?_
         ·simp only [e7]
          rfl
         ·exact HI.out _ _ _ ⟨q0, kn_free q1 rfl⟩
        refine gen_consR (fun vs L w1 hL hw1 => ?_) ?_
        ·obtain ⟨q0, q1⟩ := HO.out _ _ _ hw1
         have l7 : L 7 = true := hL.need 7 (by kernel_rfl)
         have e7 := q1 7 _ rfl l7
         refine gen_no ?_ ?_
         ·simp only [e7]
          rfl
         ·exact HI.out _ _ _ ⟨q0, kn_free q1 rfl⟩
        refine gen_consR (fun vs L w1 hL hw1 => ?_) ?_
        ·obtain ⟨q0, q1⟩ := HO.out _ _ _ hw1
         have l7 : L 7 = true := hL.need 7 (by kernel_rfl)
         have e7 := q1 7 _ rfl l7
         refine gen_no ?_ ?_
         ·simp only [e7]
          rfl
         ·exact HI.out _ _ _ ⟨q0, kn_free q1 rfl⟩
        refine gen_consR (fun vs L w1 hL hw1 => ?_) ?_
        ·obtain ⟨q0, q1⟩ := HO.out _ _ _ hw1
         have l7 : L 7 = true := hL.need 7 (by kernel_rfl)
         have e7 := q1 7 _ rfl l7
         refine gen_no ?_ ?_
         ·simp only [e7]
          rfl
         ·exact HI.out _ _ _ ⟨q0, kn_free q1 rfl⟩
        refine gen_consR (fun vs L w1 hL hw1 => ?_) ?_
        ·obtain ⟨q0, q1⟩ := HO.out _ _ _ hw1
         have l7 : L 7 = true := hL.need 7 (by kernel_rfl)
         have e7 := q1 7 _ rfl l7
         refine gen_no ?_ ?_
         ·simp only [e7]
          rfl
         ·exact HI.out _ _ _ ⟨q0, kn_free q1 rfl⟩
        refine gen_consR (fun vs L w1 hL hw1 => ?_) ?_
        ·obtain ⟨q0, q1⟩ := HO.out _ _ _ hw1
         have l7 : L 7 = true := hL.need 7 (by kernel_rfl)
         have e7 := q1 7 _ rfl l7
         refine gen_no ?_ ?_
         ·simp only [e7]
          rfl
         ·exact HI.out _ _ _ ⟨q0, kn_free q1 rfl⟩
        refine gen_consR (fun vs L w1 hL hw1 => ?_) ?_
        ·obtain ⟨q0, q1⟩ := HO.out _ _ _ hw1
         have l7 : L 7 = true := hL.need 7 (by kernel_rfl)
         have e7 := q1 7 _ rfl l7
         refine gen_no ?_ ?_
         ·simp only [e7]
          rfl
         ·exact HI.out _ _ _ ⟨q0, kn_free q1 rfl⟩
        refine gen_consR (fun vs L w1 hL hw1 => ?_) ?_
        ·obtain ⟨q0, q1⟩ := HO.out _ _ _ hw1
         have l7 : L 7 = true := hL.need 7 (by kernel_rfl)
         have e7 := q1 7 _ rfl l7
         refine gen_no ?_ ?_
         ·simp only [e7]
          rfl
         ·exact HI.out _ _ _ ⟨q0, kn_free q1 rfl⟩
        refine gen_consR (fun vs L w1 hL hw1 => ?_) ?_
        ·obtain ⟨q0, q1⟩ := HO.out _ _ _ hw1
         have l7 : L 7 = true := hL.need 7 (by kernel_rfl)
         have e7 := q1 7 _ rfl l7
         refine gen_no ?_ ?_
         ·simp only [e7]
          rfl
         ·exact HI.out _ _ _ ⟨q0, kn_free q1 rfl⟩
        refine gen_consR (fun vs L w1 hL hw1 => ?_) ?_
        ·obtain ⟨q0, q1⟩ := HO.out _ _ _ hw1
         have l4 : L 4 = true := hL.need 4 (by kernel_rfl)
         have e4 := q1 4 _ rfl l4
         refine gen_yes ?_ ?_
         ·simp only [e4]
          rfl
         have l7 : L 7 = true := hL.need 7 (by kernel_rfl)
         have e7 := q1 7 _ rfl l7
         simp only [e7]
         go_simp
         exact gr_val (HI.out _ _ _ ⟨q0, kn_known q1 rfl⟩)
        refine gen_consR (fun vs L w1 hL hw1 => ?_) ?_
        ·obtain ⟨q0, q1⟩ := HO.out _ _ _ hw1
         refine gen_plain rfl ?_
         have l4 : L 4 = true := hL.need 4 (by kernel_rfl)
         have e4 := q1 4 _ rfl l4
         have l17 : L 17 = true := hL.need 17 (by kernel_rfl)
         have e17 := q1 17 _ rfl l17
         simp only [e4, e17]
         go_simp
         exact gr_val (HI.out _ _ _ ⟨q0, kn_known q1 rfl⟩)
        refine gen_consR (fun vs L w1 hL hw1 => ?_) ?_
        ·obtain ⟨q0, q1⟩ := HO.out _ _ _ hw1
         refine gen_plain rfl ?_
         have l18 : L 18 = true := hL.need 18 (by kernel_rfl)
         have e18 := q1 18 _ rfl l18
         simp only [e18]
         go_simp
         exact gr_val (HI.out _ _ _ ⟨q0, kn_known q1 rfl⟩)
        refine gen_consR (fun vs L w1 hL hw1 => ?_) ?_
        ·obtain ⟨q0, q1⟩ := HO.out _ _ _ hw1
         have l19 : L 19 = true := hL.need 19 (by kernel_rfl)
         have e19 := q1 19 _ rfl l19
         refine gen_yes ?_ ?_
         ·simp only [e19]
          rfl
         have x := (k1.grows q0).cell 
         go_simp
         exact gr_val (HI.out _ _ _ ⟨q0, kn_known q1 rfl⟩)
        refine gen_consR (fun vs L w1 hL hw1 => ?_) ?_
        ·obtain ⟨q0, q1⟩ := HO.out _ _ _ hw1
         have l19 : L 19 = true := hL.need 19 (by kernel_rfl)
         have e19 := q1 19 _ rfl l19
         refine gen_yes ?_ ?_
         ·simp only [e19]
          rfl
         have x := (k6.grows q0).cell 
         go_simp
         exact gr_val (HI.out _ _ _ ⟨q0, kn_known q1 rfl⟩)
        refine gen_consR (fun vs L w1 hL hw1 => ?_) ?_
        ·obtain ⟨q0, q1⟩ := HO.out _ _ _ hw1
         have l19 : L 19 = true := hL.need 19 (by kernel_rfl)
         have e19 := q1 19 _ rfl l19
         refine gen_yes ?_ ?_
         ·simp only [e19]
          rfl
         go_simp
         exact gr_val (HI.out _ _ _ ⟨q0, kn_known q1 rfl⟩)
        refine gen_consR (fun vs L w1 hL hw1 => ?_) ?_
        ·obtain ⟨q0, q1⟩ := HO.out _ _ _ hw1
         have l19 : L 19 = true := hL.need 19 (by kernel_rfl)
         have e19 := q1 19 _ rfl l19
         refine gen_yes ?_ ?_
         ·simp only [e19]
          rfl
         have l22 : L 22 = true := hL.need 22 (by kernel_rfl)
         have e22 := q1 22 _ rfl l22
         have x := (k1.grows q0).cell 1
         simp only [e22]
         go_simp
         exact gr_val (HI.out _ _ _ ⟨q0, kn_known q1 rfl⟩)
        refine gen_consR (fun vs L w1 hL hw1 => ?_) ?_
        ·obtain ⟨q0, q1⟩ := HO.out _ _ _ hw1
         have l19 : L 19 = true := hL.need 19 (by kernel_rfl)
         have e19 := q1 19 _ rfl l19
         refine gen_yes ?_ ?_
         ·simp only [e19]
          rfl
         go_simp
         exact gr_val (HI.out _ _ _ ⟨q0, kn_known q1 rfl⟩)
        refine gen_consR (fun vs L w1 hL hw1 => ?_) ?_
        ·obtain ⟨q0, q1⟩ := HO.out _ _ _ hw1
         have l19 : L 19 = true := hL.need 19 (by kernel_rfl)
         have e19 := q1 19 _ rfl l19
         refine gen_yes ?_ ?_
         ·simp only [e19]
          rfl
         have l23 : L 23 = true := hL.need 23 (by kernel_rfl)
         have e23 := q1 23 _ rfl l23
         have l24 : L 24 = true := hL.need 24 (by kernel_rfl)
         have e24 := q1 24 _ rfl l24
         simp only [e23, e24]
         go_simp
         exact gr_val (HI.out _ _ _ ⟨q0, kn_known q1 rfl⟩)
        refine gen_consR (fun vs L w1 hL hw1 => ?_) ?_
        ·obtain ⟨q0, q1⟩ := HO.out _ _ _ hw1
         have l19 : L 19 = true := hL.need 19 (by kernel_rfl)
         have e19 := q1 19 _ rfl l19
         refine gen_yes ?_ ?_
         ·simp only [e19]
          rfl
         have l20 : L 20 = true := hL.need 20 (by kernel_rfl)
         have e20 := q1 20 _ rfl l20
         have l21 : L 21 = true := hL.need 21 (by kernel_rfl)
         have e21 := q1 21 _ rfl l21
         have l25 : L 25 = true := hL.need 25 (by kernel_rfl)
         have e25 := q1 25 _ rfl l25
         simp only [e20, e21, e25]
         go_simp
         refine gr_call ?_
         refine (crowd_is A (some ad) (some ad) c c2 c2 ls.length k ns (ls.take k) l false w1 (h.grows (below_grows hB (Nat.le_refl _) q0)) hl (qs_take (h2.grows (below_grows hB (Nat.le_refl _) q0)) k hk) HT.out.1 HT.out.2 HC.out).mono ?_
         rintro e w2 ⟨rfl, hg⟩
         exact ⟨_, rfl, HI.out _ _ _ ⟨below_grows q0 (Nat.le_refl _) hg, kn_known q1 rfl⟩⟩
        refine gen_consR (fun vs L w1 hL hw1 => ?_) ?_
        ·obtain ⟨q0, q1⟩ := HO.out _ _ _ hw1
         refine gen_plain rfl ?_
         have l19 : L 19 = true := hL.need 19 (by kernel_rfl)
         have e19 := q1 19 _ rfl l19
         have l26 : L 26 = true := hL.need 26 (by kernel_rfl)
         have e26 := q1 26 _ rfl l26
         simp only [e19, e26]
         go_simp
         exact gr_val (HI.out _ _ _ ⟨q0, kn_known q1 rfl⟩)
        refine gen_nil ?_
        intro vs L W6 hall hS
        obtain ⟨hq, q1⟩ := HO.out _ _ _ hS
        have eX27 := q1 27 _ rfl (hall 27 (by simp))
        clear hall hS HI HO q1
        simp only [eX27]
        go_wp2
        go_roundw
        case rel => exact ⟨k + 1, by omega, by go_num, HA2, below_grows hB (Nat.le_refl _) hq, k1.grows hq⟩
        case measure => simp [intOf]; omega
       ·have HF2 : Hid (stepK ns ls k = false) := Lib.hid (by rw [stepK_at HX.out, HC.out]; simp)
        obtain ⟨S, HI, HO⟩ := hideS fun (L : Ran) (vs : Nat → Value) (w' : World) => Grows w7 w' ∧ KnS [some (.agg #[.slice A ns.length c, .slice (some ad) ls.length c2]), some (.agg #[.int .i64 l.a, .int .i64 l.b, .int .i64 l.c, .int .i64 l.d]), some (.bool true), some (.bool false), some (.bool false), some (.int .i64 (k : Int)), some (.bool false), some (.bool false), none, none, none, none, none, none, none, none, none, some (.bool false), some (.bool false), some (.bool false), some (.agg #[.slice A ns.length c, .slice (some ad) ls.length c2]), some (.agg #[.int .i64 l.a, .int .i64 l.b, .int .i64 l.c, .int .i64 l.d]), some (.pointer (some ⟨w.heap.size, 1, none⟩)), some (.slice (some ad) ls.length c2), some (.int .i64 (k : Int)), some (.slice (some ad) k c2), some (.bool true), some (.bool true)] L vs
        refine wp_region_genW S 89 (by kernel_rfl) (by kernel_rfl) rfl ?_ ?_
        ·exact HI.out _ _ _ ⟨Grows.drew' _, kn_none _ _⟩
        refine gen_consR (fun vs L w1 hL hw1 => ?_) ?_
        ·obtain ⟨q0, q1⟩ := HO.out _ _ _ hw1
         refine gen_plain rfl ?_
         have x := (k1.grows q0).cell 
         go_simp
         exact gr_val (HI.out _ _ _ ⟨q0, kn_known q1 rfl⟩)
        refine gen_consR (fun vs L w1 hL hw1 => ?_) ?_
        ·obtain ⟨q0, q1⟩ := HO.out _ _ _ hw1
         refine gen_plain rfl ?_
         have x := (k6.grows q0).cell 
         go_simp
         exact gr_val (HI.out _ _ _ ⟨q0, kn_known q1 rfl⟩)
        refine gen_consR (fun vs L w1 hL hw1 => ?_) ?_
        ·obtain ⟨q0, q1⟩ := HO.out _ _ _ hw1
         refine gen_plain rfl ?_
         have l0 : L 0 = true := hL.need 0 (by kernel_rfl)
         have e0 := q1 0 _ rfl l0
         have l1 : L 1 = true := hL.need 1 (by kernel_rfl)
         have e1 := q1 1 _ rfl l1
         simp only [e0, e1]
         go_simp
         refine gr_call ?_
         refine (ports_is A (some ad) c c2 ls.length ns l true w1 (h.grows (below_grows hB (Nat.le_refl _) q0)) hl HE.out).mono ?_
         rintro e w2 ⟨rfl, hg⟩
         exact ⟨_, rfl, HI.out _ _ _ ⟨below_grows q0 (Nat.le_refl _) hg, kn_known q1 rfl⟩⟩
        refine gen_consR (fun vs L w1 hL hw1 => ?_) ?_
        ·obtain ⟨q0, q1⟩ := HO.out _ _ _ hw1
         refine gen_plain rfl ?_
         have l2 : L 2 = true := hL.need 2 (by kernel_rfl)
         have e2 := q1 2 _ rfl l2
         simp only [e2]
         go_simp
         exact gr_val (HI.out _ _ _ ⟨q0, kn_known q1 rfl⟩)
        refine gen_consR (fun vs L w1 hL hw1 => ?_) ?_
        ·obtain ⟨q0, q1⟩ := HO.out _ _ _ hw1
         refine gen_plain rfl ?_
         have l3 : L 3 = true := hL.need 3 (by kernel_rfl)
         have e3 := q1 3 _ rfl l3
         simp only [e3]
         go_simp
         exact gr_val (HI.out _ _ _ ⟨q0, kn_known q1 rfl⟩)
        refine gen_consR (fun vs L w1 hL hw1 => ?_) ?_
        ·obtain ⟨q0, q1⟩ := HO.out _ _ _ hw1
         have l4 : L 4 = true := hL.need 4 (by kernel_rfl)
         have e4 := q1 4 _ rfl l4
         refine gen_yes ?_ ?_
         ·simp only [e4]
          rfl
         go_simp
         exact gr_val (HI.out _ _ _ ⟨q0, kn_known q1 rfl⟩)
        refine gen_consR (fun vs L w1 hL hw1 => ?_) ?_
        ·obtain ⟨q0, q1⟩ := HO.out _ _ _ hw1
         have l4 : L 4 = true := hL.need 4 (by kernel_rfl)
         have e4 := q1 4 _ rfl l4
         refine gen_yes ?_ ?_
         ·simp only [e4]
          rfl
         have l5 : L 5 = true := hL.need 5 (by kernel_rfl)
         have e5 := q1 5 _ rfl l5
         simp only [e5]
         go_simp
         exact gr_val (HI.out _ _ _ ⟨q0, kn_known q1 rfl⟩)
        refine gen_consR (fun vs L w1 hL hw1 => ?_) ?_
        ·obtain ⟨q0, q1⟩ := HO.out _ _ _ hw1
         have l4 : L 4 = true := hL.need 4 (by kernel_rfl)
         have e4 := q1 4 _ rfl l4
         refine gen_yes ?_ ?_
         ·simp only [e4]
          rfl
         have l6 : L 6 = true := hL.need 6 (by kernel_rfl)
         have e6 := q1 6 _ rfl l6
         simp only [e6]
         go_simp
         exact gr_val (HI.out _ _ _ ⟨q0, kn_known q1 rfl⟩)
        refine gen_consR (fun vs L w1 hL hw1 => ?_) ?_
        ·obtain ⟨q0, q1⟩ := HO.out _ _ _ hw1
         have l7 : L 7 = true := hL.need 7 (by kernel_rfl)
         have e7 := q1 7 _ rfl l7
         refine gen_no ?_ ?_
         ·simp only [e7]
          rfl
         ·exact HI.out _ _ _ ⟨q0, kn_free q1 rfl⟩
        refine gen_consR (fun vs L w1 hL hw1 => ?_) ?_
        ·obtain ⟨q0, q1⟩ := HO.out _ _ _ hw1
         have l7 : L 7 = true := hL.need 7 (by kernel_rfl)
         have e7 := q1 7 _ rfl l7
         refine gen_no ?_ ?_
         ·simp only [e7]
          rfl
         ·exact HI.out _ _ _ ⟨q0, kn_free q1 rfl⟩
        refine gen_consR (fun vs L w1 hL hw1 => ?_) ?_
        ·obtain ⟨q0, q1⟩ := HO.out _ _ _ hw1
         have l7 : L 7 = true := hL.need 7 (by kernel_rfl)
         have e7 := q1 7 _ rfl l7
         refine gen_no ?_ ?_
         ·simp only [e7]
          rfl
         ·exact HI.out _ _ _ ⟨q0, kn_free q1 rfl⟩
        refine gen_consR (fun vs L w1 hL hw1 => ?_) ?_
        ·obtain ⟨q0, q1⟩ := HO.out _ _ _ hw1
         have l7 : L 7 = true := hL.need 7 (by kernel_rfl)
         have e7 := q1 7 _ rfl l7
         refine gen_no ?_ ?_
         ·simp only [e7]
          rfl
         ·exact HI.out _ _ _ ⟨q0, kn_free q1 rfl⟩
        refine gen_consR (fun vs L w1 hL hw1 => ?_) ?_
        ·obtain ⟨q0, q1⟩ := HO.out _ _ _ hw1
         have l7 : L 7 = true := hL.need 7 (by kernel_rfl)
         have e7 := q1 7 _ rfl l7
         refine gen_no ?_ ?_
         ·simp only [e7]
          rfl
         ·exact HI.out _ _ _ ⟨q0, kn_free q1 rfl⟩
        refine gen_consR (fun vs L w1 hL hw1 => ?_) ?_
        ·obtain ⟨q0, q1⟩ := HO.out _ _ _ hw1
         have l7 : L 7 = true := hL.need 7 (by kernel_rfl)
         have e7 := q1 7 _ rfl l7
         refine gen_no ?_ ?_
         ·simp only [e7]
          rfl
         ·exact HI.out _ _ _ ⟨q0, kn_free q1 rfl⟩
        refine gen_consR (fun vs L w1 hL hw1 => ?_) ?_
        ·obtain ⟨q0, q1⟩ := HO.out _ _ _ hw1
         have l7 : L 7 = true := hL.need 7 (by kernel_rfl)
         have e7 := q1 7 _ rfl l7
         refine gen_no ?_ ?_
         ·simp only [e7]
          rfl
         ·exact HI.out _ _ _ ⟨q0, kn_free q1 rfl⟩
        refine gen_consR (fun vs L w1 hL hw1 => ?_) ?_
        ·obtain ⟨q0, q1⟩ := HO.out _ _ _ hw1
         have l7 : L 7 = true := hL.need 7 (by kernel_rfl)
         have e7 := q1 7 _ rfl l7
         refine gen_no ?_ ?_
         ·simp only [e7]
          rfl
         ·exact HI.out _ _ _ ⟨q0, kn_free q1 rfl⟩
        refine gen_consR (fun vs L w1 hL hw1 => ?_) ?_
        ·obtain ⟨q0, q1⟩ := HO.out _ _ _ hw1
         have l7 : L 7 = true := hL.need 7 (by kernel_rfl)
         have e7 := q1 7 _ rfl l7
         refine gen_no ?_ ?_
         ·simp only [e7]
          rfl
         ·exact HI.out _ _ _ ⟨q0, kn_free q1 rfl⟩
        refine gen_consR (fun vs L w1 hL hw1 => ?_) ?_
        ·obtain ⟨q0, q1⟩ := HO.out _ _ _ hw1
         have l4 : L 4 = true := hL.need 4 (by kernel_rfl)
         have e4 := q1 4 _ rfl l4
         refine gen_yes ?_ ?_
         ·simp only [e4]
          rfl
         have l7 : L 7 = true := hL.need 7 (by kernel_rfl)
         have e7 := q1 7 _ rfl l7
         simp only [e7]
         go_simp
         exact gr_val (HI.out _ _ _ ⟨q0, kn_known q1 rfl⟩)
        refine gen_consR (fun vs L w1 hL hw1 => ?_) ?_
        ·obtain ⟨q0, q1⟩ := HO.out _ _ _ hw1
         refine gen_plain rfl ?_
         have l4 : L 4 = true := hL.need 4 (by kernel_rfl)
         have e4 := q1 4 _ rfl l4
         have l17 : L 17 = true := hL.need 17 (by kernel_rfl)
         have e17 := q1 17 _ rfl l17
         simp only [e4, e17]
         go_simp
         exact gr_val (HI.out _ _ _ ⟨q0, kn_known q1 rfl⟩)
        refine gen_consR (fun vs L w1 hL hw1 => ?_) ?_
        ·obtain ⟨q0, q1⟩ := HO.out _ _ _ hw1
         refine gen_plain rfl ?_
         have l18 : L 18 = true := hL.need 18 (by kernel_rfl)
         have e18 := q1 18 _ rfl l18
         simp only [e18]
         go_simp
         exact gr_val (HI.out _ _ _ ⟨q0, kn_known q1 rfl⟩)
        refine gen_consR (fun vs L w1 hL hw1 => ?_) ?_
        ·obtain ⟨q0, q1⟩ := HO.out _ _ _ hw1
         have l19 : L 19 = true := hL.need 19 (by kernel_rfl)
         have e19 := q1 19 _ rfl l19
         refine gen_yes ?_ ?_
         ·simp only [e19]
          rfl
         have x := (k1.grows q0).cell 
         go_simp
         exact gr_val (HI.out _ _ _ ⟨q0, kn_known q1 rfl⟩)
        refine gen_consR (fun vs L w1 hL hw1 => ?_) ?_
        ·obtain ⟨q0, q1⟩ := HO.out _ _ _ hw1
         have l19 : L 19 = true := hL.need 19 (by kernel_rfl)
         have e19 := q1 19 _ rfl l19
         refine gen_yes ?_ ?_
         ·simp only [e19]
          rfl
         have x := (k6.grows q0).cell 
         go_simp
         exact gr_val (HI.out _ _ _ ⟨q0, kn_known q1 rfl⟩)
        refine gen_consR (fun vs L w1 hL hw1 => ?_) ?_
        ·obtain ⟨q0, q1⟩ := HO.out _ _ _ hw1
         have l19 : L 19 = true := hL.need 19 (by kernel_rfl)
         have e19 := q1 19 _ rfl l19
         refine gen_yes ?_ ?_
         ·simp only [e19]
          rfl
         go_simp
         exact gr_val (HI.out _ _ _ ⟨q0, kn_known q1 rfl⟩)
        refine gen_consR (fun vs L w1 hL hw1 => ?_) ?_
        ·obtain ⟨q0, q1⟩ := HO.out _ _ _ hw1
         have l19 : L 19 = true := hL.need 19 (by kernel_rfl)
         have e19 := q1 19 _ rfl l19
         refine gen_yes ?_ ?_
         ·simp only [e19]
          rfl
         have l22 : L 22 = true := hL.need 22 (by kernel_rfl)
         have e22 := q1 22 _ rfl l22
         have x := (k1.grows q0).cell 1
         simp only [e22]
         go_simp
         exact gr_val (HI.out _ _ _ ⟨q0, kn_known q1 rfl⟩)
        refine gen_consR (fun vs L w1 hL hw1 => ?_) ?_
        ·obtain ⟨q0, q1⟩ := HO.out _ _ _ hw1
         have l19 : L 19 = true := hL.need 19 (by kernel_rfl)
         have e19 := q1 19 _ rfl l19
         refine gen_yes ?_ ?_
         ·simp only [e19]
          rfl
         go_simp
         exact gr_val (HI.out _ _ _ ⟨q0, kn_known q1 rfl⟩)
        refine gen_consR (fun vs L w1 hL hw1 => ?_) ?_
        ·obtain ⟨q0, q1⟩ := HO.out _ _ _ hw1
         have l19 : L 19 = true := hL.need 19 (by kernel_rfl)
         have e19 := q1 19 _ rfl l19
         refine gen_yes ?_ ?_
         ·simp only [e19]
          rfl
         have l23 : L 23 = true := hL.need 23 (by kernel_rfl)
         have e23 := q1 23 _ rfl l23
         have l24 : L 24 = true := hL.need 24 (by kernel_rfl)
         have e24 := q1 24 _ rfl l24
         simp only [e23, e24]
         go_simp
         exact gr_val (HI.out _ _ _ ⟨q0, kn_known q1 rfl⟩)
        refine gen_consR (fun vs L w1 hL hw1 => ?_) ?_
        ·obtain ⟨q0, q1⟩ := HO.out _ _ _ hw1
         have l19 : L 19 = true := hL.need 19 (by kernel_rfl)
         have e19 := q1 19 _ rfl l19
         refine gen_yes ?_ ?_
         ·simp only [e19]
          rfl
         have l20 : L 20 = true := hL.need 20 (by kernel_rfl)
         have e20 := q1 20 _ rfl l20
         have l21 : L 21 = true := hL.need 21 (by kernel_rfl)
         have e21 := q1 21 _ rfl l21
         have l25 : L 25 = true := hL.need 25 (by kernel_rfl)
         have e25 := q1 25 _ rfl l25
         simp only [e20, e21, e25]
         go_simp
         refine gr_call ?_
         refine (crowd_is A (some ad) (some ad) c c2 c2 ls.length k ns (ls.take k) l true w1 (h.grows (below_grows hB (Nat.le_refl _) q0)) hl (qs_take (h2.grows (below_grows hB (Nat.le_refl _) q0)) k hk) HT.out.1 HT.out.2 HC.out).mono ?_
         rintro e w2 ⟨rfl, hg⟩
         exact ⟨_, rfl, HI.out _ _ _ ⟨below_grows q0 (Nat.le_refl _) hg, kn_known q1 rfl⟩⟩
        refine gen_consR (fun vs L w1 hL hw1 => ?_) ?_
        ·obtain ⟨q0, q1⟩ := HO.out _ _ _ hw1
         refine gen_plain rfl ?_
         have l19 : L 19 = true := hL.need 19 (by kernel_rfl)
         have e19 := q1 19 _ rfl l19
         have l26 : L 26 = true := hL.need 26 (by kernel_rfl)
         have e26 := q1 26 _ rfl l26
         simp only [e19, e26]
         go_simp
         exact gr_val (HI.out _ _ _ ⟨q0, kn_known q1 rfl⟩)
        refine gen_nil ?_
        intro vs L W6 hall hS
        obtain ⟨hq, q1⟩ := HO.out _ _ _ hS
        have eX27 := q1 27 _ rfl (hall 27 (by simp))
        clear hall hS HI HO q1
        simp only [eX27]
        go_wp2
        go_ret
        refine ⟨ret_bool ?_, below_grows hB (Nat.le_refl _) hq⟩
        exact (valid_no2 hlt HF2.out).symm
      ·obtain ⟨kp, hkp⟩ : ∃ kp, k = kp + 1 := ⟨k - 1, by omega⟩
       have hkl : kp < ls.length := by omega
       have hkc : k ≤ c2 := by omega
       have hk9 : decide (0 < k) = true := by simp; omega
       have hw : Hid ((k : Int) - 1 = (kp : Int)) := Lib.hid (by omega)
       have hw2 : Hid (IntKind.i64.wrap (kp : Int) = (kp : Int)) := Lib.hid (IntWalk.i64_in _ (by omega))
       have hw3 : Hid (k - 1 = kp) := Lib.hid (by omega)
       have hw4 : Hid ((k == 0) = false) := Lib.hid (by simp; omega)
       have HKP := Lib.hid hkp
       obtain ⟨ad', p, e, -, hp0, hp⟩ := h2.addr (k := kp) (by omega)
       injection e with e
       subst e
       clear hkp hk0
       have HP := Lib.hid hp0
       clear hp0
       cases hls : lessL p l
       ·have HS := Lib.hid hls
        clear hls
        have HF2 : Hid (stepK ns ls k = false) := Lib.hid (by rw [stepK_at HX.out, hw3.out, getD_at HP.out, HS.out, hw4.out]; simp)
        obtain ⟨S, HI, HO⟩ := hideS fun (L : Ran) (vs : Nat → Value) (w' : World) => Grows w7 w' ∧ KnS [some (.agg #[.slice A ns.length c, .slice (some ad) ls.length c2]), some (.agg #[.int .i64 l.a, .int .i64 l.b, .int .i64 l.c, .int .i64 l.d]), some (.bool true), some (.bool false), some (.bool false), some (.int .i64 (k : Int)), some (.bool true), some (.bool true), some (.pointer (some ⟨w.heap.size, 1, none⟩)), some (.slice (some ad) ls.length c2), some (.int .i64 (k : Int)), some (.int .i64 (kp : Int)), some (.pointer (some (ad.add (kp * 4)))), some (.agg #[.int .i64 p.a, .int .i64 p.b, .int .i64 p.c, .int .i64 p.d]), some (.agg #[.int .i64 l.a, .int .i64 l.b, .int .i64 l.c, .int .i64 l.d]), some (.bool false), some (.bool true), some (.bool true), some (.bool true), some (.bool true), none, none, none, none, none, none, none, some (.bool true)] L vs
        refine wp_region_genW S 89 (by kernel_rfl) (by kernel_rfl) rfl ?_ ?_
        ·exact HI.out _ _ _ ⟨Grows.drew' _, kn_none _ _⟩
        refine gen_consR (fun vs L w1 hL hw1 => ?_) ?_
        ·obtain ⟨q0, q1⟩ := HO.out _ _ _ hw1
         refine gen_plain rfl ?_
         have x := (k1.grows q0).cell 
         go_simp
         exact gr_val (HI.out _ _ _ ⟨q0, kn_known q1 rfl⟩)
        refine gen_consR (fun vs L w1 hL hw1 => ?_) ?_
        ·obtain ⟨q0, q1⟩ := HO.out _ _ _ hw1
         refine gen_plain rfl ?_
         have x := (k6.grows q0).cell 
         go_simp
         exact gr_val (HI.out _ _ _ ⟨q0, kn_known q1 rfl⟩)
        refine gen_consR (fun vs L w1 hL hw1 => ?_) ?_
        ·obtain ⟨q0, q1⟩ := HO.out _ _ _ hw1
         refine gen_plain rfl ?_
         have l0 : L 0 = true := hL.need 0 (by kernel_rfl)
         have e0 := q1 0 _ rfl l0
         have l1 : L 1 = true := hL.need 1 (by kernel_rfl)
         have e1 := q1 1 _ rfl l1
         simp only [e0, e1]
         go_simp
         refine gr_call ?_
         refine (ports_is A (some ad) c c2 ls.length ns l true w1 (h.grows (below_grows hB (Nat.le_refl _) q0)) hl HE.out).mono ?_
         rintro e w2 ⟨rfl, hg⟩
         exact ⟨_, rfl, HI.out _ _ _ ⟨below_grows q0 (Nat.le_refl _) hg, kn_known q1 rfl⟩⟩
        refine gen_consR (fun vs L w1 hL hw1 => ?_) ?_
        ·obtain ⟨q0, q1⟩ := HO.out _ _ _ hw1
         refine gen_plain rfl ?_
         have l2 : L 2 = true := hL.need 2 (by kernel_rfl)
         have e2 := q1 2 _ rfl l2
         simp only [e2]
         go_simp
         exact gr_val (HI.out _ _ _ ⟨q0, kn_known q1 rfl⟩)
        refine gen_consR (fun vs L w1 hL hw1 => ?_) ?_
        ·obtain ⟨q0, q1⟩ := HO.out _ _ _ hw1
         refine gen_plain rfl ?_
         have l3 : L 3 = true := hL.need 3 (by kernel_rfl)
         have e3 := q1 3 _ rfl l3
         simp only [e3]
         go_simp
         exact gr_val (HI.out _ _ _ ⟨q0, kn_known q1 rfl⟩)
        refine gen_consR (fun vs L w1 hL hw1 => ?_) ?_
        ·obtain ⟨q0, q1⟩ := HO.out _ _ _ hw1
         have l4 : L 4 = true := hL.need 4 (by kernel_rfl)
         have e4 := q1 4 _ rfl l4
         refine gen_yes ?_ ?_
         ·simp only [e4]
          rfl
         go_simp
         exact gr_val (HI.out _ _ _ ⟨q0, kn_known q1 rfl⟩)
        refine gen_consR (fun vs L w1 hL hw1 => ?_) ?_
        ·obtain ⟨q0, q1⟩ := HO.out _ _ _ hw1
         have l4 : L 4 = true := hL.need 4 (by kernel_rfl)
         have e4 := q1 4 _ rfl l4
         refine gen_yes ?_ ?_
         ·simp only [e4]
          rfl
         have l5 : L 5 = true := hL.need 5 (by kernel_rfl)
         have e5 := q1 5 _ rfl l5
         simp only [e5]
         go_simp
         exact gr_val (HI.out _ _ _ ⟨q0, kn_known q1 rfl⟩)
        refine gen_consR (fun vs L w1 hL hw1 => ?_) ?_
        ·obtain ⟨q0, q1⟩ := HO.out _ _ _ hw1
         have l4 : L 4 = true := hL.need 4 (by kernel_rfl)
         have e4 := q1 4 _ rfl l4
         refine gen_yes ?_ ?_
         ·simp only [e4]
          rfl
         have l6 : L 6 = true := hL.need 6 (by kernel_rfl)
         have e6 := q1 6 _ rfl l6
         simp only [e6]
         go_simp
         exact gr_val (HI.out _ _ _ ⟨q0, kn_known q1 rfl⟩)
        refine gen_consR (fun vs L w1 hL hw1 => ?_) ?_
        ·obtain ⟨q0, q1⟩ := HO.out _ _ _ hw1
         have l7 : L 7 = true := hL.need 7 (by kernel_rfl)
         have e7 := q1 7 _ rfl l7
         refine gen_yes ?_ ?_
         ·simp only [e7]
          rfl
         go_simp
         exact gr_val (HI.out _ _ _ ⟨q0, kn_known q1 rfl⟩)
        refine gen_consR (fun vs L w1 hL hw1 => ?_) ?_
        ·obtain ⟨q0, q1⟩ := HO.out _ _ _ hw1
         have l7 : L 7 = true := hL.need 7 (by kernel_rfl)
         have e7 := q1 7 _ rfl l7
         refine gen_yes ?_ ?_
         ·simp only [e7]
          rfl
         have l8 : L 8 = true := hL.need 8 (by kernel_rfl)
         have e8 := q1 8 _ rfl l8
         have x := (k1.grows q0).cell 1
         simp only [e8]
         go_simp
         exact gr_val (HI.out _ _ _ ⟨q0, kn_known q1 rfl⟩)
        refine gen_consR (fun vs L w1 hL hw1 => ?_) ?_
        ·obtain ⟨q0, q1⟩ := HO.out _ _ _ hw1
         have l7 : L 7 = true := hL.need 7 (by kernel_rfl)
         have e7 := q1 7 _ rfl l7
         refine gen_yes ?_ ?_
         ·simp only [e7]
          rfl
         go_simp
         exact gr_val (HI.out _ _ _ ⟨q0, kn_known q1 rfl⟩)
        refine gen_consR (fun vs L w1 hL hw1 => ?_) ?_
        ·obtain ⟨q0, q1⟩ := HO.out _ _ _ hw1
         have l7 : L 7 = true := hL.need 7 (by kernel_rfl)
         have e7 := q1 7 _ rfl l7
         refine gen_yes ?_ ?_
         ·simp only [e7]
          rfl
         have l10 : L 10 = true := hL.need 10 (by kernel_rfl)
         have e10 := q1 10 _ rfl l10
         simp only [e10]
         go_simp
         try simp only [hw.out]
         try simp only [hw2.out]
         exact gr_val (HI.out _ _ _ ⟨q0, kn_known q1 rfl⟩)
        refine gen_consR (fun vs L w1 hL hw1 => ?_) ?_
        ·obtain ⟨q0, q1⟩ := HO.out _ _ _ hw1
         have l7 : L 7 = true := hL.need 7 (by kernel_rfl)
         have e7 := q1 7 _ rfl l7
         refine gen_yes ?_ ?_
         ·simp only [e7]
          rfl
         have l9 : L 9 = true := hL.need 9 (by kernel_rfl)
         have e9 := q1 9 _ rfl l9
         have l11 : L 11 = true := hL.need 11 (by kernel_rfl)
         have e11 := q1 11 _ rfl l11
         simp only [e9, e11]
         go_simp
         exact gr_val (HI.out _ _ _ ⟨q0, kn_known q1 rfl⟩)
        refine gen_consR (fun vs L w1 hL hw1 => ?_) ?_
        ·obtain ⟨q0, q1⟩ := HO.out _ _ _ hw1
         have l7 : L 7 = true := hL.need 7 (by kernel_rfl)
         have e7 := q1 7 _ rfl l7
         refine gen_yes ?_ ?_
         ·simp only [e7]
          rfl
         have l12 : L 12 = true := hL.need 12 (by kernel_rfl)
         have e12 := q1 12 _ rfl l12
         simp only [e12]
         obtain ⟨y0, y1, y2, y3⟩ := hp _ (below_grows hB (Nat.le_refl _) q0)
         go_simp
         exact gr_val (HI.out _ _ _ ⟨q0, kn_known q1 rfl⟩)
        refine gen_consR (fun vs L w1 hL hw1 => ?_) ?_
        ·obtain ⟨q0, q1⟩ := HO.out _ _ _ hw1
         have l7 : L 7 = true := hL.need 7 (by kernel_rfl)
         have e7 := q1 7 _ rfl l7
         refine gen_yes ?_ ?_
         ·simp only [e7]
          rfl
         have x := (k6.grows q0).cell 
         go_simp
         exact gr_val (HI.out _ _ _ ⟨q0, kn_known q1 rfl⟩)
        refine gen_consR (fun vs L w1 hL hw1 => ?_) ?_
        ·obtain ⟨q0, q1⟩ := HO.out _ _ _ hw1
         have l7 : L 7 = true := hL.need 7 (by kernel_rfl)
         have e7 := q1 7 _ rfl l7
         refine gen_yes ?_ ?_
         ·simp only [e7]
          rfl
         have l13 : L 13 = true := hL.need 13 (by kernel_rfl)
         have e13 := q1 13 _ rfl l13
         have l14 : L 14 = true := hL.need 14 (by kernel_rfl)
         have e14 := q1 14 _ rfl l14
         simp only [e13, e14]
         go_simp
         refine gr_call ?_
         refine (less_is p l false w1 HS.out).mono ?_
         rintro e w2 ⟨rfl, hg⟩
         exact ⟨_, rfl, HI.out _ _ _ ⟨below_grows q0 (Nat.le_refl _) hg, kn_known q1 rfl⟩⟩
        refine gen_consR (fun vs L w1 hL hw1 => ?_) ?_
        ·obtain ⟨q0, q1⟩ := HO.out _ _ _ hw1
         have l7 : L 7 = true := hL.need 7 (by kernel_rfl)
         have e7 := q1 7 _ rfl l7
         refine gen_yes ?_ ?_
         ·simp only [e7]
          rfl
         have l15 : L 15 = true := hL.need 15 (by kernel_rfl)
         have e15 := q1 15 _ rfl l15
         simp only [e15]
         go_simp
         exact gr_val (HI.out _ _ _ ⟨q0, kn_known q1 rfl⟩)
        refine gen_consR (fun vs L w1 hL hw1 => ?_) ?_
        ·obtain ⟨q0, q1⟩ := HO.out _ _ _ hw1
         have l4 : L 4 = true := hL.need 4 (by kernel_rfl)
         have e4 := q1 4 _ rfl l4
         refine gen_yes ?_ ?_
         ·simp only [e4]
          rfl
         have l7 : L 7 = true := hL.need 7 (by kernel_rfl)
         have e7 := q1 7 _ rfl l7
         have l16 : L 16 = true := hL.need 16 (by kernel_rfl)
         have e16 := q1 16 _ rfl l16
         simp only [e7, e16]
         go_simp
         exact gr_val (HI.out _ _ _ ⟨q0, kn_known q1 rfl⟩)
        refine gen_consR (fun vs L w1 hL hw1 => ?_) ?_
        ·obtain ⟨q0, q1⟩ := HO.out _ _ _ hw1
         refine gen_plain rfl ?_
         have l4 : L 4 = true := hL.need 4 (by kernel_rfl)
         have e4 := q1 4 _ rfl l4
         have l17 : L 17 = true := hL.need 17 (by kernel_rfl)
         have e17 := q1 17 _ rfl l17
         simp only [e4, e17]
         go_simp
         exact gr_val (HI.out _ _ _ ⟨q0, kn_known q1 rfl⟩)
        refine gen_consR (fun vs L w1 hL hw1 => ?_) ?_
        ·obtain ⟨q0, q1⟩ := HO.out _ _ _ hw1
         refine gen_plain rfl ?_
         have l18 : L 18 = true := hL.need 18 (by kernel_rfl)
         have e18 := q1 18 _ rfl l18
         simp only [e18]
         go_simp
         exact gr_val (HI.out _ _ _ ⟨q0, kn_known q1 rfl⟩)
        refine gen_consR (fun vs L w1 hL hw1 => ?_) ?_
        ·obtain ⟨q0, q1⟩ := HO.out _ _ _ hw1
         have l19 : L 19 = true := hL.need 19 (by kernel_rfl)
         have e19 := q1 19 _ rfl l19
         refine gen_no ?_ ?_
         ·simp only [e19]
          rfl
         ·exact HI.out _ _ _ ⟨q0, kn_free q1 rfl⟩
        refine gen_consR (fun vs L w1 hL hw1 => ?_) ?_
        ·obtain ⟨q0, q1⟩ := HO.out _ _ _ hw1
         have l19 : L 19 = true := hL.need 19 (by kernel_rfl)
         have e19 := q1 19 _ rfl l19
         refine gen_no ?_ ?_
         ·simp only [e19]
          rfl
         ·exact HI.out _ _ _ ⟨q0, kn_free q1 rfl⟩
        refine gen_consR (fun vs L w1 hL hw1 => ?_) ?_
        ·obtain ⟨q0, q1⟩ := HO.out _ _ _ hw1
         have l19 : L 19 = true := hL.need 19 (by kernel_rfl)
         have e19 := q1 19 _ rfl l19
         refine gen_no ?_ ?_
         ·simp only [e19]
          rfl
         ·exact HI.out _ _ _ ⟨q0, kn_free q1 rfl⟩
        refine gen_consR (fun vs L w1 hL hw1 => ?_) ?_
        ·obtain ⟨q0, q1⟩ := HO.out _ _ _ hw1
         have l19 : L 19 = true := hL.need 19 (by kernel_rfl)
         have e19 := q1 19 _ rfl l19
         refine gen_no ?_ ?_
         ·simp only [e19]
          rfl
         ·exact HI.out _ _ _ ⟨q0, kn_free q1 rfl⟩
        refine gen_consR (fun vs L w1 hL hw1 => ?_) ?_
        ·obtain ⟨q0, q1⟩ := HO.out _ _ _ hw1
         have l19 : L 19 = true := hL.need 19 (by kernel_rfl)
         have e19 := q1 19 _ rfl l19
         refine gen_no ?_ ?_
         ·simp only [e19]
          rfl
         ·exact HI.out _ _ _ ⟨q0, kn_free q1 rfl⟩
        refine gen_consR (fun vs L w1 hL hw1 => ?_) ?_
        ·obtain ⟨q0, q1⟩ := HO.out _ _ _ hw1
         have l19 : L 19 = true := hL.need 19 (by kernel_rfl)
         have e19 := q1 19 _ rfl l19
         refine gen_no ?_ ?_
         ·simp only [e19]
          rfl
         ·exact HI.out _ _ _ ⟨q0, kn_free q1 rfl⟩
        refine gen_consR (fun vs L w1 hL hw1 => ?_) ?_
        ·obtain ⟨q0, q1⟩ := HO.out _ _ _ hw1
         have l19 : L 19 = true := hL.need 19 (by kernel_rfl)
         have e19 := q1 19 _ rfl l19
         refine gen_no ?_ ?_
         ·simp only [e19]
          rfl
         ·exact HI.out _ _ _ ⟨q0, kn_free q1 rfl⟩
        refine gen_consR (fun vs L w1 hL hw1 => ?_) ?_
        ·obtain ⟨q0, q1⟩ := HO.out _ _ _ hw1
         refine gen_plain rfl ?_
         have l19 : L 19 = true := hL.need 19 (by kernel_rfl)
         have e19 := q1 19 _ rfl l19
         simp only [e19]
         go_simp
         exact gr_val (HI.out _ _ _ ⟨q0, kn_known q1 rfl⟩)
        refine gen_nil ?_
        intro vs L W6 hall hS
        obtain ⟨hq, q1⟩ := HO.out _ _ _ hS
        have eX27 := q1 27 _ rfl (hall 27 (by simp))
        clear hall hS HI HO q1
        simp only [eX27]
        go_wp2
        go_ret
        refine ⟨ret_bool ?_, below_grows hB (Nat.le_refl _) hq⟩
        exact (valid_no2 hlt HF2.out).symm
       ·have HS := Lib.hid hls
        clear hls
        cases cb
        ·have HA2 := Lib.hid (range_all_up HA.out (by rw [stepK_at HX.out, HE.out, HC.out, hw3.out, getD_at HP.out, HS.out]; simp))
         obtain ⟨S, HI, HO⟩ := hideS fun (L : Ran) (vs : Nat → Value) (w' : World) => Grows w7 w' ∧ KnS [some (.agg #[.slice A ns.length c, .slice (some ad) ls.length c2]), some (.agg #[.int .i64 l.a, .int .i64 l.b, .int .i64 l.c, .int .i64 l.d]), some (.bool true), some (.bool false), some (.bool false), some (.int .i64 (k : Int)), some (.bool true), some (.bool true), some (.pointer (some ⟨w.heap.size, 1, none⟩)), some (.slice (some ad) ls.length c2), some (.int .i64 (k : Int)), some (.int .i64 (kp : Int)), some (.pointer (some (ad.add (kp * 4)))), some (.agg #[.int .i64 p.a, .int .i64 p.b, .int .i64 p.c, .int .i64 p.d]), some (.agg #[.int .i64 l.a, .int .i64 l.b, .int .i64 l.c, .int .i64 l.d]), some (.bool true), some (.bool false), some (.bool false), some (.bool false), some (.bool false), some (.agg #[.slice A ns.length c, .slice (some ad) ls.length c2]), some (.agg #[.int .i64 l.a, .int .i64 l.b, .int .i64 l.c, .int .i64 l.d]), some (.pointer (some ⟨w.heap.size, 1, none⟩)), some (.slice (some ad) ls.length c2), some (.int .i64 (k : Int)), some (.slice (some ad) k c2), some (.bool false), some (.bool false)] L vs
         refine wp_region_genW S 89 (by kernel_rfl) (by kernel_rfl) rfl ?_ ?_
         ·exact HI.out _ _ _ ⟨Grows.drew' _, kn_none _ _⟩
         refine gen_consR (fun vs L w1 hL hw1 => ?_) ?_
         ·obtain ⟨q0, q1⟩ := HO.out _ _ _ hw1
          refine gen_plain rfl ?_
          have x := (k1.grows q0).cell 
          go_simp
          exact gr_val (HI.out _ _ _ ⟨q0, kn_known q1 rfl⟩)
         refine gen_consR (fun vs L w1 hL hw1 => ?_) ?_
         ·obtain ⟨q0, q1⟩ := HO.out _ _ _ hw1
          refine gen_plain rfl ?_
          have x := (k6.grows q0).cell 
          go_simp
          exact gr_val (HI.out _ _ _ ⟨q0, kn_known q1 rfl⟩)
         refine gen_consR (fun vs L w1 hL hw1 => ?_) ?_
         ·obtain ⟨q0, q1⟩ := HO.out _ _ _ hw1
          refine gen_plain rfl ?_
          have l0 : L 0 = true := hL.need 0 (by kernel_rfl)
          have e0 := q1 0 _ rfl l0
          have l1 : L 1 = true := hL.need 1 (by kernel_rfl)
          have e1 := q1 1 _ rfl l1
          simp only [e0, e1]
          go_simp
          refine gr_call ?_
          refine (ports_is A (some ad) c c2 ls.length ns l true w1 (h.grows (below_grows hB (Nat.le_refl _) q0)) hl HE.out).mono ?_
          rintro e w2 ⟨rfl, hg⟩
          exact ⟨_, rfl, HI.out _ _ _ ⟨below_grows q0 (Nat.le_refl _) hg, kn_known q1 rfl⟩⟩
         refine gen_consR (fun vs L w1 hL hw1 => ?_) ?_
         ·obtain ⟨q0, q1⟩ := HO.out _ _ _ hw1
          refine gen_plain rfl ?_
          have l2 : L 2 = true := hL.need 2 (by kernel_rfl)
          have e2 := q1 2 _ rfl l2
          simp only [e2]
          go_simp
          exact gr_val (HI.out _ _ _ ⟨q0, kn_known q1 rfl⟩)
         refine gen_consR (fun vs L w1 hL hw1 => ?_) ?_
         ·obtain ⟨q0, q1⟩ := HO.out _ _ _ hw1
          refine gen_plain rfl ?_
          have l3 : L 3 = true := hL.need 3 (by kernel_rfl)
          have e3 := q1 3 _ rfl l3
          simp only [e3]
          go_simp
          exact gr_val (HI.out _ _ _ ⟨q0, kn_known q1 rfl⟩)
         refine gen_consR (fun vs L w1 hL hw1 => ?_) ?_
         ·obtain ⟨q0, q1⟩ := HO.out _ _ _ hw1
          have l4 : L 4 = true := hL.need 4 (by kernel_rfl)
          have e4 := q1 4 _ rfl l4
          refine gen_yes ?_ ?_
          ·simp only [e4]
           rfl
          go_simp
          exact gr_val (HI.out _ _ _ ⟨q0, kn_known q1 rfl⟩)
         refine gen_consR (fun vs L w1 hL hw1 => ?_) ?_
         ·obtain ⟨q0, q1⟩ := HO.out _ _ _ hw1
          have l4 : L 4 = true := hL.need 4 (by kernel_rfl)
          have e4 := q1 4 _ rfl l4
          refine gen_yes ?_ ?_
          ·simp only [e4]
           rfl
          have l5 : L 5 = true := hL.need 5 (by kernel_rfl)
          have e5 := q1 5 _ rfl l5
          simp only [e5]
          go_simp
          exact gr_val (HI.out _ _ _ ⟨q0, kn_known q1 rfl⟩)
         refine gen_consR (fun vs L w1 hL hw1 => ?_) ?_
         ·obtain ⟨q0, q1⟩ := HO.out _ _ _ hw1
          have l4 : L 4 = true := hL.need 4 (by kernel_rfl)
          have e4 := q1 4 _ rfl l4
          refine gen_yes ?_ ?_
          ·simp only [e4]
           rfl
          have l6 : L 6 = true := hL.need 6 (by kernel_rfl)
          have e6 := q1 6 _ rfl l6
          simp only [e6]
          go_simp
          exact gr_val (HI.out _ _ _ ⟨q0, kn_known q1 rfl⟩)
         refine gen_consR (fun vs L w1 hL hw1 => ?_) ?_
         ·obtain ⟨q0, q1⟩ := HO.out _ _ _ hw1
          have l7 : L 7 = true := hL.need 7 (by kernel_rfl)
          have e7 := q1 7 _ rfl l7
          refine gen_yes ?_ ?_
          ·simp only [e7]
           rfl
          go_simp
          exact gr_val (HI.out _ _ _ ⟨q0, kn_known q1 rfl⟩)
         refine gen_consR (fun vs L w1 hL hw1 => ?_) ?_
         ·obtain ⟨q0, q1⟩ := HO.out _ _ _ hw1
          have l7 : L 7 = true := hL.need 7 (by kernel_rfl)
          have e7 := q1 7 _ rfl l7
          refine gen_yes ?_ ?_
          ·simp only [e7]
           rfl
          have l8 : L 8 = true := hL.need 8 (by kernel_rfl)
          have e8 := q1 8 _ rfl l8
          have x := (k1.grows q0).cell 1
          simp only [e8]
          go_simp
          exact gr_val (HI.out _ _ _ ⟨q0, kn_known q1 rfl⟩)
         refine gen_consR (fun vs L w1 hL hw1 => ?_) ?_
         ·obtain ⟨q0, q1⟩ := HO.out _ _ _ hw1
          have l7 : L 7 = true := hL.need 7 (by kernel_rfl)
          have e7 := q1 7 _ rfl l7
          refine gen_yes ?_ ?_
          ·simp only [e7]
           rfl
          go_simp
          exact gr_val (HI.out _ _ _ ⟨q0, kn_known q1 rfl⟩)
         refine gen_consR (fun vs L w1 hL hw1 => ?_) ?_
         ·obtain ⟨q0, q1⟩ := HO.out _ _ _ hw1
          have l7 : L 7 = true := hL.need 7 (by kernel_rfl)
          have e7 := q1 7 _ rfl l7
          refine gen_yes ?_ ?_
          ·simp only [e7]
           rfl
          have l10 : L 10 = true := hL.need 10 (by kernel_rfl)
          have e10 := q1 10 _ rfl l10
          simp only [e10]
          go_simp
          try simp only [hw.out]
          try simp only [hw2.out]
          exact gr_val (HI.out _ _ _ ⟨q0, kn_known q1 rfl⟩)
         refine gen_consR (fun vs L w1 hL hw1 => ?_) ?_
         ·obtain ⟨q0, q1⟩ := HO.out _ _ _ hw1
          have l7 : L 7 = true := hL.need 7 (by kernel_rfl)
          have e7 := q1 7 _ rfl l7
          refine gen_yes ?_ ?_
          ·simp only [e7]
           rfl
          have l9 : L 9 = true := hL.need 9 (by kernel_rfl)
          have e9 := q1 9 _ rfl l9
          have l11 : L 11 = true := hL.need 11 (by kernel_rfl)
          have e11 := q1 11 _ rfl l11
          simp only [e9, e11]
          go_simp
          exact gr_val (HI.out _ _ _ ⟨q0, kn_known q1 rfl⟩)
         refine gen_consR (fun vs L w1 hL hw1 => ?_) ?_
         ·obtain ⟨q0, q1⟩ := HO.out _ _ _ hw1
          have l7 : L 7 = true := hL.need 7 (by kernel_rfl)
          have e7 := q1 7 _ rfl l7
          refine gen_yes ?_ ?_
          ·simp only [e7]
           rfl
          have l12 : L 12 = true := hL.need 12 (by kernel_rfl)
          have e12 := q1 12 _ rfl l12
          simp only [e12]
          obtain ⟨y0, y1, y2, y3⟩ := hp _ (below_grows hB (Nat.le_refl _) q0)
          go_simp
          exact gr_val (HI.out _ _ _ ⟨q0, kn_known q1 rfl⟩)
         refine gen_consR (fun vs L w1 hL hw1 => ?_) ?_
         ·obtain ⟨q0, q1⟩ := HO.out _ _ _ hw1
          have l7 : L 7 = true := hL.need 7 (by kernel_rfl)
          have e7 := q1 7 _ rfl l7
          refine gen_yes ?_ ?_
          ·simp only [e7]
           rfl
          have x := (k6.grows q0).cell 
          go_simp
          exact gr_val (HI.out _ _ _ ⟨q0, kn_known q1 rfl⟩)
         refine gen_consR (fun vs L w1 hL hw1 => ?_) ?_
         ·obtain ⟨q0, q1⟩ := HO.out _ _ _ hw1
          have l7 : L 7 = true := hL.need 7 (by kernel_rfl)
          have e7 := q1 7 _ rfl l7
          refine gen_yes ?_ ?_
          ·simp only [e7]
           rfl
          have l13 : L 13 = true := hL.need 13 (by kernel_rfl)
          have e13 := q1 13 _ rfl l13
          have l14 : L 14 = true := hL.need 14 (by kernel_rfl)
          have e14 := q1 14 _ rfl l14
          simp only [e13, e14]
          go_simp
          refine gr_call ?_
          refine (less_is p l true w1 HS.out).mono ?_
          rintro e w2 ⟨rfl, hg⟩
          exact ⟨_, rfl, HI.out _ _ _ ⟨below_grows q0 (Nat.le_refl _) hg, kn_known q1 rfl⟩⟩
         refine gen_consR (fun vs L w1 hL hw1 => ?_) ?_
         ·obtain ⟨q0, q1⟩ := HO.out _ _ _ hw1
          have l7 : L 7 = true := hL.need 7 (by kernel_rfl)
          have e7 := q1 7 _ rfl l7
          refine gen_yes ?_ ?_
          ·simp only [e7]
           rfl
          have l15 : L 15 = true := hL.need 15 (by kernel_rfl)
          have e15 := q1 15 _ rfl l15
          simp only [e15]
          go_simp
          exact gr_val (HI.out _ _ _ ⟨q0, kn_known q1 rfl⟩)
         refine gen_consR (fun vs L w1 hL hw1 => ?_) ?_
         ·obtain ⟨q0, q1⟩ := HO.out _ _ _ hw1
          have l4 : L 4 = true := hL.need 4 (by kernel_rfl)
          have e4 := q1 4 _ rfl l4
          refine gen_yes ?_ ?_
          ·simp only [e4]
           rfl
          have l7 : L 7 = true := hL.need 7 (by kernel_rfl)
          have e7 := q1 7 _ rfl l7
          have l16 : L 16 = true := hL.need 16 (by kernel_rfl)
          have e16 := q1 16 _ rfl l16
          simp only [e7, e16]
          go_simp
          exact gr_val (HI.out _ _ _ ⟨q0, kn_known q1 rfl⟩)
         refine gen_consR (fun vs L w1 hL hw1 => ?_) ?_
         ·obtain ⟨q0, q1⟩ := HO.out _ _ _ hw1
          refine gen_plain rfl ?_
          have l4 : L 4 = true := hL.need 4 (by kernel_rfl)
          have e4 := q1 4 _ rfl l4
          have l17 : L 17 = true := hL.need 17 (by kernel_rfl)
          have e17 := q1 17 _ rfl l17
          simp only [e4, e17]
          go_simp
          exact gr_val (HI.out _ _ _ ⟨q0, kn_known q1 rfl⟩)
         refine gen_consR (fun vs L w1 hL hw1 => ?_) ?_
         ·obtain ⟨q0, q1⟩ := HO.out _ _ _ hw1
          refine gen_plain rfl ?_
          have l18 : L 18 = true := hL.need 18 (by kernel_rfl)
          have e18 := q1 18 _ rfl l18
          simp only [e18]
          go_simp
          exact gr_val (HI.out _ _ _ ⟨q0, kn_known q1 rfl⟩)
         refine gen_consR (fun vs L w1 hL hw1 => ?_) ?_
         ·obtain ⟨q0, q1⟩ := HO.out _ _ _ hw1
          have l19 : L 19 = true := hL.need 19 (by kernel_rfl)
          have e19 := q1 19 _ rfl l19
          refine gen_yes ?_ ?_
          ·simp only [e19]
           rfl
          have x := (k1.grows q0).cell 
          go_simp
          exact gr_val (HI.out _ _ _ ⟨q0, kn_known q1 rfl⟩)
         refine gen_consR (fun vs L w1 hL hw1 => ?_) ?_
         ·obtain ⟨q0, q1⟩ := HO.out _ _ _ hw1
          have l19 : L 19 = true := hL.need 19 (by kernel_rfl)
          have e19 := q1 19 _ rfl l19
          refine gen_yes ?_ ?_
          ·simp only [e19]
           rfl
          have x := (k6.grows q0).cell 
          go_simp
          exact gr_val (HI.out _ _ _ ⟨q0, kn_known q1 rfl⟩)
         refine gen_consR (fun vs L w1 hL hw1 => ?_) ?_
         ·obtain ⟨q0, q1⟩ := HO.out _ _ _ hw1
          have l19 : L 19 = true := hL.need 19 (by kernel_rfl)
          have e19 := q1 19 _ rfl l19
          refine gen_yes ?_ ?_
          ·simp only [e19]
           rfl
          go_simp
          exact gr_val (HI.out _ _ _ ⟨q0, kn_known q1 rfl⟩)
         refine gen_consR (fun vs L w1 hL hw1 => ?_) ?_
         ·obtain ⟨q0, q1⟩ := HO.out _ _ _ hw1
          have l19 : L 19 = true := hL.need 19 (by kernel_rfl)
          have e19 := q1 19 _ rfl l19
          refine gen_yes ?_ ?_
          ·simp only [e19]
           rfl
          have l22 : L 22 = true := hL.need 22 (by kernel_rfl)
          have e22 := q1 22 _ rfl l22
          have x := (k1.grows q0).cell 1
          simp only [e22]
          go_simp
          exact gr_val (HI.out _ _ _ ⟨q0, kn_known q1 rfl⟩)
         refine gen_consR (fun vs L w1 hL hw1 => ?_) ?_
         ·obtain ⟨q0, q1⟩ := HO.out _ _ _ hw1
          have l19 : L 19 = true := hL.need 19 (by kernel_rfl)
          have e19 := q1 19 _ rfl l19
          refine gen_yes ?_ ?_
          ·simp only [e19]
           rfl
          go_simp
          exact gr_val (HI.out _ _ _ ⟨q0, kn_known q1 rfl⟩)
         refine gen_consR (fun vs L w1 hL hw1 => ?_) ?_
         ·obtain ⟨q0, q1⟩ := HO.out _ _ _ hw1
          have l19 : L 19 = true := hL.need 19 (by kernel_rfl)
          have e19 := q1 19 _ rfl l19
          refine gen_yes ?_ ?_
          ·simp only [e19]
           rfl
          have l23 : L 23 = true := hL.need 23 (by kernel_rfl)
          have e23 := q1 23 _ rfl l23
          have l24 : L 24 = true := hL.need 24 (by kernel_rfl)
          have e24 := q1 24 _ rfl l24
          simp only [e23, e24]
          go_simp
          exact gr_val (HI.out _ _ _ ⟨q0, kn_known q1 rfl⟩)
         refine gen_consR (fun vs L w1 hL hw1 => ?_) ?_
         ·obtain ⟨q0, q1⟩ := HO.out _ _ _ hw1
          have l19 : L 19 = true := hL.need 19 (by kernel_rfl)
          have e19 := q1 19 _ rfl l19
          refine gen_yes ?_ ?_
          ·simp only [e19]
           rfl
          have l20 : L 20 = true := hL.need 20 (by kernel_rfl)
          have e20 := q1 20 _ rfl l20
          have l21 : L 21 = true := hL.need 21 (by kernel_rfl)
          have e21 := q1 21 _ rfl l21
          have l25 : L 25 = true := hL.need 25 (by kernel_rfl)
          have e25 := q1 25 _ rfl l25
          simp only [e20, e21, e25]
          go_simp
          refine gr_call ?_
          refine (crowd_is A (some ad) (some ad) c c2 c2 ls.length k ns (ls.take k) l false w1 (h.grows (below_grows hB (Nat.le_refl _) q0)) hl (qs_take (h2.grows (below_grows hB (Nat.le_refl _) q0)) k hk) HT.out.1 HT.out.2 HC.out).mono ?_
          rintro e w2 ⟨rfl, hg⟩
          exact ⟨_, rfl, HI.out _ _ _ ⟨below_grows q0 (Nat.le_refl _) hg, kn_known q1 rfl⟩⟩
         refine gen_consR (fun vs L w1 hL hw1 => ?_) ?_
         ·obtain ⟨q0, q1⟩ := HO.out _ _ _ hw1
          refine gen_plain rfl ?_
          have l19 : L 19 = true := hL.need 19 (by kernel_rfl)
          have e19 := q1 19 _ rfl l19
          have l26 : L 26 = true := hL.need 26 (by kernel_rfl)
          have e26 := q1 26 _ rfl l26
          simp only [e19, e26]
          go_simp
          exact gr_val (HI.out _ _ _ ⟨q0, kn_known q1 rfl⟩)
         refine gen_nil ?_
         intro vs L W6 hall hS
         obtain ⟨hq, q1⟩ := HO.out _ _ _ hS
         have eX27 := q1 27 _ rfl (hall 27 (by simp))
         clear hall hS HI HO q1
         simp only [eX27]
         go_wp2
         go_roundw
         case rel => exact ⟨k + 1, by omega, by go_num, HA2, below_grows hB (Nat.le_refl _) hq, k1.grows hq⟩
         case measure => simp [intOf]; omega
        ·have HF2 : Hid (stepK ns ls k = false) := Lib.hid (by rw [stepK_at HX.out, HC.out]; simp)
         obtain ⟨S, HI, HO⟩ := hideS fun (L : Ran) (vs : Nat → Value) (w' : World) => Grows w7 w' ∧ KnS [some (.agg #[.slice A ns.length c, .slice (some ad) ls.length c2]), some (.agg #[.int .i64 l.a, .int .i64 l.b, .int .i64 l.c, .int .i64 l.d]), some (.bool true), some (.bool false), some (.bool false), some (.int .i64 (k : Int)), some (.bool true), some (.bool true), some (.pointer (some ⟨w.heap.size, 1, none⟩)), some (.slice (some ad) ls.length c2), some (.int .i64 (k : Int)), some (.int .i64 (kp : Int)), some (.pointer (some (ad.add (kp * 4)))), some (.agg #[.int .i64 p.a, .int .i64 p.b, .int .i64 p.c, .int .i64 p.d]), some (.agg #[.int .i64 l.a, .int .i64 l.b, .int .i64 l.c, .int .i64 l.d]), some (.bool true), some (.bool false), some (.bool false), some (.bool false), some (.bool false), some (.agg #[.slice A ns.length c, .slice (some ad) ls.length c2]), some (.agg #[.int .i64 l.a, .int .i64 l.b, .int .i64 l.c, .int .i64 l.d]), some (.pointer (some ⟨w.heap.size, 1, none⟩)), some (.slice (some ad) ls.length c2), some (.int .i64 (k : Int)), some (.slice (some ad) k c2), some (.bool true), some (.bool true)] L vs
         refine wp_region_genW S 89 (by kernel_rfl) (by kernel_rfl) rfl ?_ ?_
         ·exact HI.out _ _ _ ⟨Grows.drew' _, kn_none _ _⟩
         refine gen_consR (fun vs L w1 hL hw1 => ?_) ?_
         ·obtain ⟨q0, q1⟩ := HO.out _ _ _ hw1
          refine gen_plain rfl ?_
          have x := (k1.grows q0).cell 
          go_simp
          exact gr_val (HI.out _ _ _ ⟨q0, kn_known q1 rfl⟩)
         refine gen_consR (fun vs L w1 hL hw1 => ?_) ?_
         ·obtain ⟨q0, q1⟩ := HO.out _ _ _ hw1
          refine gen_plain rfl ?_
          have x := (k6.grows q0).cell 
          go_simp
          exact gr_val (HI.out _ _ _ ⟨q0, kn_known q1 rfl⟩)
         refine gen_consR (fun vs L w1 hL hw1 => ?_) ?_
         ·obtain ⟨q0, q1⟩ := HO.out _ _ _ hw1
          refine gen_plain rfl ?_
          have l0 : L 0 = true := hL.need 0 (by kernel_rfl)
          have e0 := q1 0 _ rfl l0
          have l1 : L 1 = true := hL.need 1 (by kernel_rfl)
          have e1 := q1 1 _ rfl l1
          simp only [e0, e1]
          go_simp
          refine gr_call ?_
          refine (ports_is A (some ad) c c2 ls.length ns l true w1 (h.grows (below_grows hB (Nat.le_refl _) q0)) hl HE.out).mono ?_
          rintro e w2 ⟨rfl, hg⟩
          exact ⟨_, rfl, HI.out _ _ _ ⟨below_grows q0 (Nat.le_refl _) hg, kn_known q1 rfl⟩⟩
         refine gen_consR (fun vs L w1 hL hw1 => ?_) ?_
         ·obtain ⟨q0, q1⟩ := HO.out _ _ _ hw1
          refine gen_plain rfl ?_
          have l2 : L 2 = true := hL.need 2 (by kernel_rfl)
          have e2 := q1 2 _ rfl l2
          simp only [e2]
          go_simp
          exact gr_val (HI.out _ _ _ ⟨q0, kn_known q1 rfl⟩)
         refine gen_consR (fun vs L w1 hL hw1 => ?_) ?_
         ·obtain ⟨q0, q1⟩ := HO.out _ _ _ hw1
          refine gen_plain rfl ?_
          have l3 : L 3 = true := hL.need 3 (by kernel_rfl)
          have e3 := q1 3 _ rfl l3
          simp only [e3]
          go_simp
          exact gr_val (HI.out _ _ _ ⟨q0, kn_known q1 rfl⟩)
         refine gen_consR (fun vs L w1 hL hw1 => ?_) ?_
         ·obtain ⟨q0, q1⟩ := HO.out _ _ _ hw1
          have l4 : L 4 = true := hL.need 4 (by kernel_rfl)
          have e4 := q1 4 _ rfl l4
          refine gen_yes ?_ ?_
          ·simp only [e4]
           rfl
          go_simp
          exact gr_val (HI.out _ _ _ ⟨q0, kn_known q1 rfl⟩)
         refine gen_consR (fun vs L w1 hL hw1 => ?_) ?_
         ·obtain ⟨q0, q1⟩ := HO.out _ _ _ hw1
          have l4 : L 4 = true := hL.need 4 (by kernel_rfl)
          have e4 := q1 4 _ rfl l4
          refine gen_yes ?_ ?_
          ·simp only [e4]
           rfl
          have l5 : L 5 = true := hL.need 5 (by kernel_rfl)
          have e5 := q1 5 _ rfl l5
          simp only [e5]
          go_simp
          exact gr_val (HI.out _ _ _ ⟨q0, kn_known q1 rfl⟩)
         refine gen_consR (fun vs L w1 hL hw1 => ?_) ?_
         ·obtain ⟨q0, q1⟩ := HO.out _ _ _ hw1
          have l4 : L 4 = true := hL.need 4 (by kernel_rfl)
          have e4 := q1 4 _ rfl l4
          refine gen_yes ?_ ?_
          ·simp only [e4]
           rfl
          have l6 : L 6 = true := hL.need 6 (by kernel_rfl)
          have e6 := q1 6 _ rfl l6
          simp only [e6]
          go_simp
          exact gr_val (HI.out _ _ _ ⟨q0, kn_known q1 rfl⟩)
         refine gen_consR (fun vs L w1 hL hw1 => ?_) ?_
         ·obtain ⟨q0, q1⟩ := HO.out _ _ _ hw1
          have l7 : L 7 = true := hL.need 7 (by kernel_rfl)
          have e7 := q1 7 _ rfl l7
          refine gen_yes ?_ ?_
          ·simp only [e7]
           rfl
          go_simp
          exact gr_val (HI.out _ _ _ ⟨q0, kn_known q1 rfl⟩)
         refine gen_consR (fun vs L w1 hL hw1 => ?_) ?_
         ·obtain ⟨q0, q1⟩ := HO.out _ _ _ hw1
          have l7 : L 7 = true := hL.need 7 (by kernel_rfl)
          have e7 := q1 7 _ rfl l7
          refine gen_yes ?_ ?_
          ·simp only [e7]
           rfl
          have l8 : L 8 = true := hL.need 8 (by kernel_rfl)
          have e8 := q1 8 _ rfl l8
          have x := (k1.grows q0).cell 1
          simp only [e8]
          go_simp
          exact gr_val (HI.out _ _ _ ⟨q0, kn_known q1 rfl⟩)
         refine gen_consR (fun vs L w1 hL hw1 => ?_) ?_
         ·obtain ⟨q0, q1⟩ := HO.out _ _ _ hw1
          have l7 : L 7 = true := hL.need 7 (by kernel_rfl)
          have e7 := q1 7 _ rfl l7
          refine gen_yes ?_ ?_
          ·simp only [e7]
           rfl
          go_simp
          exact gr_val (HI.out _ _ _ ⟨q0, kn_known q1 rfl⟩)
         refine gen_consR (fun vs L w1 hL hw1 => ?_) ?_
         ·obtain ⟨q0, q1⟩ := HO.out _ _ _ hw1
          have l7 : L 7 = true := hL.need 7 (by kernel_rfl)
          have e7 := q1 7 _ rfl l7
          refine gen_yes ?_ ?_
          ·simp only [e7]
           rfl
          have l10 : L 10 = true := hL.need 10 (by kernel_rfl)
          have e10 := q1 10 _ rfl l10
          simp only [e10]
          go_simp
          try simp only [hw.out]
          try simp only [hw2.out]
          exact gr_val (HI.out _ _ _ ⟨q0, kn_known q1 rfl⟩)
         refine gen_consR (fun vs L w1 hL hw1 => ?_) ?_
         ·obtain ⟨q0, q1⟩ := HO.out _ _ _ hw1
          have l7 : L 7 = true := hL.need 7 (by kernel_rfl)
          have e7 := q1 7 _ rfl l7
          refine gen_yes ?_ ?_
          ·simp only [e7]
           rfl
          have l9 : L 9 = true := hL.need 9 (by kernel_rfl)
          have e9 := q1 9 _ rfl l9
          have l11 : L 11 = true := hL.need 11 (by kernel_rfl)
          have e11 := q1 11 _ rfl l11
          simp only [e9, e11]
          go_simp
          exact gr_val (HI.out _ _ _ ⟨q0, kn_known q1 rfl⟩)
         refine gen_consR (fun vs L w1 hL hw1 => ?_) ?_
         ·obtain ⟨q0, q1⟩ := HO.out _ _ _ hw1
          have l7 : L 7 = true := hL.need 7 (by kernel_rfl)
          have e7 := q1 7 _ rfl l7
          refine gen_yes ?_ ?_
          ·simp only [e7]
           rfl
          have l12 : L 12 = true := hL.need 12 (by kernel_rfl)
          have e12 := q1 12 _ rfl l12
          simp only [e12]
          obtain ⟨y0, y1, y2, y3⟩ := hp _ (below_grows hB (Nat.le_refl _) q0)
          go_simp
          exact gr_val (HI.out _ _ _ ⟨q0, kn_known q1 rfl⟩)
         refine gen_consR (fun vs L w1 hL hw1 => ?_) ?_
         ·obtain ⟨q0, q1⟩ := HO.out _ _ _ hw1
          have l7 : L 7 = true := hL.need 7 (by kernel_rfl)
          have e7 := q1 7 _ rfl l7
          refine gen_yes ?_ ?_
          ·simp only [e7]
           rfl
          have x := (k6.grows q0).cell 
          go_simp
          exact gr_val (HI.out _ _ _ ⟨q0, kn_known q1 rfl⟩)
         refine gen_consR (fun vs L w1 hL hw1 => ?_) ?_
         ·obtain ⟨q0, q1⟩ := HO.out _ _ _ hw1
          have l7 : L 7 = true := hL.need 7 (by kernel_rfl)
          have e7 := q1 7 _ rfl l7
          refine gen_yes ?_ ?_
          ·simp only [e7]
           rfl
          have l13 : L 13 = true := hL.need 13 (by kernel_rfl)
          have e13 := q1 13 _ rfl l13
          have l14 : L 14 = true := hL.need 14 (by kernel_rfl)
          have e14 := q1 14 _ rfl l14
          simp only [e13, e14]
          go_simp
          refine gr_call ?_
          refine (less_is p l true w1 HS.out).mono ?_
          rintro e w2 ⟨rfl, hg⟩
          exact ⟨_, rfl, HI.out _ _ _ ⟨below_grows q0 (Nat.le_refl _) hg, kn_known q1 rfl⟩⟩
         refine gen_consR (fun vs L w1 hL hw1 => ?_) ?_
         ·obtain ⟨q0, q1⟩ := HO.out _ _ _ hw1
          have l7 : L 7 = true := hL.need 7 (by kernel_rfl)
          have e7 := q1 7 _ rfl l7
          refine gen_yes ?_ ?_
          ·simp only [e7]
           rfl
          have l15 : L 15 = true := hL.need 15 (by kernel_rfl)
          have e15 := q1 15 _ rfl l15
          simp only [e15]
          go_simp
          exact gr_val (HI.out _ _ _ ⟨q0, kn_known q1 rfl⟩)
         refine gen_consR (fun vs L w1 hL hw1 => ?_) ?_
         ·obtain ⟨q0, q1⟩ := HO.out _ _ _ hw1
          have l4 : L 4 = true := hL.need 4 (by kernel_rfl)
          have e4 := q1 4 _ rfl l4
          refine gen_yes ?_ ?_
          ·simp only [e4]
           rfl
          have l7 : L 7 = true := hL.need 7 (by kernel_rfl)
          have e7 := q1 7 _ rfl l7
          have l16 : L 16 = true := hL.need 16 (by kernel_rfl)
          have e16 := q1 16 _ rfl l16
          simp only [e7, e16]
          go_simp
          exact gr_val (HI.out _ _ _ ⟨q0, kn_known q1 rfl⟩)
         refine gen_consR (fun vs L w1 hL hw1 => ?_) ?_
         ·obtain ⟨q0, q1⟩ := HO.out _ _ _ hw1
          refine gen_plain rfl ?_
          have l4 : L 4 = true := hL.need 4 (by kernel_rfl)
          have e4 := q1 4 _ rfl l4
          have l17 : L 17 = true := hL.need 17 (by kernel_rfl)
          have e17 := q1 17 _ rfl l17
          simp only [e4, e17]
          go_simp
          exact gr_val (HI.out _ _ _ ⟨q0, kn_known q1 rfl⟩)
         refine gen_consR (fun vs L w1 hL hw1 => ?_) ?_
         ·obtain ⟨q0, q1⟩ := HO.out _ _ _ hw1
          refine gen_plain rfl ?_
          have l18 : L 18 = true := hL.need 18 (by kernel_rfl)
          have e18 := q1 18 _ rfl l18
          simp only [e18]
          go_simp
          exact gr_val (HI.out _ _ _ ⟨q0, kn_known q1 rfl⟩)
         refine gen_consR (fun vs L w1 hL hw1 => ?_) ?_
         ·obtain ⟨q0, q1⟩ := HO.out _ _ _ hw1
          have l19 : L 19 = true := hL.need 19 (by kernel_rfl)
          have e19 := q1 19 _ rfl l19
          refine gen_yes ?_ ?_
          ·simp only [e19]
           rfl
          have x := (k1.grows q0).cell 
          go_simp
          exact gr_val (HI.out _ _ _ ⟨q0, kn_known q1 rfl⟩)
         refine gen_consR (fun vs L w1 hL hw1 => ?_) ?_
         ·obtain ⟨q0, q1⟩ := HO.out _ _ _ hw1
          have l19 : L 19 = true := hL.need 19 (by kernel_rfl)
          have e19 := q1 19 _ rfl l19
          refine gen_yes ?_ ?_
          ·simp only [e19]
           rfl
          have x := (k6.grows q0).cell 
          go_simp
          exact gr_val (HI.out _ _ _ ⟨q0, kn_known q1 rfl⟩)
         refine gen_consR (fun vs L w1 hL hw1 => ?_) ?_
         ·obtain ⟨q0, q1⟩ := HO.out _ _ _ hw1
          have l19 : L 19 = true := hL.need 19 (by kernel_rfl)
          have e19 := q1 19 _ rfl l19
          refine gen_yes ?_ ?_
          ·simp only [e19]
           rfl
          go_simp
          exact gr_val (HI.out _ _ _ ⟨q0, kn_known q1 rfl⟩)
         refine gen_consR (fun vs L w1 hL hw1 => ?_) ?_
         ·obtain ⟨q0, q1⟩ := HO.out _ _ _ hw1
          have l19 : L 19 = true := hL.need 19 (by kernel_rfl)
          have e19 := q1 19 _ rfl l19
          refine gen_yes ?_ ?_
          ·simp only [e19]
           rfl
          have l22 : L 22 = true := hL.need 22 (by kernel_rfl)
          have e22 := q1 22 _ rfl l22
          have x := (k1.grows q0).cell 1
          simp only [e22]
          go_simp
          exact gr_val (HI.out _ _ _ ⟨q0, kn_known q1 rfl⟩)
         refine gen_consR (fun vs L w1 hL hw1 => ?_) ?_
         ·obtain ⟨q0, q1⟩ := HO.out _ _ _ hw1
          have l19 : L 19 = true := hL.need 19 (by kernel_rfl)
          have e19 := q1 19 _ rfl l19
          refine gen_yes ?_ ?_
          ·simp only [e19]
           rfl
          go_simp
          exact gr_val (HI.out _ _ _ ⟨q0, kn_known q1 rfl⟩)
         refine gen_consR (fun vs L w1 hL hw1 => ?_) ?_
         ·obtain ⟨q0, q1⟩ := HO.out _ _ _ hw1
          have l19 : L 19 = true := hL.need 19 (by kernel_rfl)
          have e19 := q1 19 _ rfl l19
          refine gen_yes ?_ ?_
          ·simp only [e19]
           rfl
          have l23 : L 23 = true := hL.need 23 (by kernel_rfl)
          have e23 := q1 23 _ rfl l23
          have l24 : L 24 = true := hL.need 24 (by kernel_rfl)
          have e24 := q1 24 _ rfl l24
          simp only [e23, e24]
          go_simp
          exact gr_val (HI.out _ _ _ ⟨q0, kn_known q1 rfl⟩)
         refine gen_consR (fun vs L w1 hL hw1 => ?_) ?_
         ·obtain ⟨q0, q1⟩ := HO.out _ _ _ hw1
          have l19 : L 19 = true := hL.need 19 (by kernel_rfl)
          have e19 := q1 19 _ rfl l19
          refine gen_yes ?_ ?_
          ·simp only [e19]
           rfl
          have l20 : L 20 = true := hL.need 20 (by kernel_rfl)
          have e20 := q1 20 _ rfl l20
          have l21 : L 21 = true := hL.need 21 (by kernel_rfl)
          have e21 := q1 21 _ rfl l21
          have l25 : L 25 = true := hL.need 25 (by kernel_rfl)
          have e25 := q1 25 _ rfl l25
          simp only [e20, e21, e25]
          go_simp
          refine gr_call ?_
          refine (crowd_is A (some ad) (some ad) c c2 c2 ls.length k ns (ls.take k) l true w1 (h.grows (below_grows hB (Nat.le_refl _) q0)) hl (qs_take (h2.grows (below_grows hB (Nat.le_refl _) q0)) k hk) HT.out.1 HT.out.2 HC.out).mono ?_
          rintro e w2 ⟨rfl, hg⟩
          exact ⟨_, rfl, HI.out _ _ _ ⟨below_grows q0 (Nat.le_refl _) hg, kn_known q1 rfl⟩⟩
         refine gen_consR (fun vs L w1 hL hw1 => ?_) ?_
         ·obtain ⟨q0, q1⟩ := HO.out _ _ _ hw1
          refine gen_plain rfl ?_
          have l19 : L 19 = true := hL.need 19 (by kernel_rfl)
          have e19 := q1 19 _ rfl l19
          have l26 : L 26 = true := hL.need 26 (by kernel_rfl)
          have e26 := q1 26 _ rfl l26
          simp only [e19, e26]
          go_simp
          exact gr_val (HI.out _ _ _ ⟨q0, kn_known q1 rfl⟩)
         refine gen_nil ?_
         intro vs L W6 hall hS
         obtain ⟨hq, q1⟩ := HO.out _ _ _ hS
         have eX27 := q1 27 _ rfl (hall 27 (by simp))
         clear hall hS HI HO q1
         simp only [eX27]
         go_wp2
         go_ret
         refine ⟨ret_bool ?_, below_grows hB (Nat.le_refl _) hq⟩
         exact (valid_no2 hlt HF2.out).symm
    ·have HK : Hid (okK ns ls = true) := Lib.hid (by have := HA.out; rwa [show k = ls.length by omega] at this)
     obtain ⟨m, hm⟩ : ∃ m, (orderL ns ls).length = m := ⟨_, rfl⟩
     have HM := Lib.hid hm
     clear hm HA
     have hl3 : ns.length ≤ 100000 := by omega
     go_upto_region 15 with fail
     generalize wr = w8 at *
     cases hb : (m == ns.length)
     ·have HV : Hid (validG ns ls = false) := Lib.hid (by unfold validG; rw [HM.out]; simp only [Bool.and_eq_false_iff, decide_eq_false_iff_not]; exact .inr (by simpa using hb))
      have hb2 : decide (m = ns.length) = false := by simpa using hb
      have hb3 : ¬ m = ns.length := by simpa using hb
      have hb4 : ((m : Int) == (ns.length : Int)) = false := by
       simp only [beq_eq_false_iff_ne, ne_eq]
       omega
      obtain ⟨S, HI, HO⟩ := hideS fun (L : Ran) (vs : Nat → Value) (w' : World) => Grows w8 w' ∧ KnS [some (.agg #[.slice A ns.length c, .slice A2 ls.length c2]), none, some (.int .i64 (m : Int)), some (.pointer (some ⟨w.heap.size, 0, none⟩)), some (.slice A ns.length c), some (.int .i64 (ns.length : Int)), some (.bool false), some (.bool false)] L vs ∧ DsS [none, some (gLen m), none, none, none, none, none, none] L vs w'
      refine wp_region_genW S 89 (by kernel_rfl) (by kernel_rfl) rfl ?_ ?_
      ·exact HI.out _ _ _ ⟨Grows.drew' _, kn_none _ _, ds_none _ _ _⟩
      refine gen_consR (fun vs L w1 hL hw1 => ?_) ?_
      ·obtain ⟨q0, q1, q2⟩ := HO.out _ _ _ hw1
       refine gen_plain rfl ?_
       have x := (k1.grows q0).cell 
       go_simp
       exact gr_val (HI.out _ _ _ ⟨q0, kn_known q1 rfl, ds_free q2 rfl⟩)
      refine gen_consR (fun vs L w1 hL hw1 => ?_) ?_
      ·obtain ⟨q0, q1, q2⟩ := HO.out _ _ _ hw1
       refine gen_plain rfl ?_
       have l0 : L 0 = true := hL.need 0 (by kernel_rfl)
       have e0 := q1 0 _ rfl l0
       simp only [e0]
       go_simp
       refine gr_call ?_
       refine (order_len A A2 c c2 m ns ls w1 (h.grows (below_grows hB (Nat.le_refl _) q0)) hl3 (h2.grows (below_grows hB (Nat.le_refl _) q0)) hl2 (okN_ids HN.out) HM.out).mono ?_
       rintro e w2 ⟨⟨v, rfl, hv⟩, hg⟩
       exact ⟨_, rfl, HI.out _ _ _ ⟨below_grows q0 (Nat.le_refl _) hg, kn_free q1 rfl, ds_put (q2.grows hg) rfl (hv)⟩⟩
      refine gen_consR (fun vs L w1 hL hw1 => ?_) ?_
      ·obtain ⟨q0, q1, q2⟩ := HO.out _ _ _ hw1
       refine gen_plain rfl ?_
       have l1 : L 1 = true := hL.need 1 (by kernel_rfl)
       obtain ⟨A1, c1, e1⟩ := q2 1 _ rfl l1
       simp only [e1]
       go_simp
       exact gr_val (HI.out _ _ _ ⟨q0, kn_known q1 rfl, ds_free q2 rfl⟩)
      refine gen_consR (fun vs L w1 hL hw1 => ?_) ?_
      ·obtain ⟨q0, q1, q2⟩ := HO.out _ _ _ hw1
       refine gen_plain rfl ?_
       go_simp
       exact gr_val (HI.out _ _ _ ⟨q0, kn_known q1 rfl, ds_free q2 rfl⟩)
      refine gen_consR (fun vs L w1 hL hw1 => ?_) ?_
      ·obtain ⟨q0, q1, q2⟩ := HO.out _ _ _ hw1
       refine gen_plain rfl ?_
       have l3 : L 3 = true := hL.need 3 (by kernel_rfl)
       have e3 := q1 3 _ rfl l3
       have x := (k1.grows q0).cell 0
       simp only [e3]
       go_simp
       exact gr_val (HI.out _ _ _ ⟨q0, kn_known q1 rfl, ds_free q2 rfl⟩)
      refine gen_consR (fun vs L w1 hL hw1 => ?_) ?_
      ·obtain ⟨q0, q1, q2⟩ := HO.out _ _ _ hw1
       refine gen_plain rfl ?_
       have l4 : L 4 = true := hL.need 4 (by kernel_rfl)
       have e4 := q1 4 _ rfl l4
       simp only [e4]
       go_simp
       exact gr_val (HI.out _ _ _ ⟨q0, kn_known q1 rfl, ds_free q2 rfl⟩)
      refine gen_consR (fun vs L w1 hL hw1 => ?_) ?_
      ·obtain ⟨q0, q1, q2⟩ := HO.out _ _ _ hw1
       refine gen_plain rfl ?_
       have l2 : L 2 = true := hL.need 2 (by kernel_rfl)
       have e2 := q1 2 _ rfl l2
       have l5 : L 5 = true := hL.need 5 (by kernel_rfl)
       have e5 := q1 5 _ rfl l5
       simp only [e2, e5]
       go_simp
       exact gr_val (HI.out _ _ _ ⟨q0, kn_known q1 rfl, ds_free q2 rfl⟩)
      refine gen_consR (fun vs L w1 hL hw1 => ?_) ?_
      ·obtain ⟨q0, q1, q2⟩ := HO.out _ _ _ hw1
       refine gen_plain rfl ?_
       have l6 : L 6 = true := hL.need 6 (by kernel_rfl)
       have e6 := q1 6 _ rfl l6
       simp only [e6]
       go_simp
       exact gr_val (HI.out _ _ _ ⟨q0, kn_known q1 rfl, ds_free q2 rfl⟩)
      refine gen_nil ?_
      intro vs L W6 hall hS
      obtain ⟨hq, q1, q2⟩ := HO.out _ _ _ hS
      have eX7 := q1 7 _ rfl (hall 7 (by simp))
      clear hall hS HI HO q1 q2
      simp only [eX7]
      go_wp2
      go_ret
      refine ⟨ret_bool ?_, below_grows hB (Nat.le_refl _) hq⟩
      exact HV.out.symm
     ·have HV : Hid (validG ns ls = true) := Lib.hid (by unfold validG; rw [HM.out, HN.out, HK.out]; simp only [Bool.and_eq_true, decide_eq_true_eq, and_true]; exact ⟨⟨n1, n2⟩, by simpa using hb⟩)
      have hb3 : m = ns.length := by simpa using hb
      subst hb3
      clear hb
      obtain ⟨S, HI, HO⟩ := hideS fun (L : Ran) (vs : Nat → Value) (w' : World) => Grows w8 w' ∧ KnS [some (.agg #[.slice A ns.length c, .slice A2 ls.length c2]), none, some (.int .i64 (ns.length : Int)), some (.pointer (some ⟨w.heap.size, 0, none⟩)), some (.slice A ns.length c), some (.int .i64 (ns.length : Int)), some (.bool true), some (.bool true)] L vs ∧ DsS [none, some (gLen ns.length), none, none, none, none, none, none] L vs w'
      refine wp_region_genW S 89 (by kernel_rfl) (by kernel_rfl) rfl ?_ ?_
      ·exact HI.out _ _ _ ⟨Grows.drew' _, kn_none _ _, ds_none _ _ _⟩
      refine gen_consR (fun vs L w1 hL hw1 => ?_) ?_
      ·obtain ⟨q0, q1, q2⟩ := HO.out _ _ _ hw1
       refine gen_plain rfl ?_
       have x := (k1.grows q0).cell 
       go_simp
       exact gr_val (HI.out _ _ _ ⟨q0, kn_known q1 rfl, ds_free q2 rfl⟩)
      refine gen_consR (fun vs L w1 hL hw1 => ?_) ?_
      ·obtain ⟨q0, q1, q2⟩ := HO.out _ _ _ hw1
       refine gen_plain rfl ?_
       have l0 : L 0 = true := hL.need 0 (by kernel_rfl)
       have e0 := q1 0 _ rfl l0
       simp only [e0]
       go_simp
       refine gr_call ?_
       refine (order_len A A2 c c2 ns.length ns ls w1 (h.grows (below_grows hB (Nat.le_refl _) q0)) hl3 (h2.grows (below_grows hB (Nat.le_refl _) q0)) hl2 (okN_ids HN.out) HM.out).mono ?_
       rintro e w2 ⟨⟨v, rfl, hv⟩, hg⟩
       exact ⟨_, rfl, HI.out _ _ _ ⟨below_grows q0 (Nat.le_refl _) hg, kn_free q1 rfl, ds_put (q2.grows hg) rfl (hv)⟩⟩
      refine gen_consR (fun vs L w1 hL hw1 => ?_) ?_
      ·obtain ⟨q0, q1, q2⟩ := HO.out _ _ _ hw1
       refine gen_plain rfl ?_
       have l1 : L 1 = true := hL.need 1 (by kernel_rfl)
       obtain ⟨A1, c1, e1⟩ := q2 1 _ rfl l1
       simp only [e1]
       go_simp
       exact gr_val (HI.out _ _ _ ⟨q0, kn_known q1 rfl, ds_free q2 rfl⟩)
      refine gen_consR (fun vs L w1 hL hw1 => ?_) ?_
      ·obtain ⟨q0, q1, q2⟩ := HO.out _ _ _ hw1
       refine gen_plain rfl ?_
       go_simp
       exact gr_val (HI.out _ _ _ ⟨q0, kn_known q1 rfl, ds_free q2 rfl⟩)
      refine gen_consR (fun vs L w1 hL hw1 => ?_) ?_
      ·obtain ⟨q0, q1, q2⟩ := HO.out _ _ _ hw1
       refine gen_plain rfl ?_
       have l3 : L 3 = true := hL.need 3 (by kernel_rfl)
       have e3 := q1 3 _ rfl l3
       have x := (k1.grows q0).cell 0
       simp only [e3]
       go_simp
       exact gr_val (HI.out _ _ _ ⟨q0, kn_known q1 rfl, ds_free q2 rfl⟩)
      refine gen_consR (fun vs L w1 hL hw1 => ?_) ?_
      ·obtain ⟨q0, q1, q2⟩ := HO.out _ _ _ hw1
       refine gen_plain rfl ?_
       have l4 : L 4 = true := hL.need 4 (by kernel_rfl)
       have e4 := q1 4 _ rfl l4
       simp only [e4]
       go_simp
       exact gr_val (HI.out _ _ _ ⟨q0, kn_known q1 rfl, ds_free q2 rfl⟩)
      refine gen_consR (fun vs L w1 hL hw1 => ?_) ?_
      ·obtain ⟨q0, q1, q2⟩ := HO.out _ _ _ hw1
       refine gen_plain rfl ?_
       have l2 : L 2 = true := hL.need 2 (by kernel_rfl)
       have e2 := q1 2 _ rfl l2
       have l5 : L 5 = true := hL.need 5 (by kernel_rfl)
       have e5 := q1 5 _ rfl l5
       simp only [e2, e5]
       go_simp
       exact gr_val (HI.out _ _ _ ⟨q0, kn_known q1 rfl, ds_free q2 rfl⟩)
      refine gen_consR (fun vs L w1 hL hw1 => ?_) ?_
      ·obtain ⟨q0, q1, q2⟩ := HO.out _ _ _ hw1
       refine gen_plain rfl ?_
       have l6 : L 6 = true := hL.need 6 (by kernel_rfl)
       have e6 := q1 6 _ rfl l6
       simp only [e6]
       go_simp
       exact gr_val (HI.out _ _ _ ⟨q0, kn_known q1 rfl, ds_free q2 rfl⟩)
      refine gen_nil ?_
      intro vs L W6 hall hS
      obtain ⟨hq, q1, q2⟩ := HO.out _ _ _ hS
      have eX7 := q1 7 _ rfl (hall 7 (by simp))
      clear hall hS HI HO q1 q2
      simp only [eX7]
      go_wp2
      go_ret
      refine ⟨ret_bool ?_, below_grows hB (Nat.le_refl _) hq⟩
      exact HV.out.symm
end Go.Proofs.Ytobhdldlhhigdaa

namespace Go.Proofs.Ytobhdldlhhigdaa
open Go.RowKit
def cmp3 (a b : Int) : Int := if a < b then -1 else if b < a then 1 else 0
def orI : List Int → Int
 | [] => 0
 | x :: l => if x = 0 then orI l else x
def cmpL (x l : Q4) : Int := orI [cmp3 x.a l.a, cmp3 x.b l.b, cmp3 x.c l.c, cmp3 x.d l.d]
set_option maxRecDepth 100000 in
theorem cmp_neg (a b : Int) (l : List Int) : orI (cmp3 a b :: l) < 0 ↔ a < b ∨ (a = b ∧ orI l < 0) := by
 unfold cmp3
 simp only [orI]
 by_cases h1 : a < b
 ·simp [h1]
 ·by_cases h2 : b < a
  ·simp [h1, h2]
   omega
  ·have : a = b := by omega
   subst this
   simp
set_option maxRecDepth 100000 in
theorem cmpL_less (x l : Q4) : cmpL x l < 0 ↔ lessL x l = true := by
 unfold cmpL
 rw [cmp_neg, cmp_neg, cmp_neg, cmp_neg]
 simp only [orI, lessL]
 split
 ·split
  ·split
   ·simp only [decide_eq_true_eq]; omega
   ·simp only [decide_eq_true_eq]; omega
  ·simp only [decide_eq_true_eq]; omega
 ·simp only [decide_eq_true_eq]; omega
set_option maxRecDepth 100000 in
theorem nan_i (a : Int) (w : World) : Calls Try.prog 61 #[.int .i64 a] w fun e w' => e = .returned (.bool false) ∧ w = w' := by
 go_enter Try.func61, Try.ntmps61
 go_wp2
 go_ret
 exact ⟨rfl, rfl⟩
set_option maxRecDepth 100000 in
theorem cmp_i (a b : Int) (w : World) : Calls Try.prog 39 #[.int .i64 a, .int .i64 b] w fun e w' => e = .returned (.int .i64 (cmp3 a b)) ∧ w = w' := by
 rcases Int.lt_trichotomy a b with h | h | h
 ·have HE : Hid (cmp3 a b = -1) := Lib.hid (by unfold cmp3; rw [if_pos h])
  go_enter Try.func39, Try.ntmps39
  go_wp2_with (go_at_call 61; refine (nan_i _ _).mono ?_; rintro e w' ⟨rfl, rfl⟩)
  go_ret
  exact ⟨by rw [HE.out]; rfl, rfl⟩
 ·subst h
  have HE : Hid (cmp3 a a = 0) := Lib.hid (by unfold cmp3; rw [if_neg (by omega), if_neg (by omega)])
  go_enter Try.func39, Try.ntmps39
  go_wp2_with (go_at_call 61; refine (nan_i _ _).mono ?_; rintro e w' ⟨rfl, rfl⟩)
  go_ret
  exact ⟨by rw [HE.out]; rfl, rfl⟩
 ·have HE : Hid (cmp3 a b = 1) := Lib.hid (by unfold cmp3; rw [if_neg (by omega), if_pos h])
  go_enter Try.func39, Try.ntmps39
  go_wp2_with (go_at_call 61; refine (nan_i _ _).mono ?_; rintro e w' ⟨rfl, rfl⟩)
  go_ret
  exact ⟨by rw [HE.out]; rfl, rfl⟩
set_option maxRecDepth 100000 in
theorem cmp_iD (a b : Int) (w : World) : Calls Try.prog 39 #[.int .i64 a, .int .i64 b] w fun e w' => e = .returned (.int .i64 (cmp3 a b)) ∧ Grows w w' := (cmp_i a b w).mono fun _ _ ⟨he, hw⟩ => ⟨he, hw ▸ Below.refl _ w⟩
set_option maxRecDepth 100000 in
theorem or_drop (l : List Int) (k : Nat) (h : ∀ j < k, l[j]? = some 0) : orI l = orI (l.drop k) := by
 induction k generalizing l with
 | zero => rfl
 | succ k ih =>
  cases l with
  | nil => rfl
  | cons x l =>
   have hx := h 0 (by omega)
   simp only [List.getElem?_cons_zero, Option.some.injEq] at hx
   subst hx
   simp only [orI, if_true, List.drop_succ_cons]
   exact ih l fun j hj => by have := h (j + 1) (by omega); simpa using this
set_option maxRecDepth 100000 in
theorem or_any (A : Option Addr) (c : Nat) (l : List Int) (w : World) (h : Reads w w.heap.size 1 A l.length (l.map (Value.int .i64))) (hl : l.length ≤ 9223372036854775807) :
 Calls Try.prog 72 #[.slice A l.length c] w fun e w' => e = .returned (.int .i64 (orI l)) ∧ w = w' := by
 go_enter Try.func72, Try.ntmps72
 go_wp2
 go_loop [8] (fun i => ∃ k : Nat, k ≤ l.length ∧ i = .int .i64 k ∧ ∀ j < k, l[j]? = some 0) (fun i => l.length - (intOf i).toNat)
 case atStart => exact ⟨0, Nat.zero_le _, rfl, fun j hj => by omega⟩
 case round =>
  obtain ⟨k, hk, rfl, hz⟩ := hrel
  have HO : Hid (orI l = orI (l.drop k)) := Lib.hid (or_drop l k hz)
  by_cases hlt : k < l.length
  ·obtain ⟨ad, u, rfl, -, hu, hc⟩ := h.at_ hlt
   rw [List.getElem?_map] at hu
   obtain ⟨x, hx, rfl⟩ := Option.map_eq_some_iff.1 hu
   have HX : Hid (l.drop k = x :: l.drop (k + 1)) := Lib.hid (by
    obtain ⟨hj2, hyy⟩ := List.getElem?_eq_some_iff.1 hx
    rw [← hyy]
    exact List.drop_eq_getElem_cons hj2)
   have HZ : Hid (∀ j < k, l[j]? = some 0) := Lib.hid hz
   have HXX : Hid (l[k]? = some x) := Lib.hid hx
   clear hu hx hz
   by_cases h0 : x = 0
   ·subst h0
    go_wp2
    go_round
    case rel => exact ⟨k + 1, by omega, by go_num, fun j hj => by
     rcases Nat.lt_succ_iff_lt_or_eq.1 hj with h | rfl
     ·exact HZ.out j h
     ·exact HXX.out⟩
    case measure => simp [intOf]; omega
   ·have hne : ¬ x = 0 := h0
    go_wp2
    go_ret
    exact ⟨by rw [HO.out, HX.out]; simp only [orI]; rw [if_neg h0] <;> rfl, rfl⟩
  ·have e0 : l.drop k = [] := List.drop_of_length_le (by omega)
   have HE : Hid (orI l = 0) := Lib.hid (by rw [HO.out, e0]; rfl)
   clear e0 hz HO
   go_wp2
   go_ret
   exact ⟨by rw [HE.out] <;> rfl, rfl⟩
/-- Some numbers in a new block. -/
def gInts (cs : Array Value) : GP := ⟨fun w v => ∃ g, v = .slice (some ⟨g, 0, none⟩) cs.size cs.size ∧ Blk w g 3 cs, fun _ _ _ ⟨g, e, h⟩ hg => ⟨g, e, h.grows hg⟩⟩
set_option maxRecDepth 100000 in
theorem or_four {g : Nat} {a b c d : Int} {w : World} (h : Blk w g 3 #[.int .i64 a, .int .i64 b, .int .i64 c, .int .i64 d]) :
 Calls Try.prog 72 #[.slice (some ⟨g, 0, none⟩) 4 4] w fun e' w' => e' = .returned (.int .i64 (orI [a, b, c, d])) ∧ Grows w w' := by
 have hr : Reads w w.heap.size 1 (some ⟨g, 0, none⟩) [a, b, c, d].length ([a, b, c, d].map (Value.int .i64)) := by
  refine ⟨rfl, fun _ => ⟨_, rfl, h.lt, fun j u hu => ?_⟩⟩
  have ha : (⟨g, 0, none⟩ : Addr).add j = ⟨g, j, none⟩ := by
   unfold Addr.add
   split
   ·simp_all
   ·simp
  rw [ha, h.cell]
  simpa using hu
 exact (or_any _ 4 _ w hr (by simp)).mono fun _ _ ⟨he, hw⟩ => ⟨he, hw ▸ Below.refl _ w⟩
set_option maxRecDepth 100000 in
set_option maxHeartbeats 4000000 in
theorem compare_any (x l : Q4) (w : World) :
 Calls Try.prog 66 #[.agg #[.int .i64 x.a, .int .i64 x.b, .int .i64 x.c, .int .i64 x.d], .agg #[.int .i64 l.a, .int .i64 l.b, .int .i64 l.c, .int .i64 l.d]] w fun e w' => e = .returned (.int .i64 (cmpL x l)) ∧ Grows w w' := by
 have k1 := (Blk.new w 49 #[.int .i64 x.a, .int .i64 x.b, .int .i64 x.c, .int .i64 x.d]).alloc (Obj.cells #[.int .i64 l.a, .int .i64 l.b, .int .i64 l.c, .int .i64 l.d] 49)
 have k2 := blk_new_at (X := w.alloc (Obj.cells #[.int .i64 x.a, .int .i64 x.b, .int .i64 x.c, .int .i64 x.d] 49)) (n := w.heap.size + 1) (t := 49) (cs := #[.int .i64 l.a, .int .i64 l.b, .int .i64 l.c, .int .i64 l.d]) (by simp)
 have hB := ((Below.refl w.heap.size w).alloc (Nat.le_refl _) (Obj.cells #[.int .i64 x.a, .int .i64 x.b, .int .i64 x.c, .int .i64 x.d] 49)).alloc (by simp) (Obj.cells #[.int .i64 l.a, .int .i64 l.b, .int .i64 l.c, .int .i64 l.d] 49)
 go_enter Try.func66, Try.ntmps66
 go_upto_region 1 with fail
 generalize World.alloc (World.alloc w _) _ = W1 at *
 generalize w.heap.size + 1 = G2 at *
 generalize hG1 : w.heap.size = G1 at *
 obtain ⟨S, HI, HO⟩ := hideS fun (L : Ran) (vs : Nat → Value) (w' : World) => Grows W1 w' ∧ KnS [some (.pointer (some ⟨G1, 0, none⟩)), some (.int .i64 x.a), some (.pointer (some ⟨G2, 0, none⟩)), some (.int .i64 l.a), some (.int .i64 (cmp3 x.a l.a)), some (.pointer (some ⟨G1, 1, none⟩)), some (.int .i64 x.b), some (.pointer (some ⟨G2, 1, none⟩)), some (.int .i64 l.b), some (.int .i64 (cmp3 x.b l.b)), some (.pointer (some ⟨G1, 2, none⟩)), some (.int .i64 x.c), some (.pointer (some ⟨G2, 2, none⟩)), some (.int .i64 l.c), some (.int .i64 (cmp3 x.c l.c)), some (.pointer (some ⟨G1, 3, none⟩)), some (.int .i64 x.d), some (.pointer (some ⟨G2, 3, none⟩)), some (.int .i64 l.d), some (.int .i64 (cmp3 x.d l.d)), none, some (.int .i64 (cmpL x l)), some (.int .i64 (cmpL x l))] L vs ∧ DsS [none, none, none, none, none, none, none, none, none, none, none, none, none, none, none, none, none, none, none, none, some (gInts #[.int .i64 (cmp3 x.a l.a), .int .i64 (cmp3 x.b l.b), .int .i64 (cmp3 x.c l.c), .int .i64 (cmp3 x.d l.d)]), none, none] L vs w'
 refine wp_region_genW S 27 (by kernel_rfl) (by kernel_rfl) rfl ?_ ?_
 ·exact HI.out _ _ _ ⟨Grows.drew' _, kn_none _ _, ds_none _ _ _⟩
 refine gen_consR (fun vs L w1 hL hw1 => ?_) ?_
 ·obtain ⟨q0, q1, q2⟩ := HO.out _ _ _ hw1
  refine gen_plain rfl ?_
  go_simp
  exact gr_val (HI.out _ _ _ ⟨q0, kn_known q1 rfl, ds_free q2 rfl⟩)
 refine gen_consR (fun vs L w1 hL hw1 => ?_) ?_
 ·obtain ⟨q0, q1, q2⟩ := HO.out _ _ _ hw1
  refine gen_plain rfl ?_
  have l0 : L 0 = true := hL.need 0 (by kernel_rfl)
  have e0 := q1 0 _ rfl l0
  have x := (k1.grows q0).cell 0
  simp only [e0]
  go_simp
  exact gr_val (HI.out _ _ _ ⟨q0, kn_known q1 rfl, ds_free q2 rfl⟩)
 refine gen_consR (fun vs L w1 hL hw1 => ?_) ?_
 ·obtain ⟨q0, q1, q2⟩ := HO.out _ _ _ hw1
  refine gen_plain rfl ?_
  go_simp
  exact gr_val (HI.out _ _ _ ⟨q0, kn_known q1 rfl, ds_free q2 rfl⟩)
 refine gen_consR (fun vs L w1 hL hw1 => ?_) ?_
 ·obtain ⟨q0, q1, q2⟩ := HO.out _ _ _ hw1
  refine gen_plain rfl ?_
  have l2 : L 2 = true := hL.need 2 (by kernel_rfl)
  have e2 := q1 2 _ rfl l2
  have x := (k2.grows q0).cell 0
  simp only [e2]
  go_simp
  exact gr_val (HI.out _ _ _ ⟨q0, kn_known q1 rfl, ds_free q2 rfl⟩)
 refine gen_consR (fun vs L w1 hL hw1 => ?_) ?_
 ·obtain ⟨q0, q1, q2⟩ := HO.out _ _ _ hw1
  refine gen_plain rfl ?_
  have l1 : L 1 = true := hL.need 1 (by kernel_rfl)
  have e1 := q1 1 _ rfl l1
  have l3 : L 3 = true := hL.need 3 (by kernel_rfl)
  have e3 := q1 3 _ rfl l3
  simp only [e1, e3]
  go_simp
  refine gr_call ?_
  refine (cmp_iD x.a l.a w1).mono ?_
  rintro e w2 ⟨rfl, hg⟩
  exact ⟨_, rfl, HI.out _ _ _ ⟨below_grows q0 (Nat.le_refl _) hg, kn_known q1 rfl, ds_free (q2.grows hg) rfl⟩⟩
 refine gen_consR (fun vs L w1 hL hw1 => ?_) ?_
 ·obtain ⟨q0, q1, q2⟩ := HO.out _ _ _ hw1
  refine gen_plain rfl ?_
  go_simp
  exact gr_val (HI.out _ _ _ ⟨q0, kn_known q1 rfl, ds_free q2 rfl⟩)
 refine gen_consR (fun vs L w1 hL hw1 => ?_) ?_
 ·obtain ⟨q0, q1, q2⟩ := HO.out _ _ _ hw1
  refine gen_plain rfl ?_
  have l5 : L 5 = true := hL.need 5 (by kernel_rfl)
  have e5 := q1 5 _ rfl l5
  have x := (k1.grows q0).cell 1
  simp only [e5]
  go_simp
  exact gr_val (HI.out _ _ _ ⟨q0, kn_known q1 rfl, ds_free q2 rfl⟩)
 refine gen_consR (fun vs L w1 hL hw1 => ?_) ?_
 ·obtain ⟨q0, q1, q2⟩ := HO.out _ _ _ hw1
  refine gen_plain rfl ?_
  go_simp
  exact gr_val (HI.out _ _ _ ⟨q0, kn_known q1 rfl, ds_free q2 rfl⟩)
 refine gen_consR (fun vs L w1 hL hw1 => ?_) ?_
 ·obtain ⟨q0, q1, q2⟩ := HO.out _ _ _ hw1
  refine gen_plain rfl ?_
  have l7 : L 7 = true := hL.need 7 (by kernel_rfl)
  have e7 := q1 7 _ rfl l7
  have x := (k2.grows q0).cell 1
  simp only [e7]
  go_simp
  exact gr_val (HI.out _ _ _ ⟨q0, kn_known q1 rfl, ds_free q2 rfl⟩)
 refine gen_consR (fun vs L w1 hL hw1 => ?_) ?_
 ·obtain ⟨q0, q1, q2⟩ := HO.out _ _ _ hw1
  refine gen_plain rfl ?_
  have l6 : L 6 = true := hL.need 6 (by kernel_rfl)
  have e6 := q1 6 _ rfl l6
  have l8 : L 8 = true := hL.need 8 (by kernel_rfl)
  have e8 := q1 8 _ rfl l8
  simp only [e6, e8]
  go_simp
  refine gr_call ?_
  refine (cmp_iD x.b l.b w1).mono ?_
  rintro e w2 ⟨rfl, hg⟩
  exact ⟨_, rfl, HI.out _ _ _ ⟨below_grows q0 (Nat.le_refl _) hg, kn_known q1 rfl, ds_free (q2.grows hg) rfl⟩⟩
 refine gen_consR (fun vs L w1 hL hw1 => ?_) ?_
 ·obtain ⟨q0, q1, q2⟩ := HO.out _ _ _ hw1
  refine gen_plain rfl ?_
  go_simp
  exact gr_val (HI.out _ _ _ ⟨q0, kn_known q1 rfl, ds_free q2 rfl⟩)
 refine gen_consR (fun vs L w1 hL hw1 => ?_) ?_
 ·obtain ⟨q0, q1, q2⟩ := HO.out _ _ _ hw1
  refine gen_plain rfl ?_
  have l10 : L 10 = true := hL.need 10 (by kernel_rfl)
  have e10 := q1 10 _ rfl l10
  have x := (k1.grows q0).cell 2
  simp only [e10]
  go_simp
  exact gr_val (HI.out _ _ _ ⟨q0, kn_known q1 rfl, ds_free q2 rfl⟩)
 refine gen_consR (fun vs L w1 hL hw1 => ?_) ?_
 ·obtain ⟨q0, q1, q2⟩ := HO.out _ _ _ hw1
  refine gen_plain rfl ?_
  go_simp
  exact gr_val (HI.out _ _ _ ⟨q0, kn_known q1 rfl, ds_free q2 rfl⟩)
 refine gen_consR (fun vs L w1 hL hw1 => ?_) ?_
 ·obtain ⟨q0, q1, q2⟩ := HO.out _ _ _ hw1
  refine gen_plain rfl ?_
  have l12 : L 12 = true := hL.need 12 (by kernel_rfl)
  have e12 := q1 12 _ rfl l12
  have x := (k2.grows q0).cell 2
  simp only [e12]
  go_simp
  exact gr_val (HI.out _ _ _ ⟨q0, kn_known q1 rfl, ds_free q2 rfl⟩)
 refine gen_consR (fun vs L w1 hL hw1 => ?_) ?_
 ·obtain ⟨q0, q1, q2⟩ := HO.out _ _ _ hw1
  refine gen_plain rfl ?_
  have l11 : L 11 = true := hL.need 11 (by kernel_rfl)
  have e11 := q1 11 _ rfl l11
  have l13 : L 13 = true := hL.need 13 (by kernel_rfl)
  have e13 := q1 13 _ rfl l13
  simp only [e11, e13]
  go_simp
  refine gr_call ?_
  refine (cmp_iD x.c l.c w1).mono ?_
  rintro e w2 ⟨rfl, hg⟩
  exact ⟨_, rfl, HI.out _ _ _ ⟨below_grows q0 (Nat.le_refl _) hg, kn_known q1 rfl, ds_free (q2.grows hg) rfl⟩⟩
 refine gen_consR (fun vs L w1 hL hw1 => ?_) ?_
 ·obtain ⟨q0, q1, q2⟩ := HO.out _ _ _ hw1
  refine gen_plain rfl ?_
  go_simp
  exact gr_val (HI.out _ _ _ ⟨q0, kn_known q1 rfl, ds_free q2 rfl⟩)
 refine gen_consR (fun vs L w1 hL hw1 => ?_) ?_
 ·obtain ⟨q0, q1, q2⟩ := HO.out _ _ _ hw1
  refine gen_plain rfl ?_
  have l15 : L 15 = true := hL.need 15 (by kernel_rfl)
  have e15 := q1 15 _ rfl l15
  have x := (k1.grows q0).cell 3
  simp only [e15]
  go_simp
  exact gr_val (HI.out _ _ _ ⟨q0, kn_known q1 rfl, ds_free q2 rfl⟩)
 refine gen_consR (fun vs L w1 hL hw1 => ?_) ?_
 ·obtain ⟨q0, q1, q2⟩ := HO.out _ _ _ hw1
  refine gen_plain rfl ?_
  go_simp
  exact gr_val (HI.out _ _ _ ⟨q0, kn_known q1 rfl, ds_free q2 rfl⟩)
 refine gen_consR (fun vs L w1 hL hw1 => ?_) ?_
 ·obtain ⟨q0, q1, q2⟩ := HO.out _ _ _ hw1
  refine gen_plain rfl ?_
  have l17 : L 17 = true := hL.need 17 (by kernel_rfl)
  have e17 := q1 17 _ rfl l17
  have x := (k2.grows q0).cell 3
  simp only [e17]
  go_simp
  exact gr_val (HI.out _ _ _ ⟨q0, kn_known q1 rfl, ds_free q2 rfl⟩)
 refine gen_consR (fun vs L w1 hL hw1 => ?_) ?_
 ·obtain ⟨q0, q1, q2⟩ := HO.out _ _ _ hw1
  refine gen_plain rfl ?_
  have l16 : L 16 = true := hL.need 16 (by kernel_rfl)
  have e16 := q1 16 _ rfl l16
  have l18 : L 18 = true := hL.need 18 (by kernel_rfl)
  have e18 := q1 18 _ rfl l18
  simp only [e16, e18]
  go_simp
  refine gr_call ?_
  refine (cmp_iD x.d l.d w1).mono ?_
  rintro e w2 ⟨rfl, hg⟩
  exact ⟨_, rfl, HI.out _ _ _ ⟨below_grows q0 (Nat.le_refl _) hg, kn_known q1 rfl, ds_free (q2.grows hg) rfl⟩⟩
 refine gen_consR (fun vs L w1 hL hw1 => ?_) ?_
 ·obtain ⟨q0, q1, q2⟩ := HO.out _ _ _ hw1
  refine gen_plain rfl ?_
  have l4 : L 4 = true := hL.need 4 (by kernel_rfl)
  have e4 := q1 4 _ rfl l4
  have l9 : L 9 = true := hL.need 9 (by kernel_rfl)
  have e9 := q1 9 _ rfl l9
  have l14 : L 14 = true := hL.need 14 (by kernel_rfl)
  have e14 := q1 14 _ rfl l14
  have l19 : L 19 = true := hL.need 19 (by kernel_rfl)
  have e19 := q1 19 _ rfl l19
  simp only [e4, e9, e14, e19]
  go_simp
  have hg := (Below.refl w1.heap.size w1).alloc (Nat.le_refl _) (Obj.cells #[.int .i64 (cmp3 x.a l.a), .int .i64 (cmp3 x.b l.b), .int .i64 (cmp3 x.c l.c), .int .i64 (cmp3 x.d l.d)] 3)
  exact gr_val (HI.out _ _ _ ⟨below_grows q0 (Nat.le_refl _) hg, kn_free q1 rfl, ds_put (q2.grows hg) rfl ⟨_, rfl, Blk.new _ _ _⟩⟩)
 refine gen_consR (fun vs L w1 hL hw1 => ?_) ?_
 ·obtain ⟨q0, q1, q2⟩ := HO.out _ _ _ hw1
  refine gen_plain rfl ?_
  have l20 : L 20 = true := hL.need 20 (by kernel_rfl)
  obtain ⟨g20, e20, k20⟩ := q2 20 _ rfl l20
  simp only [e20]
  go_simp
  refine gr_call ?_
  refine (or_four k20).mono ?_
  rintro e w2 ⟨rfl, hg⟩
  exact ⟨_, rfl, HI.out _ _ _ ⟨below_grows q0 (Nat.le_refl _) hg, kn_known q1 rfl, ds_free (q2.grows hg) rfl⟩⟩
 refine gen_consR (fun vs L w1 hL hw1 => ?_) ?_
 ·obtain ⟨q0, q1, q2⟩ := HO.out _ _ _ hw1
  refine gen_plain rfl ?_
  have l21 : L 21 = true := hL.need 21 (by kernel_rfl)
  have e21 := q1 21 _ rfl l21
  simp only [e21]
  go_simp
  exact gr_val (HI.out _ _ _ ⟨q0, kn_known q1 rfl, ds_free q2 rfl⟩)
 refine gen_nil ?_
 intro vs L W6 hall hS
 obtain ⟨hq, q1, q2⟩ := HO.out _ _ _ hS
 have eX22 := q1 22 _ rfl (hall 22 (by simp))
 clear hall hS HI HO q1 q2
 simp only [eX22]
 go_wp2
 go_ret
 subst hG1
 exact ⟨rfl, below_grows hB (Nat.le_refl _) hq⟩
end Go.Proofs.Ytobhdldlhhigdaa

namespace Go.Proofs.Ytobhdldlhhigdaa
open Go.RowKit Go.Maps
/-- An element reads as itself. -/
def heldR (v : Value) : Option (DataW Value × List MemPlace) := some (.held v, [])
/-- How keys are laid: enc gives the key's value; ok says which keys are meant. -/
structure KeyT (P : Program) (k : TypeId) (α : Type) where
 enc : α → Value
 ok : α → Prop
 lit : ∀ a, ok a → ∃ l, keyOf P k (enc a) = some l
 inj : ∀ a b, enc a = enc b → a = b
/-- Block b is a map of at most n entries; M says what lies at each key. -/
def MapT {α : Type} {P : Program} {k : TypeId} (T : KeyT P k α) (w : World) (b n : Nat) (M : α → Option Value) : Prop :=
 ∃ D : DataW Value, w.ownsMap P k heldR b n D ∧ ∀ a, T.ok a → ∀ l, keyOf P k (T.enc a) = some l → Maps.has D l = (M a).isSome ∧ ∀ z, D.atKey l (.held z) = .held ((M a).getD z)
section
variable {α : Type} {P : Program} {k : TypeId} {T : KeyT P k α} {w w' : World} {b n : Nat} {M : α → Option Value}
set_option maxRecDepth 100000 in
theorem mapT_made (T : KeyT P k α) (w : World) : MapT T (w.alloc (.map #[] 0)) w.heap.size 0 (fun _ => none) :=
 ⟨.map [], World.ownsMap_made _ _ _ _, fun _ _ _ _ => ⟨rfl, fun _ => rfl⟩⟩
set_option maxRecDepth 100000 in
theorem MapT.kept (h : MapT T w b n M) {row : Option Nat} (hg : w.grownBy w' row) (hne : some b ≠ row) : MapT T w' b n M := by
 obtain ⟨D, h1, h2⟩ := h
 exact ⟨D, h1.kept hg hne, h2⟩
set_option maxRecDepth 100000 in
theorem MapT.grows (h : MapT T w b n M) (hg : Grows w w') : MapT T w' b n M := h.kept (row := none) ⟨hg.os, hg.tape, hg.output, hg.size, fun j hj _ => hg.block j hj⟩ (by simp)
set_option maxRecDepth 100000 in
theorem MapT.lt (h : MapT T w b n M) : b < w.heap.size := by obtain ⟨D, h1, _⟩ := h; exact h1.lt
set_option maxRecDepth 100000 in
theorem MapT.mono (h : MapT T w b n M) {n' : Nat} (hn : n ≤ n') : MapT T w b n' M := by
 obtain ⟨D, h1, h2⟩ := h
 exact ⟨D, h1.mono hn, h2⟩
set_option maxRecDepth 100000 in
theorem MapT.ext (h : MapT T w b n M) {M' : α → Option Value} (e : ∀ a, T.ok a → M a = M' a) : MapT T w b n M' := by
 obtain ⟨D, h1, h2⟩ := h
 exact ⟨D, h1, fun a ha l hl => by rw [← e a ha]; exact h2 a ha l hl⟩
set_option maxRecDepth 100000 in
/-- The block is no row of cells. -/
theorem MapT.ne_blk (h : MapT T w b n M) {g : Nat} {t : TypeId} {cs : Array Value} (hb : Blk w g t cs) : b ≠ g := by
 rintro rfl
 obtain ⟨D, ⟨es, cl, h1, _⟩, _⟩ := h
 unfold Blk at hb
 rw [hb] at h1
 cases h1
set_option maxRecDepth 100000 in
theorem MapT.ne_own (h : MapT T w b n M) {base : Nat} {e : TypeId} {size m : Nat} {v : Value} {xs : List Value} (ho : w.ownsRow base e size v m xs) : some b ≠ v.ownBlock := by
 rcases ho.2 with ⟨rfl, _⟩ | ⟨g, cap, cur, rfl, _, hg, _⟩
 ·simp [Value.ownBlock]
 ·have : b ≠ g := h.ne_blk hg
  simp [Value.ownBlock, this]
set_option maxRecDepth 100000 in
theorem MapT.setCell (h : MapT T w b n M) {p : Addr} (hp : b ≠ p.block) (u : Value) : MapT T (w.setCell p u) b n M := by
 obtain ⟨D, h1, h2⟩ := h
 exact ⟨D, h1.setCell hp u, h2⟩
set_option maxRecDepth 100000 in
theorem MapT.look_ok (h : MapT T w b n M) (K : Keyed P k) {t e : TypeId} (ht : P.underlying t = some (.map k e)) {z : Value} (hz : (zeroValue e).run P w = .ok z w) {a : α} (ha : T.ok a) :
 (Instr.lookup t (.map (some b)) (T.enc a) true).run P w = .ok (.tuple #[(M a).getD z, .bool (M a).isSome]) w := by
 obtain ⟨D, h1, h2⟩ := h
 obtain ⟨l, hl⟩ := T.lit a ha
 obtain ⟨v, ps, hrun, hv⟩ := h1.look_ok K ht hz (zd := .held z) (zp := []) rfl hl
 obtain ⟨e1, e2⟩ := h2 a ha l hl
 rw [hrun, e1]
 rw [e2 z] at hv
 unfold heldR at hv
 injection hv with hv
 injection hv with hv
 injection hv with hv
 rw [hv]
set_option maxRecDepth 100000 in
theorem MapT.look (h : MapT T w b n M) (K : Keyed P k) {t e : TypeId} (ht : P.underlying t = some (.map k e)) {z : Value} (hz : (zeroValue e).run P w = .ok z w) {a : α} (ha : T.ok a) :
 (Instr.lookup t (.map (some b)) (T.enc a) false).run P w = .ok ((M a).getD z) w := by
 obtain ⟨D, h1, h2⟩ := h
 obtain ⟨l, hl⟩ := T.lit a ha
 obtain ⟨v, ps, hrun, hv⟩ := h1.lookup K ht hz (zd := .held z) (zp := []) rfl hl
 obtain ⟨e1, e2⟩ := h2 a ha l hl
 rw [hrun]
 rw [e2 z] at hv
 unfold heldR at hv
 injection hv with hv
 injection hv with hv
 injection hv with hv
 rw [hv]
set_option maxRecDepth 100000 in
theorem MapT.store [DecidableEq α] (h : MapT T w b n M) (K : Keyed P k) {t e : TypeId} (ht : P.underlying t = some (.map k e)) (hn : n < maxLen) {a : α} (ha : T.ok a) (val : Value) :
 ∃ w', (Instr.mapUpdate t (.map (some b)) (T.enc a) val).run P w = .ok () w' ∧ MapT T w' b (n + 1) (fun x => if x = a then some val else M x) ∧ w.grownBy w' (some b) := by
 obtain ⟨D, h1, h2⟩ := h
 obtain ⟨l, hl⟩ := T.lit a ha
 obtain ⟨w', hrun, h3, h4⟩ := h1.update K ht hn hl (val := val) (d := .held val) (ps := []) rfl
 refine ⟨w', hrun, ⟨_, h3, fun x hx lx hlx => ?_⟩, h4⟩
 by_cases e : x = a
 ·subst e
  rw [hl] at hlx
  injection hlx with hlx
  subst hlx
  simp only [if_true]
  exact ⟨Maps.has_put_same h1.isMap (K.key hl) _, fun z => Maps.atKey_put_same h1.isMap (K.key hl) _ _⟩
 ·have hne : lx ≠ l := fun e2 => by
   subst e2
   exact e (T.inj _ _ (K.inj hlx hl))
  simp only [if_neg e]
  rw [Maps.has_put_other hne]
  exact ⟨(h2 x hx lx hlx).1, fun z => by rw [Maps.atKey_put_other hne]; exact (h2 x hx lx hlx).2 z⟩
section
variable {ops : Array Oper} {rest : List Oper} {o : Oper} {a : Act} {Q : Exit → Act → World → Prop}
set_option maxRecDepth 100000 in
/-- 'v, ok := m[k]' at the operation. -/
theorem wpList_lookT_ok (hgd : o.guard = none) (m x : Operand) (t : TypeId) (hop : o.op = Op.lookup t m x true) (hm : a.eval m = .map (some b)) (h : MapT T w b n M) (K : Keyed P k) {e : TypeId} (ht : P.underlying t = some (.map k e)) {z : Value}
 (hz : (zeroValue e).run P w = .ok z w) (y : α) (ha : T.ok y) (hx : a.eval x = T.enc y) (hK : wpList P ops Q rest (a.put o.dst (.tuple #[(M y).getD z, .bool (M y).isSome])) w) : wpList P ops Q (o :: rest) a w := by
 refine wpList_plain hgd fun K' hK' => ?_
 have hrun := h.look_ok K ht hz ha
 unfold Oper.wp
 simp [execOp, hop, hm, hx, hrun, Result.andThen]
 exact hK' _ _ hK
set_option maxRecDepth 100000 in
theorem wpList_lookT_hit (hgd : o.guard = none) (m x : Operand) (t : TypeId) (hop : o.op = Op.lookup t m x true) (hm : a.eval m = .map (some b)) (h : MapT T w b n M) (K : Keyed P k) {e : TypeId} (ht : P.underlying t = some (.map k e)) {z : Value}
 (hz : (zeroValue e).run P w = .ok z w) (y : α) (ha : T.ok y) (hx : a.eval x = T.enc y) {v : Value} (hv : M y = some v) (hK : wpList P ops Q rest (a.put o.dst (.tuple #[v, .bool true])) w) : wpList P ops Q (o :: rest) a w :=
 wpList_lookT_ok hgd m x t hop hm h K ht hz y ha hx (by rw [hv]; exact hK)
set_option maxRecDepth 100000 in
theorem wpList_lookT_miss (hgd : o.guard = none) (m x : Operand) (t : TypeId) (hop : o.op = Op.lookup t m x true) (hm : a.eval m = .map (some b)) (h : MapT T w b n M) (K : Keyed P k) {e : TypeId} (ht : P.underlying t = some (.map k e)) {z : Value}
 (hz : (zeroValue e).run P w = .ok z w) (y : α) (ha : T.ok y) (hx : a.eval x = T.enc y) (hv : M y = none) (hK : wpList P ops Q rest (a.put o.dst (.tuple #[z, .bool false])) w) : wpList P ops Q (o :: rest) a w :=
 wpList_lookT_ok hgd m x t hop hm h K ht hz y ha hx (by rw [hv]; exact hK)
set_option maxRecDepth 100000 in
theorem wpList_lookT (hgd : o.guard = none) (m x : Operand) (t : TypeId) (hop : o.op = Op.lookup t m x false) (hm : a.eval m = .map (some b)) (h : MapT T w b n M) (K : Keyed P k) {e : TypeId} (ht : P.underlying t = some (.map k e)) {z : Value}
 (hz : (zeroValue e).run P w = .ok z w) (y : α) (ha : T.ok y) (hx : a.eval x = T.enc y) (hK : wpList P ops Q rest (a.put o.dst ((M y).getD z)) w) : wpList P ops Q (o :: rest) a w := by
 refine wpList_plain hgd fun K' hK' => ?_
 have hrun := h.look K ht hz ha
 unfold Oper.wp
 simp [execOp, hop, hm, hx, hrun, Result.andThen]
 exact hK' _ _ hK
set_option maxRecDepth 100000 in
theorem wpList_storeT [DecidableEq α] (hgd : o.guard = none) (m x v : Operand) (t : TypeId) (hop : o.op = Op.mapUpdate t m x v) (hm : a.eval m = .map (some b)) (h : MapT T w b n M) (K : Keyed P k) {e : TypeId} (ht : P.underlying t = some (.map k e)) (hn : n < maxLen)
 (y : α) (ha : T.ok y) (val : Value) (hx : a.eval x = T.enc y) (hv : a.eval v = val)
 (hK : ∀ w', MapT T w' b (n + 1) (fun x => if x = y then some val else M x) → w.grownBy w' (some b) → wpList P ops Q rest (a.put o.dst undef) w') : wpList P ops Q (o :: rest) a w := by
 refine wpList_plain hgd fun K' hK' => ?_
 obtain ⟨w', hrun, h1, h2⟩ := h.store K ht hn ha val
 unfold Oper.wp
 simp [execOp, hop, hm, hx, hv, hrun, Result.andThen]
 exact hK' _ _ (hK w' h1 h2)
set_option maxRecDepth 100000 in
theorem gr_lookT {ev : Operand → Value} {S : Value → World → Prop} (m x : Operand) (t : TypeId) (hop : o.op = Op.lookup t m x false) (hm : ev m = .map (some b)) (h : MapT T w b n M) (K : Keyed P k) {e : TypeId} (ht : P.underlying t = some (.map k e)) {z : Value}
 (hz : (zeroValue e).run P w = .ok z w) (y : α) (ha : T.ok y) (hx : ev x = T.enc y) (hK : S ((M y).getD z) w) : genR P S ((execOp ev o).run P w) := by
 have hrun := h.look K ht hz ha
 simp [execOp, hop, hm, hx, hrun, Result.andThen]
 exact hK
end
end
/-- Keys that are integers. -/
def intT {P : Program} {k : TypeId} {q : IntKind} (hk : P.underlying k = some (.int q)) : KeyT P k Int :=
 ⟨fun a => .int q a, fun a => (Lit.int q a).wf = true, fun a h => ⟨_, keyOf_int_mk hk h⟩, fun a b e => by injection e⟩
end Go.Proofs.Ytobhdldlhhigdaa

namespace Go.Proofs.Ytobhdldlhhigdaa
open Go.RowKit Go.Maps
set_option maxRecDepth 100000 in
theorem lawI : Keyed Try.prog 3 := int_keyed Try.underlying3
abbrev TI : KeyT Try.prog 3 Int := intT Try.underlying3
/-- An integer that a slot can hold. -/
def In64 (i : Int) : Prop := -9223372036854775808 ≤ i ∧ i ≤ 9223372036854775807
set_option maxRecDepth 100000 in
theorem in64_ok {i : Int} (h : In64 i) : TI.ok i := by
 exact WalkArith.wf_i64 (by unfold In64 at h; omega)
set_option maxRecDepth 100000 in
theorem zeroQ (w : World) : (zeroValue 46).run Try.prog w = .ok (.agg #[.int .i64 0, .int .i64 0, .int .i64 0, .int .i64 0]) w := by kernel_rfl
def nodeM (ns : List Q4) : Int → Option Value := fun id => (lastN ns id).map fun x => Value.agg x.cs
set_option maxRecDepth 100000 in
theorem nodeM_snoc (ns : List Q4) (x : Q4) (id : Int) : (if id = x.a then some (Value.agg #[.int .i64 x.a, .int .i64 x.b, .int .i64 x.c, .int .i64 x.d]) else nodeM ns id) = nodeM (ns ++ [x]) id := by
 unfold nodeM lastN
 rw [List.reverse_append]
 simp only [List.reverse_cons, List.reverse_nil, List.nil_append, List.singleton_append, List.find?_cons]
 by_cases e : id = x.a
 ·subst e
  simp [Q4.cs]
 ·rw [if_neg e]
  have : (x.a == id) = false := by simp; exact fun h => e h.symm
  rw [this]
set_option maxRecDepth 100000 in
theorem qinfo4 : (Try.prog.info? 46).map (·.size) = some 4 := by kernel_rfl
set_option maxRecDepth 100000 in
set_option maxHeartbeats 4000000 in
theorem find_any (A A2 : Option Addr) (c c2 m : Nat) (ns : List Q4) (w : World) (h : Qs w A ns) (hl : ns.length ≤ 100000) (hr : ∀ n ∈ ns, In64 n.a) :
 Calls Try.prog 64 #[.agg #[.slice A ns.length c, .slice A2 m c2]] w fun e w' => (∃ b n, e = .returned (.map (some b)) ∧ MapT TI w' b n (nodeM ns)) ∧ Grows w w' := by
 have hmm := @run_makeMap Try.prog
 have HR := Lib.hid hr
 clear hr
 have k1 := Blk.new w 26 #[.slice A ns.length c, .slice A2 m c2]
 have hB := (Below.refl w.heap.size w).alloc (Nat.le_refl _) (Obj.cells #[.slice A ns.length c, .slice A2 m c2] 26)
 go_enter Try.func64, Try.ntmps64
 go_upto_region 1 with fail
 generalize World.alloc w _ = w1 at *
 have hm := mapT_made TI w1
 have hq := (Below.refl w1.heap.size w1).alloc (Nat.le_refl _) (Obj.map #[] 0)
 go_upto_region 2 with fail
 have hge : w.heap.size ≤ w1.heap.size := hB.size
 replace hB := below_grows hB (Nat.le_refl _) hq
 replace k1 := k1.grows hq
 clear hq
 generalize World.alloc w1 _ = w2 at *
 generalize w1.heap.size = Bm at *
 have x1 := k1.cell 0
 go_wp2_with fail
 clear x1 k1
 go_loopw [10] (fun i wr => ∃ k : Nat, k ≤ ns.length ∧ i = .int .i64 k ∧ MapT TI wr Bm k (nodeM (ns.take k)) ∧ Below w.heap.size w wr) (fun i _ => ns.length - (intOf i).toNat)
 case atStart => exact ⟨0, by omega, rfl, hm, hB⟩
 case round =>
  clear hm hB
  obtain ⟨k, hk, rfl, hm, hB⟩ := hrel
  by_cases hlt : k < ns.length
  ·obtain ⟨ad, x, rfl, had, hx, q0, q1, q2, q3⟩ := (h.grows hB).elem hlt
   have HT := Lib.hid (take_snoc hx)
   have HX : Hid (In64 x.a) := Lib.hid (HR.out x (List.mem_of_getElem? hx))
   clear hx
   have k5 := Blk.new wr 46 #[.int .i64 x.a, .int .i64 x.b, .int .i64 x.c, .int .i64 x.d]
   have hq := (Below.refl wr.heap.size wr).alloc (Nat.le_refl _) (Obj.cells #[.int .i64 x.a, .int .i64 x.b, .int .i64 x.c, .int .i64 x.d] 46)
   go_upto_region 5 with fail
   clear q0 q1 q2 q3
   replace hB := below_grows hB (Nat.le_refl _) hq
   replace hm := hm.grows hq
   clear hq
   generalize World.alloc wr _ = w4 at *
   generalize wr.heap.size = G5 at *
   have x5 := k5.cell 0
   refine wp_region_lit ?_
   iterate 3
    refine wpList_plain rfl (fun K hK => ?_)
    go_simp
    refine hK _ _ ?_
    clear hK K
   refine wpList_load_row rfl _ rfl rfl k5 Try.underlying46 rfl qinfo4 ?_
   refine wpList_storeT rfl (.tmp 14) (.tmp 16) (.tmp 17) 101 rfl rfl hm lawI Try.underlying101 (by simp only [maxLen]; omega) x.a (in64_ok HX.out) (.agg #[.int .i64 x.a, .int .i64 x.b, .int .i64 x.c, .int .i64 x.d]) rfl rfl ?_
   intro w9 hm9 hg9
   replace hm := hm9.ext fun z _ => nodeM_snoc _ x z
   replace hB := hB.grown hg9 hB.size (fun q e => by injection e with e; subst e; exact hge)
   clear hm9 hg9 x5 k5
   go_wp2
   go_roundw
   case rel => exact ⟨k + 1, by omega, by go_num, by rw [HT.out]; exact hm, hB⟩
   case measure => simp [intOf]; omega
  ·go_wp2
   go_ret
   refine ⟨⟨Bm, k, rfl, ?_⟩, hB⟩
   have e : ns.take k = ns := List.take_of_length_le (by omega)
   rwa [e] at hm
end Go.Proofs.Ytobhdldlhhigdaa

namespace Go.Proofs.Ytobhdldlhhigdaa
open Go.RowKit Go.Maps
/-- The last node of an ID, or zeros. -/
def lastD (ns : List Q4) (id : Int) : Q4 := (lastN ns id).getD q0
set_option maxRecDepth 100000 in
theorem look_n {w : World} {b n : Nat} {ns : List Q4} (hm : MapT TI w b n (nodeM ns)) {id : Int} (hi : In64 id) {x : Q4} (hx : lastD ns id = x) : (Instr.lookup 101 (.map (some b)) (.int .i64 id) false).run Try.prog w = .ok (.agg #[.int .i64 x.a, .int .i64 x.b, .int .i64 x.c, .int .i64 x.d]) w := by
 have h := hm.look lawI Try.underlying101 (zeroQ w) (in64_ok hi)
 subst hx
 refine h.trans ?_
 unfold nodeM lastD
 cases lastN ns id <;> rfl
set_option maxRecDepth 100000 in
set_option maxHeartbeats 4000000 in
theorem ends_any (b n : Nat) (ns : List Q4) (l : Q4) (w : World) (hm : MapT TI w b n (nodeM ns)) (ha : In64 l.a) (hc : In64 l.c) :
 Calls Try.prog 65 #[.map (some b), .agg #[.int .i64 l.a, .int .i64 l.b, .int .i64 l.c, .int .i64 l.d]] w fun e w' => e = .returned (.bool (decide (0 ≤ l.b) && decide (l.b < (lastD ns l.a).d) && decide (0 ≤ l.d) && decide (l.d < (lastD ns l.c).c))) ∧ Grows w w' := by
 have k1 := Blk.new w 49 #[.int .i64 l.a, .int .i64 l.b, .int .i64 l.c, .int .i64 l.d]
 have hB := (Below.refl w.heap.size w).alloc (Nat.le_refl _) (Obj.cells #[.int .i64 l.a, .int .i64 l.b, .int .i64 l.c, .int .i64 l.d] 49)
 go_enter Try.func65, Try.ntmps65
 go_upto_region 1 with fail
 replace hm := hm.grows hB
 generalize World.alloc w _ = w1 at *
 generalize hn1 : lastD ns l.a = n1
 generalize hn2 : lastD ns l.c = n2
 have e1 := look_n hm ha hn1
 have e2 := look_n hm hc hn2
 have Hn1 := Lib.hid hn1
 have Hn2 := Lib.hid hn2
 clear hn1 hn2
 have x1 := k1.cell
 have hf1 : ∀ (a b c d : Int) (w : World), (Instr.field 46 (.agg #[.int .i64 a, .int .i64 b, .int .i64 c, .int .i64 d]) 1).run Try.prog w = .ok (.int .i64 b) w := fun _ _ _ _ _ => by kernel_rfl
 have hf2 : ∀ (a b c d : Int) (w : World), (Instr.field 46 (.agg #[.int .i64 a, .int .i64 b, .int .i64 c, .int .i64 d]) 2).run Try.prog w = .ok (.int .i64 c) w := fun _ _ _ _ _ => by kernel_rfl
 have hf3 : ∀ (a b c d : Int) (w : World), (Instr.field 46 (.agg #[.int .i64 a, .int .i64 b, .int .i64 c, .int .i64 d]) 3).run Try.prog w = .ok (.int .i64 d) w := fun _ _ _ _ _ => by kernel_rfl
 go_wp2
 all_goals go_ret
 all_goals (rw [Hn1.out, Hn2.out]; refine ⟨ret_bool ?_, hB⟩; apply Bool.eq_iff_iff.2; simp only [Bool.and_eq_true, Bool.false_eq_true, decide_eq_true_eq, false_iff] at *; try omega)
set_option maxRecDepth 100000 in
set_option maxHeartbeats 8000000 in
theorem clash_any (b n : Nat) (ns : List Q4) (x l : Q4) (w : World) (hm : MapT TI w b n (nodeM ns)) (ha : In64 x.a) (hc : In64 x.c) :
 Calls Try.prog 67 #[.map (some b), .agg #[.int .i64 x.a, .int .i64 x.b, .int .i64 x.c, .int .i64 x.d], .agg #[.int .i64 l.a, .int .i64 l.b, .int .i64 l.c, .int .i64 l.d]] w fun e w' => e = .returned (.bool ((x.c == l.c && x.d == l.d && (lastD ns x.c).b != 3) || (x.a == l.a && x.b == l.b && (lastD ns x.a).b != 5 && (lastD ns x.a).b != 1))) ∧ Grows w w' := by
 have k1 := (Blk.new w 49 #[.int .i64 x.a, .int .i64 x.b, .int .i64 x.c, .int .i64 x.d]).alloc (Obj.cells #[.int .i64 l.a, .int .i64 l.b, .int .i64 l.c, .int .i64 l.d] 49)
 have k2 := blk_new_at (X := w.alloc (Obj.cells #[.int .i64 x.a, .int .i64 x.b, .int .i64 x.c, .int .i64 x.d] 49)) (n := w.heap.size + 1) (t := 49) (cs := #[.int .i64 l.a, .int .i64 l.b, .int .i64 l.c, .int .i64 l.d]) (by simp)
 have hB := ((Below.refl w.heap.size w).alloc (Nat.le_refl _) (Obj.cells #[.int .i64 x.a, .int .i64 x.b, .int .i64 x.c, .int .i64 x.d] 49)).alloc (by simp) (Obj.cells #[.int .i64 l.a, .int .i64 l.b, .int .i64 l.c, .int .i64 l.d] 49)
 go_enter Try.func67, Try.ntmps67
 go_upto_region 1 with fail
 replace hm := hm.grows hB
 generalize World.alloc (World.alloc w _) _ = w1 at *
 generalize hn1 : lastD ns x.a = n1
 generalize hn2 : lastD ns x.c = n2
 have e1 : ∀ z, x.a = z → (Instr.lookup 101 (.map (some b)) (.int .i64 z) false).run Try.prog w1 = .ok (.agg #[.int .i64 n1.a, .int .i64 n1.b, .int .i64 n1.c, .int .i64 n1.d]) w1 := fun z hz => hz ▸ look_n hm ha hn1
 have e2 : ∀ z, x.c = z → (Instr.lookup 101 (.map (some b)) (.int .i64 z) false).run Try.prog w1 = .ok (.agg #[.int .i64 n2.a, .int .i64 n2.b, .int .i64 n2.c, .int .i64 n2.d]) w1 := fun z hz => hz ▸ look_n hm hc hn2
 have Hn1 := Lib.hid hn1
 have Hn2 := Lib.hid hn2
 clear hn1 hn2
 have x1 := k1.cell
 have x2 := k2.cell
 have hf1 : ∀ (a b c d : Int) (w : World), (Instr.field 46 (.agg #[.int .i64 a, .int .i64 b, .int .i64 c, .int .i64 d]) 1).run Try.prog w = .ok (.int .i64 b) w := fun _ _ _ _ _ => by kernel_rfl
 have hf2 : ∀ (a b c d : Int) (w : World), (Instr.field 46 (.agg #[.int .i64 a, .int .i64 b, .int .i64 c, .int .i64 d]) 2).run Try.prog w = .ok (.int .i64 c) w := fun _ _ _ _ _ => by kernel_rfl
 have hf3 : ∀ (a b c d : Int) (w : World), (Instr.field 46 (.agg #[.int .i64 a, .int .i64 b, .int .i64 c, .int .i64 d]) 3).run Try.prog w = .ok (.int .i64 d) w := fun _ _ _ _ _ => by kernel_rfl
 go_wp2
 all_goals go_ret
 all_goals (rw [Hn1.out, Hn2.out]; refine ⟨ret_bool ?_, hB⟩; simp_all)
end Go.Proofs.Ytobhdldlhhigdaa

namespace Go.Proofs.Ytobhdldlhhigdaa
set_option maxRecDepth 100000 in
theorem okN_step {ns : List Q4} (h : okN ns = true) {k : Nat} (hk : k + 1 < ns.length) : (ns[k]'(by omega)).a < (ns[k + 1]'hk).a := by
 have := range_all_at h hk
 rw [stepN_at (List.getElem?_eq_getElem hk), getD_at (show ns[k + 1 - 1]? = some (ns[k]'(by omega)) from List.getElem?_eq_getElem (by omega))] at this
 simp only [Bool.and_eq_true, Bool.or_eq_true, beq_iff_eq, decide_eq_true_eq] at this
 omega
set_option maxRecDepth 100000 in
theorem okN_asc {ns : List Q4} (h : okN ns = true) : ns.Pairwise fun x y => x.a < y.a := by
 rw [List.pairwise_iff_getElem]
 intro i j hi hj hij
 induction j with
 | zero => omega
 | succ j ih =>
  have h1 := okN_step h hj
  by_cases e : i = j
  ·subst e
   exact h1
  ·have := ih (by omega) (by omega)
   omega
set_option maxRecDepth 100000 in
theorem last_find {ns : List Q4} (h : ns.Pairwise fun x y => x.a < y.a) (id : Int) : lastN ns id = findN ns id := by
 unfold lastN findN
 induction ns with
 | nil => rfl
 | cons x ns ih =>
  rw [List.pairwise_cons] at h
  rw [List.reverse_cons, List.find?_append, ih h.2, List.find?_cons]
  by_cases e : x.a = id
  ·have h0 : ns.find? (fun n => n.a == id) = none := by
    rw [List.find?_eq_none]
    intro y hy
    have := h.1 y hy
    simp only [beq_iff_eq]
    omega
   rw [h0]
   simp [e]
  ·have e2 : (x.a == id) = false := by simp [e]
   rw [e2]
   cases hf : ns.find? (fun n => n.a == id) <;> simp [e, hf]
set_option maxRecDepth 100000 in
theorem lastD_node {ns : List Q4} (h : okN ns = true) (id : Int) : lastD ns id = nodeN ns id := by
 unfold lastD nodeN
 rw [last_find (okN_asc h)]
end Go.Proofs.Ytobhdldlhhigdaa

namespace Go.Proofs.Ytobhdldlhhigdaa
open Go.RowKit Go.Maps
set_option maxRecDepth 100000 in
theorem zeroB (w : World) : (zeroValue 4).run Try.prog w = .ok (.bool false) w := by kernel_rfl
set_option maxRecDepth 100000 in
theorem zeroI (w : World) : (zeroValue 3).run Try.prog w = .ok (.int .i64 0) w := by kernel_rfl
set_option maxRecDepth 100000 in
set_option maxHeartbeats 4000000 in
theorem order1_any (x : Q4) (Gd Gw bd bw nd nw : Nat) (D M : Int → Option Value) (b : Bool) (z : Int) (w : World) (k1 : Blk w Gd 113 #[.map (some bd)]) (k2 : Blk w Gw 85 #[.map (some bw)])
 (hd : MapT TI w bd nd D) (hm : MapT TI w bw nw M) (hx : In64 x.a) (hb : (D x.a).getD (.bool false) = .bool b) (hz : (M x.a).getD (.int .i64 0) = .int .i64 z) :
 Calls Try.prog 74 #[.agg #[.int .i64 x.a, .int .i64 x.b, .int .i64 x.c, .int .i64 x.d], .pointer (some ⟨Gd, 0, none⟩), .pointer (some ⟨Gw, 0, none⟩)] w fun e w' => e = .returned (.bool (!b && z == 0)) ∧ Grows w w' := by
 have k3 := Blk.new w 46 #[.int .i64 x.a, .int .i64 x.b, .int .i64 x.c, .int .i64 x.d]
 have hB := (Below.refl w.heap.size w).alloc (Nat.le_refl _) (Obj.cells #[.int .i64 x.a, .int .i64 x.b, .int .i64 x.c, .int .i64 x.d] 46)
 go_enter Try.func74, Try.ntmps74
 go_upto_region 1 with fail
 replace k1 := k1.grows hB
 replace k2 := k2.grows hB
 replace hd := hd.grows hB
 replace hm := hm.grows hB
 generalize World.alloc w _ = w1 at *
 have e1 := hd.look lawI Try.underlying113 (zeroB w1) (in64_ok hx)
 have e2 := hm.look lawI Try.underlying85 (zeroI w1) (in64_ok hx)
 rw [hb] at e1
 rw [hz] at e2
 change (Instr.lookup 113 (.map (some bd)) (.int .i64 x.a) false).run Try.prog w1 = _ at e1
 change (Instr.lookup 85 (.map (some bw)) (.int .i64 x.a) false).run Try.prog w1 = _ at e2
 clear hb hz hd hm
 have x1 := k1.cell 0
 have x2 := k2.cell 0
 have x3 := k3.cell 0
 cases b
 all_goals go_wp2
 all_goals go_ret
 all_goals (refine ⟨ret_bool ?_, hB⟩; simp_all)
end Go.Proofs.Ytobhdldlhhigdaa

namespace Go.Proofs.Ytobhdldlhhigdaa
open Go.RowKit Go.Maps
set_option maxRecDepth 100000 in
theorem idx_up {ns : List Q4} {p : Q4 → Bool} {k : Nat} {x : Q4} (h : (ns.take k).findIdx? p = none) (hx : ns[k]? = some x) (hne : p x = false) : (ns.take (k + 1)).findIdx? p = none := by
 rw [take_snoc hx]
 rw [List.findIdx?_eq_none_iff] at *
 intro y hy
 rcases List.mem_append.1 hy with hy | hy
 ·exact h y hy
 ·simp only [List.mem_singleton] at hy
  subst hy
  exact hne
set_option maxRecDepth 100000 in
theorem idx_at {ns : List Q4} {p : Q4 → Bool} {k : Nat} {x : Q4} (h : (ns.take k).findIdx? p = none) (hx : ns[k]? = some x) (he : p x = true) : ns.findIdx? p = some k := by
 rw [List.findIdx?_eq_none_iff] at h
 rw [List.findIdx?_eq_some_iff_getElem]
 obtain ⟨hk, hx⟩ := List.getElem?_eq_some_iff.1 hx
 refine ⟨hk, by rw [hx]; exact he, fun j hj => ?_⟩
 have := h (ns[j]'(by omega)) (by
  rw [List.mem_take_iff_getElem]
  exact ⟨j, by omega, rfl⟩)
 simp only [Bool.not_eq_true]
 exact this
set_option maxRecDepth 100000 in
set_option maxHeartbeats 4000000 in
theorem index_any (A : Option Addr) (c : Nat) (ns : List Q4) (p : Q4 → Bool) (Gd Gw : Nat) (w : World) (h : Qs w A ns) (hl : ns.length ≤ 9223372036854775807)
 (hp : ∀ x ∈ ns, ∀ w1, Grows w w1 → Calls Try.prog 74 #[.agg #[.int .i64 x.a, .int .i64 x.b, .int .i64 x.c, .int .i64 x.d], .pointer (some ⟨Gd, 0, none⟩), .pointer (some ⟨Gw, 0, none⟩)] w1 fun e w' => e = .returned (.bool (p x)) ∧ Grows w1 w') :
 Calls Try.prog 73 #[.slice A ns.length c, .func (.func 74) #[] #[.pointer (some ⟨Gd, 0, none⟩), .pointer (some ⟨Gw, 0, none⟩)]] w fun e w' => e = .returned (.int .i64 (placeV (ns.findIdx? p))) ∧ Grows w w' := by
 have HP := Lib.hid hp
 clear hp
 go_enter Try.func73, Try.ntmps73
 go_wp2_with fail
 go_loopw [8] (fun i wr => ∃ k : Nat, k ≤ ns.length ∧ i = .int .i64 k ∧ Hid ((ns.take k).findIdx? p = none) ∧ Grows w wr) (fun i _ => ns.length - (intOf i).toNat)
 case atStart => exact ⟨0, by omega, rfl, Lib.hid rfl, Below.refl _ _⟩
 case round =>
  obtain ⟨k, hk, rfl, hf, hB⟩ := hrel
  by_cases hlt : k < ns.length
  ·obtain ⟨ad, x, rfl, had, hx, q0, q1, q2, q3⟩ := (h.grows hB).elem hlt
   have HX := Lib.hid hx
   clear hx
   go_wp2_with fail
   refine (HP.out x (List.mem_of_getElem? HX.out) _ hB).mono ?_
   rintro e w2 ⟨rfl, hq⟩
   replace hB := below_grows hB (Nat.le_refl _) hq
   clear hq q0 q1 q2 q3
   cases e : p x
   ·have HE := Lib.hid (idx_up hf.out HX.out e)
    go_wp2
    go_roundw
    case rel => exact ⟨k + 1, by omega, by go_num, HE, hB⟩
    case measure => simp [intOf]; omega
   ·have HE := Lib.hid (idx_at hf.out HX.out e)
    go_wp2
    go_ret
    rw [HE.out]
    exact ⟨rfl, hB⟩
  ·have HE : Hid (ns.findIdx? p = none) := Lib.hid (by have := hf.out; rwa [List.take_of_length_le (by omega)] at this)
   go_wp2
   go_ret
   rw [HE.out]
   exact ⟨rfl, hB⟩
end Go.Proofs.Ytobhdldlhhigdaa

namespace Go.Proofs.Ytobhdldlhhigdaa
def cntW (ls : List Q4) (out : List Int) (x : Int) : Nat := (ls.filter fun l => l.c == x && !out.contains l.a).length
set_option maxRecDepth 100000 in
theorem cntW_append (a b : List Q4) (out : List Int) (x : Int) : cntW (a ++ b) out x = cntW a out x + cntW b out x := by simp [cntW]
set_option maxRecDepth 100000 in
theorem cntW_le (ls : List Q4) (out : List Int) (x : Int) : cntW ls out x ≤ ls.length := List.length_filter_le _ _
set_option maxRecDepth 100000 in
theorem free_cnt (ls : List Q4) (out : List Int) (n : Q4) : freeN ls out n = (!out.contains n.a && cntW ls out n.a == 0) := by
 unfold freeN cntW
 congr 1
 apply Bool.eq_iff_iff.2
 rw [beq_iff_eq, List.length_eq_zero_iff, List.filter_eq_nil_iff, List.all_eq_true]
 constructor
 ·intro h l hl
  have := h l hl
  simp only [Bool.or_eq_true, bne_iff_ne, ne_eq, List.contains_eq_mem, decide_eq_true_eq, Bool.and_eq_true, beq_iff_eq, Bool.not_eq_true', decide_eq_false_iff_not, not_and, Decidable.not_not] at this ⊢
  rcases this with h1 | h1
  ·exact fun e => absurd e h1
  ·exact fun _ => h1
 ·intro h l hl
  have := h l hl
  simp only [Bool.or_eq_true, bne_iff_ne, ne_eq, List.contains_eq_mem, decide_eq_true_eq, Bool.and_eq_true, beq_iff_eq, Bool.not_eq_true', decide_eq_false_iff_not, not_and, Decidable.not_not] at this ⊢
  by_cases e : l.c = n.a
  ·exact .inr (this e)
  ·exact .inl e
/-- While the links are gone through once more behind a new member. -/
def midW (ls : List Q4) (out : List Int) (id : Int) (k : Nat) (x : Int) : Nat := cntW (ls.take k) (out ++ [id]) x + cntW (ls.drop k) out x
set_option maxRecDepth 100000 in
theorem midW_zero (ls : List Q4) (out : List Int) (id x : Int) : midW ls out id 0 x = cntW ls out x := by simp [midW, cntW]
set_option maxRecDepth 100000 in
theorem midW_end (ls : List Q4) (out : List Int) (id x : Int) {k : Nat} (h : ls.length ≤ k) : midW ls out id k x = cntW ls (out ++ [id]) x := by
 unfold midW
 rw [List.take_of_length_le h, List.drop_of_length_le h]
 simp [cntW]
set_option maxRecDepth 100000 in
theorem midW_step {ls : List Q4} {out : List Int} {id x : Int} {k : Nat} {l : Q4} (h : ls[k]? = some l) (hn : id ∉ out) : midW ls out id k x = midW ls out id (k + 1) x + (if l.a = id ∧ l.c = x then 1 else 0) := by
 obtain ⟨hk, hx⟩ := List.getElem?_eq_some_iff.1 h
 have e1 : ls.take (k + 1) = ls.take k ++ [l] := take_snoc h
 have e2 : ls.drop k = [l] ++ ls.drop (k + 1) := by rw [← hx]; simp
 unfold midW
 rw [e1, e2, cntW_append, cntW_append]
 have : cntW [l] out x = cntW [l] (out ++ [id]) x + (if l.a = id ∧ l.c = x then 1 else 0) := by
  unfold cntW
  simp only [List.filter_cons, List.filter_nil]
  by_cases h1 : l.c = x
  ·by_cases h2 : l.a = id
   ·subst h2
    simp [h1, hn]
   ·by_cases h3 : l.a ∈ out <;> simp [h1, h2, h3]
  ·simp [h1]
 omega
end Go.Proofs.Ytobhdldlhhigdaa

namespace Go.Proofs.Ytobhdldlhhigdaa
open Go.RowKit Go.Maps
/-- The map of the waits: what is read at each ID. -/
def WaitM (M : Int → Option Value) (f : Int → Int) : Prop := ∀ x, (M x).getD (.int .i64 0) = .int .i64 (f x)
set_option maxRecDepth 100000 in
theorem bd_step {n k j L c : Nat} (h : n ≤ (k + 1) * c + j) (hj : j ≤ L) (hL : L ≤ c) : n ≤ (k + 1 + 1) * c := by
 rw [Nat.add_mul (k + 1) 1, Nat.one_mul]
 omega
set_option maxRecDepth 100000 in
theorem midW_le (ls : List Q4) (out : List Int) (id : Int) (k : Nat) (x : Int) : midW ls out id k x ≤ ls.length := by
 unfold midW
 have h1 := cntW_le (ls.take k) (out ++ [id]) x
 have h2 := cntW_le (ls.drop k) out x
 rw [List.length_take] at h1
 rw [List.length_drop] at h2
 omega
/-- What the map of those that are done says. -/
def DoneM (D : Int → Option Value) (out : List Int) : Prop := ∀ x, (D x).getD (.bool false) = .bool (out.contains x)
set_option maxRecDepth 100000 in
theorem idx_find {ns : List Q4} {p : Q4 → Bool} {k : Nat} (h : ns.findIdx? p = some k) : ∃ x, ns[k]? = some x ∧ k < ns.length ∧ ns.find? p = some x := by
 obtain ⟨hk, h1, h2⟩ := List.findIdx?_eq_some_iff_getElem.1 h
 refine ⟨ns[k], List.getElem?_eq_getElem hk, hk, ?_⟩
 rw [List.find?_eq_some_iff_getElem]
 exact ⟨h1, k, hk, rfl, fun j hj => by simpa using h2 j hj⟩
set_option maxRecDepth 100000 in
theorem idx_none {ns : List Q4} {p : Q4 → Bool} (h : ns.findIdx? p = none) : ns.find? p = none := by
 rw [List.findIdx?_eq_none_iff] at h
 rw [List.find?_eq_none]
 exact fun x hx => by simpa using h x hx
set_option maxRecDepth 100000 in
theorem free_int (ls : List Q4) (out : List Int) (n : Q4) : (!out.contains n.a && ((cntW ls out n.a : Int) == 0)) = freeN ls out n := by
 rw [free_cnt]
 congr 1
 apply Bool.eq_iff_iff.2
 simp only [beq_iff_eq]
 omega
set_option maxRecDepth 100000 in
theorem left_none {ns ls : List Q4} {out : List Int} (h : runN ns ls (leftN ns out) out = orderL ns ls) (hn : out.length + leftN ns out ≤ ns.length) (hk : out.length = ns.length) : out = orderL ns ls := by
 have : leftN ns out = 0 := by omega
 rw [this] at h
 exact h
set_option maxRecDepth 100000 in
set_option maxHeartbeats 16000000 in
theorem order_any (A A2 : Option Addr) (c c2 : Nat) (ns ls : List Q4) (w : World) (h : Qs w A ns) (hl : ns.length ≤ 100000) (h2 : Qs w A2 ls) (hl2 : ls.length ≤ 100000) (hr : ∀ n ∈ ns, In64 n.a) (hr2 : ∀ l ∈ ls, In64 l.c) :
 Calls Try.prog 68 #[.agg #[.slice A ns.length c, .slice A2 ls.length c2]] w fun e w' => (∃ v, e = .returned v ∧ OwnI w' w.heap.size v (orderL ns ls)) ∧ Grows w w' := by
 have hmm := @run_makeMap Try.prog
 have HRn := Lib.hid hr
 have HRl := Lib.hid hr2
 clear hr hr2
 have k1 := Blk.new w 26 #[.slice A ns.length c, .slice A2 ls.length c2]
 have hB := (Below.refl w.heap.size w).alloc (Nat.le_refl _) (Obj.cells #[.slice A ns.length c, .slice A2 ls.length c2] 26)
 go_enter Try.func68, Try.ntmps68
 go_upto_region 1 with fail
 generalize World.alloc w _ = w1 at *
 have hm := mapT_made TI w1
 have hq := (Below.refl w1.heap.size w1).alloc (Nat.le_refl _) (Obj.map #[] 0)
 go_upto_region 2 with fail
 have hge : w.heap.size ≤ w1.heap.size := hB.size
 have hq1 := (Below.refl (w1.alloc (Obj.map #[] 0)).heap.size (w1.alloc (Obj.map #[] 0))).alloc (Nat.le_refl _) (Obj.cells #[.map (some w1.heap.size)] 85)
 have k3 := blk_new_at (X := w1.alloc (Obj.map #[] 0)) (n := w1.heap.size + 1) (t := 85) (cs := #[.map (some w1.heap.size)]) (by simp)
 replace hB := below_grows (below_grows hB (Nat.le_refl _) hq) (Nat.le_refl _) hq1
 replace k1 := (k1.grows hq).grows hq1
 replace hm := hm.grows hq1
 clear hq hq1
 generalize World.alloc (World.alloc w1 _) _ = w2 at *
 generalize hG3 : w1.heap.size + 1 = G3 at *
 have hge3 : w.heap.size ≤ G3 := by omega
 clear hG3
 generalize w1.heap.size = Bm at *
 have x1 := k1.cell
 go_wp2_with fail
 clear x1
 go_loopw [16] (fun i wr => ∃ k : Nat, k ≤ ls.length ∧ i = .int .i64 k ∧ (∃ M n, MapT TI wr Bm n M ∧ n ≤ k ∧ Hid (WaitM M fun x => (cntW (ls.take k) [] x : Int))) ∧ Blk wr G3 85 #[.map (some Bm)] ∧ Blk wr w.heap.size 26 #[.slice A ns.length c, .slice A2 ls.length c2] ∧ Below w.heap.size w wr) (fun i _ => ls.length - (intOf i).toNat)
 case atStart => exact ⟨0, by omega, rfl, ⟨_, 0, hm, Nat.le_refl _, Lib.hid (fun x => by simp [cntW])⟩, k3, k1, hB⟩
 case round =>
  clear hm hB k3 k1
  obtain ⟨k, hk, rfl, ⟨M, n, hm, hn, HW⟩, k3, k1, hB⟩ := hrel
  by_cases hlt : k < ls.length
  ·obtain ⟨ad, l, rfl, had, hx, q0, q1, q2, q3⟩ := (h2.grows hB).elem hlt
   have HT := Lib.hid (take_snoc hx)
   have HX : Hid (In64 l.c) := Lib.hid (HRl.out l (List.mem_of_getElem? hx))
   clear hx
   have k5 := Blk.new wr 49 #[.int .i64 l.a, .int .i64 l.b, .int .i64 l.c, .int .i64 l.d]
   have hq := (Below.refl wr.heap.size wr).alloc (Nat.le_refl _) (Obj.cells #[.int .i64 l.a, .int .i64 l.b, .int .i64 l.c, .int .i64 l.d] 49)
   go_upto_region 5 with fail
   clear q0 q1 q2 q3
   replace hB := below_grows hB (Nat.le_refl _) hq
   replace hm := hm.grows hq
   replace k3 := k3.grows hq
   replace k1 := k1.grows hq
   clear hq
   generalize World.alloc wr _ = w4 at *
   generalize wr.heap.size = G5 at *
   have x5 := k5.cell
   have x3 := k3.cell 0
   obtain ⟨z, hz0⟩ : ∃ z : Int, (cntW (ls.take k) [] l.c : Int) = z := ⟨_, rfl⟩
   have hz1 : 0 ≤ z ∧ z ≤ 100000 := by
    have := cntW_le (ls.take k) [] l.c
    rw [List.length_take] at this
    omega
   have HZ := Lib.hid hz0
   have hwz : IntKind.i64.wrap (z + 1) = z + 1 := IntWalk.i64_in _ (by omega)
   clear hz0
   refine wp_region_lit ?_
   iterate 3
    refine wpList_plain rfl (fun K hK => ?_)
    go_simp
    refine hK _ _ ?_
    clear hK K
   refine wpList_lookT rfl (.tmp 20) (.tmp 22) 85 rfl rfl hm lawI Try.underlying85 (zeroI _) l.c (in64_ok HX.out) rfl ?_
   rw [show (M l.c).getD (.int .i64 0) = .int .i64 z from (HW.out l.c).trans (by dsimp only; rw [HZ.out])]
   iterate 1
    refine wpList_plain rfl (fun K hK => ?_)
    go_simp
    refine hK _ _ ?_
    clear hK K
   refine wpList_storeT rfl (.tmp 20) (.tmp 22) (.tmp 24) 85 rfl rfl hm lawI Try.underlying85 (by simp only [maxLen]; omega) l.c (in64_ok HX.out) (.int .i64 (z + 1)) rfl rfl ?_
   have hn3 := hm.ne_blk k3
   have hn1 := hm.ne_blk k1
   intro w9 hm9 hg9
   have HW2 : Hid (WaitM (fun y => if y = l.c then some (.int .i64 (z + 1)) else M y) fun y => (cntW (ls.take (k + 1)) [] y : Int)) := Lib.hid (fun y => by
    rw [HT.out]
    simp only [cntW_append]
    by_cases e : y = l.c
    ·subst e
     simp [cntW, ← HZ.out]
    ·have e2 : ¬ l.c = y := fun h => e h.symm
     have := HW.out y
     simp only [if_neg e, this]
     simp [cntW, e2])
   replace k3 := k3.grown hg9 (fun e => by injection e with e; exact hn3 e.symm)
   replace k1 := k1.grown hg9 (fun e => by injection e with e; exact hn1 e.symm)
   replace hB := hB.grown hg9 hB.size (fun q e => by injection e with e; subst e; exact hge)
   clear hm hg9 x5 x3 k5 hn3 hn1 HW
   go_wp2
   go_roundw
   case rel => exact ⟨k + 1, by omega, by go_num, ⟨_, n + 1, hm9, by omega, HW2⟩, k3, k1, hB⟩
   case measure => simp [intOf]; omega
  ·have HW0 : Hid (WaitM M fun x => (cntW ls [] x : Int)) := Lib.hid (by
    have := HW.out
    rwa [List.take_of_length_le (by omega)] at this)
   clear HW
   go_upto_region 8 with fail
   generalize wr = w4 at *
   have hbd : Bm ≠ w4.heap.size := Nat.ne_of_lt hm.lt
   have hd := mapT_made TI w4
   have hq := (Below.refl w4.heap.size w4).alloc (Nat.le_refl _) (Obj.map #[] 0)
   go_upto_region 9 with fail
   have hge4 : w.heap.size ≤ w4.heap.size := hB.size
   have hq1 := (Below.refl (w4.alloc (Obj.map #[] 0)).heap.size (w4.alloc (Obj.map #[] 0))).alloc (Nat.le_refl _) (Obj.cells #[.map (some w4.heap.size)] 113)
   have k7 := blk_new_at (X := w4.alloc (Obj.map #[] 0)) (n := w4.heap.size + 1) (t := 113) (cs := #[.map (some w4.heap.size)]) (by simp)
   replace hB := below_grows (below_grows hB (Nat.le_refl _) hq) (Nat.le_refl _) hq1
   replace k1 := (k1.grows hq).grows hq1
   replace k3 := (k3.grows hq).grows hq1
   replace hm := (hm.grows hq).grows hq1
   replace hd := hd.grows hq1
   clear hq hq1
   generalize World.alloc (World.alloc w4 _) _ = w5 at *
   generalize hG7 : w4.heap.size + 1 = G7 at *
   have hge7 : w.heap.size ≤ G7 := by omega
   clear hG7
   generalize w4.heap.size = Bd at *
   have x1 := k1.cell
   go_wp2_with fail
   clear x1
   go_loopw [6, 30] (fun v i wr => ∃ (k : Nat) (out : List Int), k ≤ ns.length ∧ i = .int .i64 k ∧ OwnI wr w.heap.size v out ∧ Hid (runN ns ls (leftN ns out) out = orderL ns ls ∧ out.length + leftN ns out ≤ ns.length ∧ out.length = k) ∧ (∃ M n, MapT TI wr Bm n M ∧ n ≤ (k + 1) * 100000 ∧ Hid (WaitM M fun x => (cntW ls out x : Int))) ∧ (∃ D, MapT TI wr Bd k D ∧ Hid (DoneM D out)) ∧ Blk wr G3 85 #[.map (some Bm)] ∧ Blk wr G7 113 #[.map (some Bd)] ∧ Blk wr w.heap.size 26 #[.slice A ns.length c, .slice A2 ls.length c2] ∧ Below w.heap.size w wr) (fun _ i _ => ns.length - (intOf i).toNat)
   case atStart => exact ⟨0, [], by omega, rfl, ownI_nil _ _, Lib.hid ⟨order_nil ns ls, by have := left_nil ns; simp only [List.length_nil]; omega, rfl⟩, ⟨M, n, hm, by omega, HW0⟩, ⟨_, hd, Lib.hid (fun x => rfl)⟩, k3, k7, k1, hB⟩
   case round =>
    clear hB k1 k3 k7 hm hd HW0 hn
    obtain ⟨k, out, hk, rfl, hown, HR, ⟨M, n, hm, hn, HW⟩, ⟨D, hd, HD⟩, k3, k7, k1, hB⟩ := hrel
    obtain ⟨A3, c3, rfl, hc3, hi⟩ := hown.read
    by_cases hlt : k < ns.length
    ·have x1 := k1.cell
     have x3 := k3.cell 0
     have x7 := k7.cell 0
     generalize wr = w0 at *
     go_wp2_with fail
     have hol : out.length ≤ 100000 := by have := HR.out.2.2; omega
     refine (index_any A c ns (freeN ls out) G7 G3 _ (h.grows hB) (by omega) ?_).mono ?_
     ·intro x hx w1 hq
      have hc := order1_any x G7 G3 Bd Bm k n D M (out.contains x.a) (cntW ls out x.a) w1 (k7.grows hq) (k3.grows hq) (hd.grows hq) (hm.grows hq) (HRn.out x hx) (HD.out x.a) (HW.out x.a)
      rw [free_int] at hc
      exact hc
     rintro e w5 ⟨he, hq⟩
     replace hB := below_grows hB (Nat.le_refl _) hq
     replace k1 := k1.grows hq
     replace k3 := k3.grows hq
     replace k7 := k7.grows hq
     replace hm := hm.grows hq
     replace hd := hd.grows hq
     replace hown := hown.grows hq
     clear hq x1 x3 x7 hi
     cases hidx : ns.findIdx? (freeN ls out) with
     | none =>
      rw [hidx] at he
      simp only [placeV] at he
      subst he
      have HE : Hid (out = orderL ns ls) := Lib.hid (order_end (idx_none hidx) HR.out.1)
      clear hidx
      go_wp2
      go_ret
      refine ⟨⟨_, rfl, ?_⟩, hB⟩
      rw [← HE.out]
      exact hown
     | some k2 =>
      rw [hidx] at he
      simp only [placeV] at he
      subst he
      obtain ⟨x, hx, hk2, hnx⟩ := idx_find hidx
      clear hidx
      obtain ⟨ad, x', e1, had, hx', q0, q1, q2, q3⟩ := (h.grows hB).elem hk2
      rw [hx] at hx'
      injection hx' with hx'
      subst hx' e1
      have HIx : Hid (In64 x.a) := Lib.hid (HRn.out x (List.mem_of_getElem? hx))
      have HNX : Hid (nextN ns ls out = some x) := Lib.hid hnx
      have HNI : Hid (x.a ∉ out) := Lib.hid (free_new (next_some hnx).2)
      clear hx hnx
      have x1 := k1.cell
      have x7 := k7.cell 0
      have hk20 : ¬ ((k2 : Int) < 0) := by omega
      go_upto_region 14 with fail
      clear x1 q0 q1 q2 q3
      refine wp_region_lit ?_
      iterate 2
       refine wpList_plain rfl (fun K hK => ?_)
       go_simp
       refine hK _ _ ?_
       clear hK K
      have n1 := hd.ne_blk k1
      have n3 := hd.ne_blk k3
      have n7 := hd.ne_blk k7
      have no := hd.ne_own hown
      refine wpList_storeT rfl (.tmp 44) (.tmp 45) (.const (.bool true)) 113 rfl rfl hd lawI Try.underlying113 (by simp only [maxLen]; omega) x.a (in64_ok HIx.out) (.bool true) rfl rfl ?_
      intro w9 hd9 hg9
      have HD2 : Hid (DoneM (fun y => if y = x.a then some (.bool true) else D y) (out ++ [x.a])) := Lib.hid (fun y => by
       by_cases e : y = x.a
       ·subst e
        simp
       ·have h0 := HD.out y
        simp only [if_neg e, h0]
        simp [e])
      replace k1 := k1.grown hg9 (fun e => by injection e with e; exact n1 e.symm)
      replace k3 := k3.grown hg9 (fun e => by injection e with e; exact n3 e.symm)
      replace k7 := k7.grown hg9 (fun e => by injection e with e; exact n7 e.symm)
      replace hm := hm.kept hg9 (fun e => by injection e with e; exact hbd e)
      replace hown : OwnI w9 w.heap.size _ out := World.ownsRow.kept hown hg9 (.inr (fun e => no e.symm))
      replace hB := hB.grown hg9 hB.size (fun q e => by injection e with e; subst e; exact hge4)
      generalize hD2 : (fun y => if y = x.a then some (.bool true) else D y) = D2 at *
      clear hD2 hd hg9 n1 n3 n7 no HD x7
      go_upto_region 15 with fail
      refine wp_region_lit ?_
      iterate 3
       refine wpList_plain rfl (fun K hK => ?_)
       go_simp
       refine hK _ _ ?_
       clear hK K
      have hq := (Below.refl w9.heap.size w9).alloc (Nat.le_refl _) (Obj.cells #[.int .i64 x.a] 3)
      replace hB := below_grows hB (Nat.le_refl _) hq
      replace hown := hown.grows hq
      replace k1 := k1.grows hq
      replace k3 := k3.grows hq
      replace k7 := k7.grows hq
      replace hm := hm.grows hq
      replace hd9 := hd9.grows hq
      refine wpList_append_int rfl (.tmp 46) (.tmp 48) rfl (m := [x.a]) rfl rfl hown rfl (ints_lit w9 x.a) (by simp; omega) hB.size ?_
      intro v3 w10 hown3 hgr3 _
      have hB5 := hown.below hB hgr3 hB.size
      replace k1 := k1.grown hgr3 (fun e => own_blk_ne hown k1 (by decide) e.symm)
      replace k3 := k3.grown hgr3 (fun e => own_blk_ne hown k3 (by decide) e.symm)
      replace k7 := k7.grown hgr3 (fun e => own_blk_ne hown k7 (by decide) e.symm)
      replace hm := hm.kept hgr3 (hm.ne_own hown)
      replace hd9 := hd9.kept hgr3 (hd9.ne_own hown)
      clear hown hq hB hgr3
      have x1 := k1.cell
      go_wp2_with fail
      clear x1
      have hn0 : n ≤ (k + 1) * 100000 + 0 := Nat.le_add_right_of_le hn
      have HW0 : Hid (WaitM M fun y => (midW ls out x.a 0 y : Int)) := Lib.hid (fun y => by
       have h0 := HW.out y
       rw [h0]
       dsimp only
       rw [midW_zero])
      go_loopw [53] (fun i wr => ∃ j : Nat, j ≤ ls.length ∧ i = .int .i64 j ∧ OwnI wr w.heap.size v3 (out ++ [x.a]) ∧ (∃ M n, MapT TI wr Bm n M ∧ n ≤ (k + 1) * 100000 + j ∧ Hid (WaitM M fun y => (midW ls out x.a j y : Int))) ∧ MapT TI wr Bd (k + 1) D2 ∧ Blk wr G3 85 #[.map (some Bm)] ∧ Blk wr G7 113 #[.map (some Bd)] ∧ Blk wr w.heap.size 26 #[.slice (some ad) ns.length c, .slice A2 ls.length c2] ∧ Below w.heap.size w wr) (fun i _ => ls.length - (intOf i).toNat)
      case atStart => exact ⟨0, by omega, rfl, hown3, ⟨M, n, hm, hn0, HW0⟩, hd9, k3, k7, k1, hB5⟩
      case round =>
       clear hown3 hm hn hn0 HW HW0 hd9 k3 k7 k1 hB5
       obtain ⟨j, hj, rfl, hown, ⟨M, n, hm, hn, HW⟩, hd, k3, k7, k1, hB⟩ := hrel
       by_cases hlt2 : j < ls.length
       ·obtain ⟨ad2, l, e2, had2, hx, q0, q1, q2, q3⟩ := (h2.grows hB).elem hlt2
        subst e2
        have HM : Hid (∀ y, midW ls out x.a j y = midW ls out x.a (j + 1) y + (if l.a = x.a ∧ l.c = y then 1 else 0)) := Lib.hid (fun y => midW_step hx HNI.out)
        have HX : Hid (In64 l.c) := Lib.hid (HRl.out l (List.mem_of_getElem? hx))
        clear hx
        have k11 := Blk.new wr 49 #[.int .i64 l.a, .int .i64 l.b, .int .i64 l.c, .int .i64 l.d]
        have hq := (Below.refl wr.heap.size wr).alloc (Nat.le_refl _) (Obj.cells #[.int .i64 l.a, .int .i64 l.b, .int .i64 l.c, .int .i64 l.d] 49)
        go_upto_region 19 with fail
        clear q0 q1 q2 q3
        replace hB := below_grows hB (Nat.le_refl _) hq
        replace hm := hm.grows hq
        replace hd := hd.grows hq
        replace hown := hown.grows hq
        replace k3 := k3.grows hq
        replace k7 := k7.grows hq
        replace k1 := k1.grows hq
        clear hq
        generalize World.alloc wr _ = w4 at *
        generalize wr.heap.size = G11 at *
        have x11 := k11.cell
        have x3 := k3.cell 0
        cases e2 : l.a == x.a
        ·have e3 : ¬ l.a = x.a := by simpa using e2
         have HW2 : Hid (WaitM M fun y => (midW ls out x.a (j + 1) y : Int)) := Lib.hid (fun y => by
          have h0 := HW.out y
          rw [h0]
          dsimp only
          rw [HM.out y, if_neg (fun h => e3 h.1)]
          rfl)
         clear e3
         go_wp2
         go_roundw
         case rel => exact ⟨j + 1, by omega, by go_num, hown, ⟨M, n, hm, by omega, HW2⟩, hd, k3, k7, k1, hB⟩
         case measure => simp [intOf]; omega
        ·have e3 : l.a = x.a := by simpa using e2
         obtain ⟨z, hz0⟩ : ∃ z : Int, (midW ls out x.a j l.c : Int) = z := ⟨_, rfl⟩
         have HZ2 : Hid ((midW ls out x.a (j + 1) l.c : Int) = z - 1) := Lib.hid (by
          have h0 := HM.out l.c
          rw [if_pos ⟨e3, rfl⟩] at h0
          omega)
         have hz1 : 1 ≤ z ∧ z ≤ 100000 := by
          have h0 := HZ2.out
          have h1 := midW_le ls out x.a j l.c
          omega
         have HE3 := Lib.hid e3
         have HZ := Lib.hid hz0
         have hwz : IntKind.i64.wrap (z - 1) = z - 1 := IntWalk.i64_in _ (by omega)
         clear hz0 e3
         go_upto_region 20 with fail
         refine wp_region_lit ?_
         iterate 3
          refine wpList_plain rfl (fun K hK => ?_)
          go_simp
          refine hK _ _ ?_
          clear hK K
         refine wpList_lookT rfl (.tmp 61) (.tmp 63) 85 rfl rfl hm lawI Try.underlying85 (zeroI _) l.c (in64_ok HX.out) rfl ?_
         rw [show (M l.c).getD (.int .i64 0) = .int .i64 z from (HW.out l.c).trans (by dsimp only; rw [HZ.out])]
         iterate 1
          refine wpList_plain rfl (fun K hK => ?_)
          go_simp
          refine hK _ _ ?_
          clear hK K
         have n1 := hm.ne_blk k1
         have n3 := hm.ne_blk k3
         have n7 := hm.ne_blk k7
         have no := hm.ne_own hown
         refine wpList_storeT rfl (.tmp 61) (.tmp 63) (.tmp 65) 85 rfl rfl hm lawI Try.underlying85 (by simp only [maxLen]; omega) l.c (in64_ok HX.out) (.int .i64 (z - 1)) rfl rfl ?_
         intro w9 hm9 hg9
         have HW2 : Hid (WaitM (fun y => if y = l.c then some (.int .i64 (z - 1)) else M y) fun y => (midW ls out x.a (j + 1) y : Int)) := Lib.hid (fun y => by
          by_cases e : y = l.c
          ·subst e
           simp only [if_true, Option.getD_some]
           rw [HZ2.out]
          ·have h0 := HW.out y
           simp only [if_neg e, h0]
           rw [HM.out y, if_neg (fun h => e h.2.symm)]
           rfl)
         replace k1 := k1.grown hg9 (fun e => by injection e with e; exact n1 e.symm)
         replace k3 := k3.grown hg9 (fun e => by injection e with e; exact n3 e.symm)
         replace k7 := k7.grown hg9 (fun e => by injection e with e; exact n7 e.symm)
         replace hd := hd.kept hg9 (fun e => by injection e with e; exact hbd e.symm)
         replace hown : OwnI w9 w.heap.size _ (out ++ [x.a]) := World.ownsRow.kept hown hg9 (.inr (fun e => no e.symm))
         replace hB := hB.grown hg9 hB.size (fun q e => by injection e with e; subst e; exact hge)
         clear hm hg9 x11 x3 k11 n1 n3 n7 no HW
         go_wp2
         go_roundw
         case rel => exact ⟨j + 1, by omega, by go_num, hown, ⟨_, n + 1, hm9, by omega, HW2⟩, hd, k3, k7, k1, hB⟩
         case measure => simp [intOf]; omega
       ·have HW2 : Hid (WaitM M fun y => (cntW ls (out ++ [x.a]) y : Int)) := Lib.hid (fun y => by
         have h0 := HW.out y
         rw [h0]
         dsimp only
         rw [midW_end ls out x.a y (Nat.le_of_not_lt hlt2)])
        have HL := Lib.hid (left_lt HNX.out)
        have HS := Lib.hid (order_step HNX.out HR.out.1)
        have HR2 : Hid (runN ns ls (leftN ns (out ++ [x.a])) (out ++ [x.a]) = orderL ns ls ∧ (out ++ [x.a]).length + leftN ns (out ++ [x.a]) ≤ ns.length ∧ (out ++ [x.a]).length = k + 1) := Lib.hid (by
         have h1 := HR.out.2
         have h3 := HL.out
         refine ⟨HS.out, ?_, ?_⟩
         ·rw [List.length_append]; simp only [List.length_singleton]; omega
         ·rw [List.length_append]; simp only [List.length_singleton]; omega)
        have HN2 : Hid (n ≤ (k + 1 + 1) * 100000) := Lib.hid (bd_step hn hj hl2)
        go_wp2
        go_roundw
        case rel => exact ⟨k + 1, out ++ [x.a], by omega, by go_num, hown, HR2, ⟨M, n, hm, HN2.out, HW2⟩, ⟨D2, hd, HD2⟩, k3, k7, k1, hB⟩
        case measure => simp [intOf]; omega
    ·have HE : Hid (out = orderL ns ls) := Lib.hid (left_none HR.out.1 HR.out.2.1 (by have := HR.out.2.2; omega))
     go_wp2
     go_ret
     refine ⟨⟨_, rfl, ?_⟩, hB⟩
     rw [← HE.out]
     exact hown
end Go.Proofs.Ytobhdldlhhigdaa
