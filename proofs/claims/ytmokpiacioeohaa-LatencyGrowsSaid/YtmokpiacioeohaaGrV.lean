/-
  Graphs: the longest path, of the program. Plain contract.
-/
import Derived.Test.YtmokpiacioeohaaGrU
import Derived.Test.YtmokpiacioeohaaExtra
import Derived.StillTailTactics
namespace Go.Proofs.Ytmokpiacioeohaa
open Go.RowKit Go.Maps
/-- The weight of a node, 0 if it is none. -/
def wOf (ns : List Q4) (ws : List Int) (x : Int) : Int := match placeN ns x with | some k => ws.getD k 0 | none => 0
def badW (x : Int) : Bool := decide (x < 0) || decide (1099511627776 < x)
def okW (ns : List Q4) (ws : List Int) : Bool := ws.length == ns.length && !ws.any badW
def longG (ns ls : List Q4) (ws : List Int) (a b : Int) : Int × Int :=
  if validG ns ls = true ∧ okW ns ws = true then
    (if (placeN ns a).isSome = true ∧ (placeN ns b).isSome = true then (match longS (wOf ns ws) ls (orderL ns ls) a b with | none => (0, 13) | some v => (v, 0)) else (0, 7))
  else (0, 1)
theorem long_no1 {ns ls : List Q4} {ws : List Int} {a b : Int} (h : validG ns ls = false) : longG ns ls ws a b = (0, 1) := by simp [longG, h]
theorem long_no2 {ns ls : List Q4} {ws : List Int} {a b : Int} (h : okW ns ws = false) : longG ns ls ws a b = (0, 1) := by simp [longG, h]
theorem long_no3 {ns ls : List Q4} {ws : List Int} {a b : Int} (h : validG ns ls = true) (h2 : okW ns ws = true) (h3 : (placeN ns a).isSome = false ∨ (placeN ns b).isSome = false) : longG ns ls ws a b = (0, 7) := by
  unfold longG
  rw [if_pos ⟨h, h2⟩, if_neg]
  rintro ⟨h4, h5⟩
  rcases h3 with h3 | h3
  · rw [h3] at h4; cases h4
  · rw [h3] at h5; cases h5
theorem long_yes {ns ls : List Q4} {ws : List Int} {a b : Int} (h : validG ns ls = true) (h2 : okW ns ws = true) (h3 : (placeN ns a).isSome = true) (h4 : (placeN ns b).isSome = true) : longG ns ls ws a b = match longS (wOf ns ws) ls (orderL ns ls) a b with | none => (0, 13) | some v => (v, 0) := by
  unfold longG
  rw [if_pos ⟨h, h2⟩, if_pos ⟨h3, h4⟩]
theorem okW_at {ns : List Q4} {ws : List Int} (h : okW ns ws = true) (k : Nat) : 0 ≤ ws.getD k 0 ∧ ws.getD k 0 ≤ 1099511627776 := by
  unfold okW at h
  simp only [Bool.and_eq_true, Bool.not_eq_true', List.any_eq_false, badW, Bool.or_eq_true, decide_eq_true_eq] at h
  rw [List.getD_eq_getElem?_getD]
  cases e : ws[k]? with
  | none => simp
  | some x =>
    have := h.2 x (List.mem_of_getElem? e)
    simp only [Option.getD_some]
    omega
theorem wb_of {ns : List Q4} {ws : List Int} (h : okW ns ws = true) : WB (wOf ns ws) := by
  intro y
  unfold wOf
  cases placeN ns y with
  | none => simp
  | some k => exact okW_at h k
theorem placeN_some {ns : List Q4} {x : Int} {k : Nat} (h : placeN ns x = some k) : ∃ n, ns[k]? = some n ∧ n.a = x := by
  unfold placeN at h
  obtain ⟨hk, h1, _⟩ := List.findIdx?_eq_some_iff_getElem.1 h
  exact ⟨ns[k], List.getElem?_eq_getElem hk, by simpa using h1⟩
theorem place_none {ns : List Q4} {x : Int} (h : ∀ n ∈ ns, n.a ≠ x) : placeN ns x = none := by
  unfold placeN
  rw [List.findIdx?_eq_none_iff]
  exact fun n hn => by simpa using h n hn
theorem place_in {ns : List Q4} {n : Q4} (hn : n ∈ ns) : (placeN ns n.a).isSome = true := by
  cases e : placeN ns n.a with
  | some k => rfl
  | none =>
    unfold placeN at e
    rw [List.findIdx?_eq_none_iff] at e
    have := e n hn
    simp at this
theorem place_snoc {ns : List Q4} (h : ns.Pairwise fun x y => x.a < y.a) {k : Nat} {n : Q4} (hx : ns[k]? = some n) (y : Int) : placeN (ns.take (k + 1)) y = if y = n.a then some k else placeN (ns.take k) y := by
  obtain ⟨hk, hx2⟩ := List.getElem?_eq_some_iff.1 hx
  have hl : (ns.take k).length = k := by rw [List.length_take]; omega
  rw [take_snoc hx]
  unfold placeN
  rw [List.findIdx?_append]
  by_cases e : y = n.a
  · subst e
    have h0 : (ns.take k).findIdx? (fun m => m.a == n.a) = none := by
      rw [List.findIdx?_eq_none_iff]
      intro m hm
      obtain ⟨i, hi, rfl⟩ := List.mem_take_iff_getElem.1 hm
      have := List.pairwise_iff_getElem.1 h i k (by omega) hk (by omega)
      rw [hx2] at this
      simp only [beq_eq_false_iff_ne, ne_eq]
      omega
    rw [h0, if_pos rfl]
    simp [hl]
  · rw [if_neg e]
    have : (n.a == y) = false := by simpa using fun h => e h.symm
    cases (ns.take k).findIdx? (fun m => m.a == y) <;> simp [List.findIdx?_cons, this]
/-- The map of the weights, as far as the nodes are gone through. -/
def wMap (ns : List Q4) (ws : List Int) (k : Nat) : Int → Option Value := fun y => (placeN (ns.take k) y).map fun i => Value.int .i64 (ws.getD i 0)
theorem wMap_snoc {ns : List Q4} (h : ns.Pairwise fun x y => x.a < y.a) {ws : List Int} {k : Nat} {n : Q4} (hx : ns[k]? = some n) (y : Int) : (if y = n.a then some (Value.int .i64 (ws.getD k 0)) else wMap ns ws k y) = wMap ns ws (k + 1) y := by
  unfold wMap
  rw [place_snoc h hx]
  by_cases e : y = n.a <;> simp [e]
theorem wMap_end (ns : List Q4) (ws : List Int) (k : Nat) (hk : ns.length ≤ k) (y : Int) : (wMap ns ws k y).getD (.int .i64 0) = .int .i64 (wOf ns ws y) ∧ (wMap ns ws k y).isSome = (placeN ns y).isSome := by
  unfold wMap wOf
  rw [List.take_of_length_le hk]
  cases placeN ns y <;> exact ⟨rfl, rfl⟩
def sMap (S : Int → Option Int) : Int → Option Value := fun y => (S y).map (Value.int .i64)
theorem sMap_start (W : Int → Int) (a : Int) (y : Int) : (if y = a then some (Value.int .i64 (W a)) else none) = sMap (startL W a) y := by
  unfold sMap startL
  by_cases e : y = a <;> simp [e]
theorem sMap_step {W : Int → Int} {id : Int} {S : Int → Option Int} {l : Q4} {s : Int} (hc : l.c = id) (hs : S l.a = some s) (y : Int) : (if y = id then some (Value.int .i64 (max ((S id).getD 0) (s + W id))) else sMap S y) = sMap (relaxL W id S l) y := by
  unfold sMap
  rw [relax_of _ _ _ _ hc, hs]
  by_cases e : y = id <;> simp [e]
theorem in_mem {ls : List Q4} {id : Int} {l : Q4} (h : l ∈ inL ls id) : l ∈ ls ∧ l.c = id := by
  unfold inL at h
  rw [List.mem_filter] at h
  exact ⟨h.1, by simpa using h.2⟩
theorem fold_snoc {α β : Type} {f : β → α → β} {b : β} {l : List α} {k : Nat} {x : α} (h : l[k]? = some x) : (l.take (k + 1)).foldl f b = f ((l.take k).foldl f b) x := by
  rw [take_snoc h, List.foldl_append]
  rfl
theorem order_mem {ns ls : List Q4} {i : Int} (h : i ∈ orderL ns ls) : ∃ n ∈ ns, n.a = i := (order_run ns ls).2.1 i h
theorem order_len64 {ns ls : List Q4} (h : validG ns ls = true) : (orderL ns ls).length ≤ 64 := by
  have := valid_parts.1 h
  omega
theorem sb_at {W : Int → Int} (hW : WB W) {ls : List Q4} (hl : ls.length ≤ 256) {a : Int} : ∀ (o : List Int), SB (o.foldl (passL W ls) (startL W a)) (1099511627776 + o.length * 281474976710656) := by
  intro o
  have key : ∀ (o : List Int) (S : Int → Option Int) (k : Nat), SB S (1099511627776 + k * 281474976710656) → SB (o.foldl (passL W ls) S) (1099511627776 + (k + o.length : Nat) * 281474976710656) := by
    intro o
    induction o with
    | nil => intro S k h; simpa using h
    | cons i o ih =>
      intro S k h
      rw [List.foldl_cons]
      have := ih _ (k + 1) (sb_pass hW ls hl h i)
      rw [List.length_cons, show k + (o.length + 1) = k + 1 + o.length by omega]
      exact this
  have := key o (startL W a) 0 (by simpa using sb_start hW a)
  rw [Nat.zero_add] at this
  exact this
/-- On the way within one node: no sum is near the end of what a slot holds. -/
theorem sb_mid {W : Int → Int} (hW : WB W) {ls : List Q4} (hl : ls.length ≤ 256) {a id : Int} {o : List Int} (ho : o.length ≤ 64) {m : List Q4} (hm : m.length ≤ 256) : SB (m.foldl (relaxL W id) (o.foldl (passL W ls) (startL W a))) 100000000000000000 := by
  have h := sb_fold hW id m (sb_at hW hl (a := a) o) (by omega)
  refine h.mono ?_
  omega
section
variable {P : Program} {k : TypeId} {α : Type} {T : KeyT P k α} {w : World} {b n : Nat} {M : α → Option Value} {ops : Array Oper} {rest : List Oper} {o : Oper} {a : Act} {Q : Exit → Act → World → Prop}
theorem wpList_insertT [DecidableEq α] (hgd : o.guard = none) (m x v : Operand) (t : TypeId) (hop : o.op = Op.insert t m x v) (hm : a.eval m = .map (some b)) (h : MapT T w b n M) (K : Keyed P k) {e : TypeId} (ht : P.underlying t = some (.map k e)) (hn : n < maxLen)
    (y : α) (ha : T.ok y) (val : Value) (hx : a.eval x = T.enc y) (hv : a.eval v = val)
    (hK : ∀ w', MapT T w' b (n + 1) (fun x => if x = y then some val else M x) → w.grownBy w' (some b) → wpList P ops Q rest (a.put o.dst undef) w') : wpList P ops Q (o :: rest) a w := by
  refine wpList_plain hgd fun K' hK' => ?_
  obtain ⟨w', hrun, h1, h2⟩ := h.store K ht hn ha val
  unfold Oper.wp
  simp [execOp, hop, hm, hx, hv, hrun, Result.andThen]
  exact hK' _ _ (hK w' h1 h2)
end
theorem bad_any (x : Int) (w : World) : Calls Try.prog 28 #[.int .i64 x] w fun e w' => e = .returned (.bool (badW x)) ∧ Grows w w' := by
  go_enter Try.func28, Try.ntmps28
  go_wp2
  all_goals go_ret
  all_goals (refine ⟨ret_bool ?_, Below.refl _ _⟩; simp_all [badW])
set_option maxHeartbeats 4000000 in
theorem indexI_any (A : Option Addr) (c : Nat) (l : List Int) (w : World) (h : Ints w A l) (hl : l.length ≤ 9223372036854775807) :
    Calls Try.prog 50 #[.slice A l.length c, .func (.func 28) #[] #[]] w fun e w' => e = .returned (.int .i64 (placeV (l.findIdx? badW))) ∧ Grows w w' := by
  go_enter Try.func50, Try.ntmps50
  go_wp2_with fail
  go_loopw [8] (fun i wr => ∃ k : Nat, k ≤ l.length ∧ i = .int .i64 k ∧ Hid ((l.take k).findIdx? badW = none) ∧ Grows w wr) (fun i _ => l.length - (intOf i).toNat)
  case atStart => exact ⟨0, by omega, rfl, Lib.hid rfl, Below.refl _ _⟩
  case round =>
    obtain ⟨k, hk, rfl, hf, hB⟩ := hrel
    by_cases hlt : k < l.length
    · obtain ⟨ad, x, rfl, had, hx, q0⟩ := (h.grows hB).at_ hlt
      have HX := Lib.hid hx
      clear hx
      go_wp2_with fail
      refine (bad_any x _).mono ?_
      rintro e w2 ⟨rfl, hq⟩
      replace hB := below_grows hB (Nat.le_refl _) hq
      clear hq q0
      cases e : badW x
      · have HE : Hid ((l.take (k + 1)).findIdx? badW = none) := Lib.hid (by
          have h1 := hf.out
          rw [take_snoc HX.out]
          rw [List.findIdx?_eq_none_iff] at *
          intro y hy
          rcases List.mem_append.1 hy with hy | hy
          · exact h1 y hy
          · simp only [List.mem_singleton] at hy
            subst hy
            exact e)
        go_wp2
        go_roundw
        case rel => exact ⟨k + 1, by omega, by go_num, HE, hB⟩
        case measure => simp [intOf]; omega
      · have HE : Hid (l.findIdx? badW = some k) := Lib.hid (by
          have h1 := hf.out
          rw [List.findIdx?_eq_none_iff] at h1
          rw [List.findIdx?_eq_some_iff_getElem]
          obtain ⟨hk3, hx3⟩ := List.getElem?_eq_some_iff.1 HX.out
          refine ⟨hk3, by rw [hx3]; exact e, fun j hj => ?_⟩
          have := h1 (l[j]'(by omega)) (by
            rw [List.mem_take_iff_getElem]
            exact ⟨j, by omega, rfl⟩)
          simp only [Bool.not_eq_true]
          exact this)
        go_wp2
        go_ret
        rw [HE.out]
        exact ⟨rfl, hB⟩
    · have HE : Hid (l.findIdx? badW = none) := Lib.hid (by have := hf.out; rwa [List.take_of_length_le (by omega)] at this)
      go_wp2
      go_ret
      rw [HE.out]
      exact ⟨rfl, hB⟩
theorem place_any_bad (l : List Int) : decide (0 ≤ placeV (l.findIdx? badW)) = l.any badW := by
  cases e : l.findIdx? badW with
  | none =>
    rw [List.findIdx?_eq_none_iff] at e
    have : l.any badW = false := by rw [List.any_eq_false]; exact fun x hx => by rw [e x hx]; simp
    rw [this]
    rfl
  | some k =>
    obtain ⟨hk, h1, _⟩ := List.findIdx?_eq_some_iff_getElem.1 e
    have : l.any badW = true := List.any_eq_true.2 ⟨_, List.getElem_mem hk, h1⟩
    rw [this]
    simp [placeV]
theorem contains_bad (A : Option Addr) (c : Nat) (l : List Int) (w : World) (h : Ints w A l) (hl : l.length ≤ 9223372036854775807) :
    Calls Try.prog 30 #[.slice A l.length c, .func (.func 28) #[] #[]] w fun e w' => e = .returned (.bool (l.any badW)) ∧ Grows w w' := by
  rw [← place_any_bad]
  go_enter Try.func30, Try.ntmps30
  go_wp2_with fail
  refine (indexI_any A c l _ h hl).mono ?_
  rintro e w2 ⟨rfl, hq⟩
  generalize hz : placeV (l.findIdx? badW) = z
  have HZ := Lib.hid hz
  clear hz
  go_wp2
  go_ret
  rw [HZ.out]
  exact ⟨rfl, hq⟩
def stS (W : Int → Int) (ls : List Q4) (od : List Int) (a : Int) (k : Nat) : Int → Option Int := (od.take k).foldl (passL W ls) (startL W a)
def midS (W : Int → Int) (ls : List Q4) (od : List Int) (a : Int) (k : Nat) (id : Int) (il : List Q4) (j : Nat) : Int → Option Int := (il.take j).foldl (relaxL W id) (stS W ls od a k)
theorem mid_none {W : Int → Int} {ls il : List Q4} {od : List Int} {a id : Int} {k j : Nat} {l : Q4} (hx : il[j]? = some l) (hc : l.c = id) (hs : midS W ls od a k id il j l.a = none) : midS W ls od a k id il (j + 1) = midS W ls od a k id il j := by
  unfold midS at *
  rw [fold_snoc hx, relax_of _ _ _ _ hc, hs]
theorem mid_some {W : Int → Int} {ls il : List Q4} {od : List Int} {a id : Int} {k j : Nat} {l : Q4} (hx : il[j]? = some l) : midS W ls od a k id il (j + 1) = relaxL W id (midS W ls od a k id il j) l := by
  unfold midS at *
  rw [fold_snoc hx]
theorem mid_end {W : Int → Int} {ls : List Q4} {od : List Int} {a id : Int} {k j : Nat} (hx : od[k]? = some id) (hj : (inL ls id).length ≤ j) : midS W ls od a k id (inL ls id) j = stS W ls od a (k + 1) := by
  unfold midS stS
  rw [fold_snoc hx, List.take_of_length_le hj, pass_in]
theorem mid_sb {W : Int → Int} (hW : WB W) {ls il : List Q4} {od : List Int} {a id : Int} {k j : Nat} (hl : ls.length ≤ 256) (ho : od.length ≤ 64) (hi : il.length ≤ 256) : SB (midS W ls od a k id il j) 100000000000000000 := by
  unfold midS stS
  exact sb_mid hW hl (by rw [List.length_take]; omega) (by rw [List.length_take]; omega)
theorem OwnI.ints {w : World} {base : Nat} {A : Option Addr} {n c : Nat} {l : List Int} (h : OwnI w base (.slice A n c) l) : Ints w A l := by
  obtain ⟨A', c', e, _, hi⟩ := h.read
  injection e with e1 e2 e3
  rw [e1]
  exact hi
theorem OwnL.mono {w : World} {base base' : Nat} {v : Value} {l : List Q4} (h : OwnL w base v l) (hb : base' ≤ base) : OwnL w base' v l := ⟨h.1, h.2.imp id fun ⟨g, cap, cur, e, hg, r⟩ => ⟨g, cap, cur, e, by omega, r⟩⟩
theorem OwnL.qs {w : World} {base : Nat} {A : Option Addr} {n c : Nat} {l : List Q4} (h : OwnL w base (.slice A n c) l) : Qs w A l := by
  obtain ⟨A', c', e, _, hi⟩ := h.read
  injection e with e1 e2 e3
  rw [e1]
  exact hi
set_option maxHeartbeats 16000000 in
theorem plong_any {A A2 A3 : Option Addr} {c c2 c3 : Nat} {ns ls : List Q4} {ws : List Int} {w : World} (a b : Int) (h : GOK w A A2 c2 ns ls) (h3 : Ints w A3 ws) (hl3 : ws.length ≤ 9223372036854775807) (ha : In64 a) (hb : In64 b) :
    Calls Try.prog 17 #[.agg #[.slice A ns.length c, .slice A2 ls.length c2], .slice A3 ws.length c3, .int .i64 a, .int .i64 b] w fun e w' => e = .returned (.tuple #[.int .i64 (longG ns ls ws a b).1, .int .i64 (longG ns ls ws a b).2]) ∧ Grows w w' := by
  have hmm := @run_makeMap Try.prog
  have HIa := Lib.hid ha
  have HIb := Lib.hid hb
  clear ha hb
  have hnl := h.nl
  have k1 := Blk.new w 40 #[.slice A ns.length c, .slice A2 ls.length c2]
  have hB := (Below.refl w.heap.size w).alloc (Nat.le_refl _) (Obj.cells #[.slice A ns.length c, .slice A2 ls.length c2] 40)
  go_enter Try.func17, Try.ntmps17
  go_upto_region 2 with fail
  generalize World.alloc w _ = w1 at *
  have x1 := k1.cell
  go_wp2_with fail
  refine (pvalid_is (h.grows hB)).mono ?_
  cases hv : validG ns ls
  · have HL := Lib.hid (long_no1 (ws := ws) (a := a) (b := b) hv)
    clear hv
    rintro e w2 ⟨rfl, hq⟩
    replace hB := below_grows hB (Nat.le_refl _) hq
    clear hq x1
    go_wp2
    go_ret2
    rw [HL.out]
    exact ⟨rfl, hB⟩
  rintro e w2 ⟨rfl, hq⟩
  have HV := Lib.hid hv
  clear hv
  replace hB := below_grows hB (Nat.le_refl _) hq
  replace k1 := k1.grows hq
  clear hq x1
  have x1 := k1.cell
  by_cases hlen : ws.length = ns.length
  case neg =>
    have HL : Hid (longG ns ls ws a b = (0, 1)) := Lib.hid (long_no2 (by simp [okW, hlen]))
    have hlen2 : ((ws.length : Int) != (ns.length : Int)) = true := by
      simp only [bne_iff_ne, ne_eq]
      omega
    go_wp2
    go_ret2
    rw [HL.out]
    exact ⟨rfl, hB⟩
  have hlen2 : ((ws.length : Int) != (ns.length : Int)) = false := by
    simp only [bne_eq_false_iff_eq]
    omega
  have HLen := Lib.hid hlen
  have hln := (valid_len HV.out).1
  have hlw : ws.length ≤ ns.length := by omega
  have hlw2 : ns.length ≤ ws.length := by omega
  clear hlen
  go_wp2_with fail
  refine (contains_bad A3 c3 ws _ (h3.grows hB) hl3).mono ?_
  cases hbad : ws.any badW
  case true =>
    have HL : Hid (longG ns ls ws a b = (0, 1)) := Lib.hid (long_no2 (by simp [okW, hbad]))
    clear hbad
    rintro e w2 ⟨rfl, hq⟩
    replace hB := below_grows hB (Nat.le_refl _) hq
    clear hq x1
    go_wp2
    go_ret2
    rw [HL.out]
    exact ⟨rfl, hB⟩
  have HW : Hid (okW ns ws = true) := Lib.hid (by simp [okW, hbad, HLen.out])
  clear hbad
  rintro e w3 ⟨rfl, hq⟩
  replace hB := below_grows hB (Nat.le_refl _) hq
  replace k1 := k1.grows hq
  clear hq x1 hlen2
  have HA : Hid (ns.Pairwise fun x y => x.a < y.a) := Lib.hid (okN_asc (valid_parts.1 HV.out).2.2.1)
  go_upto_region 4 with fail
  generalize w3 = w4 at *
  have hm := mapT_made TI w4
  have hge : w.heap.size ≤ w4.heap.size := hB.size
  have hq := (Below.refl w4.heap.size w4).alloc (Nat.le_refl _) (Obj.map #[] 0)
  go_upto_region 5 with fail
  replace hB := below_grows hB (Nat.le_refl _) hq
  replace k1 := k1.grows hq
  clear hq
  generalize World.alloc w4 _ = w5 at *
  generalize w4.heap.size = Bw at *
  have x1 := k1.cell
  go_wp2_with fail
  clear x1
  go_loopw [49] (fun i wr => ∃ k : Nat, k ≤ ns.length ∧ i = .int .i64 k ∧ MapT TI wr Bw k (wMap ns ws k) ∧ Blk wr w.heap.size 40 #[.slice A ns.length c, .slice A2 ls.length c2] ∧ Below w.heap.size w wr) (fun i _ => ns.length - (intOf i).toNat)
  case atStart => exact ⟨0, by omega, rfl, hm.ext (fun y _ => by simp [wMap, placeN]), k1, hB⟩
  case round =>
    clear hm k1 hB
    obtain ⟨k, hk, rfl, hm, k1, hB⟩ := hrel
    by_cases hlt : k < ns.length
    · obtain ⟨ad, n, e1, had, hx, q0, q1, q2, q3⟩ := (h.grows hB).n.elem hlt
      obtain ⟨ad3, z, e3, had3, hz, p0⟩ := (h3.grows hB).at_ (k := k) (by omega)
      subst e1
      subst e3
      have HX := Lib.hid hx
      have HZ : Hid (ws.getD k 0 = z) := Lib.hid (by rw [List.getD_eq_getElem?_getD, hz]; rfl)
      have HI : Hid (In64 n.a) := Lib.hid (h.ni n (List.mem_of_getElem? hx))
      clear hx hz
      have k13 := Blk.new wr 59 #[.int .i64 n.a, .int .i64 n.b, .int .i64 n.c, .int .i64 n.d]
      have hq := (Below.refl wr.heap.size wr).alloc (Nat.le_refl _) (Obj.cells #[.int .i64 n.a, .int .i64 n.b, .int .i64 n.c, .int .i64 n.d] 59)
      go_upto_region 8 with fail
      have p1 := hq.cell (p := ad3.add k) (by rw [block_of_add]; exact had3)
      rw [p0] at p1
      clear q0 q1 q2 q3 p0
      replace hB := below_grows hB (Nat.le_refl _) hq
      replace hm := hm.grows hq
      replace k1 := k1.grows hq
      clear hq
      generalize World.alloc wr _ = w6 at *
      generalize wr.heap.size = G13 at *
      have x13 := k13.cell 0
      have hkw : k < ws.length := by omega
      go_still_tail 7, (by kernel_rfl)
      replace hB := below_grows hB (Nat.le_refl _) (Grows.drew' w6)
      replace hm := hm.grows (Grows.drew' w6)
      replace k1 := k1.grows (Grows.drew' w6)
      refine wpList_storeT rfl (.tmp 54) (.tmp 56) (.tmp 60) 67 rfl rfl hm lawI Try.underlying67 (by simp only [maxLen]; omega) n.a (in64_ok HI.out) (.int .i64 z) rfl rfl ?_
      have n1 := hm.ne_blk k1
      intro w7 hm7 hg7
      replace hm : MapT TI w7 Bw (k + 1) (wMap ns ws (k + 1)) := hm7.ext fun y _ => by
        rw [← HZ.out]
        exact wMap_snoc HA.out HX.out y
      replace k1 := k1.grown hg7 (fun e => by injection e with e; exact n1 e.symm)
      replace hB := hB.grown hg7 hB.size (fun q e => by injection e with e; subst e; exact hge)
      clear hm7 hg7 n1 x13 k13 p1
      go_wp2
      go_roundw
      case rel => exact ⟨k + 1, by omega, by go_num, hm, k1, hB⟩
      case measure => simp [intOf]; omega
    · have HM := Lib.hid (wMap_end ns ws k (by omega))
      generalize wMap ns ws k = Mw at *
      generalize k = KW at *
      go_upto_region 10 with fail
      refine wp_region_lit ?_
      iterate 2
        refine wpList_plain rfl (fun K hK => ?_)
        go_simp
        refine hK _ _ ?_
        clear hK K
      refine wpList_lookT_ok rfl (.tmp 63) (.tmp 64) 67 rfl rfl hm lawI Try.underlying67 (zeroI _) a (in64_ok HIa.out) rfl ?_
      rw [(HM.out a).1, (HM.out a).2]
      generalize hpa : (placeN ns a).isSome = pa
      have HPA := Lib.hid hpa
      clear hpa
      go_upto_region 11 with fail
      refine wp_region_lit ?_
      iterate 2
        refine wpList_plain rfl (fun K hK => ?_)
        go_simp
        refine hK _ _ ?_
        clear hK K
      refine wpList_lookT_ok rfl (.tmp 69) (.tmp 70) 67 rfl rfl hm lawI Try.underlying67 (zeroI _) b (in64_ok HIb.out) rfl ?_
      rw [(HM.out b).1, (HM.out b).2]
      generalize hpb : (placeN ns b).isSome = pb
      have HPB := Lib.hid hpb
      clear hpb
      generalize wr = w8 at *
      cases pa
      case false =>
        have HL := Lib.hid (long_no3 HV.out HW.out (.inl HPA.out) (b := b))
        go_wp2
        go_ret2
        rw [HL.out]
        exact ⟨rfl, hB⟩
      cases pb
      case false =>
        have HL := Lib.hid (long_no3 HV.out HW.out (.inr HPB.out) (a := a))
        go_wp2
        go_ret2
        rw [HL.out]
        exact ⟨rfl, hB⟩
      have HL := Lib.hid (long_yes HV.out HW.out HPA.out HPB.out)
      clear HPA HPB
      go_upto_region 14 with fail
      have hbm := mapT_made TI w8
      have hge8 : w.heap.size ≤ w8.heap.size := hB.size
      have hne8 : Bw ≠ w8.heap.size := Nat.ne_of_lt hm.lt
      have hq := (Below.refl w8.heap.size w8).alloc (Nat.le_refl _) (Obj.map #[] 0)
      refine wp_region_lit ?_
      iterate 4
        refine wpList_plain rfl (fun K hK => ?_)
        go_simp
        refine hK _ _ ?_
        clear hK K
      replace hB := below_grows hB (Nat.le_refl _) hq
      replace k1 := k1.grows hq
      replace hm := hm.grows hq
      clear hq
      generalize World.alloc w8 _ = w9 at *
      generalize w8.heap.size = Bb at *
      refine wpList_lookT rfl (.tmp 82) (.tmp 83) 67 rfl rfl hm lawI Try.underlying67 (zeroI _) a (in64_ok HIa.out) rfl ?_
      rw [(HM.out a).1]
      have n1 := hbm.ne_blk k1
      refine wpList_insertT rfl (.tmp 80) (.tmp 81) (.tmp 84) 67 rfl rfl hbm lawI Try.underlying67 (by simp only [maxLen]; omega) a (in64_ok HIa.out) (.int .i64 (wOf ns ws a)) rfl rfl ?_
      intro w10 hb10 hg10
      replace hbm := hb10.ext fun y _ => sMap_start (wOf ns ws) a y
      replace k1 := k1.grown hg10 (fun e => by injection e with e; exact n1 e.symm)
      replace hm := hm.kept hg10 (fun e => by injection e with e; exact hne8 e)
      replace hB := hB.grown hg10 hB.size (fun q e => by injection e with e; subst e; exact hge8)
      clear hb10 hg10 n1 w9
      have x1 := k1.cell
      go_wp2_with fail
      refine (porder_yes (h.grows hB) HV.out).mono ?_
      rintro e w11 ⟨⟨v, rfl, ho⟩, hq⟩
      replace ho := ho.mono hB.size
      replace hB := below_grows hB (Nat.le_refl _) hq
      replace k1 := k1.grows hq
      replace hm := hm.grows hq
      replace hbm := hbm.grows hq
      clear hq x1
      generalize hod : orderL ns ls = od at *
      have HOD := Lib.hid hod
      clear hod
      have hol : od.length ≤ 64 := by rw [← HOD.out]; exact order_len64 HV.out
      obtain ⟨A4, c4, rfl, hc4, -⟩ := ho.read
      go_wp2_with fail
      have HWB := Lib.hid (wb_of HW.out)
      have hLs := (valid_len HV.out).2
      go_loopw [93] (fun i wr => ∃ k : Nat, k ≤ od.length ∧ i = .int .i64 k ∧ (∃ n, MapT TI wr Bb n (sMap (stS (wOf ns ws) ls od a k)) ∧ n ≤ 1 + k * 256) ∧ MapT TI wr Bw KW Mw ∧ OwnI wr w.heap.size (.slice A4 od.length c4) od ∧ Blk wr w.heap.size 40 #[.slice A ns.length c, .slice A2 ls.length c2] ∧ Below w.heap.size w wr) (fun i _ => od.length - (intOf i).toNat)
      case atStart => exact ⟨0, by omega, rfl, ⟨1, hbm, by omega⟩, hm, ho, k1, hB⟩
      case round =>
        clear hm k1 hB hbm ho
        obtain ⟨k, hk, rfl, ⟨n, hbm, hn⟩, hm, ho, k1, hB⟩ := hrel
        by_cases hlt : k < od.length
        · obtain ⟨ad, id, e1, had, hx, q0⟩ := ho.ints.at_ hlt
          subst e1
          have HX := Lib.hid hx
          have HIid : Hid (In64 id) := Lib.hid (by
            obtain ⟨m, hm1, hm2⟩ := order_mem (ns := ns) (ls := ls) (i := id) (by rw [HOD.out]; exact List.mem_of_getElem? hx)
            rw [← hm2]
            exact h.ni m hm1)
          clear hx
          have x1 := k1.cell
          go_wp2_with fail
          refine (inputs_any id (h.grows hB) HV.out).mono ?_
          rintro e w12 ⟨⟨v2, rfl, ho2⟩, hq⟩
          replace ho2 := ho2.mono hB.size
          replace hB := below_grows hB (Nat.le_refl _) hq
          replace k1 := k1.grows hq
          replace hm := hm.grows hq
          replace hbm := hbm.grows hq
          replace ho := ho.grows hq
          clear hq x1 q0
          have HN := Lib.hid (in_len ls id)
          generalize hil : inL ls id = il at *
          have HIL := Lib.hid hil
          clear hil
          have hil6 : il.length ≤ 256 := by have := HN.out; omega
          clear HN
          obtain ⟨A5, c5, rfl, hc5, -⟩ := ho2.read
          go_wp2_with fail
          go_loopw [101] (fun i wr => ∃ j : Nat, j ≤ il.length ∧ i = .int .i64 j ∧ (∃ n, MapT TI wr Bb n (sMap (midS (wOf ns ws) ls od a k id il j)) ∧ n ≤ 1 + k * 256 + j) ∧ MapT TI wr Bw KW Mw ∧ OwnI wr w.heap.size (.slice (some ad) od.length c4) od ∧ OwnL wr w.heap.size (.slice A5 il.length c5) il ∧ Blk wr w.heap.size 40 #[.slice A ns.length c, .slice A2 ls.length c2] ∧ Below w.heap.size w wr) (fun i _ => il.length - (intOf i).toNat)
          case atStart => exact ⟨0, by omega, rfl, ⟨n, hbm, by omega⟩, hm, ho, ho2, k1, hB⟩
          case round =>
            clear hm k1 hB hbm ho ho2 hn
            obtain ⟨j, hj, rfl, ⟨n, hbm, hn⟩, hm, ho, ho2, k1, hB⟩ := hrel
            by_cases hlt2 : j < il.length
            · obtain ⟨ad2, l, e2, had2, hx2, q0, q1, q2, q3⟩ := ho2.qs.elem hlt2
              subst e2
              have HX2 := Lib.hid hx2
              have HLM : Hid (l ∈ ls ∧ l.c = id) := Lib.hid (in_mem (by rw [HIL.out]; exact List.mem_of_getElem? hx2))
              have HIl : Hid (In64 l.a) := Lib.hid (h.li l HLM.out.1).1
              clear hx2
              have k24 := Blk.new wr 52 #[.int .i64 l.a, .int .i64 l.b, .int .i64 l.c, .int .i64 l.d]
              have hq := (Below.refl wr.heap.size wr).alloc (Nat.le_refl _) (Obj.cells #[.int .i64 l.a, .int .i64 l.b, .int .i64 l.c, .int .i64 l.d] 52)
              go_upto_region 22 with fail
              clear q0 q1 q2 q3
              replace hB := below_grows hB (Nat.le_refl _) hq
              replace hbm := hbm.grows hq
              replace hm := hm.grows hq
              replace ho := ho.grows hq
              replace ho2 := ho2.grows hq
              replace k1 := k1.grows hq
              clear hq
              generalize World.alloc wr _ = w13 at *
              generalize wr.heap.size = G24 at *
              have x24 := k24.cell 0
              refine wp_region_lit ?_
              iterate 3
                refine wpList_plain rfl (fun K hK => ?_)
                go_simp
                refine hK _ _ ?_
                clear hK K
              cases hs : midS (wOf ns ws) ls od a k id il j l.a with
              | none =>
                have HS : Hid (midS (wOf ns ws) ls od a k id il (j + 1) = midS (wOf ns ws) ls od a k id il j) := Lib.hid (mid_none HX2.out HLM.out.2 hs)
                refine wpList_lookT_miss rfl (.tmp 106) (.tmp 108) 67 rfl rfl hbm lawI Try.underlying67 (zeroI _) l.a (in64_ok HIl.out) rfl (by rw [sMap, hs]; rfl) ?_
                clear hs x24 k24
                go_wp2
                go_roundw
                case rel => exact ⟨j + 1, by omega, by go_num, ⟨n, by rw [HS.out]; exact hbm, by omega⟩, hm, ho, ho2, k1, hB⟩
                case measure => simp [intOf]; omega
              | some s =>
                refine wpList_lookT_hit rfl (.tmp 106) (.tmp 108) 67 rfl rfl hbm lawI Try.underlying67 (zeroI _) l.a (in64_ok HIl.out) rfl (v := .int .i64 s) (by rw [sMap, hs]; rfl) ?_
                have hsb := mid_sb HWB.out (a := a) (od := od) (k := k) (id := id) (il := il) (j := j) hLs hol hil6
                obtain ⟨t, ht⟩ : ∃ t, ((midS (wOf ns ws) ls od a k id il j) id).getD 0 = t := ⟨_, rfl⟩
                obtain ⟨wid, hwid⟩ : ∃ wid, wOf ns ws id = wid := ⟨_, rfl⟩
                have hs1 := hsb _ _ hs
                have hw1 : 0 ≤ wid ∧ wid ≤ 1099511627776 := hwid ▸ HWB.out id
                have HS : Hid (∀ y, (if y = id then some (Value.int .i64 (max t (s + wid))) else sMap (midS (wOf ns ws) ls od a k id il j) y) = sMap (midS (wOf ns ws) ls od a k id il (j + 1)) y) := Lib.hid (fun y => by
                  rw [← ht, ← hwid, mid_some HX2.out]
                  exact sMap_step HLM.out.2 hs y)
                have HT : Hid ((sMap (midS (wOf ns ws) ls od a k id il j) id).getD (.int .i64 0) = .int .i64 t) := Lib.hid (by
                  rw [← ht, sMap]
                  cases midS (wOf ns ws) ls od a k id il j id <;> rfl)
                have HWI : Hid ((Mw id).getD (.int .i64 0) = .int .i64 wid) := Lib.hid (by rw [(HM.out id).1, hwid])
                have hwr : IntKind.i64.wrap (s + wid) = s + wid := IntWalk.i64_in _ (by omega)
                clear hs hsb ht hwid x24 k24
                go_upto_region 24 with fail
                refine wp_region_lit ?_
                iterate 4
                  refine wpList_plain rfl (fun K hK => ?_)
                  go_simp
                  refine hK _ _ ?_
                  clear hK K
                refine wpList_lookT rfl (.tmp 115) (.tmp 116) 67 rfl rfl hbm lawI Try.underlying67 (zeroI _) id (in64_ok HIid.out) rfl ?_
                rw [HT.out]
                iterate 3
                  refine wpList_plain rfl (fun K hK => ?_)
                  go_simp
                  refine hK _ _ ?_
                  clear hK K
                refine wpList_lookT rfl (.tmp 119) (.tmp 120) 67 rfl rfl hm lawI Try.underlying67 (zeroI _) id (in64_ok HIid.out) rfl ?_
                rw [HWI.out]
                iterate 1
                  refine wpList_plain rfl (fun K hK => ?_)
                  go_simp
                  refine hK _ _ ?_
                  clear hK K
                refine wpList_max2 rfl (.tmp 117) (.tmp 122) _ rfl .i64 t (s + wid) rfl rfl ?_
                have n1 := hbm.ne_blk k1
                have no := hbm.ne_own ho
                have no2 := hbm.ne_own ho2
                refine wpList_storeT rfl (.tmp 113) (.tmp 114) (.tmp 123) 67 rfl rfl hbm lawI Try.underlying67 (by simp only [maxLen]; omega) id (in64_ok HIid.out) (.int .i64 (max t (s + wid))) rfl rfl ?_
                intro w14 hb14 hg14
                replace hbm := hb14.ext fun y _ => HS.out y
                replace k1 := k1.grown hg14 (fun e => by injection e with e; exact n1 e.symm)
                replace hm := hm.kept hg14 (fun e => by injection e with e; exact hne8 e)
                replace ho : OwnI w14 w.heap.size _ od := World.ownsRow.kept ho hg14 (.inr (fun e => no e.symm))
                replace ho2 : OwnL w14 w.heap.size _ il := World.ownsRow.kept ho2 hg14 (.inr (fun e => no2 e.symm))
                replace hB := hB.grown hg14 hB.size (fun q e => by injection e with e; subst e; exact hge8)
                clear hb14 hg14 n1 no no2 hwr
                go_wp2
                go_roundw
                case rel => exact ⟨j + 1, by omega, by go_num, ⟨n + 1, hbm, by omega⟩, hm, ho, ho2, k1, hB⟩
                case measure => simp [intOf]; omega
            · have HS : Hid (midS (wOf ns ws) ls od a k id il j = stS (wOf ns ws) ls od a (k + 1)) := Lib.hid (by rw [← HIL.out]; exact mid_end HX.out (by rw [HIL.out]; omega))
              rw [HS.out] at hbm
              have hn2 : n ≤ 1 + (k + 1) * 256 := by omega
              go_wp2
              go_roundw
              case rel => exact ⟨k + 1, by omega, by go_num, ⟨n, hbm, hn2⟩, hm, ho, k1, hB⟩
              case measure => simp [intOf]; omega
        · have HS : Hid (stS (wOf ns ws) ls od a k = longS (wOf ns ws) ls od a) := Lib.hid (by unfold stS longS; rw [List.take_of_length_le (by omega)])
          rw [HS.out] at hbm
          go_upto_region 27 with fail
          refine wp_region_lit ?_
          iterate 2
            refine wpList_plain rfl (fun K hK => ?_)
            go_simp
            refine hK _ _ ?_
            clear hK K
          cases hs : longS (wOf ns ws) ls od a b with
          | none =>
            refine wpList_lookT_miss rfl (.tmp 127) (.tmp 128) 67 rfl rfl hbm lawI Try.underlying67 (zeroI _) b (in64_ok HIb.out) rfl (by rw [sMap, hs]; rfl) ?_
            rw [hs] at HL
            clear hs
            go_wp2
            go_ret2
            rw [HL.out]
            exact ⟨rfl, hB⟩
          | some s =>
            refine wpList_lookT_hit rfl (.tmp 127) (.tmp 128) 67 rfl rfl hbm lawI Try.underlying67 (zeroI _) b (in64_ok HIb.out) rfl (v := .int .i64 s) (by rw [sMap, hs]; rfl) ?_
            rw [hs] at HL
            clear hs
            go_wp2
            go_ret2
            rw [HL.out]
            exact ⟨rfl, hB⟩
end Go.Proofs.Ytmokpiacioeohaa
