/-
  Layer 37: the reference's Sort; the keys of Merge's map; small lemmas. Plain contracts.
-/
import Derived.Test.YtbmoiokpkcaccaaGsC
import Derived.Test.YtbmoiokpkcaccaaMapV
import Derived.Test.YtbmoiokpkcaccaaOwn
import Derived.DeepKeys4
namespace Go.Proofs.Ytbmoiokpkcaccaa
open Go.RowKit Go.Maps
theorem gls_addr {w : World} {A : Option Addr} {l : List Gl} (h : Gls w A l) {k : Nat} (hk : k < l.length) : ∃ ad x, A = some ad ∧ ad.block < w.heap.size ∧ l[k]? = some x ∧ ∀ w', Grows w w' → CellsG w' (ad.add (k * 6)) x := by
  obtain ⟨ad, x, e, hb, hx, _⟩ := h.elem hk
  refine ⟨ad, x, e, hb, hx, fun w' hg => ?_⟩
  obtain ⟨ad', x', e', _, hx', hc⟩ := (h.grows hg).elem hk
  rw [e] at e'
  injection e' with e'
  subst e'
  rw [hx] at hx'
  injection hx' with hx'
  subst hx'
  exact hc
set_option maxHeartbeats 4000000 in
theorem rsortf_any (A : Option Addr) (c : Nat) (l : List Gl) (w : World) (h : Gls w A l) (hl : l.length ≤ 100000) :
    Calls Try.prog 18 #[.slice A l.length c] w fun e w' => (∃ v, e = .returned v ∧ OwnG w' w.heap.size v (sortG l)) ∧ Grows w w' := by
  go_enter Try.func18, Try.ntmps18
  go_wp2_with fail
  go_loopw [3, 4] (fun v i wr => ∃ (k : Nat) (o : List Gl), k ≤ l.length ∧ i = .int .i64 k ∧ OwnG wr w.heap.size v o ∧ SortedG o ∧ o.Perm ((l.take k).filter okG) ∧ Grows w wr) (fun _ i _ => l.length - (intOf i).toNat)
  case atStart => exact ⟨0, [], by omega, rfl, ownG_nil _ _, List.Pairwise.nil, by simp, Below.refl _ _⟩
  case round =>
    obtain ⟨k, o, hk, rfl, hown, hso, hpe, hB⟩ := hrel
    have hol : o.length ≤ 100000 := by
      rw [hpe.length_eq]
      exact Nat.le_trans (List.length_filter_le _ _) (by rw [List.length_take]; omega)
    by_cases hlt : k < l.length
    · obtain ⟨ad, g, rfl, had, hx, hcx⟩ := gls_addr (h.grows hB) hlt
      have HX := Lib.hid (filter_snoc hx)
      have HPE := Lib.hid hpe
      clear hx hpe
      obtain ⟨c0, c1, c2, c3, c4, c5⟩ := hcx _ (Below.refl _ _)
      go_wp2_with fail
      refine (grvalid_g g _).mono ?_
      rintro e w5 ⟨rfl, hq⟩
      clear c0 c1 c2 c3 c4 c5
      obtain ⟨c0, c1, c2, c3, c4, c5⟩ := hcx _ hq
      replace hown := hown.grows hq
      replace hB := below_grows hB (Nat.le_refl _) hq
      clear hq hcx
      cases hok : okG g
      · have HE : Hid ((l.take (k + 1)).filter okG = (l.take k).filter okG) := Lib.hid (by rw [HX.out, hok]; simp)
        clear HX
        go_wp2
        go_roundw
        case rel => exact ⟨k + 1, o, by omega, by go_num, hown, hso, by rw [HE.out]; exact HPE.out, hB⟩
        case measure => simp [intOf]; omega
      · have HE : Hid ((l.take (k + 1)).filter okG = (l.take k).filter okG ++ [g]) := Lib.hid (by rw [HX.out, hok]; simp)
        clear HX
        obtain ⟨A2, c2', rfl, hc2, hr2, -⟩ := hown.read
        go_wp2_with fail
        refine (put_any A2 c2' o g _ hr2 (by omega) hc2).mono ?_
        rintro e w6 ⟨⟨v2, o2, rfl, hown2, hput⟩, hq⟩
        obtain ⟨hs2, hp2⟩ := put_sorted hput hso
        replace hown2 := hown2.mono hB.size
        replace hB := below_grows hB (Nat.le_refl _) hq
        have hpn : o2.Perm ((l.take (k + 1)).filter okG) := by
          rw [HE.out]
          exact hp2.trans ((List.Perm.cons g HPE.out).trans (List.perm_append_comm (l₁ := [g])))
        have HPN := Lib.hid hpn
        have HS2 := Lib.hid hs2
        clear c0 c1 c2 c3 c4 c5 hq hown hso hput hp2 hs2 hpn HE HPE hok
        go_wp2
        go_roundw
        case rel => exact ⟨k + 1, o2, by omega, by go_num, hown2, HS2.out, HPN.out, hB⟩
        case measure => simp [intOf]; omega
    · have e : l.take k = l := List.take_of_length_le (by omega)
      rw [e] at hpe
      obtain rfl := sortG_eq hpe hso
      clear e hpe hso hol
      go_wp2
      go_ret
      exact ⟨⟨_, rfl, hown⟩, hB⟩
/-- A glitch whose numbers are such as its fields can hold. -/
def WfG (g : Gl) : Prop := (-9223372036854775808 ≤ g.s ∧ g.s ≤ 9223372036854775807) ∧ (0 ≤ g.d ∧ g.d ≤ 18446744073709551615)
abbrev KeyS := Int × Int × Int
def keyG (g : Gl) : KeyS := (g.k, g.s, g.d)
def dumG (x : KeyS) : Gl := ⟨x.1, 0, 0, x.2.1, x.2.2, 0⟩
def okK (x : KeyS) : Prop := (Lit.int .i64 x.1).wf = true ∧ (Lit.int .i64 x.2.1).wf = true ∧ (Lit.int .u64 x.2.2).wf = true
def encK (x : KeyS) : Value := .agg #[.int .i64 x.1, .int .i64 x.2.1, .int .u64 x.2.2]
theorem key_ok {g : Gl} (h1 : okG g = true) (h2 : WfG g) : okK (keyG g) := by
  obtain ⟨k, a, q, s, d, f⟩ := g
  simp only [okG, Bool.and_eq_true, Bool.or_eq_true, beq_iff_eq, decide_eq_true_eq] at h1
  obtain ⟨⟨h3, h4⟩, h5, h6⟩ := h2
  simp only [] at h3 h4 h5 h6
  refine ⟨WalkArith.wf_i64 (by simp only [keyG]; omega), WalkArith.wf_i64 (by simp only [keyG]; omega), WalkArith.wf_u64 (by simp only [keyG]; omega)⟩
theorem key_lit (x : KeyS) (h : okK x) : ∃ l, keyOf Try.prog 46 (encK x) = some l := by
  obtain ⟨h1, h2, h3⟩ := h
  have e1 : Try.prog.keyType 46 = true := by kernel_rfl
  have e2 : Program.cellsOf Try.prog 46 = 3 := by kernel_rfl
  have e3 : ∀ f, Program.keyLits Try.prog (f + 2) 46 [.int .i64 x.1, .int .i64 x.2.1, .int .u64 x.2.2] = some [.int .i64 x.1, .int .i64 x.2.1, .int .u64 x.2.2] := by
    intro f
    have c3 : Program.cellsOf Try.prog 3 = 1 := by kernel_rfl
    have c4 : Program.cellsOf Try.prog 26 = 1 := by kernel_rfl
    have i1 : ∀ a, (Lit.int .i64 a).wf = true → Program.keyLits Try.prog (f + 1) 3 [.int .i64 a] = some [.int .i64 a] := fun a ha => by
      unfold Program.keyLits
      simp [Try.underlying3, ha]
    have i2 : ∀ a, (Lit.int .u64 a).wf = true → Program.keyLits Try.prog (f + 1) 26 [.int .u64 a] = some [.int .u64 a] := fun a ha => by
      unfold Program.keyLits
      simp [Try.underlying26, ha]
    conv => lhs; unfold Program.keyLits
    simp [Try.underlying46, e2, c3, c4, i1 _ h1, i1 _ h2, i2 _ h3]
  obtain ⟨n, hn⟩ : ∃ n, Try.prog.types.size + 1 = n + 2 := ⟨Try.prog.types.size - 1, by have : 0 < Try.prog.types.size := of_decide_eq_true (by kernel_rfl); omega⟩
  refine ⟨.string (keyBytes [.int .i64 x.1, .int .i64 x.2.1, .int .u64 x.2.2]), ?_⟩
  unfold keyOf
  rw [Try.underlying46]
  simp only [e1, hn]
  have e5 : (encK x).formed Try.prog 46 = true := by
    unfold encK Value.formed
    simp [Try.underlying46, e2]
  have e6 : (encK x).cells.toList = [.int .i64 x.1, .int .i64 x.2.1, .int .u64 x.2.2] := rfl
  rw [e5, e6, e3 n]
  rfl
def TS : KeyT Try.prog 46 KeyS := ⟨encK, okK, key_lit, fun a b e => by
  obtain ⟨a1, a2, a3⟩ := a
  obtain ⟨b1, b2, b3⟩ := b
  simp only [encK, Value.agg.injEq, Array.mk.injEq, List.cons.injEq, Value.int.injEq, true_and, and_true] at e
  obtain ⟨h1, h2, h3⟩ := e
  rw [h1, h2, h3]⟩
theorem lawS : Keyed Try.prog 46 := Keyed.of_law (deep_law_laid laid_out (m := 2) (by omega) (of_decide_eq_true (by kernel_rfl)) (by kernel_rfl) (by rw [Try.underlying46]))
theorem zeroI (w : World) : (zeroValue 3).run Try.prog w = .ok (.int .i64 0) w := by kernel_rfl
theorem lastUp_congr {out : List Gl} {g h : Gl} (e : ∀ x, kinG x g = kinG x h) : ∀ n, lastUp out g n = lastUp out h n
  | 0 => rfl
  | n + 1 => by
    have : kinAt out g n = kinAt out h n := by unfold kinAt; split <;> simp [e]
    unfold lastUp
    rw [this, lastUp_congr e n]
theorem lastIx_key (out : List Gl) (g : Gl) : lastIx out (dumG (keyG g)) = lastIx out g := lastUp_congr (out := out) (g := dumG (keyG g)) (h := g) (fun _ => rfl) _
/-- What the map holds. -/
def ixM (out : List Gl) : KeyS → Option Value := fun x => (lastIx out (dumG x)).map fun (i : Nat) => Value.int .i64 (i : Int)
theorem ixM_key (out : List Gl) (g : Gl) : ixM out (keyG g) = (lastIx out g).map fun (i : Nat) => Value.int .i64 (i : Int) := by unfold ixM; rw [lastIx_key]
theorem lastUp_pre {out q : List Gl} {h : Gl} : ∀ n, n ≤ out.length → lastUp (out ++ q) h n = lastUp out h n
  | 0, _ => rfl
  | n + 1, hn => by
    have : kinAt (out ++ q) h n = kinAt out h n := by unfold kinAt; rw [List.getElem?_append_left (by omega)]
    unfold lastUp
    rw [this, lastUp_pre n (by omega)]
theorem lastIx_append (out : List Gl) (g h : Gl) : lastIx (out ++ [g]) h = if kinG g h = true then some out.length else lastIx out h := by
  have hk : kinAt (out ++ [g]) h out.length = kinG g h := kinAt_some (by simp) h
  unfold lastIx
  rw [List.length_append, List.length_singleton]
  show (if kinAt (out ++ [g]) h out.length = true then some out.length else lastUp (out ++ [g]) h out.length) = _
  rw [hk, lastUp_pre _ (Nat.le_refl _)]
theorem lastIx_set (out : List Gl) (i : Nat) (x y h : Gl) (hx : out[i]? = some x) (hk : kinG x y = true) : lastIx (out.set i y) h = lastIx out h := by
  have e : ∀ n, kinAt (out.set i y) h n = kinAt out h n := by
    intro n
    unfold kinAt
    by_cases hn : i = n
    · subst hn
      rw [hx, List.getElem?_set_self (List.getElem?_eq_some_iff.1 hx).1]
      exact (kinG_left hk h).symm
    · rw [List.getElem?_set_ne hn]
  have key : ∀ n, lastUp (out.set i y) h n = lastUp out h n := by
    intro n
    induction n with
    | zero => rfl
    | succ n ih => unfold lastUp; rw [e, ih]
  unfold lastIx
  rw [List.length_set]
  exact key _
theorem ixM_append (out : List Gl) (g : Gl) (x : KeyS) : (if x = keyG g then some (.int .i64 (out.length : Int)) else ixM out x) = ixM (out ++ [g]) x := by
  unfold ixM
  rw [lastIx_append]
  by_cases e : x = keyG g
  · subst e
    have hk : kinG g (dumG (keyG g)) = true := kinG_refl g
    rw [if_pos rfl, if_pos hk]
    rfl
  · rw [if_neg e, if_neg]
    intro hk
    obtain ⟨h1, h2, h3⟩ := kinG_eq hk
    apply e
    obtain ⟨x1, x2, x3⟩ := x
    simp only [dumG] at h1 h2 h3
    simp only [keyG, h1, h2, h3]
theorem ixM_set (out : List Gl) (i : Nat) (x y : Gl) (hx : out[i]? = some x) (hk : kinG x y = true) (z : KeyS) : ixM out z = ixM (out.set i y) z := by
  unfold ixM
  rw [lastIx_set out i x y _ hx hk]
theorem gbT {W a b : World} {B : Nat} (h : W.grownBy a (some B)) {row : Option Nat} (k : a.grownBy b row) (hr : ∀ q, row = some q → q = B ∨ W.heap.size ≤ q) : W.grownBy b (some B) :=
  ⟨k.os.trans h.os, k.tape.trans h.tape, k.output.trans h.output, Nat.le_trans h.size k.size, fun j hj hne => (k.block j (Nat.lt_of_lt_of_le hj h.size) (fun e => by
    rcases hr j e.symm with rfl | h2
    · exact hne rfl
    · omega)).trans (h.block j hj hne)⟩
theorem gbG {W a b : World} {B : Nat} (h : W.grownBy a (some B)) (k : Grows a b) : W.grownBy b (some B) := gbT h (grown_none k) (fun q e => by cases e)
theorem Gls.gb {W w : World} {A : Option Addr} {l : List Gl} {B : Nat} (h : Gls W A l) (hg : W.grownBy w (some B)) (hB : ∀ cs t r, W.heap[B]? ≠ some (.cells cs t r)) : Gls w A l := by
  refine ⟨h.1, fun hn => ?_⟩
  obtain ⟨ad, e, hb, hc⟩ := h.2 hn
  refine ⟨ad, e, Nat.lt_of_lt_of_le hb hg.size, fun j u hu => ?_⟩
  have h1 := hc j u hu
  have hne : (ad.add j).block ≠ B := by
    intro e2
    unfold World.cell? at h1
    rw [e2] at h1
    split at h1
    · rename_i h3; exact hB _ _ _ h3
    · cases h1
  exact (World.cell?_of_block (hg.block _ (by rw [block_of_add]; exact hb) (fun e3 => hne (by injection e3)))).trans h1
theorem mapT_no {w : World} {b n : Nat} {M : KeyS → Option Value} (h : MapT TS w b n M) : ∀ cs t r, w.heap[b]? ≠ some (.cells cs t r) := by
  obtain ⟨D, ⟨es, cl, h1, _⟩, _⟩ := h
  intro cs t r e
  rw [h1] at e
  cases e
theorem put_block {w : World} {p : Addr} {j : Nat} (hne : j ≠ p.block) (y : Gl) : (putG w p y).heap[j]? = w.heap[j]? := by
  have e : ∀ (w : World) (o : Nat) (u : Value), (w.setCell { block := p.block, off := o } u).heap[j]? = w.heap[j]? := fun w o u => Below.heap_setCell w _ u j hne
  have e0 : ∀ (w : World) (u : Value), (w.setCell p u).heap[j]? = w.heap[j]? := fun w u => Below.heap_setCell w _ u j hne
  unfold putG
  rw [e, e, e, e, e, e0]
theorem join_cases (x g : Gl) : ∃ (Y : Array Value) (jb : Bool), joinV (joinF x g) = .tuple #[.agg Y, .bool jb] ∧ Y.size = 6 ∧ Y.all (·.oneCell') = true ∧ ((jb = true ∧ ∃ y, joinF x g = some y ∧ Y = y.cs) ∨ (jb = false ∧ joinF x g = none)) := by
  cases h : joinF x g with
  | none => exact ⟨_, false, rfl, rfl, by simp [Value.oneCell'], .inr ⟨rfl, rfl⟩⟩
  | some y => exact ⟨y.cs, true, rfl, rfl, by simp [Gl.cs, Value.oneCell'], .inl ⟨rfl, y, rfl, rfl⟩⟩
end Go.Proofs.Ytbmoiokpkcaccaa
