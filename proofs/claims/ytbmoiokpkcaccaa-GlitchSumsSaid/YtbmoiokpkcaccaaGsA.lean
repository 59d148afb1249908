/-
  Layer 37: slices of glitches: what they read; rows of one's own. Plain lemmas; Same.
-/
import Derived.Test.YtbmoiokpkcaccaaGlC
import Derived.Test.YtbmoiokpkcaccaaRow
import Derived.Test.YtbmoiokpkcaccaaRowX
import Derived.Test.YtbmoiokpkcaccaaExtra
import Derived.Deep.DeepCutAuto
import Derived.Deep.CutBlock
import Derived.Deep.RegionWith
import Derived.Lib.SliceRun
namespace Go.Proofs.Ytbmoiokpkcaccaa
open Go.RowKit
def Gl.ls (g : Gl) : List Value := [.int .i64 g.k, .int .i64 g.a, .int .i64 g.q, .int .i64 g.s, .int .u64 g.d, .int .i64 g.f]
def gcells (l : List Gl) : List Value := l.flatMap Gl.ls
theorem gcells_len (l : List Gl) : (gcells l).length = l.length * 6 := by
  induction l with
  | nil => rfl
  | cons g l ih => simp only [gcells, List.flatMap_cons, List.length_append, List.length_cons] at *; rw [ih]; simp [Gl.ls]; omega
theorem gcells_at (l : List Gl) (k : Nat) (g : Gl) (h : l[k]? = some g) (j : Nat) (hj : j < 6) : (gcells l)[k * 6 + j]? = g.ls[j]? := by
  induction l generalizing k with
  | nil => simp at h
  | cons x l ih =>
    simp only [gcells, List.flatMap_cons]
    cases k with
    | zero =>
      simp only [List.getElem?_cons_zero, Option.some.injEq] at h
      subst h
      rw [List.getElem?_append_left (by simp [Gl.ls]; omega)]
      simp
    | succ k =>
      rw [List.getElem?_append_right (by simp [Gl.ls]; omega)]
      have := ih k (by simpa using h)
      simp only [gcells] at this
      rw [← this]
      congr 1
      simp [Gl.ls]
      omega
def Gls (w : World) (A : Option Addr) (l : List Gl) : Prop := Reads w w.heap.size 6 A l.length (gcells l)
theorem Gls.grows {w w' : World} {A : Option Addr} {l : List Gl} (h : Gls w A l) (hg : Grows w w') : Gls w' A l := Reads.grows h hg
theorem Gls.at_ {w : World} {A : Option Addr} {l : List Gl} (h : Gls w A l) {k : Nat} (hk : k < l.length) :
    ∃ ad g, A = some ad ∧ ad.block < w.heap.size ∧ l[k]? = some g ∧ ∀ j v, g.cs[j]? = some v → w.cell? (ad.add (k * 6 + j)) = some v := by
  obtain ⟨ad, e, hb, hc⟩ := h.2 (by omega)
  refine ⟨ad, l[k], e, hb, List.getElem?_eq_getElem hk, fun j v hv => hc _ _ ?_⟩
  have hj : j < 6 := by
    have := (Array.getElem?_eq_some_iff.1 hv).1
    simpa [Gl.cs] using this
  rw [gcells_at l k _ (List.getElem?_eq_getElem hk) j hj]
  simpa [Gl.cs, Gl.ls] using hv
/-- The cells of an element, as a walk asks for them. -/
def CellsG (w : World) (p : Addr) (g : Gl) : Prop :=
  w.cell? p = some (.int .i64 g.k) ∧ w.cell? { block := p.block, off := p.off + 1 } = some (.int .i64 g.a) ∧ w.cell? { block := p.block, off := p.off + 2 } = some (.int .i64 g.q) ∧
    w.cell? { block := p.block, off := p.off + 3 } = some (.int .i64 g.s) ∧ w.cell? { block := p.block, off := p.off + 4 } = some (.int .u64 g.d) ∧ w.cell? { block := p.block, off := p.off + 5 } = some (.int .i64 g.f)
theorem Gls.elem {w : World} {A : Option Addr} {l : List Gl} (h : Gls w A l) {k : Nat} (hk : k < l.length) :
    ∃ ad g, A = some ad ∧ ad.block < w.heap.size ∧ l[k]? = some g ∧ CellsG w (ad.add (k * 6)) g := by
  obtain ⟨ad, g, e, hb, hg, hc⟩ := h.at_ hk
  refine ⟨ad, g, e, hb, hg, ?_⟩
  have e0 : (ad.add (k * 6)).add 0 = ad.add (k * 6) := by simp [Addr.add]
  have hj : ∀ j v, g.cs[j]? = some v → w.cell? ((ad.add (k * 6)).add j) = some v := fun j v hv => by rw [add_of_add]; exact hc j v hv
  have ej : ∀ j, j ≠ 0 → (ad.add (k * 6)).add j = { block := (ad.add (k * 6)).block, off := (ad.add (k * 6)).off + j } := fun j hj0 => by
    generalize ad.add (k * 6) = p
    unfold Addr.add
    rw [if_neg hj0]
  refine ⟨by have := hj 0 _ rfl; rwa [e0] at this, ?_, ?_, ?_, ?_, ?_⟩
  · have := hj 1 _ rfl; rwa [ej 1 (by omega)] at this
  · have := hj 2 _ rfl; rwa [ej 2 (by omega)] at this
  · have := hj 3 _ rfl; rwa [ej 3 (by omega)] at this
  · have := hj 4 _ rfl; rwa [ej 4 (by omega)] at this
  · have := hj 5 _ rfl; rwa [ej 5 (by omega)] at this
set_option maxHeartbeats 4000000 in
theorem gsame_eq (A A2 : Option Addr) (c c2 : Nat) (l : List Gl) (w : World) (h : Gls w A l) (h2 : Gls w A2 l) (hl : l.length ≤ 9223372036854775807) :
    Calls Try.prog 11 #[.slice A l.length c, .slice A2 l.length c2] w fun e w' => e = .returned (.bool true) ∧ Grows w w' := by
  go_enter Try.func11, Try.ntmps11
  go_wp2
  go_loopw [5] (fun i wr => ∃ k : Nat, k ≤ l.length ∧ i = .int .i64 k ∧ Grows w wr) (fun i _ => l.length - (intOf i).toNat)
  case atStart => exact ⟨0, by omega, rfl, Below.refl _ _⟩
  case round =>
    obtain ⟨k, hk, rfl, hB⟩ := hrel
    by_cases hlt : k < l.length
    · obtain ⟨ad, g, rfl, had, hx, c0, c1, c2, c3, c4, c5⟩ := (h.grows hB).elem hlt
      obtain ⟨ad2, g2, rfl, had2, hx2, d0, d1, d2, d3, d4, d5⟩ := (h2.grows hB).elem hlt
      rw [hx] at hx2
      injection hx2 with hx2
      subst hx2
      clear hx
      go_upto_region 6 with fail
      go_region
      replace hB := below_grows hB (Nat.le_refl _) (Grows.drew' wr)
      go_wp2
      go_roundw
      case rel => exact ⟨k + 1, by omega, by go_num, hB⟩
      case measure => simp [intOf]; omega
    · go_wp2
      go_ret
      exact ⟨rfl, hB⟩
theorem ginfo : ∃ i : TypeInfo, Try.prog.info? 28 = some i ∧ i.size = 6 ∧ i.bytes = 48 ∧ i.zero = some (.agg #[.int .i64 0, .int .i64 0, .int .i64 0, .int .i64 0, .int .u64 0, .int .i64 0]) ∧ (Value.agg #[.int .i64 0, .int .i64 0, .int .i64 0, .int .i64 0, .int .u64 0, .int .i64 0]).cells.size = 6 := ⟨_, by first | exact Try.info28 | rfl, rfl, rfl, rfl, rfl⟩
theorem gls_own {w : World} {base : Nat} {v : Value} {l : List Gl} (h : w.ownsRow base 28 6 v l.length (gcells l)) : ∃ (A : Option Addr) (c : Nat), v = .slice A l.length c ∧ l.length ≤ c ∧ Gls w A l := by
  rcases h.2 with ⟨rfl, hn⟩ | ⟨g, cap, cur, rfl, hb, hg, hnc, hm, hs, ht⟩
  · exact ⟨none, 0, by rw [hn], by omega, Reads.of_own (c := 0) (by simpa [hn] using h)⟩
  · exact ⟨_, cap, rfl, hnc, Reads.of_own h⟩
theorem gcells_one (l : List Gl) : ∀ u ∈ gcells l, u.oneCell' = true := by
  intro u hu
  obtain ⟨g, _, hg⟩ := List.mem_flatMap.1 hu
  simp only [Gl.ls, List.mem_cons, List.not_mem_nil, or_false] at hg
  rcases hg with rfl | rfl | rfl | rfl | rfl | rfl <;> rfl
theorem ginfo6 : (Try.prog.info? 28).map (·.size) = some 6 := by kernel_rfl
theorem own_cells {w : World} {base : Nat} {ad : Addr} {cap : Nat} {l : List Gl} {m : Nat} {x : Gl} (h : w.ownsRow base 28 6 (.slice (some ad) l.length cap) l.length (gcells l)) (hx : l[m]? = some x) : CellsG w (ad.add (m * 6)) x := by
  have hg : Gls w (some ad) l := Reads.of_own h
  obtain ⟨ad', x', e, _, hx', hc⟩ := hg.elem (List.getElem?_eq_some_iff.1 hx).1
  injection e with e
  subst e
  rw [hx] at hx'
  injection hx' with hx'
  subst hx'
  exact hc
theorem grown_none {w w' : World} (h : Grows w w') : w.grownBy w' none := ⟨h.os, h.tape, h.output, h.size, fun k hk _ => h.block k hk⟩
theorem own_grows {w w' : World} {base : Nat} {e : TypeId} {size n : Nat} {v : Value} {xs : List Value} (h : w.ownsRow base e size v n xs) (hg : Grows w w') : w'.ownsRow base e size v n xs := by
  refine h.kept (grown_none hg) ?_
  cases e : v.ownBlock
  · exact .inl rfl
  · exact .inr (by simp)
theorem own_setRow {w : World} {base : Nat} {e : TypeId} {size n : Nat} {v : Value} {xs : List Value} (h : w.ownsRow base e size v n xs) {g : Nat} (hne : v.ownBlock ≠ some g) (cs : Array Value) : (w.setRow g cs).ownsRow base e size v n xs := by
  refine ⟨h.1, ?_⟩
  rcases h.2 with hn | ⟨g', cap, cur, rfl, hb, hh, r⟩
  · exact .inl hn
  · refine .inr ⟨g', cap, cur, rfl, hb, ?_, r⟩
    have hne' : ¬ g = g' := fun e => hne (by simp [Value.ownBlock, e])
    simp [World.setRow, Array.getElem?_modify, hne', hh]
theorem own_setCell {w : World} {base : Nat} {e : TypeId} {size n : Nat} {v : Value} {xs : List Value} (h : w.ownsRow base e size v n xs) {p : Addr} (hne : v.ownBlock ≠ some p.block) (u : Value) : (w.setCell p u).ownsRow base e size v n xs := by
  refine ⟨h.1, ?_⟩
  rcases h.2 with hn | ⟨g', cap, cur, rfl, hb, hh, r⟩
  · exact .inl hn
  · refine .inr ⟨g', cap, cur, rfl, hb, ?_, r⟩
    have hne' : g' ≠ p.block := fun e => hne (by simp [Value.ownBlock, e])
    exact (Below.heap_setCell w p u g' hne').trans hh
theorem gcells_set (l : List Gl) (m : Nat) (y : Gl) (hm : m < l.length) :
    ((((((gcells l).set (m * 6) (.int .i64 y.k)).set (m * 6 + 1) (.int .i64 y.a)).set (m * 6 + 2) (.int .i64 y.q)).set (m * 6 + 3) (.int .i64 y.s)).set (m * 6 + 4) (.int .u64 y.d)).set (m * 6 + 5) (.int .i64 y.f) = gcells (l.set m y) := by
  induction l generalizing m with
  | nil => simp at hm
  | cons x l ih =>
    cases m with
    | zero => simp [gcells, Gl.ls]
    | succ m =>
      have := ih m (by simpa using hm)
      simp only [gcells] at this
      simp only [gcells, List.set_cons_succ, List.flatMap_cons]
      rw [← this]
      have e : ∀ j (u : Value) (t : List Value), (x.ls ++ t).set ((m + 1) * 6 + j) u = x.ls ++ t.set (m * 6 + j) u := by
        intro j u t
        rw [List.set_append_right _ _ (by simp [Gl.ls]; omega)]
        congr 2
        simp [Gl.ls]
        omega
      have e0 : ∀ (u : Value) (t : List Value), (x.ls ++ t).set ((m + 1) * 6) u = x.ls ++ t.set (m * 6) u := fun u t => e 0 u t
      rw [e0, e 1, e 2, e 3, e 4, e 5]
theorem gcells_drop (l : List Gl) (k : Nat) : gcells (l.drop k) = (gcells l).drop (k * 6) := by
  induction l generalizing k with
  | nil => simp [gcells]
  | cons x l ih =>
    cases k with
    | zero => simp
    | succ k =>
      have := ih k
      simp only [gcells] at this
      simp only [gcells, List.drop_succ_cons, List.flatMap_cons]
      rw [this, show (k + 1) * 6 = x.ls.length + k * 6 by simp [Gl.ls]; omega, List.drop_append]
      simp
theorem gls_drop {w : World} {A : Option Addr} {l : List Gl} (h : Gls w A l) {k cap : Nat} (hk : k ≤ l.length) (hc : l.length ≤ cap) : Gls w (if cap = k then A else A.map (fun x => x.add (k * 6))) (l.drop k) := by
  have := Reads.cut h hk hc
  unfold Gls
  rw [List.length_drop, gcells_drop]
  exact this
/-- The element's six cells written. -/
def putG (w : World) (p : Addr) (y : Gl) : World :=
  (((((w.setCell p (.int .i64 y.k)).setCell { block := p.block, off := p.off + 1 } (.int .i64 y.a)).setCell { block := p.block, off := p.off + 2 } (.int .i64 y.q)).setCell { block := p.block, off := p.off + 3 } (.int .i64 y.s)).setCell { block := p.block, off := p.off + 4 } (.int .u64 y.d)).setCell { block := p.block, off := p.off + 5 } (.int .i64 y.f)
theorem own_addr {w : World} {base : Nat} {ad : Addr} {cap n : Nat} {xs : List Value} (h : w.ownsRow base 28 6 (.slice (some ad) n cap) n xs) (hn : 0 < n) (m : Nat) : ∃ g, ad = ⟨g, 0, none⟩ ∧ ad.add (m * 6) = ⟨g, m * 6, none⟩ ∧ base ≤ g := by
  obtain ⟨g, cap', hv, hb, _⟩ := h.form hn
  injection hv with e1 _ _
  injection e1 with e1
  subst e1
  refine ⟨g, rfl, ?_, hb⟩
  unfold Addr.add
  split
  · simp_all
  · simp
theorem own_put {w : World} {base : Nat} {ad : Addr} {cap : Nat} {l : List Gl} {m : Nat} (h : w.ownsRow base 28 6 (.slice (some ad) l.length cap) l.length (gcells l)) (hm : m < l.length) (y : Gl) :
    (putG w (ad.add (m * 6)) y).ownsRow base 28 6 (.slice (some ad) l.length cap) (l.set m y).length (gcells (l.set m y)) := by
  obtain ⟨g, rfl, ha, _⟩ := own_addr h (by omega) m
  rw [ha, List.length_set, ← gcells_set l m y hm]
  have h1 := (h.stored (m * 6) (.int .i64 y.k)).1
  have h2 := (h1.stored (m * 6 + 1) (.int .i64 y.a)).1
  have h3 := (h2.stored (m * 6 + 2) (.int .i64 y.q)).1
  have h4 := (h3.stored (m * 6 + 3) (.int .i64 y.s)).1
  have h5 := (h4.stored (m * 6 + 4) (.int .u64 y.d)).1
  exact (h5.stored (m * 6 + 5) (.int .i64 y.f)).1
def FrozG (w : World) (p : Addr) : Prop :=
  w.frozen? p = false ∧ w.frozen? { block := p.block, off := p.off + 1 } = false ∧ w.frozen? { block := p.block, off := p.off + 2 } = false ∧ w.frozen? { block := p.block, off := p.off + 3 } = false ∧ w.frozen? { block := p.block, off := p.off + 4 } = false ∧ w.frozen? { block := p.block, off := p.off + 5 } = false
theorem own_froz {w : World} {base : Nat} {ad : Addr} {cap n : Nat} {xs : List Value} (h : w.ownsRow base 28 6 (.slice (some ad) n cap) n xs) (hn : 0 < n) (m : Nat) : FrozG w (ad.add (m * 6)) := by
  obtain ⟨g, rfl, ha, _⟩ := own_addr h hn m
  rw [ha]
  exact ⟨h.frozenAt (m * 6), h.frozenAt (m * 6 + 1), h.frozenAt (m * 6 + 2), h.frozenAt (m * 6 + 3), h.frozenAt (m * 6 + 4), h.frozenAt (m * 6 + 5)⟩
theorem put_blk {w : World} {p : Addr} {g : Nat} {t : TypeId} {cs : Array Value} (h : Blk w g t cs) (hne : g ≠ p.block) (y : Gl) : Blk (putG w p y) g t cs := by
  have h0 := h.far (p := p) hne (.int .i64 y.k)
  have h1 := h0.far (p := { block := p.block, off := p.off + 1 }) hne (.int .i64 y.a)
  have h2 := h1.far (p := { block := p.block, off := p.off + 2 }) hne (.int .i64 y.q)
  have h3 := h2.far (p := { block := p.block, off := p.off + 3 }) hne (.int .i64 y.s)
  have h4 := h3.far (p := { block := p.block, off := p.off + 4 }) hne (.int .u64 y.d)
  exact h4.far (p := { block := p.block, off := p.off + 5 }) hne (.int .i64 y.f)
theorem put_below {B : Nat} {a w : World} {p : Addr} (h : Below B a w) (hb : B ≤ p.block) (y : Gl) : Below B a (putG w p y) := by
  have h0 := h.setCell (p := p) hb (.int .i64 y.k)
  have h1 := h0.setCell (p := { block := p.block, off := p.off + 1 }) hb (.int .i64 y.a)
  have h2 := h1.setCell (p := { block := p.block, off := p.off + 2 }) hb (.int .i64 y.q)
  have h3 := h2.setCell (p := { block := p.block, off := p.off + 3 }) hb (.int .i64 y.s)
  have h4 := h3.setCell (p := { block := p.block, off := p.off + 4 }) hb (.int .u64 y.d)
  exact h4.setCell (p := { block := p.block, off := p.off + 5 }) hb (.int .i64 y.f)
theorem gcells_append (a b : List Gl) : gcells (a ++ b) = gcells a ++ gcells b := by simp [gcells]
theorem gls_nil (w : World) : Gls w none [] := Reads.none_
theorem gcells_take (l : List Gl) (k : Nat) : gcells (l.take k) = (gcells l).take (k * 6) := by
  rcases Nat.le_total k l.length with hk | hk
  · have : gcells l = gcells (l.take k) ++ gcells (l.drop k) := by rw [← gcells_append, List.take_append_drop]
    rw [this, List.take_left' (by rw [gcells_len, List.length_take]; omega)]
  · rw [List.take_of_length_le hk, List.take_of_length_le (by rw [gcells_len]; omega)]
theorem gls_take {w : World} {A : Option Addr} {l : List Gl} (h : Gls w A l) (k : Nat) : Gls w A (l.take k) := by
  refine ⟨gcells_len _, fun hn => ?_⟩
  rw [List.length_take] at hn
  obtain ⟨ad, e, hb, hc⟩ := h.2 (by omega)
  refine ⟨ad, e, hb, fun j u hu => hc j u ?_⟩
  rw [gcells_take, List.getElem?_take] at hu
  split at hu
  · exact hu
  · cases hu
/-- A slice of glitches in a row of one's own. -/
def OwnG (w : World) (base : Nat) (v : Value) (l : List Gl) : Prop := w.ownsRow base 28 6 v l.length (gcells l)
theorem ownG_nil (w : World) (base : Nat) : OwnG w base (.slice none 0 0) [] := World.ownsRow_nil w base 28 6
theorem OwnG.read {w : World} {base : Nat} {v : Value} {l : List Gl} (h : OwnG w base v l) : ∃ (A : Option Addr) (c : Nat), v = .slice A l.length c ∧ l.length ≤ c ∧ Gls w A l ∧ ∀ ad, A = some ad → base ≤ ad.block := by
  rcases h.2 with ⟨rfl, hn⟩ | ⟨g, cap, cur, rfl, hb, hg, hnc, hm, hs, ht⟩
  · exact ⟨none, 0, by rw [hn], by omega, Reads.of_own (c := 0) (by simpa [OwnG, hn] using h), fun _ h => by cases h⟩
  · exact ⟨_, cap, rfl, hnc, Reads.of_own h, fun ad h => by injection h with h; subst h; exact hb⟩
theorem OwnG.grows {w w' : World} {base : Nat} {v : Value} {l : List Gl} (h : OwnG w base v l) (hg : Grows w w') : OwnG w' base v l := own_grows h hg
theorem OwnG.mono {w : World} {base base' : Nat} {v : Value} {l : List Gl} (h : OwnG w base v l) (hb : base' ≤ base) : OwnG w base' v l :=
  ⟨h.1, h.2.imp id fun ⟨g, cap, cur, e, hb2, r⟩ => ⟨g, cap, cur, e, Nat.le_trans hb hb2, r⟩⟩
theorem OwnG.below {w w' : World} {base : Nat} {v : Value} {l : List Gl} {u : World} (h : OwnG w base v l) (hB : Below base u w) (hg : w.grownBy w' v.ownBlock) (hs : base ≤ w.heap.size) : Below base u w' := hB.grown hg hs fun q hq => (h.lt q hq).1
theorem gls_lit (w : World) (x : Gl) : Gls (w.alloc (.cells x.cs 28)) (some ⟨w.heap.size, 0, none⟩) [x] := by
  refine ⟨rfl, fun _ => ⟨_, rfl, by simp, fun j u hu => ?_⟩⟩
  have ha : (⟨w.heap.size, 0, none⟩ : Addr).add j = ⟨w.heap.size, j, none⟩ := by
    unfold Addr.add
    split
    · simp_all
    · simp
  rw [ha, (Blk.new w 28 x.cs).cell]
  simpa [gcells, Gl.ls, Gl.cs] using hu
section
variable {ops : Array Oper} {o : Oper} {a : Act} {w : World}
theorem wp_append_gl {K : Act → World → Prop} {Q : Exit → Act → World → Prop} (s x : Operand) (ho : o.op = .call { callee := .builtin .append, args := #[s, x], argTypes := #[24, 24] })
    {base : Nat} {v : Value} {l m : List Gl} {A : Option Addr} {c : Nat} (hs : a.eval s = v) (hx : a.eval x = .slice A m.length c) (hown : OwnG w base v l) (hr : Gls w A m) (hl : l.length + m.length ≤ 1000000) (hbase : base ≤ w.heap.size)
    (h : ∀ v' w', OwnG w' base v' (l ++ m) → w.grownBy w' v.ownBlock → K (a.put o.dst v') w') : o.wp Try.prog a w K Q := by
  obtain ⟨i0, hi0, hi1, hi2, hi3, hi4⟩ := ginfo
  refine wp_append_any w s x 24 ho base 28 i0 _ 6 48 Try.underlying24 hi0 hi3 hi1 hi2 hi4 (by omega) v l.length (gcells l) hs hown w.heap.size A m.length c (gcells m) hx hr (gcells_one m) (by simp only [maxLen]; omega) (by omega) hbase ?_
  intro v' w' h1 h2 _
  refine h v' w' ?_ h2
  unfold OwnG
  rw [List.length_append, gcells_append]
  exact h1
theorem wpList_append_gl {rest : List Oper} {Q : Exit → Act → World → Prop} (hgd : o.guard = none) (s x : Operand) (ho : o.op = .call { callee := .builtin .append, args := #[s, x], argTypes := #[24, 24] })
    {base : Nat} {v : Value} {l m : List Gl} {A : Option Addr} {c : Nat} (hs : a.eval s = v) (hx : a.eval x = .slice A m.length c) (hown : OwnG w base v l) (hr : Gls w A m) (hl : l.length + m.length ≤ 1000000) (hbase : base ≤ w.heap.size)
    (h : ∀ v' w', OwnG w' base v' (l ++ m) → w.grownBy w' v.ownBlock → wpList Try.prog ops Q rest (a.put o.dst v') w') : wpList Try.prog ops Q (o :: rest) a w :=
  wpList_plain hgd fun _ hK => wp_append_gl s x ho hs hx hown hr hl hbase fun v' w' h2 h3 => hK _ _ (h v' w' h2 h3)
end
end Go.Proofs.Ytbmoiokpkcaccaa
