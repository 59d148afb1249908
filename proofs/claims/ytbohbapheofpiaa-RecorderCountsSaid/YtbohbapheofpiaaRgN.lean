/-
  Layer 38: a row of glitches of one's own: an element read, written, the row under growth. Plain lemmas.
-/
import Derived.Test.YtbohbapheofpiaaRgE
import Derived.Test.YtbohbapheofpiaaRowX
namespace Go.Proofs.Ytbohbapheofpiaa
open Go.RowKit
/-- A glitch at the list's end: joined to the last one, or behind it. -/
def addG (l : List Gl) (g : Gl) : List Gl := match l.getLast? with
  | some x => (match joinF x g with | some y => l.dropLast ++ [y] | none => l ++ [g])
  | none => [g]
def lastG (lim : Int) (l : List Gl) : List Gl := l.drop ((l.length : Int) - lim).toNat
def noteF (R : Rec) (g : Gl) : Rec × Int :=
  if R.ok = true then (if okG g = true then (⟨R.lim, lastG R.lim (addG R.l g), bAdd R.c g.k.toNat, min (R.fr + g.f) 1099511627776, R.b⟩, 0) else (Rec.zero, 2)) else (Rec.zero, 1)
theorem okG_k {g : Gl} (h : okG g = true) : 1 ≤ g.k ∧ g.k ≤ 4 := by
  obtain ⟨k, a, q, s, d, f⟩ := g
  simp only [okG, Bool.and_eq_true, Bool.or_eq_true, beq_iff_eq, decide_eq_true_eq] at h
  simp only []
  omega
theorem gzero_info : (Try.prog.info? 43).map (·.size) = some 6 := by kernel_rfl
theorem own_cells {w : World} {base : Nat} {ad : Addr} {cap : Nat} {l : List Gl} {m : Nat} {x : Gl} (h : w.ownsRow base 43 6 (.slice (some ad) l.length cap) l.length (gcells l)) (hx : l[m]? = some x) : CellsG w (ad.add (m * 6)) x := by
  have hg : Gls w (some ad) l := Reads.of_own h
  obtain ⟨ad', x', e, _, hx', hc⟩ := hg.elem (List.getElem?_eq_some_iff.1 hx).1
  injection e with e
  subst e
  rw [hx] at hx'
  injection hx' with hx'
  subst hx'
  exact hc
theorem grown_none {w w' : World} (h : Grows w w') : w.grownBy w' none := ⟨h.os, h.tape, h.output, h.size, fun k hk _ => h.block k hk⟩
theorem own_grows {w w' : World} {base : Nat} {e : TypeId} {size n : Nat} {v : Value} {xs : List Value} (h : w.ownsRow base e size v n xs) (hg : Grows w w') : w'.ownsRow base e size v n xs := by
  refine h.kept (grown_none hg) ?_
  cases e : v.ownBlock
  · exact .inl rfl
  · exact .inr (by simp)
theorem own_setRow {w : World} {base : Nat} {e : TypeId} {size n : Nat} {v : Value} {xs : List Value} (h : w.ownsRow base e size v n xs) {g : Nat} (hne : v.ownBlock ≠ some g) (cs : Array Value) : (w.setRow g cs).ownsRow base e size v n xs := by
  refine ⟨h.1, ?_⟩
  rcases h.2 with hn | ⟨g', cap, cur, rfl, hb, hh, r⟩
  · exact .inl hn
  · refine .inr ⟨g', cap, cur, rfl, hb, ?_, r⟩
    have hne' : ¬ g = g' := fun e => hne (by simp [Value.ownBlock, e])
    simp [World.setRow, Array.getElem?_modify, hne', hh]
theorem own_setCell {w : World} {base : Nat} {e : TypeId} {size n : Nat} {v : Value} {xs : List Value} (h : w.ownsRow base e size v n xs) {p : Addr} (hne : v.ownBlock ≠ some p.block) (u : Value) : (w.setCell p u).ownsRow base e size v n xs := by
  refine ⟨h.1, ?_⟩
  rcases h.2 with hn | ⟨g', cap, cur, rfl, hb, hh, r⟩
  · exact .inl hn
  · refine .inr ⟨g', cap, cur, rfl, hb, ?_, r⟩
    have hne' : g' ≠ p.block := fun e => hne (by simp [Value.ownBlock, e])
    exact (Below.heap_setCell w p u g' hne').trans hh
theorem gcells_set (l : List Gl) (m : Nat) (y : Gl) (hm : m < l.length) :
    ((((((gcells l).set (m * 6) (.int .i64 y.k)).set (m * 6 + 1) (.int .i64 y.a)).set (m * 6 + 2) (.int .i64 y.q)).set (m * 6 + 3) (.int .i64 y.s)).set (m * 6 + 4) (.int .u64 y.d)).set (m * 6 + 5) (.int .i64 y.f) = gcells (l.set m y) := by
  induction l generalizing m with
  | nil => simp at hm
  | cons x l ih =>
    cases m with
    | zero => simp [gcells, Gl.ls]
    | succ m =>
      have := ih m (by simpa using hm)
      simp only [gcells] at this
      simp only [gcells, List.set_cons_succ, List.flatMap_cons]
      rw [← this]
      have e : ∀ j (u : Value) (t : List Value), (x.ls ++ t).set ((m + 1) * 6 + j) u = x.ls ++ t.set (m * 6 + j) u := by
        intro j u t
        rw [List.set_append_right _ _ (by simp [Gl.ls]; omega)]
        congr 2
        simp [Gl.ls]
        omega
      have e0 : ∀ (u : Value) (t : List Value), (x.ls ++ t).set ((m + 1) * 6) u = x.ls ++ t.set (m * 6) u := fun u t => e 0 u t
      rw [e0, e 1, e 2, e 3, e 4, e 5]
theorem set_last (l : List Gl) (m : Nat) (y : Gl) (h : l.length = m + 1) : l.set m y = l.dropLast ++ [y] := by
  obtain ⟨l', x, rfl⟩ : ∃ l' x, l = l' ++ [x] := ⟨l.dropLast, l.getLast (by intro e; simp [e] at h), (List.dropLast_concat_getLast _).symm⟩
  have hm : m = l'.length := by simpa using h.symm
  subst hm
  simp
theorem last_at (l : List Gl) (m : Nat) (h : l.length = m + 1) : ∃ x, l[m]? = some x ∧ l.getLast? = some x := by
  refine ⟨l[m], List.getElem?_eq_getElem (by omega), ?_⟩
  rw [List.getLast?_eq_getElem?, show l.length - 1 = m by omega]
  exact List.getElem?_eq_getElem (by omega)
theorem gcells_drop (l : List Gl) (k : Nat) : gcells (l.drop k) = (gcells l).drop (k * 6) := by
  induction l generalizing k with
  | nil => simp [gcells]
  | cons x l ih =>
    cases k with
    | zero => simp
    | succ k =>
      have := ih k
      simp only [gcells] at this
      simp only [gcells, List.drop_succ_cons, List.flatMap_cons]
      rw [this, show (k + 1) * 6 = x.ls.length + k * 6 by simp [Gl.ls]; omega, List.drop_append]
      simp
theorem gls_drop {w : World} {A : Option Addr} {l : List Gl} (h : Gls w A l) {k cap : Nat} (hk : k ≤ l.length) (hc : l.length ≤ cap) : Gls w (if cap = k then A else A.map (fun x => x.add (k * 6))) (l.drop k) := by
  have := Reads.cut h hk hc
  unfold Gls
  rw [List.length_drop, gcells_drop]
  exact this
theorem from_drop {n : Nat} {A : Option Addr} {l : List Gl} (h : From n A l) {k cap : Nat} : From n (if cap = k then A else A.map (fun x => x.add (k * 6))) (l.drop k) := by
  intro ad ha hl
  rw [List.length_drop] at hl
  split at ha
  · exact h ad ha (by omega)
  · cases A with
    | none => cases ha
    | some ad' =>
      simp only [Option.map_some, Option.some.injEq] at ha
      subst ha
      rw [block_of_add]
      exact h ad' rfl (by omega)
/-- The element's six cells written. -/
def putG (w : World) (p : Addr) (y : Gl) : World :=
  (((((w.setCell p (.int .i64 y.k)).setCell { block := p.block, off := p.off + 1 } (.int .i64 y.a)).setCell { block := p.block, off := p.off + 2 } (.int .i64 y.q)).setCell { block := p.block, off := p.off + 3 } (.int .i64 y.s)).setCell { block := p.block, off := p.off + 4 } (.int .u64 y.d)).setCell { block := p.block, off := p.off + 5 } (.int .i64 y.f)
theorem own_addr {w : World} {base : Nat} {ad : Addr} {cap n : Nat} {xs : List Value} (h : w.ownsRow base 43 6 (.slice (some ad) n cap) n xs) (hn : 0 < n) (m : Nat) : ∃ g, ad = ⟨g, 0, none⟩ ∧ ad.add (m * 6) = ⟨g, m * 6, none⟩ ∧ base ≤ g := by
  obtain ⟨g, cap', hv, hb, _⟩ := h.form hn
  injection hv with e1 _ _
  injection e1 with e1
  subst e1
  refine ⟨g, rfl, ?_, hb⟩
  unfold Addr.add
  split
  · simp_all
  · simp
theorem own_put {w : World} {base : Nat} {ad : Addr} {cap : Nat} {l : List Gl} {m : Nat} (h : w.ownsRow base 43 6 (.slice (some ad) l.length cap) l.length (gcells l)) (hm : m < l.length) (y : Gl) :
    (putG w (ad.add (m * 6)) y).ownsRow base 43 6 (.slice (some ad) l.length cap) (l.set m y).length (gcells (l.set m y)) := by
  obtain ⟨g, rfl, ha, _⟩ := own_addr h (by omega) m
  rw [ha, List.length_set, ← gcells_set l m y hm]
  have h1 := (h.stored (m * 6) (.int .i64 y.k)).1
  have h2 := (h1.stored (m * 6 + 1) (.int .i64 y.a)).1
  have h3 := (h2.stored (m * 6 + 2) (.int .i64 y.q)).1
  have h4 := (h3.stored (m * 6 + 3) (.int .i64 y.s)).1
  have h5 := (h4.stored (m * 6 + 4) (.int .u64 y.d)).1
  exact (h5.stored (m * 6 + 5) (.int .i64 y.f)).1
def FrozG (w : World) (p : Addr) : Prop :=
  w.frozen? p = false ∧ w.frozen? { block := p.block, off := p.off + 1 } = false ∧ w.frozen? { block := p.block, off := p.off + 2 } = false ∧ w.frozen? { block := p.block, off := p.off + 3 } = false ∧ w.frozen? { block := p.block, off := p.off + 4 } = false ∧ w.frozen? { block := p.block, off := p.off + 5 } = false
theorem own_froz {w : World} {base : Nat} {ad : Addr} {cap n : Nat} {xs : List Value} (h : w.ownsRow base 43 6 (.slice (some ad) n cap) n xs) (hn : 0 < n) (m : Nat) : FrozG w (ad.add (m * 6)) := by
  obtain ⟨g, rfl, ha, _⟩ := own_addr h hn m
  rw [ha]
  exact ⟨h.frozenAt (m * 6), h.frozenAt (m * 6 + 1), h.frozenAt (m * 6 + 2), h.frozenAt (m * 6 + 3), h.frozenAt (m * 6 + 4), h.frozenAt (m * 6 + 5)⟩
theorem put_blk {w : World} {p : Addr} {g : Nat} {t : TypeId} {cs : Array Value} (h : Blk w g t cs) (hne : g ≠ p.block) (y : Gl) : Blk (putG w p y) g t cs := by
  have h0 := h.far (p := p) hne (.int .i64 y.k)
  have h1 := h0.far (p := { block := p.block, off := p.off + 1 }) hne (.int .i64 y.a)
  have h2 := h1.far (p := { block := p.block, off := p.off + 2 }) hne (.int .i64 y.q)
  have h3 := h2.far (p := { block := p.block, off := p.off + 3 }) hne (.int .i64 y.s)
  have h4 := h3.far (p := { block := p.block, off := p.off + 4 }) hne (.int .u64 y.d)
  exact h4.far (p := { block := p.block, off := p.off + 5 }) hne (.int .i64 y.f)
theorem put_below {B : Nat} {a w : World} {p : Addr} (h : Below B a w) (hb : B ≤ p.block) (y : Gl) : Below B a (putG w p y) := by
  have h0 := h.setCell (p := p) hb (.int .i64 y.k)
  have h1 := h0.setCell (p := { block := p.block, off := p.off + 1 }) hb (.int .i64 y.a)
  have h2 := h1.setCell (p := { block := p.block, off := p.off + 2 }) hb (.int .i64 y.q)
  have h3 := h2.setCell (p := { block := p.block, off := p.off + 3 }) hb (.int .i64 y.s)
  have h4 := h3.setCell (p := { block := p.block, off := p.off + 4 }) hb (.int .u64 y.d)
  exact h4.setCell (p := { block := p.block, off := p.off + 5 }) hb (.int .i64 y.f)
/-- What joining gives, as two values. -/
theorem join_cases (x g : Gl) : ∃ (Y : Array Value) (jb : Bool), joinV (joinF x g) = .tuple #[.agg Y, .bool jb] ∧ Y.size = 6 ∧ Y.all (·.oneCell') = true ∧ ((jb = true ∧ ∃ y, joinF x g = some y ∧ Y = y.cs) ∨ (jb = false ∧ joinF x g = none)) := by
  cases h : joinF x g with
  | none => exact ⟨_, false, rfl, rfl, by simp [Value.oneCell'], .inr ⟨rfl, rfl⟩⟩
  | some y => exact ⟨y.cs, true, rfl, rfl, by simp [Gl.cs, Value.oneCell'], .inl ⟨rfl, y, rfl, rfl⟩⟩
end Go.Proofs.Ytbohbapheofpiaa
