/-
  Layer 9: slices of spans in memory: what they read, rows of a call's own, one span written anew. Plain lemmas.
-/
import Derived.Test.YtejdaodchaeglaaSpL
import Derived.Test.YtejdaodchaeglaaRowY
import Derived.Test.YtejdaodchaeglaaExtra
import Derived.Test.YtejdaodchaeglaaMill
import Derived.Deep.DeepCutAuto
import Derived.Deep.CutBlock
import Derived.Deep.RegionWith
import Derived.Lib.SliceRun
namespace Go.Proofs.Ytejdaodchaeglaa
open Go.RowKit
def csS (x : Sp) : Array Value := #[.int .i64 x.1, .int .i64 x.2]
def lsS (x : Sp) : List Value := [.int .i64 x.1, .int .i64 x.2]
def scells (l : List Sp) : List Value := l.flatMap lsS
theorem scells_len (l : List Sp) : (scells l).length = l.length * 2 := by
  induction l with
  | nil => rfl
  | cons g l ih => simp only [scells, List.flatMap_cons, List.length_append, List.length_cons] at *; rw [ih]; simp [lsS]; omega
theorem scells_append (a b : List Sp) : scells (a ++ b) = scells a ++ scells b := by simp [scells]
theorem scells_at (l : List Sp) (k : Nat) (g : Sp) (h : l[k]? = some g) (j : Nat) (hj : j < 2) : (scells l)[k * 2 + j]? = (lsS g)[j]? := by
  induction l generalizing k with
  | nil => simp at h
  | cons x l ih =>
    simp only [scells, List.flatMap_cons]
    cases k with
    | zero =>
      simp only [List.getElem?_cons_zero, Option.some.injEq] at h
      subst h
      rw [List.getElem?_append_left (by simp [lsS]; omega)]
      simp
    | succ k =>
      rw [List.getElem?_append_right (by simp [lsS]; omega)]
      have := ih k (by simpa using h)
      simp only [scells] at this
      rw [← this]
      congr 1
      simp [lsS]
      omega
theorem scells_one (l : List Sp) : ∀ u ∈ scells l, u.oneCell' = true := by
  intro u hu
  obtain ⟨g, _, hg⟩ := List.mem_flatMap.1 hu
  simp only [lsS, List.mem_cons, List.not_mem_nil, or_false] at hg
  rcases hg with rfl | rfl <;> rfl
theorem scells_split (l : List Sp) (k : Nat) : scells l = scells (l.take k) ++ scells (l.drop k) := by rw [← scells_append, List.take_append_drop]
theorem scells_drop (l : List Sp) (k : Nat) : scells (l.drop k) = (scells l).drop (k * 2) := by
  by_cases hk : k ≤ l.length
  · rw [scells_split l k, List.drop_left' (by rw [scells_len, List.length_take]; omega)]
  · rw [List.drop_of_length_le (by omega), List.drop_of_length_le (by rw [scells_len]; omega)]
    rfl
theorem scells_take (l : List Sp) (k : Nat) : scells (l.take k) = (scells l).take (k * 2) := by
  by_cases hk : k ≤ l.length
  · rw [scells_split l k, List.take_left' (by rw [scells_len, List.length_take]; omega)]
  · rw [List.take_of_length_le (by omega), List.take_of_length_le (by rw [scells_len]; omega)]
def Sps (w : World) (A : Option Addr) (l : List Sp) : Prop := Reads w w.heap.size 2 A l.length (scells l)
theorem Sps.grows {w w' : World} {A : Option Addr} {l : List Sp} (h : Sps w A l) (hg : Grows w w') : Sps w' A l := Reads.grows h hg
theorem sps_nil (w : World) : Sps w none [] := Reads.none_
theorem Sps.at_ {w : World} {A : Option Addr} {l : List Sp} (h : Sps w A l) {k : Nat} (hk : k < l.length) :
    ∃ ad g, A = some ad ∧ ad.block < w.heap.size ∧ l[k]? = some g ∧ ∀ j v, (csS g)[j]? = some v → w.cell? (ad.add (k * 2 + j)) = some v := by
  obtain ⟨ad, e, hb, hc⟩ := h.2 (by omega)
  refine ⟨ad, l[k], e, hb, List.getElem?_eq_getElem hk, fun j v hv => hc _ _ ?_⟩
  have hj : j < 2 := by
    have := (Array.getElem?_eq_some_iff.1 hv).1
    simpa [csS] using this
  rw [scells_at l k _ (List.getElem?_eq_getElem hk) j hj]
  simpa [csS, lsS] using hv
/-- The cells of an element, as a walk asks for them. -/
def CellsS (w : World) (p : Addr) (g : Sp) : Prop := w.cell? p = some (.int .i64 g.1) ∧ w.cell? { block := p.block, off := p.off + 1 } = some (.int .i64 g.2)
theorem Sps.elem {w : World} {A : Option Addr} {l : List Sp} (h : Sps w A l) {k : Nat} (hk : k < l.length) :
    ∃ ad g, A = some ad ∧ ad.block < w.heap.size ∧ l[k]? = some g ∧ CellsS w (ad.add (k * 2)) g := by
  obtain ⟨ad, g, e, hb, hg, hc⟩ := h.at_ hk
  refine ⟨ad, g, e, hb, hg, ?_⟩
  have e0 : (ad.add (k * 2)).add 0 = ad.add (k * 2) := by simp [Addr.add]
  have hj : ∀ j v, (csS g)[j]? = some v → w.cell? ((ad.add (k * 2)).add j) = some v := fun j v hv => by rw [add_of_add]; exact hc j v hv
  have ej : ∀ j, j ≠ 0 → (ad.add (k * 2)).add j = { block := (ad.add (k * 2)).block, off := (ad.add (k * 2)).off + j } := fun j hj0 => by
    generalize ad.add (k * 2) = p
    unfold Addr.add
    rw [if_neg hj0]
  refine ⟨by have := hj 0 _ rfl; rwa [e0] at this, ?_⟩
  have := hj 1 _ rfl
  rwa [ej 1 (by omega)] at this
theorem Sps.grown {w w' : World} {A : Option Addr} {l : List Sp} (h : Sps w A l) {row : Option Nat} (hg : w.grownBy w' row) (hne : ∀ ad, A = some ad → 0 < l.length → some ad.block ≠ row) : Sps w' A l := by
  refine ⟨h.1, fun hn => ?_⟩
  obtain ⟨ad, e, hb, hc⟩ := h.2 hn
  have hn' := hne ad e hn
  exact ⟨ad, e, Nat.lt_of_lt_of_le hb hg.size, fun j u hu => (World.cell?_of_block (hg.block (ad.add j).block (by rw [block_of_add]; exact hb) (by rw [block_of_add]; exact hn'))).trans (hc j u hu)⟩
theorem sps_drop {w : World} {A : Option Addr} {l : List Sp} (h : Sps w A l) {k cap : Nat} (hk : k ≤ l.length) (hc : l.length ≤ cap) : Sps w (if cap = k then A else A.map (fun x => x.add (k * 2))) (l.drop k) := by
  have := Reads.cut h hk hc
  unfold Sps
  rw [List.length_drop, scells_drop]
  exact this
theorem sps_take {w : World} {A : Option Addr} {l : List Sp} (h : Sps w A l) (k : Nat) : Sps w A (l.take k) := by
  refine ⟨by rw [scells_len], fun hn => ?_⟩
  rw [List.length_take] at hn
  obtain ⟨ad, e, hb, hc⟩ := h.2 (by omega)
  refine ⟨ad, e, hb, fun j u hu => hc j u ?_⟩
  rw [scells_take, List.getElem?_take] at hu
  split at hu
  · exact hu
  · cases hu
theorem sps_lit (w : World) (x : Sp) : Sps (w.alloc (.cells (csS x) 40)) (some ⟨w.heap.size, 0, none⟩) [x] := by
  refine ⟨rfl, fun _ => ⟨_, rfl, by simp, fun j u hu => ?_⟩⟩
  have hb := Blk.new w 40 (csS x)
  have ha : (⟨w.heap.size, 0, none⟩ : Addr).add j = ⟨w.heap.size, j, none⟩ := by
    unfold Addr.add
    split
    · simp_all
    · simp
  rw [ha, hb.cell]
  simpa [scells, lsS, csS] using hu
theorem sinfo : ∃ i : TypeInfo, Try.prog.info? 40 = some i ∧ i.size = 2 ∧ i.bytes = 16 ∧ i.zero = some (.agg #[.int .i64 0, .int .i64 0]) ∧ (Value.agg #[.int .i64 0, .int .i64 0]).cells.size = 2 := ⟨_, by first | exact Try.info40 | rfl, rfl, rfl, rfl, rfl⟩
theorem sinfo2 : (Try.prog.info? 40).map (·.size) = some 2 := by kernel_rfl
/-- A row of one's own. -/
def Own (w : World) (base : Nat) (v : Value) (l : List Sp) : Prop := w.ownsRow base 40 2 v l.length (scells l)
theorem own_nil (w : World) (base : Nat) : Own w base (.slice none 0 0) [] := World.ownsRow_nil w base 40 2
theorem Own.read {w : World} {base : Nat} {v : Value} {l : List Sp} (h : Own w base v l) : ∃ (A : Option Addr) (c : Nat), v = .slice A l.length c ∧ l.length ≤ c ∧ Sps w A l ∧ ∀ ad, A = some ad → base ≤ ad.block := by
  have hlt := h.lt
  rcases h.2 with ⟨rfl, hn⟩ | ⟨g, cap, cur, rfl, hb, hg, hnc, hm, hs, ht⟩
  · refine ⟨none, 0, by rw [hn], by omega, Reads.of_own (c := 0) (by simpa [Own, hn] using h), fun ad e => by cases e⟩
  · exact ⟨_, cap, rfl, hnc, Reads.of_own h, fun ad e => by injection e with e; subst e; exact hb⟩
theorem grown_none2 {w w' : World} (h : Grows w w') : w.grownBy w' none := ⟨h.os, h.tape, h.output, h.size, fun k hk _ => h.block k hk⟩
theorem Own.grows {w w' : World} {base : Nat} {v : Value} {l : List Sp} (h : Own w base v l) (hg : Grows w w') : Own w' base v l := by
  refine h.kept (grown_none2 hg) ?_
  cases e : v.ownBlock
  · exact .inl rfl
  · exact .inr (by simp)
theorem Own.mono {w : World} {base base' : Nat} {v : Value} {l : List Sp} (h : Own w base v l) (hb : base' ≤ base) : Own w base' v l :=
  ⟨h.1, h.2.imp id fun ⟨g, cap, cur, hv, hg, r⟩ => ⟨g, cap, cur, hv, Nat.le_trans hb hg, r⟩⟩
theorem Own.addr {w : World} {base cap : Nat} {ad : Addr} {l : List Sp} (h : Own w base (.slice (some ad) l.length cap) l) (hn : 0 < l.length) : ∃ g, ad = ⟨g, 0, none⟩ ∧ base ≤ g ∧ g < w.heap.size := by
  obtain ⟨g, cap', hv, hb, hlt⟩ := h.form hn
  injection hv with e1 _ _
  injection e1 with e1
  exact ⟨g, e1, hb, hlt⟩
theorem Own.frozenAt {w : World} {base g cap : Nat} {l : List Sp} (h : Own w base (.slice (some ⟨g, 0, none⟩) l.length cap) l) (i : Nat) : w.frozen? ⟨g, i, none⟩ = false := World.ownsRow.frozenAt h i
/-- The end of the last span written anew. -/
theorem Own.setHi {w : World} {base g cap : Nat} {q : List Sp} {y : Sp} (h : Own w base (.slice (some ⟨g, 0, none⟩) (q ++ [y]).length cap) (q ++ [y])) (z : Int) :
    Own (w.setCell ⟨g, q.length * 2 + 1, none⟩ (.int .i64 z)) base (.slice (some ⟨g, 0, none⟩) (q ++ [y]).length cap) (q ++ [(y.1, z)]) := by
  have h1 := (World.ownsRow.stored h (q.length * 2 + 1) (.int .i64 z)).1
  unfold Own
  have e : (scells (q ++ [y])).set (q.length * 2 + 1) (.int .i64 z) = scells (q ++ [(y.1, z)]) := by
    rw [scells_append, scells_append, List.set_append_right _ _ (by rw [scells_len]; omega), scells_len]
    rw [show q.length * 2 + 1 - q.length * 2 = 1 by omega]
    rfl
  rw [e] at h1
  simpa using h1
section
variable {ops : Array Oper} {rest : List Oper} {o : Oper} {a : Act} {w : World} {Q : Exit → Act → World → Prop} {K : Act → World → Prop}
theorem wp_append_sp (s x : Operand) (ho : o.op = .call { callee := .builtin .append, args := #[s, x], argTypes := #[22, 22] })
    {base : Nat} {v : Value} {l m : List Sp} {A : Option Addr} {c n : Nat} (hn : n = m.length) (hs : a.eval s = v) (hown : Own w base v l) (hx : a.eval x = .slice A n c) (hr : Sps w A m) (hlen : l.length + m.length ≤ 1000000) (hbase : base ≤ w.heap.size)
    (h : ∀ v' w', Own w' base v' (l ++ m) → w.grownBy w' v.ownBlock → K (a.put o.dst v') w') : o.wp Try.prog a w K Q := by
  obtain ⟨i0, hi0, hi1, hi2, hi3, hi4⟩ := sinfo
  subst hn
  refine wp_append_any w s x 22 ho base 40 i0 _ 2 16 Try.underlying22 hi0 hi3 hi1 hi2 hi4 (by omega) v l.length (scells l) hs hown w.heap.size A m.length c (scells m) hx hr (scells_one m) (by simp only [maxLen]; omega) (by omega) hbase fun v' w' h1 h2 _ => h v' w' ?_ h2
  unfold Own
  rw [scells_append, List.length_append]
  exact h1
theorem wpList_append_sp (hgd : o.guard = none) (s x : Operand) (ho : o.op = .call { callee := .builtin .append, args := #[s, x], argTypes := #[22, 22] })
    {base : Nat} {v : Value} {l m : List Sp} {A : Option Addr} {c n : Nat} (hn : n = m.length) (hs : a.eval s = v) (hown : Own w base v l) (hx : a.eval x = .slice A n c) (hr : Sps w A m) (hlen : l.length + m.length ≤ 1000000) (hbase : base ≤ w.heap.size)
    (h : ∀ v' w', Own w' base v' (l ++ m) → w.grownBy w' v.ownBlock → wpList Try.prog ops Q rest (a.put o.dst v') w') : wpList Try.prog ops Q (o :: rest) a w :=
  wpList_plain hgd fun _ hK => wp_append_sp s x ho hn hs hown hx hr hlen hbase fun v' w' h1 h2 => hK _ _ (h v' w' h1 h2)
end
theorem Own.below {w w' : World} {base : Nat} {v : Value} {l : List Sp} {u : World} (h : Own w base v l) (hB : Below base u w) (hg : w.grownBy w' v.ownBlock) (hs : base ≤ w.heap.size) : Below base u w' := hB.grown hg hs fun q hq => (h.lt q hq).1
/-- Spans do not lie in a block that holds a slice alone. -/
theorem Sps.ne_slice {w : World} {A : Option Addr} {l : List Sp} (h : Sps w A l) {g : Nat} {t : TypeId} {B : Option Addr} {n c : Nat} (hb : Blk w g t #[.slice B n c]) (ad : Addr) (ha : A = some ad) (hl : 0 < l.length) : ad.block ≠ g := by
  intro he
  obtain ⟨ad', x, e, _, _, hc⟩ := h.at_ hl
  rw [ha] at e
  injection e with e
  subst e
  have h1 := hc 1 _ rfl
  have e1 : ad.add (0 * 2 + 1) = ⟨ad.block, ad.off + 1, none⟩ := by unfold Addr.add; rw [if_neg (by omega)]
  rw [e1, he, hb.cell, Array.getElem?_eq_none (by simp)] at h1
  cases h1
theorem Sps.setOther {w : World} {A : Option Addr} {l : List Sp} (h : Sps w A l) {g : Nat} {t : TypeId} {B : Option Addr} {n c : Nat} (hb : Blk w g t #[.slice B n c]) (u : Value) : Sps (w.setCell ⟨g, 0, none⟩ u) A l := by
  refine ⟨h.1, fun hn => ?_⟩
  obtain ⟨ad, e, hlt, hc⟩ := h.2 hn
  have hne := h.ne_slice hb ad e hn
  exact ⟨ad, e, by simpa [World.setCell] using hlt, fun j u' hu => (World.cell?_setCell_other w _ _ u (fun ee => hne (by have := congrArg Addr.block ee; rw [block_of_add] at this; exact this.symm ▸ rfl))).trans (hc j u' hu)⟩
end Go.Proofs.Ytejdaodchaeglaa
