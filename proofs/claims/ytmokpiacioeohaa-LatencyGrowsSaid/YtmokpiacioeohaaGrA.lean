/-
  Slices of rows of four integers: what they read; rows of one's own. Plain lemmas.
-/
import Derived.Test.YtmokpiacioeohaaGrL
import Derived.Test.YtmokpiacioeohaaMill
import Derived.Test.YtmokpiacioeohaaMix
import Derived.Test.YtmokpiacioeohaaWords
import Derived.Lib.Hide
import Derived.Test.YtmokpiacioeohaaRow
import Derived.Test.YtmokpiacioeohaaRowX
import Derived.Test.YtmokpiacioeohaaExtra
import Derived.Deep.DeepCutAuto
import Derived.Deep.CutBlock
import Derived.Deep.RegionWith
import Derived.Lib.SliceRun
namespace Go.Proofs.Ytmokpiacioeohaa
open Go.RowKit
def Q4.cs (g : Q4) : Array Value := #[.int .i64 g.a, .int .i64 g.b, .int .i64 g.c, .int .i64 g.d]
def Q4.ls (g : Q4) : List Value := [.int .i64 g.a, .int .i64 g.b, .int .i64 g.c, .int .i64 g.d]
def qcells (l : List Q4) : List Value := l.flatMap Q4.ls
theorem qcells_len (l : List Q4) : (qcells l).length = l.length * 4 := by
  induction l with
  | nil => rfl
  | cons g l ih => simp only [qcells, List.flatMap_cons, List.length_append, List.length_cons] at *; rw [ih]; simp [Q4.ls]; omega
theorem qcells_at (l : List Q4) (k : Nat) (g : Q4) (h : l[k]? = some g) (j : Nat) (hj : j < 4) : (qcells l)[k * 4 + j]? = g.ls[j]? := by
  induction l generalizing k with
  | nil => simp at h
  | cons x l ih =>
    simp only [qcells, List.flatMap_cons]
    cases k with
    | zero =>
      simp only [List.getElem?_cons_zero, Option.some.injEq] at h
      subst h
      rw [List.getElem?_append_left (by simp [Q4.ls]; omega)]
      simp
    | succ k =>
      rw [List.getElem?_append_right (by simp [Q4.ls]; omega)]
      have := ih k (by simpa using h)
      simp only [qcells] at this
      rw [← this]
      congr 1
      simp [Q4.ls]
      omega
theorem qcells_append (a b : List Q4) : qcells (a ++ b) = qcells a ++ qcells b := by simp [qcells]
def Qs (w : World) (A : Option Addr) (l : List Q4) : Prop := Reads w w.heap.size 4 A l.length (qcells l)
theorem Qs.grows {w w' : World} {A : Option Addr} {l : List Q4} (h : Qs w A l) (hg : Grows w w') : Qs w' A l := Reads.grows h hg
theorem Qs.at_ {w : World} {A : Option Addr} {l : List Q4} (h : Qs w A l) {k : Nat} (hk : k < l.length) :
    ∃ ad g, A = some ad ∧ ad.block < w.heap.size ∧ l[k]? = some g ∧ ∀ j v, g.cs[j]? = some v → w.cell? (ad.add (k * 4 + j)) = some v := by
  obtain ⟨ad, e, hb, hc⟩ := h.2 (by omega)
  refine ⟨ad, l[k], e, hb, List.getElem?_eq_getElem hk, fun j v hv => hc _ _ ?_⟩
  have hj : j < 4 := by
    have := (Array.getElem?_eq_some_iff.1 hv).1
    simpa [Q4.cs] using this
  rw [qcells_at l k _ (List.getElem?_eq_getElem hk) j hj]
  simpa [Q4.cs, Q4.ls] using hv
/-- The cells of an element, as a walk asks for them. -/
def CellsQ (w : World) (p : Addr) (g : Q4) : Prop :=
  w.cell? p = some (.int .i64 g.a) ∧ w.cell? { block := p.block, off := p.off + 1 } = some (.int .i64 g.b) ∧ w.cell? { block := p.block, off := p.off + 2 } = some (.int .i64 g.c) ∧
    w.cell? { block := p.block, off := p.off + 3 } = some (.int .i64 g.d)
theorem Qs.elem {w : World} {A : Option Addr} {l : List Q4} (h : Qs w A l) {k : Nat} (hk : k < l.length) :
    ∃ ad g, A = some ad ∧ ad.block < w.heap.size ∧ l[k]? = some g ∧ CellsQ w (ad.add (k * 4)) g := by
  obtain ⟨ad, g, e, hb, hg, hc⟩ := h.at_ hk
  refine ⟨ad, g, e, hb, hg, ?_⟩
  have e0 : (ad.add (k * 4)).add 0 = ad.add (k * 4) := by simp [Addr.add]
  have hj : ∀ j v, g.cs[j]? = some v → w.cell? ((ad.add (k * 4)).add j) = some v := fun j v hv => by rw [add_of_add]; exact hc j v hv
  have ej : ∀ j, j ≠ 0 → (ad.add (k * 4)).add j = { block := (ad.add (k * 4)).block, off := (ad.add (k * 4)).off + j } := fun j hj0 => by
    generalize ad.add (k * 4) = p
    unfold Addr.add
    rw [if_neg hj0]
  refine ⟨by have := hj 0 _ rfl; rwa [e0] at this, ?_, ?_, ?_⟩
  · have := hj 1 _ rfl; rwa [ej 1 (by omega)] at this
  · have := hj 2 _ rfl; rwa [ej 2 (by omega)] at this
  · have := hj 3 _ rfl; rwa [ej 3 (by omega)] at this
/-- An element, wherever the world has grown to. -/
theorem Qs.addr {w : World} {A : Option Addr} {l : List Q4} (h : Qs w A l) {k : Nat} (hk : k < l.length) : ∃ ad x, A = some ad ∧ ad.block < w.heap.size ∧ l[k]? = some x ∧ ∀ w', Grows w w' → CellsQ w' (ad.add (k * 4)) x := by
  obtain ⟨ad, x, e, hb, hx, _⟩ := h.elem hk
  refine ⟨ad, x, e, hb, hx, fun w' hg => ?_⟩
  obtain ⟨ad', x', e', _, hx', hc⟩ := (h.grows hg).elem hk
  rw [e] at e'
  injection e' with e'
  rw [hx] at hx'
  injection hx' with hx'
  subst e' hx'
  exact hc
theorem qs_take {w : World} {A : Option Addr} {l : List Q4} (h : Qs w A l) (k : Nat) (hk : k ≤ l.length) : Qs w A (l.take k) := by
  have e : ∀ j, j < k * 4 → (qcells (l.take k))[j]? = (qcells l)[j]? := by
    intro j hj
    have : qcells l = qcells (l.take k) ++ qcells (l.drop k) := by rw [← qcells_append, List.take_append_drop]
    rw [this, List.getElem?_append_left (by rw [qcells_len, List.length_take]; omega)]
  refine ⟨by rw [qcells_len], fun hn => ?_⟩
  obtain ⟨ad, e1, hb, hc⟩ := h.2 (by rw [List.length_take] at hn; omega)
  refine ⟨ad, e1, hb, fun j v hv => hc j v ?_⟩
  have hj := (List.getElem?_eq_some_iff.1 hv).1
  rw [qcells_len, List.length_take] at hj
  rw [← e j (by omega)]
  exact hv
theorem grown_none {w w' : World} (h : Grows w w') : w.grownBy w' none := ⟨h.os, h.tape, h.output, h.size, fun k hk _ => h.block k hk⟩
theorem own_grows {w w' : World} {base : Nat} {e : TypeId} {size n : Nat} {v : Value} {xs : List Value} (h : w.ownsRow base e size v n xs) (hg : Grows w w') : w'.ownsRow base e size v n xs := by
  refine h.kept (grown_none hg) ?_
  cases e : v.ownBlock
  · exact .inl rfl
  · exact .inr (by simp)
theorem qinfo_n : ∃ i : TypeInfo, Try.prog.info? 59 = some i ∧ i.size = 4 ∧ i.bytes = 32 ∧ i.zero = some (.agg #[.int .i64 0, .int .i64 0, .int .i64 0, .int .i64 0]) ∧ (Value.agg #[.int .i64 0, .int .i64 0, .int .i64 0, .int .i64 0]).cells.size = 4 := ⟨_, by first | exact Try.info59 | rfl, rfl, rfl, rfl, rfl⟩
theorem qinfo_l : ∃ i : TypeInfo, Try.prog.info? 52 = some i ∧ i.size = 4 ∧ i.bytes = 32 ∧ i.zero = some (.agg #[.int .i64 0, .int .i64 0, .int .i64 0, .int .i64 0]) ∧ (Value.agg #[.int .i64 0, .int .i64 0, .int .i64 0, .int .i64 0]).cells.size = 4 := ⟨_, by first | exact Try.info52 | rfl, rfl, rfl, rfl, rfl⟩
theorem qs_own {w : World} {base : Nat} {v : Value} {e : TypeId} {l : List Q4} (h : w.ownsRow base e 4 v l.length (qcells l)) : ∃ (A : Option Addr) (c : Nat), v = .slice A l.length c ∧ l.length ≤ c ∧ Qs w A l := by
  rcases h.2 with ⟨rfl, hn⟩ | ⟨g, cap, cur, rfl, hb, hg, hnc, hm, hs, ht⟩
  · exact ⟨none, 0, by rw [hn], by omega, Reads.of_own (c := 0) (by simpa [hn] using h)⟩
  · exact ⟨_, cap, rfl, hnc, Reads.of_own h⟩
theorem qcells_one (l : List Q4) : ∀ u ∈ qcells l, u.oneCell' = true := by
  intro u hu
  obtain ⟨g, _, hg⟩ := List.mem_flatMap.1 hu
  simp only [Q4.ls, List.mem_cons, List.not_mem_nil, or_false] at hg
  rcases hg with rfl | rfl | rfl | rfl <;> rfl
set_option maxHeartbeats 4000000 in
theorem fine_any (n : Q4) (w : World) : Calls Try.prog 44 #[.agg n.cs] w fun e w' => e = .returned (.bool (fineN n)) ∧ Grows w w' := by
  obtain ⟨a, b, c, d⟩ := n
  simp only [Q4.cs]
  go_enter Try.func44, Try.ntmps44
  go_wp2
  all_goals (go_ret; refine ⟨ret_bool ?_, (Below.refl _ _).alloc (Nat.le_refl _) _⟩; apply Bool.eq_iff_iff.2; simp only [fineN, Bool.and_eq_true, Bool.or_eq_true, decide_eq_true_eq, beq_iff_eq, beq_eq_false_iff_ne, ne_eq, Bool.false_eq_true, false_iff] at * <;> omega)
set_option maxHeartbeats 4000000 in
theorem fits_any (n : Q4) (w : World) : Calls Try.prog 37 #[.agg n.cs] w fun e w' => e = .returned (.bool (fineN n)) ∧ Grows w w' := by
  obtain ⟨a, b, c, d⟩ := n
  simp only [Q4.cs]
  go_enter Try.func37, Try.ntmps37
  go_wp2
  all_goals (go_ret; refine ⟨ret_bool ?_, (Below.refl _ _).alloc (Nat.le_refl _) _⟩; apply Bool.eq_iff_iff.2; simp only [fineN, Bool.and_eq_true, Bool.or_eq_true, decide_eq_true_eq, beq_iff_eq, beq_eq_false_iff_ne, ne_eq, Bool.false_eq_true, false_iff] at * <;> omega)
end Go.Proofs.Ytmokpiacioeohaa
