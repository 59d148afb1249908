/-
  A map that the call makes, as a function of typed keys: made, looked up, stored into, under growth. Plain theorems over whatever program.
-/
import Derived.Maps.OwnSet
import Derived.Maps.Views
import Derived.Test.YtmokpiacioeohaaGen
namespace Go.Proofs.Ytmokpiacioeohaa
open Go.RowKit Go.Maps
/-- An element reads as itself. -/
def heldR (v : Value) : Option (DataW Value × List MemPlace) := some (.held v, [])
/-- How keys are laid: enc gives the key's value; ok says which keys are meant. -/
structure KeyT (P : Program) (k : TypeId) (α : Type) where
  enc : α → Value
  ok : α → Prop
  lit : ∀ a, ok a → ∃ l, keyOf P k (enc a) = some l
  inj : ∀ a b, enc a = enc b → a = b
/-- Block b is a map of at most n entries; M says what lies at each key. -/
def MapT {α : Type} {P : Program} {k : TypeId} (T : KeyT P k α) (w : World) (b n : Nat) (M : α → Option Value) : Prop :=
  ∃ D : DataW Value, w.ownsMap P k heldR b n D ∧ ∀ a, T.ok a → ∀ l, keyOf P k (T.enc a) = some l → Maps.has D l = (M a).isSome ∧ ∀ z, D.atKey l (.held z) = .held ((M a).getD z)
section
variable {α : Type} {P : Program} {k : TypeId} {T : KeyT P k α} {w w' : World} {b n : Nat} {M : α → Option Value}
theorem mapT_made (T : KeyT P k α) (w : World) : MapT T (w.alloc (.map #[] 0)) w.heap.size 0 (fun _ => none) :=
  ⟨.map [], World.ownsMap_made _ _ _ _, fun _ _ _ _ => ⟨rfl, fun _ => rfl⟩⟩
theorem MapT.kept (h : MapT T w b n M) {row : Option Nat} (hg : w.grownBy w' row) (hne : some b ≠ row) : MapT T w' b n M := by
  obtain ⟨D, h1, h2⟩ := h
  exact ⟨D, h1.kept hg hne, h2⟩
theorem MapT.grows (h : MapT T w b n M) (hg : Grows w w') : MapT T w' b n M := h.kept (row := none) ⟨hg.os, hg.tape, hg.output, hg.size, fun j hj _ => hg.block j hj⟩ (by simp)
theorem MapT.lt (h : MapT T w b n M) : b < w.heap.size := by obtain ⟨D, h1, _⟩ := h; exact h1.lt
theorem MapT.mono (h : MapT T w b n M) {n' : Nat} (hn : n ≤ n') : MapT T w b n' M := by
  obtain ⟨D, h1, h2⟩ := h
  exact ⟨D, h1.mono hn, h2⟩
theorem MapT.ext (h : MapT T w b n M) {M' : α → Option Value} (e : ∀ a, T.ok a → M a = M' a) : MapT T w b n M' := by
  obtain ⟨D, h1, h2⟩ := h
  exact ⟨D, h1, fun a ha l hl => by rw [← e a ha]; exact h2 a ha l hl⟩
/-- The block is no row of cells. -/
theorem MapT.ne_blk (h : MapT T w b n M) {g : Nat} {t : TypeId} {cs : Array Value} (hb : Blk w g t cs) : b ≠ g := by
  rintro rfl
  obtain ⟨D, ⟨es, cl, h1, _⟩, _⟩ := h
  unfold Blk at hb
  rw [hb] at h1
  cases h1
theorem MapT.ne_own (h : MapT T w b n M) {base : Nat} {e : TypeId} {size m : Nat} {v : Value} {xs : List Value} (ho : w.ownsRow base e size v m xs) : some b ≠ v.ownBlock := by
  rcases ho.2 with ⟨rfl, _⟩ | ⟨g, cap, cur, rfl, _, hg, _⟩
  · simp [Value.ownBlock]
  · have : b ≠ g := h.ne_blk hg
    simp [Value.ownBlock, this]
theorem MapT.setCell (h : MapT T w b n M) {p : Addr} (hp : b ≠ p.block) (u : Value) : MapT T (w.setCell p u) b n M := by
  obtain ⟨D, h1, h2⟩ := h
  exact ⟨D, h1.setCell hp u, h2⟩
theorem MapT.look_ok (h : MapT T w b n M) (K : Keyed P k) {t e : TypeId} (ht : P.underlying t = some (.map k e)) {z : Value} (hz : (zeroValue e).run P w = .ok z w) {a : α} (ha : T.ok a) :
    (Instr.lookup t (.map (some b)) (T.enc a) true).run P w = .ok (.tuple #[(M a).getD z, .bool (M a).isSome]) w := by
  obtain ⟨D, h1, h2⟩ := h
  obtain ⟨l, hl⟩ := T.lit a ha
  obtain ⟨v, ps, hrun, hv⟩ := h1.look_ok K ht hz (zd := .held z) (zp := []) rfl hl
  obtain ⟨e1, e2⟩ := h2 a ha l hl
  rw [hrun, e1]
  rw [e2 z] at hv
  unfold heldR at hv
  injection hv with hv
  injection hv with hv
  injection hv with hv
  rw [hv]
theorem MapT.look (h : MapT T w b n M) (K : Keyed P k) {t e : TypeId} (ht : P.underlying t = some (.map k e)) {z : Value} (hz : (zeroValue e).run P w = .ok z w) {a : α} (ha : T.ok a) :
    (Instr.lookup t (.map (some b)) (T.enc a) false).run P w = .ok ((M a).getD z) w := by
  obtain ⟨D, h1, h2⟩ := h
  obtain ⟨l, hl⟩ := T.lit a ha
  obtain ⟨v, ps, hrun, hv⟩ := h1.lookup K ht hz (zd := .held z) (zp := []) rfl hl
  obtain ⟨e1, e2⟩ := h2 a ha l hl
  rw [hrun]
  rw [e2 z] at hv
  unfold heldR at hv
  injection hv with hv
  injection hv with hv
  injection hv with hv
  rw [hv]
theorem MapT.store [DecidableEq α] (h : MapT T w b n M) (K : Keyed P k) {t e : TypeId} (ht : P.underlying t = some (.map k e)) (hn : n < maxLen) {a : α} (ha : T.ok a) (val : Value) :
    ∃ w', (Instr.mapUpdate t (.map (some b)) (T.enc a) val).run P w = .ok () w' ∧ MapT T w' b (n + 1) (fun x => if x = a then some val else M x) ∧ w.grownBy w' (some b) := by
  obtain ⟨D, h1, h2⟩ := h
  obtain ⟨l, hl⟩ := T.lit a ha
  obtain ⟨w', hrun, h3, h4⟩ := h1.update K ht hn hl (val := val) (d := .held val) (ps := []) rfl
  refine ⟨w', hrun, ⟨_, h3, fun x hx lx hlx => ?_⟩, h4⟩
  by_cases e : x = a
  · subst e
    rw [hl] at hlx
    injection hlx with hlx
    subst hlx
    simp only [if_true]
    exact ⟨Maps.has_put_same h1.isMap (K.key hl) _, fun z => Maps.atKey_put_same h1.isMap (K.key hl) _ _⟩
  · have hne : lx ≠ l := fun e2 => by
      subst e2
      exact e (T.inj _ _ (K.inj hlx hl))
    simp only [if_neg e]
    rw [Maps.has_put_other hne]
    exact ⟨(h2 x hx lx hlx).1, fun z => by rw [Maps.atKey_put_other hne]; exact (h2 x hx lx hlx).2 z⟩
section
variable {ops : Array Oper} {rest : List Oper} {o : Oper} {a : Act} {Q : Exit → Act → World → Prop}
/-- 'v, ok := m[k]' at the operation. -/
theorem wpList_lookT_ok (hgd : o.guard = none) (m x : Operand) (t : TypeId) (hop : o.op = Op.lookup t m x true) (hm : a.eval m = .map (some b)) (h : MapT T w b n M) (K : Keyed P k) {e : TypeId} (ht : P.underlying t = some (.map k e)) {z : Value}
    (hz : (zeroValue e).run P w = .ok z w) (y : α) (ha : T.ok y) (hx : a.eval x = T.enc y) (hK : wpList P ops Q rest (a.put o.dst (.tuple #[(M y).getD z, .bool (M y).isSome])) w) : wpList P ops Q (o :: rest) a w := by
  refine wpList_plain hgd fun K' hK' => ?_
  have hrun := h.look_ok K ht hz ha
  unfold Oper.wp
  simp [execOp, hop, hm, hx, hrun, Result.andThen]
  exact hK' _ _ hK
theorem wpList_lookT_hit (hgd : o.guard = none) (m x : Operand) (t : TypeId) (hop : o.op = Op.lookup t m x true) (hm : a.eval m = .map (some b)) (h : MapT T w b n M) (K : Keyed P k) {e : TypeId} (ht : P.underlying t = some (.map k e)) {z : Value}
    (hz : (zeroValue e).run P w = .ok z w) (y : α) (ha : T.ok y) (hx : a.eval x = T.enc y) {v : Value} (hv : M y = some v) (hK : wpList P ops Q rest (a.put o.dst (.tuple #[v, .bool true])) w) : wpList P ops Q (o :: rest) a w :=
  wpList_lookT_ok hgd m x t hop hm h K ht hz y ha hx (by rw [hv]; exact hK)
theorem wpList_lookT_miss (hgd : o.guard = none) (m x : Operand) (t : TypeId) (hop : o.op = Op.lookup t m x true) (hm : a.eval m = .map (some b)) (h : MapT T w b n M) (K : Keyed P k) {e : TypeId} (ht : P.underlying t = some (.map k e)) {z : Value}
    (hz : (zeroValue e).run P w = .ok z w) (y : α) (ha : T.ok y) (hx : a.eval x = T.enc y) (hv : M y = none) (hK : wpList P ops Q rest (a.put o.dst (.tuple #[z, .bool false])) w) : wpList P ops Q (o :: rest) a w :=
  wpList_lookT_ok hgd m x t hop hm h K ht hz y ha hx (by rw [hv]; exact hK)
theorem wpList_lookT (hgd : o.guard = none) (m x : Operand) (t : TypeId) (hop : o.op = Op.lookup t m x false) (hm : a.eval m = .map (some b)) (h : MapT T w b n M) (K : Keyed P k) {e : TypeId} (ht : P.underlying t = some (.map k e)) {z : Value}
    (hz : (zeroValue e).run P w = .ok z w) (y : α) (ha : T.ok y) (hx : a.eval x = T.enc y) (hK : wpList P ops Q rest (a.put o.dst ((M y).getD z)) w) : wpList P ops Q (o :: rest) a w := by
  refine wpList_plain hgd fun K' hK' => ?_
  have hrun := h.look K ht hz ha
  unfold Oper.wp
  simp [execOp, hop, hm, hx, hrun, Result.andThen]
  exact hK' _ _ hK
theorem wpList_storeT [DecidableEq α] (hgd : o.guard = none) (m x v : Operand) (t : TypeId) (hop : o.op = Op.mapUpdate t m x v) (hm : a.eval m = .map (some b)) (h : MapT T w b n M) (K : Keyed P k) {e : TypeId} (ht : P.underlying t = some (.map k e)) (hn : n < maxLen)
    (y : α) (ha : T.ok y) (val : Value) (hx : a.eval x = T.enc y) (hv : a.eval v = val)
    (hK : ∀ w', MapT T w' b (n + 1) (fun x => if x = y then some val else M x) → w.grownBy w' (some b) → wpList P ops Q rest (a.put o.dst undef) w') : wpList P ops Q (o :: rest) a w := by
  refine wpList_plain hgd fun K' hK' => ?_
  obtain ⟨w', hrun, h1, h2⟩ := h.store K ht hn ha val
  unfold Oper.wp
  simp [execOp, hop, hm, hx, hv, hrun, Result.andThen]
  exact hK' _ _ (hK w' h1 h2)
theorem gr_lookT {ev : Operand → Value} {S : Value → World → Prop} (m x : Operand) (t : TypeId) (hop : o.op = Op.lookup t m x false) (hm : ev m = .map (some b)) (h : MapT T w b n M) (K : Keyed P k) {e : TypeId} (ht : P.underlying t = some (.map k e)) {z : Value}
    (hz : (zeroValue e).run P w = .ok z w) (y : α) (ha : T.ok y) (hx : ev x = T.enc y) (hK : S ((M y).getD z) w) : genR P S ((execOp ev o).run P w) := by
  have hrun := h.look K ht hz ha
  simp [execOp, hop, hm, hx, hrun, Result.andThen]
  exact hK
end
end
/-- Keys that are integers. -/
def intT {P : Program} {k : TypeId} {q : IntKind} (hk : P.underlying k = some (.int q)) : KeyT P k Int :=
  ⟨fun a => .int q a, fun a => (Lit.int q a).wf = true, fun a h => ⟨_, keyOf_int_mk hk h⟩, fun a b e => by injection e⟩
end Go.Proofs.Ytmokpiacioeohaa
