/-
  Rows of one's own: integers, nodes, links; what is appended to them. Plain lemmas.
-/
import Derived.Test.YtmokpiacioeohaaGrC
namespace Go.Proofs.Ytmokpiacioeohaa
open Go.RowKit
theorem iinfo : ∃ i : TypeInfo, Try.prog.info? 3 = some i ∧ i.size = 1 ∧ i.bytes = 8 ∧ i.zero = some (.int .i64 0) ∧ (Value.int .i64 0).cells.size = 1 := ⟨_, by first | exact Try.info3 | rfl, rfl, rfl, rfl, rfl⟩
def OwnI (w : World) (base : Nat) (v : Value) (l : List Int) : Prop := w.ownsRow base 3 1 v l.length (l.map (Value.int .i64))
theorem ownI_nil (w : World) (base : Nat) : OwnI w base (.slice none 0 0) [] := World.ownsRow_nil w base 3 1
theorem OwnI.read {w : World} {base : Nat} {v : Value} {l : List Int} (h : OwnI w base v l) : ∃ (A : Option Addr) (c : Nat), v = .slice A l.length c ∧ l.length ≤ c ∧ Ints w A l := by
  rcases h.2 with ⟨rfl, hn⟩ | ⟨g, cap, cur, rfl, hb, hg, hnc, hm, hs, ht⟩
  · exact ⟨none, 0, by rw [hn], by omega, Reads.of_own (c := 0) (by simpa [hn, OwnI] using h)⟩
  · exact ⟨_, cap, rfl, hnc, Reads.of_own h⟩
theorem OwnI.grows {w w' : World} {base : Nat} {v : Value} {l : List Int} (h : OwnI w base v l) (hg : Grows w w') : OwnI w' base v l := own_grows h hg
theorem OwnI.below {w w' : World} {base : Nat} {v : Value} {l : List Int} {u : World} (h : OwnI w base v l) (hB : Below base u w) (hg : w.grownBy w' v.ownBlock) (hs : base ≤ w.heap.size) : Below base u w' := hB.grown hg hs fun q hq => (h.lt q hq).1
theorem OwnI.mono {w : World} {base base' : Nat} {v : Value} {l : List Int} (h : OwnI w base v l) (hb : base' ≤ base) : OwnI w base' v l := ⟨h.1, h.2.imp id fun ⟨g, cap, cur, e, hg, r⟩ => ⟨g, cap, cur, e, by omega, r⟩⟩
theorem ints_lit (w : World) (x : Int) : Ints (w.alloc (.cells #[.int .i64 x] 3)) (some ⟨w.heap.size, 0, none⟩) [x] := by
  have hb := Blk.new w 3 #[.int .i64 x]
  refine ⟨rfl, fun _ => ⟨_, rfl, by simp, fun j u hu => ?_⟩⟩
  have hj : j = 0 := by
    have := (List.getElem?_eq_some_iff.1 hu).1
    simp at this
    exact this
  subst hj
  have h0 := hb.cell 0
  simp only [List.map_cons, List.map_nil, List.getElem?_cons_zero, Option.some.injEq] at hu
  subst hu
  simp [Addr.add, h0]
theorem ints_one (l : List Int) : ∀ u ∈ l.map (Value.int .i64), u.oneCell' = true := by
  intro u hu
  obtain ⟨g, _, rfl⟩ := List.mem_map.1 hu
  rfl
def OwnN (w : World) (base : Nat) (v : Value) (l : List Q4) : Prop := w.ownsRow base 59 4 v l.length (qcells l)
def OwnL (w : World) (base : Nat) (v : Value) (l : List Q4) : Prop := w.ownsRow base 52 4 v l.length (qcells l)
theorem ownN_nil (w : World) (base : Nat) : OwnN w base (.slice none 0 0) [] := World.ownsRow_nil w base 59 4
theorem ownL_nil (w : World) (base : Nat) : OwnL w base (.slice none 0 0) [] := World.ownsRow_nil w base 52 4
theorem OwnN.grows {w w' : World} {base : Nat} {v : Value} {l : List Q4} (h : OwnN w base v l) (hg : Grows w w') : OwnN w' base v l := own_grows h hg
theorem OwnL.grows {w w' : World} {base : Nat} {v : Value} {l : List Q4} (h : OwnL w base v l) (hg : Grows w w') : OwnL w' base v l := own_grows h hg
theorem OwnN.read {w : World} {base : Nat} {v : Value} {l : List Q4} (h : OwnN w base v l) : ∃ (A : Option Addr) (c : Nat), v = .slice A l.length c ∧ l.length ≤ c ∧ Qs w A l := qs_own h
theorem OwnL.read {w : World} {base : Nat} {v : Value} {l : List Q4} (h : OwnL w base v l) : ∃ (A : Option Addr) (c : Nat), v = .slice A l.length c ∧ l.length ≤ c ∧ Qs w A l := qs_own h
theorem OwnN.below {w w' : World} {base : Nat} {v : Value} {l : List Q4} {u : World} (h : OwnN w base v l) (hB : Below base u w) (hg : w.grownBy w' v.ownBlock) (hs : base ≤ w.heap.size) : Below base u w' := hB.grown hg hs fun q hq => (h.lt q hq).1
theorem OwnL.below {w w' : World} {base : Nat} {v : Value} {l : List Q4} {u : World} (h : OwnL w base v l) (hB : Below base u w) (hg : w.grownBy w' v.ownBlock) (hs : base ≤ w.heap.size) : Below base u w' := hB.grown hg hs fun q hq => (h.lt q hq).1
theorem qs_lit (w : World) (x : Q4) (t : TypeId) : Qs (w.alloc (.cells x.cs t)) (some ⟨w.heap.size, 0, none⟩) [x] := by
  have hb := Blk.new w t x.cs
  refine ⟨by rw [qcells_len], fun _ => ⟨_, rfl, by simp, fun j u hu => ?_⟩⟩
  have hu2 : x.cs[j]? = some u := by simpa [qcells, Q4.ls, Q4.cs] using hu
  have := hb.cell j
  unfold Addr.add
  split
  · rename_i e
    subst e
    rw [this]
    exact hu2
  · simp only [Nat.zero_add]
    rw [this]
    exact hu2
section
variable {ops : Array Oper} {rest : List Oper} {o : Oper} {a : Act} {w : World} {Q : Exit → Act → World → Prop}
theorem wpList_append_int (hgd : o.guard = none) (s x : Operand) (ho : o.op = .call { callee := .builtin .append, args := #[s, x], argTypes := #[36, 36] })
    {base : Nat} {v : Value} {l m : List Int} {A : Option Addr} {c n : Nat} (hn : n = m.length) (hs : a.eval s = v) (hown : OwnI w base v l) (hx : a.eval x = .slice A n c) (hr : Ints w A m) (hlen : l.length + m.length ≤ 1000000) (hbase : base ≤ w.heap.size)
    (h : ∀ v' w', OwnI w' base v' (l ++ m) → w.grownBy w' v.ownBlock → (v'.ownBlock = v.ownBlock ∨ v'.ownBlock = some w.heap.size) → wpList Try.prog ops Q rest (a.put o.dst v') w') : wpList Try.prog ops Q (o :: rest) a w := by
  obtain ⟨i0, hi0, hi1, hi2, hi3, hi4⟩ := iinfo
  subst hn
  refine wpList_append_any w hgd s x 36 ho base 3 i0 _ 1 8 Try.underlying36 hi0 hi3 hi1 hi2 hi4 (by omega) v l.length (l.map (Value.int .i64)) hs hown w.heap.size A m.length c (m.map (Value.int .i64)) hx hr (ints_one m) (by simp only [maxLen]; omega) (by omega) hbase fun v' w' h1 h2 h3 => h v' w' ?_ h2 h3
  unfold OwnI
  rw [List.map_append, List.length_append]
  exact h1
theorem wpList_append_link (hgd : o.guard = none) (s x : Operand) (ho : o.op = .call { callee := .builtin .append, args := #[s, x], argTypes := #[38, 38] })
    {base : Nat} {v : Value} {l m : List Q4} {A : Option Addr} {c n : Nat} (hn : n = m.length) (hs : a.eval s = v) (hown : OwnL w base v l) (hx : a.eval x = .slice A n c) (hr : Qs w A m) (hlen : l.length + m.length ≤ 1000000) (hbase : base ≤ w.heap.size)
    (h : ∀ v' w', OwnL w' base v' (l ++ m) → w.grownBy w' v.ownBlock → (v'.ownBlock = v.ownBlock ∨ v'.ownBlock = some w.heap.size) → wpList Try.prog ops Q rest (a.put o.dst v') w') : wpList Try.prog ops Q (o :: rest) a w := by
  obtain ⟨i0, hi0, hi1, hi2, hi3, hi4⟩ := qinfo_l
  subst hn
  refine wpList_append_any w hgd s x 38 ho base 52 i0 _ 4 32 Try.underlying38 hi0 hi3 hi1 hi2 hi4 (by omega) v l.length (qcells l) hs hown w.heap.size A m.length c (qcells m) hx hr (qcells_one m) (by simp only [maxLen]; omega) (by omega) hbase fun v' w' h1 h2 h3 => h v' w' ?_ h2 h3
  unfold OwnL
  rw [qcells_append, List.length_append]
  exact h1
end
end Go.Proofs.Ytmokpiacioeohaa
