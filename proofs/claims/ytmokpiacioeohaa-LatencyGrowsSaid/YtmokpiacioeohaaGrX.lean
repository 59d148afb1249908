/-
  Graphs: Add of the reference keeps a graph valid. Plain contract.
-/
import Derived.Test.YtmokpiacioeohaaGrW
import Derived.Test.YtmokpiacioeohaaGenT
namespace Go.Proofs.Ytmokpiacioeohaa
open Go.RowKit Go.Maps
theorem qcells_drop (l : List Q4) (k : Nat) : qcells (l.drop k) = (qcells l).drop (k * 4) := by
  induction k generalizing l with
  | zero => simp
  | succ k ih =>
    cases l with
    | nil => simp [qcells]
    | cons x l =>
      rw [List.drop_succ_cons, ih, show (k + 1) * 4 = 4 + k * 4 by omega, ← List.drop_drop]
      rfl
theorem qs_drop {w : World} {A : Option Addr} {l : List Q4} (h : Qs w A l) {k cap : Nat} (hk : k ≤ l.length) (hc : l.length ≤ cap) : Qs w (if cap = k then A else A.map (fun x => x.add (k * 4))) (l.drop k) := by
  have := Reads.cut h hk hc
  unfold Qs
  rw [List.length_drop, qcells_drop]
  exact this
section
variable {o : Oper} {ev : Operand → Value} {w : World} {T : Value → World → Prop}
theorem gr_append_q {e t : TypeId} (ht : Try.prog.underlying t = some (.slice e)) (hi : ∃ i : TypeInfo, Try.prog.info? e = some i ∧ i.size = 4 ∧ i.bytes = 32 ∧ i.zero = some (.agg #[.int .i64 0, .int .i64 0, .int .i64 0, .int .i64 0]) ∧ (Value.agg #[.int .i64 0, .int .i64 0, .int .i64 0, .int .i64 0]).cells.size = 4)
    (s x : Operand) (ho : o.op = .call { callee := .builtin .append, args := #[s, x], argTypes := #[t, t] })
    {base : Nat} {v : Value} {l m : List Q4} {A : Option Addr} {c n : Nat} (hn : n = m.length) (hs : ev s = v) (hown : w.ownsRow base e 4 v l.length (qcells l)) (hx : ev x = .slice A n c) (hr : Qs w A m) (hlen : l.length + m.length ≤ 1000000) (hbase : base ≤ w.heap.size)
    (h : ∀ v' w', w'.ownsRow base e 4 v' (l ++ m).length (qcells (l ++ m)) → w.grownBy w' v.ownBlock → T v' w') : genR Try.prog T ((execOp ev o).run Try.prog w) := by
  obtain ⟨i0, hi0, hi1, hi2, hi3, hi4⟩ := hi
  subst hn
  obtain ⟨v', w', hrun, h2, h3, h4⟩ := run_append_any (P := Try.prog) w base t o.type e i0 _ 4 32 ht hi0 hi3 hi1 hi2 hi4 (by omega) v l.length (qcells l) hown w.heap.size A m.length c (qcells m) hr (qcells_one m) (by simp only [maxLen]; omega) (by omega) hbase
  unfold execOp
  simp only [ho, resolve, invoke, builtin, Sem.run_bind, Sem.run_pure, Result.andThen_ok, List.map_toArray, List.map_cons, List.map_nil, hs, hx, hrun]
  refine h v' w' ?_ h3
  rw [qcells_append, List.length_append]
  exact h2
theorem gr_append_node (s x : Operand) (ho : o.op = .call { callee := .builtin .append, args := #[s, x], argTypes := #[37, 37] })
    {base : Nat} {v : Value} {l m : List Q4} {A : Option Addr} {c n : Nat} (hn : n = m.length) (hs : ev s = v) (hown : OwnN w base v l) (hx : ev x = .slice A n c) (hr : Qs w A m) (hlen : l.length + m.length ≤ 1000000) (hbase : base ≤ w.heap.size)
    (h : ∀ v' w', OwnN w' base v' (l ++ m) → w.grownBy w' v.ownBlock → T v' w') : genR Try.prog T ((execOp ev o).run Try.prog w) := gr_append_q Try.underlying37 qinfo_n s x ho hn hs hown hx hr hlen hbase h
theorem gr_append_link (s x : Operand) (ho : o.op = .call { callee := .builtin .append, args := #[s, x], argTypes := #[38, 38] })
    {base : Nat} {v : Value} {l m : List Q4} {A : Option Addr} {c n : Nat} (hn : n = m.length) (hs : ev s = v) (hown : OwnL w base v l) (hx : ev x = .slice A n c) (hr : Qs w A m) (hlen : l.length + m.length ≤ 1000000) (hbase : base ≤ w.heap.size)
    (h : ∀ v' w', OwnL w' base v' (l ++ m) → w.grownBy w' v.ownBlock → T v' w') : genR Try.prog T ((execOp ev o).run Try.prog w) := gr_append_q Try.underlying38 qinfo_l s x ho hn hs hown hx hr hlen hbase h
end
theorem wpList_append_node {ops : Array Oper} {rest : List Oper} {o : Oper} {a : Act} {w : World} {Q : Exit → Act → World → Prop} (hgd : o.guard = none) (s x : Operand) (ho : o.op = .call { callee := .builtin .append, args := #[s, x], argTypes := #[37, 37] })
    {base : Nat} {v : Value} {l m : List Q4} {A : Option Addr} {c n : Nat} (hn : n = m.length) (hs : a.eval s = v) (hown : OwnN w base v l) (hx : a.eval x = .slice A n c) (hr : Qs w A m) (hlen : l.length + m.length ≤ 1000000) (hbase : base ≤ w.heap.size)
    (h : ∀ v' w', OwnN w' base v' (l ++ m) → w.grownBy w' v.ownBlock → (v'.ownBlock = v.ownBlock ∨ v'.ownBlock = some w.heap.size) → wpList Try.prog ops Q rest (a.put o.dst v') w') : wpList Try.prog ops Q (o :: rest) a w := by
  obtain ⟨i0, hi0, hi1, hi2, hi3, hi4⟩ := qinfo_n
  subst hn
  refine wpList_append_any w hgd s x 37 ho base 59 i0 _ 4 32 Try.underlying37 hi0 hi3 hi1 hi2 hi4 (by omega) v l.length (qcells l) hs hown w.heap.size A m.length c (qcells m) hx hr (qcells_one m) (by simp only [maxLen]; omega) (by omega) hbase fun v' w' h1 h2 h3 => h v' w' ?_ h2 h3
  unfold OwnN
  rw [qcells_append, List.length_append]
  exact h1
theorem OwnN.mono {w : World} {base base' : Nat} {v : Value} {l : List Q4} (h : OwnN w base v l) (hb : base' ≤ base) : OwnN w base' v l := ⟨h.1, h.2.imp id fun ⟨g, cap, cur, e, hg, r⟩ => ⟨g, cap, cur, e, by omega, r⟩⟩
theorem OwnN.put {w : World} {base g : Nat} {v : Value} {l : List Q4} {t : TypeId} {cs : Array Value} (h : OwnN w base v l) (k : Blk w g t cs) (i : Nat) (u : Value) (hne : 59 ≠ t := by decide) : OwnN (w.setCell ⟨g, i, none⟩ u) base v l := by
  have hgr : w.grownBy (w.setCell ⟨g, i, none⟩ u) (some g) := ⟨rfl, rfl, rfl, by simp [World.setCell], fun j _ hn => Below.heap_setCell w ⟨g, i, none⟩ u j (fun e => hn (by rw [e]))⟩
  exact World.ownsRow.kept h hgr (.inr (own_blk_ne h k hne))
theorem OwnL.put {w : World} {base g : Nat} {v : Value} {l : List Q4} {t : TypeId} {cs : Array Value} (h : OwnL w base v l) (k : Blk w g t cs) (i : Nat) (u : Value) (hne : 52 ≠ t := by decide) : OwnL (w.setCell ⟨g, i, none⟩ u) base v l := by
  have hgr : w.grownBy (w.setCell ⟨g, i, none⟩ u) (some g) := ⟨rfl, rfl, rfl, by simp [World.setCell], fun j _ hn => Below.heap_setCell w ⟨g, i, none⟩ u j (fun e => hn (by rw [e]))⟩
  exact World.ownsRow.kept h hgr (.inr (own_blk_ne h k hne))
theorem OwnN.slc {w : World} {base : Nat} {v : Value} {l : List Q4} (h : OwnN w base v l) : ∃ A n c, v = .slice A n c := by
  obtain ⟨A, c, e, _⟩ := h.read
  exact ⟨_, _, _, e⟩
theorem OwnL.slc {w : World} {base : Nat} {v : Value} {l : List Q4} (h : OwnL w base v l) : ∃ A n c, v = .slice A n c := by
  obtain ⟨A, c, e, _⟩ := h.read
  exact ⟨_, _, _, e⟩
/-- A graph that is handed back, and an error. -/
def GrRes (P : List Q4 → List Q4 → Prop) (base : Nat) (e : Ending) (w' : World) : Prop :=
  ∃ v1 v2 ns' ls' er, e = .returned (.tuple #[.agg #[v1, v2], .int .i64 er]) ∧ OwnN w' base v1 ns' ∧ OwnL w' base v2 ls' ∧ (er = 0 → P ns' ls')
theorem grRes_no {P : List Q4 → List Q4 → Prop} {base : Nat} {w' : World} {er : Int} (h : er ≠ 0) : GrRes P base (.returned (.tuple #[.agg #[.slice none 0 0, .slice none 0 0], .int .i64 er])) w' :=
  ⟨_, _, [], [], er, rfl, ownN_nil _ _, ownL_nil _ _, fun e => absurd e h⟩
theorem grRes_yes {P : List Q4 → List Q4 → Prop} {base : Nat} {w' : World} {v1 v2 : Value} {ns' ls' : List Q4} (h1 : OwnN w' base v1 ns') (h2 : OwnL w' base v2 ls') (h : P ns' ls') : GrRes P base (.returned (.tuple #[.agg #[v1, v2], .int .i64 0])) w' :=
  ⟨_, _, _, _, 0, rfl, h1, h2, fun _ => h⟩
set_option maxRecDepth 100000 in
set_option maxHeartbeats 16000000 in
theorem radd_any {A A2 : Option Addr} {c c2 : Nat} {ns ls : List Q4} {w : World} (n : Q4) (h : GOK w A A2 c2 ns ls) (hcn : ns.length ≤ c) (hv : validG ns ls = true) (hf : fineN n = true) :
    Calls Try.prog 26 #[.agg #[.slice A ns.length c, .slice A2 ls.length c2], .agg #[.int .i64 n.a, .int .i64 n.b, .int .i64 n.c, .int .i64 n.d]] w fun e w' => GrRes (fun ns' ls' => validG ns' ls' = true ∧ ns'.length ≤ ns.length + 1 ∧ ls'.length = ls.length) w.heap.size e w' ∧ Grows w w' := by
  have HV := Lib.hid hv
  have HF := Lib.hid hf
  have hln := (valid_len hv).1
  have hLs := (valid_len hv).2
  clear hv hf
  have k1 := ((Blk.new w 40 #[.slice A ns.length c, .slice A2 ls.length c2]).alloc (Obj.cells #[.int .i64 n.a, .int .i64 n.b, .int .i64 n.c, .int .i64 n.d] 59)).alloc (Obj.cells #[.slice none 0 0, .slice none 0 0] 40)
  have k3 := (blk_new_at (X := w.alloc (Obj.cells #[.slice A ns.length c, .slice A2 ls.length c2] 40)) (n := w.heap.size + 1) (t := 59) (cs := #[.int .i64 n.a, .int .i64 n.b, .int .i64 n.c, .int .i64 n.d]) (by simp)).alloc (Obj.cells #[.slice none 0 0, .slice none 0 0] 40)
  have k4 := blk_new_at (X := (w.alloc (Obj.cells #[.slice A ns.length c, .slice A2 ls.length c2] 40)).alloc (Obj.cells #[.int .i64 n.a, .int .i64 n.b, .int .i64 n.c, .int .i64 n.d] 59)) (n := w.heap.size + 1 + 1) (t := 40) (cs := #[.slice none 0 0, .slice none 0 0]) (by simp)
  have hB := (((Below.refl w.heap.size w).alloc (Nat.le_refl _) (Obj.cells #[.slice A ns.length c, .slice A2 ls.length c2] 40)).alloc (by simp) (Obj.cells #[.int .i64 n.a, .int .i64 n.b, .int .i64 n.c, .int .i64 n.d] 59)).alloc (by simp; omega) (Obj.cells #[.slice none 0 0, .slice none 0 0] 40)
  go_enter Try.func26, Try.ntmps26
  go_upto_region 1 with fail
  generalize World.alloc (World.alloc (World.alloc w _) _) _ = w1 at *
  have x1 := k1.cell
  go_wp2_with fail
  refine (rvalid_is (h.grows hB)).mono ?_
  rw [HV.out]
  rintro e w2 ⟨rfl, hq⟩
  replace hB := below_grows hB (Nat.le_refl _) hq
  replace k1 := k1.grows hq
  replace k3 := k3.grows hq
  replace k4 := k4.grows hq
  clear hq x1
  have x3 := k3.cell
  go_wp2_with fail
  refine (fits_is n true _ HF.out).mono ?_
  rintro e w3 ⟨rfl, hq⟩
  replace hB := below_grows hB (Nat.le_refl _) hq
  replace k1 := k1.grows hq
  replace k3 := k3.grows hq
  replace k4 := k4.grows hq
  clear hq x3
  have x1 := k1.cell
  have x3 := k3.cell
  go_wp2_with fail
  refine (node_any A A2 c c2 ls.length ns n.a _ (h.grows hB).n h.nl).mono ?_
  rintro e w4 ⟨rfl, hq⟩
  replace hB := below_grows hB (Nat.le_refl _) hq
  replace k1 := k1.grows hq
  replace k3 := k3.grows hq
  replace k4 := k4.grows hq
  clear hq x1 x3
  generalize nodeN ns n.a = nd at *
  obtain ⟨y0, y1, y2, y3⟩ := nd
  simp only [Q4.cs]
  generalize hfd : findN ns n.a = fd
  have k6 := Blk.new w4 59 #[.int .i64 y0, .int .i64 y1, .int .i64 y2, .int .i64 y3]
  have hq := (Below.refl w4.heap.size w4).alloc (Nat.le_refl _) (Obj.cells #[.int .i64 y0, .int .i64 y1, .int .i64 y2, .int .i64 y3] 59)
  go_upto_region 4 with fail
  replace hB := below_grows hB (Nat.le_refl _) hq
  replace k1 := k1.grows hq
  replace k3 := k3.grows hq
  replace k4 := k4.grows hq
  clear hq k6
  generalize World.alloc w4 _ = w5 at *
  generalize w4.heap.size = G6 at *
  cases fd with
  | some y =>
    clear hfd
    have x4 := k4.cell
    have f4 := k4.frozen
    go_wp2
    have k5 := (k4.set_ 0 (.slice none 0 0)).set_ 1 (.slice none 0 0)
    have hB5 := (hB.setCell (p := ⟨w.heap.size + 1 + 1, 0, none⟩) (by simp; omega) (.slice none 0 0)).setCell (p := ⟨w.heap.size + 1 + 1, 1, none⟩) (by simp; omega) (.slice none 0 0)
    clear x4 f4
    generalize World.setCell (World.setCell w5 _ _) _ _ = w8 at *
    have x4 := k5.cell
    refine bodyPost_ret (v := .tuple #[.agg #[.slice none 0 0, .slice none 0 0], .int .i64 8]) (by simp [results, Try.results26, go_sem, x4]) rfl ⟨grRes_no (by decide), hB5⟩
  | none =>
    have HFD := Lib.hid hfd
    clear hfd
    have x1 := k1.cell
    by_cases hful : 64 ≤ ns.length
    · clear x1
      have x1 := k1.cell
      have x4 := k4.cell
      have f4 := k4.frozen
      go_wp2
      have k5 := (k4.set_ 0 (.slice none 0 0)).set_ 1 (.slice none 0 0)
      have hB5 := (hB.setCell (p := ⟨w.heap.size + 1 + 1, 0, none⟩) (by simp; omega) (.slice none 0 0)).setCell (p := ⟨w.heap.size + 1 + 1, 1, none⟩) (by simp; omega) (.slice none 0 0)
      clear x4 f4
      generalize World.setCell (World.setCell w5 _ _) _ _ = w8 at *
      have x4 := k5.cell
      refine bodyPost_ret (v := .tuple #[.agg #[.slice none 0 0, .slice none 0 0], .int .i64 3]) (by simp [results, Try.results26, go_sem, x4]) rfl ⟨grRes_no (by decide), hB5⟩
    go_wp2_with fail
    clear x1
    go_loopw [8] (fun i wr => ∃ m : Nat, m ≤ ns.length ∧ i = .int .i64 m ∧ Hid (∀ x ∈ ns.take m, decide (x.a < n.a) = true) ∧ Blk wr w.heap.size 40 #[.slice A ns.length c, .slice A2 ls.length c2] ∧ Blk wr (w.heap.size + 1) 59 #[.int .i64 n.a, .int .i64 n.b, .int .i64 n.c, .int .i64 n.d] ∧ Blk wr (w.heap.size + 1 + 1) 40 #[.slice none 0 0, .slice none 0 0] ∧ Below w.heap.size w wr) (fun i _ => ns.length - (intOf i).toNat)
    case atStart => exact ⟨0, by omega, rfl, Lib.hid (by simp), k1, k3, k4, hB⟩
    case round =>
      clear k1 k3 k4 hB
      obtain ⟨m, hmd, rfl, HA, k1, k3, k4, hB⟩ := hrel
      have x1 := k1.cell
      have x3 := k3.cell
      by_cases hlt : m < ns.length
      · obtain ⟨ad, x, e1, had, hx, q0, q1, q2, q3⟩ := (h.grows hB).n.elem hlt
        subst e1
        have HX := Lib.hid hx
        clear hx
        by_cases hgo : x.a < n.a
        · have HA2 : Hid (∀ x ∈ ns.take (m + 1), decide (x.a < n.a) = true) := Lib.hid (by
            rw [take_snoc HX.out]
            intro y hy
            rcases List.mem_append.1 hy with hy | hy
            · exact HA.out y hy
            · simp only [List.mem_singleton] at hy
              subst hy
              simpa using hgo)
          go_upto_region 9 with fail
          go_quiet (fail)
          generalize hY : World.drewN wr _ = w6 at *
          have hq : Grows wr w6 := hY ▸ grows_drewN wr _
          clear hY
          replace hB := below_grows hB (Nat.le_refl _) hq
          replace k1 := k1.grows hq
          replace k3 := k3.grows hq
          replace k4 := k4.grows hq
          clear hq x1 x3
          clear q0 q1 q2 q3
          go_wp2
          go_roundw
          case rel => exact ⟨m + 1, by omega, by go_num, HA2, k1, k3, k4, hB⟩
          case measure => simp [intOf]; omega
        · have HC : Hid (cutAt ns (fun x => decide (x.a < n.a)) m) := Lib.hid ⟨hmd, HA.out, fun y hy => by
            rw [HX.out] at hy
            injection hy with hy
            subst hy
            simpa using hgo⟩
          go_upto_region 9 with fail
          go_quiet (fail)
          generalize hY : World.drewN wr _ = w6 at *
          have hq : Grows wr w6 := hY ▸ grows_drewN wr _
          clear hY
          replace hB := below_grows hB (Nat.le_refl _) hq
          replace k1 := k1.grows hq
          replace k3 := k3.grows hq
          replace k4 := k4.grows hq
          clear hq x1 x3
          clear q0 q1 q2 q3
          go_upto_region 11 with fail
          have hQ := (h.grows hB).n
          have hc := hcn
          have hmc : m ≤ c := by omega
          obtain ⟨S, HI, HO⟩ : ∃ S : Ran → (Nat → Value) → World → Prop, Hid (∀ L vs w', (Grows w6 w' ∧ KnS [some (.pointer (some ⟨w.heap.size, 0, none⟩)), some (.slice (some ad) ns.length c), some (.int .i64 (m : Int)), some (.slice (some ad) m c), none, some (.agg #[.int .i64 n.a, .int .i64 n.b, .int .i64 n.c, .int .i64 n.d]), none, none, some (.pointer (some ⟨w.heap.size, 0, none⟩)), some (.slice (some ad) ns.length c), some (.int .i64 (m : Int)), some (.slice (if c = m then (some ad) else (some ad).map (fun x => x.add (m * 4))) (ns.length - m) (c - m)), none] L vs ∧ (L 4 = true → L 7 = false → OwnN w' w6.heap.size (vs 4) (ns.take m)) ∧ (L 6 = true → L 7 = false → ∃ gb, vs 6 = .slice (some ⟨gb, 0, none⟩) 1 1 ∧ Qs w' (some ⟨gb, 0, none⟩) [n]) ∧ (L 7 = true → L 12 = false → OwnN w' w6.heap.size (vs 7) (ns.take m ++ [n])) ∧ (L 12 = true → OwnN w' w6.heap.size (vs 12) (ns.take m ++ [n] ++ ns.drop m)) ∧ (L 7 = true → L 4 = true ∧ L 6 = true) ∧ (L 12 = true → L 7 = true)) → S L vs w') ∧ Hid (∀ L vs w', S L vs w' → (Grows w6 w' ∧ KnS [some (.pointer (some ⟨w.heap.size, 0, none⟩)), some (.slice (some ad) ns.length c), some (.int .i64 (m : Int)), some (.slice (some ad) m c), none, some (.agg #[.int .i64 n.a, .int .i64 n.b, .int .i64 n.c, .int .i64 n.d]), none, none, some (.pointer (some ⟨w.heap.size, 0, none⟩)), some (.slice (some ad) ns.length c), some (.int .i64 (m : Int)), some (.slice (if c = m then (some ad) else (some ad).map (fun x => x.add (m * 4))) (ns.length - m) (c - m)), none] L vs ∧ (L 4 = true → L 7 = false → OwnN w' w6.heap.size (vs 4) (ns.take m)) ∧ (L 6 = true → L 7 = false → ∃ gb, vs 6 = .slice (some ⟨gb, 0, none⟩) 1 1 ∧ Qs w' (some ⟨gb, 0, none⟩) [n]) ∧ (L 7 = true → L 12 = false → OwnN w' w6.heap.size (vs 7) (ns.take m ++ [n])) ∧ (L 12 = true → OwnN w' w6.heap.size (vs 12) (ns.take m ++ [n] ++ ns.drop m)) ∧ (L 7 = true → L 4 = true ∧ L 6 = true) ∧ (L 12 = true → L 7 = true))) := ⟨fun L vs w' => Grows w6 w' ∧ KnS [some (.pointer (some ⟨w.heap.size, 0, none⟩)), some (.slice (some ad) ns.length c), some (.int .i64 (m : Int)), some (.slice (some ad) m c), none, some (.agg #[.int .i64 n.a, .int .i64 n.b, .int .i64 n.c, .int .i64 n.d]), none, none, some (.pointer (some ⟨w.heap.size, 0, none⟩)), some (.slice (some ad) ns.length c), some (.int .i64 (m : Int)), some (.slice (if c = m then (some ad) else (some ad).map (fun x => x.add (m * 4))) (ns.length - m) (c - m)), none] L vs ∧ (L 4 = true → L 7 = false → OwnN w' w6.heap.size (vs 4) (ns.take m)) ∧ (L 6 = true → L 7 = false → ∃ gb, vs 6 = .slice (some ⟨gb, 0, none⟩) 1 1 ∧ Qs w' (some ⟨gb, 0, none⟩) [n]) ∧ (L 7 = true → L 12 = false → OwnN w' w6.heap.size (vs 7) (ns.take m ++ [n])) ∧ (L 12 = true → OwnN w' w6.heap.size (vs 12) (ns.take m ++ [n] ++ ns.drop m)) ∧ (L 7 = true → L 4 = true ∧ L 6 = true) ∧ (L 12 = true → L 7 = true), fun _ _ _ h => h, fun _ _ _ h => h⟩
          refine wp_region_genT S 13 69 (by kernel_rfl) (by kernel_rfl) rfl ?_ ?_
          · exact HI.out _ _ _ ⟨Grows.drew' _, kn_none _ _, (fun h => by cases h), (fun h => by cases h), (fun h => by cases h), (fun h => by cases h), (fun h => by cases h), (fun h => by cases h)⟩
          simp only [List.take_succ_cons, List.take_zero, List.drop_succ_cons, List.drop_zero]
          refine gent_cons (A' := ?_) (fun vs L w1 hL hw1 => ?_) ?_ ?_
          rotate_left 1
          · obtain ⟨q0, q1, q3, q5, q6, qa, h6, ha⟩ := HO.out _ _ _ hw1
            refine gen_plain rfl ?_
            go_simp
            exact gr_val (HI.out _ _ _ ⟨q0, kn_known q1 rfl, q3, q5, q6, qa, h6, ha⟩)
          · intro vs
            simp only [Act.put, List.setIfInBounds_toArray, List.set_cons_succ, List.set_cons_zero]
            rfl
          refine gent_cons (A' := ?_) (fun vs L w1 hL hw1 => ?_) ?_ ?_
          rotate_left 1
          · obtain ⟨q0, q1, q3, q5, q6, qa, h6, ha⟩ := HO.out _ _ _ hw1
            have l0 : L 0 = true := hL.need 0 (by kernel_rfl)
            have e0 := q1 0 _ rfl l0
            have x := (k1.grows q0).cell 0
            refine gen_plain rfl ?_
            simp only [e0]
            go_simp
            exact gr_val (HI.out _ _ _ ⟨q0, kn_known q1 rfl, q3, q5, q6, qa, h6, ha⟩)
          · intro vs
            simp only [Act.put, List.setIfInBounds_toArray, List.set_cons_succ, List.set_cons_zero]
            rfl
          refine gent_cons (A' := ?_) (fun vs L w1 hL hw1 => ?_) ?_ ?_
          rotate_left 1
          · obtain ⟨q0, q1, q3, q5, q6, qa, h6, ha⟩ := HO.out _ _ _ hw1
            refine gen_plain rfl ?_
            go_simp
            exact gr_val (HI.out _ _ _ ⟨q0, kn_known q1 rfl, q3, q5, q6, qa, h6, ha⟩)
          · intro vs
            simp only [Act.put, List.setIfInBounds_toArray, List.set_cons_succ, List.set_cons_zero]
            rfl
          refine gent_cons (A' := ?_) (fun vs L w1 hL hw1 => ?_) ?_ ?_
          rotate_left 1
          · obtain ⟨q0, q1, q3, q5, q6, qa, h6, ha⟩ := HO.out _ _ _ hw1
            have l1 : L 1 = true := hL.need 1 (by kernel_rfl)
            have e1 := q1 1 _ rfl l1
            have l2 : L 2 = true := hL.need 2 (by kernel_rfl)
            have e2 := q1 2 _ rfl l2
            refine gen_plain rfl ?_
            simp only [e1, e2]
            go_simp
            exact gr_val (HI.out _ _ _ ⟨q0, kn_known q1 rfl, q3, q5, q6, qa, h6, ha⟩)
          · intro vs
            simp only [Act.put, List.setIfInBounds_toArray, List.set_cons_succ, List.set_cons_zero]
            rfl
          refine gent_cons (A' := ?_) (fun vs L w1 hL hw1 => ?_) ?_ ?_
          rotate_left 1
          · obtain ⟨q0, q1, q3, q5, q6, qa, h6, ha⟩ := HO.out _ _ _ hw1
            have n4 : L 4 = false := hL.1
            have n7 : L 7 = false := by
              cases h : L 7
              · rfl
              · rw [(h6 h).1] at n4; cases n4
            have n12 : L 12 = false := by
              cases h : L 12
              · rfl
              · rw [ha h] at n7; cases n7
            have l3 : L 3 = true := hL.need 3 (by kernel_rfl)
            have e3 := q1 3 _ rfl l3
            refine gen_plain rfl ?_
            refine gr_append_node (.const (.slice none 0 0)) (.tmp 54) rfl (l := []) (m := ns.take m) (by rw [List.length_take]; omega) rfl (ownN_nil w1 w6.heap.size) e3 (qs_take (hQ.grows q0) m hmd) (by simp only [List.length_nil, List.length_take]; omega) q0.size ?_
            intro v3 w3 o3 g3
            have hg : Grows w1 w3 := (Below.refl _ _).grown g3 (Nat.le_refl _) (fun q hq => by cases hq)
            exact HI.out _ _ _ ⟨below_grows q0 (Nat.le_refl _) hg, kn_free q1 rfl, fun _ _ => o3, (fun h h0 => by obtain ⟨gb, e, s⟩ := q5 h h0; exact ⟨gb, e, s.grows hg⟩), (fun h _ => by rw [show L 7 = true from h] at n7; cases n7), (fun h => by rw [show L 12 = true from h] at n12; cases n12), (fun h => by rw [show L 7 = true from h] at n7; cases n7), (fun h => by rw [show L 12 = true from h] at n12; cases n12)⟩
          · intro vs
            simp only [Act.put, List.setIfInBounds_toArray, List.set_cons_succ, List.set_cons_zero]
            rfl
          refine gent_cons (A' := ?_) (fun vs L w1 hL hw1 => ?_) ?_ ?_
          rotate_left 1
          · obtain ⟨q0, q1, q3, q5, q6, qa, h6, ha⟩ := HO.out _ _ _ hw1
            have x := (k3.grows q0).cell
            refine gen_plain rfl ?_
            go_simp
            exact gr_val (HI.out _ _ _ ⟨q0, kn_known q1 rfl, q3, q5, q6, qa, h6, ha⟩)
          · intro vs
            simp only [Act.put, List.setIfInBounds_toArray, List.set_cons_succ, List.set_cons_zero]
            rfl
          refine gent_cons (A' := ?_) (fun vs L w1 hL hw1 => ?_) ?_ ?_
          rotate_left 1
          · obtain ⟨q0, q1, q3, q5, q6, qa, h6, ha⟩ := HO.out _ _ _ hw1
            have n6 : L 6 = false := hL.1
            have n7 : L 7 = false := by
              cases h : L 7
              · rfl
              · rw [(h6 h).2] at n6; cases n6
            have n12 : L 12 = false := by
              cases h : L 12
              · rfl
              · rw [ha h] at n7; cases n7
            have l5 : L 5 = true := hL.need 5 (by kernel_rfl)
            have e5 := q1 5 _ rfl l5
            refine gen_plain rfl ?_
            simp only [e5]
            go_simp
            have hg := (Below.refl w1.heap.size w1).alloc (Nat.le_refl _) (Obj.cells #[.int .i64 n.a, .int .i64 n.b, .int .i64 n.c, .int .i64 n.d] 59)
            exact gr_val (HI.out _ _ _ ⟨below_grows q0 (Nat.le_refl _) hg, kn_free q1 rfl, (fun h h0 => (q3 h h0).grows hg), (fun _ _ => ⟨_, rfl, qs_lit w1 n _⟩), (fun h _ => by rw [show L 7 = true from h] at n7; cases n7), (fun h => by rw [show L 12 = true from h] at n12; cases n12), (fun h => by rw [show L 7 = true from h] at n7; cases n7), (fun h => by rw [show L 12 = true from h] at n12; cases n12)⟩)
          · intro vs
            simp only [Act.put, List.setIfInBounds_toArray, List.set_cons_succ, List.set_cons_zero]
            rfl
          refine gent_cons (A' := ?_) (fun vs L w1 hL hw1 => ?_) ?_ ?_
          rotate_left 1
          · obtain ⟨q0, q1, q3, q5, q6, qa, h6, ha⟩ := HO.out _ _ _ hw1
            have n7 : L 7 = false := hL.1
            have n12 : L 12 = false := by
              cases h : L 12
              · rfl
              · rw [ha h] at n7; cases n7
            have l4 : L 4 = true := hL.need 4 (by kernel_rfl)
            have l6 : L 6 = true := hL.need 6 (by kernel_rfl)
            have o3 := q3 l4 n7
            obtain ⟨gb, e5, s5⟩ := q5 l6 n7
            refine gen_plain rfl ?_
            refine gr_append_node (.tmp 55) (.tmp 57) rfl (m := [n]) rfl rfl o3 e5 s5 (by simp only [List.length_take, List.length_cons, List.length_nil]; omega) q0.size ?_
            intro v3 w3 o6 g3
            have hg := o3.below q0 g3 q0.size
            exact HI.out _ _ _ ⟨hg, kn_free q1 rfl, (fun _ h => by cases h), (fun _ h => by cases h), fun _ _ => o6, (fun h => by rw [show L 12 = true from h] at n12; cases n12), fun _ => ⟨l4, l6⟩, (fun h => by rw [show L 12 = true from h] at n12; cases n12)⟩
          · intro vs
            simp only [Act.put, List.setIfInBounds_toArray, List.set_cons_succ, List.set_cons_zero]
            rfl
          refine gent_cons (A' := ?_) (fun vs L w1 hL hw1 => ?_) ?_ ?_
          rotate_left 1
          · obtain ⟨q0, q1, q3, q5, q6, qa, h6, ha⟩ := HO.out _ _ _ hw1
            refine gen_plain rfl ?_
            go_simp
            exact gr_val (HI.out _ _ _ ⟨q0, kn_known q1 rfl, q3, q5, q6, qa, h6, ha⟩)
          · intro vs
            simp only [Act.put, List.setIfInBounds_toArray, List.set_cons_succ, List.set_cons_zero]
            rfl
          refine gent_cons (A' := ?_) (fun vs L w1 hL hw1 => ?_) ?_ ?_
          rotate_left 1
          · obtain ⟨q0, q1, q3, q5, q6, qa, h6, ha⟩ := HO.out _ _ _ hw1
            have l8 : L 8 = true := hL.need 8 (by kernel_rfl)
            have e8 := q1 8 _ rfl l8
            have x := (k1.grows q0).cell 0
            refine gen_plain rfl ?_
            simp only [e8]
            go_simp
            exact gr_val (HI.out _ _ _ ⟨q0, kn_known q1 rfl, q3, q5, q6, qa, h6, ha⟩)
          · intro vs
            simp only [Act.put, List.setIfInBounds_toArray, List.set_cons_succ, List.set_cons_zero]
            rfl
          refine gent_cons (A' := ?_) (fun vs L w1 hL hw1 => ?_) ?_ ?_
          rotate_left 1
          · obtain ⟨q0, q1, q3, q5, q6, qa, h6, ha⟩ := HO.out _ _ _ hw1
            refine gen_plain rfl ?_
            go_simp
            exact gr_val (HI.out _ _ _ ⟨q0, kn_known q1 rfl, q3, q5, q6, qa, h6, ha⟩)
          · intro vs
            simp only [Act.put, List.setIfInBounds_toArray, List.set_cons_succ, List.set_cons_zero]
            rfl
          refine gent_cons (A' := ?_) (fun vs L w1 hL hw1 => ?_) ?_ ?_
          rotate_left 1
          · obtain ⟨q0, q1, q3, q5, q6, qa, h6, ha⟩ := HO.out _ _ _ hw1
            have l9 : L 9 = true := hL.need 9 (by kernel_rfl)
            have e9 := q1 9 _ rfl l9
            have l10 : L 10 = true := hL.need 10 (by kernel_rfl)
            have e10 := q1 10 _ rfl l10
            refine gen_plain rfl ?_
            simp only [e9, e10]
            go_simp
            exact gr_val (HI.out _ _ _ ⟨q0, kn_known q1 rfl, q3, q5, q6, qa, h6, ha⟩)
          · intro vs
            simp only [Act.put, List.setIfInBounds_toArray, List.set_cons_succ, List.set_cons_zero]
            rfl
          refine gent_cons (A' := ?_) (fun vs L w1 hL hw1 => ?_) ?_ ?_
          rotate_left 1
          · obtain ⟨q0, q1, q3, q5, q6, qa, h6, ha⟩ := HO.out _ _ _ hw1
            have n12 : L 12 = false := hL.1
            have l7 : L 7 = true := hL.need 7 (by kernel_rfl)
            have o6 := q6 l7 n12
            have l11 : L 11 = true := hL.need 11 (by kernel_rfl)
            have e11 := q1 11 _ rfl l11
            refine gen_plain rfl ?_
            refine gr_append_node (.tmp 58) (.tmp 62) rfl (m := ns.drop m) (by simp) rfl o6 e11 (qs_drop (hQ.grows q0) hmd hc) (by simp only [List.length_append, List.length_take, List.length_drop, List.length_cons, List.length_nil]; omega) q0.size ?_
            intro v3 w3 o7 g3
            have hg := o6.below q0 g3 q0.size
            exact HI.out _ _ _ ⟨hg, kn_free q1 rfl, (fun h h0 => by rw [show L 7 = false from h0] at l7; cases l7), (fun h h0 => by rw [show L 7 = false from h0] at l7; cases l7), (fun _ h => by cases h), fun _ => o7, h6, fun _ => l7⟩
          · intro vs
            simp only [Act.put, List.setIfInBounds_toArray, List.set_cons_succ, List.set_cons_zero]
            rfl
          refine gent_nil ?_
          intro vs L W2 hall hS
          obtain ⟨hq, -, -, -, -, qa, -, -⟩ := HO.out _ _ _ hS
          have hown2 := qa (hall 12 (by omega))
          clear hall hS HI HO qa
          have hown3 := hown2.mono hB.size
          replace hB := below_grows hB (Nat.le_refl _) hq
          replace k1 := k1.grows hq
          replace k4 := k4.grows hq
          clear hown2 hq k3 hQ
          generalize vs 12 = v12 at *
          have x1 := k1.cell
          go_upto_region 12 with fail
          refine wp_region_lit ?_
          iterate 3
            refine wpList_plain rfl (fun K hK => ?_)
            go_simp
            refine hK _ _ ?_
            clear hK K
          refine wpList_append_link rfl (.const (.slice none 0 0)) (.tmp 66) rfl (l := []) (m := ls) rfl rfl (ownL_nil _ w.heap.size) rfl (h.grows hB).l (by simp only [List.length_nil]; omega) hB.size ?_
          intro v13 w13 hown13 hgr13 _
          have hq : Grows W2 w13 := (Below.refl _ _).grown hgr13 (Nat.le_refl _) (fun q hq => by cases hq)
          replace hB := below_grows hB (Nat.le_refl _) hq
          replace k4 := k4.grows hq
          replace hown3 := hown3.grows hq
          clear hq hgr13 x1 k1
          have x4 := k4.cell
          have f4 := k4.frozen
          obtain ⟨A7, n7, c7, hv7⟩ := hown3.slc
          obtain ⟨A8, n8, c8, hv8⟩ := hown13.slc
          subst hv7
          subst hv8
          go_wp2
          have k5 := (k4.set_ 0 (.slice A7 n7 c7)).set_ 1 (.slice A8 n8 c8)
          have hB5 := (hB.setCell (p := ⟨w.heap.size + 1 + 1, 0, none⟩) (by simp; omega) (.slice A7 n7 c7)).setCell (p := ⟨w.heap.size + 1 + 1, 1, none⟩) (by simp; omega) (.slice A8 n8 c8)
          have hn1 := OwnN.put hown3 k4 0 (.slice A7 n7 c7)
          have hn2 := OwnN.put hn1 (k4.set_ 0 (.slice A7 n7 c7)) 1 (.slice A8 n8 c8)
          have hl1 := OwnL.put (hown13.mono (Nat.le_refl _)) k4 0 (.slice A7 n7 c7)
          have hl2 := OwnL.put hl1 (k4.set_ 0 (.slice A7 n7 c7)) 1 (.slice A8 n8 c8)
          clear x4 f4 hn1 hl1 hown3 hown13 k4 hB
          generalize World.setCell (World.setCell w13 _ _) _ _ = w8 at *
          have x4 := k5.cell
          refine bodyPost_ret (v := .tuple #[.agg #[(.slice A7 n7 c7), (.slice A8 n8 c8)], .int .i64 0]) (by simp [results, Try.results26, go_sem, x4]) rfl ⟨grRes_yes hn2 hl2 ⟨valid_add HV.out HF.out HFD.out (by omega) HC.out, Nat.le_of_eq (ins_length hmd), rfl⟩, hB5⟩

      · have HC : Hid (cutAt ns (fun x => decide (x.a < n.a)) m) := Lib.hid ⟨hmd, HA.out, fun y hy => by
          have := (List.getElem?_eq_some_iff.1 hy).1
          omega⟩
        have hno : decide (m < ns.length) = false := by simpa using hlt
        go_upto_region 9 with fail
        go_quiet (fail)
        generalize hY : World.drewN wr _ = w6 at *
        have hq : Grows wr w6 := hY ▸ grows_drewN wr _
        clear hY
        replace hB := below_grows hB (Nat.le_refl _) hq
        replace k1 := k1.grows hq
        replace k3 := k3.grows hq
        replace k4 := k4.grows hq
        clear hq x1 x3
        go_upto_region 11 with fail
        have hQ := (h.grows hB).n
        have hc := hcn
        have hmc : m ≤ c := by omega
        obtain ⟨S, HI, HO⟩ : ∃ S : Ran → (Nat → Value) → World → Prop, Hid (∀ L vs w', (Grows w6 w' ∧ KnS [some (.pointer (some ⟨w.heap.size, 0, none⟩)), some (.slice A ns.length c), some (.int .i64 (m : Int)), some (.slice A m c), none, some (.agg #[.int .i64 n.a, .int .i64 n.b, .int .i64 n.c, .int .i64 n.d]), none, none, some (.pointer (some ⟨w.heap.size, 0, none⟩)), some (.slice A ns.length c), some (.int .i64 (m : Int)), some (.slice (if c = m then A else A.map (fun x => x.add (m * 4))) (ns.length - m) (c - m)), none] L vs ∧ (L 4 = true → L 7 = false → OwnN w' w6.heap.size (vs 4) (ns.take m)) ∧ (L 6 = true → L 7 = false → ∃ gb, vs 6 = .slice (some ⟨gb, 0, none⟩) 1 1 ∧ Qs w' (some ⟨gb, 0, none⟩) [n]) ∧ (L 7 = true → L 12 = false → OwnN w' w6.heap.size (vs 7) (ns.take m ++ [n])) ∧ (L 12 = true → OwnN w' w6.heap.size (vs 12) (ns.take m ++ [n] ++ ns.drop m)) ∧ (L 7 = true → L 4 = true ∧ L 6 = true) ∧ (L 12 = true → L 7 = true)) → S L vs w') ∧ Hid (∀ L vs w', S L vs w' → (Grows w6 w' ∧ KnS [some (.pointer (some ⟨w.heap.size, 0, none⟩)), some (.slice A ns.length c), some (.int .i64 (m : Int)), some (.slice A m c), none, some (.agg #[.int .i64 n.a, .int .i64 n.b, .int .i64 n.c, .int .i64 n.d]), none, none, some (.pointer (some ⟨w.heap.size, 0, none⟩)), some (.slice A ns.length c), some (.int .i64 (m : Int)), some (.slice (if c = m then A else A.map (fun x => x.add (m * 4))) (ns.length - m) (c - m)), none] L vs ∧ (L 4 = true → L 7 = false → OwnN w' w6.heap.size (vs 4) (ns.take m)) ∧ (L 6 = true → L 7 = false → ∃ gb, vs 6 = .slice (some ⟨gb, 0, none⟩) 1 1 ∧ Qs w' (some ⟨gb, 0, none⟩) [n]) ∧ (L 7 = true → L 12 = false → OwnN w' w6.heap.size (vs 7) (ns.take m ++ [n])) ∧ (L 12 = true → OwnN w' w6.heap.size (vs 12) (ns.take m ++ [n] ++ ns.drop m)) ∧ (L 7 = true → L 4 = true ∧ L 6 = true) ∧ (L 12 = true → L 7 = true))) := ⟨fun L vs w' => Grows w6 w' ∧ KnS [some (.pointer (some ⟨w.heap.size, 0, none⟩)), some (.slice A ns.length c), some (.int .i64 (m : Int)), some (.slice A m c), none, some (.agg #[.int .i64 n.a, .int .i64 n.b, .int .i64 n.c, .int .i64 n.d]), none, none, some (.pointer (some ⟨w.heap.size, 0, none⟩)), some (.slice A ns.length c), some (.int .i64 (m : Int)), some (.slice (if c = m then A else A.map (fun x => x.add (m * 4))) (ns.length - m) (c - m)), none] L vs ∧ (L 4 = true → L 7 = false → OwnN w' w6.heap.size (vs 4) (ns.take m)) ∧ (L 6 = true → L 7 = false → ∃ gb, vs 6 = .slice (some ⟨gb, 0, none⟩) 1 1 ∧ Qs w' (some ⟨gb, 0, none⟩) [n]) ∧ (L 7 = true → L 12 = false → OwnN w' w6.heap.size (vs 7) (ns.take m ++ [n])) ∧ (L 12 = true → OwnN w' w6.heap.size (vs 12) (ns.take m ++ [n] ++ ns.drop m)) ∧ (L 7 = true → L 4 = true ∧ L 6 = true) ∧ (L 12 = true → L 7 = true), fun _ _ _ h => h, fun _ _ _ h => h⟩
        refine wp_region_genT S 13 69 (by kernel_rfl) (by kernel_rfl) rfl ?_ ?_
        · exact HI.out _ _ _ ⟨Grows.drew' _, kn_none _ _, (fun h => by cases h), (fun h => by cases h), (fun h => by cases h), (fun h => by cases h), (fun h => by cases h), (fun h => by cases h)⟩
        simp only [List.take_succ_cons, List.take_zero, List.drop_succ_cons, List.drop_zero]
        refine gent_cons (A' := ?_) (fun vs L w1 hL hw1 => ?_) ?_ ?_
        rotate_left 1
        · obtain ⟨q0, q1, q3, q5, q6, qa, h6, ha⟩ := HO.out _ _ _ hw1
          refine gen_plain rfl ?_
          go_simp
          exact gr_val (HI.out _ _ _ ⟨q0, kn_known q1 rfl, q3, q5, q6, qa, h6, ha⟩)
        · intro vs
          simp only [Act.put, List.setIfInBounds_toArray, List.set_cons_succ, List.set_cons_zero]
          rfl
        refine gent_cons (A' := ?_) (fun vs L w1 hL hw1 => ?_) ?_ ?_
        rotate_left 1
        · obtain ⟨q0, q1, q3, q5, q6, qa, h6, ha⟩ := HO.out _ _ _ hw1
          have l0 : L 0 = true := hL.need 0 (by kernel_rfl)
          have e0 := q1 0 _ rfl l0
          have x := (k1.grows q0).cell 0
          refine gen_plain rfl ?_
          simp only [e0]
          go_simp
          exact gr_val (HI.out _ _ _ ⟨q0, kn_known q1 rfl, q3, q5, q6, qa, h6, ha⟩)
        · intro vs
          simp only [Act.put, List.setIfInBounds_toArray, List.set_cons_succ, List.set_cons_zero]
          rfl
        refine gent_cons (A' := ?_) (fun vs L w1 hL hw1 => ?_) ?_ ?_
        rotate_left 1
        · obtain ⟨q0, q1, q3, q5, q6, qa, h6, ha⟩ := HO.out _ _ _ hw1
          refine gen_plain rfl ?_
          go_simp
          exact gr_val (HI.out _ _ _ ⟨q0, kn_known q1 rfl, q3, q5, q6, qa, h6, ha⟩)
        · intro vs
          simp only [Act.put, List.setIfInBounds_toArray, List.set_cons_succ, List.set_cons_zero]
          rfl
        refine gent_cons (A' := ?_) (fun vs L w1 hL hw1 => ?_) ?_ ?_
        rotate_left 1
        · obtain ⟨q0, q1, q3, q5, q6, qa, h6, ha⟩ := HO.out _ _ _ hw1
          have l1 : L 1 = true := hL.need 1 (by kernel_rfl)
          have e1 := q1 1 _ rfl l1
          have l2 : L 2 = true := hL.need 2 (by kernel_rfl)
          have e2 := q1 2 _ rfl l2
          refine gen_plain rfl ?_
          simp only [e1, e2]
          go_simp
          exact gr_val (HI.out _ _ _ ⟨q0, kn_known q1 rfl, q3, q5, q6, qa, h6, ha⟩)
        · intro vs
          simp only [Act.put, List.setIfInBounds_toArray, List.set_cons_succ, List.set_cons_zero]
          rfl
        refine gent_cons (A' := ?_) (fun vs L w1 hL hw1 => ?_) ?_ ?_
        rotate_left 1
        · obtain ⟨q0, q1, q3, q5, q6, qa, h6, ha⟩ := HO.out _ _ _ hw1
          have n4 : L 4 = false := hL.1
          have n7 : L 7 = false := by
            cases h : L 7
            · rfl
            · rw [(h6 h).1] at n4; cases n4
          have n12 : L 12 = false := by
            cases h : L 12
            · rfl
            · rw [ha h] at n7; cases n7
          have l3 : L 3 = true := hL.need 3 (by kernel_rfl)
          have e3 := q1 3 _ rfl l3
          refine gen_plain rfl ?_
          refine gr_append_node (.const (.slice none 0 0)) (.tmp 54) rfl (l := []) (m := ns.take m) (by rw [List.length_take]; omega) rfl (ownN_nil w1 w6.heap.size) e3 (qs_take (hQ.grows q0) m hmd) (by simp only [List.length_nil, List.length_take]; omega) q0.size ?_
          intro v3 w3 o3 g3
          have hg : Grows w1 w3 := (Below.refl _ _).grown g3 (Nat.le_refl _) (fun q hq => by cases hq)
          exact HI.out _ _ _ ⟨below_grows q0 (Nat.le_refl _) hg, kn_free q1 rfl, fun _ _ => o3, (fun h h0 => by obtain ⟨gb, e, s⟩ := q5 h h0; exact ⟨gb, e, s.grows hg⟩), (fun h _ => by rw [show L 7 = true from h] at n7; cases n7), (fun h => by rw [show L 12 = true from h] at n12; cases n12), (fun h => by rw [show L 7 = true from h] at n7; cases n7), (fun h => by rw [show L 12 = true from h] at n12; cases n12)⟩
        · intro vs
          simp only [Act.put, List.setIfInBounds_toArray, List.set_cons_succ, List.set_cons_zero]
          rfl
        refine gent_cons (A' := ?_) (fun vs L w1 hL hw1 => ?_) ?_ ?_
        rotate_left 1
        · obtain ⟨q0, q1, q3, q5, q6, qa, h6, ha⟩ := HO.out _ _ _ hw1
          have x := (k3.grows q0).cell
          refine gen_plain rfl ?_
          go_simp
          exact gr_val (HI.out _ _ _ ⟨q0, kn_known q1 rfl, q3, q5, q6, qa, h6, ha⟩)
        · intro vs
          simp only [Act.put, List.setIfInBounds_toArray, List.set_cons_succ, List.set_cons_zero]
          rfl
        refine gent_cons (A' := ?_) (fun vs L w1 hL hw1 => ?_) ?_ ?_
        rotate_left 1
        · obtain ⟨q0, q1, q3, q5, q6, qa, h6, ha⟩ := HO.out _ _ _ hw1
          have n6 : L 6 = false := hL.1
          have n7 : L 7 = false := by
            cases h : L 7
            · rfl
            · rw [(h6 h).2] at n6; cases n6
          have n12 : L 12 = false := by
            cases h : L 12
            · rfl
            · rw [ha h] at n7; cases n7
          have l5 : L 5 = true := hL.need 5 (by kernel_rfl)
          have e5 := q1 5 _ rfl l5
          refine gen_plain rfl ?_
          simp only [e5]
          go_simp
          have hg := (Below.refl w1.heap.size w1).alloc (Nat.le_refl _) (Obj.cells #[.int .i64 n.a, .int .i64 n.b, .int .i64 n.c, .int .i64 n.d] 59)
          exact gr_val (HI.out _ _ _ ⟨below_grows q0 (Nat.le_refl _) hg, kn_free q1 rfl, (fun h h0 => (q3 h h0).grows hg), (fun _ _ => ⟨_, rfl, qs_lit w1 n _⟩), (fun h _ => by rw [show L 7 = true from h] at n7; cases n7), (fun h => by rw [show L 12 = true from h] at n12; cases n12), (fun h => by rw [show L 7 = true from h] at n7; cases n7), (fun h => by rw [show L 12 = true from h] at n12; cases n12)⟩)
        · intro vs
          simp only [Act.put, List.setIfInBounds_toArray, List.set_cons_succ, List.set_cons_zero]
          rfl
        refine gent_cons (A' := ?_) (fun vs L w1 hL hw1 => ?_) ?_ ?_
        rotate_left 1
        · obtain ⟨q0, q1, q3, q5, q6, qa, h6, ha⟩ := HO.out _ _ _ hw1
          have n7 : L 7 = false := hL.1
          have n12 : L 12 = false := by
            cases h : L 12
            · rfl
            · rw [ha h] at n7; cases n7
          have l4 : L 4 = true := hL.need 4 (by kernel_rfl)
          have l6 : L 6 = true := hL.need 6 (by kernel_rfl)
          have o3 := q3 l4 n7
          obtain ⟨gb, e5, s5⟩ := q5 l6 n7
          refine gen_plain rfl ?_
          refine gr_append_node (.tmp 55) (.tmp 57) rfl (m := [n]) rfl rfl o3 e5 s5 (by simp only [List.length_take, List.length_cons, List.length_nil]; omega) q0.size ?_
          intro v3 w3 o6 g3
          have hg := o3.below q0 g3 q0.size
          exact HI.out _ _ _ ⟨hg, kn_free q1 rfl, (fun _ h => by cases h), (fun _ h => by cases h), fun _ _ => o6, (fun h => by rw [show L 12 = true from h] at n12; cases n12), fun _ => ⟨l4, l6⟩, (fun h => by rw [show L 12 = true from h] at n12; cases n12)⟩
        · intro vs
          simp only [Act.put, List.setIfInBounds_toArray, List.set_cons_succ, List.set_cons_zero]
          rfl
        refine gent_cons (A' := ?_) (fun vs L w1 hL hw1 => ?_) ?_ ?_
        rotate_left 1
        · obtain ⟨q0, q1, q3, q5, q6, qa, h6, ha⟩ := HO.out _ _ _ hw1
          refine gen_plain rfl ?_
          go_simp
          exact gr_val (HI.out _ _ _ ⟨q0, kn_known q1 rfl, q3, q5, q6, qa, h6, ha⟩)
        · intro vs
          simp only [Act.put, List.setIfInBounds_toArray, List.set_cons_succ, List.set_cons_zero]
          rfl
        refine gent_cons (A' := ?_) (fun vs L w1 hL hw1 => ?_) ?_ ?_
        rotate_left 1
        · obtain ⟨q0, q1, q3, q5, q6, qa, h6, ha⟩ := HO.out _ _ _ hw1
          have l8 : L 8 = true := hL.need 8 (by kernel_rfl)
          have e8 := q1 8 _ rfl l8
          have x := (k1.grows q0).cell 0
          refine gen_plain rfl ?_
          simp only [e8]
          go_simp
          exact gr_val (HI.out _ _ _ ⟨q0, kn_known q1 rfl, q3, q5, q6, qa, h6, ha⟩)
        · intro vs
          simp only [Act.put, List.setIfInBounds_toArray, List.set_cons_succ, List.set_cons_zero]
          rfl
        refine gent_cons (A' := ?_) (fun vs L w1 hL hw1 => ?_) ?_ ?_
        rotate_left 1
        · obtain ⟨q0, q1, q3, q5, q6, qa, h6, ha⟩ := HO.out _ _ _ hw1
          refine gen_plain rfl ?_
          go_simp
          exact gr_val (HI.out _ _ _ ⟨q0, kn_known q1 rfl, q3, q5, q6, qa, h6, ha⟩)
        · intro vs
          simp only [Act.put, List.setIfInBounds_toArray, List.set_cons_succ, List.set_cons_zero]
          rfl
        refine gent_cons (A' := ?_) (fun vs L w1 hL hw1 => ?_) ?_ ?_
        rotate_left 1
        · obtain ⟨q0, q1, q3, q5, q6, qa, h6, ha⟩ := HO.out _ _ _ hw1
          have l9 : L 9 = true := hL.need 9 (by kernel_rfl)
          have e9 := q1 9 _ rfl l9
          have l10 : L 10 = true := hL.need 10 (by kernel_rfl)
          have e10 := q1 10 _ rfl l10
          refine gen_plain rfl ?_
          simp only [e9, e10]
          go_simp
          exact gr_val (HI.out _ _ _ ⟨q0, kn_known q1 rfl, q3, q5, q6, qa, h6, ha⟩)
        · intro vs
          simp only [Act.put, List.setIfInBounds_toArray, List.set_cons_succ, List.set_cons_zero]
          rfl
        refine gent_cons (A' := ?_) (fun vs L w1 hL hw1 => ?_) ?_ ?_
        rotate_left 1
        · obtain ⟨q0, q1, q3, q5, q6, qa, h6, ha⟩ := HO.out _ _ _ hw1
          have n12 : L 12 = false := hL.1
          have l7 : L 7 = true := hL.need 7 (by kernel_rfl)
          have o6 := q6 l7 n12
          have l11 : L 11 = true := hL.need 11 (by kernel_rfl)
          have e11 := q1 11 _ rfl l11
          refine gen_plain rfl ?_
          refine gr_append_node (.tmp 58) (.tmp 62) rfl (m := ns.drop m) (by simp) rfl o6 e11 (qs_drop (hQ.grows q0) hmd hc) (by simp only [List.length_append, List.length_take, List.length_drop, List.length_cons, List.length_nil]; omega) q0.size ?_
          intro v3 w3 o7 g3
          have hg := o6.below q0 g3 q0.size
          exact HI.out _ _ _ ⟨hg, kn_free q1 rfl, (fun h h0 => by rw [show L 7 = false from h0] at l7; cases l7), (fun h h0 => by rw [show L 7 = false from h0] at l7; cases l7), (fun _ h => by cases h), fun _ => o7, h6, fun _ => l7⟩
        · intro vs
          simp only [Act.put, List.setIfInBounds_toArray, List.set_cons_succ, List.set_cons_zero]
          rfl
        refine gent_nil ?_
        intro vs L W2 hall hS
        obtain ⟨hq, -, -, -, -, qa, -, -⟩ := HO.out _ _ _ hS
        have hown2 := qa (hall 12 (by omega))
        clear hall hS HI HO qa
        have hown3 := hown2.mono hB.size
        replace hB := below_grows hB (Nat.le_refl _) hq
        replace k1 := k1.grows hq
        replace k4 := k4.grows hq
        clear hown2 hq k3 hQ
        generalize vs 12 = v12 at *
        have x1 := k1.cell
        go_upto_region 12 with fail
        refine wp_region_lit ?_
        iterate 3
          refine wpList_plain rfl (fun K hK => ?_)
          go_simp
          refine hK _ _ ?_
          clear hK K
        refine wpList_append_link rfl (.const (.slice none 0 0)) (.tmp 66) rfl (l := []) (m := ls) rfl rfl (ownL_nil _ w.heap.size) rfl (h.grows hB).l (by simp only [List.length_nil]; omega) hB.size ?_
        intro v13 w13 hown13 hgr13 _
        have hq : Grows W2 w13 := (Below.refl _ _).grown hgr13 (Nat.le_refl _) (fun q hq => by cases hq)
        replace hB := below_grows hB (Nat.le_refl _) hq
        replace k4 := k4.grows hq
        replace hown3 := hown3.grows hq
        clear hq hgr13 x1 k1
        have x4 := k4.cell
        have f4 := k4.frozen
        obtain ⟨A7, n7, c7, hv7⟩ := hown3.slc
        obtain ⟨A8, n8, c8, hv8⟩ := hown13.slc
        subst hv7
        subst hv8
        go_wp2
        have k5 := (k4.set_ 0 (.slice A7 n7 c7)).set_ 1 (.slice A8 n8 c8)
        have hB5 := (hB.setCell (p := ⟨w.heap.size + 1 + 1, 0, none⟩) (by simp; omega) (.slice A7 n7 c7)).setCell (p := ⟨w.heap.size + 1 + 1, 1, none⟩) (by simp; omega) (.slice A8 n8 c8)
        have hn1 := OwnN.put hown3 k4 0 (.slice A7 n7 c7)
        have hn2 := OwnN.put hn1 (k4.set_ 0 (.slice A7 n7 c7)) 1 (.slice A8 n8 c8)
        have hl1 := OwnL.put (hown13.mono (Nat.le_refl _)) k4 0 (.slice A7 n7 c7)
        have hl2 := OwnL.put hl1 (k4.set_ 0 (.slice A7 n7 c7)) 1 (.slice A8 n8 c8)
        clear x4 f4 hn1 hl1 hown3 hown13 k4 hB
        generalize World.setCell (World.setCell w13 _ _) _ _ = w8 at *
        have x4 := k5.cell
        refine bodyPost_ret (v := .tuple #[.agg #[(.slice A7 n7 c7), (.slice A8 n8 c8)], .int .i64 0]) (by simp [results, Try.results26, go_sem, x4]) rfl ⟨grRes_yes hn2 hl2 ⟨valid_add HV.out HF.out HFD.out (by omega) HC.out, Nat.le_of_eq (ins_length hmd), rfl⟩, hB5⟩

end Go.Proofs.Ytmokpiacioeohaa
