/-
  Graphs: the maker makes a valid graph, and costs for its nodes. Plain contract.
-/
import Derived.Test.YtmokpiacioeohaaGrZ0
namespace Go.Proofs.Ytmokpiacioeohaa
open Go.RowKit Go.Maps
theorem OwnN.qs {w : World} {base : Nat} {A : Option Addr} {n c : Nat} {l : List Q4} (h : OwnN w base (.slice A n c) l) : Qs w A l := by
  obtain ⟨A', c', e, _, hi⟩ := h.read
  injection e with e1 e2 e3
  rw [e1]
  exact hi
theorem OwnI.slc {w : World} {base : Nat} {v : Value} {l : List Int} (h : OwnI w base v l) : ∃ A n c, v = .slice A n c := by
  obtain ⟨A, c, e, _⟩ := h.read
  exact ⟨_, _, _, e⟩
theorem OwnI.put {w : World} {base g : Nat} {v : Value} {l : List Int} {t : TypeId} {cs : Array Value} (h : OwnI w base v l) (k : Blk w g t cs) (i : Nat) (u : Value) (hne : 3 ≠ t := by decide) : OwnI (w.setCell ⟨g, i, none⟩ u) base v l := by
  have hgr : w.grownBy (w.setCell ⟨g, i, none⟩ u) (some g) := ⟨rfl, rfl, rfl, by simp [World.setCell], fun j _ hn => Below.heap_setCell w ⟨g, i, none⟩ u j (fun e => hn (by rw [e]))⟩
  exact World.ownsRow.kept h hgr (.inr (own_blk_ne h k hne))
theorem own_own_ne {w : World} {b1 b2 : Nat} {e1 e2 : TypeId} {s1 s2 n1 n2 : Nat} {u v : Value} {xs ys : List Value} (h1 : w.ownsRow b1 e1 s1 u n1 xs) (h2 : w.ownsRow b2 e2 s2 v n2 ys) (hne : e1 ≠ e2) : u.ownBlock = none ∨ u.ownBlock ≠ v.ownBlock := by
  rcases h2.2 with ⟨rfl, _⟩ | ⟨g, cap, cur, rfl, _, hg, _⟩
  · cases e : u.ownBlock with
    | none => exact .inl rfl
    | some q => exact .inr (by simp [Value.ownBlock])
  · exact .inr (own_blk_ne (cs := cur) h1 hg hne)
/-- All that a graph under way rests on lies below G. -/
structure FR (gd g2 g4 : Nat) (v1 v2 : Value) (G : Nat) : Prop where
  n : ∀ k, v1.ownBlock = some k → k < G
  l : ∀ k, v2.ownBlock = some k → k < G
  b2 : g2 < G
  b4 : g4 < G
section
variable {w0 w w' : World} {gd g2 g4 : Nat} {v1 v2 : Value} {ns ls : List Q4}
theorem GS.fr (h : GS w0 w gd g2 g4 v1 v2 ns ls) : FR gd g2 g4 v1 v2 w.heap.size := ⟨fun k e => (h.n.lt k e).2, fun k e => (h.l.lt k e).2, h.b2.lt, h.b4.lt⟩
theorem GS.gdlt (h : GS w0 w gd g2 g4 v1 v2 ns ls) : gd < w.heap.size := Nat.lt_of_lt_of_le h.d h.size
theorem grown_cell (w : World) (p : Addr) (u : Value) : w.grownBy (w.setCell p u) (some p.block) := ⟨rfl, rfl, rfl, by simp [World.setCell], fun j _ hn => Below.heap_setCell w p u j (fun e => hn (by rw [e]))⟩
theorem GS.set (h : GS w0 w gd g2 g4 v1 v2 ns ls) {G : Nat} (fr : FR gd g2 g4 v1 v2 G) {p : Addr} (hp : G ≤ p.block) (u : Value) : GS w0 (w.setCell p u) gd g2 g4 v1 v2 ns ls := by
  have h2 := fr.b2
  have h4 := fr.b4
  have hg := grown_cell w p u
  exact ⟨grown_set h.rel (by have := h.g2d; omega) u, h.b2.far (by omega) u, h.b4.far (by omega) u,
    World.ownsRow.kept h.n hg (.inr (fun e => by have := fr.n _ e; omega)), World.ownsRow.kept h.l hg (.inr (fun e => by have := fr.l _ e; omega)), h.v, h.d, h.g2d, h.g4d⟩
theorem GS.gok {A1 A2 : Option Addr} {c1 c2 : Nat} (h : GS w0 w gd g2 g4 (.slice A1 ns.length c1) (.slice A2 ls.length c2) ns ls) : ns.length ≤ c1 ∧ GOK w A1 A2 c2 ns ls := by
  obtain ⟨A, c, A', c', e1, e2, hc, hok⟩ := gok_of h.n h.l h.v
  injection e1 with a1 _ a3
  injection e2 with b1 _ b3
  subst a1 a3 b1 b3
  exact ⟨hc, hok⟩
theorem GS.own (h : GS w0 w gd g2 g4 v1 v2 ns ls) {v : Value} {l : List Int} (ho : OwnI w w0.heap.size v l) (hg : w.grownBy w' v.ownBlock) : GS w0 w' gd g2 g4 v1 v2 ns ls := by
  refine ⟨⟨hg.os.trans h.rel.os, hg.tape.trans h.rel.tape, hg.output.trans h.rel.output, Nat.le_trans h.rel.size hg.size, fun j hj hn => ?_⟩, h.b2.grown hg (fun e => own_blk_ne ho h.b2 (by decide) e.symm), h.b4.grown hg (fun e => own_blk_ne ho h.b4 (by decide) e.symm),
    World.ownsRow.kept h.n hg (own_own_ne h.n ho (by decide)), World.ownsRow.kept h.l hg (own_own_ne h.l ho (by decide)), h.v, h.d, h.g2d, h.g4d⟩
  exact (hg.block j (Nat.lt_of_lt_of_le hj h.rel.size) (fun e => by have := (ho.lt j e.symm).1; omega)).trans (h.rel.block j hj hn)
theorem Deck.own {g : Nat} {A : Option Addr} {c : Nat} {l cs : List Int} {k : Nat} {v : Value} (h : Deck w g A c l k) (hg : w.grownBy w' v.ownBlock) (ho : OwnI w w0.heap.size v cs) (hd : g < w0.heap.size) : Deck w' g A c l k :=
  ⟨h.blk.grown hg (fun e => by have := (ho.lt g e.symm).1; omega), h.ints.grown hg (Nat.le_of_lt h.blk.lt) (fun q e => by have := (ho.lt q e).1; omega), h.le, h.len⟩
end
/-- What the maker hands back. -/
def MadeG (w w' : World) (gd : Nat) (A : Option Addr) (c : Nat) (l : List Int) (e : Ending) : Prop :=
  ∃ v1 v2 v3 ns ls cs k, e = .returned (.tuple #[.agg #[v1, v2], v3]) ∧ OwnN w' w.heap.size v1 ns ∧ OwnL w' w.heap.size v2 ls ∧ OwnI w' w.heap.size v3 cs ∧ validG ns ls = true ∧ cs.length = ns.length ∧ (∀ x ∈ cs, 0 ≤ x ∧ x < 12) ∧ ns.length ≤ 8 ∧ Deck w' gd A c l k
set_option maxRecDepth 100000 in
set_option maxHeartbeats 32000000 in
theorem graph_any (gd : Nat) (A : Option Addr) (c : Nat) (l : List Int) (k : Nat) (w : World) (hD : Deck w gd A c l k) :
    Calls Try.prog 15 #[.pointer (some ⟨gd, 0, none⟩)] w fun e w' => MadeG w w' gd A c l e ∧ w.grownBy w' (some gd) := by
  have hgd := hD.blk.lt
  have b2 := (Blk.new w 40 #[.slice none 0 0, .slice none 0 0]).alloc (Obj.cells #[.slice none 0 0, .slice none 0 0] 40)
  have b4 := blk_new_at (X := w.alloc (Obj.cells #[.slice none 0 0, .slice none 0 0] 40)) (n := w.heap.size + 1) (t := 40) (cs := #[.slice none 0 0, .slice none 0 0]) (by simp)
  have hrel := grown_alloc (grown_alloc (World.grownBy.refl w (some gd)) (Obj.cells #[.slice none 0 0, .slice none 0 0] 40)) (Obj.cells #[.slice none 0 0, .slice none 0 0] 40)
  replace hD := (hD.grows ((Below.refl _ _).alloc (Nat.le_refl _) (Obj.cells #[.slice none 0 0, .slice none 0 0] 40))).grows ((Below.refl _ _).alloc (Nat.le_refl _) (Obj.cells #[.slice none 0 0, .slice none 0 0] 40))
  have hG : GS w _ gd w.heap.size (w.heap.size + 1) _ _ [] [] := ⟨hrel, b2, b4, ownN_nil _ _, ownL_nil _ _, valid_nil, hgd, Nat.le_refl _, Nat.le_succ _⟩
  have hne24 : w.heap.size ≠ w.heap.size + 1 := by omega
  have hgd4 : gd < w.heap.size + 1 := by omega
  clear b2 b4 hrel
  go_enter Try.func15, Try.ntmps15
  go_upto_region 2 with fail
  generalize World.alloc (World.alloc w _) _ = w1 at *
  obtain ⟨N, k1, hN, hk1, hN9⟩ := next_ex l k (n := 9) (by omega)
  have HN := Lib.hid (show (0 : Int) + nextV l k (8 - 0 + 1) = (N : Int) by rw [show (8 - 0 + 1 : Int) = 9 by rfl, hN]; omega)
  have HK := Lib.hid hk1
  clear hN hk1
  go_wp2_with fail
  refine (range_is gd A c l k k1 0 8 _ _ hD (by omega) (by omega) (by omega) HN.out HK.out).mono ?_
  rintro e w2 ⟨rfl, hD2, hq⟩
  replace hG := hG.next hq
  clear hD hq
  go_wp2_with fail
  go_loopw [6] (fun s wr => ∃ (i : Nat) (v1 v2 : Value) (ns ls : List Q4) (k : Nat), i ≤ N ∧ s = .int .i64 i ∧ GS w wr gd w.heap.size (w.heap.size + 1) v1 v2 ns ls ∧ Deck wr gd A c l k ∧ ns.length ≤ i) (fun s _ => N - (intOf s).toNat)
  case atStart => exact ⟨0, _, _, [], [], k1, by omega, rfl, hG, hD2, Nat.le_refl _⟩
  case round =>
    clear hG hD2 HN HK
    obtain ⟨i, v1, v2, ns, ls, k, hi, rfl, hG, hD, hni⟩ := hrel
    obtain ⟨A1, c1, A2, c2, rfl, rfl, -, -⟩ := gok_of hG.n hG.l hG.v
    by_cases hlt : i < N
    · obtain ⟨x, k1, hx, hk1, hx3⟩ := next_ex l k (n := 3) (by omega)
      obtain ⟨y, k2, hy, hk2, hy5⟩ := next_ex l k1 (n := 5) (by omega)
      have HX := Lib.hid hx
      have HK1 := Lib.hid hk1
      have HY : Hid (nextV l k1 5 = (y : Int) ∧ nextK l k1 = k2) := Lib.hid ⟨hy, hk2⟩
      clear hx hk1 hy hk2
      go_wp2_with fail
      refine (next_is gd A c l k k1 3 _ _ hD (by omega) (by omega) HX.out HK1.out).mono ?_
      rintro e w2 ⟨rfl, hD3, hq⟩
      replace hG := hG.next hq
      clear hD hq
      have hD := hD3
      clear hD3
      go_wp2_with fail
      have hyy : y = 0 ∨ y = 1 ∨ y = 2 ∨ y = 3 ∨ y = 4 := by omega
      rcases hyy with hyy | hyy | hyy | hyy | hyy
      · have hr2 : 1 + nextV l k1 (5 - 1 + 1) = 1 := by
          have h0 := HY.out.1
          rw [show (5 - 1 + 1 : Int) = 5 by rfl, h0, hyy]
          rfl
        have HR2 := Lib.hid hr2
        clear hr2 hyy
        refine (range_is gd A c l k1 k2 1 5 1 _ hD (by omega) (by omega) (by omega) HR2.out HY.out.2).mono ?_
        rintro e w3 ⟨rfl, hD3, hq⟩
        replace hG := hG.next hq
        clear hD hq
        have hD := hD3
        clear hD3
        have HFR := Lib.hid hG.fr
        have hgd7 := hG.gdlt
        have k7 := Blk.new w3 59 #[.int .i64 ((i : Int) * 3 + 1 + x), .int .i64 1, .int .i64 0, .int .i64 0]
        have hq := (Below.refl w3.heap.size w3).alloc (Nat.le_refl _) (Obj.cells #[.int .i64 ((i : Int) * 3 + 1 + x), .int .i64 1, .int .i64 0, .int .i64 0] 59)
        go_upto_region 7 with fail
        replace hG := hG.grows hq
        replace hD := hD.grows hq
        clear hq
        generalize World.alloc w3 _ = w4 at *
        generalize w3.heap.size = g7 at *
        have x7 := k7.cell
        have f7 := k7.frozen
        go_upto_region 17 with fail
        clear x7 f7
        replace hG := hG.set HFR.out (p := ⟨g7, 3, none⟩) (Nat.le_refl _) (.int .i64 1)
        replace hD := hD.far (p := ⟨g7, 3, none⟩) hgd7 (.int .i64 1)
        replace k7 := k7.set_ 3 (.int .i64 1)
        generalize World.setCell w4 _ _ = wn at *
        have HFI : Hid (fineN ⟨(i : Int) * 3 + 1 + x, 1, 0, 1⟩ = true) := Lib.hid (fine_mk (by omega) hx3 (by simp <;> omega))
        replace k7 : Blk wn g7 59 (Q4.cs ⟨(i : Int) * 3 + 1 + x, 1, 0, 1⟩) := by simpa [Q4.cs] using k7
        generalize (⟨(i : Int) * 3 + 1 + x, 1, 0, 1⟩ : Q4) = nd at *
        have x4 := hG.b4.cell
        replace k7 : Blk wn g7 59 #[.int .i64 nd.a, .int .i64 nd.b, .int .i64 nd.c, .int .i64 nd.d] := k7
        have x7 := k7.cell
        go_wp2_with fail
        obtain ⟨hcc, hok⟩ := hG.gok
        refine (radd_any (c := c1) nd hok hcc hG.v HFI.out).mono ?_
        rintro e w6 ⟨⟨u1, u2, ns', ls', er, rfl, hn', hl', hP⟩, hq⟩
        clear x4 x7 k7 hok hcc
        replace hn' := hn'.mono hG.size
        replace hl' := hl'.mono hG.size
        replace hG := hG.grows hq
        replace hD := hD.grows hq
        obtain ⟨B1, m1, b1, e1⟩ := hn'.slc
        obtain ⟨B2, m2, b2, e2⟩ := hl'.slc
        subst e1
        subst e2
        clear hq
        have k8 := Blk.new w6 40 #[.slice B1 m1 b1, .slice B2 m2 b2]
        have hq := (Below.refl w6.heap.size w6).alloc (Nat.le_refl _) (Obj.cells #[.slice B1 m1 b1, .slice B2 m2 b2] 40)
        go_upto_region 18 with fail
        replace hn' := hn'.grows hq
        replace hl' := hl'.grows hq
        replace hG := hG.grows hq
        replace hD := hD.grows hq
        clear hq
        generalize World.alloc w6 _ = w7 at *
        generalize w6.heap.size = g8 at *
        by_cases her : er = 0
        · subst her
          obtain ⟨hP1, hP2, hP3⟩ := hP rfl
          have HP := Lib.hid (show ns'.length ≤ i + 1 from by have := hP2; omega)
          clear hP hP2 hP3
          have x8 := k8.cell
          have x4 := hG.b4.cell
          have f4 := hG.b4.frozen
          go_upto_region 5 with fail
          have hG2 := hG.put hne24 hn' hl' hP1
          have hD2 := hD.put2 hgd4 (.slice B1 m1 b1) (.slice B2 m2 b2)
          clear x8 x4 f4 hG hD hn' hl' k8 hP1
          generalize World.setCell (World.setCell w7 _ _) _ _ = w8 at *
          go_wp2
          go_roundw
          case rel => exact ⟨i + 1, _, _, ns', ls', k2, by omega, by go_num, hG2, hD2, HP.out⟩
          case measure => simp [intOf]; omega
        · have her2 : (er == 0) = false := by simpa using her
          clear k8 hn' hl' hP
          go_upto_region 5 with fail
          go_wp2
          go_roundw
          case rel => exact ⟨i + 1, _, _, ns, ls, k2, by omega, by go_num, hG, hD, by omega⟩
          case measure => simp [intOf]; omega
      · have hr2 : 1 + nextV l k1 (5 - 1 + 1) = 2 := by
          have h0 := HY.out.1
          rw [show (5 - 1 + 1 : Int) = 5 by rfl, h0, hyy]
          rfl
        have HR2 := Lib.hid hr2
        clear hr2 hyy
        refine (range_is gd A c l k1 k2 1 5 2 _ hD (by omega) (by omega) (by omega) HR2.out HY.out.2).mono ?_
        rintro e w3 ⟨rfl, hD3, hq⟩
        replace hG := hG.next hq
        clear hD hq
        have hD := hD3
        clear hD3
        have HFR := Lib.hid hG.fr
        have hgd7 := hG.gdlt
        have k7 := Blk.new w3 59 #[.int .i64 ((i : Int) * 3 + 1 + x), .int .i64 2, .int .i64 0, .int .i64 0]
        have hq := (Below.refl w3.heap.size w3).alloc (Nat.le_refl _) (Obj.cells #[.int .i64 ((i : Int) * 3 + 1 + x), .int .i64 2, .int .i64 0, .int .i64 0] 59)
        go_upto_region 7 with fail
        replace hG := hG.grows hq
        replace hD := hD.grows hq
        clear hq
        generalize World.alloc w3 _ = w4 at *
        generalize w3.heap.size = g7 at *
        have x7 := k7.cell
        have f7 := k7.frozen
        go_upto_region 17 with fail
        clear x7 f7
        replace hG := hG.set HFR.out (p := ⟨g7, 2, none⟩) (Nat.le_refl _) (.int .i64 1)
        replace hD := hD.far (p := ⟨g7, 2, none⟩) hgd7 (.int .i64 1)
        replace k7 := k7.set_ 2 (.int .i64 1)
        generalize World.setCell w4 _ _ = wn at *
        have HFI : Hid (fineN ⟨(i : Int) * 3 + 1 + x, 2, 1, 0⟩ = true) := Lib.hid (fine_mk (by omega) hx3 (by simp <;> omega))
        replace k7 : Blk wn g7 59 (Q4.cs ⟨(i : Int) * 3 + 1 + x, 2, 1, 0⟩) := by simpa [Q4.cs] using k7
        generalize (⟨(i : Int) * 3 + 1 + x, 2, 1, 0⟩ : Q4) = nd at *
        have x4 := hG.b4.cell
        replace k7 : Blk wn g7 59 #[.int .i64 nd.a, .int .i64 nd.b, .int .i64 nd.c, .int .i64 nd.d] := k7
        have x7 := k7.cell
        go_wp2_with fail
        obtain ⟨hcc, hok⟩ := hG.gok
        refine (radd_any (c := c1) nd hok hcc hG.v HFI.out).mono ?_
        rintro e w6 ⟨⟨u1, u2, ns', ls', er, rfl, hn', hl', hP⟩, hq⟩
        clear x4 x7 k7 hok hcc
        replace hn' := hn'.mono hG.size
        replace hl' := hl'.mono hG.size
        replace hG := hG.grows hq
        replace hD := hD.grows hq
        obtain ⟨B1, m1, b1, e1⟩ := hn'.slc
        obtain ⟨B2, m2, b2, e2⟩ := hl'.slc
        subst e1
        subst e2
        clear hq
        have k8 := Blk.new w6 40 #[.slice B1 m1 b1, .slice B2 m2 b2]
        have hq := (Below.refl w6.heap.size w6).alloc (Nat.le_refl _) (Obj.cells #[.slice B1 m1 b1, .slice B2 m2 b2] 40)
        go_upto_region 18 with fail
        replace hn' := hn'.grows hq
        replace hl' := hl'.grows hq
        replace hG := hG.grows hq
        replace hD := hD.grows hq
        clear hq
        generalize World.alloc w6 _ = w7 at *
        generalize w6.heap.size = g8 at *
        by_cases her : er = 0
        · subst her
          obtain ⟨hP1, hP2, hP3⟩ := hP rfl
          have HP := Lib.hid (show ns'.length ≤ i + 1 from by have := hP2; omega)
          clear hP hP2 hP3
          have x8 := k8.cell
          have x4 := hG.b4.cell
          have f4 := hG.b4.frozen
          go_upto_region 5 with fail
          have hG2 := hG.put hne24 hn' hl' hP1
          have hD2 := hD.put2 hgd4 (.slice B1 m1 b1) (.slice B2 m2 b2)
          clear x8 x4 f4 hG hD hn' hl' k8 hP1
          generalize World.setCell (World.setCell w7 _ _) _ _ = w8 at *
          go_wp2
          go_roundw
          case rel => exact ⟨i + 1, _, _, ns', ls', k2, by omega, by go_num, hG2, hD2, HP.out⟩
          case measure => simp [intOf]; omega
        · have her2 : (er == 0) = false := by simpa using her
          clear k8 hn' hl' hP
          go_upto_region 5 with fail
          go_wp2
          go_roundw
          case rel => exact ⟨i + 1, _, _, ns, ls, k2, by omega, by go_num, hG, hD, by omega⟩
          case measure => simp [intOf]; omega
      · have hr2 : 1 + nextV l k1 (5 - 1 + 1) = 3 := by
          have h0 := HY.out.1
          rw [show (5 - 1 + 1 : Int) = 5 by rfl, h0, hyy]
          rfl
        have HR2 := Lib.hid hr2
        clear hr2 hyy
        refine (range_is gd A c l k1 k2 1 5 3 _ hD (by omega) (by omega) (by omega) HR2.out HY.out.2).mono ?_
        rintro e w3 ⟨rfl, hD3, hq⟩
        replace hG := hG.next hq
        clear hD hq
        have hD := hD3
        clear hD3
        have HFR := Lib.hid hG.fr
        have hgd7 := hG.gdlt
        have k7 := Blk.new w3 59 #[.int .i64 ((i : Int) * 3 + 1 + x), .int .i64 3, .int .i64 0, .int .i64 0]
        have hq := (Below.refl w3.heap.size w3).alloc (Nat.le_refl _) (Obj.cells #[.int .i64 ((i : Int) * 3 + 1 + x), .int .i64 3, .int .i64 0, .int .i64 0] 59)
        go_upto_region 7 with fail
        replace hG := hG.grows hq
        replace hD := hD.grows hq
        clear hq
        generalize World.alloc w3 _ = w4 at *
        generalize w3.heap.size = g7 at *
        have x7 := k7.cell
        have f7 := k7.frozen
        obtain ⟨z, k3, hz, hk3, hz3⟩ := next_ex l k2 (n := 3) (by omega)
        have HR3 := Lib.hid (show 1 + nextV l k2 (3 - 1 + 1) = ((1 + z : Nat) : Int) by
          rw [show (3 - 1 + 1 : Int) = 3 by rfl, hz]
          omega)
        have HK3 := Lib.hid hk3
        clear hz hk3
        go_wp2_with fail
        refine (range_is gd A c l k2 k3 1 3 _ _ hD (by omega) (by omega) (by omega) HR3.out HK3.out).mono ?_
        rintro e w5 ⟨rfl, hD3, hq⟩
        replace hG := hG.next hq
        replace k7 := k7.grown hq (fun e => by injection e; omega)
        clear hD hq x7 f7
        have hD := hD3
        clear hD3
        generalize hzz : 1 + z = zz at *
        have x7 := k7.cell
        have f7 := k7.frozen
        go_upto_region 17 with fail
        clear x7 f7
        replace hG := hG.set HFR.out (p := ⟨g7, 2, none⟩) (Nat.le_refl _) (.int .i64 (zz : Int))
        replace hD := hD.far (p := ⟨g7, 2, none⟩) hgd7 (.int .i64 (zz : Int))
        replace k7 := k7.set_ 2 (.int .i64 (zz : Int))
        replace hG := hG.set HFR.out (p := ⟨g7, 3, none⟩) (Nat.le_refl _) (.int .i64 1)
        replace hD := hD.far (p := ⟨g7, 3, none⟩) hgd7 (.int .i64 1)
        replace k7 := k7.set_ 3 (.int .i64 1)
        generalize World.setCell (World.setCell w5 _ _) _ _ = wn at *
        have HFI : Hid (fineN ⟨(i : Int) * 3 + 1 + x, 3, (zz : Int), 1⟩ = true) := Lib.hid (fine_mk (by omega) hx3 (by simp <;> omega))
        replace k7 : Blk wn g7 59 (Q4.cs ⟨(i : Int) * 3 + 1 + x, 3, (zz : Int), 1⟩) := by simpa [Q4.cs] using k7
        generalize (⟨(i : Int) * 3 + 1 + x, 3, (zz : Int), 1⟩ : Q4) = nd at *
        have x4 := hG.b4.cell
        replace k7 : Blk wn g7 59 #[.int .i64 nd.a, .int .i64 nd.b, .int .i64 nd.c, .int .i64 nd.d] := k7
        have x7 := k7.cell
        go_wp2_with fail
        obtain ⟨hcc, hok⟩ := hG.gok
        refine (radd_any (c := c1) nd hok hcc hG.v HFI.out).mono ?_
        rintro e w6 ⟨⟨u1, u2, ns', ls', er, rfl, hn', hl', hP⟩, hq⟩
        clear x4 x7 k7 hok hcc
        replace hn' := hn'.mono hG.size
        replace hl' := hl'.mono hG.size
        replace hG := hG.grows hq
        replace hD := hD.grows hq
        obtain ⟨B1, m1, b1, e1⟩ := hn'.slc
        obtain ⟨B2, m2, b2, e2⟩ := hl'.slc
        subst e1
        subst e2
        clear hq
        have k8 := Blk.new w6 40 #[.slice B1 m1 b1, .slice B2 m2 b2]
        have hq := (Below.refl w6.heap.size w6).alloc (Nat.le_refl _) (Obj.cells #[.slice B1 m1 b1, .slice B2 m2 b2] 40)
        go_upto_region 18 with fail
        replace hn' := hn'.grows hq
        replace hl' := hl'.grows hq
        replace hG := hG.grows hq
        replace hD := hD.grows hq
        clear hq
        generalize World.alloc w6 _ = w7 at *
        generalize w6.heap.size = g8 at *
        by_cases her : er = 0
        · subst her
          obtain ⟨hP1, hP2, hP3⟩ := hP rfl
          have HP := Lib.hid (show ns'.length ≤ i + 1 from by have := hP2; omega)
          clear hP hP2 hP3
          have x8 := k8.cell
          have x4 := hG.b4.cell
          have f4 := hG.b4.frozen
          go_upto_region 5 with fail
          have hG2 := hG.put hne24 hn' hl' hP1
          have hD2 := hD.put2 hgd4 (.slice B1 m1 b1) (.slice B2 m2 b2)
          clear x8 x4 f4 hG hD hn' hl' k8 hP1
          generalize World.setCell (World.setCell w7 _ _) _ _ = w8 at *
          go_wp2
          go_roundw
          case rel => exact ⟨i + 1, _, _, ns', ls', k3, by omega, by go_num, hG2, hD2, HP.out⟩
          case measure => simp [intOf]; omega
        · have her2 : (er == 0) = false := by simpa using her
          clear k8 hn' hl' hP
          go_upto_region 5 with fail
          go_wp2
          go_roundw
          case rel => exact ⟨i + 1, _, _, ns, ls, k3, by omega, by go_num, hG, hD, by omega⟩
          case measure => simp [intOf]; omega
      · have hr2 : 1 + nextV l k1 (5 - 1 + 1) = 4 := by
          have h0 := HY.out.1
          rw [show (5 - 1 + 1 : Int) = 5 by rfl, h0, hyy]
          rfl
        have HR2 := Lib.hid hr2
        clear hr2 hyy
        refine (range_is gd A c l k1 k2 1 5 4 _ hD (by omega) (by omega) (by omega) HR2.out HY.out.2).mono ?_
        rintro e w3 ⟨rfl, hD3, hq⟩
        replace hG := hG.next hq
        clear hD hq
        have hD := hD3
        clear hD3
        have HFR := Lib.hid hG.fr
        have hgd7 := hG.gdlt
        have k7 := Blk.new w3 59 #[.int .i64 ((i : Int) * 3 + 1 + x), .int .i64 4, .int .i64 0, .int .i64 0]
        have hq := (Below.refl w3.heap.size w3).alloc (Nat.le_refl _) (Obj.cells #[.int .i64 ((i : Int) * 3 + 1 + x), .int .i64 4, .int .i64 0, .int .i64 0] 59)
        go_upto_region 7 with fail
        replace hG := hG.grows hq
        replace hD := hD.grows hq
        clear hq
        generalize World.alloc w3 _ = w4 at *
        generalize w3.heap.size = g7 at *
        have x7 := k7.cell
        have f7 := k7.frozen
        go_upto_region 17 with fail
        clear x7 f7
        replace hG := hG.set HFR.out (p := ⟨g7, 2, none⟩) (Nat.le_refl _) (.int .i64 1)
        replace hD := hD.far (p := ⟨g7, 2, none⟩) hgd7 (.int .i64 1)
        replace k7 := k7.set_ 2 (.int .i64 1)
        replace hG := hG.set HFR.out (p := ⟨g7, 3, none⟩) (Nat.le_refl _) (.int .i64 1)
        replace hD := hD.far (p := ⟨g7, 3, none⟩) hgd7 (.int .i64 1)
        replace k7 := k7.set_ 3 (.int .i64 1)
        generalize World.setCell (World.setCell w4 _ _) _ _ = wn at *
        have HFI : Hid (fineN ⟨(i : Int) * 3 + 1 + x, 4, 1, 1⟩ = true) := Lib.hid (fine_mk (by omega) hx3 (by simp <;> omega))
        replace k7 : Blk wn g7 59 (Q4.cs ⟨(i : Int) * 3 + 1 + x, 4, 1, 1⟩) := by simpa [Q4.cs] using k7
        generalize (⟨(i : Int) * 3 + 1 + x, 4, 1, 1⟩ : Q4) = nd at *
        have x4 := hG.b4.cell
        replace k7 : Blk wn g7 59 #[.int .i64 nd.a, .int .i64 nd.b, .int .i64 nd.c, .int .i64 nd.d] := k7
        have x7 := k7.cell
        go_wp2_with fail
        obtain ⟨hcc, hok⟩ := hG.gok
        refine (radd_any (c := c1) nd hok hcc hG.v HFI.out).mono ?_
        rintro e w6 ⟨⟨u1, u2, ns', ls', er, rfl, hn', hl', hP⟩, hq⟩
        clear x4 x7 k7 hok hcc
        replace hn' := hn'.mono hG.size
        replace hl' := hl'.mono hG.size
        replace hG := hG.grows hq
        replace hD := hD.grows hq
        obtain ⟨B1, m1, b1, e1⟩ := hn'.slc
        obtain ⟨B2, m2, b2, e2⟩ := hl'.slc
        subst e1
        subst e2
        clear hq
        have k8 := Blk.new w6 40 #[.slice B1 m1 b1, .slice B2 m2 b2]
        have hq := (Below.refl w6.heap.size w6).alloc (Nat.le_refl _) (Obj.cells #[.slice B1 m1 b1, .slice B2 m2 b2] 40)
        go_upto_region 18 with fail
        replace hn' := hn'.grows hq
        replace hl' := hl'.grows hq
        replace hG := hG.grows hq
        replace hD := hD.grows hq
        clear hq
        generalize World.alloc w6 _ = w7 at *
        generalize w6.heap.size = g8 at *
        by_cases her : er = 0
        · subst her
          obtain ⟨hP1, hP2, hP3⟩ := hP rfl
          have HP := Lib.hid (show ns'.length ≤ i + 1 from by have := hP2; omega)
          clear hP hP2 hP3
          have x8 := k8.cell
          have x4 := hG.b4.cell
          have f4 := hG.b4.frozen
          go_upto_region 5 with fail
          have hG2 := hG.put hne24 hn' hl' hP1
          have hD2 := hD.put2 hgd4 (.slice B1 m1 b1) (.slice B2 m2 b2)
          clear x8 x4 f4 hG hD hn' hl' k8 hP1
          generalize World.setCell (World.setCell w7 _ _) _ _ = w8 at *
          go_wp2
          go_roundw
          case rel => exact ⟨i + 1, _, _, ns', ls', k2, by omega, by go_num, hG2, hD2, HP.out⟩
          case measure => simp [intOf]; omega
        · have her2 : (er == 0) = false := by simpa using her
          clear k8 hn' hl' hP
          go_upto_region 5 with fail
          go_wp2
          go_roundw
          case rel => exact ⟨i + 1, _, _, ns, ls, k2, by omega, by go_num, hG, hD, by omega⟩
          case measure => simp [intOf]; omega
      · have hr2 : 1 + nextV l k1 (5 - 1 + 1) = 5 := by
          have h0 := HY.out.1
          rw [show (5 - 1 + 1 : Int) = 5 by rfl, h0, hyy]
          rfl
        have HR2 := Lib.hid hr2
        clear hr2 hyy
        refine (range_is gd A c l k1 k2 1 5 5 _ hD (by omega) (by omega) (by omega) HR2.out HY.out.2).mono ?_
        rintro e w3 ⟨rfl, hD3, hq⟩
        replace hG := hG.next hq
        clear hD hq
        have hD := hD3
        clear hD3
        have HFR := Lib.hid hG.fr
        have hgd7 := hG.gdlt
        have k7 := Blk.new w3 59 #[.int .i64 ((i : Int) * 3 + 1 + x), .int .i64 5, .int .i64 0, .int .i64 0]
        have hq := (Below.refl w3.heap.size w3).alloc (Nat.le_refl _) (Obj.cells #[.int .i64 ((i : Int) * 3 + 1 + x), .int .i64 5, .int .i64 0, .int .i64 0] 59)
        go_upto_region 7 with fail
        replace hG := hG.grows hq
        replace hD := hD.grows hq
        clear hq
        generalize World.alloc w3 _ = w4 at *
        generalize w3.heap.size = g7 at *
        have x7 := k7.cell
        have f7 := k7.frozen
        obtain ⟨z, k3, hz, hk3, hz3⟩ := next_ex l k2 (n := 3) (by omega)
        have HR3 := Lib.hid (show 1 + nextV l k2 (3 - 1 + 1) = ((1 + z : Nat) : Int) by
          rw [show (3 - 1 + 1 : Int) = 3 by rfl, hz]
          omega)
        have HK3 := Lib.hid hk3
        clear hz hk3
        go_wp2_with fail
        refine (range_is gd A c l k2 k3 1 3 _ _ hD (by omega) (by omega) (by omega) HR3.out HK3.out).mono ?_
        rintro e w5 ⟨rfl, hD3, hq⟩
        replace hG := hG.next hq
        replace k7 := k7.grown hq (fun e => by injection e; omega)
        clear hD hq x7 f7
        have hD := hD3
        clear hD3
        generalize hzz : 1 + z = zz at *
        have x7 := k7.cell
        have f7 := k7.frozen
        go_upto_region 17 with fail
        clear x7 f7
        replace hG := hG.set HFR.out (p := ⟨g7, 2, none⟩) (Nat.le_refl _) (.int .i64 1)
        replace hD := hD.far (p := ⟨g7, 2, none⟩) hgd7 (.int .i64 1)
        replace k7 := k7.set_ 2 (.int .i64 1)
        replace hG := hG.set HFR.out (p := ⟨g7, 3, none⟩) (Nat.le_refl _) (.int .i64 (zz : Int))
        replace hD := hD.far (p := ⟨g7, 3, none⟩) hgd7 (.int .i64 (zz : Int))
        replace k7 := k7.set_ 3 (.int .i64 (zz : Int))
        generalize World.setCell (World.setCell w5 _ _) _ _ = wn at *
        have HFI : Hid (fineN ⟨(i : Int) * 3 + 1 + x, 5, 1, (zz : Int)⟩ = true) := Lib.hid (fine_mk (by omega) hx3 (by simp <;> omega))
        replace k7 : Blk wn g7 59 (Q4.cs ⟨(i : Int) * 3 + 1 + x, 5, 1, (zz : Int)⟩) := by simpa [Q4.cs] using k7
        generalize (⟨(i : Int) * 3 + 1 + x, 5, 1, (zz : Int)⟩ : Q4) = nd at *
        have x4 := hG.b4.cell
        replace k7 : Blk wn g7 59 #[.int .i64 nd.a, .int .i64 nd.b, .int .i64 nd.c, .int .i64 nd.d] := k7
        have x7 := k7.cell
        go_wp2_with fail
        obtain ⟨hcc, hok⟩ := hG.gok
        refine (radd_any (c := c1) nd hok hcc hG.v HFI.out).mono ?_
        rintro e w6 ⟨⟨u1, u2, ns', ls', er, rfl, hn', hl', hP⟩, hq⟩
        clear x4 x7 k7 hok hcc
        replace hn' := hn'.mono hG.size
        replace hl' := hl'.mono hG.size
        replace hG := hG.grows hq
        replace hD := hD.grows hq
        obtain ⟨B1, m1, b1, e1⟩ := hn'.slc
        obtain ⟨B2, m2, b2, e2⟩ := hl'.slc
        subst e1
        subst e2
        clear hq
        have k8 := Blk.new w6 40 #[.slice B1 m1 b1, .slice B2 m2 b2]
        have hq := (Below.refl w6.heap.size w6).alloc (Nat.le_refl _) (Obj.cells #[.slice B1 m1 b1, .slice B2 m2 b2] 40)
        go_upto_region 18 with fail
        replace hn' := hn'.grows hq
        replace hl' := hl'.grows hq
        replace hG := hG.grows hq
        replace hD := hD.grows hq
        clear hq
        generalize World.alloc w6 _ = w7 at *
        generalize w6.heap.size = g8 at *
        by_cases her : er = 0
        · subst her
          obtain ⟨hP1, hP2, hP3⟩ := hP rfl
          have HP := Lib.hid (show ns'.length ≤ i + 1 from by have := hP2; omega)
          clear hP hP2 hP3
          have x8 := k8.cell
          have x4 := hG.b4.cell
          have f4 := hG.b4.frozen
          go_upto_region 5 with fail
          have hG2 := hG.put hne24 hn' hl' hP1
          have hD2 := hD.put2 hgd4 (.slice B1 m1 b1) (.slice B2 m2 b2)
          clear x8 x4 f4 hG hD hn' hl' k8 hP1
          generalize World.setCell (World.setCell w7 _ _) _ _ = w8 at *
          go_wp2
          go_roundw
          case rel => exact ⟨i + 1, _, _, ns', ls', k3, by omega, by go_num, hG2, hD2, HP.out⟩
          case measure => simp [intOf]; omega
        · have her2 : (er == 0) = false := by simpa using her
          clear k8 hn' hl' hP
          go_upto_region 5 with fail
          go_wp2
          go_roundw
          case rel => exact ⟨i + 1, _, _, ns, ls, k3, by omega, by go_num, hG, hD, by omega⟩
          case measure => simp [intOf]; omega
    · obtain ⟨M, k1, hM, hk1, hM13⟩ := next_ex l k (n := 13) (by omega)
      have HM := Lib.hid (show (0 : Int) + nextV l k (12 - 0 + 1) = (M : Int) by rw [show (12 - 0 + 1 : Int) = 13 by rfl, hM]; omega)
      have HK := Lib.hid hk1
      clear hM hk1
      go_wp2_with fail
      refine (range_is gd A c l k k1 0 12 _ _ hD (by omega) (by omega) (by omega) HM.out HK.out).mono ?_
      rintro e w2 ⟨rfl, hD2, hq⟩
      replace hG := hG.next hq
      clear hD hq
      go_wp2_with fail
      go_loopw [10] (fun s wr => ∃ (m : Nat) (v1 v2 : Value) (ns ls : List Q4) (k : Nat), m ≤ 12 ∧ s = .int .i64 m ∧ GS w wr gd w.heap.size (w.heap.size + 1) v1 v2 ns ls ∧ Deck wr gd A c l k ∧ ns.length ≤ 8) (fun s _ => (intOf s).toNat)
      case atStart => exact ⟨M, _, _, ns, ls, k1, by omega, rfl, hG, hD2, by omega⟩
      case round =>
        clear hG hD2 HM HK
        obtain ⟨m, v1, v2, ns, ls, k, hm, rfl, hG, hD, hn8⟩ := hrel
        obtain ⟨A1, c1, A2, c2, rfl, rfl, -, -⟩ := gok_of hG.n hG.l hG.v
        by_cases hm0 : m = 0
        · have hm00 : decide (0 < m) = false := by simp [hm0]
          have HM0 := Lib.hid hm0
          clear hm0
          have x4 := hG.b4.cell
          go_wp2_with fail
          clear x4
          go_loopw [14, 111] (fun v3 i wr => ∃ (j : Nat) (cs : List Int) (k : Nat), j ≤ ns.length ∧ i = .int .i64 j ∧ OwnI wr w.heap.size v3 cs ∧ cs.length = j ∧ Hid (∀ x ∈ cs, 0 ≤ x ∧ x < 12) ∧ GS w wr gd w.heap.size (w.heap.size + 1) (.slice A1 ns.length c1) (.slice A2 ls.length c2) ns ls ∧ Deck wr gd A c l k) (fun _ i _ => ns.length - (intOf i).toNat)
          case atStart => exact ⟨0, [], k, by omega, rfl, ownI_nil _ _, rfl, Lib.hid (by simp), hG, hD⟩
          case round =>
            clear hG hD
            obtain ⟨j, cs, k, hj, rfl, ho, hcs, HC, hG, hD⟩ := hrel
            by_cases hlt : j < ns.length
            · obtain ⟨d, k1, hd, hk1, hd12⟩ := next_ex l k (n := 12) (by omega)
              have HD := Lib.hid hd
              have HK := Lib.hid hk1
              have HCL := Lib.hid hcs
              clear hd hk1 hcs
              go_upto_region 30 with fail
              refine wp_region_lit ?_
              iterate 2
                refine wpList_plain rfl (fun K hK => ?_)
                go_simp
                refine hK _ _ ?_
                clear hK K
              refine wpList_plain rfl (fun K hK => ?_)
              go_simp
              refine (next_is gd A c l k k1 12 _ _ hD (by omega) (by omega) HD.out HK.out).mono ?_
              rintro e w3 ⟨rfl, hD3, hq⟩
              refine hK _ _ ?_
              clear hK K
              replace ho : OwnI w3 w.heap.size _ cs := World.ownsRow.kept ho hq (.inr (fun e => by have := hG.d; have := (ho.lt gd e).1; omega))
              replace hG := hG.next hq
              clear hq hD
              iterate 1
                refine wpList_plain rfl (fun K hK => ?_)
                go_simp
                refine hK _ _ ?_
                clear hK K
              have hq := (Below.refl w3.heap.size w3).alloc (Nat.le_refl _) (Obj.cells #[.int .i64 (d : Int)] 3)
              replace ho := ho.grows hq
              replace hG := hG.grows hq
              replace hD := hD3.grows hq
              refine wpList_append_int rfl (.tmp 113) (.tmp 116) rfl (m := [(d : Int)]) rfl rfl ho rfl (ints_lit w3 (d : Int)) (by have := HCL.out; simp only [List.length_singleton]; omega) hG.size ?_
              intro v9 w9 ho9 hg9 _
              have hD9 := hD.own hg9 ho hG.d
              have hG9 := hG.own ho hg9
              have HC2 : Hid (∀ x ∈ cs ++ [(d : Int)], 0 ≤ x ∧ x < 12) := Lib.hid (by
                intro y hy
                rcases List.mem_append.1 hy with hy | hy
                · exact HC.out y hy
                · simp only [List.mem_singleton] at hy
                  subst hy
                  omega)
              have HL2 : Hid ((cs ++ [(d : Int)]).length = j + 1) := Lib.hid (by have := HCL.out; simp; omega)
              clear ho hG hD hD3 hg9 hq
              go_wp2
              go_roundw
              case rel => exact ⟨j + 1, _, k1, by omega, by go_num, ho9, HL2.out, HC2, hG9, hD9⟩
              case measure => simp [intOf]; omega
            · have x4 := hG.b4.cell
              have x2 := hG.b2.cell
              have f2 := hG.b2.frozen
              have HCL : Hid (cs.length = ns.length) := Lib.hid (by omega)
              obtain ⟨A7, n7, c7, e7⟩ := ho.slc
              subst e7
              clear hcs
              go_wp2
              have k5 := (hG.b2.set_ 0 (.slice A1 ns.length c1)).set_ 1 (.slice A2 ls.length c2)
              have hn5 := OwnN.put (OwnN.put hG.n hG.b2 0 (.slice A1 ns.length c1)) (hG.b2.set_ 0 (.slice A1 ns.length c1)) 1 (.slice A2 ls.length c2)
              have hl5 := OwnL.put (OwnL.put hG.l hG.b2 0 (.slice A1 ns.length c1)) (hG.b2.set_ 0 (.slice A1 ns.length c1)) 1 (.slice A2 ls.length c2)
              have hi5 := OwnI.put (OwnI.put ho hG.b2 0 (.slice A1 ns.length c1)) (hG.b2.set_ 0 (.slice A1 ns.length c1)) 1 (.slice A2 ls.length c2)
              have hD5 := hD.put2 hG.d (.slice A1 ns.length c1) (.slice A2 ls.length c2)
              have hr5 := grown_set (grown_set hG.rel (p := ⟨w.heap.size, 0, none⟩) (Nat.le_refl _) (.slice A1 ns.length c1)) (p := ⟨w.heap.size, 1, none⟩) (Nat.le_refl _) (.slice A2 ls.length c2)
              have hv5 := Lib.hid hG.v
              clear x4 x2 f2 hG hD ho
              generalize World.setCell (World.setCell wr _ _) _ _ = w9 at *
              have x2 := k5.cell
              refine bodyPost_ret (v := .tuple #[.agg #[.slice A1 ns.length c1, .slice A2 ls.length c2], .slice A7 n7 c7]) (by simp [results, Try.results15, go_sem, x2]) rfl ⟨⟨_, _, _, ns, ls, cs, k, rfl, hn5, hl5, hi5, hv5.out, HCL.out, HC.out, hn8, hD5⟩, hr5⟩
        by_cases hn0 : ns.length = 0
        · have HN0 := Lib.hid hn0
          have hn00 : decide (0 < ns.length) = false := by simp [hn0]
          clear hn0
          have hm00 : decide (0 < m) = true := by simp; omega
          have HM0 := Lib.hid hm0
          clear hm0
          have x4 := hG.b4.cell
          go_wp2_with fail
          clear x4
          go_loopw [14, 111] (fun v3 i wr => ∃ (j : Nat) (cs : List Int) (k : Nat), j ≤ ns.length ∧ i = .int .i64 j ∧ OwnI wr w.heap.size v3 cs ∧ cs.length = j ∧ Hid (∀ x ∈ cs, 0 ≤ x ∧ x < 12) ∧ GS w wr gd w.heap.size (w.heap.size + 1) (.slice A1 ns.length c1) (.slice A2 ls.length c2) ns ls ∧ Deck wr gd A c l k) (fun _ i _ => ns.length - (intOf i).toNat)
          case atStart => exact ⟨0, [], k, by omega, rfl, ownI_nil _ _, rfl, Lib.hid (by simp), hG, hD⟩
          case round =>
            clear hG hD
            obtain ⟨j, cs, k, hj, rfl, ho, hcs, HC, hG, hD⟩ := hrel
            by_cases hlt : j < ns.length
            · obtain ⟨d, k1, hd, hk1, hd12⟩ := next_ex l k (n := 12) (by omega)
              have HD := Lib.hid hd
              have HK := Lib.hid hk1
              have HCL := Lib.hid hcs
              clear hd hk1 hcs
              go_upto_region 30 with fail
              refine wp_region_lit ?_
              iterate 2
                refine wpList_plain rfl (fun K hK => ?_)
                go_simp
                refine hK _ _ ?_
                clear hK K
              refine wpList_plain rfl (fun K hK => ?_)
              go_simp
              refine (next_is gd A c l k k1 12 _ _ hD (by omega) (by omega) HD.out HK.out).mono ?_
              rintro e w3 ⟨rfl, hD3, hq⟩
              refine hK _ _ ?_
              clear hK K
              replace ho : OwnI w3 w.heap.size _ cs := World.ownsRow.kept ho hq (.inr (fun e => by have := hG.d; have := (ho.lt gd e).1; omega))
              replace hG := hG.next hq
              clear hq hD
              iterate 1
                refine wpList_plain rfl (fun K hK => ?_)
                go_simp
                refine hK _ _ ?_
                clear hK K
              have hq := (Below.refl w3.heap.size w3).alloc (Nat.le_refl _) (Obj.cells #[.int .i64 (d : Int)] 3)
              replace ho := ho.grows hq
              replace hG := hG.grows hq
              replace hD := hD3.grows hq
              refine wpList_append_int rfl (.tmp 113) (.tmp 116) rfl (m := [(d : Int)]) rfl rfl ho rfl (ints_lit w3 (d : Int)) (by have := HCL.out; simp only [List.length_singleton]; omega) hG.size ?_
              intro v9 w9 ho9 hg9 _
              have hD9 := hD.own hg9 ho hG.d
              have hG9 := hG.own ho hg9
              have HC2 : Hid (∀ x ∈ cs ++ [(d : Int)], 0 ≤ x ∧ x < 12) := Lib.hid (by
                intro y hy
                rcases List.mem_append.1 hy with hy | hy
                · exact HC.out y hy
                · simp only [List.mem_singleton] at hy
                  subst hy
                  omega)
              have HL2 : Hid ((cs ++ [(d : Int)]).length = j + 1) := Lib.hid (by have := HCL.out; simp; omega)
              clear ho hG hD hD3 hg9 hq
              go_wp2
              go_roundw
              case rel => exact ⟨j + 1, _, k1, by omega, by go_num, ho9, HL2.out, HC2, hG9, hD9⟩
              case measure => simp [intOf]; omega
            · have x4 := hG.b4.cell
              have x2 := hG.b2.cell
              have f2 := hG.b2.frozen
              have HCL : Hid (cs.length = ns.length) := Lib.hid (by omega)
              obtain ⟨A7, n7, c7, e7⟩ := ho.slc
              subst e7
              clear hcs
              go_wp2
              have k5 := (hG.b2.set_ 0 (.slice A1 ns.length c1)).set_ 1 (.slice A2 ls.length c2)
              have hn5 := OwnN.put (OwnN.put hG.n hG.b2 0 (.slice A1 ns.length c1)) (hG.b2.set_ 0 (.slice A1 ns.length c1)) 1 (.slice A2 ls.length c2)
              have hl5 := OwnL.put (OwnL.put hG.l hG.b2 0 (.slice A1 ns.length c1)) (hG.b2.set_ 0 (.slice A1 ns.length c1)) 1 (.slice A2 ls.length c2)
              have hi5 := OwnI.put (OwnI.put ho hG.b2 0 (.slice A1 ns.length c1)) (hG.b2.set_ 0 (.slice A1 ns.length c1)) 1 (.slice A2 ls.length c2)
              have hD5 := hD.put2 hG.d (.slice A1 ns.length c1) (.slice A2 ls.length c2)
              have hr5 := grown_set (grown_set hG.rel (p := ⟨w.heap.size, 0, none⟩) (Nat.le_refl _) (.slice A1 ns.length c1)) (p := ⟨w.heap.size, 1, none⟩) (Nat.le_refl _) (.slice A2 ls.length c2)
              have hv5 := Lib.hid hG.v
              clear x4 x2 f2 hG hD ho
              generalize World.setCell (World.setCell wr _ _) _ _ = w9 at *
              have x2 := k5.cell
              refine bodyPost_ret (v := .tuple #[.agg #[.slice A1 ns.length c1, .slice A2 ls.length c2], .slice A7 n7 c7]) (by simp [results, Try.results15, go_sem, x2]) rfl ⟨⟨_, _, _, ns, ls, cs, k, rfl, hn5, hl5, hi5, hv5.out, HCL.out, HC.out, hn8, hD5⟩, hr5⟩
        have hm00 : decide (0 < m) = true := by simp; omega
        have hn00 : decide (0 < ns.length) = true := by simp; omega
        obtain ⟨d1, k1, hd1, hk1, hdd1⟩ := next_ex l k (n := (ns.length : Int)) (by omega)
        obtain ⟨d2, k2, hd2, hk2, hdd2⟩ := next_ex l k1 (n := 3) (by omega)
        obtain ⟨d3, k3, hd3, hk3, hdd3⟩ := next_ex l k2 (n := (ns.length : Int)) (by omega)
        obtain ⟨d4, k4, hd4, hk4, hdd4⟩ := next_ex l k3 (n := 3) (by omega)
        have H1 : Hid (nextV l k ns.length = d1 ∧ nextK l k = k1) := Lib.hid ⟨hd1, hk1⟩
        have H2 : Hid (nextV l k1 3 = d2 ∧ nextK l k1 = k2) := Lib.hid ⟨hd2, hk2⟩
        have H3 : Hid (nextV l k2 ns.length = d3 ∧ nextK l k2 = k3) := Lib.hid ⟨hd3, hk3⟩
        have H4 : Hid (nextV l k3 3 = d4 ∧ nextK l k3 = k4) := Lib.hid ⟨hd4, hk4⟩
        clear hd1 hk1 hd2 hk2 hd3 hk3 hd4 hk4
        have hd1 : d1 < ns.length := by omega
        have hd3 : d3 < ns.length := by omega
        obtain ⟨ad, x1, e1, -, hx1, -⟩ := hG.n.qs.elem hd1
        subst e1
        obtain ⟨ad', x2, -, -, hx2, -⟩ := hG.n.qs.elem hd3
        have HX1 := Lib.hid hx1
        have HX2 := Lib.hid hx2
        clear hx1 hx2 ad'
        have hns8 : ns.length ≤ 9223372036854775807 := by omega
        have x4 := hG.b4.cell
        go_upto_region 23 with fail
        clear x4
        generalize wr = W1 at *
        have hsz := hG.gdlt
        skip
        obtain ⟨S, HI, HO⟩ : ∃ S : Ran → (Nat → Value) → World → Prop, Hid (∀ L vs w', (W1.grownBy w' (some gd) ∧ KnS [some (.pointer (some ⟨w.heap.size + 1, 0, none⟩)), some (.slice (some ad) ns.length c1), some (.pointer (some ⟨gd, 0, none⟩)), some (.pointer (some ⟨w.heap.size + 1, 0, none⟩)), some (.slice (some ad) ns.length c1), some (.int .i64 (ns.length : Int)), some (.int .i64 (d1 : Int)), some (.pointer (some (ad.add (d1 * 4)))), some (.pointer (some (ad.add (d1 * 4)))), some (.int .i64 x1.a), some (.pointer (some ⟨gd, 0, none⟩)), some (.int .i64 (d2 : Int)), some (.pointer (some ⟨w.heap.size + 1, 0, none⟩)), some (.slice (some ad) ns.length c1), some (.pointer (some ⟨gd, 0, none⟩)), some (.pointer (some ⟨w.heap.size + 1, 0, none⟩)), some (.slice (some ad) ns.length c1), some (.int .i64 (ns.length : Int)), some (.int .i64 (d3 : Int)), some (.pointer (some (ad.add (d3 * 4)))), some (.pointer (some (ad.add (d3 * 4)))), some (.int .i64 x2.a), some (.pointer (some ⟨gd, 0, none⟩)), some (.int .i64 (d4 : Int)), some (.agg #[.int .i64 x1.a, .int .i64 (d2 : Int), .int .i64 x2.a, .int .i64 (d4 : Int)]), none, none] L vs ∧ Deck w' gd A c l (dkK k k1 k2 k3 k4 (L 6) (L 11) (L 18) (L 23)) ∧ (L 11 = true → L 6 = true) ∧ (L 18 = true → L 11 = true) ∧ (L 23 = true → L 18 = true) ∧ (L 26 = true → L 25 = true) ∧ (L 25 = true → ∃ G, vs 25 = .pointer (some ⟨G, 0, none⟩) ∧ W1.heap.size ≤ G ∧ Blk w' G 52 (if L 26 = true then #[.int .i64 x1.a, .int .i64 (d2 : Int), .int .i64 x2.a, .int .i64 (d4 : Int)] else #[.int .i64 0, .int .i64 0, .int .i64 0, .int .i64 0]))) → S L vs w') ∧ Hid (∀ L vs w', S L vs w' → (W1.grownBy w' (some gd) ∧ KnS [some (.pointer (some ⟨w.heap.size + 1, 0, none⟩)), some (.slice (some ad) ns.length c1), some (.pointer (some ⟨gd, 0, none⟩)), some (.pointer (some ⟨w.heap.size + 1, 0, none⟩)), some (.slice (some ad) ns.length c1), some (.int .i64 (ns.length : Int)), some (.int .i64 (d1 : Int)), some (.pointer (some (ad.add (d1 * 4)))), some (.pointer (some (ad.add (d1 * 4)))), some (.int .i64 x1.a), some (.pointer (some ⟨gd, 0, none⟩)), some (.int .i64 (d2 : Int)), some (.pointer (some ⟨w.heap.size + 1, 0, none⟩)), some (.slice (some ad) ns.length c1), some (.pointer (some ⟨gd, 0, none⟩)), some (.pointer (some ⟨w.heap.size + 1, 0, none⟩)), some (.slice (some ad) ns.length c1), some (.int .i64 (ns.length : Int)), some (.int .i64 (d3 : Int)), some (.pointer (some (ad.add (d3 * 4)))), some (.pointer (some (ad.add (d3 * 4)))), some (.int .i64 x2.a), some (.pointer (some ⟨gd, 0, none⟩)), some (.int .i64 (d4 : Int)), some (.agg #[.int .i64 x1.a, .int .i64 (d2 : Int), .int .i64 x2.a, .int .i64 (d4 : Int)]), none, none] L vs ∧ Deck w' gd A c l (dkK k k1 k2 k3 k4 (L 6) (L 11) (L 18) (L 23)) ∧ (L 11 = true → L 6 = true) ∧ (L 18 = true → L 11 = true) ∧ (L 23 = true → L 18 = true) ∧ (L 26 = true → L 25 = true) ∧ (L 25 = true → ∃ G, vs 25 = .pointer (some ⟨G, 0, none⟩) ∧ W1.heap.size ≤ G ∧ Blk w' G 52 (if L 26 = true then #[.int .i64 x1.a, .int .i64 (d2 : Int), .int .i64 x2.a, .int .i64 (d4 : Int)] else #[.int .i64 0, .int .i64 0, .int .i64 0, .int .i64 0])))) := ⟨fun L vs w' => W1.grownBy w' (some gd) ∧ KnS [some (.pointer (some ⟨w.heap.size + 1, 0, none⟩)), some (.slice (some ad) ns.length c1), some (.pointer (some ⟨gd, 0, none⟩)), some (.pointer (some ⟨w.heap.size + 1, 0, none⟩)), some (.slice (some ad) ns.length c1), some (.int .i64 (ns.length : Int)), some (.int .i64 (d1 : Int)), some (.pointer (some (ad.add (d1 * 4)))), some (.pointer (some (ad.add (d1 * 4)))), some (.int .i64 x1.a), some (.pointer (some ⟨gd, 0, none⟩)), some (.int .i64 (d2 : Int)), some (.pointer (some ⟨w.heap.size + 1, 0, none⟩)), some (.slice (some ad) ns.length c1), some (.pointer (some ⟨gd, 0, none⟩)), some (.pointer (some ⟨w.heap.size + 1, 0, none⟩)), some (.slice (some ad) ns.length c1), some (.int .i64 (ns.length : Int)), some (.int .i64 (d3 : Int)), some (.pointer (some (ad.add (d3 * 4)))), some (.pointer (some (ad.add (d3 * 4)))), some (.int .i64 x2.a), some (.pointer (some ⟨gd, 0, none⟩)), some (.int .i64 (d4 : Int)), some (.agg #[.int .i64 x1.a, .int .i64 (d2 : Int), .int .i64 x2.a, .int .i64 (d4 : Int)]), none, none] L vs ∧ Deck w' gd A c l (dkK k k1 k2 k3 k4 (L 6) (L 11) (L 18) (L 23)) ∧ (L 11 = true → L 6 = true) ∧ (L 18 = true → L 11 = true) ∧ (L 23 = true → L 18 = true) ∧ (L 26 = true → L 25 = true) ∧ (L 25 = true → ∃ G, vs 25 = .pointer (some ⟨G, 0, none⟩) ∧ W1.heap.size ≤ G ∧ Blk w' G 52 (if L 26 = true then #[.int .i64 x1.a, .int .i64 (d2 : Int), .int .i64 x2.a, .int .i64 (d4 : Int)] else #[.int .i64 0, .int .i64 0, .int .i64 0, .int .i64 0])), fun _ _ _ h => h, fun _ _ _ h => h⟩
        refine wp_region_genW S 121 (by kernel_rfl) (by kernel_rfl) rfl ?_ ?_
        · exact HI.out _ _ _ ⟨only_grows (World.grownBy.refl _ _) (Grows.drew' _), kn_none _ _, hD.grows (Grows.drew' _), (fun h => by cases h), (fun h => by cases h), (fun h => by cases h), (fun h => by cases h), (fun h => by cases h)⟩
        refine gen_cons (A' := ?_) (fun vs L w1 hL hw1 => ?_) ?_ ?_
        rotate_left 1
        · obtain ⟨q0, q1, qD, c1_, c2_, c3_, c4_, aP⟩ := HO.out _ _ _ hw1
          refine gen_plain rfl ?_
          go_simp
          exact gr_val (HI.out _ _ _ ⟨q0, kn_known q1 rfl, qD, c1_, c2_, c3_, c4_, aP⟩)
        · intro vs
          simp only [Act.put, List.setIfInBounds_toArray, List.set_cons_succ, List.set_cons_zero]
          rfl
        refine gen_cons (A' := ?_) (fun vs L w1 hL hw1 => ?_) ?_ ?_
        rotate_left 1
        · obtain ⟨q0, q1, qD, c1_, c2_, c3_, c4_, aP⟩ := HO.out _ _ _ hw1
          have l0 : L 0 = true := hL.need 0 (by kernel_rfl)
          have e0 := q1 0 _ rfl l0
          have x := (hG.next q0).b4.cell 0
          refine gen_plain rfl ?_
          simp only [e0]
          go_simp
          exact gr_val (HI.out _ _ _ ⟨q0, kn_known q1 rfl, qD, c1_, c2_, c3_, c4_, aP⟩)
        · intro vs
          simp only [Act.put, List.setIfInBounds_toArray, List.set_cons_succ, List.set_cons_zero]
          rfl
        refine gen_cons (A' := ?_) (fun vs L w1 hL hw1 => ?_) ?_ ?_
        rotate_left 1
        · obtain ⟨q0, q1, qD, c1_, c2_, c3_, c4_, aP⟩ := HO.out _ _ _ hw1
          refine gen_plain rfl ?_
          go_simp
          exact gr_val (HI.out _ _ _ ⟨q0, kn_known q1 rfl, qD, c1_, c2_, c3_, c4_, aP⟩)
        · intro vs
          simp only [Act.put, List.setIfInBounds_toArray, List.set_cons_succ, List.set_cons_zero]
          rfl
        refine gen_cons (A' := ?_) (fun vs L w1 hL hw1 => ?_) ?_ ?_
        rotate_left 1
        · obtain ⟨q0, q1, qD, c1_, c2_, c3_, c4_, aP⟩ := HO.out _ _ _ hw1
          refine gen_plain rfl ?_
          go_simp
          exact gr_val (HI.out _ _ _ ⟨q0, kn_known q1 rfl, qD, c1_, c2_, c3_, c4_, aP⟩)
        · intro vs
          simp only [Act.put, List.setIfInBounds_toArray, List.set_cons_succ, List.set_cons_zero]
          rfl
        refine gen_cons (A' := ?_) (fun vs L w1 hL hw1 => ?_) ?_ ?_
        rotate_left 1
        · obtain ⟨q0, q1, qD, c1_, c2_, c3_, c4_, aP⟩ := HO.out _ _ _ hw1
          have l3 : L 3 = true := hL.need 3 (by kernel_rfl)
          have e3 := q1 3 _ rfl l3
          have x := (hG.next q0).b4.cell 0
          refine gen_plain rfl ?_
          simp only [e3]
          go_simp
          exact gr_val (HI.out _ _ _ ⟨q0, kn_known q1 rfl, qD, c1_, c2_, c3_, c4_, aP⟩)
        · intro vs
          simp only [Act.put, List.setIfInBounds_toArray, List.set_cons_succ, List.set_cons_zero]
          rfl
        refine gen_cons (A' := ?_) (fun vs L w1 hL hw1 => ?_) ?_ ?_
        rotate_left 1
        · obtain ⟨q0, q1, qD, c1_, c2_, c3_, c4_, aP⟩ := HO.out _ _ _ hw1
          have l4 : L 4 = true := hL.need 4 (by kernel_rfl)
          have e4 := q1 4 _ rfl l4
          refine gen_plain rfl ?_
          simp only [e4]
          go_simp
          exact gr_val (HI.out _ _ _ ⟨q0, kn_known q1 rfl, qD, c1_, c2_, c3_, c4_, aP⟩)
        · intro vs
          simp only [Act.put, List.setIfInBounds_toArray, List.set_cons_succ, List.set_cons_zero]
          rfl
        refine gen_cons (A' := ?_) (fun vs L w1 hL hw1 => ?_) ?_ ?_
        rotate_left 1
        · obtain ⟨q0, q1, qD, c1_, c2_, c3_, c4_, aP⟩ := HO.out _ _ _ hw1
          have n6 : L 6 = false := hL.1
          have n11 : L 11 = false := by
            cases h : L 11
            · rfl
            · rw [c1_ h] at n6; cases n6
          have n18 : L 18 = false := by
            cases h : L 18
            · rfl
            · rw [c2_ h] at n11; cases n11
          have n23 : L 23 = false := by
            cases h : L 23
            · rfl
            · rw [c3_ h] at n18; cases n18
          have l2 : L 2 = true := hL.need 2 (by kernel_rfl)
          have e2 := q1 2 _ rfl l2
          have l5 : L 5 = true := hL.need 5 (by kernel_rfl)
          have e5 := q1 5 _ rfl l5
          rw [n6, n11, n18, n23] at qD
          change Deck w1 gd A c l k at qD
          refine gen_plain rfl ?_
          simp only [e2, e5]
          go_simp
          refine gr_call ?_
          refine (next_is gd A c l k k1 (ns.length : Int) (d1 : Int) w1 qD (by omega) (by omega) H1.out.1 H1.out.2).mono ?_
          rintro e w2 ⟨rfl, hD2, hq⟩
          exact ⟨_, rfl, HI.out _ _ _ ⟨grown_trans q0 hq, kn_known q1 rfl, (by show Deck w2 gd A c l (dkK k k1 k2 k3 k4 true (L 11) (L 18) (L 23)); rw [n11, n18, n23]; exact hD2), (fun _ => rfl), c2_, c3_, c4_, (fun h => by obtain ⟨G, e, hG9, b⟩ := aP h; exact ⟨G, e, hG9, b.grown hq (fun e9 => by injection e9; omega)⟩)⟩⟩
        · intro vs
          simp only [Act.put, List.setIfInBounds_toArray, List.set_cons_succ, List.set_cons_zero]
          rfl
        refine gen_cons (A' := ?_) (fun vs L w1 hL hw1 => ?_) ?_ ?_
        rotate_left 1
        · obtain ⟨q0, q1, qD, c1_, c2_, c3_, c4_, aP⟩ := HO.out _ _ _ hw1
          have l1 : L 1 = true := hL.need 1 (by kernel_rfl)
          have e1 := q1 1 _ rfl l1
          have l6 : L 6 = true := hL.need 6 (by kernel_rfl)
          have e6 := q1 6 _ rfl l6
          refine gen_plain rfl ?_
          simp only [e1, e6]
          go_simp
          exact gr_val (HI.out _ _ _ ⟨q0, kn_known q1 rfl, qD, c1_, c2_, c3_, c4_, aP⟩)
        · intro vs
          simp only [Act.put, List.setIfInBounds_toArray, List.set_cons_succ, List.set_cons_zero]
          rfl
        refine gen_cons (A' := ?_) (fun vs L w1 hL hw1 => ?_) ?_ ?_
        rotate_left 1
        · obtain ⟨q0, q1, qD, c1_, c2_, c3_, c4_, aP⟩ := HO.out _ _ _ hw1
          have l7 : L 7 = true := hL.need 7 (by kernel_rfl)
          have e7 := q1 7 _ rfl l7
          refine gen_plain rfl ?_
          simp only [e7]
          go_simp
          exact gr_val (HI.out _ _ _ ⟨q0, kn_known q1 rfl, qD, c1_, c2_, c3_, c4_, aP⟩)
        · intro vs
          simp only [Act.put, List.setIfInBounds_toArray, List.set_cons_succ, List.set_cons_zero]
          rfl
        refine gen_cons (A' := ?_) (fun vs L w1 hL hw1 => ?_) ?_ ?_
        rotate_left 1
        · obtain ⟨q0, q1, qD, c1_, c2_, c3_, c4_, aP⟩ := HO.out _ _ _ hw1
          have l8 : L 8 = true := hL.need 8 (by kernel_rfl)
          have e8 := q1 8 _ rfl l8
          obtain ⟨ad9, y9, e9, -, hy9, z0, z1, z2, z3⟩ := (hG.next q0).n.qs.elem (k := d1) hd1
          injection e9 with e9
          subst e9
          rw [HX1.out] at hy9
          injection hy9 with hy9
          subst hy9
          refine gen_plain rfl ?_
          simp only [e8]
          go_simp
          exact gr_val (HI.out _ _ _ ⟨q0, kn_known q1 rfl, qD, c1_, c2_, c3_, c4_, aP⟩)
        · intro vs
          simp only [Act.put, List.setIfInBounds_toArray, List.set_cons_succ, List.set_cons_zero]
          rfl
        refine gen_cons (A' := ?_) (fun vs L w1 hL hw1 => ?_) ?_ ?_
        rotate_left 1
        · obtain ⟨q0, q1, qD, c1_, c2_, c3_, c4_, aP⟩ := HO.out _ _ _ hw1
          refine gen_plain rfl ?_
          go_simp
          exact gr_val (HI.out _ _ _ ⟨q0, kn_known q1 rfl, qD, c1_, c2_, c3_, c4_, aP⟩)
        · intro vs
          simp only [Act.put, List.setIfInBounds_toArray, List.set_cons_succ, List.set_cons_zero]
          rfl
        refine gen_cons (A' := ?_) (fun vs L w1 hL hw1 => ?_) ?_ ?_
        rotate_left 1
        · obtain ⟨q0, q1, qD, c1_, c2_, c3_, c4_, aP⟩ := HO.out _ _ _ hw1
          have l6 : L 6 = true := hL.need 6 (by kernel_rfl)
          have n11 : L 11 = false := hL.1
          have n18 : L 18 = false := by
            cases h : L 18
            · rfl
            · rw [c2_ h] at n11; cases n11
          have n23 : L 23 = false := by
            cases h : L 23
            · rfl
            · rw [c3_ h] at n18; cases n18
          have l10 : L 10 = true := hL.need 10 (by kernel_rfl)
          have e10 := q1 10 _ rfl l10
          rw [l6, n11, n18, n23] at qD
          change Deck w1 gd A c l k1 at qD
          refine gen_plain rfl ?_
          simp only [e10]
          go_simp
          refine gr_call ?_
          refine (next_is gd A c l k1 k2 3 (d2 : Int) w1 qD (by omega) (by omega) H2.out.1 H2.out.2).mono ?_
          rintro e w2 ⟨rfl, hD2, hq⟩
          exact ⟨_, rfl, HI.out _ _ _ ⟨grown_trans q0 hq, kn_known q1 rfl, (by show Deck w2 gd A c l (dkK k k1 k2 k3 k4 (L 6) true (L 18) (L 23)); rw [l6, n18, n23]; exact hD2), (fun _ => l6), (fun _ => rfl), c3_, c4_, (fun h => by obtain ⟨G, e, hG9, b⟩ := aP h; exact ⟨G, e, hG9, b.grown hq (fun e9 => by injection e9; omega)⟩)⟩⟩
        · intro vs
          simp only [Act.put, List.setIfInBounds_toArray, List.set_cons_succ, List.set_cons_zero]
          rfl
        refine gen_cons (A' := ?_) (fun vs L w1 hL hw1 => ?_) ?_ ?_
        rotate_left 1
        · obtain ⟨q0, q1, qD, c1_, c2_, c3_, c4_, aP⟩ := HO.out _ _ _ hw1
          refine gen_plain rfl ?_
          go_simp
          exact gr_val (HI.out _ _ _ ⟨q0, kn_known q1 rfl, qD, c1_, c2_, c3_, c4_, aP⟩)
        · intro vs
          simp only [Act.put, List.setIfInBounds_toArray, List.set_cons_succ, List.set_cons_zero]
          rfl
        refine gen_cons (A' := ?_) (fun vs L w1 hL hw1 => ?_) ?_ ?_
        rotate_left 1
        · obtain ⟨q0, q1, qD, c1_, c2_, c3_, c4_, aP⟩ := HO.out _ _ _ hw1
          have l12 : L 12 = true := hL.need 12 (by kernel_rfl)
          have e12 := q1 12 _ rfl l12
          have x := (hG.next q0).b4.cell 0
          refine gen_plain rfl ?_
          simp only [e12]
          go_simp
          exact gr_val (HI.out _ _ _ ⟨q0, kn_known q1 rfl, qD, c1_, c2_, c3_, c4_, aP⟩)
        · intro vs
          simp only [Act.put, List.setIfInBounds_toArray, List.set_cons_succ, List.set_cons_zero]
          rfl
        refine gen_cons (A' := ?_) (fun vs L w1 hL hw1 => ?_) ?_ ?_
        rotate_left 1
        · obtain ⟨q0, q1, qD, c1_, c2_, c3_, c4_, aP⟩ := HO.out _ _ _ hw1
          refine gen_plain rfl ?_
          go_simp
          exact gr_val (HI.out _ _ _ ⟨q0, kn_known q1 rfl, qD, c1_, c2_, c3_, c4_, aP⟩)
        · intro vs
          simp only [Act.put, List.setIfInBounds_toArray, List.set_cons_succ, List.set_cons_zero]
          rfl
        refine gen_cons (A' := ?_) (fun vs L w1 hL hw1 => ?_) ?_ ?_
        rotate_left 1
        · obtain ⟨q0, q1, qD, c1_, c2_, c3_, c4_, aP⟩ := HO.out _ _ _ hw1
          refine gen_plain rfl ?_
          go_simp
          exact gr_val (HI.out _ _ _ ⟨q0, kn_known q1 rfl, qD, c1_, c2_, c3_, c4_, aP⟩)
        · intro vs
          simp only [Act.put, List.setIfInBounds_toArray, List.set_cons_succ, List.set_cons_zero]
          rfl
        refine gen_cons (A' := ?_) (fun vs L w1 hL hw1 => ?_) ?_ ?_
        rotate_left 1
        · obtain ⟨q0, q1, qD, c1_, c2_, c3_, c4_, aP⟩ := HO.out _ _ _ hw1
          have l15 : L 15 = true := hL.need 15 (by kernel_rfl)
          have e15 := q1 15 _ rfl l15
          have x := (hG.next q0).b4.cell 0
          refine gen_plain rfl ?_
          simp only [e15]
          go_simp
          exact gr_val (HI.out _ _ _ ⟨q0, kn_known q1 rfl, qD, c1_, c2_, c3_, c4_, aP⟩)
        · intro vs
          simp only [Act.put, List.setIfInBounds_toArray, List.set_cons_succ, List.set_cons_zero]
          rfl
        refine gen_cons (A' := ?_) (fun vs L w1 hL hw1 => ?_) ?_ ?_
        rotate_left 1
        · obtain ⟨q0, q1, qD, c1_, c2_, c3_, c4_, aP⟩ := HO.out _ _ _ hw1
          have l16 : L 16 = true := hL.need 16 (by kernel_rfl)
          have e16 := q1 16 _ rfl l16
          refine gen_plain rfl ?_
          simp only [e16]
          go_simp
          exact gr_val (HI.out _ _ _ ⟨q0, kn_known q1 rfl, qD, c1_, c2_, c3_, c4_, aP⟩)
        · intro vs
          simp only [Act.put, List.setIfInBounds_toArray, List.set_cons_succ, List.set_cons_zero]
          rfl
        refine gen_cons (A' := ?_) (fun vs L w1 hL hw1 => ?_) ?_ ?_
        rotate_left 1
        · obtain ⟨q0, q1, qD, c1_, c2_, c3_, c4_, aP⟩ := HO.out _ _ _ hw1
          have l11 : L 11 = true := hL.need 11 (by kernel_rfl)
          have l6 : L 6 = true := c1_ l11
          have n18 : L 18 = false := hL.1
          have n23 : L 23 = false := by
            cases h : L 23
            · rfl
            · rw [c3_ h] at n18; cases n18
          have l14 : L 14 = true := hL.need 14 (by kernel_rfl)
          have e14 := q1 14 _ rfl l14
          have l17 : L 17 = true := hL.need 17 (by kernel_rfl)
          have e17 := q1 17 _ rfl l17
          rw [l6, l11, n18, n23] at qD
          change Deck w1 gd A c l k2 at qD
          refine gen_plain rfl ?_
          simp only [e14, e17]
          go_simp
          refine gr_call ?_
          refine (next_is gd A c l k2 k3 (ns.length : Int) (d3 : Int) w1 qD (by omega) (by omega) H3.out.1 H3.out.2).mono ?_
          rintro e w2 ⟨rfl, hD2, hq⟩
          exact ⟨_, rfl, HI.out _ _ _ ⟨grown_trans q0 hq, kn_known q1 rfl, (by show Deck w2 gd A c l (dkK k k1 k2 k3 k4 (L 6) (L 11) true (L 23)); rw [l6, l11, n23]; exact hD2), c1_, (fun _ => l11), (fun _ => rfl), c4_, (fun h => by obtain ⟨G, e, hG9, b⟩ := aP h; exact ⟨G, e, hG9, b.grown hq (fun e9 => by injection e9; omega)⟩)⟩⟩
        · intro vs
          simp only [Act.put, List.setIfInBounds_toArray, List.set_cons_succ, List.set_cons_zero]
          rfl
        refine gen_cons (A' := ?_) (fun vs L w1 hL hw1 => ?_) ?_ ?_
        rotate_left 1
        · obtain ⟨q0, q1, qD, c1_, c2_, c3_, c4_, aP⟩ := HO.out _ _ _ hw1
          have l13 : L 13 = true := hL.need 13 (by kernel_rfl)
          have e13 := q1 13 _ rfl l13
          have l18 : L 18 = true := hL.need 18 (by kernel_rfl)
          have e18 := q1 18 _ rfl l18
          refine gen_plain rfl ?_
          simp only [e13, e18]
          go_simp
          exact gr_val (HI.out _ _ _ ⟨q0, kn_known q1 rfl, qD, c1_, c2_, c3_, c4_, aP⟩)
        · intro vs
          simp only [Act.put, List.setIfInBounds_toArray, List.set_cons_succ, List.set_cons_zero]
          rfl
        refine gen_cons (A' := ?_) (fun vs L w1 hL hw1 => ?_) ?_ ?_
        rotate_left 1
        · obtain ⟨q0, q1, qD, c1_, c2_, c3_, c4_, aP⟩ := HO.out _ _ _ hw1
          have l19 : L 19 = true := hL.need 19 (by kernel_rfl)
          have e19 := q1 19 _ rfl l19
          refine gen_plain rfl ?_
          simp only [e19]
          go_simp
          exact gr_val (HI.out _ _ _ ⟨q0, kn_known q1 rfl, qD, c1_, c2_, c3_, c4_, aP⟩)
        · intro vs
          simp only [Act.put, List.setIfInBounds_toArray, List.set_cons_succ, List.set_cons_zero]
          rfl
        refine gen_cons (A' := ?_) (fun vs L w1 hL hw1 => ?_) ?_ ?_
        rotate_left 1
        · obtain ⟨q0, q1, qD, c1_, c2_, c3_, c4_, aP⟩ := HO.out _ _ _ hw1
          have l20 : L 20 = true := hL.need 20 (by kernel_rfl)
          have e20 := q1 20 _ rfl l20
          obtain ⟨ad9, y9, e9, -, hy9, z0, z1, z2, z3⟩ := (hG.next q0).n.qs.elem (k := d3) hd3
          injection e9 with e9
          subst e9
          rw [HX2.out] at hy9
          injection hy9 with hy9
          subst hy9
          refine gen_plain rfl ?_
          simp only [e20]
          go_simp
          exact gr_val (HI.out _ _ _ ⟨q0, kn_known q1 rfl, qD, c1_, c2_, c3_, c4_, aP⟩)
        · intro vs
          simp only [Act.put, List.setIfInBounds_toArray, List.set_cons_succ, List.set_cons_zero]
          rfl
        refine gen_cons (A' := ?_) (fun vs L w1 hL hw1 => ?_) ?_ ?_
        rotate_left 1
        · obtain ⟨q0, q1, qD, c1_, c2_, c3_, c4_, aP⟩ := HO.out _ _ _ hw1
          refine gen_plain rfl ?_
          go_simp
          exact gr_val (HI.out _ _ _ ⟨q0, kn_known q1 rfl, qD, c1_, c2_, c3_, c4_, aP⟩)
        · intro vs
          simp only [Act.put, List.setIfInBounds_toArray, List.set_cons_succ, List.set_cons_zero]
          rfl
        refine gen_cons (A' := ?_) (fun vs L w1 hL hw1 => ?_) ?_ ?_
        rotate_left 1
        · obtain ⟨q0, q1, qD, c1_, c2_, c3_, c4_, aP⟩ := HO.out _ _ _ hw1
          have l18 : L 18 = true := hL.need 18 (by kernel_rfl)
          have l11 : L 11 = true := c2_ l18
          have l6 : L 6 = true := c1_ l11
          have n23 : L 23 = false := hL.1
          have l22 : L 22 = true := hL.need 22 (by kernel_rfl)
          have e22 := q1 22 _ rfl l22
          rw [l6, l11, l18, n23] at qD
          change Deck w1 gd A c l k3 at qD
          refine gen_plain rfl ?_
          simp only [e22]
          go_simp
          refine gr_call ?_
          refine (next_is gd A c l k3 k4 3 (d4 : Int) w1 qD (by omega) (by omega) H4.out.1 H4.out.2).mono ?_
          rintro e w2 ⟨rfl, hD2, hq⟩
          exact ⟨_, rfl, HI.out _ _ _ ⟨grown_trans q0 hq, kn_known q1 rfl, (by show Deck w2 gd A c l (dkK k k1 k2 k3 k4 (L 6) (L 11) (L 18) true); rw [l6, l11, l18]; exact hD2), c1_, c2_, (fun _ => l18), c4_, (fun h => by obtain ⟨G, e, hG9, b⟩ := aP h; exact ⟨G, e, hG9, b.grown hq (fun e9 => by injection e9; omega)⟩)⟩⟩
        · intro vs
          simp only [Act.put, List.setIfInBounds_toArray, List.set_cons_succ, List.set_cons_zero]
          rfl
        refine gen_cons (A' := ?_) (fun vs L w1 hL hw1 => ?_) ?_ ?_
        rotate_left 1
        · obtain ⟨q0, q1, qD, c1_, c2_, c3_, c4_, aP⟩ := HO.out _ _ _ hw1
          have l9 : L 9 = true := hL.need 9 (by kernel_rfl)
          have e9 := q1 9 _ rfl l9
          have l11 : L 11 = true := hL.need 11 (by kernel_rfl)
          have e11 := q1 11 _ rfl l11
          have l21 : L 21 = true := hL.need 21 (by kernel_rfl)
          have e21 := q1 21 _ rfl l21
          have l23 : L 23 = true := hL.need 23 (by kernel_rfl)
          have e23 := q1 23 _ rfl l23
          refine gen_plain rfl ?_
          simp only [e9, e11, e21, e23]
          go_simp
          exact gr_val (HI.out _ _ _ ⟨q0, kn_known q1 rfl, qD, c1_, c2_, c3_, c4_, aP⟩)
        · intro vs
          simp only [Act.put, List.setIfInBounds_toArray, List.set_cons_succ, List.set_cons_zero]
          rfl
        refine gen_cons (A' := ?_) (fun vs L w1 hL hw1 => ?_) ?_ ?_
        rotate_left 1
        · obtain ⟨q0, q1, qD, c1_, c2_, c3_, c4_, aP⟩ := HO.out _ _ _ hw1
          have n25 : L 25 = false := hL.1
          have n26 : L 26 = false := by
            cases h : L 26
            · rfl
            · rw [c4_ h] at n25; cases n25
          refine gen_plain rfl ?_
          go_simp
          have hg := (Below.refl w1.heap.size w1).alloc (Nat.le_refl _) (Obj.cells #[.int .i64 0, .int .i64 0, .int .i64 0, .int .i64 0] 52)
          exact gr_val (HI.out _ _ _ ⟨only_grows q0 hg, kn_free q1 rfl, qD.grows hg, c1_, c2_, c3_, (fun _ => rfl), (fun _ => ⟨w1.heap.size, rfl, q0.size, (by show Blk _ _ 52 (if L 26 = true then #[.int .i64 x1.a, .int .i64 (d2 : Int), .int .i64 x2.a, .int .i64 (d4 : Int)] else #[.int .i64 0, .int .i64 0, .int .i64 0, .int .i64 0]); rw [n26]; exact Blk.new _ _ _)⟩)⟩)
        · intro vs
          simp only [Act.put, List.setIfInBounds_toArray, List.set_cons_succ, List.set_cons_zero]
          rfl
        refine gen_cons (A' := ?_) (fun vs L w1 hL hw1 => ?_) ?_ ?_
        rotate_left 1
        · obtain ⟨q0, q1, qD, c1_, c2_, c3_, c4_, aP⟩ := HO.out _ _ _ hw1
          have n26 : L 26 = false := hL.1
          have l25 : L 25 = true := hL.need 25 (by kernel_rfl)
          obtain ⟨G, e25, hG9, b⟩ := aP l25
          have l24 : L 24 = true := hL.need 24 (by kernel_rfl)
          have e24 := q1 24 _ rfl l24
          simp only [n26, Bool.false_eq_true, if_false] at b
          have xb := b.cell
          have fb := b.frozen
          have hlt9 : gd < G := by omega
          refine gen_plain rfl ?_
          simp only [e24, e25]
          go_simp
          refine gr_skip (HI.out _ _ _ ⟨grown_set (grown_set (grown_set (grown_set q0 (by simpa using hG9) _) (by simpa using hG9) _) (by simpa using hG9) _) (by simpa using hG9) _, kn_free q1 rfl, (((qD.far hlt9 _).far hlt9 _).far hlt9 _).far hlt9 _, c1_, c2_, c3_, (fun _ => l25), (fun _ => ⟨G, e25, hG9, ?_⟩)⟩)
          show Blk _ G 52 (if true = true then #[.int .i64 x1.a, .int .i64 (d2 : Int), .int .i64 x2.a, .int .i64 (d4 : Int)] else #[.int .i64 0, .int .i64 0, .int .i64 0, .int .i64 0])
          have := (((b.set_ 0 (.int .i64 x1.a)).set_ 1 (.int .i64 (d2 : Int))).set_ 2 (.int .i64 x2.a)).set_ 3 (.int .i64 (d4 : Int))
          simpa using this
        · intro vs
          simp only [Act.put, List.setIfInBounds_toArray, List.set_cons_succ, List.set_cons_zero]
          rfl
        refine gen_nil ?_
        intro vs L W6 hall hS
        obtain ⟨hq, -, hD2, -, -, -, -, aP⟩ := HO.out _ _ _ hS
        obtain ⟨G11, e25, hG11, k11⟩ := aP (hall 25 (by simp))
        rw [hall 6 (by simp), hall 11 (by simp), hall 18 (by simp), hall 23 (by simp)] at hD2
        change Deck W6 gd A c l k4 at hD2
        rw [hall 26 (by simp), if_pos rfl] at k11
        clear hall hS HI HO aP
        simp only [e25]
        replace hG := hG.next hq
        clear hq hD
        have hD := hD2
        clear hD2
        generalize W6 = w5 at *
        simp only [Nat.zero_add, Nat.reduceAdd]
        replace k11 : Blk w5 G11 52 (Q4.cs ⟨x1.a, (d2 : Int), x2.a, (d4 : Int)⟩) := k11
        generalize (⟨x1.a, (d2 : Int), x2.a, (d4 : Int)⟩ : Q4) = nd at *
        replace k11 : Blk w5 G11 52 #[.int .i64 nd.a, .int .i64 nd.b, .int .i64 nd.c, .int .i64 nd.d] := k11
        have x11 := k11.cell
        have x4 := hG.b4.cell
        have HM1 : Hid ((m : Int) - 1 = ((m - 1 : Nat) : Int)) := Lib.hid (by omega)
        have hmp : 0 < m := by omega
        go_wp2_with fail
        obtain ⟨hcc, hok⟩ := hG.gok
        refine (rconnect_any (c := c1) nd hok hG.v).mono ?_
        rintro e w6 ⟨⟨u1, u2, ns', ls', er, rfl, hn', hl', hP⟩, hq⟩
        clear x4 x11 k11 hok hcc
        replace hn' := hn'.mono hG.size
        replace hl' := hl'.mono hG.size
        replace hG := hG.grows hq
        replace hD := hD.grows hq
        obtain ⟨B1, m1, b1, e1⟩ := hn'.slc
        obtain ⟨B2, m2, b2, e2⟩ := hl'.slc
        subst e1
        subst e2
        clear hq
        have k8 := Blk.new w6 40 #[.slice B1 m1 b1, .slice B2 m2 b2]
        have hq := (Below.refl w6.heap.size w6).alloc (Nat.le_refl _) (Obj.cells #[.slice B1 m1 b1, .slice B2 m2 b2] 40)
        go_upto_region 25 with fail
        replace hn' := hn'.grows hq
        replace hl' := hl'.grows hq
        replace hG := hG.grows hq
        replace hD := hD.grows hq
        clear hq
        generalize World.alloc w6 _ = w7 at *
        generalize w6.heap.size = g8 at *
        by_cases her : er = 0
        · subst her
          obtain ⟨hP1, hP2, hP3⟩ := hP rfl
          have HP := Lib.hid (show ns'.length ≤ 8 from by rw [hP2]; exact hn8)
          clear hP hP2 hP3
          have x8 := k8.cell
          have x4 := hG.b4.cell
          have f4 := hG.b4.frozen
          go_upto_region 22 with fail
          have hG2 := hG.put hne24 hn' hl' hP1
          have hD2 := hD.put2 hgd4 (.slice B1 m1 b1) (.slice B2 m2 b2)
          clear x8 x4 f4 hG hD hn' hl' k8 hP1
          generalize World.setCell (World.setCell w7 _ _) _ _ = w8 at *
          go_wp2
          go_roundw
          case rel => exact ⟨m - 1, _, _, ns', ls', k4, by omega, congrArg (Value.int .i64) HM1.out, hG2, hD2, HP.out⟩
          case measure => simp [intOf]; omega
        · have her2 : (er == 0) = false := by simpa using her
          clear k8 hn' hl' hP
          go_upto_region 22 with fail
          go_wp2
          go_roundw
          case rel => exact ⟨m - 1, _, _, ns, ls, k4, by omega, congrArg (Value.int .i64) HM1.out, hG, hD, hn8⟩
          case measure => simp [intOf]; omega
end Go.Proofs.Ytmokpiacioeohaa
