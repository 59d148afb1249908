/-
  YtobhdldlhhigdaaScValid: shared parts, 4. Plain theorems.
-/
import Derived.Test.YtobhdldlhhigdaaScValidK3
import Derived.Laws.Bits64b
import Derived.Laws.CopyOwn
namespace Go.Proofs.Ytobhdldlhhigdaa
open Go.RowKit Go.Maps
set_option maxRecDepth 100000 in
theorem OwnN.qs {w : World} {base : Nat} {A : Option Addr} {n c : Nat} {l : List Q4} (h : OwnN w base (.slice A n c) l) : Qs w A l := by
 obtain ⟨A', c', e, _, hi⟩ := h.read
 injection e with e1 e2 e3
 rw [e1]
 exact hi
set_option maxRecDepth 100000 in
theorem OwnI.slc {w : World} {base : Nat} {v : Value} {l : List Int} (h : OwnI w base v l) : ∃ A n c, v = .slice A n c := by
 obtain ⟨A, c, e, _⟩ := h.read
 exact ⟨_, _, _, e⟩
set_option maxRecDepth 100000 in
theorem OwnI.put {w : World} {base g : Nat} {v : Value} {l : List Int} {t : TypeId} {cs : Array Value} (h : OwnI w base v l) (k : Blk w g t cs) (i : Nat) (u : Value) (hne : 3 ≠ t := by decide) : OwnI (w.setCell ⟨g, i, none⟩ u) base v l := by
 have hgr : w.grownBy (w.setCell ⟨g, i, none⟩ u) (some g) := ⟨rfl, rfl, rfl, by simp [World.setCell], fun j _ hn => Below.heap_setCell w ⟨g, i, none⟩ u j (fun e => hn (by rw [e]))⟩
 exact World.ownsRow.kept h hgr (.inr (own_blk_ne h k hne))
set_option maxRecDepth 100000 in
theorem own_own_ne {w : World} {b1 b2 : Nat} {e1 e2 : TypeId} {s1 s2 n1 n2 : Nat} {u v : Value} {xs ys : List Value} (h1 : w.ownsRow b1 e1 s1 u n1 xs) (h2 : w.ownsRow b2 e2 s2 v n2 ys) (hne : e1 ≠ e2) : u.ownBlock = none ∨ u.ownBlock ≠ v.ownBlock := by
 rcases h2.2 with ⟨rfl, _⟩ | ⟨g, cap, cur, rfl, _, hg, _⟩
 ·cases e : u.ownBlock with
  | none => exact .inl rfl
  | some q => exact .inr (by simp [Value.ownBlock])
 ·exact .inr (own_blk_ne (cs := cur) h1 hg hne)
/-- All that a graph under way rests on lies below G. -/
structure FR (gd g2 g4 : Nat) (v1 v2 : Value) (G : Nat) : Prop where
 n : ∀ k, v1.ownBlock = some k → k < G
 l : ∀ k, v2.ownBlock = some k → k < G
 b2 : g2 < G
 b4 : g4 < G
section
variable {w0 w w' : World} {gd g2 g4 : Nat} {v1 v2 : Value} {ns ls : List Q4}
set_option maxRecDepth 100000 in
theorem GS.fr (h : GS w0 w gd g2 g4 v1 v2 ns ls) : FR gd g2 g4 v1 v2 w.heap.size := ⟨fun k e => (h.n.lt k e).2, fun k e => (h.l.lt k e).2, h.b2.lt, h.b4.lt⟩
set_option maxRecDepth 100000 in
theorem GS.gdlt (h : GS w0 w gd g2 g4 v1 v2 ns ls) : gd < w.heap.size := Nat.lt_of_lt_of_le h.d h.size
set_option maxRecDepth 100000 in
theorem grown_cell (w : World) (p : Addr) (u : Value) : w.grownBy (w.setCell p u) (some p.block) := ⟨rfl, rfl, rfl, by simp [World.setCell], fun j _ hn => Below.heap_setCell w p u j (fun e => hn (by rw [e]))⟩
set_option maxRecDepth 100000 in
theorem GS.set (h : GS w0 w gd g2 g4 v1 v2 ns ls) {G : Nat} (fr : FR gd g2 g4 v1 v2 G) {p : Addr} (hp : G ≤ p.block) (u : Value) : GS w0 (w.setCell p u) gd g2 g4 v1 v2 ns ls := by
 have h2 := fr.b2
 have h4 := fr.b4
 have hg := grown_cell w p u
 exact ⟨grown_set h.rel (by have := h.g2d; omega) u, h.b2.far (by omega) u, h.b4.far (by omega) u,
  World.ownsRow.kept h.n hg (.inr (fun e => by have := fr.n _ e; omega)), World.ownsRow.kept h.l hg (.inr (fun e => by have := fr.l _ e; omega)), h.v, h.d, h.g2d, h.g4d⟩
set_option maxRecDepth 100000 in
theorem GS.gok {A1 A2 : Option Addr} {c1 c2 : Nat} (h : GS w0 w gd g2 g4 (.slice A1 ns.length c1) (.slice A2 ls.length c2) ns ls) : ns.length ≤ c1 ∧ GOK w A1 A2 c2 ns ls := by
 obtain ⟨A, c, A', c', e1, e2, hc, hok⟩ := gok_of h.n h.l h.v
 injection e1 with a1 _ a3
 injection e2 with b1 _ b3
 subst a1 a3 b1 b3
 exact ⟨hc, hok⟩
set_option maxRecDepth 100000 in
theorem GS.own (h : GS w0 w gd g2 g4 v1 v2 ns ls) {v : Value} {l : List Int} (ho : OwnI w w0.heap.size v l) (hg : w.grownBy w' v.ownBlock) : GS w0 w' gd g2 g4 v1 v2 ns ls := by
 refine ⟨⟨hg.os.trans h.rel.os, hg.tape.trans h.rel.tape, hg.output.trans h.rel.output, Nat.le_trans h.rel.size hg.size, fun j hj hn => ?_⟩, h.b2.grown hg (fun e => own_blk_ne ho h.b2 (by decide) e.symm), h.b4.grown hg (fun e => own_blk_ne ho h.b4 (by decide) e.symm),
  World.ownsRow.kept h.n hg (own_own_ne h.n ho (by decide)), World.ownsRow.kept h.l hg (own_own_ne h.l ho (by decide)), h.v, h.d, h.g2d, h.g4d⟩
 exact (hg.block j (Nat.lt_of_lt_of_le hj h.rel.size) (fun e => by have := (ho.lt j e.symm).1; omega)).trans (h.rel.block j hj hn)
set_option maxRecDepth 100000 in
theorem Deck.own {g : Nat} {A : Option Addr} {c : Nat} {l cs : List Int} {k : Nat} {v : Value} (h : Deck w g A c l k) (hg : w.grownBy w' v.ownBlock) (ho : OwnI w w0.heap.size v cs) (hd : g < w0.heap.size) : Deck w' g A c l k :=
 ⟨h.blk.grown hg (fun e => by have := (ho.lt g e.symm).1; omega), h.ints.grown hg (Nat.le_of_lt h.blk.lt) (fun q e => by have := (ho.lt q e).1; omega), h.le, h.len⟩
end
/-- What the maker hands back. -/
def MadeG (w w' : World) (gd : Nat) (A : Option Addr) (c : Nat) (l : List Int) (e : Ending) : Prop :=
 ∃ v1 v2 v3 ns ls cs k, e = .returned (.tuple #[.agg #[v1, v2], v3]) ∧ OwnN w' w.heap.size v1 ns ∧ OwnL w' w.heap.size v2 ls ∧ OwnI w' w.heap.size v3 cs ∧ validG ns ls = true ∧ cs.length = ns.length ∧ (∀ x ∈ cs, 0 ≤ x ∧ x < 12) ∧ ns.length ≤ 8 ∧ Deck w' gd A c l k
set_option maxRecDepth 100000 in
set_option maxHeartbeats 32000000 in
theorem graph_any (gd : Nat) (A : Option Addr) (c : Nat) (l : List Int) (k : Nat) (w : World) (hD : Deck w gd A c l k) :
 Calls Try.prog 9 #[.pointer (some ⟨gd, 0, none⟩)] w fun e w' => MadeG w w' gd A c l e ∧ w.grownBy w' (some gd) := by
 have hgd := hD.blk.lt
 have b2 := (Blk.new w 26 #[.slice none 0 0, .slice none 0 0]).alloc (Obj.cells #[.slice none 0 0, .slice none 0 0] 26)
 have b4 := blk_new_at (X := w.alloc (Obj.cells #[.slice none 0 0, .slice none 0 0] 26)) (n := w.heap.size + 1) (t := 26) (cs := #[.slice none 0 0, .slice none 0 0]) (by simp)
 have hrel := grown_alloc (grown_alloc (World.grownBy.refl w (some gd)) (Obj.cells #[.slice none 0 0, .slice none 0 0] 26)) (Obj.cells #[.slice none 0 0, .slice none 0 0] 26)
 replace hD := (hD.grows ((Below.refl _ _).alloc (Nat.le_refl _) (Obj.cells #[.slice none 0 0, .slice none 0 0] 26))).grows ((Below.refl _ _).alloc (Nat.le_refl _) (Obj.cells #[.slice none 0 0, .slice none 0 0] 26))
 have hG : GS w _ gd w.heap.size (w.heap.size + 1) _ _ [] [] := ⟨hrel, b2, b4, ownN_nil _ _, ownL_nil _ _, valid_nil, hgd, Nat.le_refl _, Nat.le_succ _⟩
 have hne24 : w.heap.size ≠ w.heap.size + 1 := by omega
 have hgd4 : gd < w.heap.size + 1 := by omega
 clear b2 b4 hrel
 go_enter Try.func9, Try.ntmps9
 go_upto_region 2 with fail
 generalize World.alloc (World.alloc w _) _ = w1 at *
 obtain ⟨N, k1, hN, hk1, hN9⟩ := next_ex l k (n := 9) (by omega)
 have HN := Lib.hid (show (0 : Int) + nextV l k (8 - 0 + 1) = (N : Int) by rw [show (8 - 0 + 1 : Int) = 9 by rfl, hN]; omega)
 have HK := Lib.hid hk1
 clear hN hk1
 go_wp2_with fail
 refine (range_is gd A c l k k1 0 8 _ _ hD (by omega) (by omega) (by omega) HN.out HK.out).mono ?_
 rintro e w2 ⟨rfl, hD2, hq⟩
 replace hG := hG.next hq
 clear hD hq
 go_wp2_with fail
 go_loopw [6] (fun s wr => ∃ (i : Nat) (v1 v2 : Value) (ns ls : List Q4) (k : Nat), i ≤ N ∧ s = .int .i64 i ∧ GS w wr gd w.heap.size (w.heap.size + 1) v1 v2 ns ls ∧ Deck wr gd A c l k ∧ ns.length ≤ i) (fun s _ => N - (intOf s).toNat)
 case atStart => exact ⟨0, _, _, [], [], k1, by omega, rfl, hG, hD2, Nat.le_refl _⟩
 case round =>
  clear hG hD2 HN HK
  obtain ⟨i, v1, v2, ns, ls, k, hi, rfl, hG, hD, hni⟩ := hrel
  obtain ⟨A1, c1, A2, c2, rfl, rfl, -, -⟩ := gok_of hG.n hG.l hG.v
  by_cases hlt : i < N
  ·obtain ⟨x, k1, hx, hk1, hx3⟩ := next_ex l k (n := 3) (by omega)
   obtain ⟨y, k2, hy, hk2, hy5⟩ := next_ex l k1 (n := 5) (by omega)
   have HX := Lib.hid hx
   have HK1 := Lib.hid hk1
   have HY : Hid (nextV l k1 5 = (y : Int) ∧ nextK l k1 = k2) := Lib.hid ⟨hy, hk2⟩
   clear hx hk1 hy hk2
   go_wp2_with fail
   refine (next_is gd A c l k k1 3 _ _ hD (by omega) (by omega) HX.out HK1.out).mono ?_
   rintro e w2 ⟨rfl, hD3, hq⟩
   replace hG := hG.next hq
   clear hD hq
   have hD := hD3
   clear hD3
   go_wp2_with fail
   have hyy : y = 0 ∨ y = 1 ∨ y = 2 ∨ y = 3 ∨ y = 4 := by omega
   rcases hyy with hyy | hyy | hyy | hyy | hyy
   ·have hr2 : 1 + nextV l k1 (5 - 1 + 1) = 1 := by
     have h0 := HY.out.1
     rw [show (5 - 1 + 1 : Int) = 5 by rfl, h0, hyy]
     rfl
    have HR2 := Lib.hid hr2
    clear hr2 hyy
    refine (range_is gd A c l k1 k2 1 5 1 _ hD (by omega) (by omega) (by omega) HR2.out HY.out.2).mono ?_
    rintro e w3 ⟨rfl, hD3, hq⟩
    replace hG := hG.next hq
    clear hD hq
    have hD := hD3
    clear hD3
    have HFR := Lib.hid hG.fr
    have hgd7 := hG.gdlt
    have k7 := Blk.new w3 46 #[.int .i64 ((i : Int) * 3 + 1 + x), .int .i64 1, .int .i64 0, .int .i64 0]
    have hq := (Below.refl w3.heap.size w3).alloc (Nat.le_refl _) (Obj.cells #[.int .i64 ((i : Int) * 3 + 1 + x), .int .i64 1, .int .i64 0, .int .i64 0] 46)
    go_upto_region 7 with fail
    replace hG := hG.grows hq
    replace hD := hD.grows hq
    clear hq
    generalize World.alloc w3 _ = w4 at *
    generalize w3.heap.size = g7 at *
    have x7 := k7.cell
    have f7 := k7.frozen
    go_upto_region 17 with fail
    clear x7 f7
    replace hG := hG.set HFR.out (p := ⟨g7, 3, none⟩) (Nat.le_refl _) (.int .i64 1)
    replace hD := hD.far (p := ⟨g7, 3, none⟩) hgd7 (.int .i64 1)
    replace k7 := k7.set_ 3 (.int .i64 1)
    generalize World.setCell w4 _ _ = wn at *
    have HFI : Hid (fineN ⟨(i : Int) * 3 + 1 + x, 1, 0, 1⟩ = true) := Lib.hid (fine_mk (by omega) hx3 (by simp <;> omega))
    replace k7 : Blk wn g7 46 (Q4.cs ⟨(i : Int) * 3 + 1 + x, 1, 0, 1⟩) := by simpa [Q4.cs] using k7
    generalize (⟨(i : Int) * 3 + 1 + x, 1, 0, 1⟩ : Q4) = nd at *
    have x4 := hG.b4.cell
    replace k7 : Blk wn g7 46 #[.int .i64 nd.a, .int .i64 nd.b, .int .i64 nd.c, .int .i64 nd.d] := k7
    have x7 := k7.cell
    go_wp2_with fail
    obtain ⟨hcc, hok⟩ := hG.gok
    refine (radd_any (c := c1) nd hok hcc hG.v HFI.out).mono ?_
    rintro e w6 ⟨⟨u1, u2, ns', ls', er, rfl, hn', hl', hP⟩, hq⟩
    clear x4 x7 k7 hok hcc
    replace hn' := hn'.mono hG.size
    replace hl' := hl'.mono hG.size
    replace hG := hG.grows hq
    replace hD := hD.grows hq
    obtain ⟨B1, m1, b1, e1⟩ := hn'.slc
    obtain ⟨B2, m2, b2, e2⟩ := hl'.slc
    subst e1
    subst e2
    clear hq
    have k8 := Blk.new w6 26 #[.slice B1 m1 b1, .slice B2 m2 b2]
    have hq := (Below.refl w6.heap.size w6).alloc (Nat.le_refl _) (Obj.cells #[.slice B1 m1 b1, .slice B2 m2 b2] 26)
    go_upto_region 18 with fail
    replace hn' := hn'.grows hq
    replace hl' := hl'.grows hq
    replace hG := hG.grows hq
    replace hD := hD.grows hq
    clear hq
    generalize World.alloc w6 _ = w7 at *
    generalize w6.heap.size = g8 at *
    by_cases her : er = 0
    ·subst her
     obtain ⟨hP1, hP2, hP3⟩ := hP rfl
     have HP := Lib.hid (show ns'.length ≤ i + 1 from by have := hP2; omega)
     clear hP hP2 hP3
     have x8 := k8.cell
     have x4 := hG.b4.cell
     have f4 := hG.b4.frozen
     go_upto_region 5 with fail
     have hG2 := hG.put hne24 hn' hl' hP1
     have hD2 := hD.put2 hgd4 (.slice B1 m1 b1) (.slice B2 m2 b2)
     clear x8 x4 f4 hG hD hn' hl' k8 hP1
     generalize World.setCell (World.setCell w7 _ _) _ _ = w8 at *
     go_wp2
     go_roundw
     case rel => exact ⟨i + 1, _, _, ns', ls', k2, by omega, by go_num, hG2, hD2, HP.out⟩
     case measure => simp [intOf]; omega
    ·have her2 : (er == 0) = false := by simpa using her
     clear k8 hn' hl' hP
     go_upto_region 5 with fail
     go_wp2
     go_roundw
     case rel => exact ⟨i + 1, _, _, ns, ls, k2, by omega, by go_num, hG, hD, by omega⟩
     case measure => simp [intOf]; omega
   ·have hr2 : 1 + nextV l k1 (5 - 1 + 1) = 2 := by
     have h0 := HY.out.1
     rw [show (5 - 1 + 1 : Int) = 5 by rfl, h0, hyy]
     rfl
    have HR2 := Lib.hid hr2
    clear hr2 hyy
    refine (range_is gd A c l k1 k2 1 5 2 _ hD (by omega) (by omega) (by omega) HR2.out HY.out.2).mono ?_
    rintro e w3 ⟨rfl, hD3, hq⟩
    replace hG := hG.next hq
    clear hD hq
    have hD := hD3
    clear hD3
    have HFR := Lib.hid hG.fr
    have hgd7 := hG.gdlt
    have k7 := Blk.new w3 46 #[.int .i64 ((i : Int) * 3 + 1 + x), .int .i64 2, .int .i64 0, .int .i64 0]
    have hq := (Below.refl w3.heap.size w3).alloc (Nat.le_refl _) (Obj.cells #[.int .i64 ((i : Int) * 3 + 1 + x), .int .i64 2, .int .i64 0, .int .i64 0] 46)
    go_upto_region 7 with fail
    replace hG := hG.grows hq
    replace hD := hD.grows hq
    clear hq
    generalize World.alloc w3 _ = w4 at *
    generalize w3.heap.size = g7 at *
    have x7 := k7.cell
    have f7 := k7.frozen
    go_upto_region 17 with fail
    clear x7 f7
    replace hG := hG.set HFR.out (p := ⟨g7, 2, none⟩) (Nat.le_refl _) (.int .i64 1)
    replace hD := hD.far (p := ⟨g7, 2, none⟩) hgd7 (.int .i64 1)
    replace k7 := k7.set_ 2 (.int .i64 1)
    generalize World.setCell w4 _ _ = wn at *
    have HFI : Hid (fineN ⟨(i : Int) * 3 + 1 + x, 2, 1, 0⟩ = true) := Lib.hid (fine_mk (by omega) hx3 (by simp <;> omega))
    replace k7 : Blk wn g7 46 (Q4.cs ⟨(i : Int) * 3 + 1 + x, 2, 1, 0⟩) := by simpa [Q4.cs] using k7
    generalize (⟨(i : Int) * 3 + 1 + x, 2, 1, 0⟩ : Q4) = nd at *
    have x4 := hG.b4.cell
    replace k7 : Blk wn g7 46 #[.int .i64 nd.a, .int .i64 nd.b, .int .i64 nd.c, .int .i64 nd.d] := k7
    have x7 := k7.cell
    go_wp2_with fail
    obtain ⟨hcc, hok⟩ := hG.gok
    refine (radd_any (c := c1) nd hok hcc hG.v HFI.out).mono ?_
    rintro e w6 ⟨⟨u1, u2, ns', ls', er, rfl, hn', hl', hP⟩, hq⟩
    clear x4 x7 k7 hok hcc
    replace hn' := hn'.mono hG.size
    replace hl' := hl'.mono hG.size
    replace hG := hG.grows hq
    replace hD := hD.grows hq
    obtain ⟨B1, m1, b1, e1⟩ := hn'.slc
    obtain ⟨B2, m2, b2, e2⟩ := hl'.slc
    subst e1
    subst e2
    clear hq
    have k8 := Blk.new w6 26 #[.slice B1 m1 b1, .slice B2 m2 b2]
    have hq := (Below.refl w6.heap.size w6).alloc (Nat.le_refl _) (Obj.cells #[.slice B1 m1 b1, .slice B2 m2 b2] 26)
    go_upto_region 18 with fail
    replace hn' := hn'.grows hq
    replace hl' := hl'.grows hq
    replace hG := hG.grows hq
    replace hD := hD.grows hq
    clear hq
    generalize World.alloc w6 _ = w7 at *
    generalize w6.heap.size = g8 at *
    by_cases her : er = 0
    ·subst her
     obtain ⟨hP1, hP2, hP3⟩ := hP rfl
     have HP := Lib.hid (show ns'.length ≤ i + 1 from by have := hP2; omega)
     clear hP hP2 hP3
     have x8 := k8.cell
     have x4 := hG.b4.cell
     have f4 := hG.b4.frozen
     go_upto_region 5 with fail
     have hG2 := hG.put hne24 hn' hl' hP1
     have hD2 := hD.put2 hgd4 (.slice B1 m1 b1) (.slice B2 m2 b2)
     clear x8 x4 f4 hG hD hn' hl' k8 hP1
     generalize World.setCell (World.setCell w7 _ _) _ _ = w8 at *
     go_wp2
     go_roundw
     case rel => exact ⟨i + 1, _, _, ns', ls', k2, by omega, by go_num, hG2, hD2, HP.out⟩
     case measure => simp [intOf]; omega
    ·have her2 : (er == 0) = false := by simpa using her
     clear k8 hn' hl' hP
     go_upto_region 5 with fail
     go_wp2
     go_roundw
     case rel => exact ⟨i + 1, _, _, ns, ls, k2, by omega, by go_num, hG, hD, by omega⟩
     case measure => simp [intOf]; omega
   ·have hr2 : 1 + nextV l k1 (5 - 1 + 1) = 3 := by
     have h0 := HY.out.1
     rw [show (5 - 1 + 1 : Int) = 5 by rfl, h0, hyy]
     rfl
    have HR2 := Lib.hid hr2
    clear hr2 hyy
    refine (range_is gd A c l k1 k2 1 5 3 _ hD (by omega) (by omega) (by omega) HR2.out HY.out.2).mono ?_
    rintro e w3 ⟨rfl, hD3, hq⟩
    replace hG := hG.next hq
    clear hD hq
    have hD := hD3
    clear hD3
    have HFR := Lib.hid hG.fr
    have hgd7 := hG.gdlt
    have k7 := Blk.new w3 46 #[.int .i64 ((i : Int) * 3 + 1 + x), .int .i64 3, .int .i64 0, .int .i64 0]
    have hq := (Below.refl w3.heap.size w3).alloc (Nat.le_refl _) (Obj.cells #[.int .i64 ((i : Int) * 3 + 1 + x), .int .i64 3, .int .i64 0, .int .i64 0] 46)
    go_upto_region 7 with fail
    replace hG := hG.grows hq
    replace hD := hD.grows hq
    clear hq
    generalize World.alloc w3 _ = w4 at *
    generalize w3.heap.size = g7 at *
    have x7 := k7.cell
    have f7 := k7.frozen
    obtain ⟨z, k3, hz, hk3, hz3⟩ := next_ex l k2 (n := 3) (by omega)
    have HR3 := Lib.hid (show 1 + nextV l k2 (3 - 1 + 1) = ((1 + z : Nat) : Int) by
     rw [show (3 - 1 + 1 : Int) = 3 by rfl, hz]
     omega)
    have HK3 := Lib.hid hk3
    clear hz hk3
    go_wp2_with fail
    refine (range_is gd A c l k2 k3 1 3 _ _ hD (by omega) (by omega) (by omega) HR3.out HK3.out).mono ?_
    rintro e w5 ⟨rfl, hD3, hq⟩
    replace hG := hG.next hq
    replace k7 := k7.grown hq (fun e => by injection e; omega)
    clear hD hq x7 f7
    have hD := hD3
    clear hD3
    generalize hzz : 1 + z = zz at *
    have x7 := k7.cell
    have f7 := k7.frozen
    go_upto_region 17 with fail
    clear x7 f7
    replace hG := hG.set HFR.out (p := ⟨g7, 2, none⟩) (Nat.le_refl _) (.int .i64 (zz : Int))
    replace hD := hD.far (p := ⟨g7, 2, none⟩) hgd7 (.int .i64 (zz : Int))
    replace k7 := k7.set_ 2 (.int .i64 (zz : Int))
    replace hG := hG.set HFR.out (p := ⟨g7, 3, none⟩) (Nat.le_refl _) (.int .i64 1)
    replace hD := hD.far (p := ⟨g7, 3, none⟩) hgd7 (.int .i64 1)
    replace k7 := k7.set_ 3 (.int .i64 1)
    generalize World.setCell (World.setCell w5 _ _) _ _ = wn at *
    have HFI : Hid (fineN ⟨(i : Int) * 3 + 1 + x, 3, (zz : Int), 1⟩ = true) := Lib.hid (fine_mk (by omega) hx3 (by simp <;> omega))
    replace k7 : Blk wn g7 46 (Q4.cs ⟨(i : Int) * 3 + 1 + x, 3, (zz : Int), 1⟩) := by simpa [Q4.cs] using k7
    generalize (⟨(i : Int) * 3 + 1 + x, 3, (zz : Int), 1⟩ : Q4) = nd at *
    have x4 := hG.b4.cell
    replace k7 : Blk wn g7 46 #[.int .i64 nd.a, .int .i64 nd.b, .int .i64 nd.c, .int .i64 nd.d] := k7
    have x7 := k7.cell
    go_wp2_with fail
    obtain ⟨hcc, hok⟩ := hG.gok
    refine (radd_any (c := c1) nd hok hcc hG.v HFI.out).mono ?_
    rintro e w6 ⟨⟨u1, u2, ns', ls', er, rfl, hn', hl', hP⟩, hq⟩
    clear x4 x7 k7 hok hcc
    replace hn' := hn'.mono hG.size
    replace hl' := hl'.mono hG.size
    replace hG := hG.grows hq
    replace hD := hD.grows hq
    obtain ⟨B1, m1, b1, e1⟩ := hn'.slc
    obtain ⟨B2, m2, b2, e2⟩ := hl'.slc
    subst e1
    subst e2
    clear hq
    have k8 := Blk.new w6 26 #[.slice B1 m1 b1, .slice B2 m2 b2]
    have hq := (Below.refl w6.heap.size w6).alloc (Nat.le_refl _) (Obj.cells #[.slice B1 m1 b1, .slice B2 m2 b2] 26)
    go_upto_region 18 with fail
    replace hn' := hn'.grows hq
    replace hl' := hl'.grows hq
    replace hG := hG.grows hq
    replace hD := hD.grows hq
    clear hq
    generalize World.alloc w6 _ = w7 at *
    generalize w6.heap.size = g8 at *
    by_cases her : er = 0
    ·subst her
     obtain ⟨hP1, hP2, hP3⟩ := hP rfl
     have HP := Lib.hid (show ns'.length ≤ i + 1 from by have := hP2; omega)
     clear hP hP2 hP3
     have x8 := k8.cell
     have x4 := hG.b4.cell
     have f4 := hG.b4.frozen
     go_upto_region 5 with fail
     have hG2 := hG.put hne24 hn' hl' hP1
     have hD2 := hD.put2 hgd4 (.slice B1 m1 b1) (.slice B2 m2 b2)
     clear x8 x4 f4 hG hD hn' hl' k8 hP1
     generalize World.setCell (World.setCell w7 _ _) _ _ = w8 at *
     go_wp2
     go_roundw
     case rel => exact ⟨i + 1, _, _, ns', ls', k3, by omega, by go_num, hG2, hD2, HP.out⟩
     case measure => simp [intOf]; omega
    ·have her2 : (er == 0) = false := by simpa using her
     clear k8 hn' hl' hP
     go_upto_region 5 with fail
     go_wp2
     go_roundw
     case rel => exact ⟨i + 1, _, _, ns, ls, k3, by omega, by go_num, hG, hD, by omega⟩
     case measure => simp [intOf]; omega
   ·have hr2 : 1 + nextV l k1 (5 - 1 + 1) = 4 := by
     have h0 := HY.out.1
     rw [show (5 - 1 + 1 : Int) = 5 by rfl, h0, hyy]
     rfl
    have HR2 := Lib.hid hr2
    clear hr2 hyy
    refine (range_is gd A c l k1 k2 1 5 4 _ hD (by omega) (by omega) (by omega) HR2.out HY.out.2).mono ?_
    rintro e w3 ⟨rfl, hD3, hq⟩
    replace hG := hG.next hq
    clear hD hq
    have hD := hD3
    clear hD3
    have HFR := Lib.hid hG.fr
    have hgd7 := hG.gdlt
    have k7 := Blk.new w3 46 #[.int .i64 ((i : Int) * 3 + 1 + x), .int .i64 4, .int .i64 0, .int .i64 0]
    have hq := (Below.refl w3.heap.size w3).alloc (Nat.le_refl _) (Obj.cells #[.int .i64 ((i : Int) * 3 + 1 + x), .int .i64 4, .int .i64 0, .int .i64 0] 46)
    go_upto_region 7 with fail
    replace hG := hG.grows hq
    replace hD := hD.grows hq
    clear hq
    generalize World.alloc w3 _ = w4 at *
    generalize w3.heap.size = g7 at *
    have x7 := k7.cell
    have f7 := k7.frozen
    go_upto_region 17 with fail
    clear x7 f7
    replace hG := hG.set HFR.out (p := ⟨g7, 2, none⟩) (Nat.le_refl _) (.int .i64 1)
    replace hD := hD.far (p := ⟨g7, 2, none⟩) hgd7 (.int .i64 1)
    replace k7 := k7.set_ 2 (.int .i64 1)
    replace hG := hG.set HFR.out (p := ⟨g7, 3, none⟩) (Nat.le_refl _) (.int .i64 1)
    replace hD := hD.far (p := ⟨g7, 3, none⟩) hgd7 (.int .i64 1)
    replace k7 := k7.set_ 3 (.int .i64 1)
    generalize World.setCell (World.setCell w4 _ _) _ _ = wn at *
    have HFI : Hid (fineN ⟨(i : Int) * 3 + 1 + x, 4, 1, 1⟩ = true) := Lib.hid (fine_mk (by omega) hx3 (by simp <;> omega))
    replace k7 : Blk wn g7 46 (Q4.cs ⟨(i : Int) * 3 + 1 + x, 4, 1, 1⟩) := by simpa [Q4.cs] using k7
    generalize (⟨(i : Int) * 3 + 1 + x, 4, 1, 1⟩ : Q4) = nd at *
    have x4 := hG.b4.cell
    replace k7 : Blk wn g7 46 #[.int .i64 nd.a, .int .i64 nd.b, .int .i64 nd.c, .int .i64 nd.d] := k7
    have x7 := k7.cell
    go_wp2_with fail
    obtain ⟨hcc, hok⟩ := hG.gok
    refine (radd_any (c := c1) nd hok hcc hG.v HFI.out).mono ?_
    rintro e w6 ⟨⟨u1, u2, ns', ls', er, rfl, hn', hl', hP⟩, hq⟩
    clear x4 x7 k7 hok hcc
    replace hn' := hn'.mono hG.size
    replace hl' := hl'.mono hG.size
    replace hG := hG.grows hq
    replace hD := hD.grows hq
    obtain ⟨B1, m1, b1, e1⟩ := hn'.slc
    obtain ⟨B2, m2, b2, e2⟩ := hl'.slc
    subst e1
    subst e2
    clear hq
    have k8 := Blk.new w6 26 #[.slice B1 m1 b1, .slice B2 m2 b2]
    have hq := (Below.refl w6.heap.size w6).alloc (Nat.le_refl _) (Obj.cells #[.slice B1 m1 b1, .slice B2 m2 b2] 26)
    go_upto_region 18 with fail
    replace hn' := hn'.grows hq
    replace hl' := hl'.grows hq
    replace hG := hG.grows hq
    replace hD := hD.grows hq
    clear hq
    generalize World.alloc w6 _ = w7 at *
    generalize w6.heap.size = g8 at *
    by_cases her : er = 0
    ·subst her
     obtain ⟨hP1, hP2, hP3⟩ := hP rfl
     have HP := Lib.hid (show ns'.length ≤ i + 1 from by have := hP2; omega)
     clear hP hP2 hP3
     have x8 := k8.cell
     have x4 := hG.b4.cell
     have f4 := hG.b4.frozen
     go_upto_region 5 with fail
     have hG2 := hG.put hne24 hn' hl' hP1
     have hD2 := hD.put2 hgd4 (.slice B1 m1 b1) (.slice B2 m2 b2)
     clear x8 x4 f4 hG hD hn' hl' k8 hP1
     generalize World.setCell (World.setCell w7 _ _) _ _ = w8 at *
     go_wp2
     go_roundw
     case rel => exact ⟨i + 1, _, _, ns', ls', k2, by omega, by go_num, hG2, hD2, HP.out⟩
     case measure => simp [intOf]; omega
    ·have her2 : (er == 0) = false := by simpa using her
     clear k8 hn' hl' hP
     go_upto_region 5 with fail
     go_wp2
     go_roundw
     case rel => exact ⟨i + 1, _, _, ns, ls, k2, by omega, by go_num, hG, hD, by omega⟩
     case measure => simp [intOf]; omega
   ·have hr2 : 1 + nextV l k1 (5 - 1 + 1) = 5 := by
     have h0 := HY.out.1
     rw [show (5 - 1 + 1 : Int) = 5 by rfl, h0, hyy]
     rfl
    have HR2 := Lib.hid hr2
    clear hr2 hyy
    refine (range_is gd A c l k1 k2 1 5 5 _ hD (by omega) (by omega) (by omega) HR2.out HY.out.2).mono ?_
    rintro e w3 ⟨rfl, hD3, hq⟩
    replace hG := hG.next hq
    clear hD hq
    have hD := hD3
    clear hD3
    have HFR := Lib.hid hG.fr
    have hgd7 := hG.gdlt
    have k7 := Blk.new w3 46 #[.int .i64 ((i : Int) * 3 + 1 + x), .int .i64 5, .int .i64 0, .int .i64 0]
    have hq := (Below.refl w3.heap.size w3).alloc (Nat.le_refl _) (Obj.cells #[.int .i64 ((i : Int) * 3 + 1 + x), .int .i64 5, .int .i64 0, .int .i64 0] 46)
    go_upto_region 7 with fail
    replace hG := hG.grows hq
    replace hD := hD.grows hq
    clear hq
    generalize World.alloc w3 _ = w4 at *
    generalize w3.heap.size = g7 at *
    have x7 := k7.cell
    have f7 := k7.frozen
    obtain ⟨z, k3, hz, hk3, hz3⟩ := next_ex l k2 (n := 3) (by omega)
    have HR3 := Lib.hid (show 1 + nextV l k2 (3 - 1 + 1) = ((1 + z : Nat) : Int) by
     rw [show (3 - 1 + 1 : Int) = 3 by rfl, hz]
     omega)
    have HK3 := Lib.hid hk3
    clear hz hk3
    go_wp2_with fail
    refine (range_is gd A c l k2 k3 1 3 _ _ hD (by omega) (by omega) (by omega) HR3.out HK3.out).mono ?_
    rintro e w5 ⟨rfl, hD3, hq⟩
    replace hG := hG.next hq
    replace k7 := k7.grown hq (fun e => by injection e; omega)
    clear hD hq x7 f7
    have hD := hD3
    clear hD3
    generalize hzz : 1 + z = zz at *
    have x7 := k7.cell
    have f7 := k7.frozen
    go_upto_region 17 with fail
    clear x7 f7
    replace hG := hG.set HFR.out (p := ⟨g7, 2, none⟩) (Nat.le_refl _) (.int .i64 1)
    replace hD := hD.far (p := ⟨g7, 2, none⟩) hgd7 (.int .i64 1)
    replace k7 := k7.set_ 2 (.int .i64 1)
    replace hG := hG.set HFR.out (p := ⟨g7, 3, none⟩) (Nat.le_refl _) (.int .i64 (zz : Int))
    replace hD := hD.far (p := ⟨g7, 3, none⟩) hgd7 (.int .i64 (zz : Int))
    replace k7 := k7.set_ 3 (.int .i64 (zz : Int))
    generalize World.setCell (World.setCell w5 _ _) _ _ = wn at *
    have HFI : Hid (fineN ⟨(i : Int) * 3 + 1 + x, 5, 1, (zz : Int)⟩ = true) := Lib.hid (fine_mk (by omega) hx3 (by simp <;> omega))
    replace k7 : Blk wn g7 46 (Q4.cs ⟨(i : Int) * 3 + 1 + x, 5, 1, (zz : Int)⟩) := by simpa [Q4.cs] using k7
    generalize (⟨(i : Int) * 3 + 1 + x, 5, 1, (zz : Int)⟩ : Q4) = nd at *
    have x4 := hG.b4.cell
    replace k7 : Blk wn g7 46 #[.int .i64 nd.a, .int .i64 nd.b, .int .i64 nd.c, .int .i64 nd.d] := k7
    have x7 := k7.cell
    go_wp2_with fail
    obtain ⟨hcc, hok⟩ := hG.gok
    refine (radd_any (c := c1) nd hok hcc hG.v HFI.out).mono ?_
    rintro e w6 ⟨⟨u1, u2, ns', ls', er, rfl, hn', hl', hP⟩, hq⟩
    clear x4 x7 k7 hok hcc
    replace hn' := hn'.mono hG.size
    replace hl' := hl'.mono hG.size
    replace hG := hG.grows hq
    replace hD := hD.grows hq
    obtain ⟨B1, m1, b1, e1⟩ := hn'.slc
    obtain ⟨B2, m2, b2, e2⟩ := hl'.slc
    subst e1
    subst e2
    clear hq
    have k8 := Blk.new w6 26 #[.slice B1 m1 b1, .slice B2 m2 b2]
    have hq := (Below.refl w6.heap.size w6).alloc (Nat.le_refl _) (Obj.cells #[.slice B1 m1 b1, .slice B2 m2 b2] 26)
    go_upto_region 18 with fail
    replace hn' := hn'.grows hq
    replace hl' := hl'.grows hq
    replace hG := hG.grows hq
    replace hD := hD.grows hq
    clear hq
    generalize World.alloc w6 _ = w7 at *
    generalize w6.heap.size = g8 at *
    by_cases her : er = 0
    ·subst her
     obtain ⟨hP1, hP2, hP3⟩ := hP rfl
     have HP := Lib.hid (show ns'.length ≤ i + 1 from by have := hP2; omega)
     clear hP hP2 hP3
     have x8 := k8.cell
     have x4 := hG.b4.cell
     have f4 := hG.b4.frozen
     go_upto_region 5 with fail
     have hG2 := hG.put hne24 hn' hl' hP1
     have hD2 := hD.put2 hgd4 (.slice B1 m1 b1) (.slice B2 m2 b2)
     clear x8 x4 f4 hG hD hn' hl' k8 hP1
     generalize World.setCell (World.setCell w7 _ _) _ _ = w8 at *
     go_wp2
     go_roundw
     case rel => exact ⟨i + 1, _, _, ns', ls', k3, by omega, by go_num, hG2, hD2, HP.out⟩
     case measure => simp [intOf]; omega
    ·have her2 : (er == 0) = false := by simpa using her
     clear k8 hn' hl' hP
     go_upto_region 5 with fail
     go_wp2
     go_roundw
     case rel => exact ⟨i + 1, _, _, ns, ls, k3, by omega, by go_num, hG, hD, by omega⟩
     case measure => simp [intOf]; omega
  ·obtain ⟨M, k1, hM, hk1, hM13⟩ := next_ex l k (n := 13) (by omega)
   have HM := Lib.hid (show (0 : Int) + nextV l k (12 - 0 + 1) = (M : Int) by rw [show (12 - 0 + 1 : Int) = 13 by rfl, hM]; omega)
   have HK := Lib.hid hk1
   clear hM hk1
   go_wp2_with fail
   refine (range_is gd A c l k k1 0 12 _ _ hD (by omega) (by omega) (by omega) HM.out HK.out).mono ?_
   rintro e w2 ⟨rfl, hD2, hq⟩
   replace hG := hG.next hq
   clear hD hq
   go_wp2_with fail
   go_loopw [10] (fun s wr => ∃ (m : Nat) (v1 v2 : Value) (ns ls : List Q4) (k : Nat), m ≤ 12 ∧ s = .int .i64 m ∧ GS w wr gd w.heap.size (w.heap.size + 1) v1 v2 ns ls ∧ Deck wr gd A c l k ∧ ns.length ≤ 8) (fun s _ => (intOf s).toNat)
   case atStart => exact ⟨M, _, _, ns, ls, k1, by omega, rfl, hG, hD2, by omega⟩
   case round =>
    clear hG hD2 HM HK
    obtain ⟨m, v1, v2, ns, ls, k, hm, rfl, hG, hD, hn8⟩ := hrel
    obtain ⟨A1, c1, A2, c2, rfl, rfl, -, -⟩ := gok_of hG.n hG.l hG.v
    by_cases hm0 : m = 0
    ·have hm00 : decide (0 < m) = false := by simp [hm0]
     have HM0 := Lib.hid hm0
     clear hm0
     have x4 := hG.b4.cell
     go_wp2_with fail
     clear x4
     go_loopw [14, 111] (fun v3 i wr => ∃ (j : Nat) (cs : List Int) (k : Nat), j ≤ ns.length ∧ i = .int .i64 j ∧ OwnI wr w.heap.size v3 cs ∧ cs.length = j ∧ Hid (∀ x ∈ cs, 0 ≤ x ∧ x < 12) ∧ GS w wr gd w.heap.size (w.heap.size + 1) (.slice A1 ns.length c1) (.slice A2 ls.length c2) ns ls ∧ Deck wr gd A c l k) (fun _ i _ => ns.length - (intOf i).toNat)
     case atStart => exact ⟨0, [], k, by omega, rfl, ownI_nil _ _, rfl, Lib.hid (by simp), hG, hD⟩
     case round =>
      clear hG hD
      obtain ⟨j, cs, k, hj, rfl, ho, hcs, HC, hG, hD⟩ := hrel
      by_cases hlt : j < ns.length
      ·obtain ⟨d, k1, hd, hk1, hd12⟩ := next_ex l k (n := 12) (by omega)
       have HD := Lib.hid hd
       have HK := Lib.hid hk1
       have HCL := Lib.hid hcs
       clear hd hk1 hcs
       go_upto_region 30 with fail
       refine wp_region_lit ?_
       iterate 2
        refine wpList_plain rfl (fun K hK => ?_)
        go_simp
        refine hK _ _ ?_
        clear hK K
       refine wpList_plain rfl (fun K hK => ?_)
       go_simp
       refine (next_is gd A c l k k1 12 _ _ hD (by omega) (by omega) HD.out HK.out).mono ?_
       rintro e w3 ⟨rfl, hD3, hq⟩
       refine hK _ _ ?_
       clear hK K
       replace ho : OwnI w3 w.heap.size _ cs := World.ownsRow.kept ho hq (.inr (fun e => by have := hG.d; have := (ho.lt gd e).1; omega))
       replace hG := hG.next hq
       clear hq hD
       iterate 1
        refine wpList_plain rfl (fun K hK => ?_)
        go_simp
        refine hK _ _ ?_
        clear hK K
       have hq := (Below.refl w3.heap.size w3).alloc (Nat.le_refl _) (Obj.cells #[.int .i64 (d : Int)] 3)
       replace ho := ho.grows hq
       replace hG := hG.grows hq
       replace hD := hD3.grows hq
       refine wpList_append_int rfl (.tmp 113) (.tmp 116) rfl (m := [(d : Int)]) rfl rfl ho rfl (ints_lit w3 (d : Int)) (by have := HCL.out; simp only [List.length_singleton]; omega) hG.size ?_
       intro v9 w9 ho9 hg9 _
       have hD9 := hD.own hg9 ho hG.d
       have hG9 := hG.own ho hg9
       have HC2 : Hid (∀ x ∈ cs ++ [(d : Int)], 0 ≤ x ∧ x < 12) := Lib.hid (by
        intro y hy
        rcases List.mem_append.1 hy with hy | hy
        ·exact HC.out y hy
        ·simp only [List.mem_singleton] at hy
         subst hy
         omega)
       have HL2 : Hid ((cs ++ [(d : Int)]).length = j + 1) := Lib.hid (by have := HCL.out; simp; omega)
       clear ho hG hD hD3 hg9 hq
       go_wp2
       go_roundw
       case rel => exact ⟨j + 1, _, k1, by omega, by go_num, ho9, HL2.out, HC2, hG9, hD9⟩
       case measure => simp [intOf]; omega
      ·have x4 := hG.b4.cell
       have x2 := hG.b2.cell
       have f2 := hG.b2.frozen
       have HCL : Hid (cs.length = ns.length) := Lib.hid (by omega)
       obtain ⟨A7, n7, c7, e7⟩ := ho.slc
       subst e7
       clear hcs
       go_wp2
       have k5 := (hG.b2.set_ 0 (.slice A1 ns.length c1)).set_ 1 (.slice A2 ls.length c2)
       have hn5 := OwnN.put (OwnN.put hG.n hG.b2 0 (.slice A1 ns.length c1)) (hG.b2.set_ 0 (.slice A1 ns.length c1)) 1 (.slice A2 ls.length c2)
       have hl5 := OwnL.put (OwnL.put hG.l hG.b2 0 (.slice A1 ns.length c1)) (hG.b2.set_ 0 (.slice A1 ns.length c1)) 1 (.slice A2 ls.length c2)
       have hi5 := OwnI.put (OwnI.put ho hG.b2 0 (.slice A1 ns.length c1)) (hG.b2.set_ 0 (.slice A1 ns.length c1)) 1 (.slice A2 ls.length c2)
       have hD5 := hD.put2 hG.d (.slice A1 ns.length c1) (.slice A2 ls.length c2)
       have hr5 := grown_set (grown_set hG.rel (p := ⟨w.heap.size, 0, none⟩) (Nat.le_refl _) (.slice A1 ns.length c1)) (p := ⟨w.heap.size, 1, none⟩) (Nat.le_refl _) (.slice A2 ls.length c2)
       have hv5 := Lib.hid hG.v
       clear x4 x2 f2 hG hD ho
       generalize World.setCell (World.setCell wr _ _) _ _ = w9 at *
       have x2 := k5.cell
       refine bodyPost_ret (v := .tuple #[.agg #[.slice A1 ns.length c1, .slice A2 ls.length c2], .slice A7 n7 c7]) (by simp [results, Try.results9, go_sem, x2]) rfl ⟨⟨_, _, _, ns, ls, cs, k, rfl, hn5, hl5, hi5, hv5.out, HCL.out, HC.out, hn8, hD5⟩, hr5⟩
    by_cases hn0 : ns.length = 0
    ·have HN0 := Lib.hid hn0
     have hn00 : decide (0 < ns.length) = false := by simp [hn0]
     clear hn0
     have hm00 : decide (0 < m) = true := by simp; omega
     have HM0 := Lib.hid hm0
     clear hm0
     have x4 := hG.b4.cell
     go_wp2_with fail
     clear x4
     go_loopw [14, 111] (fun v3 i wr => ∃ (j : Nat) (cs : List Int) (k : Nat), j ≤ ns.length ∧ i = .int .i64 j ∧ OwnI wr w.heap.size v3 cs ∧ cs.length = j ∧ Hid (∀ x ∈ cs, 0 ≤ x ∧ x < 12) ∧ GS w wr gd w.heap.size (w.heap.size + 1) (.slice A1 ns.length c1) (.slice A2 ls.length c2) ns ls ∧ Deck wr gd A c l k) (fun _ i _ => ns.length - (intOf i).toNat)
     case atStart => exact ⟨0, [], k, by omega, rfl, ownI_nil _ _, rfl, Lib.hid (by simp), hG, hD⟩
     case round =>
      clear hG hD
      obtain ⟨j, cs, k, hj, rfl, ho, hcs, HC, hG, hD⟩ := hrel
      by_cases hlt : j < ns.length
      ·obtain ⟨d, k1, hd, hk1, hd12⟩ := next_ex l k (n := 12) (by omega)
       have HD := Lib.hid hd
       have HK := Lib.hid hk1
       have HCL := Lib.hid hcs
       clear hd hk1 hcs
       go_upto_region 30 with fail
       refine wp_region_lit ?_
       iterate 2
        refine wpList_plain rfl (fun K hK => ?_)
        go_simp
        refine hK _ _ ?_
        clear hK K
       refine wpList_plain rfl (fun K hK => ?_)
       go_simp
       refine (next_is gd A c l k k1 12 _ _ hD (by omega) (by omega) HD.out HK.out).mono ?_
       rintro e w3 ⟨rfl, hD3, hq⟩
       refine hK _ _ ?_
       clear hK K
       replace ho : OwnI w3 w.heap.size _ cs := World.ownsRow.kept ho hq (.inr (fun e => by have := hG.d; have := (ho.lt gd e).1; omega))
       replace hG := hG.next hq
       clear hq hD
       iterate 1
        refine wpList_plain rfl (fun K hK => ?_)
        go_simp
        refine hK _ _ ?_
        clear hK K
       have hq := (Below.refl w3.heap.size w3).alloc (Nat.le_refl _) (Obj.cells #[.int .i64 (d : Int)] 3)
       replace ho := ho.grows hq
       replace hG := hG.grows hq
       replace hD := hD3.grows hq
       refine wpList_append_int rfl (.tmp 113) (.tmp 116) rfl (m := [(d : Int)]) rfl rfl ho rfl (ints_lit w3 (d : Int)) (by have := HCL.out; simp only [List.length_singleton]; omega) hG.size ?_
       intro v9 w9 ho9 hg9 _
       have hD9 := hD.own hg9 ho hG.d
       have hG9 := hG.own ho hg9
       have HC2 : Hid (∀ x ∈ cs ++ [(d : Int)], 0 ≤ x ∧ x < 12) := Lib.hid (by
        intro y hy
        rcases List.mem_append.1 hy with hy | hy
        ·exact HC.out y hy
        ·simp only [List.mem_singleton] at hy
         subst hy
         omega)
       have HL2 : Hid ((cs ++ [(d : Int)]).length = j + 1) := Lib.hid (by have := HCL.out; simp; omega)
       clear ho hG hD hD3 hg9 hq
       go_wp2
       go_roundw
       case rel => exact ⟨j + 1, _, k1, by omega, by go_num, ho9, HL2.out, HC2, hG9, hD9⟩
       case measure => simp [intOf]; omega
      ·have x4 := hG.b4.cell
       have x2 := hG.b2.cell
       have f2 := hG.b2.frozen
       have HCL : Hid (cs.length = ns.length) := Lib.hid (by omega)
       obtain ⟨A7, n7, c7, e7⟩ := ho.slc
       subst e7
       clear hcs
       go_wp2
       have k5 := (hG.b2.set_ 0 (.slice A1 ns.length c1)).set_ 1 (.slice A2 ls.length c2)
       have hn5 := OwnN.put (OwnN.put hG.n hG.b2 0 (.slice A1 ns.length c1)) (hG.b2.set_ 0 (.slice A1 ns.length c1)) 1 (.slice A2 ls.length c2)
       have hl5 := OwnL.put (OwnL.put hG.l hG.b2 0 (.slice A1 ns.length c1)) (hG.b2.set_ 0 (.slice A1 ns.length c1)) 1 (.slice A2 ls.length c2)
       have hi5 := OwnI.put (OwnI.put ho hG.b2 0 (.slice A1 ns.length c1)) (hG.b2.set_ 0 (.slice A1 ns.length c1)) 1 (.slice A2 ls.length c2)
       have hD5 := hD.put2 hG.d (.slice A1 ns.length c1) (.slice A2 ls.length c2)
       have hr5 := grown_set (grown_set hG.rel (p := ⟨w.heap.size, 0, none⟩) (Nat.le_refl _) (.slice A1 ns.length c1)) (p := ⟨w.heap.size, 1, none⟩) (Nat.le_refl _) (.slice A2 ls.length c2)
       have hv5 := Lib.hid hG.v
       clear x4 x2 f2 hG hD ho
       generalize World.setCell (World.setCell wr _ _) _ _ = w9 at *
       have x2 := k5.cell
       refine bodyPost_ret (v := .tuple #[.agg #[.slice A1 ns.length c1, .slice A2 ls.length c2], .slice A7 n7 c7]) (by simp [results, Try.results9, go_sem, x2]) rfl ⟨⟨_, _, _, ns, ls, cs, k, rfl, hn5, hl5, hi5, hv5.out, HCL.out, HC.out, hn8, hD5⟩, hr5⟩
    have hm00 : decide (0 < m) = true := by simp; omega
    have hn00 : decide (0 < ns.length) = true := by simp; omega
    obtain ⟨d1, k1, hd1, hk1, hdd1⟩ := next_ex l k (n := (ns.length : Int)) (by omega)
    obtain ⟨d2, k2, hd2, hk2, hdd2⟩ := next_ex l k1 (n := 3) (by omega)
    obtain ⟨d3, k3, hd3, hk3, hdd3⟩ := next_ex l k2 (n := (ns.length : Int)) (by omega)
    obtain ⟨d4, k4, hd4, hk4, hdd4⟩ := next_ex l k3 (n := 3) (by omega)
    have H1 : Hid (nextV l k ns.length = d1 ∧ nextK l k = k1) := Lib.hid ⟨hd1, hk1⟩
    have H2 : Hid (nextV l k1 3 = d2 ∧ nextK l k1 = k2) := Lib.hid ⟨hd2, hk2⟩
    have H3 : Hid (nextV l k2 ns.length = d3 ∧ nextK l k2 = k3) := Lib.hid ⟨hd3, hk3⟩
    have H4 : Hid (nextV l k3 3 = d4 ∧ nextK l k3 = k4) := Lib.hid ⟨hd4, hk4⟩
    clear hd1 hk1 hd2 hk2 hd3 hk3 hd4 hk4
    have hd1 : d1 < ns.length := by omega
    have hd3 : d3 < ns.length := by omega
    obtain ⟨ad, x1, e1, -, hx1, -⟩ := hG.n.qs.elem hd1
    subst e1
    obtain ⟨ad', x2, -, -, hx2, -⟩ := hG.n.qs.elem hd3
    have HX1 := Lib.hid hx1
    have HX2 := Lib.hid hx2
    clear hx1 hx2 ad'
    have hns8 : ns.length ≤ 9223372036854775807 := by omega
    have x4 := hG.b4.cell
    go_upto_region 23 with fail
    clear x4
    generalize wr = W1 at *
    have hsz := hG.gdlt
    skip
    obtain ⟨S, HI, HO⟩ := hideS fun (L : Ran) (vs : Nat → Value) (w' : World) => W1.grownBy w' (some gd) ∧ KnS [some (.pointer (some ⟨w.heap.size + 1, 0, none⟩)), some (.slice (some ad) ns.length c1), some (.pointer (some ⟨gd, 0, none⟩)), some (.pointer (some ⟨w.heap.size + 1, 0, none⟩)), some (.slice (some ad) ns.length c1), some (.int .i64 (ns.length : Int)), some (.int .i64 (d1 : Int)), some (.pointer (some (ad.add (d1 * 4)))), some (.pointer (some (ad.add (d1 * 4)))), some (.int .i64 x1.a), some (.pointer (some ⟨gd, 0, none⟩)), some (.int .i64 (d2 : Int)), some (.pointer (some ⟨w.heap.size + 1, 0, none⟩)), some (.slice (some ad) ns.length c1), some (.pointer (some ⟨gd, 0, none⟩)), some (.pointer (some ⟨w.heap.size + 1, 0, none⟩)), some (.slice (some ad) ns.length c1), some (.int .i64 (ns.length : Int)), some (.int .i64 (d3 : Int)), some (.pointer (some (ad.add (d3 * 4)))), some (.pointer (some (ad.add (d3 * 4)))), some (.int .i64 x2.a), some (.pointer (some ⟨gd, 0, none⟩)), some (.int .i64 (d4 : Int)), some (.agg #[.int .i64 x1.a, .int .i64 (d2 : Int), .int .i64 x2.a, .int .i64 (d4 : Int)]), none, none] L vs ∧ Deck w' gd A c l (dkK k k1 k2 k3 k4 (L 6) (L 11) (L 18) (L 23)) ∧ (L 11 = true → L 6 = true) ∧ (L 18 = true → L 11 = true) ∧ (L 23 = true → L 18 = true) ∧ (L 26 = true → L 25 = true) ∧ (L 25 = true → ∃ G, vs 25 = .pointer (some ⟨G, 0, none⟩) ∧ W1.heap.size ≤ G ∧ Blk w' G 49 (if L 26 = true then #[.int .i64 x1.a, .int .i64 (d2 : Int), .int .i64 x2.a, .int .i64 (d4 : Int)] else #[.int .i64 0, .int .i64 0, .int .i64 0, .int .i64 0]))
    refine wp_region_genW S 121 (by kernel_rfl) (by kernel_rfl) rfl ?_ ?_
    ·exact HI.out _ _ _ ⟨only_grows (World.grownBy.refl _ _) (Grows.drew' _), kn_none _ _, hD.grows (Grows.drew' _), (fun h => by cases h), (fun h => by cases h), (fun h => by cases h), (fun h => by cases h), (fun h => by cases h)⟩
    refine gen_consR (fun vs L w1 hL hw1 => ?_) ?_
    ·obtain ⟨q0, q1, qD, c1_, c2_, c3_, c4_, aP⟩ := HO.out _ _ _ hw1
     refine gen_plain rfl ?_
     go_simp
     exact gr_val (HI.out _ _ _ ⟨q0, kn_known q1 rfl, qD, c1_, c2_, c3_, c4_, aP⟩)
    refine gen_consR (fun vs L w1 hL hw1 => ?_) ?_
    ·obtain ⟨q0, q1, qD, c1_, c2_, c3_, c4_, aP⟩ := HO.out _ _ _ hw1
     have l0 : L 0 = true := hL.need 0 (by kernel_rfl)
     have e0 := q1 0 _ rfl l0
     have x := (hG.next q0).b4.cell 0
     refine gen_plain rfl ?_
     simp only [e0]
     go_simp
     exact gr_val (HI.out _ _ _ ⟨q0, kn_known q1 rfl, qD, c1_, c2_, c3_, c4_, aP⟩)
    refine gen_consR (fun vs L w1 hL hw1 => ?_) ?_
    ·obtain ⟨q0, q1, qD, c1_, c2_, c3_, c4_, aP⟩ := HO.out _ _ _ hw1
     refine gen_plain rfl ?_
     go_simp
     exact gr_val (HI.out _ _ _ ⟨q0, kn_known q1 rfl, qD, c1_, c2_, c3_, c4_, aP⟩)
    refine gen_consR (fun vs L w1 hL hw1 => ?_) ?_
    ·obtain ⟨q0, q1, qD, c1_, c2_, c3_, c4_, aP⟩ := HO.out _ _ _ hw1
     refine gen_plain rfl ?_
     go_simp
     exact gr_val (HI.out _ _ _ ⟨q0, kn_known q1 rfl, qD, c1_, c2_, c3_, c4_, aP⟩)
    refine gen_consR (fun vs L w1 hL hw1 => ?_) ?_
    ·obtain ⟨q0, q1, qD, c1_, c2_, c3_, c4_, aP⟩ := HO.out _ _ _ hw1
     have l3 : L 3 = true := hL.need 3 (by kernel_rfl)
     have e3 := q1 3 _ rfl l3
     have x := (hG.next q0).b4.cell 0
     refine gen_plain rfl ?_
     simp only [e3]
     go_simp
     exact gr_val (HI.out _ _ _ ⟨q0, kn_known q1 rfl, qD, c1_, c2_, c3_, c4_, aP⟩)
    refine gen_consR (fun vs L w1 hL hw1 => ?_) ?_
    ·obtain ⟨q0, q1, qD, c1_, c2_, c3_, c4_, aP⟩ := HO.out _ _ _ hw1
     have l4 : L 4 = true := hL.need 4 (by kernel_rfl)
     have e4 := q1 4 _ rfl l4
     refine gen_plain rfl ?_
     simp only [e4]
     go_simp
     exact gr_val (HI.out _ _ _ ⟨q0, kn_known q1 rfl, qD, c1_, c2_, c3_, c4_, aP⟩)
    refine gen_consR (fun vs L w1 hL hw1 => ?_) ?_
    ·obtain ⟨q0, q1, qD, c1_, c2_, c3_, c4_, aP⟩ := HO.out _ _ _ hw1
     have n6 : L 6 = false := hL.1
     have n11 : L 11 = false := by
      cases h : L 11
      ·rfl
      ·rw [c1_ h] at n6; cases n6
     have n18 : L 18 = false := by
      cases h : L 18
      ·rfl
      ·rw [c2_ h] at n11; cases n11
     have n23 : L 23 = false := by
      cases h : L 23
      ·rfl
      ·rw [c3_ h] at n18; cases n18
     have l2 : L 2 = true := hL.need 2 (by kernel_rfl)
     have e2 := q1 2 _ rfl l2
     have l5 : L 5 = true := hL.need 5 (by kernel_rfl)
     have e5 := q1 5 _ rfl l5
     rw [n6, n11, n18, n23] at qD
     change Deck w1 gd A c l k at qD
     refine gen_plain rfl ?_
     simp only [e2, e5]
     go_simp
     refine gr_call ?_
     refine (next_is gd A c l k k1 (ns.length : Int) (d1 : Int) w1 qD (by omega) (by omega) H1.out.1 H1.out.2).mono ?_
     rintro e w2 ⟨rfl, hD2, hq⟩
     exact ⟨_, rfl, HI.out _ _ _ ⟨grown_trans q0 hq, kn_known q1 rfl, (by show Deck w2 gd A c l (dkK k k1 k2 k3 k4 true (L 11) (L 18) (L 23)); rw [n11, n18, n23]; exact hD2), (fun _ => rfl), c2_, c3_, c4_, (fun h => by obtain ⟨G, e, hG9, b⟩ := aP h; exact ⟨G, e, hG9, b.grown hq (fun e9 => by injection e9; omega)⟩)⟩⟩
    refine gen_consR (fun vs L w1 hL hw1 => ?_) ?_
    ·obtain ⟨q0, q1, qD, c1_, c2_, c3_, c4_, aP⟩ := HO.out _ _ _ hw1
     have l1 : L 1 = true := hL.need 1 (by kernel_rfl)
     have e1 := q1 1 _ rfl l1
     have l6 : L 6 = true := hL.need 6 (by kernel_rfl)
     have e6 := q1 6 _ rfl l6
     refine gen_plain rfl ?_
     simp only [e1, e6]
     go_simp
     exact gr_val (HI.out _ _ _ ⟨q0, kn_known q1 rfl, qD, c1_, c2_, c3_, c4_, aP⟩)
    refine gen_consR (fun vs L w1 hL hw1 => ?_) ?_
    ·obtain ⟨q0, q1, qD, c1_, c2_, c3_, c4_, aP⟩ := HO.out _ _ _ hw1
     have l7 : L 7 = true := hL.need 7 (by kernel_rfl)
     have e7 := q1 7 _ rfl l7
     refine gen_plain rfl ?_
     simp only [e7]
     go_simp
     exact gr_val (HI.out _ _ _ ⟨q0, kn_known q1 rfl, qD, c1_, c2_, c3_, c4_, aP⟩)
    refine gen_consR (fun vs L w1 hL hw1 => ?_) ?_
    ·obtain ⟨q0, q1, qD, c1_, c2_, c3_, c4_, aP⟩ := HO.out _ _ _ hw1
     have l8 : L 8 = true := hL.need 8 (by kernel_rfl)
     have e8 := q1 8 _ rfl l8
     obtain ⟨ad9, y9, e9, -, hy9, z0, z1, z2, z3⟩ := (hG.next q0).n.qs.elem (k := d1) hd1
     injection e9 with e9
     subst e9
     rw [HX1.out] at hy9
     injection hy9 with hy9
     subst hy9
     refine gen_plain rfl ?_
     simp only [e8]
     go_simp
     exact gr_val (HI.out _ _ _ ⟨q0, kn_known q1 rfl, qD, c1_, c2_, c3_, c4_, aP⟩)
    refine gen_consR (fun vs L w1 hL hw1 => ?_) ?_
    ·obtain ⟨q0, q1, qD, c1_, c2_, c3_, c4_, aP⟩ := HO.out _ _ _ hw1
     refine gen_plain rfl ?_
     go_simp
     exact gr_val (HI.out _ _ _ ⟨q0, kn_known q1 rfl, qD, c1_, c2_, c3_, c4_, aP⟩)
    refine gen_consR (fun vs L w1 hL hw1 => ?_) ?_
    ·obtain ⟨q0, q1, qD, c1_, c2_, c3_, c4_, aP⟩ := HO.out _ _ _ hw1
     have l6 : L 6 = true := hL.need 6 (by kernel_rfl)
     have n11 : L 11 = false := hL.1
     have n18 : L 18 = false := by
      cases h : L 18
      ·rfl
      ·rw [c2_ h] at n11; cases n11
     have n23 : L 23 = false := by
      cases h : L 23
      ·rfl
      ·rw [c3_ h] at n18; cases n18
     have l10 : L 10 = true := hL.need 10 (by kernel_rfl)
     have e10 := q1 10 _ rfl l10
     rw [l6, n11, n18, n23] at qD
     change Deck w1 gd A c l k1 at qD
     refine gen_plain rfl ?_
     simp only [e10]
     go_simp
     refine gr_call ?_
     refine (next_is gd A c l k1 k2 3 (d2 : Int) w1 qD (by omega) (by omega) H2.out.1 H2.out.2).mono ?_
     rintro e w2 ⟨rfl, hD2, hq⟩
     exact ⟨_, rfl, HI.out _ _ _ ⟨grown_trans q0 hq, kn_known q1 rfl, (by show Deck w2 gd A c l (dkK k k1 k2 k3 k4 (L 6) true (L 18) (L 23)); rw [l6, n18, n23]; exact hD2), (fun _ => l6), (fun _ => rfl), c3_, c4_, (fun h => by obtain ⟨G, e, hG9, b⟩ := aP h; exact ⟨G, e, hG9, b.grown hq (fun e9 => by injection e9; omega)⟩)⟩⟩
    refine gen_consR (fun vs L w1 hL hw1 => ?_) ?_
    ·obtain ⟨q0, q1, qD, c1_, c2_, c3_, c4_, aP⟩ := HO.out _ _ _ hw1
     refine gen_plain rfl ?_
     go_simp
     exact gr_val (HI.out _ _ _ ⟨q0, kn_known q1 rfl, qD, c1_, c2_, c3_, c4_, aP⟩)
    refine gen_consR (fun vs L w1 hL hw1 => ?_) ?_
    ·obtain ⟨q0, q1, qD, c1_, c2_, c3_, c4_, aP⟩ := HO.out _ _ _ hw1
     have l12 : L 12 = true := hL.need 12 (by kernel_rfl)
     have e12 := q1 12 _ rfl l12
     have x := (hG.next q0).b4.cell 0
     refine gen_plain rfl ?_
     simp only [e12]
     go_simp
     exact gr_val (HI.out _ _ _ ⟨q0, kn_known q1 rfl, qD, c1_, c2_, c3_, c4_, aP⟩)
    refine gen_consR (fun vs L w1 hL hw1 => ?_) ?_
    ·obtain ⟨q0, q1, qD, c1_, c2_, c3_, c4_, aP⟩ := HO.out _ _ _ hw1
     refine gen_plain rfl ?_
     go_simp
     exact gr_val (HI.out _ _ _ ⟨q0, kn_known q1 rfl, qD, c1_, c2_, c3_, c4_, aP⟩)
    refine gen_consR (fun vs L w1 hL hw1 => ?_) ?_
    ·obtain ⟨q0, q1, qD, c1_, c2_, c3_, c4_, aP⟩ := HO.out _ _ _ hw1
     refine gen_plain rfl ?_
     go_simp
     exact gr_val (HI.out _ _ _ ⟨q0, kn_known q1 rfl, qD, c1_, c2_, c3_, c4_, aP⟩)
    refine gen_consR (fun vs L w1 hL hw1 => ?_) ?_
    ·obtain ⟨q0, q1, qD, c1_, c2_, c3_, c4_, aP⟩ := HO.out _ _ _ hw1
     have l15 : L 15 = true := hL.need 15 (by kernel_rfl)
     have e15 := q1 15 _ rfl l15
     have x := (hG.next q0).b4.cell 0
     refine gen_plain rfl ?_
     simp only [e15]
     go_simp
     exact gr_val (HI.out _ _ _ ⟨q0, kn_known q1 rfl, qD, c1_, c2_, c3_, c4_, aP⟩)
    refine gen_consR (fun vs L w1 hL hw1 => ?_) ?_
    ·obtain ⟨q0, q1, qD, c1_, c2_, c3_, c4_, aP⟩ := HO.out _ _ _ hw1
     have l16 : L 16 = true := hL.need 16 (by kernel_rfl)
     have e16 := q1 16 _ rfl l16
     refine gen_plain rfl ?_
     simp only [e16]
     go_simp
     exact gr_val (HI.out _ _ _ ⟨q0, kn_known q1 rfl, qD, c1_, c2_, c3_, c4_, aP⟩)
    refine gen_consR (fun vs L w1 hL hw1 => ?_) ?_
    ·obtain ⟨q0, q1, qD, c1_, c2_, c3_, c4_, aP⟩ := HO.out _ _ _ hw1
     have l11 : L 11 = true := hL.need 11 (by kernel_rfl)
     have l6 : L 6 = true := c1_ l11
     have n18 : L 18 = false := hL.1
     have n23 : L 23 = false := by
      cases h : L 23
      ·rfl
      ·rw [c3_ h] at n18; cases n18
     have l14 : L 14 = true := hL.need 14 (by kernel_rfl)
     have e14 := q1 14 _ rfl l14
     have l17 : L 17 = true := hL.need 17 (by kernel_rfl)
     have e17 := q1 17 _ rfl l17
     rw [l6, l11, n18, n23] at qD
     change Deck w1 gd A c l k2 at qD
     refine gen_plain rfl ?_
     simp only [e14, e17]
     go_simp
     refine gr_call ?_
     refine (next_is gd A c l k2 k3 (ns.length : Int) (d3 : Int) w1 qD (by omega) (by omega) H3.out.1 H3.out.2).mono ?_
     rintro e w2 ⟨rfl, hD2, hq⟩
     exact ⟨_, rfl, HI.out _ _ _ ⟨grown_trans q0 hq, kn_known q1 rfl, (by show Deck w2 gd A c l (dkK k k1 k2 k3 k4 (L 6) (L 11) true (L 23)); rw [l6, l11, n23]; exact hD2), c1_, (fun _ => l11), (fun _ => rfl), c4_, (fun h => by obtain ⟨G, e, hG9, b⟩ := aP h; exact ⟨G, e, hG9, b.grown hq (fun e9 => by injection e9; omega)⟩)⟩⟩
    refine gen_consR (fun vs L w1 hL hw1 => ?_) ?_
    ·obtain ⟨q0, q1, qD, c1_, c2_, c3_, c4_, aP⟩ := HO.out _ _ _ hw1
     have l13 : L 13 = true := hL.need 13 (by kernel_rfl)
     have e13 := q1 13 _ rfl l13
     have l18 : L 18 = true := hL.need 18 (by kernel_rfl)
     have e18 := q1 18 _ rfl l18
     refine gen_plain rfl ?_
     simp only [e13, e18]
     go_simp
     exact gr_val (HI.out _ _ _ ⟨q0, kn_known q1 rfl, qD, c1_, c2_, c3_, c4_, aP⟩)
    refine gen_consR (fun vs L w1 hL hw1 => ?_) ?_
    ·obtain ⟨q0, q1, qD, c1_, c2_, c3_, c4_, aP⟩ := HO.out _ _ _ hw1
     have l19 : L 19 = true := hL.need 19 (by kernel_rfl)
     have e19 := q1 19 _ rfl l19
     refine gen_plain rfl ?_
     simp only [e19]
     go_simp
     exact gr_val (HI.out _ _ _ ⟨q0, kn_known q1 rfl, qD, c1_, c2_, c3_, c4_, aP⟩)
    refine gen_consR (fun vs L w1 hL hw1 => ?_) ?_
    ·obtain ⟨q0, q1, qD, c1_, c2_, c3_, c4_, aP⟩ := HO.out _ _ _ hw1
     have l20 : L 20 = true := hL.need 20 (by kernel_rfl)
     have e20 := q1 20 _ rfl l20
     obtain ⟨ad9, y9, e9, -, hy9, z0, z1, z2, z3⟩ := (hG.next q0).n.qs.elem (k := d3) hd3
     injection e9 with e9
     subst e9
     rw [HX2.out] at hy9
     injection hy9 with hy9
     subst hy9
     refine gen_plain rfl ?_
     simp only [e20]
     go_simp
     exact gr_val (HI.out _ _ _ ⟨q0, kn_known q1 rfl, qD, c1_, c2_, c3_, c4_, aP⟩)
    refine gen_consR (fun vs L w1 hL hw1 => ?_) ?_
    ·obtain ⟨q0, q1, qD, c1_, c2_, c3_, c4_, aP⟩ := HO.out _ _ _ hw1
     refine gen_plain rfl ?_
     go_simp
     exact gr_val (HI.out _ _ _ ⟨q0, kn_known q1 rfl, qD, c1_, c2_, c3_, c4_, aP⟩)
    refine gen_consR (fun vs L w1 hL hw1 => ?_) ?_
    ·obtain ⟨q0, q1, qD, c1_, c2_, c3_, c4_, aP⟩ := HO.out _ _ _ hw1
     have l18 : L 18 = true := hL.need 18 (by kernel_rfl)
     have l11 : L 11 = true := c2_ l18
     have l6 : L 6 = true := c1_ l11
     have n23 : L 23 = false := hL.1
     have l22 : L 22 = true := hL.need 22 (by kernel_rfl)
     have e22 := q1 22 _ rfl l22
     rw [l6, l11, l18, n23] at qD
     change Deck w1 gd A c l k3 at qD
     refine gen_plain rfl ?_
     simp only [e22]
     go_simp
     refine gr_call ?_
     refine (next_is gd A c l k3 k4 3 (d4 : Int) w1 qD (by omega) (by omega) H4.out.1 H4.out.2).mono ?_
     rintro e w2 ⟨rfl, hD2, hq⟩
     exact ⟨_, rfl, HI.out _ _ _ ⟨grown_trans q0 hq, kn_known q1 rfl, (by show Deck w2 gd A c l (dkK k k1 k2 k3 k4 (L 6) (L 11) (L 18) true); rw [l6, l11, l18]; exact hD2), c1_, c2_, (fun _ => l18), c4_, (fun h => by obtain ⟨G, e, hG9, b⟩ := aP h; exact ⟨G, e, hG9, b.grown hq (fun e9 => by injection e9; omega)⟩)⟩⟩
    refine gen_consR (fun vs L w1 hL hw1 => ?_) ?_
    ·obtain ⟨q0, q1, qD, c1_, c2_, c3_, c4_, aP⟩ := HO.out _ _ _ hw1
     have l9 : L 9 = true := hL.need 9 (by kernel_rfl)
     have e9 := q1 9 _ rfl l9
     have l11 : L 11 = true := hL.need 11 (by kernel_rfl)
     have e11 := q1 11 _ rfl l11
     have l21 : L 21 = true := hL.need 21 (by kernel_rfl)
     have e21 := q1 21 _ rfl l21
     have l23 : L 23 = true := hL.need 23 (by kernel_rfl)
     have e23 := q1 23 _ rfl l23
     refine gen_plain rfl ?_
     simp only [e9, e11, e21, e23]
     go_simp
     exact gr_val (HI.out _ _ _ ⟨q0, kn_known q1 rfl, qD, c1_, c2_, c3_, c4_, aP⟩)
    refine gen_consR (fun vs L w1 hL hw1 => ?_) ?_
    ·obtain ⟨q0, q1, qD, c1_, c2_, c3_, c4_, aP⟩ := HO.out _ _ _ hw1
     have n25 : L 25 = false := hL.1
     have n26 : L 26 = false := by
      cases h : L 26
      ·rfl
      ·rw [c4_ h] at n25; cases n25
     refine gen_plain rfl ?_
     go_simp
     have hg := (Below.refl w1.heap.size w1).alloc (Nat.le_refl _) (Obj.cells #[.int .i64 0, .int .i64 0, .int .i64 0, .int .i64 0] 49)
     exact gr_val (HI.out _ _ _ ⟨only_grows q0 hg, kn_free q1 rfl, qD.grows hg, c1_, c2_, c3_, (fun _ => rfl), (fun _ => ⟨w1.heap.size, rfl, q0.size, (by show Blk _ _ 49 (if L 26 = true then #[.int .i64 x1.a, .int .i64 (d2 : Int), .int .i64 x2.a, .int .i64 (d4 : Int)] else #[.int .i64 0, .int .i64 0, .int .i64 0, .int .i64 0]); rw [n26]; exact Blk.new _ _ _)⟩)⟩)
    refine gen_consR (fun vs L w1 hL hw1 => ?_) ?_
    ·obtain ⟨q0, q1, qD, c1_, c2_, c3_, c4_, aP⟩ := HO.out _ _ _ hw1
     have n26 : L 26 = false := hL.1
     have l25 : L 25 = true := hL.need 25 (by kernel_rfl)
     obtain ⟨G, e25, hG9, b⟩ := aP l25
     have l24 : L 24 = true := hL.need 24 (by kernel_rfl)
     have e24 := q1 24 _ rfl l24
     simp only [n26, Bool.false_eq_true, if_false] at b
     have xb := b.cell
     have fb := b.frozen
     have hlt9 : gd < G := by omega
     refine gen_plain rfl ?_
     simp only [e24, e25]
     go_simp
     refine gr_skip (HI.out _ _ _ ⟨grown_set (grown_set (grown_set (grown_set q0 (by simpa using hG9) _) (by simpa using hG9) _) (by simpa using hG9) _) (by simpa using hG9) _, kn_free q1 rfl, (((qD.far hlt9 _).far hlt9 _).far hlt9 _).far hlt9 _, c1_, c2_, c3_, (fun _ => l25), (fun _ => ⟨G, e25, hG9, ?_⟩)⟩)
     show Blk _ G 49 (if true = true then #[.int .i64 x1.a, .int .i64 (d2 : Int), .int .i64 x2.a, .int .i64 (d4 : Int)] else #[.int .i64 0, .int .i64 0, .int .i64 0, .int .i64 0])
     have := (((b.set_ 0 (.int .i64 x1.a)).set_ 1 (.int .i64 (d2 : Int))).set_ 2 (.int .i64 x2.a)).set_ 3 (.int .i64 (d4 : Int))
     simpa using this
    refine gen_nil ?_
    intro vs L W6 hall hS
    obtain ⟨hq, -, hD2, -, -, -, -, aP⟩ := HO.out _ _ _ hS
    obtain ⟨G11, e25, hG11, k11⟩ := aP (hall 25 (by simp))
    rw [hall 6 (by simp), hall 11 (by simp), hall 18 (by simp), hall 23 (by simp)] at hD2
    change Deck W6 gd A c l k4 at hD2
    rw [hall 26 (by simp), if_pos rfl] at k11
    clear hall hS HI HO aP
    simp only [e25]
    replace hG := hG.next hq
    clear hq hD
    have hD := hD2
    clear hD2
    generalize W6 = w5 at *
    simp only [Nat.zero_add, Nat.reduceAdd]
    replace k11 : Blk w5 G11 49 (Q4.cs ⟨x1.a, (d2 : Int), x2.a, (d4 : Int)⟩) := k11
    generalize (⟨x1.a, (d2 : Int), x2.a, (d4 : Int)⟩ : Q4) = nd at *
    replace k11 : Blk w5 G11 49 #[.int .i64 nd.a, .int .i64 nd.b, .int .i64 nd.c, .int .i64 nd.d] := k11
    have x11 := k11.cell
    have x4 := hG.b4.cell
    have HM1 : Hid ((m : Int) - 1 = ((m - 1 : Nat) : Int)) := Lib.hid (by omega)
    have hmp : 0 < m := by omega
    go_wp2_with fail
    obtain ⟨hcc, hok⟩ := hG.gok
    refine (rconnect_any (c := c1) nd hok hG.v).mono ?_
    rintro e w6 ⟨⟨u1, u2, ns', ls', er, rfl, hn', hl', hP⟩, hq⟩
    clear x4 x11 k11 hok hcc
    replace hn' := hn'.mono hG.size
    replace hl' := hl'.mono hG.size
    replace hG := hG.grows hq
    replace hD := hD.grows hq
    obtain ⟨B1, m1, b1, e1⟩ := hn'.slc
    obtain ⟨B2, m2, b2, e2⟩ := hl'.slc
    subst e1
    subst e2
    clear hq
    have k8 := Blk.new w6 26 #[.slice B1 m1 b1, .slice B2 m2 b2]
    have hq := (Below.refl w6.heap.size w6).alloc (Nat.le_refl _) (Obj.cells #[.slice B1 m1 b1, .slice B2 m2 b2] 26)
    go_upto_region 25 with fail
    replace hn' := hn'.grows hq
    replace hl' := hl'.grows hq
    replace hG := hG.grows hq
    replace hD := hD.grows hq
    clear hq
    generalize World.alloc w6 _ = w7 at *
    generalize w6.heap.size = g8 at *
    by_cases her : er = 0
    ·subst her
     obtain ⟨hP1, hP2, hP3⟩ := hP rfl
     have HP := Lib.hid (show ns'.length ≤ 8 from by rw [hP2]; exact hn8)
     clear hP hP2 hP3
     have x8 := k8.cell
     have x4 := hG.b4.cell
     have f4 := hG.b4.frozen
     go_upto_region 22 with fail
     have hG2 := hG.put hne24 hn' hl' hP1
     have hD2 := hD.put2 hgd4 (.slice B1 m1 b1) (.slice B2 m2 b2)
     clear x8 x4 f4 hG hD hn' hl' k8 hP1
     generalize World.setCell (World.setCell w7 _ _) _ _ = w8 at *
     go_wp2
     go_roundw
     case rel => exact ⟨m - 1, _, _, ns', ls', k4, by omega, congrArg (Value.int .i64) HM1.out, hG2, hD2, HP.out⟩
     case measure => simp [intOf]; omega
    ·have her2 : (er == 0) = false := by simpa using her
     clear k8 hn' hl' hP
     go_upto_region 22 with fail
     go_wp2
     go_roundw
     case rel => exact ⟨m - 1, _, _, ns, ls, k4, by omega, congrArg (Value.int .i64) HM1.out, hG, hD, hn8⟩
     case measure => simp [intOf]; omega
end Go.Proofs.Ytobhdldlhhigdaa

namespace Go.Proofs.Ytobhdldlhhigdaa
open Go.RowKit Go.Maps
set_option maxRecDepth 100000 in
theorem place_end_none {l : List Q4} {x : Int} (h : placeN l x = none) : endS l x = none := by
 rw [ends_none]
 unfold placeN at h
 rw [List.findIdx?_eq_none_iff] at h
 intro u hu
 simpa using h u hu
set_option maxRecDepth 100000 in
theorem place_end_some {l : List Q4} {x : Int} {i : Nat} {u : Q4} (h : placeN l x = some i) (hu : l[i]? = some u) : endS l x = some u.d := by
 unfold endS findN
 have : l.find? (fun n => n.a == x) = some u := by
  unfold placeN at h
  obtain ⟨hk, h1, h2⟩ := List.findIdx?_eq_some_iff_getElem.1 h
  obtain ⟨_, hu2⟩ := List.getElem?_eq_some_iff.1 hu
  rw [List.find?_eq_some_iff_getElem]
  rw [hu2] at h1
  exact ⟨h1, i, hk, hu2, fun j hj => by simpa using h2 j hj⟩
 rw [this]
 rfl
set_option maxRecDepth 100000 in
set_option maxHeartbeats 4000000 in
theorem slot_any (A : Option Addr) (c : Nat) (sl : List Q4) (id : Int) (w : World) (h : Qs w A sl) (hl : sl.length ≤ 9223372036854775807) :
 Calls Try.prog 46 #[.slice A sl.length c, .int .i64 id] w fun e w' => e = .returned (.int .i64 (placeV (placeN sl id))) ∧ w = w' := by
 go_enter Try.func46, Try.ntmps46
 go_wp2_with fail
 go_loop [5] (fun i => ∃ k : Nat, k ≤ sl.length ∧ i = .int .i64 k ∧ Hid (placeN (sl.take k) id = none)) (fun i => sl.length - (intOf i).toNat)
 case atStart => exact ⟨0, by omega, rfl, Lib.hid rfl⟩
 case round =>
  obtain ⟨k, hk, rfl, HF⟩ := hrel
  by_cases hlt : k < sl.length
  ·obtain ⟨ad, x, e1, had, hx, q0, q1, q2, q3⟩ := h.elem hlt
   subst e1
   have HX := Lib.hid hx
   clear hx
   by_cases he : x.a = id
   ·have HE : Hid (placeN sl id = some k) := Lib.hid (place_at HF.out HX.out he)
    subst he
    go_wp2
    go_ret
    rw [HE.out]
    exact ⟨rfl, rfl⟩
   ·have HF2 : Hid (placeN (sl.take (k + 1)) id = none) := Lib.hid (place_up HF.out HX.out he)
    have he2 : (x.a == id) = false := by simpa using he
    go_wp2
    go_round
    case rel => exact ⟨k + 1, by omega, by go_num, HF2⟩
    case measure => simp [intOf]; omega
  ·have HE : Hid (placeN sl id = none) := Lib.hid (by have := HF.out; rwa [List.take_of_length_le (by omega)] at this)
   go_wp2
   go_ret
   rw [HE.out]
   exact ⟨rfl, rfl⟩
set_option maxRecDepth 100000 in
theorem slot_is (A : Option Addr) (c : Nat) (sl : List Q4) (id z : Int) (w : World) (h : Qs w A sl) (hl : sl.length ≤ 9223372036854775807) (hz : placeV (placeN sl id) = z) :
 Calls Try.prog 46 #[.slice A sl.length c, .int .i64 id] w fun e w' => e = .returned (.int .i64 z) ∧ Grows w w' := by
 subst hz
 exact (slot_any A c sl id w h hl).mono fun _ _ ⟨he, hw⟩ => ⟨he, hw ▸ Below.refl _ w⟩
set_option maxRecDepth 100000 in
theorem ready_snoc {ls sl : List Q4} {id t : Int} {k : Nat} {l : Q4} (h : readyS (ls.take k) sl id t = true) (hx : ls[k]? = some l) (hl : l.c = id → ∃ v, findN sl l.a = some v ∧ v.d ≤ t) : readyS (ls.take (k + 1)) sl id t = true := by
 rw [ready_iff] at *
 intro q hq hc
 rw [take_snoc hx] at hq
 rcases List.mem_append.1 hq with hq | hq
 ·exact h q hq hc
 ·simp only [List.mem_singleton] at hq
  subst hq
  exact hl hc
set_option maxRecDepth 100000 in
theorem ready_not {ls sl : List Q4} {id t : Int} {l : Q4} (hx : l ∈ ls) (hc : l.c = id) (h : ∀ e, endS sl l.a = some e → t < e) : readyS ls sl id t = false := by
 cases e : readyS ls sl id t
 ·rfl
 ·obtain ⟨v, hv, h1⟩ := ready_iff.1 e l hx hc
  have := h v.d (by unfold endS; rw [hv]; rfl)
  omega
set_option maxRecDepth 100000 in
set_option maxHeartbeats 8000000 in
theorem ready_any {A A2 A3 : Option Addr} {c2 : Nat} {ns ls sl : List Q4} {w : World} (c c3 : Nat) (id t : Int) (h : GOK w A A2 c2 ns ls) (hs : Qs w A3 sl) (hsl : sl.length ≤ 9223372036854775807) :
 Calls Try.prog 47 #[.agg #[.slice A ns.length c, .slice A2 ls.length c2], .slice A3 sl.length c3, .int .i64 id, .int .i64 t] w fun e w' => e = .returned (.bool (readyS ls sl id t)) ∧ Grows w w' := by
 have hll := h.ll
 have k4 := Blk.new w 26 #[.slice A ns.length c, .slice A2 ls.length c2]
 have hB := (Below.refl w.heap.size w).alloc (Nat.le_refl _) (Obj.cells #[.slice A ns.length c, .slice A2 ls.length c2] 26)
 go_enter Try.func47, Try.ntmps47
 go_upto_region 1 with fail
 generalize World.alloc w _ = w1 at *
 have h1 := h.grows hB
 have hs1 := hs.grows hB
 have x4 := k4.cell
 go_wp2_with fail
 go_loop [9] (fun i => ∃ k : Nat, k ≤ ls.length ∧ i = .int .i64 k ∧ Hid (readyS (ls.take k) sl id t = true)) (fun i => ls.length - (intOf i).toNat)
 case atStart => exact ⟨0, by omega, rfl, Lib.hid rfl⟩
 case round =>
  obtain ⟨k, hk, rfl, HA⟩ := hrel
  by_cases hlt : k < ls.length
  ·obtain ⟨ad, l, e1, had, hx, q0, q1, q2, q3⟩ := h1.l.elem hlt
   subst e1
   have HX := Lib.hid hx
   clear hx
   by_cases hc : l.c = id
   ·have HC := Lib.hid hc
    have hc2 : (l.c != id) = false := by simpa using hc
    clear hc
    obtain ⟨z, hz⟩ : ∃ z, placeV (placeN sl l.a) = z := ⟨_, rfl⟩
    have HZ := Lib.hid hz
    clear hz
    go_wp2_with fail
    refine (slot_any A3 c3 sl l.a _ hs1 hsl).mono ?_
    rw [HZ.out]
    rintro e w2 ⟨rfl, rfl⟩
    cases hp : placeN sl l.a with
    | none =>
     have hz0 : z = -1 := by rw [← HZ.out, hp]; rfl
     subst hz0
     have HE : Hid (readyS ls sl id t = false) := Lib.hid (ready_not (List.mem_of_getElem? HX.out) HC.out (fun e he => by rw [place_end_none hp] at he; cases he))
     clear hp
     go_wp2
     go_ret
     rw [HE.out]
     exact ⟨rfl, hB⟩
    | some i =>
     have hz0 : z = (i : Int) := by rw [← HZ.out, hp]; rfl
     subst hz0
     obtain ⟨u, hu, hua⟩ := placeN_some hp
     have hi := (List.getElem?_eq_some_iff.1 hu).1
     obtain ⟨ad3, u', e3, had3, hu', r0, r1, r2, r3⟩ := hs1.elem hi
     subst e3
     rw [hu] at hu'
     injection hu' with hu'
     subst hu'
     by_cases hd : t < u.d
     ·have HE : Hid (readyS ls sl id t = false) := Lib.hid (ready_not (List.mem_of_getElem? HX.out) HC.out (fun e he => by rw [place_end_some hp hu] at he; injection he with he; omega))
      clear hp hu hua
      go_wp2
      go_ret
      rw [HE.out]
      exact ⟨rfl, hB⟩
     ·have HA2 : Hid (readyS (ls.take (k + 1)) sl id t = true) := Lib.hid (ready_snoc HA.out HX.out fun _ => by
       have := place_end_some hp hu
       unfold endS at this
       cases e9 : findN sl l.a with
       | none => rw [e9] at this; cases this
       | some v => rw [e9] at this; injection this with this; exact ⟨v, rfl, by omega⟩)
      clear hp hu hua
      go_wp2
      go_round
      case rel => exact ⟨k + 1, by omega, by go_num, HA2⟩
      case measure => simp [intOf]; omega
   ·have HA2 : Hid (readyS (ls.take (k + 1)) sl id t = true) := Lib.hid (ready_snoc HA.out HX.out fun e => absurd e hc)
    have hc2 : (l.c != id) = true := by simpa using hc
    go_wp2
    go_round
    case rel => exact ⟨k + 1, by omega, by go_num, HA2⟩
    case measure => simp [intOf]; omega
  ·have HE : Hid (readyS ls sl id t = true) := Lib.hid (by have := HA.out; rwa [List.take_of_length_le (by omega)] at this)
   go_wp2
   go_ret
   rw [HE.out]
   exact ⟨rfl, hB⟩
set_option maxRecDepth 100000 in
theorem ready_is {A A2 A3 : Option Addr} {c2 : Nat} {ns ls sl : List Q4} (c c3 : Nat) (id t : Int) (b : Bool) (w : World) (h : GOK w A A2 c2 ns ls) (hs : Qs w A3 sl) (hsl : sl.length ≤ 9223372036854775807) (hb : readyS ls sl id t = b) :
 Calls Try.prog 47 #[.agg #[.slice A ns.length c, .slice A2 ls.length c2], .slice A3 sl.length c3, .int .i64 id, .int .i64 t] w fun e w' => e = .returned (.bool b) ∧ Grows w w' := by
 subst hb
 exact ready_any c c3 id t h hs hsl
set_option maxRecDepth 100000 in
set_option maxHeartbeats 4000000 in
theorem free_any (A : Option Addr) (c : Nat) (l : List Int) (t : Int) (w : World) (h : Ints w A l) (hl : l.length ≤ 9223372036854775807) :
 Calls Try.prog 35 #[.slice A l.length c, .int .i64 t] w fun e w' => e = .returned (.int .i64 (placeV (freeS l t))) ∧ w = w' := by
 go_enter Try.func35, Try.ntmps35
 go_wp2_with fail
 go_loop [5] (fun i => ∃ k : Nat, k ≤ l.length ∧ i = .int .i64 k ∧ Hid (freeS (l.take k) t = none)) (fun i => l.length - (intOf i).toNat)
 case atStart => exact ⟨0, by omega, rfl, Lib.hid rfl⟩
 case round =>
  obtain ⟨k, hk, rfl, HF⟩ := hrel
  by_cases hlt : k < l.length
  ·obtain ⟨ad, x, e1, had, hx, q0⟩ := h.at_ hlt
   subst e1
   have HX := Lib.hid hx
   clear hx
   by_cases he : x ≤ t
   ·have HE : Hid (freeS l t = some k) := Lib.hid (by
     have h1 := HF.out
     unfold freeS at *
     rw [List.findIdx?_eq_none_iff] at h1
     rw [List.findIdx?_eq_some_iff_getElem]
     obtain ⟨hk3, hx3⟩ := List.getElem?_eq_some_iff.1 HX.out
     refine ⟨hk3, by rw [hx3]; simpa using he, fun j hj => ?_⟩
     have := h1 (l[j]'(by omega)) (by
      rw [List.mem_take_iff_getElem]
      exact ⟨j, by omega, rfl⟩)
     rw [this]
     simp)
    go_wp2
    go_ret
    rw [HE.out]
    exact ⟨rfl, rfl⟩
   ·have HF2 : Hid (freeS (l.take (k + 1)) t = none) := Lib.hid (by
     have h1 := HF.out
     unfold freeS at *
     rw [take_snoc HX.out]
     rw [List.findIdx?_eq_none_iff] at *
     intro y hy
     rcases List.mem_append.1 hy with hy | hy
     ·exact h1 y hy
     ·simp only [List.mem_singleton] at hy
      subst hy
      simpa using he)
    go_wp2
    go_round
    case rel => exact ⟨k + 1, by omega, by go_num, HF2⟩
    case measure => simp [intOf]; omega
  ·have HE : Hid (freeS l t = none) := Lib.hid (by have := HF.out; rwa [List.take_of_length_le (by omega)] at this)
   go_wp2
   go_ret
   rw [HE.out]
   exact ⟨rfl, rfl⟩
def laterK (l : List Q4) (t : Int) (k : Nat) : Int := laterS (l.take k) t
set_option maxRecDepth 100000 in
theorem laterK_succ {l : List Q4} {t : Int} {k : Nat} {s : Q4} (h : l[k]? = some s) : laterK l t (k + 1) = if t < s.d ∧ (laterK l t k < 0 ∨ s.d < laterK l t k) then s.d else laterK l t k := by
 unfold laterK laterS
 rw [take_snoc h, List.foldl_append]
 rfl
set_option maxRecDepth 100000 in
set_option maxHeartbeats 4000000 in
theorem later_any (A : Option Addr) (c : Nat) (sl : List Q4) (t : Int) (w : World) (h : Qs w A sl) (hl : sl.length ≤ 9223372036854775807) :
 Calls Try.prog 36 #[.slice A sl.length c, .int .i64 t] w fun e w' => e = .returned (.int .i64 (laterS sl t)) ∧ w = w' := by
 go_enter Try.func36, Try.ntmps36
 go_wp2_with fail
 go_loop [5, 6] (fun v i => ∃ k : Nat, k ≤ sl.length ∧ i = .int .i64 k ∧ ∃ z : Int, v = .int .i64 z ∧ Hid (laterK sl t k = z)) (fun _ i => sl.length - (intOf i).toNat)
 case atStart => exact ⟨0, by omega, rfl, -1, rfl, Lib.hid rfl⟩
 case round =>
  obtain ⟨k, hk, rfl, z, rfl, HZ⟩ := hrel
  by_cases hlt : k < sl.length
  ·obtain ⟨ad, x, e1, had, hx, q0, q1, q2, q3⟩ := h.elem hlt
   subst e1
   have HU := Lib.hid (laterK_succ (t := t) hx)
   clear hx
   by_cases h1 : t < x.d
   ·by_cases h2 : z < 0
    ·have HZ2 : Hid (laterK sl t (k + 1) = x.d) := Lib.hid (by rw [HU.out, HZ.out, if_pos ⟨h1, .inl h2⟩])
     go_wp2
     go_round
     case rel => exact ⟨k + 1, by omega, by go_num, x.d, rfl, HZ2⟩
     case measure => simp [intOf]; omega
    ·by_cases h3 : x.d < z
     ·have HZ2 : Hid (laterK sl t (k + 1) = x.d) := Lib.hid (by rw [HU.out, HZ.out, if_pos ⟨h1, .inr h3⟩])
      go_wp2
      go_round
      case rel => exact ⟨k + 1, by omega, by go_num, x.d, rfl, HZ2⟩
      case measure => simp [intOf]; omega
     ·have HZ2 : Hid (laterK sl t (k + 1) = z) := Lib.hid (by rw [HU.out, HZ.out, if_neg (by omega)])
      go_wp2
      go_round
      case rel => exact ⟨k + 1, by omega, by go_num, z, rfl, HZ2⟩
      case measure => simp [intOf]; omega
   ·have HZ2 : Hid (laterK sl t (k + 1) = z) := Lib.hid (by rw [HU.out, HZ.out, if_neg (by omega)])
    go_wp2
    go_round
    case rel => exact ⟨k + 1, by omega, by go_num, z, rfl, HZ2⟩
    case measure => simp [intOf]; omega
  ·have HE : Hid (laterS sl t = z) := Lib.hid (by have := HZ.out; unfold laterK at this; rwa [List.take_of_length_le (by omega)] at this)
   go_wp2
   go_ret
   rw [HE.out]
   exact ⟨rfl, rfl⟩
def spanK (l : List Q4) (k : Nat) : Int := spanL (l.take k)
set_option maxRecDepth 100000 in
theorem spanK_succ {l : List Q4} {k : Nat} {s : Q4} (h : l[k]? = some s) : spanK l (k + 1) = max (spanK l k) s.d := by
 unfold spanK spanL
 rw [take_snoc h, List.foldl_append]
 rfl
set_option maxRecDepth 100000 in
set_option maxHeartbeats 4000000 in
theorem rspan_any (A : Option Addr) (c : Nat) (sl : List Q4) (w : World) (h : Qs w A sl) (hl : sl.length ≤ 9223372036854775807) :
 Calls Try.prog 16 #[.slice A sl.length c] w fun e w' => e = .returned (.int .i64 (spanL sl)) ∧ w = w' := by
 go_enter Try.func16, Try.ntmps16
 go_wp2_with fail
 go_loop [3, 4] (fun v i => ∃ k : Nat, k ≤ sl.length ∧ i = .int .i64 k ∧ ∃ z : Int, v = .int .i64 z ∧ Hid (spanK sl k = z)) (fun _ i => sl.length - (intOf i).toNat)
 case atStart => exact ⟨0, by omega, rfl, 0, rfl, Lib.hid rfl⟩
 case round =>
  obtain ⟨k, hk, rfl, z, rfl, HZ⟩ := hrel
  by_cases hlt : k < sl.length
  ·obtain ⟨ad, x, e1, had, hx, q0, q1, q2, q3⟩ := h.elem hlt
   subst e1
   have HU := Lib.hid (spanK_succ hx)
   clear hx
   by_cases h1 : z < x.d
   ·have HZ2 : Hid (spanK sl (k + 1) = x.d) := Lib.hid (by rw [HU.out, HZ.out]; omega)
    go_wp2
    go_round
    case rel => exact ⟨k + 1, by omega, by go_num, x.d, rfl, HZ2⟩
    case measure => simp [intOf]; omega
   ·have HZ2 : Hid (spanK sl (k + 1) = z) := Lib.hid (by rw [HU.out, HZ.out]; omega)
    go_wp2
    go_round
    case rel => exact ⟨k + 1, by omega, by go_num, z, rfl, HZ2⟩
    case measure => simp [intOf]; omega
  ·have HE : Hid (spanL sl = z) := Lib.hid (by have := HZ.out; unfold spanK at this; rwa [List.take_of_length_le (by omega)] at this)
   go_wp2
   go_ret
   rw [HE.out]
   exact ⟨rfl, rfl⟩
set_option maxRecDepth 100000 in
set_option maxHeartbeats 8000000 in
theorem rproblem_any {A A2 A3 : Option Addr} {c2 : Nat} {ns ls : List Q4} {cs : List Int} {w : World} (c c3 : Nat) (wk : Int) (h : GOK w A A2 c2 ns ls) (h3 : Ints w A3 cs) (hl3 : cs.length ≤ 9223372036854775807) :
 Calls Try.prog 32 #[.agg #[.slice A ns.length c, .slice A2 ls.length c2], .slice A3 cs.length c3, .int .i64 wk] w fun e w' => e = .returned (.bool (probB ns ls cs wk)) ∧ Grows w w' := by
 have hnl := h.nl
 have k1 := Blk.new w 26 #[.slice A ns.length c, .slice A2 ls.length c2]
 have hB := (Below.refl w.heap.size w).alloc (Nat.le_refl _) (Obj.cells #[.slice A ns.length c, .slice A2 ls.length c2] 26)
 go_enter Try.func32, Try.ntmps32
 go_upto_region 1 with fail
 generalize World.alloc w _ = w1 at *
 have x1 := k1.cell
 go_wp2_with fail
 refine (rvalid_is (h.grows hB)).mono ?_
 cases hv : validG ns ls
 ·have HE : Hid (probB ns ls cs wk = false) := Lib.hid (by simp [probB, hv])
  clear hv
  rintro e w2 ⟨rfl, hq⟩
  replace hB := below_grows hB (Nat.le_refl _) hq
  clear hq x1
  go_wp2
  go_ret
  rw [HE.out]
  exact ⟨rfl, hB⟩
 rintro e w2 ⟨rfl, hq⟩
 have HV := Lib.hid hv
 clear hv
 replace hB := below_grows hB (Nat.le_refl _) hq
 replace k1 := k1.grows hq
 clear hq x1
 have x1 := k1.cell
 by_cases hlen : cs.length = ns.length
 case neg =>
  have HE : Hid (probB ns ls cs wk = false) := Lib.hid (by simp [probB, okW, hlen])
  have hlen2 : ((cs.length : Int) != (ns.length : Int)) = true := by
   simp only [bne_iff_ne, ne_eq]
   omega
  go_wp2
  go_ret
  rw [HE.out]
  exact ⟨rfl, hB⟩
 have hlen2 : ((cs.length : Int) != (ns.length : Int)) = false := by
  simp only [bne_eq_false_iff_eq]
  omega
 have HLen := Lib.hid hlen
 clear hlen
 by_cases hw1 : wk < 1
 ·have HE : Hid (probB ns ls cs wk = false) := Lib.hid (by simp [probB]; omega)
  go_wp2
  go_ret
  rw [HE.out]
  exact ⟨rfl, hB⟩
 by_cases hw2 : 8 < wk
 ·have HE : Hid (probB ns ls cs wk = false) := Lib.hid (by simp [probB]; omega)
  go_wp2
  go_ret
  rw [HE.out]
  exact ⟨rfl, hB⟩
 go_wp2_with fail
 clear x1 hlen2
 go_loop [7] (fun i => ∃ k : Nat, k ≤ cs.length ∧ i = .int .i64 k ∧ Hid ((cs.take k).any badW = false)) (fun i => cs.length - (intOf i).toNat)
 case atStart => exact ⟨0, by omega, rfl, Lib.hid rfl⟩
 case round =>
  obtain ⟨k, hk, rfl, HA⟩ := hrel
  by_cases hlt : k < cs.length
  ·obtain ⟨ad, x, e1, had, hx, q0⟩ := (h3.grows hB).at_ hlt
   subst e1
   have HX := Lib.hid hx
   clear hx
   by_cases hb1 : x < 0
   ·have HE : Hid (probB ns ls cs wk = false) := Lib.hid (by
     have : cs.any badW = true := List.any_eq_true.2 ⟨x, List.mem_of_getElem? HX.out, by simp [badW, hb1]⟩
     simp [probB, okW, this])
    go_wp2
    go_ret
    rw [HE.out]
    exact ⟨rfl, hB⟩
   by_cases hb2 : 1099511627776 < x
   ·have HE : Hid (probB ns ls cs wk = false) := Lib.hid (by
     have : cs.any badW = true := List.any_eq_true.2 ⟨x, List.mem_of_getElem? HX.out, by simp [badW, hb2]⟩
     simp [probB, okW, this])
    go_wp2
    go_ret
    rw [HE.out]
    exact ⟨rfl, hB⟩
   have HA2 : Hid ((cs.take (k + 1)).any badW = false) := Lib.hid (by
    rw [take_snoc HX.out, List.any_append, HA.out]
    simp [badW, hb1, hb2])
   go_wp2
   go_round
   case rel => exact ⟨k + 1, by omega, by go_num, HA2⟩
   case measure => simp [intOf]; omega
  ·have HE : Hid (probB ns ls cs wk = true) := Lib.hid (by
    have := HA.out
    rw [List.take_of_length_le (by omega)] at this
    rw [prob_iff]
    exact ⟨HV.out, by simp [okW, this, HLen.out], by omega, by omega⟩)
   go_wp2
   go_ret
   rw [HE.out]
   exact ⟨rfl, hB⟩
set_option maxRecDepth 100000 in
theorem next_up {od : List Int} {ls sl : List Q4} {t id : Int} {k : Nat} (h : nextS (od.take k) ls sl t = none) (hx : od[k]? = some id) (hn : ((endS sl id).isNone && readyS ls sl id t) = false) : nextS (od.take (k + 1)) ls sl t = none := by
 unfold nextS at *
 rw [take_snoc hx, List.find?_append, h]
 simp [hn]
set_option maxRecDepth 100000 in
theorem next_hit {od : List Int} {ls sl : List Q4} {t id : Int} {k : Nat} (h : nextS (od.take k) ls sl t = none) (hx : od[k]? = some id) (hn : ((endS sl id).isNone && readyS ls sl id t) = true) : nextS od ls sl t = some id := by
 unfold nextS at *
 obtain ⟨hk, hx2⟩ := List.getElem?_eq_some_iff.1 hx
 have e : od = od.take k ++ id :: od.drop (k + 1) := by
  rw [← hx2, ← List.drop_eq_getElem_cons hk, List.take_append_drop]
 rw [e, List.find?_append, h]
 simp [hn]
set_option maxRecDepth 100000 in
set_option maxHeartbeats 8000000 in
theorem rnext_any {A A2 A3 A4 : Option Addr} {c2 : Nat} {ns ls sl : List Q4} {od : List Int} {w : World} (c c3 c4 : Nat) (t : Int) (h : GOK w A A2 c2 ns ls) (ho : Ints w A4 od) (hol : od.length ≤ 9223372036854775807) (hs : Qs w A3 sl) (hsl : sl.length ≤ 9223372036854775807) :
 Calls Try.prog 34 #[.agg #[.slice A ns.length c, .slice A2 ls.length c2], .slice A4 od.length c4, .slice A3 sl.length c3, .int .i64 t] w fun e w' => e = .returned (.int .i64 ((nextS od ls sl t).getD 0)) ∧ Grows w w' := by
 have k4 := Blk.new w 26 #[.slice A ns.length c, .slice A2 ls.length c2]
 have hB := (Below.refl w.heap.size w).alloc (Nat.le_refl _) (Obj.cells #[.slice A ns.length c, .slice A2 ls.length c2] 26)
 go_enter Try.func34, Try.ntmps34
 go_upto_region 1 with fail
 generalize World.alloc w _ = w1 at *
 go_wp2_with fail
 go_loopw [9] (fun i wr => ∃ k : Nat, k ≤ od.length ∧ i = .int .i64 k ∧ Hid (nextS (od.take k) ls sl t = none) ∧ Blk wr w.heap.size 26 #[.slice A ns.length c, .slice A2 ls.length c2] ∧ Below w.heap.size w wr) (fun i _ => od.length - (intOf i).toNat)
 case atStart => exact ⟨0, by omega, rfl, Lib.hid rfl, k4, hB⟩
 case round =>
  clear k4 hB
  obtain ⟨k, hk, rfl, HN, k4, hB⟩ := hrel
  by_cases hlt : k < od.length
  ·obtain ⟨ad, id, e1, had, hx, p0⟩ := (ho.grows hB).at_ hlt
   subst e1
   have HX := Lib.hid hx
   clear hx
   obtain ⟨z, hz⟩ : ∃ z, placeV (placeN sl id) = z := ⟨_, rfl⟩
   have HZ := Lib.hid hz
   clear hz
   obtain ⟨r, hr⟩ : ∃ r, readyS ls sl id t = r := ⟨_, rfl⟩
   have HR := Lib.hid hr
   clear hr
   go_upto_region 4 with fail
   cases hp : placeN sl id with
   | some i =>
    have hz0 : ¬ z < 0 := by rw [← HZ.out, hp]; simp [placeV]
    have HN2 : Hid (nextS (od.take (k + 1)) ls sl t = none) := Lib.hid (next_up HN.out HX.out (by
     obtain ⟨u, hu, _⟩ := placeN_some hp
     rw [place_end_some hp hu]
     rfl))
    clear hp
    obtain ⟨S, HI, HO⟩ := hideS fun (L : Ran) (vs : Nat → Value) (w' : World) => Grows wr w' ∧ KnS [some (.slice A3 sl.length c3), some (.slice (some ad) od.length c4), some (.int .i64 (k : Int)), some (.pointer (some (ad.add k))), some (.int .i64 id), some (.int .i64 z), some (.bool false), some (.bool false), none, none, none, none, none, none, none, none, some (.bool false)] L vs
    refine wp_region_genW S 37 (by kernel_rfl) (by kernel_rfl) rfl ?_ ?_
    ·exact HI.out _ _ _ ⟨Grows.drew' _, kn_none _ _⟩
    refine gen_consR (fun vs L w1 hL hw1 => ?_) ?_
    ·obtain ⟨q0, q1⟩ := HO.out _ _ _ hw1
     refine gen_plain rfl ?_
     go_simp
     exact gr_val (HI.out _ _ _ ⟨q0, kn_known q1 rfl⟩)
    refine gen_consR (fun vs L w1 hL hw1 => ?_) ?_
    ·obtain ⟨q0, q1⟩ := HO.out _ _ _ hw1
     refine gen_plain rfl ?_
     go_simp
     exact gr_val (HI.out _ _ _ ⟨q0, kn_known q1 rfl⟩)
    refine gen_consR (fun vs L w1 hL hw1 => ?_) ?_
    ·obtain ⟨q0, q1⟩ := HO.out _ _ _ hw1
     refine gen_plain rfl ?_
     go_simp
     exact gr_val (HI.out _ _ _ ⟨q0, kn_known q1 rfl⟩)
    refine gen_consR (fun vs L w1 hL hw1 => ?_) ?_
    ·obtain ⟨q0, q1⟩ := HO.out _ _ _ hw1
     refine gen_plain rfl ?_
     have l1 : L 1 = true := hL.need 1 (by kernel_rfl)
     have e1 := q1 1 _ rfl l1
     have l2 : L 2 = true := hL.need 2 (by kernel_rfl)
     have e2 := q1 2 _ rfl l2
     simp only [e1, e2]
     go_simp
     exact gr_val (HI.out _ _ _ ⟨q0, kn_known q1 rfl⟩)
    refine gen_consR (fun vs L w1 hL hw1 => ?_) ?_
    ·obtain ⟨q0, q1⟩ := HO.out _ _ _ hw1
     refine gen_plain rfl ?_
     have l3 : L 3 = true := hL.need 3 (by kernel_rfl)
     have e3 := q1 3 _ rfl l3
     simp only [e3]
     have x := q0.cell (p := ad.add k) (by rw [block_of_add]; exact had)
     rw [p0] at x
     go_simp
     exact gr_val (HI.out _ _ _ ⟨q0, kn_known q1 rfl⟩)
    refine gen_consR (fun vs L w1 hL hw1 => ?_) ?_
    ·obtain ⟨q0, q1⟩ := HO.out _ _ _ hw1
     refine gen_plain rfl ?_
     have l0 : L 0 = true := hL.need 0 (by kernel_rfl)
     have e0 := q1 0 _ rfl l0
     have l4 : L 4 = true := hL.need 4 (by kernel_rfl)
     have e4 := q1 4 _ rfl l4
     simp only [e0, e4]
     go_simp
     refine gr_call ?_
     refine (slot_is A3 c3 sl id z w1 (hs.grows (below_grows hB (Nat.le_refl _) q0)) hsl HZ.out).mono ?_
     rintro e w2 ⟨rfl, hg⟩
     exact ⟨_, rfl, HI.out _ _ _ ⟨below_grows q0 (Nat.le_refl _) hg, kn_known q1 rfl⟩⟩
    refine gen_consR (fun vs L w1 hL hw1 => ?_) ?_
    ·obtain ⟨q0, q1⟩ := HO.out _ _ _ hw1
     refine gen_plain rfl ?_
     have l5 : L 5 = true := hL.need 5 (by kernel_rfl)
     have e5 := q1 5 _ rfl l5
     simp only [e5]
     go_simp
     exact gr_val (HI.out _ _ _ ⟨q0, kn_known q1 rfl⟩)
    refine gen_consR (fun vs L w1 hL hw1 => ?_) ?_
    ·obtain ⟨q0, q1⟩ := HO.out _ _ _ hw1
     refine gen_plain rfl ?_
     have l6 : L 6 = true := hL.need 6 (by kernel_rfl)
     have e6 := q1 6 _ rfl l6
     simp only [e6]
     go_simp
     exact gr_val (HI.out _ _ _ ⟨q0, kn_known q1 rfl⟩)
    refine gen_consR (fun vs L w1 hL hw1 => ?_) ?_
    ·obtain ⟨q0, q1⟩ := HO.out _ _ _ hw1
     have l7 : L 7 = true := hL.need 7 (by kernel_rfl)
     have e7 := q1 7 _ rfl l7
     refine gen_no ?_ ?_
     ·simp only [e7]
      rfl
     ·exact HI.out _ _ _ ⟨q0, kn_free q1 rfl⟩
    refine gen_consR (fun vs L w1 hL hw1 => ?_) ?_
    ·obtain ⟨q0, q1⟩ := HO.out _ _ _ hw1
     have l7 : L 7 = true := hL.need 7 (by kernel_rfl)
     have e7 := q1 7 _ rfl l7
     refine gen_no ?_ ?_
     ·simp only [e7]
      rfl
     ·exact HI.out _ _ _ ⟨q0, kn_free q1 rfl⟩
    refine gen_consR (fun vs L w1 hL hw1 => ?_) ?_
    ·obtain ⟨q0, q1⟩ := HO.out _ _ _ hw1
     have l7 : L 7 = true := hL.need 7 (by kernel_rfl)
     have e7 := q1 7 _ rfl l7
     refine gen_no ?_ ?_
     ·simp only [e7]
      rfl
     ·exact HI.out _ _ _ ⟨q0, kn_free q1 rfl⟩
    refine gen_consR (fun vs L w1 hL hw1 => ?_) ?_
    ·obtain ⟨q0, q1⟩ := HO.out _ _ _ hw1
     have l7 : L 7 = true := hL.need 7 (by kernel_rfl)
     have e7 := q1 7 _ rfl l7
     refine gen_no ?_ ?_
     ·simp only [e7]
      rfl
     ·exact HI.out _ _ _ ⟨q0, kn_free q1 rfl⟩
    refine gen_consR (fun vs L w1 hL hw1 => ?_) ?_
    ·obtain ⟨q0, q1⟩ := HO.out _ _ _ hw1
     have l7 : L 7 = true := hL.need 7 (by kernel_rfl)
     have e7 := q1 7 _ rfl l7
     refine gen_no ?_ ?_
     ·simp only [e7]
      rfl
     ·exact HI.out _ _ _ ⟨q0, kn_free q1 rfl⟩
    refine gen_consR (fun vs L w1 hL hw1 => ?_) ?_
    ·obtain ⟨q0, q1⟩ := HO.out _ _ _ hw1
     have l7 : L 7 = true := hL.need 7 (by kernel_rfl)
     have e7 := q1 7 _ rfl l7
     refine gen_no ?_ ?_
     ·simp only [e7]
      rfl
     ·exact HI.out _ _ _ ⟨q0, kn_free q1 rfl⟩
    refine gen_consR (fun vs L w1 hL hw1 => ?_) ?_
    ·obtain ⟨q0, q1⟩ := HO.out _ _ _ hw1
     have l7 : L 7 = true := hL.need 7 (by kernel_rfl)
     have e7 := q1 7 _ rfl l7
     refine gen_no ?_ ?_
     ·simp only [e7]
      rfl
     ·exact HI.out _ _ _ ⟨q0, kn_free q1 rfl⟩
    refine gen_consR (fun vs L w1 hL hw1 => ?_) ?_
    ·obtain ⟨q0, q1⟩ := HO.out _ _ _ hw1
     have l7 : L 7 = true := hL.need 7 (by kernel_rfl)
     have e7 := q1 7 _ rfl l7
     refine gen_no ?_ ?_
     ·simp only [e7]
      rfl
     ·exact HI.out _ _ _ ⟨q0, kn_free q1 rfl⟩
    refine gen_consR (fun vs L w1 hL hw1 => ?_) ?_
    ·obtain ⟨q0, q1⟩ := HO.out _ _ _ hw1
     refine gen_plain rfl ?_
     have l7 : L 7 = true := hL.need 7 (by kernel_rfl)
     have e7 := q1 7 _ rfl l7
     simp only [e7]
     go_simp
     exact gr_val (HI.out _ _ _ ⟨q0, kn_known q1 rfl⟩)
    refine gen_nil ?_
    intro vs L W6 hall hS
    obtain ⟨hq, q1⟩ := HO.out _ _ _ hS
    have eX16 := q1 16 _ rfl (hall 16 (by simp))
    clear hall hS HI HO q1
    simp only [eX16]
    clear eX16
    replace hB := below_grows hB (Nat.le_refl _) hq
    replace k4 := k4.grows hq
    clear hq p0
    go_wp2
    go_roundw
    case rel => exact ⟨k + 1, by omega, by go_num, HN2, k4, hB⟩
    case measure => simp [intOf]; omega
   | none =>
    have hz0 : z < 0 := by rw [← HZ.out, hp]; simp [placeV]
    have HE := Lib.hid (place_end_none hp)
    clear hp
    cases r with
    | false =>
     have HN2 : Hid (nextS (od.take (k + 1)) ls sl t = none) := Lib.hid (next_up HN.out HX.out (by rw [HR.out]; simp))
     obtain ⟨S, HI, HO⟩ := hideS fun (L : Ran) (vs : Nat → Value) (w' : World) => Grows wr w' ∧ KnS [some (.slice A3 sl.length c3), some (.slice (some ad) od.length c4), some (.int .i64 (k : Int)), some (.pointer (some (ad.add k))), some (.int .i64 id), some (.int .i64 z), some (.bool true), some (.bool true), some (.agg #[.slice A ns.length c, .slice A2 ls.length c2]), some (.slice A3 sl.length c3), some (.slice (some ad) od.length c4), some (.int .i64 (k : Int)), some (.pointer (some (ad.add k))), some (.int .i64 id), some (.int .i64 t), some (.bool false), some (.bool false)] L vs
     refine wp_region_genW S 37 (by kernel_rfl) (by kernel_rfl) rfl ?_ ?_
     ·exact HI.out _ _ _ ⟨Grows.drew' _, kn_none _ _⟩
     refine gen_consR (fun vs L w1 hL hw1 => ?_) ?_
     ·obtain ⟨q0, q1⟩ := HO.out _ _ _ hw1
      refine gen_plain rfl ?_
      go_simp
      exact gr_val (HI.out _ _ _ ⟨q0, kn_known q1 rfl⟩)
     refine gen_consR (fun vs L w1 hL hw1 => ?_) ?_
     ·obtain ⟨q0, q1⟩ := HO.out _ _ _ hw1
      refine gen_plain rfl ?_
      go_simp
      exact gr_val (HI.out _ _ _ ⟨q0, kn_known q1 rfl⟩)
     refine gen_consR (fun vs L w1 hL hw1 => ?_) ?_
     ·obtain ⟨q0, q1⟩ := HO.out _ _ _ hw1
      refine gen_plain rfl ?_
      go_simp
      exact gr_val (HI.out _ _ _ ⟨q0, kn_known q1 rfl⟩)
     refine gen_consR (fun vs L w1 hL hw1 => ?_) ?_
     ·obtain ⟨q0, q1⟩ := HO.out _ _ _ hw1
      refine gen_plain rfl ?_
      have l1 : L 1 = true := hL.need 1 (by kernel_rfl)
      have e1 := q1 1 _ rfl l1
      have l2 : L 2 = true := hL.need 2 (by kernel_rfl)
      have e2 := q1 2 _ rfl l2
      simp only [e1, e2]
      go_simp
      exact gr_val (HI.out _ _ _ ⟨q0, kn_known q1 rfl⟩)
     refine gen_consR (fun vs L w1 hL hw1 => ?_) ?_
     ·obtain ⟨q0, q1⟩ := HO.out _ _ _ hw1
      refine gen_plain rfl ?_
      have l3 : L 3 = true := hL.need 3 (by kernel_rfl)
      have e3 := q1 3 _ rfl l3
      simp only [e3]
      have x := q0.cell (p := ad.add k) (by rw [block_of_add]; exact had)
      rw [p0] at x
      go_simp
      exact gr_val (HI.out _ _ _ ⟨q0, kn_known q1 rfl⟩)
     refine gen_consR (fun vs L w1 hL hw1 => ?_) ?_
     ·obtain ⟨q0, q1⟩ := HO.out _ _ _ hw1
      refine gen_plain rfl ?_
      have l0 : L 0 = true := hL.need 0 (by kernel_rfl)
      have e0 := q1 0 _ rfl l0
      have l4 : L 4 = true := hL.need 4 (by kernel_rfl)
      have e4 := q1 4 _ rfl l4
      simp only [e0, e4]
      go_simp
      refine gr_call ?_
      refine (slot_is A3 c3 sl id z w1 (hs.grows (below_grows hB (Nat.le_refl _) q0)) hsl HZ.out).mono ?_
      rintro e w2 ⟨rfl, hg⟩
      exact ⟨_, rfl, HI.out _ _ _ ⟨below_grows q0 (Nat.le_refl _) hg, kn_known q1 rfl⟩⟩
     refine gen_consR (fun vs L w1 hL hw1 => ?_) ?_
     ·obtain ⟨q0, q1⟩ := HO.out _ _ _ hw1
      refine gen_plain rfl ?_
      have l5 : L 5 = true := hL.need 5 (by kernel_rfl)
      have e5 := q1 5 _ rfl l5
      simp only [e5]
      go_simp
      exact gr_val (HI.out _ _ _ ⟨q0, kn_known q1 rfl⟩)
     refine gen_consR (fun vs L w1 hL hw1 => ?_) ?_
     ·obtain ⟨q0, q1⟩ := HO.out _ _ _ hw1
      refine gen_plain rfl ?_
      have l6 : L 6 = true := hL.need 6 (by kernel_rfl)
      have e6 := q1 6 _ rfl l6
      simp only [e6]
      go_simp
      exact gr_val (HI.out _ _ _ ⟨q0, kn_known q1 rfl⟩)
     refine gen_consR (fun vs L w1 hL hw1 => ?_) ?_
     ·obtain ⟨q0, q1⟩ := HO.out _ _ _ hw1
      have l7 : L 7 = true := hL.need 7 (by kernel_rfl)
      have e7 := q1 7 _ rfl l7
      refine gen_yes ?_ ?_
      ·simp only [e7]
       rfl
      have x := (k4.grows q0).cell 
      go_simp
      exact gr_val (HI.out _ _ _ ⟨q0, kn_known q1 rfl⟩)
     refine gen_consR (fun vs L w1 hL hw1 => ?_) ?_
     ·obtain ⟨q0, q1⟩ := HO.out _ _ _ hw1
      have l7 : L 7 = true := hL.need 7 (by kernel_rfl)
      have e7 := q1 7 _ rfl l7
      refine gen_yes ?_ ?_
      ·simp only [e7]
       rfl
      go_simp
      exact gr_val (HI.out _ _ _ ⟨q0, kn_known q1 rfl⟩)
     refine gen_consR (fun vs L w1 hL hw1 => ?_) ?_
     ·obtain ⟨q0, q1⟩ := HO.out _ _ _ hw1
      have l7 : L 7 = true := hL.need 7 (by kernel_rfl)
      have e7 := q1 7 _ rfl l7
      refine gen_yes ?_ ?_
      ·simp only [e7]
       rfl
      go_simp
      exact gr_val (HI.out _ _ _ ⟨q0, kn_known q1 rfl⟩)
     refine gen_consR (fun vs L w1 hL hw1 => ?_) ?_
     ·obtain ⟨q0, q1⟩ := HO.out _ _ _ hw1
      have l7 : L 7 = true := hL.need 7 (by kernel_rfl)
      have e7 := q1 7 _ rfl l7
      refine gen_yes ?_ ?_
      ·simp only [e7]
       rfl
      go_simp
      exact gr_val (HI.out _ _ _ ⟨q0, kn_known q1 rfl⟩)
     refine gen_consR (fun vs L w1 hL hw1 => ?_) ?_
     ·obtain ⟨q0, q1⟩ := HO.out _ _ _ hw1
      have l7 : L 7 = true := hL.need 7 (by kernel_rfl)
      have e7 := q1 7 _ rfl l7
      refine gen_yes ?_ ?_
      ·simp only [e7]
       rfl
      have l10 : L 10 = true := hL.need 10 (by kernel_rfl)
      have e10 := q1 10 _ rfl l10
      have l11 : L 11 = true := hL.need 11 (by kernel_rfl)
      have e11 := q1 11 _ rfl l11
      simp only [e10, e11]
      go_simp
      exact gr_val (HI.out _ _ _ ⟨q0, kn_known q1 rfl⟩)
     refine gen_consR (fun vs L w1 hL hw1 => ?_) ?_
     ·obtain ⟨q0, q1⟩ := HO.out _ _ _ hw1
      have l7 : L 7 = true := hL.need 7 (by kernel_rfl)
      have e7 := q1 7 _ rfl l7
      refine gen_yes ?_ ?_
      ·simp only [e7]
       rfl
      have l12 : L 12 = true := hL.need 12 (by kernel_rfl)
      have e12 := q1 12 _ rfl l12
      simp only [e12]
      have x := q0.cell (p := ad.add k) (by rw [block_of_add]; exact had)
      rw [p0] at x
      go_simp
      exact gr_val (HI.out _ _ _ ⟨q0, kn_known q1 rfl⟩)
     refine gen_consR (fun vs L w1 hL hw1 => ?_) ?_
     ·obtain ⟨q0, q1⟩ := HO.out _ _ _ hw1
      have l7 : L 7 = true := hL.need 7 (by kernel_rfl)
      have e7 := q1 7 _ rfl l7
      refine gen_yes ?_ ?_
      ·simp only [e7]
       rfl
      go_simp
      exact gr_val (HI.out _ _ _ ⟨q0, kn_known q1 rfl⟩)
     refine gen_consR (fun vs L w1 hL hw1 => ?_) ?_
     ·obtain ⟨q0, q1⟩ := HO.out _ _ _ hw1
      have l7 : L 7 = true := hL.need 7 (by kernel_rfl)
      have e7 := q1 7 _ rfl l7
      refine gen_yes ?_ ?_
      ·simp only [e7]
       rfl
      have l8 : L 8 = true := hL.need 8 (by kernel_rfl)
      have e8 := q1 8 _ rfl l8
      have l9 : L 9 = true := hL.need 9 (by kernel_rfl)
      have e9 := q1 9 _ rfl l9
      have l13 : L 13 = true := hL.need 13 (by kernel_rfl)
      have e13 := q1 13 _ rfl l13
      have l14 : L 14 = true := hL.need 14 (by kernel_rfl)
      have e14 := q1 14 _ rfl l14
      simp only [e8, e9, e13, e14]
      go_simp
      refine gr_call ?_
      refine (ready_is c c3 id t false w1 (h.grows (below_grows hB (Nat.le_refl _) q0)) (hs.grows (below_grows hB (Nat.le_refl _) q0)) hsl HR.out).mono ?_
      rintro e w2 ⟨rfl, hg⟩
      exact ⟨_, rfl, HI.out _ _ _ ⟨below_grows q0 (Nat.le_refl _) hg, kn_known q1 rfl⟩⟩
     refine gen_consR (fun vs L w1 hL hw1 => ?_) ?_
     ·obtain ⟨q0, q1⟩ := HO.out _ _ _ hw1
      refine gen_plain rfl ?_
      have l7 : L 7 = true := hL.need 7 (by kernel_rfl)
      have e7 := q1 7 _ rfl l7
      have l15 : L 15 = true := hL.need 15 (by kernel_rfl)
      have e15 := q1 15 _ rfl l15
      simp only [e7, e15]
      go_simp
      exact gr_val (HI.out _ _ _ ⟨q0, kn_known q1 rfl⟩)
     refine gen_nil ?_
     intro vs L W6 hall hS
     obtain ⟨hq, q1⟩ := HO.out _ _ _ hS
     have eX16 := q1 16 _ rfl (hall 16 (by simp))
     clear hall hS HI HO q1
     simp only [eX16]
     clear eX16
     replace hB := below_grows hB (Nat.le_refl _) hq
     replace k4 := k4.grows hq
     clear hq p0
     go_wp2
     go_roundw
     case rel => exact ⟨k + 1, by omega, by go_num, HN2, k4, hB⟩
     case measure => simp [intOf]; omega
    | true =>
     have HN2 : Hid (nextS od ls sl t = some id) := Lib.hid (next_hit HN.out HX.out (by rw [HR.out, HE.out]; rfl))
     obtain ⟨S, HI, HO⟩ := hideS fun (L : Ran) (vs : Nat → Value) (w' : World) => Grows wr w' ∧ KnS [some (.slice A3 sl.length c3), some (.slice (some ad) od.length c4), some (.int .i64 (k : Int)), some (.pointer (some (ad.add k))), some (.int .i64 id), some (.int .i64 z), some (.bool true), some (.bool true), some (.agg #[.slice A ns.length c, .slice A2 ls.length c2]), some (.slice A3 sl.length c3), some (.slice (some ad) od.length c4), some (.int .i64 (k : Int)), some (.pointer (some (ad.add k))), some (.int .i64 id), some (.int .i64 t), some (.bool true), some (.bool true)] L vs
     refine wp_region_genW S 37 (by kernel_rfl) (by kernel_rfl) rfl ?_ ?_
     ·exact HI.out _ _ _ ⟨Grows.drew' _, kn_none _ _⟩
     refine gen_consR (fun vs L w1 hL hw1 => ?_) ?_
     ·obtain ⟨q0, q1⟩ := HO.out _ _ _ hw1
      refine gen_plain rfl ?_
      go_simp
      exact gr_val (HI.out _ _ _ ⟨q0, kn_known q1 rfl⟩)
     refine gen_consR (fun vs L w1 hL hw1 => ?_) ?_
     ·obtain ⟨q0, q1⟩ := HO.out _ _ _ hw1
      refine gen_plain rfl ?_
      go_simp
      exact gr_val (HI.out _ _ _ ⟨q0, kn_known q1 rfl⟩)
     refine gen_consR (fun vs L w1 hL hw1 => ?_) ?_
     ·obtain ⟨q0, q1⟩ := HO.out _ _ _ hw1
      refine gen_plain rfl ?_
      go_simp
      exact gr_val (HI.out _ _ _ ⟨q0, kn_known q1 rfl⟩)
     refine gen_consR (fun vs L w1 hL hw1 => ?_) ?_
     ·obtain ⟨q0, q1⟩ := HO.out _ _ _ hw1
      refine gen_plain rfl ?_
      have l1 : L 1 = true := hL.need 1 (by kernel_rfl)
      have e1 := q1 1 _ rfl l1
      have l2 : L 2 = true := hL.need 2 (by kernel_rfl)
      have e2 := q1 2 _ rfl l2
      simp only [e1, e2]
      go_simp
      exact gr_val (HI.out _ _ _ ⟨q0, kn_known q1 rfl⟩)
     refine gen_consR (fun vs L w1 hL hw1 => ?_) ?_
     ·obtain ⟨q0, q1⟩ := HO.out _ _ _ hw1
      refine gen_plain rfl ?_
      have l3 : L 3 = true := hL.need 3 (by kernel_rfl)
      have e3 := q1 3 _ rfl l3
      simp only [e3]
      have x := q0.cell (p := ad.add k) (by rw [block_of_add]; exact had)
      rw [p0] at x
      go_simp
      exact gr_val (HI.out _ _ _ ⟨q0, kn_known q1 rfl⟩)
     refine gen_consR (fun vs L w1 hL hw1 => ?_) ?_
     ·obtain ⟨q0, q1⟩ := HO.out _ _ _ hw1
      refine gen_plain rfl ?_
      have l0 : L 0 = true := hL.need 0 (by kernel_rfl)
      have e0 := q1 0 _ rfl l0
      have l4 : L 4 = true := hL.need 4 (by kernel_rfl)
      have e4 := q1 4 _ rfl l4
      simp only [e0, e4]
      go_simp
      refine gr_call ?_
      refine (slot_is A3 c3 sl id z w1 (hs.grows (below_grows hB (Nat.le_refl _) q0)) hsl HZ.out).mono ?_
      rintro e w2 ⟨rfl, hg⟩
      exact ⟨_, rfl, HI.out _ _ _ ⟨below_grows q0 (Nat.le_refl _) hg, kn_known q1 rfl⟩⟩
     refine gen_consR (fun vs L w1 hL hw1 => ?_) ?_
     ·obtain ⟨q0, q1⟩ := HO.out _ _ _ hw1
      refine gen_plain rfl ?_
      have l5 : L 5 = true := hL.need 5 (by kernel_rfl)
      have e5 := q1 5 _ rfl l5
      simp only [e5]
      go_simp
      exact gr_val (HI.out _ _ _ ⟨q0, kn_known q1 rfl⟩)
     refine gen_consR (fun vs L w1 hL hw1 => ?_) ?_
     ·obtain ⟨q0, q1⟩ := HO.out _ _ _ hw1
      refine gen_plain rfl ?_
      have l6 : L 6 = true := hL.need 6 (by kernel_rfl)
      have e6 := q1 6 _ rfl l6
      simp only [e6]
      go_simp
      exact gr_val (HI.out _ _ _ ⟨q0, kn_known q1 rfl⟩)
     refine gen_consR (fun vs L w1 hL hw1 => ?_) ?_
     ·obtain ⟨q0, q1⟩ := HO.out _ _ _ hw1
      have l7 : L 7 = true := hL.need 7 (by kernel_rfl)
      have e7 := q1 7 _ rfl l7
      refine gen_yes ?_ ?_
      ·simp only [e7]
       rfl
      have x := (k4.grows q0).cell 
      go_simp
      exact gr_val (HI.out _ _ _ ⟨q0, kn_known q1 rfl⟩)
     refine gen_consR (fun vs L w1 hL hw1 => ?_) ?_
     ·obtain ⟨q0, q1⟩ := HO.out _ _ _ hw1
      have l7 : L 7 = true := hL.need 7 (by kernel_rfl)
      have e7 := q1 7 _ rfl l7
      refine gen_yes ?_ ?_
      ·simp only [e7]
       rfl
      go_simp
      exact gr_val (HI.out _ _ _ ⟨q0, kn_known q1 rfl⟩)
     refine gen_consR (fun vs L w1 hL hw1 => ?_) ?_
     ·obtain ⟨q0, q1⟩ := HO.out _ _ _ hw1
      have l7 : L 7 = true := hL.need 7 (by kernel_rfl)
      have e7 := q1 7 _ rfl l7
      refine gen_yes ?_ ?_
      ·simp only [e7]
       rfl
      go_simp
      exact gr_val (HI.out _ _ _ ⟨q0, kn_known q1 rfl⟩)
     refine gen_consR (fun vs L w1 hL hw1 => ?_) ?_
     ·obtain ⟨q0, q1⟩ := HO.out _ _ _ hw1
      have l7 : L 7 = true := hL.need 7 (by kernel_rfl)
      have e7 := q1 7 _ rfl l7
      refine gen_yes ?_ ?_
      ·simp only [e7]
       rfl
      go_simp
      exact gr_val (HI.out _ _ _ ⟨q0, kn_known q1 rfl⟩)
     refine gen_consR (fun vs L w1 hL hw1 => ?_) ?_
     ·obtain ⟨q0, q1⟩ := HO.out _ _ _ hw1
      have l7 : L 7 = true := hL.need 7 (by kernel_rfl)
      have e7 := q1 7 _ rfl l7
      refine gen_yes ?_ ?_
      ·simp only [e7]
       rfl
      have l10 : L 10 = true := hL.need 10 (by kernel_rfl)
      have e10 := q1 10 _ rfl l10
      have l11 : L 11 = true := hL.need 11 (by kernel_rfl)
      have e11 := q1 11 _ rfl l11
      simp only [e10, e11]
      go_simp
      exact gr_val (HI.out _ _ _ ⟨q0, kn_known q1 rfl⟩)
     refine gen_consR (fun vs L w1 hL hw1 => ?_) ?_
     ·obtain ⟨q0, q1⟩ := HO.out _ _ _ hw1
      have l7 : L 7 = true := hL.need 7 (by kernel_rfl)
      have e7 := q1 7 _ rfl l7
      refine gen_yes ?_ ?_
      ·simp only [e7]
       rfl
      have l12 : L 12 = true := hL.need 12 (by kernel_rfl)
      have e12 := q1 12 _ rfl l12
      simp only [e12]
      have x := q0.cell (p := ad.add k) (by rw [block_of_add]; exact had)
      rw [p0] at x
      go_simp
      exact gr_val (HI.out _ _ _ ⟨q0, kn_known q1 rfl⟩)
     refine gen_consR (fun vs L w1 hL hw1 => ?_) ?_
     ·obtain ⟨q0, q1⟩ := HO.out _ _ _ hw1
      have l7 : L 7 = true := hL.need 7 (by kernel_rfl)
      have e7 := q1 7 _ rfl l7
      refine gen_yes ?_ ?_
      ·simp only [e7]
       rfl
      go_simp
      exact gr_val (HI.out _ _ _ ⟨q0, kn_known q1 rfl⟩)
     refine gen_consR (fun vs L w1 hL hw1 => ?_) ?_
     ·obtain ⟨q0, q1⟩ := HO.out _ _ _ hw1
      have l7 : L 7 = true := hL.need 7 (by kernel_rfl)
      have e7 := q1 7 _ rfl l7
      refine gen_yes ?_ ?_
      ·simp only [e7]
       rfl
      have l8 : L 8 = true := hL.need 8 (by kernel_rfl)
      have e8 := q1 8 _ rfl l8
      have l9 : L 9 = true := hL.need 9 (by kernel_rfl)
      have e9 := q1 9 _ rfl l9
      have l13 : L 13 = true := hL.need 13 (by kernel_rfl)
      have e13 := q1 13 _ rfl l13
      have l14 : L 14 = true := hL.need 14 (by kernel_rfl)
      have e14 := q1 14 _ rfl l14
      simp only [e8, e9, e13, e14]
      go_simp
      refine gr_call ?_
      refine (ready_is c c3 id t true w1 (h.grows (below_grows hB (Nat.le_refl _) q0)) (hs.grows (below_grows hB (Nat.le_refl _) q0)) hsl HR.out).mono ?_
      rintro e w2 ⟨rfl, hg⟩
      exact ⟨_, rfl, HI.out _ _ _ ⟨below_grows q0 (Nat.le_refl _) hg, kn_known q1 rfl⟩⟩
     refine gen_consR (fun vs L w1 hL hw1 => ?_) ?_
     ·obtain ⟨q0, q1⟩ := HO.out _ _ _ hw1
      refine gen_plain rfl ?_
      have l7 : L 7 = true := hL.need 7 (by kernel_rfl)
      have e7 := q1 7 _ rfl l7
      have l15 : L 15 = true := hL.need 15 (by kernel_rfl)
      have e15 := q1 15 _ rfl l15
      simp only [e7, e15]
      go_simp
      exact gr_val (HI.out _ _ _ ⟨q0, kn_known q1 rfl⟩)
     refine gen_nil ?_
     intro vs L W6 hall hS
     obtain ⟨hq, q1⟩ := HO.out _ _ _ hS
     have eX16 := q1 16 _ rfl (hall 16 (by simp))
     clear hall hS HI HO q1
     simp only [eX16]
     clear eX16
     have p1 := hq.cell (p := ad.add k) (by rw [block_of_add]; exact had)
     rw [p0] at p1
     replace hB := below_grows hB (Nat.le_refl _) hq
     clear hq p0
     go_wp2
     go_ret
     rw [HN2.out]
     exact ⟨rfl, hB⟩
  ·have HE : Hid (nextS od ls sl t = none) := Lib.hid (by have := HN.out; rwa [List.take_of_length_le (by omega)] at this)
   go_wp2
   go_ret
   rw [HE.out]
   exact ⟨rfl, hB⟩
end Go.Proofs.Ytobhdldlhhigdaa

namespace Go.Proofs.Ytobhdldlhhigdaa
open Go.RowKit Go.Maps
set_option maxRecDepth 100000 in
theorem qinfo_s : ∃ i : TypeInfo, Try.prog.info? 53 = some i ∧ i.size = 4 ∧ i.bytes = 32 ∧ i.zero = some (.agg #[.int .i64 0, .int .i64 0, .int .i64 0, .int .i64 0]) ∧ (Value.agg #[.int .i64 0, .int .i64 0, .int .i64 0, .int .i64 0]).cells.size = 4 := ⟨_, by first | exact Try.info53 | rfl, rfl, rfl, rfl, rfl⟩
def OwnS (w : World) (base : Nat) (v : Value) (l : List Q4) : Prop := w.ownsRow base 53 4 v l.length (qcells l)
theorem ownS_nil (w : World) (base : Nat) : OwnS w base (.slice none 0 0) [] := World.ownsRow_nil w base 53 4
theorem OwnS.grows {w w' : World} {base : Nat} {v : Value} {l : List Q4} (h : OwnS w base v l) (hg : Grows w w') : OwnS w' base v l := own_grows h hg
theorem OwnS.read {w : World} {base : Nat} {v : Value} {l : List Q4} (h : OwnS w base v l) : ∃ (A : Option Addr) (c : Nat), v = .slice A l.length c ∧ l.length ≤ c ∧ Qs w A l := qs_own h
theorem OwnS.below {w w' : World} {base : Nat} {v : Value} {l : List Q4} {u : World} (h : OwnS w base v l) (hB : Below base u w) (hg : w.grownBy w' v.ownBlock) (hs : base ≤ w.heap.size) : Below base u w' := hB.grown hg hs fun q hq => (h.lt q hq).1
theorem OwnS.qs {w : World} {base : Nat} {A : Option Addr} {n c : Nat} {l : List Q4} (h : OwnS w base (.slice A n c) l) : Qs w A l := by
 obtain ⟨A', c', e, -, hq⟩ := h.read
 injection e with e1
 subst e1
 exact hq
theorem own_apart {w : World} {b1 b2 : Nat} {e1 e2 : TypeId} {s1 s2 n1 n2 : Nat} {v1 v2 : Value} {x1 x2 : List Value} (h : w.ownsRow b1 e1 s1 v1 n1 x1) (h2 : w.ownsRow b2 e2 s2 v2 n2 x2) (hne : e1 ≠ e2) : v2.ownBlock = none ∨ v2.ownBlock ≠ v1.ownBlock := by
 rcases h2.2 with ⟨rfl, _⟩ | ⟨g2, cap2, cur2, rfl, _, hh2, _⟩
 ·exact .inl (by simp [Value.ownBlock])
 ·refine .inr fun he => ?_
  rcases h.2 with ⟨rfl, _⟩ | ⟨g1, cap1, cur1, rfl, _, hh1, _⟩
  ·simp [Value.ownBlock] at he
  ·have : g2 = g1 := by simpa [Value.ownBlock] using he
   subst this
   rw [hh1] at hh2
   simp only [Option.some.injEq, Obj.cells.injEq] at hh2
   exact hne hh2.2.1
def slN : Value → Nat
 | .slice _ n _ => n
 | _ => 0
def CompR (ns ls : List Q4) (cs : List Int) (wi : Int) (base : Nat) (e : Ending) (w' : World) : Prop :=
 (probB ns ls cs wi = true ∧ ∃ v, e = .returned (.tuple #[v, .int .i64 0]) ∧ OwnS w' base v (compG ns ls cs wi.toNat)) ∨ (probB ns ls cs wi = false ∧ e = .returned (.tuple #[.slice none 0 0, .int .i64 1]))
theorem ArrI.ints_ {w : World} {base g n : Nat} {l : List Int} (h : ArrI w base g n l) : Ints w (some ⟨g, 0, none⟩) l := h.2.ints
theorem gr_append_slot {o : Oper} {ev : Operand → Value} {w : World} {T : Value → World → Prop} (s x : Operand) (ho : o.op = .call { callee := .builtin .append, args := #[s, x], argTypes := #[33, 33] })
 {base : Nat} {v : Value} {l m : List Q4} {A : Option Addr} {c n : Nat} (hn : n = m.length) (hs : ev s = v) (hown : OwnS w base v l) (hx : ev x = .slice A n c) (hr : Qs w A m) (hlen : l.length + m.length ≤ 1000000) (hbase : base ≤ w.heap.size)
 (h : ∀ v' w', OwnS w' base v' (l ++ m) → w.grownBy w' v.ownBlock → T v' w') : genR Try.prog T ((execOp ev o).run Try.prog w) := gr_append_q Try.underlying33 qinfo_s s x ho hn hs hown hx hr hlen hbase h
theorem free_is {A : Option Addr} {c n : Nat} {l : List Int} (hn : n = l.length) (t : Int) {z : Int} {w : World} (hl : l.length ≤ 9223372036854775807) (h : Ints w A l) (hz : placeV (freeS l t) = z) :
 Calls Try.prog 35 #[.slice A n c, .int .i64 t] w fun e w' => e = .returned (.int .i64 z) ∧ Grows w w' := by
 subst hz hn
 exact (free_any A c l t w h hl).mono fun _ _ ⟨he, hw⟩ => ⟨he, hw ▸ Below.refl _ w⟩
theorem later_is {A : Option Addr} {c : Nat} {sl : List Q4} {t z : Int} {w : World} (h : Qs w A sl) (hl : sl.length ≤ 9223372036854775807) (hz : laterS sl t = z) :
 Calls Try.prog 36 #[.slice A sl.length c, .int .i64 t] w fun e w' => e = .returned (.int .i64 z) ∧ w = w' := by
 subst hz
 exact later_any A c sl t w h hl
theorem rnext_is {A A2 A3 A4 : Option Addr} {c2 : Nat} {ns ls sl : List Q4} {od : List Int} {w : World} (c c3 c4 : Nat) {t z : Int} (h : GOK w A A2 c2 ns ls) (ho : Ints w A4 od) (hol : od.length ≤ 9223372036854775807) (hs : Qs w A3 sl) (hsl : sl.length ≤ 9223372036854775807) (hz : (nextS od ls sl t).getD 0 = z) :
 Calls Try.prog 34 #[.agg #[.slice A ns.length c, .slice A2 ls.length c2], .slice A4 od.length c4, .slice A3 sl.length c3, .int .i64 t] w fun e w' => e = .returned (.int .i64 z) ∧ Grows w w' := by
 subst hz
 exact rnext_any c c3 c4 t h ho hol hs hsl
theorem rplace_is (A A2 : Option Addr) (c c2 m : Nat) (ns : List Q4) (id : Int) (z : Int) (w : World) (h : Qs w A ns) (hl : ns.length ≤ 9223372036854775807) (hz : placeV (placeN ns id) = z) :
 Calls Try.prog 37 #[.agg #[.slice A ns.length c, .slice A2 m c2], .int .i64 id] w fun e w' => e = .returned (.int .i64 z) ∧ Grows w w' := by
 subst hz
 exact place_any A A2 c c2 m ns id w h hl
end Go.Proofs.Ytobhdldlhhigdaa

namespace Go.Proofs.Ytobhdldlhhigdaa
open Go.RowKit Go.Maps
set_option maxRecDepth 100000
def idL (n : Nat) : List Int := (List.range n).map Int.ofNat
theorem idL_len (n : Nat) : (idL n).length = n := by simp [idL]
theorem idL_at {n k : Nat} (h : k < n) : (idL n).getD k 0 = (k : Int) := by simp [idL, List.getD_eq_getElem?_getD, h]
/-- A node's place, 0 for none: as the program's map answers. -/
def pl (ns : List Q4) (x : Int) : Int := wOf ns (idL ns.length) x
theorem pl_at {ns : List Q4} {x : Int} {k : Nat} (h : placeN ns x = some k) : pl ns x = (k : Int) := by
 obtain ⟨n, hn, _⟩ := placeN_some h
 have hk := (List.getElem?_eq_some_iff.1 hn).1
 unfold pl
 rw [wOf_at h, idL_at hk]
theorem pl_in {ns : List Q4} {n : Q4} (hn : n ∈ ns) : ∃ k : Nat, pl ns n.a = (k : Int) ∧ placeN ns n.a = some k ∧ k < ns.length ∧ ∃ m, ns[k]? = some m ∧ m.a = n.a := by
 obtain ⟨k, m, h1, h2, h3, h4, h5⟩ := placeV_some (place_in hn)
 exact ⟨k, pl_at h1, h1, h5, m, h3, h4⟩
theorem pl_inj {ns : List Q4} {n m : Q4} (hn : n ∈ ns) (hm : m ∈ ns) (h : pl ns n.a = pl ns m.a) : n.a = m.a := by
 obtain ⟨k, h1, h2, h3, x, h4, h5⟩ := pl_in hn
 obtain ⟨j, g1, g2, g3, y, g4, g5⟩ := pl_in hm
 have : k = j := by omega
 subst this
 rw [h4] at g4
 injection g4 with g4
 rw [← h5, ← g5, g4]
theorem pl_asc {ns : List Q4} (h : ns.Pairwise fun x y => x.a < y.a) {k : Nat} {n : Q4} (hx : ns[k]? = some n) : pl ns n.a = (k : Int) := by
 have hm := List.mem_of_getElem? hx
 obtain ⟨j, h1, h2, h3, x, h4, h5⟩ := pl_in hm
 rw [h1]
 have : j = k := by
  obtain ⟨hk, e1⟩ := List.getElem?_eq_some_iff.1 hx
  obtain ⟨hj, e2⟩ := List.getElem?_eq_some_iff.1 h4
  rcases Nat.lt_trichotomy j k with hlt | he | hgt
  ·have := List.pairwise_iff_getElem.1 h j k hj hk hlt
   rw [e1, e2] at this
   omega
  ·exact he
  ·have := List.pairwise_iff_getElem.1 h k j hk hj hgt
   rw [e1, e2] at this
   omega
 rw [this]
theorem idMap_snoc {ns : List Q4} (h : ns.Pairwise fun x y => x.a < y.a) {k : Nat} {n : Q4} (hx : ns[k]? = some n) (y : Int) : (if y = n.a then some (Value.int .i64 (k : Int)) else wMap ns (idL ns.length) k y) = wMap ns (idL ns.length) (k + 1) y := by
 have h1 := wMap_snoc h hx (ws := idL ns.length) y
 rwa [idL_at (List.getElem?_eq_some_iff.1 hx).1] at h1
theorem idMap_get (ns : List Q4) (x : Int) : (wMap ns (idL ns.length) ns.length x).getD (.int .i64 0) = .int .i64 (pl ns x) := (wMap_end ns (idL ns.length) ns.length (Nat.le_refl _) x).1
def ordP (ns ls : List Q4) : List Int := (orderL ns ls).map (pl ns)
theorem ordP_len (ns ls : List Q4) : (ordP ns ls).length = (orderL ns ls).length := by simp [ordP]
theorem ordP_at {ns ls : List Q4} {k : Nat} {x : Int} (h : (orderL ns ls)[k]? = some x) : (ordP ns ls)[k]? = some (pl ns x) := by simp [ordP, h]
/-- The places of the nodes that the node at a place waits for. -/
def befP (ns ls : List Q4) (i : Nat) : List Int := (ls.filter fun l => pl ns l.c == (i : Int)).map fun l => pl ns l.a
theorem befP_nil (ns : List Q4) (i : Nat) : befP ns [] i = [] := rfl
theorem befP_succ {ns ls : List Q4} {k : Nat} {l : Q4} (h : ls[k]? = some l) (i : Nat) : befP ns (ls.take (k + 1)) i = if pl ns l.c = (i : Int) then befP ns (ls.take k) i ++ [pl ns l.a] else befP ns (ls.take k) i := by
 unfold befP
 rw [take_snoc h, List.filter_append, List.map_append]
 by_cases e : pl ns l.c = (i : Int)
 ·simp [e]
 ·simp [e]
theorem befP_len (ns ls : List Q4) (i : Nat) : (befP ns ls i).length ≤ ls.length := by
 unfold befP
 rw [List.length_map]
 exact List.length_filter_le _ _
theorem link_node {ns ls : List Q4} (h : validG ns ls = true) {k : Q4} (hk : k ∈ ls) : (∃ n ∈ ns, n.a = k.c) ∧ ∃ n ∈ ns, n.a = k.a := ⟨order_mem (link_in h hk).1, order_mem (link_in h hk).2⟩
theorem befP_mem {ns ls : List Q4} (h : validG ns ls = true) {i : Nat} {x : Int} (hx : x ∈ befP ns ls i) : ∃ k : Nat, x = k ∧ k < ns.length := by
 unfold befP at hx
 obtain ⟨l, hl, rfl⟩ := List.mem_map.1 hx
 obtain ⟨n, hn, e⟩ := (link_node h (List.mem_filter.1 hl).1).2
 obtain ⟨k, h1, _, h3, _⟩ := pl_in hn
 exact ⟨k, by rw [← e, h1], h3⟩
theorem ordP_mem {ns ls : List Q4} {x : Int} (hx : x ∈ ordP ns ls) : ∃ (k : Nat) (n : Q4), x = k ∧ k < ns.length ∧ ns[k]? = some n ∧ n.a ∈ orderL ns ls := by
 unfold ordP at hx
 obtain ⟨id, hid, rfl⟩ := List.mem_map.1 hx
 obtain ⟨n, hn, e⟩ := order_mem hid
 obtain ⟨k, h1, _, h3, m, h4, h5⟩ := pl_in hn
 exact ⟨k, m, by rw [← e, h1], h3, h4, by rw [h5, e]; exact hid⟩
def lateB (en : List Int) (t x : Int) : Bool := decide (en.getD x.toNat 0 < 0) || decide (t < en.getD x.toNat 0)
theorem ends_nonneg {l : List Q4} (h0 : ∀ u ∈ l, 0 ≤ u.d) {x e : Int} (h : endS l x = some e) : 0 ≤ e := by
 unfold endS at h
 obtain ⟨u, hu, rfl⟩ := Option.map_eq_some_iff.1 h
 exact h0 u (List.mem_of_find?_eq_some hu)
theorem arr_pl {ns : List Q4} (S : Int → Option Int) {n : Q4} (hn : n ∈ ns) : (arrL ns S).getD (pl ns n.a).toNat 0 = (S n.a).getD (-1) := by
 obtain ⟨k, h1, _, h3, m, h4, h5⟩ := pl_in hn
 rw [h1, Int.toNat_natCast, List.getD_eq_getElem?_getD, arr_at S h4, h5]
 rfl
def endB (l : List Q4) (x t : Int) : Bool := match endS l x with | none => false | some e => decide (e ≤ t)
theorem ready_endB (ls l : List Q4) (id t : Int) : readyS ls l id t = ls.all fun k => k.c != id || endB l k.a t := by
 unfold readyS
 rfl
theorem late_pl {ns l : List Q4} (h0 : ∀ u ∈ l, 0 ≤ u.d) {n : Q4} (hn : n ∈ ns) (t : Int) : lateB (arrL ns (endS l)) t (pl ns n.a) = !endB l n.a t := by
 unfold lateB endB
 rw [arr_pl _ hn]
 cases e : endS l n.a with
 | none => simp
 | some v =>
  have := ends_nonneg h0 e
  by_cases h : v ≤ t
  ·simp [show ¬ v < 0 by omega, h]
  ·simp [show t < v by omega, h]
theorem any_late {ns ls l : List Q4} (hv : validG ns ls = true) (h0 : ∀ u ∈ l, 0 ≤ u.d) {i : Nat} {n : Q4} (hi : ns[i]? = some n) (t : Int) : (befP ns ls i).any (lateB (arrL ns (endS l)) t) = !readyS ls l n.a t := by
 have hm := List.mem_of_getElem? hi
 have hpi := pl_asc (valid_asc hv) hi
 rw [Bool.eq_iff_iff]
 simp only [Bool.not_eq_true', List.any_eq_true]
 rw [ready_endB, List.all_eq_false]
 unfold befP
 constructor
 ·rintro ⟨x, hx, hl⟩
  obtain ⟨k, hk, rfl⟩ := List.mem_map.1 hx
  obtain ⟨hk1, hk2⟩ := List.mem_filter.1 hk
  obtain ⟨⟨m, hm1, hm2⟩, m2, hm3, hm4⟩ := link_node hv hk1
  refine ⟨k, hk1, ?_⟩
  have hc : k.c = n.a := by
   have h1 : pl ns k.c = (i : Int) := by simpa using hk2
   rw [← hpi, ← hm2] at h1
   rw [← hm2]
   exact pl_inj hm1 hm h1
  rw [← hm4, late_pl h0 hm3] at hl
  rw [← hm4]
  simp only [Bool.not_eq_true, Bool.or_eq_false_iff]
  refine ⟨by simp [hc], ?_⟩
  simpa using hl
 ·rintro ⟨k, hk1, hl⟩
  obtain ⟨⟨m, hm1, hm2⟩, m2, hm3, hm4⟩ := link_node hv hk1
  simp only [Bool.not_eq_true, Bool.or_eq_false_iff] at hl
  have hc : k.c = n.a := by simpa using hl.1
  refine ⟨pl ns k.a, List.mem_map.2 ⟨k, List.mem_filter.2 ⟨hk1, by simp [hc, hpi]⟩, rfl⟩, ?_⟩
  rw [← hm4, late_pl h0 hm3, hm4, hl.2]
  rfl
def readyP (en bf : List Int) (t : Int) (i : Nat) : Bool := decide (en.getD i 0 < 0) && !bf.any (lateB en t)
def readyQ (ls l : List Q4) (t id : Int) : Bool := (endS l id).isNone && readyS ls l id t
theorem readyP_is {ns ls l : List Q4} (hv : validG ns ls = true) (h0 : ∀ u ∈ l, 0 ≤ u.d) {i : Nat} {n : Q4} (hi : ns[i]? = some n) (t : Int) : readyP (arrL ns (endS l)) (befP ns ls i) t i = readyQ ls l t n.a := by
 unfold readyP readyQ
 rw [any_late hv h0 hi, List.getD_eq_getElem?_getD, arr_at _ hi]
 cases e : endS l n.a with
 | none => simp
 | some v =>
  have := ends_nonneg h0 e
  simp [show ¬ v < 0 by omega]
theorem find_idx {α : Type} (q : α → Bool) : ∀ l : List α, l.find? q = (l.findIdx? q).bind fun j => l[j]?
 | [] => rfl
 | x :: l => by
  rw [List.find?_cons, List.findIdx?_cons]
  cases e : q x
  ·simp only [Bool.false_eq_true, if_false]
   rw [find_idx q l]
   cases l.findIdx? q <;> simp
  ·simp
theorem next_idx (od : List Int) (ls l : List Q4) (t : Int) : nextS od ls l t = (od.findIdx? (readyQ ls l t)).bind fun j => od[j]? := by
 rw [← find_idx]
 rfl
theorem findIdx_map {α β : Type} (g : α → β) (p : β → Bool) (q : α → Bool) : ∀ l : List α, (∀ x ∈ l, p (g x) = q x) → (l.map g).findIdx? p = l.findIdx? q
 | [], _ => rfl
 | x :: l, h => by
  rw [List.map_cons, List.findIdx?_cons, List.findIdx?_cons, h x (by simp), findIdx_map g p q l fun y hy => h y (by simp [hy])]
/-- Which place of the order the program picks. -/
def pickP (ns ls l : List Q4) (t : Int) (i : Int) : Bool := readyP (arrL ns (endS l)) (befP ns ls i.toNat) t i.toNat
theorem pick_idx {ns ls l : List Q4} (hv : validG ns ls = true) (h0 : ∀ u ∈ l, 0 ≤ u.d) (t : Int) : (ordP ns ls).findIdx? (pickP ns ls l t) = (orderL ns ls).findIdx? (readyQ ls l t) := by
 unfold ordP
 refine findIdx_map _ _ _ _ fun x hx => ?_
 obtain ⟨n, hn, e⟩ := order_mem hx
 obtain ⟨k, h1, _, h3, m, h4, h5⟩ := pl_in hn
 unfold pickP
 rw [← e, h1, Int.toNat_natCast, readyP_is hv h0 h4, h5]
/-- The pick: none, or the node at a place of the order. -/
theorem pick_none {ns ls l : List Q4} {t : Int} (hv : validG ns ls = true) (h0 : ∀ u ∈ l, 0 ≤ u.d) (h : (ordP ns ls).findIdx? (pickP ns ls l t) = none) : nextS (orderL ns ls) ls l t = none := by
 rw [pick_idx hv h0] at h
 rw [next_idx, h]
 rfl
theorem pick_some {ns ls l : List Q4} {t : Int} {j : Nat} (hv : validG ns ls = true) (h0 : ∀ u ∈ l, 0 ≤ u.d) (h : (ordP ns ls).findIdx? (pickP ns ls l t) = some j) : ∃ id, (orderL ns ls)[j]? = some id ∧ nextS (orderL ns ls) ls l t = some id ∧ (ordP ns ls)[j]? = some (pl ns id) := by
 rw [pick_idx hv h0] at h
 obtain ⟨hj, _⟩ := List.findIdx?_eq_some_iff_getElem.1 h
 have hx := List.getElem?_eq_getElem hj
 refine ⟨_, hx, ?_, ordP_at hx⟩
 rw [next_idx, h]
 exact hx
theorem ends_add {l : List Q4} {s : Q4} (h : endS l s.a = none) (x : Int) : endS (l ++ [s]) x = if x = s.a then some s.d else endS l x := by
 unfold endS at *
 rw [find_append]
 by_cases e : x = s.a
 ·subst e
  rw [if_pos rfl]
  cases hf : findN l s.a with
  | none => simp
  | some v => rw [hf] at h; cases h
 ·rw [if_neg e]
  cases hf : findN l x with
  | none => simp [Ne.symm e]
  | some v => rfl
end Go.Proofs.Ytobhdldlhhigdaa

namespace Go.Proofs.Ytobhdldlhhigdaa
open Go.RowKit Go.Maps
set_option maxRecDepth 100000 in
theorem idx_upI {l : List Int} {p : Int → Bool} {k : Nat} {x : Int} (h : (l.take k).findIdx? p = none) (hx : l[k]? = some x) (hne : p x = false) : (l.take (k + 1)).findIdx? p = none := by
 rw [take_snoc hx]
 rw [List.findIdx?_eq_none_iff] at *
 intro y hy
 rcases List.mem_append.1 hy with hy | hy
 ·exact h y hy
 ·simp only [List.mem_singleton] at hy
  subst hy
  exact hne
set_option maxRecDepth 100000 in
theorem idx_atI {l : List Int} {p : Int → Bool} {k : Nat} {x : Int} (h : (l.take k).findIdx? p = none) (hx : l[k]? = some x) (he : p x = true) : l.findIdx? p = some k := by
 rw [List.findIdx?_eq_none_iff] at h
 rw [List.findIdx?_eq_some_iff_getElem]
 obtain ⟨hk, hx⟩ := List.getElem?_eq_some_iff.1 hx
 refine ⟨hk, by rw [hx]; exact he, fun j hj => ?_⟩
 have := h (l[j]'(by omega)) (by
  rw [List.mem_take_iff_getElem]
  exact ⟨j, by omega, rfl⟩)
 simp only [Bool.not_eq_true]
 exact this
set_option maxRecDepth 100000 in
theorem place_anyI (l : List Int) (p : Int → Bool) : decide (0 ≤ placeV (l.findIdx? p)) = l.any p := by
 cases e : l.findIdx? p with
 | none =>
  rw [List.findIdx?_eq_none_iff] at e
  have : l.any p = false := by rw [List.any_eq_false]; exact fun x hx => by rw [e x hx]; simp
  rw [this]
  rfl
 | some k =>
  obtain ⟨hk, h1, _⟩ := List.findIdx?_eq_some_iff_getElem.1 e
  have : l.any p = true := List.any_eq_true.2 ⟨_, List.getElem_mem hk, h1⟩
  rw [this]
  simp [placeV]
set_option maxRecDepth 100000 in
set_option maxHeartbeats 4000000 in
theorem idxw_any (A : Option Addr) (c : Nat) (l : List Int) (p : Int → Bool) (w : World) (h : Ints w A l) (hl : l.length ≤ 9223372036854775807)
 (hp : ∀ x ∈ l, ∀ w1, Grows w w1 → Calls Try.prog 53 #[.int .i64 x] w1 fun e w' => e = .returned (.bool (p x)) ∧ Grows w1 w') :
 Calls Try.prog 58 #[.slice A l.length c, .func (.func 53) #[] #[]] w fun e w' => e = .returned (.int .i64 (placeV (l.findIdx? p))) ∧ Grows w w' := by
 have HP := Lib.hid hp
 clear hp
 go_enter Try.func58, Try.ntmps58
 go_wp2_with fail
 go_loopw [8] (fun i wr => ∃ k : Nat, k ≤ l.length ∧ i = .int .i64 k ∧ Hid ((l.take k).findIdx? p = none) ∧ Grows w wr) (fun i _ => l.length - (intOf i).toNat)
 case atStart => exact ⟨0, by omega, rfl, Lib.hid rfl, Below.refl _ _⟩
 case round =>
  obtain ⟨k, hk, rfl, hf, hB⟩ := hrel
  by_cases hlt : k < l.length
  ·obtain ⟨ad, x, rfl, had, hx, q0⟩ := (h.grows hB).at_ hlt
   have HX := Lib.hid hx
   clear hx
   go_wp2_with fail
   refine (HP.out x (List.mem_of_getElem? HX.out) _ hB).mono ?_
   rintro e w2 ⟨rfl, hq⟩
   replace hB := below_grows hB (Nat.le_refl _) hq
   clear hq q0
   cases e : p x
   ·have HE := Lib.hid (idx_upI hf.out HX.out e)
    go_wp2
    go_roundw
    case rel => exact ⟨k + 1, by omega, by go_num, HE, hB⟩
    case measure => simp [intOf]; omega
   ·have HE := Lib.hid (idx_atI hf.out HX.out e)
    go_wp2
    go_ret
    rw [HE.out]
    exact ⟨rfl, hB⟩
  ·have HE : Hid (l.findIdx? p = none) := Lib.hid (by have := hf.out; rwa [List.take_of_length_le (by omega)] at this)
   go_wp2
   go_ret
   rw [HE.out]
   exact ⟨rfl, hB⟩
set_option maxRecDepth 100000 in
set_option maxHeartbeats 4000000 in
theorem contw_any (A : Option Addr) (c : Nat) (l : List Int) (p : Int → Bool) (w : World) (h : Ints w A l) (hl : l.length ≤ 9223372036854775807)
 (hp : ∀ x ∈ l, ∀ w1, Grows w w1 → Calls Try.prog 53 #[.int .i64 x] w1 fun e w' => e = .returned (.bool (p x)) ∧ Grows w1 w') :
 Calls Try.prog 55 #[.slice A l.length c, .func (.func 53) #[] #[]] w fun e w' => e = .returned (.bool (l.any p)) ∧ Grows w w' := by
 have HP := Lib.hid hp
 clear hp
 rw [← place_anyI]
 go_enter Try.func55, Try.ntmps55
 go_wp2_with fail
 refine (idxw_any A c l p _ h hl HP.out).mono ?_
 rintro e w2 ⟨rfl, hq⟩
 generalize hz : placeV (l.findIdx? p) = z
 have HZ := Lib.hid hz
 clear hz
 go_wp2
 go_ret
 rw [HZ.out]
 exact ⟨rfl, hq⟩
set_option maxRecDepth 100000 in
set_option maxHeartbeats 4000000 in
theorem idxl_any (A : Option Addr) (c : Nat) (l : List Int) (p : Int → Bool) (Gp : Nat) (w : World) (h : Ints w A l) (hl : l.length ≤ 9223372036854775807)
 (hp : ∀ x ∈ l, ∀ w1, Grows w w1 → Calls Try.prog 71 #[.int .i64 x, .pointer (some ⟨Gp, 0, none⟩)] w1 fun e w' => e = .returned (.bool (p x)) ∧ Grows w1 w') :
 Calls Try.prog 58 #[.slice A l.length c, .func (.func 71) #[] #[.pointer (some ⟨Gp, 0, none⟩)]] w fun e w' => e = .returned (.int .i64 (placeV (l.findIdx? p))) ∧ Grows w w' := by
 have HP := Lib.hid hp
 clear hp
 go_enter Try.func58, Try.ntmps58
 go_wp2_with fail
 go_loopw [8] (fun i wr => ∃ k : Nat, k ≤ l.length ∧ i = .int .i64 k ∧ Hid ((l.take k).findIdx? p = none) ∧ Grows w wr) (fun i _ => l.length - (intOf i).toNat)
 case atStart => exact ⟨0, by omega, rfl, Lib.hid rfl, Below.refl _ _⟩
 case round =>
  obtain ⟨k, hk, rfl, hf, hB⟩ := hrel
  by_cases hlt : k < l.length
  ·obtain ⟨ad, x, rfl, had, hx, q0⟩ := (h.grows hB).at_ hlt
   have HX := Lib.hid hx
   clear hx
   go_wp2_with fail
   refine (HP.out x (List.mem_of_getElem? HX.out) _ hB).mono ?_
   rintro e w2 ⟨rfl, hq⟩
   replace hB := below_grows hB (Nat.le_refl _) hq
   clear hq q0
   cases e : p x
   ·have HE := Lib.hid (idx_upI hf.out HX.out e)
    go_wp2
    go_roundw
    case rel => exact ⟨k + 1, by omega, by go_num, HE, hB⟩
    case measure => simp [intOf]; omega
   ·have HE := Lib.hid (idx_atI hf.out HX.out e)
    go_wp2
    go_ret
    rw [HE.out]
    exact ⟨rfl, hB⟩
  ·have HE : Hid (l.findIdx? p = none) := Lib.hid (by have := hf.out; rwa [List.take_of_length_le (by omega)] at this)
   go_wp2
   go_ret
   rw [HE.out]
   exact ⟨rfl, hB⟩
set_option maxRecDepth 100000 in
set_option maxHeartbeats 4000000 in
theorem contl_any (A : Option Addr) (c : Nat) (l : List Int) (p : Int → Bool) (Gp : Nat) (w : World) (h : Ints w A l) (hl : l.length ≤ 9223372036854775807)
 (hp : ∀ x ∈ l, ∀ w1, Grows w w1 → Calls Try.prog 71 #[.int .i64 x, .pointer (some ⟨Gp, 0, none⟩)] w1 fun e w' => e = .returned (.bool (p x)) ∧ Grows w1 w') :
 Calls Try.prog 55 #[.slice A l.length c, .func (.func 71) #[] #[.pointer (some ⟨Gp, 0, none⟩)]] w fun e w' => e = .returned (.bool (l.any p)) ∧ Grows w w' := by
 have HP := Lib.hid hp
 clear hp
 rw [← place_anyI]
 go_enter Try.func55, Try.ntmps55
 go_wp2_with fail
 refine (idxl_any A c l p Gp _ h hl HP.out).mono ?_
 rintro e w2 ⟨rfl, hq⟩
 generalize hz : placeV (l.findIdx? p) = z
 have HZ := Lib.hid hz
 clear hz
 go_wp2
 go_ret
 rw [HZ.out]
 exact ⟨rfl, hq⟩
set_option maxRecDepth 100000 in
set_option maxHeartbeats 4000000 in
theorem idxr_any (A : Option Addr) (c : Nat) (l : List Int) (p : Int → Bool) (Gp : Nat) (w : World) (h : Ints w A l) (hl : l.length ≤ 9223372036854775807)
 (hp : ∀ x ∈ l, ∀ w1, Grows w w1 → Calls Try.prog 59 #[.pointer (some ⟨Gp, 0, none⟩), .int .i64 x] w1 fun e w' => e = .returned (.bool (p x)) ∧ Grows w1 w') :
 Calls Try.prog 58 #[.slice A l.length c, .func (.func 59) #[.pointer (some ⟨Gp, 0, none⟩)] #[]] w fun e w' => e = .returned (.int .i64 (placeV (l.findIdx? p))) ∧ Grows w w' := by
 have HP := Lib.hid hp
 clear hp
 go_enter Try.func58, Try.ntmps58
 go_wp2_with fail
 go_loopw [8] (fun i wr => ∃ k : Nat, k ≤ l.length ∧ i = .int .i64 k ∧ Hid ((l.take k).findIdx? p = none) ∧ Grows w wr) (fun i _ => l.length - (intOf i).toNat)
 case atStart => exact ⟨0, by omega, rfl, Lib.hid rfl, Below.refl _ _⟩
 case round =>
  obtain ⟨k, hk, rfl, hf, hB⟩ := hrel
  by_cases hlt : k < l.length
  ·obtain ⟨ad, x, rfl, had, hx, q0⟩ := (h.grows hB).at_ hlt
   have HX := Lib.hid hx
   clear hx
   go_wp2_with fail
   refine (HP.out x (List.mem_of_getElem? HX.out) _ hB).mono ?_
   rintro e w2 ⟨rfl, hq⟩
   replace hB := below_grows hB (Nat.le_refl _) hq
   clear hq q0
   cases e : p x
   ·have HE := Lib.hid (idx_upI hf.out HX.out e)
    go_wp2
    go_roundw
    case rel => exact ⟨k + 1, by omega, by go_num, HE, hB⟩
    case measure => simp [intOf]; omega
   ·have HE := Lib.hid (idx_atI hf.out HX.out e)
    go_wp2
    go_ret
    rw [HE.out]
    exact ⟨rfl, hB⟩
  ·have HE : Hid (l.findIdx? p = none) := Lib.hid (by have := hf.out; rwa [List.take_of_length_le (by omega)] at this)
   go_wp2
   go_ret
   rw [HE.out]
   exact ⟨rfl, hB⟩
set_option maxRecDepth 100000 in
set_option maxHeartbeats 4000000 in
theorem idxs_any (A : Option Addr) (c : Nat) (l : List Int) (p : Int → Bool) (Gp : Nat) (w : World) (h : Ints w A l) (hl : l.length ≤ 9223372036854775807)
 (hp : ∀ x ∈ l, ∀ w1, Grows w w1 → Calls Try.prog 60 #[.int .i64 x, .pointer (some ⟨Gp, 0, none⟩)] w1 fun e w' => e = .returned (.bool (p x)) ∧ Grows w1 w') :
 Calls Try.prog 58 #[.slice A l.length c, .func (.func 60) #[] #[.pointer (some ⟨Gp, 0, none⟩)]] w fun e w' => e = .returned (.int .i64 (placeV (l.findIdx? p))) ∧ Grows w w' := by
 have HP := Lib.hid hp
 clear hp
 go_enter Try.func58, Try.ntmps58
 go_wp2_with fail
 go_loopw [8] (fun i wr => ∃ k : Nat, k ≤ l.length ∧ i = .int .i64 k ∧ Hid ((l.take k).findIdx? p = none) ∧ Grows w wr) (fun i _ => l.length - (intOf i).toNat)
 case atStart => exact ⟨0, by omega, rfl, Lib.hid rfl, Below.refl _ _⟩
 case round =>
  obtain ⟨k, hk, rfl, hf, hB⟩ := hrel
  by_cases hlt : k < l.length
  ·obtain ⟨ad, x, rfl, had, hx, q0⟩ := (h.grows hB).at_ hlt
   have HX := Lib.hid hx
   clear hx
   go_wp2_with fail
   refine (HP.out x (List.mem_of_getElem? HX.out) _ hB).mono ?_
   rintro e w2 ⟨rfl, hq⟩
   replace hB := below_grows hB (Nat.le_refl _) hq
   clear hq q0
   cases e : p x
   ·have HE := Lib.hid (idx_upI hf.out HX.out e)
    go_wp2
    go_roundw
    case rel => exact ⟨k + 1, by omega, by go_num, HE, hB⟩
    case measure => simp [intOf]; omega
   ·have HE := Lib.hid (idx_atI hf.out HX.out e)
    go_wp2
    go_ret
    rw [HE.out]
    exact ⟨rfl, hB⟩
  ·have HE : Hid (l.findIdx? p = none) := Lib.hid (by have := hf.out; rwa [List.take_of_length_le (by omega)] at this)
   go_wp2
   go_ret
   rw [HE.out]
   exact ⟨rfl, hB⟩
set_option maxRecDepth 100000 in
set_option maxHeartbeats 4000000 in
theorem idxs_is {A : Option Addr} {n c : Nat} {l : List Int} {p : Int → Bool} {z : Int} (Gp : Nat) {w : World} (hn : l.length = n) (h : Ints w A l) (hl : l.length ≤ 9223372036854775807) (hz : placeV (l.findIdx? p) = z)
 (hp : ∀ x ∈ l, ∀ w1, Grows w w1 → Calls Try.prog 60 #[.int .i64 x, .pointer (some ⟨Gp, 0, none⟩)] w1 fun e w' => e = .returned (.bool (p x)) ∧ Grows w1 w') :
 Calls Try.prog 58 #[.slice A n c, .func (.func 60) #[] #[.pointer (some ⟨Gp, 0, none⟩)]] w fun e w' => e = .returned (.int .i64 z) ∧ Grows w w' := by
 subst hn hz
 exact idxs_any A c l p Gp w h hl hp
set_option maxRecDepth 100000 in
set_option maxHeartbeats 4000000 in
theorem wrong_any (x : Int) (w : World) : Calls Try.prog 53 #[.int .i64 x] w fun e w' => e = .returned (.bool (badW x)) ∧ Grows w w' := by
 go_enter Try.func53, Try.ntmps53
 go_wp2
 all_goals go_ret
 all_goals (refine ⟨ret_bool ?_, Below.refl _ _⟩; simp_all [badW])
set_option maxRecDepth 100000 in
set_option maxHeartbeats 4000000 in
theorem step1_any (x t : Int) (Gp Pl P gE n : Nat) (vF vS : Value) (w : World) (k1 : Blk w Gp 65 #[.pointer (some ⟨Pl, 0, none⟩)]) (k2 : Blk w Pl 68 #[.pointer (some ⟨P, 0, none⟩), .int .i64 t, vF, .slice (some ⟨gE, 0, none⟩) n n, vS]) :
 Calls Try.prog 60 #[.int .i64 x, .pointer (some ⟨Gp, 0, none⟩)] w fun e w' => e = .returned (.bool (decide (x ≤ t))) ∧ Grows w w' := by
 go_enter Try.func60, Try.ntmps60
 have x1 := k1.cell
 have x2 := k2.cell
 go_wp2
 go_ret
 exact ⟨rfl, Below.refl _ _⟩
set_option maxRecDepth 100000 in
set_option maxHeartbeats 4000000 in
theorem late_any (k : Nat) (t : Int) (Gp Pl P gE n base : Nat) (en : List Int) (vF vS : Value) (w : World) (k1 : Blk w Gp 65 #[.pointer (some ⟨Pl, 0, none⟩)]) (k2 : Blk w Pl 68 #[.pointer (some ⟨P, 0, none⟩), .int .i64 t, vF, .slice (some ⟨gE, 0, none⟩) n n, vS]) (hE : ArrI w base gE n en) (hk : k < n) :
 Calls Try.prog 71 #[.int .i64 k, .pointer (some ⟨Gp, 0, none⟩)] w fun e w' => e = .returned (.bool (lateB en t k)) ∧ Grows w w' := by
 obtain ⟨x, hx⟩ : ∃ x, en[k]? = some x := ⟨_, List.getElem?_eq_getElem (by have := hE.1; omega)⟩
 have q0 := hE.cell hx
 have HE : Hid (lateB en t k = (decide (x < 0) || decide (t < x))) := Lib.hid (by simp [lateB, List.getD_eq_getElem?_getD, hx])
 have x1 := k1.cell 0
 have x2 := k2.cell
 clear hx
 go_enter Try.func71, Try.ntmps71
 cases e1 : decide (x < 0)
 ·rw [e1] at HE
  go_upto_region 1 with fail
  go_quiet (fail)
  go_wp2
  go_ret
  rw [HE.out]
  exact ⟨rfl, grows_drewN _ _⟩
 ·rw [e1] at HE
  go_upto_region 1 with fail
  go_quiet (fail)
  go_wp2
  go_ret
  rw [HE.out]
  exact ⟨rfl, grows_drewN _ _⟩
end Go.Proofs.Ytobhdldlhhigdaa

namespace Go.Proofs.Ytobhdldlhhigdaa
open Go.RowKit Go.Maps
set_option maxRecDepth 100000
theorem rinfo : ∃ i : TypeInfo, Try.prog.info? 22 = some i ∧ i.size = 1 ∧ i.bytes = 24 ∧ i.zero = some (.slice none 0 0) ∧ (Value.slice none 0 0).cells.size = 1 := ⟨_, by first | exact Try.info22 | rfl, rfl, rfl, rfl, rfl⟩
/-- A row of slices in a block of its own. -/
def RowG (w : World) (base g n : Nat) (vals : List Value) : Prop := vals.length = n ∧ w.ownsRow base 22 1 (.slice (some ⟨g, 0, none⟩) n n) n vals
section
variable {w w' : World} {base g n : Nat} {vals : List Value}
theorem RowG.cell (h : RowG w base g n vals) {k : Nat} {v : Value} (hx : vals[k]? = some v) : w.cell? ⟨g, k, none⟩ = some v := by
 have hk := (List.getElem?_eq_some_iff.1 hx).1
 rw [h.2.cellAt k (by have := h.1; omega), hx]
theorem RowG.frozen (h : RowG w base g n vals) (k : Nat) : w.frozen? ⟨g, k, none⟩ = false := h.2.frozenAt k
theorem RowG.put (h : RowG w base g n vals) (k : Nat) (v : Value) : RowG (w.setCell ⟨g, k, none⟩ v) base g n (vals.set k v) ∧ w.grownBy (w.setCell ⟨g, k, none⟩ v) (some g) := by
 obtain ⟨h1, h2⟩ := h.2.stored k v
 exact ⟨⟨by rw [List.length_set]; exact h.1, h1⟩, h2⟩
theorem RowG.grows (h : RowG w base g n vals) (hg : Grows w w') : RowG w' base g n vals := ⟨h.1, own_grows h.2 hg⟩
theorem RowG.kept (h : RowG w base g n vals) {row : Option Nat} (hg : w.grownBy w' row) (hne : some g ≠ row) : RowG w' base g n vals := ⟨h.1, World.ownsRow.kept h.2 hg (.inr hne)⟩
theorem RowG.lt (h : RowG w base g n vals) : base ≤ g ∧ g < w.heap.size := World.ownsRow.lt h.2 g rfl
theorem RowG.ne_own (h : RowG w base g n vals) {b : Nat} {v : Value} {m : Nat} {xs : List Value} (ho : w.ownsRow b 3 1 v m xs) : some g ≠ v.ownBlock := by
 rcases own_apart ho h.2 (by decide) with e | e
 ·simp [Value.ownBlock] at e
 ·exact e
theorem rowG_made (w : World) (base g n : Nat) (h : w.ownsRow base 22 1 (.slice (some ⟨g, 0, none⟩) n n) n (madeCells (Value.slice none 0 0).cells (n * 1)).toList) : RowG w base g n (List.replicate n (Value.slice none 0 0)) := by
 refine ⟨by simp, ?_⟩
 have e : (madeCells (Value.slice none 0 0).cells (n * 1)).toList = List.replicate n (Value.slice none 0 0) := by
  simp [madeCells, Value.cells, Nat.mod_one, List.map_const']
 rw [← e]
 exact h
end
section
variable {w w' : World} {b0 b1 G n : Nat} {R : Nat → List Int} {i : Nat} {vo v v' : Value}
/-- All rows are of one's own, and lie apart. -/
def BefO (w : World) (b0 b1 G n : Nat) (R : Nat → List Int) : Prop :=
 ∃ vals, RowG w b0 G n vals ∧ (∀ j < n, ∃ u, vals[j]? = some u ∧ OwnI w b1 u (R j)) ∧ (∀ (j k : Nat) (u x : Value), j ≠ k → vals[j]? = some u → vals[k]? = some x → u.ownBlock = none ∨ u.ownBlock ≠ x.ownBlock)
/-- All rows but the one at i, whose cell still holds vo while its row is v. -/
def BefX (w : World) (b0 b1 G n : Nat) (R : Nat → List Int) (i : Nat) (vo v : Value) : Prop :=
 ∃ vals, RowG w b0 G n vals ∧ vals[i]? = some vo ∧ (∀ j < n, j ≠ i → ∃ u, vals[j]? = some u ∧ OwnI w b1 u (R j) ∧ (u.ownBlock = none ∨ u.ownBlock ≠ v.ownBlock)) ∧ (∀ (j k : Nat) (u x : Value), j ≠ k → j ≠ i → k ≠ i → vals[j]? = some u → vals[k]? = some x → u.ownBlock = none ∨ u.ownBlock ≠ x.ownBlock)
theorem befO_made (h : RowG w b0 G n (List.replicate n (Value.slice none 0 0))) (b1 : Nat) (hR : ∀ j, R j = []) : BefO w b0 b1 G n R := by
 have hv : ∀ (j : Nat) (u : Value), (List.replicate n (Value.slice none 0 0))[j]? = some u → u = .slice none 0 0 := by
  intro j u hu
  obtain ⟨hj, e⟩ := List.getElem?_eq_some_iff.1 hu
  rw [List.getElem_replicate] at e
  exact e.symm
 refine ⟨_, h, fun j hj => ⟨Value.slice none 0 0, by rw [List.getElem?_replicate, if_pos hj], by rw [hR]; exact ownI_nil w b1⟩, fun j k u x _ hu _ => .inl ?_⟩
 rw [hv j u hu]
 rfl
theorem BefO.grows (h : BefO w b0 b1 G n R) (hg : Grows w w') : BefO w' b0 b1 G n R := by
 obtain ⟨vals, h1, h2, h3⟩ := h
 exact ⟨vals, h1.grows hg, fun j hj => by obtain ⟨u, e, o⟩ := h2 j hj; exact ⟨u, e, o.grows hg⟩, h3⟩
theorem BefO.open_ (h : BefO w b0 b1 G n R) (hi : i < n) : ∃ v, OwnI w b1 v (R i) ∧ BefX w b0 b1 G n R i v v := by
 obtain ⟨vals, h1, h2, h3⟩ := h
 obtain ⟨v, e, o⟩ := h2 i hi
 refine ⟨v, o, vals, h1, e, fun j hj hne => ?_, fun j k u x hjk _ _ hu hx => h3 j k u x hjk hu hx⟩
 obtain ⟨u, e2, o2⟩ := h2 j hj
 exact ⟨u, e2, o2, h3 j i u v hne e2 e⟩
theorem BefX.grows (h : BefX w b0 b1 G n R i vo v) (hg : Grows w w') : BefX w' b0 b1 G n R i vo v := by
 obtain ⟨vals, h1, h2, h3, h4⟩ := h
 exact ⟨vals, h1.grows hg, h2, fun j hj hne => by obtain ⟨u, e, o, a⟩ := h3 j hj hne; exact ⟨u, e, o.grows hg, a⟩, h4⟩
theorem BefX.cell (h : BefX w b0 b1 G n R i vo v) : w.cell? ⟨G, i, none⟩ = some vo := by
 obtain ⟨vals, h1, h2, _⟩ := h
 exact h1.cell h2
theorem BefX.row (h : BefX w b0 b1 G n R i vo v) : ∃ vals, RowG w b0 G n vals ∧ vals[i]? = some vo := by
 obtain ⟨vals, h1, h2, _⟩ := h
 exact ⟨vals, h1, h2⟩
theorem BefX.append (h : BefX w b0 b1 G n R i vo v) (ho : OwnI w b1 v (R i)) (hg : w.grownBy w' v.ownBlock) (hv : v'.ownBlock = v.ownBlock ∨ v'.ownBlock = some w.heap.size) : BefX w' b0 b1 G n R i vo v' := by
 obtain ⟨vals, h1, h2, h3, h4⟩ := h
 refine ⟨vals, h1.kept hg (h1.ne_own ho), h2, fun j hj hne => ?_, h4⟩
 obtain ⟨u, e, o, a⟩ := h3 j hj hne
 refine ⟨u, e, World.ownsRow.kept o hg a, ?_⟩
 rcases hv with hv | hv
 ·rw [hv]; exact a
 ·rw [hv]
  cases hu : u.ownBlock with
  | none => exact .inl rfl
  | some q =>
   refine .inr fun e2 => ?_
   injection e2 with e2
   have := (World.ownsRow.lt o q hu).2
   omega
theorem BefX.close (h : BefX w b0 b1 G n R i vo v) (hi : i < n) {L : List Int} (ho : OwnI w b1 v L) {R' : Nat → List Int} (hR : ∀ j, R' j = if j = i then L else R j) : BefO (w.setCell ⟨G, i, none⟩ v) b0 b1 G n R' := by
 obtain ⟨vals, h1, h2, h3, h4⟩ := h
 obtain ⟨p1, p2⟩ := h1.put i v
 have hlen := h1.1
 have hget : ∀ j, (vals.set i v)[j]? = if j = i then some v else vals[j]? := by
  intro j
  rw [List.getElem?_set]
  by_cases e : i = j
  ·subst e
   rw [if_pos rfl, if_pos rfl, if_pos (by omega)]
  ·rw [if_neg e, if_neg (Ne.symm e)]
 refine ⟨_, p1, fun j hj => ?_, fun j k u x hjk hu hx => ?_⟩
 ·rw [hget, hR]
  by_cases e : j = i
  ·rw [if_pos e, if_pos e]
   exact ⟨v, rfl, World.ownsRow.kept ho p2 (.inr fun e2 => h1.ne_own ho e2.symm)⟩
  ·rw [if_neg e, if_neg e]
   obtain ⟨u, e1, o, a⟩ := h3 j hj e
   exact ⟨u, e1, World.ownsRow.kept o p2 (.inr fun e2 => h1.ne_own o e2.symm)⟩
 ·rw [hget] at hu hx
  by_cases ej : j = i
  ·rw [if_pos ej] at hu
   rw [if_neg (fun e => hjk (ej.trans e.symm))] at hx
   injection hu with hu
   subst hu
   have hk : k < n := by have := (List.getElem?_eq_some_iff.1 hx).1; omega
   obtain ⟨u, e1, o, a⟩ := h3 k hk (fun e => hjk (ej.trans e.symm))
   rw [hx] at e1
   injection e1 with e1
   subst e1
   cases hv : v.ownBlock with
   | none => exact .inl rfl
   | some q =>
    refine .inr fun e2 => ?_
    rcases a with a | a
    ·rw [a] at e2; cases e2
    ·exact a (by rw [hv]; exact e2.symm)
  ·rw [if_neg ej] at hu
   have hj : j < n := by have := (List.getElem?_eq_some_iff.1 hu).1; omega
   by_cases ek : k = i
   ·rw [if_pos ek] at hx
    injection hx with hx
    subst hx
    obtain ⟨u2, e1, o, a⟩ := h3 j hj ej
    rw [hu] at e1
    injection e1 with e1
    subst e1
    exact a
   ·rw [if_neg ek] at hx
    exact h4 j k u x hjk ej ek hu hx
end
theorem grown_setCell (w : World) (p : Addr) (u : Value) : w.grownBy (w.setCell p u) (some p.block) :=
 ⟨rfl, rfl, rfl, by simp [World.setCell], fun j _ hj => Below.heap_setCell w p u j (fun e => hj (by rw [e]))⟩
theorem own_new_ne {w : World} {b : Nat} {v1 v2 : Value} {e1 : TypeId} {s1 n1 : Nat} {x1 : List Value} (h2 : ∀ g, v2.ownBlock = some g → g < b) (h1 : w.ownsRow b e1 s1 v1 n1 x1) : v2.ownBlock = none ∨ v2.ownBlock ≠ v1.ownBlock := by
 cases hv : v2.ownBlock with
 | none => exact .inl rfl
 | some g =>
  refine .inr fun e => ?_
  have a := h2 g hv
  have c := (World.ownsRow.lt h1 g e.symm).1
  omega
/-- The rows as they are read. -/
def BefR (w : World) (G n : Nat) (R : Nat → List Int) : Prop := ∀ j < n, ∃ A c, G < w.heap.size ∧ w.cell? ⟨G, j, none⟩ = some (.slice A (R j).length c) ∧ Ints w A (R j) ∧ (R j).length ≤ c
theorem BefO.read {w : World} {b0 b1 G n : Nat} {R : Nat → List Int} (h : BefO w b0 b1 G n R) : BefR w G n R := by
 intro j hj
 obtain ⟨vals, h1, h2, _⟩ := h
 obtain ⟨u, e, o⟩ := h2 j hj
 obtain ⟨A, c, rfl, hc, hr⟩ := o.read
 exact ⟨A, c, h1.lt.2, h1.cell e, hr, hc⟩
theorem BefR.below {w w' : World} {G n : Nat} {R : Nat → List Int} (h : BefR w G n R) (hB : Grows w w') : BefR w' G n R := by
 intro j hj
 obtain ⟨A, c, h1, h2, h3, h4⟩ := h j hj
 exact ⟨A, c, Nat.lt_of_lt_of_le h1 hB.size, by rw [← h2]; exact hB.cell h1, h3.grows hB, h4⟩
/-- A problem as the program keeps it. -/
structure PrS (w : World) (P Bm m G co : Nat) (A A2 A3 Ao : Option Addr) (c c2 c3 : Nat) (ns ls : List Q4) (cs : List Int) : Prop where
 blk : Blk w P 88 #[.slice A ns.length c, .slice A2 ls.length c2, .slice A3 cs.length c3, .map (some Bm), .slice Ao (ordP ns ls).length co, .slice (some ⟨G, 0, none⟩) ns.length ns.length]
 map : MapT TI w Bm m (wMap ns (idL ns.length) ns.length)
 ord : Ints w Ao (ordP ns ls)
 bef : BefR w G ns.length (befP ns ls)
theorem PrS.grows {w w' : World} {P Bm m G co : Nat} {A A2 A3 Ao : Option Addr} {c c2 c3 : Nat} {ns ls : List Q4} {cs : List Int} (h : PrS w P Bm m G co A A2 A3 Ao c c2 c3 ns ls cs) (hg : Grows w w') : PrS w' P Bm m G co A A2 A3 Ao c c2 c3 ns ls cs :=
 ⟨h.blk.grows hg, h.map.grows hg, h.ord.grows hg, h.bef.below hg⟩
def ReadR (A A2 A3 : Option Addr) (c c2 c3 : Nat) (ns ls : List Q4) (cs : List Int) (wi : Int) (e : Ending) (w' : World) : Prop :=
 (probB ns ls cs wi = true ∧ ∃ P Bm m G co Ao, e = .returned (.tuple #[.pointer (some ⟨P, 0, none⟩), .bool true]) ∧ PrS w' P Bm m G co A A2 A3 Ao c c2 c3 ns ls cs) ∨ (probB ns ls cs wi = false ∧ e = .returned (.tuple #[.pointer none, .bool false]))
/-! What is made in the region that draws its order. -/
def gMapN (base : Nat) : GP := ⟨fun w v => ∃ b, v = .map (some b) ∧ base ≤ b ∧ MapT TI w b 0 (fun _ => none), fun _ _ _ ⟨b, e, h0, h⟩ hg => ⟨b, e, h0, h.grows hg⟩⟩
def gRowN (base n : Nat) : GP := ⟨fun w v => ∃ g, v = .slice (some ⟨g, 0, none⟩) n n ∧ RowG w base g n (List.replicate n (Value.slice none 0 0)), fun _ _ _ ⟨g, e, h⟩ hg => ⟨g, e, h.grows hg⟩⟩
def gProA (base n : Nat) (x1 x2 y : Value) : GP := ⟨fun w v => ∃ b g, v = .agg #[x1, x2, y, .map (some b), .slice none 0 0, .slice (some ⟨g, 0, none⟩) n n] ∧ base ≤ b ∧ MapT TI w b 0 (fun _ => none) ∧ RowG w base g n (List.replicate n (Value.slice none 0 0)), fun _ _ _ ⟨b, g, e, h0, h1, h2⟩ hg => ⟨b, g, e, h0, h1.grows hg, h2.grows hg⟩⟩
def gProP (base n : Nat) (x1 x2 y : Value) : GP := ⟨fun w v => ∃ p b g, v = .pointer (some ⟨p, 0, none⟩) ∧ base ≤ p ∧ base ≤ b ∧ Blk w p 88 #[x1, x2, y, .map (some b), .slice none 0 0, .slice (some ⟨g, 0, none⟩) n n] ∧ MapT TI w b 0 (fun _ => none) ∧ RowG w base g n (List.replicate n (Value.slice none 0 0)), fun _ _ _ ⟨p, b, g, e, h5, h0, h1, h2, h3⟩ hg => ⟨p, b, g, e, h5, h0, h1.grows hg, h2.grows hg, h3.grows hg⟩⟩
section
variable {P : Program} {o : Oper} {ev : Operand → Value} {w : World} {T : Value → World → Prop}
theorem gr_make_full (l c : Operand) (t : TypeId) (hop : o.op = Op.makeSlice t l c)
 (base : Nat) (e : TypeId) (i : TypeInfo) (z : Value) (size : Nat) (h1 : P.underlying t = some (.slice e)) (h2 : P.info? e = some i) (h3 : i.zero = some z) (h4 : i.size = size)
 (kl kc : IntKind) (L C : Int) (n : Nat) (hl : ev l = .int kl L) (hc : ev c = .int kc C) (hL : L = (n : Int)) (hC : C = (n : Int)) (b2 : i.bytes * n ≤ 281474976710656) (b3 : n ≤ maxLen) (b4 : base ≤ w.heap.size)
 (hK : ∀ w', w'.ownsRow base e size (.slice (some ⟨w.heap.size, 0, none⟩) n n) n (madeCells z.cells (n * size)).toList → w.grownBy w' none → T (.slice (some ⟨w.heap.size, 0, none⟩) n n) w') :
 genR P T ((execOp ev o).run P w) := by
 obtain ⟨w', hrun, r1, r2⟩ := run_make_full (P := P) w base t e i z size h1 h2 h3 h4 kl kc n b2 b3 b4
 subst hL
 subst hC
 simp [execOp, hop, hl, hc, hrun, Result.andThen]
 exact hK _ r1 r2
end
theorem gr_append_int {o : Oper} {ev : Operand → Value} {w : World} {T : Value → World → Prop} (s x : Operand) (ho : o.op = .call { callee := .builtin .append, args := #[s, x], argTypes := #[22, 22] })
 {base : Nat} {v : Value} {l m : List Int} {A : Option Addr} {c n : Nat} (hn : n = m.length) (hs : ev s = v) (hown : OwnI w base v l) (hx : ev x = .slice A n c) (hr : Ints w A m) (hlen : l.length + m.length ≤ 1000000) (hbase : base ≤ w.heap.size)
 (h : ∀ v' w', OwnI w' base v' (l ++ m) → w.grownBy w' v.ownBlock → (v'.ownBlock = v.ownBlock ∨ v'.ownBlock = some w.heap.size) → T v' w') : genR Try.prog T ((execOp ev o).run Try.prog w) := by
 obtain ⟨i0, hi0, hi1, hi2, hi3, hi4⟩ := iinfo
 subst hn
 obtain ⟨v', w', hrun, h2, h3, h4⟩ := run_append_any (P := Try.prog) w base 22 o.type 3 i0 _ 1 8 Try.underlying22 hi0 hi3 hi1 hi2 hi4 (by omega) v l.length (l.map (Value.int .i64)) hown w.heap.size A m.length c (m.map (Value.int .i64)) hr (ints_one m) (by simp only [maxLen]; omega) (by omega) hbase
 unfold execOp
 simp only [ho, resolve, invoke, builtin, Sem.run_bind, Sem.run_pure, Result.andThen_ok, List.map_toArray, List.map_cons, List.map_nil, hs, hx, hrun]
 refine h v' w' ?_ h3 h4
 unfold OwnI
 rw [List.map_append, List.length_append]
 exact h2
end Go.Proofs.Ytobhdldlhhigdaa

namespace Go.Proofs.Ytobhdldlhhigdaa
open Go.RowKit Go.Maps
set_option maxRecDepth 100000 in
set_option maxHeartbeats 16000000 in
theorem prdy_any {P Bm m G co : Nat} {A A2 A3 Ao : Option Addr} {c c2 c3 : Nat} {ns ls : List Q4} {cs : List Int} {w : World} {Pl gE base : Nat} {t : Int} {en : List Int} {vF vS : Value} (i : Nat) (hi : i < ns.length) (hv : validG ns ls = true) (hP : PrS w P Bm m G co A A2 A3 Ao c c2 c3 ns ls cs) (k2 : Blk w Pl 68 #[.pointer (some ⟨P, 0, none⟩), .int .i64 t, vF, .slice (some ⟨gE, 0, none⟩) ns.length ns.length, vS]) (hE : ArrI w base gE ns.length en) :
 Calls Try.prog 59 #[.pointer (some ⟨Pl, 0, none⟩), .int .i64 (i : Int)] w fun e w' => e = .returned (.bool (readyP en (befP ns ls i) t i)) ∧ Grows w w' := by
 have k1 := Blk.new w 65 #[.pointer (some ⟨Pl, 0, none⟩)]
 have hB := (Below.refl w.heap.size w).alloc (Nat.le_refl _) (Obj.cells #[.pointer (some ⟨Pl, 0, none⟩)] 65)
 have hln := (valid_len hv).1
 have hLs := (valid_len hv).2
 have HV := Lib.hid hv
 clear hv
 go_enter Try.func59, Try.ntmps59
 go_upto_region 1 with fail
 replace hP := hP.grows hB
 replace k2 := k2.grows hB
 replace hE := hE.grows hB
 generalize World.alloc w _ = w1 at *
 obtain ⟨x, hx⟩ : ∃ x, en[i]? = some x := ⟨_, List.getElem?_eq_getElem (by have := hE.1; omega)⟩
 have q0 := hE.cell hx
 have HX : Hid (en.getD i 0 = x) := Lib.hid (by rw [List.getD_eq_getElem?_getD, hx]; rfl)
 have x1 := k1.cell 0
 have x2 := k2.cell
 have xP := hP.blk.cell
 obtain ⟨Ab, cb, -, xb, hb, -⟩ := hP.bef i hi
 have hbl := befP_len ns ls i
 clear hx
 cases e1 : decide (x < 0)
 ·have HE : Hid (readyP en (befP ns ls i) t i = false) := Lib.hid (by simp only [readyP, HX.out, e1, Bool.false_and])
  go_wp2
  go_ret
  rw [HE.out]
  exact ⟨rfl, hB⟩
 ·have HE : Hid (readyP en (befP ns ls i) t i = !(befP ns ls i).any (lateB en t)) := Lib.hid (by simp only [readyP, HX.out, e1, Bool.true_and])
  go_wp2_with fail
  refine (contl_any Ab cb (befP ns ls i) (lateB en t) w.heap.size _ hb (by omega) fun y hy w2 hg => ?_).mono ?_
  ·obtain ⟨k, rfl, hk⟩ := befP_mem HV.out hy
   exact late_any k t w.heap.size Pl P gE ns.length base en vF vS w2 (k1.grows hg) (k2.grows hg) (hE.grows hg) hk
  rintro e w2 ⟨rfl, hq⟩
  replace hB := below_grows hB (Nat.le_refl _) hq
  generalize hz : (befP ns ls i).any (lateB en t) = z at *
  clear hq
  go_wp2
  go_ret
  rw [HE.out]
  exact ⟨rfl, hB⟩
end Go.Proofs.Ytobhdldlhhigdaa

namespace Go.Proofs.Ytobhdldlhhigdaa
open Go.RowKit Go.Maps
set_option maxRecDepth 100000 in
theorem ArrI.ne_own {w : World} {base g n : Nat} {l : List Int} (h : ArrI w base g n l) {b s m : Nat} {e : TypeId} {v : Value} {xs : List Value} (o : w.ownsRow b e s v m xs) (hne : e ≠ 3) : some g ≠ v.ownBlock := by
 rcases own_apart o h.own hne with q | q
 ·simp [Value.ownBlock] at q
 ·exact q
/-- A plan in memory. -/
structure PlS (w : World) (H Pl P gF gE wk n : Nat) (vS : Value) (ns : List Q4) (st : St) : Prop where
 blk : Blk w Pl 68 #[.pointer (some ⟨P, 0, none⟩), .int .i64 st.t, .slice (some ⟨gF, 0, none⟩) wk wk, .slice (some ⟨gE, 0, none⟩) n n, vS]
 busy : ArrI w H gF wk st.busy
 ends : ArrI w H gE n (arrL ns (endS st.l))
 slots : OwnS w H vS st.l
set_option maxRecDepth 100000 in
theorem PlS.grows {w w' : World} {H Pl P gF gE wk n : Nat} {vS : Value} {ns : List Q4} {st : St} (h : PlS w H Pl P gF gE wk n vS ns st) (hg : Grows w w') : PlS w' H Pl P gF gE wk n vS ns st := ⟨h.blk.grows hg, h.busy.grows hg, h.ends.grows hg, h.slots.grows hg⟩
set_option maxRecDepth 100000 in
set_option maxHeartbeats 16000000 in
theorem pstep_any {P Bm m G co : Nat} {A A2 A3 Ao : Option Addr} {c c2 c3 : Nat} {ns ls : List Q4} {cs : List Int} {w0 w : World} {Pl gF gE wk : Nat} {vS : Value} {st : St} (h : GOK w0 A A2 c2 ns ls) (h3 : Ints w0 A3 cs) (hP : PrS w0 P Bm m G co A A2 A3 Ao c c2 c3 ns ls cs) (hB : Below w0.heap.size w0 w) (hl : PlS w w0.heap.size Pl P gF gE wk ns.length vS ns st) (hPl : w0.heap.size ≤ Pl) (hne : gF ≠ gE)
 (HP : Hid (probB ns ls cs wk = true)) (HC : Hid (CSt ns ls cs wk st)) (hlt : st.l.length < ns.length) :
 Calls Try.prog 31 #[.pointer (some ⟨Pl, 0, none⟩)] w fun e w' => e = .returned (.tuple #[]) ∧ Below w0.heap.size w0 w' ∧ ∃ vS', PlS w' w0.heap.size Pl P gF gE wk ns.length vS' ns (stepS (wOf ns cs) (orderL ns ls) ls st) := by
 have hH : w0.heap.size ≤ w.heap.size := hB.size
 obtain ⟨kl, hb, he, hs⟩ := hl
 have hw8 : wk ≤ 8 := by have := prob_iff.1 HP.out; omega
 have hV := (prob_iff.1 HP.out).1
 have hln := (valid_len hV).1
 have hcs := okW_len (prob_iff.1 HP.out).2.1
 have hol : (ordP ns ls).length ≤ 64 := by rw [ordP_len]; exact order_len64 hV
 have HV := Lib.hid hV
 have H0 : Hid (∀ u ∈ st.l, 0 ≤ u.d) := Lib.hid fun u hu => (HC.out.tb.2.2.1 u hu).1
 have hlen := (cst_len HP.out HC.out).1
 have ht := cst_time HP.out HC.out
 have hbl : st.busy.length = wk := HC.out.si.bl
 clear hV
 obtain ⟨nv, hnv⟩ : ∃ nv, placeV ((ordP ns ls).findIdx? (pickP ns ls st.l st.t)) = nv := ⟨_, rfl⟩
 obtain ⟨fv, hfv⟩ : ∃ fv, placeV (freeS st.busy st.t) = fv := ⟨_, rfl⟩
 have HNV := Lib.hid hnv
 have HFV := Lib.hid hfv
 clear hnv hfv
 have k1 := Blk.new w 65 #[.pointer (some ⟨Pl, 0, none⟩)]
 have hq := (Below.refl w.heap.size w).alloc (Nat.le_refl _) (Obj.cells #[.pointer (some ⟨Pl, 0, none⟩)] 65)
 go_enter Try.func31, Try.ntmps31
 go_upto_region 1 with fail
 replace hB : Below w0.heap.size w0 (w.alloc _) := hB.trans (hq.mono hH)
 replace kl := kl.grows hq
 replace hb := hb.grows hq
 replace he := he.grows hq
 replace hs := hs.grows hq
 have hBx : w0.heap.size ≤ w.heap.size := hH
 generalize World.alloc w _ = w1 at *
 generalize w.heap.size = Gx at *
 clear hq hH
 have hH : w0.heap.size ≤ w1.heap.size := hB.size
 have HRDY : Hid (∀ w2, Grows w1 w2 → ∀ x ∈ ordP ns ls, ∀ w3, Grows w2 w3 → Calls Try.prog 59 #[.pointer (some ⟨Pl, 0, none⟩), .int .i64 x] w3 fun e w' => e = .returned (.bool ((pickP ns ls st.l st.t) x)) ∧ Grows w3 w') := Lib.hid fun w2 hg2 x hx w3 hg3 => by
  obtain ⟨k, n, rfl, hk, -, -⟩ := ordP_mem hx
  have hg := hg2.trans' hg3
  exact prdy_any k hk HV.out ((hP.grows hB).grows hg) (kl.grows hg) (he.grows hg)
 obtain ⟨S, HI, HO⟩ := hideS fun (L : Ran) (vs : Nat → Value) (w' : World) => Grows w1 w' ∧ KnS [some (.pointer (some ⟨Pl, 0, none⟩)), some (.pointer (some ⟨Pl, 0, none⟩)), some (.pointer (some ⟨Pl, 0, none⟩)), some (.pointer (some ⟨P, 0, none⟩)), some (.pointer (some ⟨P, 0, none⟩)), some (.pointer (some ⟨P, 4, none⟩)), some (.slice Ao (ordP ns ls).length co), some (.pointer (some ⟨Pl, 0, none⟩)), some (.func (.func 59) #[.pointer (some ⟨Pl, 0, none⟩)] #[]), some (.int .i64 nv), some (.int .i64 nv)] L vs
 refine wp_region_genW S 131 (by kernel_rfl) (by kernel_rfl) rfl ?_ ?_
 ·exact HI.out _ _ _ ⟨Grows.drew' _, kn_none _ _⟩
 refine gen_consR (fun vs L w1 hL hw1 => ?_) ?_
 ·obtain ⟨q0, q1⟩ := HO.out _ _ _ hw1
  refine gen_plain rfl ?_
  have x := (k1.grows q0).cell 0
  go_simp
  exact gr_val (HI.out _ _ _ ⟨q0, kn_known q1 rfl⟩)
 refine gen_consR (fun vs L w1 hL hw1 => ?_) ?_
 ·obtain ⟨q0, q1⟩ := HO.out _ _ _ hw1
  refine gen_plain rfl ?_
  have l0 : L 0 = true := hL.need 0 (by kernel_rfl)
  have e0 := q1 0 _ rfl l0
  simp only [e0]
  go_simp
  exact gr_val (HI.out _ _ _ ⟨q0, kn_known q1 rfl⟩)
 refine gen_consR (fun vs L w1 hL hw1 => ?_) ?_
 ·obtain ⟨q0, q1⟩ := HO.out _ _ _ hw1
  refine gen_plain rfl ?_
  have l1 : L 1 = true := hL.need 1 (by kernel_rfl)
  have e1 := q1 1 _ rfl l1
  simp only [e1]
  go_simp
  exact gr_val (HI.out _ _ _ ⟨q0, kn_known q1 rfl⟩)
 refine gen_consR (fun vs L w1 hL hw1 => ?_) ?_
 ·obtain ⟨q0, q1⟩ := HO.out _ _ _ hw1
  refine gen_plain rfl ?_
  have l2 : L 2 = true := hL.need 2 (by kernel_rfl)
  have e2 := q1 2 _ rfl l2
  have x := (kl.grows q0).cell 0
  simp only [e2]
  go_simp
  exact gr_val (HI.out _ _ _ ⟨q0, kn_known q1 rfl⟩)
 refine gen_consR (fun vs L w1 hL hw1 => ?_) ?_
 ·obtain ⟨q0, q1⟩ := HO.out _ _ _ hw1
  refine gen_plain rfl ?_
  have l3 : L 3 = true := hL.need 3 (by kernel_rfl)
  have e3 := q1 3 _ rfl l3
  simp only [e3]
  go_simp
  exact gr_val (HI.out _ _ _ ⟨q0, kn_known q1 rfl⟩)
 refine gen_consR (fun vs L w1 hL hw1 => ?_) ?_
 ·obtain ⟨q0, q1⟩ := HO.out _ _ _ hw1
  refine gen_plain rfl ?_
  have l4 : L 4 = true := hL.need 4 (by kernel_rfl)
  have e4 := q1 4 _ rfl l4
  simp only [e4]
  go_simp
  exact gr_val (HI.out _ _ _ ⟨q0, kn_known q1 rfl⟩)
 refine gen_consR (fun vs L w1 hL hw1 => ?_) ?_
 ·obtain ⟨q0, q1⟩ := HO.out _ _ _ hw1
  refine gen_plain rfl ?_
  have l5 : L 5 = true := hL.need 5 (by kernel_rfl)
  have e5 := q1 5 _ rfl l5
  have x := ((hP.grows hB).blk.grows q0).cell 4
  simp only [e5]
  go_simp
  exact gr_val (HI.out _ _ _ ⟨q0, kn_known q1 rfl⟩)
 refine gen_consR (fun vs L w1 hL hw1 => ?_) ?_
 ·obtain ⟨q0, q1⟩ := HO.out _ _ _ hw1
  refine gen_plain rfl ?_
  have x := (k1.grows q0).cell 0
  go_simp
  exact gr_val (HI.out _ _ _ ⟨q0, kn_known q1 rfl⟩)
 refine gen_consR (fun vs L w1 hL hw1 => ?_) ?_
 ·obtain ⟨q0, q1⟩ := HO.out _ _ _ hw1
  refine gen_plain rfl ?_
  have l7 : L 7 = true := hL.need 7 (by kernel_rfl)
  have e7 := q1 7 _ rfl l7
  simp only [e7]
  go_simp
  exact gr_val (HI.out _ _ _ ⟨q0, kn_known q1 rfl⟩)
 refine gen_consR (fun vs L w1 hL hw1 => ?_) ?_
 ·obtain ⟨q0, q1⟩ := HO.out _ _ _ hw1
  refine gen_plain rfl ?_
  have l6 : L 6 = true := hL.need 6 (by kernel_rfl)
  have e6 := q1 6 _ rfl l6
  have l8 : L 8 = true := hL.need 8 (by kernel_rfl)
  have e8 := q1 8 _ rfl l8
  simp only [e6, e8]
  go_simp
  refine gr_call ?_
  refine (idxr_any Ao co (ordP ns ls) (pickP ns ls st.l st.t) Pl w1 (((hP.grows hB).grows q0).ord) (by omega) (HRDY.out w1 q0)).mono ?_
  rintro e w2 ⟨rfl, hg⟩
  rw [HNV.out]
  exact ⟨_, rfl, HI.out _ _ _ ⟨below_grows q0 (Nat.le_refl _) hg, kn_known q1 rfl⟩⟩
 refine gen_consR (fun vs L w1 hL hw1 => ?_) ?_
 ·obtain ⟨q0, q1⟩ := HO.out _ _ _ hw1
  refine gen_plain rfl ?_
  have l9 : L 9 = true := hL.need 9 (by kernel_rfl)
  have e9 := q1 9 _ rfl l9
  simp only [e9]
  go_simp
  exact gr_val (HI.out _ _ _ ⟨q0, kn_known q1 rfl⟩)
 refine gen_nil ?_
 intro vs L W6 hall hS
 obtain ⟨hq, q1⟩ := HO.out _ _ _ hS
 have eX10 := q1 10 _ rfl (hall 10 (by simp))
 clear hall hS HI HO q1
 simp only [eX10]
 generalize vs 0 = y0 at *
 generalize vs 1 = y1 at *
 generalize vs 2 = y2 at *
 generalize vs 3 = y3 at *
 generalize vs 4 = y4 at *
 generalize vs 5 = y5 at *
 generalize vs 6 = y6 at *
 generalize vs 7 = y7 at *
 generalize vs 8 = y8 at *
 generalize vs 9 = y9 at *
 generalize vs 10 = y10 at *
 replace hB := below_grows hB (Nat.le_refl _) hq
 replace k1 := k1.grows hq
 replace kl := kl.grows hq
 replace hb := hb.grows hq
 replace he := he.grows hq
 replace hs := hs.grows hq
 obtain ⟨A5, c5, rfl, hc5, -⟩ := hs.read
 have hH2 := Nat.le_trans hH hq.size
 clear hH hq HRDY
 have hH := hH2
 clear hH2
 have x1 := k1.cell 0
 have xl := kl.cell
 go_wp2_with fail
 refine (idxs_is Gx hbl hb.ints_ (by omega) HFV.out fun y _ w2 hg => step1_any y st.t Gx Pl P gE ns.length _ _ w2 (k1.grows hg) (kl.grows hg)).mono ?_
 rintro e w2 ⟨rfl, hq⟩
 replace hB := below_grows hB (Nat.le_refl _) hq
 replace k1 := k1.grows hq
 replace kl := kl.grows hq
 replace hb := hb.grows hq
 replace he := he.grows hq
 replace hs := hs.grows hq
 have hH2 := Nat.le_trans hH hq.size
 clear hH hq x1 xl
 have hH := hH2
 clear hH2
 have x1 := k1.cell 0
 have xl := kl.cell
 rcases hn : (ordP ns ls).findIdx? (pickP ns ls st.l st.t) with _ | j
 ·have e0 : nv = -1 := by rw [← HNV.out, hn]; rfl
  subst e0
  have HW : Hid (nextS (orderL ns ls) ls st.l st.t = none ∨ freeS st.busy st.t = none) := Lib.hid (.inl (pick_none HV.out H0.out hn))
  clear hn HNV HFV
  have HST : Hid (stepS (wOf ns cs) (orderL ns ls) ls st = ⟨st.l, st.busy, laterS st.l st.t⟩) := Lib.hid (step_no HW.out)
  go_wp2_with fail
  clear x1 xl
  go_loopw [6, 103] (fun v i wr => ∃ k : Nat, k ≤ st.l.length ∧ i = .int .i64 k ∧ ∃ z : Int, v = .int .i64 z ∧ Hid (laterK st.l st.t k = z) ∧ Blk wr Gx 65 #[.pointer (some ⟨Pl, 0, none⟩)] ∧ Blk wr Pl 68 #[.pointer (some ⟨P, 0, none⟩), .int .i64 st.t, .slice (some ⟨gF, 0, none⟩) wk wk, .slice (some ⟨gE, 0, none⟩) ns.length ns.length, (.slice A5 st.l.length c5)] ∧ ArrI wr w0.heap.size gF wk st.busy ∧ ArrI wr w0.heap.size gE ns.length (arrL ns (endS st.l)) ∧ OwnS wr w0.heap.size (.slice A5 st.l.length c5) st.l ∧ Below w0.heap.size w0 wr) (fun _ i _ => st.l.length - (intOf i).toNat)
  case atStart => exact ⟨0, by omega, rfl, -1, rfl, Lib.hid rfl, k1, kl, hb, he, hs, hB⟩
  case round =>
   clear k1 kl hb he hs hB hH
   obtain ⟨k, hk, rfl, z, rfl, HZ, k1, kl, hb, he, hs, hB⟩ := hrel
   have hH := hB.size
   by_cases hlt2 : k < st.l.length
   ·obtain ⟨ad, x, e1, had, hx, q0, q1, q2, q3⟩ := hs.qs.elem hlt2
    subst e1
    have HU := Lib.hid (laterK_succ (t := st.t) hx)
    clear hx
    have k8 := Blk.new wr 53 #[.int .i64 x.a, .int .i64 x.b, .int .i64 x.c, .int .i64 x.d]
    have hq := (Below.refl wr.heap.size wr).alloc (Nat.le_refl _) (Obj.cells #[.int .i64 x.a, .int .i64 x.b, .int .i64 x.c, .int .i64 x.d] 53)
    go_upto_region 12 with fail
    replace hB := below_grows hB (Nat.le_refl _) hq
    replace k1 := k1.grows hq
    replace kl := kl.grows hq
    replace hb := hb.grows hq
    replace he := he.grows hq
    replace hs := hs.grows hq
    replace hH := Nat.le_trans hH hq.size
    clear hq
    generalize World.alloc wr _ = w6 at *
    generalize wr.heap.size = G8 at *
    have x8 := k8.cell 3
    have x1 := k1.cell 0
    have xl := kl.cell 1
    cases h1 : decide (st.t < x.d)
    case false =>
     have hn1 : ¬ st.t < x.d := by simpa using h1
     have HZ2 : Hid (laterK st.l st.t (k + 1) = z) := Lib.hid (by rw [HU.out, HZ.out, if_neg (by omega)])
     clear hn1
     go_quiet (fail)
     generalize hY : World.drewN w6 _ = w9 at *
     have hq : Grows w6 w9 := hY ▸ grows_drewN w6 _
     clear hY
     replace hB := below_grows hB (Nat.le_refl _) hq
     replace k1 := k1.grows hq
     replace kl := kl.grows hq
     replace hb := hb.grows hq
     replace he := he.grows hq
     replace hs := hs.grows hq
     clear hq q0 q1 q2 q3
     go_wp2
     go_roundw
     case rel => exact ⟨k + 1, by omega, by go_num, z, rfl, HZ2, k1, kl, hb, he, hs, hB⟩
     case measure => simp [intOf]; omega
    case true =>
     have hn1 : st.t < x.d := by simpa using h1
     cases h2 : decide (z < 0)
     case true =>
      have HZ2 : Hid (laterK st.l st.t (k + 1) = x.d) := Lib.hid (by rw [HU.out, HZ.out, if_pos ⟨hn1, .inl (by simpa using h2)⟩])
      clear hn1
      go_quiet (fail)
      generalize hY : World.drewN w6 _ = w9 at *
      have hq : Grows w6 w9 := hY ▸ grows_drewN w6 _
      clear hY
      clear x8
      replace k8 := k8.grows hq
      have x8 := k8.cell 3
      replace hB := below_grows hB (Nat.le_refl _) hq
      replace k1 := k1.grows hq
      replace kl := kl.grows hq
      replace hb := hb.grows hq
      replace he := he.grows hq
      replace hs := hs.grows hq
      clear hq q0 q1 q2 q3
      go_wp2
      go_roundw
      case rel => exact ⟨k + 1, by omega, by go_num, x.d, rfl, HZ2, k1, kl, hb, he, hs, hB⟩
      case measure => simp [intOf]; omega
     case false =>
      have hn2 : ¬ z < 0 := by simpa using h2
      cases h3 : decide (x.d < z)
      case true =>
       have HZ2 : Hid (laterK st.l st.t (k + 1) = x.d) := Lib.hid (by rw [HU.out, HZ.out, if_pos ⟨hn1, .inr (by simpa using h3)⟩])
       clear hn1 hn2
       go_quiet (fail)
       generalize hY : World.drewN w6 _ = w9 at *
       have hq : Grows w6 w9 := hY ▸ grows_drewN w6 _
       clear hY
       clear x8
       replace k8 := k8.grows hq
       have x8 := k8.cell 3
       replace hB := below_grows hB (Nat.le_refl _) hq
       replace k1 := k1.grows hq
       replace kl := kl.grows hq
       replace hb := hb.grows hq
       replace he := he.grows hq
       replace hs := hs.grows hq
       clear hq q0 q1 q2 q3
       go_wp2
       go_roundw
       case rel => exact ⟨k + 1, by omega, by go_num, x.d, rfl, HZ2, k1, kl, hb, he, hs, hB⟩
       case measure => simp [intOf]; omega
      case false =>
       have hn3 : ¬ x.d < z := by simpa using h3
       have HZ2 : Hid (laterK st.l st.t (k + 1) = z) := Lib.hid (by rw [HU.out, HZ.out, if_neg (by omega)])
       clear hn1 hn2 hn3
       go_quiet (fail)
       generalize hY : World.drewN w6 _ = w9 at *
       have hq : Grows w6 w9 := hY ▸ grows_drewN w6 _
       clear hY
       replace hB := below_grows hB (Nat.le_refl _) hq
       replace k1 := k1.grows hq
       replace kl := kl.grows hq
       replace hb := hb.grows hq
       replace he := he.grows hq
       replace hs := hs.grows hq
       clear hq q0 q1 q2 q3
       go_wp2
       go_roundw
       case rel => exact ⟨k + 1, by omega, by go_num, z, rfl, HZ2, k1, kl, hb, he, hs, hB⟩
       case measure => simp [intOf]; omega
   ·have HE : Hid (laterS st.l st.t = z) := Lib.hid (by have := HZ.out; unfold laterK at this; rwa [List.take_of_length_le (by omega)] at this)
    have x1 := k1.cell 0
    have xl := kl.cell
    have fz := kl.frozen 1
    have hgs := grown_setCell wr ⟨Pl, 1, none⟩ (.int .i64 z)
    have kl2 : Blk (wr.setCell ⟨Pl, 1, none⟩ (.int .i64 z)) Pl 68 #[.pointer (some ⟨P, 0, none⟩), .int .i64 z, .slice (some ⟨gF, 0, none⟩) wk wk, .slice (some ⟨gE, 0, none⟩) ns.length ns.length, (.slice A5 st.l.length c5)] := kl.set_ 1 (.int .i64 z)
    have hb2 := hb.kept hgs (Ne.symm (hb.ne_blk kl (by decide)))
    have he2 := he.kept hgs (Ne.symm (he.ne_blk kl (by decide)))
    have hs2 : OwnS (wr.setCell ⟨Pl, 1, none⟩ (.int .i64 z)) w0.heap.size (.slice A5 st.l.length c5) st.l := World.ownsRow.kept hs hgs (.inr (own_blk_ne hs kl (by decide)))
    have hB2 := hB.grown hgs hH (fun q e => by injection e with e; subst e; exact hPl)
    clear hgs
    go_wp2
    refine bodyPost_end (results_none rfl _ _ _) rfl ?_
    refine ⟨rfl, hB2, .slice A5 st.l.length c5, ?_⟩
    rw [HST.out, HE.out]
    exact ⟨kl2, hb2, he2, hs2⟩
 ·have e0 : nv = j := by rw [← HNV.out, hn]; rfl
  subst e0
  obtain ⟨id, hi1, hi2, hi3⟩ := pick_some HV.out H0.out hn
  have HNX := Lib.hid hi2
  have HJ := Lib.hid hi3
  have hjl : j < (ordP ns ls).length := (List.getElem?_eq_some_iff.1 hi3).1
  have hj0 : decide (0 ≤ (j : Int)) = true := by simp
  clear hn HNV hi1 hi2 hi3
  rcases hf : freeS st.busy st.t with _ | wi
  ·have e0 : fv = -1 := by rw [← HFV.out, hf]; rfl
   subst e0
   have HW : Hid (nextS (orderL ns ls) ls st.l st.t = none ∨ freeS st.busy st.t = none) := Lib.hid (.inr hf)
   clear hf HFV
   have HST : Hid (stepS (wOf ns cs) (orderL ns ls) ls st = ⟨st.l, st.busy, laterS st.l st.t⟩) := Lib.hid (step_no HW.out)
   go_wp2_with fail
   clear x1 xl
   go_loopw [6, 103] (fun v i wr => ∃ k : Nat, k ≤ st.l.length ∧ i = .int .i64 k ∧ ∃ z : Int, v = .int .i64 z ∧ Hid (laterK st.l st.t k = z) ∧ Blk wr Gx 65 #[.pointer (some ⟨Pl, 0, none⟩)] ∧ Blk wr Pl 68 #[.pointer (some ⟨P, 0, none⟩), .int .i64 st.t, .slice (some ⟨gF, 0, none⟩) wk wk, .slice (some ⟨gE, 0, none⟩) ns.length ns.length, (.slice A5 st.l.length c5)] ∧ ArrI wr w0.heap.size gF wk st.busy ∧ ArrI wr w0.heap.size gE ns.length (arrL ns (endS st.l)) ∧ OwnS wr w0.heap.size (.slice A5 st.l.length c5) st.l ∧ Below w0.heap.size w0 wr) (fun _ i _ => st.l.length - (intOf i).toNat)
   case atStart => exact ⟨0, by omega, rfl, -1, rfl, Lib.hid rfl, k1, kl, hb, he, hs, hB⟩
   case round =>
    clear k1 kl hb he hs hB hH
    obtain ⟨k, hk, rfl, z, rfl, HZ, k1, kl, hb, he, hs, hB⟩ := hrel
    have hH := hB.size
    by_cases hlt2 : k < st.l.length
    ·obtain ⟨ad, x, e1, had, hx, q0, q1, q2, q3⟩ := hs.qs.elem hlt2
     subst e1
     have HU := Lib.hid (laterK_succ (t := st.t) hx)
     clear hx
     have k8 := Blk.new wr 53 #[.int .i64 x.a, .int .i64 x.b, .int .i64 x.c, .int .i64 x.d]
     have hq := (Below.refl wr.heap.size wr).alloc (Nat.le_refl _) (Obj.cells #[.int .i64 x.a, .int .i64 x.b, .int .i64 x.c, .int .i64 x.d] 53)
     go_upto_region 12 with fail
     replace hB := below_grows hB (Nat.le_refl _) hq
     replace k1 := k1.grows hq
     replace kl := kl.grows hq
     replace hb := hb.grows hq
     replace he := he.grows hq
     replace hs := hs.grows hq
     replace hH := Nat.le_trans hH hq.size
     clear hq
     generalize World.alloc wr _ = w6 at *
     generalize wr.heap.size = G8 at *
     have x8 := k8.cell 3
     have x1 := k1.cell 0
     have xl := kl.cell 1
     cases h1 : decide (st.t < x.d)
     case false =>
      have hn1 : ¬ st.t < x.d := by simpa using h1
      have HZ2 : Hid (laterK st.l st.t (k + 1) = z) := Lib.hid (by rw [HU.out, HZ.out, if_neg (by omega)])
      clear hn1
      go_quiet (fail)
      generalize hY : World.drewN w6 _ = w9 at *
      have hq : Grows w6 w9 := hY ▸ grows_drewN w6 _
      clear hY
      replace hB := below_grows hB (Nat.le_refl _) hq
      replace k1 := k1.grows hq
      replace kl := kl.grows hq
      replace hb := hb.grows hq
      replace he := he.grows hq
      replace hs := hs.grows hq
      clear hq q0 q1 q2 q3
      go_wp2
      go_roundw
      case rel => exact ⟨k + 1, by omega, by go_num, z, rfl, HZ2, k1, kl, hb, he, hs, hB⟩
      case measure => simp [intOf]; omega
     case true =>
      have hn1 : st.t < x.d := by simpa using h1
      cases h2 : decide (z < 0)
      case true =>
       have HZ2 : Hid (laterK st.l st.t (k + 1) = x.d) := Lib.hid (by rw [HU.out, HZ.out, if_pos ⟨hn1, .inl (by simpa using h2)⟩])
       clear hn1
       go_quiet (fail)
       generalize hY : World.drewN w6 _ = w9 at *
       have hq : Grows w6 w9 := hY ▸ grows_drewN w6 _
       clear hY
       clear x8
       replace k8 := k8.grows hq
       have x8 := k8.cell 3
       replace hB := below_grows hB (Nat.le_refl _) hq
       replace k1 := k1.grows hq
       replace kl := kl.grows hq
       replace hb := hb.grows hq
       replace he := he.grows hq
       replace hs := hs.grows hq
       clear hq q0 q1 q2 q3
       go_wp2
       go_roundw
       case rel => exact ⟨k + 1, by omega, by go_num, x.d, rfl, HZ2, k1, kl, hb, he, hs, hB⟩
       case measure => simp [intOf]; omega
      case false =>
       have hn2 : ¬ z < 0 := by simpa using h2
       cases h3 : decide (x.d < z)
       case true =>
        have HZ2 : Hid (laterK st.l st.t (k + 1) = x.d) := Lib.hid (by rw [HU.out, HZ.out, if_pos ⟨hn1, .inr (by simpa using h3)⟩])
        clear hn1 hn2
        go_quiet (fail)
        generalize hY : World.drewN w6 _ = w9 at *
        have hq : Grows w6 w9 := hY ▸ grows_drewN w6 _
        clear hY
        clear x8
        replace k8 := k8.grows hq
        have x8 := k8.cell 3
        replace hB := below_grows hB (Nat.le_refl _) hq
        replace k1 := k1.grows hq
        replace kl := kl.grows hq
        replace hb := hb.grows hq
        replace he := he.grows hq
        replace hs := hs.grows hq
        clear hq q0 q1 q2 q3
        go_wp2
        go_roundw
        case rel => exact ⟨k + 1, by omega, by go_num, x.d, rfl, HZ2, k1, kl, hb, he, hs, hB⟩
        case measure => simp [intOf]; omega
       case false =>
        have hn3 : ¬ x.d < z := by simpa using h3
        have HZ2 : Hid (laterK st.l st.t (k + 1) = z) := Lib.hid (by rw [HU.out, HZ.out, if_neg (by omega)])
        clear hn1 hn2 hn3
        go_quiet (fail)
        generalize hY : World.drewN w6 _ = w9 at *
        have hq : Grows w6 w9 := hY ▸ grows_drewN w6 _
        clear hY
        replace hB := below_grows hB (Nat.le_refl _) hq
        replace k1 := k1.grows hq
        replace kl := kl.grows hq
        replace hb := hb.grows hq
        replace he := he.grows hq
        replace hs := hs.grows hq
        clear hq q0 q1 q2 q3
        go_wp2
        go_roundw
        case rel => exact ⟨k + 1, by omega, by go_num, z, rfl, HZ2, k1, kl, hb, he, hs, hB⟩
        case measure => simp [intOf]; omega
    ·have HE : Hid (laterS st.l st.t = z) := Lib.hid (by have := HZ.out; unfold laterK at this; rwa [List.take_of_length_le (by omega)] at this)
     have x1 := k1.cell 0
     have xl := kl.cell
     have fz := kl.frozen 1
     have hgs := grown_setCell wr ⟨Pl, 1, none⟩ (.int .i64 z)
     have kl2 : Blk (wr.setCell ⟨Pl, 1, none⟩ (.int .i64 z)) Pl 68 #[.pointer (some ⟨P, 0, none⟩), .int .i64 z, .slice (some ⟨gF, 0, none⟩) wk wk, .slice (some ⟨gE, 0, none⟩) ns.length ns.length, (.slice A5 st.l.length c5)] := kl.set_ 1 (.int .i64 z)
     have hb2 := hb.kept hgs (Ne.symm (hb.ne_blk kl (by decide)))
     have he2 := he.kept hgs (Ne.symm (he.ne_blk kl (by decide)))
     have hs2 : OwnS (wr.setCell ⟨Pl, 1, none⟩ (.int .i64 z)) w0.heap.size (.slice A5 st.l.length c5) st.l := World.ownsRow.kept hs hgs (.inr (own_blk_ne hs kl (by decide)))
     have hB2 := hB.grown hgs hH (fun q e => by injection e with e; subst e; exact hPl)
     clear hgs
     go_wp2
     refine bodyPost_end (results_none rfl _ _ _) rfl ?_
     refine ⟨rfl, hB2, .slice A5 st.l.length c5, ?_⟩
     rw [HST.out, HE.out]
     exact ⟨kl2, hb2, he2, hs2⟩
  ·have e0 : fv = (wi : Int) := by rw [← HFV.out, hf]; rfl
   subst e0
   have HFS := Lib.hid hf
   clear hf HFV
   obtain ⟨kp, n, hp1, hp2, hp3, hp4, hp5, hp6, hp7, hp8⟩ := cst_pick HP.out HNX.out
   have hpl : pl ns id = (kp : Int) := pl_at hp1
   obtain ⟨z, hz⟩ : ∃ z, wOf ns cs id = z := ⟨_, rfl⟩
   rw [hz] at hp6 hp7 hp8
   have HST : Hid (stepS (wOf ns cs) (orderL ns ls) ls st = ⟨st.l ++ [⟨id, wi, st.t, st.t + z⟩], st.busy.set wi (st.t + z), st.t⟩) := Lib.hid (by rw [step_yes HNX.out HFS.out, hz])
   have HA : Hid (ns.Pairwise fun x y => x.a < y.a) := Lib.hid (valid_asc HV.out)
   have hend : endS st.l id = none := (next_at HNX.out).2.1
   have HEN : Hid ((arrL ns (endS st.l))[kp]? = some (-1)) := Lib.hid (by rw [arr_at _ hp2, hp3, hend]; rfl)
   have HE2 : Hid ((arrL ns (endS st.l)).set kp (st.t + z) = arrL ns (endS (st.l ++ [⟨id, wi, st.t, st.t + z⟩]))) := Lib.hid (by
    rw [arr_set HA.out _ hp2, hp3]
    congr 1
    funext x
    rw [ends_add (s := ⟨id, wi, st.t, st.t + z⟩) hend x])
   obtain ⟨bx, hbx, -⟩ := free_at HFS.out
   have HBW := Lib.hid hbx
   have hwl : wi < wk := by
    have := (List.getElem?_eq_some_iff.1 hbx).1
    omega
   have hw0 : decide (0 ≤ (wi : Int)) = true := by simp
   obtain ⟨ad, n2, e1, had, hx, q0, -, -, -⟩ := h.n.elem hp4
   subst e1
   have e2 : n2 = n := by rw [hp2] at hx; injection hx with hx; exact hx.symm
   subst e2
   rw [hp3] at q0
   have HCA := Lib.hid q0
   obtain ⟨ad3, z2, e3, had3, hz3, p0⟩ := (h3.grows hB).at_ (k := kp) (by omega)
   subst e3
   have e4 : z2 = z := by rw [hp6] at hz3; injection hz3 with hz3; exact hz3.symm
   subst e4
   obtain ⟨adO, zo, eO, hadO, hxo, pO⟩ := (hP.grows hB).ord.at_ (k := j) hjl
   subst eO
   have e5 : zo = (kp : Int) := by rw [HJ.out, hpl] at hxo; injection hxo with hxo; exact hxo.symm
   subst e5
   clear hp1 hp2 hp3 hp5 hp6 hpl hz hx q0 hz3 hxo hbx hend
   have xP := (hP.grows hB).blk.cell
   go_upto_region 5 with fail
   have hwr : IntKind.i64.wrap (st.t + z2) = st.t + z2 := IntWalk.i64_in _ (by omega)
   go_quiet (fail)
   generalize hY : World.drewN w2 _ = w9 at *
   have hq : Grows w2 w9 := hY ▸ grows_drewN w2 _
   clear hY
   replace hB := below_grows hB (Nat.le_refl _) hq
   replace k1 := k1.grows hq
   replace kl := kl.grows hq
   replace hb := hb.grows hq
   replace he := he.grows hq
   replace hs := hs.grows hq
   replace hH := Nat.le_trans hH hq.size
   clear hq x1 xl p0 pO xP hwr
   generalize z2 = z at *
   go_upto_region 6 with fail
   obtain ⟨S, HI, HO⟩ := hideS fun (L : Ran) (vs : Nat → Value) (w' : World) => (Below w0.heap.size w0 w' ∧ Blk w' Gx 65 #[.pointer (some ⟨Pl, 0, none⟩)] ∧ Blk w' Pl 68 #[.pointer (some ⟨P, 0, none⟩), .int .i64 st.t, .slice (some ⟨gF, 0, none⟩) wk wk, .slice (some ⟨gE, 0, none⟩) ns.length ns.length, (.slice A5 st.l.length c5)] ∧ ArrI w' w0.heap.size gF wk st.busy ∧ ArrI w' w0.heap.size gE ns.length (arrL ns (endS st.l))) ∧ KnS [some (.pointer (some ⟨Pl, 0, none⟩)), some (.pointer (some ⟨Pl, 0, none⟩)), some (.pointer (some ⟨Pl, 0, none⟩)), some (.pointer (some ⟨Pl, 4, none⟩)), some ((.slice A5 st.l.length c5)), some (.pointer (some ⟨Pl, 0, none⟩)), some (.pointer (some ⟨Pl, 0, none⟩)), some (.pointer (some ⟨Pl, 0, none⟩)), some (.pointer (some ⟨P, 0, none⟩)), some (.pointer (some ⟨P, 0, none⟩)), some (.pointer (some ⟨P, 0, none⟩)), some (.pointer (some ⟨P, 0, none⟩)), some (.slice (some ad) ns.length c), some (.int .i64 (kp : Int)), some (.pointer (some (ad.add (kp * 4)))), some (.pointer (some (ad.add (kp * 4)))), some (.int .i64 id), some (.int .i64 (wi : Int)), some (.pointer (some ⟨Pl, 0, none⟩)), some (.pointer (some ⟨Pl, 0, none⟩)), some (.pointer (some ⟨Pl, 1, none⟩)), some (.int .i64 st.t), some (.int .i64 (st.t + z)), some (.agg #[.int .i64 id, .int .i64 (wi : Int), .int .i64 st.t, .int .i64 (st.t + z)]), none, none] L vs ∧ (L 24 = true → L 25 = false → ∃ gb, vs 24 = .slice (some ⟨gb, 0, none⟩) 1 1 ∧ Qs w' (some ⟨gb, 0, none⟩) [(⟨id, wi, st.t, st.t + z⟩ : Q4)]) ∧ (L 25 = false → OwnS w' w0.heap.size (.slice A5 st.l.length c5) st.l) ∧ (L 25 = true → OwnS w' w0.heap.size (vs 25) (st.l ++ [(⟨id, wi, st.t, st.t + z⟩ : Q4)])) ∧ (L 25 = true → L 24 = true)
   refine wp_region_genT S 26 131 (by kernel_rfl) (by kernel_rfl) rfl ?_ ?_
   ·exact HI.out _ _ _ ⟨⟨below_grows hB (Nat.le_refl _) (Grows.drew' _), k1.grows (Grows.drew' _), kl.grows (Grows.drew' _), hb.grows (Grows.drew' _), he.grows (Grows.drew' _)⟩, kn_none _ _, (fun h => by cases h), (fun _ => hs.grows (Grows.drew' _)), (fun h => by cases h), (fun h => by cases h)⟩
   simp only [List.take_succ_cons, List.take_zero, List.drop_succ_cons, List.drop_zero]
   refine gent_consR (fun vs L w1 hL hw1 => ?_) ?_
   ·obtain ⟨⟨qB, qk, qp, qb, qe⟩, q1, q4, q5, q6, q7⟩ := HO.out _ _ _ hw1
    have x := qk.cell 0
    refine gen_plain rfl ?_
    go_simp
    exact gr_val (HI.out _ _ _ ⟨⟨qB, qk, qp, qb, qe⟩, kn_known q1 rfl, q4, q5, q6, q7⟩)
   refine gent_consR (fun vs L w1 hL hw1 => ?_) ?_
   ·obtain ⟨⟨qB, qk, qp, qb, qe⟩, q1, q4, q5, q6, q7⟩ := HO.out _ _ _ hw1
    have x := qk.cell 0
    refine gen_plain rfl ?_
    go_simp
    exact gr_val (HI.out _ _ _ ⟨⟨qB, qk, qp, qb, qe⟩, kn_known q1 rfl, q4, q5, q6, q7⟩)
   refine gent_consR (fun vs L w1 hL hw1 => ?_) ?_
   ·obtain ⟨⟨qB, qk, qp, qb, qe⟩, q1, q4, q5, q6, q7⟩ := HO.out _ _ _ hw1
    have l1 : L 1 = true := hL.need 1 (by kernel_rfl)
    have e1 := q1 1 _ rfl l1
    refine gen_plain rfl ?_
    simp only [e1]
    go_simp
    exact gr_val (HI.out _ _ _ ⟨⟨qB, qk, qp, qb, qe⟩, kn_known q1 rfl, q4, q5, q6, q7⟩)
   refine gent_consR (fun vs L w1 hL hw1 => ?_) ?_
   ·obtain ⟨⟨qB, qk, qp, qb, qe⟩, q1, q4, q5, q6, q7⟩ := HO.out _ _ _ hw1
    have l2 : L 2 = true := hL.need 2 (by kernel_rfl)
    have e2 := q1 2 _ rfl l2
    refine gen_plain rfl ?_
    simp only [e2]
    go_simp
    exact gr_val (HI.out _ _ _ ⟨⟨qB, qk, qp, qb, qe⟩, kn_known q1 rfl, q4, q5, q6, q7⟩)
   refine gent_consR (fun vs L w1 hL hw1 => ?_) ?_
   ·obtain ⟨⟨qB, qk, qp, qb, qe⟩, q1, q4, q5, q6, q7⟩ := HO.out _ _ _ hw1
    have l3 : L 3 = true := hL.need 3 (by kernel_rfl)
    have e3 := q1 3 _ rfl l3
    have x := qp.cell 4
    refine gen_plain rfl ?_
    simp only [e3]
    go_simp
    exact gr_val (HI.out _ _ _ ⟨⟨qB, qk, qp, qb, qe⟩, kn_known q1 rfl, q4, q5, q6, q7⟩)
   refine gent_consR (fun vs L w1 hL hw1 => ?_) ?_
   ·obtain ⟨⟨qB, qk, qp, qb, qe⟩, q1, q4, q5, q6, q7⟩ := HO.out _ _ _ hw1
    have x := qk.cell 0
    refine gen_plain rfl ?_
    go_simp
    exact gr_val (HI.out _ _ _ ⟨⟨qB, qk, qp, qb, qe⟩, kn_known q1 rfl, q4, q5, q6, q7⟩)
   refine gent_consR (fun vs L w1 hL hw1 => ?_) ?_
   ·obtain ⟨⟨qB, qk, qp, qb, qe⟩, q1, q4, q5, q6, q7⟩ := HO.out _ _ _ hw1
    have l5 : L 5 = true := hL.need 5 (by kernel_rfl)
    have e5 := q1 5 _ rfl l5
    refine gen_plain rfl ?_
    simp only [e5]
    go_simp
    exact gr_val (HI.out _ _ _ ⟨⟨qB, qk, qp, qb, qe⟩, kn_known q1 rfl, q4, q5, q6, q7⟩)
   refine gent_consR (fun vs L w1 hL hw1 => ?_) ?_
   ·obtain ⟨⟨qB, qk, qp, qb, qe⟩, q1, q4, q5, q6, q7⟩ := HO.out _ _ _ hw1
    have l6 : L 6 = true := hL.need 6 (by kernel_rfl)
    have e6 := q1 6 _ rfl l6
    refine gen_plain rfl ?_
    simp only [e6]
    go_simp
    exact gr_val (HI.out _ _ _ ⟨⟨qB, qk, qp, qb, qe⟩, kn_known q1 rfl, q4, q5, q6, q7⟩)
   refine gent_consR (fun vs L w1 hL hw1 => ?_) ?_
   ·obtain ⟨⟨qB, qk, qp, qb, qe⟩, q1, q4, q5, q6, q7⟩ := HO.out _ _ _ hw1
    have l7 : L 7 = true := hL.need 7 (by kernel_rfl)
    have e7 := q1 7 _ rfl l7
    have x := qp.cell 0
    refine gen_plain rfl ?_
    simp only [e7]
    go_simp
    exact gr_val (HI.out _ _ _ ⟨⟨qB, qk, qp, qb, qe⟩, kn_known q1 rfl, q4, q5, q6, q7⟩)
   refine gent_consR (fun vs L w1 hL hw1 => ?_) ?_
   ·obtain ⟨⟨qB, qk, qp, qb, qe⟩, q1, q4, q5, q6, q7⟩ := HO.out _ _ _ hw1
    have l8 : L 8 = true := hL.need 8 (by kernel_rfl)
    have e8 := q1 8 _ rfl l8
    refine gen_plain rfl ?_
    simp only [e8]
    go_simp
    exact gr_val (HI.out _ _ _ ⟨⟨qB, qk, qp, qb, qe⟩, kn_known q1 rfl, q4, q5, q6, q7⟩)
   refine gent_consR (fun vs L w1 hL hw1 => ?_) ?_
   ·obtain ⟨⟨qB, qk, qp, qb, qe⟩, q1, q4, q5, q6, q7⟩ := HO.out _ _ _ hw1
    have l9 : L 9 = true := hL.need 9 (by kernel_rfl)
    have e9 := q1 9 _ rfl l9
    refine gen_plain rfl ?_
    simp only [e9]
    go_simp
    exact gr_val (HI.out _ _ _ ⟨⟨qB, qk, qp, qb, qe⟩, kn_known q1 rfl, q4, q5, q6, q7⟩)
   refine gent_consR (fun vs L w1 hL hw1 => ?_) ?_
   ·obtain ⟨⟨qB, qk, qp, qb, qe⟩, q1, q4, q5, q6, q7⟩ := HO.out _ _ _ hw1
    have l10 : L 10 = true := hL.need 10 (by kernel_rfl)
    have e10 := q1 10 _ rfl l10
    refine gen_plain rfl ?_
    simp only [e10]
    go_simp
    exact gr_val (HI.out _ _ _ ⟨⟨qB, qk, qp, qb, qe⟩, kn_known q1 rfl, q4, q5, q6, q7⟩)
   refine gent_consR (fun vs L w1 hL hw1 => ?_) ?_
   ·obtain ⟨⟨qB, qk, qp, qb, qe⟩, q1, q4, q5, q6, q7⟩ := HO.out _ _ _ hw1
    have l11 : L 11 = true := hL.need 11 (by kernel_rfl)
    have e11 := q1 11 _ rfl l11
    refine gen_plain rfl ?_
    have x := (hP.grows qB).blk.cell 0
    simp only [e11]
    go_simp
    exact gr_val (HI.out _ _ _ ⟨⟨qB, qk, qp, qb, qe⟩, kn_known q1 rfl, q4, q5, q6, q7⟩)
   refine gent_consR (fun vs L w1 hL hw1 => ?_) ?_
   ·obtain ⟨⟨qB, qk, qp, qb, qe⟩, q1, q4, q5, q6, q7⟩ := HO.out _ _ _ hw1
    refine gen_plain rfl ?_
    go_simp
    exact gr_val (HI.out _ _ _ ⟨⟨qB, qk, qp, qb, qe⟩, kn_known q1 rfl, q4, q5, q6, q7⟩)
   refine gent_consR (fun vs L w1 hL hw1 => ?_) ?_
   ·obtain ⟨⟨qB, qk, qp, qb, qe⟩, q1, q4, q5, q6, q7⟩ := HO.out _ _ _ hw1
    have l12 : L 12 = true := hL.need 12 (by kernel_rfl)
    have e12 := q1 12 _ rfl l12
    have l13 : L 13 = true := hL.need 13 (by kernel_rfl)
    have e13 := q1 13 _ rfl l13
    refine gen_plain rfl ?_
    simp only [e12, e13]
    go_simp
    exact gr_val (HI.out _ _ _ ⟨⟨qB, qk, qp, qb, qe⟩, kn_known q1 rfl, q4, q5, q6, q7⟩)
   refine gent_consR (fun vs L w1 hL hw1 => ?_) ?_
   ·obtain ⟨⟨qB, qk, qp, qb, qe⟩, q1, q4, q5, q6, q7⟩ := HO.out _ _ _ hw1
    have l14 : L 14 = true := hL.need 14 (by kernel_rfl)
    have e14 := q1 14 _ rfl l14
    refine gen_plain rfl ?_
    simp only [e14]
    go_simp
    exact gr_val (HI.out _ _ _ ⟨⟨qB, qk, qp, qb, qe⟩, kn_known q1 rfl, q4, q5, q6, q7⟩)
   refine gent_consR (fun vs L w1 hL hw1 => ?_) ?_
   ·obtain ⟨⟨qB, qk, qp, qb, qe⟩, q1, q4, q5, q6, q7⟩ := HO.out _ _ _ hw1
    have l15 : L 15 = true := hL.need 15 (by kernel_rfl)
    have e15 := q1 15 _ rfl l15
    refine gen_plain rfl ?_
    have x : w1.cell? (ad.add (kp * 4)) = some (.int .i64 id) := by
     rw [qB.cell (by rw [block_of_add]; exact had)]
     exact HCA.out
    simp only [e15]
    go_simp
    exact gr_val (HI.out _ _ _ ⟨⟨qB, qk, qp, qb, qe⟩, kn_known q1 rfl, q4, q5, q6, q7⟩)
   refine gent_consR (fun vs L w1 hL hw1 => ?_) ?_
   ·obtain ⟨⟨qB, qk, qp, qb, qe⟩, q1, q4, q5, q6, q7⟩ := HO.out _ _ _ hw1
    refine gen_plain rfl ?_
    go_simp
    exact gr_val (HI.out _ _ _ ⟨⟨qB, qk, qp, qb, qe⟩, kn_known q1 rfl, q4, q5, q6, q7⟩)
   refine gent_consR (fun vs L w1 hL hw1 => ?_) ?_
   ·obtain ⟨⟨qB, qk, qp, qb, qe⟩, q1, q4, q5, q6, q7⟩ := HO.out _ _ _ hw1
    have x := qk.cell 0
    refine gen_plain rfl ?_
    go_simp
    exact gr_val (HI.out _ _ _ ⟨⟨qB, qk, qp, qb, qe⟩, kn_known q1 rfl, q4, q5, q6, q7⟩)
   refine gent_consR (fun vs L w1 hL hw1 => ?_) ?_
   ·obtain ⟨⟨qB, qk, qp, qb, qe⟩, q1, q4, q5, q6, q7⟩ := HO.out _ _ _ hw1
    have l18 : L 18 = true := hL.need 18 (by kernel_rfl)
    have e18 := q1 18 _ rfl l18
    refine gen_plain rfl ?_
    simp only [e18]
    go_simp
    exact gr_val (HI.out _ _ _ ⟨⟨qB, qk, qp, qb, qe⟩, kn_known q1 rfl, q4, q5, q6, q7⟩)
   refine gent_consR (fun vs L w1 hL hw1 => ?_) ?_
   ·obtain ⟨⟨qB, qk, qp, qb, qe⟩, q1, q4, q5, q6, q7⟩ := HO.out _ _ _ hw1
    have l19 : L 19 = true := hL.need 19 (by kernel_rfl)
    have e19 := q1 19 _ rfl l19
    refine gen_plain rfl ?_
    simp only [e19]
    go_simp
    exact gr_val (HI.out _ _ _ ⟨⟨qB, qk, qp, qb, qe⟩, kn_known q1 rfl, q4, q5, q6, q7⟩)
   refine gent_consR (fun vs L w1 hL hw1 => ?_) ?_
   ·obtain ⟨⟨qB, qk, qp, qb, qe⟩, q1, q4, q5, q6, q7⟩ := HO.out _ _ _ hw1
    have l20 : L 20 = true := hL.need 20 (by kernel_rfl)
    have e20 := q1 20 _ rfl l20
    have x := qp.cell 1
    refine gen_plain rfl ?_
    simp only [e20]
    go_simp
    exact gr_val (HI.out _ _ _ ⟨⟨qB, qk, qp, qb, qe⟩, kn_known q1 rfl, q4, q5, q6, q7⟩)
   refine gent_consR (fun vs L w1 hL hw1 => ?_) ?_
   ·obtain ⟨⟨qB, qk, qp, qb, qe⟩, q1, q4, q5, q6, q7⟩ := HO.out _ _ _ hw1
    refine gen_plain rfl ?_
    go_simp
    exact gr_val (HI.out _ _ _ ⟨⟨qB, qk, qp, qb, qe⟩, kn_known q1 rfl, q4, q5, q6, q7⟩)
   refine gent_consR (fun vs L w1 hL hw1 => ?_) ?_
   ·obtain ⟨⟨qB, qk, qp, qb, qe⟩, q1, q4, q5, q6, q7⟩ := HO.out _ _ _ hw1
    have l16 : L 16 = true := hL.need 16 (by kernel_rfl)
    have e16 := q1 16 _ rfl l16
    have l17 : L 17 = true := hL.need 17 (by kernel_rfl)
    have e17 := q1 17 _ rfl l17
    have l21 : L 21 = true := hL.need 21 (by kernel_rfl)
    have e21 := q1 21 _ rfl l21
    have l22 : L 22 = true := hL.need 22 (by kernel_rfl)
    have e22 := q1 22 _ rfl l22
    refine gen_plain rfl ?_
    simp only [e16, e17, e21, e22]
    go_simp
    exact gr_val (HI.out _ _ _ ⟨⟨qB, qk, qp, qb, qe⟩, kn_known q1 rfl, q4, q5, q6, q7⟩)
   refine gent_consR (fun vs L w1 hL hw1 => ?_) ?_
   ·obtain ⟨⟨qB, qk, qp, qb, qe⟩, q1, q4, q5, q6, q7⟩ := HO.out _ _ _ hw1
    have n24 : L 24 = false := hL.1
    have n25 : L 25 = false := by
     cases h : L 25
     ·rfl
     ·rw [q7 h] at n24; cases n24
    have l23 : L 23 = true := hL.need 23 (by kernel_rfl)
    have e23 := q1 23 _ rfl l23
    refine gen_plain rfl ?_
    simp only [e23]
    go_simp
    have hg := (Below.refl w1.heap.size w1).alloc (Nat.le_refl _) (Obj.cells #[.int .i64 id, .int .i64 (wi : Int), .int .i64 st.t, .int .i64 (st.t + z)] 53)
    exact gr_val (HI.out _ _ _ ⟨⟨below_grows qB (Nat.le_refl _) hg, qk.grows hg, qp.grows hg, qb.grows hg, qe.grows hg⟩, kn_free q1 rfl, (fun _ _ => ⟨_, rfl, qs_lit w1 (⟨id, wi, st.t, st.t + z⟩ : Q4) _⟩), (fun _ => (q5 n25).grows hg), (fun h => by rw [show L 25 = true from h] at n25; cases n25), (fun h => by rw [show L 25 = true from h] at n25; cases n25)⟩)
   refine gent_consR (fun vs L w1 hL hw1 => ?_) ?_
   ·obtain ⟨⟨qB, qk, qp, qb, qe⟩, q1, q4, q5, q6, q7⟩ := HO.out _ _ _ hw1
    have n25 : L 25 = false := hL.1
    have l24 : L 24 = true := hL.need 24 (by kernel_rfl)
    obtain ⟨gb, e24, s4⟩ := q4 l24 n25
    have o5 := q5 n25
    have l4 : L 4 = true := hL.need 4 (by kernel_rfl)
    have e4 := q1 4 _ rfl l4
    refine gen_plain rfl ?_
    refine gr_append_slot (.tmp 60) (.tmp 80) rfl (l := st.l) (m := [(⟨id, wi, st.t, st.t + z⟩ : Q4)]) rfl e4 o5 e24 s4 (by simp only [List.length_cons, List.length_nil]; omega) qB.size ?_
    intro v3 w3 o6 g3
    exact HI.out _ _ _ ⟨⟨o5.below qB g3 qB.size, qk.grown g3 (Ne.symm (own_blk_ne o5 qk (by decide))), qp.grown g3 (Ne.symm (own_blk_ne o5 qp (by decide))), qb.kept g3 (qb.ne_own o5 (by decide)), qe.kept g3 (qe.ne_own o5 (by decide))⟩, kn_free q1 rfl, (fun _ h => by cases h), (fun h => by cases h), (fun _ => o6), (fun _ => l24)⟩
   refine gent_nil ?_
   intro vs L W2 hall hS
   obtain ⟨⟨hB, k1, kl, hb, he⟩, q1, -, -, q6, -⟩ := HO.out _ _ _ hS
   have hs := q6 (hall 25 (by omega))
   have e0 := q1 0 _ rfl (hall 0 (by omega))
   clear hall hS HI HO q1 q6
   simp only [e0]
   generalize vs 1 = y1 at *
   generalize vs 2 = y2 at *
   generalize vs 3 = y3 at *
   generalize vs 4 = y4 at *
   generalize vs 5 = y5 at *
   generalize vs 6 = y6 at *
   generalize vs 7 = y7 at *
   generalize vs 8 = y8 at *
   generalize vs 9 = y9 at *
   generalize vs 10 = y10 at *
   generalize vs 11 = y11 at *
   generalize vs 12 = y12 at *
   generalize vs 13 = y13 at *
   generalize vs 14 = y14 at *
   generalize vs 15 = y15 at *
   generalize vs 16 = y16 at *
   generalize vs 17 = y17 at *
   generalize vs 18 = y18 at *
   generalize vs 19 = y19 at *
   generalize vs 20 = y20 at *
   generalize vs 21 = y21 at *
   generalize vs 22 = y22 at *
   generalize vs 23 = y23 at *
   generalize vs 24 = y24 at *
   generalize vs 25 = v5 at *
   clear e0
   obtain ⟨A6, c6, hv6, -, -⟩ := hs.read
   generalize List.length _ = n6 at hv6
   subst hv6
   have fz := kl.frozen 4
   have xl := kl.cell 4
   iterate 3
    refine wpList_plain rfl (fun K hK => ?_)
    go_simp
    refine hK _ _ ?_
    clear hK K
   have hgs := grown_setCell W2 ⟨Pl, 4, none⟩ (.slice A6 n6 c6)
   have kl2 : Blk (W2.setCell ⟨Pl, 4, none⟩ (.slice A6 n6 c6)) Pl 68 #[.pointer (some ⟨P, 0, none⟩), .int .i64 st.t, .slice (some ⟨gF, 0, none⟩) wk wk, .slice (some ⟨gE, 0, none⟩) ns.length ns.length, (.slice A6 n6 c6)] := kl.set_ 4 (.slice A6 n6 c6)
   replace hb := hb.kept hgs (Ne.symm (hb.ne_blk kl (by decide)))
   replace he := he.kept hgs (Ne.symm (he.ne_blk kl (by decide)))
   replace hs : OwnS (W2.setCell ⟨Pl, 4, none⟩ (.slice A6 n6 c6)) w0.heap.size (.slice A6 n6 c6) (st.l ++ [(⟨id, wi, st.t, st.t + z⟩ : Q4)]) := World.ownsRow.kept hs hgs (.inr (own_blk_ne hs kl (by decide)))
   replace k1 := k1.grown hgs (fun e => by injection e with e; exact Blk.ne_ k1 kl (by decide) e)
   replace hB := hB.grown hgs hB.size (fun q e => by injection e with e; subst e; exact hPl)
   clear hgs fz kl xl
   have kl := kl2
   clear kl2
   generalize W2.setCell _ _ = w8 at *
   go_upto_region 7 with fail
   obtain ⟨S, HI, HO⟩ := hideS fun (L : Ran) (vs : Nat → Value) (w' : World) => (Below w0.heap.size w0 w' ∧ Blk w' Gx 65 #[.pointer (some ⟨Pl, 0, none⟩)] ∧ Blk w' Pl 68 #[.pointer (some ⟨P, 0, none⟩), .int .i64 st.t, .slice (some ⟨gF, 0, none⟩) wk wk, .slice (some ⟨gE, 0, none⟩) ns.length ns.length, (.slice A6 n6 c6)] ∧ ArrI w' w0.heap.size gF wk st.busy ∧ OwnS w' w0.heap.size (.slice A6 n6 c6) (st.l ++ [(⟨id, wi, st.t, st.t + z⟩ : Q4)])) ∧ KnS [some (.pointer (some ⟨Pl, 0, none⟩)), some (.pointer (some ⟨Pl, 0, none⟩)), some (.pointer (some ⟨Pl, 3, none⟩)), some (.slice (some ⟨gE, 0, none⟩) ns.length ns.length), some (.int .i64 (kp : Int)), some (.pointer (some ⟨Pl, 0, none⟩)), some (.pointer (some ⟨Pl, 0, none⟩)), some (.pointer (some ⟨Pl, 2, none⟩)), some (.slice (some ⟨gF, 0, none⟩) wk wk), some (.int .i64 (wi : Int)), some (.int .i64 (st.t + z)), some (.int .i64 (st.t + z)), some (.pointer (some ⟨gE, kp, none⟩)), none] L vs ∧ (L 13 = false → ArrI w' w0.heap.size gE ns.length (arrL ns (endS st.l))) ∧ (L 13 = true → ArrI w' w0.heap.size gE ns.length ((arrL ns (endS st.l)).set kp (st.t + z)))
   refine wp_region_genT S 14 131 (by kernel_rfl) (by kernel_rfl) rfl ?_ ?_
   ·exact HI.out _ _ _ ⟨⟨below_grows hB (Nat.le_refl _) (Grows.drew' _), k1.grows (Grows.drew' _), kl.grows (Grows.drew' _), hb.grows (Grows.drew' _), hs.grows (Grows.drew' _)⟩, kn_none _ _, (fun _ => he.grows (Grows.drew' _)), (fun h => by cases h)⟩
   simp only [List.take_succ_cons, List.take_zero, List.drop_succ_cons, List.drop_zero]
   refine gent_consR (fun vs L w1 hL hw1 => ?_) ?_
   ·obtain ⟨⟨qB, qk, qp, qb, qs⟩, q1, qza, qzb⟩ := HO.out _ _ _ hw1
    have x := qk.cell 0
    refine gen_plain rfl ?_
    go_simp
    exact gr_val (HI.out _ _ _ ⟨⟨qB, qk, qp, qb, qs⟩, kn_known q1 rfl, qza, qzb⟩)
   refine gent_consR (fun vs L w1 hL hw1 => ?_) ?_
   ·obtain ⟨⟨qB, qk, qp, qb, qs⟩, q1, qza, qzb⟩ := HO.out _ _ _ hw1
    have l0 : L 0 = true := hL.need 0 (by kernel_rfl)
    have e0 := q1 0 _ rfl l0
    refine gen_plain rfl ?_
    simp only [e0]
    go_simp
    exact gr_val (HI.out _ _ _ ⟨⟨qB, qk, qp, qb, qs⟩, kn_known q1 rfl, qza, qzb⟩)
   refine gent_consR (fun vs L w1 hL hw1 => ?_) ?_
   ·obtain ⟨⟨qB, qk, qp, qb, qs⟩, q1, qza, qzb⟩ := HO.out _ _ _ hw1
    have l1 : L 1 = true := hL.need 1 (by kernel_rfl)
    have e1 := q1 1 _ rfl l1
    refine gen_plain rfl ?_
    simp only [e1]
    go_simp
    exact gr_val (HI.out _ _ _ ⟨⟨qB, qk, qp, qb, qs⟩, kn_known q1 rfl, qza, qzb⟩)
   refine gent_consR (fun vs L w1 hL hw1 => ?_) ?_
   ·obtain ⟨⟨qB, qk, qp, qb, qs⟩, q1, qza, qzb⟩ := HO.out _ _ _ hw1
    have l2 : L 2 = true := hL.need 2 (by kernel_rfl)
    have e2 := q1 2 _ rfl l2
    have x := qp.cell 3
    refine gen_plain rfl ?_
    simp only [e2]
    go_simp
    exact gr_val (HI.out _ _ _ ⟨⟨qB, qk, qp, qb, qs⟩, kn_known q1 rfl, qza, qzb⟩)
   refine gent_consR (fun vs L w1 hL hw1 => ?_) ?_
   ·obtain ⟨⟨qB, qk, qp, qb, qs⟩, q1, qza, qzb⟩ := HO.out _ _ _ hw1
    refine gen_plain rfl ?_
    go_simp
    exact gr_val (HI.out _ _ _ ⟨⟨qB, qk, qp, qb, qs⟩, kn_known q1 rfl, qza, qzb⟩)
   refine gent_consR (fun vs L w1 hL hw1 => ?_) ?_
   ·obtain ⟨⟨qB, qk, qp, qb, qs⟩, q1, qza, qzb⟩ := HO.out _ _ _ hw1
    have x := qk.cell 0
    refine gen_plain rfl ?_
    go_simp
    exact gr_val (HI.out _ _ _ ⟨⟨qB, qk, qp, qb, qs⟩, kn_known q1 rfl, qza, qzb⟩)
   refine gent_consR (fun vs L w1 hL hw1 => ?_) ?_
   ·obtain ⟨⟨qB, qk, qp, qb, qs⟩, q1, qza, qzb⟩ := HO.out _ _ _ hw1
    have l5 : L 5 = true := hL.need 5 (by kernel_rfl)
    have e5 := q1 5 _ rfl l5
    refine gen_plain rfl ?_
    simp only [e5]
    go_simp
    exact gr_val (HI.out _ _ _ ⟨⟨qB, qk, qp, qb, qs⟩, kn_known q1 rfl, qza, qzb⟩)
   refine gent_consR (fun vs L w1 hL hw1 => ?_) ?_
   ·obtain ⟨⟨qB, qk, qp, qb, qs⟩, q1, qza, qzb⟩ := HO.out _ _ _ hw1
    have l6 : L 6 = true := hL.need 6 (by kernel_rfl)
    have e6 := q1 6 _ rfl l6
    refine gen_plain rfl ?_
    simp only [e6]
    go_simp
    exact gr_val (HI.out _ _ _ ⟨⟨qB, qk, qp, qb, qs⟩, kn_known q1 rfl, qza, qzb⟩)
   refine gent_consR (fun vs L w1 hL hw1 => ?_) ?_
   ·obtain ⟨⟨qB, qk, qp, qb, qs⟩, q1, qza, qzb⟩ := HO.out _ _ _ hw1
    have l7 : L 7 = true := hL.need 7 (by kernel_rfl)
    have e7 := q1 7 _ rfl l7
    have x := qp.cell 2
    refine gen_plain rfl ?_
    simp only [e7]
    go_simp
    exact gr_val (HI.out _ _ _ ⟨⟨qB, qk, qp, qb, qs⟩, kn_known q1 rfl, qza, qzb⟩)
   refine gent_consR (fun vs L w1 hL hw1 => ?_) ?_
   ·obtain ⟨⟨qB, qk, qp, qb, qs⟩, q1, qza, qzb⟩ := HO.out _ _ _ hw1
    refine gen_plain rfl ?_
    go_simp
    exact gr_val (HI.out _ _ _ ⟨⟨qB, qk, qp, qb, qs⟩, kn_known q1 rfl, qza, qzb⟩)
   refine gent_consR (fun vs L w1 hL hw1 => ?_) ?_
   ·obtain ⟨⟨qB, qk, qp, qb, qs⟩, q1, qza, qzb⟩ := HO.out _ _ _ hw1
    refine gen_plain rfl ?_
    go_simp
    exact gr_val (HI.out _ _ _ ⟨⟨qB, qk, qp, qb, qs⟩, kn_known q1 rfl, qza, qzb⟩)
   refine gent_consR (fun vs L w1 hL hw1 => ?_) ?_
   ·obtain ⟨⟨qB, qk, qp, qb, qs⟩, q1, qza, qzb⟩ := HO.out _ _ _ hw1
    refine gen_plain rfl ?_
    go_simp
    exact gr_val (HI.out _ _ _ ⟨⟨qB, qk, qp, qb, qs⟩, kn_known q1 rfl, qza, qzb⟩)
   refine gent_consR (fun vs L w1 hL hw1 => ?_) ?_
   ·obtain ⟨⟨qB, qk, qp, qb, qs⟩, q1, qza, qzb⟩ := HO.out _ _ _ hw1
    have l3 : L 3 = true := hL.need 3 (by kernel_rfl)
    have e3 := q1 3 _ rfl l3
    have l4 : L 4 = true := hL.need 4 (by kernel_rfl)
    have e4 := q1 4 _ rfl l4
    refine gen_plain rfl ?_
    simp only [e3, e4]
    go_simp
    exact gr_val (HI.out _ _ _ ⟨⟨qB, qk, qp, qb, qs⟩, kn_known q1 rfl, qza, qzb⟩)
   refine gent_consR (fun vs L w1 hL hw1 => ?_) ?_
   ·obtain ⟨⟨qB, qk, qp, qb, qs⟩, q1, qza, qzb⟩ := HO.out _ _ _ hw1
    have n13 : L 13 = false := hL.1
    have hx := qza n13
    have l10 : L 10 = true := hL.need 10 (by kernel_rfl)
    have e10 := q1 10 _ rfl l10
    have l12 : L 12 = true := hL.need 12 (by kernel_rfl)
    have e12 := q1 12 _ rfl l12
    have hfz := hx.frozen kp
    have hcl := hx.cell HEN.out
    obtain ⟨hb1, g3⟩ := hx.put kp (st.t + z)
    refine gen_plain rfl ?_
    simp only [e10, e12]
    go_simp
    refine gr_skip (show S (upd L 13) (setV vs 13 undef) _ from HI.out _ _ _ ?_)
    exact ⟨⟨qB.grown g3 qB.size (fun q e => by injection e with e; subst e; exact hx.lt.1), qk.grown g3 (hx.ne_blk qk (by decide)), qp.grown g3 (hx.ne_blk qp (by decide)), qb.kept g3 (fun e => hne (by injection e)), World.ownsRow.kept qs g3 (own_apart hx.own qs (by decide))⟩, kn_free q1 rfl, (fun h => by cases h), (fun _ => hb1)⟩
   refine gent_nil ?_
   intro vs L W2 hall hS
   obtain ⟨⟨hB, k1, kl, hb, hs⟩, q1, -, qzb⟩ := HO.out _ _ _ hS
   have he := qzb (hall 13 (by omega))
   have e8 := q1 8 _ rfl (hall 8 (by omega))
   have e9 := q1 9 _ rfl (hall 9 (by omega))
   have e11 := q1 11 _ rfl (hall 11 (by omega))
   clear hall hS HI HO q1 qzb
   simp only [e8, e9, e11]
   generalize vs 0 = y0 at *
   generalize vs 1 = y1 at *
   generalize vs 2 = y2 at *
   generalize vs 3 = y3 at *
   generalize vs 4 = y4 at *
   generalize vs 5 = y5 at *
   generalize vs 6 = y6 at *
   generalize vs 7 = y7 at *
   generalize vs 10 = y10 at *
   generalize vs 12 = y12 at *
   generalize vs 13 = y13 at *
   clear e8 e9 e11
   have fz := hb.frozen wi
   have xl := hb.cell HBW.out
   obtain ⟨hb2, hgs⟩ := hb.put wi (st.t + z)
   iterate 2
    refine wpList_plain rfl (fun K hK => ?_)
    go_simp
    refine hK _ _ ?_
    clear hK K
   replace kl := kl.grown hgs (hb.ne_blk kl (by decide))
   replace he := he.kept hgs (fun e => hne (by injection e with e; exact e.symm))
   replace hs : OwnS _ w0.heap.size (.slice A6 n6 c6) (st.l ++ [(⟨id, wi, st.t, st.t + z⟩ : Q4)]) := World.ownsRow.kept hs hgs (own_apart hb.own hs (by decide))
   replace hB := hB.grown hgs hB.size (fun q e => by injection e with e; subst e; exact hb.lt.1)
   rw [HE2.out] at he
   clear hgs fz xl hb
   generalize W2.setCell _ _ = w8 at *
   go_wp2
   refine bodyPost_ret (results_none rfl _ _ _) rfl ?_
   refine ⟨rfl, hB, .slice A6 n6 c6, ?_⟩
   rw [HST.out]
   exact ⟨kl, hb2, he, hs⟩
end Go.Proofs.Ytobhdldlhhigdaa

namespace Go.Proofs.Ytobhdldlhhigdaa
open Go.RowKit Go.Maps
set_option maxRecDepth 100000
theorem and_one : bits .and .u64 1 4294967295 = 1 := by
 have h := bits_and_u64_nat 1 4294967295 (by omega) (by omega)
 have e : (1 : Nat) &&& 4294967295 = 1 := rfl
 rw [e] at h
 exact h
theorem and_low (n : Nat) (hn : n ≤ 64) : bits .and .u64 (n : Int) 4294967295 = (n : Int) := by
 have h := bits_and_u64_nat n 4294967295 (by omega) (by omega)
 have e : n &&& 4294967295 = n % 4294967296 := Nat.and_two_pow_sub_one_eq_mod n 32
 rw [e, Nat.mod_eq_of_lt (by omega)] at h
 exact h
set_option maxRecDepth 100000 in
set_option maxHeartbeats 4000000 in
theorem mul64_one (n : Nat) (hn : n ≤ 64) (w : World) : Calls Try.prog 70 #[.int .u64 1, .int .u64 (n : Int)] w fun e w' => e = .returned (.tuple #[.int .u64 0, .int .u64 (n : Int)]) ∧ w = w' := by
 have e1 := and_one
 have e2 := and_low n hn
 have e3 : (n : Int) / 4294967296 = 0 := by omega
 have e4 : IntKind.u64.wrap (n : Int) = (n : Int) := by rw [IntKind.wrap_u64]; omega
 go_enter Try.func70, Try.ntmps70
 go_wp2
 go_ret2
 exact ⟨rfl, rfl⟩
set_option maxRecDepth 100000 in
set_option maxHeartbeats 4000000 in
theorem mul_one (n : Nat) (hn : n ≤ 64) (w : World) : Calls Try.prog 57 #[.int .u64 1, .int .u64 (n : Int)] w fun e w' => e = .returned (.tuple #[.int .u64 0, .int .u64 (n : Int)]) ∧ w = w' := by
 go_enter Try.func57, Try.ntmps57
 go_wp2_with fail
 refine (mul64_one n hn _).mono ?_
 rintro e w2 ⟨rfl, rfl⟩
 go_wp2
 go_ret2
 exact ⟨rfl, rfl⟩
theorem fill_take {n k : Nat} (h : k ≤ n) : (fillL n k).take k = List.replicate k (-1) := by simp [fillL]
theorem fill_copy {n k : Nat} (h : k ≤ n) : (fillL n k).take k ++ ((fillL n k).take k).take (n - k) ++ (fillL n k).drop (k + (((fillL n k).take k).take (n - k)).length) = fillL n (k + min k (n - k)) := by
 rw [fill_take h]
 unfold fillL
 rw [List.take_replicate, List.length_replicate, List.drop_append, List.length_replicate, List.drop_replicate, List.drop_replicate, List.replicate_append_replicate]
 rw [show k - (k + min (n - k) k) = 0 by omega, show n - k - (k + min (n - k) k - k) = n - (k + min k (n - k)) by omega, Nat.min_comm (n - k) k]
 rfl
theorem ints_take {w : World} {A : Option Addr} {l : List Int} (h : Ints w A l) {k : Nat} (hk : k ≤ l.length) : Ints w A (l.take k) := by
 refine ⟨by simp, fun hn => ?_⟩
 have hl : (l.take k).length = k := by rw [List.length_take]; omega
 obtain ⟨ad, e, hb, hc⟩ := h.2 (by omega)
 refine ⟨ad, e, hb, fun j u hu => hc j u ?_⟩
 rw [List.map_take, List.getElem?_take] at hu
 split at hu
 ·exact hu
 ·cases hu
section
variable {w : World} {base g n : Nat} {l : List Int}
/-- A copy into an array of one's own. -/
theorem arr_copy (h : ArrI w base g n l) (ty : TypeId) {off m dc sc : Nat} {A : Option Addr} {xs : List Int} (hm : xs.length = m) (hx : Ints w A xs) :
 ∃ w', (Builtin.copy_ #[22, 22] ty #[.slice (some ⟨g, off, none⟩) (n - off) dc, .slice A m sc]).run Try.prog w = .ok (.int .i64 ((xs.take (n - off)).length : Int)) w' ∧ ArrI w' base g n (l.take off ++ xs.take (n - off) ++ l.drop (off + (xs.take (n - off)).length)) ∧ w.grownBy w' (some g) := by
 subst hm
 obtain ⟨i0, hi0, hi1, hi2, hi3, hi4⟩ := iinfo
 have hsz : (Try.prog.info? 3).map (·.size) = some 1 := by rw [hi0]; simp [hi1]
 by_cases h0 : (xs.take (n - off)).length = 0
 ·have e0 : xs.take (n - off) = [] := List.eq_nil_of_length_eq_zero h0
  rw [e0]
  refine ⟨w, run_copy_none w 22 22 ty 3 _ _ _ _ _ _ Try.underlying22 hsz (by rw [List.length_take] at h0; rw [← h0]; exact Nat.min_comm _ _), ?_, World.grownBy.refl _ _⟩
  simpa using h
 ·have hl : off + (xs.take (n - off)).length ≤ n := by rw [List.length_take] at *; omega
  obtain ⟨hln, ho⟩ := h
  rcases ho.2 with ⟨e, _⟩ | ⟨g', cap, cur, e, hb, hh, hnc, hmx, hs, ht⟩
  ·cases e
  ·injection e with e1 e2 e3
   injection e1 with e1
   injection e1 with e1
   subst e1
   subst e3
   have hcur : cur.toList = l.map (Value.int .i64) := by
    rw [← ht, List.take_of_length_le (by rw [Array.length_toList]; omega)]
   have hxl : 0 < xs.length := by rw [List.length_take] at h0; omega
   obtain ⟨ad, rfl, hbx, hcx⟩ := hx.2 hxl
   have hrun := run_copy_row Try.prog w 22 22 ty 3 g off (n - off) dc ad xs.length sc cur 3 ((xs.take (n - off)).map (Value.int .i64)) Try.underlying22 hsz hh (by rw [List.length_map, List.length_take]; exact Nat.min_comm _ _) (fun j u hu => hcx j u (by
    rw [List.map_take, List.getElem?_take] at hu
    split at hu
    ·exact hu
    ·cases hu)) (by rw [List.length_map, hs]; omega) (ints_one _)
   rw [List.length_map, hcur] at hrun
   have hl2 : (l.take off ++ xs.take (n - off) ++ l.drop (off + (xs.take (n - off)).length)).length = n := by
    rw [List.length_append, List.length_append, List.length_drop]
    rw [List.length_take] at *
    simp only [List.length_take] at *
    omega
   refine ⟨_, hrun, ArrI.of hl2 ⟨by rw [List.length_map]; omega, .inr ⟨g, n, _, rfl, hb, setRow_heap w g cur _ _ _ hh, Nat.le_refl _, hmx, ?_, ?_⟩⟩, rfl, rfl, rfl, by simp [World.setRow], fun j _ hj => setRow_other w g j _ (fun e => hj (by rw [e]))⟩
   ·simp only [List.size_toArray, Nat.mul_one]
    rw [← List.map_take, ← List.map_drop, ← List.map_append, ← List.map_append, List.length_map]
    exact hl2
   ·simp only [Nat.mul_one]
    rw [← List.map_take, ← List.map_drop, ← List.map_append, ← List.map_append, List.take_of_length_le (by rw [List.length_map]; omega)]
theorem gr_copy_arr {o : Oper} {ev : Operand → Value} {T : Value → World → Prop} (d s : Operand) (ho : o.op = .call { callee := .builtin .copy, args := #[d, s], argTypes := #[22, 22] })
 (h : ArrI w base g n l) {off m dc sc : Nat} {A : Option Addr} {xs : List Int} (hm : xs.length = m) (hd : ev d = .slice (some ⟨g, off, none⟩) (n - off) dc) (hs : ev s = .slice A m sc) (hx : Ints w A xs)
 (hK : ∀ w', ArrI w' base g n (l.take off ++ xs.take (n - off) ++ l.drop (off + (xs.take (n - off)).length)) → w.grownBy w' (some g) → T (.int .i64 ((xs.take (n - off)).length : Int)) w') : genR Try.prog T ((execOp ev o).run Try.prog w) := by
 obtain ⟨w', hrun, h1, h2⟩ := arr_copy h o.type (off := off) (m := m) (dc := dc) (sc := sc) hm hx
 unfold execOp
 simp only [ho, resolve, invoke, builtin, Sem.run_bind, Sem.run_pure, Result.andThen_ok, List.map_toArray, List.map_cons, List.map_nil, hd, hs, hrun]
 exact hK w' h1 h2
theorem wpList_copy_arr {ops : Array Oper} {rest : List Oper} {o : Oper} {a : Act} {Q : Exit → Act → World → Prop} (hgd : o.guard = none) (d s : Operand) (ho : o.op = .call { callee := .builtin .copy, args := #[d, s], argTypes := #[22, 22] })
 (h : ArrI w base g n l) {off m dc sc : Nat} {A : Option Addr} {xs : List Int} (hm : xs.length = m) (hd : a.eval d = .slice (some ⟨g, off, none⟩) (n - off) dc) (hs : a.eval s = .slice A m sc) (hx : Ints w A xs)
 (hK : ∀ w', ArrI w' base g n (l.take off ++ xs.take (n - off) ++ l.drop (off + (xs.take (n - off)).length)) → w.grownBy w' (some g) → wpList Try.prog ops Q rest (a.put o.dst (.int .i64 ((xs.take (n - off)).length : Int))) w') : wpList Try.prog ops Q (o :: rest) a w := by
 refine wpList_plain hgd fun K hK' => ?_
 obtain ⟨w', hrun, h1, h2⟩ := arr_copy h o.type (off := off) (m := m) (dc := dc) (sc := sc) hm hx
 unfold Oper.wp execOp
 simp only [ho, resolve, invoke, builtin, Sem.run_bind, Sem.run_pure, Result.andThen_ok, List.map_toArray, List.map_cons, List.map_nil, hd, hs, hrun]
 exact hK' _ _ (hK w' h1 h2)
end
theorem fill_one (n : Nat) : (List.replicate n (0 : Int)).take 0 ++ [(-1 : Int)].take (n - 0) ++ (List.replicate n (0 : Int)).drop (0 + ([(-1 : Int)].take (n - 0)).length) = fillL n (min 1 n) := by
 cases n with
 | zero => rfl
 | succ n =>
  rw [show min 1 (n + 1) = 1 by omega]
  simp [fillL]
theorem one_len (n : Nat) : (([(-1 : Int)].take (n - 0)).length : Int) = ((min 1 n : Nat) : Int) := by
 rw [List.length_take]
 simp only [List.length_cons, List.length_nil]
 omega
set_option maxRecDepth 100000 in
set_option maxHeartbeats 4000000 in
theorem repeat_any {A : Option Addr} {w : World} (n c : Nat) (hn : n ≤ 64) (hx : Ints w A [-1]) :
 Calls Try.prog 30 #[.slice A 1 c, .int .i64 (n : Int)] w fun e w' => (∃ G, e = .returned (.slice (some ⟨G, 0, none⟩) n n) ∧ ArrI w' w.heap.size G n (List.replicate n (-1))) ∧ Grows w w' := by
 have e4 : IntKind.u64.wrap (n : Int) = (n : Int) := by rw [IntKind.wrap_u64]; omega
 have e5 : IntKind.i64.wrap (n : Int) = (n : Int) := IntWalk.i64_in _ (by omega)
 have e6 : decide ((9223372036854775807 : Int) < (n : Int)) = false := by simp; omega
 go_enter Try.func30, Try.ntmps30
 go_wp2_with fail
 refine (mul_one n hn _).mono ?_
 rintro e w2 ⟨rfl, rfl⟩
 go_upto_region 6 with fail
 refine wp_region_lit ?_
 iterate 2
  refine wpList_plain rfl (fun K hK => ?_)
  go_simp
  refine hK _ _ ?_
  clear hK K
 obtain ⟨i0, hi0, hi1, hi2, hi3, hi4⟩ := iinfo
 refine wpList_make_full _ rfl (.tmp 29) (.tmp 29) 22 rfl w.heap.size 3 i0 (.int .i64 0) 1 Try.underlying22 hi0 hi3 hi1 .i64 .i64 n n n rfl rfl rfl rfl (by rw [hi2]; omega) (by simp only [maxLen]; omega) (Nat.le_refl _) ?_
 intro w6 hz hg6
 have ha := made_zero _ _ _ _ hz
 have hB : Grows w w6 := (Below.refl _ _).grown hg6 (Nat.le_refl _) (fun q e => by cases e)
 have hx6 := hx.grows hB
 have hG : w.heap.size ≤ w.heap.size := Nat.le_refl _
 obtain ⟨G, hGe⟩ : ∃ G, w.heap.size = G := ⟨_, rfl⟩
 have ha2 : ArrI w6 w.heap.size G n (List.replicate n 0) := by rw [← hGe]; exact ha
 have hGe2 : (Value.slice (some ⟨w.heap.size, 0, none⟩) n n) = .slice (some ⟨G, 0, none⟩) n n := by rw [hGe]
 rw [hGe2]
 clear hz hg6 hi0 hi1 hi2 hi3 hi4 ha hGe hGe2 hG
 go_upto_region 7 with fail
 refine wp_region_lit ?_
 iterate 2
  refine wpList_plain rfl (fun K hK => ?_)
  go_simp
  refine hK _ _ ?_
  clear hK K
 refine wpList_copy_arr rfl (.tmp 31) (.tmp 32) rfl ha2 (off := 0) (m := 1) (xs := [-1]) rfl rfl rfl hx6 ?_
 intro w7 ha hg7
 rw [fill_one] at ha
 rw [one_len]
 replace hB := hB.grown hg7 hB.size (fun q e => by injection e with e; subst e; exact ha2.lt.1)
 clear hg7 ha2 hx6
 go_wp2_with fail
 go_loopw [8] (fun v wr => ∃ k : Nat, k ≤ n ∧ v = .int .i64 k ∧ (n ≠ 0 → k ≠ 0) ∧ ArrI wr w.heap.size G n (fillL n k) ∧ Below w.heap.size w wr) (fun v _ => n - (intOf v).toNat)
 case atStart => exact ⟨min 1 n, by omega, rfl, by omega, ha, hB⟩
 case round =>
  clear ha hB
  obtain ⟨k, hk, rfl, hk0, ha, hB⟩ := hrel
  by_cases hlt : k < n
  ·have hnk : ¬ n = k := by omega
   have hwr : IntKind.i64.wrap ((k : Int) + ((min k (n - k) : Nat) : Int)) = (k : Int) + ((min k (n - k) : Nat) : Int) := IntWalk.i64_in _ (by omega)
   go_upto_region 9 with fail
   obtain ⟨S, HI, HO⟩ := hideS fun (L : Ran) (vs : Nat → Value) (w' : World) => (Below w.heap.size w w' ∧ True) ∧ KnS [some (.int .i64 (k : Int)), some (.slice (some ⟨G, 0, none⟩) n n), some (.int .i64 (k : Int)), some (.slice (some ⟨G, k, none⟩) (n - k) (n - k)), some (.slice (some ⟨G, 0, none⟩) n n), some (.int .i64 (k : Int)), some (.slice (some ⟨G, 0, none⟩) k n), some (.int .i64 ((min k (n - k) : Nat) : Int)), some (.int .i64 ((k : Int) + (min k (n - k) : Nat)))] L vs ∧ (L 7 = false → ArrI w' w.heap.size G n (fillL n k)) ∧ (L 7 = true → ArrI w' w.heap.size G n (fillL n (k + min k (n - k))))
   refine wp_region_genT S 9 48 (by kernel_rfl) (by kernel_rfl) rfl ?_ ?_
   ·exact HI.out _ _ _ ⟨⟨below_grows hB (Nat.le_refl _) (Grows.drew' _), trivial⟩, kn_none _ _, (fun _ => ha.grows (Grows.drew' _)), (fun h => by cases h)⟩
   simp only [List.take_succ_cons, List.take_zero, List.drop_succ_cons, List.drop_zero]
   refine gent_consR (fun vs L w1 hL hw1 => ?_) ?_
   ·obtain ⟨⟨qB, qt⟩, q1, qza, qzb⟩ := HO.out _ _ _ hw1
    refine gen_plain rfl ?_
    go_simp
    exact gr_val (HI.out _ _ _ ⟨⟨qB, qt⟩, kn_known q1 rfl, qza, qzb⟩)
   refine gent_consR (fun vs L w1 hL hw1 => ?_) ?_
   ·obtain ⟨⟨qB, qt⟩, q1, qza, qzb⟩ := HO.out _ _ _ hw1
    refine gen_plain rfl ?_
    go_simp
    exact gr_val (HI.out _ _ _ ⟨⟨qB, qt⟩, kn_known q1 rfl, qza, qzb⟩)
   refine gent_consR (fun vs L w1 hL hw1 => ?_) ?_
   ·obtain ⟨⟨qB, qt⟩, q1, qza, qzb⟩ := HO.out _ _ _ hw1
    refine gen_plain rfl ?_
    go_simp
    exact gr_val (HI.out _ _ _ ⟨⟨qB, qt⟩, kn_known q1 rfl, qza, qzb⟩)
   refine gent_consR (fun vs L w1 hL hw1 => ?_) ?_
   ·obtain ⟨⟨qB, qt⟩, q1, qza, qzb⟩ := HO.out _ _ _ hw1
    have l1 : L 1 = true := hL.need 1 (by kernel_rfl)
    have e1 := q1 1 _ rfl l1
    have l2 : L 2 = true := hL.need 2 (by kernel_rfl)
    have e2 := q1 2 _ rfl l2
    refine gen_plain rfl ?_
    simp only [e1, e2]
    go_simp
    exact gr_val (HI.out _ _ _ ⟨⟨qB, qt⟩, kn_known q1 rfl, qza, qzb⟩)
   refine gent_consR (fun vs L w1 hL hw1 => ?_) ?_
   ·obtain ⟨⟨qB, qt⟩, q1, qza, qzb⟩ := HO.out _ _ _ hw1
    refine gen_plain rfl ?_
    go_simp
    exact gr_val (HI.out _ _ _ ⟨⟨qB, qt⟩, kn_known q1 rfl, qza, qzb⟩)
   refine gent_consR (fun vs L w1 hL hw1 => ?_) ?_
   ·obtain ⟨⟨qB, qt⟩, q1, qza, qzb⟩ := HO.out _ _ _ hw1
    refine gen_plain rfl ?_
    go_simp
    exact gr_val (HI.out _ _ _ ⟨⟨qB, qt⟩, kn_known q1 rfl, qza, qzb⟩)
   refine gent_consR (fun vs L w1 hL hw1 => ?_) ?_
   ·obtain ⟨⟨qB, qt⟩, q1, qza, qzb⟩ := HO.out _ _ _ hw1
    have l4 : L 4 = true := hL.need 4 (by kernel_rfl)
    have e4 := q1 4 _ rfl l4
    have l5 : L 5 = true := hL.need 5 (by kernel_rfl)
    have e5 := q1 5 _ rfl l5
    refine gen_plain rfl ?_
    simp only [e4, e5]
    go_simp
    exact gr_val (HI.out _ _ _ ⟨⟨qB, qt⟩, kn_known q1 rfl, qza, qzb⟩)
   refine gent_consR (fun vs L w1 hL hw1 => ?_) ?_
   ·obtain ⟨⟨qB, qt⟩, q1, qza, qzb⟩ := HO.out _ _ _ hw1
    have n7 : L 7 = false := hL.1
    have hx := qza n7
    have l3 : L 3 = true := hL.need 3 (by kernel_rfl)
    have e3 := q1 3 _ rfl l3
    have l6 : L 6 = true := hL.need 6 (by kernel_rfl)
    have e6 := q1 6 _ rfl l6
    refine gen_plain rfl ?_
    refine gr_copy_arr (.tmp 41) (.tmp 44) rfl hx (off := k) (m := k) (xs := (fillL n k).take k) (by rw [fill_take hk]; simp) e3 e6 (ints_take hx.ints_ (by rw [fill_len hk]; omega)) ?_
    intro w3 hb1 g3
    rw [fill_copy hk] at hb1
    rw [show ((((fillL n k).take k).take (n - k)).length) = min k (n - k) by rw [fill_take hk]; simp [Nat.min_comm]]
    exact HI.out _ _ _ ⟨⟨qB.grown g3 qB.size (fun q e => by injection e with e; subst e; exact hx.lt.1), trivial⟩, kn_known q1 rfl, (fun h => by cases h), (fun _ => hb1)⟩
   refine gent_consR (fun vs L w1 hL hw1 => ?_) ?_
   ·obtain ⟨⟨qB, qt⟩, q1, qza, qzb⟩ := HO.out _ _ _ hw1
    have l0 : L 0 = true := hL.need 0 (by kernel_rfl)
    have e0 := q1 0 _ rfl l0
    have l7 : L 7 = true := hL.need 7 (by kernel_rfl)
    have e7 := q1 7 _ rfl l7
    refine gen_plain rfl ?_
    simp only [e0, e7]
    go_simp
    exact gr_val (HI.out _ _ _ ⟨⟨qB, qt⟩, kn_known q1 rfl, qza, qzb⟩)
   refine gent_nil ?_
   intro vs L W2 hall hS
   obtain ⟨⟨hB, -⟩, q1, -, qzb⟩ := HO.out _ _ _ hS
   have ha := qzb (hall 7 (by omega))
   have e8 := q1 8 _ rfl (hall 8 (by omega))
   clear hall hS HI HO q1 qzb
   simp only [e8]
   generalize vs 0 = y0 at *
   generalize vs 1 = y1 at *
   generalize vs 2 = y2 at *
   generalize vs 3 = y3 at *
   generalize vs 4 = y4 at *
   generalize vs 5 = y5 at *
   generalize vs 6 = y6 at *
   generalize vs 7 = y7 at *
   clear e8
   go_wp2
   go_roundw
   case rel => exact ⟨k + min k (n - k), by omega, by go_num, by omega, ha, hB⟩
   case measure => simp [intOf]; omega
  ·obtain rfl : k = n := by omega
   have HE : Hid (fillL k k = List.replicate k (-1)) := Lib.hid (by simp [fillL])
   rw [HE.out] at ha
   go_wp2
   go_ret
   exact ⟨⟨G, rfl, ha⟩, hB⟩
end Go.Proofs.Ytobhdldlhhigdaa

namespace Go.Proofs.Ytobhdldlhhigdaa
open Go.RowKit Go.Maps
set_option maxRecDepth 100000 in
set_option maxHeartbeats 16000000 in
theorem read_any {A A2 A3 : Option Addr} {c2 : Nat} {ns ls : List Q4} {cs : List Int} {w : World} (c c3 : Nat) (wi : Int) (h : GOK w A A2 c2 ns ls) (h3 : Ints w A3 cs) (hl3 : cs.length ≤ 9223372036854775807) :
 Calls Try.prog 29 #[.agg #[.slice A ns.length c, .slice A2 ls.length c2], .slice A3 cs.length c3, .int .i64 wi] w fun e w' => ReadR A A2 A3 c c2 c3 ns ls cs wi e w' ∧ Grows w w' := by
 have hnl := h.nl
 have k1 := Blk.new w 26 #[.slice A ns.length c, .slice A2 ls.length c2]
 have hB := (Below.refl w.heap.size w).alloc (Nat.le_refl _) (Obj.cells #[.slice A ns.length c, .slice A2 ls.length c2] 26)
 go_enter Try.func29, Try.ntmps29
 go_upto_region 1 with fail
 generalize World.alloc w _ = w1 at *
 have x1 := k1.cell
 go_wp2_with fail
 refine (pvalid_is (h.grows hB)).mono ?_
 cases hv : validG ns ls
 ·have HE : Hid (probB ns ls cs wi = false) := Lib.hid (by simp [probB, hv])
  clear hv
  rintro e w2 ⟨rfl, hq⟩
  replace hB := below_grows hB (Nat.le_refl _) hq
  clear hq x1
  go_wp2
  go_ret2
  exact ⟨.inr ⟨HE.out, rfl⟩, hB⟩
 rintro e w2 ⟨rfl, hq⟩
 have HV := Lib.hid hv
 clear hv
 replace hB := below_grows hB (Nat.le_refl _) hq
 replace k1 := k1.grows hq
 clear hq x1
 have x1 := k1.cell
 by_cases hlen : cs.length = ns.length
 case neg =>
  have HE : Hid (probB ns ls cs wi = false) := Lib.hid (by simp [probB, okW, hlen])
  have hlen2 : ((cs.length : Int) != (ns.length : Int)) = true := by
   simp only [bne_iff_ne, ne_eq]
   omega
  go_wp2
  go_ret2
  exact ⟨.inr ⟨HE.out, rfl⟩, hB⟩
 have hlen2 : ((cs.length : Int) != (ns.length : Int)) = false := by
  simp only [bne_eq_false_iff_eq]
  omega
 have HLen := Lib.hid hlen
 have hln := (valid_len HV.out).1
 have hLs := (valid_len HV.out).2
 clear hlen
 go_wp2_with fail
 refine (contw_any A3 c3 cs badW _ (h3.grows hB) hl3 fun x _ w1 _ => wrong_any x w1).mono ?_
 cases hbad : cs.any badW
 case true =>
  have HE : Hid (probB ns ls cs wi = false) := Lib.hid (by simp [probB, okW, hbad])
  clear hbad
  rintro e w2 ⟨rfl, hq⟩
  replace hB := below_grows hB (Nat.le_refl _) hq
  clear hq x1
  go_wp2
  go_ret2
  exact ⟨.inr ⟨HE.out, rfl⟩, hB⟩
 have HW : Hid (okW ns cs = true) := Lib.hid (by simp [okW, hbad, HLen.out])
 clear hbad
 rintro e w3 ⟨rfl, hq⟩
 replace hB := below_grows hB (Nat.le_refl _) hq
 replace k1 := k1.grows hq
 clear hq x1 hlen2
 by_cases hw1 : wi < 1
 ·have HE : Hid (probB ns ls cs wi = false) := Lib.hid (by simp [probB]; omega)
  go_wp2
  go_ret2
  exact ⟨.inr ⟨HE.out, rfl⟩, hB⟩
 by_cases hw2 : 8 < wi
 ·have HE : Hid (probB ns ls cs wi = false) := Lib.hid (by simp [probB]; omega)
  go_wp2
  go_ret2
  exact ⟨.inr ⟨HE.out, rfl⟩, hB⟩
 have HE : Hid (probB ns ls cs wi = true) := Lib.hid (prob_iff.2 ⟨HV.out, HW.out, by omega, by omega⟩)
 have HA : Hid (ns.Pairwise fun x y => x.a < y.a) := Lib.hid (okN_asc (valid_parts.1 HV.out).2.2.1)
 go_upto_region 4 with fail
 obtain ⟨S, HI, HO⟩ := hideS fun (L : Ran) (vs : Nat → Value) (w' : World) => Grows w3 w' ∧ KnS [some (.agg #[.slice A ns.length c, .slice A2 ls.length c2]), some (.slice A3 cs.length c3), none, some (.pointer (some ⟨w.heap.size, 0, none⟩)), some (.slice A ns.length c), some (.int .i64 ns.length), none, none, none, none] L vs ∧ DsS [none, none, some (gMapN w.heap.size), none, none, none, some (gRowN w.heap.size ns.length), some (gProA w.heap.size ns.length (.slice A ns.length c) (.slice A2 ls.length c2) (.slice A3 cs.length c3)), some (gProP w.heap.size ns.length (.slice A ns.length c) (.slice A2 ls.length c2) (.slice A3 cs.length c3)), some (gProP w.heap.size ns.length (.slice A ns.length c) (.slice A2 ls.length c2) (.slice A3 cs.length c3))] L vs w'
 refine wp_region_genW S 133 (by kernel_rfl) (by kernel_rfl) rfl ?_ ?_
 ·exact HI.out _ _ _ ⟨Grows.drew' _, kn_none _ _, ds_none _ _ _⟩
 refine gen_consR (fun vs L w1 hL hw1 => ?_) ?_
 ·obtain ⟨q0, q1, q2⟩ := HO.out _ _ _ hw1
  refine gen_plain rfl ?_
  have x := (k1.grows q0).cell 
  go_simp
  exact gr_val (HI.out _ _ _ ⟨q0, kn_known q1 rfl, ds_free q2 rfl⟩)
 refine gen_consR (fun vs L w1 hL hw1 => ?_) ?_
 ·obtain ⟨q0, q1, q2⟩ := HO.out _ _ _ hw1
  refine gen_plain rfl ?_
  go_simp
  exact gr_val (HI.out _ _ _ ⟨q0, kn_known q1 rfl, ds_free q2 rfl⟩)
 refine gen_consR (fun vs L w1 hL hw1 => ?_) ?_
 ·obtain ⟨q0, q1, q2⟩ := HO.out _ _ _ hw1
  refine gen_plain rfl ?_
  go_simp
  have hm := mapT_made TI w1
  have hg := (Below.refl w1.heap.size w1).alloc (Nat.le_refl _) (Obj.map #[] 0)
  exact gr_val (HI.out _ _ _ ⟨below_grows q0 (Nat.le_refl _) hg, kn_free q1 rfl, ds_put (q2.grows hg) rfl ⟨_, rfl, Nat.le_trans hB.size q0.size, hm⟩⟩)
 refine gen_consR (fun vs L w1 hL hw1 => ?_) ?_
 ·obtain ⟨q0, q1, q2⟩ := HO.out _ _ _ hw1
  refine gen_plain rfl ?_
  go_simp
  exact gr_val (HI.out _ _ _ ⟨q0, kn_known q1 rfl, ds_free q2 rfl⟩)
 refine gen_consR (fun vs L w1 hL hw1 => ?_) ?_
 ·obtain ⟨q0, q1, q2⟩ := HO.out _ _ _ hw1
  refine gen_plain rfl ?_
  have l3 : L 3 = true := hL.need 3 (by kernel_rfl)
  have e3 := q1 3 _ rfl l3
  have x := (k1.grows q0).cell 0
  simp only [e3]
  go_simp
  exact gr_val (HI.out _ _ _ ⟨q0, kn_known q1 rfl, ds_free q2 rfl⟩)
 refine gen_consR (fun vs L w1 hL hw1 => ?_) ?_
 ·obtain ⟨q0, q1, q2⟩ := HO.out _ _ _ hw1
  refine gen_plain rfl ?_
  have l4 : L 4 = true := hL.need 4 (by kernel_rfl)
  have e4 := q1 4 _ rfl l4
  simp only [e4]
  go_simp
  exact gr_val (HI.out _ _ _ ⟨q0, kn_known q1 rfl, ds_free q2 rfl⟩)
 refine gen_consR (fun vs L w1 hL hw1 => ?_) ?_
 ·obtain ⟨q0, q1, q2⟩ := HO.out _ _ _ hw1
  refine gen_plain rfl ?_
  have l5 : L 5 = true := hL.need 5 (by kernel_rfl)
  have e5 := q1 5 _ rfl l5
  simp only [e5]
  obtain ⟨i0, hi0, hi1, hi2, hi3, hi4⟩ := rinfo
  refine gr_make_full (.tmp 48) (.tmp 48) 86 rfl w.heap.size 22 i0 (.slice none 0 0) 1 Try.underlying86 hi0 hi3 hi1 .i64 .i64 ns.length ns.length ns.length rfl rfl rfl rfl (by rw [hi2]; omega) (by simp only [maxLen]; omega) (Nat.le_trans hB.size q0.size) ?_
  intro w3 hz hg3
  have hr := rowG_made _ _ _ _ hz
  have hg : Grows w1 w3 := (Below.refl _ _).grown hg3 (Nat.le_refl _) (fun q e => by cases e)
  exact HI.out _ _ _ ⟨below_grows q0 (Nat.le_refl _) hg, kn_free q1 rfl, ds_put (q2.grows hg) rfl ⟨_, rfl, hr⟩⟩
 refine gen_consR (fun vs L w1 hL hw1 => ?_) ?_
 ·obtain ⟨q0, q1, q2⟩ := HO.out _ _ _ hw1
  refine gen_plain rfl ?_
  have l0 : L 0 = true := hL.need 0 (by kernel_rfl)
  have e0 := q1 0 _ rfl l0
  have l1 : L 1 = true := hL.need 1 (by kernel_rfl)
  have e1 := q1 1 _ rfl l1
  have l2 : L 2 = true := hL.need 2 (by kernel_rfl)
  obtain ⟨b2, e2, h2, m2⟩ := q2 2 _ rfl l2
  have l6 : L 6 = true := hL.need 6 (by kernel_rfl)
  obtain ⟨g6, e6, r6⟩ := q2 6 _ rfl l6
  simp only [e0, e1, e2, e6]
  go_simp
  exact gr_val (HI.out _ _ _ ⟨q0, kn_free q1 rfl, ds_put q2 rfl ⟨_, _, rfl, h2, m2, r6⟩⟩)
 refine gen_consR (fun vs L w1 hL hw1 => ?_) ?_
 ·obtain ⟨q0, q1, q2⟩ := HO.out _ _ _ hw1
  refine gen_plain rfl ?_
  have l7 : L 7 = true := hL.need 7 (by kernel_rfl)
  obtain ⟨b7, g7, e7, h7, m7, r7⟩ := q2 7 _ rfl l7
  simp only [e7]
  go_simp
  have hk := Blk.new w1 88 #[.slice A ns.length c, .slice A2 ls.length c2, .slice A3 cs.length c3, .map (some b7), .slice none 0 0, .slice (some ⟨g7, 0, none⟩) ns.length ns.length]
  have hg := (Below.refl w1.heap.size w1).alloc (Nat.le_refl _) (Obj.cells #[.slice A ns.length c, .slice A2 ls.length c2, .slice A3 cs.length c3, .map (some b7), .slice none 0 0, .slice (some ⟨g7, 0, none⟩) ns.length ns.length] 88)
  exact gr_val (HI.out _ _ _ ⟨below_grows q0 (Nat.le_refl _) hg, kn_free q1 rfl, ds_put (q2.grows hg) rfl ⟨_, _, _, rfl, Nat.le_trans hB.size q0.size, h7, hk, m7.grows hg, r7.grows hg⟩⟩)
 refine gen_consR (fun vs L w1 hL hw1 => ?_) ?_
 ·obtain ⟨q0, q1, q2⟩ := HO.out _ _ _ hw1
  refine gen_plain rfl ?_
  have l8 : L 8 = true := hL.need 8 (by kernel_rfl)
  obtain ⟨p8, b8, g8, e8, h8, i8, k8, m8, r8⟩ := q2 8 _ rfl l8
  simp only [e8]
  go_simp
  exact gr_val (HI.out _ _ _ ⟨q0, kn_free q1 rfl, ds_put q2 rfl ⟨_, _, _, rfl, h8, i8, k8, m8, r8⟩⟩)
 refine gen_nil ?_
 intro vs L W6 hall hS
 obtain ⟨hq, q1, q2⟩ := HO.out _ _ _ hS
 have dX9 := q2 9 _ rfl (hall 9 (by simp))
 clear hall hS HI HO q1 q2
 obtain ⟨P, Bm, G, eP, hP, hBm, kP, hm, hr⟩ := dX9
 simp only [eP]
 generalize vs 0 = y0
 generalize vs 1 = y1
 generalize vs 2 = y2
 generalize vs 3 = y3
 generalize vs 4 = y4
 generalize vs 5 = y5
 generalize vs 6 = y6
 generalize vs 7 = y7
 generalize vs 8 = y8
 replace hB := below_grows hB (Nat.le_refl _) hq
 replace k1 := k1.grows hq
 clear hq eP
 have x1 := k1.cell
 go_wp2_with fail
 clear x1
 go_loopw [55] (fun i wr => ∃ k : Nat, k ≤ ns.length ∧ i = .int .i64 k ∧ MapT TI wr Bm k (wMap ns (idL ns.length) k) ∧ Blk wr P 88 #[.slice A ns.length c, .slice A2 ls.length c2, .slice A3 cs.length c3, .map (some Bm), .slice none 0 0, .slice (some ⟨G, 0, none⟩) ns.length ns.length] ∧ RowG wr w.heap.size G ns.length (List.replicate ns.length (Value.slice none 0 0)) ∧ Blk wr w.heap.size 26 #[.slice A ns.length c, .slice A2 ls.length c2] ∧ Below w.heap.size w wr) (fun i _ => ns.length - (intOf i).toNat)
 case atStart => exact ⟨0, by omega, rfl, hm.ext (fun y _ => by simp [wMap, placeN]), kP, hr, k1, hB⟩
 case round =>
  clear hm kP hr k1 hB
  obtain ⟨k, hk, rfl, hm, kP, hr, k1, hB⟩ := hrel
  by_cases hlt : k < ns.length
  ·obtain ⟨ad, n, e1, had, hx, q0, q1, q2, q3⟩ := (h.grows hB).n.elem hlt
   subst e1
   have HX := Lib.hid hx
   have HI : Hid (In64 n.a) := Lib.hid (h.ni n (List.mem_of_getElem? hx))
   clear hx
   have k13 := Blk.new wr 46 #[.int .i64 n.a, .int .i64 n.b, .int .i64 n.c, .int .i64 n.d]
   have hq := (Below.refl wr.heap.size wr).alloc (Nat.le_refl _) (Obj.cells #[.int .i64 n.a, .int .i64 n.b, .int .i64 n.c, .int .i64 n.d] 46)
   go_upto_region 8 with fail
   clear q0 q1 q2 q3
   replace hB := below_grows hB (Nat.le_refl _) hq
   replace hm := hm.grows hq
   replace kP := kP.grows hq
   replace hr := hr.grows hq
   replace k1 := k1.grows hq
   clear hq
   generalize World.alloc wr _ = w6 at *
   generalize wr.heap.size = G13 at *
   have x13 := k13.cell 0
   have xP := kP.cell 3
   go_still_tail 7, (by kernel_rfl)
   replace hB := below_grows hB (Nat.le_refl _) (Grows.drew' w6)
   replace hm := hm.grows (Grows.drew' w6)
   replace kP := kP.grows (Grows.drew' w6)
   replace hr := hr.grows (Grows.drew' w6)
   replace k1 := k1.grows (Grows.drew' w6)
   refine wpList_storeT rfl (.tmp 63) (.tmp 65) (.tmp 66) 85 rfl rfl hm lawI Try.underlying85 (by simp only [maxLen]; omega) n.a (in64_ok HI.out) (.int .i64 (k : Int)) rfl rfl ?_
   have n1 := hm.ne_blk k1
   have n2 := hm.ne_blk kP
   have n3 := hm.ne_own hr.2
   intro w7 hm7 hg7
   replace hm : MapT TI w7 Bm (k + 1) (wMap ns (idL ns.length) (k + 1)) := hm7.ext fun y _ => idMap_snoc HA.out HX.out y
   replace k1 := k1.grown hg7 (fun e => by injection e with e; exact n1 e.symm)
   replace kP := kP.grown hg7 (fun e => by injection e with e; exact n2 e.symm)
   replace hr := hr.kept hg7 (fun e => n3 e.symm)
   replace hB := hB.grown hg7 hB.size (fun q e => by injection e with e; subst e; exact hBm)
   clear hm7 hg7 n1 n2 n3 x13 k13 xP
   go_wp2
   go_roundw
   case rel => exact ⟨k + 1, by omega, by go_num, hm, kP, hr, k1, hB⟩
   case measure => simp [intOf]; omega
  ·obtain rfl : k = ns.length := by omega
   clear hlt hk
   have x1 := k1.cell
   go_wp2_with fail
   refine (porder_yes (h.grows hB) HV.out).mono ?_
   rintro e w11 ⟨⟨v, rfl, ho⟩, hq⟩
   replace ho := ho.mono hB.size
   replace hB := below_grows hB (Nat.le_refl _) hq
   replace hm := hm.grows hq
   replace kP := kP.grows hq
   replace hr := hr.grows hq
   replace k1 := k1.grows hq
   clear hq x1
   generalize hod : orderL ns ls = od at *
   have HOD := Lib.hid hod
   clear hod
   have hol : od.length ≤ 64 := by rw [← HOD.out]; exact order_len64 HV.out
   obtain ⟨A4, c4, rfl, hc4, -⟩ := ho.read
   have hv := ownI_nil w11 w11.heap.size
   have HID : Hid (∀ g, Value.ownBlock (.slice A4 od.length c4) = some g → g < w11.heap.size) := Lib.hid fun g e => (World.ownsRow.lt ho g e).2
   have hb2 := hB.size
   generalize hb2e : w11.heap.size = b2 at hv hb2 HID
   have hs2 : b2 ≤ w11.heap.size := Nat.le_of_eq hb2e.symm
   clear hb2e
   go_wp2_with fail
   go_loopw [75] (fun i wr => ∃ (k : Nat) (vo : Value), k ≤ od.length ∧ i = .int .i64 k ∧ OwnI wr b2 vo ((od.take k).map (pl ns)) ∧ b2 ≤ wr.heap.size ∧ Blk wr P 88 #[.slice A ns.length c, .slice A2 ls.length c2, .slice A3 cs.length c3, .map (some Bm), vo, .slice (some ⟨G, 0, none⟩) ns.length ns.length] ∧ MapT TI wr Bm ns.length (wMap ns (idL ns.length) ns.length) ∧ RowG wr w.heap.size G ns.length (List.replicate ns.length (Value.slice none 0 0)) ∧ OwnI wr w.heap.size (.slice A4 od.length c4) od ∧ Blk wr w.heap.size 26 #[.slice A ns.length c, .slice A2 ls.length c2] ∧ Below w.heap.size w wr) (fun i _ => od.length - (intOf i).toNat)
   case atStart => exact ⟨0, _, by omega, rfl, hv, hs2, kP, hm, hr, ho, k1, hB⟩
   case round =>
    clear hm kP hr k1 hB ho hv hs2
    obtain ⟨k, vo, hk, rfl, hv, hs2, kP, hm, hr, ho, k1, hB⟩ := hrel
    by_cases hlt : k < od.length
    ·obtain ⟨ad, id, e1, had, hx, p0⟩ := ho.ints.at_ hlt
     subst e1
     have HX := Lib.hid hx
     have HIN : Hid (In64 id) := Lib.hid (by
      obtain ⟨m, hm1, hm2⟩ := order_mem (ns := ns) (ls := ls) (i := id) (by rw [HOD.out]; exact List.mem_of_getElem? hx)
      rw [← hm2]
      exact h.ni m hm1)
     clear hx
     obtain ⟨z, hz⟩ : ∃ z, pl ns id = z := ⟨_, rfl⟩
     have HZ := Lib.hid hz
     have HL : Hid ((wMap ns (idL ns.length) ns.length id).getD (.int .i64 0) = .int .i64 z) := Lib.hid (by rw [← hz]; exact idMap_get ns id)
     clear hz
     go_upto_region 14 with fail
     clear p0
     obtain ⟨S, HI, HO⟩ := hideS fun (L : Ran) (vs : Nat → Value) (w' : World) => (Below w.heap.size w w' ∧ Blk w' w.heap.size 26 #[.slice A ns.length c, .slice A2 ls.length c2] ∧ Blk w' P 88 #[.slice A ns.length c, .slice A2 ls.length c2, .slice A3 cs.length c3, .map (some Bm), vo, .slice (some ⟨G, 0, none⟩) ns.length ns.length] ∧ MapT TI w' Bm ns.length (wMap ns (idL ns.length) ns.length) ∧ RowG w' w.heap.size G ns.length (List.replicate ns.length (Value.slice none 0 0)) ∧ OwnI w' w.heap.size (.slice (some ad) od.length c4) od ∧ b2 ≤ w'.heap.size) ∧ KnS [some (.pointer (some ⟨P, 0, none⟩)), some (.pointer (some ⟨P, 0, none⟩)), some (.pointer (some ⟨P, 0, none⟩)), some (.pointer (some ⟨P, 4, none⟩)), some (vo), some (.pointer (some ⟨P, 0, none⟩)), some (.pointer (some ⟨P, 0, none⟩)), some (.pointer (some ⟨P, 3, none⟩)), some (.map (some Bm)), some (.int .i64 id), some (.int .i64 z), none, none] L vs ∧ (L 11 = true → L 12 = false → ∃ gb, vs 11 = .slice (some ⟨gb, 0, none⟩) 1 1 ∧ Ints w' (some ⟨gb, 0, none⟩) [z]) ∧ (L 12 = false → OwnI w' b2 vo ((od.take k).map (pl ns))) ∧ (L 12 = true → OwnI w' b2 (vs 12) (((od.take k).map (pl ns)) ++ [z])) ∧ (L 12 = true → L 11 = true)
     refine wp_region_genT S 13 133 (by kernel_rfl) (by kernel_rfl) rfl ?_ ?_
     ·exact HI.out _ _ _ ⟨⟨below_grows hB (Nat.le_refl _) (Grows.drew' _), k1.grows (Grows.drew' _), kP.grows (Grows.drew' _), hm.grows (Grows.drew' _), hr.grows (Grows.drew' _), ho.grows (Grows.drew' _), hs2⟩, kn_none _ _, (fun h => by cases h), (fun _ => hv.grows (Grows.drew' _)), (fun h => by cases h), (fun h => by cases h)⟩
     simp only [List.take_succ_cons, List.take_zero, List.drop_succ_cons, List.drop_zero]
     refine gent_consR (fun vs L w1 hL hw1 => ?_) ?_
     ·obtain ⟨⟨qB, qk, qp, qm, qr, qi, qs⟩, q1, q4, q5, q6, q7⟩ := HO.out _ _ _ hw1
      refine gen_plain rfl ?_
      go_simp
      exact gr_val (HI.out _ _ _ ⟨⟨qB, qk, qp, qm, qr, qi, qs⟩, kn_known q1 rfl, q4, q5, q6, q7⟩)
     refine gent_consR (fun vs L w1 hL hw1 => ?_) ?_
     ·obtain ⟨⟨qB, qk, qp, qm, qr, qi, qs⟩, q1, q4, q5, q6, q7⟩ := HO.out _ _ _ hw1
      refine gen_plain rfl ?_
      go_simp
      exact gr_val (HI.out _ _ _ ⟨⟨qB, qk, qp, qm, qr, qi, qs⟩, kn_known q1 rfl, q4, q5, q6, q7⟩)
     refine gent_consR (fun vs L w1 hL hw1 => ?_) ?_
     ·obtain ⟨⟨qB, qk, qp, qm, qr, qi, qs⟩, q1, q4, q5, q6, q7⟩ := HO.out _ _ _ hw1
      have l1 : L 1 = true := hL.need 1 (by kernel_rfl)
      have e1 := q1 1 _ rfl l1
      refine gen_plain rfl ?_
      simp only [e1]
      go_simp
      exact gr_val (HI.out _ _ _ ⟨⟨qB, qk, qp, qm, qr, qi, qs⟩, kn_known q1 rfl, q4, q5, q6, q7⟩)
     refine gent_consR (fun vs L w1 hL hw1 => ?_) ?_
     ·obtain ⟨⟨qB, qk, qp, qm, qr, qi, qs⟩, q1, q4, q5, q6, q7⟩ := HO.out _ _ _ hw1
      have l2 : L 2 = true := hL.need 2 (by kernel_rfl)
      have e2 := q1 2 _ rfl l2
      refine gen_plain rfl ?_
      simp only [e2]
      go_simp
      exact gr_val (HI.out _ _ _ ⟨⟨qB, qk, qp, qm, qr, qi, qs⟩, kn_known q1 rfl, q4, q5, q6, q7⟩)
     refine gent_consR (fun vs L w1 hL hw1 => ?_) ?_
     ·obtain ⟨⟨qB, qk, qp, qm, qr, qi, qs⟩, q1, q4, q5, q6, q7⟩ := HO.out _ _ _ hw1
      have l3 : L 3 = true := hL.need 3 (by kernel_rfl)
      have e3 := q1 3 _ rfl l3
      have x := qp.cell 4
      refine gen_plain rfl ?_
      simp only [e3]
      go_simp
      exact gr_val (HI.out _ _ _ ⟨⟨qB, qk, qp, qm, qr, qi, qs⟩, kn_known q1 rfl, q4, q5, q6, q7⟩)
     refine gent_consR (fun vs L w1 hL hw1 => ?_) ?_
     ·obtain ⟨⟨qB, qk, qp, qm, qr, qi, qs⟩, q1, q4, q5, q6, q7⟩ := HO.out _ _ _ hw1
      refine gen_plain rfl ?_
      go_simp
      exact gr_val (HI.out _ _ _ ⟨⟨qB, qk, qp, qm, qr, qi, qs⟩, kn_known q1 rfl, q4, q5, q6, q7⟩)
     refine gent_consR (fun vs L w1 hL hw1 => ?_) ?_
     ·obtain ⟨⟨qB, qk, qp, qm, qr, qi, qs⟩, q1, q4, q5, q6, q7⟩ := HO.out _ _ _ hw1
      have l5 : L 5 = true := hL.need 5 (by kernel_rfl)
      have e5 := q1 5 _ rfl l5
      refine gen_plain rfl ?_
      simp only [e5]
      go_simp
      exact gr_val (HI.out _ _ _ ⟨⟨qB, qk, qp, qm, qr, qi, qs⟩, kn_known q1 rfl, q4, q5, q6, q7⟩)
     refine gent_consR (fun vs L w1 hL hw1 => ?_) ?_
     ·obtain ⟨⟨qB, qk, qp, qm, qr, qi, qs⟩, q1, q4, q5, q6, q7⟩ := HO.out _ _ _ hw1
      have l6 : L 6 = true := hL.need 6 (by kernel_rfl)
      have e6 := q1 6 _ rfl l6
      refine gen_plain rfl ?_
      simp only [e6]
      go_simp
      exact gr_val (HI.out _ _ _ ⟨⟨qB, qk, qp, qm, qr, qi, qs⟩, kn_known q1 rfl, q4, q5, q6, q7⟩)
     refine gent_consR (fun vs L w1 hL hw1 => ?_) ?_
     ·obtain ⟨⟨qB, qk, qp, qm, qr, qi, qs⟩, q1, q4, q5, q6, q7⟩ := HO.out _ _ _ hw1
      have l7 : L 7 = true := hL.need 7 (by kernel_rfl)
      have e7 := q1 7 _ rfl l7
      have x := qp.cell 3
      refine gen_plain rfl ?_
      simp only [e7]
      go_simp
      exact gr_val (HI.out _ _ _ ⟨⟨qB, qk, qp, qm, qr, qi, qs⟩, kn_known q1 rfl, q4, q5, q6, q7⟩)
     refine gent_consR (fun vs L w1 hL hw1 => ?_) ?_
     ·obtain ⟨⟨qB, qk, qp, qm, qr, qi, qs⟩, q1, q4, q5, q6, q7⟩ := HO.out _ _ _ hw1
      refine gen_plain rfl ?_
      go_simp
      exact gr_val (HI.out _ _ _ ⟨⟨qB, qk, qp, qm, qr, qi, qs⟩, kn_known q1 rfl, q4, q5, q6, q7⟩)
     refine gent_consR (fun vs L w1 hL hw1 => ?_) ?_
     ·obtain ⟨⟨qB, qk, qp, qm, qr, qi, qs⟩, q1, q4, q5, q6, q7⟩ := HO.out _ _ _ hw1
      have l8 : L 8 = true := hL.need 8 (by kernel_rfl)
      have e8 := q1 8 _ rfl l8
      have l9 : L 9 = true := hL.need 9 (by kernel_rfl)
      have e9 := q1 9 _ rfl l9
      refine gen_plain rfl ?_
      refine gr_lookT (.tmp 87) (.tmp 88) 85 rfl e8 qm lawI Try.underlying85 (zeroI _) id (in64_ok HIN.out) e9 ?_
      rw [HL.out]
      exact HI.out _ _ _ ⟨⟨qB, qk, qp, qm, qr, qi, qs⟩, kn_known q1 rfl, q4, q5, q6, q7⟩
     refine gent_consR (fun vs L w1 hL hw1 => ?_) ?_
     ·obtain ⟨⟨qB, qk, qp, qm, qr, qi, qs⟩, q1, q4, q5, q6, q7⟩ := HO.out _ _ _ hw1
      have n11 : L 11 = false := hL.1
      have n12 : L 12 = false := by
       cases h : L 12
       ·rfl
       ·rw [q7 h] at n11; cases n11
      have l10 : L 10 = true := hL.need 10 (by kernel_rfl)
      have e10 := q1 10 _ rfl l10
      refine gen_plain rfl ?_
      simp only [e10]
      go_simp
      have hg := (Below.refl w1.heap.size w1).alloc (Nat.le_refl _) (Obj.cells #[.int .i64 z] 3)
      exact gr_val (HI.out _ _ _ ⟨⟨below_grows qB (Nat.le_refl _) hg, qk.grows hg, qp.grows hg, qm.grows hg, qr.grows hg, qi.grows hg, Nat.le_trans qs hg.size⟩, kn_free q1 rfl, (fun _ _ => ⟨_, rfl, ints_lit w1 z⟩), (fun _ => (q5 n12).grows hg), (fun h => by rw [show L 12 = true from h] at n12; cases n12), (fun h => by rw [show L 12 = true from h] at n12; cases n12)⟩)
     refine gent_consR (fun vs L w1 hL hw1 => ?_) ?_
     ·obtain ⟨⟨qB, qk, qp, qm, qr, qi, qs⟩, q1, q4, q5, q6, q7⟩ := HO.out _ _ _ hw1
      have n12 : L 12 = false := hL.1
      have l11 : L 11 = true := hL.need 11 (by kernel_rfl)
      obtain ⟨gb, e11, s4⟩ := q4 l11 n12
      have o5 := q5 n12
      have l4 : L 4 = true := hL.need 4 (by kernel_rfl)
      have e4 := q1 4 _ rfl l4
      refine gen_plain rfl ?_
      refine gr_append_int (.tmp 83) (.tmp 90) rfl (l := ((od.take k).map (pl ns))) (m := [z]) rfl e4 o5 e11 s4 (by simp only [List.length_map, List.length_take, List.length_cons, List.length_nil]; omega) qs ?_
      intro v3 w3 o6 g3 d3
      exact HI.out _ _ _ ⟨⟨(o5.mono hb2).below qB g3 qB.size, qk.grown g3 (Ne.symm (own_blk_ne o5 qk (by decide))), qp.grown g3 (Ne.symm (own_blk_ne o5 qp (by decide))), qm.kept g3 (qm.ne_own o5), qr.kept g3 (qr.ne_own o5), World.ownsRow.kept qi g3 (own_new_ne HID.out o5), Nat.le_trans qs g3.size⟩, kn_free q1 rfl, (fun _ h => by cases h), (fun h => by cases h), (fun _ => o6), (fun _ => l11)⟩
     refine gent_nil ?_
     intro vs L W2 hall hS
     obtain ⟨⟨hB, k1, kP, hm, hr, ho, hs2⟩, q1, -, -, q6, -⟩ := HO.out _ _ _ hS
     have hv := q6 (hall 12 (by omega))
     have e0 := q1 0 _ rfl (hall 0 (by omega))
     clear hall hS HI HO q1 q6
     simp only [e0]
     generalize vs 1 = y1 at *
     generalize vs 2 = y2 at *
     generalize vs 3 = y3 at *
     generalize vs 4 = y4 at *
     generalize vs 5 = y5 at *
     generalize vs 6 = y6 at *
     generalize vs 7 = y7 at *
     generalize vs 8 = y8 at *
     generalize vs 9 = y9 at *
     generalize vs 10 = y10 at *
     generalize vs 11 = y11 at *
     generalize vs 12 = v5 at *
     clear e0
     have fz := kP.frozen 4
     have xP := kP.cell 4
     obtain ⟨A5, c5, hv5, -, -⟩ := hv.read
     generalize List.length _ = n5 at hv5
     subst hv5
     iterate 3
      refine wpList_plain rfl (fun K hK => ?_)
      go_simp
      refine hK _ _ ?_
      clear hK K
     have hgs := grown_setCell W2 ⟨P, 4, none⟩ (.slice A5 n5 c5)
     have kP2 : Blk (W2.setCell ⟨P, 4, none⟩ (.slice A5 n5 c5)) P 88 #[.slice A ns.length c, .slice A2 ls.length c2, .slice A3 cs.length c3, .map (some Bm), .slice A5 n5 c5, .slice (some ⟨G, 0, none⟩) ns.length ns.length] := kP.set_ 4 (.slice A5 n5 c5)
     have n1 : some w.heap.size ≠ some P := fun e => by injection e with e; exact Blk.ne_ k1 kP (by decide) e
     replace hm := hm.kept hgs (fun e => by injection e with e; exact hm.ne_blk kP e)
     replace hr := hr.kept hgs (fun e => own_blk_ne hr.2 kP (by decide) e)
     replace ho : OwnI (W2.setCell ⟨P, 4, none⟩ (.slice A5 n5 c5)) w.heap.size (.slice (some ad) od.length c4) od := World.ownsRow.kept ho hgs (.inr (own_blk_ne ho kP (by decide)))
     replace hv : OwnI (W2.setCell ⟨P, 4, none⟩ (.slice A5 n5 c5)) b2 (.slice A5 n5 c5) ((od.take k).map (pl ns) ++ [z]) := World.ownsRow.kept hv hgs (.inr (own_blk_ne hv kP (by decide)))
     replace k1 := k1.grown hgs n1
     replace hB := hB.grown hgs hB.size (fun q e => by injection e with e; subst e; exact hP)
     replace hs2 := Nat.le_trans hs2 hgs.size
     have HS : Hid ((od.take k).map (pl ns) ++ [z] = (od.take (k + 1)).map (pl ns)) := Lib.hid (by rw [take_snoc HX.out, List.map_append]; simp [HZ.out])
     rw [HS.out] at hv
     clear n1 hgs fz kP xP
     generalize W2.setCell _ _ = w8 at *
     go_wp2
     go_roundw
     case rel => exact ⟨k + 1, .slice A5 n5 c5, by omega, by go_num, hv, hs2, kP2, hm, hr, ho, k1, hB⟩
     case measure => simp [intOf]; omega
    ·have HS : Hid ((od.take k).map (pl ns) = ordP ns ls) := Lib.hid (by rw [List.take_of_length_le (by omega), ← HOD.out]; rfl)
     rw [HS.out] at hv
     clear HS ho
     obtain ⟨Ao, co, rfl, hco, -⟩ := hv.read
     have x1 := k1.cell
     go_wp2_with fail
     clear x1
     have HID3 : Hid (∀ g, Value.ownBlock (.slice Ao (ordP ns ls).length co) = some g → g < wr.heap.size) := Lib.hid fun g e => (World.ownsRow.lt hv g e).2
     replace hv := hv.mono hb2
     have hbo := befO_made hr wr.heap.size (R := befP ns (ls.take 0)) (fun _ => rfl)
     have hb3 := hB.size
     generalize hb3e : wr.heap.size = b3 at hbo hb3 HID3
     have hs3 : b3 ≤ wr.heap.size := Nat.le_of_eq hb3e.symm
     clear hb3e hr hs2 HID
     have HID := HID3
     clear HID3
     go_loopw [98] (fun i wr => ∃ k : Nat, k ≤ ls.length ∧ i = .int .i64 k ∧ BefO wr w.heap.size b3 G ns.length (befP ns (ls.take k)) ∧ b3 ≤ wr.heap.size ∧ Blk wr P 88 #[.slice A ns.length c, .slice A2 ls.length c2, .slice A3 cs.length c3, .map (some Bm), .slice Ao (ordP ns ls).length co, .slice (some ⟨G, 0, none⟩) ns.length ns.length] ∧ MapT TI wr Bm ns.length (wMap ns (idL ns.length) ns.length) ∧ OwnI wr w.heap.size (.slice Ao (ordP ns ls).length co) (ordP ns ls) ∧ Blk wr w.heap.size 26 #[.slice A ns.length c, .slice A2 ls.length c2] ∧ Below w.heap.size w wr) (fun i _ => ls.length - (intOf i).toNat)
     case atStart => exact ⟨0, by omega, rfl, hbo, hs3, kP, hm, hv, k1, hB⟩
     case round =>
      clear hm kP k1 hB hv hbo hs3
      obtain ⟨k, hk, rfl, hbo, hs3, kP, hm, hv, k1, hB⟩ := hrel
      by_cases hlt : k < ls.length
      ·obtain ⟨ad, l, e1, had, hx, q0, q1, q2, q3⟩ := (h.grows hB).l.elem hlt
       subst e1
       have HX := Lib.hid hx
       have hmem := List.mem_of_getElem? hx
       have HIN : Hid (In64 l.a) := Lib.hid (h.li l hmem).1
       have HIC : Hid (In64 l.c) := Lib.hid (h.li l hmem).2
       obtain ⟨⟨nn, hn1, hn2⟩, -⟩ := link_node HV.out hmem
       obtain ⟨ti, hti, -, htl, -⟩ := pl_in hn1
       rw [hn2] at hti
       have HTI := Lib.hid hti
       obtain ⟨z, hz⟩ : ∃ z, pl ns l.a = z := ⟨_, rfl⟩
       have HZ := Lib.hid hz
       have HL : Hid ((wMap ns (idL ns.length) ns.length l.a).getD (.int .i64 0) = .int .i64 z) := Lib.hid (by rw [← hz]; exact idMap_get ns l.a)
       have HLC : Hid ((wMap ns (idL ns.length) ns.length l.c).getD (.int .i64 0) = .int .i64 (ti : Int)) := Lib.hid (by rw [← hti]; exact idMap_get ns l.c)
       have hbl := befP_len ns (ls.take k) ti
       have hbl2 : (ls.take k).length ≤ 256 := by rw [List.length_take]; omega
       clear hx hmem hn1 hn2 hti hz
       have k17 := Blk.new wr 49 #[.int .i64 l.a, .int .i64 l.b, .int .i64 l.c, .int .i64 l.d]
       have hq := (Below.refl wr.heap.size wr).alloc (Nat.le_refl _) (Obj.cells #[.int .i64 l.a, .int .i64 l.b, .int .i64 l.c, .int .i64 l.d] 49)
       go_upto_region 19 with fail
       clear q0 q1 q2 q3
       replace hB := below_grows hB (Nat.le_refl _) hq
       replace hm := hm.grows hq
       replace kP := kP.grows hq
       replace hbo := hbo.grows hq
       replace hv := hv.grows hq
       replace k1 := k1.grows hq
       replace hs3 := Nat.le_trans hs3 hq.size
       clear hq
       generalize World.alloc wr _ = w6 at *
       generalize wr.heap.size = G17 at *
       have e1 : ∀ n, (Instr.lookup 85 (.map (some Bm)) (.int .i64 l.c) false).run Try.prog (w6.drewN n) = .ok (.int .i64 (ti : Int)) (w6.drewN n) := fun n => by
        have := (hm.grows (grows_drewN w6 n)).look lawI Try.underlying85 (zeroI _) (in64_ok HIC.out)
        rw [HLC.out] at this
        exact this
       have x17 := k17.cell 2
       have xP := kP.cell 3
       go_quiet (fail)
       generalize hY : World.drewN w6 _ = w9 at *
       have hq : Grows w6 w9 := hY ▸ grows_drewN w6 _
       clear hY e1 x17 xP
       replace hB := below_grows hB (Nat.le_refl _) hq
       replace hm := hm.grows hq
       replace kP := kP.grows hq
       replace hbo := hbo.grows hq
       replace hv := hv.grows hq
       replace k1 := k1.grows hq
       replace k17 := k17.grows hq
       replace hs3 := Nat.le_trans hs3 hq.size
       clear hq
       obtain ⟨vr, hrow, hx⟩ := hbo.open_ htl
       obtain ⟨vals, hr, hvi⟩ := hx.row
       have HVI := Lib.hid hvi
       clear hvi hbo
       go_upto_region 20 with fail
       obtain ⟨S, HI, HO⟩ := hideS fun (L : Ran) (vs : Nat → Value) (w' : World) => (Below w.heap.size w w' ∧ Blk w' w.heap.size 26 #[.slice A ns.length c, .slice (some ad) ls.length c2] ∧ Blk w' P 88 #[.slice A ns.length c, .slice (some ad) ls.length c2, .slice A3 cs.length c3, .map (some Bm), (.slice Ao (ordP ns ls).length co), .slice (some ⟨G, 0, none⟩) ns.length ns.length] ∧ Blk w' G17 49 #[.int .i64 l.a, .int .i64 l.b, .int .i64 l.c, .int .i64 l.d] ∧ MapT TI w' Bm ns.length (wMap ns (idL ns.length) ns.length) ∧ RowG w' w.heap.size G ns.length vals ∧ OwnI w' w.heap.size (.slice Ao (ordP ns ls).length co) (ordP ns ls) ∧ b3 ≤ w'.heap.size) ∧ KnS [some (.pointer (some ⟨P, 0, none⟩)), some (.pointer (some ⟨P, 0, none⟩)), some (.pointer (some ⟨P, 5, none⟩)), some (.slice (some ⟨G, 0, none⟩) ns.length ns.length), some (.int .i64 (ti : Int)), some (.pointer (some ⟨P, 0, none⟩)), some (.pointer (some ⟨P, 0, none⟩)), some (.pointer (some ⟨P, 5, none⟩)), some (.slice (some ⟨G, 0, none⟩) ns.length ns.length), some (.int .i64 (ti : Int)), some (.pointer (some ⟨G, ti, none⟩)), some (vr), some (.pointer (some ⟨P, 0, none⟩)), some (.pointer (some ⟨P, 0, none⟩)), some (.pointer (some ⟨P, 3, none⟩)), some (.map (some Bm)), some (.pointer (some ⟨G17, 0, none⟩)), some (.int .i64 l.a), some (.int .i64 z), none, none] L vs ∧ (L 19 = true → L 20 = false → ∃ gb, vs 19 = .slice (some ⟨gb, 0, none⟩) 1 1 ∧ Ints w' (some ⟨gb, 0, none⟩) [z]) ∧ (L 20 = false → OwnI w' b3 vr (befP ns (ls.take k) ti) ∧ BefX w' w.heap.size b3 G ns.length (befP ns (ls.take k)) ti vr vr) ∧ (L 20 = true → OwnI w' b3 (vs 20) ((befP ns (ls.take k) ti) ++ [z]) ∧ BefX w' w.heap.size b3 G ns.length (befP ns (ls.take k)) ti vr (vs 20)) ∧ (L 20 = true → L 19 = true)
       refine wp_region_genT S 21 133 (by kernel_rfl) (by kernel_rfl) rfl ?_ ?_
       ·exact HI.out _ _ _ ⟨⟨below_grows hB (Nat.le_refl _) (Grows.drew' _), k1.grows (Grows.drew' _), kP.grows (Grows.drew' _), k17.grows (Grows.drew' _), hm.grows (Grows.drew' _), hr.grows (Grows.drew' _), hv.grows (Grows.drew' _), hs3⟩, kn_none _ _, (fun h => by cases h), (fun _ => ⟨hrow.grows (Grows.drew' _), hx.grows (Grows.drew' _)⟩), (fun h => by cases h), (fun h => by cases h)⟩
       simp only [List.take_succ_cons, List.take_zero, List.drop_succ_cons, List.drop_zero]
       refine gent_consR (fun vs L w1 hL hw1 => ?_) ?_
       ·obtain ⟨⟨qB, qk, qp, ql, qm, qr, qi, qs⟩, q1, q4, q5, q6, q7⟩ := HO.out _ _ _ hw1
        refine gen_plain rfl ?_
        go_simp
        exact gr_val (HI.out _ _ _ ⟨⟨qB, qk, qp, ql, qm, qr, qi, qs⟩, kn_known q1 rfl, q4, q5, q6, q7⟩)
       refine gent_consR (fun vs L w1 hL hw1 => ?_) ?_
       ·obtain ⟨⟨qB, qk, qp, ql, qm, qr, qi, qs⟩, q1, q4, q5, q6, q7⟩ := HO.out _ _ _ hw1
        have l0 : L 0 = true := hL.need 0 (by kernel_rfl)
        have e0 := q1 0 _ rfl l0
        refine gen_plain rfl ?_
        simp only [e0]
        go_simp
        exact gr_val (HI.out _ _ _ ⟨⟨qB, qk, qp, ql, qm, qr, qi, qs⟩, kn_known q1 rfl, q4, q5, q6, q7⟩)
       refine gent_consR (fun vs L w1 hL hw1 => ?_) ?_
       ·obtain ⟨⟨qB, qk, qp, ql, qm, qr, qi, qs⟩, q1, q4, q5, q6, q7⟩ := HO.out _ _ _ hw1
        have l1 : L 1 = true := hL.need 1 (by kernel_rfl)
        have e1 := q1 1 _ rfl l1
        refine gen_plain rfl ?_
        simp only [e1]
        go_simp
        exact gr_val (HI.out _ _ _ ⟨⟨qB, qk, qp, ql, qm, qr, qi, qs⟩, kn_known q1 rfl, q4, q5, q6, q7⟩)
       refine gent_consR (fun vs L w1 hL hw1 => ?_) ?_
       ·obtain ⟨⟨qB, qk, qp, ql, qm, qr, qi, qs⟩, q1, q4, q5, q6, q7⟩ := HO.out _ _ _ hw1
        have l2 : L 2 = true := hL.need 2 (by kernel_rfl)
        have e2 := q1 2 _ rfl l2
        have x := qp.cell 5
        refine gen_plain rfl ?_
        simp only [e2]
        go_simp
        exact gr_val (HI.out _ _ _ ⟨⟨qB, qk, qp, ql, qm, qr, qi, qs⟩, kn_known q1 rfl, q4, q5, q6, q7⟩)
       refine gent_consR (fun vs L w1 hL hw1 => ?_) ?_
       ·obtain ⟨⟨qB, qk, qp, ql, qm, qr, qi, qs⟩, q1, q4, q5, q6, q7⟩ := HO.out _ _ _ hw1
        refine gen_plain rfl ?_
        go_simp
        exact gr_val (HI.out _ _ _ ⟨⟨qB, qk, qp, ql, qm, qr, qi, qs⟩, kn_known q1 rfl, q4, q5, q6, q7⟩)
       refine gent_consR (fun vs L w1 hL hw1 => ?_) ?_
       ·obtain ⟨⟨qB, qk, qp, ql, qm, qr, qi, qs⟩, q1, q4, q5, q6, q7⟩ := HO.out _ _ _ hw1
        refine gen_plain rfl ?_
        go_simp
        exact gr_val (HI.out _ _ _ ⟨⟨qB, qk, qp, ql, qm, qr, qi, qs⟩, kn_known q1 rfl, q4, q5, q6, q7⟩)
       refine gent_consR (fun vs L w1 hL hw1 => ?_) ?_
       ·obtain ⟨⟨qB, qk, qp, ql, qm, qr, qi, qs⟩, q1, q4, q5, q6, q7⟩ := HO.out _ _ _ hw1
        have l5 : L 5 = true := hL.need 5 (by kernel_rfl)
        have e5 := q1 5 _ rfl l5
        refine gen_plain rfl ?_
        simp only [e5]
        go_simp
        exact gr_val (HI.out _ _ _ ⟨⟨qB, qk, qp, ql, qm, qr, qi, qs⟩, kn_known q1 rfl, q4, q5, q6, q7⟩)
       refine gent_consR (fun vs L w1 hL hw1 => ?_) ?_
       ·obtain ⟨⟨qB, qk, qp, ql, qm, qr, qi, qs⟩, q1, q4, q5, q6, q7⟩ := HO.out _ _ _ hw1
        have l6 : L 6 = true := hL.need 6 (by kernel_rfl)
        have e6 := q1 6 _ rfl l6
        refine gen_plain rfl ?_
        simp only [e6]
        go_simp
        exact gr_val (HI.out _ _ _ ⟨⟨qB, qk, qp, ql, qm, qr, qi, qs⟩, kn_known q1 rfl, q4, q5, q6, q7⟩)
       refine gent_consR (fun vs L w1 hL hw1 => ?_) ?_
       ·obtain ⟨⟨qB, qk, qp, ql, qm, qr, qi, qs⟩, q1, q4, q5, q6, q7⟩ := HO.out _ _ _ hw1
        have l7 : L 7 = true := hL.need 7 (by kernel_rfl)
        have e7 := q1 7 _ rfl l7
        have x := qp.cell 5
        refine gen_plain rfl ?_
        simp only [e7]
        go_simp
        exact gr_val (HI.out _ _ _ ⟨⟨qB, qk, qp, ql, qm, qr, qi, qs⟩, kn_known q1 rfl, q4, q5, q6, q7⟩)
       refine gent_consR (fun vs L w1 hL hw1 => ?_) ?_
       ·obtain ⟨⟨qB, qk, qp, ql, qm, qr, qi, qs⟩, q1, q4, q5, q6, q7⟩ := HO.out _ _ _ hw1
        refine gen_plain rfl ?_
        go_simp
        exact gr_val (HI.out _ _ _ ⟨⟨qB, qk, qp, ql, qm, qr, qi, qs⟩, kn_known q1 rfl, q4, q5, q6, q7⟩)
       refine gent_consR (fun vs L w1 hL hw1 => ?_) ?_
       ·obtain ⟨⟨qB, qk, qp, ql, qm, qr, qi, qs⟩, q1, q4, q5, q6, q7⟩ := HO.out _ _ _ hw1
        have l8 : L 8 = true := hL.need 8 (by kernel_rfl)
        have e8 := q1 8 _ rfl l8
        have l9 : L 9 = true := hL.need 9 (by kernel_rfl)
        have e9 := q1 9 _ rfl l9
        refine gen_plain rfl ?_
        simp only [e8, e9]
        go_simp
        exact gr_val (HI.out _ _ _ ⟨⟨qB, qk, qp, ql, qm, qr, qi, qs⟩, kn_known q1 rfl, q4, q5, q6, q7⟩)
       refine gent_consR (fun vs L w1 hL hw1 => ?_) ?_
       ·obtain ⟨⟨qB, qk, qp, ql, qm, qr, qi, qs⟩, q1, q4, q5, q6, q7⟩ := HO.out _ _ _ hw1
        have l10 : L 10 = true := hL.need 10 (by kernel_rfl)
        have e10 := q1 10 _ rfl l10
        refine gen_plain rfl ?_
        have x := qr.cell HVI.out
        simp only [e10]
        go_simp
        exact gr_val (HI.out _ _ _ ⟨⟨qB, qk, qp, ql, qm, qr, qi, qs⟩, kn_known q1 rfl, q4, q5, q6, q7⟩)
       refine gent_consR (fun vs L w1 hL hw1 => ?_) ?_
       ·obtain ⟨⟨qB, qk, qp, ql, qm, qr, qi, qs⟩, q1, q4, q5, q6, q7⟩ := HO.out _ _ _ hw1
        refine gen_plain rfl ?_
        go_simp
        exact gr_val (HI.out _ _ _ ⟨⟨qB, qk, qp, ql, qm, qr, qi, qs⟩, kn_known q1 rfl, q4, q5, q6, q7⟩)
       refine gent_consR (fun vs L w1 hL hw1 => ?_) ?_
       ·obtain ⟨⟨qB, qk, qp, ql, qm, qr, qi, qs⟩, q1, q4, q5, q6, q7⟩ := HO.out _ _ _ hw1
        have l12 : L 12 = true := hL.need 12 (by kernel_rfl)
        have e12 := q1 12 _ rfl l12
        refine gen_plain rfl ?_
        simp only [e12]
        go_simp
        exact gr_val (HI.out _ _ _ ⟨⟨qB, qk, qp, ql, qm, qr, qi, qs⟩, kn_known q1 rfl, q4, q5, q6, q7⟩)
       refine gent_consR (fun vs L w1 hL hw1 => ?_) ?_
       ·obtain ⟨⟨qB, qk, qp, ql, qm, qr, qi, qs⟩, q1, q4, q5, q6, q7⟩ := HO.out _ _ _ hw1
        have l13 : L 13 = true := hL.need 13 (by kernel_rfl)
        have e13 := q1 13 _ rfl l13
        refine gen_plain rfl ?_
        simp only [e13]
        go_simp
        exact gr_val (HI.out _ _ _ ⟨⟨qB, qk, qp, ql, qm, qr, qi, qs⟩, kn_known q1 rfl, q4, q5, q6, q7⟩)
       refine gent_consR (fun vs L w1 hL hw1 => ?_) ?_
       ·obtain ⟨⟨qB, qk, qp, ql, qm, qr, qi, qs⟩, q1, q4, q5, q6, q7⟩ := HO.out _ _ _ hw1
        have l14 : L 14 = true := hL.need 14 (by kernel_rfl)
        have e14 := q1 14 _ rfl l14
        have x := qp.cell 3
        refine gen_plain rfl ?_
        simp only [e14]
        go_simp
        exact gr_val (HI.out _ _ _ ⟨⟨qB, qk, qp, ql, qm, qr, qi, qs⟩, kn_known q1 rfl, q4, q5, q6, q7⟩)
       refine gent_consR (fun vs L w1 hL hw1 => ?_) ?_
       ·obtain ⟨⟨qB, qk, qp, ql, qm, qr, qi, qs⟩, q1, q4, q5, q6, q7⟩ := HO.out _ _ _ hw1
        refine gen_plain rfl ?_
        go_simp
        exact gr_val (HI.out _ _ _ ⟨⟨qB, qk, qp, ql, qm, qr, qi, qs⟩, kn_known q1 rfl, q4, q5, q6, q7⟩)
       refine gent_consR (fun vs L w1 hL hw1 => ?_) ?_
       ·obtain ⟨⟨qB, qk, qp, ql, qm, qr, qi, qs⟩, q1, q4, q5, q6, q7⟩ := HO.out _ _ _ hw1
        have l16 : L 16 = true := hL.need 16 (by kernel_rfl)
        have e16 := q1 16 _ rfl l16
        have x := ql.cell 0
        refine gen_plain rfl ?_
        simp only [e16]
        go_simp
        exact gr_val (HI.out _ _ _ ⟨⟨qB, qk, qp, ql, qm, qr, qi, qs⟩, kn_known q1 rfl, q4, q5, q6, q7⟩)
       refine gent_consR (fun vs L w1 hL hw1 => ?_) ?_
       ·obtain ⟨⟨qB, qk, qp, ql, qm, qr, qi, qs⟩, q1, q4, q5, q6, q7⟩ := HO.out _ _ _ hw1
        have l15 : L 15 = true := hL.need 15 (by kernel_rfl)
        have e15 := q1 15 _ rfl l15
        have l17 : L 17 = true := hL.need 17 (by kernel_rfl)
        have e17 := q1 17 _ rfl l17
        refine gen_plain rfl ?_
        refine gr_lookT (.tmp 124) (.tmp 126) 85 rfl e15 qm lawI Try.underlying85 (zeroI _) l.a (in64_ok HIN.out) e17 ?_
        rw [HL.out]
        exact HI.out _ _ _ ⟨⟨qB, qk, qp, ql, qm, qr, qi, qs⟩, kn_known q1 rfl, q4, q5, q6, q7⟩
       refine gent_consR (fun vs L w1 hL hw1 => ?_) ?_
       ·obtain ⟨⟨qB, qk, qp, ql, qm, qr, qi, qs⟩, q1, q4, q5, q6, q7⟩ := HO.out _ _ _ hw1
        have n19 : L 19 = false := hL.1
        have n20 : L 20 = false := by
         cases h : L 20
         ·rfl
         ·rw [q7 h] at n19; cases n19
        have l18 : L 18 = true := hL.need 18 (by kernel_rfl)
        have e18 := q1 18 _ rfl l18
        refine gen_plain rfl ?_
        simp only [e18]
        go_simp
        have hg := (Below.refl w1.heap.size w1).alloc (Nat.le_refl _) (Obj.cells #[.int .i64 z] 3)
        exact gr_val (HI.out _ _ _ ⟨⟨below_grows qB (Nat.le_refl _) hg, qk.grows hg, qp.grows hg, ql.grows hg, qm.grows hg, qr.grows hg, qi.grows hg, Nat.le_trans qs hg.size⟩, kn_free q1 rfl, (fun _ _ => ⟨_, rfl, ints_lit w1 z⟩), (fun _ => ⟨(q5 n20).1.grows hg, (q5 n20).2.grows hg⟩), (fun h => by rw [show L 20 = true from h] at n20; cases n20), (fun h => by rw [show L 20 = true from h] at n20; cases n20)⟩)
       refine gent_consR (fun vs L w1 hL hw1 => ?_) ?_
       ·obtain ⟨⟨qB, qk, qp, ql, qm, qr, qi, qs⟩, q1, q4, q5, q6, q7⟩ := HO.out _ _ _ hw1
        have n20 : L 20 = false := hL.1
        have l19 : L 19 = true := hL.need 19 (by kernel_rfl)
        obtain ⟨gb, e19, s4⟩ := q4 l19 n20
        have o5 := q5 n20
        obtain ⟨o5, y5⟩ := o5
        have l11 : L 11 = true := hL.need 11 (by kernel_rfl)
        have e11 := q1 11 _ rfl l11
        refine gen_plain rfl ?_
        refine gr_append_int (.tmp 120) (.tmp 128) rfl (l := (befP ns (ls.take k) ti)) (m := [z]) rfl e11 o5 e19 s4 (by simp only [List.length_cons, List.length_nil]; omega) qs ?_
        intro v3 w3 o6 g3 d3
        exact HI.out _ _ _ ⟨⟨(o5.mono hb3).below qB g3 qB.size, qk.grown g3 (Ne.symm (own_blk_ne o5 qk (by decide))), qp.grown g3 (Ne.symm (own_blk_ne o5 qp (by decide))), ql.grown g3 (Ne.symm (own_blk_ne o5 ql (by decide))), qm.kept g3 (qm.ne_own o5), qr.kept g3 (qr.ne_own o5), World.ownsRow.kept qi g3 (own_new_ne HID.out o5), Nat.le_trans qs g3.size⟩, kn_free q1 rfl, (fun _ h => by cases h), (fun h => by cases h), (fun _ => ⟨o6, y5.append o5 g3 d3⟩), (fun _ => l19)⟩
       refine gent_nil ?_
       intro vs L W2 hall hS
       obtain ⟨⟨hB, k1, kP, k17, hm, hr, hv, hs3⟩, q1, -, -, q6, -⟩ := HO.out _ _ _ hS
       have hx := q6 (hall 20 (by omega))
       have e3 := q1 3 _ rfl (hall 3 (by omega))
       have e4 := q1 4 _ rfl (hall 4 (by omega))
       clear hall hS HI HO q1 q6
       simp only [e3, e4]
       generalize vs 0 = y0 at *
       generalize vs 1 = y1 at *
       generalize vs 2 = y2 at *
       generalize vs 5 = y5 at *
       generalize vs 6 = y6 at *
       generalize vs 7 = y7 at *
       generalize vs 8 = y8 at *
       generalize vs 9 = y9 at *
       generalize vs 10 = y10 at *
       generalize vs 11 = y11 at *
       generalize vs 12 = y12 at *
       generalize vs 13 = y13 at *
       generalize vs 14 = y14 at *
       generalize vs 15 = y15 at *
       generalize vs 16 = y16 at *
       generalize vs 17 = y17 at *
       generalize vs 18 = y18 at *
       generalize vs 19 = y19 at *
       generalize vs 20 = v5 at *
       clear e3 e4
       have fz := hr.frozen ti
       have xP := hr.cell HVI.out
       obtain ⟨A5, c5, hv5, -, -⟩ := hx.1.read
       generalize List.length _ = n5 at hv5
       subst hv5
       iterate 2
        refine wpList_plain rfl (fun K hK => ?_)
        go_simp
        refine hK _ _ ?_
        clear hK K
       have hgs := grown_setCell W2 ⟨G, ti, none⟩ (.slice A5 n5 c5)
       have hbo : BefO (W2.setCell ⟨G, ti, none⟩ (.slice A5 n5 c5)) w.heap.size b3 G ns.length (befP ns (ls.take (k + 1))) := hx.2.close htl hx.1 (fun j => by
        rw [befP_succ HX.out, HTI.out, HZ.out]
        by_cases ej : j = ti
        ·subst ej
         rw [if_pos rfl, if_pos rfl]
        ·rw [if_neg ej, if_neg (fun e => ej (by omega))])
       replace hm := hm.kept hgs (hm.ne_own hr.2)
       replace hv : OwnI (W2.setCell ⟨G, ti, none⟩ (.slice A5 n5 c5)) w.heap.size (.slice Ao (ordP ns ls).length co) (ordP ns ls) := World.ownsRow.kept hv hgs (own_apart hr.2 hv (by decide))
       replace kP := kP.grown hgs (Ne.symm (own_blk_ne hr.2 kP (by decide)))
       replace k1 := k1.grown hgs (Ne.symm (own_blk_ne hr.2 k1 (by decide)))
       replace hB := hB.grown hgs hB.size (fun q e => by injection e with e; subst e; exact hr.lt.1)
       replace hs3 := Nat.le_trans hs3 hgs.size
       clear hgs fz hr hx xP
       generalize W2.setCell _ _ = w8 at *
       go_wp2
       go_roundw
       case rel => exact ⟨k + 1, by omega, by go_num, hbo, hs3, kP, hm, hv, k1, hB⟩
       case measure => simp [intOf]; omega
      ·rw [List.take_of_length_le (by omega)] at hbo
       have hoi := hv.ints
       go_wp2
       go_ret2
       exact ⟨.inl ⟨HE.out, P, Bm, _, G, co, Ao, rfl, ⟨kP, hm, hoi, hbo.read⟩⟩, hB⟩
end Go.Proofs.Ytobhdldlhhigdaa

namespace Go.Proofs.Ytobhdldlhhigdaa
open Go.RowKit Go.Maps
set_option maxRecDepth 100000
def gArrN (base n : Nat) (l : List Int) : GP := ⟨fun w v => ∃ g, v = .slice (some ⟨g, 0, none⟩) n n ∧ ArrI w base g n l, fun _ _ _ ⟨g, e, h⟩ hg => ⟨g, e, h.grows hg⟩⟩
def gLitN (l : List Int) : GP := ⟨fun w v => ∃ g, v = .slice (some ⟨g, 0, none⟩) 1 1 ∧ Ints w (some ⟨g, 0, none⟩) l, fun _ _ _ ⟨g, e, h⟩ hg => ⟨g, e, h.grows hg⟩⟩
def gPlA (base wk n P : Nat) : GP := ⟨fun w v => ∃ g f, v = .agg #[.pointer (some ⟨P, 0, none⟩), .int .i64 0, .slice (some ⟨g, 0, none⟩) wk wk, .slice (some ⟨f, 0, none⟩) n n, .slice none 0 0] ∧ ArrI w base g wk (List.replicate wk 0) ∧ ArrI w base f n (List.replicate n (-1)), fun _ _ _ ⟨g, f, e, h1, h2⟩ hg => ⟨g, f, e, h1.grows hg, h2.grows hg⟩⟩
def gPlP (base wk n P : Nat) : GP := ⟨fun w v => ∃ p g f, v = .pointer (some ⟨p, 0, none⟩) ∧ base ≤ p ∧ Blk w p 68 #[.pointer (some ⟨P, 0, none⟩), .int .i64 0, .slice (some ⟨g, 0, none⟩) wk wk, .slice (some ⟨f, 0, none⟩) n n, .slice none 0 0] ∧ ArrI w base g wk (List.replicate wk 0) ∧ ArrI w base f n (List.replicate n (-1)), fun _ _ _ ⟨p, g, f, e, h0, h3, h1, h2⟩ hg => ⟨p, g, f, e, h0, h3.grows hg, h1.grows hg, h2.grows hg⟩⟩
theorem arr_ne {w : World} {b g g' wk n : Nat} (h : ArrI w b g wk (List.replicate wk 0)) (h' : ArrI w b g' n (List.replicate n (-1))) (hw : 1 ≤ wk) : g ≠ g' := by
 rintro rfl
 have hn : wk = n := by
  rcases h.own.2 with ⟨e, _⟩ | ⟨g1, cap, cur, e, _, hh, _, _, hs, _⟩
  ·cases e
  ·rcases h'.own.2 with ⟨e', _⟩ | ⟨g2, cap2, cur2, e', _, hh2, _, _, hs2, _⟩
   ·cases e'
   ·injection e with e1 _ e3
    injection e' with e4 _ e6
    injection e1 with e1
    injection e4 with e4
    injection e1 with e1
    injection e4 with e4
    subst e1
    subst e4
    rw [hh] at hh2
    injection hh2 with hh2
    injection hh2 with hh2
    subst hh2
    omega
 subst hn
 have h1 := h.cell (k := 0) (x := 0) (by rw [List.getElem?_replicate, if_pos (by omega)])
 have h2 := h'.cell (k := 0) (x := -1) (by rw [List.getElem?_replicate, if_pos (by omega)])
 rw [h1] at h2
 injection h2 with h2
 injection h2 with _ h2
 omega
/-- How far a plan in memory is from its end. -/
def muPl (n Pl : Nat) (w : World) : Nat := match w.heap[Pl]? with | some (.cells cs _ _) => (n - slN (cs.getD 4 undef)) * 1125899906842624 + (140737488355328 - intOf (cs.getD 1 undef)).toNat | _ => 0
theorem mu_pl {w : World} {H Pl P gF gE wk n : Nat} {vS : Value} {ns : List Q4} {st : St} (h : PlS w H Pl P gF gE wk n vS ns st) (m : Nat) : muPl m Pl w = (m - st.l.length) * 1125899906842624 + (140737488355328 - st.t).toNat := by
 obtain ⟨A, c, rfl, _, _⟩ := h.slots.read
 have hb := h.blk
 unfold Blk at hb
 unfold muPl
 rw [hb]
 rfl
theorem OwnS.mono {w : World} {base base' : Nat} {v : Value} {l : List Q4} (h : OwnS w base v l) (hb : base' ≤ base) : OwnS w base' v l := ⟨h.1, h.2.imp id fun ⟨g, cap, cur, e, hg, r⟩ => ⟨g, cap, cur, e, by omega, r⟩⟩
theorem step_less {ns ls : List Q4} {cs : List Int} {wk : Nat} {s : St} (h : probB ns ls cs wk = true) (hs : CSt ns ls cs wk s) (hl : s.l.length < ns.length) :
 (ns.length - (stepS (wOf ns cs) (orderL ns ls) ls s).l.length) * 1125899906842624 + (140737488355328 - (stepS (wOf ns cs) (orderL ns ls) ls s).t).toNat < (ns.length - s.l.length) * 1125899906842624 + (140737488355328 - s.t).toNat := by
 have ht := cst_time h hs
 rcases hn : nextS (orderL ns ls) ls s.l s.t with _ | id
 ·rw [step_no (.inl hn)]
  obtain ⟨h1, h2⟩ := cst_wait h hs hl (.inl hn)
  have h3 := cst_time h h1
  simp only at h3 ⊢
  omega
 ·rcases hf : freeS s.busy s.t with _ | wi
  ·rw [step_no (.inr hf)]
   obtain ⟨h1, h2⟩ := cst_wait h hs hl (.inr hf)
   have h3 := cst_time h h1
   simp only at h3 ⊢
   omega
  ·rw [step_yes hn hf]
   simp only [List.length_append, List.length_singleton]
   omega
set_option maxHeartbeats 16000000 in
theorem pcomp_any {A A2 A3 : Option Addr} {c2 : Nat} {ns ls : List Q4} {cs : List Int} {w : World} (c c3 : Nat) (wi : Int) (h : GOK w A A2 c2 ns ls) (h3 : Ints w A3 cs) (hl3 : cs.length ≤ 9223372036854775807) :
 Calls Try.prog 12 #[.agg #[.slice A ns.length c, .slice A2 ls.length c2], .slice A3 cs.length c3, .int .i64 wi] w fun e w' => CompR ns ls cs wi w.heap.size e w' ∧ Grows w w' := by
 have k1 := Blk.new w 26 #[.slice A ns.length c, .slice A2 ls.length c2]
 have hB := (Below.refl w.heap.size w).alloc (Nat.le_refl _) (Obj.cells #[.slice A ns.length c, .slice A2 ls.length c2] 26)
 go_enter Try.func12, Try.ntmps12
 go_upto_region 1 with fail
 generalize World.alloc w _ = w1 at *
 have x1 := k1.cell
 go_wp2_with fail
 refine (read_any c c3 wi (h.grows hB) (h3.grows hB) hl3).mono ?_
 rintro e w0 ⟨(⟨hp, P, Bm, m, G, co, Ao, rfl, hP⟩ | ⟨hp, rfl⟩), hq⟩
 case inr =>
  replace hB := below_grows hB (Nat.le_refl _) hq
  clear hq x1
  go_wp2
  go_ret2
  exact ⟨.inr ⟨hp, rfl⟩, hB⟩
 obtain ⟨wk, rfl⟩ : ∃ wk : Nat, wi = wk := ⟨wi.toNat, by have := prob_iff.1 hp; omega⟩
 have HP := Lib.hid hp
 have hwk8 : wk ≤ 8 := by have := prob_iff.1 hp; omega
 have hwk1 : 1 ≤ wk := by have := prob_iff.1 hp; omega
 have hln := (valid_len (prob_iff.1 hp).1).1
 clear hp
 replace hB := below_grows hB (Nat.le_refl _) hq
 replace k1 := k1.grows hq
 clear hq x1
 go_upto_region 4 with fail
 obtain ⟨S, HI, HO⟩ := hideS fun (L : Ran) (vs : Nat → Value) (w' : World) => Grows w0 w' ∧ KnS [some (.pointer (some ⟨P, 0, none⟩)), some (.int .i64 (wk : Int)), none, none, some (.pointer (some ⟨w.heap.size, 0, none⟩)), some (.slice A ns.length c), some (.int .i64 ns.length), none, none, none, none] L vs ∧ DsS [none, none, some (gArrN w0.heap.size wk (List.replicate wk 0)), some (gLitN [-1]), none, none, none, some (gArrN w0.heap.size ns.length (List.replicate ns.length (-1))), some (gPlA w0.heap.size wk ns.length P), some (gPlP w0.heap.size wk ns.length P), some (gPlP w0.heap.size wk ns.length P)] L vs w'
 refine wp_region_genW S 45 (by kernel_rfl) (by kernel_rfl) rfl ?_ ?_
 ·exact HI.out _ _ _ ⟨Grows.drew' _, kn_none _ _, ds_none _ _ _⟩
 refine gen_consR (fun vs L w1 hL hw1 => ?_) ?_
 ·obtain ⟨q0, q1, q2⟩ := HO.out _ _ _ hw1
  refine gen_plain rfl ?_
  go_simp
  exact gr_val (HI.out _ _ _ ⟨q0, kn_known q1 rfl, ds_free q2 rfl⟩)
 refine gen_consR (fun vs L w1 hL hw1 => ?_) ?_
 ·obtain ⟨q0, q1, q2⟩ := HO.out _ _ _ hw1
  refine gen_plain rfl ?_
  go_simp
  exact gr_val (HI.out _ _ _ ⟨q0, kn_known q1 rfl, ds_free q2 rfl⟩)
 refine gen_consR (fun vs L w1 hL hw1 => ?_) ?_
 ·obtain ⟨q0, q1, q2⟩ := HO.out _ _ _ hw1
  refine gen_plain rfl ?_
  have l1 : L 1 = true := hL.need 1 (by kernel_rfl)
  have e1 := q1 1 _ rfl l1
  simp only [e1]
  obtain ⟨i0, hi0, hi1, hi2, hi3, hi4⟩ := iinfo
  refine gr_make_full (.tmp 21) (.tmp 21) 22 rfl w0.heap.size 3 i0 (.int .i64 0) 1 Try.underlying22 hi0 hi3 hi1 .i64 .i64 wk wk wk rfl rfl rfl rfl (by rw [hi2]; omega) (by simp only [maxLen]; omega) q0.size ?_
  intro w3 hz hg3
  have hr := made_zero _ _ _ _ hz
  have hg : Grows w1 w3 := (Below.refl _ _).grown hg3 (Nat.le_refl _) (fun q e => by cases e)
  exact HI.out _ _ _ ⟨below_grows q0 (Nat.le_refl _) hg, kn_free q1 rfl, ds_put (q2.grows hg) rfl ⟨_, rfl, hr⟩⟩
 refine gen_consR (fun vs L w1 hL hw1 => ?_) ?_
 ·obtain ⟨q0, q1, q2⟩ := HO.out _ _ _ hw1
  refine gen_plain rfl ?_
  go_simp
  have hg := (Below.refl w1.heap.size w1).alloc (Nat.le_refl _) (Obj.cells #[.int .i64 (-1)] 3)
  exact gr_val (HI.out _ _ _ ⟨below_grows q0 (Nat.le_refl _) hg, kn_free q1 rfl, ds_put (q2.grows hg) rfl ⟨_, rfl, ints_lit w1 (-1)⟩⟩)
 refine gen_consR (fun vs L w1 hL hw1 => ?_) ?_
 ·obtain ⟨q0, q1, q2⟩ := HO.out _ _ _ hw1
  refine gen_plain rfl ?_
  go_simp
  exact gr_val (HI.out _ _ _ ⟨q0, kn_known q1 rfl, ds_free q2 rfl⟩)
 refine gen_consR (fun vs L w1 hL hw1 => ?_) ?_
 ·obtain ⟨q0, q1, q2⟩ := HO.out _ _ _ hw1
  refine gen_plain rfl ?_
  have l4 : L 4 = true := hL.need 4 (by kernel_rfl)
  have e4 := q1 4 _ rfl l4
  have x := (k1.grows q0).cell 0
  simp only [e4]
  go_simp
  exact gr_val (HI.out _ _ _ ⟨q0, kn_known q1 rfl, ds_free q2 rfl⟩)
 refine gen_consR (fun vs L w1 hL hw1 => ?_) ?_
 ·obtain ⟨q0, q1, q2⟩ := HO.out _ _ _ hw1
  refine gen_plain rfl ?_
  have l5 : L 5 = true := hL.need 5 (by kernel_rfl)
  have e5 := q1 5 _ rfl l5
  simp only [e5]
  go_simp
  exact gr_val (HI.out _ _ _ ⟨q0, kn_known q1 rfl, ds_free q2 rfl⟩)
 refine gen_consR (fun vs L w1 hL hw1 => ?_) ?_
 ·obtain ⟨q0, q1, q2⟩ := HO.out _ _ _ hw1
  refine gen_plain rfl ?_
  have l3 : L 3 = true := hL.need 3 (by kernel_rfl)
  obtain ⟨g3, e3, a3⟩ := q2 3 _ rfl l3
  have l6 : L 6 = true := hL.need 6 (by kernel_rfl)
  have e6 := q1 6 _ rfl l6
  simp only [e3, e6]
  go_simp
  refine gr_call ?_
  refine (repeat_any ns.length 1 hln a3).mono ?_
  rintro e w2 ⟨⟨gg, rfl, ha⟩, hg⟩
  exact ⟨_, rfl, HI.out _ _ _ ⟨below_grows q0 (Nat.le_refl _) hg, kn_free q1 rfl, ds_put (q2.grows hg) rfl ⟨_, rfl, ha.mono q0.size⟩⟩⟩
 refine gen_consR (fun vs L w1 hL hw1 => ?_) ?_
 ·obtain ⟨q0, q1, q2⟩ := HO.out _ _ _ hw1
  refine gen_plain rfl ?_
  have l0 : L 0 = true := hL.need 0 (by kernel_rfl)
  have e0 := q1 0 _ rfl l0
  have l2 : L 2 = true := hL.need 2 (by kernel_rfl)
  obtain ⟨g2, e2, a2⟩ := q2 2 _ rfl l2
  have l7 : L 7 = true := hL.need 7 (by kernel_rfl)
  obtain ⟨g7, e7, a7⟩ := q2 7 _ rfl l7
  simp only [e0, e2, e7]
  go_simp
  exact gr_val (HI.out _ _ _ ⟨q0, kn_free q1 rfl, ds_put q2 rfl ⟨_, _, rfl, a2, a7⟩⟩)
 refine gen_consR (fun vs L w1 hL hw1 => ?_) ?_
 ·obtain ⟨q0, q1, q2⟩ := HO.out _ _ _ hw1
  refine gen_plain rfl ?_
  have l8 : L 8 = true := hL.need 8 (by kernel_rfl)
  obtain ⟨g8, f8, e8, a8, b8⟩ := q2 8 _ rfl l8
  simp only [e8]
  go_simp
  have hk := Blk.new w1 68 #[.pointer (some ⟨P, 0, none⟩), .int .i64 0, .slice (some ⟨g8, 0, none⟩) wk wk, .slice (some ⟨f8, 0, none⟩) ns.length ns.length, .slice none 0 0]
  have hg := (Below.refl w1.heap.size w1).alloc (Nat.le_refl _) (Obj.cells #[.pointer (some ⟨P, 0, none⟩), .int .i64 0, .slice (some ⟨g8, 0, none⟩) wk wk, .slice (some ⟨f8, 0, none⟩) ns.length ns.length, .slice none 0 0] 68)
  exact gr_val (HI.out _ _ _ ⟨below_grows q0 (Nat.le_refl _) hg, kn_free q1 rfl, ds_put (q2.grows hg) rfl ⟨_, _, _, rfl, q0.size, hk, a8.grows hg, b8.grows hg⟩⟩)
 refine gen_consR (fun vs L w1 hL hw1 => ?_) ?_
 ·obtain ⟨q0, q1, q2⟩ := HO.out _ _ _ hw1
  refine gen_plain rfl ?_
  have l9 : L 9 = true := hL.need 9 (by kernel_rfl)
  obtain ⟨p9, g9, f9, e9, h9, k9, a9, b9⟩ := q2 9 _ rfl l9
  simp only [e9]
  go_simp
  exact gr_val (HI.out _ _ _ ⟨q0, kn_free q1 rfl, ds_put q2 rfl ⟨_, _, _, rfl, h9, k9, a9, b9⟩⟩)
 refine gen_nil ?_
 intro vs L W6 hall hS
 obtain ⟨hq, q1, q2⟩ := HO.out _ _ _ hS
 have dX10 := q2 10 _ rfl (hall 10 (by simp))
 clear hall hS HI HO q1 q2
 obtain ⟨Pl, gF, gE, eP, hPl, kl, hb, he⟩ := dX10
 simp only [eP]
 generalize vs 0 = y0 at *
 generalize vs 1 = y1 at *
 generalize vs 2 = y2 at *
 generalize vs 3 = y3 at *
 generalize vs 4 = y4 at *
 generalize vs 5 = y5 at *
 generalize vs 6 = y6 at *
 generalize vs 7 = y7 at *
 generalize vs 8 = y8 at *
 generalize vs 9 = y9 at *
 clear eP
 have hne := arr_ne hb he hwk1
 have hst : PlS W6 w0.heap.size Pl P gF gE wk ns.length (.slice none 0 0) ns (startS wk) := by
  refine ⟨kl, hb, ?_, ownS_nil _ _⟩
  have e : List.replicate ns.length (-1) = arrL ns (endS (startS wk).l) := by
   unfold arrL
   simp [startS, endS, findN, List.map_const']
  rw [← e]
  exact he
 clear kl hb he
 go_wp2_with fail
 go_loopw [34] (fun _ wr => ∃ (st : St) (vS : Value), Hid (CSt ns ls cs wk st) ∧ PlS wr w0.heap.size Pl P gF gE wk ns.length vS ns st ∧ Below w0.heap.size w0 wr) (fun _ wr => muPl ns.length Pl wr)
 case atStart => exact ⟨startS wk, _, Lib.hid cst_start, hst, hq⟩
 case round =>
  clear hst hq
  obtain ⟨st, vS, HC, hl, hq⟩ := hrel
  obtain ⟨A5, c5, rfl, hc5, -⟩ := hl.slots.read
  have hmu := mu_pl hl ns.length
  have k2 := k1.grows hq
  have x1 := k2.cell
  have xl := hl.blk.cell 4
  by_cases hlt : st.l.length < ns.length
  ·have hlt2 : decide ((st.l.length : Int) < (ns.length : Int)) = true := by simp only [decide_eq_true_eq]; omega
   go_upto_region 5 with fail
   go_quiet (fail)
   generalize hY : World.drewN wr _ = w9 at *
   have hg : Grows wr w9 := hY ▸ grows_drewN wr _
   clear hY x1 xl k2
   go_wp2_with fail
   refine (pstep_any (h.grows hB) (h3.grows hB) hP (hq.trans (hg.mono hq.size)) (hl.grows hg) hPl hne HP HC hlt).mono ?_
   rintro e w8 ⟨rfl, hq8, vS2, hl2⟩
   have HC2 := Lib.hid (cst_step HP.out HC.out hlt).1
   have hmu2 := mu_pl hl2 ns.length
   have hless := step_less HP.out HC.out hlt
   clear hl hg hq
   go_wp2
   go_roundw
   case rel => exact ⟨_, vS2, HC2, hl2, hq8⟩
   case measure =>
    rw [hmu2, hmu]
    exact hless
  ·have hlt2 : decide ((st.l.length : Int) < (ns.length : Int)) = false := by simp only [decide_eq_false_iff_not]; omega
   have HE : Hid (st.l = compG ns ls cs wk) := Lib.hid (cst_end HC.out (by omega))
   go_upto_region 5 with fail
   go_quiet (fail)
   generalize hY : World.drewN wr _ = w9 at *
   have hg : Grows wr w9 := hY ▸ grows_drewN wr _
   clear hY x1 xl k2
   have hl2 := hl.grows hg
   have xl := hl2.blk.cell 4
   have hs := hl2.slots.mono hB.size
   have hB2 := hB.trans ((hq.trans (hg.mono hq.size)).mono hB.size)
   go_wp2
   go_ret2
   refine ⟨.inl ⟨HP.out, _, rfl, ?_⟩, hB2⟩
   rw [Int.toNat_natCast, ← HE.out]
   exact hs
end Go.Proofs.Ytobhdldlhhigdaa
