/-
  The checker's maker of glitches: which glitch a deck gives. Plain contract.
-/
import Derived.Test.YtbmoiokpkcaccaaGsA
import Derived.Test.YtbmoiokpkcaccaaRange
import Derived.Test.YtbmoiokpkcaccaaRow
namespace Go.Proofs.Ytbmoiokpkcaccaa
open Go.RowKit
def glitchV (l : List Int) (k : Nat) : Gl :=
  ⟨1 + nextV l k 4, nextV l (nextKs l k 1) 12, 1 + nextV l (nextKs l k 2) 3, (if 1 + nextV l k 4 ≤ 2 then 1 + nextV l (nextKs l k 4) 3 else 0), (if 1 + nextV l k 4 ≤ 2 then 0 else 1 + nextV l (nextKs l k 4) 3), 1 + nextV l (nextKs l k 3) 50⟩
theorem glitchV_ok (l : List Int) (k : Nat) : okG (glitchV l k) = true := by
  have h1 := nextV_bd l k (n := 4) (by omega)
  have h2 := nextV_bd l (nextKs l k 1) (n := 12) (by omega)
  have h3 := nextV_bd l (nextKs l k 2) (n := 3) (by omega)
  have h4 := nextV_bd l (nextKs l k 3) (n := 50) (by omega)
  have h5 := nextV_bd l (nextKs l k 4) (n := 3) (by omega)
  have key : ∀ a b c d e : Int, 0 ≤ a → a < 4 → 0 ≤ b → b < 12 → 0 ≤ c → c < 3 → 0 ≤ d → d < 50 → 0 ≤ e → e < 3 → okG ⟨1 + a, b, 1 + c, (if 1 + a ≤ 2 then 1 + e else 0), (if 1 + a ≤ 2 then 0 else 1 + e), 1 + d⟩ = true := by
    intro a b c d e _ _ _ _ _ _ _ _ _ _
    have ha : a = 0 ∨ a = 1 ∨ a = 2 ∨ a = 3 := by omega
    rcases ha with rfl | rfl | rfl | rfl <;> simp [okG] <;> omega
  exact key _ _ _ _ _ h1.1 h1.2 h2.1 h2.2 h3.1 h3.2 h4.1 h4.2 h5.1 h5.2
theorem grown_al {w w' : World} {row : Option Nat} (h : w.grownBy w' row) (o : Obj) : w.grownBy (w'.alloc o) row :=
  ⟨h.os, h.tape, h.output, Nat.le_trans h.size (by simp), fun j hj hn => (Below.heap_alloc w' o j (Nat.lt_of_lt_of_le hj h.size)).trans (h.block j hj hn)⟩
theorem grown_st {w w' : World} {row : Option Nat} (h : w.grownBy w' row) {p : Addr} (hp : w.heap.size ≤ p.block) (u : Value) : w.grownBy (w'.setCell p u) row :=
  ⟨h.os, h.tape, h.output, by simpa [World.setCell] using h.size, fun j hj hn => (Below.heap_setCell w' p u j (by omega)).trans (h.block j hj hn)⟩
theorem deck_row {w : World} {g : Nat} {A : Option Addr} {c : Nat} {l : List Int} {k : Nat} (h : Deck w g A c l k) {g' : Nat} (hg : g < g') (cs : Array Value) : Deck (w.setRow g' cs) g A c l k :=
  ⟨h.blk.row_far (by omega), h.ints.keep fun p hp => World.cell?_of_block (by
    have hne : ¬ g' = p.block := by omega
    simp [World.setRow, Array.getElem?_modify, hne]), h.le, h.len⟩
theorem grown_row {w w' : World} {row : Option Nat} (h : w.grownBy w' row) {g' : Nat} (hp : w.heap.size ≤ g') (cs : Array Value) : w.grownBy (w'.setRow g' cs) row :=
  ⟨h.os, h.tape, h.output, by simpa [World.setRow] using h.size, fun j hj hn => by
    have hne : ¬ g' = j := by omega
    rw [← h.block j hj hn]
    simp [World.setRow, Array.getElem?_modify, hne]⟩
set_option maxHeartbeats 8000000 in
theorem mglitch_any (gd : Nat) (A : Option Addr) (c : Nat) (l : List Int) (k : Nat) (w : World) (hd : Deck w gd A c l k) :
    Calls Try.prog 22 #[.pointer (some ⟨gd, 0, none⟩)] w fun e w' => e = .returned (.agg (glitchV l k).cs) ∧ Deck w' gd A c l (nextKs l k 5) ∧ w.grownBy w' (some gd) := by
  have hgd := hd.blk.lt
  have h1 := nextV_bd l k (n := 4) (by omega)
  have h5 := nextV_bd l (nextKs l k 4) (n := 3) (by omega)
  go_enter Try.func22, Try.ntmps22
  go_upto_region 1 with fail
  have k2 := Blk.new w 28 #[.int .i64 0, .int .i64 0, .int .i64 0, .int .i64 0, .int .u64 0, .int .i64 0]
  replace hd := hd.grows ((Below.refl w.heap.size w).alloc (Nat.le_refl _) (Obj.cells #[.int .i64 0, .int .i64 0, .int .i64 0, .int .i64 0, .int .u64 0, .int .i64 0] 28))
  have hg := grown_al (World.grownBy.refl w (some gd)) (Obj.cells #[.int .i64 0, .int .i64 0, .int .i64 0, .int .i64 0, .int .u64 0, .int .i64 0] 28)
  generalize World.alloc w _ = w1 at *
  go_wp2_with fail
  refine (range_any gd A c l _ 1 4 _ hd (by omega) (by omega) (by omega)).mono ?_
  rintro e w2 ⟨rfl, hd2, hq⟩
  replace k2 := k2.grown hq (by intro e; injection e with e; omega)
  replace hg := grown_trans hg hq
  have hd := hd2
  clear hq hd2
  generalize w2 = w1 at *
  simp only [show (4 : Int) - 1 + 1 = 4 by omega]
  go_wp2_with fail
  refine (next_any gd A c l _ 12 _ hd (by omega) (by omega)).mono ?_
  rintro e w2 ⟨rfl, hd2, hq⟩
  replace k2 := k2.grown hq (by intro e; injection e with e; omega)
  replace hg := grown_trans hg hq
  have hd := hd2
  clear hq hd2
  generalize w2 = w1 at *
  go_wp2_with fail
  refine (range_any gd A c l _ 1 3 _ hd (by omega) (by omega) (by omega)).mono ?_
  rintro e w2 ⟨rfl, hd2, hq⟩
  replace k2 := k2.grown hq (by intro e; injection e with e; omega)
  replace hg := grown_trans hg hq
  have hd := hd2
  clear hq hd2
  generalize w2 = w1 at *
  simp only [show (3 : Int) - 1 + 1 = 3 by omega]
  go_wp2_with fail
  refine (range_any gd A c l _ 1 50 _ hd (by omega) (by omega) (by omega)).mono ?_
  rintro e w2 ⟨rfl, hd2, hq⟩
  replace k2 := k2.grown hq (by intro e; injection e with e; omega)
  replace hg := grown_trans hg hq
  have hd := hd2
  clear hq hd2
  generalize w2 = w1 at *
  simp only [show (50 : Int) - 1 + 1 = 50 by omega]
  have hd4 : Deck w1 gd A c l (nextKs l k 4) := hd
  clear hd
  have k3 := Blk.new w1 28 #[.int .i64 (1 + nextV l k 4), .int .i64 (nextV l (nextKs l k 1) 12), .int .i64 (1 + nextV l (nextKs l k 2) 3), .int .i64 0, .int .u64 0, .int .i64 (1 + nextV l (nextKs l k 3) 50)]
  have hn3 : w.heap.size < w1.heap.size := k2.lt
  have hgd3 : gd < w1.heap.size := hd4.blk.lt
  replace k2 := k2.alloc (Obj.cells #[.int .i64 (1 + nextV l k 4), .int .i64 (nextV l (nextKs l k 1) 12), .int .i64 (1 + nextV l (nextKs l k 2) 3), .int .i64 0, .int .u64 0, .int .i64 (1 + nextV l (nextKs l k 3) 50)] 28)
  replace hg := grown_al hg (Obj.cells #[.int .i64 (1 + nextV l k 4), .int .i64 (nextV l (nextKs l k 1) 12), .int .i64 (1 + nextV l (nextKs l k 2) 3), .int .i64 0, .int .u64 0, .int .i64 (1 + nextV l (nextKs l k 3) 50)] 28)
  replace hd4 := hd4.grows ((Below.refl w1.heap.size w1).alloc (Nat.le_refl _) (Obj.cells #[.int .i64 (1 + nextV l k 4), .int .i64 (nextV l (nextKs l k 1) 12), .int .i64 (1 + nextV l (nextKs l k 2) 3), .int .i64 0, .int .u64 0, .int .i64 (1 + nextV l (nextKs l k 3) 50)] 28))
  simp only [nextKs] at k3 k2 hg hd4 h5 ⊢
  by_cases h6 : 1 + nextV l k 4 ≤ 2
  · have hdk : decide (1 + nextV l k 4 ≤ 2) = true := by simpa using h6
    go_wp2_with fail
    generalize World.alloc w1 _ = w3 at *
    refine (range_any gd A c l _ 1 3 _ hd4 (by omega) (by omega) (by omega)).mono ?_
    rintro e w4 ⟨rfl, hd5, hq⟩
    simp only [show (3 : Int) - 1 + 1 = 3 by omega]
    replace k2 := k2.grown hq (by intro e; injection e with e; omega)
    replace k3 := k3.grown hq (by intro e; injection e with e; omega)
    replace hg := grown_trans hg hq
    clear hq hd4
    have c3 := k3.cell
    have f3 := k3.frozen
    have c2 := k2.cell
    have f2 := k2.frozen

    generalize w1.heap.size = n3 at *
    go_upto_region 5 with fail
    replace k3 := k3.set_ 3 (.int .i64 (1 + nextV l (nextK l (nextK l (nextK l (nextK l k)))) 3))
    replace k2 := k2.far (p := ⟨n3, 3, none⟩) (by simp; omega) (.int .i64 (1 + nextV l (nextK l (nextK l (nextK l (nextK l k)))) 3))
    replace hg := grown_st hg (p := ⟨n3, 3, none⟩) (by simp; omega) (.int .i64 (1 + nextV l (nextK l (nextK l (nextK l (nextK l k)))) 3))
    have hd6 := hd5.far (p := ⟨n3, 3, none⟩) (by simp; omega) (.int .i64 (1 + nextV l (nextK l (nextK l (nextK l (nextK l k)))) 3))
    generalize World.setCell w4 _ _ = w5 at *
    clear c3 f3 c2 f2
    have k33 : Blk w5 n3 28 #[.int .i64 (1 + nextV l k 4), .int .i64 (nextV l (nextK l k) 12), .int .i64 (1 + nextV l (nextK l (nextK l k)) 3), .int .i64 (1 + nextV l (nextK l (nextK l (nextK l (nextK l k)))) 3), .int .u64 0, .int .i64 (1 + nextV l (nextK l (nextK l (nextK l k))) 50)] := k3
    clear k3
    refine wp_region_lit ?_
    refine wpList_load_row rfl _ rfl rfl k33 Try.underlying28 rfl ginfo6 ?_
    refine wpList_store_row rfl _ _ rfl rfl rfl rfl k2 ginfo6 rfl (by simp [Value.oneCell']) ?_
    replace k2 := k2.row (cs := #[.int .i64 (1 + nextV l k 4), .int .i64 (nextV l (nextK l k) 12), .int .i64 (1 + nextV l (nextK l (nextK l k)) 3), .int .i64 (1 + nextV l (nextK l (nextK l (nextK l (nextK l k)))) 3), .int .u64 0, .int .i64 (1 + nextV l (nextK l (nextK l (nextK l k))) 50)])
    have hd7 := deck_row hd6 (g' := w.heap.size) (by omega) #[.int .i64 (1 + nextV l k 4), .int .i64 (nextV l (nextK l k) 12), .int .i64 (1 + nextV l (nextK l (nextK l k)) 3), .int .i64 (1 + nextV l (nextK l (nextK l (nextK l (nextK l k)))) 3), .int .u64 0, .int .i64 (1 + nextV l (nextK l (nextK l (nextK l k))) 50)]
    replace hg := grown_row hg (g' := w.heap.size) (Nat.le_refl _) #[.int .i64 (1 + nextV l k 4), .int .i64 (nextV l (nextK l k) 12), .int .i64 (1 + nextV l (nextK l (nextK l k)) 3), .int .i64 (1 + nextV l (nextK l (nextK l (nextK l (nextK l k)))) 3), .int .u64 0, .int .i64 (1 + nextV l (nextK l (nextK l (nextK l k))) 50)]
    generalize World.setRow _ _ _ = w6 at *
    go_wp2
    refine bodyPost_ret (v := .agg #[.int .i64 (1 + nextV l k 4), .int .i64 (nextV l (nextK l k) 12), .int .i64 (1 + nextV l (nextK l (nextK l k)) 3), .int .i64 (1 + nextV l (nextK l (nextK l (nextK l (nextK l k)))) 3), .int .u64 0, .int .i64 (1 + nextV l (nextK l (nextK l (nextK l k))) 50)]) ?_ rfl ⟨congrArg (fun x => Ending.returned (Value.agg x)) ?_, hd7, hg⟩
    · have x2 := k2.cell
      simp [results, Try.results22, go_sem, x2]
    · simp only [glitchV, Gl.cs, nextKs, if_pos h6]
  · have hdk : decide (1 + nextV l k 4 ≤ 2) = false := by simpa using h6
    go_wp2_with fail
    generalize World.alloc w1 _ = w3 at *
    refine (range_any gd A c l _ 1 3 _ hd4 (by omega) (by omega) (by omega)).mono ?_
    rintro e w4 ⟨rfl, hd5, hq⟩
    simp only [show (3 : Int) - 1 + 1 = 3 by omega]
    replace k2 := k2.grown hq (by intro e; injection e with e; omega)
    replace k3 := k3.grown hq (by intro e; injection e with e; omega)
    replace hg := grown_trans hg hq
    clear hq hd4
    have c3 := k3.cell
    have f3 := k3.frozen
    have c2 := k2.cell
    have f2 := k2.frozen
    have ew : IntKind.u64.wrap (1 + nextV l (nextK l (nextK l (nextK l (nextK l k)))) 3) = 1 + nextV l (nextK l (nextK l (nextK l (nextK l k)))) 3 := IntWalk.u64_in _ (by omega)
    generalize w1.heap.size = n3 at *
    go_upto_region 5 with fail
    replace k3 := k3.set_ 4 (.int .u64 (1 + nextV l (nextK l (nextK l (nextK l (nextK l k)))) 3))
    replace k2 := k2.far (p := ⟨n3, 4, none⟩) (by simp; omega) (.int .u64 (1 + nextV l (nextK l (nextK l (nextK l (nextK l k)))) 3))
    replace hg := grown_st hg (p := ⟨n3, 4, none⟩) (by simp; omega) (.int .u64 (1 + nextV l (nextK l (nextK l (nextK l (nextK l k)))) 3))
    have hd6 := hd5.far (p := ⟨n3, 4, none⟩) (by simp; omega) (.int .u64 (1 + nextV l (nextK l (nextK l (nextK l (nextK l k)))) 3))
    generalize World.setCell w4 _ _ = w5 at *
    clear c3 f3 c2 f2
    have k33 : Blk w5 n3 28 #[.int .i64 (1 + nextV l k 4), .int .i64 (nextV l (nextK l k) 12), .int .i64 (1 + nextV l (nextK l (nextK l k)) 3), .int .i64 0, .int .u64 (1 + nextV l (nextK l (nextK l (nextK l (nextK l k)))) 3), .int .i64 (1 + nextV l (nextK l (nextK l (nextK l k))) 50)] := k3
    clear k3
    refine wp_region_lit ?_
    refine wpList_load_row rfl _ rfl rfl k33 Try.underlying28 rfl ginfo6 ?_
    refine wpList_store_row rfl _ _ rfl rfl rfl rfl k2 ginfo6 rfl (by simp [Value.oneCell']) ?_
    replace k2 := k2.row (cs := #[.int .i64 (1 + nextV l k 4), .int .i64 (nextV l (nextK l k) 12), .int .i64 (1 + nextV l (nextK l (nextK l k)) 3), .int .i64 0, .int .u64 (1 + nextV l (nextK l (nextK l (nextK l (nextK l k)))) 3), .int .i64 (1 + nextV l (nextK l (nextK l (nextK l k))) 50)])
    have hd7 := deck_row hd6 (g' := w.heap.size) (by omega) #[.int .i64 (1 + nextV l k 4), .int .i64 (nextV l (nextK l k) 12), .int .i64 (1 + nextV l (nextK l (nextK l k)) 3), .int .i64 0, .int .u64 (1 + nextV l (nextK l (nextK l (nextK l (nextK l k)))) 3), .int .i64 (1 + nextV l (nextK l (nextK l (nextK l k))) 50)]
    replace hg := grown_row hg (g' := w.heap.size) (Nat.le_refl _) #[.int .i64 (1 + nextV l k 4), .int .i64 (nextV l (nextK l k) 12), .int .i64 (1 + nextV l (nextK l (nextK l k)) 3), .int .i64 0, .int .u64 (1 + nextV l (nextK l (nextK l (nextK l (nextK l k)))) 3), .int .i64 (1 + nextV l (nextK l (nextK l (nextK l k))) 50)]
    generalize World.setRow _ _ _ = w6 at *
    go_wp2
    refine bodyPost_ret (v := .agg #[.int .i64 (1 + nextV l k 4), .int .i64 (nextV l (nextK l k) 12), .int .i64 (1 + nextV l (nextK l (nextK l k)) 3), .int .i64 0, .int .u64 (1 + nextV l (nextK l (nextK l (nextK l (nextK l k)))) 3), .int .i64 (1 + nextV l (nextK l (nextK l (nextK l k))) 50)]) ?_ rfl ⟨congrArg (fun x => Ending.returned (Value.agg x)) ?_, hd7, hg⟩
    · have x2 := k2.cell
      simp [results, Try.results22, go_sem, x2]
    · simp only [glitchV, Gl.cs, nextKs, if_neg (show ¬ 1 + nextV l k 4 ≤ 2 by omega)]
end Go.Proofs.Ytbmoiokpkcaccaa
