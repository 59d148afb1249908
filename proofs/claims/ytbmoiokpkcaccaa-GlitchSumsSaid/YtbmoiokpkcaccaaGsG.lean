/-
  Layer 37: the sanity check and the maker of glitches for the laws. Plain contracts.
-/
import Derived.Test.YtbmoiokpkcaccaaGsE
import Derived.Test.YtbmoiokpkcaccaaGsM
namespace Go.Proofs.Ytbmoiokpkcaccaa
open Go.RowKit
theorem sane_sort : sortG [(⟨1, 6, 1, 2, 0, 20⟩ : Gl), (⟨1, 5, 1, 2, 0, 10⟩ : Gl)] = [(⟨1, 5, 1, 2, 0, 10⟩ : Gl), (⟨1, 6, 1, 2, 0, 20⟩ : Gl)] := by
  refine (sortG_eq ?_ ?_).symm
  · have : ([(⟨1, 6, 1, 2, 0, 20⟩ : Gl), (⟨1, 5, 1, 2, 0, 10⟩ : Gl)]).filter okG = [(⟨1, 6, 1, 2, 0, 20⟩ : Gl), (⟨1, 5, 1, 2, 0, 10⟩ : Gl)] := by decide
    rw [this]
    exact List.Perm.swap _ _ _
  · exact List.pairwise_cons.2 ⟨by decide, List.pairwise_cons.2 ⟨by simp, List.Pairwise.nil⟩⟩
theorem sane_merge : mergeG [(⟨1, 6, 1, 2, 0, 20⟩ : Gl), (⟨1, 5, 1, 2, 0, 10⟩ : Gl)] = [(⟨1, 5, 2, 2, 0, 30⟩ : Gl)] := by
  unfold mergeG
  rw [sane_sort, show mergeL [(⟨1, 5, 1, 2, 0, 10⟩ : Gl), (⟨1, 6, 1, 2, 0, 20⟩ : Gl)] = [(⟨1, 5, 2, 2, 0, 30⟩ : Gl)] by decide]
  refine (sortG_eq ?_ ?_).symm
  · have : ([(⟨1, 5, 2, 2, 0, 30⟩ : Gl)]).filter okG = [(⟨1, 5, 2, 2, 0, 30⟩ : Gl)] := by decide
    rw [this]
  · exact List.pairwise_cons.2 ⟨by simp, List.Pairwise.nil⟩
theorem gls_blk {w : World} {g : Nat} {l : List Gl} {cs : Array Value} (hb : Blk w g 28 cs) (hc : cs.toList = gcells l) : Gls w (some ⟨g, 0, none⟩) l := by
  refine ⟨gcells_len l, fun _ => ⟨_, rfl, hb.lt, fun j u hu => ?_⟩⟩
  have ha : (⟨g, 0, none⟩ : Addr).add j = ⟨g, j, none⟩ := by
    unfold Addr.add
    split
    · simp_all
    · simp
  rw [ha, hb.cell, ← Array.getElem?_toList, hc]
  exact hu
set_option maxHeartbeats 4000000 in
theorem gsane_any (w : World) : Calls Try.prog 6 #[] w fun e w' => e = .returned (.bool true) ∧ Grows w w' := by
  have k0 := Blk.new w 28 #[.int .i64 1, .int .i64 6, .int .i64 1, .int .i64 2, .int .u64 0, .int .i64 20, .int .i64 1, .int .i64 5, .int .i64 1, .int .i64 2, .int .u64 0, .int .i64 10]
  have hB := (Below.refl w.heap.size w).alloc (Nat.le_refl _) (Obj.cells #[.int .i64 1, .int .i64 6, .int .i64 1, .int .i64 2, .int .u64 0, .int .i64 20, .int .i64 1, .int .i64 5, .int .i64 1, .int .i64 2, .int .u64 0, .int .i64 10] 28)
  have hs := gls_blk (l := [(⟨1, 6, 1, 2, 0, 20⟩ : Gl), (⟨1, 5, 1, 2, 0, 10⟩ : Gl)]) k0 rfl
  go_enter Try.func6, Try.ntmps6
  go_wp2_with fail
  refine (gmerge_any _ _ [(⟨1, 6, 1, 2, 0, 20⟩ : Gl), (⟨1, 5, 1, 2, 0, 10⟩ : Gl)] _ hs (by simp) (by simp [WfG])).mono ?_
  rw [sane_merge]
  rintro e w2 ⟨⟨v, rfl, hown⟩, hq⟩
  replace hB := below_grows hB (Nat.le_refl _) hq
  obtain ⟨A, c, rfl, hc, hr, -⟩ := hown.read
  obtain ⟨ad, x, rfl, -, hx, c0, c1, c2, c3, c4, c5⟩ := hr.elem (k := 0) (by simp)
  obtain rfl : (⟨1, 5, 2, 2, 0, 30⟩ : Gl) = x := by simpa using hx
  simp only [List.length_cons, List.length_nil, Nat.zero_add, Nat.zero_mul] at *
  have e0 : ad.add 0 = ad := by simp [Addr.add]
  rw [e0] at c0 c1 c2 c3 c4 c5
  clear hs k0 hq hown hr hx e0
  go_wp2
  go_ret
  exact ⟨rfl, hB⟩
theorem deck_grown {w w' : World} {g : Nat} {A : Option Addr} {c : Nat} {l : List Int} {k : Nat} (h : Deck w g A c l k) {row : Option Nat} (hg : w.grownBy w' row) (hr : ∀ q, row = some q → g < q) : Deck w' g A c l k :=
  ⟨h.blk.grown hg (fun e => by have := hr g e.symm; omega), h.ints.keep fun p hp => World.cell?_of_block (hg.block _ (Nat.lt_trans hp h.blk.lt) (fun e => by have := hr _ e.symm; omega)), h.le, h.len⟩
/-- Some glitches in a row of one's own. -/
def SomeG (w w' : World) (e : Ending) : Prop := ∃ v x, e = .returned v ∧ OwnG w' w.heap.size v x ∧ x.length ≤ 11 ∧ ∀ g ∈ x, WfG g
theorem own_kept1 {w w' : World} {g : Nat} {v : Value} {l : List Gl} (h : OwnG w (g + 1) v l) (hq : w.grownBy w' (some g)) : OwnG w' (g + 1) v l := by
  refine h.kept hq ?_
  cases e : v.ownBlock with
  | none => exact .inl rfl
  | some q =>
    have := (h.lt q e).1
    exact .inr (fun e2 => by injection e2 with e2; omega)
theorem glitchV_wf (l : List Int) (k : Nat) : WfG (glitchV l k) := by
  have h5 := nextV_bd l (nextKs l k 4) (n := 3) (by omega)
  unfold WfG glitchV
  simp only []
  constructor <;> split <;> omega
set_option maxRecDepth 100000 in
set_option maxHeartbeats 8000000 in
theorem gmade_any (A : Option Addr) (c : Nat) (l : List Int) (w : World) (h : Ints w A l) (hl : l.length ≤ 9223372036854775807) :
    Calls Try.prog 7 #[.slice A l.length c] w fun e w' => SomeG w w' e ∧ Grows w w' := by
  go_enter Try.func7, Try.ntmps7
  go_wp2_with fail
  refine (new_deck A c l _ h hl).mono ?_
  rintro e w1 ⟨rfl, hd, hB⟩
  go_wp2_with fail
  refine (next_any w.heap.size A c l _ 12 _ hd (by omega) (by omega)).mono ?_
  rintro e w2 ⟨rfl, hd2, hq⟩
  have hB2 : Grows w w2 := hB.grown hq hB.size (fun q e => by injection e with e; omega)
  have hn0 := nextV_bd l 0 (n := 12) (by omega)
  generalize nextV l 0 12 = n0 at *
  obtain ⟨n, rfl⟩ : ∃ n : Nat, n0 = (n : Int) := ⟨n0.toNat, by omega⟩
  clear hd hB hq
  go_wp2_with fail
  go_loopw [4, 5] (fun v i wr => ∃ (n : Nat) (x : List Gl) (j : Nat), i = .int .i64 n ∧ n ≤ 11 ∧ x.length + n ≤ 11 ∧ OwnG wr (w.heap.size + 1) v x ∧ (∀ g ∈ x, WfG g) ∧ Deck wr w.heap.size A c l j ∧ Grows w wr) (fun _ i _ => (intOf i).toNat)
  case atStart => exact ⟨n, [], _, rfl, by omega, by simp; omega, ownG_nil _ _, by simp, hd2, hB2⟩
  case round =>
    clear hd2 hB2 hn0
    obtain ⟨n, x, j, rfl, hn, hxn, hown, hwf, hd, hB⟩ := hrel
    rcases Nat.eq_zero_or_pos n with h0 | h0
    · subst h0
      have hne : ¬ ((0 : Nat) : Int) > 0 := by omega
      go_wp2
      go_ret
      exact ⟨⟨_, x, rfl, hown.mono (Nat.le_succ _), by omega, hwf⟩, hB⟩
    · obtain ⟨m, rfl⟩ : ∃ m, n = m + 1 := ⟨n - 1, by omega⟩
      have hpos : (0 : Int) < ((m + 1 : Nat) : Int) := by omega
      have hwm : IntKind.i64.wrap (((m + 1 : Nat) : Int) - 1) = (m : Int) := by rw [IntWalk.i64_in _ (by omega)]; omega
      go_wp2_with fail
      refine (mglitch_any w.heap.size A c l j _ hd).mono ?_
      rintro e w4 ⟨rfl, hd4, hq⟩
      replace hown := own_kept1 hown hq
      replace hB : Grows w w4 := hB.grown hq hB.size (fun q e => by injection e with e; omega)
      have hgw := glitchV_wf l j
      have HWF : Hid (∀ g' : Gl, (-9223372036854775808 ≤ g'.s ∧ g'.s ≤ 9223372036854775807) → (0 ≤ g'.d ∧ g'.d ≤ 18446744073709551615) → ∀ y ∈ x ++ [g'], WfG y) := Lib.hid fun g' h1 h2 y hy => by
        rcases List.mem_append.1 hy with hy | hy
        · exact hwf y hy
        · simp only [List.mem_cons, List.not_mem_nil, or_false] at hy
          rw [hy]; exact ⟨h1, h2⟩
      have HGS := Lib.hid hgw.1
      have HGD := Lib.hid hgw.2
      generalize glitchV l j = g at *
      simp only [Gl.cs]
      clear hd hq hgw hwf
      have k6 := Blk.new w4 28 #[.int .i64 g.k, .int .i64 g.a, .int .i64 g.q, .int .i64 g.s, .int .u64 g.d, .int .i64 g.f]
      have hne6 : u4.ownBlock ≠ some w4.heap.size := fun e => by have := (hown.lt _ e).2; omega
      have hgd6 : w.heap.size < w4.heap.size := hd4.blk.lt
      have hbd6 : w.heap.size ≤ w4.heap.size := Nat.le_of_lt hgd6
      have hq := (Below.refl w4.heap.size w4).alloc (Nat.le_refl _) (Obj.cells #[.int .i64 g.k, .int .i64 g.a, .int .i64 g.q, .int .i64 g.s, .int .u64 g.d, .int .i64 g.f] 28)
      replace hown := own_grows hown hq
      replace hB := below_grows hB (Nat.le_refl _) hq
      replace hd4 := hd4.grows hq
      go_upto_region 7 with fail
      generalize World.alloc w4 _ = w5 at *
      generalize w4.heap.size = G6 at *
      clear hq
      go_wp2_with fail
      refine (next_any w.heap.size A c l _ 16 _ hd4 (by omega) (by omega)).mono ?_
      rintro e w6 ⟨rfl, hd, hq⟩
      replace hown := own_kept1 hown hq
      replace hB : Grows w w6 := hB.grown hq hB.size (fun q e => by injection e with e; omega)
      replace k6 := k6.grown hq (fun e => by injection e with e; omega)
      have hr := nextV_bd l (nextKs l j 5) (n := 16) (by omega)
      generalize nextV l (nextKs l j 5) 16 = r at *
      clear hd4 hq
      by_cases h0 : r = 0
      · subst h0
        have cc := k6.cell
        have ff := k6.frozen
        go_upto_region 14 with fail
        replace k6 := k6.set_ 2 (.int .i64 0)
        replace hown := own_setCell hown (p := ⟨G6, 2, none⟩) hne6 (.int .i64 0)
        replace hd := hd.far (p := ⟨G6, 2, none⟩) hgd6 (.int .i64 0)
        replace hB := hB.setCell (p := ⟨G6, 2, none⟩) hbd6 (.int .i64 0)
        clear cc ff
        generalize World.setCell _ _ _ = w7 at *
        have k66 : Blk w7 G6 28 #[.int .i64 g.k, .int .i64 g.a, .int .i64 0, .int .i64 g.s, .int .u64 g.d, .int .i64 g.f] := k6
        refine wp_region_lit ?_
        iterate 1
          refine wpList_plain rfl (fun K hK => ?_)
          go_simp
          refine hK _ _ ?_
          clear hK K
        refine wpList_load_row rfl _ rfl rfl k66 Try.underlying28 rfl ginfo6 ?_
        iterate 1
          refine wpList_plain rfl (fun K hK => ?_)
          go_simp
          refine hK _ _ ?_
          clear hK K
        have hq8 := (Below.refl w7.heap.size w7).alloc (Nat.le_refl _) (Obj.cells #[.int .i64 g.k, .int .i64 g.a, .int .i64 0, .int .i64 g.s, .int .u64 g.d, .int .i64 g.f] 28)
        replace hown := own_grows hown hq8
        replace hd := hd.grows hq8
        replace hB := below_grows hB (Nat.le_refl _) hq8
        have hdl := hd.blk.lt
        refine wpList_append_gl rfl (.tmp 29) (.tmp 31) rfl (l := x) (m := [⟨g.k, g.a, 0, g.s, g.d, g.f⟩]) rfl rfl hown (gls_lit w7 ⟨g.k, g.a, 0, g.s, g.d, g.f⟩) (by simp only [List.length_cons, List.length_nil]; omega) hdl ?_
        intro v3 w10 hown3 hgr3
        replace hd := deck_grown hd hgr3 (fun q e => Nat.lt_of_succ_le (hown.lt q e).1)
        have hB3 := hB.grown hgr3 hB.size (fun q e => Nat.le_of_succ_le (hown.lt q e).1)
        clear hown hB hgr3 hq8 k6 k66 hdl hne6 hgd6 hbd6
        go_wp2
        go_roundw
        case rel =>
          refine ⟨m, _, _, by go_num, by omega, ?_, hown3, HWF.out ⟨g.k, g.a, 0, g.s, g.d, g.f⟩ ?_ ?_, hd, hB3⟩
          · simp only [List.length_append, List.length_cons, List.length_nil]; omega
          · first | exact HGS.out | exact ⟨show (-9223372036854775808 : Int) ≤ 1 by omega, show (1 : Int) ≤ 9223372036854775807 by omega⟩
          · first | exact HGD.out | exact ⟨show (0 : Int) ≤ 1 by omega, show (1 : Int) ≤ 18446744073709551615 by omega⟩
        case measure => simp [intOf] <;> omega
      by_cases h1 : r = 1
      · subst h1
        have cc := k6.cell
        have ff := k6.frozen
        go_upto_region 14 with fail
        replace k6 := k6.set_ 3 (.int .i64 1)
        replace hown := own_setCell hown (p := ⟨G6, 3, none⟩) hne6 (.int .i64 1)
        replace hd := hd.far (p := ⟨G6, 3, none⟩) hgd6 (.int .i64 1)
        replace hB := hB.setCell (p := ⟨G6, 3, none⟩) hbd6 (.int .i64 1)
        replace k6 := k6.set_ 4 (.int .u64 1)
        replace hown := own_setCell hown (p := ⟨G6, 4, none⟩) hne6 (.int .u64 1)
        replace hd := hd.far (p := ⟨G6, 4, none⟩) hgd6 (.int .u64 1)
        replace hB := hB.setCell (p := ⟨G6, 4, none⟩) hbd6 (.int .u64 1)
        clear cc ff
        generalize World.setCell (World.setCell _ _ _) _ _ = w7 at *
        have k66 : Blk w7 G6 28 #[.int .i64 g.k, .int .i64 g.a, .int .i64 g.q, .int .i64 1, .int .u64 1, .int .i64 g.f] := k6
        refine wp_region_lit ?_
        iterate 1
          refine wpList_plain rfl (fun K hK => ?_)
          go_simp
          refine hK _ _ ?_
          clear hK K
        refine wpList_load_row rfl _ rfl rfl k66 Try.underlying28 rfl ginfo6 ?_
        iterate 1
          refine wpList_plain rfl (fun K hK => ?_)
          go_simp
          refine hK _ _ ?_
          clear hK K
        have hq8 := (Below.refl w7.heap.size w7).alloc (Nat.le_refl _) (Obj.cells #[.int .i64 g.k, .int .i64 g.a, .int .i64 g.q, .int .i64 1, .int .u64 1, .int .i64 g.f] 28)
        replace hown := own_grows hown hq8
        replace hd := hd.grows hq8
        replace hB := below_grows hB (Nat.le_refl _) hq8
        have hdl := hd.blk.lt
        refine wpList_append_gl rfl (.tmp 29) (.tmp 31) rfl (l := x) (m := [⟨g.k, g.a, g.q, 1, 1, g.f⟩]) rfl rfl hown (gls_lit w7 ⟨g.k, g.a, g.q, 1, 1, g.f⟩) (by simp only [List.length_cons, List.length_nil]; omega) hdl ?_
        intro v3 w10 hown3 hgr3
        replace hd := deck_grown hd hgr3 (fun q e => Nat.lt_of_succ_le (hown.lt q e).1)
        have hB3 := hB.grown hgr3 hB.size (fun q e => Nat.le_of_succ_le (hown.lt q e).1)
        clear hown hB hgr3 hq8 k6 k66 hdl hne6 hgd6 hbd6
        go_wp2
        go_roundw
        case rel =>
          refine ⟨m, _, _, by go_num, by omega, ?_, hown3, HWF.out ⟨g.k, g.a, g.q, 1, 1, g.f⟩ ?_ ?_, hd, hB3⟩
          · simp only [List.length_append, List.length_cons, List.length_nil]; omega
          · first | exact HGS.out | exact ⟨show (-9223372036854775808 : Int) ≤ 1 by omega, show (1 : Int) ≤ 9223372036854775807 by omega⟩
          · first | exact HGD.out | exact ⟨show (0 : Int) ≤ 1 by omega, show (1 : Int) ≤ 18446744073709551615 by omega⟩
        case measure => simp [intOf] <;> omega
      by_cases h2 : r = 2
      · subst h2
        have cc := k6.cell
        have ff := k6.frozen
        go_upto_region 14 with fail
        replace k6 := k6.set_ 5 (.int .i64 1099511627776)
        replace hown := own_setCell hown (p := ⟨G6, 5, none⟩) hne6 (.int .i64 1099511627776)
        replace hd := hd.far (p := ⟨G6, 5, none⟩) hgd6 (.int .i64 1099511627776)
        replace hB := hB.setCell (p := ⟨G6, 5, none⟩) hbd6 (.int .i64 1099511627776)
        clear cc ff
        generalize World.setCell _ _ _ = w7 at *
        have k66 : Blk w7 G6 28 #[.int .i64 g.k, .int .i64 g.a, .int .i64 g.q, .int .i64 g.s, .int .u64 g.d, .int .i64 1099511627776] := k6
        refine wp_region_lit ?_
        iterate 1
          refine wpList_plain rfl (fun K hK => ?_)
          go_simp
          refine hK _ _ ?_
          clear hK K
        refine wpList_load_row rfl _ rfl rfl k66 Try.underlying28 rfl ginfo6 ?_
        iterate 1
          refine wpList_plain rfl (fun K hK => ?_)
          go_simp
          refine hK _ _ ?_
          clear hK K
        have hq8 := (Below.refl w7.heap.size w7).alloc (Nat.le_refl _) (Obj.cells #[.int .i64 g.k, .int .i64 g.a, .int .i64 g.q, .int .i64 g.s, .int .u64 g.d, .int .i64 1099511627776] 28)
        replace hown := own_grows hown hq8
        replace hd := hd.grows hq8
        replace hB := below_grows hB (Nat.le_refl _) hq8
        have hdl := hd.blk.lt
        refine wpList_append_gl rfl (.tmp 29) (.tmp 31) rfl (l := x) (m := [⟨g.k, g.a, g.q, g.s, g.d, 1099511627776⟩]) rfl rfl hown (gls_lit w7 ⟨g.k, g.a, g.q, g.s, g.d, 1099511627776⟩) (by simp only [List.length_cons, List.length_nil]; omega) hdl ?_
        intro v3 w10 hown3 hgr3
        replace hd := deck_grown hd hgr3 (fun q e => Nat.lt_of_succ_le (hown.lt q e).1)
        have hB3 := hB.grown hgr3 hB.size (fun q e => Nat.le_of_succ_le (hown.lt q e).1)
        clear hown hB hgr3 hq8 k6 k66 hdl hne6 hgd6 hbd6
        go_wp2
        go_roundw
        case rel =>
          refine ⟨m, _, _, by go_num, by omega, ?_, hown3, HWF.out ⟨g.k, g.a, g.q, g.s, g.d, 1099511627776⟩ ?_ ?_, hd, hB3⟩
          · simp only [List.length_append, List.length_cons, List.length_nil]; omega
          · first | exact HGS.out | exact ⟨show (-9223372036854775808 : Int) ≤ 1 by omega, show (1 : Int) ≤ 9223372036854775807 by omega⟩
          · first | exact HGD.out | exact ⟨show (0 : Int) ≤ 1 by omega, show (1 : Int) ≤ 18446744073709551615 by omega⟩
        case measure => simp [intOf] <;> omega
      go_upto_region 14 with fail
      have k66 : Blk w6 G6 28 #[.int .i64 g.k, .int .i64 g.a, .int .i64 g.q, .int .i64 g.s, .int .u64 g.d, .int .i64 g.f] := k6
      refine wp_region_lit ?_
      iterate 1
        refine wpList_plain rfl (fun K hK => ?_)
        go_simp
        refine hK _ _ ?_
        clear hK K
      refine wpList_load_row rfl _ rfl rfl k66 Try.underlying28 rfl ginfo6 ?_
      iterate 1
        refine wpList_plain rfl (fun K hK => ?_)
        go_simp
        refine hK _ _ ?_
        clear hK K
      have hq8 := (Below.refl w6.heap.size w6).alloc (Nat.le_refl _) (Obj.cells #[.int .i64 g.k, .int .i64 g.a, .int .i64 g.q, .int .i64 g.s, .int .u64 g.d, .int .i64 g.f] 28)
      replace hown := own_grows hown hq8
      replace hd := hd.grows hq8
      replace hB := below_grows hB (Nat.le_refl _) hq8
      have hdl := hd.blk.lt
      refine wpList_append_gl rfl (.tmp 29) (.tmp 31) rfl (l := x) (m := [⟨g.k, g.a, g.q, g.s, g.d, g.f⟩]) rfl rfl hown (gls_lit w6 ⟨g.k, g.a, g.q, g.s, g.d, g.f⟩) (by simp only [List.length_cons, List.length_nil]; omega) hdl ?_
      intro v3 w10 hown3 hgr3
      replace hd := deck_grown hd hgr3 (fun q e => Nat.lt_of_succ_le (hown.lt q e).1)
      have hB3 := hB.grown hgr3 hB.size (fun q e => Nat.le_of_succ_le (hown.lt q e).1)
      clear hown hB hgr3 hq8 k6 k66 hdl hne6 hgd6 hbd6
      go_wp2
      go_roundw
      case rel =>
        refine ⟨m, _, _, by go_num, by omega, ?_, hown3, HWF.out ⟨g.k, g.a, g.q, g.s, g.d, g.f⟩ ?_ ?_, hd, hB3⟩
        · simp only [List.length_append, List.length_cons, List.length_nil]; omega
        · first | exact HGS.out | exact ⟨show (-9223372036854775808 : Int) ≤ 1 by omega, show (1 : Int) ≤ 9223372036854775807 by omega⟩
        · first | exact HGD.out | exact ⟨show (0 : Int) ≤ 1 by omega, show (1 : Int) ≤ 18446744073709551615 by omega⟩
      case measure => simp [intOf] <;> omega
end Go.Proofs.Ytbmoiokpkcaccaa
