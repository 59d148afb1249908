/-
  RecorderCounts, for every input: the law returns true, and each argument reads behind the call as it read before. No condition.
-/
import Derived.Test.YtbohbapheofpiaaRgK
import Derived.Test.YtbohbapheofpiaaRgL
import Derived.Test.YtbohbapheofpiaaRgM
import Derived.Test.YtbohbapheofpiaaSlice
namespace Go.Proofs.Ytbohbapheofpiaa
open Go.ChangeShapes Go.WideShapes Go.ChangeAt Go.RowKit
set_option maxRecDepth 100000
theorem few_any (A : Option Addr) (c : Nat) (l : List Int) (w : World) (hl : l.length ≤ 9223372036854775807) : Calls Try.prog 26 #[.slice A l.length c] w fun e w' => e = .returned (.bool (decide (l.length ≤ 200))) ∧ w = w' := by
  have e1 : decide ((l.length : Int) ≤ 200) = decide (l.length ≤ 200) := by rw [decide_eq_decide]; omega
  go_enter Try.func26, Try.ntmps26
  go_wp2
  all_goals (go_ret; refine ⟨ret_bool ?_, rfl⟩; simp_all)
theorem arr5 (c : Nat → Int) : ∃ ds : Array Value, ds.size = 5 ∧ ∀ j, j < 5 → ds[j]? = some (.int .i64 (c j)) := by
  refine ⟨((List.range 5).map fun i => Value.int .i64 (c i)).toArray, by simp, fun j hj => ?_⟩
  rw [List.getElem?_toArray, List.getElem?_map, List.getElem?_range hj]
  rfl
theorem part5 {c : Nat → Int} {ds : Array Value} (h5 : ds.size = 5) (g5 : ∀ j, j < 5 → ds[j]? = some (.int .i64 (c j))) (lim : Int) (v : Value) (fr : Int) (b : Nat → Int) (w1 : World) (G : Nat) (hb : Blk w1 G 28 (rcV lim v c fr b)) : ∀ j v, ds[j]? = some v → w1.cell? ((⟨G, 2, none⟩ : Addr).add j) = some v := by
  intro j u hj
  have hj2 : j < 5 := by
    have := (Array.getElem?_eq_some_iff.1 hj).1
    omega
  have ha : (⟨G, 2, none⟩ : Addr).add j = ⟨G, 2 + j, none⟩ := by
    unfold Addr.add
    split
    · simp_all
    · rfl
  rw [ha, hb.cell, rcV_c lim v c fr b j hj2, ← g5 j hj2, hj]
namespace RecorderCounts
set_option maxHeartbeats 16000000 in
theorem walk (A : Option Addr) (cp : Nat) (l : List Int) (lim : Int) (w : World) (hI : Ints w A l) (hl : l.length ≤ 9223372036854775807) :
    Calls Try.prog 6 #[.slice A l.length cp, .int .i64 lim] w fun e w' => e = .returned (.bool true) ∧ Below w.heap.size w w' := by
  have hB := Below.refl w.heap.size w
  go_enter Try.func6, Try.ntmps6
  go_wp2_with fail
  refine (sane_any _).mono ?_
  rintro e w2 ⟨rfl, hq⟩
  replace hB := below_grows hB (Nat.le_refl _) hq
  clear hq
  go_wp2_with fail
  refine (few_any A cp l _ hl).mono ?_
  rintro e w3 ⟨rfl, rfl⟩
  by_cases hfew : l.length ≤ 200
  rotate_left
  · have hf : decide (l.length ≤ 200) = false := by simpa using hfew
    simp only [hf]
    go_wp2
    go_ret
    exact ⟨rfl, hB⟩
  have hf : decide (l.length ≤ 200) = true := by simpa using hfew
  simp only [hf]
  clear hf hfew
  go_wp2_with fail
  refine (new_deck A cp l _ (hI.grows hB) hl).mono ?_
  rintro e w4 ⟨rfl, hd, hq⟩
  have hgd : w.heap.size ≤ w2.heap.size := hB.size
  replace hB := below_grows hB (Nat.le_refl _) hq
  clear hq hI
  generalize w2.heap.size = gd at *
  go_upto_region 6 with fail
  refine wp_region_lit ?_
  iterate 1
    refine wpList_plain rfl (fun K hK => ?_)
    go_simp
    refine hK _ _ ?_
    clear hK K
  refine wpList_plain rfl (fun K hK => ?_)
  go_simp
  refine (mod_any lim 6 _ (by omega) (by omega)).mono ?_
  rintro e w5 ⟨rfl, rfl⟩
  refine hK _ _ ?_
  clear hK K
  have hw6 : IntKind.i64.wrap (1 + lim % 6) = 1 + lim % 6 := IntWalk.i64_in _ (by omega)
  iterate 1
    refine wpList_plain rfl (fun K hK => ?_)
    go_simp
    refine hK _ _ ?_
    clear hK K
  refine wpList_plain rfl (fun K hK => ?_)
  go_simp
  refine (newR (1 + lim % 6) _).mono ?_
  rw [show newF (1 + lim % 6) = (⟨1 + lim % 6, [], fun _ => 0, 0, fun _ => 0⟩, 0) from if_pos (by omega)]
  rintro e WW ⟨⟨v, rfl, A1, c1, rfl, hA1⟩, hq⟩
  simp only [] at hA1 ⊢
  refine hK _ _ ?_
  clear hK K
  replace hd := hd.grows hq
  replace hB := below_grows hB (Nat.le_refl _) hq
  clear hq
  have hg6 : gd < WW.heap.size := hd.blk.lt
  iterate 3
    refine wpList_plain rfl (fun K hK => ?_)
    go_simp
    refine hK _ _ ?_
    clear hK K
  iterate 1
    refine wpList_plain rfl (fun K hK => ?_)
    go_simp
    refine hK _ _ ?_
    clear hK K
  have k6 := Blk.new WW 28 #[.int .i64 0, .slice none 0 0, .int .i64 0, .int .i64 0, .int .i64 0, .int .i64 0, .int .i64 0, .int .i64 0, .int .i64 0, .int .i64 0, .int .i64 0, .int .i64 0, .int .i64 0, .int .i64 0, .int .i64 0, .int .i64 0, .int .i64 0, .int .i64 0, .int .i64 0, .int .i64 0, .int .i64 0, .int .i64 0, .int .i64 0, .int .i64 0, .int .i64 0, .int .i64 0, .int .i64 0, .int .i64 0, .int .i64 0, .int .i64 0, .int .i64 0, .int .i64 0]
  have hgr : Grows WW ((WW.alloc (Obj.cells #[.int .i64 0, .slice none 0 0, .int .i64 0, .int .i64 0, .int .i64 0, .int .i64 0, .int .i64 0, .int .i64 0, .int .i64 0, .int .i64 0, .int .i64 0, .int .i64 0, .int .i64 0, .int .i64 0, .int .i64 0, .int .i64 0, .int .i64 0, .int .i64 0, .int .i64 0, .int .i64 0, .int .i64 0, .int .i64 0, .int .i64 0, .int .i64 0, .int .i64 0, .int .i64 0, .int .i64 0, .int .i64 0, .int .i64 0, .int .i64 0, .int .i64 0, .int .i64 0] 28)).setRow WW.heap.size (rcV (1 + lim % 6) (.slice A1 ([] : List Gl).length c1) (fun _ => 0) 0 (fun _ => 0))) := below_row ((Below.refl WW.heap.size WW).alloc (Nat.le_refl _) _) (Nat.le_refl _) _
  refine wpList_store_row (cs := (rcV (1 + lim % 6) (.slice A1 ([] : List Gl).length c1) (fun _ => 0) 0 (fun _ => 0))) rfl _ _ rfl rfl rfl rfl k6 (rcV_info _ _ _ _ _) rfl (rcV_one _ _ _ _ _ _ _) ?_
  replace k6 := k6.row (cs := (rcV (1 + lim % 6) (.slice A1 ([] : List Gl).length c1) (fun _ => 0) 0 (fun _ => 0)))
  replace hd := hd.grows hgr
  replace hA1 := hA1.grows hgr
  replace hB := below_grows hB (Nat.le_refl _) hgr
  clear hgr
  generalize World.setRow _ _ _ = w8 at *
  generalize WW.heap.size = G6 at *
  clear WW
  go_upto_region 7 with fail
  refine wp_region_lit ?_
  refine wpList_plain rfl (fun K hK => ?_)
  go_simp
  refine (newR 256 _).mono ?_
  rw [show newF (256) = (⟨256, [], fun _ => 0, 0, fun _ => 0⟩, 0) from if_pos (by omega)]
  rintro e WW ⟨⟨v, rfl, A2, c2, rfl, hA2⟩, hq⟩
  simp only [] at hA2 ⊢
  refine hK _ _ ?_
  clear hK K
  replace hA1 := hA1.grows hq
  replace hd := hd.grows hq
  replace k6 := k6.grows hq
  replace hB := below_grows hB (Nat.le_refl _) hq
  clear hq
  have hg8 : G6 < WW.heap.size := k6.lt
  iterate 3
    refine wpList_plain rfl (fun K hK => ?_)
    go_simp
    refine hK _ _ ?_
    clear hK K
  iterate 1
    refine wpList_plain rfl (fun K hK => ?_)
    go_simp
    refine hK _ _ ?_
    clear hK K
  have k8 := Blk.new WW 28 #[.int .i64 0, .slice none 0 0, .int .i64 0, .int .i64 0, .int .i64 0, .int .i64 0, .int .i64 0, .int .i64 0, .int .i64 0, .int .i64 0, .int .i64 0, .int .i64 0, .int .i64 0, .int .i64 0, .int .i64 0, .int .i64 0, .int .i64 0, .int .i64 0, .int .i64 0, .int .i64 0, .int .i64 0, .int .i64 0, .int .i64 0, .int .i64 0, .int .i64 0, .int .i64 0, .int .i64 0, .int .i64 0, .int .i64 0, .int .i64 0, .int .i64 0, .int .i64 0]
  have hgr : Grows WW ((WW.alloc (Obj.cells #[.int .i64 0, .slice none 0 0, .int .i64 0, .int .i64 0, .int .i64 0, .int .i64 0, .int .i64 0, .int .i64 0, .int .i64 0, .int .i64 0, .int .i64 0, .int .i64 0, .int .i64 0, .int .i64 0, .int .i64 0, .int .i64 0, .int .i64 0, .int .i64 0, .int .i64 0, .int .i64 0, .int .i64 0, .int .i64 0, .int .i64 0, .int .i64 0, .int .i64 0, .int .i64 0, .int .i64 0, .int .i64 0, .int .i64 0, .int .i64 0, .int .i64 0, .int .i64 0] 28)).setRow WW.heap.size (rcV 256 (.slice A2 ([] : List Gl).length c2) (fun _ => 0) 0 (fun _ => 0))) := below_row ((Below.refl WW.heap.size WW).alloc (Nat.le_refl _) _) (Nat.le_refl _) _
  refine wpList_store_row (cs := (rcV 256 (.slice A2 ([] : List Gl).length c2) (fun _ => 0) 0 (fun _ => 0))) rfl _ _ rfl rfl rfl rfl k8 (rcV_info _ _ _ _ _) rfl (rcV_one _ _ _ _ _ _ _) ?_
  replace k8 := k8.row (cs := (rcV 256 (.slice A2 ([] : List Gl).length c2) (fun _ => 0) 0 (fun _ => 0)))
  replace hA1 := hA1.grows hgr
  replace hd := hd.grows hgr
  replace k6 := k6.grows hgr
  replace hA2 := hA2.grows hgr
  replace hB := below_grows hB (Nat.le_refl _) hgr
  clear hgr
  generalize World.setRow _ _ _ = w8 at *
  generalize WW.heap.size = G8 at *
  clear WW
  go_upto_region 10 with fail
  go_upto_region 11 with fail
  go_loopw [10] (fun i wr => ∃ (n kk : Nat) (Ra Rb : Rec) (A1 : Option Addr) (c1 : Nat) (A2 : Option Addr) (c2 : Nat), i = .int .i64 n ∧ n ≤ 30 ∧ Pair n Ra Rb ∧ Below w.heap.size w wr ∧ Deck wr gd A cp l kk ∧ Blk wr G6 28 (rcV Ra.lim (.slice A1 Ra.l.length c1) Ra.c Ra.fr Ra.b) ∧ Blk wr G8 28 (rcV Rb.lim (.slice A2 Rb.l.length c2) Rb.c Rb.fr Rb.b) ∧ Gls wr A1 Ra.l ∧ Gls wr A2 Rb.l) (fun i _ => 30 - (intOf i).toNat)
  case atStart => exact ⟨0, 0, ⟨1 + lim % 6, [], fun _ => 0, 0, fun _ => 0⟩, ⟨256, [], fun _ => 0, 0, fun _ => 0⟩, A1, c1, A2, c2, rfl, by omega, pair_new _ (by omega), hB, hd, k6, k8, hA1, hA2⟩
  case round =>
    clear hB hd k6 k8 hA1 hA2
    obtain ⟨n, kk, Ra, Rb, A1, c1, A2, c2, rfl, hn, hP, hB, hd, k6, k8, hA1, hA2⟩ := hrel
    go_wp2_with fail
    refine (left_any gd A cp l kk _ hd).mono ?_
    rintro e w7 ⟨rfl, hq⟩
    replace hd := hd.grows hq
    replace k6 := k6.grows hq
    replace k8 := k8.grows hq
    replace hA1 := hA1.grows hq
    replace hA2 := hA2.grows hq
    replace hB := below_grows hB (Nat.le_refl _) hq
    clear hq
    by_cases h1 : kk < l.length
    rotate_left
    · have h1f : decide (kk < l.length) = false := by simpa using h1
      simp only [h1f]
      go_wp2
      go_ret
      exact ⟨rfl, hB⟩
    have h1t : decide (kk < l.length) = true := by simpa using h1
    simp only [h1t]
    clear h1t h1
    by_cases h2 : n < 30
    rotate_left
    · have h2f : decide ((n : Int) < 30) = false := decide_eq_false (by omega)
      go_wp2
      go_ret
      exact ⟨rfl, hB⟩
    have h2t : decide ((n : Int) < 30) = true := decide_eq_true (by omega)
    go_upto_region 13 with fail
    clear h2t
    refine wp_region_lit ?_
    iterate 1
      refine wpList_plain rfl (fun K hK => ?_)
      go_simp
      refine hK _ _ ?_
      clear hK K
    refine wpList_plain rfl (fun K hK => ?_)
    go_simp
    refine (mglitch_any gd A cp l kk _ hd).mono ?_
    rintro e W3 ⟨rfl, hd2, hq⟩
    refine hK _ _ ?_
    clear hK K
    replace hA1 := gls_grown hA1 hq (gls_ne_small hA1 hd.blk (by simp))
    replace hA2 := gls_grown hA2 hq (gls_ne_small hA2 hd.blk (by simp))
    replace k6 := k6.grown hq (by intro e; injection e with e; omega)
    replace k8 := k8.grown hq (by intro e; injection e with e; omega)
    replace hB := hB.grown hq hB.size (fun q hq' => by injection hq' with hq'; omega)
    have hd := hd2
    clear hq hd2
    have hgok := glitchV_ok l kk
    generalize glitchV l kk = g at *
    have hg11 : G8 < W3.heap.size := k8.lt
    iterate 1
      refine wpList_plain rfl (fun K hK => ?_)
      go_simp
      refine hK _ _ ?_
      clear hK K
    have k11 := Blk.new W3 43 #[.int .i64 0, .int .i64 0, .int .i64 0, .int .i64 0, .int .u64 0, .int .i64 0]
    have hgr : Grows W3 ((W3.alloc (Obj.cells #[.int .i64 0, .int .i64 0, .int .i64 0, .int .i64 0, .int .u64 0, .int .i64 0] 43)).setRow W3.heap.size g.cs) := below_row ((Below.refl W3.heap.size W3).alloc (Nat.le_refl _) _) (Nat.le_refl _) _
    refine wpList_store_row (cs := g.cs) rfl _ _ rfl rfl rfl rfl k11 ginfo6 rfl (gcs_one _) ?_
    replace k11 := k11.row (cs := g.cs)
    replace k6 := k6.grows hgr
    replace k8 := k8.grows hgr
    replace hd := hd.grows hgr
    replace hA1 := hA1.grows hgr
    replace hA2 := hA2.grows hgr
    replace hB := below_grows hB (Nat.le_refl _) hgr
    clear hgr
    generalize World.setRow _ _ _ = W4 at *
    generalize W3.heap.size = G11 at *
    clear W3
    obtain ⟨ea, eb, hP2⟩ := pair_note hP h2 hgok
    obtain ⟨-, -, -, hlb, k0, hk0, -⟩ := pair_says hP
    obtain ⟨Na, hNa⟩ : ∃ Na, noteF Ra g = (Na, 0) := ⟨(noteF Ra g).1, Prod.ext rfl ea⟩
    obtain ⟨Nb, hNb⟩ : ∃ Nb, noteF Rb g = (Nb, 0) := ⟨(noteF Rb g).1, Prod.ext rfl eb⟩
    rw [hNa, hNb] at hP2
    simp only [] at hP2
    have hCa : ∀ (w1 : World), Gls w1 A1 Ra.l → Calls Try.prog 21 #[.agg (rcV Ra.lim (.slice A1 Ra.l.length c1) Ra.c Ra.fr Ra.b), .agg g.cs] w1 fun e w' => (∃ v', e = .returned (.tuple #[v', .int .i64 0]) ∧ RecC w' Na v') ∧ Grows w1 w' := fun w1 h => by
      have := noteRc Ra _ g w1 ⟨A1, c1, rfl, h⟩ (by omega)
      rw [hNa] at this
      exact this
    have hCb : ∀ (w1 : World), Gls w1 A2 Rb.l → Calls Try.prog 21 #[.agg (rcV Rb.lim (.slice A2 Rb.l.length c2) Rb.c Rb.fr Rb.b), .agg g.cs] w1 fun e w' => (∃ v', e = .returned (.tuple #[v', .int .i64 0]) ∧ RecC w' Nb v') ∧ Grows w1 w' := fun w1 h => by
      have := noteRc Rb _ g w1 ⟨A2, c2, rfl, h⟩ (by omega)
      rw [hNb] at this
      exact this
    clear ea eb hNa hNb hP hgok hk0 hlb
    go_upto_region 14 with fail
    refine wp_region_lit ?_
    refine wpList_load_row rfl _ rfl rfl k6 Try.underlying28 rfl (rcV_info _ _ _ _ _) ?_
    refine wpList_load_row rfl _ rfl rfl k11 Try.underlying43 rfl ginfo6 ?_
    refine wpList_plain rfl (fun K hK => ?_)
    go_simp
    refine (hCa _ hA1).mono ?_
    rintro e W3 ⟨⟨v', rfl, A5, c5, rfl, hc5, hA5⟩, hq⟩
    refine hK _ _ ?_
    clear hK K
    replace k6 := k6.grows hq
    replace k8 := k8.grows hq
    replace k11 := k11.grows hq
    replace hd := hd.grows hq
    replace hB := below_grows hB (Nat.le_refl _) hq
    replace hA2 := hA2.grows hq
    clear hq
    iterate 3
      refine wpList_plain rfl (fun K hK => ?_)
      go_simp
      refine hK _ _ ?_
      clear hK K
    refine wpList_store_row (cs := (rcV Na.lim (.slice A5 Na.l.length c5) Na.c Na.fr Na.b)) rfl _ _ rfl rfl rfl rfl k6 (rcV_info _ _ _ _ _) rfl (rcV_one _ _ _ _ _ _ _) ?_
    replace hA2 := gls_row hA2 (gls_ne_row hA2 k6) (rcV Na.lim (.slice A5 Na.l.length c5) Na.c Na.fr Na.b)
    replace hA5 := gls_row hA5 (gls_ne_row hA5 k6) (rcV Na.lim (.slice A5 Na.l.length c5) Na.c Na.fr Na.b)
    replace k6 := k6.row (cs := (rcV Na.lim (.slice A5 Na.l.length c5) Na.c Na.fr Na.b))
    replace k8 := k8.row_far (g := G6) (cs' := (rcV Na.lim (.slice A5 Na.l.length c5) Na.c Na.fr Na.b)) (by omega)
    replace k11 := k11.row_far (g := G6) (cs' := (rcV Na.lim (.slice A5 Na.l.length c5) Na.c Na.fr Na.b)) (by omega)
    replace hd := deck_row hd (g' := G6) (by omega) (rcV Na.lim (.slice A5 Na.l.length c5) Na.c Na.fr Na.b)
    replace hB := below_row hB (g := G6) (by omega) (rcV Na.lim (.slice A5 Na.l.length c5) Na.c Na.fr Na.b)
    generalize World.setRow _ _ _ = W4 at *
    clear W3
    clear hA1 hCa hc5
    go_upto_region 15 with fail
    refine wp_region_lit ?_
    refine wpList_load_row rfl _ rfl rfl k8 Try.underlying28 rfl (rcV_info _ _ _ _ _) ?_
    refine wpList_load_row rfl _ rfl rfl k11 Try.underlying43 rfl ginfo6 ?_
    refine wpList_plain rfl (fun K hK => ?_)
    go_simp
    refine (hCb _ hA2).mono ?_
    rintro e W3 ⟨⟨v', rfl, A6, c6, rfl, hc6, hA6⟩, hq⟩
    refine hK _ _ ?_
    clear hK K
    replace k6 := k6.grows hq
    replace k8 := k8.grows hq
    replace k11 := k11.grows hq
    replace hd := hd.grows hq
    replace hB := below_grows hB (Nat.le_refl _) hq
    replace hA5 := hA5.grows hq
    clear hq
    iterate 3
      refine wpList_plain rfl (fun K hK => ?_)
      go_simp
      refine hK _ _ ?_
      clear hK K
    refine wpList_store_row (cs := (rcV Nb.lim (.slice A6 Nb.l.length c6) Nb.c Nb.fr Nb.b)) rfl _ _ rfl rfl rfl rfl k8 (rcV_info _ _ _ _ _) rfl (rcV_one _ _ _ _ _ _ _) ?_
    replace hA5 := gls_row hA5 (gls_ne_row hA5 k8) (rcV Nb.lim (.slice A6 Nb.l.length c6) Nb.c Nb.fr Nb.b)
    replace hA6 := gls_row hA6 (gls_ne_row hA6 k8) (rcV Nb.lim (.slice A6 Nb.l.length c6) Nb.c Nb.fr Nb.b)
    replace k8 := k8.row (cs := (rcV Nb.lim (.slice A6 Nb.l.length c6) Nb.c Nb.fr Nb.b))
    replace k6 := k6.row_far (g := G8) (cs' := (rcV Nb.lim (.slice A6 Nb.l.length c6) Nb.c Nb.fr Nb.b)) (by omega)
    replace k11 := k11.row_far (g := G8) (cs' := (rcV Nb.lim (.slice A6 Nb.l.length c6) Nb.c Nb.fr Nb.b)) (by omega)
    replace hd := deck_row hd (g' := G8) (by omega) (rcV Nb.lim (.slice A6 Nb.l.length c6) Nb.c Nb.fr Nb.b)
    replace hB := below_row hB (g := G8) (by omega) (rcV Nb.lim (.slice A6 Nb.l.length c6) Nb.c Nb.fr Nb.b)
    generalize World.setRow _ _ _ = W4 at *
    clear W3
    clear hA2 hCb k11
    obtain ⟨hle, hc, hf, hlen, k, hk, hdrop⟩ := pair_says hP2
    have k8b : Blk W4 G8 28 (rcV Nb.lim (.slice A6 Nb.l.length c6) Na.c Na.fr Nb.b) := by rw [hc, hf]; exact k8
    clear hc hf
    have hsub : IntKind.i64.wrap ((Nb.l.length : Int) - (Na.l.length : Int)) = (k : Int) := by rw [IntWalk.i64_in _ (by omega)]; omega
    have hkl : k ≤ Nb.l.length := by omega
    have hlk : Nb.l.length - k = Na.l.length := by omega
    have hna : Na.l.length ≤ 31 := by omega
    have hgt : decide (Na.lim < (Na.l.length : Int)) = false := decide_eq_false (by omega)
    have hk0 : decide ((k : Int) < 0) = false := decide_eq_false (by omega)
    have HLK := Lib.hid hlk
    have HD := Lib.hid hdrop
    clear hlk hk hdrop
    have x6 := k6.cell 1
    rw [rcV_1] at x6
    have x8 := k8.cell 1
    rw [rcV_1] at x8
    go_upto_region 17 with fail
    clear x6 x8 hsub
    obtain ⟨ds, hsds, gds⟩ := arr5 Na.c
    have hids : (Try.prog.info? 25).map (·.size) = some ds.size := by rw [hsds]; kernel_rfl
    have hqds : ∀ w1, (binOp .neq 25 (.agg ds) (.agg ds)).run Try.prog w1 = .ok (.bool false) w1 := fun w1 => neq_arr w1 ds Na.c Try.underlying25 Try.underlying3 (by first | exact Try.info3 | rfl) rfl (by kernel_rfl) gds
    obtain ⟨S, HI, HO⟩ : ∃ S : Ran → (Nat → Value) → World → Prop, Hid (∀ L vs w', (Grows W4 w' ∧ KnS [some (.int .i64 0), some (.bool false), some (.bool false), some (.int .i64 0), some (.bool false), some (.bool false), some (.bool false), some (.pointer (some ⟨G6, 2, none⟩)), some (.agg ds), some (.pointer (some ⟨G8, 2, none⟩)), some (.agg ds), some (.bool false), some (.bool false), some (.bool false), some (.pointer (some ⟨G6, 7, none⟩)), some (.int .i64 Na.fr), some (.pointer (some ⟨G8, 7, none⟩)), some (.int .i64 Na.fr), some (.bool false), some (.bool false), some (.bool false), some (.pointer (some ⟨G6, 1, none⟩)), some (.slice A5 Na.l.length c5), some (.int .i64 Na.l.length), some (.pointer (some ⟨G6, 0, none⟩)), some (.int .i64 Na.lim), some (.bool false), some (.bool false), some (.bool false), some (.int .i64 k), some (.bool false), some (.bool false), some (.bool false), some (.pointer (some ⟨G6, 1, none⟩)), some (.slice A5 Na.l.length c5), some (.pointer (some ⟨G8, 1, none⟩)), some (.slice A6 Nb.l.length c6), some (.int .i64 k), some (.slice (if c6 = k then A6 else A6.map (fun x => x.add (k * 6))) (Nb.l.length - k) (c6 - k)), some (.bool true), some (.bool false), some (.bool false)] L vs) → S L vs w') ∧ Hid (∀ L vs w', S L vs w' → (Grows W4 w' ∧ KnS [some (.int .i64 0), some (.bool false), some (.bool false), some (.int .i64 0), some (.bool false), some (.bool false), some (.bool false), some (.pointer (some ⟨G6, 2, none⟩)), some (.agg ds), some (.pointer (some ⟨G8, 2, none⟩)), some (.agg ds), some (.bool false), some (.bool false), some (.bool false), some (.pointer (some ⟨G6, 7, none⟩)), some (.int .i64 Na.fr), some (.pointer (some ⟨G8, 7, none⟩)), some (.int .i64 Na.fr), some (.bool false), some (.bool false), some (.bool false), some (.pointer (some ⟨G6, 1, none⟩)), some (.slice A5 Na.l.length c5), some (.int .i64 Na.l.length), some (.pointer (some ⟨G6, 0, none⟩)), some (.int .i64 Na.lim), some (.bool false), some (.bool false), some (.bool false), some (.int .i64 k), some (.bool false), some (.bool false), some (.bool false), some (.pointer (some ⟨G6, 1, none⟩)), some (.slice A5 Na.l.length c5), some (.pointer (some ⟨G8, 1, none⟩)), some (.slice A6 Nb.l.length c6), some (.int .i64 k), some (.slice (if c6 = k then A6 else A6.map (fun x => x.add (k * 6))) (Nb.l.length - k) (c6 - k)), some (.bool true), some (.bool false), some (.bool false)] L vs)) := ⟨fun L vs w' => Grows W4 w' ∧ KnS [some (.int .i64 0), some (.bool false), some (.bool false), some (.int .i64 0), some (.bool false), some (.bool false), some (.bool false), some (.pointer (some ⟨G6, 2, none⟩)), some (.agg ds), some (.pointer (some ⟨G8, 2, none⟩)), some (.agg ds), some (.bool false), some (.bool false), some (.bool false), some (.pointer (some ⟨G6, 7, none⟩)), some (.int .i64 Na.fr), some (.pointer (some ⟨G8, 7, none⟩)), some (.int .i64 Na.fr), some (.bool false), some (.bool false), some (.bool false), some (.pointer (some ⟨G6, 1, none⟩)), some (.slice A5 Na.l.length c5), some (.int .i64 Na.l.length), some (.pointer (some ⟨G6, 0, none⟩)), some (.int .i64 Na.lim), some (.bool false), some (.bool false), some (.bool false), some (.int .i64 k), some (.bool false), some (.bool false), some (.bool false), some (.pointer (some ⟨G6, 1, none⟩)), some (.slice A5 Na.l.length c5), some (.pointer (some ⟨G8, 1, none⟩)), some (.slice A6 Nb.l.length c6), some (.int .i64 k), some (.slice (if c6 = k then A6 else A6.map (fun x => x.add (k * 6))) (Nb.l.length - k) (c6 - k)), some (.bool true), some (.bool false), some (.bool false)] L vs, fun _ _ _ h => h, fun _ _ _ h => h⟩
    refine wp_region_genW S 108 (by kernel_rfl) (by kernel_rfl) rfl ?_ ?_
    · exact HI.out _ _ _ ⟨Grows.drew' _, kn_none _ _⟩
    refine gen_cons (A' := ?_) (fun vs L w1 hL hw1 => ?_) ?_ ?_
    rotate_left 1
    · obtain ⟨q0, q1⟩ := HO.out _ _ _ hw1
      refine gen_plain rfl ?_
      go_simp
      exact gr_val (HI.out _ _ _ ⟨q0, kn_known q1 rfl⟩)
    · intro vs
      simp only [Act.put, List.setIfInBounds_toArray, List.set_cons_succ, List.set_cons_zero]
      rfl
    refine gen_cons (A' := ?_) (fun vs L w1 hL hw1 => ?_) ?_ ?_
    rotate_left 1
    · obtain ⟨q0, q1⟩ := HO.out _ _ _ hw1
      refine gen_plain rfl ?_
      have l0 : L 0 = true := hL.need 0 (by kernel_rfl)
      have e0 := q1 0 _ rfl l0
      simp only [e0]
      go_simp
      exact gr_val (HI.out _ _ _ ⟨q0, kn_known q1 rfl⟩)
    · intro vs
      simp only [Act.put, List.setIfInBounds_toArray, List.set_cons_succ, List.set_cons_zero]
      rfl
    refine gen_cons (A' := ?_) (fun vs L w1 hL hw1 => ?_) ?_ ?_
    rotate_left 1
    · obtain ⟨q0, q1⟩ := HO.out _ _ _ hw1
      refine gen_plain rfl ?_
      have l1 : L 1 = true := hL.need 1 (by kernel_rfl)
      have e1 := q1 1 _ rfl l1
      simp only [e1]
      go_simp
      exact gr_val (HI.out _ _ _ ⟨q0, kn_known q1 rfl⟩)
    · intro vs
      simp only [Act.put, List.setIfInBounds_toArray, List.set_cons_succ, List.set_cons_zero]
      rfl
    refine gen_cons (A' := ?_) (fun vs L w1 hL hw1 => ?_) ?_ ?_
    rotate_left 1
    · obtain ⟨q0, q1⟩ := HO.out _ _ _ hw1
      have l2 : L 2 = true := hL.need 2 (by kernel_rfl)
      have e2 := q1 2 _ rfl l2
      refine gen_yes ?_ ?_
      · simp only [e2]
        rfl
      go_simp
      exact gr_val (HI.out _ _ _ ⟨q0, kn_known q1 rfl⟩)
    · intro vs
      simp only [Act.put, List.setIfInBounds_toArray, List.set_cons_succ, List.set_cons_zero]
      rfl
    refine gen_cons (A' := ?_) (fun vs L w1 hL hw1 => ?_) ?_ ?_
    rotate_left 1
    · obtain ⟨q0, q1⟩ := HO.out _ _ _ hw1
      have l2 : L 2 = true := hL.need 2 (by kernel_rfl)
      have e2 := q1 2 _ rfl l2
      refine gen_yes ?_ ?_
      · simp only [e2]
        rfl
      have l3 : L 3 = true := hL.need 3 (by kernel_rfl)
      have e3 := q1 3 _ rfl l3
      simp only [e3]
      go_simp
      exact gr_val (HI.out _ _ _ ⟨q0, kn_known q1 rfl⟩)
    · intro vs
      simp only [Act.put, List.setIfInBounds_toArray, List.set_cons_succ, List.set_cons_zero]
      rfl
    refine gen_cons (A' := ?_) (fun vs L w1 hL hw1 => ?_) ?_ ?_
    rotate_left 1
    · obtain ⟨q0, q1⟩ := HO.out _ _ _ hw1
      refine gen_plain rfl ?_
      have l2 : L 2 = true := hL.need 2 (by kernel_rfl)
      have e2 := q1 2 _ rfl l2
      have l4 : L 4 = true := hL.need 4 (by kernel_rfl)
      have e4 := q1 4 _ rfl l4
      simp only [e2, e4]
      go_simp
      exact gr_val (HI.out _ _ _ ⟨q0, kn_known q1 rfl⟩)
    · intro vs
      simp only [Act.put, List.setIfInBounds_toArray, List.set_cons_succ, List.set_cons_zero]
      rfl
    refine gen_cons (A' := ?_) (fun vs L w1 hL hw1 => ?_) ?_ ?_
    rotate_left 1
    · obtain ⟨q0, q1⟩ := HO.out _ _ _ hw1
      refine gen_plain rfl ?_
      have l5 : L 5 = true := hL.need 5 (by kernel_rfl)
      have e5 := q1 5 _ rfl l5
      simp only [e5]
      go_simp
      exact gr_val (HI.out _ _ _ ⟨q0, kn_known q1 rfl⟩)
    · intro vs
      simp only [Act.put, List.setIfInBounds_toArray, List.set_cons_succ, List.set_cons_zero]
      rfl
    refine gen_cons (A' := ?_) (fun vs L w1 hL hw1 => ?_) ?_ ?_
    rotate_left 1
    · obtain ⟨q0, q1⟩ := HO.out _ _ _ hw1
      have l6 : L 6 = true := hL.need 6 (by kernel_rfl)
      have e6 := q1 6 _ rfl l6
      refine gen_yes ?_ ?_
      · simp only [e6]
        rfl
      go_simp
      exact gr_val (HI.out _ _ _ ⟨q0, kn_known q1 rfl⟩)
    · intro vs
      simp only [Act.put, List.setIfInBounds_toArray, List.set_cons_succ, List.set_cons_zero]
      rfl
    refine gen_cons (A' := ?_) (fun vs L w1 hL hw1 => ?_) ?_ ?_
    rotate_left 1
    · obtain ⟨q0, q1⟩ := HO.out _ _ _ hw1
      have l6 : L 6 = true := hL.need 6 (by kernel_rfl)
      have e6 := q1 6 _ rfl l6
      refine gen_yes ?_ ?_
      · simp only [e6]
        rfl
      have l7 : L 7 = true := hL.need 7 (by kernel_rfl)
      have e7 := q1 7 _ rfl l7
      exact gr_ran (ran_part _ rfl e7 (part5 hsds gds _ _ _ _ w1 _ (k6.grows q0)) Try.underlying25 rfl hids) (HI.out _ _ _ ⟨q0, kn_known q1 rfl⟩)
    · intro vs
      simp only [Act.put, List.setIfInBounds_toArray, List.set_cons_succ, List.set_cons_zero]
      rfl
    refine gen_cons (A' := ?_) (fun vs L w1 hL hw1 => ?_) ?_ ?_
    rotate_left 1
    · obtain ⟨q0, q1⟩ := HO.out _ _ _ hw1
      have l6 : L 6 = true := hL.need 6 (by kernel_rfl)
      have e6 := q1 6 _ rfl l6
      refine gen_yes ?_ ?_
      · simp only [e6]
        rfl
      go_simp
      exact gr_val (HI.out _ _ _ ⟨q0, kn_known q1 rfl⟩)
    · intro vs
      simp only [Act.put, List.setIfInBounds_toArray, List.set_cons_succ, List.set_cons_zero]
      rfl
    refine gen_cons (A' := ?_) (fun vs L w1 hL hw1 => ?_) ?_ ?_
    rotate_left 1
    · obtain ⟨q0, q1⟩ := HO.out _ _ _ hw1
      have l6 : L 6 = true := hL.need 6 (by kernel_rfl)
      have e6 := q1 6 _ rfl l6
      refine gen_yes ?_ ?_
      · simp only [e6]
        rfl
      have l9 : L 9 = true := hL.need 9 (by kernel_rfl)
      have e9 := q1 9 _ rfl l9
      exact gr_ran (ran_part _ rfl e9 (part5 hsds gds _ _ _ _ w1 _ (k8b.grows q0)) Try.underlying25 rfl hids) (HI.out _ _ _ ⟨q0, kn_known q1 rfl⟩)
    · intro vs
      simp only [Act.put, List.setIfInBounds_toArray, List.set_cons_succ, List.set_cons_zero]
      rfl
    refine gen_cons (A' := ?_) (fun vs L w1 hL hw1 => ?_) ?_ ?_
    rotate_left 1
    · obtain ⟨q0, q1⟩ := HO.out _ _ _ hw1
      have l6 : L 6 = true := hL.need 6 (by kernel_rfl)
      have e6 := q1 6 _ rfl l6
      refine gen_yes ?_ ?_
      · simp only [e6]
        rfl
      have l8 : L 8 = true := hL.need 8 (by kernel_rfl)
      have e8 := q1 8 _ rfl l8
      have l10 : L 10 = true := hL.need 10 (by kernel_rfl)
      have e10 := q1 10 _ rfl l10
      exact gr_ran (ran_bin (.tmp 74) (.tmp 76) rfl e8 e10 (by kernel_rfl) (hqds w1)) (HI.out _ _ _ ⟨q0, kn_known q1 rfl⟩)
    · intro vs
      simp only [Act.put, List.setIfInBounds_toArray, List.set_cons_succ, List.set_cons_zero]
      rfl
    refine gen_cons (A' := ?_) (fun vs L w1 hL hw1 => ?_) ?_ ?_
    rotate_left 1
    · obtain ⟨q0, q1⟩ := HO.out _ _ _ hw1
      refine gen_plain rfl ?_
      have l6 : L 6 = true := hL.need 6 (by kernel_rfl)
      have e6 := q1 6 _ rfl l6
      have l11 : L 11 = true := hL.need 11 (by kernel_rfl)
      have e11 := q1 11 _ rfl l11
      simp only [e6, e11]
      go_simp
      exact gr_val (HI.out _ _ _ ⟨q0, kn_known q1 rfl⟩)
    · intro vs
      simp only [Act.put, List.setIfInBounds_toArray, List.set_cons_succ, List.set_cons_zero]
      rfl
    refine gen_cons (A' := ?_) (fun vs L w1 hL hw1 => ?_) ?_ ?_
    rotate_left 1
    · obtain ⟨q0, q1⟩ := HO.out _ _ _ hw1
      refine gen_plain rfl ?_
      have l12 : L 12 = true := hL.need 12 (by kernel_rfl)
      have e12 := q1 12 _ rfl l12
      simp only [e12]
      go_simp
      exact gr_val (HI.out _ _ _ ⟨q0, kn_known q1 rfl⟩)
    · intro vs
      simp only [Act.put, List.setIfInBounds_toArray, List.set_cons_succ, List.set_cons_zero]
      rfl
    refine gen_cons (A' := ?_) (fun vs L w1 hL hw1 => ?_) ?_ ?_
    rotate_left 1
    · obtain ⟨q0, q1⟩ := HO.out _ _ _ hw1
      have l13 : L 13 = true := hL.need 13 (by kernel_rfl)
      have e13 := q1 13 _ rfl l13
      refine gen_yes ?_ ?_
      · simp only [e13]
        rfl
      go_simp
      exact gr_val (HI.out _ _ _ ⟨q0, kn_known q1 rfl⟩)
    · intro vs
      simp only [Act.put, List.setIfInBounds_toArray, List.set_cons_succ, List.set_cons_zero]
      rfl
    refine gen_cons (A' := ?_) (fun vs L w1 hL hw1 => ?_) ?_ ?_
    rotate_left 1
    · obtain ⟨q0, q1⟩ := HO.out _ _ _ hw1
      have l13 : L 13 = true := hL.need 13 (by kernel_rfl)
      have e13 := q1 13 _ rfl l13
      refine gen_yes ?_ ?_
      · simp only [e13]
        rfl
      have l14 : L 14 = true := hL.need 14 (by kernel_rfl)
      have e14 := q1 14 _ rfl l14
      have x := (k6.grows q0).cell 7
      rw [rcV_7] at x
      simp only [e14]
      go_simp
      exact gr_val (HI.out _ _ _ ⟨q0, kn_known q1 rfl⟩)
    · intro vs
      simp only [Act.put, List.setIfInBounds_toArray, List.set_cons_succ, List.set_cons_zero]
      rfl
    refine gen_cons (A' := ?_) (fun vs L w1 hL hw1 => ?_) ?_ ?_
    rotate_left 1
    · obtain ⟨q0, q1⟩ := HO.out _ _ _ hw1
      have l13 : L 13 = true := hL.need 13 (by kernel_rfl)
      have e13 := q1 13 _ rfl l13
      refine gen_yes ?_ ?_
      · simp only [e13]
        rfl
      go_simp
      exact gr_val (HI.out _ _ _ ⟨q0, kn_known q1 rfl⟩)
    · intro vs
      simp only [Act.put, List.setIfInBounds_toArray, List.set_cons_succ, List.set_cons_zero]
      rfl
    refine gen_cons (A' := ?_) (fun vs L w1 hL hw1 => ?_) ?_ ?_
    rotate_left 1
    · obtain ⟨q0, q1⟩ := HO.out _ _ _ hw1
      have l13 : L 13 = true := hL.need 13 (by kernel_rfl)
      have e13 := q1 13 _ rfl l13
      refine gen_yes ?_ ?_
      · simp only [e13]
        rfl
      have l16 : L 16 = true := hL.need 16 (by kernel_rfl)
      have e16 := q1 16 _ rfl l16
      have x := (k8b.grows q0).cell 7
      rw [rcV_7] at x
      simp only [e16]
      go_simp
      exact gr_val (HI.out _ _ _ ⟨q0, kn_known q1 rfl⟩)
    · intro vs
      simp only [Act.put, List.setIfInBounds_toArray, List.set_cons_succ, List.set_cons_zero]
      rfl
    refine gen_cons (A' := ?_) (fun vs L w1 hL hw1 => ?_) ?_ ?_
    rotate_left 1
    · obtain ⟨q0, q1⟩ := HO.out _ _ _ hw1
      have l13 : L 13 = true := hL.need 13 (by kernel_rfl)
      have e13 := q1 13 _ rfl l13
      refine gen_yes ?_ ?_
      · simp only [e13]
        rfl
      have l15 : L 15 = true := hL.need 15 (by kernel_rfl)
      have e15 := q1 15 _ rfl l15
      have l17 : L 17 = true := hL.need 17 (by kernel_rfl)
      have e17 := q1 17 _ rfl l17
      simp only [e15, e17]
      go_simp
      exact gr_val (HI.out _ _ _ ⟨q0, kn_known q1 rfl⟩)
    · intro vs
      simp only [Act.put, List.setIfInBounds_toArray, List.set_cons_succ, List.set_cons_zero]
      rfl
    refine gen_cons (A' := ?_) (fun vs L w1 hL hw1 => ?_) ?_ ?_
    rotate_left 1
    · obtain ⟨q0, q1⟩ := HO.out _ _ _ hw1
      refine gen_plain rfl ?_
      have l13 : L 13 = true := hL.need 13 (by kernel_rfl)
      have e13 := q1 13 _ rfl l13
      have l18 : L 18 = true := hL.need 18 (by kernel_rfl)
      have e18 := q1 18 _ rfl l18
      simp only [e13, e18]
      go_simp
      exact gr_val (HI.out _ _ _ ⟨q0, kn_known q1 rfl⟩)
    · intro vs
      simp only [Act.put, List.setIfInBounds_toArray, List.set_cons_succ, List.set_cons_zero]
      rfl
    refine gen_cons (A' := ?_) (fun vs L w1 hL hw1 => ?_) ?_ ?_
    rotate_left 1
    · obtain ⟨q0, q1⟩ := HO.out _ _ _ hw1
      refine gen_plain rfl ?_
      have l19 : L 19 = true := hL.need 19 (by kernel_rfl)
      have e19 := q1 19 _ rfl l19
      simp only [e19]
      go_simp
      exact gr_val (HI.out _ _ _ ⟨q0, kn_known q1 rfl⟩)
    · intro vs
      simp only [Act.put, List.setIfInBounds_toArray, List.set_cons_succ, List.set_cons_zero]
      rfl
    refine gen_cons (A' := ?_) (fun vs L w1 hL hw1 => ?_) ?_ ?_
    rotate_left 1
    · obtain ⟨q0, q1⟩ := HO.out _ _ _ hw1
      have l20 : L 20 = true := hL.need 20 (by kernel_rfl)
      have e20 := q1 20 _ rfl l20
      refine gen_yes ?_ ?_
      · simp only [e20]
        rfl
      go_simp
      exact gr_val (HI.out _ _ _ ⟨q0, kn_known q1 rfl⟩)
    · intro vs
      simp only [Act.put, List.setIfInBounds_toArray, List.set_cons_succ, List.set_cons_zero]
      rfl
    refine gen_cons (A' := ?_) (fun vs L w1 hL hw1 => ?_) ?_ ?_
    rotate_left 1
    · obtain ⟨q0, q1⟩ := HO.out _ _ _ hw1
      have l20 : L 20 = true := hL.need 20 (by kernel_rfl)
      have e20 := q1 20 _ rfl l20
      refine gen_yes ?_ ?_
      · simp only [e20]
        rfl
      have l21 : L 21 = true := hL.need 21 (by kernel_rfl)
      have e21 := q1 21 _ rfl l21
      have x := (k6.grows q0).cell 1
      rw [rcV_1] at x
      simp only [e21]
      go_simp
      exact gr_val (HI.out _ _ _ ⟨q0, kn_known q1 rfl⟩)
    · intro vs
      simp only [Act.put, List.setIfInBounds_toArray, List.set_cons_succ, List.set_cons_zero]
      rfl
    refine gen_cons (A' := ?_) (fun vs L w1 hL hw1 => ?_) ?_ ?_
    rotate_left 1
    · obtain ⟨q0, q1⟩ := HO.out _ _ _ hw1
      have l20 : L 20 = true := hL.need 20 (by kernel_rfl)
      have e20 := q1 20 _ rfl l20
      refine gen_yes ?_ ?_
      · simp only [e20]
        rfl
      have l22 : L 22 = true := hL.need 22 (by kernel_rfl)
      have e22 := q1 22 _ rfl l22
      simp only [e22]
      go_simp
      exact gr_val (HI.out _ _ _ ⟨q0, kn_known q1 rfl⟩)
    · intro vs
      simp only [Act.put, List.setIfInBounds_toArray, List.set_cons_succ, List.set_cons_zero]
      rfl
    refine gen_cons (A' := ?_) (fun vs L w1 hL hw1 => ?_) ?_ ?_
    rotate_left 1
    · obtain ⟨q0, q1⟩ := HO.out _ _ _ hw1
      have l20 : L 20 = true := hL.need 20 (by kernel_rfl)
      have e20 := q1 20 _ rfl l20
      refine gen_yes ?_ ?_
      · simp only [e20]
        rfl
      go_simp
      exact gr_val (HI.out _ _ _ ⟨q0, kn_known q1 rfl⟩)
    · intro vs
      simp only [Act.put, List.setIfInBounds_toArray, List.set_cons_succ, List.set_cons_zero]
      rfl
    refine gen_cons (A' := ?_) (fun vs L w1 hL hw1 => ?_) ?_ ?_
    rotate_left 1
    · obtain ⟨q0, q1⟩ := HO.out _ _ _ hw1
      have l20 : L 20 = true := hL.need 20 (by kernel_rfl)
      have e20 := q1 20 _ rfl l20
      refine gen_yes ?_ ?_
      · simp only [e20]
        rfl
      have l24 : L 24 = true := hL.need 24 (by kernel_rfl)
      have e24 := q1 24 _ rfl l24
      have x := (k6.grows q0).cell 0
      rw [rcV_0] at x
      simp only [e24]
      go_simp
      exact gr_val (HI.out _ _ _ ⟨q0, kn_known q1 rfl⟩)
    · intro vs
      simp only [Act.put, List.setIfInBounds_toArray, List.set_cons_succ, List.set_cons_zero]
      rfl
    refine gen_cons (A' := ?_) (fun vs L w1 hL hw1 => ?_) ?_ ?_
    rotate_left 1
    · obtain ⟨q0, q1⟩ := HO.out _ _ _ hw1
      have l20 : L 20 = true := hL.need 20 (by kernel_rfl)
      have e20 := q1 20 _ rfl l20
      refine gen_yes ?_ ?_
      · simp only [e20]
        rfl
      have l23 : L 23 = true := hL.need 23 (by kernel_rfl)
      have e23 := q1 23 _ rfl l23
      have l25 : L 25 = true := hL.need 25 (by kernel_rfl)
      have e25 := q1 25 _ rfl l25
      simp only [e23, e25]
      go_simp
      exact gr_val (HI.out _ _ _ ⟨q0, kn_known q1 rfl⟩)
    · intro vs
      simp only [Act.put, List.setIfInBounds_toArray, List.set_cons_succ, List.set_cons_zero]
      rfl
    refine gen_cons (A' := ?_) (fun vs L w1 hL hw1 => ?_) ?_ ?_
    rotate_left 1
    · obtain ⟨q0, q1⟩ := HO.out _ _ _ hw1
      refine gen_plain rfl ?_
      have l20 : L 20 = true := hL.need 20 (by kernel_rfl)
      have e20 := q1 20 _ rfl l20
      have l26 : L 26 = true := hL.need 26 (by kernel_rfl)
      have e26 := q1 26 _ rfl l26
      simp only [e20, e26]
      go_simp
      exact gr_val (HI.out _ _ _ ⟨q0, kn_known q1 rfl⟩)
    · intro vs
      simp only [Act.put, List.setIfInBounds_toArray, List.set_cons_succ, List.set_cons_zero]
      rfl
    refine gen_cons (A' := ?_) (fun vs L w1 hL hw1 => ?_) ?_ ?_
    rotate_left 1
    · obtain ⟨q0, q1⟩ := HO.out _ _ _ hw1
      refine gen_plain rfl ?_
      have l27 : L 27 = true := hL.need 27 (by kernel_rfl)
      have e27 := q1 27 _ rfl l27
      simp only [e27]
      go_simp
      exact gr_val (HI.out _ _ _ ⟨q0, kn_known q1 rfl⟩)
    · intro vs
      simp only [Act.put, List.setIfInBounds_toArray, List.set_cons_succ, List.set_cons_zero]
      rfl
    refine gen_cons (A' := ?_) (fun vs L w1 hL hw1 => ?_) ?_ ?_
    rotate_left 1
    · obtain ⟨q0, q1⟩ := HO.out _ _ _ hw1
      have l28 : L 28 = true := hL.need 28 (by kernel_rfl)
      have e28 := q1 28 _ rfl l28
      refine gen_yes ?_ ?_
      · simp only [e28]
        rfl
      go_simp
      exact gr_val (HI.out _ _ _ ⟨q0, kn_known q1 rfl⟩)
    · intro vs
      simp only [Act.put, List.setIfInBounds_toArray, List.set_cons_succ, List.set_cons_zero]
      rfl
    refine gen_cons (A' := ?_) (fun vs L w1 hL hw1 => ?_) ?_ ?_
    rotate_left 1
    · obtain ⟨q0, q1⟩ := HO.out _ _ _ hw1
      have l28 : L 28 = true := hL.need 28 (by kernel_rfl)
      have e28 := q1 28 _ rfl l28
      refine gen_yes ?_ ?_
      · simp only [e28]
        rfl
      have l29 : L 29 = true := hL.need 29 (by kernel_rfl)
      have e29 := q1 29 _ rfl l29
      simp only [e29]
      go_simp
      exact gr_val (HI.out _ _ _ ⟨q0, kn_known q1 rfl⟩)
    · intro vs
      simp only [Act.put, List.setIfInBounds_toArray, List.set_cons_succ, List.set_cons_zero]
      rfl
    refine gen_cons (A' := ?_) (fun vs L w1 hL hw1 => ?_) ?_ ?_
    rotate_left 1
    · obtain ⟨q0, q1⟩ := HO.out _ _ _ hw1
      refine gen_plain rfl ?_
      have l28 : L 28 = true := hL.need 28 (by kernel_rfl)
      have e28 := q1 28 _ rfl l28
      have l30 : L 30 = true := hL.need 30 (by kernel_rfl)
      have e30 := q1 30 _ rfl l30
      simp only [e28, e30]
      go_simp
      exact gr_val (HI.out _ _ _ ⟨q0, kn_known q1 rfl⟩)
    · intro vs
      simp only [Act.put, List.setIfInBounds_toArray, List.set_cons_succ, List.set_cons_zero]
      rfl
    refine gen_cons (A' := ?_) (fun vs L w1 hL hw1 => ?_) ?_ ?_
    rotate_left 1
    · obtain ⟨q0, q1⟩ := HO.out _ _ _ hw1
      refine gen_plain rfl ?_
      have l31 : L 31 = true := hL.need 31 (by kernel_rfl)
      have e31 := q1 31 _ rfl l31
      simp only [e31]
      go_simp
      exact gr_val (HI.out _ _ _ ⟨q0, kn_known q1 rfl⟩)
    · intro vs
      simp only [Act.put, List.setIfInBounds_toArray, List.set_cons_succ, List.set_cons_zero]
      rfl
    refine gen_cons (A' := ?_) (fun vs L w1 hL hw1 => ?_) ?_ ?_
    rotate_left 1
    · obtain ⟨q0, q1⟩ := HO.out _ _ _ hw1
      have l32 : L 32 = true := hL.need 32 (by kernel_rfl)
      have e32 := q1 32 _ rfl l32
      refine gen_yes ?_ ?_
      · simp only [e32]
        rfl
      go_simp
      exact gr_val (HI.out _ _ _ ⟨q0, kn_known q1 rfl⟩)
    · intro vs
      simp only [Act.put, List.setIfInBounds_toArray, List.set_cons_succ, List.set_cons_zero]
      rfl
    refine gen_cons (A' := ?_) (fun vs L w1 hL hw1 => ?_) ?_ ?_
    rotate_left 1
    · obtain ⟨q0, q1⟩ := HO.out _ _ _ hw1
      have l32 : L 32 = true := hL.need 32 (by kernel_rfl)
      have e32 := q1 32 _ rfl l32
      refine gen_yes ?_ ?_
      · simp only [e32]
        rfl
      have l33 : L 33 = true := hL.need 33 (by kernel_rfl)
      have e33 := q1 33 _ rfl l33
      have x := (k6.grows q0).cell 1
      rw [rcV_1] at x
      simp only [e33]
      go_simp
      exact gr_val (HI.out _ _ _ ⟨q0, kn_known q1 rfl⟩)
    · intro vs
      simp only [Act.put, List.setIfInBounds_toArray, List.set_cons_succ, List.set_cons_zero]
      rfl
    refine gen_cons (A' := ?_) (fun vs L w1 hL hw1 => ?_) ?_ ?_
    rotate_left 1
    · obtain ⟨q0, q1⟩ := HO.out _ _ _ hw1
      have l32 : L 32 = true := hL.need 32 (by kernel_rfl)
      have e32 := q1 32 _ rfl l32
      refine gen_yes ?_ ?_
      · simp only [e32]
        rfl
      go_simp
      exact gr_val (HI.out _ _ _ ⟨q0, kn_known q1 rfl⟩)
    · intro vs
      simp only [Act.put, List.setIfInBounds_toArray, List.set_cons_succ, List.set_cons_zero]
      rfl
    refine gen_cons (A' := ?_) (fun vs L w1 hL hw1 => ?_) ?_ ?_
    rotate_left 1
    · obtain ⟨q0, q1⟩ := HO.out _ _ _ hw1
      have l32 : L 32 = true := hL.need 32 (by kernel_rfl)
      have e32 := q1 32 _ rfl l32
      refine gen_yes ?_ ?_
      · simp only [e32]
        rfl
      have l35 : L 35 = true := hL.need 35 (by kernel_rfl)
      have e35 := q1 35 _ rfl l35
      have x := (k8b.grows q0).cell 1
      rw [rcV_1] at x
      simp only [e35]
      go_simp
      exact gr_val (HI.out _ _ _ ⟨q0, kn_known q1 rfl⟩)
    · intro vs
      simp only [Act.put, List.setIfInBounds_toArray, List.set_cons_succ, List.set_cons_zero]
      rfl
    refine gen_cons (A' := ?_) (fun vs L w1 hL hw1 => ?_) ?_ ?_
    rotate_left 1
    · obtain ⟨q0, q1⟩ := HO.out _ _ _ hw1
      have l32 : L 32 = true := hL.need 32 (by kernel_rfl)
      have e32 := q1 32 _ rfl l32
      refine gen_yes ?_ ?_
      · simp only [e32]
        rfl
      go_simp
      exact gr_val (HI.out _ _ _ ⟨q0, kn_known q1 rfl⟩)
    · intro vs
      simp only [Act.put, List.setIfInBounds_toArray, List.set_cons_succ, List.set_cons_zero]
      rfl
    refine gen_cons (A' := ?_) (fun vs L w1 hL hw1 => ?_) ?_ ?_
    rotate_left 1
    · obtain ⟨q0, q1⟩ := HO.out _ _ _ hw1
      have l32 : L 32 = true := hL.need 32 (by kernel_rfl)
      have e32 := q1 32 _ rfl l32
      refine gen_yes ?_ ?_
      · simp only [e32]
        rfl
      have l36 : L 36 = true := hL.need 36 (by kernel_rfl)
      have e36 := q1 36 _ rfl l36
      have l37 : L 37 = true := hL.need 37 (by kernel_rfl)
      have e37 := q1 37 _ rfl l37
      simp only [e36, e37]
      go_simp
      exact gr_val (HI.out _ _ _ ⟨q0, kn_known q1 rfl⟩)
    · intro vs
      simp only [Act.put, List.setIfInBounds_toArray, List.set_cons_succ, List.set_cons_zero]
      rfl
    refine gen_cons (A' := ?_) (fun vs L w1 hL hw1 => ?_) ?_ ?_
    rotate_left 1
    · obtain ⟨q0, q1⟩ := HO.out _ _ _ hw1
      have l32 : L 32 = true := hL.need 32 (by kernel_rfl)
      have e32 := q1 32 _ rfl l32
      refine gen_yes ?_ ?_
      · simp only [e32]
        rfl
      have l34 : L 34 = true := hL.need 34 (by kernel_rfl)
      have e34 := q1 34 _ rfl l34
      have l38 : L 38 = true := hL.need 38 (by kernel_rfl)
      have e38 := q1 38 _ rfl l38
      have gd2 := gls_drop (hA6.grows q0) hkl hc6
      rw [HD.out] at gd2
      simp only [e34, e38]
      go_simp
      simp only [HLK.out]
      refine gr_call ?_
      refine (gsame_eq A5 _ c5 _ Na.l w1 (hA5.grows q0) gd2 (by omega)).mono ?_
      rintro e w2 ⟨rfl, hg⟩
      exact ⟨_, rfl, HI.out _ _ _ ⟨below_grows q0 (Nat.le_refl _) hg, kn_known q1 rfl⟩⟩
    · intro vs
      simp only [Act.put, List.setIfInBounds_toArray, List.set_cons_succ, List.set_cons_zero]
      rfl
    refine gen_cons (A' := ?_) (fun vs L w1 hL hw1 => ?_) ?_ ?_
    rotate_left 1
    · obtain ⟨q0, q1⟩ := HO.out _ _ _ hw1
      have l32 : L 32 = true := hL.need 32 (by kernel_rfl)
      have e32 := q1 32 _ rfl l32
      refine gen_yes ?_ ?_
      · simp only [e32]
        rfl
      have l39 : L 39 = true := hL.need 39 (by kernel_rfl)
      have e39 := q1 39 _ rfl l39
      simp only [e39]
      go_simp
      exact gr_val (HI.out _ _ _ ⟨q0, kn_known q1 rfl⟩)
    · intro vs
      simp only [Act.put, List.setIfInBounds_toArray, List.set_cons_succ, List.set_cons_zero]
      rfl
    refine gen_cons (A' := ?_) (fun vs L w1 hL hw1 => ?_) ?_ ?_
    rotate_left 1
    · obtain ⟨q0, q1⟩ := HO.out _ _ _ hw1
      refine gen_plain rfl ?_
      have l32 : L 32 = true := hL.need 32 (by kernel_rfl)
      have e32 := q1 32 _ rfl l32
      have l40 : L 40 = true := hL.need 40 (by kernel_rfl)
      have e40 := q1 40 _ rfl l40
      simp only [e32, e40]
      go_simp
      exact gr_val (HI.out _ _ _ ⟨q0, kn_known q1 rfl⟩)
    · intro vs
      simp only [Act.put, List.setIfInBounds_toArray, List.set_cons_succ, List.set_cons_zero]
      rfl
    refine gen_nil ?_
    intro vs L W6 hall hS
    obtain ⟨hq, q1⟩ := HO.out _ _ _ hS
    have e41 := q1 41 _ rfl (hall 41 (by simp))
    clear hall hS HI HO q1
    simp only [e41]
    replace k6 := k6.grows hq
    replace k8 := k8.grows hq
    replace hd := hd.grows hq
    replace hA5 := hA5.grows hq
    replace hA6 := hA6.grows hq
    replace hB := below_grows hB (Nat.le_refl _) hq
    clear hq
    go_wp2
    go_roundw
    case rel => exact ⟨n + 1, nextKs l kk 5, Na, Nb, A5, c5, A6, c6, by go_num, by omega, hP2, hB, hd, k6, k8, hA5, hA6⟩
    case measure => simp [intOf]; omega
end RecorderCounts
namespace RecorderCounts
theorem contract (H : Type) (enc : TypeId × Value → H) (W : World) (base : Nat) (args : Array Value) (ds gs : List (DataW H)) (before : List MemPlace)
    (hval0 : ∀ (j : Nat) t v, Try.f6.params[j]? = some t → args[j]? = some v → Value.okWide Try.prog W .any base t v)
    (hW : DataW.Whole enc Try.prog Try.f6.params.toList Rows.recorderCountsSpec.vars false W args.toList ds gs before)
    (hsz0 : (DataW.weightsEach Try.prog (Try.f6.params.toList ++ Rows.recorderCountsSpec.plain.varTypes Try.prog) (ds ++ gs)).all (· ≤ reachBytes) = true) :
    Calls Try.prog 6 args W fun e W' => ∃ v, e = .returned v ∧ Rows.recorderCountsSpec.post enc Try.prog Try.f6 false true false false W args v W' := by
  have key : Calls Try.prog 6 args W fun e W' => e = .returned (.bool true) ∧ Below W.heap.size W W' := by
    have hval : ∀ (j : Nat) t v, Try.f6.params[j]? = some t → args[j]? = some v → Value.okWide Try.prog W .any base t v := hval0
    obtain ⟨p, q, hA0, hV, hbe, hfz, hnd⟩ := hW
    have hA : DataW.TrodAll enc Try.prog W 0 (fun _ => true) true Try.f6.params.toList args.toList ds p := hA0
    rw [Try.params6] at hA hval
    clear hA0 hval0
    obtain ⟨v0, vs0, d0, ds0, p0, q0, hargs, rfl, rfl, h0, r0⟩ := trodAll_cons hA
    obtain ⟨v1, vs1, d1, ds1, p1, q1, rfl, rfl, rfl, h1, r1⟩ := trodAll_cons r0
    obtain ⟨rfl, rfl, rfl⟩ := trodAll_nil r1
    obtain rfl : args = #[v0, v1] := by cases args; simp_all
    obtain ⟨rfl, rfl⟩ := trodVars_none hV
    have hsz : (DataW.weightsEach Try.prog (Try.f6.params.toList ++ Rows.recorderCountsSpec.plain.varTypes Try.prog) ([d0, d1] ++ [])).all (· ≤ reachBytes) = true := hsz0
    rw [Try.params6] at hsz
    clear hsz0
    obtain ⟨A, cp, l, rfl, hI0, hl0, _⟩ := open_slice_ints Try.underlying22 Try.underlying3 (by kernel_rfl) (hval 0 22 v0 rfl rfl) h0
    obtain ⟨a1, rfl, rfl, rfl, w1⟩ := open_int Try.underlying3 (hval 1 3 v1 rfl rfl) h1
    exact RecorderCounts.walk A cp l a1 W hI0 hl0
  refine key.mono fun e W' ⟨he, hb⟩ => ⟨_, he, law_post laid_out hW ?_ rfl (by kernel_rfl) Try.underlying4 ?_ hb⟩
  · rw [Try.params6]
    intro t ht
    simp only [List.mem_cons, List.not_mem_nil, or_false] at ht
    rcases ht with rfl | rfl <;> exact ⟨by kernel_rfl, of_decide_eq_true (by kernel_rfl)⟩
  · rw [Try.params6]
    intro ds hl
    match ds, hl with
    | [_, _], _ => rfl

set_option maxRecDepth 100000 in
theorem lifted (os : Os) (started : os.Started) (H : Type) (enc : TypeId × Value → H) :
    ReturnsInHanded {} Try.checked os 6 .any (Rows.recorderCountsSpec.pre6 enc Try.prog Try.f6 Rows.recorderCountsRow.domain false) (Rows.recorderCountsSpec.post enc Try.prog Try.f6 false true false false) := by
  refine returnsInHanded_of_change_sized (C := Try.checked) own_knob started (by kernel_rfl) Try.func6
    (ChangeSpec.witness6 (enc := enc) (C := Try.checked) false ⟨#[], #[.slice none 0 0, .int .i64 0], []⟩ 8 (by kernel_rfl) (by kernel_rfl) (by kernel_rfl) (by kernel_rfl)) ?_
  intro W base args ds gs before hval0 hW _ hsz0 _
  exact contract H enc W base args ds gs before hval0 hW hsz0

theorem over : Rows.recorderCountsRow.holds Try.pinned (OpenSpec.ofChange Rows.recorderCountsSpec) :=
  OpenClaim.holds_of_wide 6 Try.f6 rfl rfl rfl rfl rfl rfl rfl ⟨rfl, rfl, rfl, rfl, rfl⟩ rfl rfl rfl rfl rfl (by kernel_rfl) Try.func6 (by kernel_rfl)
    (of_decide_eq_true (by kernel_rfl)) (by unfold Func.isWrapper; first | (rw [if_pos (by decide +kernel)]; kernel_rfl) | (rw [if_neg (by decide +kernel)]; exact ⟨rfl, rfl⟩))
    (fun os started H enc _ => lifted os started H enc)

/-- The given statement. -/
theorem proved : Rows.RecorderCountsSaid := over
end RecorderCounts
#print axioms RecorderCounts.proved
end Go.Proofs.Ytbohbapheofpiaa
