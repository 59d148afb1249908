/-
  YtnbdpnlepcjmmaaGreatOfferChooses: shared parts, 4. Plain theorems.
-/
import Derived.Test.YtnbdpnlepcjmmaaGreatOfferChoosesK3
import Derived.Deep.Fields
import Derived.Deep.Slices
namespace Go.Proofs.YtnbdpnlepcjmmaaGreat
open Go.RowKit
theorem OwnB.lower {w : World} {base lo lo2 : Nat} {v : Value} {l : List Bx} (h : OwnB w base lo v l) (hl : lo2 ≤ lo) : OwnB w base lo2 v l := by
 obtain ⟨vs, h1, h2⟩ := h
 exact ⟨vs, h1, fun i x hx => by obtain ⟨A1, c1, A2, c2, A3, c3, hp, hc⟩ := h2 i x hx; exact ⟨A1, c1, A2, c2, A3, c3, hp.mono (fun k hk => ⟨Nat.le_trans hl hk.1, hk.2⟩), hc⟩⟩
theorem dice_low (B : Nat) (A : Option Addr) (c : Nat) (l : List Int) (w : World) (h : Reads w B 1 A l.length (l.map (Value.int .u8))) (hB : B ≤ w.heap.size) (hc : l.length ≤ c) (hl : l.length ≤ 9223372036854775807) (hwf : ∀ x ∈ l, 0 ≤ x ∧ x ≤ 255) :
 Calls Tryz.prog 34 #[.slice A l.length c] w fun e w' => e = .returned (.pointer (some ⟨w.heap.size, 0, none⟩)) ∧ DR w' B w.heap.size ∧ Grows w w' := by
 have key : ∀ (m : Nat) (w1 : World) (v : Value), m = min l.length 300 → w1 = w.alloc (.cells #[.slice A m c] DiceT) → v = .pointer (some ⟨w.heap.size, 0, none⟩) → Ending.returned v = .returned (.pointer (some ⟨w.heap.size, 0, none⟩)) ∧ DR w1 B w.heap.size ∧ Grows w w1 := by
  intro m w1 v hm hw hv
  subst hw hv
  have hlen : (l.take m).length = m := by simp; omega
  refine ⟨rfl, ⟨l.take m, A, c, ?_, ?_, by rw [hlen]; omega, hB, fun x hx => hwf x (List.mem_of_mem_take hx), by rw [hlen]; omega⟩, (Below.refl _ _).alloc (Nat.le_refl _) _⟩
  ·rw [hlen]; exact Blk.new _ _ _
  ·rw [hlen, List.map_take]; exact (h.take_ (by omega)).alloc hB _
 go_enter Tryz.func34, Tryz.ntmps34
 by_cases h3 : l.length ≤ 300
 ·have e1 : min (l.length : Int) 300 = l.length := by omega
  go_wp2
  go_ret
  exact key l.length _ _ (by omega) rfl rfl
 ·have e1 : min (l.length : Int) 300 = 300 := by omega
  go_wp2
  go_ret
  exact key 300 _ _ (by omega) rfl rfl
set_option maxHeartbeats 32000000 in
set_option maxRecDepth 10000 in
theorem made_any (A0 : Option Addr) (c0 : Nat) (sd : List Int) (w : World) (h : Reads w w.heap.size 1 A0 sd.length (sd.map (Value.int .u8))) (hc : sd.length ≤ c0) (hl : sd.length ≤ 9223372036854775807) (hwf : ∀ x ∈ sd, 0 ≤ x ∧ x ≤ 255) :
 Calls Tryz.prog 11 #[.slice A0 sd.length c0] w fun e w' => (∃ (g : Nat) (a b : List Bx) (c : Ch) (A1 : Option Addr) (c1 : Nat) (A2 : Option Addr) (c2 : Nat) (v : Value), e = .returned (.tuple #[.slice A1 a.length c1, .slice A2 b.length c2, v, .pointer (some ⟨g, 0, none⟩)]) ∧ Bxs w' (Ge (g + 1)) A1 a ∧ Bxs w' (Ge (g + 1)) A2 b ∧ a.length ≤ c1 ∧ b.length ≤ c2 ∧ Fine a ∧ Fine b ∧ a.length ≤ 4 ∧ b.length ≤ 5 ∧ ChV w' (Ge (g + 1)) c v ∧ OKC c ∧ DR w' w.heap.size g ∧ w.heap.size ≤ g) ∧ Grows w w' := by
 have k0 := Blk.new w 27 #[.int .i64 0, .int .i64 0, .slice none 0 0, .int .i64 0]
 have hB := (Below.refl w.heap.size w).alloc (Nat.le_refl _) (Obj.cells #[.int .i64 0, .int .i64 0, .slice none 0 0, .int .i64 0] 27)
 go_enter Tryz.func11, Tryz.ntmps11
 go_upto_region 1 with fail
 replace h := Reads.below h hB
 have hl1 := hB.size
 generalize World.alloc w _ = w1 at *
 have l0g := k0.lt
 go_wp2_with fail
 refine (dice_low w.heap.size A0 c0 sd _ h hl1 hc hl hwf).mono ?_
 rintro e w2 ⟨rfl, hD, hq⟩
 replace hB := below_grows hB (Nat.le_refl _) hq
 replace k0 := k0.grows hq
 clear hq h
 generalize w1.heap.size = g at *
 have hg2 := hD.lt
 go_wp2_with fail
 refine (boxes_any w.heap.size g 0 4 _ hD (by omega) (by omega)).mono ?_
 rintro e w3 ⟨⟨a, va, rfl, hoa, hfa, -, hla⟩, hDn, hq⟩
 replace hD := hDn
 replace k0 := k0.grown hq (by intro e; injection e; omega)
 replace hB := hB.grown hq hB.size (fun q e => by injection e; omega)
 have hn3 := hq.size
 clear hq hDn
 obtain ⟨A1, c1, rfl, hc1, hxa⟩ := hoa.read (Nat.le_refl _)
 replace hxa := hxa.bd
 have HFA := Lib.hid hfa
 clear hoa hfa
 go_wp2_with fail
 refine (boxes_any w.heap.size g 0 4 _ hD (by omega) (by omega)).mono ?_
 rintro e w4 ⟨⟨b, vb, rfl, hob, hfb, -, hlb⟩, hDn, hq⟩
 replace hD := hDn
 replace k0 := k0.grown hq (by intro e; injection e; omega)
 replace hB := hB.grown hq hB.size (fun q e => by injection e; omega)
 replace hxa := hxa.grown hq (fun q e hh => by injection e with e; have := hh.1; unfold Ge at this; omega)
 have hn4 := hq.size
 clear hq hDn
 replace hob := hob.lower hn3
 have HFB := Lib.hid hfb
 clear hfb
 generalize w2.heap.size = n3 at *
 generalize w3.heap.size = n4 at *
 go_wp2_with fail
 refine (rolls_any w.heap.size g 3 _ hD (by omega) (by omega)).mono ?_
 rintro e w6 ⟨⟨r, rfl, hr0, hr1⟩, hDn, hq⟩
 replace hD := hDn
 replace k0 := k0.grown hq (by intro e; injection e; omega)
 replace hB := hB.grown hq hB.size (fun q e => by injection e; omega)
 replace hxa := hxa.grown hq (fun q e hh => by injection e with e; have := hh.1; unfold Ge at this; omega)
 replace hob := hob.only hq (by omega) (by omega)
 replace hn4 := Nat.le_trans hn4 hq.size
 clear hq hDn
 by_cases h1 : r = 0
 case neg =>
  have d1 : (r == 0) = false := by simpa using h1
  generalize w6 = wx at *
  obtain ⟨A2, c2, rfl, hc2, hxb⟩ := hob.read (by omega)
  have hxb := hxb.bd
  have hlb := hob.lt
  have hgx := hD.lt
  go_upto_region 5 with fail
  refine wp_region_lit ?_
  iterate 4
   refine BigFrame.wpList_want (by first | rfl | kernel_rfl) (fun K hK => ?_)
   go_simp
   refine hK _ _ ?_
   clear hK K
  refine wpList_append_boxes rfl (.const (.slice none 0 0)) (.tmp 36) rfl (v := .slice none 0 0) (base := wx.heap.size) (lo := g + 1) (l := []) (m := a) rfl rfl OwnB.nil rfl (hxa.mono fun k hk => ⟨by have := hk.1; unfold Ge at this; omega, by simp [Value.ownBlock]⟩) (by simp only [List.length_nil]; omega) (Nat.le_refl _) ?_
  intro v37 wy ho37 hgr hv37
  rw [List.nil_append] at ho37
  have hsx := hB.size
  have hrow : ∀ q, (Value.slice none 0 0).ownBlock = some q → wx.heap.size ≤ q := fun q e => by simp [Value.ownBlock] at e
  have hgr0 := hgr
  replace hxa := hxa.grown hgr (fun q e hh => by have := hrow q e; have h1 := hh.2; omega)
  replace hxb := hxb.grown hgr (fun q e hh => by have h1 := hh.2; have := hrow q e; omega)
  replace k0 := k0.grown hgr (fun e => by have := hrow _ e.symm; omega)
  replace hD := hD.grown hgr (fun q e => by have := hrow q e; omega)
  replace hB := hB.grown hgr hB.size (fun q e => by have := hrow q e; have := hsx; omega)
  have hszy := hgr.size
  clear hgr hgr0 hrow
  iterate 1
   refine BigFrame.wpList_want (by first | rfl | kernel_rfl) (fun K hK => ?_)
   go_simp
   refine hK _ _ ?_
   clear hK K
  have hapb : ∀ k, k < wx.heap.size → v37.ownBlock ≠ some k := fun k hk e => by
   rcases hv37 with h7 | h7
   ·rw [h7] at e; simp [Value.ownBlock] at e
   ·rw [h7] at e; injection e with e; omega
  refine wpList_append_boxes rfl (.tmp 37) (.tmp 38) rfl (v := v37) (l := a) (m := b) rfl rfl ho37 rfl (hxb.mono fun k hk => ⟨by have := hk.1; unfold Ge at this; omega, hapb k hk.2⟩) (by omega) hszy ?_
  intro v39 wz ho39 hgr _
  have hrow : ∀ q, v37.ownBlock = some q → wx.heap.size ≤ q := fun q e => (ho37.lt q e).1
  clear hszy
  replace hxa := hxa.grown hgr (fun q e hh => by have h1 := hh.2; have := hrow q e; omega)
  replace hxb := hxb.grown hgr (fun q e hh => by have h1 := hh.2; have := hrow q e; omega)
  replace k0 := k0.grown hgr (fun e => by have := hrow _ e.symm; omega)
  replace hD := hD.grown hgr (fun q e => by have := hrow q e; omega)
  replace hB := hB.grown hgr hB.size (fun q e => by have := hrow q e; have := hsx; omega)
  have hszy := hgr.size
  clear hgr hrow hv37 ho37
  have hfab := fine_app HFA.out HFB.out
  have hlab : (a ++ b).length ≤ 1000 := by rw [List.length_append]; omega
  generalize a ++ b = ab at *
  obtain ⟨A39, c39, e39, hc39, hx39⟩ := ho39.read (by omega)
  subst e39
  refine BigFrame.wpList_want (by first | rfl | kernel_rfl) (fun K hK => ?_)
  go_simp
  refine (choice_any w.heap.size g _ hD hx39 (by omega) hc39 hfab (fun k hk => hk)).mono ?_
  rintro e w7 ⟨⟨c, v40, rfl, ⟨A3, n3, rfl, hn3, hic⟩, hokc⟩, hDn, hq⟩
  refine hK _ _ ?_
  clear hK K
  replace hxa := hxa.grown hq (fun q e hh => by injection e with e; have := hh.1; unfold Ge at this; omega)
  replace hxb := hxb.grown hq (fun q e hh => by injection e with e; have := hh.1; unfold Ge at this; omega)
  replace k0 := k0.grown hq (by intro e; injection e; omega)
  replace hB := hB.grown hq hB.size (fun q e => by injection e; omega)
  clear hq hD ho39 hx39
  have x0 := k0.cell
  have hf0 := k0.frozen
  have y0 := ((((k0.set_ 0 (.int .i64 c.k)).set_ 1 (.int .i64 c.r)).set_ 2 (.slice A3 c.m.length n3)).set_ 3 (.int .i64 c.s))
  have yB := ((((hB.setCell (p := ⟨w.heap.size, 0, none⟩) (Nat.le_refl _) (.int .i64 c.k)).setCell (p := ⟨w.heap.size, 1, none⟩) (Nat.le_refl _) (.int .i64 c.r)).setCell (p := ⟨w.heap.size, 2, none⟩) (Nat.le_refl _) (.slice A3 c.m.length n3)).setCell (p := ⟨w.heap.size, 3, none⟩) (Nat.le_refl _) (.int .i64 c.s))
  have yA := hxa.grown (d_only_set (d_only_set (d_only_set (d_only_set (World.grownBy.refl _ (some w.heap.size)) 0 (.int .i64 c.k)) 1 (.int .i64 c.r)) 2 (.slice A3 c.m.length n3)) 3 (.int .i64 c.s)) (fun q e hh => by injection e with e; have := hh.1; unfold Ge at this; omega)
  have yBx := hxb.grown (d_only_set (d_only_set (d_only_set (d_only_set (World.grownBy.refl _ (some w.heap.size)) 0 (.int .i64 c.k)) 1 (.int .i64 c.r)) 2 (.slice A3 c.m.length n3)) 3 (.int .i64 c.s)) (fun q e hh => by injection e with e; have := hh.1; unfold Ge at this; omega)
  have yC := RdB.grown hic (d_only_set (d_only_set (d_only_set (d_only_set (World.grownBy.refl _ (some w.heap.size)) 0 (.int .i64 c.k)) 1 (.int .i64 c.r)) 2 (.slice A3 c.m.length n3)) 3 (.int .i64 c.s)) (fun q e => by injection e with e; unfold Ge; omega)
  have yD : DR _ w.heap.size g := ((((hDn.put (p := ⟨w.heap.size, 0, none⟩) (Nat.le_refl _) (Nat.ne_of_gt l0g) (.int .i64 c.k)).put (p := ⟨w.heap.size, 1, none⟩) (Nat.le_refl _) (Nat.ne_of_gt l0g) (.int .i64 c.r)).put (p := ⟨w.heap.size, 2, none⟩) (Nat.le_refl _) (Nat.ne_of_gt l0g) (.slice A3 c.m.length n3)).put (p := ⟨w.heap.size, 3, none⟩) (Nat.le_refl _) (Nat.ne_of_gt l0g) (.int .i64 c.s))
  have y6 := y0.cell
  clear k0 hB hxa hxb hic
  go_wp2
  refine bodyPost_ret (v := .tuple #[.slice A1 a.length c1, .slice A2 b.length c2, .agg #[.int .i64 c.k, .int .i64 c.r, .slice A3 c.m.length n3, .int .i64 c.s], .pointer (some ⟨g, 0, none⟩)]) (by simp [results, Tryz.results11, go_sem, y6]) rfl ⟨⟨g, a, b, c, A1, c1, A2, c2, _, rfl, yA.mono (fun k hk => by have := hk.1; unfold Ge at *; omega), yBx.mono (fun k hk => by have := hk.1; unfold Ge at *; omega), hc1, hc2, HFA.out, HFB.out, by omega, by omega, ⟨A3, n3, rfl, hn3, yC⟩, hokc, yD, Nat.le_of_lt l0g⟩, yB⟩
 subst h1
 by_cases h2 : a.length = 0
 case pos =>
  have d2 : decide ((0 : Int) < (a.length : Int)) = false := by simp only [decide_eq_false_iff_not]; omega
  have d3 : decide (0 < a.length) = false := by simp only [decide_eq_false_iff_not]; omega
  clear h2
  generalize w6 = wx at *
  obtain ⟨A2, c2, rfl, hc2, hxb⟩ := hob.read (by omega)
  have hxb := hxb.bd
  have hlb := hob.lt
  have hgx := hD.lt
  go_upto_region 5 with fail
  refine wp_region_lit ?_
  iterate 4
   refine BigFrame.wpList_want (by first | rfl | kernel_rfl) (fun K hK => ?_)
   go_simp
   refine hK _ _ ?_
   clear hK K
  refine wpList_append_boxes rfl (.const (.slice none 0 0)) (.tmp 36) rfl (v := .slice none 0 0) (base := wx.heap.size) (lo := g + 1) (l := []) (m := a) rfl rfl OwnB.nil rfl (hxa.mono fun k hk => ⟨by have := hk.1; unfold Ge at this; omega, by simp [Value.ownBlock]⟩) (by simp only [List.length_nil]; omega) (Nat.le_refl _) ?_
  intro v37 wy ho37 hgr hv37
  rw [List.nil_append] at ho37
  have hsx := hB.size
  have hrow : ∀ q, (Value.slice none 0 0).ownBlock = some q → wx.heap.size ≤ q := fun q e => by simp [Value.ownBlock] at e
  have hgr0 := hgr
  replace hxa := hxa.grown hgr (fun q e hh => by have := hrow q e; have h1 := hh.2; omega)
  replace hxb := hxb.grown hgr (fun q e hh => by have h1 := hh.2; have := hrow q e; omega)
  replace k0 := k0.grown hgr (fun e => by have := hrow _ e.symm; omega)
  replace hD := hD.grown hgr (fun q e => by have := hrow q e; omega)
  replace hB := hB.grown hgr hB.size (fun q e => by have := hrow q e; have := hsx; omega)
  have hszy := hgr.size
  clear hgr hgr0 hrow
  iterate 1
   refine BigFrame.wpList_want (by first | rfl | kernel_rfl) (fun K hK => ?_)
   go_simp
   refine hK _ _ ?_
   clear hK K
  have hapb : ∀ k, k < wx.heap.size → v37.ownBlock ≠ some k := fun k hk e => by
   rcases hv37 with h7 | h7
   ·rw [h7] at e; simp [Value.ownBlock] at e
   ·rw [h7] at e; injection e with e; omega
  refine wpList_append_boxes rfl (.tmp 37) (.tmp 38) rfl (v := v37) (l := a) (m := b) rfl rfl ho37 rfl (hxb.mono fun k hk => ⟨by have := hk.1; unfold Ge at this; omega, hapb k hk.2⟩) (by omega) hszy ?_
  intro v39 wz ho39 hgr _
  have hrow : ∀ q, v37.ownBlock = some q → wx.heap.size ≤ q := fun q e => (ho37.lt q e).1
  clear hszy
  replace hxa := hxa.grown hgr (fun q e hh => by have h1 := hh.2; have := hrow q e; omega)
  replace hxb := hxb.grown hgr (fun q e hh => by have h1 := hh.2; have := hrow q e; omega)
  replace k0 := k0.grown hgr (fun e => by have := hrow _ e.symm; omega)
  replace hD := hD.grown hgr (fun q e => by have := hrow q e; omega)
  replace hB := hB.grown hgr hB.size (fun q e => by have := hrow q e; have := hsx; omega)
  have hszy := hgr.size
  clear hgr hrow hv37 ho37
  have hfab := fine_app HFA.out HFB.out
  have hlab : (a ++ b).length ≤ 1000 := by rw [List.length_append]; omega
  generalize a ++ b = ab at *
  obtain ⟨A39, c39, e39, hc39, hx39⟩ := ho39.read (by omega)
  subst e39
  refine BigFrame.wpList_want (by first | rfl | kernel_rfl) (fun K hK => ?_)
  go_simp
  refine (choice_any w.heap.size g _ hD hx39 (by omega) hc39 hfab (fun k hk => hk)).mono ?_
  rintro e w7 ⟨⟨c, v40, rfl, ⟨A3, n3, rfl, hn3, hic⟩, hokc⟩, hDn, hq⟩
  refine hK _ _ ?_
  clear hK K
  replace hxa := hxa.grown hq (fun q e hh => by injection e with e; have := hh.1; unfold Ge at this; omega)
  replace hxb := hxb.grown hq (fun q e hh => by injection e with e; have := hh.1; unfold Ge at this; omega)
  replace k0 := k0.grown hq (by intro e; injection e; omega)
  replace hB := hB.grown hq hB.size (fun q e => by injection e; omega)
  clear hq hD ho39 hx39
  have x0 := k0.cell
  have hf0 := k0.frozen
  have y0 := ((((k0.set_ 0 (.int .i64 c.k)).set_ 1 (.int .i64 c.r)).set_ 2 (.slice A3 c.m.length n3)).set_ 3 (.int .i64 c.s))
  have yB := ((((hB.setCell (p := ⟨w.heap.size, 0, none⟩) (Nat.le_refl _) (.int .i64 c.k)).setCell (p := ⟨w.heap.size, 1, none⟩) (Nat.le_refl _) (.int .i64 c.r)).setCell (p := ⟨w.heap.size, 2, none⟩) (Nat.le_refl _) (.slice A3 c.m.length n3)).setCell (p := ⟨w.heap.size, 3, none⟩) (Nat.le_refl _) (.int .i64 c.s))
  have yA := hxa.grown (d_only_set (d_only_set (d_only_set (d_only_set (World.grownBy.refl _ (some w.heap.size)) 0 (.int .i64 c.k)) 1 (.int .i64 c.r)) 2 (.slice A3 c.m.length n3)) 3 (.int .i64 c.s)) (fun q e hh => by injection e with e; have := hh.1; unfold Ge at this; omega)
  have yBx := hxb.grown (d_only_set (d_only_set (d_only_set (d_only_set (World.grownBy.refl _ (some w.heap.size)) 0 (.int .i64 c.k)) 1 (.int .i64 c.r)) 2 (.slice A3 c.m.length n3)) 3 (.int .i64 c.s)) (fun q e hh => by injection e with e; have := hh.1; unfold Ge at this; omega)
  have yC := RdB.grown hic (d_only_set (d_only_set (d_only_set (d_only_set (World.grownBy.refl _ (some w.heap.size)) 0 (.int .i64 c.k)) 1 (.int .i64 c.r)) 2 (.slice A3 c.m.length n3)) 3 (.int .i64 c.s)) (fun q e => by injection e with e; unfold Ge; omega)
  have yD : DR _ w.heap.size g := ((((hDn.put (p := ⟨w.heap.size, 0, none⟩) (Nat.le_refl _) (Nat.ne_of_gt l0g) (.int .i64 c.k)).put (p := ⟨w.heap.size, 1, none⟩) (Nat.le_refl _) (Nat.ne_of_gt l0g) (.int .i64 c.r)).put (p := ⟨w.heap.size, 2, none⟩) (Nat.le_refl _) (Nat.ne_of_gt l0g) (.slice A3 c.m.length n3)).put (p := ⟨w.heap.size, 3, none⟩) (Nat.le_refl _) (Nat.ne_of_gt l0g) (.int .i64 c.s))
  have y6 := y0.cell
  clear k0 hB hxa hxb hic
  go_wp2
  refine bodyPost_ret (v := .tuple #[.slice A1 a.length c1, .slice A2 b.length c2, .agg #[.int .i64 c.k, .int .i64 c.r, .slice A3 c.m.length n3, .int .i64 c.s], .pointer (some ⟨g, 0, none⟩)]) (by simp [results, Tryz.results11, go_sem, y6]) rfl ⟨⟨g, a, b, c, A1, c1, A2, c2, _, rfl, yA.mono (fun k hk => by have := hk.1; unfold Ge at *; omega), yBx.mono (fun k hk => by have := hk.1; unfold Ge at *; omega), hc1, hc2, HFA.out, HFB.out, by omega, by omega, ⟨A3, n3, rfl, hn3, yC⟩, hokc, yD, Nat.le_of_lt l0g⟩, yB⟩
 have d2 : decide ((0 : Int) < (a.length : Int)) = true := by simp only [decide_eq_true_eq]; omega
 have d3 : decide (0 < a.length) = true := by simp only [decide_eq_true_eq]; omega
 obtain ⟨ad, -, -, -, -, -, -, -, e0, -⟩ := hxa.elem (show 0 < a.length by omega)
 subst e0
 go_upto_region 4 with fail
 refine wp_region_lit ?_
 iterate 5
  refine BigFrame.wpList_want (by first | rfl | kernel_rfl) (fun K hK => ?_)
  go_simp
  refine hK _ _ ?_
  clear hK K
 refine BigFrame.wpList_want (by first | rfl | kernel_rfl) (fun K hK => ?_)
 go_simp
 refine (rolls_any w.heap.size g (a.length : Int) _ hD (by omega) (by omega)).mono ?_
 rintro e w7 ⟨⟨i, rfl, hi0, hi1⟩, hDn, hq⟩
 refine hK _ _ ?_
 clear hK K
 replace hD := hDn
 replace k0 := k0.grown hq (by intro e; injection e; omega)
 replace hB := hB.grown hq hB.size (fun q e => by injection e; omega)
 replace hxa := hxa.grown hq (fun q e hh => by injection e with e; have := hh.1; unfold Ge at this; omega)
 replace hob := hob.only hq (by omega) (by omega)
 replace hn4 := Nat.le_trans hn4 hq.size
 clear hq hDn
 obtain ⟨k, rfl⟩ : ∃ k : Nat, i = (k : Int) := ⟨i.toNat, by omega⟩
 have hk : k < a.length := by omega
 obtain ⟨ad2, x, B1, d1, B2, d2, B3, d3, e1, had, hx, hp, q0, q1, q2, q3⟩ := hxa.elem hk
 injection e1 with e1
 subst e1
 have hbl := hob.lt
 have HFX : Hid (Fine [x]) := Lib.hid fun y hy => by simp only [List.mem_singleton] at hy; rw [hy]; exact HFA.out x (List.mem_of_getElem? hx)
 clear hx
 iterate 2
  refine BigFrame.wpList_want (by first | rfl | kernel_rfl) (fun K hK => ?_)
  go_simp
  refine hK _ _ ?_
  clear hK K
 replace hp : BoxP w7 (Ap n3 vb) x B1 d1 B2 d2 B3 d3 := hp.mono fun k hk => ⟨hk.1, fun e => by have := (hbl _ e).1; have := hk.2; omega⟩
 iterate 1
  refine BigFrame.wpList_want (by first | rfl | kernel_rfl) (fun K hK => ?_)
  go_simp
  refine hK _ _ ?_
  clear hK K
 have hL := bxs_lit hp ⟨by omega, fun e => by have := (hbl _ e).2; omega⟩
 have hq := (Below.refl w7.heap.size w7).alloc (Nat.le_refl _) (Obj.cells #[.int .i64 x.k, .slice B1 x.r.length d1, .slice B2 x.m.length d2, .slice B3 x.s.length d3] 48)
 replace k0 := k0.grows hq
 replace hD := hD.grows hq
 replace hxa := hxa.grows hq
 replace hob := hob.grows hq
 replace hn4 := Nat.le_trans hn4 hq.size
 replace hB := below_grows hB (Nat.le_refl _) hq
 clear hq hp q0 q1 q2 q3
 refine wpList_append_boxes rfl (.tmp 23) (.tmp 31) rfl (v := vb) (m := [x]) rfl rfl hob rfl hL (by simp only [List.length_singleton]; omega) hn4 ?_
 intro v32 wx hob2 hgr _
 replace hbl := hob.lt
 replace k0 := k0.grown hgr (fun e => by have := (hbl _ e.symm).1; omega)
 replace hD := hD.grown hgr (fun q e => by have := (hbl _ e).1; omega)
 replace hxa := hxa.grown hgr (fun q e hh => by have := (hbl _ e).1; have := hh.2; omega)
 replace hB := hB.grown hgr hB.size (fun q e => by have := (hbl _ e).1; omega)
 replace hn4 := Nat.le_trans hn4 hgr.size
 have HFB2 := Lib.hid (fine_app HFB.out HFX.out)
 have hlb2 : (b ++ [x]).length ≤ 5 := by rw [List.length_append, List.length_singleton]; omega
 clear hob hgr hL hbl HFX HFB hlb
 generalize b ++ [x] = b2 at *
 have HFB := HFB2
 have hob := hob2
 clear HFB2 hob2
 obtain ⟨A2, c2, rfl, hc2, hxb⟩ := hob.read (by omega)
 have hxb := hxb.bd
 have hlb := hob.lt
 have hgx := hD.lt
 go_upto_region 5 with fail
 refine wp_region_lit ?_
 iterate 4
  refine BigFrame.wpList_want (by first | rfl | kernel_rfl) (fun K hK => ?_)
  go_simp
  refine hK _ _ ?_
  clear hK K
 refine wpList_append_boxes rfl (.const (.slice none 0 0)) (.tmp 36) rfl (v := .slice none 0 0) (base := wx.heap.size) (lo := g + 1) (l := []) (m := a) rfl rfl OwnB.nil rfl (hxa.mono fun k hk => ⟨by have := hk.1; unfold Ge at this; omega, by simp [Value.ownBlock]⟩) (by simp only [List.length_nil]; omega) (Nat.le_refl _) ?_
 intro v37 wy ho37 hgr hv37
 rw [List.nil_append] at ho37
 have hsx := hB.size
 have hrow : ∀ q, (Value.slice none 0 0).ownBlock = some q → wx.heap.size ≤ q := fun q e => by simp [Value.ownBlock] at e
 have hgr0 := hgr
 replace hxa := hxa.grown hgr (fun q e hh => by have := hrow q e; have h1 := hh.2; omega)
 replace hxb := hxb.grown hgr (fun q e hh => by have h1 := hh.2; have := hrow q e; omega)
 replace k0 := k0.grown hgr (fun e => by have := hrow _ e.symm; omega)
 replace hD := hD.grown hgr (fun q e => by have := hrow q e; omega)
 replace hB := hB.grown hgr hB.size (fun q e => by have := hrow q e; have := hsx; omega)
 have hszy := hgr.size
 clear hgr hgr0 hrow
 iterate 1
  refine BigFrame.wpList_want (by first | rfl | kernel_rfl) (fun K hK => ?_)
  go_simp
  refine hK _ _ ?_
  clear hK K
 have hapb : ∀ k, k < wx.heap.size → v37.ownBlock ≠ some k := fun k hk e => by
  rcases hv37 with h7 | h7
  ·rw [h7] at e; simp [Value.ownBlock] at e
  ·rw [h7] at e; injection e with e; omega
 refine wpList_append_boxes rfl (.tmp 37) (.tmp 38) rfl (v := v37) (l := a) (m := b2) rfl rfl ho37 rfl (hxb.mono fun k hk => ⟨by have := hk.1; unfold Ge at this; omega, hapb k hk.2⟩) (by omega) hszy ?_
 intro v39 wz ho39 hgr _
 have hrow : ∀ q, v37.ownBlock = some q → wx.heap.size ≤ q := fun q e => (ho37.lt q e).1
 clear hszy
 replace hxa := hxa.grown hgr (fun q e hh => by have h1 := hh.2; have := hrow q e; omega)
 replace hxb := hxb.grown hgr (fun q e hh => by have h1 := hh.2; have := hrow q e; omega)
 replace k0 := k0.grown hgr (fun e => by have := hrow _ e.symm; omega)
 replace hD := hD.grown hgr (fun q e => by have := hrow q e; omega)
 replace hB := hB.grown hgr hB.size (fun q e => by have := hrow q e; have := hsx; omega)
 have hszy := hgr.size
 clear hgr hrow hv37 ho37
 have hfab := fine_app HFA.out HFB.out
 have hlab : (a ++ b2).length ≤ 1000 := by rw [List.length_append]; omega
 generalize a ++ b2 = ab at *
 obtain ⟨A39, c39, e39, hc39, hx39⟩ := ho39.read (by omega)
 subst e39
 refine BigFrame.wpList_want (by first | rfl | kernel_rfl) (fun K hK => ?_)
 go_simp
 refine (choice_any w.heap.size g _ hD hx39 (by omega) hc39 hfab (fun k hk => hk)).mono ?_
 rintro e w7 ⟨⟨c, v40, rfl, ⟨A3, n3, rfl, hn3, hic⟩, hokc⟩, hDn, hq⟩
 refine hK _ _ ?_
 clear hK K
 replace hxa := hxa.grown hq (fun q e hh => by injection e with e; have := hh.1; unfold Ge at this; omega)
 replace hxb := hxb.grown hq (fun q e hh => by injection e with e; have := hh.1; unfold Ge at this; omega)
 replace k0 := k0.grown hq (by intro e; injection e; omega)
 replace hB := hB.grown hq hB.size (fun q e => by injection e; omega)
 clear hq hD ho39 hx39
 have x0 := k0.cell
 have hf0 := k0.frozen
 have y0 := ((((k0.set_ 0 (.int .i64 c.k)).set_ 1 (.int .i64 c.r)).set_ 2 (.slice A3 c.m.length n3)).set_ 3 (.int .i64 c.s))
 have yB := ((((hB.setCell (p := ⟨w.heap.size, 0, none⟩) (Nat.le_refl _) (.int .i64 c.k)).setCell (p := ⟨w.heap.size, 1, none⟩) (Nat.le_refl _) (.int .i64 c.r)).setCell (p := ⟨w.heap.size, 2, none⟩) (Nat.le_refl _) (.slice A3 c.m.length n3)).setCell (p := ⟨w.heap.size, 3, none⟩) (Nat.le_refl _) (.int .i64 c.s))
 have yA := hxa.grown (d_only_set (d_only_set (d_only_set (d_only_set (World.grownBy.refl _ (some w.heap.size)) 0 (.int .i64 c.k)) 1 (.int .i64 c.r)) 2 (.slice A3 c.m.length n3)) 3 (.int .i64 c.s)) (fun q e hh => by injection e with e; have := hh.1; unfold Ge at this; omega)
 have yBx := hxb.grown (d_only_set (d_only_set (d_only_set (d_only_set (World.grownBy.refl _ (some w.heap.size)) 0 (.int .i64 c.k)) 1 (.int .i64 c.r)) 2 (.slice A3 c.m.length n3)) 3 (.int .i64 c.s)) (fun q e hh => by injection e with e; have := hh.1; unfold Ge at this; omega)
 have yC := RdB.grown hic (d_only_set (d_only_set (d_only_set (d_only_set (World.grownBy.refl _ (some w.heap.size)) 0 (.int .i64 c.k)) 1 (.int .i64 c.r)) 2 (.slice A3 c.m.length n3)) 3 (.int .i64 c.s)) (fun q e => by injection e with e; unfold Ge; omega)
 have yD : DR _ w.heap.size g := ((((hDn.put (p := ⟨w.heap.size, 0, none⟩) (Nat.le_refl _) (Nat.ne_of_gt l0g) (.int .i64 c.k)).put (p := ⟨w.heap.size, 1, none⟩) (Nat.le_refl _) (Nat.ne_of_gt l0g) (.int .i64 c.r)).put (p := ⟨w.heap.size, 2, none⟩) (Nat.le_refl _) (Nat.ne_of_gt l0g) (.slice A3 c.m.length n3)).put (p := ⟨w.heap.size, 3, none⟩) (Nat.le_refl _) (Nat.ne_of_gt l0g) (.int .i64 c.s))
 have y6 := y0.cell
 clear k0 hB hxa hxb hic
 go_wp2
 refine bodyPost_ret (v := .tuple #[.slice (some ad) a.length c1, .slice A2 b2.length c2, .agg #[.int .i64 c.k, .int .i64 c.r, .slice A3 c.m.length n3, .int .i64 c.s], .pointer (some ⟨g, 0, none⟩)]) (by simp [results, Tryz.results11, go_sem, y6]) rfl ⟨⟨g, a, b2, c, (some ad), c1, A2, c2, _, rfl, yA.mono (fun k hk => by have := hk.1; unfold Ge at *; omega), yBx.mono (fun k hk => by have := hk.1; unfold Ge at *; omega), hc1, hc2, HFA.out, HFB.out, by omega, by omega, ⟨A3, n3, rfl, hn3, yC⟩, hokc, yD, Nat.le_of_lt l0g⟩, yB⟩
end Go.Proofs.YtnbdpnlepcjmmaaGreat

namespace Go.Proofs.YtnbdpnlepcjmmaaGreat
open Go.RowKit
def insideB (a b : Bx) : Bool := (a.m.all fun x => decide (x ∈ b.m)) && ((bits .andNot .i64 a.k b.k == 0) && insideF a.r b.r && insideF a.s b.s)
theorem insB_m {a b : Bx} {x : List Int} (hx : x ∈ a.m) (h : x ∉ b.m) : insideB a b = false := by
  unfold insideB
  have : (a.m.all fun x => decide (x ∈ b.m)) = false := List.all_eq_false.2 ⟨x, hx, by simp [h]⟩
  rw [this, Bool.false_and]
theorem insB_k {a b : Bx} (h : bits .andNot .i64 a.k b.k ≠ 0) : insideB a b = false := by
  unfold insideB
  rw [beq_eq_false_iff_ne.2 h]
  simp
theorem insB_r {a b : Bx} (h : insideF a.r b.r = false) : insideB a b = false := by unfold insideB; rw [h]; simp
theorem insB_yes {a b : Bx} (hm : ∀ x ∈ a.m, x ∈ b.m) (hk : bits .andNot .i64 a.k b.k = 0) (hr : insideF a.r b.r = true) : insideB a b = insideF a.s b.s := by
  unfold insideB
  have : (a.m.all fun x => decide (x ∈ b.m)) = true := List.all_eq_true.2 fun x hx => decide_eq_true (hm x hx)
  rw [this, hk, hr]
  rfl
theorem mem_next {a b : List (List Int)} {x : List Int} {k : Nat} (h : ∀ y ∈ a.take k, y ∈ b) (hx : a[k]? = some x) (hb : x ∈ b) : ∀ y ∈ a.take (k + 1), y ∈ b := by
  rw [take_snoc hx]
  intro y hy
  rcases List.mem_append.1 hy with hy | hy
  · exact h y hy
  · simp only [List.mem_singleton] at hy
    exact hy ▸ hb
/-- Box c at k makes that box b at i falls away. -/
def dropAt (i : Nat) (b : Bx) (k : Nat) (c : Bx) : Bool := (decide (k ≠ i) && insideB b c) && (decide (k < i) || !insideB c b)
def dropUp (l : List Bx) (i : Nat) (b : Bx) : Nat → Bool
  | 0 => false
  | n + 1 => dropUp l i b n || (match l[n]? with | some c => dropAt i b n c | none => false)
theorem drop_next {l : List Bx} {i k : Nat} {b c : Bx} (h : l[k]? = some c) : dropUp l i b (k + 1) = (dropUp l i b k || dropAt i b k c) := by
  show (dropUp l i b k || (match l[k]? with | some c => dropAt i b k c | none => false)) = _
  rw [h]
theorem dropAt_self (i : Nat) (b c : Bx) : dropAt i b i c = false := by unfold dropAt; simp
theorem dropAt_not {i k : Nat} {b c : Bx} (h : insideB b c = false) : dropAt i b k c = false := by unfold dropAt; rw [h]; simp
theorem dropAt_lt {i k : Nat} {b c : Bx} (hi : k ≠ i) (h : insideB b c = true) (hk : k < i) : dropAt i b k c = true := by unfold dropAt; rw [h, decide_eq_true hi, decide_eq_true hk]; rfl
theorem dropAt_ge {i k : Nat} {b c : Bx} (hi : k ≠ i) (h : insideB b c = true) (hk : ¬ k < i) : dropAt i b k c = !insideB c b := by unfold dropAt; rw [h, decide_eq_true hi, decide_eq_false hk]; simp
def keepUp (l : List Bx) : Nat → List Bx
  | 0 => []
  | n + 1 => keepUp l n ++ (match l[n]? with | some b => if dropUp l n b l.length = true then [] else [b] | none => [])
theorem keep_next {l : List Bx} {k : Nat} {b : Bx} (h : l[k]? = some b) : keepUp l (k + 1) = keepUp l k ++ (if dropUp l k b l.length = true then [] else [b]) := by
  show keepUp l k ++ (match l[k]? with | some b => if dropUp l k b l.length = true then [] else [b] | none => []) = _
  rw [h]
theorem keep_len (l : List Bx) (n : Nat) : (keepUp l n).length ≤ n := by
  induction n with
  | zero => exact Nat.le_refl _
  | succ n ih =>
    show (keepUp l n ++ _).length ≤ n + 1
    rw [List.length_append]
    have : (match l[n]? with | some b => if dropUp l n b l.length = true then [] else [b] | none => []).length ≤ 1 := by
      split
      · split <;> simp
      · simp
    omega
def reduceL (l : List Bx) : List Bx := keepUp l l.length
theorem reduce_len (l : List Bx) : (reduceL l).length ≤ l.length := keep_len l l.length
theorem keep_mem {l : List Bx} {n : Nat} : ∀ b ∈ keepUp l n, b ∈ l := by
  induction n with
  | zero => exact fun b hb => by cases hb
  | succ n ih =>
    intro b hb
    have hb : b ∈ keepUp l n ++ (match l[n]? with | some b => if dropUp l n b l.length = true then [] else [b] | none => []) := hb
    rcases List.mem_append.1 hb with hb | hb
    · exact ih b hb
    · split at hb
      · rename_i x e
        split at hb
        · cases hb
        · simp only [List.mem_singleton] at hb
          exact hb ▸ List.mem_of_getElem? e
      · cases hb
theorem reduce_mem {l : List Bx} : ∀ b ∈ reduceL l, b ∈ l := keep_mem
/-- A list reduced, and the error. -/
def reduceF (l : List Bx) : List Bx × Int := if validL l = true then (reduceL l, 0) else ([], 1)
/-- Whether dimension j is one of d. -/
def bitZ (d j : Int) : Bool := bits .and .i64 d j != 0
/-- Two boxes intersected in some dimensions. -/
def dimsF (d : Int) (a b : Bx) : Bx := ⟨if bitZ d 1 = true then bits .and .i64 a.k b.k else a.k, if bitZ d 2 = true then interF (spansF a.r) (spansF b.r) else a.r, if bitZ d 4 = true then a.m.filter (fun x => decide (x ∈ b.m)) else a.m, if bitZ d 8 = true then interF (spansF a.s) (spansF b.s) else a.s⟩
def someB (z : Bx) : Bool := (z.k != 0) && decide (0 < z.m.length) && decide (0 < z.r.length) && decide (0 < z.s.length)
def manyB (d : Int) (z : Bx) : Bool := (bitZ d 2 && decide (64 < z.r.length)) || (bitZ d 8 && decide (64 < z.s.length))
def prodStep (d : Int) (x : Bx) (s : Option (List Bx)) (y : Bx) : Option (List Bx) := match s with
  | none => none
  | some out => if someB (dimsF d x y) = true then (if manyB d (dimsF d x y) = true ∨ 64 ≤ out.length then none else some (out ++ [dimsF d x y])) else some out
def prodRow (d : Int) (b : List Bx) (s : Option (List Bx)) (x : Bx) : Option (List Bx) := b.foldl (prodStep d x) s
def prodF (d : Int) (a b : List Bx) : Option (List Bx) := a.foldl (prodRow d b) (some [])
/-- The program's intersection of two boxes. -/
def bothF (a b : Bx) : Bx := ⟨bits .and .i64 a.k b.k, (interF (spansF a.r) (spansF b.r)).take 64, a.m.filter (fun x => decide (x ∈ b.m)), (interF (spansF a.s) (spansF b.s)).take 64⟩
def intStep (x : Bx) (s : Option (List Bx)) (y : Bx) : Option (List Bx) := match s with
  | none => none
  | some out => if someB (bothF x y) = true then (if 64 < piecesN x.r y.r ∨ 64 < piecesN x.s y.s ∨ out.length = 64 then none else some (out ++ [bothF x y])) else some out
def intRow (b : List Bx) (s : Option (List Bx)) (x : Bx) : Option (List Bx) := b.foldl (intStep x) s
def intF (a b : List Bx) : Option (List Bx) := a.foldl (intRow b) (some [])
def interP (a b : List Bx) : List Bx × Int := if validL a = true ∧ validL b = true then (match intF a b with | none => ([], 3) | some out => (reduceL out, 0)) else ([], 1)
def productF (d : Int) (a b : List Bx) : List Bx × Int := match prodF d a b with | none => ([], 3) | some out => reduceF out
def interR (a b : List Bx) : List Bx × Int := if validL a = true ∧ validL b = true then productF 15 a b else ([], 1)
section
variable {α β : Type} {f : Option β → α → Option β} {l : List α} {s : Option β} {k : Nat} {x : α}
theorem fold_next (hx : l[k]? = some x) : (l.take (k + 1)).foldl f s = f ((l.take k).foldl f s) x := by
  rw [take_snoc hx, List.foldl_append]
  rfl
theorem fold_none (h : ∀ x, f none x = none) (l : List α) : l.foldl f none = none := by
  induction l with
  | nil => rfl
  | cons x l ih => rw [List.foldl_cons, h, ih]
/-- Where a loop has stopped early. -/
theorem fold_stop (h : ∀ x, f none x = none) (hx : l[k]? = some x) (hn : f ((l.take k).foldl f s) x = none) : l.foldl f s = none := by
  have e : l = l.take (k + 1) ++ l.drop (k + 1) := (List.take_append_drop _ _).symm
  rw [e, List.foldl_append, fold_next hx, hn, fold_none h]
end
theorem prodStep_none (d : Int) (x y : Bx) : prodStep d x none y = none := rfl
theorem intStep_none (x y : Bx) : intStep x none y = none := rfl
theorem prodRow_none (d : Int) (b : List Bx) (x : Bx) : prodRow d b none x = none := fold_none (prodStep_none d x) b
theorem intRow_none (b : List Bx) (x : Bx) : intRow b none x = none := fold_none (intStep_none x) b
theorem prodStep_no {d : Int} {x y : Bx} {out : List Bx} (h : someB (dimsF d x y) = false) : prodStep d x (some out) y = some out := by
  show (if someB (dimsF d x y) = true then _ else _) = _
  rw [if_neg (by rw [h]; simp)]
theorem prodStep_stop {d : Int} {x y : Bx} {out : List Bx} (h : someB (dimsF d x y) = true) (h2 : manyB d (dimsF d x y) = true ∨ 64 ≤ out.length) : prodStep d x (some out) y = none := by
  show (if someB (dimsF d x y) = true then _ else _) = _
  rw [if_pos h, if_pos h2]
theorem prodStep_yes {d : Int} {x y : Bx} {out : List Bx} (h : someB (dimsF d x y) = true) (h2 : manyB d (dimsF d x y) = false) (h3 : out.length < 64) : prodStep d x (some out) y = some (out ++ [dimsF d x y]) := by
  show (if someB (dimsF d x y) = true then _ else _) = _
  rw [if_pos h, if_neg (fun h => h.elim (fun h => by rw [h2] at h; cases h) (fun h => by omega))]
theorem intStep_no {x y : Bx} {out : List Bx} (h : someB (bothF x y) = false) : intStep x (some out) y = some out := by
  show (if someB (bothF x y) = true then _ else _) = _
  rw [if_neg (by rw [h]; simp)]
theorem intStep_stop {x y : Bx} {out : List Bx} (h : someB (bothF x y) = true) (h2 : 64 < piecesN x.r y.r ∨ 64 < piecesN x.s y.s ∨ out.length = 64) : intStep x (some out) y = none := by
  show (if someB (bothF x y) = true then _ else _) = _
  rw [if_pos h, if_pos h2]
theorem intStep_yes {x y : Bx} {out : List Bx} (h : someB (bothF x y) = true) (h2 : ¬ 64 < piecesN x.r y.r) (h3 : ¬ 64 < piecesN x.s y.s) (h4 : out.length ≠ 64) : intStep x (some out) y = some (out ++ [bothF x y]) := by
  show (if someB (bothF x y) = true then _ else _) = _
  rw [if_pos h, if_neg (fun h => h.elim h2 fun h => h.elim h3 h4)]
/-- The list of the one box with one choice. -/
def oneB (c : Ch) : Bx := ⟨2 ^ c.k.toNat, [(c.r, c.r)], [c.m], [(c.s, c.s)]⟩
def singleF (c : Ch) : List Bx := if 1 ≤ c.k ∧ c.k ≤ 7 ∧ fineB (oneB c) = true then [oneB c] else []
theorem filter_next {a : List (List Int)} {p : List Int → Bool} {k : Nat} {x : List Int} (hx : a[k]? = some x) : (a.take (k + 1)).filter p = (a.take k).filter p ++ (if p x = true then [x] else []) := by
  rw [take_snoc hx, List.filter_append]
  by_cases h : p x = true
  · rw [if_pos h]
    simp [h]
  · rw [if_neg h]
    simp [h]
end Go.Proofs.YtnbdpnlepcjmmaaGreat

namespace Go.Proofs.YtnbdpnlepcjmmaaGreat
open Go.RowKit
set_option maxRecDepth 100000 in
set_option maxHeartbeats 4000000 in
theorem sclone_any (A : Option Addr) (c : Nat) (l : List Sp) (w : World) (h : Sps w A l) (hl : l.length ≤ 1000000) :
    Calls Tryz.prog 129 #[.slice A l.length c] w fun e w' => (∃ v, e = .returned v ∧ Own w' w.heap.size v l) ∧ Grows w w' := by
  go_enter Tryz.func129, Tryz.ntmps129
  go_wp2_with fail
  rw [Lib.run_eql_slice_nil (P := Tryz.prog) w 43 93 _ _ _ _ _ Tryz.underlying43]
  rcases A with _ | ad
  · have h0 : l.length = 0 := by
      rcases Nat.eq_zero_or_pos l.length with h0 | h0
      · exact h0
      · obtain ⟨ad, hh, _⟩ := h.2 h0
        cases hh
    obtain rfl : l = [] := List.length_eq_zero_iff.1 h0
    go_wp2
    go_ret
    exact ⟨⟨_, rfl, own_nil w w.heap.size⟩, Below.refl _ _⟩
  · go_upto_region 3 with fail
    refine wp_region_lit ?_
    iterate 2
      refine wpList_plain rfl (fun K hK => ?_)
      go_simp
      refine hK _ _ ?_
      clear hK K
    have hB1 := (Below.refl w.heap.size w).alloc (Nat.le_refl _) (Obj.cells #[] 93)
    have how : Own (w.alloc (Obj.cells #[] 93)) w.heap.size (.slice (some ⟨w.heap.size, 0, none⟩) 0 0) [] := World.ownsRow_lit w #[] 0 (Nat.le_refl _) (by simp [maxLen]) rfl
    have h1 := h.grows hB1
    generalize hW : World.alloc w _ = w1 at *
    refine wpList_append_sp rfl (.tmp 5) (.tmp 6) rfl (m := l) rfl rfl how rfl h1 (by simpa using hl) hB1.size ?_
    intro v' w2 hown hgr
    have hB2 := how.below hB1 hgr hB1.size
    rw [List.nil_append] at hown
    clear how hgr h1 h hB1 hW
    go_wp2
    go_ret
    exact ⟨⟨_, rfl, hown⟩, hB2⟩
set_option maxHeartbeats 16000000 in
theorem pinsb_any {ba bb : Nat → Prop} {a b : Bx} {A1 A2 A3 B1 B2 B3 : Option Addr} {c1 c2 c3 d1 d2 d3 : Nat} {w : World} (hpa : BoxP w ba a A1 c1 A2 c2 A3 c3) (hpb : BoxP w bb b B1 d1 B2 d2 B3 d3) (hla : OKB a) (hlb : OKB b) :
    Calls Tryz.prog 99 #[.agg #[.int .i64 a.k, .slice A1 a.r.length c1, .slice A2 a.m.length c2, .slice A3 a.s.length c3], .agg #[.int .i64 b.k, .slice B1 b.r.length d1, .slice B2 b.m.length d2, .slice B3 b.s.length d3]] w fun e w' => e = .returned (.bool (insideB a b)) ∧ Grows w w' := by
  obtain ⟨har, has_, ham, hax⟩ := hla
  obtain ⟨hbr, hbs, hbm, hbx⟩ := hlb
  have HAX := Lib.hid hax
  have HBX := Lib.hid hbx
  clear hax hbx
  have ka := ((Blk.new w 48 #[.int .i64 a.k, .slice A1 a.r.length c1, .slice A2 a.m.length c2, .slice A3 a.s.length c3]).alloc (Obj.cells #[.int .i64 b.k, .slice B1 b.r.length d1, .slice B2 b.m.length d2, .slice B3 b.s.length d3] 48))
  have kb := (Blk.new (w.alloc (Obj.cells #[.int .i64 a.k, .slice A1 a.r.length c1, .slice A2 a.m.length c2, .slice A3 a.s.length c3] 48)) 48 #[.int .i64 b.k, .slice B1 b.r.length d1, .slice B2 b.m.length d2, .slice B3 b.s.length d3])
  have hB := (((Below.refl w.heap.size w).alloc (Nat.le_refl _) (Obj.cells #[.int .i64 a.k, .slice A1 a.r.length c1, .slice A2 a.m.length c2, .slice A3 a.s.length c3] 48)).alloc (by simp) (Obj.cells #[.int .i64 b.k, .slice B1 b.r.length d1, .slice B2 b.m.length d2, .slice B3 b.s.length d3] 48))
  go_enter Tryz.func99, Tryz.ntmps99
  go_upto_region 1 with fail
  have hs1 : (w.alloc (Obj.cells #[.int .i64 a.k, .slice A1 a.r.length c1, .slice A2 a.m.length c2, .slice A3 a.s.length c3] 48)).heap.size = w.heap.size + 1 := by simp
  rw [hs1] at kb
  clear hs1
  generalize World.alloc (World.alloc w _) _ = w2 at *
  generalize hG1 : w.heap.size + 1 = G1 at *
  have HG1 := Lib.hid hG1
  clear hG1
  have xa := ka.cell
  go_wp2_with fail
  clear xa
  have hB2 := hB
  clear hB
  go_loopw [10] (fun i wr => ∃ k : Nat, k ≤ a.m.length ∧ i = .int .i64 k ∧ Hid (∀ y ∈ a.m.take k, y ∈ b.m) ∧ Blk wr w.heap.size 48 #[.int .i64 a.k, .slice A1 a.r.length c1, .slice A2 a.m.length c2, .slice A3 a.s.length c3] ∧ Blk wr G1 48 #[.int .i64 b.k, .slice B1 b.r.length d1, .slice B2 b.m.length d2, .slice B3 b.s.length d3] ∧ Below w.heap.size w wr) (fun i _ => a.m.length - (intOf i).toNat)
  case atStart => exact ⟨0, by omega, rfl, Lib.hid (by simp), ka, kb, hB2⟩
  case round =>
    clear ka kb hB2
    obtain ⟨k, hk, rfl, HF, ka, kb, hB⟩ := hrel
    by_cases hlt : k < a.m.length
    · obtain ⟨ad, x, C, cx, e1, had, hx, q0, hcx, hix⟩ := (hpa.m.grows hB).elem hlt
      subst e1
      have HX := Lib.hid hx
      clear hx
      have xb := kb.cell
      go_wp2_with fail
      refine (phas_any B2 C d2 cx b.m x _ rfl (hpb.m.grows hB) hbm HBX.out hix.ints (HAX.out x (List.mem_of_getElem? HX.out))).mono ?_
      by_cases h5 : x ∈ b.m
      · have HN : Hid (∀ y ∈ a.m.take (k + 1), y ∈ b.m) := Lib.hid (mem_next HF.out HX.out h5)
        rw [decide_eq_true h5]
        clear h5
        rintro e w3 ⟨rfl, hq⟩
        replace hB := below_grows hB (Nat.le_refl _) hq
        replace ka := ka.grows hq
        replace kb := kb.grows hq
        clear hq xb q0
        go_wp2
        go_roundw
        case rel => exact ⟨k + 1, by omega, by go_num, HN, ka, kb, hB⟩
        case measure => simp [intOf]; omega
      · have HE : Hid (insideB a b = false) := Lib.hid (insB_m (List.mem_of_getElem? HX.out) h5)
        rw [decide_eq_false h5]
        clear h5
        rintro e w3 ⟨rfl, hq⟩
        replace hB := below_grows hB (Nat.le_refl _) hq
        clear hq xb q0
        go_wp2
        go_ret
        exact ⟨ret_bool HE.out.symm, hB⟩
    · have HM : Hid (∀ y ∈ a.m, y ∈ b.m) := Lib.hid (by have := HF.out; rwa [List.take_of_length_le (by omega)] at this)
      have xa := ka.cell
      have xb := kb.cell
      by_cases h1 : bits .andNot .i64 a.k b.k = 0
      case neg =>
        have HE : Hid (insideB a b = false) := Lib.hid (insB_k h1)
        have dk : (bits .andNot .i64 a.k b.k == 0) = false := by simpa using h1
        clear h1
        go_wp2
        go_ret
        exact ⟨ret_bool HE.out.symm, hB⟩
      have dk : (bits .andNot .i64 a.k b.k == 0) = true := by simpa using h1
      have HK := Lib.hid h1
      clear h1
      go_wp2_with fail
      refine (inside_any A1 c1 a.r B1 d1 b.r _ (hpa.r.grows hB).sps (by omega) (hpb.r.grows hB).sps (by omega)).mono ?_
      cases hv : insideF a.r b.r
      · have HE : Hid (insideB a b = false) := Lib.hid (insB_r hv)
        clear hv
        rintro e w3 ⟨rfl, hq⟩
        replace hB := below_grows hB (Nat.le_refl _) hq
        clear hq xa xb
        go_wp2
        go_ret
        exact ⟨ret_bool HE.out.symm, hB⟩
      · have HR := Lib.hid hv
        clear hv
        rintro e w3 ⟨rfl, hq⟩
        replace hB := below_grows hB (Nat.le_refl _) hq
        replace ka := ka.grows hq
        replace kb := kb.grows hq
        clear hq xa xb
        have xa := ka.cell
        have xb := kb.cell
        go_wp2_with fail
        have HE : Hid (insideB a b = insideF a.s b.s) := Lib.hid (insB_yes HM.out HK.out HR.out)
        refine (inside_any A3 c3 a.s B3 d3 b.s _ (hpa.s.grows hB).sps (by omega) (hpb.s.grows hB).sps (by omega)).mono ?_
        rintro e w4 ⟨rfl, hq⟩
        replace hB := below_grows hB (Nat.le_refl _) hq
        clear hq xa xb
        generalize insideF a.s b.s = ibs at *
        go_wp2
        go_ret
        exact ⟨ret_bool HE.out.symm, hB⟩
set_option maxHeartbeats 16000000 in
theorem rinsb_any {ba bb : Nat → Prop} {a b : Bx} {A1 A2 A3 B1 B2 B3 : Option Addr} {c1 c2 c3 d1 d2 d3 : Nat} {w : World} (hpa : BoxP w ba a A1 c1 A2 c2 A3 c3) (hpb : BoxP w bb b B1 d1 B2 d2 B3 d3) (hla : OKB a) (hlb : OKB b) :
    Calls Tryz.prog 69 #[.agg #[.int .i64 a.k, .slice A1 a.r.length c1, .slice A2 a.m.length c2, .slice A3 a.s.length c3], .agg #[.int .i64 b.k, .slice B1 b.r.length d1, .slice B2 b.m.length d2, .slice B3 b.s.length d3]] w fun e w' => e = .returned (.bool (insideB a b)) ∧ Grows w w' := by
  obtain ⟨har, has_, ham, hax⟩ := hla
  obtain ⟨hbr, hbs, hbm, hbx⟩ := hlb
  have HAX := Lib.hid hax
  have HBX := Lib.hid hbx
  clear hax hbx
  have ka := ((Blk.new w 48 #[.int .i64 a.k, .slice A1 a.r.length c1, .slice A2 a.m.length c2, .slice A3 a.s.length c3]).alloc (Obj.cells #[.int .i64 b.k, .slice B1 b.r.length d1, .slice B2 b.m.length d2, .slice B3 b.s.length d3] 48))
  have kb := (Blk.new (w.alloc (Obj.cells #[.int .i64 a.k, .slice A1 a.r.length c1, .slice A2 a.m.length c2, .slice A3 a.s.length c3] 48)) 48 #[.int .i64 b.k, .slice B1 b.r.length d1, .slice B2 b.m.length d2, .slice B3 b.s.length d3])
  have hB := (((Below.refl w.heap.size w).alloc (Nat.le_refl _) (Obj.cells #[.int .i64 a.k, .slice A1 a.r.length c1, .slice A2 a.m.length c2, .slice A3 a.s.length c3] 48)).alloc (by simp) (Obj.cells #[.int .i64 b.k, .slice B1 b.r.length d1, .slice B2 b.m.length d2, .slice B3 b.s.length d3] 48))
  go_enter Tryz.func69, Tryz.ntmps69
  go_upto_region 1 with fail
  have hs1 : (w.alloc (Obj.cells #[.int .i64 a.k, .slice A1 a.r.length c1, .slice A2 a.m.length c2, .slice A3 a.s.length c3] 48)).heap.size = w.heap.size + 1 := by simp
  rw [hs1] at kb
  clear hs1
  generalize World.alloc (World.alloc w _) _ = w2 at *
  generalize hG1 : w.heap.size + 1 = G1 at *
  have HG1 := Lib.hid hG1
  clear hG1
  have xa := ka.cell
  go_wp2_with fail
  clear xa
  have hB2 := hB
  clear hB
  go_loopw [10] (fun i wr => ∃ k : Nat, k ≤ a.m.length ∧ i = .int .i64 k ∧ Hid (∀ y ∈ a.m.take k, y ∈ b.m) ∧ Blk wr w.heap.size 48 #[.int .i64 a.k, .slice A1 a.r.length c1, .slice A2 a.m.length c2, .slice A3 a.s.length c3] ∧ Blk wr G1 48 #[.int .i64 b.k, .slice B1 b.r.length d1, .slice B2 b.m.length d2, .slice B3 b.s.length d3] ∧ Below w.heap.size w wr) (fun i _ => a.m.length - (intOf i).toNat)
  case atStart => exact ⟨0, by omega, rfl, Lib.hid (by simp), ka, kb, hB2⟩
  case round =>
    clear ka kb hB2
    obtain ⟨k, hk, rfl, HF, ka, kb, hB⟩ := hrel
    by_cases hlt : k < a.m.length
    · obtain ⟨ad, x, C, cx, e1, had, hx, q0, hcx, hix⟩ := (hpa.m.grows hB).elem hlt
      subst e1
      have HX := Lib.hid hx
      clear hx
      have xb := kb.cell
      go_wp2_with fail
      refine (rhas_any B2 C d2 cx b.m x _ rfl (hpb.m.grows hB) hbm HBX.out hix.ints (HAX.out x (List.mem_of_getElem? HX.out))).mono ?_
      by_cases h5 : x ∈ b.m
      · have HN : Hid (∀ y ∈ a.m.take (k + 1), y ∈ b.m) := Lib.hid (mem_next HF.out HX.out h5)
        rw [decide_eq_true h5]
        clear h5
        rintro e w3 ⟨rfl, hq⟩
        replace hB := below_grows hB (Nat.le_refl _) hq
        replace ka := ka.grows hq
        replace kb := kb.grows hq
        clear hq xb q0
        go_wp2
        go_roundw
        case rel => exact ⟨k + 1, by omega, by go_num, HN, ka, kb, hB⟩
        case measure => simp [intOf]; omega
      · have HE : Hid (insideB a b = false) := Lib.hid (insB_m (List.mem_of_getElem? HX.out) h5)
        rw [decide_eq_false h5]
        clear h5
        rintro e w3 ⟨rfl, hq⟩
        replace hB := below_grows hB (Nat.le_refl _) hq
        clear hq xb q0
        go_wp2
        go_ret
        exact ⟨ret_bool HE.out.symm, hB⟩
    · have HM : Hid (∀ y ∈ a.m, y ∈ b.m) := Lib.hid (by have := HF.out; rwa [List.take_of_length_le (by omega)] at this)
      have xa := ka.cell
      have xb := kb.cell
      by_cases h1 : bits .andNot .i64 a.k b.k = 0
      case neg =>
        have HE : Hid (insideB a b = false) := Lib.hid (insB_k h1)
        have dk : (bits .andNot .i64 a.k b.k == 0) = false := by simpa using h1
        clear h1
        go_wp2
        go_ret
        exact ⟨ret_bool HE.out.symm, hB⟩
      have dk : (bits .andNot .i64 a.k b.k == 0) = true := by simpa using h1
      have HK := Lib.hid h1
      clear h1
      go_wp2_with fail
      refine (rinside_any A1 c1 a.r B1 d1 b.r _ (hpa.r.grows hB).sps (by omega) (hpb.r.grows hB).sps (by omega)).mono ?_
      cases hv : insideF a.r b.r
      · have HE : Hid (insideB a b = false) := Lib.hid (insB_r hv)
        clear hv
        rintro e w3 ⟨rfl, hq⟩
        replace hB := below_grows hB (Nat.le_refl _) hq
        clear hq xa xb
        go_wp2
        go_ret
        exact ⟨ret_bool HE.out.symm, hB⟩
      · have HR := Lib.hid hv
        clear hv
        rintro e w3 ⟨rfl, hq⟩
        replace hB := below_grows hB (Nat.le_refl _) hq
        replace ka := ka.grows hq
        replace kb := kb.grows hq
        clear hq xa xb
        have xa := ka.cell
        have xb := kb.cell
        go_wp2_with fail
        have HE : Hid (insideB a b = insideF a.s b.s) := Lib.hid (insB_yes HM.out HK.out HR.out)
        refine (rinside_any A3 c3 a.s B3 d3 b.s _ (hpa.s.grows hB).sps (by omega) (hpb.s.grows hB).sps (by omega)).mono ?_
        rintro e w4 ⟨rfl, hq⟩
        replace hB := below_grows hB (Nat.le_refl _) hq
        clear hq xa xb
        generalize insideF a.s b.s = ibs at *
        go_wp2
        go_ret
        exact ⟨ret_bool HE.out.symm, hB⟩
end Go.Proofs.YtnbdpnlepcjmmaaGreat

namespace Go.Proofs.YtnbdpnlepcjmmaaGreat
open Go.RowKit
theorem gr_append_mapq {o : Oper} {ev : Operand → Value} {w : World} {T : Value → World → Prop} (s x : Operand) (ho : o.op = .call { callee := .builtin .append, args := #[s, x], argTypes := #[46, 46] })
    {base : Nat} {ok : Nat → Prop} {v : Value} {ms : List (List Int)} {m : List Int} {A B : Option Addr} {c cm : Nat} (hs : ev s = v) (hown : OwnMq w base ok v ms) (hx : ev x = .slice A 1 c) (hr : Reads w w.heap.size 1 A 1 [.slice B m.length cm]) (hlen : ms.length + 1 ≤ 1000000) (hbase : base ≤ w.heap.size)
    (hm : InB w ok B m) (hcm : m.length ≤ cm) (hne : ∀ ad, B = some ad → 0 < m.length → v.ownBlock ≠ some ad.block)
    (h : ∀ v' w', OwnMq w' base ok v' (ms ++ [m]) → w.grownBy w' v.ownBlock → T v' w') : genR Tryz.prog T ((execOp ev o).run Tryz.prog w) := by
  obtain ⟨i0, hi0, hi1, hi2, hi3, hi4⟩ := ms_info
  obtain ⟨vs, h1, h2⟩ := hown
  obtain ⟨v', w', hrun, h3, h4, h5⟩ := run_append_any (P := Tryz.prog) w base 46 o.type 23 i0 _ 1 24 Tryz.underlying46 hi0 hi3 hi1 hi2 hi4 (by omega) v ms.length vs h1 w.heap.size A 1 c [.slice B m.length cm] hr (by intro u hu; simp only [List.mem_singleton] at hu; subst hu; rfl) (by simp only [maxLen]; omega) (by omega) hbase
  unfold execOp
  simp only [ho, resolve, invoke, builtin, Sem.run_bind, Sem.run_pure, Result.andThen_ok, List.map_toArray, List.map_cons, List.map_nil, hs, hx, hrun]
  refine h v' w' ⟨vs ++ [.slice B m.length cm], by rw [List.length_append]; exact h3, fun i y hy => ?_⟩ h4
  have hapart : ∀ (y : List Int) (C : Option Addr), InB w ok C y → (∀ ad, C = some ad → 0 < y.length → v.ownBlock ≠ some ad.block) → ∀ ad, C = some ad → 0 < y.length → v'.ownBlock ≠ some ad.block := by
    intro y C hy hn ad e hl e2
    rcases h5 with h5 | h5
    · exact hn ad e hl (h5 ▸ e2)
    · rw [h5] at e2
      injection e2 with e2
      obtain ⟨ad0, e0, hb, _⟩ := hy.1.2 hl
      rw [e] at e0
      injection e0 with e0
      subst e0
      omega
  have hvl : vs.length = ms.length := by have := h1.1; omega
  by_cases hi : i < ms.length
  · rw [List.getElem?_append_left hi] at hy
    obtain ⟨C, cy, e, hc, hi6, hn⟩ := h2 i y hy
    exact ⟨C, cy, by rw [List.getElem?_append_left (by omega)]; exact e, hc, hi6.away h4 hn, hapart y C hi6 hn⟩
  · rw [List.getElem?_append_right (by omega)] at hy
    have hi0 : i - ms.length = 0 := by
      have := (List.getElem?_eq_some_iff.1 hy).1
      simp only [List.length_singleton] at this
      omega
    rw [hi0] at hy
    simp only [List.getElem?_cons_zero, Option.some.injEq] at hy
    subst hy
    exact ⟨B, cm, by rw [List.getElem?_append_right (by omega), show i - vs.length = 0 by omega]; rfl, hcm, hm.away h4 hne, hapart m B hm hne⟩
set_option maxHeartbeats 32000000 in
set_option maxRecDepth 10000 in
theorem copied_any {ba : Nat → Prop} {b : Bx} {A1 A2 A3 : Option Addr} {c1 c2 c3 : Nat} {w : World} (hp : BoxP w ba b A1 c1 A2 c2 A3 c3) (hl : OKB b) :
    Calls Tryz.prog 100 #[.agg #[.int .i64 b.k, .slice A1 b.r.length c1, .slice A2 b.m.length c2, .slice A3 b.s.length c3]] w fun e w' => (∃ v, e = .returned v ∧ BoxV w' (Ge w.heap.size) b v) ∧ Grows w w' := by
  obtain ⟨hlr, hls, hlm, hlx⟩ := hl
  have HLX := Lib.hid hlx
  clear hlx
  have k1 := (Blk.new w 48 #[.int .i64 b.k, .slice A1 b.r.length c1, .slice A2 b.m.length c2, .slice A3 b.s.length c3]).alloc (Obj.cells #[.int .i64 0, .slice none 0 0, .slice none 0 0, .slice none 0 0] 48)
  have k2 := blk_new_at (X := w.alloc (Obj.cells #[.int .i64 b.k, .slice A1 b.r.length c1, .slice A2 b.m.length c2, .slice A3 b.s.length c3] 48)) (n := w.heap.size + 1) (t := 48) (cs := #[.int .i64 0, .slice none 0 0, .slice none 0 0, .slice none 0 0]) (by simp)
  have hB := ((Below.refl w.heap.size w).alloc (Nat.le_refl _) (Obj.cells #[.int .i64 b.k, .slice A1 b.r.length c1, .slice A2 b.m.length c2, .slice A3 b.s.length c3] 48)).alloc (by simp) (Obj.cells #[.int .i64 0, .slice none 0 0, .slice none 0 0, .slice none 0 0] 48)
  go_enter Tryz.func100, Tryz.ntmps100
  go_upto_region 1 with fail
  generalize World.alloc (World.alloc w _) _ = w1 at *
  have l2 := k2.lt
  have x1 := k1.cell
  have k3 := Blk.new w1 48 #[.int .i64 b.k, .slice none 0 0, .slice none 0 0, .slice none 0 0]
  have hq := (Below.refl w1.heap.size w1).alloc (Nat.le_refl _) (Obj.cells #[.int .i64 b.k, .slice none 0 0, .slice none 0 0, .slice none 0 0] 48)
  go_upto_region 2 with fail
  replace hB := below_grows hB (Nat.le_refl _) hq
  replace k1 := k1.grows hq
  replace k2 := k2.grows hq
  clear hq x1
  generalize World.alloc w1 _ = w3 at *
  generalize w1.heap.size = G3 at *
  have l3 := k3.lt
  have x1 := k1.cell
  go_wp2_with fail
  refine (sclone_any A1 c1 b.r _ (hp.r.grows hB).sps hlr).mono ?_
  rintro e w4 ⟨⟨v, rfl, hown⟩, hq⟩
  obtain ⟨A5, c5, rfl, hc5, hr⟩ := SpB.of_own hown
  replace hr : RdB w4 (Ge (G3 + 1)) 2 A5 b.r.length (scells b.r) := RdB.mono hr (fun k hk => by unfold Ge at *; omega)
  replace hB := below_grows hB (Nat.le_refl _) hq
  replace k1 := k1.grows hq
  replace k2 := k2.grows hq
  replace k3 := k3.grows hq
  clear hq hown x1 l3
  have y3 := k3.cell
  have hf3 := k3.frozen
  replace k1 := k1.far (p := ⟨G3, 1, none⟩) (show w.heap.size ≠ G3 by omega) (.slice A5 b.r.length c5)
  replace k2 := k2.far (p := ⟨G3, 1, none⟩) (show w.heap.size + 1 ≠ G3 by omega) (.slice A5 b.r.length c5)
  replace k3 := k3.set_ 1 (.slice A5 b.r.length c5)
  replace hB := hB.setCell (p := ⟨G3, 1, none⟩) (show w.heap.size ≤ G3 by omega) (.slice A5 b.r.length c5)
  replace hr := RdB.grown hr (d_only_set (World.grownBy.refl _ (some G3)) 1 (.slice A5 b.r.length c5)) (fun q e => by injection e with e; unfold Ge; omega)
  go_upto_region 3 with fail
  clear y3 hf3
  generalize World.setCell w4 _ _ = w5 at *
  have l3 := k3.lt
  have x1 := k1.cell
  go_wp2_with fail
  refine (sclone_any A3 c3 b.s _ (hp.s.grows hB).sps hls).mono ?_
  rintro e w6 ⟨⟨v, rfl, hown⟩, hq⟩
  obtain ⟨A6, c6, rfl, hc6, hs⟩ := SpB.of_own hown
  replace hs : RdB w6 (Ge (G3 + 1)) 2 A6 b.s.length (scells b.s) := RdB.mono hs (fun k hk => by unfold Ge at *; omega)
  replace hB := below_grows hB (Nat.le_refl _) hq
  replace hr := RdB.grows hr hq
  replace k1 := k1.grows hq
  replace k2 := k2.grows hq
  replace k3 := k3.grows hq
  clear hq hown x1 l3
  have y3 := k3.cell
  have hf3 := k3.frozen
  replace k1 := k1.far (p := ⟨G3, 3, none⟩) (show w.heap.size ≠ G3 by omega) (.slice A6 b.s.length c6)
  replace k2 := k2.far (p := ⟨G3, 3, none⟩) (show w.heap.size + 1 ≠ G3 by omega) (.slice A6 b.s.length c6)
  replace k3 := k3.set_ 3 (.slice A6 b.s.length c6)
  replace hB := hB.setCell (p := ⟨G3, 3, none⟩) (show w.heap.size ≤ G3 by omega) (.slice A6 b.s.length c6)
  replace hr := RdB.grown hr (d_only_set (World.grownBy.refl _ (some G3)) 3 (.slice A6 b.s.length c6)) (fun q e => by injection e with e; unfold Ge; omega)
  replace hs := RdB.grown hs (d_only_set (World.grownBy.refl _ (some G3)) 3 (.slice A6 b.s.length c6)) (fun q e => by injection e with e; unfold Ge; omega)
  go_upto_region 4 with fail
  clear y3 hf3
  generalize World.setCell w6 _ _ = w7 at *
  have l3 := k3.lt
  have x1 := k1.cell
  go_wp2_with fail
  clear x1
  obtain ⟨b2, hb2⟩ : ∃ b2, b2 = w7.heap.size := ⟨_, rfl⟩
  have hb3 : b2 ≤ w7.heap.size := by omega
  rw [← hb2] at l3
  replace hr : RdB w7 (Btw (G3 + 1) b2) 2 A5 b.r.length (scells b.r) := ⟨hr.1, fun hn ad e => ⟨hr.2 hn ad e, by rw [hb2]; exact (RdB.under hr).2 hn ad e⟩⟩
  replace hs : RdB w7 (Btw (G3 + 1) b2) 2 A6 b.s.length (scells b.s) := ⟨hs.1, fun hn ad e => ⟨hs.2 hn ad e, by rw [hb2]; exact (RdB.under hs).2 hn ad e⟩⟩
  clear hb2
  go_loopw [24] (fun i wr => ∃ (k : Nat) (V : Value), k ≤ b.m.length ∧ i = .int .i64 k ∧ b2 ≤ wr.heap.size ∧ OwnMq wr b2 (Ge b2) V (b.m.take k) ∧ RdB wr (Btw (G3 + 1) b2) 2 A5 b.r.length (scells b.r) ∧ RdB wr (Btw (G3 + 1) b2) 2 A6 b.s.length (scells b.s) ∧ Blk wr w.heap.size 48 #[.int .i64 b.k, .slice A1 b.r.length c1, .slice A2 b.m.length c2, .slice A3 b.s.length c3] ∧ Blk wr (w.heap.size + 1) 48 #[.int .i64 0, .slice none 0 0, .slice none 0 0, .slice none 0 0] ∧ Blk wr G3 48 #[.int .i64 b.k, .slice A5 b.r.length c5, V, .slice A6 b.s.length c6] ∧ Below w.heap.size w wr) (fun i _ => b.m.length - (intOf i).toNat)
  case atStart => exact ⟨0, _, by omega, rfl, hb3, OwnMq.nil, hr, hs, k1, k2, k3, hB⟩
  case round =>
    clear hr hs k1 k2 k3 hB hb3
    obtain ⟨k, V, hk, rfl, hb3, ho, hr, hs, k1, k2, k3, hB⟩ := hrel
    obtain ⟨A2', c2', rfl, hc2', -⟩ := ho.read
    have hkl : (b.m.take k).length ≤ 1000000 := by rw [List.length_take]; omega
    by_cases hlt : k < b.m.length
    · obtain ⟨ad, x, B0, cm, e1, had, hx, q0, hcm, hix⟩ := hp.m.elem hlt
      replace q0 := (hB.cell (p := ad.add k) (by rw [block_of_add]; exact had)).trans q0
      subst e1
      have HT : Hid (b.m.take (k + 1) = b.m.take k ++ [x]) := Lib.hid (take_snoc hx)
      have hxl : x.length ≤ 1000000 := HLX.out x (List.mem_of_getElem? hx)
      clear hx
      replace hkl : (b.m.take k).length + 1 ≤ 1000000 := by rw [List.length_take]; omega
      generalize b.m.take k = ms at *
      go_upto_region 7 with fail
      clear q0
      have qB := hB
      have qr := hr
      have qs := hs
      have qk1 := k1
      have qk2 := k2
      have qk3 := k3
      have qh := hb3
      clear hB hr hs k1 k2 k3 hb3
      obtain ⟨S, HI, HO⟩ := hideS fun (L : Ran) (vs : Nat → Value) (w' : World) => ((Below w.heap.size w w' ∧ RdB w' (Btw (G3 + 1) b2) 2 A5 b.r.length (scells b.r) ∧ RdB w' (Btw (G3 + 1) b2) 2 A6 b.s.length (scells b.s) ∧ Blk w' w.heap.size 48 #[.int .i64 b.k, .slice A1 b.r.length c1, .slice (some ad) b.m.length c2, .slice A3 b.s.length c3] ∧ Blk w' (w.heap.size + 1) 48 #[.int .i64 0, .slice none 0 0, .slice none 0 0, .slice none 0 0] ∧ Blk w' G3 48 #[.int .i64 b.k, .slice A5 b.r.length c5, .slice A2' ms.length c2', .slice A6 b.s.length c6] ∧ b2 ≤ w'.heap.size) ∧ KnS [some (.pointer (some ⟨G3, 2, none⟩)), some (Value.slice A2' ms.length c2'), some (.slice B0 x.length cm), none, none, none] L vs ∧ (L 5 = true → L 4 = true) ∧ (L 4 = true → L 3 = true) ∧ (L 5 = false → OwnMq w' b2 (Ge b2) (Value.slice A2' ms.length c2') (ms)) ∧ (L 3 = true → L 5 = false → ∃ (B : Option Addr) (cx : Nat), vs 3 = .slice B x.length cx ∧ x.length ≤ cx ∧ InB w' (Ge b2) B x ∧ ∀ ad, B = some ad → 0 < x.length → (Value.slice A2' ms.length c2' : Value).ownBlock ≠ some ad.block) ∧ (L 4 = true → L 5 = false → ∃ gb : Nat, vs 4 = .slice (some ⟨gb, 0, none⟩) 1 1 ∧ Blk w' gb 23 #[vs 3]) ∧ (L 5 = true → OwnMq w' b2 (Ge b2) (vs 5) (ms ++ [x])))
      refine wp_region_genT S 6 37 (by kernel_rfl) (by kernel_rfl) rfl ?_ ?_
      · have hg := Grows.drew' wr
        exact HI.out _ _ _ ⟨⟨below_grows qB (Nat.le_refl _) hg, RdB.grows qr hg, RdB.grows qs hg, qk1.grows hg, qk2.grows hg, qk3.grows hg, Nat.le_trans qh hg.size⟩, kn_none _ _, (fun h => by cases h), (fun h => by cases h), (fun _ => ho.grows hg), (fun h => by cases h), (fun h => by cases h), (fun h => by cases h)⟩
      simp only [List.take_succ_cons, List.take_zero, List.drop_succ_cons, List.drop_zero]
      refine gent_consR (fun vs L w1 hL hw1 => ?_) ?_
      · obtain ⟨⟨qB, qr, qs, qk1, qk2, qk3, qh⟩, q1, c5, c4, o5, q3, q4, q5⟩ := HO.out _ _ _ hw1
        refine gen_plain rfl ?_
        go_simp
        exact gr_val (HI.out _ _ _ ⟨⟨qB, qr, qs, qk1, qk2, qk3, qh⟩, kn_known q1 rfl, c5, c4, o5, q3, q4, q5⟩)
      refine gent_consR (fun vs L w1 hL hw1 => ?_) ?_
      · obtain ⟨⟨qB, qr, qs, qk1, qk2, qk3, qh⟩, q1, c5, c4, o5, q3, q4, q5⟩ := HO.out _ _ _ hw1
        have l0 : L 0 = true := hL.need 0 (by kernel_rfl)
        have e0 := q1 0 _ rfl l0
        have xc := qk3.cell 2
        refine gen_plain rfl ?_
        simp only [e0]
        go_simp
        exact gr_val (HI.out _ _ _ ⟨⟨qB, qr, qs, qk1, qk2, qk3, qh⟩, kn_known q1 rfl, c5, c4, o5, q3, q4, q5⟩)
      refine gent_consR (fun vs L w1 hL hw1 => ?_) ?_
      · obtain ⟨⟨qB, qr, qs, qk1, qk2, qk3, qh⟩, q1, c5, c4, o5, q3, q4, q5⟩ := HO.out _ _ _ hw1
        refine gen_plain rfl ?_
        go_simp
        exact gr_val (HI.out _ _ _ ⟨⟨qB, qr, qs, qk1, qk2, qk3, qh⟩, kn_known q1 rfl, c5, c4, o5, q3, q4, q5⟩)
      refine gent_consR (fun vs L w1 hL hw1 => ?_) ?_
      · obtain ⟨⟨qB, qr, qs, qk1, qk2, qk3, qh⟩, q1, c5, c4, o5, q3, q4, q5⟩ := HO.out _ _ _ hw1
        have n3 : L 3 = false := hL.1
        have n4 : L 4 = false := by
          cases h : L 4
          · rfl
          · rw [c4 h] at n3; cases n3
        have n5 : L 5 = false := by
          cases h : L 5
          · rfl
          · rw [c5 h] at n4; cases n4
        have l2 : L 2 = true := hL.need 2 (by kernel_rfl)
        have e2 := q1 2 _ rfl l2
        refine gen_plain rfl ?_
        simp only [e2]
        go_simp
        refine gr_call ?_
        refine (iclone_any B0 cm x _ (hix.ints.grows qB) hxl).mono ?_
        rintro e wc ⟨⟨v, rfl, hown⟩, hg⟩
        obtain ⟨B, cx, rfl, hcx, hib⟩ := InB.of_own hown
        have hlt := (o5 n5).lt
        have hap : ∀ ad, B = some ad → 0 < x.length → (Value.slice A2' ms.length c2' : Value).ownBlock ≠ some ad.block := fun ad e hl e2 => by
          have h8 := (hlt _ e2).2
          have h9 := hib.2 hl ad e
          unfold Ge at h9
          omega
        exact ⟨_, rfl, HI.out _ _ _ ⟨⟨below_grows qB (Nat.le_refl _) hg, RdB.grows qr hg, RdB.grows qs hg, qk1.grows hg, qk2.grows hg, qk3.grows hg, Nat.le_trans qh hg.size⟩, kn_free q1 rfl, c5, (fun _ => rfl), (fun _ => (o5 n5).grows hg), (fun _ _ => ⟨B, cx, rfl, hcx, hib.mono (fun k hk => by unfold Ge at *; omega), hap⟩), (fun h => by rw [show L 4 = true from h] at n4; cases n4), (fun h => by rw [show L 5 = true from h] at n5; cases n5)⟩⟩
      refine gent_consR (fun vs L w1 hL hw1 => ?_) ?_
      · obtain ⟨⟨qB, qr, qs, qk1, qk2, qk3, qh⟩, q1, c5, c4, o5, q3, q4, q5⟩ := HO.out _ _ _ hw1
        have n4 : L 4 = false := hL.1
        have n5 : L 5 = false := by
          cases h : L 5
          · rfl
          · rw [c5 h] at n4; cases n4
        have l3 : L 3 = true := hL.need 3 (by kernel_rfl)
        obtain ⟨B, cx, e3, hcx, hib, hap⟩ := q3 l3 n5
        refine gen_plain rfl ?_
        simp only [e3]
        go_simp
        have hg := (Below.refl w1.heap.size w1).alloc (Nat.le_refl _) (Obj.cells #[.slice B x.length cx] 23)
        have hk := Blk.new w1 23 #[.slice B x.length cx]
        exact gr_val (HI.out _ _ _ ⟨⟨below_grows qB (Nat.le_refl _) hg, RdB.grows qr hg, RdB.grows qs hg, qk1.grows hg, qk2.grows hg, qk3.grows hg, Nat.le_trans qh hg.size⟩, kn_free q1 rfl, (fun _ => rfl), (fun _ => l3), (fun _ => (o5 n5).grows hg), (fun _ _ => ⟨B, cx, e3, hcx, hib.grows hg, hap⟩), (fun _ _ => ⟨w1.heap.size, rfl, by rw [show setV vs 4 _ 3 = vs 3 from rfl, e3]; exact hk⟩), (fun h => by rw [show L 5 = true from h] at n5; cases n5)⟩)
      refine gent_consR (fun vs L w1 hL hw1 => ?_) ?_
      · obtain ⟨⟨qB, qr, qs, qk1, qk2, qk3, qh⟩, q1, c5, c4, o5, q3, q4, q5⟩ := HO.out _ _ _ hw1
        have n5 : L 5 = false := hL.1
        have l4 : L 4 = true := hL.need 4 (by kernel_rfl)
        have l3 := c4 l4
        have l1 : L 1 = true := hL.need 1 (by kernel_rfl)
        have e1 := q1 1 _ rfl l1
        obtain ⟨B, cx, e3, hcx, hib, hap⟩ := q3 l3 n5
        obtain ⟨gb, e4, hk⟩ := q4 l4 n5
        rw [e3] at hk
        have o6 := o5 n5
        have hob := o6.lt
        refine gen_plain rfl ?_
        have hrd : Reads w1 w1.heap.size 1 (some ⟨gb, 0, none⟩) 1 [.slice B x.length cx] := ⟨rfl, fun _ => ⟨_, rfl, hk.lt, fun j u hu => by rw [add_head, hk.cell, ← Array.getElem?_toList]; exact hu⟩⟩
        refine gr_append_mapq (.tmp 29) (.tmp 32) rfl e1 o6 e4 hrd (by omega) qh hib hcx hap ?_
        intro v3 w3 o7 g3
        exact HI.out _ _ _ ⟨⟨qB.grown g3 qB.size (fun q e => by have := (hob q e).1; omega), RdB.grown qr g3 (fun q e => by have := (hob q e).1; unfold Btw; omega), RdB.grown qs g3 (fun q e => by have := (hob q e).1; unfold Btw; omega), qk1.grown g3 (fun e => by have := (hob _ e.symm).1; omega), qk2.grown g3 (fun e => by have := (hob _ e.symm).1; omega), qk3.grown g3 (fun e => by have := (hob _ e.symm).1; omega), Nat.le_trans qh g3.size⟩, kn_free q1 rfl, (fun _ => l4), c4, (fun h => by cases h), (fun _ h => by cases h), (fun _ h => by cases h), (fun _ => o7)⟩
      refine gent_nil ?_
      intro vs L W2 hall hS
      obtain ⟨⟨qB, qr, qs, qk1, qk2, qk3, qh⟩, q1, -, -, -, -, -, q5⟩ := HO.out _ _ _ hS
      have ho := q5 (hall 5 (by omega))
      have e0 := q1 0 _ rfl (hall 0 (by omega))
      have e1 := q1 1 _ rfl (hall 1 (by omega))
      have e2 := q1 2 _ rfl (hall 2 (by omega))
      clear hall hS HI HO q1 q5
      simp only [e0, e1, e2]
      obtain ⟨A7, c7, e7, hc7, -⟩ := ho.read
      rw [e7] at ho
      simp only [e7]
      clear e7 e0 e1 e2
      generalize vs 3 = y3 at *
      generalize vs 4 = y4 at *
      clear vs
      generalize ms ++ [x] = ms2 at *
      have y3 := qk3.cell
      have hf3 := qk3.frozen
      replace qB := qB.setCell (p := ⟨G3, 2, none⟩) (show w.heap.size ≤ G3 by omega) (.slice A7 ms2.length c7)
      replace qk1 := qk1.far (p := ⟨G3, 2, none⟩) (show w.heap.size ≠ G3 by omega) (.slice A7 ms2.length c7)
      replace qk2 := qk2.far (p := ⟨G3, 2, none⟩) (show w.heap.size + 1 ≠ G3 by omega) (.slice A7 ms2.length c7)
      replace qk3 := qk3.set_ 2 (.slice A7 ms2.length c7)
      replace qr := RdB.grown qr (d_only_set (World.grownBy.refl _ (some G3)) 2 (.slice A7 ms2.length c7)) (fun q e => by injection e with e; unfold Btw; omega)
      replace qs := RdB.grown qs (d_only_set (World.grownBy.refl _ (some G3)) 2 (.slice A7 ms2.length c7)) (fun q e => by injection e with e; unfold Btw; omega)
      replace ho := ho.only (d_only_set (World.grownBy.refl _ (some G3)) 2 (.slice A7 ms2.length c7)) (by omega) (by unfold Ge; omega)
      have qh2 : b2 ≤ (W2.setCell ⟨G3, 2, none⟩ (.slice A7 ms2.length c7)).heap.size := by simpa [World.setCell] using qh
      clear qh
      have qh := qh2
      clear qh2
      go_wp2
      generalize World.setCell W2 _ _ = w8 at *
      go_wp2
      go_roundw
      case rel => exact ⟨k + 1, _, by omega, by go_num, qh, by rw [HT.out]; exact ho, qr, qs, qk1, qk2, qk3, qB⟩
      case measure => simp [intOf]; omega
    · rw [List.take_of_length_le (by omega)] at *
      obtain ⟨A9, c9, e9, hc9, hmr⟩ := ho.read
      injection e9 with e9 _ e10
      subst e9
      subst e10
      have x3 := k3.cell
      have x0 := k2.cell
      have hf0 := k2.frozen
      have y0 := ((((k2.set_ 0 (.int .i64 b.k)).set_ 1 (.slice A5 b.r.length c5)).set_ 2 (.slice A2' b.m.length c2')).set_ 3 (.slice A6 b.s.length c6))
      have yB := ((((hB.setCell (p := ⟨w.heap.size + 1, 0, none⟩) (show w.heap.size ≤ w.heap.size + 1 by omega) (.int .i64 b.k)).setCell (p := ⟨w.heap.size + 1, 1, none⟩) (show w.heap.size ≤ w.heap.size + 1 by omega) (.slice A5 b.r.length c5)).setCell (p := ⟨w.heap.size + 1, 2, none⟩) (show w.heap.size ≤ w.heap.size + 1 by omega) (.slice A2' b.m.length c2')).setCell (p := ⟨w.heap.size + 1, 3, none⟩) (show w.heap.size ≤ w.heap.size + 1 by omega) (.slice A6 b.s.length c6))
      have yR := RdB.grown hr (d_only_set (d_only_set (d_only_set (d_only_set (World.grownBy.refl _ (some (w.heap.size + 1))) 0 (.int .i64 b.k)) 1 (.slice A5 b.r.length c5)) 2 (.slice A2' b.m.length c2')) 3 (.slice A6 b.s.length c6)) (fun q e => by injection e with e; unfold Btw; omega)
      have yS := RdB.grown hs (d_only_set (d_only_set (d_only_set (d_only_set (World.grownBy.refl _ (some (w.heap.size + 1))) 0 (.int .i64 b.k)) 1 (.slice A5 b.r.length c5)) 2 (.slice A2' b.m.length c2')) 3 (.slice A6 b.s.length c6)) (fun q e => by injection e with e; unfold Btw; omega)
      have yM := MapsR.grown hmr (d_only_set (d_only_set (d_only_set (d_only_set (World.grownBy.refl _ (some (w.heap.size + 1))) 0 (.int .i64 b.k)) 1 (.slice A5 b.r.length c5)) 2 (.slice A2' b.m.length c2')) 3 (.slice A6 b.s.length c6)) (fun q e => by injection e with e; unfold Ge; omega)
      have y6 := y0.cell
      clear k1 k2 k3 hr hs hmr ho
      go_wp2
      refine bodyPost_ret (v := .agg #[.int .i64 b.k, .slice A5 b.r.length c5, .slice A2' b.m.length c2', .slice A6 b.s.length c6]) (by simp [results, Tryz.results100, go_sem, y6]) rfl ⟨⟨_, rfl, A5, c5, A2', c2', A6, c6, rfl, ⟨RdB.mono yR (fun k hk => by unfold Btw at hk; unfold Ge; omega), yM.mono (fun k hk => by unfold Ge at *; omega), RdB.mono yS (fun k hk => by unfold Btw at hk; unfold Ge; omega), hc5, hc9, hc6⟩⟩, yB⟩
end Go.Proofs.YtnbdpnlepcjmmaaGreat

namespace Go.Proofs.YtnbdpnlepcjmmaaGreat
open Go.RowKit
def Bwx (a g b : Nat) : Nat → Prop := fun k => a ≤ k ∧ k ≠ g ∧ k < b
/-- Spans do not lie in a box. -/
theorem sp_ne_box {w : World} {A : Option Addr} {l : List Sp} (h : Sps w A l) {g : Nat} {t : TypeId} {x : Int} {P Q R : Option Addr} {n1 d1 n2 d2 n3 d3 : Nat} (hb : Blk w g t #[.int .i64 x, .slice P n1 d1, .slice Q n2 d2, .slice R n3 d3]) (ad : Addr) (ha : A = some ad) (hl : 0 < l.length) : ad.block ≠ g := by
  intro he
  obtain ⟨ad', y, e, _, _, hc⟩ := h.at_ hl
  rw [ha] at e
  injection e with e
  subst e
  have h1 := hc 1 _ rfl
  have e1 : ad.add (0 * 2 + 1) = ⟨ad.block, ad.off + 1, none⟩ := by unfold Addr.add; rw [if_neg (by omega)]
  rw [e1, he, hb.cell] at h1
  have key : ∀ o : Nat, #[Value.int .i64 x, .slice P n1 d1, .slice Q n2 d2, .slice R n3 d3][o + 1]? ≠ some (.int .i64 y.2) := by
    intro o
    rcases o with _ | _ | _ | k
    · simp
    · simp
    · simp
    · rw [Array.getElem?_eq_none (by simp)]
      simp
  exact key _ h1
set_option maxHeartbeats 64000000 in
set_option maxRecDepth 10000 in
theorem both_any {ba bb : Nat → Prop} {a b : Bx} {A1 A2 A3 B1 B2 B3 : Option Addr} {c1 c2 c3 d1 d2 d3 : Nat} {w : World} (hpa : BoxP w ba a A1 c1 A2 c2 A3 c3) (hpb : BoxP w bb b B1 d1 B2 d2 B3 d3) (hla : OKB a) (hlb : OKB b) :
    Calls Tryz.prog 63 #[.agg #[.int .i64 a.k, .slice A1 a.r.length c1, .slice A2 a.m.length c2, .slice A3 a.s.length c3], .agg #[.int .i64 b.k, .slice B1 b.r.length d1, .slice B2 b.m.length d2, .slice B3 b.s.length d3]] w fun e w' => (∃ v, e = .returned (.tuple #[v, .bool (someB (bothF a b))]) ∧ BoxV w' (Ge w.heap.size) (bothF a b) v) ∧ Grows w w' := by
  obtain ⟨har, has_, ham, hax⟩ := hla
  obtain ⟨hbr, hbs, hbm, hbx⟩ := hlb
  have HAX := Lib.hid hax
  have HBX := Lib.hid hbx
  clear hax hbx
  have ka := ((Blk.new w 48 #[.int .i64 a.k, .slice A1 a.r.length c1, .slice A2 a.m.length c2, .slice A3 a.s.length c3]).alloc (Obj.cells #[.int .i64 b.k, .slice B1 b.r.length d1, .slice B2 b.m.length d2, .slice B3 b.s.length d3] 48)).alloc (Obj.cells #[.int .i64 0, .slice none 0 0, .slice none 0 0, .slice none 0 0] 48)
  have kb := (blk_new_at (X := w.alloc (Obj.cells #[.int .i64 a.k, .slice A1 a.r.length c1, .slice A2 a.m.length c2, .slice A3 a.s.length c3] 48)) (n := w.heap.size + 1) (t := 48) (cs := #[.int .i64 b.k, .slice B1 b.r.length d1, .slice B2 b.m.length d2, .slice B3 b.s.length d3]) (by simp)).alloc (Obj.cells #[.int .i64 0, .slice none 0 0, .slice none 0 0, .slice none 0 0] 48)
  have k4 := blk_new_at (X := (w.alloc (Obj.cells #[.int .i64 a.k, .slice A1 a.r.length c1, .slice A2 a.m.length c2, .slice A3 a.s.length c3] 48)).alloc (Obj.cells #[.int .i64 b.k, .slice B1 b.r.length d1, .slice B2 b.m.length d2, .slice B3 b.s.length d3] 48)) (n := w.heap.size + 2) (t := 48) (cs := #[.int .i64 0, .slice none 0 0, .slice none 0 0, .slice none 0 0]) (by simp)
  have hB := (((Below.refl w.heap.size w).alloc (Nat.le_refl _) (Obj.cells #[.int .i64 a.k, .slice A1 a.r.length c1, .slice A2 a.m.length c2, .slice A3 a.s.length c3] 48)).alloc (by simp) (Obj.cells #[.int .i64 b.k, .slice B1 b.r.length d1, .slice B2 b.m.length d2, .slice B3 b.s.length d3] 48)).alloc (by simp; omega) (Obj.cells #[.int .i64 0, .slice none 0 0, .slice none 0 0, .slice none 0 0] 48)
  have CR := fun (w0 : World) (h1 : Sps w0 A1 a.r) (h2 : Sps w0 B1 b.r) => inter_own A1 c1 a.r B1 d1 b.r w0 h1 (by omega) h2 (by omega)
  have CZ := fun (w0 : World) (h1 : Sps w0 A3 a.s) (h2 : Sps w0 B3 b.s) => inter_own A3 c3 a.s B3 d3 b.s w0 h1 (by omega) h2 (by omega)
  have HF : Hid (bothF a b = ⟨(bits .and .i64 a.k b.k), (interF (spansF a.r) (spansF b.r)).take 64, a.m.filter (fun x => decide (x ∈ b.m)), (interF (spansF a.s) (spansF b.s)).take 64⟩) := Lib.hid rfl
  generalize (interF (spansF a.r) (spansF b.r)).take 64 = R at *
  generalize (interF (spansF a.s) (spansF b.s)).take 64 = Z at *
  have HCR := Lib.hid CR
  have HCZ := Lib.hid CZ
  clear CR CZ
  have hpar := hpa.r.sps
  have hpbr := hpb.r.sps
  have hpas := hpa.s.sps
  have hpbs := hpb.s.sps
  go_enter Tryz.func63, Tryz.ntmps63
  go_upto_region 1 with fail
  generalize World.alloc (World.alloc (World.alloc w _) _) _ = w1 at *
  have l4 := k4.lt
  obtain ⟨S, HI, HO⟩ := hideS fun (L : Ran) (vs : Nat → Value) (w' : World) => ((Below w.heap.size w w' ∧ Blk w' w.heap.size 48 #[.int .i64 a.k, .slice A1 a.r.length c1, .slice A2 a.m.length c2, .slice A3 a.s.length c3] ∧ Blk w' (w.heap.size + 1) 48 #[.int .i64 b.k, .slice B1 b.r.length d1, .slice B2 b.m.length d2, .slice B3 b.s.length d3] ∧ Blk w' (w.heap.size + 2) 48 #[.int .i64 0, .slice none 0 0, .slice none 0 0, .slice none 0 0] ∧ w.heap.size + 3 ≤ w'.heap.size) ∧ KnS [some (.pointer (some ⟨w.heap.size, 0, none⟩)), some (.int .i64 a.k), some (.pointer (some ⟨w.heap.size + 1, 0, none⟩)), some (.int .i64 b.k), some (.int .i64 (bits .and .i64 a.k b.k)), some (.pointer (some ⟨w.heap.size, 1, none⟩)), some (.agg #[.slice A1 a.r.length c1]), some (.pointer (some ⟨w.heap.size + 1, 1, none⟩)), some (.agg #[.slice B1 b.r.length d1]), none, some (.pointer (some ⟨w.heap.size, 3, none⟩)), some (.agg #[.slice A3 a.s.length c3]), some (.pointer (some ⟨w.heap.size + 1, 3, none⟩)), some (.agg #[.slice B3 b.s.length d3]), none, none, none] L vs ∧ (L 9 = true → ∃ (A : Option Addr) (c : Nat), vs 9 = .agg #[.slice A R.length c] ∧ R.length ≤ c ∧ SpB w' (Ge (w.heap.size + 3)) A R) ∧ (L 14 = true → ∃ (A : Option Addr) (c : Nat), vs 14 = .agg #[.slice A Z.length c] ∧ Z.length ≤ c ∧ SpB w' (Ge (w.heap.size + 3)) A Z) ∧ (L 15 = true → ∃ (A : Option Addr) (c : Nat) (B : Option Addr) (d : Nat), vs 15 = .agg #[.int .i64 (bits .and .i64 a.k b.k), .slice A R.length c, .slice none 0 0, .slice B Z.length d] ∧ R.length ≤ c ∧ SpB w' (Ge (w.heap.size + 3)) A R ∧ Z.length ≤ d ∧ SpB w' (Ge (w.heap.size + 3)) B Z) ∧ (L 16 = true → ∃ g : Nat, vs 16 = .pointer (some ⟨g, 0, none⟩) ∧ w.heap.size + 3 ≤ g ∧ Blk w' g 48 #[.int .i64 0, .slice none 0 0, .slice none 0 0, .slice none 0 0]))
  refine wp_region_genT S 17 68 (by kernel_rfl) (by kernel_rfl) rfl ?_ ?_
  · have hg := Grows.drew' w1
    exact HI.out _ _ _ ⟨⟨below_grows hB (Nat.le_refl _) hg, ka.grows hg, kb.grows hg, k4.grows hg, Nat.le_trans l4 hg.size⟩, kn_none _ _, (fun h => by cases h), (fun h => by cases h), (fun h => by cases h), (fun h => by cases h)⟩
  simp only [List.take_succ_cons, List.take_zero, List.drop_succ_cons, List.drop_zero]
  refine gent_consR (fun vs L w1 hL hw1 => ?_) ?_
  · obtain ⟨⟨qB, qa, qb, q4, qh⟩, q1, q9, q14, q15, q16⟩ := HO.out _ _ _ hw1
    refine gen_plain rfl ?_
    go_simp
    exact gr_val (HI.out _ _ _ ⟨⟨qB, qa, qb, q4, qh⟩, kn_known q1 rfl, q9, q14, q15, q16⟩)
  refine gent_consR (fun vs L w1 hL hw1 => ?_) ?_
  · obtain ⟨⟨qB, qa, qb, q4, qh⟩, q1, q9, q14, q15, q16⟩ := HO.out _ _ _ hw1
    have l0 : L 0 = true := hL.need 0 (by kernel_rfl)
    have e0 := q1 0 _ rfl l0
    have xc := qa.cell 0
    refine gen_plain rfl ?_
    simp only [e0]
    go_simp
    exact gr_val (HI.out _ _ _ ⟨⟨qB, qa, qb, q4, qh⟩, kn_known q1 rfl, q9, q14, q15, q16⟩)
  refine gent_consR (fun vs L w1 hL hw1 => ?_) ?_
  · obtain ⟨⟨qB, qa, qb, q4, qh⟩, q1, q9, q14, q15, q16⟩ := HO.out _ _ _ hw1
    refine gen_plain rfl ?_
    go_simp
    exact gr_val (HI.out _ _ _ ⟨⟨qB, qa, qb, q4, qh⟩, kn_known q1 rfl, q9, q14, q15, q16⟩)
  refine gent_consR (fun vs L w1 hL hw1 => ?_) ?_
  · obtain ⟨⟨qB, qa, qb, q4, qh⟩, q1, q9, q14, q15, q16⟩ := HO.out _ _ _ hw1
    have l2 : L 2 = true := hL.need 2 (by kernel_rfl)
    have e2 := q1 2 _ rfl l2
    have xc := qb.cell 0
    refine gen_plain rfl ?_
    simp only [e2]
    go_simp
    exact gr_val (HI.out _ _ _ ⟨⟨qB, qa, qb, q4, qh⟩, kn_known q1 rfl, q9, q14, q15, q16⟩)
  refine gent_consR (fun vs L w1 hL hw1 => ?_) ?_
  · obtain ⟨⟨qB, qa, qb, q4, qh⟩, q1, q9, q14, q15, q16⟩ := HO.out _ _ _ hw1
    have l1 : L 1 = true := hL.need 1 (by kernel_rfl)
    have e1 := q1 1 _ rfl l1
    have l3 : L 3 = true := hL.need 3 (by kernel_rfl)
    have e3 := q1 3 _ rfl l3
    refine gen_plain rfl ?_
    simp only [e1, e3]
    go_simp
    exact gr_val (HI.out _ _ _ ⟨⟨qB, qa, qb, q4, qh⟩, kn_known q1 rfl, q9, q14, q15, q16⟩)
  refine gent_consR (fun vs L w1 hL hw1 => ?_) ?_
  · obtain ⟨⟨qB, qa, qb, q4, qh⟩, q1, q9, q14, q15, q16⟩ := HO.out _ _ _ hw1
    refine gen_plain rfl ?_
    go_simp
    exact gr_val (HI.out _ _ _ ⟨⟨qB, qa, qb, q4, qh⟩, kn_known q1 rfl, q9, q14, q15, q16⟩)
  refine gent_consR (fun vs L w1 hL hw1 => ?_) ?_
  · obtain ⟨⟨qB, qa, qb, q4, qh⟩, q1, q9, q14, q15, q16⟩ := HO.out _ _ _ hw1
    have l5 : L 5 = true := hL.need 5 (by kernel_rfl)
    have e5 := q1 5 _ rfl l5
    have xc := qa.cell 1
    refine gen_plain rfl ?_
    simp only [e5]
    go_simp
    exact gr_val (HI.out _ _ _ ⟨⟨qB, qa, qb, q4, qh⟩, kn_known q1 rfl, q9, q14, q15, q16⟩)
  refine gent_consR (fun vs L w1 hL hw1 => ?_) ?_
  · obtain ⟨⟨qB, qa, qb, q4, qh⟩, q1, q9, q14, q15, q16⟩ := HO.out _ _ _ hw1
    refine gen_plain rfl ?_
    go_simp
    exact gr_val (HI.out _ _ _ ⟨⟨qB, qa, qb, q4, qh⟩, kn_known q1 rfl, q9, q14, q15, q16⟩)
  refine gent_consR (fun vs L w1 hL hw1 => ?_) ?_
  · obtain ⟨⟨qB, qa, qb, q4, qh⟩, q1, q9, q14, q15, q16⟩ := HO.out _ _ _ hw1
    have l7 : L 7 = true := hL.need 7 (by kernel_rfl)
    have e7 := q1 7 _ rfl l7
    have xc := qb.cell 1
    refine gen_plain rfl ?_
    simp only [e7]
    go_simp
    exact gr_val (HI.out _ _ _ ⟨⟨qB, qa, qb, q4, qh⟩, kn_known q1 rfl, q9, q14, q15, q16⟩)
  refine gent_consR (fun vs L w1 hL hw1 => ?_) ?_
  · obtain ⟨⟨qB, qa, qb, q4, qh⟩, q1, q9, q14, q15, q16⟩ := HO.out _ _ _ hw1
    have l6 : L 6 = true := hL.need 6 (by kernel_rfl)
    have e6 := q1 6 _ rfl l6
    have l8 : L 8 = true := hL.need 8 (by kernel_rfl)
    have e8 := q1 8 _ rfl l8
    refine gen_plain rfl ?_
    simp only [e6, e8]
    go_simp
    refine gr_call ?_
    refine (HCR.out _ (hpar.grows qB) (hpbr.grows qB)).mono ?_
    rintro e wc ⟨⟨A5, c5, rfl, hc5, hr5⟩, hg⟩
    exact ⟨_, rfl, HI.out _ _ _ ⟨⟨below_grows qB (Nat.le_refl _) hg, qa.grows hg, qb.grows hg, q4.grows hg, Nat.le_trans qh hg.size⟩, kn_free q1 rfl, (fun _ => ⟨A5, c5, rfl, hc5, RdB.mono hr5 (fun k hk => by unfold Ge at *; omega)⟩), (fun h => by obtain ⟨A, c, e, hc, hr⟩ := q14 h; exact ⟨A, c, e, hc, hr.grows hg⟩), (fun h => by obtain ⟨A, c, B, d, e, hc, hr, hd, hs⟩ := q15 h; exact ⟨A, c, B, d, e, hc, hr.grows hg, hd, hs.grows hg⟩), (fun h => by obtain ⟨g, e, hg2, hk⟩ := q16 h; exact ⟨g, e, hg2, hk.grows hg⟩)⟩⟩
  refine gent_consR (fun vs L w1 hL hw1 => ?_) ?_
  · obtain ⟨⟨qB, qa, qb, q4, qh⟩, q1, q9, q14, q15, q16⟩ := HO.out _ _ _ hw1
    refine gen_plain rfl ?_
    go_simp
    exact gr_val (HI.out _ _ _ ⟨⟨qB, qa, qb, q4, qh⟩, kn_known q1 rfl, q9, q14, q15, q16⟩)
  refine gent_consR (fun vs L w1 hL hw1 => ?_) ?_
  · obtain ⟨⟨qB, qa, qb, q4, qh⟩, q1, q9, q14, q15, q16⟩ := HO.out _ _ _ hw1
    have l10 : L 10 = true := hL.need 10 (by kernel_rfl)
    have e10 := q1 10 _ rfl l10
    have xc := qa.cell 3
    refine gen_plain rfl ?_
    simp only [e10]
    go_simp
    exact gr_val (HI.out _ _ _ ⟨⟨qB, qa, qb, q4, qh⟩, kn_known q1 rfl, q9, q14, q15, q16⟩)
  refine gent_consR (fun vs L w1 hL hw1 => ?_) ?_
  · obtain ⟨⟨qB, qa, qb, q4, qh⟩, q1, q9, q14, q15, q16⟩ := HO.out _ _ _ hw1
    refine gen_plain rfl ?_
    go_simp
    exact gr_val (HI.out _ _ _ ⟨⟨qB, qa, qb, q4, qh⟩, kn_known q1 rfl, q9, q14, q15, q16⟩)
  refine gent_consR (fun vs L w1 hL hw1 => ?_) ?_
  · obtain ⟨⟨qB, qa, qb, q4, qh⟩, q1, q9, q14, q15, q16⟩ := HO.out _ _ _ hw1
    have l12 : L 12 = true := hL.need 12 (by kernel_rfl)
    have e12 := q1 12 _ rfl l12
    have xc := qb.cell 3
    refine gen_plain rfl ?_
    simp only [e12]
    go_simp
    exact gr_val (HI.out _ _ _ ⟨⟨qB, qa, qb, q4, qh⟩, kn_known q1 rfl, q9, q14, q15, q16⟩)
  refine gent_consR (fun vs L w1 hL hw1 => ?_) ?_
  · obtain ⟨⟨qB, qa, qb, q4, qh⟩, q1, q9, q14, q15, q16⟩ := HO.out _ _ _ hw1
    have l11 : L 11 = true := hL.need 11 (by kernel_rfl)
    have e11 := q1 11 _ rfl l11
    have l13 : L 13 = true := hL.need 13 (by kernel_rfl)
    have e13 := q1 13 _ rfl l13
    refine gen_plain rfl ?_
    simp only [e11, e13]
    go_simp
    refine gr_call ?_
    refine (HCZ.out _ (hpas.grows qB) (hpbs.grows qB)).mono ?_
    rintro e wc ⟨⟨A5, c5, rfl, hc5, hr5⟩, hg⟩
    exact ⟨_, rfl, HI.out _ _ _ ⟨⟨below_grows qB (Nat.le_refl _) hg, qa.grows hg, qb.grows hg, q4.grows hg, Nat.le_trans qh hg.size⟩, kn_free q1 rfl, (fun h => by obtain ⟨A, c, e, hc, hr⟩ := q9 h; exact ⟨A, c, e, hc, hr.grows hg⟩), (fun _ => ⟨A5, c5, rfl, hc5, RdB.mono hr5 (fun k hk => by unfold Ge at *; omega)⟩), (fun h => by obtain ⟨A, c, B, d, e, hc, hr, hd, hs⟩ := q15 h; exact ⟨A, c, B, d, e, hc, hr.grows hg, hd, hs.grows hg⟩), (fun h => by obtain ⟨g, e, hg2, hk⟩ := q16 h; exact ⟨g, e, hg2, hk.grows hg⟩)⟩⟩
  refine gent_consR (fun vs L w1 hL hw1 => ?_) ?_
  · obtain ⟨⟨qB, qa, qb, q4, qh⟩, q1, q9, q14, q15, q16⟩ := HO.out _ _ _ hw1
    have l4 : L 4 = true := hL.need 4 (by kernel_rfl)
    have e4 := q1 4 _ rfl l4
    have l9 : L 9 = true := hL.need 9 (by kernel_rfl)
    have l14 : L 14 = true := hL.need 14 (by kernel_rfl)
    obtain ⟨A5, c5, e9, hc5, hr5⟩ := q9 l9
    obtain ⟨A6, c6, e14, hc6, hr6⟩ := q14 l14
    refine gen_plain rfl ?_
    simp only [e4, e9, e14]
    go_simp
    exact gr_val (HI.out _ _ _ ⟨⟨qB, qa, qb, q4, qh⟩, kn_free q1 rfl, q9, q14, (fun _ => ⟨A5, c5, A6, c6, rfl, hc5, hr5, hc6, hr6⟩), q16⟩)
  refine gent_consR (fun vs L w1 hL hw1 => ?_) ?_
  · obtain ⟨⟨qB, qa, qb, q4, qh⟩, q1, q9, q14, q15, q16⟩ := HO.out _ _ _ hw1
    refine gen_plain rfl ?_
    go_simp
    have hg := (Below.refl w1.heap.size w1).alloc (Nat.le_refl _) (Obj.cells #[.int .i64 0, .slice none 0 0, .slice none 0 0, .slice none 0 0] 48)
    have hk := Blk.new w1 48 #[.int .i64 0, .slice none 0 0, .slice none 0 0, .slice none 0 0]
    exact gr_val (HI.out _ _ _ ⟨⟨below_grows qB (Nat.le_refl _) hg, qa.grows hg, qb.grows hg, q4.grows hg, Nat.le_trans qh hg.size⟩, kn_free q1 rfl, (fun h => by obtain ⟨A, c, e, hc, hr⟩ := q9 h; exact ⟨A, c, e, hc, hr.grows hg⟩), (fun h => by obtain ⟨A, c, e, hc, hr⟩ := q14 h; exact ⟨A, c, e, hc, hr.grows hg⟩), (fun h => by obtain ⟨A, c, B, d, e, hc, hr, hd, hs⟩ := q15 h; exact ⟨A, c, B, d, e, hc, hr.grows hg, hd, hs.grows hg⟩), (fun _ => ⟨w1.heap.size, rfl, qh, hk⟩)⟩)
  refine gent_nil ?_
  intro vs L W2 hall hS
  obtain ⟨⟨hB2, ka2, kb2, k42, hh2⟩, q1, -, -, q15, q16⟩ := HO.out _ _ _ hS
  obtain ⟨A5, c5, A6, c6, e15, hc5, hr, hc6, hs⟩ := q15 (hall 15 (by omega))
  obtain ⟨G, e16, hG, kG⟩ := q16 (hall 16 (by omega))
  have e0 := q1 0 _ rfl (hall 0 (by omega))
  have e1 := q1 1 _ rfl (hall 1 (by omega))
  have e2 := q1 2 _ rfl (hall 2 (by omega))
  have e3 := q1 3 _ rfl (hall 3 (by omega))
  have e4 := q1 4 _ rfl (hall 4 (by omega))
  have e5 := q1 5 _ rfl (hall 5 (by omega))
  have e6 := q1 6 _ rfl (hall 6 (by omega))
  have e7 := q1 7 _ rfl (hall 7 (by omega))
  have e8 := q1 8 _ rfl (hall 8 (by omega))
  have e10 := q1 10 _ rfl (hall 10 (by omega))
  have e11 := q1 11 _ rfl (hall 11 (by omega))
  have e12 := q1 12 _ rfl (hall 12 (by omega))
  have e13 := q1 13 _ rfl (hall 13 (by omega))
  clear hall hS HI HO q1 q15 q16 hB ka kb k4 l4
  simp only [e0, e1, e2, e3, e4, e5, e6, e7, e8, e10, e11, e12, e13, e15, e16]
  clear e0 e1 e2 e3 e4 e5 e6 e7 e8 e10 e11 e12 e13 e15 e16
  generalize vs 9 = y9 at *
  generalize vs 14 = y14 at *
  clear vs
  have hB := hB2
  have ka := ka2
  have kb := kb2
  have k4 := k42
  clear hB2 ka2 kb2 k42
  have l4 := kG.lt
  replace hr : RdB W2 (Bwx (w.heap.size + 3) G W2.heap.size) 2 A5 R.length (scells R) := ⟨hr.1, fun hn ad e => ⟨hr.2 hn ad e, sp_ne_box hr.1 kG ad e hn, (RdB.under hr).2 hn ad e⟩⟩
  replace hs : RdB W2 (Bwx (w.heap.size + 3) G W2.heap.size) 2 A6 Z.length (scells Z) := ⟨hs.1, fun hn ad e => ⟨hs.2 hn ad e, sp_ne_box hs.1 kG ad e hn, (RdB.under hs).2 hn ad e⟩⟩
  have y3 := kG.cell
  have hf3 := kG.frozen
  have ka2 := ((((ka.far (p := ⟨G, 0, none⟩) (show w.heap.size ≠ G by omega) (.int .i64 (bits .and .i64 a.k b.k))).far (p := ⟨G, 1, none⟩) (show w.heap.size ≠ G by omega) (.slice A5 R.length c5)).far (p := ⟨G, 2, none⟩) (show w.heap.size ≠ G by omega) (.slice none 0 0)).far (p := ⟨G, 3, none⟩) (show w.heap.size ≠ G by omega) (.slice A6 Z.length c6))
  have kb2 := ((((kb.far (p := ⟨G, 0, none⟩) (show w.heap.size + 1 ≠ G by omega) (.int .i64 (bits .and .i64 a.k b.k))).far (p := ⟨G, 1, none⟩) (show w.heap.size + 1 ≠ G by omega) (.slice A5 R.length c5)).far (p := ⟨G, 2, none⟩) (show w.heap.size + 1 ≠ G by omega) (.slice none 0 0)).far (p := ⟨G, 3, none⟩) (show w.heap.size + 1 ≠ G by omega) (.slice A6 Z.length c6))
  have k42 := ((((k4.far (p := ⟨G, 0, none⟩) (show w.heap.size + 2 ≠ G by omega) (.int .i64 (bits .and .i64 a.k b.k))).far (p := ⟨G, 1, none⟩) (show w.heap.size + 2 ≠ G by omega) (.slice A5 R.length c5)).far (p := ⟨G, 2, none⟩) (show w.heap.size + 2 ≠ G by omega) (.slice none 0 0)).far (p := ⟨G, 3, none⟩) (show w.heap.size + 2 ≠ G by omega) (.slice A6 Z.length c6))
  have kG2 := ((((kG.set_ 0 (.int .i64 (bits .and .i64 a.k b.k))).set_ 1 (.slice A5 R.length c5)).set_ 2 (.slice none 0 0)).set_ 3 (.slice A6 Z.length c6))
  have hB2 := ((((hB.setCell (p := ⟨G, 0, none⟩) (show w.heap.size ≤ G by omega) (.int .i64 (bits .and .i64 a.k b.k))).setCell (p := ⟨G, 1, none⟩) (show w.heap.size ≤ G by omega) (.slice A5 R.length c5)).setCell (p := ⟨G, 2, none⟩) (show w.heap.size ≤ G by omega) (.slice none 0 0)).setCell (p := ⟨G, 3, none⟩) (show w.heap.size ≤ G by omega) (.slice A6 Z.length c6))
  have hr2 := RdB.grown hr (d_only_set (d_only_set (d_only_set (d_only_set (World.grownBy.refl _ (some G)) 0 (.int .i64 (bits .and .i64 a.k b.k))) 1 (.slice A5 R.length c5)) 2 (.slice none 0 0)) 3 (.slice A6 Z.length c6)) (fun q e => by injection e with e; unfold Bwx; omega)
  have hs2 := RdB.grown hs (d_only_set (d_only_set (d_only_set (d_only_set (World.grownBy.refl _ (some G)) 0 (.int .i64 (bits .and .i64 a.k b.k))) 1 (.slice A5 R.length c5)) 2 (.slice none 0 0)) 3 (.slice A6 Z.length c6)) (fun q e => by injection e with e; unfold Bwx; omega)
  have hw2 : W2.heap.size ≤ (((((W2.setCell ⟨G, 0, none⟩ (.int .i64 (bits .and .i64 a.k b.k))).setCell ⟨G, 1, none⟩ (.slice A5 R.length c5)).setCell ⟨G, 2, none⟩ (.slice none 0 0)).setCell ⟨G, 3, none⟩ (.slice A6 Z.length c6))).heap.size := by simp [World.setCell]
  clear hB ka kb k4 kG hr hs
  go_upto_region 2 with fail
  have hB := hB2
  have ka := ka2
  have kb := kb2
  have k4 := k42
  have kG : Blk _ G 48 #[.int .i64 (bits .and .i64 a.k b.k), .slice A5 R.length c5, .slice none 0 0, .slice A6 Z.length c6] := kG2
  have hr := hr2
  have hs := hs2
  clear hB2 ka2 kb2 k42 kG2 hr2 hs2 y3 hf3
  generalize World.setCell (World.setCell (World.setCell (World.setCell W2 _ _) _ _) _ _) _ _ = w7 at *
  obtain ⟨b2, hb2⟩ : ∃ b2, b2 = W2.heap.size := ⟨_, rfl⟩
  rw [← hb2] at hr hs l4 hw2
  have hb3 := hw2
  clear hw2 hb2 hh2
  have xa := ka.cell
  go_wp2_with fail
  clear xa
  go_loopw [28] (fun i wr => ∃ (k : Nat) (V : Value), k ≤ a.m.length ∧ i = .int .i64 k ∧ b2 ≤ wr.heap.size ∧ OwnMq wr b2 (Ge b2) V ((a.m.take k).filter fun x => decide (x ∈ b.m)) ∧ RdB wr (Bwx (w.heap.size + 3) G b2) 2 A5 R.length (scells R) ∧ RdB wr (Bwx (w.heap.size + 3) G b2) 2 A6 Z.length (scells Z) ∧ Blk wr w.heap.size 48 #[.int .i64 a.k, .slice A1 a.r.length c1, .slice A2 a.m.length c2, .slice A3 a.s.length c3] ∧ Blk wr (w.heap.size + 1) 48 #[.int .i64 b.k, .slice B1 b.r.length d1, .slice B2 b.m.length d2, .slice B3 b.s.length d3] ∧ Blk wr (w.heap.size + 2) 48 #[.int .i64 0, .slice none 0 0, .slice none 0 0, .slice none 0 0] ∧ Blk wr G 48 #[.int .i64 (bits .and .i64 a.k b.k), .slice A5 R.length c5, V, .slice A6 Z.length c6] ∧ Below w.heap.size w wr) (fun i _ => a.m.length - (intOf i).toNat)
  case atStart => exact ⟨0, _, by omega, rfl, hb3, OwnMq.nil, hr, hs, ka, kb, k4, kG, hB⟩
  case round =>
    clear hr hs ka kb k4 kG hB hb3
    obtain ⟨k, V, hk, rfl, hb3, ho, hr, hs, ka, kb, k4, kG, hB⟩ := hrel
    obtain ⟨A2', c2', rfl, hc2', -⟩ := ho.read
    by_cases hlt : k < a.m.length
    · obtain ⟨ad, x, B0, cm, e1, had, hx, q0, hcm, hix⟩ := hpa.m.elem hlt
      replace q0 := (hB.cell (p := ad.add k) (by rw [block_of_add]; exact had)).trans q0
      subst e1
      have HX := Lib.hid (filter_next (p := fun x => decide (x ∈ b.m)) hx)
      have hxl : x.length ≤ 1000000 := HAX.out x (List.mem_of_getElem? hx)
      have hkl : ((a.m.take k).filter fun x => decide (x ∈ b.m)).length + 1 ≤ 1000000 := by
        have := List.length_filter_le (fun x => decide (x ∈ b.m)) (a.m.take k)
        rw [List.length_take] at this
        omega
      clear hx
      generalize ((a.m.take k).filter fun x => decide (x ∈ b.m)) = ms at *
      have xb := kb.cell
      go_wp2_with fail
      refine (phas_any B2 B0 d2 cm b.m x _ rfl (hpb.m.grows hB) hbm HBX.out (hix.ints.grows hB) hxl).mono ?_
      by_cases h5 : x ∈ b.m
      case neg =>
        have HT : Hid ((a.m.take (k + 1)).filter (fun x => decide (x ∈ b.m)) = ms) := Lib.hid (by rw [HX.out, decide_eq_false h5, if_neg (by decide), List.append_nil])
        rw [decide_eq_false h5]
        clear h5 HX
        rintro e w3 ⟨rfl, hg⟩
        replace hB := below_grows hB (Nat.le_refl _) hg
        replace ka := ka.grows hg
        replace kb := kb.grows hg
        replace k4 := k4.grows hg
        replace kG := kG.grows hg
        replace ho := ho.grows hg
        replace hr := RdB.grows hr hg
        replace hs := RdB.grows hs hg
        replace hb3 := Nat.le_trans hb3 hg.size
        clear hg xb q0
        go_wp2
        go_roundw
        case rel => exact ⟨k + 1, _, by omega, by go_num, hb3, by rw [HT.out]; exact ho, hr, hs, ka, kb, k4, kG, hB⟩
        case measure => simp [intOf]; omega
      have HT : Hid ((a.m.take (k + 1)).filter (fun x => decide (x ∈ b.m)) = ms ++ [x]) := Lib.hid (by rw [HX.out, decide_eq_true h5, if_pos rfl])
      rw [decide_eq_true h5]
      clear h5 HX
      rintro e w3 ⟨rfl, hg⟩
      have qB := below_grows hB (Nat.le_refl _) hg
      have qa := ka.grows hg
      have qb := kb.grows hg
      have q4 := k4.grows hg
      have qG := kG.grows hg
      replace ho := ho.grows hg
      have qr := RdB.grows hr hg
      have qs := RdB.grows hs hg
      have qh := Nat.le_trans hb3 hg.size
      clear hg xb q0 hB ka kb k4 kG hr hs hb3
      go_upto_region 6 with fail
      have q4b := q4
      clear q4
      obtain ⟨S, HI, HO⟩ := hideS fun (L : Ran) (vs : Nat → Value) (w' : World) => ((Below w.heap.size w w' ∧ RdB w' (Bwx (w.heap.size + 3) G b2) 2 A5 R.length (scells R) ∧ RdB w' (Bwx (w.heap.size + 3) G b2) 2 A6 Z.length (scells Z) ∧ Blk w' w.heap.size 48 #[.int .i64 a.k, .slice A1 a.r.length c1, .slice (some ad) a.m.length c2, .slice A3 a.s.length c3] ∧ Blk w' (w.heap.size + 1) 48 #[.int .i64 b.k, .slice B1 b.r.length d1, .slice B2 b.m.length d2, .slice B3 b.s.length d3] ∧ Blk w' (w.heap.size + 2) 48 #[.int .i64 0, .slice none 0 0, .slice none 0 0, .slice none 0 0] ∧ Blk w' G 48 #[.int .i64 (bits .and .i64 a.k b.k), .slice A5 R.length c5, .slice A2' ms.length c2', .slice A6 Z.length c6] ∧ b2 ≤ w'.heap.size) ∧ KnS [some (.pointer (some ⟨G, 2, none⟩)), some (Value.slice A2' ms.length c2'), some (.slice B0 x.length cm), none, none, none] L vs ∧ (L 5 = true → L 4 = true) ∧ (L 4 = true → L 3 = true) ∧ (L 5 = false → OwnMq w' b2 (Ge b2) (Value.slice A2' ms.length c2') (ms)) ∧ (L 3 = true → L 5 = false → ∃ (B : Option Addr) (cx : Nat), vs 3 = .slice B x.length cx ∧ x.length ≤ cx ∧ InB w' (Ge b2) B x ∧ ∀ ad, B = some ad → 0 < x.length → (Value.slice A2' ms.length c2' : Value).ownBlock ≠ some ad.block) ∧ (L 4 = true → L 5 = false → ∃ gb : Nat, vs 4 = .slice (some ⟨gb, 0, none⟩) 1 1 ∧ Blk w' gb 23 #[vs 3]) ∧ (L 5 = true → OwnMq w' b2 (Ge b2) (vs 5) (ms ++ [x])))
      refine wp_region_genT S 6 68 (by kernel_rfl) (by kernel_rfl) rfl ?_ ?_
      · have hg := Grows.drew' w3
        exact HI.out _ _ _ ⟨⟨below_grows qB (Nat.le_refl _) hg, RdB.grows qr hg, RdB.grows qs hg, qa.grows hg, qb.grows hg, q4b.grows hg, qG.grows hg, Nat.le_trans qh hg.size⟩, kn_none _ _, (fun h => by cases h), (fun h => by cases h), (fun _ => ho.grows hg), (fun h => by cases h), (fun h => by cases h), (fun h => by cases h)⟩
      simp only [List.take_succ_cons, List.take_zero, List.drop_succ_cons, List.drop_zero]
      refine gent_consR (fun vs L w1 hL hw1 => ?_) ?_
      · obtain ⟨⟨qB, qr, qs, qa, qb, q4b, qG, qh⟩, q1, c5, c4, o5, q3, q4, q5⟩ := HO.out _ _ _ hw1
        refine gen_plain rfl ?_
        go_simp
        exact gr_val (HI.out _ _ _ ⟨⟨qB, qr, qs, qa, qb, q4b, qG, qh⟩, kn_known q1 rfl, c5, c4, o5, q3, q4, q5⟩)
      refine gent_consR (fun vs L w1 hL hw1 => ?_) ?_
      · obtain ⟨⟨qB, qr, qs, qa, qb, q4b, qG, qh⟩, q1, c5, c4, o5, q3, q4, q5⟩ := HO.out _ _ _ hw1
        have l0 : L 0 = true := hL.need 0 (by kernel_rfl)
        have e0 := q1 0 _ rfl l0
        have xc := qG.cell 2
        refine gen_plain rfl ?_
        simp only [e0]
        go_simp
        exact gr_val (HI.out _ _ _ ⟨⟨qB, qr, qs, qa, qb, q4b, qG, qh⟩, kn_known q1 rfl, c5, c4, o5, q3, q4, q5⟩)
      refine gent_consR (fun vs L w1 hL hw1 => ?_) ?_
      · obtain ⟨⟨qB, qr, qs, qa, qb, q4b, qG, qh⟩, q1, c5, c4, o5, q3, q4, q5⟩ := HO.out _ _ _ hw1
        refine gen_plain rfl ?_
        go_simp
        exact gr_val (HI.out _ _ _ ⟨⟨qB, qr, qs, qa, qb, q4b, qG, qh⟩, kn_known q1 rfl, c5, c4, o5, q3, q4, q5⟩)
      refine gent_consR (fun vs L w1 hL hw1 => ?_) ?_
      · obtain ⟨⟨qB, qr, qs, qa, qb, q4b, qG, qh⟩, q1, c5, c4, o5, q3, q4, q5⟩ := HO.out _ _ _ hw1
        have n3 : L 3 = false := hL.1
        have n4 : L 4 = false := by
          cases h : L 4
          · rfl
          · rw [c4 h] at n3; cases n3
        have n5 : L 5 = false := by
          cases h : L 5
          · rfl
          · rw [c5 h] at n4; cases n4
        have l2 : L 2 = true := hL.need 2 (by kernel_rfl)
        have e2 := q1 2 _ rfl l2
        refine gen_plain rfl ?_
        simp only [e2]
        go_simp
        refine gr_call ?_
        refine (iclone_any B0 cm x _ (hix.ints.grows qB) hxl).mono ?_
        rintro e wc ⟨⟨v, rfl, hown⟩, hg⟩
        obtain ⟨B, cx, rfl, hcx, hib⟩ := InB.of_own hown
        have hlt := (o5 n5).lt
        have hap : ∀ ad, B = some ad → 0 < x.length → (Value.slice A2' ms.length c2' : Value).ownBlock ≠ some ad.block := fun ad e hl e2 => by
          have h8 := (hlt _ e2).2
          have h9 := hib.2 hl ad e
          unfold Ge at h9
          omega
        exact ⟨_, rfl, HI.out _ _ _ ⟨⟨below_grows qB (Nat.le_refl _) hg, RdB.grows qr hg, RdB.grows qs hg, qa.grows hg, qb.grows hg, q4b.grows hg, qG.grows hg, Nat.le_trans qh hg.size⟩, kn_free q1 rfl, c5, (fun _ => rfl), (fun _ => (o5 n5).grows hg), (fun _ _ => ⟨B, cx, rfl, hcx, hib.mono (fun k hk => by unfold Ge at *; omega), hap⟩), (fun h => by rw [show L 4 = true from h] at n4; cases n4), (fun h => by rw [show L 5 = true from h] at n5; cases n5)⟩⟩
      refine gent_consR (fun vs L w1 hL hw1 => ?_) ?_
      · obtain ⟨⟨qB, qr, qs, qa, qb, q4b, qG, qh⟩, q1, c5, c4, o5, q3, q4, q5⟩ := HO.out _ _ _ hw1
        have n4 : L 4 = false := hL.1
        have n5 : L 5 = false := by
          cases h : L 5
          · rfl
          · rw [c5 h] at n4; cases n4
        have l3 : L 3 = true := hL.need 3 (by kernel_rfl)
        obtain ⟨B, cx, e3, hcx, hib, hap⟩ := q3 l3 n5
        refine gen_plain rfl ?_
        simp only [e3]
        go_simp
        have hg := (Below.refl w1.heap.size w1).alloc (Nat.le_refl _) (Obj.cells #[.slice B x.length cx] 23)
        have hk := Blk.new w1 23 #[.slice B x.length cx]
        exact gr_val (HI.out _ _ _ ⟨⟨below_grows qB (Nat.le_refl _) hg, RdB.grows qr hg, RdB.grows qs hg, qa.grows hg, qb.grows hg, q4b.grows hg, qG.grows hg, Nat.le_trans qh hg.size⟩, kn_free q1 rfl, (fun _ => rfl), (fun _ => l3), (fun _ => (o5 n5).grows hg), (fun _ _ => ⟨B, cx, e3, hcx, hib.grows hg, hap⟩), (fun _ _ => ⟨w1.heap.size, rfl, by rw [show setV vs 4 _ 3 = vs 3 from rfl, e3]; exact hk⟩), (fun h => by rw [show L 5 = true from h] at n5; cases n5)⟩)
      refine gent_consR (fun vs L w1 hL hw1 => ?_) ?_
      · obtain ⟨⟨qB, qr, qs, qa, qb, q4b, qG, qh⟩, q1, c5, c4, o5, q3, q4, q5⟩ := HO.out _ _ _ hw1
        have n5 : L 5 = false := hL.1
        have l4 : L 4 = true := hL.need 4 (by kernel_rfl)
        have l3 := c4 l4
        have l1 : L 1 = true := hL.need 1 (by kernel_rfl)
        have e1 := q1 1 _ rfl l1
        obtain ⟨B, cx, e3, hcx, hib, hap⟩ := q3 l3 n5
        obtain ⟨gb, e4, hk⟩ := q4 l4 n5
        rw [e3] at hk
        have o6 := o5 n5
        have hob := o6.lt
        refine gen_plain rfl ?_
        have hrd : Reads w1 w1.heap.size 1 (some ⟨gb, 0, none⟩) 1 [.slice B x.length cx] := ⟨rfl, fun _ => ⟨_, rfl, hk.lt, fun j u hu => by rw [add_head, hk.cell, ← Array.getElem?_toList]; exact hu⟩⟩
        refine gr_append_mapq (.tmp 37) (.tmp 40) rfl e1 o6 e4 hrd (by omega) qh hib hcx hap ?_
        intro v3 w3 o7 g3
        exact HI.out _ _ _ ⟨⟨qB.grown g3 qB.size (fun q e => by have := (hob q e).1; omega), RdB.grown qr g3 (fun q e => by have := (hob q e).1; unfold Bwx; omega), RdB.grown qs g3 (fun q e => by have := (hob q e).1; unfold Bwx; omega), qa.grown g3 (fun e => by have := (hob _ e.symm).1; omega), qb.grown g3 (fun e => by have := (hob _ e.symm).1; omega), q4b.grown g3 (fun e => by have := (hob _ e.symm).1; omega), qG.grown g3 (fun e => by have := (hob _ e.symm).1; omega), Nat.le_trans qh g3.size⟩, kn_free q1 rfl, (fun _ => l4), c4, (fun h => by cases h), (fun _ h => by cases h), (fun _ h => by cases h), (fun _ => o7)⟩
      refine gent_nil ?_
      intro vs L W2 hall hS
      obtain ⟨⟨qB, qr, qs, qa, qb, q4b, qG, qh⟩, q1, -, -, -, -, -, q5⟩ := HO.out _ _ _ hS
      have ho := q5 (hall 5 (by omega))
      have e0 := q1 0 _ rfl (hall 0 (by omega))
      have e1 := q1 1 _ rfl (hall 1 (by omega))
      have e2 := q1 2 _ rfl (hall 2 (by omega))
      clear hall hS HI HO q1 q5
      simp only [e0, e1, e2]
      obtain ⟨A7, c7, e7, hc7, -⟩ := ho.read
      rw [e7] at ho
      simp only [e7]
      clear e7 e0 e1 e2
      generalize vs 3 = y3 at *
      generalize vs 4 = y4 at *
      clear vs
      generalize ms ++ [x] = ms2 at *
      have y3 := qG.cell
      have hf3 := qG.frozen
      replace qB := qB.setCell (p := ⟨G, 2, none⟩) (show w.heap.size ≤ G by omega) (.slice A7 ms2.length c7)
      replace qa := qa.far (p := ⟨G, 2, none⟩) (show w.heap.size ≠ G by omega) (.slice A7 ms2.length c7)
      replace qb := qb.far (p := ⟨G, 2, none⟩) (show w.heap.size + 1 ≠ G by omega) (.slice A7 ms2.length c7)
      replace q4b := q4b.far (p := ⟨G, 2, none⟩) (show w.heap.size + 2 ≠ G by omega) (.slice A7 ms2.length c7)
      replace qG := qG.set_ 2 (.slice A7 ms2.length c7)
      replace qr := RdB.grown qr (d_only_set (World.grownBy.refl _ (some G)) 2 (.slice A7 ms2.length c7)) (fun q e => by injection e with e; unfold Bwx; omega)
      replace qs := RdB.grown qs (d_only_set (World.grownBy.refl _ (some G)) 2 (.slice A7 ms2.length c7)) (fun q e => by injection e with e; unfold Bwx; omega)
      replace ho := ho.only (d_only_set (World.grownBy.refl _ (some G)) 2 (.slice A7 ms2.length c7)) (by omega) (by unfold Ge; omega)
      have qh2 : b2 ≤ (W2.setCell ⟨G, 2, none⟩ (.slice A7 ms2.length c7)).heap.size := by simpa [World.setCell] using qh
      clear qh
      have qh := qh2
      clear qh2
      go_wp2
      generalize World.setCell W2 _ _ = w8 at *
      go_wp2
      go_roundw
      case rel => exact ⟨k + 1, _, by omega, by go_num, qh, by rw [HT.out]; exact ho, qr, qs, qa, qb, q4b, qG, qB⟩
      case measure => simp [intOf]; omega
    · rw [List.take_of_length_le (by omega)] at *
      have HF2 := HF.out
      generalize (a.m.filter fun x => decide (x ∈ b.m)) = ms at *
      obtain ⟨A9, c9, e9, hc9, hmr⟩ := ho.read
      injection e9 with e9 _ e10
      subst e9
      subst e10
      have HV : Hid (someB (bothF a b) = (((bits .and .i64 a.k b.k) != 0) && decide (0 < ms.length) && decide (0 < R.length) && decide (0 < Z.length))) := Lib.hid (by rw [HF2]; rfl)
      clear HF2
      generalize (bits .and .i64 a.k b.k) = K at *
      have xG := kG.cell
      have x4 := k4.cell
      have hf4 := k4.frozen
      have HRES : Hid (∀ w9 : World, Blk w9 (w.heap.size + 2) 48 #[.int .i64 K, .slice A5 R.length c5, .slice A2' ms.length c2', .slice A6 Z.length c6] → RdB w9 (Bwx (w.heap.size + 3) G b2) 2 A5 R.length (scells R) → RdB w9 (Bwx (w.heap.size + 3) G b2) 2 A6 Z.length (scells Z) → MapsR w9 (fun k => Ge b2 k ∨ b2 ≤ k) A2' ms → BoxV w9 (Ge w.heap.size) (bothF a b) (.agg #[.int .i64 K, .slice A5 R.length c5, .slice A2' ms.length c2', .slice A6 Z.length c6])) := Lib.hid (fun w9 _ yR yS yM => by
        rw [HF.out]
        exact ⟨A5, c5, A2', c2', A6, c6, rfl, ⟨RdB.mono yR (fun k hk => by unfold Bwx at hk; unfold Ge; omega), yM.mono (fun k hk => by unfold Ge at *; omega), RdB.mono yS (fun k hk => by unfold Bwx at hk; unfold Ge; omega), hc5, hc9, hc6⟩⟩)
      have y0 := Blk.drew ((((k4.set_ 0 (.int .i64 K)).set_ 1 (.slice A5 R.length c5)).set_ 2 (.slice A2' ms.length c2')).set_ 3 (.slice A6 Z.length c6))
      have yB := below_grows ((((hB.setCell (p := ⟨w.heap.size + 2, 0, none⟩) (show w.heap.size ≤ w.heap.size + 2 by omega) (.int .i64 K)).setCell (p := ⟨w.heap.size + 2, 1, none⟩) (show w.heap.size ≤ w.heap.size + 2 by omega) (.slice A5 R.length c5)).setCell (p := ⟨w.heap.size + 2, 2, none⟩) (show w.heap.size ≤ w.heap.size + 2 by omega) (.slice A2' ms.length c2')).setCell (p := ⟨w.heap.size + 2, 3, none⟩) (show w.heap.size ≤ w.heap.size + 2 by omega) (.slice A6 Z.length c6)) (Nat.le_refl _) (Grows.drew' _)
      have yR := RdB.grows (RdB.grown hr (d_only_set (d_only_set (d_only_set (d_only_set (World.grownBy.refl _ (some (w.heap.size + 2))) 0 (.int .i64 K)) 1 (.slice A5 R.length c5)) 2 (.slice A2' ms.length c2')) 3 (.slice A6 Z.length c6)) (fun q e => by injection e with e; unfold Bwx; omega)) (Grows.drew' _)
      have yS := RdB.grows (RdB.grown hs (d_only_set (d_only_set (d_only_set (d_only_set (World.grownBy.refl _ (some (w.heap.size + 2))) 0 (.int .i64 K)) 1 (.slice A5 R.length c5)) 2 (.slice A2' ms.length c2')) 3 (.slice A6 Z.length c6)) (fun q e => by injection e with e; unfold Bwx; omega)) (Grows.drew' _)
      have yM := MapsR.grows (MapsR.grown hmr (d_only_set (d_only_set (d_only_set (d_only_set (World.grownBy.refl _ (some (w.heap.size + 2))) 0 (.int .i64 K)) 1 (.slice A5 R.length c5)) 2 (.slice A2' ms.length c2')) 3 (.slice A6 Z.length c6)) (fun q e => by injection e with e; unfold Ge; omega)) (Grows.drew' _)
      have y6 := y0.cell
      clear ka kb k4 kG hr hs hmr ho hB
      go_upto_region 8 with fail
      by_cases h1 : K = 0
      case pos =>
        have HE : Hid (someB (bothF a b) = false) := Lib.hid (by rw [HV.out, h1]; rfl)
        have dk : (K != 0) = false := by simpa using h1
        clear h1
        go_region
        go_wp2
        refine bodyPost_ret (v := .tuple #[.agg #[.int .i64 K, .slice A5 R.length c5, .slice A2' ms.length c2', .slice A6 Z.length c6], .bool false]) (by simp [results, Tryz.results63, go_sem, y6]) rfl ⟨⟨_, by rw [HE.out], HRES.out _ y0 yR yS yM⟩, yB⟩
      have dk : (K != 0) = true := by simpa using h1
      clear h1
      by_cases h2 : 0 < R.length
      case neg =>
        have HE : Hid (someB (bothF a b) = false) := Lib.hid (by rw [HV.out, decide_eq_false h2]; simp)
        have d2 : decide (0 < (R.length : Int)) = false := by simp only [decide_eq_false_iff_not]; omega
        have d3 : decide (0 < R.length) = false := by simpa using h2
        clear h2
        go_region
        go_wp2
        refine bodyPost_ret (v := .tuple #[.agg #[.int .i64 K, .slice A5 R.length c5, .slice A2' ms.length c2', .slice A6 Z.length c6], .bool false]) (by simp [results, Tryz.results63, go_sem, y6]) rfl ⟨⟨_, by rw [HE.out], HRES.out _ y0 yR yS yM⟩, yB⟩
      have HR1 := Lib.hid (decide_eq_true h2)
      have d2 : decide (0 < (R.length : Int)) = true := by simp only [decide_eq_true_eq]; omega
      have d3 : decide (0 < R.length) = true := by simpa using h2
      clear h2
      by_cases h2 : 0 < ms.length
      case neg =>
        have HE : Hid (someB (bothF a b) = false) := Lib.hid (by rw [HV.out, decide_eq_false h2]; simp)
        have d4 : decide (0 < (ms.length : Int)) = false := by simp only [decide_eq_false_iff_not]; omega
        have d5 : decide (0 < ms.length) = false := by simpa using h2
        clear h2
        go_region
        go_wp2
        refine bodyPost_ret (v := .tuple #[.agg #[.int .i64 K, .slice A5 R.length c5, .slice A2' ms.length c2', .slice A6 Z.length c6], .bool false]) (by simp [results, Tryz.results63, go_sem, y6]) rfl ⟨⟨_, by rw [HE.out], HRES.out _ y0 yR yS yM⟩, yB⟩
      have HM1 := Lib.hid (decide_eq_true h2)
      have d4 : decide (0 < (ms.length : Int)) = true := by simp only [decide_eq_true_eq]; omega
      have d5 : decide (0 < ms.length) = true := by simpa using h2
      clear h2
      by_cases h2 : 0 < Z.length
      case neg =>
        have HE : Hid (someB (bothF a b) = false) := Lib.hid (by rw [HV.out, decide_eq_false h2]; simp)
        have d6 : decide (0 < (Z.length : Int)) = false := by simp only [decide_eq_false_iff_not]; omega
        have d7 : decide (0 < Z.length) = false := by simpa using h2
        clear h2
        go_region
        go_wp2
        refine bodyPost_ret (v := .tuple #[.agg #[.int .i64 K, .slice A5 R.length c5, .slice A2' ms.length c2', .slice A6 Z.length c6], .bool false]) (by simp [results, Tryz.results63, go_sem, y6]) rfl ⟨⟨_, by rw [HE.out], HRES.out _ y0 yR yS yM⟩, yB⟩
      have HE : Hid (someB (bothF a b) = true) := Lib.hid (by rw [HV.out, dk, HM1.out, HR1.out, decide_eq_true h2]; rfl)
      have d6 : decide (0 < (Z.length : Int)) = true := by simp only [decide_eq_true_eq]; omega
      have d7 : decide (0 < Z.length) = true := by simpa using h2
      clear h2
      go_region
      go_wp2
      refine bodyPost_ret (v := .tuple #[.agg #[.int .i64 K, .slice A5 R.length c5, .slice A2' ms.length c2', .slice A6 Z.length c6], .bool true]) (by simp [results, Tryz.results63, go_sem, y6]) rfl ⟨⟨_, by rw [HE.out], HRES.out _ y0 yR yS yM⟩, yB⟩
end Go.Proofs.YtnbdpnlepcjmmaaGreat

namespace Go.Proofs.YtnbdpnlepcjmmaaGreat
open Go.RowKit
theorem OwnBq.lower {w : World} {base base2 : Nat} {ok ok2 : Nat → Prop} {v : Value} {l : List Bx} (h : OwnBq w base ok v l) (hb : base2 ≤ base) (hk : ∀ k, ok k → ok2 k) : OwnBq w base2 ok2 v l := by
  obtain ⟨vs, h1, h2⟩ := h
  exact ⟨vs, ⟨h1.1, h1.2.imp id fun ⟨g, cap, cur, e, hg, r⟩ => ⟨g, cap, cur, e, by omega, r⟩⟩, fun i x hx => by obtain ⟨A1, c1, A2, c2, A3, c3, hp, hc⟩ := h2 i x hx; exact ⟨A1, c1, A2, c2, A3, c3, hp.mono (fun k hk2 => ⟨hk k hk2.1, hk2.2⟩), hc⟩⟩
set_option maxHeartbeats 32000000 in
set_option maxRecDepth 10000 in
theorem reduce_any {base : Nat → Prop} {A : Option Addr} {c n : Nat} {l : List Bx} {w : World} (hn : n = l.length) (h : Bxs w base A l) (hl : l.length ≤ 100000) (ho : ∀ b ∈ l, OKB b) :
    Calls Tryz.prog 56 #[.slice A n c] w fun e w' => (∃ v, e = .returned v ∧ OwnBq w' w.heap.size (Ge w.heap.size) v (reduceL l)) ∧ Grows w w' := by
  subst hn
  have HO := Lib.hid ho
  clear ho
  go_enter Tryz.func56, Tryz.ntmps56
  have hB := Below.refl w.heap.size w
  have HR : Hid (reduceL l = keepUp l l.length) := Lib.hid rfl
  go_wp2_with fail
  go_loopw [3, 11] (fun v i wr => ∃ k : Nat, k ≤ l.length ∧ i = .int .i64 k ∧ OwnBq wr w.heap.size (Ge w.heap.size) v (keepUp l k) ∧ Below w.heap.size w wr) (fun _ i _ => l.length - (intOf i).toNat)
  case atStart => exact ⟨0, by omega, rfl, OwnBq.nil, hB⟩
  case round =>
    clear hB
    obtain ⟨k, hk, rfl, hw, hB⟩ := hrel
    by_cases hlt : k < l.length
    · obtain ⟨ad, b, A1, c1, A2, c2, A3, c3, e1, had, hx, hp, q0, q1, q2, q3⟩ := (h.grows hB).elem hlt
      subst e1
      have HX := Lib.hid hx
      clear hx
      have hob := HO.out b (List.mem_of_getElem? HX.out)
      have hkl : (keepUp l k).length + 1 ≤ 1000000 := by have := keep_len l k; omega
      have k5 := Blk.new wr 48 #[.int .i64 b.k, .slice A1 b.r.length c1, .slice A2 b.m.length c2, .slice A3 b.s.length c3]
      have hq := (Below.refl wr.heap.size wr).alloc (Nat.le_refl _) (Obj.cells #[.int .i64 b.k, .slice A1 b.r.length c1, .slice A2 b.m.length c2, .slice A3 b.s.length c3] 48)
      go_upto_region 5 with fail
      replace hB := below_grows hB (Nat.le_refl _) hq
      replace hw := hw.grows hq
      replace hp := hp.grows hq
      clear hq q0 q1 q2 q3
      generalize World.alloc wr _ = w5 at *
      generalize wr.heap.size = G5 at *
      go_wp2_with fail
      go_loopw [6, 18] (fun t i wq => ∃ j : Nat, j ≤ l.length ∧ i = .int .i64 j ∧ t = .bool (dropUp l k b j) ∧ Blk wq G5 48 #[.int .i64 b.k, .slice A1 b.r.length c1, .slice A2 b.m.length c2, .slice A3 b.s.length c3] ∧ Grows w5 wq) (fun _ i _ => l.length - (intOf i).toNat)
      case atStart => exact ⟨0, by omega, rfl, rfl, k5, Below.refl _ _⟩
      case round =>
        clear k5
        obtain ⟨j, hj, rfl, rfl, k5, hg⟩ := hrel
        by_cases hjt : j < l.length
        · have hB2 := below_grows hB (Nat.le_refl _) hg
          obtain ⟨ad2, z, B1, d1, B2, d2, B3, d3, e2, had2, hy, hp2, q0, q1, q2, q3⟩ := (h.grows hB2).elem hjt
          have HY := Lib.hid (drop_next (i := k) (b := b) hy)
          have hoz := HO.out z (List.mem_of_getElem? hy)
          have e3 := e2
          injection e3 with e3
          subst e3
          clear e2 hy
          have k8 := Blk.new wr 48 #[.int .i64 z.k, .slice B1 z.r.length d1, .slice B2 z.m.length d2, .slice B3 z.s.length d3]
          have hq := (Below.refl wr.heap.size wr).alloc (Nat.le_refl _) (Obj.cells #[.int .i64 z.k, .slice B1 z.r.length d1, .slice B2 z.m.length d2, .slice B3 z.s.length d3] 48)
          go_upto_region 9 with fail
          replace hg := below_grows hg (Nat.le_refl _) hq
          replace k5 := k5.grows hq
          replace hp2 := hp2.grows hq
          clear hq q0 q1 q2 q3 hB2
          generalize World.alloc wr _ = w6 at *
          generalize wr.heap.size = G8 at *
          have hpb := hp.grows hg
          cases hv : dropUp l k b j
          case true =>
            have HE : Hid (dropUp l k b (j + 1) = true) := Lib.hid (by rw [HY.out, hv]; rfl)
            clear hv HY
            go_wp2
            go_roundw
            case rel => exact ⟨j + 1, by omega, by go_num, by rw [HE.out], k5, hg⟩
            case measure => simp [intOf]; omega
          have HV : Hid (dropUp l k b (j + 1) = dropAt k b j z) := Lib.hid (by rw [HY.out, hv]; rfl)
          clear hv HY
          by_cases hjk : j = k
          case pos =>
            have HE : Hid (dropUp l k b (j + 1) = false) := Lib.hid (by rw [HV.out]; exact (hjk ▸ dropAt_self j b z))
            clear HV
            have dn : ((j : Int) != (k : Int)) = false := by simp only [bne_eq_false_iff_eq]; omega
            clear hjk
            go_wp2
            go_roundw
            case rel => exact ⟨j + 1, by omega, by go_num, by rw [HE.out], k5, hg⟩
            case measure => simp [intOf]; omega
          have dn : ((j : Int) != (k : Int)) = true := by simp only [bne_iff_ne, ne_eq]; omega
          have x5 := k5.cell
          have x8 := k8.cell
          go_wp2_with fail
          refine (pinsb_any hpb hp2 hob hoz).mono ?_
          cases hv : insideB b z
          case false =>
            have HE : Hid (dropUp l k b (j + 1) = false) := Lib.hid (by rw [HV.out]; exact dropAt_not hv)
            clear HV
            clear hv
            rintro e w7 ⟨rfl, hq⟩
            replace hg := below_grows hg (Nat.le_refl _) hq
            replace k5 := k5.grows hq
            clear hq x5 x8 k8 hp2 hpb
            go_wp2
            go_roundw
            case rel => exact ⟨j + 1, by omega, by go_num, by rw [HE.out], k5, hg⟩
            case measure => simp [intOf]; omega
          rintro e w7 ⟨rfl, hq⟩
          replace hg := below_grows hg (Nat.le_refl _) hq
          replace k5 := k5.grows hq
          replace k8 := k8.grows hq
          replace hp2 := hp2.grows hq
          replace hpb := hpb.grows hq
          clear hq x5 x8
          have x5 := k5.cell
          have x8 := k8.cell
          by_cases hjl : j < k
          case pos =>
            have HE : Hid (dropUp l k b (j + 1) = true) := Lib.hid (by rw [HV.out]; exact dropAt_lt hjk hv hjl)
            clear HV
            have dl : decide ((j : Int) < (k : Int)) = true := by simp only [decide_eq_true_eq]; omega
            have dl2 : decide (j < k) = true := by simpa using hjl
            clear hv hjl hjk
            go_wp2
            go_roundw
            case rel => exact ⟨j + 1, by omega, by go_num, by rw [HE.out], k5, hg⟩
            case measure => simp [intOf]; omega
          have dl : decide ((j : Int) < (k : Int)) = false := by simp only [decide_eq_false_iff_not]; omega
          have dl2 : decide (j < k) = false := by simpa using hjl
          have HD : Hid (dropAt k b j z = !insideB z b) := Lib.hid (dropAt_ge hjk hv hjl)
          clear hv hjl
          go_wp2_with fail
          refine (pinsb_any hp2 hpb hoz hob).mono ?_
          cases hv : insideB z b
          case false =>
            have HE : Hid (dropUp l k b (j + 1) = true) := Lib.hid (by rw [HV.out]; exact (by rw [HD.out, hv]; rfl))
            clear HV
            clear hv HD
            rintro e w8 ⟨rfl, hq⟩
            replace hg := below_grows hg (Nat.le_refl _) hq
            replace k5 := k5.grows hq
            clear hq x5 x8 k8 hp2 hpb
            go_wp2
            go_roundw
            case rel => exact ⟨j + 1, by omega, by go_num, by rw [HE.out], k5, hg⟩
            case measure => simp [intOf]; omega
          have HE : Hid (dropUp l k b (j + 1) = false) := Lib.hid (by rw [HV.out]; exact (by rw [HD.out, hv]; rfl))
          clear HV
          clear hv HD
          rintro e w8 ⟨rfl, hq⟩
          replace hg := below_grows hg (Nat.le_refl _) hq
          replace k5 := k5.grows hq
          clear hq x5 x8 k8 hp2 hpb
          go_wp2
          go_roundw
          case rel => exact ⟨j + 1, by omega, by go_num, by rw [HE.out], k5, hg⟩
          case measure => simp [intOf]; omega
        · have HK := Lib.hid (keep_next HX.out)
          obtain rfl : j = l.length := by omega
          have hB2 := below_grows hB (Nat.le_refl _) hg
          replace hw := hw.grows hg
          cases hv : dropUp l k b l.length
          case true =>
            have HK2 : Hid (keepUp l (k + 1) = keepUp l k) := Lib.hid (by rw [HK.out, if_pos hv, List.append_nil])
            clear hv HK
            go_wp2
            go_roundw
            case rel => exact ⟨k + 1, by omega, by go_num, by rw [HK2.out]; exact hw, hB2⟩
            case measure => simp [intOf]; omega
          have HK2 : Hid (keepUp l (k + 1) = keepUp l k ++ [b]) := Lib.hid (by rw [HK.out, if_neg (by rw [hv]; decide)])
          clear hv HK
          have x5 := k5.cell
          generalize keepUp l k = ks at *
          go_upto_region 12 with fail
          refine wp_region_lit ?_
          iterate 2
            refine wpList_plain rfl (fun K hK => ?_)
            go_simp
            refine hK _ _ ?_
            clear hK K
          refine wpList_plain rfl (fun K hK => ?_)
          go_simp
          have hown := hw.lt
          refine (copied_any (hp.grows hg) hob).mono ?_
          rintro e wb ⟨⟨v2, rfl, E1, f1, E2, f2, E3, f3, rfl, hpn⟩, hq⟩
          refine hK _ _ ?_
          clear hK K
          replace hpn : BoxP wb (Aq (Ge w.heap.size) _) b E1 f1 E2 f2 E3 f3 := hpn.mono fun k hk => ⟨by unfold Ge at *; have := hB2.size; omega, fun e => by have := (hown _ e).2; unfold Ge at hk; omega⟩
          replace hw := hw.grows hq
          have hB3 := below_grows hB2 (Nat.le_refl _) hq
          have hown2 := hw.lt
          clear hq hown k5 x5 hp hg hB hB2
          refine wpList_plain rfl (fun K hK => ?_)
          go_simp
          refine hK _ _ ?_
          clear hK K
          have hL := bxs_lit hpn ⟨by unfold Ge; exact hB3.size, fun e => by have := (hown2 _ e).2; omega⟩
          have hq := (Below.refl wb.heap.size wb).alloc (Nat.le_refl _) (Obj.cells #[.int .i64 b.k, .slice E1 b.r.length f1, .slice E2 b.m.length f2, .slice E3 b.s.length f3] 48)
          replace hw := hw.grows hq
          replace hB3 := below_grows hB3 (Nat.le_refl _) hq
          have hown3 := hw.lt
          clear hq hpn hown2
          refine wpList_append_boxesq rfl (.tmp 48) (.tmp 51) rfl (m := [b]) rfl rfl hw rfl hL (by simp only [List.length_singleton]; omega) hB3.size ?_
          intro v5 w12 ho2 hgr _
          replace hB3 := hB3.grown hgr hB3.size (fun q e => (hown3 q e).1)
          clear hown3 hgr hw hL
          generalize ks ++ [b] = ks2 at *
          go_wp2
          go_roundw
          case rel => exact ⟨k + 1, by omega, by go_num, by rw [HK2.out]; exact ho2, hB3⟩
          case measure => simp [intOf]; omega
    · obtain rfl : k = l.length := by omega
      go_wp2
      go_ret
      rw [HR.out]
      exact ⟨⟨_, rfl, hw⟩, hB⟩
set_option maxHeartbeats 32000000 in
set_option maxRecDepth 10000 in
theorem preduce_any {base : Nat → Prop} {A : Option Addr} {c n : Nat} {l : List Bx} {w : World} (hn : n = l.length) (h : Bxs w base A l) (hl : l.length ≤ 100000) (ho : ∀ b ∈ l, OKB b) :
    Calls Tryz.prog 20 #[.slice A n c] w fun e w' => (∃ v, e = .returned (.tuple #[v, .int .i64 (reduceF l).2]) ∧ OwnBq w' w.heap.size (Ge w.heap.size) v (reduceF l).1) ∧ Grows w w' := by
  subst hn
  have HO := Lib.hid ho
  clear ho
  go_enter Tryz.func20, Tryz.ntmps20
  go_wp2_with fail
  refine (pvalidl_any A c base l _ h (by omega) HO.out).mono ?_
  cases hv : validL l
  · have HE : Hid (reduceF l = ([], 1)) := Lib.hid (if_neg (by rw [hv]; decide))
    clear hv
    rintro e w2 ⟨rfl, hq⟩
    go_wp2
    refine bodyPost_ret (v := .tuple #[.slice none 0 0, .int .i64 1]) (by simp [results, Tryz.results20, go_sem]) rfl ?_
    rw [HE.out]
    exact ⟨⟨_, rfl, OwnBq.nil⟩, hq⟩
  · have HE : Hid (reduceF l = (reduceL l, 0)) := Lib.hid (if_pos hv)
    clear hv
    rintro e w2 ⟨rfl, hq⟩
    go_wp2_with fail
    refine (reduce_any rfl (h.grows hq) hl HO.out).mono ?_
    rintro e w3 ⟨⟨v, rfl, hw⟩, hq2⟩
    have hs := hq.size
    go_wp2
    refine bodyPost_ret (v := .tuple #[v, .int .i64 0]) (by simp [results, Tryz.results20, go_sem]) rfl ?_
    rw [HE.out]
    exact ⟨⟨_, rfl, hw.lower hs (fun k hk => by unfold Ge at *; omega)⟩, below_grows hq (Nat.le_refl _) hq2⟩
set_option maxHeartbeats 32000000 in
set_option maxRecDepth 10000 in
theorem rreduce_any {base : Nat → Prop} {A : Option Addr} {c n : Nat} {l : List Bx} {w : World} (hn : n = l.length) (h : Bxs w base A l) (hl : l.length ≤ 100000) (ho : ∀ b ∈ l, OKB b) :
    Calls Tryz.prog 27 #[.slice A n c] w fun e w' => (∃ v, e = .returned (.tuple #[v, .int .i64 (reduceF l).2]) ∧ OwnBq w' w.heap.size (fun _ => True) v (reduceF l).1) ∧ Grows w w' := by
  subst hn
  have HO := Lib.hid ho
  clear ho
  go_enter Tryz.func27, Tryz.ntmps27
  have hB := Below.refl w.heap.size w
  go_wp2_with fail
  refine (rvalidl_any A c base l _ h (by omega) HO.out).mono ?_
  cases hv : validL l
  · have HE : Hid (reduceF l = ([], 1)) := Lib.hid (if_neg (by rw [hv]; decide))
    clear hv
    rintro e w2 ⟨rfl, hq⟩
    go_wp2
    refine bodyPost_ret (v := .tuple #[.slice none 0 0, .int .i64 1]) (by simp [results, Tryz.results27, go_sem]) rfl ?_
    rw [HE.out]
    exact ⟨⟨_, rfl, OwnBq.nil⟩, hq⟩
  have HR : Hid (reduceF l = (keepUp l l.length, 0)) := Lib.hid (if_pos hv)
  clear hv
  rintro e w2 ⟨rfl, hq⟩
  replace hB := below_grows hB (Nat.le_refl _) hq
  clear hq
  go_wp2_with fail
  go_loopw [4, 15] (fun v i wr => ∃ k : Nat, k ≤ l.length ∧ i = .int .i64 k ∧ OwnBq wr w.heap.size (fun _ => True) v (keepUp l k) ∧ Below w.heap.size w wr) (fun _ i _ => l.length - (intOf i).toNat)
  case atStart => exact ⟨0, by omega, rfl, OwnBq.nil, hB⟩
  case round =>
    clear hB
    obtain ⟨k, hk, rfl, hw, hB⟩ := hrel
    by_cases hlt : k < l.length
    · obtain ⟨ad, b, A1, c1, A2, c2, A3, c3, e1, had, hx, hp0, q0, q1, q2, q3⟩ := h.under.elem hlt
      have had2 := Nat.lt_of_lt_of_le had hB.size
      replace q0 := (hB.cell (p := ad.add (k * 4)) (by rw [block_of_add]; exact had)).trans q0
      replace q1 := (hB.cell (p := ⟨(ad.add (k * 4)).block, (ad.add (k * 4)).off + 1, none⟩) (by simp only [block_of_add]; exact had)).trans q1
      replace q2 := (hB.cell (p := ⟨(ad.add (k * 4)).block, (ad.add (k * 4)).off + 2, none⟩) (by simp only [block_of_add]; exact had)).trans q2
      replace q3 := (hB.cell (p := ⟨(ad.add (k * 4)).block, (ad.add (k * 4)).off + 3, none⟩) (by simp only [block_of_add]; exact had)).trans q3
      have hp := hp0.grows hB
      subst e1
      have HX := Lib.hid hx
      clear hx
      have hob := HO.out b (List.mem_of_getElem? HX.out)
      have hkl : (keepUp l k).length + 1 ≤ 1000000 := by have := keep_len l k; omega
      have k5 := Blk.new wr 48 #[.int .i64 b.k, .slice A1 b.r.length c1, .slice A2 b.m.length c2, .slice A3 b.s.length c3]
      have hq := (Below.refl wr.heap.size wr).alloc (Nat.le_refl _) (Obj.cells #[.int .i64 b.k, .slice A1 b.r.length c1, .slice A2 b.m.length c2, .slice A3 b.s.length c3] 48)
      go_upto_region 7 with fail
      replace hB := below_grows hB (Nat.le_refl _) hq
      replace hw := hw.grows hq
      replace hp := hp.grows hq
      clear hq q0 q1 q2 q3
      generalize World.alloc wr _ = w5 at *
      generalize wr.heap.size = G5 at *
      go_wp2_with fail
      go_loopw [7, 22] (fun t i wq => ∃ j : Nat, j ≤ l.length ∧ i = .int .i64 j ∧ t = .bool (!(dropUp l k b j)) ∧ Blk wq G5 48 #[.int .i64 b.k, .slice A1 b.r.length c1, .slice A2 b.m.length c2, .slice A3 b.s.length c3] ∧ Grows w5 wq) (fun _ i _ => l.length - (intOf i).toNat)
      case atStart => exact ⟨0, by omega, rfl, rfl, k5, Below.refl _ _⟩
      case round =>
        clear k5
        obtain ⟨j, hj, rfl, rfl, k5, hg⟩ := hrel
        by_cases hjt : j < l.length
        · have hB2 := below_grows hB (Nat.le_refl _) hg
          obtain ⟨ad2, z, B1, d1, B2, d2, B3, d3, e2, had2, hy, hp2, q0, q1, q2, q3⟩ := (h.grows hB2).elem hjt
          have HY := Lib.hid (drop_next (i := k) (b := b) hy)
          have hoz := HO.out z (List.mem_of_getElem? hy)
          have e3 := e2
          injection e3 with e3
          subst e3
          clear e2 hy
          have k8 := Blk.new wr 48 #[.int .i64 z.k, .slice B1 z.r.length d1, .slice B2 z.m.length d2, .slice B3 z.s.length d3]
          have hq := (Below.refl wr.heap.size wr).alloc (Nat.le_refl _) (Obj.cells #[.int .i64 z.k, .slice B1 z.r.length d1, .slice B2 z.m.length d2, .slice B3 z.s.length d3] 48)
          go_upto_region 11 with fail
          replace hg := below_grows hg (Nat.le_refl _) hq
          replace k5 := k5.grows hq
          replace hp2 := hp2.grows hq
          clear hq q0 q1 q2 q3 hB2
          generalize World.alloc wr _ = w6 at *
          generalize wr.heap.size = G8 at *
          have hpb := hp.grows hg
          have HV : Hid (dropUp l k b (j + 1) = (dropUp l k b j || dropAt k b j z)) := Lib.hid HY.out
          clear HY
          generalize dropUp l k b j = du at *
          by_cases hjk : j = k
          case pos =>
            have HE : Hid (dropUp l k b (j + 1) = du) := Lib.hid (by rw [HV.out, show dropAt k b j z = false from (hjk ▸ dropAt_self j b z)]; simp)
            clear HV
            have dn : ((k : Int) != (j : Int)) = false := by simp only [bne_eq_false_iff_eq]; omega
            clear hjk
            go_wp2
            go_roundw
            case rel => exact ⟨j + 1, by omega, by go_num, by rw [HE.out]; try rfl, k5, hg⟩
            case measure => simp [intOf]; omega
          have dn : ((k : Int) != (j : Int)) = true := by simp only [bne_iff_ne, ne_eq]; omega
          have x5 := k5.cell
          have x8 := k8.cell
          go_wp2_with fail
          refine (rinsb_any hpb hp2 hob hoz).mono ?_
          cases hv : insideB b z
          case false =>
            have HE : Hid (dropUp l k b (j + 1) = du) := Lib.hid (by rw [HV.out, show dropAt k b j z = false from dropAt_not hv]; simp)
            clear HV
            clear hv
            rintro e w7 ⟨rfl, hq⟩
            replace hg := below_grows hg (Nat.le_refl _) hq
            replace k5 := k5.grows hq
            clear hq x5 x8 k8 hp2 hpb
            go_wp2
            go_roundw
            case rel => exact ⟨j + 1, by omega, by go_num, by rw [HE.out]; try rfl, k5, hg⟩
            case measure => simp [intOf]; omega
          rintro e w7 ⟨rfl, hq⟩
          replace hg := below_grows hg (Nat.le_refl _) hq
          replace k5 := k5.grows hq
          replace k8 := k8.grows hq
          replace hp2 := hp2.grows hq
          replace hpb := hpb.grows hq
          clear hq x5 x8
          have x5 := k5.cell
          have x8 := k8.cell
          by_cases hjl : j < k
          case pos =>
            have HE : Hid (dropUp l k b (j + 1) = true) := Lib.hid (by rw [HV.out, show dropAt k b j z = true from dropAt_lt hjk hv hjl]; simp)
            clear HV
            have dl : decide ((j : Int) < (k : Int)) = true := by simp only [decide_eq_true_eq]; omega
            have dl2 : decide (j < k) = true := by simpa using hjl
            clear hv hjl hjk
            go_wp2
            go_roundw
            case rel => exact ⟨j + 1, by omega, by go_num, by rw [HE.out]; try rfl, k5, hg⟩
            case measure => simp [intOf]; omega
          have dl : decide ((j : Int) < (k : Int)) = false := by simp only [decide_eq_false_iff_not]; omega
          have dl2 : decide (j < k) = false := by simpa using hjl
          have HD : Hid (dropAt k b j z = !insideB z b) := Lib.hid (dropAt_ge hjk hv hjl)
          clear hv hjl
          go_wp2_with fail
          refine (rinsb_any hp2 hpb hoz hob).mono ?_
          cases hv : insideB z b
          case false =>
            have HE : Hid (dropUp l k b (j + 1) = true) := Lib.hid (by rw [HV.out, show dropAt k b j z = true from (by rw [HD.out, hv]; rfl)]; simp)
            clear HV
            clear hv HD
            rintro e w8 ⟨rfl, hq⟩
            replace hg := below_grows hg (Nat.le_refl _) hq
            replace k5 := k5.grows hq
            clear hq x5 x8 k8 hp2 hpb
            go_wp2
            go_roundw
            case rel => exact ⟨j + 1, by omega, by go_num, by rw [HE.out]; try rfl, k5, hg⟩
            case measure => simp [intOf]; omega
          have HE : Hid (dropUp l k b (j + 1) = du) := Lib.hid (by rw [HV.out, show dropAt k b j z = false from (by rw [HD.out, hv]; rfl)]; simp)
          clear HV
          clear hv HD
          rintro e w8 ⟨rfl, hq⟩
          replace hg := below_grows hg (Nat.le_refl _) hq
          replace k5 := k5.grows hq
          clear hq x5 x8 k8 hp2 hpb
          go_wp2
          go_roundw
          case rel => exact ⟨j + 1, by omega, by go_num, by rw [HE.out]; try rfl, k5, hg⟩
          case measure => simp [intOf]; omega
        · have HK := Lib.hid (keep_next HX.out)
          obtain rfl : j = l.length := by omega
          have hB2 := below_grows hB (Nat.le_refl _) hg
          replace hw := hw.grows hg
          cases hv : dropUp l k b l.length
          case true =>
            have HK2 : Hid (keepUp l (k + 1) = keepUp l k) := Lib.hid (by rw [HK.out, if_pos hv, List.append_nil])
            clear hv HK
            go_wp2
            go_roundw
            case rel => exact ⟨k + 1, by omega, by go_num, by rw [HK2.out]; exact hw, hB2⟩
            case measure => simp [intOf]; omega
          have HK2 : Hid (keepUp l (k + 1) = keepUp l k ++ [b]) := Lib.hid (by rw [HK.out, if_neg (by rw [hv]; decide)])
          clear hv HK
          have x5 := k5.cell
          generalize keepUp l k = ks at *
          go_upto_region 15 with fail
          refine wp_region_lit ?_
          iterate 2
            refine wpList_plain rfl (fun K hK => ?_)
            go_simp
            refine hK _ _ ?_
            clear hK K
          have hown := hw.lt
          have hpn0 := hp0.grows hB2
          have hpn : BoxP _ (Aq (fun _ => True) _) b A1 c1 A2 c2 A3 c3 := hpn0.mono fun k hk => ⟨trivial, fun e => by have := (hown _ e).1; unfold Under at hk; omega⟩
          clear hpn0 k5 x5 hp hg hB
          refine wpList_plain rfl (fun K hK => ?_)
          go_simp
          refine hK _ _ ?_
          clear hK K
          have hL := bxs_lit hpn ⟨trivial, fun e => by have := (hown _ e).2; omega⟩
          have hq := (Below.refl wr.heap.size wr).alloc (Nat.le_refl _) (Obj.cells #[.int .i64 b.k, .slice A1 b.r.length c1, .slice A2 b.m.length c2, .slice A3 b.s.length c3] 48)
          replace hw := hw.grows hq
          have hB3 := below_grows hB2 (Nat.le_refl _) hq
          have hown3 := hw.lt
          clear hq hpn hown hB2
          refine wpList_append_boxesq rfl (.tmp 48) (.tmp 50) rfl (m := [b]) rfl rfl hw rfl hL (by simp only [List.length_singleton]; omega) hB3.size ?_
          intro v5 w12 ho2 hgr _
          replace hB3 := hB3.grown hgr hB3.size (fun q e => (hown3 q e).1)
          clear hown3 hgr hw hL
          generalize ks ++ [b] = ks2 at *
          go_wp2
          go_roundw
          case rel => exact ⟨k + 1, by omega, by go_num, by rw [HK2.out]; exact ho2, hB3⟩
          case measure => simp [intOf]; omega
    · obtain rfl : k = l.length := by omega
      obtain ⟨A9, c9, e9, hc9, -⟩ := hw.read
      rw [e9] at hw ⊢
      generalize hks : keepUp l l.length = ks at *
      have HKS := Lib.hid hks
      clear hks
      go_wp2
      refine bodyPost_ret (v := .tuple #[.slice A9 ks.length c9, .int .i64 0]) (by simp [results, Tryz.results27, go_sem]) rfl ?_
      rw [HR.out]
      exact ⟨⟨_, rfl, hw⟩, hB⟩
end Go.Proofs.YtnbdpnlepcjmmaaGreat

namespace Go.Proofs.YtnbdpnlepcjmmaaGreat
open Go.RowKit
theorem Bxs.elemB {w wr : World} {base : Nat → Prop} {A : Option Addr} {l : List Bx} (h : Bxs w base A l) (hB : Grows w wr) {k : Nat} (hk : k < l.length) : ∃ ad b A1 c1 A2 c2 A3 c3, A = some ad ∧ ad.block < wr.heap.size ∧ l[k]? = some b ∧ BoxP w base b A1 c1 A2 c2 A3 c3 ∧
    CellsB wr (ad.add (k * 4)) (.int .i64 b.k) (.slice A1 b.r.length c1) (.slice A2 b.m.length c2) (.slice A3 b.s.length c3) := by
  obtain ⟨ad, b, A1, c1, A2, c2, A3, c3, e1, had, hx, hp, q0, q1, q2, q3⟩ := h.elem hk
  refine ⟨ad, b, A1, c1, A2, c2, A3, c3, e1, Nat.lt_of_lt_of_le had hB.size, hx, hp, ?_, ?_, ?_, ?_⟩
  · exact (hB.cell (p := ad.add (k * 4)) (by rw [block_of_add]; exact had)).trans q0
  · exact (hB.cell (p := ⟨(ad.add (k * 4)).block, (ad.add (k * 4)).off + 1, none⟩) (by simp only [block_of_add]; exact had)).trans q1
  · exact (hB.cell (p := ⟨(ad.add (k * 4)).block, (ad.add (k * 4)).off + 2, none⟩) (by simp only [block_of_add]; exact had)).trans q2
  · exact (hB.cell (p := ⟨(ad.add (k * 4)).block, (ad.add (k * 4)).off + 3, none⟩) (by simp only [block_of_add]; exact had)).trans q3
theorem okb_both {x y : Bx} (hx : OKB x) : OKB (bothF x y) := by
  obtain ⟨h1, h2, h3, h4⟩ := hx
  refine ⟨?_, ?_, ?_, fun m hm => ?_⟩
  · have : (bothF x y).r.length ≤ 64 := List.length_take_le _ _
    omega
  · have : (bothF x y).s.length ≤ 64 := List.length_take_le _ _
    omega
  · have : (bothF x y).m.length ≤ x.m.length := List.length_filter_le _ _
    omega
  · exact h4 m (List.mem_filter.1 hm).1
theorem okb_snoc {l : List Bx} {z : Bx} (h : ∀ b ∈ l, OKB b) (hz : OKB z) : ∀ b ∈ l ++ [z], OKB b := fun b hb => (List.mem_append.1 hb).elim (h b) fun h => by simp only [List.mem_singleton] at h; exact h ▸ hz
theorem int_stop {a b : List Bx} {k j : Nat} {x y : Bx} {out0 out : List Bx} (hx : a[k]? = some x) (hy : b[j]? = some y) (hk : (a.take k).foldl (intRow b) (some []) = some out0) (hj : (b.take j).foldl (intStep x) (some out0) = some out) (hn : intStep x (some out) y = none) : intF a b = none :=
  fold_stop (intRow_none b) hx (by rw [hk]; exact fold_stop (intStep_none x) hy (by rw [hj]; exact hn))
theorem prod_stop {d : Int} {a b : List Bx} {k j : Nat} {x y : Bx} {out0 out : List Bx} (hx : a[k]? = some x) (hy : b[j]? = some y) (hk : (a.take k).foldl (prodRow d b) (some []) = some out0) (hj : (b.take j).foldl (prodStep d x) (some out0) = some out) (hn : prodStep d x (some out) y = none) : prodF d a b = none :=
  fold_stop (prodRow_none d b) hx (by rw [hk]; exact fold_stop (prodStep_none d x) hy (by rw [hj]; exact hn))
theorem interP_bad {a b : List Bx} (h : ¬ (validL a = true ∧ validL b = true)) : interP a b = ([], 1) := if_neg h
theorem interP_lim {a b : List Bx} (h1 : validL a = true) (h2 : validL b = true) (h : intF a b = none) : interP a b = ([], 3) := by unfold interP; rw [if_pos ⟨h1, h2⟩, h]
theorem interP_ok {a b : List Bx} {out : List Bx} (h1 : validL a = true) (h2 : validL b = true) (h : intF a b = some out) : interP a b = (reduceL out, 0) := by unfold interP; rw [if_pos ⟨h1, h2⟩, h]
set_option maxHeartbeats 64000000 in
set_option maxRecDepth 10000 in
theorem pinter_any {ba bb : Nat → Prop} {A B : Option Addr} {c d n m : Nat} {a b : List Bx} {w : World} (hn : n = a.length) (hm : m = b.length) (ha : Bxs w ba A a) (hb : Bxs w bb B b) (hla : a.length ≤ 100000) (hlb : b.length ≤ 100000) (hoa : ∀ x ∈ a, OKB x) (hob : ∀ x ∈ b, OKB x) :
    Calls Tryz.prog 23 #[.slice A n c, .slice B m d] w fun e w' => (∃ v, e = .returned (.tuple #[v, .int .i64 (interP a b).2]) ∧ OwnBq w' w.heap.size (Ge w.heap.size) v (interP a b).1) ∧ Grows w w' := by
  subst hn hm
  have HOA := Lib.hid hoa
  have HOB := Lib.hid hob
  clear hoa hob
  have hB := Below.refl w.heap.size w
  go_enter Tryz.func23, Tryz.ntmps23
  go_wp2_with fail
  refine (pvalidl_any A c ba a _ ha (by omega) HOA.out).mono ?_
  cases hv : validL a
  · have HE : Hid (interP a b = ([], 1)) := Lib.hid (interP_bad (fun h => by rw [hv] at h; cases h.1))
    clear hv
    rintro e w2 ⟨rfl, hq⟩
    replace hB := below_grows hB (Nat.le_refl _) hq
    go_wp2
    refine bodyPost_ret (v := .tuple #[.slice none 0 0, .int .i64 1]) (by simp [results, Tryz.results23, go_sem]) rfl ?_
    rw [HE.out]
    exact ⟨⟨_, rfl, OwnBq.nil⟩, hB⟩
  have HVA := Lib.hid hv
  clear hv
  rintro e w2 ⟨rfl, hq⟩
  replace hB := below_grows hB (Nat.le_refl _) hq
  clear hq
  go_wp2_with fail
  refine (pvalidl_any B d bb b _ (hb.grows hB) (by omega) HOB.out).mono ?_
  cases hv : validL b
  · have HE : Hid (interP a b = ([], 1)) := Lib.hid (interP_bad (fun h => by rw [hv] at h; cases h.2))
    clear hv
    rintro e w3 ⟨rfl, hq⟩
    replace hB := below_grows hB (Nat.le_refl _) hq
    go_wp2
    refine bodyPost_ret (v := .tuple #[.slice none 0 0, .int .i64 1]) (by simp [results, Tryz.results23, go_sem]) rfl ?_
    rw [HE.out]
    exact ⟨⟨_, rfl, OwnBq.nil⟩, hB⟩
  have HVB := Lib.hid hv
  clear hv
  rintro e w3 ⟨rfl, hq⟩
  replace hB := below_grows hB (Nat.le_refl _) hq
  clear hq
  go_wp2_with fail
  go_loopw [6, 23] (fun v i wr => ∃ (k : Nat) (out : List Bx), k ≤ a.length ∧ i = .int .i64 k ∧ Hid ((a.take k).foldl (intRow b) (some []) = some out) ∧ Hid (∀ z ∈ out, OKB z) ∧ out.length ≤ 64 ∧ OwnBq wr w.heap.size (Ge w.heap.size) v out ∧ Below w.heap.size w wr) (fun _ i _ => a.length - (intOf i).toNat)
  case atStart => exact ⟨0, [], by omega, rfl, Lib.hid rfl, Lib.hid (fun z hz => by cases hz), by simp, OwnBq.nil, hB⟩
  case round =>
    clear hB
    obtain ⟨k, out0, hk, rfl, HK, HOO, hol, hw, hB⟩ := hrel
    by_cases hlt : k < a.length
    · obtain ⟨ad, x, A1, c1, A2, c2, A3, c3, e1, had, hx, hpx, q0, q1, q2, q3⟩ := ha.elemB hB hlt
      subst e1
      have HX := Lib.hid hx
      have hox := HOA.out x (List.mem_of_getElem? hx)
      clear hx
      have k8 := Blk.new wr 48 #[.int .i64 x.k, .slice A1 x.r.length c1, .slice A2 x.m.length c2, .slice A3 x.s.length c3]
      have hne := fun e => Nat.lt_irrefl _ (hw.lt _ e).2
      have hq := (Below.refl wr.heap.size wr).alloc (Nat.le_refl _) (Obj.cells #[.int .i64 x.k, .slice A1 x.r.length c1, .slice A2 x.m.length c2, .slice A3 x.s.length c3] 48)
      go_upto_region 7 with fail
      replace hB := below_grows hB (Nat.le_refl _) hq
      replace hw := hw.grows hq
      clear hq q0 q1 q2 q3
      generalize World.alloc wr _ = w5 at *
      generalize wr.heap.size = G8 at *
      have hB5 := hB
      clear hB
      go_wp2_with fail
      go_loopw [6, 29] (fun v i wq => ∃ (j : Nat) (out : List Bx), j ≤ b.length ∧ i = .int .i64 j ∧ Hid ((b.take j).foldl (intStep x) (some out0) = some out) ∧ Hid (∀ z ∈ out, OKB z) ∧ out.length ≤ 64 ∧ OwnBq wq w.heap.size (Ge w.heap.size) v out ∧ v.ownBlock ≠ some G8 ∧ Blk wq G8 48 #[.int .i64 x.k, .slice A1 x.r.length c1, .slice A2 x.m.length c2, .slice A3 x.s.length c3] ∧ Below w.heap.size w wq) (fun _ i _ => b.length - (intOf i).toNat)
      case atStart => exact ⟨0, out0, by omega, rfl, Lib.hid rfl, HOO, hol, hw, hne, k8, hB5⟩
      case round =>
        clear hw k8 hB5 HOO hol hne
        obtain ⟨j, out, hj, rfl, HJ, HOO, hol, hw, hne, k8, hB⟩ := hrel
        by_cases hjt : j < b.length
        · obtain ⟨ad2, y, B1, d1, B2, d2, B3, d3, e2, had2, hy, hpy, q0, q1, q2, q3⟩ := hb.elemB hB hjt
          subst e2
          have HY := Lib.hid hy
          have hoy := HOB.out y (List.mem_of_getElem? hy)
          clear hy
          have k10 := Blk.new wr 48 #[.int .i64 y.k, .slice B1 y.r.length d1, .slice B2 y.m.length d2, .slice B3 y.s.length d3]
          have hq := (Below.refl wr.heap.size wr).alloc (Nat.le_refl _) (Obj.cells #[.int .i64 y.k, .slice B1 y.r.length d1, .slice B2 y.m.length d2, .slice B3 y.s.length d3] 48)
          go_upto_region 10 with fail
          replace hB := below_grows hB (Nat.le_refl _) hq
          replace hw := hw.grows hq
          replace k8 := k8.grows hq
          clear hq q0 q1 q2 q3
          generalize World.alloc wr _ = w6 at *
          generalize wr.heap.size = G10 at *
          have x8 := k8.cell
          have x10 := k10.cell
          have hown := hw.lt
          go_wp2_with fail
          refine (both_any (hpx.grows hB) (hpy.grows hB) hox hoy).mono ?_
          have hoz := okb_both (y := y) hox
          have hsb : Hid (someB (bothF x y) = someB (bothF x y)) := Lib.hid rfl
          cases hs : someB (bothF x y)
          case false =>
            have HN : Hid ((b.take (j + 1)).foldl (intStep x) (some out0) = some out) := Lib.hid (by rw [fold_next HY.out, HJ.out]; exact intStep_no hs)
            clear hs hsb
            generalize bothF x y = z at *
            rintro e w7 ⟨⟨v2, rfl, E1, f1, E2, f2, E3, f3, rfl, hpz⟩, hq⟩
            replace hB := below_grows hB (Nat.le_refl _) hq
            replace hw := hw.grows hq
            replace k8 := k8.grows hq
            clear hq x8 x10 k10 hpz hown
            have hq := (Below.refl w7.heap.size w7).alloc (Nat.le_refl _) (Obj.cells #[.int .i64 z.k, .slice E1 z.r.length f1, .slice E2 z.m.length f2, .slice E3 z.s.length f3] 48)
            replace hB := below_grows hB (Nat.le_refl _) hq
            replace hw := hw.grows hq
            replace k8 := k8.grows hq
            go_upto_region 11 with fail
            clear hq
            generalize World.alloc w7 _ = w8 at *
            go_wp2
            go_roundw
            case rel => exact ⟨j + 1, out, by omega, by go_num, HN, HOO, hol, hw, hne, k8, hB⟩
            case measure => simp [intOf]; omega
          have HS := Lib.hid hs
          clear hs hsb
          have HZ : Hid (∀ w9 v2, BoxV w9 (Ge w6.heap.size) (bothF x y) v2 → ∃ z, z = bothF x y ∧ BoxV w9 (Ge w6.heap.size) z v2) := Lib.hid (fun _ _ h => ⟨_, rfl, h⟩)
          rintro e w7 ⟨⟨v2, rfl, hbv⟩, hq⟩
          obtain ⟨z, hz, E1, f1, E2, f2, E3, f3, rfl, hpz⟩ := HZ.out _ _ hbv
          rw [← hz] at hoz
          have HZE := Lib.hid hz
          clear hz hbv HZ
          replace hpz : BoxP w7 (Aq (Ge w.heap.size) _) z E1 f1 E2 f2 E3 f3 := hpz.mono fun k hk => ⟨by unfold Ge at *; have := hB.size; omega, fun e => by have := (hown _ e).2; unfold Ge at hk; omega⟩
          replace hB := below_grows hB (Nat.le_refl _) hq
          replace hw := hw.grows hq
          replace k8 := k8.grows hq
          replace k10 := k10.grows hq
          clear hq x8 x10 hown
          have k11 := Blk.new w7 48 #[.int .i64 z.k, .slice E1 z.r.length f1, .slice E2 z.m.length f2, .slice E3 z.s.length f3]
          have hq := (Below.refl w7.heap.size w7).alloc (Nat.le_refl _) (Obj.cells #[.int .i64 z.k, .slice E1 z.r.length f1, .slice E2 z.m.length f2, .slice E3 z.s.length f3] 48)
          replace hB := below_grows hB (Nat.le_refl _) hq
          replace hw := hw.grows hq
          replace k8 := k8.grows hq
          replace k10 := k10.grows hq
          replace hpz := hpz.grows hq
          go_upto_region 11 with fail
          clear hq
          generalize World.alloc w7 _ = w8 at *
          generalize w7.heap.size = G11 at *
          have x8 := k8.cell
          have x10 := k10.cell
          go_wp2_with fail
          refine (pieces_any A1 B1 c1 d1 x.r y.r _ (hpx.r.grows hB).sps (hpy.r.grows hB).sps hox.1 hoy.1).mono ?_
          by_cases h1 : 64 < piecesN x.r y.r
          case pos =>
            have dp : decide ((64 : Int) < (piecesN x.r y.r : Int)) = true := by simp only [decide_eq_true_eq]; omega
            have dp2 : decide (64 < piecesN x.r y.r) = true := by simpa using h1
            have HE : Hid (interP a b = ([], 3)) := Lib.hid (interP_lim HVA.out HVB.out (int_stop HX.out HY.out HK.out HJ.out (intStep_stop HS.out (.inl h1))))
            clear h1
            rintro e w9 ⟨rfl, hq⟩
            replace hB := below_grows hB (Nat.le_refl _) hq
            clear hq x8 x10
            go_wp2
            refine bodyPost_ret (v := .tuple #[.slice none 0 0, .int .i64 3]) (by simp [results, Tryz.results23, go_sem]) rfl ?_
            rw [HE.out]
            exact ⟨⟨_, rfl, OwnBq.nil⟩, hB⟩
          have HP1 := Lib.hid h1
          have dp : decide ((64 : Int) < (piecesN x.r y.r : Int)) = false := by simp only [decide_eq_false_iff_not]; omega
          have dp2 : decide (64 < piecesN x.r y.r) = false := by simpa using h1
          clear h1
          rintro e w9 ⟨rfl, hq⟩
          replace hB := below_grows hB (Nat.le_refl _) hq
          replace hw := hw.grows hq
          replace k8 := k8.grows hq
          replace k10 := k10.grows hq
          replace k11 := k11.grows hq
          replace hpz := hpz.grows hq
          clear hq x8 x10
          have x8 := k8.cell
          have x10 := k10.cell
          go_wp2_with fail
          refine (pieces_any A3 B3 c3 d3 x.s y.s _ (hpx.s.grows hB).sps (hpy.s.grows hB).sps hox.2.1 hoy.2.1).mono ?_
          by_cases h1 : 64 < piecesN x.s y.s
          case pos =>
            have ds : decide ((64 : Int) < (piecesN x.s y.s : Int)) = true := by simp only [decide_eq_true_eq]; omega
            have ds2 : decide (64 < piecesN x.s y.s) = true := by simpa using h1
            have HE : Hid (interP a b = ([], 3)) := Lib.hid (interP_lim HVA.out HVB.out (int_stop HX.out HY.out HK.out HJ.out (intStep_stop HS.out (.inr (.inl h1)))))
            clear h1
            rintro e w9 ⟨rfl, hq⟩
            replace hB := below_grows hB (Nat.le_refl _) hq
            clear hq x8 x10
            go_wp2
            refine bodyPost_ret (v := .tuple #[.slice none 0 0, .int .i64 3]) (by simp [results, Tryz.results23, go_sem]) rfl ?_
            rw [HE.out]
            exact ⟨⟨_, rfl, OwnBq.nil⟩, hB⟩
          have HP2 := Lib.hid h1
          have ds : decide ((64 : Int) < (piecesN x.s y.s : Int)) = false := by simp only [decide_eq_false_iff_not]; omega
          have ds2 : decide (64 < piecesN x.s y.s) = false := by simpa using h1
          clear h1
          rintro e w10 ⟨rfl, hq⟩
          replace hB := below_grows hB (Nat.le_refl _) hq
          replace hw := hw.grows hq
          replace k8 := k8.grows hq
          replace k11 := k11.grows hq
          replace hpz := hpz.grows hq
          clear hq x8 x10 k10
          obtain ⟨A9, c9, rfl, hc9, -⟩ := hw.read
          by_cases h1 : out.length = 64
          case pos =>
            have dq : ((out.length : Int) == 64) = true := by simp only [beq_iff_eq]; omega
            have HE : Hid (interP a b = ([], 3)) := Lib.hid (interP_lim HVA.out HVB.out (int_stop HX.out HY.out HK.out HJ.out (intStep_stop HS.out (.inr (.inr h1)))))
            clear h1
            go_wp2
            refine bodyPost_ret (v := .tuple #[.slice none 0 0, .int .i64 3]) (by simp [results, Tryz.results23, go_sem]) rfl ?_
            rw [HE.out]
            exact ⟨⟨_, rfl, OwnBq.nil⟩, hB⟩
          have dq : ((out.length : Int) == 64) = false := by simp only [beq_eq_false_iff_ne, ne_eq]; omega
          have HN : Hid ((b.take (j + 1)).foldl (intStep x) (some out0) = some (out ++ [z])) := Lib.hid (by rw [fold_next HY.out, HJ.out, HZE.out]; exact intStep_yes HS.out HP1.out HP2.out h1)
          have hol2 : (out ++ [z]).length ≤ 64 := by rw [List.length_append, List.length_singleton]; omega
          have HOO2 := Lib.hid (okb_snoc HOO.out hoz)
          clear h1 HJ
          have x11 := k11.cell
          go_upto_region 14 with fail
          refine wp_region_lit ?_
          iterate 3
            refine wpList_plain rfl (fun K hK => ?_)
            go_simp
            refine hK _ _ ?_
            clear hK K
          have hown := hw.lt
          have hL := bxs_lit hpz ⟨by unfold Ge; exact hB.size, fun e => by have := (hown _ e).2; omega⟩
          have hq := (Below.refl w10.heap.size w10).alloc (Nat.le_refl _) (Obj.cells #[.int .i64 z.k, .slice E1 z.r.length f1, .slice E2 z.m.length f2, .slice E3 z.s.length f3] 48)
          replace hw := hw.grows hq
          replace hB := below_grows hB (Nat.le_refl _) hq
          replace k8 := k8.grows hq
          have hown3 := hw.lt
          clear hq hpz hown x11 k11
          refine wpList_append_boxesq rfl (.tmp 60) (.tmp 62) rfl (m := [z]) rfl rfl hw rfl hL (by simp only [List.length_singleton]; omega) hB.size ?_
          intro v5 w12 ho2 hgr hv5
          have hne2 : v5.ownBlock ≠ some G8 := by
            rcases hv5 with e | e
            · rw [e]; exact hne
            · rw [e]; intro e2; injection e2 with e2; have := k8.lt; omega
          replace hB := hB.grown hgr hB.size (fun q e => (hown3 q e).1)
          replace k8 := k8.grown hgr (fun e => hne e.symm)
          clear hown3 hgr hw hL
          generalize out ++ [z] = out2 at *
          go_wp2
          go_roundw
          case rel => exact ⟨j + 1, out2, by omega, by go_num, HN, HOO2, hol2, ho2, hne2, k8, hB⟩
          case measure => simp [intOf]; omega
        · have HN : Hid ((a.take (k + 1)).foldl (intRow b) (some []) = some out) := Lib.hid (by rw [fold_next HX.out, HK.out]; have := HJ.out; rwa [List.take_of_length_le (by omega)] at this)
          go_wp2
          go_roundw
          case rel => exact ⟨k + 1, out, by omega, by go_num, HN, HOO, hol, hw, hB⟩
          case measure => simp [intOf]; omega
    · have HE : Hid (interP a b = (reduceL out0, 0)) := Lib.hid (interP_ok HVA.out HVB.out (by have := HK.out; rwa [List.take_of_length_le (by omega)] at this))
      obtain ⟨A9, c9, rfl, hc9, hxo⟩ := hw.read
      go_wp2_with fail
      refine (reduce_any rfl hxo (by omega) HOO.out).mono ?_
      rintro e w3 ⟨⟨v, rfl, hw2⟩, hq2⟩
      have hs := hB.size
      replace hB := below_grows hB (Nat.le_refl _) hq2
      go_wp2
      refine bodyPost_ret (v := .tuple #[v, .int .i64 0]) (by simp [results, Tryz.results23, go_sem]) rfl ?_
      rw [HE.out]
      exact ⟨⟨_, rfl, hw2.lower hs (fun k hk => by unfold Ge at *; omega)⟩, hB⟩
end Go.Proofs.YtnbdpnlepcjmmaaGreat

namespace Go.Proofs.YtnbdpnlepcjmmaaGreat
open Go.RowKit
set_option maxHeartbeats 4000000 in
theorem rhass_any (A : Option Addr) (c : Nat) (l : List Sp) (n : Int) (w : World) (h : Sps w A l) (hl : l.length ≤ 9223372036854775807) :
 Calls Tryz.prog 114 #[.agg #[.slice A l.length c], .int .i64 n] w fun e w' => e = .returned (.bool (hasF l n)) ∧ Grows w w' := by
 have k2 := Blk.new w 45 #[.slice A l.length c]
 have hB := (Below.refl w.heap.size w).alloc (Nat.le_refl _) (Obj.cells #[.slice A l.length c] 45)
 go_enter Tryz.func114, Tryz.ntmps114
 go_upto_region 1 with fail
 have h1 := h.grows hB
 generalize World.alloc w _ = w1 at *
 have x2 := k2.cell 0
 go_wp2_with fail
 refine (rspans_any A c l _ h1 hl).mono ?_
 rintro e w2 ⟨⟨A2, c2, rfl, h2, -⟩, hq⟩
 replace hB := below_grows hB (Nat.le_refl _) hq
 have hl2 := spansF_len l
 have HF : Hid (hasF l n = (spansF l).any fun x => hasP n x) := Lib.hid rfl
 generalize spansF l = o at *
 clear x2 hq
 go_wp2_with fail
 go_loopw [10] (fun i wr => ∃ k : Nat, k ≤ o.length ∧ i = .int .i64 k ∧ Grows w2 wr ∧ ∀ x ∈ o.take k, hasP n x = false) (fun i _ => o.length - (intOf i).toNat)
 case atStart => exact ⟨0, by omega, rfl, Below.refl _ _, by simp⟩
 case round =>
  obtain ⟨k, hk, rfl, hg, hall⟩ := hrel
  by_cases hlt : k < o.length
  ·obtain ⟨ad, x, rfl, had, hx, c0, c1⟩ := (h2.grows hg).elem hlt
   have HX : Hid (o.take (k + 1) = o.take k ++ [x]) := take_snoc hx
   have HM : Hid (x ∈ o) := List.mem_of_getElem? hx
   clear hx
   have hq := (Below.refl wr.heap.size wr).alloc (Nat.le_refl _) (Obj.cells #[.int .i64 x.1, .int .i64 x.2] 93)
   replace hg := below_grows hg (Nat.le_refl _) hq
   clear hq
   by_cases h1 : x.1 ≤ n
   ·by_cases h2 : n ≤ x.2
    ·have HE : Hid (o.any (fun x => hasP n x) = true) := Lib.hid (List.any_eq_true.2 ⟨x, HM.out, by simp [hasP, h1, h2]⟩)
     go_wp2
     go_ret
     exact ⟨ret_bool (HF.out.trans HE.out).symm, below_grows hB (Nat.le_refl _) hg⟩
    ·have HE : Hid (hasP n x = false) := Lib.hid (by simp [hasP, h2])
     go_wp2
     go_roundw
     case rel => exact ⟨k + 1, by omega, by go_num, hg, by rw [HX.out]; intro y hy; rcases List.mem_append.1 hy with hy | hy; exact hall y hy; rw [List.mem_singleton.1 hy]; exact HE.out⟩
     case measure => simp [intOf]; omega
   ·have HE : Hid (hasP n x = false) := Lib.hid (by simp [hasP, h1])
    go_wp2
    go_roundw
    case rel => exact ⟨k + 1, by omega, by go_num, hg, by rw [HX.out]; intro y hy; rcases List.mem_append.1 hy with hy | hy; exact hall y hy; rw [List.mem_singleton.1 hy]; exact HE.out⟩
    case measure => simp [intOf]; omega
  ·have e : o.take k = o := List.take_of_length_le (by omega)
   rw [e] at hall
   have HE : Hid (o.any (fun x => hasP n x) = false) := Lib.hid (by rw [List.any_eq_false]; intro x hx; rw [hall x hx]; simp)
   clear e hall
   go_wp2
   go_ret
   exact ⟨ret_bool (HF.out.trans HE.out).symm, below_grows hB (Nat.le_refl _) hg⟩
theorem kset_any (A : Option Addr) (c : Nat) (l : List Sp) (w : World) (hl : l.length ≤ 9223372036854775807) : Calls Tryz.prog 33 #[.agg #[.slice A l.length c]] w fun e w' => e = .returned (.bool (decide (l.length ≤ 70))) ∧ Grows w w' := by
 have k2 := Blk.new w 45 #[.slice A l.length c]
 have hB := (Below.refl w.heap.size w).alloc (Nat.le_refl _) (Obj.cells #[.slice A l.length c] 45)
 go_enter Tryz.func33, Tryz.ntmps33
 go_wp2
 go_ret
 exact ⟨ret_bool (by rw [decide_eq_decide]; omega), hB⟩
set_option maxHeartbeats 16000000 in
theorem rin_any {base : Nat → Prop} {I A1 A2 A3 : Option Addr} {ci c1 c2 c3 : Nat} {b : Bx} {x : Ch} {w : World} (hp : BoxP w base b A1 c1 A2 c2 A3 c3) (hl : OKB b) (ix : Ints w I x.m) (hxm : x.m.length ≤ 1000000) :
 Calls Tryz.prog 72 #[.agg #[.int .i64 b.k, .slice A1 b.r.length c1, .slice A2 b.m.length c2, .slice A3 b.s.length c3], .agg #[.int .i64 x.k, .int .i64 x.r, .slice I x.m.length ci, .int .i64 x.s]] w fun e w' => e = .returned (.bool (inB b x)) ∧ Grows w w' := by
 obtain ⟨hlr, hls, hlm, hlx⟩ := hl
 have HLM := Lib.hid hlx
 clear hlx
 have k2 := ((Blk.new w 48 #[.int .i64 b.k, .slice A1 b.r.length c1, .slice A2 b.m.length c2, .slice A3 b.s.length c3]).alloc (Obj.cells #[.int .i64 x.k, .int .i64 x.r, .slice I x.m.length ci, .int .i64 x.s] 27))
 have kc := (Blk.new (w.alloc (Obj.cells #[.int .i64 b.k, .slice A1 b.r.length c1, .slice A2 b.m.length c2, .slice A3 b.s.length c3] 48)) 27 #[.int .i64 x.k, .int .i64 x.r, .slice I x.m.length ci, .int .i64 x.s])
 have hB := (((Below.refl w.heap.size w).alloc (Nat.le_refl _) (Obj.cells #[.int .i64 b.k, .slice A1 b.r.length c1, .slice A2 b.m.length c2, .slice A3 b.s.length c3] 48)).alloc (by simp) (Obj.cells #[.int .i64 x.k, .int .i64 x.r, .slice I x.m.length ci, .int .i64 x.s] 27))
 go_enter Tryz.func72, Tryz.ntmps72
 go_upto_region 1 with fail
 have hs1 : (w.alloc (Obj.cells #[.int .i64 b.k, .slice A1 b.r.length c1, .slice A2 b.m.length c2, .slice A3 b.s.length c3] 48)).heap.size = w.heap.size + 1 := by simp
 rw [hs1] at kc
 clear hs1
 generalize World.alloc (World.alloc w _) _ = w1 at *
 generalize hG1 : w.heap.size + 1 = G1 at *
 clear hG1
 have x1 := kc.cell
 have x2 := k2.cell
 go_wp2_with fail
 refine (rkind_any b.k x.k _).mono ?_
 cases hv : kindB b.k x.k
 ·have HE : Hid (inB b x = false) := Lib.hid (inB_k hv)
  clear hv
  rintro e w2 ⟨rfl, hq⟩
  replace hB := below_grows hB (Nat.le_refl _) hq
  clear hq x1 x2
  go_wp2
  go_ret
  exact ⟨ret_bool HE.out.symm, hB⟩
 have H0 := Lib.hid hv
 clear hv
 rintro e w2 ⟨rfl, hq⟩
 replace hB := below_grows hB (Nat.le_refl _) hq
 replace kc := kc.grows hq
 replace k2 := k2.grows hq
 clear hq x1 x2
 have x1 := kc.cell
 have x2 := k2.cell
 go_wp2_with fail
 refine (rhass_any A1 c1 b.r x.r _ (hp.r.grows hB).sps (by omega)).mono ?_
 cases hv : hasF b.r x.r
 ·have HE : Hid (inB b x = false) := Lib.hid (inB_r hv)
  clear hv
  rintro e w2 ⟨rfl, hq⟩
  replace hB := below_grows hB (Nat.le_refl _) hq
  clear hq x1 x2
  go_wp2
  go_ret
  exact ⟨ret_bool HE.out.symm, hB⟩
 have H1 := Lib.hid hv
 clear hv
 rintro e w2 ⟨rfl, hq⟩
 replace hB := below_grows hB (Nat.le_refl _) hq
 replace kc := kc.grows hq
 replace k2 := k2.grows hq
 clear hq x1 x2
 have x1 := kc.cell
 have x2 := k2.cell
 go_wp2_with fail
 refine (rhas_any A2 I c2 ci b.m x.m _ rfl (hp.m.grows hB) hlm HLM.out (ix.grows hB) hxm).mono ?_
 by_cases hv : x.m ∈ b.m
 case neg =>
  have HE : Hid (inB b x = false) := Lib.hid (inB_m hv)
  rw [decide_eq_false hv]
  clear hv
  rintro e w2 ⟨rfl, hq⟩
  replace hB := below_grows hB (Nat.le_refl _) hq
  clear hq x1 x2
  go_wp2
  go_ret
  exact ⟨ret_bool HE.out.symm, hB⟩
 have H2 := Lib.hid hv
 rw [decide_eq_true hv]
 clear hv
 rintro e w2 ⟨rfl, hq⟩
 replace hB := below_grows hB (Nat.le_refl _) hq
 replace kc := kc.grows hq
 replace k2 := k2.grows hq
 clear hq x1 x2
 have x1 := kc.cell
 have x2 := k2.cell
 go_wp2_with fail
 refine (rhass_any A3 c3 b.s x.s _ (hp.s.grows hB).sps (by omega)).mono ?_
 cases hv : hasF b.s x.s
 ·have HE : Hid (inB b x = false) := Lib.hid (inB_s hv)
  clear hv
  rintro e w2 ⟨rfl, hq⟩
  replace hB := below_grows hB (Nat.le_refl _) hq
  clear hq x1 x2
  go_wp2
  go_ret
  exact ⟨ret_bool HE.out.symm, hB⟩
 have HE : Hid (inB b x = true) := Lib.hid (inB_yes H0.out H1.out H2.out hv)
 clear hv
 rintro e w2 ⟨rfl, hq⟩
 replace hB := below_grows hB (Nat.le_refl _) hq
 clear hq x1 x2
 go_wp2
 go_ret
 exact ⟨ret_bool HE.out.symm, hB⟩
set_option maxHeartbeats 16000000 in
theorem rhasl_any {base : Nat → Prop} {A I : Option Addr} {c ci : Nat} {l : List Bx} {x : Ch} {w : World} (h : Bxs w base A l) (hl : l.length ≤ 1000000) (hc : l.length ≤ c) (ho : ∀ b ∈ l, OKB b) (ix : Ints w I x.m) (hxm : x.m.length ≤ 1000000) :
 Calls Tryz.prog 30 #[.slice A l.length c, .agg #[.int .i64 x.k, .int .i64 x.r, .slice I x.m.length ci, .int .i64 x.s]] w fun e w' => e = .returned (.bool (hasL l x)) ∧ Grows w w' := by
 have HO := Lib.hid ho
 have HL : Hid (hasL l x = (boxesF l).any fun b => inB b x) := Lib.hid rfl
 clear ho
 have kc := Blk.new w 27 #[.int .i64 x.k, .int .i64 x.r, .slice I x.m.length ci, .int .i64 x.s]
 have hB := (Below.refl w.heap.size w).alloc (Nat.le_refl _) (Obj.cells #[.int .i64 x.k, .int .i64 x.r, .slice I x.m.length ci, .int .i64 x.s] 27)
 go_enter Tryz.func30, Tryz.ntmps30
 go_upto_region 1 with fail
 generalize World.alloc w _ = w1 at *
 go_wp2_with fail
 refine (rlist_any A c base l _ (h.grows hB) hl HO.out hc).mono ?_
 have HOB := Lib.hid (boxes_ok HO.out)
 have hbl := boxes_len l
 generalize boxesF l = bl at *
 rintro e w4 ⟨⟨A4, c4, rfl, hc4, hbx⟩, hq⟩
 replace hB := below_grows hB (Nat.le_refl _) hq
 replace hbx := hbx.grows hq
 replace kc := kc.grows hq
 clear hq
 have hB0 := hB
 clear hB
 go_wp2_with fail
 go_loopw [10] (fun i wr => ∃ k : Nat, k ≤ bl.length ∧ i = .int .i64 k ∧ Hid (∀ y ∈ bl.take k, inB y x = false) ∧ Blk wr w.heap.size 27 #[.int .i64 x.k, .int .i64 x.r, .slice I x.m.length ci, .int .i64 x.s] ∧ Grows w4 wr) (fun i _ => bl.length - (intOf i).toNat)
 case atStart => exact ⟨0, by omega, rfl, Lib.hid (by simp), kc, Below.refl _ _⟩
 case round =>
  clear kc
  obtain ⟨k, hk, rfl, HA, kc, hB⟩ := hrel
  by_cases hlt : k < bl.length
  ·obtain ⟨ad, y, A1, c1, A2, c2, A3, c3, ea, had, hy, hp, q0, q1, q2, q3⟩ := hbx.elemB hB hlt
   subst ea
   have HY := Lib.hid hy
   have hoy := HOB.out y (List.mem_of_getElem? hy)
   clear hy
   have k8 := Blk.new wr 48 #[.int .i64 y.k, .slice A1 y.r.length c1, .slice A2 y.m.length c2, .slice A3 y.s.length c3]
   have hq := (Below.refl wr.heap.size wr).alloc (Nat.le_refl _) (Obj.cells #[.int .i64 y.k, .slice A1 y.r.length c1, .slice A2 y.m.length c2, .slice A3 y.s.length c3] 48)
   go_upto_region 4 with fail
   replace hB := below_grows hB (Nat.le_refl _) hq
   replace kc := kc.grows hq
   clear hq q0 q1 q2 q3
   generalize World.alloc wr _ = w5 at *
   generalize wr.heap.size = G8 at *
   have x8 := k8.cell
   have xc := kc.cell
   go_wp2_with fail
   refine (rin_any (hp.grows hB) hoy (ix.grows (below_grows hB0 (Nat.le_refl _) hB)) hxm).mono ?_
   rintro e w6 ⟨rfl, hq⟩
   clear x8 xc
   replace hB := below_grows hB (Nat.le_refl _) hq
   replace kc := kc.grows hq
   clear hq k8
   cases hv : inB y x
   ·have HN : Hid (∀ z ∈ bl.take (k + 1), inB z x = false) := Lib.hid (by
     rw [take_snoc HY.out]
     intro z hz
     rcases List.mem_append.1 hz with hz | hz
     ·exact HA.out z hz
     ·simp only [List.mem_singleton] at hz
      exact hz ▸ hv)
    clear hv
    go_wp2
    go_roundw
    case rel => exact ⟨k + 1, by omega, by go_num, HN, kc, hB⟩
    case measure => simp [intOf]; omega
   ·have HE : Hid (bl.any (fun b => inB b x) = true) := Lib.hid (List.any_eq_true.2 ⟨y, List.mem_of_getElem? HY.out, hv⟩)
    clear hv
    go_wp2
    go_ret
    exact ⟨ret_bool (HL.out.trans HE.out).symm, below_grows hB0 (Nat.le_refl _) hB⟩
  ·have HE : Hid (bl.any (fun b => inB b x) = false) := Lib.hid (by
    rw [List.any_eq_false]
    intro y hy
    rw [HA.out y (by rwa [List.take_of_length_le (by omega)])]
    simp)
   go_wp2
   go_ret
   exact ⟨ret_bool (HL.out.trans HE.out).symm, below_grows hB0 (Nat.le_refl _) hB⟩
def KeptB (b : Bx) : Prop := b.r.length ≤ 70 ∧ b.s.length ≤ 70 ∧ b.m.length ≤ 20 ∧ ∀ x ∈ b.m, x.length ≤ 12
def LimB (b : Bx) : Prop := b.r.length ≤ 9223372036854775807 ∧ b.s.length ≤ 9223372036854775807 ∧ b.m.length ≤ 9223372036854775807 ∧ ∀ x ∈ b.m, x.length ≤ 9223372036854775807
theorem KeptB.okb {b : Bx} (h : KeptB b) : OKB b := by
 obtain ⟨h1, h2, h3, h4⟩ := h
 exact ⟨by omega, by omega, by omega, fun x hx => by have := h4 x hx; omega⟩
set_option maxHeartbeats 16000000 in
theorem kboxes_any {base : Nat → Prop} {A : Option Addr} {c : Nat} {l : List Bx} {w : World} (n : Nat) (hn : n ≤ 100) {z : Int} (hz : z = n) (h : Bxs w base A l) (hl : l.length ≤ 9223372036854775807) (ho : ∀ b ∈ l, LimB b) :
 Calls Tryz.prog 10 #[.slice A l.length c, .int .i64 z] w fun e w' => ((e = .returned (.bool true) ∧ l.length ≤ n ∧ ∀ b ∈ l, KeptB b) ∨ e = .returned (.bool false)) ∧ Grows w w' := by
 have HO := Lib.hid ho
 clear ho
 subst hz
 have hB := Below.refl w.heap.size w
 go_enter Tryz.func10, Tryz.ntmps10
 by_cases h1 : n < l.length
 ·have d1 : decide ((n : Int) < (l.length : Int)) = true := by simp only [decide_eq_true_eq]; omega
  have d2 : decide (n < l.length) = true := by simp only [decide_eq_true_eq]; omega
  clear h1
  go_wp2
  go_ret
  exact ⟨.inr rfl, hB⟩
 have d1 : decide ((n : Int) < (l.length : Int)) = false := by simp only [decide_eq_false_iff_not]; omega
 have d2 : decide (n < l.length) = false := by simp only [decide_eq_false_iff_not]; omega
 go_wp2_with fail
 clear d1 d2
 go_loopw [15] (fun i wr => ∃ k : Nat, k ≤ l.length ∧ i = .int .i64 k ∧ Hid (∀ y ∈ l.take k, KeptB y) ∧ Below w.heap.size w wr) (fun i _ => l.length - (intOf i).toNat)
 case atStart => exact ⟨0, by omega, rfl, Lib.hid (by simp), hB⟩
 case round =>
  clear hB
  obtain ⟨k, hk, rfl, HA, hB⟩ := hrel
  by_cases hlt : k < l.length
  ·obtain ⟨ad, y, A1, c1, A2, c2, A3, c3, ea, had, hy, hp, q0, q1, q2, q3⟩ := h.elemB hB hlt
   subst ea
   have HY := Lib.hid hy
   obtain ⟨o1, o2, o3, o4⟩ := HO.out y (List.mem_of_getElem? hy)
   have HO4 := Lib.hid o4
   clear hy o4
   have k8 := Blk.new wr 48 #[.int .i64 y.k, .slice A1 y.r.length c1, .slice A2 y.m.length c2, .slice A3 y.s.length c3]
   have hq := (Below.refl wr.heap.size wr).alloc (Nat.le_refl _) (Obj.cells #[.int .i64 y.k, .slice A1 y.r.length c1, .slice A2 y.m.length c2, .slice A3 y.s.length c3] 48)
   go_upto_region 6 with fail
   replace hB := below_grows hB (Nat.le_refl _) hq
   clear hq q0 q1 q2 q3
   generalize World.alloc wr _ = w5 at *
   generalize wr.heap.size = G8 at *
   have x8 := k8.cell
   go_wp2_with fail
   refine (kset_any A1 c1 y.r _ o1).mono ?_
   rintro e w6 ⟨rfl, hq⟩
   clear x8
   replace hB := below_grows hB (Nat.le_refl _) hq
   replace k8 := k8.grows hq
   clear hq
   have x8 := k8.cell
   by_cases p1 : y.r.length ≤ 70
   case neg =>
    rw [decide_eq_false p1]
    clear p1
    go_wp2
    go_ret
    exact ⟨.inr rfl, hB⟩
   rw [decide_eq_true p1]
   go_wp2_with fail
   refine (kset_any A3 c3 y.s _ o2).mono ?_
   rintro e w7 ⟨rfl, hq⟩
   clear x8
   replace hB := below_grows hB (Nat.le_refl _) hq
   replace k8 := k8.grows hq
   clear hq
   have x8 := k8.cell
   by_cases p2 : y.s.length ≤ 70
   case neg =>
    rw [decide_eq_false p2]
    clear p2
    go_wp2
    go_ret
    exact ⟨.inr rfl, hB⟩
   rw [decide_eq_true p2]
   by_cases p3 : y.m.length ≤ 20
   case neg =>
    have d1 : decide ((20 : Int) < (y.m.length : Int)) = true := by simp only [decide_eq_true_eq]; omega
    have d2 : decide (20 < y.m.length) = true := by simp only [decide_eq_true_eq]; omega
    clear p3
    go_wp2
    go_ret
    exact ⟨.inr rfl, hB⟩
   have d1 : decide ((20 : Int) < (y.m.length : Int)) = false := by simp only [decide_eq_false_iff_not]; omega
   have d2 : decide (20 < y.m.length) = false := by simp only [decide_eq_false_iff_not]; omega
   go_wp2_with fail
   clear d1 d2 x8 k8
   go_loopw [38] (fun i wq => ∃ j : Nat, j ≤ y.m.length ∧ i = .int .i64 j ∧ Hid (∀ z ∈ y.m.take j, z.length ≤ 12) ∧ Below w.heap.size w wq) (fun i _ => y.m.length - (intOf i).toNat)
   case atStart => exact ⟨0, by omega, rfl, Lib.hid (by simp), hB⟩
   case round =>
    clear hB
    obtain ⟨j, hj, rfl, HJ, hB⟩ := hrel
    by_cases hjt : j < y.m.length
    ·obtain ⟨ad2, z, B, cz, ez, had2, hz, z0, hcz, hiz⟩ := (hp.m.grows hB).elem hjt
     have HZ := Lib.hid hz
     have oz := HO4.out z (List.mem_of_getElem? hz)
     subst ez
     clear hz hiz
     by_cases p4 : z.length ≤ 12
     ·have d1 : decide ((12 : Int) < (z.length : Int)) = false := by simp only [decide_eq_false_iff_not]; omega
      have d2 : decide (12 < z.length) = false := by simp only [decide_eq_false_iff_not]; omega
      have HN : Hid (∀ q ∈ y.m.take (j + 1), q.length ≤ 12) := Lib.hid (by
       rw [take_snoc HZ.out]
       intro q hq
       rcases List.mem_append.1 hq with hq | hq
       ·exact HJ.out q hq
       ·simp only [List.mem_singleton] at hq
        exact hq ▸ p4)
      clear p4
      go_wp2
      go_roundw
      case rel => exact ⟨j + 1, by omega, by go_num, HN, hB⟩
      case measure => simp [intOf]; omega
     ·have d1 : decide ((12 : Int) < (z.length : Int)) = true := by simp only [decide_eq_true_eq]; omega
      have d2 : decide (12 < z.length) = true := by simp only [decide_eq_true_eq]; omega
      clear p4
      go_wp2
      go_ret
      exact ⟨.inr rfl, hB⟩
    ·have HN : Hid (∀ q ∈ l.take (k + 1), KeptB q) := Lib.hid (by
      rw [take_snoc HY.out]
      intro q hq
      rcases List.mem_append.1 hq with hq | hq
      ·exact HA.out q hq
      ·simp only [List.mem_singleton] at hq
       subst hq
       refine ⟨p1, p2, p3, fun x hx => HJ.out x (by rwa [List.take_of_length_le (by omega)])⟩)
     go_wp2
     go_roundw
     case rel => exact ⟨k + 1, by omega, by go_num, HN, hB⟩
     case measure => simp [intOf]; omega
  ·have HE : Hid (∀ b ∈ l, KeptB b) := Lib.hid (fun b hb => HA.out b (by rwa [List.take_of_length_le (by omega)]))
   go_wp2
   go_ret
   exact ⟨.inl ⟨rfl, by omega, HE.out⟩, hB⟩
end Go.Proofs.YtnbdpnlepcjmmaaGreat

namespace Go.Proofs.YtnbdpnlepcjmmaaGreat
open Go.ChangeShapes Go.WideShapes Go.RowKit Go.Deep
section
variable {H : Type} {enc : TypeId × Value → H} {P : Program} {w : World} {base : Nat} {spare : Nat → Bool} {held : Bool} {r : Reach} {b0 : Nat}
/-- A struct of one-cell fields: its cells, each with its own reading. -/
theorem open_flat {t : TypeId} {fs : Array Field} {v : Value} {d : DataW H} {p : List MemPlace} (ht : P.underlying t = some (.struct fs)) (hone : oneCellFields P fs = true) (hC : P.cellsOf t = fs.size)
 (hv : Value.okWide P w r b0 t v) (h : DataW.Trod enc P w base spare held t v d p) :
 ∃ l : List Value, v = .agg l.toArray ∧ l.length = fs.size ∧ ∀ (i : Nat) (f : Field), fs[i]? = some f → ∃ (x : Value) (n : Nat) (y : DataW H × List MemPlace), l[i]? = some x ∧ DataW.trod enc P w base spare held n f.type [x] = some y := by
 obtain ⟨cs, rfl, hsz⟩ := okWide_struct ht hv
 obtain ⟨fuel, hf⟩ := h
 obtain ⟨xs, n, _, _, hcl, hlen, hg⟩ := DataW.trod_struct ht hf
 have hcs : (Value.agg cs).cells.toList = cs.toList := rfl
 refine ⟨cs.toList, rfl, by simpa [hC] using hsz, fun i f hi => ?_⟩
 obtain ⟨ho, hk⟩ := hone_of hone i f hi
 have hil : i < fs.size := (Array.getElem?_eq_some_iff.1 hi).1
 have hil' : i < cs.toList.length := by simp [hsz, hC, hil]
 have h1 := hg i f hi
 rw [ho, hk] at h1
 have hone' : ((Value.agg cs).cells.toList.drop i).take 1 = [cs.toList[i]] := by
  rw [hcs, List.drop_eq_getElem_cons hil']
  rfl
 rw [hone', List.getElem?_eq_getElem (by omega)] at h1
 exact ⟨cs.toList[i], n, _, List.getElem?_eq_getElem hil', h1⟩
def allInt (P : Program) (k : IntKind) (fs : Array Field) : Bool := fs.toList.all fun f => match P.underlying f.type with | some (.int k') => decide (k' = k) | _ => false
theorem open_ints_agg {t : TypeId} {fs : Array Field} {k : IntKind} {n : Nat} {v : Value} {d : DataW H} {p : List MemPlace} (ht : P.underlying t = some (.struct fs)) (hone : oneCellFields P fs = true) (hC : P.cellsOf t = n) (hn : fs.size = n) (hk : allInt P k fs = true)
 (hv : Value.okWide P w r b0 t v) (h : DataW.Trod enc P w base spare held t v d p) :
 ∃ l : List Int, v = .agg (l.map (Value.int k)).toArray ∧ l.length = n ∧ ∀ a ∈ l, (Lit.int k a).wf = true := by
 obtain ⟨l, rfl, hl, hf⟩ := open_flat ht hone (hC.trans hn.symm) hv h
 have each : ∀ i, i < l.length → ∃ a : Int, l[i]? = some (.int k a) ∧ (Lit.int k a).wf = true := by
  intro i hi
  have hi' : i < fs.size := by omega
  obtain ⟨x, m, y, hx, hy⟩ := hf i fs[i] (Array.getElem?_eq_getElem hi')
  have hki := List.all_eq_true.1 hk fs[i] (by simp)
  split at hki
  ·rename_i k' hu
   have : k' = k := by simpa using hki
   subst this
   obtain ⟨a, h1, _, h3⟩ := DataW.trod_int hu hy
   simp only [List.cons.injEq, and_true] at h1
   exact ⟨a, by rw [hx, h1], h3⟩
  ·cases hki
 have hmap : ∀ l : List Value, (∀ i, i < l.length → ∃ a : Int, l[i]? = some (.int k a) ∧ (Lit.int k a).wf = true) → ∃ z : List Int, l = z.map (Value.int k) ∧ ∀ a ∈ z, (Lit.int k a).wf = true := by
  intro l
  induction l with
  | nil => exact fun _ => ⟨[], rfl, by simp⟩
  | cons x l ih =>
   intro hh
   obtain ⟨a, h1, h2⟩ := hh 0 (by simp)
   obtain ⟨z, rfl, hz⟩ := ih fun i hi => by simpa using hh (i + 1) (by simp; omega)
   simp at h1
   exact ⟨a :: z, by rw [h1]; rfl, by simpa [h2] using hz⟩
 obtain ⟨z, rfl, hz⟩ := hmap l each
 exact ⟨z, rfl, by simpa [hn] using hl, hz⟩
end
theorem i64_bd {n : Int} (h : (Lit.int .i64 n).wf = true) : -9223372036854775808 ≤ n ∧ n ≤ 9223372036854775807 := by
 simpa [Lit.wf, IntKind.min, IntKind.max, IntKind.signed, IntKind.bits] using h
end Go.Proofs.YtnbdpnlepcjmmaaGreat

namespace Go.Proofs.YtnbdpnlepcjmmaaGreat
open Go.ChangeShapes Go.WideShapes Go.RowKit Go.Deep
section
variable {H : Type} {enc : TypeId × Value → H} {P : Program} {w : World} {base : Nat} {spare : Nat → Bool} {held : Bool} {fs : Array Field} {cs : List Value} {xs : List (DataW H × List MemPlace)} {n : Nat}
set_option maxRecDepth 100000 in
theorem part_int (hg : ∀ (i : Nat) (f : Field), fs[i]? = some f → DataW.trod enc P w base spare held n f.type ((cs.drop f.offset).take (P.cellsOf f.type)) = xs[i]?) (hlen : xs.length = fs.size) (i o c : Nat) (k : IntKind)
 (hi : (fs[i]?).map (fun f => (f.offset, P.cellsOf f.type, P.underlying f.type)) = some (o, c, some (.int k))) : ∃ a : Int, (cs.drop o).take c = [.int k a] ∧ (Lit.int k a).wf = true := by
 obtain ⟨f, hf, he⟩ := Option.map_eq_some_iff.1 hi
 simp only [Prod.mk.injEq] at he
 obtain ⟨h1, h2, h3⟩ := he
 have hil : i < fs.size := (Array.getElem?_eq_some_iff.1 hf).1
 have hx := hg i f hf
 rw [List.getElem?_eq_getElem (by omega), h1, h2] at hx
 obtain ⟨a, ha, _, hw⟩ := DataW.trod_int h3 hx
 exact ⟨a, ha, hw⟩
set_option maxRecDepth 100000 in
theorem part_struct (hg : ∀ (i : Nat) (f : Field), fs[i]? = some f → DataW.trod enc P w base spare held n f.type ((cs.drop f.offset).take (P.cellsOf f.type)) = xs[i]?) (hlen : xs.length = fs.size) (i o c : Nat) (gs : Array Field)
 (hi : (fs[i]?).map (fun f => (f.offset, P.cellsOf f.type, P.underlying f.type)) = some (o, c, some (.struct gs))) :
 ∃ (ys : List (DataW H × List MemPlace)) (m : Nat), ys.length = gs.size ∧ ∀ (i : Nat) (f : Field), gs[i]? = some f → DataW.trod enc P w base spare held m f.type ((((cs.drop o).take c).drop f.offset).take (P.cellsOf f.type)) = ys[i]? := by
 obtain ⟨f, hf, he⟩ := Option.map_eq_some_iff.1 hi
 simp only [Prod.mk.injEq] at he
 obtain ⟨h1, h2, h3⟩ := he
 have hil : i < fs.size := (Array.getElem?_eq_some_iff.1 hf).1
 have hx := hg i f hf
 rw [List.getElem?_eq_getElem (by omega), h1, h2] at hx
 obtain ⟨ys, m, _, _, _, hl, h⟩ := DataW.trod_struct h3 hx
 exact ⟨ys, m, hl, h⟩
end
end Go.Proofs.YtnbdpnlepcjmmaaGreat

namespace Go.Proofs.YtnbdpnlepcjmmaaGreat
open Go.ChangeShapes Go.WideShapes Go.RowKit Go.Deep
set_option maxRecDepth 100000
theorem part_any {H : Type} {enc : TypeId × Value → H} {P : Program} {w : World} {base : Nat} {spare : Nat → Bool} {held : Bool} {fs : Array Field} {cs : List Value} {xs : List (DataW H × List MemPlace)} {n : Nat} (hg : ∀ (i : Nat) (f : Field), fs[i]? = some f → DataW.trod enc P w base spare held n f.type ((cs.drop f.offset).take (P.cellsOf f.type)) = xs[i]?) (hlen : xs.length = fs.size) (i o c : Nat) (t : TypeId)
 (hi : (fs[i]?).map (fun f => (f.offset, P.cellsOf f.type, f.type)) = some (o, c, t)) : ∃ y, DataW.trod enc P w base spare held n t ((cs.drop o).take c) = some y := by
 obtain ⟨f, hff, he⟩ := Option.map_eq_some_iff.1 hi
 simp only [Prod.mk.injEq] at he
 obtain ⟨h1, h2, h3⟩ := he
 have hil := (Array.getElem?_eq_some_iff.1 hff).1
 have hx := hg i f hff
 rw [List.getElem?_eq_getElem (by omega), h1, h2, h3] at hx
 exact ⟨_, hx⟩
section
variable {H : Type} {enc : TypeId × Value → H} {w : World} {base : Nat} {spare : Nat → Bool} {held : Bool}
theorem span_of {n : Nat} {cs : List Value} {y : DataW H × List MemPlace} (h : DataW.trod enc Tryz.prog w base spare held n 93 cs = some y) : ∃ g : Sp, cs = lsS g := by
 obtain ⟨xs, m, _, _, hl, hlen, hg⟩ := DataW.trod_struct Tryz.underlying93 h
 obtain ⟨k, e0, _⟩ := part_int hg hlen 0 0 1 .i64 (by kernel_rfl)
 obtain ⟨a, e1, _⟩ := part_int hg hlen 1 1 1 .i64 (by kernel_rfl)
 have hl2 : cs.length = 2 := hl.trans (by kernel_rfl)
 refine ⟨(k, a), ?_⟩
 match cs, hl2 with
 | [c0, c1], _ =>
  simp only [List.drop_zero, List.take_succ_cons, List.take_zero, List.drop_succ_cons, List.cons.injEq, and_true] at e0 e1
  rw [e0, e1]
  rfl
theorem spans_of {n : Nat} {cs : List Value} {y : DataW H × List MemPlace} (h : DataW.trod enc Tryz.prog w base spare held n 43 cs = some y) : ∃ (A : Option Addr) (cp : Nat) (l : List Sp), cs = [.slice A l.length cp] ∧ Sps w A l ∧ l.length ≤ maxLen ∧ l.length ≤ cp := by
 rcases DataW.trod_slice Tryz.underlying43 h with ⟨rfl, _⟩ | ⟨a, len, cap, elems, rest, m, _, rfl, _, hb, hl, hm, hlen, hel, _, _⟩
 ·exact ⟨none, 0, [], rfl, Reads.none_, by simp, by simp⟩
 ·have hc2 : Tryz.prog.cellsOf 93 = 2 := by kernel_rfl
  rw [hc2] at hel
  have each : ∀ i, i < len → ∃ g : Sp, w.cells? base (a.add (i * 2)) 2 = some (lsS g) := by
   intro i hi
   have h1 := hel i hi
   rw [List.getElem?_eq_getElem (by omega), Option.bind_eq_some_iff] at h1
   obtain ⟨cs', hcs, hy⟩ := h1
   obtain ⟨g, rfl⟩ := span_of hy
   exact ⟨g, hcs⟩
  have lst : ∀ j, j ≤ len → ∃ l : List Sp, l.length = j ∧ ∀ i (g : Sp), l[i]? = some g → w.cells? base (a.add (i * 2)) 2 = some (lsS g) := by
   intro j
   induction j with
   | zero => exact fun _ => ⟨[], rfl, by simp⟩
   | succ j ih =>
    intro hj
    obtain ⟨l, h1, h2⟩ := ih (by omega)
    obtain ⟨g, hg⟩ := each j (by omega)
    refine ⟨l ++ [g], by simp [h1], fun i x hx => ?_⟩
    by_cases hi : i < l.length
    ·exact h2 i x (by rwa [List.getElem?_append_left hi] at hx)
    ·have hij : i = j := by
      have := (List.getElem?_eq_some_iff.1 hx).1
      simp at this
      omega
     subst hij
     rw [List.getElem?_append_right (by omega)] at hx
     simp [h1] at hx
     subst hx
     exact hg
  obtain ⟨l, h1, h2⟩ := lst len (Nat.le_refl _)
  refine ⟨some a, cap, l, by rw [h1], ⟨scells_len l, fun hn => ?_⟩, by omega, by omega⟩
  refine ⟨a, rfl, ?_, fun j u hu => ?_⟩
  ·have h3 := h2 0 l[0] (List.getElem?_eq_getElem hn)
   have := World.cells?_block h3 (by omega)
   rwa [block_of_add] at this
  ·have hj : j < l.length * 2 := by rw [← scells_len]; exact (List.getElem?_eq_some_iff.1 hu).1
   have hi : j / 2 < l.length := by omega
   have hx := List.getElem?_eq_getElem hi
   have h3 := h2 (j / 2) l[j / 2] hx
   obtain ⟨_, _, h4⟩ := World.cells?_some h3
   have hjm : j = j / 2 * 2 + j % 2 := by omega
   rw [hjm, scells_at l (j / 2) _ hx (j % 2) (by omega)] at hu
   have := h4 (j % 2) (by omega)
   rw [add_of_add, ← hjm] at this
   rw [this]
   exact hu
theorem set_of {n : Nat} {cs : List Value} {y : DataW H × List MemPlace} (h : DataW.trod enc Tryz.prog w base spare held n 45 cs = some y) : ∃ (A : Option Addr) (cp : Nat) (l : List Sp), cs = [.slice A l.length cp] ∧ Sps w A l ∧ l.length ≤ maxLen ∧ l.length ≤ cp := by
 obtain ⟨xs, m, _, _, hl, hlen, hg⟩ := DataW.trod_struct Tryz.underlying45 h
 have hl1 : cs.length = 1 := hl.trans (by kernel_rfl)
 obtain ⟨y1, t1⟩ := part_any hg hlen 0 0 1 43 (by kernel_rfl)
 obtain ⟨A, cp, l, e1, hs, hm, hc⟩ := spans_of t1
 rw [List.drop_zero, List.take_of_length_le (by omega)] at e1
 exact ⟨A, cp, l, e1, hs, hm, hc⟩
theorem list_of {α : Type} {R : Nat → α → Prop} (len : Nat) (each : ∀ i, i < len → ∃ g, R i g) : ∃ l : List α, l.length = len ∧ ∀ (i : Nat) (x : α), l[i]? = some x → R i x := by
 induction len with
 | zero => exact ⟨[], rfl, by simp⟩
 | succ j ih =>
  obtain ⟨l, h1, h2⟩ := ih (fun i hi => each i (by omega))
  obtain ⟨g, hg⟩ := each j (by omega)
  refine ⟨l ++ [g], by simp [h1], fun i x hx => ?_⟩
  by_cases hi : i < l.length
  ·exact h2 i x (by rwa [List.getElem?_append_left hi] at hx)
  ·have hij : i = j := by
    have := (List.getElem?_eq_some_iff.1 hx).1
    simp at this
    omega
   subst hij
   rw [List.getElem?_append_right (by omega)] at hx
   simp [h1] at hx
   subst hx
   exact hg
theorem reads_of {a : Addr} {size len : Nat} {f : Nat → List Value} (hs : 0 < size) (hf : ∀ i, i < len → w.cells? base (a.add (i * size)) size = some (f i)) : ∃ vs : List Value, RdB w (fun _ => True) size (some a) len vs ∧ ∀ i, i < len → ∀ j, j < size → vs[i * size + j]? = (f i)[j]? := by
 have hlt : ∀ n, n < len * size → n / size < len := fun n hn => Nat.div_lt_of_lt_mul (by rw [Nat.mul_comm]; exact hn)
 have hlen : ∀ i, i < len → (f i).length = size := fun i hi => (World.cells?_some (hf i hi)).2.1
 refine ⟨(List.range (len * size)).map fun n => (f (n / size)).getD (n % size) undef, ⟨⟨by simp, fun hn => ⟨a, rfl, ?_, fun j u hu => ?_⟩⟩, fun _ _ _ => trivial⟩, fun i hi j hj => ?_⟩
 ·have h3 := hf 0 hn
  have := World.cells?_block h3 hs
  rwa [block_of_add] at this
 ·have hj : j < len * size := by simpa using (List.getElem?_eq_some_iff.1 hu).1
  rw [List.getElem?_map, List.getElem?_range hj] at hu
  have hu : (f (j / size)).getD (j % size) undef = u := by simpa using hu
  have h3 := hf (j / size) (hlt j hj)
  obtain ⟨_, h5, h4⟩ := World.cells?_some h3
  have hm := Nat.mod_lt j hs
  have hjm : j / size * size + j % size = j := by rw [Nat.mul_comm]; exact Nat.div_add_mod j size
  have := h4 (j % size) hm
  rw [add_of_add, hjm] at this
  rw [this, ← hu, List.getD_eq_getElem?_getD, List.getElem?_eq_getElem (by omega)]
  rfl
 ·have hn : i * size + j < len * size := by
   have := Nat.mul_le_mul_right size (show i + 1 ≤ len by omega)
   rw [Nat.add_mul, Nat.one_mul] at this
   omega
  have e1 : (i * size + j) / size = i := by rw [Nat.mul_comm, Nat.mul_add_div hs, Nat.div_eq_of_lt hj, Nat.add_zero]
  have e2 : (i * size + j) % size = j := by rw [Nat.mul_comm, Nat.mul_add_mod, Nat.mod_eq_of_lt hj]
  have hfl := hlen i hi
  rw [List.getElem?_map, List.getElem?_range hn]
  show some ((f ((i * size + j) / size)).getD ((i * size + j) % size) undef) = _
  rw [e1, e2, List.getD_eq_getElem?_getD, List.getElem?_eq_getElem (by omega)]
  rfl
theorem ints_of {n : Nat} {cs : List Value} {y : DataW H × List MemPlace} (h : DataW.trod enc Tryz.prog w base spare held n 23 cs = some y) : ∃ (A : Option Addr) (cp : Nat) (l : List Int), cs = [.slice A l.length cp] ∧ InB w (fun _ => True) A l ∧ l.length ≤ maxLen ∧ l.length ≤ cp := by
 rcases DataW.trod_slice Tryz.underlying23 h with ⟨rfl, _⟩ | ⟨a, len, cap, elems, rest, m, _, rfl, _, hb, hl, hm, hlen, hel, _, _⟩
 ·exact ⟨none, 0, [], rfl, RdB.nil, by simp, by simp⟩
 ·have hc : Tryz.prog.cellsOf 3 = 1 := by kernel_rfl
  rw [hc] at hel
  have each : ∀ i, i < len → ∃ g : Int, w.cells? base (a.add (i * 1)) 1 = some [.int .i64 g] := by
   intro i hi
   have h1 := hel i hi
   rw [List.getElem?_eq_getElem (by omega), Option.bind_eq_some_iff] at h1
   obtain ⟨cs', hcs, hy⟩ := h1
   obtain ⟨g, rfl, _⟩ := DataW.trod_int Tryz.underlying3 hy
   exact ⟨g, hcs⟩
  obtain ⟨l, h1, h2⟩ := list_of len each
  obtain ⟨vs, hr, hv⟩ := reads_of (f := fun i => [Value.int .i64 (l.getD i 0)]) (size := 1) (len := len) (a := a) (w := w) (base := base) (by omega) (fun i hi => by
   rw [List.getD_eq_getElem?_getD, List.getElem?_eq_getElem (by omega)]
   exact h2 i _ (List.getElem?_eq_getElem (by omega)))
  have hvl : vs.length = len := by have := hr.1.1; omega
  have e : vs = l.map (Value.int .i64) := by
   refine List.ext_getElem? fun i => ?_
   by_cases hi : i < len
   ·have := hv i hi 0 (by omega)
    rw [Nat.mul_one, Nat.add_zero] at this
    rw [this, List.getElem?_map, List.getElem?_eq_getElem (show i < l.length by omega), List.getD_eq_getElem?_getD, List.getElem?_eq_getElem (show i < l.length by omega)]
    rfl
   ·rw [List.getElem?_eq_none (by omega), List.getElem?_eq_none (by simp; omega)]
  refine ⟨some a, cap, l, by rw [h1], ?_, by omega, by omega⟩
  show RdB w (fun _ => True) 1 (some a) l.length (l.map (Value.int .i64))
  rw [← e, h1]
  exact hr
theorem maps_of {n : Nat} {cs : List Value} {y : DataW H × List MemPlace} (h : DataW.trod enc Tryz.prog w base spare held n 46 cs = some y) : ∃ (A : Option Addr) (cp : Nat) (l : List (List Int)), cs = [.slice A l.length cp] ∧ MapsR w (fun _ => True) A l ∧ l.length ≤ maxLen ∧ l.length ≤ cp ∧ ∀ x ∈ l, x.length ≤ maxLen := by
 rcases DataW.trod_slice Tryz.underlying46 h with ⟨rfl, _⟩ | ⟨a, len, cap, elems, rest, m, _, rfl, _, hb, hl, hm, hlen, hel, _, _⟩
 ·exact ⟨none, 0, [], rfl, MapsR.nil, by simp, by simp, by simp⟩
 ·have hc : Tryz.prog.cellsOf 23 = 1 := by kernel_rfl
  rw [hc] at hel
  have each : ∀ i, i < len → ∃ g : List Int × Value, w.cells? base (a.add (i * 1)) 1 = some [g.2] ∧ (∃ B c, g.2 = .slice B g.1.length c ∧ g.1.length ≤ c ∧ InB w (fun _ => True) B g.1) ∧ g.1.length ≤ maxLen := by
   intro i hi
   have h1 := hel i hi
   rw [List.getElem?_eq_getElem (by omega), Option.bind_eq_some_iff] at h1
   obtain ⟨cs', hcs, hy⟩ := h1
   obtain ⟨B, c, g, rfl, h3, h4, h5⟩ := ints_of hy
   exact ⟨(g, _), hcs, ⟨B, c, rfl, h5, h3⟩, h4⟩
  obtain ⟨l, h1, h2⟩ := list_of len each
  have hat : ∀ i, i < len → ∃ g, l[i]? = some g := fun i hi => ⟨_, List.getElem?_eq_getElem (show i < l.length by omega)⟩
  obtain ⟨vs, hr, hv⟩ := reads_of (f := fun i => [((l[i]?).getD ([], undef)).2]) (size := 1) (len := len) (a := a) (w := w) (base := base) (by omega) (fun i hi => by
   obtain ⟨g, hg⟩ := hat i hi
   rw [hg]
   exact (h2 i g hg).1)
  refine ⟨some a, cap, l.map (·.1), by simp [h1], ⟨vs, by rw [List.length_map, h1]; exact hr, fun i x hx => ?_⟩, by simp; omega, by simp; omega, fun x hx => ?_⟩
  ·rw [List.getElem?_map] at hx
   obtain ⟨g, hg, rfl⟩ := Option.map_eq_some_iff.1 hx
   have hi : i < len := by have := (List.getElem?_eq_some_iff.1 hg).1; omega
   obtain ⟨_, ⟨B, c, e, hc2, hi2⟩, _⟩ := h2 i g hg
   refine ⟨B, c, ?_, hc2, hi2⟩
   have := hv i hi 0 (by omega)
   rw [Nat.mul_one, Nat.add_zero, hg] at this
   rw [this, ← e]
   rfl
  ·obtain ⟨g, hg, rfl⟩ := List.mem_map.1 hx
   obtain ⟨i, hi⟩ := List.mem_iff_getElem?.1 hg
   exact (h2 i g hi).2.2
theorem box_of {n : Nat} {cs : List Value} {y : DataW H × List MemPlace} (h : DataW.trod enc Tryz.prog w base spare held n 48 cs = some y) : ∃ (b : Bx) (A1 : Option Addr) (c1 : Nat) (A2 : Option Addr) (c2 : Nat) (A3 : Option Addr) (c3 : Nat), cs = b.cs A1 c1 A2 c2 A3 c3 ∧ BoxP w (fun _ => True) b A1 c1 A2 c2 A3 c3 ∧ LimB b ∧ I64 b.k := by
 obtain ⟨xs, m, _, _, hl, hlen, hg⟩ := DataW.trod_struct Tryz.underlying48 h
 obtain ⟨k, e0, hk⟩ := part_int hg hlen 0 0 1 .i64 (by kernel_rfl)
 obtain ⟨y1, t1⟩ := part_any hg hlen 1 1 1 45 (by kernel_rfl)
 obtain ⟨y2, t2⟩ := part_any hg hlen 2 2 1 46 (by kernel_rfl)
 obtain ⟨y3, t3⟩ := part_any hg hlen 3 3 1 45 (by kernel_rfl)
 obtain ⟨A1, c1, r, e1, hr, mr, cr⟩ := set_of t1
 obtain ⟨A2, c2, ms, e2, hm, mm, cm, mx⟩ := maps_of t2
 obtain ⟨A3, c3, s, e3, hs, msx, csx⟩ := set_of t3
 have hl4 : cs.length = 4 := hl.trans (by kernel_rfl)
 refine ⟨⟨k, r, ms, s⟩, A1, c1, A2, c2, A3, c3, ?_, ⟨⟨hr, fun _ _ _ => trivial⟩, hm, ⟨hs, fun _ _ _ => trivial⟩, cr, cm, csx⟩, ⟨mr, msx, mm, mx⟩, i64_bd hk⟩
 match cs, hl4 with
 | [d0, d1, d2, d3], _ =>
  simp only [List.drop_zero, List.take_succ_cons, List.take_zero, List.drop_succ_cons, List.cons.injEq, and_true] at e0 e1 e2 e3
  rw [e0, e1, e2, e3]
  rfl
theorem boxes_of {n : Nat} {cs : List Value} {y : DataW H × List MemPlace} (h : DataW.trod enc Tryz.prog w base spare held n 22 cs = some y) : ∃ (A : Option Addr) (cp : Nat) (l : List Bx), cs = [.slice A l.length cp] ∧ Bxs w (fun _ => True) A l ∧ l.length ≤ maxLen ∧ l.length ≤ cp ∧ ∀ x ∈ l, LimB x ∧ I64 x.k := by
 rcases DataW.trod_slice Tryz.underlying22 h with ⟨rfl, _⟩ | ⟨a, len, cap, elems, rest, m, _, rfl, _, hb, hl, hm, hlen, hel, _, _⟩
 ·exact ⟨none, 0, [], rfl, Bxs.nil, by simp, by simp, by simp⟩
 ·have hc : Tryz.prog.cellsOf 48 = 4 := by kernel_rfl
  rw [hc] at hel
  have each : ∀ i, i < len → ∃ g : Bx × List Value, w.cells? base (a.add (i * 4)) 4 = some g.2 ∧ (∃ A1 c1 A2 c2 A3 c3, g.2 = g.1.cs A1 c1 A2 c2 A3 c3 ∧ BoxP w (fun _ => True) g.1 A1 c1 A2 c2 A3 c3) ∧ LimB g.1 ∧ I64 g.1.k := by
   intro i hi
   have h1 := hel i hi
   rw [List.getElem?_eq_getElem (by omega), Option.bind_eq_some_iff] at h1
   obtain ⟨cs', hcs, hy⟩ := h1
   obtain ⟨b, A1, c1, A2, c2, A3, c3, rfl, h3, h4, h5⟩ := box_of hy
   exact ⟨(b, _), hcs, ⟨A1, c1, A2, c2, A3, c3, rfl, h3⟩, h4, h5⟩
  obtain ⟨l, h1, h2⟩ := list_of len each
  have hat : ∀ i, i < len → ∃ g, l[i]? = some g := fun i hi => ⟨_, List.getElem?_eq_getElem (show i < l.length by omega)⟩
  obtain ⟨vs, hr, hv⟩ := reads_of (f := fun i => ((l[i]?).getD (⟨0, [], [], []⟩, [])).2) (size := 4) (len := len) (a := a) (w := w) (base := base) (by omega) (fun i hi => by
   obtain ⟨g, hg⟩ := hat i hi
   rw [hg]
   exact (h2 i g hg).1)
  refine ⟨some a, cap, l.map (·.1), by simp [h1], ⟨vs, by rw [List.length_map, h1]; exact hr, fun i x hx => ?_⟩, by simp; omega, by simp; omega, fun x hx => ?_⟩
  ·rw [List.getElem?_map] at hx
   obtain ⟨g, hg, rfl⟩ := Option.map_eq_some_iff.1 hx
   have hi : i < len := by have := (List.getElem?_eq_some_iff.1 hg).1; omega
   obtain ⟨_, ⟨A1, c1, A2, c2, A3, c3, e, hp⟩, _⟩ := h2 i g hg
   refine ⟨A1, c1, A2, c2, A3, c3, hp, fun j hj => ?_⟩
   rw [hv i hi j hj, hg, ← e]
   rfl
  ·obtain ⟨g, hg, rfl⟩ := List.mem_map.1 hx
   obtain ⟨i, hi⟩ := List.mem_iff_getElem?.1 hg
   exact (h2 i g hi).2.2
end
theorem open_boxes {H : Type} {enc : TypeId × Value → H} {w : World} {r : Reach} {b0 : Nat} {v : Value} {d : DataW H} {p : List MemPlace} (hv : Value.okWide Tryz.prog w r b0 22 v) (h : DataW.Trod enc Tryz.prog w 0 (fun _ => true) true 22 v d p) :
 ∃ (A : Option Addr) (c : Nat) (l : List Bx), v = .slice A l.length c ∧ Bxs w (fun _ => True) A l ∧ l.length ≤ maxLen ∧ l.length ≤ c ∧ ∀ x ∈ l, LimB x ∧ I64 x.k := by
 obtain ⟨a0, len, cap, rfl⟩ := okWide_slice Tryz.underlying22 hv
 obtain ⟨fuel, hf⟩ := h
 obtain ⟨A, cp, l, e, hs, hm, hc, hx⟩ := boxes_of hf
 have e2 : (Value.slice a0 len cap).cells.toList = [.slice a0 len cap] := rfl
 rw [e2] at e
 injection e with e
 exact ⟨A, cp, l, e, hs, hm, hc, hx⟩
theorem four_of {L : List Value} (h : L.length = 4) : ∃ a b c d, L = [a, b, c, d] := by
 match L, h with
 | [a, b, c, d], _ => exact ⟨a, b, c, d, rfl⟩
theorem open_choice {H : Type} {enc : TypeId × Value → H} {w : World} {r : Reach} {b0 : Nat} {v : Value} {d : DataW H} {p : List MemPlace} (hv : Value.okWide Tryz.prog w r b0 27 v) (h : DataW.Trod enc Tryz.prog w 0 (fun _ => true) true 27 v d p) :
 ∃ (x : Ch) (A : Option Addr) (c : Nat), v = .agg #[.int .i64 x.k, .int .i64 x.r, .slice A x.m.length c, .int .i64 x.s] ∧ InB w (fun _ => True) A x.m ∧ x.m.length ≤ maxLen ∧ x.m.length ≤ c ∧ I64 x.r ∧ I64 x.s := by
 obtain ⟨cs, rfl, hsz⟩ := okWide_struct Tryz.underlying27 hv
 obtain ⟨fuel, hf⟩ := h
 obtain ⟨xs, n, _, _, hcl, hlen, hg⟩ := DataW.trod_struct Tryz.underlying27 hf
 have hcs : (Value.agg cs).cells.toList = cs.toList := rfl
 rw [hcs] at hg hcl
 have hs4 : cs.size = 4 := hsz.trans (by kernel_rfl)
 obtain ⟨ys, m, hyl, hy⟩ := part_struct hg hlen 0 0 3 _ ((show _ = some ((0 : Nat), (3 : Nat), Tryz.prog.underlying 25) by kernel_rfl).trans (congrArg (fun d => some ((0 : Nat), (3 : Nat), d)) Tryz.underlying25))
 obtain ⟨k, e0, _⟩ := part_int hy hyl 0 0 1 .i64 (by kernel_rfl)
 obtain ⟨rt, e1, h1⟩ := part_int hy hyl 1 1 1 .i64 (by kernel_rfl)
 obtain ⟨y2, t2⟩ := part_any hy hyl 2 2 1 23 (by kernel_rfl)
 obtain ⟨A, cp, ms, e2, hi, hm, hc⟩ := ints_of t2
 obtain ⟨s, e3, h3⟩ := part_int hg hlen 1 3 1 .i64 (by kernel_rfl)
 refine ⟨⟨k, rt, ms, s⟩, A, cp, congrArg Value.agg ?_, hi, hm, hc, i64_bd h1, i64_bd h3⟩
 apply Array.ext'
 obtain ⟨d0, d1, d2, d3, hL⟩ := four_of (L := cs.toList) (by rw [Array.length_toList]; exact hs4)
 simp only [hL, List.drop_zero, List.take_succ_cons, List.take_zero, List.drop_succ_cons, List.cons.injEq, and_true] at e0 e1 e2 e3
 rw [hL, e0, e1, e2, e3]
end Go.Proofs.YtnbdpnlepcjmmaaGreat

namespace Go.Proofs.YtnbdpnlepcjmmaaGreat
open Go.RowKit
def AnyB : Nat → Prop := fun _ => True
def ptB (r : Int) (m : List Int) : Bx := ⟨4, [(r, r)], [m], [(64, 64)]⟩
theorem rd_lit (w : World) {ok : Nat → Prop} (T : TypeId) (xs : Array Value) (size n : Nat) (hl : xs.toList.length = n * size) (hw : ok w.heap.size) : RdB (w.alloc (.cells xs T)) ok size (some ⟨w.heap.size, 0, none⟩) n xs.toList := by
 have hk := Blk.new w T xs
 refine ⟨⟨hl, fun _ => ⟨_, rfl, hk.lt, fun j u hu => ?_⟩⟩, fun _ ad e => by injection e with e; subst e; exact hw⟩
 rw [add_head, hk.cell, ← Array.getElem?_toList]
 exact hu
theorem maps_lit1 (w : World) {ok : Nat → Prop} {A : Option Addr} {c : Nat} {m : List Int} (h : InB w ok A m) (hc : m.length ≤ c) (hw : ok w.heap.size) : MapsR (w.alloc (.cells #[.slice A m.length c] 23)) ok (some ⟨w.heap.size, 0, none⟩) [m] := by
 have hq := (Below.refl w.heap.size w).alloc (Nat.le_refl _) (Obj.cells #[.slice A m.length c] 23)
 refine ⟨_, rd_lit w _ #[.slice A m.length c] 1 1 rfl hw, fun i x hx => ?_⟩
 have hi0 : i = 0 := by
  have := (List.getElem?_eq_some_iff.1 hx).1
  simp only [List.length_singleton] at this
  omega
 subst hi0
 simp only [List.getElem?_cons_zero, Option.some.injEq] at hx
 subst hx
 exact ⟨A, c, rfl, hc, h.grows hq⟩
set_option maxHeartbeats 8000000 in
theorem point_any (r : Int) (A : Option Addr) (c : Nat) (m : List Int) (w : World) (h : InB w AnyB A m) (hc : m.length ≤ c) : Calls Tryz.prog 32 #[.int .i64 r, .slice A m.length c] w fun e w' => (∃ v, e = .returned v ∧ BoxV w' AnyB (ptB r m) v) ∧ Grows w w' := by
 have k0 := Blk.new w 48 #[.int .i64 0, .slice none 0 0, .slice none 0 0, .slice none 0 0]
 have hB := (Below.refl w.heap.size w).alloc (Nat.le_refl _) (Obj.cells #[.int .i64 0, .slice none 0 0, .slice none 0 0, .slice none 0 0] 48)
 have hm : InB (w.alloc (.cells #[.int .i64 0, .slice none 0 0, .slice none 0 0, .slice none 0 0] 48)) (fun k => k ≠ w.heap.size) A m := (RdB.under h).mono (fun k hk => by unfold Under at hk; omega) |>.grows hB
 go_enter Tryz.func32, Tryz.ntmps32
 go_upto_region 1 with fail
 generalize World.alloc w _ = w1 at *
 have hs1 := k0.lt
 refine wp_region_lit ?_
 iterate 4
  refine BigFrame.wpList_want (by first | rfl | kernel_rfl) (fun K hK => ?_)
  go_simp
  refine hK _ _ ?_
  clear hK K
 have hr := rd_lit w1 (ok := fun k => k ≠ w.heap.size) 93 #[.int .i64 r, .int .i64 r] 2 1 rfl (by omega)
 have hq := (Below.refl w1.heap.size w1).alloc (Nat.le_refl _) (Obj.cells #[.int .i64 r, .int .i64 r] 93)
 replace k0 := k0.grows hq
 replace hm := hm.grows hq
 replace hB := below_grows hB (Nat.le_refl _) hq
 clear hq
 generalize w1.heap.size = n1 at *
 generalize World.alloc w1 _ = w2 at *
 replace hs1 := k0.lt
 iterate 3
  refine BigFrame.wpList_want (by first | rfl | kernel_rfl) (fun K hK => ?_)
  go_simp
  refine hK _ _ ?_
  clear hK K
 have hmm := maps_lit1 w2 hm hc (by omega)
 have hq := (Below.refl w2.heap.size w2).alloc (Nat.le_refl _) (Obj.cells #[.slice A m.length c] 23)
 replace k0 := k0.grows hq
 replace hr := hr.grows hq
 replace hB := below_grows hB (Nat.le_refl _) hq
 clear hq hm
 generalize w2.heap.size = n2 at *
 generalize World.alloc w2 _ = w3 at *
 replace hs1 := k0.lt
 iterate 2
  refine BigFrame.wpList_want (by first | rfl | kernel_rfl) (fun K hK => ?_)
  go_simp
  refine hK _ _ ?_
  clear hK K
 have hs := rd_lit w3 (ok := fun k => k ≠ w.heap.size) 93 #[.int .i64 64, .int .i64 64] 2 1 rfl (by omega)
 have hq := (Below.refl w3.heap.size w3).alloc (Nat.le_refl _) (Obj.cells #[.int .i64 64, .int .i64 64] 93)
 replace k0 := k0.grows hq
 replace hr := hr.grows hq
 replace hmm := hmm.grows hq
 replace hB := below_grows hB (Nat.le_refl _) hq
 clear hq
 generalize w3.heap.size = n3 at *
 generalize World.alloc w3 _ = w4 at *
 have y0 := ((((k0.set_ 0 (.int .i64 4)).set_ 1 (.slice (some ⟨n1, 0, none⟩) 1 1)).set_ 2 (.slice (some ⟨n2, 0, none⟩) 1 1)).set_ 3 (.slice (some ⟨n3, 0, none⟩) 1 1))
 have yB := ((((hB.setCell (p := ⟨w.heap.size, 0, none⟩) (Nat.le_refl _) (.int .i64 4)).setCell (p := ⟨w.heap.size, 1, none⟩) (Nat.le_refl _) (.slice (some ⟨n1, 0, none⟩) 1 1)).setCell (p := ⟨w.heap.size, 2, none⟩) (Nat.le_refl _) (.slice (some ⟨n2, 0, none⟩) 1 1)).setCell (p := ⟨w.heap.size, 3, none⟩) (Nat.le_refl _) (.slice (some ⟨n3, 0, none⟩) 1 1))
 have hgq := (d_only_set (d_only_set (d_only_set (d_only_set (World.grownBy.refl w4 (some w.heap.size)) 0 (.int .i64 4)) 1 (.slice (some ⟨n1, 0, none⟩) 1 1)) 2 (.slice (some ⟨n2, 0, none⟩) 1 1)) 3 (.slice (some ⟨n3, 0, none⟩) 1 1))
 have yr := RdB.grown hr hgq (fun q e hh => by injection e with e; exact hh e.symm)
 have ym := MapsR.grown hmm hgq (fun q e hh => by injection e with e; exact hh e.symm)
 have ys := RdB.grown hs hgq (fun q e hh => by injection e with e; exact hh e.symm)
 have y6 := y0.cell
 have x0 := k0.cell
 have hf0 := k0.frozen
 clear k0 hB hr hmm hs
 go_wp2
 refine bodyPost_ret (v := .agg #[.int .i64 4, .slice (some ⟨n1, 0, none⟩) 1 1, .slice (some ⟨n2, 0, none⟩) 1 1, .slice (some ⟨n3, 0, none⟩) 1 1]) (by simp [results, Tryz.results32, go_sem, y6]) rfl ⟨⟨_, rfl, ⟨some ⟨n1, 0, none⟩, 1, some ⟨n2, 0, none⟩, 1, some ⟨n3, 0, none⟩, 1, rfl, ⟨RdB.mono yr (fun _ _ => trivial), MapsR.mono ym (fun _ _ => trivial), RdB.mono ys (fun _ _ => trivial), Nat.le_refl _, Nat.le_refl _, Nat.le_refl _⟩⟩⟩, yB⟩
end Go.Proofs.YtnbdpnlepcjmmaaGreat

namespace Go.Proofs.YtnbdpnlepcjmmaaGreat
open Go.RowKit
def sA : List Bx := [ptB 44100 [3]]
def sB : List Bx := [ptB 48000 [3]]
def sC : List Bx := [ptB 44100 [3], ptB 48000 [1, 2]]
def sD : List Bx := [ptB 44100 [1, 2], ptB 48000 [3]]
def sX : Ch := ⟨2, 44100, [3], 64⟩
theorem sane1 : validL sC = true := by decide +kernel
theorem sane2 : blameF sA sB = 2 := by decide +kernel
theorem sane3 : blameF sC sD = 6 := by decide +kernel
theorem sane4 : blameF sA sC = 0 := by decide +kernel
theorem sane5 : bestL (topP zeroC) zeroC sA = (sX, true) := by decide +kernel
theorem sane6 : hasL sA sX = true := by decide +kernel
end Go.Proofs.YtnbdpnlepcjmmaaGreat

namespace Go.Proofs.YtnbdpnlepcjmmaaGreat
open Go.RowKit
theorem bxs_lit2 {w : World} {ok : Nat → Prop} {b d : Bx} {A1 A2 A3 A4 A5 A6 : Option Addr} {c1 c2 c3 c4 c5 c6 : Nat} (hp : BoxP w ok b A1 c1 A2 c2 A3 c3) (hp2 : BoxP w ok d A4 c4 A5 c5 A6 c6) (hw : ok w.heap.size) : Bxs (w.alloc (.cells #[.int .i64 b.k, .slice A1 b.r.length c1, .slice A2 b.m.length c2, .slice A3 b.s.length c3, .int .i64 d.k, .slice A4 d.r.length c4, .slice A5 d.m.length c5, .slice A6 d.s.length c6] 48)) ok (some ⟨w.heap.size, 0, none⟩) [b, d] := by
 have hq := (Below.refl w.heap.size w).alloc (Nat.le_refl _) (Obj.cells #[.int .i64 b.k, .slice A1 b.r.length c1, .slice A2 b.m.length c2, .slice A3 b.s.length c3, .int .i64 d.k, .slice A4 d.r.length c4, .slice A5 d.m.length c5, .slice A6 d.s.length c6] 48)
 refine ⟨_, rd_lit w 48 #[.int .i64 b.k, .slice A1 b.r.length c1, .slice A2 b.m.length c2, .slice A3 b.s.length c3, .int .i64 d.k, .slice A4 d.r.length c4, .slice A5 d.m.length c5, .slice A6 d.s.length c6] 4 2 rfl hw, fun i x hx => ?_⟩
 have hi := (List.getElem?_eq_some_iff.1 hx).1
 simp only [List.length_cons, List.length_nil] at hi
 have hi2 : i = 0 ∨ i = 1 := by omega
 rcases hi2 with h0 | h0
 ·subst h0
  simp only [List.getElem?_cons_zero, Option.some.injEq] at hx
  subst hx
  exact ⟨A1, c1, A2, c2, A3, c3, hp.grows hq, fun j hj => by rw [Nat.zero_mul, Nat.zero_add]; match j, hj with | 0, _ => rfl | 1, _ => rfl | 2, _ => rfl | 3, _ => rfl⟩
 ·subst h0
  simp only [List.getElem?_cons_succ, List.getElem?_cons_zero, Option.some.injEq] at hx
  subst hx
  exact ⟨A4, c4, A5, c5, A6, c6, hp2.grows hq, fun j hj => by match j, hj with | 0, _ => rfl | 1, _ => rfl | 2, _ => rfl | 3, _ => rfl⟩
theorem okb_pt (r : Int) (m : List Int) (h : m.length ≤ 1000000) : OKB (ptB r m) := ⟨by simp [ptB], by simp [ptB], by simp [ptB], by simpa [ptB] using h⟩
theorem okA : ∀ b ∈ sA, OKB b := fun b hb => by simp only [sA, List.mem_cons, List.not_mem_nil, or_false] at hb; subst hb; exact okb_pt _ _ (by decide)
theorem okB : ∀ b ∈ sB, OKB b := fun b hb => by simp only [sB, List.mem_cons, List.not_mem_nil, or_false] at hb; subst hb; exact okb_pt _ _ (by decide)
theorem okC : ∀ b ∈ sC, OKB b := fun b hb => by simp only [sC, List.mem_cons, List.not_mem_nil, or_false] at hb; rcases hb with rfl | rfl <;> exact okb_pt _ _ (by decide)
theorem okD : ∀ b ∈ sD, OKB b := fun b hb => by simp only [sD, List.mem_cons, List.not_mem_nil, or_false] at hb; rcases hb with rfl | rfl <;> exact okb_pt _ _ (by decide)
theorem i64A : ∀ b ∈ sA, I64 b.k := fun b hb => by simp only [sA, List.mem_cons, List.not_mem_nil, or_false] at hb; subst hb; unfold I64; decide
set_option maxHeartbeats 16000000 in
set_option maxRecDepth 10000 in
theorem sane_any (w : World) : Calls Tryz.prog 9 #[] w fun e w' => e = .returned (.bool true) ∧ Grows w w' := by
 have hB := Below.refl w.heap.size w
 go_enter Tryz.func9, Tryz.ntmps9
 go_upto_region 1 with fail
 refine wp_region_lit ?_
 iterate 1
  refine BigFrame.wpList_want (by first | rfl | kernel_rfl) (fun K hK => ?_)
  go_simp
  refine hK _ _ ?_
  clear hK K
 have hI : InB _ AnyB _ [3] := rd_lit w 3 #[.int .i64 3] 1 1 rfl trivial
 have hq := (Below.refl w.heap.size w).alloc (Nat.le_refl _) (Obj.cells #[.int .i64 3] 3)
 replace hB := below_grows hB (Nat.le_refl _) hq
 clear hq
 generalize World.alloc w _ = w1 at *
 iterate 1
  refine BigFrame.wpList_want (by first | rfl | kernel_rfl) (fun K hK => ?_)
  go_simp
  refine hK _ _ ?_
  clear hK K
 have hJ : InB _ AnyB _ [1, 2] := rd_lit w1 3 #[.int .i64 1, .int .i64 2] 1 2 rfl trivial
 have hq := (Below.refl w1.heap.size w1).alloc (Nat.le_refl _) (Obj.cells #[.int .i64 1, .int .i64 2] 3)
 replace hB := below_grows hB (Nat.le_refl _) hq
 replace hI := hI.grows hq
 clear hq
 generalize w1.heap.size = n1 at *
 generalize World.alloc w1 _ = w2 at *
 go_wp2_with fail
 refine (point_any 44100 _ _ [3] _ hI (by decide)).mono ?_
 rintro e w3 ⟨⟨v, rfl, A1, c1, A2, c2, A3, c3, rfl, hp0⟩, hq⟩
 replace hB := below_grows hB (Nat.le_refl _) hq
 replace hI := hI.grows hq
 replace hJ := hJ.grows hq
 clear hq
 have ha : Bxs _ AnyB _ sA := bxs_lit hp0 trivial
 have hq := (Below.refl w3.heap.size w3).alloc (Nat.le_refl _) (Obj.cells #[.int .i64 (ptB 44100 [3]).k, .slice A1 (ptB 44100 [3]).r.length c1, .slice A2 (ptB 44100 [3]).m.length c2, .slice A3 (ptB 44100 [3]).s.length c3] 48)
 replace hB := below_grows hB (Nat.le_refl _) hq
 replace hI := hI.grows hq
 replace hJ := hJ.grows hq
 replace hp0 := hp0.grows hq
 clear hq
 clear hp0
 go_wp2_with fail
 generalize w3.heap.size = nw3 at *
 generalize World.alloc w3 _ = vw3 at *
 refine (point_any 48000 _ _ [3] _ hI (by decide)).mono ?_
 rintro e w4 ⟨⟨v, rfl, A4, c4, A5, c5, A6, c6, rfl, hp1⟩, hq⟩
 replace hB := below_grows hB (Nat.le_refl _) hq
 replace hI := hI.grows hq
 replace hJ := hJ.grows hq
 replace ha := ha.grows hq
 clear hq
 have hb : Bxs _ AnyB _ sB := bxs_lit hp1 trivial
 have hq := (Below.refl w4.heap.size w4).alloc (Nat.le_refl _) (Obj.cells #[.int .i64 (ptB 48000 [3]).k, .slice A4 (ptB 48000 [3]).r.length c4, .slice A5 (ptB 48000 [3]).m.length c5, .slice A6 (ptB 48000 [3]).s.length c6] 48)
 replace hB := below_grows hB (Nat.le_refl _) hq
 replace hI := hI.grows hq
 replace hJ := hJ.grows hq
 replace ha := ha.grows hq
 replace hp1 := hp1.grows hq
 clear hq
 clear hp1
 go_wp2_with fail
 generalize w4.heap.size = nw4 at *
 generalize World.alloc w4 _ = vw4 at *
 refine (point_any 44100 _ _ [3] _ hI (by decide)).mono ?_
 rintro e w5 ⟨⟨v, rfl, A7, c7, A8, c8, A9, c9, rfl, hp2⟩, hq⟩
 replace hB := below_grows hB (Nat.le_refl _) hq
 replace hI := hI.grows hq
 replace hJ := hJ.grows hq
 replace ha := ha.grows hq
 replace hb := hb.grows hq
 clear hq
 go_wp2_with fail
 refine (point_any 48000 _ _ [1, 2] _ hJ (by decide)).mono ?_
 rintro e w6 ⟨⟨v, rfl, A10, c10, A11, c11, A12, c12, rfl, hp3⟩, hq⟩
 replace hB := below_grows hB (Nat.le_refl _) hq
 replace hI := hI.grows hq
 replace hJ := hJ.grows hq
 replace ha := ha.grows hq
 replace hb := hb.grows hq
 replace hp2 := hp2.grows hq
 clear hq
 have hc : Bxs _ AnyB _ sC := bxs_lit2 hp2 hp3 trivial
 have hq := (Below.refl w6.heap.size w6).alloc (Nat.le_refl _) (Obj.cells #[.int .i64 (ptB 44100 [3]).k, .slice A7 (ptB 44100 [3]).r.length c7, .slice A8 (ptB 44100 [3]).m.length c8, .slice A9 (ptB 44100 [3]).s.length c9, .int .i64 (ptB 48000 [1, 2]).k, .slice A10 (ptB 48000 [1, 2]).r.length c10, .slice A11 (ptB 48000 [1, 2]).m.length c11, .slice A12 (ptB 48000 [1, 2]).s.length c12] 48)
 replace hB := below_grows hB (Nat.le_refl _) hq
 replace hI := hI.grows hq
 replace hJ := hJ.grows hq
 replace ha := ha.grows hq
 replace hb := hb.grows hq
 replace hp2 := hp2.grows hq
 replace hp3 := hp3.grows hq
 clear hq
 clear hp2
 clear hp3
 go_wp2_with fail
 generalize w6.heap.size = nw6 at *
 generalize World.alloc w6 _ = vw6 at *
 refine (point_any 44100 _ _ [1, 2] _ hJ (by decide)).mono ?_
 rintro e w7 ⟨⟨v, rfl, A13, c13, A14, c14, A15, c15, rfl, hp4⟩, hq⟩
 replace hB := below_grows hB (Nat.le_refl _) hq
 replace hI := hI.grows hq
 replace hJ := hJ.grows hq
 replace ha := ha.grows hq
 replace hb := hb.grows hq
 replace hc := hc.grows hq
 clear hq
 go_wp2_with fail
 refine (point_any 48000 _ _ [3] _ hI (by decide)).mono ?_
 rintro e w8 ⟨⟨v, rfl, A16, c16, A17, c17, A18, c18, rfl, hp5⟩, hq⟩
 replace hB := below_grows hB (Nat.le_refl _) hq
 replace hI := hI.grows hq
 replace hJ := hJ.grows hq
 replace ha := ha.grows hq
 replace hb := hb.grows hq
 replace hc := hc.grows hq
 replace hp4 := hp4.grows hq
 clear hq
 have hd : Bxs _ AnyB _ sD := bxs_lit2 hp4 hp5 trivial
 have hq := (Below.refl w8.heap.size w8).alloc (Nat.le_refl _) (Obj.cells #[.int .i64 (ptB 44100 [1, 2]).k, .slice A13 (ptB 44100 [1, 2]).r.length c13, .slice A14 (ptB 44100 [1, 2]).m.length c14, .slice A15 (ptB 44100 [1, 2]).s.length c15, .int .i64 (ptB 48000 [3]).k, .slice A16 (ptB 48000 [3]).r.length c16, .slice A17 (ptB 48000 [3]).m.length c17, .slice A18 (ptB 48000 [3]).s.length c18] 48)
 replace hB := below_grows hB (Nat.le_refl _) hq
 replace hI := hI.grows hq
 replace hJ := hJ.grows hq
 replace ha := ha.grows hq
 replace hb := hb.grows hq
 replace hc := hc.grows hq
 replace hp4 := hp4.grows hq
 replace hp5 := hp5.grows hq
 clear hq
 clear hp4
 clear hp5
 clear hI hJ
 go_wp2_with fail
 generalize w8.heap.size = nw8 at *
 generalize World.alloc w8 _ = vw8 at *
 have hcon := pbestl_any (want := zeroC) (I := none) (ci := 0) (c := 1) ha (by decide) (by decide) okA i64A Reads.none_ okc_zero
 rw [sane5] at hcon
 refine hcon.mono ?_
 rintro e w9 ⟨⟨v, rfl, A3, n3, e3, hn3, hx⟩, hq⟩
 clear hcon
 replace e3 : v = .agg #[.int .i64 2, .int .i64 44100, .slice A3 1 n3, .int .i64 64] := e3
 subst e3
 replace hx : InB w9 _ A3 [3] := hx
 replace hB := below_grows hB (Nat.le_refl _) hq
 replace ha := ha.grows hq
 replace hb := hb.grows hq
 replace hc := hc.grows hq
 replace hd := hd.grows hq
 clear hq
 go_wp2_with fail
 have k7 := Blk.new w9 27 #[.int .i64 2, .int .i64 44100, .slice A3 1 n3, .int .i64 64]
 have hq := (Below.refl w9.heap.size w9).alloc (Nat.le_refl _) (Obj.cells #[.int .i64 2, .int .i64 44100, .slice A3 1 n3, .int .i64 64] 27)
 replace hB := below_grows hB (Nat.le_refl _) hq
 replace ha := ha.grows hq
 replace hb := hb.grows hq
 replace hc := hc.grows hq
 replace hd := hd.grows hq
 replace hx := hx.grows hq
 clear hq
 have hcon := pvalidl_any _ 2 _ sC _ hc (by decide) okC
 rw [sane1] at hcon
 refine hcon.mono ?_
 rintro e w10 ⟨rfl, hq⟩
 clear hcon
 replace hB := below_grows hB (Nat.le_refl _) hq
 replace ha := ha.grows hq
 replace hb := hb.grows hq
 replace hc := hc.grows hq
 replace hd := hd.grows hq
 replace hx := hx.grows hq
 replace k7 := k7.grows hq
 clear hq
 go_wp2_with fail
 have hcon := blame_any (c := 1) (d := 1) ha hb (by decide) (by decide) (by decide) (by decide) okA okB
 rw [sane2] at hcon
 refine hcon.mono ?_
 rintro e w11 ⟨rfl, hq⟩
 clear hcon
 replace hB := below_grows hB (Nat.le_refl _) hq
 replace ha := ha.grows hq
 replace hb := hb.grows hq
 replace hc := hc.grows hq
 replace hd := hd.grows hq
 replace hx := hx.grows hq
 replace k7 := k7.grows hq
 clear hq
 go_wp2_with fail
 have hcon := blame_any (c := 2) (d := 2) hc hd (by decide) (by decide) (by decide) (by decide) okC okD
 rw [sane3] at hcon
 refine hcon.mono ?_
 rintro e w12 ⟨rfl, hq⟩
 clear hcon
 replace hB := below_grows hB (Nat.le_refl _) hq
 replace ha := ha.grows hq
 replace hb := hb.grows hq
 replace hc := hc.grows hq
 replace hd := hd.grows hq
 replace hx := hx.grows hq
 replace k7 := k7.grows hq
 clear hq
 go_wp2_with fail
 have hcon := blame_any (c := 1) (d := 2) ha hc (by decide) (by decide) (by decide) (by decide) okA okC
 rw [sane4] at hcon
 refine hcon.mono ?_
 rintro e w13 ⟨rfl, hq⟩
 clear hcon
 replace hB := below_grows hB (Nat.le_refl _) hq
 replace ha := ha.grows hq
 replace hb := hb.grows hq
 replace hc := hc.grows hq
 replace hd := hd.grows hq
 replace hx := hx.grows hq
 replace k7 := k7.grows hq
 clear hq
 have x7 := k7.cell
 have hf7 := k7.frozen
 go_wp2_with fail
 have hcon := phasl_any (x := sX) (I := A3) (ci := n3) (c := 1) ha (by decide) (by decide) okA (InB.ints hx) (by decide)
 rw [sane6] at hcon
 refine hcon.mono ?_
 rintro e w14 ⟨rfl, hq⟩
 clear hcon
 replace hB := below_grows hB (Nat.le_refl _) hq
 replace ha := ha.grows hq
 replace hb := hb.grows hq
 replace hc := hc.grows hq
 replace hd := hd.grows hq
 replace hx := hx.grows hq
 replace k7 := k7.grows hq
 clear hq
 go_wp2
 go_ret
 exact ⟨rfl, hB⟩
end Go.Proofs.YtnbdpnlepcjmmaaGreat

namespace Go.Proofs.YtnbdpnlepcjmmaaGreat
open Go.RowKit
structure Tot {α : Type} (f : α → α → Int) : Prop where
 anti : ∀ a b, f a b = -f b a
 trans : ∀ a b c, f a b ≤ 0 → f b c ≤ 0 → f a c ≤ 0
 bd : ∀ a b, -1 ≤ f a b ∧ f a b ≤ 1
theorem Tot.tri {α : Type} {f : α → α → Int} (h : Tot f) (a b c : α) : 0 < f a b ∨ 0 < f b c ∨ f a c ≤ 0 := by
 have t := h.trans a b c
 by_cases h1 : f a b ≤ 0
 ·by_cases h2 : f b c ≤ 0
  ·exact .inr (.inr (t h1 h2))
  ·exact .inr (.inl (by omega))
 ·exact .inl (by omega)
theorem Tot.or {α : Type} {f g : α → α → Int} (hf : Tot f) (hg : Tot g) : Tot fun a b => if f a b = 0 then g a b else f a b := by
 refine ⟨fun a b => ?_, fun a b c h1 h2 => ?_, fun a b => ?_⟩
 ·show (if f a b = 0 then g a b else f a b) = -(if f b a = 0 then g b a else f b a)
  have h1 := hf.anti a b
  have h2 := hg.anti a b
  split <;> split <;> omega
 ·replace h1 : (if f a b = 0 then g a b else f a b) ≤ 0 := h1
  replace h2 : (if f b c = 0 then g b c else f b c) ≤ 0 := h2
  show (if f a c = 0 then g a c else f a c) ≤ 0
  have k1 := hf.anti a b
  have k2 := hf.anti b c
  have k3 := hf.anti a c
  have t1 := hf.tri a b c
  have t2 := hf.tri c a b
  have t3 := hf.tri b c a
  have t4 := hg.tri a b c
  split at h1 <;> split at h2 <;> split <;> omega
 ·show -1 ≤ (if f a b = 0 then g a b else f a b) ∧ (if f a b = 0 then g a b else f a b) ≤ 1
  have h1 := hf.bd a b
  have h2 := hg.bd a b
  split <;> omega
theorem Tot.comap {α β : Type} {f : β → β → Int} (h : Tot f) (u : α → β) : Tot fun a b => f (u a) (u b) := ⟨fun _a _b => h.anti _ _, fun _a _b _c => h.trans _ _ _, fun _a _b => h.bd _ _⟩
theorem Tot.flip {α : Type} {f : α → α → Int} (h : Tot f) : Tot fun a b => f b a := ⟨fun _a _b => h.anti _ _, fun _a _b _c h1 h2 => h.trans _ _ _ h2 h1, fun _a _b => h.bd _ _⟩
theorem Tot.self {α : Type} {f : α → α → Int} (h : Tot f) (a : α) : f a a = 0 := by have := h.anti a a; omega
theorem cmpZ_spec (a b : Int) : (a < b ∧ cmpZ a b = -1) ∨ (a = b ∧ cmpZ a b = 0) ∨ (b < a ∧ cmpZ a b = 1) := by
 unfold cmpZ
 by_cases h1 : a < b
 ·rw [if_pos h1]; omega
 ·rw [if_neg h1]
  by_cases h2 : b < a
  ·rw [if_pos h2]; omega
  ·rw [if_neg h2]; omega
theorem tot_cmpZ : Tot cmpZ := by
 refine ⟨fun a b => ?_, fun a b c h1 h2 => ?_, fun a b => ?_⟩
 ·have := cmpZ_spec a b; have := cmpZ_spec b a; omega
 ·have := cmpZ_spec a b; have := cmpZ_spec b c; have := cmpZ_spec a c; omega
 ·have := cmpZ_spec a b; omega
theorem cmpZ_eq0 {a b : Int} : cmpZ a b = 0 ↔ a = b := by
 have := cmpZ_spec a b
 omega
theorem kindZ_spec (w a b : Int) : (a = b ∧ kindZ w a b = 0) ∨ (a ≠ b ∧ (a = w ∨ (b ≠ w ∧ b < a)) ∧ kindZ w a b = -1) ∨ (a ≠ b ∧ a ≠ w ∧ (b = w ∨ a < b) ∧ kindZ w a b = 1) := by
 unfold kindZ
 by_cases h1 : a = b
 ·rw [if_pos h1]; omega
 ·rw [if_neg h1]
  by_cases h2 : a = w ∨ (b ≠ w ∧ b < a)
  ·rw [if_pos h2]; omega
  ·rw [if_neg h2]; omega
theorem tot_kindZ (want : Int) : Tot (kindZ want) := by
 refine ⟨fun a b => ?_, fun a b c h1 h2 => ?_, fun a b => ?_⟩
 ·have := kindZ_spec want a b; have := kindZ_spec want b a; omega
 ·have := kindZ_spec want a b; have := kindZ_spec want b c; have := kindZ_spec want a c; omega
 ·have := kindZ_spec want a b; omega
theorem kindZ_zero {want a b : Int} : kindZ want a b = 0 ↔ a = b := by
 have := kindZ_spec want a b
 omega
theorem tot_closer (want : Int) : Tot (closerF want) := by
 have e : closerF want = fun a b => if cmpZ (farD a want) (farD b want) = 0 then cmpZ a b else cmpZ (farD a want) (farD b want) := by
  funext a b
  exact closer_eq want a b
 rw [e]
 exact Tot.or (tot_cmpZ.comap fun a => farD a want) tot_cmpZ
theorem closer_zero {want a b : Int} : closerF want a b = 0 ↔ a = b := by
 constructor
 ·intro h
  rw [closer_eq] at h
  split at h
  ·exact cmpZ_eq0.1 h
  ·omega
 ·intro h
  subst h
  exact (tot_closer want).self a
theorem tot_lex : Tot lexZ := by
 refine ⟨?_, ?_, ?_⟩
 ·intro a
  induction a with
  | nil => intro b; cases b <;> rfl
  | cons x a ih =>
   intro b
   cases b with
   | nil => rfl
   | cons y b =>
    show (if cmpZ x y = 0 then lexZ a b else cmpZ x y) = -(if cmpZ y x = 0 then lexZ b a else cmpZ y x)
    have h1 := tot_cmpZ.anti x y
    have h2 := ih b
    split <;> split <;> omega
 ·intro a
  induction a with
  | nil => intro b c _ _; cases c <;> (unfold lexZ; omega)
  | cons x a ih =>
   intro b c h1 h2
   cases b with
   | nil => replace h1 : (1 : Int) ≤ 0 := h1; omega
   | cons y b =>
    cases c with
    | nil => replace h2 : (1 : Int) ≤ 0 := h2; omega
    | cons z c =>
     replace h1 : (if cmpZ x y = 0 then lexZ a b else cmpZ x y) ≤ 0 := h1
     replace h2 : (if cmpZ y z = 0 then lexZ b c else cmpZ y z) ≤ 0 := h2
     show (if cmpZ x z = 0 then lexZ a c else cmpZ x z) ≤ 0
     have k1 := tot_cmpZ.anti x y
     have k2 := tot_cmpZ.anti y z
     have k3 := tot_cmpZ.anti x z
     have t1 := tot_cmpZ.tri x y z
     have t2 := tot_cmpZ.tri z x y
     have t3 := tot_cmpZ.tri y z x
     have t4 : 0 < lexZ a b ∨ 0 < lexZ b c ∨ lexZ a c ≤ 0 := by
      by_cases e1 : lexZ a b ≤ 0
      ·by_cases e2 : lexZ b c ≤ 0
       ·exact .inr (.inr (ih b c e1 e2))
       ·exact .inr (.inl (by omega))
      ·exact .inl (by omega)
     split at h1 <;> split at h2 <;> split <;> omega
 ·intro a
  induction a with
  | nil => intro b; cases b <;> (unfold lexZ; omega)
  | cons x a ih =>
   intro b
   cases b with
   | nil => unfold lexZ; omega
   | cons y b =>
    show -1 ≤ (if cmpZ x y = 0 then lexZ a b else cmpZ x y) ∧ (if cmpZ x y = 0 then lexZ a b else cmpZ x y) ≤ 1
    have h1 := tot_cmpZ.bd x y
    have h2 := ih b
    split <;> omega
theorem lex_zero {a b : List Int} : lexZ a b = 0 ↔ a = b := by
 constructor
 ·induction a generalizing b with
  | nil => intro h; cases b with
   | nil => rfl
   | cons y b => replace h : (-1 : Int) = 0 := h; omega
  | cons x a ih =>
   intro h
   cases b with
   | nil => replace h : (1 : Int) = 0 := h; omega
   | cons y b =>
    replace h : (if cmpZ x y = 0 then lexZ a b else cmpZ x y) = 0 := h
    split at h
    ·rename_i e; rw [cmpZ_eq0.1 e, ih h]
    ·omega
 ·intro h
  subst h
  exact tot_lex.self a
def rankM (want a : List Int) : Int := if a = want then 0 else 1
def mapsG (want a b : List Int) : Int := if cmpZ ((commonL want b).length : Int) ((commonL want a).length : Int) = 0 then (if cmpZ (a.length : Int) (b.length : Int) = 0 then lexZ a b else cmpZ (a.length : Int) (b.length : Int)) else cmpZ ((commonL want b).length : Int) ((commonL want a).length : Int)
theorem orZ_one (x : Int) : orZ [x] = x := by
 rw [orZ_cons]
 split
 ·rename_i h; rw [h]; rfl
 ·rfl
theorem maps_eq (want a b : List Int) : mapsF want a b = if cmpZ (rankM want a) (rankM want b) = 0 then mapsG want a b else cmpZ (rankM want a) (rankM want b) := by
 have e : orZ [cmpZ ((commonL want b).length : Int) ((commonL want a).length : Int), cmpZ (a.length : Int) (b.length : Int), lexZ a b] = mapsG want a b := by
  rw [orZ_cons, orZ_cons, orZ_one]
  rfl
 unfold mapsF
 rw [e]
 unfold rankM
 by_cases h1 : a = want <;> by_cases h2 : b = want <;> simp [h1, h2, cmpZ]
theorem tot_maps (want : List Int) : Tot (mapsF want) := by
 have e : mapsF want = fun a b => if cmpZ (rankM want a) (rankM want b) = 0 then mapsG want a b else cmpZ (rankM want a) (rankM want b) := by
  funext a b
  exact maps_eq want a b
 have e2 : Tot (mapsG want) := Tot.or (tot_cmpZ.comap fun a : List Int => ((commonL want a).length : Int)).flip (Tot.or (tot_cmpZ.comap fun a : List Int => (a.length : Int)) tot_lex)
 rw [e]
 exact Tot.or (tot_cmpZ.comap fun a => rankM want a) e2
theorem maps_zero {want a b : List Int} : mapsF want a b = 0 ↔ a = b := by
 constructor
 ·intro h
  rw [maps_eq] at h
  split at h
  ·unfold mapsG at h
   split at h
   ·split at h
    ·exact lex_zero.1 h
    ·omega
   ·omega
  ·omega
 ·intro h
  subst h
  exact (tot_maps want).self a
theorem cmp_eq (w a b : Ch) : cmpF w a b = if kindZ w.k a.k b.k = 0 then (if closerF w.r a.r b.r = 0 then (if mapsF w.m a.m b.m = 0 then closerF w.s a.s b.s else mapsF w.m a.m b.m) else closerF w.r a.r b.r) else kindZ w.k a.k b.k := by
 unfold cmpF cmpL
 rw [orZ_cons, orZ_cons, orZ_cons, orZ_one]
theorem tot_cmp (w : Ch) : Tot (cmpF w) := by
 have e : cmpF w = fun a b => if kindZ w.k a.k b.k = 0 then (if closerF w.r a.r b.r = 0 then (if mapsF w.m a.m b.m = 0 then closerF w.s a.s b.s else mapsF w.m a.m b.m) else closerF w.r a.r b.r) else kindZ w.k a.k b.k := by
  funext a b
  exact cmp_eq w a b
 rw [e]
 exact Tot.or ((tot_kindZ w.k).comap Ch.k) (Tot.or ((tot_closer w.r).comap Ch.r) (Tot.or ((tot_maps w.m).comap Ch.m) ((tot_closer w.s).comap Ch.s)))
theorem cmp_zero {w a b : Ch} : cmpF w a b = 0 ↔ a = b := by
 constructor
 ·intro h
  rw [cmp_eq] at h
  split at h
  ·rename_i h1
   split at h
   ·rename_i h2
    split at h
    ·rename_i h3
     have e1 := kindZ_zero.1 h1
     have e2 := closer_zero.1 h2
     have e3 := maps_zero.1 h3
     have e4 := closer_zero.1 h
     cases a
     cases b
     simp only at e1 e2 e3 e4
     rw [e1, e2, e3, e4]
    ·omega
   ·omega
  ·omega
 ·intro h
  subst h
  exact (tot_cmp w).self a
theorem kind_least (w b : Int) : kindZ w w b ≤ 0 := by
 have := kindZ_spec w w b
 omega
theorem closer_least (w b : Int) : closerF w w b ≤ 0 := by
 rw [closer_eq]
 have h1 : cmpZ (farD w w) (farD b w) ≤ 0 := by
  have e1 : farD w w = 0 := by unfold farD; rw [if_neg (by omega)]; omega
  have e2 : 0 ≤ farD b w := by unfold farD; split <;> omega
  have := cmpZ_spec (farD w w) (farD b w)
  omega
 split
 ·rename_i h
  have h2 := cmpZ_eq0.1 h
  have h3 : w = b := by
   unfold farD at h2
   split at h2 <;> split at h2 <;> omega
  rw [cmpZ_eq0.2 h3]
  omega
 ·exact h1
theorem maps_least (w b : List Int) : mapsF w w b ≤ 0 := by
 by_cases h : b = w
 ·subst h
  rw [maps_zero.2 rfl]
  omega
 ·rw [maps_eq]
  unfold rankM
  rw [if_pos rfl, if_neg h]
  simp [cmpZ]
theorem cmp_least (w b : Ch) : cmpF w w b ≤ 0 := by
 have h1 := kind_least w.k b.k
 have h2 := closer_least w.r b.r
 have h3 := maps_least w.m b.m
 have h4 := closer_least w.s b.s
 rw [cmp_eq]
 split
 ·split
  ·split <;> omega
  ·omega
 ·omega
end Go.Proofs.YtnbdpnlepcjmmaaGreat

namespace Go.Proofs.YtnbdpnlepcjmmaaGreat
open Go.RowKit
theorem kind_fin : ∀ b : Fin 256, 2 ≤ b.val → b.val % 2 = 0 → kindB (b.val : Int) ((Lib.bitLen b.val : Int) - 1) = true ∧ ∀ y : Fin 8, kindB (b.val : Int) (y.val : Int) = true → (y.val : Int) ≤ (Lib.bitLen b.val : Int) - 1 := by decide +kernel
theorem kindB_rng {b k : Int} (h : kindB b k = true) : 1 ≤ k ∧ k ≤ 7 := by
 unfold kindB at h
 rw [Bool.and_eq_true, Bool.and_eq_true, decide_eq_true_eq, decide_eq_true_eq] at h
 exact h.1
theorem topK_in {b : Int} (hb : I64 b) (h : kindsOk b = true) (w : Int) : kindB b (topK w b) = true := by
 obtain ⟨h1, h2, h3⟩ := kinds_range hb h
 unfold topK
 split
 ·assumption
 ·obtain ⟨n, rfl⟩ : ∃ n : Nat, b = (n : Int) := ⟨b.toNat, by omega⟩
  have := (kind_fin ⟨n, by omega⟩ (by show 2 ≤ n; omega) (by show n % 2 = 0; omega)).1
  exact this
theorem topK_least {b : Int} (hb : I64 b) (h : kindsOk b = true) (w y : Int) (hy : kindB b y = true) : kindZ w (topK w b) y ≤ 0 := by
 obtain ⟨h1, h2, h3⟩ := kinds_range hb h
 unfold topK
 split
 ·exact kind_least w y
 ·rename_i hw
  obtain ⟨n, rfl⟩ : ∃ n : Nat, b = (n : Int) := ⟨b.toNat, by omega⟩
  obtain ⟨r1, r2⟩ := kindB_rng hy
  obtain ⟨j, rfl⟩ : ∃ j : Nat, y = (j : Int) := ⟨y.toNat, by omega⟩
  obtain ⟨k1, k2⟩ := kind_fin ⟨n, by omega⟩ (by show 2 ≤ n; omega) (by show n % 2 = 0; omega)
  have k3 := k2 ⟨j, by omega⟩ hy
  replace k3 : (j : Int) ≤ (Lib.bitLen n : Int) - 1 := k3
  replace k1 : kindB (n : Int) ((Lib.bitLen n : Int) - 1) = true := k1
  have e1 : (j : Int) ≠ w := fun e => hw (e ▸ hy)
  have e2 : (Lib.bitLen n : Int) - 1 ≠ w := fun e => hw (e ▸ k1)
  show kindZ w ((Lib.bitLen n : Int) - 1) (j : Int) ≤ 0
  have := kindZ_spec w ((Lib.bitLen n : Int) - 1) (j : Int)
  omega
theorem clamp_near (lo hi n m : Int) (h1 : lo ≤ m) (h2 : m ≤ hi) : farD (max lo (min hi n)) n ≤ farD m n ∧ (farD (max lo (min hi n)) n = farD m n → max lo (min hi n) ≤ m) := by
 unfold farD
 split <;> split <;> omega
theorem near_key (n : Int) : ∀ (l : List Sp) (p : Int) (E : Int → Prop), Canon l → E p → (∀ m, E m → farD p n ≤ farD m n ∧ (farD p n = farD m n → p ≤ m)) → (∀ m, ∀ x ∈ l, E m → m < x.1) →
 (E (l.foldl (nearS n) (p, true)).1 ∨ ∃ x ∈ l, x.1 ≤ (l.foldl (nearS n) (p, true)).1 ∧ (l.foldl (nearS n) (p, true)).1 ≤ x.2) ∧ ∀ m, (E m ∨ ∃ x ∈ l, x.1 ≤ m ∧ m ≤ x.2) → farD (l.foldl (nearS n) (p, true)).1 n ≤ farD m n ∧ (farD (l.foldl (nearS n) (p, true)).1 n = farD m n → (l.foldl (nearS n) (p, true)).1 ≤ m) := by
 intro l
 induction l with
 | nil => exact fun p E _ hp hm _ => ⟨.inl hp, fun m h => h.elim (hm m) (fun ⟨x, hx, _⟩ => by cases hx)⟩
 | cons x l ih =>
  intro p E hc hp hm hlt
  obtain ⟨hx, hgap, hcl⟩ := canon_cons.1 hc
  have hK1 : x.1 ≤ max x.1 (min x.2 n) := by omega
  have hK2 : max x.1 (min x.2 n) ≤ x.2 := by omega
  have hstep : ∃ q, nearS n (p, true) x = (q, true) ∧ ((q = max x.1 (min x.2 n) ∧ farD q n < farD p n) ∨ (q = p ∧ farD p n ≤ farD (max x.1 (min x.2 n)) n)) := by
   by_cases h : farD (max x.1 (min x.2 n)) n < farD p n
   ·exact ⟨_, if_pos (.inr h), .inl ⟨rfl, h⟩⟩
   ·exact ⟨p, if_neg (fun hh => hh.elim (fun e => by cases e) h), .inr ⟨rfl, by omega⟩⟩
  obtain ⟨q, hq, hcase⟩ := hstep
  have hpx := hlt p x (List.mem_cons_self ..) hp
  have e : (x :: l).foldl (nearS n) (p, true) = l.foldl (nearS n) (q, true) := by rw [List.foldl_cons, hq]
  rw [e]
  have hmain := ih q (fun m => E m ∨ (x.1 ≤ m ∧ m ≤ x.2)) hcl ?_ ?_ ?_
  ·refine ⟨?_, fun m h => hmain.2 m ?_⟩
   ·rcases hmain.1 with (h | h) | ⟨z, hz, h⟩
    ·exact .inl h
    ·exact .inr ⟨x, List.mem_cons_self .., h⟩
    ·exact .inr ⟨z, List.mem_cons_of_mem _ hz, h⟩
   ·rcases h with h | ⟨z, hz, h⟩
    ·exact .inl (.inl h)
    ·rcases List.mem_cons.1 hz with rfl | hz
     ·exact .inl (.inr h)
     ·exact .inr ⟨z, hz, h⟩
  ·rcases hcase with ⟨rfl, _⟩ | ⟨rfl, _⟩
   ·exact .inr ⟨hK1, hK2⟩
   ·exact .inl hp
  ·intro m h
   rcases h with h | ⟨h1, h2⟩
   ·have h9 := hm m h
    rcases hcase with ⟨e1, h3⟩ | ⟨e1, h3⟩
    ·omega
    ·rw [e1]; exact h9
   ·have h9 := clamp_near x.1 x.2 n m h1 h2
    rcases hcase with ⟨e1, h3⟩ | ⟨e1, h3⟩
    ·rw [e1]; exact h9
    ·rw [e1]; omega
  ·intro m z hz h
   have hg := hgap z hz
   rcases h with h | ⟨h1, h2⟩
   ·have := hlt m x (List.mem_cons_self ..) h; omega
   ·omega
theorem hasF_mem {l : List Sp} (h : okS l = true) {m : Int} : hasF l m = true ↔ ∃ x ∈ l, x.1 ≤ m ∧ m ≤ x.2 := by
 unfold hasF spansF
 rw [if_pos h, List.any_eq_true]
 constructor
 ·rintro ⟨x, hx, hp⟩
  unfold hasP at hp
  rw [Bool.and_eq_true, decide_eq_true_eq, decide_eq_true_eq] at hp
  exact ⟨x, hx, hp⟩
 ·rintro ⟨x, hx, hp⟩
  refine ⟨x, hx, ?_⟩
  unfold hasP
  rw [Bool.and_eq_true, decide_eq_true_eq, decide_eq_true_eq]
  exact hp
theorem near_is {l : List Sp} (h : okS l = true) (hl : 0 < l.length) (n : Int) : hasF l (nearF l n).1 = true ∧ ∀ m, hasF l m = true → closerF n (nearF l n).1 m ≤ 0 := by
 obtain ⟨-, hc, -⟩ := (okS_iff l).1 h
 have hs : spansF l = l := if_pos h
 cases l with
 | nil => simp at hl
 | cons x l =>
  obtain ⟨hx, hgap, hcl⟩ := canon_cons.1 hc
  have e : nearF (x :: l) n = l.foldl (nearS n) (max x.1 (min x.2 n), true) := by
   unfold nearF
   rw [hs, List.foldl_cons]
   congr 1
  obtain ⟨k1, k2⟩ := near_key n l (max x.1 (min x.2 n)) (fun m => x.1 ≤ m ∧ m ≤ x.2) hcl (by omega) (fun m hm => clamp_near x.1 x.2 n m hm.1 hm.2) (fun m z hz hm => by have := hgap z hz; omega)
  rw [e]
  refine ⟨(hasF_mem h).2 ?_, fun m hm => ?_⟩
  ·rcases k1 with k1 | ⟨z, hz, k1⟩
   ·exact ⟨x, List.mem_cons_self .., k1⟩
   ·exact ⟨z, List.mem_cons_of_mem _ hz, k1⟩
  ·obtain ⟨z, hz, hp⟩ := (hasF_mem h).1 hm
   have k3 := k2 m (by
    rcases List.mem_cons.1 hz with rfl | hz
    ·exact .inl hp
    ·exact .inr ⟨z, hz, hp⟩)
   generalize (l.foldl (nearS n) (max x.1 (min x.2 n), true)).1 = p at *
   rw [closer_eq]
   have s1 := cmpZ_spec (farD p n) (farD m n)
   have s2 := cmpZ_spec p m
   split <;> omega
theorem minUp_is (w : List Int) (ms : List (List Int)) : ∀ n, 1 ≤ n → n ≤ ms.length → minUp w ms n ∈ ms ∧ ∀ i, i < n → mapsF w (minUp w ms n) (ms.getD i []) ≤ 0 := by
 intro n
 induction n with
 | zero => intro h; omega
 | succ n ih =>
  intro _ hn
  have hmem : ms.getD n [] ∈ ms := by
   rw [List.getD_eq_getElem?_getD, List.getElem?_eq_getElem (by omega)]
   exact List.getElem_mem (by omega)
  have hself := (tot_maps w).self (ms.getD n [])
  by_cases h0 : n = 0
  ·have e : minUp w ms (n + 1) = ms.getD n [] := if_pos (.inl h0)
   rw [e]
   refine ⟨hmem, fun i hi => ?_⟩
   obtain rfl : i = n := by omega
   omega
  ·obtain ⟨k1, k2⟩ := ih (by omega) (by omega)
   by_cases h1 : mapsF w (ms.getD n []) (minUp w ms n) < 0
   ·have e : minUp w ms (n + 1) = ms.getD n [] := if_pos (.inr h1)
    rw [e]
    refine ⟨hmem, fun i hi => ?_⟩
    by_cases hi2 : i = n
    ·subst hi2; omega
    ·exact (tot_maps w).trans _ _ _ (by omega) (k2 i (by omega))
   ·have e : minUp w ms (n + 1) = minUp w ms n := if_neg (fun h => h.elim h0 h1)
    rw [e]
    refine ⟨k1, fun i hi => ?_⟩
    by_cases hi2 : i = n
    ·subst hi2
     have := (tot_maps w).anti (ms.getD i []) (minUp w ms i)
     omega
    ·exact k2 i (by omega)
theorem minUp_least {w : List Int} {ms : List (List Int)} (h : 1 ≤ ms.length) {y : List Int} (hy : y ∈ ms) : mapsF w (minUp w ms ms.length) y ≤ 0 := by
 obtain ⟨i, hi, rfl⟩ := List.getElem_of_mem hy
 have := (minUp_is w ms ms.length h (Nat.le_refl _)).2 i hi
 rw [List.getD_eq_getElem?_getD, List.getElem?_eq_getElem hi] at this
 exact this
theorem fineB_parts {b : Bx} (h : fineB b = true) : kindsOk b.k = true ∧ (okS b.r = true ∧ 0 < b.r.length) ∧ (okS b.s = true ∧ 0 < b.s.length) ∧ 1 ≤ b.m.length := by
 unfold fineB withinS mapsOk at h
 simp only [Bool.and_eq_true, decide_eq_true_eq] at h
 obtain ⟨⟨⟨h1, ⟨⟨h2, h3⟩, h4⟩, h5⟩, ⟨⟨h6, h7⟩, h8⟩, h9⟩, ⟨h10, h11⟩, h12⟩ := h
 exact ⟨h1, ⟨h2, h3⟩, ⟨h6, h7⟩, h10⟩
theorem top_in {b : Bx} (h : fineB b = true) (hk : I64 b.k) (w : Ch) : inB b (topP w b) = true := by
 obtain ⟨h1, ⟨h2, h3⟩, ⟨h4, h5⟩, h6⟩ := fineB_parts h
 exact inB_yes (topK_in hk h1 w.k) (near_is h2 h3 w.r).1 (minUp_is w.m b.m b.m.length h6 (Nat.le_refl _)).1 (near_is h4 h5 w.s).1
theorem top_least {b : Bx} (h : fineB b = true) (hk : I64 b.k) (w y : Ch) (hy : inB b y = true) : cmpF w (topP w b) y ≤ 0 := by
 obtain ⟨h1, ⟨h2, h3⟩, ⟨h4, h5⟩, h6⟩ := fineB_parts h
 unfold inB at hy
 simp only [Bool.and_eq_true, decide_eq_true_eq] at hy
 obtain ⟨⟨⟨y1, y2⟩, y3⟩, y4⟩ := hy
 have k1 : kindZ w.k (topP w b).k y.k ≤ 0 := topK_least hk h1 w.k y.k y1
 have k2 : closerF w.r (topP w b).r y.r ≤ 0 := (near_is h2 h3 w.r).2 y.r y2
 have k3 : mapsF w.m (topP w b).m y.m ≤ 0 := minUp_least h6 y3
 have k4 : closerF w.s (topP w b).s y.s ≤ 0 := (near_is h4 h5 w.s).2 y.s y4
 rw [cmp_eq]
 split
 ·split
  ·split <;> omega
  ·omega
 ·omega
theorem boxes_fine {l : List Bx} (h : Fine l) (hl : l.length ≤ 64) : boxesF l = l := by
 refine if_pos ?_
 unfold validL
 rw [Bool.and_eq_true, decide_eq_true_eq, List.all_eq_true]
 exact ⟨hl, fun b hb => (h b hb).1⟩
theorem fold_best (w : Ch) (f : Bx → Ch) : ∀ (l : List Bx) (s : Ch × Bool), ((s.2 = true ∨ l ≠ []) → (l.foldl (bestStep f w) s).2 = true) ∧ (s.2 = true → cmpF w (l.foldl (bestStep f w) s).1 s.1 ≤ 0) ∧ (∀ b ∈ l, cmpF w (l.foldl (bestStep f w) s).1 (f b) ≤ 0) ∧ ((s.2 = true ∧ (l.foldl (bestStep f w) s).1 = s.1) ∨ l = [] ∨ ∃ b ∈ l, (l.foldl (bestStep f w) s).1 = f b) := by
 intro l
 induction l with
 | nil => exact fun s => ⟨fun h => h.elim id (fun h => absurd rfl h), fun _ => Int.le_of_eq ((tot_cmp w).self s.1), (fun b hb => by cases hb), Or.inr (Or.inl rfl)⟩
 | cons b l ih =>
  intro s
  obtain ⟨i1, i2, i3, i4⟩ := ih (bestStep f w s b)
  have i5 : l = [] → l.foldl (bestStep f w) (bestStep f w s b) = bestStep f w s b := fun e => by rw [e]; rfl
  rw [List.foldl_cons]
  generalize l.foldl (bestStep f w) (bestStep f w s b) = r at *
  have hstep : (bestStep f w s b).2 = true ∧ cmpF w (bestStep f w s b).1 (f b) ≤ 0 ∧ (s.2 = true → cmpF w (bestStep f w s b).1 s.1 ≤ 0) ∧ ((s.2 = true ∧ (bestStep f w s b).1 = s.1) ∨ (bestStep f w s b).1 = f b) := by
   unfold bestStep
   have hself := (tot_cmp w).self (f b)
   by_cases h : s.2 = false ∨ cmpF w (f b) s.1 < 0
   ·rw [if_pos h]
    refine ⟨rfl, by show cmpF w (f b) (f b) ≤ 0; omega, fun hs => ?_, .inr rfl⟩
    rcases h with h | h
    ·rw [hs] at h; cases h
    ·exact Int.le_of_lt h
   ·rw [if_neg h]
    have hs : s.2 = true := by
     cases e : s.2
     ·exact absurd (.inl e) h
     ·rfl
    refine ⟨hs, ?_, fun _ => ?_, .inl ⟨hs, rfl⟩⟩
    ·have h2 : ¬ cmpF w (f b) s.1 < 0 := fun hh => h (.inr hh)
     have := (tot_cmp w).anti (f b) s.1
     omega
    ·have := (tot_cmp w).self s.1
     omega
  obtain ⟨t1, t2, t3, t4⟩ := hstep
  have i2' := i2 t1
  refine ⟨fun _ => i1 (.inl t1), fun hs => (tot_cmp w).trans _ _ _ i2' (t3 hs), fun c hc => ?_, ?_⟩
  ·rcases List.mem_cons.1 hc with rfl | hc
   ·exact (tot_cmp w).trans _ _ _ i2' t2
   ·exact i3 c hc
  ·rcases i4 with ⟨_, i4⟩ | i4 | ⟨c, hc, i4⟩
   ·rcases t4 with ⟨hs, t4⟩ | t4
    ·exact .inl ⟨hs, i4.trans t4⟩
    ·exact .inr (.inr ⟨b, List.mem_cons_self .., i4.trans t4⟩)
   ·rcases t4 with ⟨hs, t4⟩ | t4
    ·exact .inl ⟨hs, by rw [i5 i4]; exact t4⟩
    ·exact .inr (.inr ⟨b, List.mem_cons_self .., by rw [i5 i4]; exact t4⟩)
   ·exact .inr (.inr ⟨c, List.mem_cons_of_mem _ hc, i4⟩)
theorem best_empty (w : Ch) : (bestL (topP w) w []).2 = false := by
 have : boxesF [] = [] := by unfold boxesF; split <;> rfl
 unfold bestL
 rw [this]
 rfl
theorem best_ok {w : Ch} {l : List Bx} (h : Fine l) (hl : l.length ≤ 64) (hn : l ≠ []) : (bestL (topP w) w l).2 = true ∧ hasL l (bestL (topP w) w l).1 = true ∧ ∀ y, hasL l y = true → cmpF w (bestL (topP w) w l).1 y ≤ 0 := by
 have hb := boxes_fine h hl
 obtain ⟨k1, -, k3, k4⟩ := fold_best w (topP w) l (zeroC, false)
 unfold bestL hasL
 rw [hb]
 generalize l.foldl (bestStep (topP w) w) (zeroC, false) = r at *
 refine ⟨k1 (.inr hn), ?_, fun y hy => ?_⟩
 ·rcases k4 with ⟨k4, _⟩ | k4 | ⟨b, hbm, k4⟩
  ·cases k4
  ·exact absurd k4 hn
  ·rw [List.any_eq_true, k4]
   exact ⟨b, hbm, top_in (h b hbm).1 (h b hbm).2.2.1 w⟩
 ·obtain ⟨b, hbm, hy⟩ := List.any_eq_true.1 hy
  exact (tot_cmp w).trans _ _ _ (k3 b hbm) (top_least (h b hbm).1 (h b hbm).2.2.1 w y hy)
theorem best_want {w : Ch} {l : List Bx} (h : Fine l) (hl : l.length ≤ 64) (hn : l ≠ []) (hw : hasL l w = true) : (bestL (topP w) w l).1 = w := by
 have k1 := (best_ok (w := w) h hl hn).2.2 w hw
 have k2 := cmp_least w (bestL (topP w) w l).1
 have k3 := (tot_cmp w).anti w (bestL (topP w) w l).1
 exact cmp_zero.1 (show cmpF w _ w = 0 by omega)
theorem best_app {w : Ch} {l m : List Bx} (h : Fine l) (h2 : Fine m) (hl : l.length + m.length ≤ 64) (hn : l ≠ []) : (bestL (topP w) w (l ++ m)).2 = true ∧ cmpF w (bestL (topP w) w (l ++ m)).1 (bestL (topP w) w l).1 ≤ 0 := by
 have hf := fine_app h h2
 have hlen : (l ++ m).length ≤ 64 := by rw [List.length_append]; exact hl
 have k := best_ok (w := w) hf hlen (by simp [hn])
 have k1 := (best_ok (w := w) h (by omega) hn).2.1
 refine ⟨k.1, k.2.2 _ ?_⟩
 unfold hasL at k1 ⊢
 rw [boxes_fine hf hlen]
 rw [boxes_fine h (by omega)] at k1
 rw [List.any_append, k1]
 rfl
end Go.Proofs.YtnbdpnlepcjmmaaGreat

namespace Go.Proofs.YtnbdpnlepcjmmaaGreat
open Go.RowKit
def FineL (l : List Sp) : Prop := ∀ x ∈ l, fineS x = true
theorem ok_fine {l : List Sp} (h : okS l = true) : FineL l := ((okS_iff l).1 h).1
theorem ok_canon {l : List Sp} (h : okS l = true) : Canon l := ((okS_iff l).1 h).2.1
theorem ok_spans {l : List Sp} (h : okS l = true) : spansF l = l := if_pos h
theorem inter_fine {a b : List Sp} (ha : FineL a) : FineL (interF a b) := by
  intro z hz
  unfold interF at hz
  obtain ⟨x, hx, hz⟩ := List.mem_flatMap.1 hz
  obtain ⟨y, hy, hz⟩ := List.mem_flatMap.1 hz
  unfold cutS at hz
  have hf := (fineS_iff x).1 (ha x hx)
  split at hz
  · simp only [List.mem_cons, List.not_mem_nil, or_false] at hz
    subst hz
    rw [fineS_iff]
    simp only []
    omega
  · cases hz
/-- A span whose numbers are all in a set lies inside one of its spans. -/
theorem span_in {l : List Sp} (hl : Canon l) {lo hi : Int} (h0 : lo ≤ hi) (h : ∀ n, lo ≤ n → n ≤ hi → Mem l n) : ∃ y ∈ l, y.1 ≤ lo ∧ hi ≤ y.2 := by
  obtain ⟨y, hy, h1, h2⟩ := h lo (Int.le_refl _) h0
  refine ⟨y, hy, h1, ?_⟩
  apply Classical.byContradiction
  intro hn
  obtain ⟨z, hz, h3, h4⟩ := h (y.2 + 1) (by omega) (by omega)
  have hne : y ≠ z := by rintro rfl; omega
  have hp := hl.2
  have key : ∀ (l : List Sp), l.Pairwise (fun x y => x.2 + 1 < y.1) → y ∈ l → z ∈ l → y.2 + 1 < z.1 ∨ z.2 + 1 < y.1 := by
    intro l
    induction l with
    | nil => intro _ h; cases h
    | cons x l ih =>
      intro hp hy hz
      obtain ⟨hx, hp⟩ := List.pairwise_cons.1 hp
      rcases List.mem_cons.1 hy with ey | hy
      · rcases List.mem_cons.1 hz with ez | hz
        · exact absurd (ey.trans ez.symm) hne
        · rw [ey]; exact .inl (hx z hz)
      · rcases List.mem_cons.1 hz with ez | hz
        · rw [ez]; exact .inr (hx y hy)
        · exact ih hp hy hz
  have := key l hp hy hz
  omega
theorem inside_of {a b : List Sp} (ha : okS a = true) (hb : okS b = true) (h : ∀ n, Mem a n → Mem b n) : insideF a b = true := by
  unfold insideF
  rw [ok_spans ha, ok_spans hb, List.all_eq_true]
  intro z hz
  obtain ⟨y, hy, h1, h2⟩ := span_in (ok_canon hb) ((ok_canon ha).1 z hz) fun n h1 h2 => h n ⟨z, hz, h1, h2⟩
  rw [List.any_eq_true]
  exact ⟨y, hy, by simp [insP, h1, h2]⟩
theorem same_of {a b : List Sp} (ha : Canon a) (hb : Canon b) (h : ∀ n, Mem a n ↔ Mem b n) : a = b := canon_unique ha hb h
theorem hasF_iff {l : List Sp} (h : okS l = true) (n : Int) : hasF l n = true ↔ Mem l n := by
  unfold hasF
  rw [show spansF l = l from if_pos h, List.any_eq_true]
  unfold Mem hasP
  simp
/-- Kinds as bits. -/
def KR (k : Int) : Prop := 0 ≤ k ∧ k ≤ 255
theorem kr_of {k : Int} (hk : I64 k) (h : kindsOk k = true) : KR k := by
  have := kinds_range hk h
  unfold KR
  omega
theorem ofInt_nat {n : Nat} (h : n < 256) : (BitVec.ofInt 64 (n : Int)).toNat = n := by rw [BitVec.toNat_ofInt]; omega
theorem and_nat {n m : Nat} (hn : n < 256) (hm : m < 256) : bits .and .i64 (n : Int) (m : Int) = ((n &&& m : Nat) : Int) := by
  show IntKind.i64.wrap (((BitVec.ofInt 64 (n : Int)) &&& (BitVec.ofInt 64 (m : Int))).toNat : Int) = _
  rw [BitVec.toNat_and, ofInt_nat hn, ofInt_nat hm]
  have : n &&& m ≤ n := Nat.and_le_left
  exact IntWalk.i64_in _ (by omega)
theorem wrap_zero {n : Nat} (h : n < 18446744073709551616) : IntKind.i64.wrap (n : Int) = 0 ↔ n = 0 := by
  rw [IntWalk.i64_left]
  unfold wrap64
  omega
theorem andNot_iff (a b : Int) : bits .andNot .i64 a b = 0 ↔ BitVec.ofInt 64 a &&& ~~~BitVec.ofInt 64 b = 0#64 := by
  have h : bits .andNot .i64 a b = IntKind.i64.wrap (((BitVec.ofInt 64 a &&& ~~~BitVec.ofInt 64 b).toNat : Nat) : Int) := rfl
  rw [h, wrap_zero (BitVec.isLt _)]
  constructor
  · exact fun h => BitVec.eq_of_toNat_eq (by simpa using h)
  · exact fun h => by rw [h]; rfl
theorem sub_trans {a b c : BitVec 64} (h1 : a &&& ~~~b = 0#64) (h2 : b &&& ~~~c = 0#64) : a &&& ~~~c = 0#64 := by
  ext i hi
  have e1 := congrArg (fun x : BitVec 64 => x[i]) h1
  have e2 := congrArg (fun x : BitVec 64 => x[i]) h2
  simp only [BitVec.getElem_and, BitVec.getElem_not, BitVec.getElem_zero] at *
  revert e1 e2
  cases a[i] <;> cases b[i] <;> cases c[i] <;> simp
theorem sub_and {a b : BitVec 64} (h : a &&& ~~~b = 0#64) : a &&& b = a := by
  ext i hi
  have e1 := congrArg (fun x : BitVec 64 => x[i]) h
  simp only [BitVec.getElem_and, BitVec.getElem_not, BitVec.getElem_zero] at *
  revert e1
  cases a[i] <;> cases b[i] <;> simp
theorem sub_self (a : BitVec 64) : a &&& ~~~a = 0#64 := by
  ext i hi
  simp only [BitVec.getElem_and, BitVec.getElem_not, BitVec.getElem_zero]
  cases a[i] <;> rfl
theorem andNot_self (a : Int) : bits .andNot .i64 a a = 0 := (andNot_iff a a).2 (sub_self _)
theorem andNot_trans {a b c : Int} (h1 : bits .andNot .i64 a b = 0) (h2 : bits .andNot .i64 b c = 0) : bits .andNot .i64 a c = 0 := (andNot_iff a c).2 (sub_trans ((andNot_iff a b).1 h1) ((andNot_iff b c).1 h2))
theorem andNot_nat {n m : Nat} (hn : n < 256) (hm : m < 256) (h : bits .andNot .i64 (n : Int) (m : Int) = 0) : n &&& m = n := by
  have h1 := congrArg BitVec.toNat (sub_and ((andNot_iff _ _).1 h))
  rw [BitVec.toNat_and, ofInt_nat hn, ofInt_nat hm] at h1
  exact h1
theorem kind_bit_ : ∀ n : Fin 256, ∀ k : Fin 8, kindB (n.val : Int) (k.val : Int) = (decide (1 ≤ k.val) && n.val.testBit k.val) := by decide +kernel
theorem kind_bit {n k : Nat} (hn : n < 256) (hk : k < 8) : kindB (n : Int) (k : Int) = (decide (1 ≤ k) && n.testBit k) := kind_bit_ ⟨n, hn⟩ ⟨k, hk⟩
theorem kind_out {b k : Int} (h : ¬ (1 ≤ k ∧ k ≤ 7)) : kindB b k = false := by
  cases e : kindB b k
  · rfl
  · exact absurd (kindB_rng e) h
theorem kind_and {a b : Int} (ha : KR a) (hb : KR b) (k : Int) : kindB (bits .and .i64 a b) k = (kindB a k && kindB b k) := by
  by_cases hk : 1 ≤ k ∧ k ≤ 7
  · unfold KR at ha hb
    obtain ⟨n, rfl⟩ : ∃ n : Nat, a = (n : Int) := ⟨a.toNat, by omega⟩
    obtain ⟨m, rfl⟩ : ∃ m : Nat, b = (m : Int) := ⟨b.toNat, by omega⟩
    obtain ⟨j, rfl⟩ : ∃ j : Nat, k = (j : Int) := ⟨k.toNat, by omega⟩
    have h1 : n &&& m ≤ n := Nat.and_le_left
    rw [and_nat (by omega) (by omega), kind_bit (by omega) (by omega), kind_bit (by omega) (by omega), kind_bit (by omega) (by omega), Nat.testBit_and]
    cases decide (1 ≤ j) <;> simp
  · rw [kind_out hk, kind_out hk]
    rfl
theorem kr_and {a b : Int} (ha : KR a) (hb : KR b) : KR (bits .and .i64 a b) := by
  unfold KR at *
  obtain ⟨n, rfl⟩ : ∃ n : Nat, a = (n : Int) := ⟨a.toNat, by omega⟩
  obtain ⟨m, rfl⟩ : ∃ m : Nat, b = (m : Int) := ⟨b.toNat, by omega⟩
  have h1 : n &&& m ≤ n := Nat.and_le_left
  rw [and_nat (by omega) (by omega)]
  omega
theorem kind_sub {a b : Int} (ha : KR a) (hb : KR b) (h : bits .andNot .i64 a b = 0) {k : Int} (hk : kindB a k = true) : kindB b k = true := by
  have hr := kindB_rng hk
  unfold KR at ha hb
  obtain ⟨n, rfl⟩ : ∃ n : Nat, a = (n : Int) := ⟨a.toNat, by omega⟩
  obtain ⟨m, rfl⟩ : ∃ m : Nat, b = (m : Int) := ⟨b.toNat, by omega⟩
  obtain ⟨j, rfl⟩ : ∃ j : Nat, k = (j : Int) := ⟨k.toNat, by omega⟩
  have e := andNot_nat (by omega) (by omega) h
  rw [kind_bit (by omega) (by omega), Bool.and_eq_true] at *
  rw [← e, Nat.testBit_and, Bool.and_eq_true] at hk
  exact ⟨hk.1, hk.2.2⟩
theorem kinds_and {a b : Int} (ha : I64 a) (hb : I64 b) (h1 : kindsOk a = true) (h2 : kindsOk b = true) (hn : bits .and .i64 a b ≠ 0) : kindsOk (bits .and .i64 a b) = true ∧ I64 (bits .and .i64 a b) := by
  obtain ⟨a1, a2, a3⟩ := kinds_range ha h1
  obtain ⟨b1, b2, b3⟩ := kinds_range hb h2
  obtain ⟨n, rfl⟩ : ∃ n : Nat, a = (n : Int) := ⟨a.toNat, by omega⟩
  obtain ⟨m, rfl⟩ : ∃ m : Nat, b = (m : Int) := ⟨b.toNat, by omega⟩
  have h3 : n &&& m ≤ n := Nat.and_le_left
  rw [and_nat (by omega) (by omega)] at *
  have h4 := Nat.testBit_and n m 0
  rw [Nat.testBit_zero, Nat.testBit_zero, Nat.testBit_zero, decide_eq_false (show ¬ n % 2 = 1 by omega), Bool.false_and, decide_eq_false_iff_not] at h4
  refine ⟨kinds_of ?_, ?_⟩
  · unfold KP
    omega
  · unfold I64
    omega
/-- Sets within others. -/
theorem insF_iff {l m : List Sp} : insideF l m = true ↔ ∀ z ∈ spansF l, ∃ x ∈ spansF m, x.1 ≤ z.1 ∧ z.2 ≤ x.2 := by
  unfold insideF
  rw [List.all_eq_true]
  constructor
  · intro h z hz
    obtain ⟨x, hx, hp⟩ := List.any_eq_true.1 (h z hz)
    unfold insP at hp
    rw [Bool.and_eq_true, decide_eq_true_eq, decide_eq_true_eq] at hp
    exact ⟨x, hx, hp⟩
  · intro h z hz
    obtain ⟨x, hx, h1, h2⟩ := h z hz
    exact List.any_eq_true.2 ⟨x, hx, by unfold insP; rw [decide_eq_true h1, decide_eq_true h2]; rfl⟩
theorem insF_self (l : List Sp) : insideF l l = true := insF_iff.2 fun z hz => ⟨z, hz, Int.le_refl _, Int.le_refl _⟩
theorem insF_trans {a b c : List Sp} (h1 : insideF a b = true) (h2 : insideF b c = true) : insideF a c = true := by
  refine insF_iff.2 fun z hz => ?_
  obtain ⟨x, hx, e1, e2⟩ := insF_iff.1 h1 z hz
  obtain ⟨y, hy, e3, e4⟩ := insF_iff.1 h2 x hx
  exact ⟨y, hy, by omega, by omega⟩
theorem insF_has {a b : List Sp} (h : insideF a b = true) {n : Int} (hn : hasF a n = true) : hasF b n = true := by
  unfold hasF at *
  obtain ⟨z, hz, hp⟩ := List.any_eq_true.1 hn
  obtain ⟨x, hx, e1, e2⟩ := insF_iff.1 h z hz
  unfold hasP at *
  rw [Bool.and_eq_true, decide_eq_true_eq, decide_eq_true_eq] at hp
  exact List.any_eq_true.2 ⟨x, hx, by rw [Bool.and_eq_true, decide_eq_true_eq, decide_eq_true_eq]; omega⟩
theorem inter_ok2 {a b : List Sp} (ha : okS a = true) (hb : okS b = true) (h : (interF a b).length ≤ 64) : okS (interF a b) = true :=
  (okS_iff _).2 ⟨inter_fine (ok_fine ha), (inter_form a b (ok_canon ha) (ok_canon hb)).1, h⟩
theorem has_inter2 {a b : List Sp} (ha : okS a = true) (hb : okS b = true) (h : (interF a b).length ≤ 64) (n : Int) : hasF (interF a b) n = (hasF a n && hasF b n) := by
  rw [Bool.eq_iff_iff, Bool.and_eq_true, hasF_iff (inter_ok2 ha hb h), hasF_iff ha, hasF_iff hb, mem_inter]
theorem inter_comm2 {a b : List Sp} (ha : okS a = true) (hb : okS b = true) : interF a b = interF b a :=
  same_of (inter_form a b (ok_canon ha) (ok_canon hb)).1 (inter_form b a (ok_canon hb) (ok_canon ha)).1 fun n => by rw [mem_inter, mem_inter]; exact And.comm
theorem inter_self2 {a : List Sp} (ha : okS a = true) : interF a a = a :=
  same_of (inter_form a a (ok_canon ha) (ok_canon ha)).1 (ok_canon ha) fun n => by rw [mem_inter]; exact and_self_iff
theorem within_iff {l : List Sp} {lo hi : Int} : withinS l lo hi = true ↔ okS l = true ∧ 0 < l.length ∧ ∀ x ∈ l, lo ≤ x.1 ∧ x.2 ≤ hi := by
  unfold withinS
  rw [Bool.and_eq_true, Bool.and_eq_true, Bool.and_eq_true, decide_eq_true_eq, decide_eq_true_eq, decide_eq_true_eq]
  constructor
  · rintro ⟨⟨⟨h1, h2⟩, h3⟩, h4⟩
    refine ⟨h1, h2, fun x hx => ?_⟩
    obtain ⟨c1, c2⟩ := ok_canon h1
    constructor
    · cases l with
      | nil => cases hx
      | cons y l =>
        have h3 : lo ≤ y.1 := h3
        rcases List.mem_cons.1 hx with rfl | hx
        · exact h3
        · have := (List.pairwise_cons.1 c2).1 x hx
          have := c1 y (List.mem_cons_self ..)
          omega
    · have hne : l ≠ [] := fun e => by subst e; cases hx
      rw [List.getLastD_eq_getLast?, List.getLast?_eq_some_getLast hne] at h4
      have h4 : (l.getLast hne).2 ≤ hi := h4
      have hsp := List.dropLast_concat_getLast hne
      rw [← hsp] at hx c2
      rcases List.mem_append.1 hx with hx | hx
      · have := (List.pairwise_append.1 c2).2.2 x hx _ (List.mem_singleton.2 rfl)
        have := c1 _ (List.getLast_mem hne)
        omega
      · rw [List.mem_singleton.1 hx]
        exact h4
  · rintro ⟨h1, h2, h3⟩
    have hne : l ≠ [] := fun e => by subst e; simp at h2
    refine ⟨⟨⟨h1, h2⟩, ?_⟩, ?_⟩
    · cases l with
      | nil => exact absurd rfl hne
      | cons y l => exact (h3 y (List.mem_cons_self ..)).1
    · rw [List.getLastD_eq_getLast?, List.getLast?_eq_some_getLast hne]
      exact (h3 _ (List.getLast_mem hne)).2
theorem within_inter {a b : List Sp} {lo hi : Int} (ha : withinS a lo hi = true) (hb : okS b = true) (h0 : 0 < (interF a b).length) (h : (interF a b).length ≤ 64) : withinS (interF a b) lo hi = true := by
  obtain ⟨a1, a2, a3⟩ := within_iff.1 ha
  refine within_iff.2 ⟨inter_ok2 a1 hb h, h0, fun z hz => ?_⟩
  obtain ⟨x, hx, e1, e2⟩ := ((inter_form a b (ok_canon a1) (ok_canon hb)).2.2 z hz).1
  have := a3 x hx
  omega
/-- A box that lies in another one. -/
theorem insB_iff {a b : Bx} : insideB a b = true ↔ (∀ x ∈ a.m, x ∈ b.m) ∧ bits .andNot .i64 a.k b.k = 0 ∧ insideF a.r b.r = true ∧ insideF a.s b.s = true := by
  unfold insideB
  simp only [Bool.and_eq_true, List.all_eq_true, decide_eq_true_eq, beq_iff_eq]
  constructor
  · rintro ⟨h1, ⟨h2, h3⟩, h4⟩
    exact ⟨h1, h2, h3, h4⟩
  · rintro ⟨h1, h2, h3, h4⟩
    exact ⟨h1, ⟨h2, h3⟩, h4⟩
theorem insB_self (a : Bx) : insideB a a = true := insB_iff.2 ⟨fun _ h => h, andNot_self _, insF_self _, insF_self _⟩
theorem insB_trans {a b c : Bx} (h1 : insideB a b = true) (h2 : insideB b c = true) : insideB a c = true := by
  obtain ⟨a1, a2, a3, a4⟩ := insB_iff.1 h1
  obtain ⟨b1, b2, b3, b4⟩ := insB_iff.1 h2
  exact insB_iff.2 ⟨fun x hx => b1 x (a1 x hx), andNot_trans a2 b2, insF_trans a3 b3, insF_trans a4 b4⟩
/-- A valid box with numbers that a machine holds. -/
def FB (b : Bx) : Prop := fineB b = true ∧ I64 b.k
theorem FB.kr {b : Bx} (h : FB b) : KR b.k := kr_of h.2 (fineB_parts h.1).1
theorem inB_iff {b : Bx} {c : Ch} : inB b c = true ↔ kindB b.k c.k = true ∧ hasF b.r c.r = true ∧ c.m ∈ b.m ∧ hasF b.s c.s = true := by
  unfold inB
  simp only [Bool.and_eq_true, decide_eq_true_eq]
  exact ⟨fun ⟨⟨⟨h1, h2⟩, h3⟩, h4⟩ => ⟨h1, h2, h3, h4⟩, fun ⟨h1, h2, h3, h4⟩ => ⟨⟨⟨h1, h2⟩, h3⟩, h4⟩⟩
theorem insB_has {a b : Bx} (ha : FB a) (hb : FB b) (h : insideB a b = true) {c : Ch} (hc : inB a c = true) : inB b c = true := by
  obtain ⟨h1, h2, h3, h4⟩ := insB_iff.1 h
  obtain ⟨c1, c2, c3, c4⟩ := inB_iff.1 hc
  exact inB_iff.2 ⟨kind_sub ha.kr hb.kr h2 c1, insF_has h3 c2, h1 _ c3, insF_has h4 c4⟩
end Go.Proofs.YtnbdpnlepcjmmaaGreat
