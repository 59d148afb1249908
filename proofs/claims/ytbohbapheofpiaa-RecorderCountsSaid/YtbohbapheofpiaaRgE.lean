/-
  Layer 38: recorders, whatever they keep: Between. Plain contracts of the program and of the reference.
-/
import Derived.Test.YtbohbapheofpiaaRgD
namespace Go.Proofs.Ytbohbapheofpiaa
open Go.RowKit
theorem gls_lit (w : World) (g : Gl) : Gls (w.alloc (.cells g.cs 43)) (some ⟨w.heap.size, 0, none⟩) [g] := by
  refine ⟨by simp [gcells, Gl.ls], fun _ => ⟨_, rfl, by simp, fun j u hu => ?_⟩⟩
  have hb := (Blk.new w 43 g.cs).cell j
  have ha : (⟨w.heap.size, 0, none⟩ : Addr).add j = ⟨w.heap.size, j, none⟩ := by
    unfold Addr.add
    split
    · simp_all
    · simp
  rw [ha, hb, ← hu]
  simp [gcells, Gl.cs, Gl.ls]
def keepG (x y : Int) (g : Gl) : Bool := decide (g.a ≤ y) && decide (x ≤ g.a + g.q - 1)
def betF (R : Rec) (x y : Int) : List Gl := if R.ok = true then R.l.filter (keepG x y) else []
theorem filter_snoc {p : Gl → Bool} {l : List Gl} {k : Nat} {g : Gl} (h : l[k]? = some g) : (l.take (k + 1)).filter p = (l.take k).filter p ++ (if p g = true then [g] else []) := by
  rw [take_snoc h, List.filter_append]
  congr 1
  cases e : p g <;> simp [e]
set_option maxHeartbeats 8000000 in
theorem betR (R : Rec) (v : Value) (x y : Int) (w : World) (hv : RecV w R v) (hl : R.l.length ≤ 1000000) (hx : -9223372036854775808 ≤ x ∧ x ≤ 9223372036854775807) :
    Calls Try.prog 14 #[v, .int .i64 x, .int .i64 y] w fun e w' => (∃ A2 c2, e = .returned (.slice A2 (betF R x y).length c2) ∧ Gls w' A2 (betF R x y)) ∧ Grows w w' := by
  obtain ⟨A, cp, rfl, hg⟩ := hv
  obtain ⟨lim, l, c, fr, b⟩ := R
  simp only [] at *
  obtain ⟨i0, hi0, hi1, hi2, hi3, hi4⟩ := ginfo
  cases hok : okR lim l c fr b
  · rw [show betF ⟨lim, l, c, fr, b⟩ x y = [] from if_neg (by simp [Rec.ok, hok])]
    have hvv : ∀ w1, Gls w1 A l → Calls Try.prog 17 #[.agg (rcV lim (.slice A l.length cp) c fr b)] w1 fun e w' => e = .returned (.bool false) ∧ Grows w1 w' := fun w1 h => by
      have := gvalidR lim fr A cp l c b w1 h hl
      rw [hok] at this
      exact this
    clear hok
    have k2 := Blk.new w 28 (rcV lim (.slice A l.length cp) c fr b)
    have hB := (Below.refl w.heap.size w).alloc (Nat.le_refl _) (Obj.cells (rcV lim (.slice A l.length cp) c fr b) 28)
    go_enter Try.func14, Try.ntmps14
    go_upto_region 1 with fail
    generalize World.alloc w _ = w1 at *
    refine wp_region_lit ?_
    refine wpList_load_row rfl _ rfl rfl k2 Try.underlying28 rfl (rcV_info _ _ _ _ _) ?_
    go_wp2_with fail
    refine (hvv _ (hg.grows hB)).mono ?_
    rintro e w2 ⟨rfl, hq⟩
    replace k2 := k2.grows hq
    replace hB := below_grows hB (Nat.le_refl _) hq
    clear hq hvv
    go_wp2
    go_ret
    exact ⟨⟨none, 0, rfl, gls_nil _⟩, hB⟩
  rw [show betF ⟨lim, l, c, fr, b⟩ x y = l.filter (keepG x y) from if_pos hok]
  obtain ⟨-, -, -, hall, -, -, -⟩ := (okR_iff lim l c fr b).1 hok
  have hvv : ∀ w1, Gls w1 A l → Calls Try.prog 17 #[.agg (rcV lim (.slice A l.length cp) c fr b)] w1 fun e w' => e = .returned (.bool true) ∧ Grows w1 w' := fun w1 h => by
    have := gvalidR lim fr A cp l c b w1 h hl
    rw [hok] at this
    exact this
  clear hok
  have k2 := Blk.new w 28 (rcV lim (.slice A l.length cp) c fr b)
  have hB := (Below.refl w.heap.size w).alloc (Nat.le_refl _) (Obj.cells (rcV lim (.slice A l.length cp) c fr b) 28)
  go_enter Try.func14, Try.ntmps14
  go_upto_region 1 with fail
  generalize World.alloc w _ = w1 at *
  refine wp_region_lit ?_
  refine wpList_load_row rfl _ rfl rfl k2 Try.underlying28 rfl (rcV_info _ _ _ _ _) ?_
  go_wp2_with fail
  refine (hvv _ (hg.grows hB)).mono ?_
  rintro e w2 ⟨rfl, hq⟩
  replace k2 := k2.grows hq
  replace hB := below_grows hB (Nat.le_refl _) hq
  clear hq hvv
  have x1 := k2.cell 1
  rw [rcV_1] at x1
  go_wp2_with fail
  clear x1
  go_loopw [7, 16] (fun v i wr => ∃ k : Nat, k ≤ l.length ∧ i = .int .i64 k ∧ wr.ownsRow w.heap.size 43 6 v ((l.take k).filter (keepG x y)).length (gcells ((l.take k).filter (keepG x y))) ∧ Below w.heap.size w wr ∧ Blk wr w.heap.size 28 (rcV lim (.slice A l.length cp) c fr b)) (fun _ i _ => l.length - (intOf i).toNat)
  case atStart => exact ⟨0, by omega, rfl, World.ownsRow_nil _ _ _ _, hB, k2⟩
  case round =>
    clear hB k2
    obtain ⟨k, hk, rfl, hown, hB, k2⟩ := hrel
    have x1 := k2.cell 1
    rw [rcV_1] at x1
    by_cases hlt : k < l.length
    · obtain ⟨ad, g, rfl, had, hgk, c0, c1, c2, c3, c4, c5⟩ := (hg.grows hB).elem hlt
      have HX : Hid ((l.take (k + 1)).filter (keepG x y) = (l.take k).filter (keepG x y) ++ (if keepG x y g = true then [g] else [])) := filter_snoc hgk
      obtain ⟨b1, b2, b3, b4, b5, b6⟩ := okG_bd (show okG ⟨g.k, g.a, g.q, g.s, g.d, g.f⟩ = true from hall g (List.mem_of_getElem? hgk))
      have hlen : ((l.take k).filter (keepG x y)).length ≤ 1000000 := Nat.le_trans (List.length_filter_le _ _) (by rw [List.length_take]; omega)
      generalize (l.take k).filter (keepG x y) = lk at *
      clear hgk
      have hz := hB.size
      by_cases hk1 : g.a ≤ y
      rotate_left
      · have hkf : keepG x y g = false := by simp [keepG, hk1]
        have HK := Lib.hid hkf
        clear hkf
        go_wp2
        go_roundw
        case rel => exact ⟨k + 1, by omega, by go_num, by rw [HX.out, if_neg (by simp [HK.out]), List.append_nil]; exact hown.alloc _, hB.alloc hz _, k2.alloc _⟩
        case measure => simp [intOf]; omega
      by_cases hk2 : x ≤ g.a + g.q - 1
      rotate_left
      · have hkf : keepG x y g = false := by simp [keepG]; omega
        have HK := Lib.hid hkf
        clear hkf
        go_wp2
        go_roundw
        case rel => exact ⟨k + 1, by omega, by go_num, by rw [HX.out, if_neg (by simp [HK.out]), List.append_nil]; exact hown.alloc _, hB.alloc hz _, k2.alloc _⟩
        case measure => simp [intOf]; omega
      have HK := Lib.hid (show keepG x y g = true by simp [keepG, hk1]; omega)
      have hr := gls_lit (wr.alloc (Obj.cells g.cs 43)) g
      rw [show (wr.alloc (Obj.cells g.cs 43)).heap.size = wr.heap.size + 1 by simp] at hr
      have hown2 := (hown.alloc (Obj.cells g.cs 43)).alloc (Obj.cells g.cs 43)
      have hB2 := (hB.alloc hz (Obj.cells g.cs 43)).alloc (by simp; omega) (Obj.cells g.cs 43)
      have k3 := (k2.alloc (Obj.cells g.cs 43)).alloc (Obj.cells g.cs 43)
      go_upto_region 8 with fail
      refine wp_region_lit ?_
      iterate 3
        refine wpList_plain rfl (fun K hK => ?_)
        go_simp
        refine hK _ _ ?_
        clear hK K
      refine wpList_append_any _ rfl (.tmp 34) (.tmp 36) 24 rfl w.heap.size 43 i0 _ 6 48 Try.underlying24 hi0 hi3 hi1 hi2 hi4 (by omega) _ lk.length _ rfl hown2 ((wr.alloc (Obj.cells g.cs 43)).alloc (Obj.cells g.cs 43)).heap.size (some ⟨wr.heap.size + 1, 0, none⟩) 1 1 (gcells [g]) rfl ?a1 (gcells_one [g]) ?a3 ?a4 ?a5 ?_
      case a1 => exact hr
      case a3 => simp only [maxLen]; omega
      case a4 => omega
      case a5 => simp; omega
      intro v1 w3 hown3 hgr3 _
      have hB3 : Below w.heap.size w w3 := hB2.grown hgr3 (by simp; omega) fun q hq => (hown2.lt q hq).1
      have k4 : Blk w3 w.heap.size 28 (rcV lim (.slice (some ad) l.length cp) c fr b) := k3.grown hgr3 (fun e => by have hne := own_blk_ne hown2 k3 (by decide); exact hne e.symm)
      rw [show gcells lk ++ gcells [g] = gcells ((l.take (k + 1)).filter (keepG x y)) by rw [HX.out, if_pos HK.out]; simp [gcells], show lk.length + 1 = ((l.take (k + 1)).filter (keepG x y)).length by rw [HX.out, if_pos HK.out]; simp] at hown3
      clear hown hB hgr3 HX hr hown2 hB2 k2 k3 c0 c1 c2 c3 c4 c5 x1
      go_wp2
      go_roundw
      case rel => exact ⟨k + 1, by omega, by go_num, hown3, hB3, k4⟩
      case measure => simp [intOf]; omega
    · obtain rfl : k = l.length := by omega
      clear hlt
      rw [List.take_length] at hown
      go_wp2
      go_ret
      obtain ⟨A2, c2, rfl, -, hgl⟩ := gls_own hown
      exact ⟨⟨A2, c2, rfl, hgl⟩, hB⟩
set_option maxHeartbeats 8000000 in
theorem rbetR (R : Rec) (v : Value) (x y : Int) (w : World) (hv : RecV w R v) (hl : R.l.length ≤ 1000000) (hx : -9223372036854775808 ≤ x ∧ x ≤ 9223372036854775807) :
    Calls Try.prog 15 #[v, .int .i64 x, .int .i64 y] w fun e w' => (∃ A2 c2, e = .returned (.slice A2 (betF R x y).length c2) ∧ Gls w' A2 (betF R x y)) ∧ Grows w w' := by
  obtain ⟨A, cp, rfl, hg⟩ := hv
  obtain ⟨lim, l, c, fr, b⟩ := R
  simp only [] at *
  obtain ⟨i0, hi0, hi1, hi2, hi3, hi4⟩ := ginfo
  cases hok : okR lim l c fr b
  · rw [show betF ⟨lim, l, c, fr, b⟩ x y = [] from if_neg (by simp [Rec.ok, hok])]
    have hvv : ∀ w1, Gls w1 A l → Calls Try.prog 18 #[.agg (rcV lim (.slice A l.length cp) c fr b)] w1 fun e w' => e = .returned (.bool false) ∧ Grows w1 w' := fun w1 h => by
      have := rvalidR lim fr A cp l c b w1 h hl
      rw [hok] at this
      exact this
    clear hok
    have k2 := Blk.new w 28 (rcV lim (.slice A l.length cp) c fr b)
    have hB := (Below.refl w.heap.size w).alloc (Nat.le_refl _) (Obj.cells (rcV lim (.slice A l.length cp) c fr b) 28)
    go_enter Try.func15, Try.ntmps15
    go_upto_region 2 with fail
    generalize World.alloc w _ = w1 at *
    refine wp_region_lit ?_
    refine wpList_load_row rfl _ rfl rfl k2 Try.underlying28 rfl (rcV_info _ _ _ _ _) ?_
    go_wp2_with fail
    refine (hvv _ (hg.grows hB)).mono ?_
    rintro e w2 ⟨rfl, hq⟩
    replace k2 := k2.grows hq
    replace hB := below_grows hB (Nat.le_refl _) hq
    clear hq hvv
    go_wp2
    go_ret
    exact ⟨⟨none, 0, rfl, gls_nil _⟩, hB⟩
  rw [show betF ⟨lim, l, c, fr, b⟩ x y = l.filter (keepG x y) from if_pos hok]
  obtain ⟨-, -, -, hall, -, -, -⟩ := (okR_iff lim l c fr b).1 hok
  have hvv : ∀ w1, Gls w1 A l → Calls Try.prog 18 #[.agg (rcV lim (.slice A l.length cp) c fr b)] w1 fun e w' => e = .returned (.bool true) ∧ Grows w1 w' := fun w1 h => by
    have := rvalidR lim fr A cp l c b w1 h hl
    rw [hok] at this
    exact this
  clear hok
  have k2 := Blk.new w 28 (rcV lim (.slice A l.length cp) c fr b)
  have hB := (Below.refl w.heap.size w).alloc (Nat.le_refl _) (Obj.cells (rcV lim (.slice A l.length cp) c fr b) 28)
  go_enter Try.func15, Try.ntmps15
  go_upto_region 2 with fail
  generalize World.alloc w _ = w1 at *
  refine wp_region_lit ?_
  refine wpList_load_row rfl _ rfl rfl k2 Try.underlying28 rfl (rcV_info _ _ _ _ _) ?_
  go_wp2_with fail
  refine (hvv _ (hg.grows hB)).mono ?_
  rintro e w2 ⟨rfl, hq⟩
  replace k2 := k2.grows hq
  replace hB := below_grows hB (Nat.le_refl _) hq
  clear hq hvv
  have x1 := k2.cell 1
  rw [rcV_1] at x1
  go_wp2_with fail
  clear x1
  go_loopw [7, 8] (fun v i wr => ∃ k : Nat, k ≤ l.length ∧ i = .int .i64 k ∧ wr.ownsRow w.heap.size 43 6 v ((l.take k).filter (keepG x y)).length (gcells ((l.take k).filter (keepG x y))) ∧ Below w.heap.size w wr ∧ Blk wr w.heap.size 28 (rcV lim (.slice A l.length cp) c fr b)) (fun _ i _ => l.length - (intOf i).toNat)
  case atStart => exact ⟨0, by omega, rfl, World.ownsRow_nil _ _ _ _, hB, k2⟩
  case round =>
    clear hB k2
    obtain ⟨k, hk, rfl, hown, hB, k2⟩ := hrel
    have x1 := k2.cell 1
    rw [rcV_1] at x1
    by_cases hlt : k < l.length
    · obtain ⟨ad, g, rfl, had, hgk, c0, c1, c2, c3, c4, c5⟩ := (hg.grows hB).elem hlt
      have HX : Hid ((l.take (k + 1)).filter (keepG x y) = (l.take k).filter (keepG x y) ++ (if keepG x y g = true then [g] else [])) := filter_snoc hgk
      obtain ⟨b1, b2, b3, b4, b5, b6⟩ := okG_bd (show okG ⟨g.k, g.a, g.q, g.s, g.d, g.f⟩ = true from hall g (List.mem_of_getElem? hgk))
      have hlen : ((l.take k).filter (keepG x y)).length ≤ 1000000 := Nat.le_trans (List.length_filter_le _ _) (by rw [List.length_take]; omega)
      generalize (l.take k).filter (keepG x y) = lk at *
      clear hgk
      have hz := hB.size
      by_cases hk1 : g.a ≤ y
      rotate_left
      · have hkf : keepG x y g = false := by simp [keepG, hk1]
        have HK := Lib.hid hkf
        clear hkf
        go_wp2
        go_roundw
        case rel => exact ⟨k + 1, by omega, by go_num, by rw [HX.out, if_neg (by simp [HK.out]), List.append_nil]; exact hown.alloc _, hB.alloc hz _, k2.alloc _⟩
        case measure => simp [intOf]; omega
      by_cases hk2 : x ≤ g.a + g.q - 1
      rotate_left
      · have hkf : keepG x y g = false := by simp [keepG]; omega
        have HK := Lib.hid hkf
        clear hkf
        go_wp2
        go_roundw
        case rel => exact ⟨k + 1, by omega, by go_num, by rw [HX.out, if_neg (by simp [HK.out]), List.append_nil]; exact hown.alloc _, hB.alloc hz _, k2.alloc _⟩
        case measure => simp [intOf]; omega
      have HK := Lib.hid (show keepG x y g = true by simp [keepG, hk1]; omega)
      have hr := gls_lit (wr.alloc (Obj.cells g.cs 43)) g
      rw [show (wr.alloc (Obj.cells g.cs 43)).heap.size = wr.heap.size + 1 by simp] at hr
      have hown2 := (hown.alloc (Obj.cells g.cs 43)).alloc (Obj.cells g.cs 43)
      have hB2 := (hB.alloc hz (Obj.cells g.cs 43)).alloc (by simp; omega) (Obj.cells g.cs 43)
      have k3 := (k2.alloc (Obj.cells g.cs 43)).alloc (Obj.cells g.cs 43)
      go_upto_region 9 with fail
      refine wp_region_lit ?_
      iterate 3
        refine wpList_plain rfl (fun K hK => ?_)
        go_simp
        refine hK _ _ ?_
        clear hK K
      refine wpList_append_any _ rfl (.tmp 39) (.tmp 41) 24 rfl w.heap.size 43 i0 _ 6 48 Try.underlying24 hi0 hi3 hi1 hi2 hi4 (by omega) _ lk.length _ rfl hown2 ((wr.alloc (Obj.cells g.cs 43)).alloc (Obj.cells g.cs 43)).heap.size (some ⟨wr.heap.size + 1, 0, none⟩) 1 1 (gcells [g]) rfl ?a1 (gcells_one [g]) ?a3 ?a4 ?a5 ?_
      case a1 => exact hr
      case a3 => simp only [maxLen]; omega
      case a4 => omega
      case a5 => simp; omega
      intro v1 w3 hown3 hgr3 _
      have hB3 : Below w.heap.size w w3 := hB2.grown hgr3 (by simp; omega) fun q hq => (hown2.lt q hq).1
      have k4 : Blk w3 w.heap.size 28 (rcV lim (.slice (some ad) l.length cp) c fr b) := k3.grown hgr3 (fun e => by have hne := own_blk_ne hown2 k3 (by decide); exact hne e.symm)
      rw [show gcells lk ++ gcells [g] = gcells ((l.take (k + 1)).filter (keepG x y)) by rw [HX.out, if_pos HK.out]; simp [gcells], show lk.length + 1 = ((l.take (k + 1)).filter (keepG x y)).length by rw [HX.out, if_pos HK.out]; simp] at hown3
      clear hown hB hgr3 HX hr hown2 hB2 k2 k3 c0 c1 c2 c3 c4 c5 x1
      go_wp2
      go_roundw
      case rel => exact ⟨k + 1, by omega, by go_num, hown3, hB3, k4⟩
      case measure => simp [intOf]; omega
    · obtain rfl : k = l.length := by omega
      clear hlt
      rw [List.take_length] at hown
      go_wp2
      go_ret
      obtain ⟨A2, c2, rfl, -, hgl⟩ := gls_own hown
      exact ⟨⟨A2, c2, rfl, hgl⟩, hB⟩
end Go.Proofs.Ytbohbapheofpiaa
