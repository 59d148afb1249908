/-
  Layer 38: Same of two equal recorders. Plain contract of the reference.
-/
import Derived.Test.YtbohbapheofpiaaRgC
import Derived.Test.YtbohbapheofpiaaRowY
namespace Go.Proofs.Ytbohbapheofpiaa
open Go.RowKit
set_option maxRecDepth 100000 in
set_option maxHeartbeats 16000000 in
theorem rsame_eq (R : Rec) (va vb : Value) (w : World) (ha : RecV w R va) (hb : RecV w R vb) (hl : R.l.length ≤ 1000000) : Calls Try.prog 23 #[va, vb] w fun e w' => e = .returned (.bool true) ∧ Grows w w' := by
  obtain ⟨A, cp, rfl, hg⟩ := ha
  obtain ⟨A2, cp2, rfl, hg2⟩ := hb
  obtain ⟨lim, l, c, fr, b⟩ := R
  simp only [] at *
  obtain ⟨bs, hsbs, gbs⟩ : ∃ bs : Array Value, bs.size = 24 ∧ ∀ j, j < 24 → bs[j]? = some (.int .i64 (b j)) := by
    refine ⟨((List.range 24).map fun i => Value.int .i64 (b i)).toArray, by simp, fun j hj => ?_⟩
    rw [List.getElem?_toArray, List.getElem?_map, List.getElem?_range hj]
    rfl
  have hpbs : ∀ (v0 : Value) (w1 : World) (G : Nat), Blk w1 G 28 (rcV lim v0 c fr b) → ∀ j v, bs[j]? = some v → w1.cell? ((⟨G, 8, none⟩ : Addr).add j) = some v := by
    intro v0 w1 G hb j v hj
    have hj2 : j < 24 := by
      have := (Array.getElem?_eq_some_iff.1 hj).1
      omega
    have ha : (⟨G, 8, none⟩ : Addr).add j = ⟨G, 8 + j, none⟩ := by
      unfold Addr.add
      split
      · simp_all
      · rfl
    rw [ha, hb.cell, rcV_b lim v0 c fr b j hj2, ← gbs j hj2, hj]
  have hibs : (Try.prog.info? 26).map (·.size) = some bs.size := by rw [hsbs]; kernel_rfl
  have hqbs : ∀ w1, (binOp .eql 26 (.agg bs) (.agg bs)).run Try.prog w1 = .ok (.bool true) w1 := fun w1 => eql_arr w1 bs b Try.underlying26 Try.underlying3 (by first | exact Try.info3 | rfl) rfl (by kernel_rfl) gbs
  obtain ⟨ds, hsds, gds⟩ : ∃ bs : Array Value, bs.size = 5 ∧ ∀ j, j < 5 → bs[j]? = some (.int .i64 (c j)) := by
    refine ⟨((List.range 5).map fun i => Value.int .i64 (c i)).toArray, by simp, fun j hj => ?_⟩
    rw [List.getElem?_toArray, List.getElem?_map, List.getElem?_range hj]
    rfl
  have hpds : ∀ (v0 : Value) (w1 : World) (G : Nat), Blk w1 G 28 (rcV lim v0 c fr b) → ∀ j v, ds[j]? = some v → w1.cell? ((⟨G, 2, none⟩ : Addr).add j) = some v := by
    intro v0 w1 G hb j v hj
    have hj2 : j < 5 := by
      have := (Array.getElem?_eq_some_iff.1 hj).1
      omega
    have ha : (⟨G, 2, none⟩ : Addr).add j = ⟨G, 2 + j, none⟩ := by
      unfold Addr.add
      split
      · simp_all
      · rfl
    rw [ha, hb.cell, rcV_c lim v0 c fr b j hj2, ← gds j hj2, hj]
  have hids : (Try.prog.info? 25).map (·.size) = some ds.size := by rw [hsds]; kernel_rfl
  have hqds : ∀ w1, (binOp .eql 25 (.agg ds) (.agg ds)).run Try.prog w1 = .ok (.bool true) w1 := fun w1 => eql_arr w1 ds c Try.underlying25 Try.underlying3 (by first | exact Try.info3 | rfl) rfl (by kernel_rfl) gds
  have k1 := (Blk.new w 28 (rcV lim (.slice A l.length cp) c fr b)).alloc (Obj.cells (rcV lim (.slice A2 l.length cp2) c fr b) 28)
  have k2 := blk_new_at (X := w.alloc (Obj.cells (rcV lim (.slice A l.length cp) c fr b) 28)) (n := w.heap.size + 1) (t := 28) (cs := (rcV lim (.slice A2 l.length cp2) c fr b)) (by simp)
  have hB := ((Below.refl w.heap.size w).alloc (Nat.le_refl _) (Obj.cells (rcV lim (.slice A l.length cp) c fr b) 28)).alloc (by simp) (Obj.cells (rcV lim (.slice A2 l.length cp2) c fr b) 28)
  go_enter Try.func23, Try.ntmps23
  go_upto_region 1 with fail
  generalize World.alloc (World.alloc w _) _ = w1 at *
  have x0 := k1.cell 0
  have y0 := k2.cell 0
  have x1 := k1.cell 1
  have y1 := k2.cell 1
  rw [rcV_0] at x0 y0
  rw [rcV_1] at x1 y1
  refine wp_region_lit ?_
  iterate 10
    refine BigFrame.wpList_want (by first | rfl | kernel_rfl) (fun K hK => ?_)
    go_simp
    refine hK _ _ ?_
    clear hK K
  refine BigFrame.wpList_want (by first | rfl | kernel_rfl) (fun K hK => ?_)
  go_simp
  refine (gsame_eq A A2 cp cp2 l _ (hg.grows hB) (hg2.grows hB) (by omega)).mono ?_
  rintro e w2 ⟨rfl, hq⟩
  refine hK _ _ ?_
  clear x0 y0 x1 y1 hK K
  replace k1 := k1.grows hq
  replace k2 := k2.grows hq
  replace hB := below_grows hB (Nat.le_refl _) hq
  clear hq hg hg2
  iterate 3
    refine BigFrame.wpList_want (by first | rfl | kernel_rfl) (fun K hK => ?_)
    go_simp
    refine hK _ _ ?_
    clear hK K
  refine wpList_ran (by first | rfl | kernel_rfl) (ran_part _ rfl rfl (hpds _ _ _ k1) Try.underlying25 rfl hids) ?_
  iterate 1
    refine BigFrame.wpList_want (by first | rfl | kernel_rfl) (fun K hK => ?_)
    go_simp
    refine hK _ _ ?_
    clear hK K
  refine wpList_ran (by first | rfl | kernel_rfl) (ran_part _ rfl rfl (hpds _ _ _ k2) Try.underlying25 rfl hids) ?_
  refine wpList_ran (by first | rfl | kernel_rfl) (ran_bin _ _ rfl rfl rfl (by kernel_rfl) (hqds _)) ?_
  have x0 := k1.cell 7
  have y0 := k2.cell 7
  rw [rcV_7] at x0 y0
  iterate 10
    refine BigFrame.wpList_want (by first | rfl | kernel_rfl) (fun K hK => ?_)
    go_simp
    refine hK _ _ ?_
    clear hK K
  refine wpList_ran (by first | rfl | kernel_rfl) (ran_part _ rfl rfl (hpbs _ _ _ k1) Try.underlying26 rfl hibs) ?_
  iterate 1
    refine BigFrame.wpList_want (by first | rfl | kernel_rfl) (fun K hK => ?_)
    go_simp
    refine hK _ _ ?_
    clear hK K
  refine wpList_ran (by first | rfl | kernel_rfl) (ran_part _ rfl rfl (hpbs _ _ _ k2) Try.underlying26 rfl hibs) ?_
  refine wpList_ran (by first | rfl | kernel_rfl) (ran_bin _ _ rfl rfl rfl (by kernel_rfl) (hqbs _)) ?_
  go_wp2
  go_ret
  exact ⟨rfl, hB⟩
end Go.Proofs.Ytbohbapheofpiaa
