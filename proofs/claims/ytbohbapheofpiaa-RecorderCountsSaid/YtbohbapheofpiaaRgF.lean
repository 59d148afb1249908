/-
  Layer 38: recorders, whatever they keep: Note of the reference. Plain contract.
-/
import Derived.Test.YtbohbapheofpiaaRgN
import Derived.Deep.DeepCutAuto
import Derived.Deep.CutBlock
import Derived.Test.YtbohbapheofpiaaExtra
namespace Go.Proofs.Ytbohbapheofpiaa
open Go.RowKit
set_option maxHeartbeats 8000000 in
theorem rnoteR (R : Rec) (v : Value) (g : Gl) (w : World) (hv : RecV w R v) (hl : R.l.length ≤ 100000) : Calls Try.prog 22 #[v, .agg g.cs] w fun e w' => (∃ v', e = .returned (.tuple #[v', .int .i64 (noteF R g).2]) ∧ RecV w' (noteF R g).1 v') ∧ Grows w w' := by
  obtain ⟨i0, hi0, hi1, hi2, hi3, hi4⟩ := ginfo
  simp only [Gl.cs]
  obtain ⟨A, cp, rfl, hg⟩ := hv
  obtain ⟨lim, l, c, fr, b⟩ := R
  simp only [] at *
  have hl2 : l.length ≤ 1000000 := by omega
  cases hok : okR lim l c fr b
  · rw [show noteF ⟨lim, l, c, fr, b⟩ g = (Rec.zero, 1) from if_neg (by simp [Rec.ok, hok])]
    have hvv : ∀ w1, Gls w1 A l → Calls Try.prog 18 #[.agg (rcV lim (.slice A l.length cp) c fr b)] w1 fun e w' => e = .returned (.bool false) ∧ Grows w1 w' := fun w1 h => by
      have := rvalidR lim fr A cp l c b w1 h hl2
      rw [hok] at this
      exact this
    clear hok
    have hzs : ∀ (v : Value) (lim fr : Int) (c b : Nat → Int), (#[.int .i64 0, .slice none 0 0, .int .i64 0, .int .i64 0, .int .i64 0, .int .i64 0, .int .i64 0, .int .i64 0, .int .i64 0, .int .i64 0, .int .i64 0, .int .i64 0, .int .i64 0, .int .i64 0, .int .i64 0, .int .i64 0, .int .i64 0, .int .i64 0, .int .i64 0, .int .i64 0, .int .i64 0, .int .i64 0, .int .i64 0, .int .i64 0, .int .i64 0, .int .i64 0, .int .i64 0, .int .i64 0, .int .i64 0, .int .i64 0, .int .i64 0, .int .i64 0] : Array Value).size = (rcV lim v c fr b).size := fun _ _ _ _ _ => rfl
    go_enter Try.func22, Try.ntmps22
    go_upto_region 1 with fail
    have k2 := ((Blk.new w 28 (rcV lim (.slice A l.length cp) c fr b)).alloc (Obj.cells #[.int .i64 g.k, .int .i64 g.a, .int .i64 g.q, .int .i64 g.s, .int .u64 g.d, .int .i64 g.f] 43)).alloc (Obj.cells #[.int .i64 0, .slice none 0 0, .int .i64 0, .int .i64 0, .int .i64 0, .int .i64 0, .int .i64 0, .int .i64 0, .int .i64 0, .int .i64 0, .int .i64 0, .int .i64 0, .int .i64 0, .int .i64 0, .int .i64 0, .int .i64 0, .int .i64 0, .int .i64 0, .int .i64 0, .int .i64 0, .int .i64 0, .int .i64 0, .int .i64 0, .int .i64 0, .int .i64 0, .int .i64 0, .int .i64 0, .int .i64 0, .int .i64 0, .int .i64 0, .int .i64 0, .int .i64 0] 28)
    have kG := (blk_new_at (X := w.alloc (Obj.cells (rcV lim (.slice A l.length cp) c fr b) 28)) (n := w.heap.size + 1) (t := 43) (cs := #[.int .i64 g.k, .int .i64 g.a, .int .i64 g.q, .int .i64 g.s, .int .u64 g.d, .int .i64 g.f]) (by simp)).alloc (Obj.cells #[.int .i64 0, .slice none 0 0, .int .i64 0, .int .i64 0, .int .i64 0, .int .i64 0, .int .i64 0, .int .i64 0, .int .i64 0, .int .i64 0, .int .i64 0, .int .i64 0, .int .i64 0, .int .i64 0, .int .i64 0, .int .i64 0, .int .i64 0, .int .i64 0, .int .i64 0, .int .i64 0, .int .i64 0, .int .i64 0, .int .i64 0, .int .i64 0, .int .i64 0, .int .i64 0, .int .i64 0, .int .i64 0, .int .i64 0, .int .i64 0, .int .i64 0, .int .i64 0] 28)
    have k4 := blk_new_at (X := (w.alloc (Obj.cells (rcV lim (.slice A l.length cp) c fr b) 28)).alloc (Obj.cells #[.int .i64 g.k, .int .i64 g.a, .int .i64 g.q, .int .i64 g.s, .int .u64 g.d, .int .i64 g.f] 43)) (n := w.heap.size + 1 + 1) (t := 28) (cs := #[.int .i64 0, .slice none 0 0, .int .i64 0, .int .i64 0, .int .i64 0, .int .i64 0, .int .i64 0, .int .i64 0, .int .i64 0, .int .i64 0, .int .i64 0, .int .i64 0, .int .i64 0, .int .i64 0, .int .i64 0, .int .i64 0, .int .i64 0, .int .i64 0, .int .i64 0, .int .i64 0, .int .i64 0, .int .i64 0, .int .i64 0, .int .i64 0, .int .i64 0, .int .i64 0, .int .i64 0, .int .i64 0, .int .i64 0, .int .i64 0, .int .i64 0, .int .i64 0]) (by simp)
    have hB := (((Below.refl w.heap.size w).alloc (Nat.le_refl _) (Obj.cells (rcV lim (.slice A l.length cp) c fr b) 28)).alloc (by simp) (Obj.cells #[.int .i64 g.k, .int .i64 g.a, .int .i64 g.q, .int .i64 g.s, .int .u64 g.d, .int .i64 g.f] 43)).alloc (by simp; omega) (Obj.cells #[.int .i64 0, .slice none 0 0, .int .i64 0, .int .i64 0, .int .i64 0, .int .i64 0, .int .i64 0, .int .i64 0, .int .i64 0, .int .i64 0, .int .i64 0, .int .i64 0, .int .i64 0, .int .i64 0, .int .i64 0, .int .i64 0, .int .i64 0, .int .i64 0, .int .i64 0, .int .i64 0, .int .i64 0, .int .i64 0, .int .i64 0, .int .i64 0, .int .i64 0, .int .i64 0, .int .i64 0, .int .i64 0, .int .i64 0, .int .i64 0, .int .i64 0, .int .i64 0] 28)
    generalize World.alloc (World.alloc (World.alloc w _) _) _ = w1 at *
    refine wp_region_lit ?_
    refine wpList_load_row rfl _ rfl rfl k2 Try.underlying28 rfl (rcV_info _ _ _ _ _) ?_
    go_wp2_with fail
    refine (hvv _ (hg.grows hB)).mono ?_
    rintro e w2 ⟨rfl, hq⟩
    replace k2 := k2.grows hq
    replace kG := kG.grows hq
    replace k4 := k4.grows hq
    replace hB := below_grows hB (Nat.le_refl _) hq
    clear hq hvv
    go_upto_region 2 with fail
    refine wp_region_lit ?_
    iterate 1
      refine wpList_plain rfl (fun K hK => ?_)
      go_simp
      refine hK _ _ ?_
      clear hK K
    refine wpList_store_row (cs := (rcV 0 (.slice none 0 0) (fun _ => 0) 0 (fun _ => 0))) rfl _ _ rfl rfl rfl rfl k4 (rcV_info _ _ _ _ _) (hzs _ _ _ _ _) (rcV_one _ _ _ _ _ _ _) ?_
    replace k4 := k4.row (cs := (rcV 0 (.slice none 0 0) (fun _ => 0) 0 (fun _ => 0)))
    replace hB := below_row hB (g := (w.heap.size + 1 + 1)) (by omega) (rcV 0 (.slice none 0 0) (fun _ => 0) 0 (fun _ => 0))
    generalize World.setRow _ _ _ = w9 at *
    go_wp2
    have hlo := run_loadVar_row (P := Try.prog) w9 (w.heap.size + 1 + 1) 28 28 (rcV 0 (.slice none 0 0) (fun _ => 0) 0 (fun _ => 0)) (0, 0) _ k4 Try.underlying28 rfl (rcV_info _ _ _ _ _)
    refine bodyPost_ret (v := .tuple #[.agg (rcV 0 (.slice none 0 0) (fun _ => 0) 0 (fun _ => 0)), .int .i64 1]) ?_ rfl ⟨⟨_, rfl, recV_zero _⟩, hB⟩
    unfold results
    simp only [Try.results22]
    simp [asAddr, hlo]
  obtain ⟨ol1, ol2, ol3, hall, hfr0, hcc, -⟩ := (okR_iff lim l c fr b).1 hok
  rw [show noteF ⟨lim, l, c, fr, b⟩ g = if okG g = true then (⟨lim, lastG lim (addG l g), bAdd c g.k.toNat, min (fr + g.f) 1099511627776, b⟩, 0) else (Rec.zero, 2) from if_pos hok]
  have hvv : ∀ w1, Gls w1 A l → Calls Try.prog 18 #[.agg (rcV lim (.slice A l.length cp) c fr b)] w1 fun e w' => e = .returned (.bool true) ∧ Grows w1 w' := fun w1 h => by
    have := rvalidR lim fr A cp l c b w1 h hl2
    rw [hok] at this
    exact this
  clear hok
  cases hok2 : okG g
  · rw [if_neg (by simp)]
    have hzs : ∀ (v : Value) (lim fr : Int) (c b : Nat → Int), (#[.int .i64 0, .slice none 0 0, .int .i64 0, .int .i64 0, .int .i64 0, .int .i64 0, .int .i64 0, .int .i64 0, .int .i64 0, .int .i64 0, .int .i64 0, .int .i64 0, .int .i64 0, .int .i64 0, .int .i64 0, .int .i64 0, .int .i64 0, .int .i64 0, .int .i64 0, .int .i64 0, .int .i64 0, .int .i64 0, .int .i64 0, .int .i64 0, .int .i64 0, .int .i64 0, .int .i64 0, .int .i64 0, .int .i64 0, .int .i64 0, .int .i64 0, .int .i64 0] : Array Value).size = (rcV lim v c fr b).size := fun _ _ _ _ _ => rfl
    go_enter Try.func22, Try.ntmps22
    go_upto_region 1 with fail
    have k2 := ((Blk.new w 28 (rcV lim (.slice A l.length cp) c fr b)).alloc (Obj.cells #[.int .i64 g.k, .int .i64 g.a, .int .i64 g.q, .int .i64 g.s, .int .u64 g.d, .int .i64 g.f] 43)).alloc (Obj.cells #[.int .i64 0, .slice none 0 0, .int .i64 0, .int .i64 0, .int .i64 0, .int .i64 0, .int .i64 0, .int .i64 0, .int .i64 0, .int .i64 0, .int .i64 0, .int .i64 0, .int .i64 0, .int .i64 0, .int .i64 0, .int .i64 0, .int .i64 0, .int .i64 0, .int .i64 0, .int .i64 0, .int .i64 0, .int .i64 0, .int .i64 0, .int .i64 0, .int .i64 0, .int .i64 0, .int .i64 0, .int .i64 0, .int .i64 0, .int .i64 0, .int .i64 0, .int .i64 0] 28)
    have kG := (blk_new_at (X := w.alloc (Obj.cells (rcV lim (.slice A l.length cp) c fr b) 28)) (n := w.heap.size + 1) (t := 43) (cs := #[.int .i64 g.k, .int .i64 g.a, .int .i64 g.q, .int .i64 g.s, .int .u64 g.d, .int .i64 g.f]) (by simp)).alloc (Obj.cells #[.int .i64 0, .slice none 0 0, .int .i64 0, .int .i64 0, .int .i64 0, .int .i64 0, .int .i64 0, .int .i64 0, .int .i64 0, .int .i64 0, .int .i64 0, .int .i64 0, .int .i64 0, .int .i64 0, .int .i64 0, .int .i64 0, .int .i64 0, .int .i64 0, .int .i64 0, .int .i64 0, .int .i64 0, .int .i64 0, .int .i64 0, .int .i64 0, .int .i64 0, .int .i64 0, .int .i64 0, .int .i64 0, .int .i64 0, .int .i64 0, .int .i64 0, .int .i64 0] 28)
    have k4 := blk_new_at (X := (w.alloc (Obj.cells (rcV lim (.slice A l.length cp) c fr b) 28)).alloc (Obj.cells #[.int .i64 g.k, .int .i64 g.a, .int .i64 g.q, .int .i64 g.s, .int .u64 g.d, .int .i64 g.f] 43)) (n := w.heap.size + 1 + 1) (t := 28) (cs := #[.int .i64 0, .slice none 0 0, .int .i64 0, .int .i64 0, .int .i64 0, .int .i64 0, .int .i64 0, .int .i64 0, .int .i64 0, .int .i64 0, .int .i64 0, .int .i64 0, .int .i64 0, .int .i64 0, .int .i64 0, .int .i64 0, .int .i64 0, .int .i64 0, .int .i64 0, .int .i64 0, .int .i64 0, .int .i64 0, .int .i64 0, .int .i64 0, .int .i64 0, .int .i64 0, .int .i64 0, .int .i64 0, .int .i64 0, .int .i64 0, .int .i64 0, .int .i64 0]) (by simp)
    have hB := (((Below.refl w.heap.size w).alloc (Nat.le_refl _) (Obj.cells (rcV lim (.slice A l.length cp) c fr b) 28)).alloc (by simp) (Obj.cells #[.int .i64 g.k, .int .i64 g.a, .int .i64 g.q, .int .i64 g.s, .int .u64 g.d, .int .i64 g.f] 43)).alloc (by simp; omega) (Obj.cells #[.int .i64 0, .slice none 0 0, .int .i64 0, .int .i64 0, .int .i64 0, .int .i64 0, .int .i64 0, .int .i64 0, .int .i64 0, .int .i64 0, .int .i64 0, .int .i64 0, .int .i64 0, .int .i64 0, .int .i64 0, .int .i64 0, .int .i64 0, .int .i64 0, .int .i64 0, .int .i64 0, .int .i64 0, .int .i64 0, .int .i64 0, .int .i64 0, .int .i64 0, .int .i64 0, .int .i64 0, .int .i64 0, .int .i64 0, .int .i64 0, .int .i64 0, .int .i64 0] 28)
    generalize World.alloc (World.alloc (World.alloc w _) _) _ = w1 at *
    refine wp_region_lit ?_
    refine wpList_load_row rfl _ rfl rfl k2 Try.underlying28 rfl (rcV_info _ _ _ _ _) ?_
    go_wp2_with fail
    refine (hvv _ (hg.grows hB)).mono ?_
    rintro e w2 ⟨rfl, hq⟩
    replace k2 := k2.grows hq
    replace kG := kG.grows hq
    replace k4 := k4.grows hq
    replace hB := below_grows hB (Nat.le_refl _) hq
    clear hq hvv
    have xG := kG.cell
    go_wp2_with fail
    clear xG
    refine (grvalid_any g.k g.a g.q g.s g.d g.f _).mono ?_
    rintro e w3 ⟨rfl, hq⟩
    rw [show okG ⟨g.k, g.a, g.q, g.s, g.d, g.f⟩ = okG g from rfl, hok2]
    replace k2 := k2.grows hq
    replace kG := kG.grows hq
    replace k4 := k4.grows hq
    replace hB := below_grows hB (Nat.le_refl _) hq
    clear hq
    clear hok2
    go_upto_region 4 with fail
    refine wp_region_lit ?_
    iterate 1
      refine wpList_plain rfl (fun K hK => ?_)
      go_simp
      refine hK _ _ ?_
      clear hK K
    refine wpList_store_row (cs := (rcV 0 (.slice none 0 0) (fun _ => 0) 0 (fun _ => 0))) rfl _ _ rfl rfl rfl rfl k4 (rcV_info _ _ _ _ _) (hzs _ _ _ _ _) (rcV_one _ _ _ _ _ _ _) ?_
    replace k4 := k4.row (cs := (rcV 0 (.slice none 0 0) (fun _ => 0) 0 (fun _ => 0)))
    replace hB := below_row hB (g := (w.heap.size + 1 + 1)) (by omega) (rcV 0 (.slice none 0 0) (fun _ => 0) 0 (fun _ => 0))
    generalize World.setRow _ _ _ = w9 at *
    go_wp2
    have hlo := run_loadVar_row (P := Try.prog) w9 (w.heap.size + 1 + 1) 28 28 (rcV 0 (.slice none 0 0) (fun _ => 0) 0 (fun _ => 0)) (0, 0) _ k4 Try.underlying28 rfl (rcV_info _ _ _ _ _)
    refine bodyPost_ret (v := .tuple #[.agg (rcV 0 (.slice none 0 0) (fun _ => 0) 0 (fun _ => 0)), .int .i64 2]) ?_ rfl ⟨⟨_, rfl, recV_zero _⟩, hB⟩
    unfold results
    simp only [Try.results22]
    simp [asAddr, hlo]
  rw [if_pos rfl]
  obtain ⟨gk1, gk2⟩ := okG_k hok2
  obtain ⟨-, -, -, -, gf1, gf2⟩ := okG_bd (show okG ⟨g.k, g.a, g.q, g.s, g.d, g.f⟩ = true from hok2)
  have hzs : ∀ (v : Value) (lim fr : Int) (c b : Nat → Int), (#[.int .i64 0, .slice none 0 0, .int .i64 0, .int .i64 0, .int .i64 0, .int .i64 0, .int .i64 0, .int .i64 0, .int .i64 0, .int .i64 0, .int .i64 0, .int .i64 0, .int .i64 0, .int .i64 0, .int .i64 0, .int .i64 0, .int .i64 0, .int .i64 0, .int .i64 0, .int .i64 0, .int .i64 0, .int .i64 0, .int .i64 0, .int .i64 0, .int .i64 0, .int .i64 0, .int .i64 0, .int .i64 0, .int .i64 0, .int .i64 0, .int .i64 0, .int .i64 0] : Array Value).size = (rcV lim v c fr b).size := fun _ _ _ _ _ => rfl
  go_enter Try.func22, Try.ntmps22
  go_upto_region 1 with fail
  have k2 := ((Blk.new w 28 (rcV lim (.slice A l.length cp) c fr b)).alloc (Obj.cells #[.int .i64 g.k, .int .i64 g.a, .int .i64 g.q, .int .i64 g.s, .int .u64 g.d, .int .i64 g.f] 43)).alloc (Obj.cells #[.int .i64 0, .slice none 0 0, .int .i64 0, .int .i64 0, .int .i64 0, .int .i64 0, .int .i64 0, .int .i64 0, .int .i64 0, .int .i64 0, .int .i64 0, .int .i64 0, .int .i64 0, .int .i64 0, .int .i64 0, .int .i64 0, .int .i64 0, .int .i64 0, .int .i64 0, .int .i64 0, .int .i64 0, .int .i64 0, .int .i64 0, .int .i64 0, .int .i64 0, .int .i64 0, .int .i64 0, .int .i64 0, .int .i64 0, .int .i64 0, .int .i64 0, .int .i64 0] 28)
  have kG := (blk_new_at (X := w.alloc (Obj.cells (rcV lim (.slice A l.length cp) c fr b) 28)) (n := w.heap.size + 1) (t := 43) (cs := #[.int .i64 g.k, .int .i64 g.a, .int .i64 g.q, .int .i64 g.s, .int .u64 g.d, .int .i64 g.f]) (by simp)).alloc (Obj.cells #[.int .i64 0, .slice none 0 0, .int .i64 0, .int .i64 0, .int .i64 0, .int .i64 0, .int .i64 0, .int .i64 0, .int .i64 0, .int .i64 0, .int .i64 0, .int .i64 0, .int .i64 0, .int .i64 0, .int .i64 0, .int .i64 0, .int .i64 0, .int .i64 0, .int .i64 0, .int .i64 0, .int .i64 0, .int .i64 0, .int .i64 0, .int .i64 0, .int .i64 0, .int .i64 0, .int .i64 0, .int .i64 0, .int .i64 0, .int .i64 0, .int .i64 0, .int .i64 0] 28)
  have k4 := blk_new_at (X := (w.alloc (Obj.cells (rcV lim (.slice A l.length cp) c fr b) 28)).alloc (Obj.cells #[.int .i64 g.k, .int .i64 g.a, .int .i64 g.q, .int .i64 g.s, .int .u64 g.d, .int .i64 g.f] 43)) (n := w.heap.size + 1 + 1) (t := 28) (cs := #[.int .i64 0, .slice none 0 0, .int .i64 0, .int .i64 0, .int .i64 0, .int .i64 0, .int .i64 0, .int .i64 0, .int .i64 0, .int .i64 0, .int .i64 0, .int .i64 0, .int .i64 0, .int .i64 0, .int .i64 0, .int .i64 0, .int .i64 0, .int .i64 0, .int .i64 0, .int .i64 0, .int .i64 0, .int .i64 0, .int .i64 0, .int .i64 0, .int .i64 0, .int .i64 0, .int .i64 0, .int .i64 0, .int .i64 0, .int .i64 0, .int .i64 0, .int .i64 0]) (by simp)
  have hB := (((Below.refl w.heap.size w).alloc (Nat.le_refl _) (Obj.cells (rcV lim (.slice A l.length cp) c fr b) 28)).alloc (by simp) (Obj.cells #[.int .i64 g.k, .int .i64 g.a, .int .i64 g.q, .int .i64 g.s, .int .u64 g.d, .int .i64 g.f] 43)).alloc (by simp; omega) (Obj.cells #[.int .i64 0, .slice none 0 0, .int .i64 0, .int .i64 0, .int .i64 0, .int .i64 0, .int .i64 0, .int .i64 0, .int .i64 0, .int .i64 0, .int .i64 0, .int .i64 0, .int .i64 0, .int .i64 0, .int .i64 0, .int .i64 0, .int .i64 0, .int .i64 0, .int .i64 0, .int .i64 0, .int .i64 0, .int .i64 0, .int .i64 0, .int .i64 0, .int .i64 0, .int .i64 0, .int .i64 0, .int .i64 0, .int .i64 0, .int .i64 0, .int .i64 0, .int .i64 0] 28)
  generalize World.alloc (World.alloc (World.alloc w _) _) _ = w1 at *
  refine wp_region_lit ?_
  refine wpList_load_row rfl _ rfl rfl k2 Try.underlying28 rfl (rcV_info _ _ _ _ _) ?_
  go_wp2_with fail
  refine (hvv _ (hg.grows hB)).mono ?_
  rintro e w2 ⟨rfl, hq⟩
  replace k2 := k2.grows hq
  replace kG := kG.grows hq
  replace k4 := k4.grows hq
  replace hB := below_grows hB (Nat.le_refl _) hq
  clear hq hvv
  have xG := kG.cell
  go_wp2_with fail
  clear xG
  refine (grvalid_any g.k g.a g.q g.s g.d g.f _).mono ?_
  rintro e w3 ⟨rfl, hq⟩
  rw [show okG ⟨g.k, g.a, g.q, g.s, g.d, g.f⟩ = okG g from rfl, hok2]
  replace k2 := k2.grows hq
  replace kG := kG.grows hq
  replace k4 := k4.grows hq
  replace hB := below_grows hB (Nat.le_refl _) hq
  clear hq
  have x1 := k2.cell 1
  rw [rcV_1] at x1
  have z1 := k2.lt
  go_upto_region 5 with fail
  refine wp_region_lit ?_
  iterate 3
    refine wpList_plain rfl (fun K hK => ?_)
    go_simp
    refine hK _ _ ?_
    clear hK K
  have hown0 : (w3.alloc (Obj.cells #[] 43)).ownsRow (w.heap.size + 3) 43 6 (.slice (some ⟨w3.heap.size, 0, none⟩) 0 0) 0 [] := World.ownsRow_lit w3 #[] 0 (by have := k4.lt; omega) (by simp [maxLen]) rfl
  have hb3 : w.heap.size + 1 + 1 < w3.heap.size := k4.lt
  replace hB := hB.alloc hB.size (Obj.cells #[] 43)
  have h1 := hg.grows hB
  replace k2 := k2.alloc (Obj.cells #[] 43)
  replace kG := kG.alloc (Obj.cells #[] 43)
  replace k4 := k4.alloc (Obj.cells #[] 43)
  have hb4 : w3.heap.size < (World.alloc w3 (Obj.cells #[] 43)).heap.size := by simp
  generalize w3.heap.size = n3 at *
  generalize World.alloc w3 _ = w4 at *
  refine wpList_append_any _ rfl (.tmp 19) (.tmp 21) 24 rfl (w.heap.size + 3) 43 i0 _ 6 48 Try.underlying24 hi0 hi3 hi1 hi2 hi4 (by omega) _ 0 [] rfl hown0 w4.heap.size A l.length cp (gcells l) rfl h1 (gcells_one l) (by simp only [maxLen]; omega) (by omega) (by omega) ?_
  intro v' w5 hown hgr _
  rw [Nat.zero_add, List.nil_append] at hown
  have hge : ∀ q, (Value.slice (some ⟨n3, 0, none⟩) 0 0).ownBlock = some q → w.heap.size + 3 ≤ q := fun q hq => (hown0.lt q hq).1
  replace hB : Below w.heap.size w w5 := hB.grown hgr hB.size fun q hq => by have := hge q hq; omega
  replace k2 := k2.grown hgr (fun e => by have := hge _ e.symm; omega)
  replace kG := kG.grown hgr (fun e => by have := hge _ e.symm; omega)
  replace k4 := k4.grown hgr (fun e => by have := hge _ e.symm; omega)
  clear hgr hown0 h1 x1 hge z1
  clear hg hb4 hb3
  have hz5 : w.heap.size + 3 ≤ w5.heap.size := by have := k4.lt; omega
  obtain ⟨A2, c2, rfl, hcc⟩ : ∃ A2 c2, v' = .slice A2 l.length c2 ∧ l.length ≤ c2 := by
    obtain ⟨A2, c2, e, h, _⟩ := gls_own hown
    exact ⟨A2, c2, e, h⟩
  go_upto_if 26 with fail
  go_cut [6, 7] (fun v j wx => ∃ (jb : Bool) (l2 : List Gl), j = .bool jb ∧ (jb = true → l2 = addG l g) ∧ (jb = false → l2 = l ∧ addG l g = l ++ [g]) ∧ l2.length ≤ 100000 ∧ wx.ownsRow (w.heap.size + 3) 43 6 v l2.length (gcells l2) ∧ Below w.heap.size w wx ∧ Blk wx w.heap.size 28 (rcV lim (.slice A l.length cp) c fr b) ∧ Blk wx (w.heap.size + 1) 43 #[.int .i64 g.k, .int .i64 g.a, .int .i64 g.q, .int .i64 g.s, .int .u64 g.d, .int .i64 g.f] ∧ Blk wx (w.heap.size + 1 + 1) 28 #[.int .i64 0, .slice none 0 0, .int .i64 0, .int .i64 0, .int .i64 0, .int .i64 0, .int .i64 0, .int .i64 0, .int .i64 0, .int .i64 0, .int .i64 0, .int .i64 0, .int .i64 0, .int .i64 0, .int .i64 0, .int .i64 0, .int .i64 0, .int .i64 0, .int .i64 0, .int .i64 0, .int .i64 0, .int .i64 0, .int .i64 0, .int .i64 0, .int .i64 0, .int .i64 0, .int .i64 0, .int .i64 0, .int .i64 0, .int .i64 0, .int .i64 0, .int .i64 0])
  case first =>
    by_cases hlc : l.length = 0
    · obtain rfl : l = [] := List.length_eq_zero_iff.1 hlc
      go_wp2
      go_meet
      exact ⟨false, [], rfl, (fun h => by cases h), fun _ => ⟨rfl, rfl⟩, by simp, hown, hB, k2, kG, k4⟩
    · obtain ⟨m, hm⟩ : ∃ m, l.length = m + 1 := ⟨l.length - 1, by omega⟩
      obtain ⟨x, hx, hxl⟩ := last_at l m hm
      obtain ⟨Y, jb, hY0, hY6, hY1, hYc⟩ := join_cases x g
      have vj : ∀ w1, Calls Try.prog 40 #[.agg #[.int .i64 x.k, .int .i64 x.a, .int .i64 x.q, .int .i64 x.s, .int .u64 x.d, .int .i64 x.f], .agg #[.int .i64 g.k, .int .i64 g.a, .int .i64 g.q, .int .i64 g.s, .int .u64 g.d, .int .i64 g.f]] w1 fun e w' => e = .returned (.tuple #[.agg Y, .bool jb]) ∧ Grows w1 w' := fun w1 => by
        have := rjoin_any x g w1
        rw [hY0] at this
        exact this
      obtain ⟨gq, cap, hv2, hgq, hgl⟩ := hown.form (by omega)
      obtain ⟨ad, rfl, had⟩ : ∃ ad, A2 = some ad ∧ ad.block = gq := by injection hv2 with e1 _ _; exact ⟨_, e1, rfl⟩
      have HQ := Lib.hid (And.intro hm (And.intro hYc hxl))
      clear hv2 hYc hxl hY0
      have hidx : IntKind.i64.wrap ((l.length : Int) - 1) = (m : Int) := by rw [IntWalk.i64_in _ (by omega)]; omega
      have hml : m < l.length := by omega
      clear hm
      have hgtn : decide ((0 : Int) < (l.length : Int)) = true := by simp; omega
      go_upto_region 9 with fail
      obtain ⟨S, HI, HO⟩ : ∃ S : Ran → World → Prop, Hid (∀ L w', (Below w.heap.size w w' ∧ Blk w' w.heap.size 28 (rcV lim (.slice A l.length cp) c fr b) ∧ Blk w' (w.heap.size + 1) 43 #[.int .i64 g.k, .int .i64 g.a, .int .i64 g.q, .int .i64 g.s, .int .u64 g.d, .int .i64 g.f] ∧ Blk w' (w.heap.size + 1 + 1) 28 #[.int .i64 0, .slice none 0 0, .int .i64 0, .int .i64 0, .int .i64 0, .int .i64 0, .int .i64 0, .int .i64 0, .int .i64 0, .int .i64 0, .int .i64 0, .int .i64 0, .int .i64 0, .int .i64 0, .int .i64 0, .int .i64 0, .int .i64 0, .int .i64 0, .int .i64 0, .int .i64 0, .int .i64 0, .int .i64 0, .int .i64 0, .int .i64 0, .int .i64 0, .int .i64 0, .int .i64 0, .int .i64 0, .int .i64 0, .int .i64 0, .int .i64 0, .int .i64 0] ∧ w'.ownsRow (w.heap.size + 3) 43 6 (.slice (some ad) l.length c2) l.length (gcells l) ∧ w5.heap.size ≤ w'.heap.size ∧ (L 11 = true → L 10 = true)) → S L w') ∧ Hid (∀ L w', S L w' → (Below w.heap.size w w' ∧ Blk w' w.heap.size 28 (rcV lim (.slice A l.length cp) c fr b) ∧ Blk w' (w.heap.size + 1) 43 #[.int .i64 g.k, .int .i64 g.a, .int .i64 g.q, .int .i64 g.s, .int .u64 g.d, .int .i64 g.f] ∧ Blk w' (w.heap.size + 1 + 1) 28 #[.int .i64 0, .slice none 0 0, .int .i64 0, .int .i64 0, .int .i64 0, .int .i64 0, .int .i64 0, .int .i64 0, .int .i64 0, .int .i64 0, .int .i64 0, .int .i64 0, .int .i64 0, .int .i64 0, .int .i64 0, .int .i64 0, .int .i64 0, .int .i64 0, .int .i64 0, .int .i64 0, .int .i64 0, .int .i64 0, .int .i64 0, .int .i64 0, .int .i64 0, .int .i64 0, .int .i64 0, .int .i64 0, .int .i64 0, .int .i64 0, .int .i64 0, .int .i64 0] ∧ w'.ownsRow (w.heap.size + 3) 43 6 (.slice (some ad) l.length c2) l.length (gcells l) ∧ w5.heap.size ≤ w'.heap.size ∧ (L 11 = true → L 10 = true))) := ⟨fun L w' => Below w.heap.size w w' ∧ Blk w' w.heap.size 28 (rcV lim (.slice A l.length cp) c fr b) ∧ Blk w' (w.heap.size + 1) 43 #[.int .i64 g.k, .int .i64 g.a, .int .i64 g.q, .int .i64 g.s, .int .u64 g.d, .int .i64 g.f] ∧ Blk w' (w.heap.size + 1 + 1) 28 #[.int .i64 0, .slice none 0 0, .int .i64 0, .int .i64 0, .int .i64 0, .int .i64 0, .int .i64 0, .int .i64 0, .int .i64 0, .int .i64 0, .int .i64 0, .int .i64 0, .int .i64 0, .int .i64 0, .int .i64 0, .int .i64 0, .int .i64 0, .int .i64 0, .int .i64 0, .int .i64 0, .int .i64 0, .int .i64 0, .int .i64 0, .int .i64 0, .int .i64 0, .int .i64 0, .int .i64 0, .int .i64 0, .int .i64 0, .int .i64 0, .int .i64 0, .int .i64 0] ∧ w'.ownsRow (w.heap.size + 3) 43 6 (.slice (some ad) l.length c2) l.length (gcells l) ∧ w5.heap.size ≤ w'.heap.size ∧ (L 11 = true → L 10 = true), fun _ _ h => h, fun _ _ h => h⟩
      refine wp_region_own S (Only []) 10 11 9 (fun L v w' => ∃ b, v = .pointer (some ⟨b, 0, none⟩) ∧ w5.heap.size ≤ b ∧ Blk w' b 43 (if L 11 then Y else #[.int .i64 0, .int .i64 0, .int .i64 0, .int .i64 0, .int .u64 0, .int .i64 0])) 13 77 (by kernel_rfl) (by kernel_rfl) rfl ?_ ?_ ?_
      · rintro L i v w1 w2 hi1 hi2 _ _ ⟨b, rfl, hb, kb⟩ hr
        refine ⟨b, rfl, hb, ?_⟩
        have hu : upd L i 11 = L 11 := by unfold upd; rw [if_neg (Ne.symm hi2)]
        rw [hu]
        exact kb.only hr (by simp)
      · exact HI.out _ _ ⟨below_grows hB (Nat.le_refl _) (Grows.drew' _), k2.drew, kG.drew, k4.drew, own_grows hown (Grows.drew' _), (Grows.drew' _).size, fun h => absurd h (by simp)⟩
      simp only [List.take_succ_cons, List.take_zero, List.drop_succ_cons, List.drop_zero]
      iterate 1
        refine ow_plain (by decide) (by decide) rfl (v := ?_) (a' := ?_) (fun L w1 hL hw1 => ?_) ?_ ?_
        rotate_left 2
        · obtain ⟨q0, q1, q2, q3, q4, q5, q6⟩ := HO.out _ _ hw1
          go_simp
          first | (refine step_val ?_; exact ⟨HI.out _ _ ⟨q0, q1, q2, q3, q4, q5, q6⟩, Only.refl _ _⟩)
        · simp only [Act.put, List.setIfInBounds_toArray, List.set_cons_succ, List.set_cons_zero]
          rfl
      iterate 1
        refine ow_plain (by decide) (by decide) rfl (v := ?_) (a' := ?_) (fun L w1 hL hw1 => ?_) ?_ ?_
        rotate_left 2
        · obtain ⟨q0, q1, q2, q3, q4, q5, q6⟩ := HO.out _ _ hw1
          go_simp
          first | (refine step_val ?_; exact ⟨HI.out _ _ ⟨q0, q1, q2, q3, q4, q5, q6⟩, Only.refl _ _⟩)
        · simp only [Act.put, List.setIfInBounds_toArray, List.set_cons_succ, List.set_cons_zero]
          rfl
      iterate 1
        refine ow_plain (by decide) (by decide) rfl (v := ?_) (a' := ?_) (fun L w1 hL hw1 => ?_) ?_ ?_
        rotate_left 2
        · obtain ⟨q0, q1, q2, q3, q4, q5, q6⟩ := HO.out _ _ hw1
          go_simp
          first | (refine step_val ?_; exact ⟨HI.out _ _ ⟨q0, q1, q2, q3, q4, q5, q6⟩, Only.refl _ _⟩)
        · simp only [Act.put, List.setIfInBounds_toArray, List.set_cons_succ, List.set_cons_zero]
          rfl
      iterate 1
        refine ow_plain (by decide) (by decide) rfl (v := ?_) (a' := ?_) (fun L w1 hL hw1 => ?_) ?_ ?_
        rotate_left 2
        · obtain ⟨q0, q1, q2, q3, q4, q5, q6⟩ := HO.out _ _ hw1
          go_simp
          first | (refine step_val ?_; exact ⟨HI.out _ _ ⟨q0, q1, q2, q3, q4, q5, q6⟩, Only.refl _ _⟩)
        · simp only [Act.put, List.setIfInBounds_toArray, List.set_cons_succ, List.set_cons_zero]
          rfl
      iterate 1
        refine ow_plain (by decide) (by decide) rfl (v := ?_) (a' := ?_) (fun L w1 hL hw1 => ?_) ?_ ?_
        rotate_left 2
        · obtain ⟨q0, q1, q2, q3, q4, q5, q6⟩ := HO.out _ _ hw1
          obtain ⟨c0, c1, c2, c3, c4, c5⟩ := own_cells q4 hx
          go_simp
          first | (refine step_val ?_; exact ⟨HI.out _ _ ⟨q0, q1, q2, q3, q4, q5, q6⟩, Only.refl _ _⟩)
        · simp only [Act.put, List.setIfInBounds_toArray, List.set_cons_succ, List.set_cons_zero]
          rfl
      iterate 1
        refine ow_plain (by decide) (by decide) rfl (v := ?_) (a' := ?_) (fun L w1 hL hw1 => ?_) ?_ ?_
        rotate_left 2
        · obtain ⟨q0, q1, q2, q3, q4, q5, q6⟩ := HO.out _ _ hw1
          have cG := q2.cell
          go_simp
          first | (refine step_val ?_; exact ⟨HI.out _ _ ⟨q0, q1, q2, q3, q4, q5, q6⟩, Only.refl _ _⟩)
        · simp only [Act.put, List.setIfInBounds_toArray, List.set_cons_succ, List.set_cons_zero]
          rfl
      refine ow_plain (by decide) (by decide) rfl (v := .tuple #[.agg Y, .bool jb]) (a' := ?_) (fun L w1 hL hw1 => ?_) ?_ ?_
      rotate_left 1
      · obtain ⟨q0, q1, q2, q3, q4, q5, q6⟩ := HO.out _ _ hw1
        go_simp
        refine fr_grow ?_ (fun w2 hg => ?_)
        · exact vj _
        · exact ⟨HI.out _ _ ⟨below_grows q0 (Nat.le_refl _) hg, q1.grows hg, q2.grows hg, q3.grows hg, own_grows q4 hg, Nat.le_trans q5 hg.size, q6⟩, Only.grows hg⟩
      · simp only [Act.put, List.setIfInBounds_toArray, List.set_cons_succ, List.set_cons_zero]
        rfl
      iterate 1
        refine ow_plain (by decide) (by decide) rfl (v := ?_) (a' := ?_) (fun L w1 hL hw1 => ?_) ?_ ?_
        rotate_left 2
        · obtain ⟨q0, q1, q2, q3, q4, q5, q6⟩ := HO.out _ _ hw1
          go_simp
          first | (refine step_val ?_; exact ⟨HI.out _ _ ⟨q0, q1, q2, q3, q4, q5, q6⟩, Only.refl _ _⟩)
        · simp only [Act.put, List.setIfInBounds_toArray, List.set_cons_succ, List.set_cons_zero]
          rfl
      iterate 1
        refine ow_plain (by decide) (by decide) rfl (v := ?_) (a' := ?_) (fun L w1 hL hw1 => ?_) ?_ ?_
        rotate_left 2
        · obtain ⟨q0, q1, q2, q3, q4, q5, q6⟩ := HO.out _ _ hw1
          go_simp
          first | (refine step_val ?_; exact ⟨HI.out _ _ ⟨q0, q1, q2, q3, q4, q5, q6⟩, Only.refl _ _⟩)
        · simp only [Act.put, List.setIfInBounds_toArray, List.set_cons_succ, List.set_cons_zero]
          rfl
      iterate 1
        refine ow_plain (by decide) (by decide) rfl (v := ?_) (a' := ?_) (fun L w1 hL hw1 => ?_) ?_ ?_
        rotate_left 2
        · obtain ⟨q0, q1, q2, q3, q4, q5, q6⟩ := HO.out _ _ hw1
          go_simp
          first | (refine step_val ?_; exact ⟨HI.out _ _ ⟨q0, q1, q2, q3, q4, q5, q6⟩, Only.refl _ _⟩)
        · simp only [Act.put, List.setIfInBounds_toArray, List.set_cons_succ, List.set_cons_zero]
          rfl
      refine ow_float rfl rfl (fun L w1 hL hw1 => ?_) ?_
      · obtain ⟨q0, q1, q2, q3, q4, q5, q6⟩ := HO.out _ _ hw1
        have l7 : L 10 = false := hL.1
        have l8 : L 11 = false := by
          cases h : L 11
          · rfl
          · rw [q6 h] at l7; cases l7
        have hsz := q0.size
        go_simp
        refine fr_some ⟨w1.heap.size, rfl, q5, ?_⟩ ⟨HI.out _ _ ⟨q0.alloc hsz _, q1.alloc _, q2.alloc _, q3.alloc _, q4.alloc _, by simp; omega, fun _ => rfl⟩, Only.alloc (Only.refl _ _) _⟩
        show Blk _ _ 43 (if L 11 = true then _ else _)
        rw [l8]
        exact Blk.new _ _ _
      refine ow_sink (by decide) rfl rfl rfl (fun v L w1 hL hw1 hd => ?_) ?_
      · obtain ⟨q0, q1, q2, q3, q4, q5, q6⟩ := HO.out _ _ hw1
        obtain ⟨b, rfl, hb, kb⟩ := hd
        have l8 : L 11 = false := hL.1
        have l7 : L 10 = true := hL.need 10 (by kernel_rfl)
        simp only [l8, Bool.false_eq_true, if_false] at kb
        refine step_store_row _ _ rfl rfl rfl kb (by rw [hY6]; exact gzero_info) (by rw [hY6]; rfl) hY1 ?_
        refine ⟨HI.out _ _ ⟨below_row q0 (by omega) _, q1.row_far (by omega), q2.row_far (by omega), q3.row_far (by omega), own_setRow q4 (by simp [Value.ownBlock]; omega) _, by simpa [World.setRow] using q5, fun _ => l7⟩, b, rfl, hb, ?_⟩
        show Blk _ b 43 (if true = true then _ else _)
        rw [if_pos rfl]
        exact kb.row
      iterate 1
        refine ow_plain (by decide) (by decide) rfl (v := ?_) (a' := ?_) (fun L w1 hL hw1 => ?_) ?_ ?_
        rotate_left 2
        · obtain ⟨q0, q1, q2, q3, q4, q5, q6⟩ := HO.out _ _ hw1
          go_simp
          first | (refine step_val ?_; exact ⟨HI.out _ _ ⟨q0, q1, q2, q3, q4, q5, q6⟩, Only.refl _ _⟩)
        · simp only [Act.put, List.setIfInBounds_toArray, List.set_cons_succ, List.set_cons_zero]
          rfl
      refine ow_done ?_
      rintro v L w7 hall hS ⟨bq, rfl, hbb, kb⟩
      obtain ⟨hB, k2, kG, k4, hown, hz7, -⟩ := HO.out _ _ hS
      clear hS HI HO
      rw [if_pos (hall 11 (by omega))] at kb
      simp only [Act.put, List.setIfInBounds_toArray, List.set_cons_succ, List.set_cons_zero]
      clear vj
      cases jb with
      | false =>
        go_wp2
        go_meet
        have hj : joinF x g = none := by
          rcases HQ.out.2.1 with ⟨hh, _⟩ | ⟨_, hh⟩
          · cases hh
          · exact hh
        have ha : addG l g = l ++ [g] := by simp [addG, HQ.out.2.2, hj]
        exact ⟨false, l, rfl, (fun h => by cases h), fun _ => ⟨rfl, ha⟩, hl, hown, hB, k2, kG, k4⟩
      | true =>
        obtain ⟨y, hj, rfl⟩ : ∃ y, joinF x g = some y ∧ Y = y.cs := by
          rcases HQ.out.2.1 with ⟨_, hh⟩ | ⟨hh, _⟩
          · exact hh
          · cases hh
        have ha : addG l g = l.set m y := by rw [set_last l m y HQ.out.1]; simp [addG, HQ.out.2.2, hj]
        have HA := Lib.hid ha
        clear ha hj HQ
        have xb := kb.cell
        simp only [Gl.cs] at xb
        obtain ⟨g2, rfl, hpa, _⟩ := own_addr hown (by omega) m
        have HC := own_cells hown hx
        have HF := own_froz hown (by omega) m
        have hown2 := own_put hown hml y
        have hgg : g2 = gq := had
        have hB2 := put_below hB (p := (⟨g2, 0, none⟩ : Addr).add (m * 6)) (by rw [hpa]; simp; omega) y
        have k22 := put_blk k2 (p := (⟨g2, 0, none⟩ : Addr).add (m * 6)) (by rw [hpa]; simp; omega) y
        have kG2 := put_blk kG (p := (⟨g2, 0, none⟩ : Addr).add (m * 6)) (by rw [hpa]; simp; omega) y
        have k42 := put_blk k4 (p := (⟨g2, 0, none⟩ : Addr).add (m * 6)) (by rw [hpa]; simp; omega) y
        rw [hpa] at HC HF hown2 hB2 k22 kG2 k42
        simp only [CellsG, FrozG] at HC HF
        obtain ⟨c0, c1, c3, c4, c5, c6⟩ := HC
        obtain ⟨f0, f1, f2, f3, f4, f5⟩ := HF
        clear hB k2 kG k4 had hgg
        go_upto_region 11 with fail
        refine wp_region_lit ?_
        iterate 5
          refine wpList_plain rfl (fun K hK => ?_)
          go_simp
          refine hK _ _ ?_
          clear hK K
        refine wpList_plain rfl (fun K hK => ?_)
        go_simp
        refine hK _ _ ?_
        clear hK K
        change wpList _ _ _ _ _ (putG w7 ⟨g2, m * 6, none⟩ y)
        generalize putG w7 ⟨g2, m * 6, none⟩ y = w8 at *
        clear c0 c1 c3 c4 c5 c6 f0 f1 f2 f3 f4 f5 xb kb hown
        go_wp2
        go_meet
        exact ⟨true, l.set m y, rfl, fun _ => HA.out.symm, (fun h => by cases h), by simpa using hl, hown2, hB2, k22, kG2, k42⟩
  case rest =>
    clear hB k2 kG k4 hown hcc hz5
    obtain ⟨jb, l2, rfl, hj1, hj2, hl22, hown, hB, k2, kG, k4⟩ := hcut
    obtain ⟨A3, c3, rfl, hc3⟩ : ∃ A3 c3, u6 = .slice A3 l2.length c3 ∧ l2.length ≤ c3 := by
      obtain ⟨A3, c3, e, h, _⟩ := gls_own hown
      exact ⟨A3, c3, e, h⟩
    go_upto_if 44 with fail
    go_cut [6] (fun v wx => wx.ownsRow (w.heap.size + 3) 43 6 v (addG l g).length (gcells (addG l g)) ∧ (addG l g).length ≤ 100001 ∧ Below w.heap.size w wx ∧ Blk wx w.heap.size 28 (rcV lim (.slice A l.length cp) c fr b) ∧ Blk wx (w.heap.size + 1) 43 #[.int .i64 g.k, .int .i64 g.a, .int .i64 g.q, .int .i64 g.s, .int .u64 g.d, .int .i64 g.f] ∧ Blk wx (w.heap.size + 1 + 1) 28 #[.int .i64 0, .slice none 0 0, .int .i64 0, .int .i64 0, .int .i64 0, .int .i64 0, .int .i64 0, .int .i64 0, .int .i64 0, .int .i64 0, .int .i64 0, .int .i64 0, .int .i64 0, .int .i64 0, .int .i64 0, .int .i64 0, .int .i64 0, .int .i64 0, .int .i64 0, .int .i64 0, .int .i64 0, .int .i64 0, .int .i64 0, .int .i64 0, .int .i64 0, .int .i64 0, .int .i64 0, .int .i64 0, .int .i64 0, .int .i64 0, .int .i64 0, .int .i64 0])
    case first =>
      cases jb with
      | true =>
        obtain rfl := hj1 rfl
        go_wp2
        go_meet
        exact ⟨hown, by omega, hB, k2, kG, k4⟩
      | false =>
        obtain ⟨rfl, ha⟩ := hj2 rfl
        have HA := Lib.hid ha
        clear ha hj1 hj2
        have cG := kG.cell
        have z1 := kG.lt
        go_upto_region 13 with fail
        have hr := gls_lit wc g
        refine wp_region_lit ?_
        iterate 3
          refine wpList_plain rfl (fun K hK => ?_)
          go_simp
          refine hK _ _ ?_
          clear hK K
        have hown2 := hown.alloc (Obj.cells g.cs 43)
        have hB2 := hB.alloc hB.size (Obj.cells g.cs 43)
        have k22 := k2.alloc (Obj.cells g.cs 43)
        have kG2 := kG.alloc (Obj.cells g.cs 43)
        have k42 := k4.alloc (Obj.cells g.cs 43)
        refine wpList_append_any _ rfl (.tmp 45) (.tmp 47) 24 rfl (w.heap.size + 3) 43 i0 _ 6 48 Try.underlying24 hi0 hi3 hi1 hi2 hi4 (by omega) _ l2.length _ rfl hown2 (wc.alloc (Obj.cells g.cs 43)).heap.size (some ⟨wc.heap.size, 0, none⟩) 1 1 (gcells [g]) rfl hr (gcells_one [g]) (by simp only [maxLen]; omega) (by omega) (by simp; have := k4.lt; omega) ?_
        intro v1 w6 hown3 hgr3 _
        have hge : ∀ q, (Value.slice A3 l2.length c3).ownBlock = some q → w.heap.size + 3 ≤ q := fun q hq => (hown2.lt q hq).1
        have hB3 : Below w.heap.size w w6 := hB2.grown hgr3 hB2.size fun q hq => by have := hge q hq; omega
        have k23 := k22.grown hgr3 (fun e => by have := hge _ e.symm; omega)
        have kG3 := kG2.grown hgr3 (fun e => by have := hge _ e.symm; omega)
        have k43 := k42.grown hgr3 (fun e => by have := hge _ e.symm; omega)
        have hlen : (addG l2 g).length = l2.length + 1 := by rw [HA.out]; simp
        rw [show gcells l2 ++ gcells [g] = gcells (addG l2 g) by rw [HA.out]; simp [gcells], ← hlen] at hown3
        clear hown hB k2 kG k4 hr hown2 hB2 k22 kG2 k42 hgr3 hge cG z1
        go_wp2
        go_meet
        exact ⟨hown3, by omega, hB3, k23, kG3, k43⟩
    case rest =>
      clear hB k2 kG k4 hown hc3 hj1 hj2
      obtain ⟨hown, hl3, hB, k2, kG, k4⟩ := hcut
      generalize hle : addG l g = l3 at *
      have HE := Lib.hid hle
      clear hle
      obtain ⟨A4, c4, rfl, hc4, hgl, hfr⟩ := gls_own2 hown
      clear hown
      obtain ⟨kd, hkd⟩ : ∃ kd : Nat, kd = ((l3.length : Int) - lim).toNat := ⟨_, rfl⟩
      have hdef : lastG lim l3 = l3.drop kd := by rw [hkd]; rfl
      have HD := Lib.hid hdef
      have e1 : IntKind.i64.wrap ((l3.length : Int) - lim) = (l3.length : Int) - lim := IntWalk.i64_in _ (by omega)
      have e2 : max 0 ((l3.length : Int) - lim) = (kd : Int) := by omega
      have hkl : kd ≤ l3.length := by omega
      clear hkd hdef
      have x0 := k2.cell 0
      rw [rcV_0] at x0
      have x1 := k2.cell 1
      rw [rcV_1] at x1
      have f1 := k2.frozen 1
      go_upto_region 14 with fail
      refine wp_region_lit ?_
      iterate 6
        refine wpList_plain rfl (fun K hK => ?_)
        go_simp
        refine hK _ _ ?_
        clear hK K
      refine wpList_max2 rfl (.const (.int .i64 0)) (.tmp 54) _ rfl .i64 0 ((l3.length : Int) - lim) rfl rfl ?_
      rw [e2]
      iterate 3
        refine wpList_plain rfl (fun K hK => ?_)
        go_simp
        refine hK _ _ ?_
        clear hK K
      have hgl2 := gls_drop hgl hkl hc4
      have hfr2 := from_drop hfr (k := kd) (cap := c4)
      clear hgl hfr
      generalize (if c4 = kd then A4 else Option.map (fun x => x.add (kd * 6)) A4) = A5 at *
      replace k2 := k2.set_ 1 (.slice A5 (l3.length - kd) (c4 - kd))
      rw [rcV_set1] at k2
      replace kG := kG.far (p := ⟨w.heap.size, 1, none⟩) (by simp) (.slice A5 (l3.length - kd) (c4 - kd))
      replace k4 := k4.far (p := ⟨w.heap.size, 1, none⟩) (by simp; omega) (.slice A5 (l3.length - kd) (c4 - kd))
      replace hB := hB.setCell (p := ⟨w.heap.size, 1, none⟩) (Nat.le_refl _) (.slice A5 (l3.length - kd) (c4 - kd))
      replace hgl2 := hgl2.setCell hfr2 (p := ⟨w.heap.size, 1, none⟩) (show w.heap.size < w.heap.size + 3 by omega) (.slice A5 (l3.length - kd) (c4 - kd))
      generalize World.setCell wc _ _ = w7 at *
      clear x0 x1 f1
      obtain ⟨kk, hkk⟩ : ∃ kk : Nat, g.k = kk := ⟨g.k.toNat, by omega⟩
      have hk5 : kk < 5 := by omega
      have cG0 : w7.cell? ⟨w.heap.size + 1, 0, none⟩ = some (.int .i64 kk) := by rw [kG.cell, ← hkk]; rfl
      have hbk := bd_of (hcc kk hk5)
      have hbf := bd_of hfr0
      have x2 := k2.cell (2 + kk)
      rw [rcV_c _ _ _ _ _ kk hk5] at x2
      have f2 := k2.frozen (2 + kk)
      go_upto_region 15 with fail
      go_region
      have k22 : Blk (w7.setCell ⟨w.heap.size, 2 + kk, none⟩ (.int .i64 (min (c kk + 1) 1099511627776))).drew w.heap.size 28 (rcV lim (.slice A5 (l3.length - kd) (c4 - kd)) (upB c kk (min (c kk + 1) 1099511627776)) fr b) := by
        have := k2.set_ (2 + kk) (.int .i64 (min (c kk + 1) 1099511627776))
        rw [rcV_setc _ _ _ _ _ kk hk5] at this
        exact this
      have kG2 : Blk (w7.setCell ⟨w.heap.size, 2 + kk, none⟩ (.int .i64 (min (c kk + 1) 1099511627776))).drew (w.heap.size + 1) 43 #[.int .i64 g.k, .int .i64 g.a, .int .i64 g.q, .int .i64 g.s, .int .u64 g.d, .int .i64 g.f] := kG.far (by simp) _
      have k42 : Blk (w7.setCell ⟨w.heap.size, 2 + kk, none⟩ (.int .i64 (min (c kk + 1) 1099511627776))).drew (w.heap.size + 1 + 1) 28 #[.int .i64 0, .slice none 0 0, .int .i64 0, .int .i64 0, .int .i64 0, .int .i64 0, .int .i64 0, .int .i64 0, .int .i64 0, .int .i64 0, .int .i64 0, .int .i64 0, .int .i64 0, .int .i64 0, .int .i64 0, .int .i64 0, .int .i64 0, .int .i64 0, .int .i64 0, .int .i64 0, .int .i64 0, .int .i64 0, .int .i64 0, .int .i64 0, .int .i64 0, .int .i64 0, .int .i64 0, .int .i64 0, .int .i64 0, .int .i64 0, .int .i64 0, .int .i64 0] := k4.far (by simp; omega) _
      have hB2 : Below w.heap.size w (w7.setCell ⟨w.heap.size, 2 + kk, none⟩ (.int .i64 (min (c kk + 1) 1099511627776))).drew := below_grows (hB.setCell (p := ⟨w.heap.size, 2 + kk, none⟩) (Nat.le_refl _) _) (Nat.le_refl _) (Grows.drew' _)
      have hgl3 : Gls (w7.setCell ⟨w.heap.size, 2 + kk, none⟩ (.int .i64 (min (c kk + 1) 1099511627776))).drew A5 (l3.drop kd) := (hgl2.setCell hfr2 (p := ⟨w.heap.size, 2 + kk, none⟩) (show w.heap.size < w.heap.size + 3 by omega) _)
      generalize World.drew _ = w8 at *
      clear x2 f2 cG0 k2 kG k4 hB hgl2
      have x7 := k22.cell 7
      rw [rcV_7] at x7
      have f7 := k22.frozen 7
      have cG5 := kG2.cell 5
      go_upto_region 17 with fail
      replace k22 := k22.set_ 7 (.int .i64 (min (fr + g.f) 1099511627776))
      rw [rcV_set7] at k22
      replace k42 := k42.far (p := ⟨w.heap.size, 7, none⟩) (by simp; omega) (.int .i64 (min (fr + g.f) 1099511627776))
      replace hB2 := hB2.setCell (p := ⟨w.heap.size, 7, none⟩) (Nat.le_refl _) (.int .i64 (min (fr + g.f) 1099511627776))
      replace hgl3 := hgl3.setCell hfr2 (p := ⟨w.heap.size, 7, none⟩) (show w.heap.size < w.heap.size + 3 by omega) (.int .i64 (min (fr + g.f) 1099511627776))
      generalize World.setCell w8 _ _ = w9 at *
      clear x7 f7 cG5 kG2
      refine wp_region_lit ?_
      refine wpList_load_row rfl _ rfl rfl k22 Try.underlying28 rfl (rcV_info _ _ _ _ _) ?_
      refine wpList_store_row rfl _ _ rfl rfl rfl rfl k42 (rcV_info _ _ _ _ _) (hzs _ _ _ _ _) (rcV_one _ _ _ _ _ _ _) ?_
      have k4 := k42.row (cs := (rcV lim (.slice A5 (l3.length - kd) (c4 - kd)) (upB c kk (min (c kk + 1) 1099511627776)) (min (fr + g.f) 1099511627776) b))
      have hB := below_row hB2 (g := (w.heap.size + 1 + 1)) (by omega) (rcV lim (.slice A5 (l3.length - kd) (c4 - kd)) (upB c kk (min (c kk + 1) 1099511627776)) (min (fr + g.f) 1099511627776) b)
      have hgl := hgl3.setRow hfr2 (g := (w.heap.size + 1 + 1)) (by omega) (rcV lim (.slice A5 (l3.length - kd) (c4 - kd)) (upB c kk (min (c kk + 1) 1099511627776)) (min (fr + g.f) 1099511627776) b)
      generalize World.setRow _ _ _ = w10 at *
      have hfin : lastG lim (addG l g) = l3.drop kd := by rw [HE.out, HD.out]
      have hkk2 : g.k.toNat = kk := by omega
      have HF := Lib.hid (And.intro hfin hkk2)
      clear hfin hkk2 k22 k42 hB2 hgl3
      go_wp2
      have hlo := run_loadVar_row (P := Try.prog) w10 (w.heap.size + 1 + 1) 28 28 (rcV lim (.slice A5 (l3.length - kd) (c4 - kd)) (upB c kk (min (c kk + 1) 1099511627776)) (min (fr + g.f) 1099511627776) b) (0, 0) _ k4 Try.underlying28 rfl (rcV_info _ _ _ _ _)
      refine bodyPost_ret (v := .tuple #[.agg (rcV lim (.slice A5 (l3.length - kd) (c4 - kd)) (upB c kk (min (c kk + 1) 1099511627776)) (min (fr + g.f) 1099511627776) b), .int .i64 0]) ?_ rfl ⟨⟨_, rfl, A5, c4 - kd, by simp only [HF.out.1, List.length_drop, HF.out.2]; rfl, by simp only [HF.out.1]; exact hgl⟩, hB⟩
      unfold results
      simp only [Try.results22]
      simp [asAddr, hlo]
end Go.Proofs.Ytbohbapheofpiaa
