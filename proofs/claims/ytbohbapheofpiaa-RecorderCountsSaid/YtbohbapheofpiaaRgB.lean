/-
  Layer 38: recorders, whatever they keep: New and Measure. Plain contracts of the program and of the reference.
-/
import Derived.Test.YtbohbapheofpiaaRgA
import Derived.Test.YtbohbapheofpiaaExtra
namespace Go.Proofs.Ytbohbapheofpiaa
open Go.RowKit
structure Rec where
  lim : Int
  l : List Gl
  c : Nat → Int
  fr : Int
  b : Nat → Int
def Rec.ok (R : Rec) : Bool := okR R.lim R.l R.c R.fr R.b
def Rec.zero : Rec := ⟨0, [], fun _ => 0, 0, fun _ => 0⟩
def RecV (w : World) (R : Rec) (v : Value) : Prop := ∃ A cp, v = .agg (rcV R.lim (.slice A R.l.length cp) R.c R.fr R.b) ∧ Gls w A R.l
theorem RecV.grows {w w' : World} {R : Rec} {v : Value} (h : RecV w R v) (hg : Grows w w') : RecV w' R v := by
  obtain ⟨A, cp, e, h⟩ := h
  exact ⟨A, cp, e, h.grows hg⟩
theorem gls_nil (w : World) : Gls w none [] := Reads.none_
theorem recV_zero (w : World) : RecV w Rec.zero (.agg (rcV 0 (.slice none 0 0) (fun _ => 0) 0 (fun _ => 0))) := ⟨none, 0, rfl, gls_nil w⟩
theorem recV_mk {w : World} {A : Option Addr} {l : List Gl} (h : Gls w A l) (lim fr : Int) (cp : Nat) (c b : Nat → Int) : RecV w ⟨lim, l, c, fr, b⟩ (.agg (rcV lim (.slice A l.length cp) c fr b)) := ⟨A, cp, rfl, h⟩
def bAdd (b : Nat → Int) (k : Nat) : Nat → Int := upB b k (min (b k + 1) 1099511627776)
def measF (R : Rec) (n : Int) : Rec × Int :=
  if R.ok = true then (if n < 0 then (Rec.zero, 2) else ({ R with b := bAdd R.b (min (Lib.bitLen n.toNat) 23) }, 0)) else (Rec.zero, 1)
def newF (lim : Int) : Rec × Int := if 1 ≤ lim ∧ lim ≤ 256 then (⟨lim, [], fun _ => 0, 0, fun _ => 0⟩, 0) else (Rec.zero, 2)
set_option maxHeartbeats 8000000 in
theorem newR (lim : Int) (w : World) : Calls Try.prog 8 #[.int .i64 lim] w fun e w' => (∃ v, e = .returned (.tuple #[v, .int .i64 (newF lim).2]) ∧ RecV w' (newF lim).1 v) ∧ Grows w w' := by
  have hB := (Below.refl w.heap.size w).alloc (Nat.le_refl _) (Obj.cells #[.int .i64 0, .slice none 0 0, .int .i64 0, .int .i64 0, .int .i64 0, .int .i64 0, .int .i64 0, .int .i64 0, .int .i64 0, .int .i64 0, .int .i64 0, .int .i64 0, .int .i64 0, .int .i64 0, .int .i64 0, .int .i64 0, .int .i64 0, .int .i64 0, .int .i64 0, .int .i64 0, .int .i64 0, .int .i64 0, .int .i64 0, .int .i64 0, .int .i64 0, .int .i64 0, .int .i64 0, .int .i64 0, .int .i64 0, .int .i64 0, .int .i64 0, .int .i64 0] 28)
  have k4 := Blk.new w 28 #[.int .i64 0, .slice none 0 0, .int .i64 0, .int .i64 0, .int .i64 0, .int .i64 0, .int .i64 0, .int .i64 0, .int .i64 0, .int .i64 0, .int .i64 0, .int .i64 0, .int .i64 0, .int .i64 0, .int .i64 0, .int .i64 0, .int .i64 0, .int .i64 0, .int .i64 0, .int .i64 0, .int .i64 0, .int .i64 0, .int .i64 0, .int .i64 0, .int .i64 0, .int .i64 0, .int .i64 0, .int .i64 0, .int .i64 0, .int .i64 0, .int .i64 0, .int .i64 0]
  have hGs := k4.lt
  have hzs : ∀ (v : Value) (lim fr : Int) (c b : Nat → Int), (#[.int .i64 0, .slice none 0 0, .int .i64 0, .int .i64 0, .int .i64 0, .int .i64 0, .int .i64 0, .int .i64 0, .int .i64 0, .int .i64 0, .int .i64 0, .int .i64 0, .int .i64 0, .int .i64 0, .int .i64 0, .int .i64 0, .int .i64 0, .int .i64 0, .int .i64 0, .int .i64 0, .int .i64 0, .int .i64 0, .int .i64 0, .int .i64 0, .int .i64 0, .int .i64 0, .int .i64 0, .int .i64 0, .int .i64 0, .int .i64 0, .int .i64 0, .int .i64 0] : Array Value).size = (rcV lim v c fr b).size := fun _ _ _ _ _ => rfl
  go_enter Try.func8, Try.ntmps8
  by_cases h0 : 1 ≤ lim ∧ lim ≤ 256
  · rw [show newF lim = (⟨lim, [], fun _ => 0, 0, fun _ => 0⟩, 0) from if_pos h0]
    obtain ⟨a1, a2⟩ := h0
    go_upto_region 3 with fail
    generalize World.alloc w _ = w1 at *
    refine wp_region_lit ?_
    iterate 2
      refine wpList_plain rfl (fun K hK => ?_)
      go_simp
      refine hK _ _ ?_
      clear hK K
    refine wpList_store_row (cs := rcV lim (.slice none 0 0) (fun _ => 0) 0 (fun _ => 0)) rfl _ _ rfl rfl rfl rfl k4 (rcV_info _ _ _ _ _) (hzs _ _ _ _ _) (rcV_one _ _ _ _ _ _ _) ?_
    replace k4 := k4.row (cs := rcV lim (.slice none 0 0) (fun _ => 0) 0 (fun _ => 0))
    replace hB := below_row hB (g := w.heap.size) (by omega) (rcV lim (.slice none 0 0) (fun _ => 0) 0 (fun _ => 0))
    generalize World.setRow _ _ _ = w9 at *
    go_wp2
    have hlo := run_loadVar_row (P := Try.prog) w9 w.heap.size 28 28 (rcV lim (.slice none 0 0) (fun _ => 0) 0 (fun _ => 0)) (0, 0) _ k4 Try.underlying28 rfl (rcV_info _ _ _ _ _)
    refine bodyPost_ret (v := .tuple #[.agg (rcV lim (.slice none 0 0) (fun _ => 0) 0 (fun _ => 0)), .int .i64 0]) ?_ rfl ⟨⟨_, rfl, ⟨none, 0, rfl, gls_nil _⟩⟩, hB⟩
    unfold results
    simp only [Try.results8]
    simp [asAddr, hlo]
  · rw [show newF lim = (Rec.zero, 2) from if_neg h0]
    have h2 : ∀ p : Prop, (lim < 1 ∨ 256 < lim → p) → p := fun p hp => hp (by omega)
    apply h2
    rintro (h2 | h2)
    all_goals
      clear h0
      go_upto_region 2 with fail
      refine wp_region_lit ?_
      iterate 1
        refine wpList_plain rfl (fun K hK => ?_)
        go_simp
        refine hK _ _ ?_
        clear hK K
      refine wpList_store_row (cs := (rcV 0 (.slice none 0 0) (fun _ => 0) 0 (fun _ => 0))) rfl _ _ rfl rfl rfl rfl k4 (rcV_info _ _ _ _ _) (hzs _ _ _ _ _) (rcV_one _ _ _ _ _ _ _) ?_
      replace k4 := k4.row (cs := (rcV 0 (.slice none 0 0) (fun _ => 0) 0 (fun _ => 0)))
      replace hB := below_row hB (g := w.heap.size) (by omega) (rcV 0 (.slice none 0 0) (fun _ => 0) 0 (fun _ => 0))
      generalize World.setRow (World.alloc w _) _ _ = w9 at *
      go_wp2
      have hlo := run_loadVar_row (P := Try.prog) w9 w.heap.size 28 28 (rcV 0 (.slice none 0 0) (fun _ => 0) 0 (fun _ => 0)) (0, 0) _ k4 Try.underlying28 rfl (rcV_info _ _ _ _ _)
      refine bodyPost_ret (v := .tuple #[.agg (rcV 0 (.slice none 0 0) (fun _ => 0) 0 (fun _ => 0)), .int .i64 2]) ?_ rfl ⟨⟨_, rfl, recV_zero _⟩, hB⟩
      unfold results
      simp only [Try.results8]
      simp [asAddr, hlo]
set_option maxHeartbeats 8000000 in
theorem rnewR (lim : Int) (w : World) : Calls Try.prog 25 #[.int .i64 lim] w fun e w' => (∃ v, e = .returned (.tuple #[v, .int .i64 (newF lim).2]) ∧ RecV w' (newF lim).1 v) ∧ Grows w w' := by
  have hB := (Below.refl w.heap.size w).alloc (Nat.le_refl _) (Obj.cells #[.int .i64 0, .slice none 0 0, .int .i64 0, .int .i64 0, .int .i64 0, .int .i64 0, .int .i64 0, .int .i64 0, .int .i64 0, .int .i64 0, .int .i64 0, .int .i64 0, .int .i64 0, .int .i64 0, .int .i64 0, .int .i64 0, .int .i64 0, .int .i64 0, .int .i64 0, .int .i64 0, .int .i64 0, .int .i64 0, .int .i64 0, .int .i64 0, .int .i64 0, .int .i64 0, .int .i64 0, .int .i64 0, .int .i64 0, .int .i64 0, .int .i64 0, .int .i64 0] 28)
  have k4 := Blk.new w 28 #[.int .i64 0, .slice none 0 0, .int .i64 0, .int .i64 0, .int .i64 0, .int .i64 0, .int .i64 0, .int .i64 0, .int .i64 0, .int .i64 0, .int .i64 0, .int .i64 0, .int .i64 0, .int .i64 0, .int .i64 0, .int .i64 0, .int .i64 0, .int .i64 0, .int .i64 0, .int .i64 0, .int .i64 0, .int .i64 0, .int .i64 0, .int .i64 0, .int .i64 0, .int .i64 0, .int .i64 0, .int .i64 0, .int .i64 0, .int .i64 0, .int .i64 0, .int .i64 0]
  have hGs := k4.lt
  have hzs : ∀ (v : Value) (lim fr : Int) (c b : Nat → Int), (#[.int .i64 0, .slice none 0 0, .int .i64 0, .int .i64 0, .int .i64 0, .int .i64 0, .int .i64 0, .int .i64 0, .int .i64 0, .int .i64 0, .int .i64 0, .int .i64 0, .int .i64 0, .int .i64 0, .int .i64 0, .int .i64 0, .int .i64 0, .int .i64 0, .int .i64 0, .int .i64 0, .int .i64 0, .int .i64 0, .int .i64 0, .int .i64 0, .int .i64 0, .int .i64 0, .int .i64 0, .int .i64 0, .int .i64 0, .int .i64 0, .int .i64 0, .int .i64 0] : Array Value).size = (rcV lim v c fr b).size := fun _ _ _ _ _ => rfl
  go_enter Try.func25, Try.ntmps25
  by_cases h0 : 1 ≤ lim ∧ lim ≤ 256
  · rw [show newF lim = (⟨lim, [], fun _ => 0, 0, fun _ => 0⟩, 0) from if_pos h0]
    obtain ⟨a1, a2⟩ := h0
    go_upto_region 3 with fail
    generalize World.alloc w _ = w1 at *
    refine wp_region_lit ?_
    iterate 2
      refine wpList_plain rfl (fun K hK => ?_)
      go_simp
      refine hK _ _ ?_
      clear hK K
    refine wpList_store_row (cs := rcV lim (.slice none 0 0) (fun _ => 0) 0 (fun _ => 0)) rfl _ _ rfl rfl rfl rfl k4 (rcV_info _ _ _ _ _) (hzs _ _ _ _ _) (rcV_one _ _ _ _ _ _ _) ?_
    replace k4 := k4.row (cs := rcV lim (.slice none 0 0) (fun _ => 0) 0 (fun _ => 0))
    replace hB := below_row hB (g := w.heap.size) (by omega) (rcV lim (.slice none 0 0) (fun _ => 0) 0 (fun _ => 0))
    generalize World.setRow _ _ _ = w9 at *
    go_wp2
    have hlo := run_loadVar_row (P := Try.prog) w9 w.heap.size 28 28 (rcV lim (.slice none 0 0) (fun _ => 0) 0 (fun _ => 0)) (0, 0) _ k4 Try.underlying28 rfl (rcV_info _ _ _ _ _)
    refine bodyPost_ret (v := .tuple #[.agg (rcV lim (.slice none 0 0) (fun _ => 0) 0 (fun _ => 0)), .int .i64 0]) ?_ rfl ⟨⟨_, rfl, ⟨none, 0, rfl, gls_nil _⟩⟩, hB⟩
    unfold results
    simp only [Try.results25]
    simp [asAddr, hlo]
  · rw [show newF lim = (Rec.zero, 2) from if_neg h0]
    have h2 : ∀ p : Prop, (lim < 1 ∨ 256 < lim → p) → p := fun p hp => hp (by omega)
    apply h2
    rintro (h2 | h2)
    all_goals
      clear h0
      go_upto_region 2 with fail
      refine wp_region_lit ?_
      iterate 1
        refine wpList_plain rfl (fun K hK => ?_)
        go_simp
        refine hK _ _ ?_
        clear hK K
      refine wpList_store_row (cs := (rcV 0 (.slice none 0 0) (fun _ => 0) 0 (fun _ => 0))) rfl _ _ rfl rfl rfl rfl k4 (rcV_info _ _ _ _ _) (hzs _ _ _ _ _) (rcV_one _ _ _ _ _ _ _) ?_
      replace k4 := k4.row (cs := (rcV 0 (.slice none 0 0) (fun _ => 0) 0 (fun _ => 0)))
      replace hB := below_row hB (g := w.heap.size) (by omega) (rcV 0 (.slice none 0 0) (fun _ => 0) 0 (fun _ => 0))
      generalize World.setRow (World.alloc w _) _ _ = w9 at *
      go_wp2
      have hlo := run_loadVar_row (P := Try.prog) w9 w.heap.size 28 28 (rcV 0 (.slice none 0 0) (fun _ => 0) 0 (fun _ => 0)) (0, 0) _ k4 Try.underlying28 rfl (rcV_info _ _ _ _ _)
      refine bodyPost_ret (v := .tuple #[.agg (rcV 0 (.slice none 0 0) (fun _ => 0) 0 (fun _ => 0)), .int .i64 2]) ?_ rfl ⟨⟨_, rfl, recV_zero _⟩, hB⟩
      unfold results
      simp only [Try.results25]
      simp [asAddr, hlo]
end Go.Proofs.Ytbohbapheofpiaa
