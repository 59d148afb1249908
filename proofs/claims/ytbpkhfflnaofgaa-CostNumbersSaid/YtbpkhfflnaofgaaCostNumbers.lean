/-
  CostNumbers, for every input: the law returns true, and each argument reads behind the call as it read before. No condition.
-/
import Derived.Test.YtbpkhfflnaofgaaCostB
namespace Go.Proofs.Ytbpkhfflnaofgaa
open Go.ChangeShapes Go.WideShapes Go.ChangeAt Go.RowKit
namespace CostNumbers
set_option maxRecDepth 100000 in
set_option maxHeartbeats 8000000 in
theorem walk (a b c : Int) (w : World) : Calls Try.prog 3 #[.int .i64 a, .int .i64 b, .int .i64 c] w fun e w' => e = .returned (.bool true) ∧ Below w.heap.size w w' := by
  have hB := Below.refl w.heap.size w
  go_enter Try.func3, Try.ntmps3
  go_wp2_with (first | (go_at_call 6; refine (sane_any _).mono ?_; rintro e w' ⟨rfl, hq⟩; (first | replace hB := below_grows hB (Nat.le_refl _) hq | replace hB := below_grows (hB.alloc hB.size _) (Nat.le_refl _) hq)) | (go_at_call 7; refine (mod_any _ _ _ (by omega) (by omega)).mono ?_; rintro e w' ⟨rfl, rfl⟩))
  generalize hW : World.alloc _ (Obj.cells _ 23) = w4
  have ⟨G, cs, hG, hcs, q1⟩ : ∃ (G : Nat) (cs : Array Value), G = w'.heap.size ∧ (∀ i, i < 6 → ∃ x : Int, cs[i]? = some (.int .i64 x)) ∧ Blk w4 G 23 cs := by
    rw [← hW]
    refine ⟨_, _, rfl, ?_, Blk.new _ _ _⟩
    intro i hi
    match i, hi with
    | 0, _ => exact ⟨_, rfl⟩
    | 1, _ => exact ⟨_, rfl⟩
    | 2, _ => exact ⟨_, rfl⟩
    | 3, _ => exact ⟨_, rfl⟩
    | 4, _ => exact ⟨_, rfl⟩
    | 5, _ => exact ⟨_, rfl⟩
  have q3 : Below w.heap.size w w4 := by rw [← hW]; exact hB.alloc hB.size _
  rw [← hG]
  clear hW hB hG
  go_loopw [32] (fun i wr => ∃ k : Nat, k ≤ 2 ∧ i = .int .i64 k ∧ Below w.heap.size w wr ∧ Blk wr G 23 cs) (fun i _ => 2 - (intOf i).toNat)
  case atStart => exact ⟨0, by omega, rfl, q3, q1⟩
  case round =>
    obtain ⟨k, hk, rfl, hB, h3⟩ := hrel
    by_cases hlt : k < 2
    · obtain ⟨e0, g0⟩ := hcs (k * 3) (by omega)
      obtain ⟨e1, g1⟩ := hcs (k * 3 + 1) (by omega)
      obtain ⟨e2, g2⟩ := hcs (k * 3 + 2) (by omega)
      have j0 := (h3.cell (k * 3)).trans g0
      have j1 := (h3.cell (k * 3 + 1)).trans g1
      have j2 := (h3.cell (k * 3 + 2)).trans g2
      clear g0 g1 g2 hcs
      go_wp2_with (first | (go_at_call 8; refine (stream_any _ _ _ _).mono ?_; rintro e w' ⟨rfl, hq⟩; (first | replace hB := below_grows hB (Nat.le_refl _) hq | replace hB := below_grows (hB.alloc hB.size _) (Nat.le_refl _) hq); (first | replace hE := Blk.grows hE hq | have hE := Blk.grows (Blk.new _ _ _) hq); have hx := hE.cell; (first | replace h3 := Blk.grows h3 hq | replace h3 := Blk.grows (Blk.alloc h3 _) hq)) | (go_at_call 9; refine (rstream_any _ _ _ _).mono ?_; rintro e w' ⟨rfl, hq⟩; (first | replace hB := below_grows hB (Nat.le_refl _) hq | replace hB := below_grows (hB.alloc hB.size _) (Nat.le_refl _) hq); (first | replace hE := Blk.grows hE hq | have hE := Blk.grows (Blk.new _ _ _) hq); have hx := hE.cell; (first | replace h3 := Blk.grows h3 hq | replace h3 := Blk.grows (Blk.alloc h3 _) hq)) | (go_at_call 10; refine (device_any _ _ _).mono ?_; rintro e w' ⟨rfl, hq⟩; (first | replace hB := below_grows hB (Nat.le_refl _) hq | replace hB := below_grows (hB.alloc hB.size _) (Nat.le_refl _) hq); (first | replace hE := Blk.grows hE hq | have hE := Blk.grows (Blk.new _ _ _) hq); have hx := hE.cell; (first | replace h3 := Blk.grows h3 hq | replace h3 := Blk.grows (Blk.alloc h3 _) hq)) | (go_at_call 11; refine (rdevice_any _ _ _).mono ?_; rintro e w' ⟨rfl, hq⟩; (first | replace hB := below_grows hB (Nat.le_refl _) hq | replace hB := below_grows (hB.alloc hB.size _) (Nat.le_refl _) hq); (first | replace hE := Blk.grows hE hq | have hE := Blk.grows (Blk.new _ _ _) hq); have hx := hE.cell; (first | replace h3 := Blk.grows h3 hq | replace h3 := Blk.grows (Blk.alloc h3 _) hq)))
      go_roundw
      case rel => exact ⟨k + 1, by omega, by go_num, by assumption, by assumption⟩
      case measure => simp [intOf]; omega
    · go_wp2
      go_ret
      exact ⟨rfl, hB⟩
end CostNumbers
namespace CostNumbers
theorem contract (H : Type) (enc : TypeId × Value → H) (W : World) (base : Nat) (args : Array Value) (ds gs : List (DataW H)) (before : List MemPlace)
    (hval0 : ∀ (j : Nat) t v, Try.f3.params[j]? = some t → args[j]? = some v → Value.okWide Try.prog W .any base t v)
    (hW : DataW.Whole enc Try.prog Try.f3.params.toList Rows.costNumbersSpec.vars false W args.toList ds gs before)
    (hsz0 : (DataW.weightsEach Try.prog (Try.f3.params.toList ++ Rows.costNumbersSpec.plain.varTypes Try.prog) (ds ++ gs)).all (· ≤ reachBytes) = true) :
    Calls Try.prog 3 args W fun e W' => ∃ v, e = .returned v ∧ Rows.costNumbersSpec.post enc Try.prog Try.f3 false true false false W args v W' := by
  have key : Calls Try.prog 3 args W fun e W' => e = .returned (.bool true) ∧ Below W.heap.size W W' := by
    have hval : ∀ (j : Nat) t v, Try.f3.params[j]? = some t → args[j]? = some v → Value.okWide Try.prog W .any base t v := hval0
    obtain ⟨p, q, hA0, hV, hbe, hfz, hnd⟩ := hW
    have hA : DataW.TrodAll enc Try.prog W 0 (fun _ => true) true Try.f3.params.toList args.toList ds p := hA0
    rw [Try.params3] at hA hval
    clear hA0 hval0
    obtain ⟨v0, vs0, d0, ds0, p0, q0, hargs, rfl, rfl, h0, r0⟩ := trodAll_cons hA
    obtain ⟨v1, vs1, d1, ds1, p1, q1, rfl, rfl, rfl, h1, r1⟩ := trodAll_cons r0
    obtain ⟨v2, vs2, d2, ds2, p2, q2, rfl, rfl, rfl, h2, r2⟩ := trodAll_cons r1
    obtain ⟨rfl, rfl, rfl⟩ := trodAll_nil r2
    obtain rfl : args = #[v0, v1, v2] := by cases args; simp_all
    obtain ⟨rfl, rfl⟩ := trodVars_none hV
    have hsz : (DataW.weightsEach Try.prog (Try.f3.params.toList ++ Rows.costNumbersSpec.plain.varTypes Try.prog) ([d0, d1, d2] ++ [])).all (· ≤ reachBytes) = true := hsz0
    rw [Try.params3] at hsz
    clear hsz0
    obtain ⟨a0, rfl, rfl, rfl, w0⟩ := open_int Try.underlying3 (hval 0 3 v0 rfl rfl) h0
    obtain ⟨a1, rfl, rfl, rfl, w1⟩ := open_int Try.underlying3 (hval 1 3 v1 rfl rfl) h1
    obtain ⟨a2, rfl, rfl, rfl, w2⟩ := open_int Try.underlying3 (hval 2 3 v2 rfl rfl) h2
    exact CostNumbers.walk a0 a1 a2 W
  refine key.mono fun e W' ⟨he, hb⟩ => ⟨_, he, law_post laid_out hW ?_ rfl (by kernel_rfl) Try.underlying4 ?_ hb⟩
  · rw [Try.params3]
    intro t ht
    simp only [List.mem_cons, List.not_mem_nil, or_false] at ht
    rcases ht with rfl | rfl | rfl <;> exact ⟨by kernel_rfl, of_decide_eq_true (by kernel_rfl)⟩
  · rw [Try.params3]
    intro ds hl
    match ds, hl with
    | [_, _, _], _ => rfl

set_option maxRecDepth 100000 in
theorem lifted (os : Os) (started : os.Started) (H : Type) (enc : TypeId × Value → H) :
    ReturnsInHanded {} Try.checked os 3 .any (Rows.costNumbersSpec.pre6 enc Try.prog Try.f3 Rows.costNumbersRow.domain false) (Rows.costNumbersSpec.post enc Try.prog Try.f3 false true false false) := by
  refine returnsInHanded_of_change_sized (C := Try.checked) own_knob started (by kernel_rfl) Try.func3
    (ChangeSpec.witness6 (enc := enc) (C := Try.checked) false ⟨#[], #[.int .i64 0, .int .i64 0, .int .i64 0], []⟩ 8 (by kernel_rfl) (by kernel_rfl) (by kernel_rfl) (by kernel_rfl)) ?_
  intro W base args ds gs before hval0 hW _ hsz0 _
  exact contract H enc W base args ds gs before hval0 hW hsz0

theorem over : Rows.costNumbersRow.holds Try.pinned (OpenSpec.ofChange Rows.costNumbersSpec) :=
  OpenClaim.holds_of_wide 3 Try.f3 rfl rfl rfl rfl rfl rfl rfl ⟨rfl, rfl, rfl, rfl, rfl⟩ rfl rfl rfl rfl rfl (by kernel_rfl) Try.func3 (by kernel_rfl)
    (of_decide_eq_true (by kernel_rfl)) (by unfold Func.isWrapper; first | (rw [if_pos (by decide +kernel)]; kernel_rfl) | (rw [if_neg (by decide +kernel)]; exact ⟨rfl, rfl⟩))
    (fun os started H enc _ => lifted os started H enc)

/-- The given statement. -/
theorem proved : Rows.CostNumbersSaid := over
end CostNumbers
#print axioms CostNumbers.proved
end Go.Proofs.Ytbpkhfflnaofgaa
