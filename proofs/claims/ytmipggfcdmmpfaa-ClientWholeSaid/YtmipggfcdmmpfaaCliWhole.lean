/-
  ClientWhole, for every input: the law returns true, and each argument reads behind the call as it read before. No condition.
-/
import Derived.Test.YtmipggfcdmmpfaaCliB
import Derived.Test.YtmipggfcdmmpfaaOpen
namespace Go.Proofs.Ytmipggfcdmmpfaa
open Go.ChangeShapes Go.WideShapes Go.ChangeAt Go.RowKit
namespace ClientWhole
theorem plain (b fr : Int) (h1 : 0 ≤ b) (h2 : 1 ≤ fr) : wholeF b fr * fr ≤ b ∧ b < (wholeF b fr + 1) * fr ∧ 0 ≤ wholeF b fr ∧ wholeF b fr ≤ b := by
  have e : wholeF b fr = b / fr := by
    unfold wholeF
    rw [if_neg (by omega)]
  rw [e]
  have h3 := Int.ediv_mul_le b (b := fr) (by omega)
  have h4 := Int.lt_ediv_add_one_mul_self b (b := fr) (by omega)
  have h5 := Int.ediv_nonneg h1 (b := fr) (by omega)
  have h6 := Int.ediv_le_self fr h1
  exact ⟨h3, h4, h5, h6⟩
set_option maxHeartbeats 8000000 in
theorem walk (b fr : Int) (hb : b ≤ 9223372036854775807) (w : World) : Calls Try.prog 5 #[.int .i64 b, .int .i64 fr] w fun e w' => e = .returned (.bool true) ∧ Below w.heap.size w w' := by
  have m1 := Int.emod_nonneg b (b := 5000) (by omega)
  have m2 := Int.emod_lt_of_pos b (b := 5000) (by omega)
  have m3 := Int.emod_nonneg fr (b := 40) (by omega)
  have m4 := Int.emod_lt_of_pos fr (b := 40) (by omega)
  obtain ⟨p1, p2, p3, p4⟩ := plain (b % 5000) (1 + fr % 40) m1 (by omega)
  obtain ⟨q1, q2⟩ : 0 ≤ wholeF (b % 5000) (1 + fr % 40) * (1 + fr % 40) ∧ (wholeF (b % 5000) (1 + fr % 40) + 1) * (1 + fr % 40) ≤ 5000 + 40 := by
    refine ⟨Int.mul_nonneg p3 (by omega), ?_⟩
    rw [Int.add_mul]
    omega
  have hB := Below.refl w.heap.size w
  go_enter Try.func5, Try.ntmps5
  go_wp2_with (first | (go_at_call 6; refine (sane_any _).mono ?_; rintro e w1 ⟨rfl, hB⟩) | (go_at_call 14; refine (mod_any _ _ _ (by omega) (by omega)).mono ?_; rintro e w' ⟨rfl, rfl⟩) | (go_at_call 25; refine (whole_any _ _ _ (by omega)).mono ?_; rintro e w' ⟨rfl, rfl⟩) | (go_at_call 26; refine (rwhole_any _ _ _ (by omega)).mono ?_; rintro e w' ⟨rfl, rfl⟩))
  all_goals go_ret
  all_goals exact ⟨rfl, hB⟩
end ClientWhole
namespace ClientWhole
theorem contract (H : Type) (enc : TypeId × Value → H) (W : World) (base : Nat) (args : Array Value) (ds gs : List (DataW H)) (before : List MemPlace)
    (hval0 : ∀ (j : Nat) t v, Try.f5.params[j]? = some t → args[j]? = some v → Value.okWide Try.prog W .any base t v)
    (hW : DataW.Whole enc Try.prog Try.f5.params.toList Rows.clientWholeSpec.vars false W args.toList ds gs before)
    (hsz0 : (DataW.weightsEach Try.prog (Try.f5.params.toList ++ Rows.clientWholeSpec.plain.varTypes Try.prog) (ds ++ gs)).all (· ≤ reachBytes) = true) :
    Calls Try.prog 5 args W fun e W' => ∃ v, e = .returned v ∧ Rows.clientWholeSpec.post enc Try.prog Try.f5 false true false false W args v W' := by
  have key : Calls Try.prog 5 args W fun e W' => e = .returned (.bool true) ∧ Below W.heap.size W W' := by
    have hval : ∀ (j : Nat) t v, Try.f5.params[j]? = some t → args[j]? = some v → Value.okWide Try.prog W .any base t v := hval0
    obtain ⟨p, q, hA0, hV, hbe, hfz, hnd⟩ := hW
    have hA : DataW.TrodAll enc Try.prog W 0 (fun _ => true) true Try.f5.params.toList args.toList ds p := hA0
    rw [Try.params5] at hA hval
    clear hA0 hval0
    obtain ⟨v0, vs0, d0, ds0, p0, q0, hargs, rfl, rfl, h0, r0⟩ := trodAll_cons hA
    obtain ⟨v1, vs1, d1, ds1, p1, q1, rfl, rfl, rfl, h1, r1⟩ := trodAll_cons r0
    obtain ⟨rfl, rfl, rfl⟩ := trodAll_nil r1
    obtain rfl : args = #[v0, v1] := by cases args; simp_all
    obtain ⟨rfl, rfl⟩ := trodVars_none hV
    have hsz : (DataW.weightsEach Try.prog (Try.f5.params.toList ++ Rows.clientWholeSpec.plain.varTypes Try.prog) ([d0, d1] ++ [])).all (· ≤ reachBytes) = true := hsz0
    rw [Try.params5] at hsz
    clear hsz0
    obtain ⟨a0, rfl, rfl, rfl, w0⟩ := open_int Try.underlying3 (hval 0 3 v0 rfl rfl) h0
    obtain ⟨a1, rfl, rfl, rfl, w1⟩ := open_int Try.underlying3 (hval 1 3 v1 rfl rfl) h1
    have hb := (i64_bd w0).2
    exact ClientWhole.walk a0 a1 hb W
  refine key.mono fun e W' ⟨he, hb⟩ => ⟨_, he, law_post laid_out hW ?_ rfl (by kernel_rfl) Try.underlying4 ?_ hb⟩
  · rw [Try.params5]
    intro t ht
    simp only [List.mem_cons, List.not_mem_nil, or_false] at ht
    rcases ht with rfl | rfl <;> exact ⟨by kernel_rfl, of_decide_eq_true (by kernel_rfl)⟩
  · rw [Try.params5]
    intro ds hl
    match ds, hl with
    | [_, _], _ => rfl

set_option maxRecDepth 100000 in
theorem lifted (os : Os) (started : os.Started) (H : Type) (enc : TypeId × Value → H) :
    ReturnsInHanded {} Try.checked os 5 .any (Rows.clientWholeSpec.pre6 enc Try.prog Try.f5 Rows.clientWholeRow.domain false) (Rows.clientWholeSpec.post enc Try.prog Try.f5 false true false false) := by
  refine returnsInHanded_of_change_sized (C := Try.checked) own_knob started (by kernel_rfl) Try.func5
    (ChangeSpec.witness6 (enc := enc) (C := Try.checked) false ⟨#[], #[.int .i64 0, .int .i64 0], []⟩ 8 (by kernel_rfl) (by kernel_rfl) (by kernel_rfl) (by kernel_rfl)) ?_
  intro W base args ds gs before hval0 hW _ hsz0 _
  exact contract H enc W base args ds gs before hval0 hW hsz0

theorem over : Rows.clientWholeRow.holds Try.pinned (OpenSpec.ofChange Rows.clientWholeSpec) :=
  OpenClaim.holds_of_wide 5 Try.f5 rfl rfl rfl rfl rfl rfl rfl ⟨rfl, rfl, rfl, rfl, rfl⟩ rfl rfl rfl rfl rfl (by kernel_rfl) Try.func5 (by kernel_rfl)
    (of_decide_eq_true (by kernel_rfl)) (by unfold Func.isWrapper; first | (rw [if_pos (by decide +kernel)]; kernel_rfl) | (rw [if_neg (by decide +kernel)]; exact ⟨rfl, rfl⟩))
    (fun os started H enc _ => lifted os started H enc)

/-- The given statement. -/
theorem proved : Rows.ClientWholeSaid := over
end ClientWhole
#print axioms ClientWhole.proved
end Go.Proofs.Ytmipggfcdmmpfaa
