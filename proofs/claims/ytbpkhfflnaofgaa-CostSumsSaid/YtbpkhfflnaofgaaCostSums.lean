/-
  CostSums, for every input: the law returns true, and each argument reads behind the call as it read before. No condition.
-/
import Derived.Test.YtbpkhfflnaofgaaCostB
namespace Go.Proofs.Ytbpkhfflnaofgaa
open Go.ChangeShapes Go.WideShapes Go.ChangeAt Go.RowKit
namespace CostSums
set_option maxHeartbeats 8000000 in
theorem walk (A : Option Addr) (cp : Nat) (l : List Int) (c k : Int) (w : World) (hI : Ints w A l) (hl : l.length ≤ 9223372036854775807) : Calls Try.prog 4 #[.slice A l.length cp, .int .i64 c, .int .i64 k] w fun e w' => e = .returned (.bool true) ∧ Below w.heap.size w w' := by
  have hB := Below.refl w.heap.size w
  go_enter Try.func4, Try.ntmps4
  go_wp2_with (first | (go_at_call 6; refine (sane_any _).mono ?_; rintro e w' ⟨rfl, hq⟩; first | replace hB := below_grows hB (Nat.le_refl _) hq | replace hB := below_grows (hB.alloc hB.size _) (Nat.le_refl _) hq) | (go_at_call 7; refine (mod_any _ _ _ (by omega) (by omega)).mono ?_; rintro e w' ⟨rfl, rfl⟩) | (go_at_call 12; refine (total_any _ _ l _ (hI.grows hB) hl).mono ?_; rintro e w' ⟨rfl, rfl⟩) | (go_at_call 13; refine (rtotal_any _ _ l _ (hI.grows hB) hl).mono ?_; rintro e w' ⟨rfl, rfl⟩) | (go_at_call 14; refine (share_any _ _ _).mono ?_; rintro e w' ⟨rfl, hq⟩; first | replace hB := below_grows hB (Nat.le_refl _) hq | replace hB := below_grows (hB.alloc hB.size _) (Nat.le_refl _) hq) | (go_at_call 15; refine (rshare_any _ _ _).mono ?_; rintro e w' ⟨rfl, hq⟩; first | replace hB := below_grows hB (Nat.le_refl _) hq | replace hB := below_grows (hB.alloc hB.size _) (Nat.le_refl _) hq))
  all_goals (go_ret; exact ⟨rfl, by assumption⟩)
end CostSums
namespace CostSums
theorem contract (H : Type) (enc : TypeId × Value → H) (W : World) (base : Nat) (args : Array Value) (ds gs : List (DataW H)) (before : List MemPlace)
    (hval0 : ∀ (j : Nat) t v, Try.f4.params[j]? = some t → args[j]? = some v → Value.okWide Try.prog W .any base t v)
    (hW : DataW.Whole enc Try.prog Try.f4.params.toList Rows.costSumsSpec.vars false W args.toList ds gs before)
    (hsz0 : (DataW.weightsEach Try.prog (Try.f4.params.toList ++ Rows.costSumsSpec.plain.varTypes Try.prog) (ds ++ gs)).all (· ≤ reachBytes) = true) :
    Calls Try.prog 4 args W fun e W' => ∃ v, e = .returned v ∧ Rows.costSumsSpec.post enc Try.prog Try.f4 false true false false W args v W' := by
  have key : Calls Try.prog 4 args W fun e W' => e = .returned (.bool true) ∧ Below W.heap.size W W' := by
    have hval : ∀ (j : Nat) t v, Try.f4.params[j]? = some t → args[j]? = some v → Value.okWide Try.prog W .any base t v := hval0
    obtain ⟨p, q, hA0, hV, hbe, hfz, hnd⟩ := hW
    have hA : DataW.TrodAll enc Try.prog W 0 (fun _ => true) true Try.f4.params.toList args.toList ds p := hA0
    rw [Try.params4] at hA hval
    clear hA0 hval0
    obtain ⟨v0, vs0, d0, ds0, p0, q0, hargs, rfl, rfl, h0, r0⟩ := trodAll_cons hA
    obtain ⟨v1, vs1, d1, ds1, p1, q1, rfl, rfl, rfl, h1, r1⟩ := trodAll_cons r0
    obtain ⟨v2, vs2, d2, ds2, p2, q2, rfl, rfl, rfl, h2, r2⟩ := trodAll_cons r1
    obtain ⟨rfl, rfl, rfl⟩ := trodAll_nil r2
    obtain rfl : args = #[v0, v1, v2] := by cases args; simp_all
    obtain ⟨rfl, rfl⟩ := trodVars_none hV
    have hsz : (DataW.weightsEach Try.prog (Try.f4.params.toList ++ Rows.costSumsSpec.plain.varTypes Try.prog) ([d0, d1, d2] ++ [])).all (· ≤ reachBytes) = true := hsz0
    rw [Try.params4] at hsz
    clear hsz0
    obtain ⟨A, cp, l, rfl, hI, hl, _⟩ := open_slice_ints Try.underlying31 Try.underlying3 (by kernel_rfl) (hval 0 31 v0 rfl rfl) h0
    obtain ⟨a1, rfl, rfl, rfl, w1⟩ := open_int Try.underlying3 (hval 1 3 v1 rfl rfl) h1
    obtain ⟨a2, rfl, rfl, rfl, w2⟩ := open_int Try.underlying3 (hval 2 3 v2 rfl rfl) h2
    exact CostSums.walk A cp l a1 a2 W hI hl
  refine key.mono fun e W' ⟨he, hb⟩ => ⟨_, he, law_post laid_out hW ?_ rfl (by kernel_rfl) Try.underlying4 ?_ hb⟩
  · rw [Try.params4]
    intro t ht
    simp only [List.mem_cons, List.not_mem_nil, or_false] at ht
    rcases ht with rfl | rfl | rfl <;> exact ⟨by kernel_rfl, of_decide_eq_true (by kernel_rfl)⟩
  · rw [Try.params4]
    intro ds hl
    match ds, hl with
    | [_, _, _], _ => rfl

set_option maxRecDepth 100000 in
theorem lifted (os : Os) (started : os.Started) (H : Type) (enc : TypeId × Value → H) :
    ReturnsInHanded {} Try.checked os 4 .any (Rows.costSumsSpec.pre6 enc Try.prog Try.f4 Rows.costSumsRow.domain false) (Rows.costSumsSpec.post enc Try.prog Try.f4 false true false false) := by
  refine returnsInHanded_of_change_sized (C := Try.checked) own_knob started (by kernel_rfl) Try.func4
    (ChangeSpec.witness6 (enc := enc) (C := Try.checked) false ⟨#[], #[.slice none 0 0, .int .i64 0, .int .i64 0], []⟩ 8 (by kernel_rfl) (by kernel_rfl) (by kernel_rfl) (by kernel_rfl)) ?_
  intro W base args ds gs before hval0 hW _ hsz0 _
  exact contract H enc W base args ds gs before hval0 hW hsz0

theorem over : Rows.costSumsRow.holds Try.pinned (OpenSpec.ofChange Rows.costSumsSpec) :=
  OpenClaim.holds_of_wide 4 Try.f4 rfl rfl rfl rfl rfl rfl rfl ⟨rfl, rfl, rfl, rfl, rfl⟩ rfl rfl rfl rfl rfl (by kernel_rfl) Try.func4 (by kernel_rfl)
    (of_decide_eq_true (by kernel_rfl)) (by unfold Func.isWrapper; first | (rw [if_pos (by decide +kernel)]; kernel_rfl) | (rw [if_neg (by decide +kernel)]; exact ⟨rfl, rfl⟩))
    (fun os started H enc _ => lifted os started H enc)

/-- The given statement. -/
theorem proved : Rows.CostSumsSaid := over
end CostSums
#print axioms CostSums.proved
end Go.Proofs.Ytbpkhfflnaofgaa
