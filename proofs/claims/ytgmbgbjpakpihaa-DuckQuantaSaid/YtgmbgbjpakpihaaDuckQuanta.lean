/-
  DuckQuanta, for every input: the law returns true, and each argument reads behind the call as it read before. No condition.
-/
import Derived.Test.YtgmbgbjpakpihaaDuckSteps
import Derived.Deep.DeepCutAuto
import Derived.Deep.CutBlock
namespace Go.Proofs.Ytgmbgbjpakpihaa
open Go.ChangeShapes Go.WideShapes Go.ChangeAt Go.RowKit
namespace DuckQuanta
set_option maxRecDepth 100000 in
set_option maxHeartbeats 32000000 in
theorem walk (A : Option Addr) (cp : Nat) (l : List Int) (g q a r h t : Int) (w : World) (hI : Ints w A l) (hl : l.length ≤ 9223372036854775807) :
    Calls Try.prog 4 #[.slice A l.length cp, .agg #[.int .i64 g, .int .i64 q], .agg #[.int .i64 a, .int .i64 r, .int .i64 h], .int .i64 t] w fun e w' => e = .returned (.bool true) ∧ Below w.heap.size w w' := by
  go_enter Try.func4, Try.ntmps4
  go_wp2_with fail
  refine (sane_any _).mono ?_
  rintro e w1 ⟨rfl, hq⟩
  have k6 := Blk.grows (Blk.alloc (Blk.new _ _ _) _) hq
  have k7 := Blk.grows (blk_new_at (n := w.heap.size + 1) (by simp)) hq
  have hB := below_grows (Below.alloc (Below.alloc (Below.refl w.heap.size w) (Nat.le_refl _) _) (by simp) _) (by simp <;> omega) hq
  clear hq
  go_wp2_with fail
  refine (made_any A cp l _ (hI.grows hB) hl).mono ?_
  rintro e w2 ⟨⟨g2, q2, a2, r2, h2, H2, hh2, rfl⟩, hq⟩
  replace k6 := k6.grows hq
  replace k7 := k7.grows hq
  replace hB := below_grows hB (Nat.le_refl _) hq
  clear hq
  go_upto_region 4 with fail
  have hz := k7.lt
  have k11 := (Blk.new w2 24 #[.int .i64 g2, .int .i64 q2]).alloc (Obj.cells #[.int .i64 a2, .int .i64 r2, .int .i64 h2] 26)
  have k12 := blk_new_at (X := w2.alloc (Obj.cells #[.int .i64 g2, .int .i64 q2] 24)) (n := w2.heap.size + 1) (t := 26) (cs := #[.int .i64 a2, .int .i64 r2, .int .i64 h2]) (by simp)
  replace k6 := (k6.alloc (Obj.cells #[.int .i64 g2, .int .i64 q2] 24)).alloc (Obj.cells #[.int .i64 a2, .int .i64 r2, .int .i64 h2] 26)
  replace k7 := (k7.alloc (Obj.cells #[.int .i64 g2, .int .i64 q2] 24)).alloc (Obj.cells #[.int .i64 a2, .int .i64 r2, .int .i64 h2] 26)
  replace hB := (hB.alloc hB.size (Obj.cells #[.int .i64 g2, .int .i64 q2] 24)).alloc (by simp <;> omega) (Obj.cells #[.int .i64 a2, .int .i64 r2, .int .i64 h2] 26)
  generalize hG : w2.heap.size = G at *
  clear hG
  generalize World.alloc (World.alloc w2 (Obj.cells #[.int .i64 g2, .int .i64 q2] 24)) (Obj.cells #[.int .i64 a2, .int .i64 r2, .int .i64 h2] 26) = w3 at *
  go_cut [] (fun wx => ∃ am2 rm2 : Int, Below w.heap.size w wx ∧ Blk wx w.heap.size 24 #[.int .i64 g, .int .i64 q] ∧ Blk wx (w.heap.size + 1) 26 #[.int .i64 a, .int .i64 r, .int .i64 h] ∧ Blk wx G 24 #[.int .i64 g2, .int .i64 q2] ∧ Blk wx (G + 1) 26 #[.int .i64 am2, .int .i64 rm2, .int .i64 h2])
  case first =>
    have x1 := k12.cell
    have f1 := k12.frozen
    have z6 := k6.lt
    have z7 := k7.lt
    go_wp2
    all_goals go_meet
    all_goals exact ⟨_, _, (hB.setCell (by simp <;> omega) _).setCell (by simp <;> omega) _, (k6.far (by simp <;> omega) _).far (by simp <;> omega) _, (k7.far (by simp <;> omega) _).far (by simp <;> omega) _, (k11.far (by simp <;> omega) _).far (by simp <;> omega) _, (k12.set_ 0 _).set_ 1 _⟩
  case rest =>
    clear hB k6 k7 k11 k12
    obtain ⟨am2, rm2, hB, k6, k7, k11, k12⟩ := hcut
    go_upto_region 5 with fail
    go_cut [] (fun wx => ∃ am rm : Int, Below w.heap.size w wx ∧ Blk wx w.heap.size 24 #[.int .i64 g, .int .i64 q] ∧ Blk wx (w.heap.size + 1) 26 #[.int .i64 am, .int .i64 rm, .int .i64 h] ∧ Blk wx G 24 #[.int .i64 g2, .int .i64 q2] ∧ Blk wx (G + 1) 26 #[.int .i64 am2, .int .i64 rm2, .int .i64 h2])
    case first =>
      have x1 := k7.cell
      have f1 := k7.frozen
      have z6 := k6.lt
      have z7 := k7.lt
      go_wp2
      all_goals go_meet
      all_goals exact ⟨_, _, (hB.setCell (by simp <;> omega) _).setCell (by simp <;> omega) _, (k6.far (by simp <;> omega) _).far (by simp <;> omega) _, (k7.set_ 0 _).set_ 1 _, (k11.far (by simp <;> omega) _).far (by simp <;> omega) _, (k12.far (by simp <;> omega) _).far (by simp <;> omega) _⟩
    case rest =>
      clear hB k6 k7 k11 k12
      obtain ⟨am, rm, hB, k6, k7, k11, k12⟩ := hcut
      go_wp2
      refine wp_region_mix (fun w' => Below w.heap.size w w' ∧ Blk w' w.heap.size 24 #[.int .i64 g, .int .i64 q] ∧ Blk w' (w.heap.size + 1) 26 #[.int .i64 am, .int .i64 rm, .int .i64 h] ∧ Blk w' G 24 #[.int .i64 g2, .int .i64 q2] ∧ Blk w' (G + 1) 26 #[.int .i64 am2, .int .i64 rm2, .int .i64 h2]) [] 34 67 (by kernel_rfl) (by kernel_rfl) rfl ?_ float_none ?_ ?_
      · exact fun w1 w2 ⟨h0, h1, h2, h3, h4⟩ hg => ⟨below_grows h0 (Nat.le_refl _) hg, h1.grows hg, h2.grows hg, h3.grows hg, h4.grows hg⟩
      · exact ⟨hB.drew, k6.drew, k7.drew, k11.drew, k12.drew⟩
      · clear k6 k7 k11 k12 hB
        simp only [List.take_succ_cons, List.take_zero, List.drop_succ_cons, List.drop_zero]
        iterate 34
          first
            | (refine calm_no rfl rfl (a' := ?_) ?_ ?_
               rotate_left 1
               · simp only [Act.put, List.setIfInBounds_toArray, List.set_cons_succ, List.set_cons_zero]
                 rfl)
            | (first | refine calm_plain rfl rfl (v := ?_) (a' := ?_) (fun w1 hw1 => ?_) ?_ ?_ | refine calm_yes rfl rfl (v := ?_) (a' := ?_) (fun w1 hw1 => ?_) ?_ ?_
               rotate_left 2
               · obtain ⟨_, j6, j7, j11, j12⟩ := hw1
                 have c6 := j6.cell
                 have c7 := j7.cell
                 have c11 := j11.cell
                 have c12 := j12.cell
                 go_simp
                 first | exact calm_val | (refine calm_call ?_; exact quanta_any _ _ _ _ _ _ _) | (refine calm_call ?_; exact rquanta_any _ _ _ _ _ _ _) | (refine calm_quiet ?_; refine mod_any _ _ _ ?_ ?_ <;> omega)
               · simp only [Act.put, List.setIfInBounds_toArray, List.set_cons_succ, List.set_cons_zero]
                 rfl)
        refine calm_done (end_none ?_)
        rintro w7 ⟨hB, -, -, -, -⟩
        go_wp2
        go_ret
        exact ⟨rfl, hB⟩
end DuckQuanta
namespace DuckQuanta
theorem contract (H : Type) (enc : TypeId × Value → H) (W : World) (base : Nat) (args : Array Value) (ds gs : List (DataW H)) (before : List MemPlace)
    (hval0 : ∀ (j : Nat) t v, Try.f4.params[j]? = some t → args[j]? = some v → Value.okWide Try.prog W .any base t v)
    (hW : DataW.Whole enc Try.prog Try.f4.params.toList Rows.duckQuantaSpec.vars false W args.toList ds gs before)
    (hsz0 : (DataW.weightsEach Try.prog (Try.f4.params.toList ++ Rows.duckQuantaSpec.plain.varTypes Try.prog) (ds ++ gs)).all (· ≤ reachBytes) = true) :
    Calls Try.prog 4 args W fun e W' => ∃ v, e = .returned v ∧ Rows.duckQuantaSpec.post enc Try.prog Try.f4 false true false false W args v W' := by
  have key : Calls Try.prog 4 args W fun e W' => e = .returned (.bool true) ∧ Below W.heap.size W W' := by
    have hval : ∀ (j : Nat) t v, Try.f4.params[j]? = some t → args[j]? = some v → Value.okWide Try.prog W .any base t v := hval0
    obtain ⟨p, q, hA0, hV, hbe, hfz, hnd⟩ := hW
    have hA : DataW.TrodAll enc Try.prog W 0 (fun _ => true) true Try.f4.params.toList args.toList ds p := hA0
    rw [Try.params4] at hA hval
    clear hA0 hval0
    obtain ⟨v0, vs0, d0, ds0, p0, q0, hargs, rfl, rfl, h0, r0⟩ := trodAll_cons hA
    obtain ⟨v1, vs1, d1, ds1, p1, q1, rfl, rfl, rfl, h1, r1⟩ := trodAll_cons r0
    obtain ⟨v2, vs2, d2, ds2, p2, q2, rfl, rfl, rfl, h2, r2⟩ := trodAll_cons r1
    obtain ⟨v3, vs3, d3, ds3, p3, q3, rfl, rfl, rfl, h3, r3⟩ := trodAll_cons r2
    obtain ⟨rfl, rfl, rfl⟩ := trodAll_nil r3
    obtain rfl : args = #[v0, v1, v2, v3] := by cases args; simp_all
    obtain ⟨rfl, rfl⟩ := trodVars_none hV
    have hsz : (DataW.weightsEach Try.prog (Try.f4.params.toList ++ Rows.duckQuantaSpec.plain.varTypes Try.prog) ([d0, d1, d2, d3] ++ [])).all (· ≤ reachBytes) = true := hsz0
    rw [Try.params4] at hsz
    clear hsz0
    obtain ⟨A, cp, l, rfl, hI, hl, _⟩ := open_slice_ints Try.underlying22 Try.underlying3 (by kernel_rfl) (hval 0 22 v0 rfl rfl) h0
    obtain ⟨g, q, rfl⟩ := open_e (hval 1 24 v1 rfl rfl) h1
    obtain ⟨a, r, h, rfl⟩ := open_s (hval 2 26 v2 rfl rfl) h2
    obtain ⟨a3, rfl, rfl, rfl, w3⟩ := open_int Try.underlying3 (hval 3 3 v3 rfl rfl) h3
    exact DuckQuanta.walk A cp l g q a r h a3 W hI hl
  refine key.mono fun e W' ⟨he, hb⟩ => ⟨_, he, law_post laid_out hW ?_ rfl (by kernel_rfl) Try.underlying4 ?_ hb⟩
  · rw [Try.params4]
    intro t ht
    simp only [List.mem_cons, List.not_mem_nil, or_false] at ht
    rcases ht with rfl | rfl | rfl | rfl <;> exact ⟨by kernel_rfl, of_decide_eq_true (by kernel_rfl)⟩
  · rw [Try.params4]
    intro ds hl
    match ds, hl with
    | [_, _, _, _], _ => rfl

set_option maxRecDepth 100000 in
theorem lifted (os : Os) (started : os.Started) (H : Type) (enc : TypeId × Value → H) :
    ReturnsInHanded {} Try.checked os 4 .any (Rows.duckQuantaSpec.pre6 enc Try.prog Try.f4 Rows.duckQuantaRow.domain false) (Rows.duckQuantaSpec.post enc Try.prog Try.f4 false true false false) := by
  refine returnsInHanded_of_change_sized (C := Try.checked) own_knob started (by kernel_rfl) Try.func4
    (ChangeSpec.witness6 (enc := enc) (C := Try.checked) false ⟨#[], #[.slice none 0 0, .agg #[.int .i64 0, .int .i64 0], .agg #[.int .i64 0, .int .i64 0, .int .i64 0], .int .i64 0], []⟩ 8 (by kernel_rfl) (by kernel_rfl) (by kernel_rfl) (by kernel_rfl)) ?_
  intro W base args ds gs before hval0 hW _ hsz0 _
  exact contract H enc W base args ds gs before hval0 hW hsz0

theorem over : Rows.duckQuantaRow.holds Try.pinned (OpenSpec.ofChange Rows.duckQuantaSpec) :=
  OpenClaim.holds_of_wide 4 Try.f4 rfl rfl rfl rfl rfl rfl rfl ⟨rfl, rfl, rfl, rfl, rfl⟩ rfl rfl rfl rfl rfl (by kernel_rfl) Try.func4 (by kernel_rfl)
    (of_decide_eq_true (by kernel_rfl)) (by unfold Func.isWrapper; first | (rw [if_pos (by decide +kernel)]; kernel_rfl) | (rw [if_neg (by decide +kernel)]; exact ⟨rfl, rfl⟩))
    (fun os started H enc _ => lifted os started H enc)

/-- The given statement. -/
theorem proved : Rows.DuckQuantaSaid := over
end DuckQuanta
#print axioms DuckQuanta.proved
end Go.Proofs.Ytgmbgbjpakpihaa
