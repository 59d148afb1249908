/-
  DuckSteps, for every input: the law returns true, and each argument reads behind the call as it read before. No condition.
-/
import Derived.Test.YtgmbgbjpakpihaaDuckC
import Derived.Test.YtgmbgbjpakpihaaSlice
namespace Go.Proofs.Ytgmbgbjpakpihaa
open Go.ChangeShapes Go.WideShapes Go.ChangeAt Go.RowKit
theorem open_e {H : Type} {enc : TypeId × Value → H} {w : World} {base : Nat} {spare : Nat → Bool} {held : Bool} {r : Reach} {b0 : Nat} {v : Value} {d : DataW H} {p : List MemPlace} (hv : Value.okWide Try.prog w r b0 24 v)
    (h : DataW.Trod enc Try.prog w base spare held 24 v d p) : ∃ g q : Int, v = .agg #[.int .i64 g, .int .i64 q] := by
  obtain ⟨l, rfl, hl, _⟩ := open_ints_agg (k := .i64) (n := 2) (t := 24) (fs := Try.prog.fieldsOf 24) (by kernel_rfl) (by kernel_rfl) (by kernel_rfl) (by kernel_rfl) (by kernel_rfl) hv h
  match l, hl with
  | [g, q], _ => exact ⟨g, q, rfl⟩
theorem open_s {H : Type} {enc : TypeId × Value → H} {w : World} {base : Nat} {spare : Nat → Bool} {held : Bool} {r : Reach} {b0 : Nat} {v : Value} {d : DataW H} {p : List MemPlace} (hv : Value.okWide Try.prog w r b0 26 v)
    (h : DataW.Trod enc Try.prog w base spare held 26 v d p) : ∃ a r h : Int, v = .agg #[.int .i64 a, .int .i64 r, .int .i64 h] := by
  obtain ⟨l, rfl, hl, _⟩ := open_ints_agg (k := .i64) (n := 3) (t := 26) (fs := Try.prog.fieldsOf 26) (by kernel_rfl) (by kernel_rfl) (by kernel_rfl) (by kernel_rfl) (by kernel_rfl) hv h
  match l, hl with
  | [a, r, h], _ => exact ⟨a, r, h, rfl⟩
namespace DuckSteps
set_option maxRecDepth 100000 in
set_option maxHeartbeats 32000000 in
theorem walk (A : Option Addr) (cp : Nat) (l : List Int) (g q a r h t p : Int) (w : World) (hI : Ints w A l) (hl : l.length ≤ 9223372036854775807) :
    Calls Try.prog 3 #[.slice A l.length cp, .agg #[.int .i64 g, .int .i64 q], .agg #[.int .i64 a, .int .i64 r, .int .i64 h], .int .i64 t, .int .i64 p] w fun e w' => e = .returned (.bool true) ∧ Below w.heap.size w w' := by
  have m1 := Int.emod_nonneg p (b := 500) (by omega)
  have m2 := Int.emod_lt_of_pos p (b := 500) (by omega)
  go_enter Try.func3, Try.ntmps3
  go_wp2_with fail
  refine (sane_any _).mono ?_
  rintro e w1 ⟨rfl, hq⟩
  have k6 := Blk.grows (Blk.alloc (Blk.new _ _ _) _) hq
  have k7 := Blk.grows (blk_new_at (n := w.heap.size + 1) (by simp)) hq
  have hB := below_grows (Below.alloc (Below.alloc (Below.refl w.heap.size w) (Nat.le_refl _) _) (by simp) _) (by simp <;> omega) hq
  clear hq
  go_wp2_with fail
  refine (made_any A cp l _ (hI.grows hB) hl).mono ?_
  rintro e w2 ⟨⟨g2, q2, a2, r2, h2, H2, hh2, rfl⟩, hq⟩
  replace k6 := k6.grows hq
  replace k7 := k7.grows hq
  replace hB := below_grows hB (Nat.le_refl _) hq
  clear hq
  go_wp2
  have hz := k7.lt
  have k11 := (Blk.new w2 24 #[.int .i64 g2, .int .i64 q2]).alloc (Obj.cells #[.int .i64 a2, .int .i64 r2, .int .i64 h2] 26)
  have k12 := blk_new_at (X := w2.alloc (Obj.cells #[.int .i64 g2, .int .i64 q2] 24)) (n := w2.heap.size + 1) (t := 26) (cs := #[.int .i64 a2, .int .i64 r2, .int .i64 h2]) (by simp)
  replace k6 := (k6.alloc (Obj.cells #[.int .i64 g2, .int .i64 q2] 24)).alloc (Obj.cells #[.int .i64 a2, .int .i64 r2, .int .i64 h2] 26)
  replace k7 := (k7.alloc (Obj.cells #[.int .i64 g2, .int .i64 q2] 24)).alloc (Obj.cells #[.int .i64 a2, .int .i64 r2, .int .i64 h2] 26)
  replace hB := (hB.alloc hB.size (Obj.cells #[.int .i64 g2, .int .i64 q2] 24)).alloc (by simp <;> omega) (Obj.cells #[.int .i64 a2, .int .i64 r2, .int .i64 h2] 26)
  generalize hG : w2.heap.size = G at *
  clear hG
  generalize World.alloc (World.alloc w2 (Obj.cells #[.int .i64 g2, .int .i64 q2] 24)) (Obj.cells #[.int .i64 a2, .int .i64 r2, .int .i64 h2] 26) = w3 at *
  refine wp_region_mix (fun w' => Below w.heap.size w w' ∧ Blk w' w.heap.size 24 #[.int .i64 g, .int .i64 q] ∧ Blk w' (w.heap.size + 1) 26 #[.int .i64 a, .int .i64 r, .int .i64 h] ∧ Blk w' G 24 #[.int .i64 g2, .int .i64 q2] ∧ Blk w' (G + 1) 26 #[.int .i64 a2, .int .i64 r2, .int .i64 h2]) [] 25 146 (by kernel_rfl) (by kernel_rfl) rfl ?_ float_none ?_ ?_
  · exact fun w1 w2 ⟨h0, h1, h2, h3, h4⟩ hg => ⟨below_grows h0 (Nat.le_refl _) hg, h1.grows hg, h2.grows hg, h3.grows hg, h4.grows hg⟩
  · exact ⟨hB.drew, k6.drew, k7.drew, k11.drew, k12.drew⟩
  · clear k6 k7 k11 k12 hB
    simp only [List.take_succ_cons, List.take_zero, List.drop_succ_cons, List.drop_zero]
    iterate 25
      first
        | (refine calm_no rfl rfl (a' := ?_) ?_ ?_
           rotate_left 1
           · simp only [Act.put, List.setIfInBounds_toArray, List.set_cons_succ, List.set_cons_zero]
             rfl)
        | (first | refine calm_plain rfl rfl (v := ?_) (a' := ?_) (fun w1 hw1 => ?_) ?_ ?_ | refine calm_yes rfl rfl (v := ?_) (a' := ?_) (fun w1 hw1 => ?_) ?_ ?_
           rotate_left 2
           · obtain ⟨_, j6, j7, j11, j12⟩ := hw1
             have c6 := j6.cell
             have c7 := j7.cell
             have c11 := j11.cell
             have c12 := j12.cell
             go_simp
             first | exact calm_val | (refine calm_call ?_; exact valid_any _ _ _ _ _ _) | (refine calm_call ?_; exact rvalid_any _ _ _ _ _ _)
           · simp only [Act.put, List.setIfInBounds_toArray, List.set_cons_succ, List.set_cons_zero]
             rfl)
    refine calm_done (end_none ?_)
    rintro w7 ⟨hB, k6, k7, k11, k12⟩
    go_wp2_with (go_at_call 10; refine (mod_any _ _ _ (by omega) (by omega)).mono ?_; rintro e w' ⟨rfl, rfl⟩)
    have k64 := Blk.new w7 3 #[.int .i64 t, .int .i64 (t % 262145)]
    have hz7 := k12.lt
    replace k6 := k6.alloc (Obj.cells #[.int .i64 t, .int .i64 (t % 262145)] 3)
    replace k7 := k7.alloc (Obj.cells #[.int .i64 t, .int .i64 (t % 262145)] 3)
    replace k11 := k11.alloc (Obj.cells #[.int .i64 t, .int .i64 (t % 262145)] 3)
    replace k12 := k12.alloc (Obj.cells #[.int .i64 t, .int .i64 (t % 262145)] 3)
    replace hB := hB.alloc hB.size (Obj.cells #[.int .i64 t, .int .i64 (t % 262145)] 3)
    generalize hG : w7.heap.size = G64 at *
    clear hG
    generalize World.alloc w7 (Obj.cells #[.int .i64 t, .int .i64 (t % 262145)] 3) = w8 at *
    go_loopw [66] (fun i wr => ∃ k : Nat, k ≤ 2 ∧ i = .int .i64 k ∧ Below w.heap.size w wr ∧ Blk wr w.heap.size 24 #[.int .i64 g, .int .i64 q] ∧ Blk wr (w.heap.size + 1) 26 #[.int .i64 a, .int .i64 r, .int .i64 h] ∧ Blk wr G 24 #[.int .i64 g2, .int .i64 q2] ∧ Blk wr (G + 1) 26 #[.int .i64 a2, .int .i64 r2, .int .i64 h2] ∧ Blk wr G64 3 #[.int .i64 t, .int .i64 (t % 262145)]) (fun i _ => 2 - (intOf i).toNat)
    case atStart => exact ⟨0, by omega, rfl, hB, k6, k7, k11, k12, k64⟩
    case round =>
      clear hB k6 k7 k11 k12 k64
      obtain ⟨k, hk, rfl, hB, k6, k7, k11, k12, k64⟩ := hrel
      by_cases hlt : k < 2
      · obtain ⟨tt, htt⟩ : ∃ tt : Int, (#[Value.int .i64 t, .int .i64 (t % 262145)])[k]? = some (.int .i64 tt) := by
          match k, hlt with
          | 0, _ => exact ⟨_, rfl⟩
          | 1, _ => exact ⟨_, rfl⟩
        have j0 := (k64.cell k).trans htt
        clear htt
        go_wp2_with (go_at_call 10; refine (mod_any _ _ _ (by omega) (by omega)).mono ?_; rintro e w' ⟨rfl, rfl⟩)
        have k74 := Blk.new wr 3 #[.int .i64 p, .int .i64 (16 + p % 500)]
        have hz8 := k64.lt
        replace k6 := k6.alloc (Obj.cells #[.int .i64 p, .int .i64 (16 + p % 500)] 3)
        replace k7 := k7.alloc (Obj.cells #[.int .i64 p, .int .i64 (16 + p % 500)] 3)
        replace k11 := k11.alloc (Obj.cells #[.int .i64 p, .int .i64 (16 + p % 500)] 3)
        replace k12 := k12.alloc (Obj.cells #[.int .i64 p, .int .i64 (16 + p % 500)] 3)
        replace k64 := k64.alloc (Obj.cells #[.int .i64 p, .int .i64 (16 + p % 500)] 3)
        replace hB := hB.alloc hB.size (Obj.cells #[.int .i64 p, .int .i64 (16 + p % 500)] 3)
        clear j0
        generalize hG : wr.heap.size = G74 at *
        clear hG
        generalize World.alloc wr (Obj.cells #[.int .i64 p, .int .i64 (16 + p % 500)] 3) = w9 at *
        go_loopw [76] (fun i wr => ∃ k : Nat, k ≤ 2 ∧ i = .int .i64 k ∧ Below w.heap.size w wr ∧ Blk wr w.heap.size 24 #[.int .i64 g, .int .i64 q] ∧ Blk wr (w.heap.size + 1) 26 #[.int .i64 a, .int .i64 r, .int .i64 h] ∧ Blk wr G 24 #[.int .i64 g2, .int .i64 q2] ∧ Blk wr (G + 1) 26 #[.int .i64 a2, .int .i64 r2, .int .i64 h2] ∧ Blk wr G64 3 #[.int .i64 t, .int .i64 (t % 262145)] ∧ Blk wr G74 3 #[.int .i64 p, .int .i64 (16 + p % 500)]) (fun i _ => 2 - (intOf i).toNat)
        case atStart => exact ⟨0, by omega, rfl, hB, k6, k7, k11, k12, k64, k74⟩
        case round =>
          clear hB k6 k7 k11 k12 k64 k74
          obtain ⟨n, hn, rfl, hB, k6, k7, k11, k12, k64, k74⟩ := hrel
          by_cases hnt : n < 2
          · obtain ⟨pp, hpp⟩ : ∃ pp : Int, (#[Value.int .i64 p, .int .i64 (16 + p % 500)] : Array Value)[n]? = some (.int .i64 pp) := by
              match n, hnt with
              | 0, _ => exact ⟨_, rfl⟩
              | 1, _ => exact ⟨_, rfl⟩
            have j0 := (k74.cell n).trans hpp
            clear hpp
            have x6 := k6.cell
            have x7 := k7.cell
            have x11 := k11.cell
            have x12 := k12.cell
            clear m1 m2
            go_wp2_with fail
            refine (step_any g2 q2 a2 r2 h2 tt pp _).mono ?_
            rintro e y0 ⟨rfl, hq0⟩
            replace k6 := Blk.grows (k6) hq0
            replace k7 := Blk.grows (k7) hq0
            replace k11 := Blk.grows (k11) hq0
            replace k12 := Blk.grows (k12) hq0
            replace k64 := Blk.grows (k64) hq0
            replace k74 := Blk.grows (k74) hq0
            replace hB := below_grows hB (Nat.le_refl _) hq0
            have x6 := k6.cell
            have x7 := k7.cell
            have x11 := k11.cell
            have x12 := k12.cell
            have hz9 := k74.lt
            have hz6 := k7.lt
            have hz12 := k12.lt
            have hz11 := k11.lt
            have hz5 := k6.lt
            clear hq0
            go_wp2_with fail
            refine (rstep_any g2 q2 a2 r2 h2 tt pp _).mono ?_
            rintro e y1 ⟨rfl, hq1⟩
            replace k6 := Blk.grows ((k6.alloc _).alloc _) hq1
            replace k7 := Blk.grows ((k7.alloc _).alloc _) hq1
            replace k11 := Blk.grows ((k11.alloc _).alloc _) hq1
            replace k12 := Blk.grows ((k12.alloc _).alloc _) hq1
            replace k64 := Blk.grows ((k64.alloc _).alloc _) hq1
            replace k74 := Blk.grows ((k74.alloc _).alloc _) hq1
            replace hB := below_grows ((hB.alloc hB.size _).alloc (by simp <;> omega) _) (by simp <;> omega) hq1
            have e0 := Blk.grows ((Blk.new _ _ _).alloc _) hq1
            have d0 := Blk.grows (blk_new_at (n := y0.heap.size + 1) (by simp)) hq1
            generalize hY0 : y0.heap.size = Y0 at *
            clear hY0
            have x6 := k6.cell
            have x7 := k7.cell
            have x11 := k11.cell
            have x12 := k12.cell
            have hz9 := k74.lt
            have hz6 := k7.lt
            have hz12 := k12.lt
            have hz11 := k11.lt
            have hz5 := k6.lt
            clear hq1
            go_wp2_with fail
            refine (step_any g q a r h tt pp _).mono ?_
            rintro e y2 ⟨rfl, hq2⟩
            replace k6 := Blk.grows ((k6.alloc _).alloc _) hq2
            replace k7 := Blk.grows ((k7.alloc _).alloc _) hq2
            replace k11 := Blk.grows ((k11.alloc _).alloc _) hq2
            replace k12 := Blk.grows ((k12.alloc _).alloc _) hq2
            replace k64 := Blk.grows ((k64.alloc _).alloc _) hq2
            replace k74 := Blk.grows ((k74.alloc _).alloc _) hq2
            replace hB := below_grows ((hB.alloc hB.size _).alloc (by simp <;> omega) _) (by simp <;> omega) hq2
            replace e0 := Blk.grows ((e0.alloc _).alloc _) hq2
            replace d0 := Blk.grows ((d0.alloc _).alloc _) hq2
            have e1 := Blk.grows ((Blk.new _ _ _).alloc _) hq2
            have d1 := Blk.grows (blk_new_at (n := y1.heap.size + 1) (by simp)) hq2
            generalize hY1 : y1.heap.size = Y1 at *
            clear hY1
            have x6 := k6.cell
            have x7 := k7.cell
            have x11 := k11.cell
            have x12 := k12.cell
            have hz9 := k74.lt
            have hz6 := k7.lt
            have hz12 := k12.lt
            have hz11 := k11.lt
            have hz5 := k6.lt
            clear hq2
            go_wp2_with fail
            refine (rstep_any g q a r h tt pp _).mono ?_
            rintro e y3 ⟨rfl, hq3⟩
            replace k6 := Blk.grows ((k6.alloc _).alloc _) hq3
            replace k7 := Blk.grows ((k7.alloc _).alloc _) hq3
            replace k11 := Blk.grows ((k11.alloc _).alloc _) hq3
            replace k12 := Blk.grows ((k12.alloc _).alloc _) hq3
            replace k64 := Blk.grows ((k64.alloc _).alloc _) hq3
            replace k74 := Blk.grows ((k74.alloc _).alloc _) hq3
            replace hB := below_grows ((hB.alloc hB.size _).alloc (by simp <;> omega) _) (by simp <;> omega) hq3
            replace e0 := Blk.grows ((e0.alloc _).alloc _) hq3
            replace d0 := Blk.grows ((d0.alloc _).alloc _) hq3
            replace e1 := Blk.grows ((e1.alloc _).alloc _) hq3
            replace d1 := Blk.grows ((d1.alloc _).alloc _) hq3
            have e2 := Blk.grows ((Blk.new _ _ _).alloc _) hq3
            have d2 := Blk.grows (blk_new_at (n := y2.heap.size + 1) (by simp)) hq3
            generalize hY2 : y2.heap.size = Y2 at *
            clear hY2
            have x6 := k6.cell
            have x7 := k7.cell
            have x11 := k11.cell
            have x12 := k12.cell
            have xe0 := e0.cell
            have xd0 := d0.cell
            have ze0 := d0.lt
            have zd0 := e0.lt
            have xe1 := e1.cell
            have xd1 := d1.cell
            have ze1 := d1.lt
            have zd1 := e1.lt
            have xe2 := e2.cell
            have xd2 := d2.cell
            have ze2 := d2.lt
            have zd2 := e2.lt
            have hz9 := k74.lt
            have hz6 := k7.lt
            have hz12 := k12.lt
            have hz11 := k11.lt
            have hz5 := k6.lt
            clear hq3
            go_wp2
            go_roundw
            case rel => exact ⟨n + 1, by omega, by go_num, (hB.alloc hB.size _).alloc (by simp <;> omega) _, (k6.alloc _).alloc _, (k7.alloc _).alloc _, (k11.alloc _).alloc _, (k12.alloc _).alloc _, (k64.alloc _).alloc _, (k74.alloc _).alloc _⟩
            case measure => simp [intOf]; omega
          · go_wp2
            go_roundw
            case rel => exact ⟨k + 1, by omega, by go_num, hB, k6, k7, k11, k12, k64⟩
            case measure => simp [intOf]; omega
      · go_wp2
        go_ret
        exact ⟨rfl, hB⟩
end DuckSteps
namespace DuckSteps
theorem contract (H : Type) (enc : TypeId × Value → H) (W : World) (base : Nat) (args : Array Value) (ds gs : List (DataW H)) (before : List MemPlace)
    (hval0 : ∀ (j : Nat) t v, Try.f3.params[j]? = some t → args[j]? = some v → Value.okWide Try.prog W .any base t v)
    (hW : DataW.Whole enc Try.prog Try.f3.params.toList Rows.duckStepsSpec.vars false W args.toList ds gs before)
    (hsz0 : (DataW.weightsEach Try.prog (Try.f3.params.toList ++ Rows.duckStepsSpec.plain.varTypes Try.prog) (ds ++ gs)).all (· ≤ reachBytes) = true) :
    Calls Try.prog 3 args W fun e W' => ∃ v, e = .returned v ∧ Rows.duckStepsSpec.post enc Try.prog Try.f3 false true false false W args v W' := by
  have key : Calls Try.prog 3 args W fun e W' => e = .returned (.bool true) ∧ Below W.heap.size W W' := by
    have hval : ∀ (j : Nat) t v, Try.f3.params[j]? = some t → args[j]? = some v → Value.okWide Try.prog W .any base t v := hval0
    obtain ⟨p, q, hA0, hV, hbe, hfz, hnd⟩ := hW
    have hA : DataW.TrodAll enc Try.prog W 0 (fun _ => true) true Try.f3.params.toList args.toList ds p := hA0
    rw [Try.params3] at hA hval
    clear hA0 hval0
    obtain ⟨v0, vs0, d0, ds0, p0, q0, hargs, rfl, rfl, h0, r0⟩ := trodAll_cons hA
    obtain ⟨v1, vs1, d1, ds1, p1, q1, rfl, rfl, rfl, h1, r1⟩ := trodAll_cons r0
    obtain ⟨v2, vs2, d2, ds2, p2, q2, rfl, rfl, rfl, h2, r2⟩ := trodAll_cons r1
    obtain ⟨v3, vs3, d3, ds3, p3, q3, rfl, rfl, rfl, h3, r3⟩ := trodAll_cons r2
    obtain ⟨v4, vs4, d4, ds4, p4, q4, rfl, rfl, rfl, h4, r4⟩ := trodAll_cons r3
    obtain ⟨rfl, rfl, rfl⟩ := trodAll_nil r4
    obtain rfl : args = #[v0, v1, v2, v3, v4] := by cases args; simp_all
    obtain ⟨rfl, rfl⟩ := trodVars_none hV
    have hsz : (DataW.weightsEach Try.prog (Try.f3.params.toList ++ Rows.duckStepsSpec.plain.varTypes Try.prog) ([d0, d1, d2, d3, d4] ++ [])).all (· ≤ reachBytes) = true := hsz0
    rw [Try.params3] at hsz
    clear hsz0
    obtain ⟨A, cp, l, rfl, hI, hl, _⟩ := open_slice_ints Try.underlying22 Try.underlying3 (by kernel_rfl) (hval 0 22 v0 rfl rfl) h0
    obtain ⟨g, q, rfl⟩ := open_e (hval 1 24 v1 rfl rfl) h1
    obtain ⟨a, r, h, rfl⟩ := open_s (hval 2 26 v2 rfl rfl) h2
    obtain ⟨a3, rfl, rfl, rfl, w3⟩ := open_int Try.underlying3 (hval 3 3 v3 rfl rfl) h3
    obtain ⟨a4, rfl, rfl, rfl, w4⟩ := open_int Try.underlying3 (hval 4 3 v4 rfl rfl) h4
    exact DuckSteps.walk A cp l g q a r h a3 a4 W hI hl
  refine key.mono fun e W' ⟨he, hb⟩ => ⟨_, he, law_post laid_out hW ?_ rfl (by kernel_rfl) Try.underlying4 ?_ hb⟩
  · rw [Try.params3]
    intro t ht
    simp only [List.mem_cons, List.not_mem_nil, or_false] at ht
    rcases ht with rfl | rfl | rfl | rfl | rfl <;> exact ⟨by kernel_rfl, of_decide_eq_true (by kernel_rfl)⟩
  · rw [Try.params3]
    intro ds hl
    match ds, hl with
    | [_, _, _, _, _], _ => rfl

set_option maxRecDepth 100000 in
theorem lifted (os : Os) (started : os.Started) (H : Type) (enc : TypeId × Value → H) :
    ReturnsInHanded {} Try.checked os 3 .any (Rows.duckStepsSpec.pre6 enc Try.prog Try.f3 Rows.duckStepsRow.domain false) (Rows.duckStepsSpec.post enc Try.prog Try.f3 false true false false) := by
  refine returnsInHanded_of_change_sized (C := Try.checked) own_knob started (by kernel_rfl) Try.func3
    (ChangeSpec.witness6 (enc := enc) (C := Try.checked) false ⟨#[], #[.slice none 0 0, .agg #[.int .i64 0, .int .i64 0], .agg #[.int .i64 0, .int .i64 0, .int .i64 0], .int .i64 0, .int .i64 0], []⟩ 8 (by kernel_rfl) (by kernel_rfl) (by kernel_rfl) (by kernel_rfl)) ?_
  intro W base args ds gs before hval0 hW _ hsz0 _
  exact contract H enc W base args ds gs before hval0 hW hsz0

theorem over : Rows.duckStepsRow.holds Try.pinned (OpenSpec.ofChange Rows.duckStepsSpec) :=
  OpenClaim.holds_of_wide 3 Try.f3 rfl rfl rfl rfl rfl rfl rfl ⟨rfl, rfl, rfl, rfl, rfl⟩ rfl rfl rfl rfl rfl (by kernel_rfl) Try.func3 (by kernel_rfl)
    (of_decide_eq_true (by kernel_rfl)) (by unfold Func.isWrapper; first | (rw [if_pos (by decide +kernel)]; kernel_rfl) | (rw [if_neg (by decide +kernel)]; exact ⟨rfl, rfl⟩))
    (fun os started H enc _ => lifted os started H enc)

/-- The given statement. -/
theorem proved : Rows.DuckStepsSaid := over
end DuckSteps
#print axioms DuckSteps.proved
end Go.Proofs.Ytgmbgbjpakpihaa
