/-
  ClientSteps, for every input: the law returns true, and each argument reads behind the call as it read before. No condition.
-/
import Derived.Test.YtmipggfcdmmpfaaCliC
import Derived.Test.YtmipggfcdmmpfaaSlice
import Derived.Test.YtmipggfcdmmpfaaFlat
namespace Go.Proofs.Ytmipggfcdmmpfaa
open Go.ChangeShapes Go.WideShapes Go.ChangeAt Go.RowKit
theorem open_c {H : Type} {enc : TypeId × Value → H} {w : World} {base : Nat} {spare : Nat → Bool} {held : Bool} {r : Reach} {b0 : Nat} {v : Value} {d : DataW H} {p : List MemPlace} (hv : Value.okWide Try.prog w r b0 24 v)
    (h : DataW.Trod enc Try.prog w base spare held 24 v d p) : ∃ (p g t s : Int) (d : Bool), v = .agg #[.int .i64 p, .int .i64 g, .int .i64 t, .int .i64 s, .bool d] := by
  obtain ⟨l, rfl, hf⟩ := open_kinds (t := 24) (fs := Try.prog.fieldsOf 24) (ks := [.i .i64, .i .i64, .i .i64, .i .i64, .b]) (by kernel_rfl) (by kernel_rfl) (by kernel_rfl) (by kernel_rfl) hv h
  match l, hf.len, hf with
  | [_, _, _, _, _], _, hf =>
    obtain ⟨⟨a0, rfl, _⟩, ⟨a1, rfl, _⟩, ⟨a2, rfl, _⟩, ⟨a3, rfl, _⟩, ⟨a4, rfl⟩, _⟩ := hf
    exact ⟨a0, a1, a2, a3, a4, rfl⟩
namespace ClientSteps
set_option maxRecDepth 100000 in
set_option maxHeartbeats 32000000 in
theorem walk (A : Option Addr) (cp : Nat) (l : List Int) (p g t s : Int) (d : Bool) (n pat : Int) (w : World) (hI : Ints w A l) (hl : l.length ≤ 9223372036854775807) (hn9 : n ≤ 9223372036854775807) :
    Calls Try.prog 3 #[.slice A l.length cp, .agg #[.int .i64 p, .int .i64 g, .int .i64 t, .int .i64 s, .bool d], .int .i64 n, .int .i64 pat] w fun e w' => e = .returned (.bool true) ∧ Below w.heap.size w w' := by
  have m1 := Int.emod_nonneg n (b := 200) (by omega)
  have m2 := Int.emod_lt_of_pos n (b := 200) (by omega)
  go_enter Try.func3, Try.ntmps3
  go_wp2_with fail
  refine (sane_any _).mono ?_
  rintro e w1 ⟨rfl, hq⟩
  have k5 := Blk.grows (Blk.new _ _ _) hq
  have hB := below_grows (Below.alloc (Below.refl w.heap.size w) (Nat.le_refl _) _) (by simp <;> omega) hq
  clear hq
  go_wp2_with fail
  refine (made_any A cp l _ (hI.grows hB) hl).mono ?_
  rintro e w2 ⟨⟨p2, g2, t2, s2, d2, rfl⟩, hq⟩
  replace k5 := k5.grows hq
  replace hB := below_grows hB (Nat.le_refl _) hq
  clear hq
  have x5 := k5.cell
  have z5 := k5.lt
  go_wp2
  have k34 := blk_new_at (X := w2.alloc (Obj.cells #[.int .i64 p2, .int .i64 g2, .int .i64 t2, .int .i64 s2, .bool d2] 24)) (n := w2.heap.size + 1) (t := 24) (cs := #[.int .i64 p2, .int .i64 g2, .int .i64 t2, .int .i64 s2, .bool d2, .int .i64 p, .int .i64 g, .int .i64 t, .int .i64 s, .bool d]) (by simp)
  replace k5 := (k5.alloc (Obj.cells #[.int .i64 p2, .int .i64 g2, .int .i64 t2, .int .i64 s2, .bool d2] 24)).alloc (Obj.cells #[.int .i64 p2, .int .i64 g2, .int .i64 t2, .int .i64 s2, .bool d2, .int .i64 p, .int .i64 g, .int .i64 t, .int .i64 s, .bool d] 24)
  replace hB := (hB.alloc hB.size (Obj.cells #[.int .i64 p2, .int .i64 g2, .int .i64 t2, .int .i64 s2, .bool d2] 24)).alloc (by simp <;> omega) (Obj.cells #[.int .i64 p2, .int .i64 g2, .int .i64 t2, .int .i64 s2, .bool d2, .int .i64 p, .int .i64 g, .int .i64 t, .int .i64 s, .bool d] 24)
  generalize hG : w2.heap.size + 1 = G at *
  have hzG : w.heap.size < G := by omega
  clear x5 z5 hG
  generalize World.alloc (World.alloc w2 (Obj.cells #[.int .i64 p2, .int .i64 g2, .int .i64 t2, .int .i64 s2, .bool d2] 24)) (Obj.cells #[.int .i64 p2, .int .i64 g2, .int .i64 t2, .int .i64 s2, .bool d2, .int .i64 p, .int .i64 g, .int .i64 t, .int .i64 s, .bool d] 24) = w3 at *
  go_loopw [36] (fun i wr => ∃ k : Nat, k ≤ 2 ∧ i = .int .i64 k ∧ Below w.heap.size w wr ∧ Blk wr w.heap.size 24 #[.int .i64 p, .int .i64 g, .int .i64 t, .int .i64 s, .bool d] ∧ Blk wr G 24 #[.int .i64 p2, .int .i64 g2, .int .i64 t2, .int .i64 s2, .bool d2, .int .i64 p, .int .i64 g, .int .i64 t, .int .i64 s, .bool d]) (fun i _ => 2 - (intOf i).toNat)
  case atStart => exact ⟨0, by omega, rfl, hB, k5, k34⟩
  case round =>
    clear hB k5 k34
    obtain ⟨k, hk, rfl, hB, k5, k34⟩ := hrel
    by_cases hlt : k < 2
    · obtain ⟨xp, xg, xt, xs, xd, i0, i1, i2, i3, i4⟩ : ∃ (xp xg xt xs : Int) (xd : Bool), wr.cell? ⟨G, k * 5, none⟩ = some (.int .i64 xp) ∧ wr.cell? ⟨G, k * 5 + 1, none⟩ = some (.int .i64 xg) ∧ wr.cell? ⟨G, k * 5 + 2, none⟩ = some (.int .i64 xt) ∧ wr.cell? ⟨G, k * 5 + 3, none⟩ = some (.int .i64 xs) ∧ wr.cell? ⟨G, k * 5 + 4, none⟩ = some (.bool xd) := by
        match k, hlt with
        | 0, _ => exact ⟨p2, g2, t2, s2, d2, k34.cell 0, k34.cell 1, k34.cell 2, k34.cell 3, k34.cell 4⟩
        | 1, _ => exact ⟨p, g, t, s, d, k34.cell 5, k34.cell 6, k34.cell 7, k34.cell 8, k34.cell 9⟩
      go_wp2
      have k11 := Blk.new wr 24 #[.int .i64 xp, .int .i64 xg, .int .i64 xt, .int .i64 xs, .bool xd]
      replace k5 := k5.alloc (Obj.cells #[.int .i64 xp, .int .i64 xg, .int .i64 xt, .int .i64 xs, .bool xd] 24)
      have z34 := k34.lt
      replace k34 := k34.alloc (Obj.cells #[.int .i64 xp, .int .i64 xg, .int .i64 xt, .int .i64 xs, .bool xd] 24)
      replace hB := hB.alloc hB.size (Obj.cells #[.int .i64 xp, .int .i64 xg, .int .i64 xt, .int .i64 xs, .bool xd] 24)
      clear i0 i1 i2 i3 i4
      generalize hG : wr.heap.size = G11 at *
      clear hG
      generalize World.alloc wr (Obj.cells #[.int .i64 xp, .int .i64 xg, .int .i64 xt, .int .i64 xs, .bool xd] 24) = w4 at *
      refine wp_region_mix (fun w' => Below w.heap.size w w' ∧ Blk w' w.heap.size 24 #[.int .i64 p, .int .i64 g, .int .i64 t, .int .i64 s, .bool d] ∧ Blk w' G 24 #[.int .i64 p2, .int .i64 g2, .int .i64 t2, .int .i64 s2, .bool d2, .int .i64 p, .int .i64 g, .int .i64 t, .int .i64 s, .bool d] ∧ Blk w' G11 24 #[.int .i64 xp, .int .i64 xg, .int .i64 xt, .int .i64 xs, .bool xd]) [] 19 137 (by kernel_rfl) (by kernel_rfl) rfl ?_ float_none ?_ ?_
      · exact fun w1 w2 ⟨h0, h1, h2, h3⟩ hg => ⟨below_grows h0 (Nat.le_refl _) hg, h1.grows hg, h2.grows hg, h3.grows hg⟩
      · exact ⟨hB.drew, k5.drew, k34.drew, k11.drew⟩
      · clear hB k5 k34 k11
        simp only [List.take_succ_cons, List.take_zero, List.drop_succ_cons, List.drop_zero]
        iterate 19
          first
            | (refine calm_no rfl rfl (a' := ?_) ?_ ?_
               rotate_left 1
               · simp only [Act.put, List.setIfInBounds_toArray, List.set_cons_succ, List.set_cons_zero]
                 rfl)
            | (first | refine calm_plain rfl rfl (v := ?_) (a' := ?_) (fun w1 hw1 => ?_) ?_ ?_ | refine calm_yes rfl rfl (v := ?_) (a' := ?_) (fun w1 hw1 => ?_) ?_ ?_
               rotate_left 2
               · obtain ⟨_, _, _, j11⟩ := hw1
                 have c11 := j11.cell
                 go_simp
                 first | exact calm_val | (refine calm_call ?_; exact valid_any _ _ _ _ _ _) | (refine calm_call ?_; exact rvalid_any _ _ _ _ _ _) | (refine calm_call ?_; exact state_any _ _ _ _ _ _) | (refine calm_call ?_; exact rstate_any _ _ _ _ _ _) | (refine calm_call ?_; exact die_any _ _ _ _ _ _) | (refine calm_call ?_; exact rdie_any _ _ _ _ _ _)
               · simp only [Act.put, List.setIfInBounds_toArray, List.set_cons_succ, List.set_cons_zero]
                 rfl)
        refine calm_done (end_none ?_)
        rintro w7 ⟨hB, k5, k34, k11⟩
        go_wp2_with (go_at_call 14; refine (mod_any _ _ _ (by omega) (by omega)).mono ?_; rintro e w' ⟨rfl, rfl⟩)
        have k62 := Blk.new w7 3 #[.int .i64 n, .int .i64 (n % 200)]
        have z11 := k11.lt
        replace k5 := k5.alloc (Obj.cells #[.int .i64 n, .int .i64 (n % 200)] 3)
        replace k34 := k34.alloc (Obj.cells #[.int .i64 n, .int .i64 (n % 200)] 3)
        replace k11 := k11.alloc (Obj.cells #[.int .i64 n, .int .i64 (n % 200)] 3)
        replace hB := hB.alloc hB.size (Obj.cells #[.int .i64 n, .int .i64 (n % 200)] 3)
        generalize hG : w7.heap.size = G62 at *
        clear hG
        generalize World.alloc w7 (Obj.cells #[.int .i64 n, .int .i64 (n % 200)] 3) = w8 at *
        go_loopw [64] (fun i wr => ∃ j : Nat, j ≤ 2 ∧ i = .int .i64 j ∧ Below w.heap.size w wr ∧ Blk wr w.heap.size 24 #[.int .i64 p, .int .i64 g, .int .i64 t, .int .i64 s, .bool d] ∧ Blk wr G 24 #[.int .i64 p2, .int .i64 g2, .int .i64 t2, .int .i64 s2, .bool d2, .int .i64 p, .int .i64 g, .int .i64 t, .int .i64 s, .bool d] ∧ Blk wr G11 24 #[.int .i64 xp, .int .i64 xg, .int .i64 xt, .int .i64 xs, .bool xd] ∧ Blk wr G62 3 #[.int .i64 n, .int .i64 (n % 200)]) (fun i _ => 2 - (intOf i).toNat)
        case atStart => exact ⟨0, by omega, rfl, hB, k5, k34, k11, k62⟩
        case round =>
          clear hB k5 k34 k11 k62
          obtain ⟨j, hj, rfl, hB, k5, k34, k11, k62⟩ := hrel
          by_cases hjt : j < 2
          · obtain ⟨nn, hnn, hv⟩ : ∃ nn : Int, nn ≤ 9223372036854775807 ∧ (#[Value.int .i64 n, .int .i64 (n % 200)] : Array Value)[j]? = some (.int .i64 nn) := by
              match j, hjt with
              | 0, _ => exact ⟨n, hn9, rfl⟩
              | 1, _ => exact ⟨n % 200, by omega, rfl⟩
            have j0 := (k62.cell j).trans hv
            clear hv
            have x11 := k11.cell
            clear m1 m2
            go_wp2_with fail
            refine (wrote_any xp xg xt xs nn xd _).mono ?_
            rintro e y0 ⟨rfl, hq0⟩
            replace k5 := Blk.grows k5 hq0
            replace k34 := Blk.grows k34 hq0
            replace k11 := Blk.grows k11 hq0
            replace k62 := Blk.grows k62 hq0
            replace hB := below_grows hB (Nat.le_refl _) hq0
            have x11 := k11.cell
            have z11 := k11.lt
            have z62 := k62.lt
            have z5 := k5.lt
            clear hq0
            go_wp2_with fail
            refine (rwrote_any xp xg xt xs nn xd _).mono ?_
            rintro e y1 ⟨rfl, hq1⟩
            replace k5 := Blk.grows (k5.alloc _) hq1
            replace k34 := Blk.grows (k34.alloc _) hq1
            replace k11 := Blk.grows (k11.alloc _) hq1
            replace k62 := Blk.grows (k62.alloc _) hq1
            replace hB := below_grows (hB.alloc hB.size _) (by simp <;> omega) hq1
            have e0 := Blk.grows (Blk.new _ _ _) hq1
            generalize hY0 : y0.heap.size = Y0 at *
            clear hY0
            have x11 := k11.cell
            have z11 := k11.lt
            have z62 := k62.lt
            have z5 := k5.lt
            clear hq1
            go_wp2_with fail
            refine (tick_any xp xg xt xs nn xd _ hnn).mono ?_
            rintro e y2 ⟨rfl, hq2⟩
            replace k5 := Blk.grows (k5.alloc _) hq2
            replace k34 := Blk.grows (k34.alloc _) hq2
            replace k11 := Blk.grows (k11.alloc _) hq2
            replace k62 := Blk.grows (k62.alloc _) hq2
            replace hB := below_grows (hB.alloc hB.size _) (by simp <;> omega) hq2
            replace e0 := Blk.grows (e0.alloc _) hq2
            have e1 := Blk.grows (Blk.new _ _ _) hq2
            generalize hY1 : y1.heap.size = Y1 at *
            clear hY1
            have x11 := k11.cell
            have z11 := k11.lt
            have z62 := k62.lt
            have z5 := k5.lt
            clear hq2
            go_wp2_with fail
            refine (rtick_any xp xg xt xs nn xd _ hnn).mono ?_
            rintro e y3 ⟨rfl, hq3⟩
            replace k5 := Blk.grows (k5.alloc _) hq3
            replace k34 := Blk.grows (k34.alloc _) hq3
            replace k11 := Blk.grows (k11.alloc _) hq3
            replace k62 := Blk.grows (k62.alloc _) hq3
            replace hB := below_grows (hB.alloc hB.size _) (by simp <;> omega) hq3
            replace e0 := Blk.grows (e0.alloc _) hq3
            replace e1 := Blk.grows (e1.alloc _) hq3
            have e2 := Blk.grows (Blk.new _ _ _) hq3
            generalize hY2 : y2.heap.size = Y2 at *
            clear hY2
            have x11 := k11.cell
            have z11 := k11.lt
            have xe0 := e0.cell
            have ze0 := e0.lt
            have xe1 := e1.cell
            have ze1 := e1.lt
            have xe2 := e2.cell
            have ze2 := e2.lt
            have z62 := k62.lt
            have z5 := k5.lt
            clear hq3
            go_wp2
            go_roundw
            case rel => exact ⟨j + 1, by omega, by go_num, hB.alloc hB.size _, k5.alloc _, k34.alloc _, k11.alloc _, k62.alloc _⟩
            case measure => simp [intOf]; omega
          · go_wp2
            go_roundw
            case rel => exact ⟨k + 1, by omega, by go_num, hB, k5, k34⟩
            case measure => simp [intOf]; omega
    · go_wp2_with fail
      refine (new_any pat _).mono ?_
      rintro e y0 ⟨rfl, hq⟩
      replace hB := below_grows hB (Nat.le_refl _) hq
      clear hq
      go_wp2_with fail
      refine (rnew_any pat _).mono ?_
      rintro e y1 ⟨rfl, hq⟩
      have k24 := Blk.grows (Blk.new _ _ _) hq
      replace hB := below_grows (hB.alloc hB.size _) (by simp <;> omega) hq
      have x24 := k24.cell
      have z24 := k24.lt
      clear hq
      go_wp2
      go_ret
      exact ⟨rfl, hB.alloc hB.size _⟩
end ClientSteps
namespace ClientSteps
theorem contract (H : Type) (enc : TypeId × Value → H) (W : World) (base : Nat) (args : Array Value) (ds gs : List (DataW H)) (before : List MemPlace)
    (hval0 : ∀ (j : Nat) t v, Try.f3.params[j]? = some t → args[j]? = some v → Value.okWide Try.prog W .any base t v)
    (hW : DataW.Whole enc Try.prog Try.f3.params.toList Rows.clientStepsSpec.vars false W args.toList ds gs before)
    (hsz0 : (DataW.weightsEach Try.prog (Try.f3.params.toList ++ Rows.clientStepsSpec.plain.varTypes Try.prog) (ds ++ gs)).all (· ≤ reachBytes) = true) :
    Calls Try.prog 3 args W fun e W' => ∃ v, e = .returned v ∧ Rows.clientStepsSpec.post enc Try.prog Try.f3 false true false false W args v W' := by
  have key : Calls Try.prog 3 args W fun e W' => e = .returned (.bool true) ∧ Below W.heap.size W W' := by
    have hval : ∀ (j : Nat) t v, Try.f3.params[j]? = some t → args[j]? = some v → Value.okWide Try.prog W .any base t v := hval0
    obtain ⟨p, q, hA0, hV, hbe, hfz, hnd⟩ := hW
    have hA : DataW.TrodAll enc Try.prog W 0 (fun _ => true) true Try.f3.params.toList args.toList ds p := hA0
    rw [Try.params3] at hA hval
    clear hA0 hval0
    obtain ⟨v0, vs0, d0, ds0, p0, q0, hargs, rfl, rfl, h0, r0⟩ := trodAll_cons hA
    obtain ⟨v1, vs1, d1, ds1, p1, q1, rfl, rfl, rfl, h1, r1⟩ := trodAll_cons r0
    obtain ⟨v2, vs2, d2, ds2, p2, q2, rfl, rfl, rfl, h2, r2⟩ := trodAll_cons r1
    obtain ⟨v3, vs3, d3, ds3, p3, q3, rfl, rfl, rfl, h3, r3⟩ := trodAll_cons r2
    obtain ⟨rfl, rfl, rfl⟩ := trodAll_nil r3
    obtain rfl : args = #[v0, v1, v2, v3] := by cases args; simp_all
    obtain ⟨rfl, rfl⟩ := trodVars_none hV
    have hsz : (DataW.weightsEach Try.prog (Try.f3.params.toList ++ Rows.clientStepsSpec.plain.varTypes Try.prog) ([d0, d1, d2, d3] ++ [])).all (· ≤ reachBytes) = true := hsz0
    rw [Try.params3] at hsz
    clear hsz0
    obtain ⟨A, cp, l, rfl, hI, hl, _⟩ := open_slice_ints Try.underlying22 Try.underlying3 (by kernel_rfl) (hval 0 22 v0 rfl rfl) h0
    obtain ⟨p, g, t, s, d, rfl⟩ := open_c (hval 1 24 v1 rfl rfl) h1
    obtain ⟨a2, rfl, rfl, rfl, w2⟩ := open_int Try.underlying3 (hval 2 3 v2 rfl rfl) h2
    obtain ⟨a3, rfl, rfl, rfl, w3⟩ := open_int Try.underlying3 (hval 3 3 v3 rfl rfl) h3
    have hb := (i64_bd w2).2
    exact ClientSteps.walk A cp l p g t s d a2 a3 W hI hl hb
  refine key.mono fun e W' ⟨he, hb⟩ => ⟨_, he, law_post laid_out hW ?_ rfl (by kernel_rfl) Try.underlying4 ?_ hb⟩
  · rw [Try.params3]
    intro t ht
    simp only [List.mem_cons, List.not_mem_nil, or_false] at ht
    rcases ht with rfl | rfl | rfl | rfl <;> exact ⟨by kernel_rfl, of_decide_eq_true (by kernel_rfl)⟩
  · rw [Try.params3]
    intro ds hl
    match ds, hl with
    | [_, _, _, _], _ => rfl

set_option maxRecDepth 100000 in
theorem lifted (os : Os) (started : os.Started) (H : Type) (enc : TypeId × Value → H) :
    ReturnsInHanded {} Try.checked os 3 .any (Rows.clientStepsSpec.pre6 enc Try.prog Try.f3 Rows.clientStepsRow.domain false) (Rows.clientStepsSpec.post enc Try.prog Try.f3 false true false false) := by
  refine returnsInHanded_of_change_sized (C := Try.checked) own_knob started (by kernel_rfl) Try.func3
    (ChangeSpec.witness6 (enc := enc) (C := Try.checked) false ⟨#[], #[.slice none 0 0, .agg #[.int .i64 0, .int .i64 0, .int .i64 0, .int .i64 0, .bool false], .int .i64 0, .int .i64 0], []⟩ 8 (by kernel_rfl) (by kernel_rfl) (by kernel_rfl) (by kernel_rfl)) ?_
  intro W base args ds gs before hval0 hW _ hsz0 _
  exact contract H enc W base args ds gs before hval0 hW hsz0

theorem over : Rows.clientStepsRow.holds Try.pinned (OpenSpec.ofChange Rows.clientStepsSpec) :=
  OpenClaim.holds_of_wide 3 Try.f3 rfl rfl rfl rfl rfl rfl rfl ⟨rfl, rfl, rfl, rfl, rfl⟩ rfl rfl rfl rfl rfl (by kernel_rfl) Try.func3 (by kernel_rfl)
    (of_decide_eq_true (by kernel_rfl)) (by unfold Func.isWrapper; first | (rw [if_pos (by decide +kernel)]; kernel_rfl) | (rw [if_neg (by decide +kernel)]; exact ⟨rfl, rfl⟩))
    (fun os started H enc _ => lifted os started H enc)

/-- The given statement. -/
theorem proved : Rows.ClientStepsSaid := over
end ClientSteps
#print axioms ClientSteps.proved
end Go.Proofs.Ytmipggfcdmmpfaa
