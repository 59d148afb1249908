/-
  DuckMoves, for every input: the law returns true, and each argument reads behind the call as it read before. No condition.
-/
import Derived.Test.YtgmbgbjpakpihaaDuckC
import Derived.Test.YtgmbgbjpakpihaaSlice
import Derived.Deep.DeepCutAuto
import Derived.Deep.CutBlock
namespace Go.Proofs.Ytgmbgbjpakpihaa
open Go.ChangeShapes Go.WideShapes Go.ChangeAt Go.RowKit
namespace DuckMoves
theorem quanta_few {g q a r h t : Int} (H : okD g q a r h = true) (h1 : 0 ≤ t) (h2 : t ≤ 262144) (ha : 4000 ≤ a) (hr : 4000 ≤ r) (hh : h ≤ 5) : quantaF g q a r h t ≤ 200 := by
  obtain ⟨b1, b2, b3, b4, b5, b6, b7, b8, b9, b10⟩ := okD_bd H
  by_cases c1 : t < g
  · rw [quanta_down H h1 h2 c1]
    have := Int.ediv_lt_of_lt_mul (a := g - t - 1) (b := 66) (c := a) (by omega) (by omega)
    omega
  · by_cases c2 : g < t
    · rw [quanta_up H h1 h2 c2]
      have := Int.ediv_lt_of_lt_mul (a := t - g - 1) (b := 66) (c := r) (by omega) (by omega)
      omega
    · have : t = g := by omega
      subst this
      rw [quanta_zero]
      omega
theorem moves {g q a r h t : Int} (H : okD g q a r h = true) :
    (nextE g q a r h t).1 - g ≤ r ∧ g - (nextE g q a r h t).1 ≤ a ∧ (g < t → g ≤ (nextE g q a r h t).1) ∧ (t < g → (nextE g q a r h t).1 < g) := by
  obtain ⟨b1, b2, b3, b4, b5, b6, b7, b8, b9, b10⟩ := okD_bd H
  unfold nextE
  split
  · simp only
    omega
  · split
    · split <;> simp only <;> omega
    · omega
set_option maxRecDepth 100000 in
set_option maxHeartbeats 32000000 in
theorem walk (A : Option Addr) (cp : Nat) (l : List Int) (t : Int) (w : World) (hI : Ints w A l) (hl : l.length ≤ 9223372036854775807) :
    Calls Try.prog 5 #[.slice A l.length cp, .int .i64 t] w fun e w' => e = .returned (.bool true) ∧ Below w.heap.size w w' := by
  have m1 := Int.emod_nonneg t (b := 262145) (by omega)
  have m2 := Int.emod_lt_of_pos t (b := 262145) (by omega)
  go_enter Try.func5, Try.ntmps5
  go_wp2_with fail
  refine (sane_any _).mono ?_
  rintro e w1 ⟨rfl, hB⟩
  go_wp2_with fail
  refine (made_any A cp l _ (hI.grows hB) hl).mono ?_
  rintro e w2 ⟨⟨g2, q2, a2, r2, h2, H2, hh2, rfl⟩, hq⟩
  replace hB := below_grows hB (Nat.le_refl _) hq
  clear hq
  obtain ⟨b1, b2, b3, b4, b5, b6, b7, b8, b9, b10⟩ := okD_bd H2
  go_upto_region 4 with fail
  have hz := hB.size
  have k5 := (Blk.new w2 24 #[.int .i64 g2, .int .i64 q2]).alloc (Obj.cells #[.int .i64 a2, .int .i64 r2, .int .i64 h2] 26)
  have k6 := blk_new_at (X := w2.alloc (Obj.cells #[.int .i64 g2, .int .i64 q2] 24)) (n := w2.heap.size + 1) (t := 26) (cs := #[.int .i64 a2, .int .i64 r2, .int .i64 h2]) (by simp)
  replace hB := (hB.alloc hB.size (Obj.cells #[.int .i64 g2, .int .i64 q2] 24)).alloc (by simp <;> omega) (Obj.cells #[.int .i64 a2, .int .i64 r2, .int .i64 h2] 26)
  generalize hG : w2.heap.size = G at *
  clear hG
  generalize World.alloc (World.alloc w2 (Obj.cells #[.int .i64 g2, .int .i64 q2] 24)) (Obj.cells #[.int .i64 a2, .int .i64 r2, .int .i64 h2] 26) = w3 at *
  go_cut [] (fun wx => ∃ am rm : Int, 4000 ≤ am ∧ am ≤ 262144 ∧ 4000 ≤ rm ∧ rm ≤ 262144 ∧ Below w.heap.size w wx ∧ Blk wx G 24 #[.int .i64 g2, .int .i64 q2] ∧ Blk wx (G + 1) 26 #[.int .i64 am, .int .i64 rm, .int .i64 h2])
  case first =>
    have x1 := k6.cell
    have f1 := k6.frozen
    have z6 := k6.lt
    have z5 := k5.lt
    go_wp2
    all_goals go_meet
    all_goals exact ⟨_, _, by omega, by omega, by omega, by omega, (hB.setCell (by simp <;> omega) _).setCell (by simp <;> omega) _, (k5.far (by simp <;> omega) _).far (by simp <;> omega) _, (k6.set_ 0 _).set_ 1 _⟩
  case rest =>
    clear hB k5 k6
    obtain ⟨am, rm, a1, a2', a3, a4, hB, k5, k6⟩ := hcut
    have HM : okD g2 q2 am rm h2 = true := okD_mk (by omega)
    clear H2 b7 b8 b9 b10
    have x5 := k5.cell
    have x6 := k6.cell
    go_wp2_with (go_at_call 10; refine (mod_any _ _ _ (by omega) (by omega)).mono ?_; rintro e w' ⟨rfl, rfl⟩)
    generalize t % 262145 = x at *
    have hx2 : x ≤ 262144 := by omega
    refine (quanta_any g2 q2 am rm h2 x _).mono ?_
    rintro e w5 ⟨rfl, hq⟩
    replace k5 := k5.grows hq
    replace k6 := k6.grows hq
    replace hB := below_grows hB (Nat.le_refl _) hq
    clear hq x5 x6
    have n1 := (quanta_bd HM m1 hx2).1
    have n2 := quanta_few HM m1 hx2 a1 a3 hh2
    go_wp2
    go_loopw [8] (fun i wr => ∃ g q k : Int, okD g q am rm h2 = true ∧ i = .int .i64 k ∧ 0 ≤ k ∧ k + quantaF g q am rm h2 x = quantaF g2 q2 am rm h2 x ∧ Below w.heap.size w wr ∧ Blk wr G 24 #[.int .i64 g, .int .i64 q] ∧ Blk wr (G + 1) 26 #[.int .i64 am, .int .i64 rm, .int .i64 h2]) (fun i _ => (quantaF g2 q2 am rm h2 x - intOf i).toNat)
    case atStart => exact ⟨g2, q2, 0, HM, rfl, by omega, by omega, hB, k5, k6⟩
    case round =>
      clear hB k5 k6
      obtain ⟨g, q, k, H, rfl, hk, hsum, hB, k5, k6⟩ := hrel
      generalize hN : quantaF g2 q2 am rm h2 x = N at *
      have x5 := k5.cell
      have x6 := k6.cell
      have f5 := k5.frozen
      have z5 := k5.lt
      have z6 := k6.lt
      have hb := quanta_bd H m1 hx2
      by_cases hne : g = x
      · subst hne
        rw [quanta_zero] at hsum
        have hk2 : k = N := by omega
        subst hk2
        have e1 : stepF g q am rm h2 g 16 = ⟨g, q, g, g, 16, 0⟩ := by
          have e2 : nextE g q am rm h2 g = (g, q) := by unfold nextE; rw [if_neg (by omega), if_neg (by omega)]
          unfold stepF
          rw [if_neg (by simp [H]), if_neg (by omega), e2]
        go_wp2_with fail
        refine (step_any g q am rm h2 g 16 _).mono ?_
        rintro e y0 ⟨rfl, hq⟩
        simp only [e1]
        replace k5 := k5.grows hq
        replace hB := below_grows hB (Nat.le_refl _) hq
        replace x5 := k5.cell
        replace z5 := k5.lt
        clear hq
        go_wp2
        go_ret
        exact ⟨rfl, (hB.alloc hB.size _).alloc (by simp <;> omega) _⟩
      · have hn := quanta_next H m1 hx2 hne
        have hn2 := nextE_ok H m1 hx2
        have hb2 := quanta_bd hn2 m1 hx2
        obtain ⟨c1, c2, c3, c4⟩ := moves (t := x) H
        obtain ⟨d1, d2, -⟩ := okD_bd H
        obtain ⟨d3, d4, -⟩ := okD_bd hn2
        have e1 : stepF g q am rm h2 x 16 = ⟨(nextE g q am rm h2 x).1, (nextE g q am rm h2 x).2, g, (nextE g q am rm h2 x).1, 16, 0⟩ := by
          unfold stepF
          rw [if_neg (by simp [H]), if_neg (by omega)]
        go_wp2_with fail
        refine (step_any g q am rm h2 x 16 _).mono ?_
        rintro e y0 ⟨rfl, hq⟩
        simp only [e1]
        clear e1
        generalize (nextE g q am rm h2 x).1 = gn at *
        generalize (nextE g q am rm h2 x).2 = qn at *
        replace k5 := k5.grows hq
        replace k6 := k6.grows hq
        replace hB := below_grows hB (Nat.le_refl _) hq
        replace x5 := k5.cell
        replace x6 := k6.cell
        replace z5 := k5.lt
        replace z6 := k6.lt
        clear hq f5
        go_wp2_with fail
        refine (ramp_any g gn 16 _ d1 d2 d3 d4 (by omega) (by omega)).mono ?_
        rintro e y1 ⟨rfl, hq⟩
        replace k5 := Blk.grows ((k5.alloc _).alloc _) hq
        replace k6 := Blk.grows ((k6.alloc _).alloc _) hq
        have k9 := Blk.grows ((Blk.new _ _ _).alloc _) hq
        have k10 := Blk.grows (blk_new_at (n := y0.heap.size + 1) (by simp)) hq
        replace hB := below_grows ((hB.alloc hB.size _).alloc (by simp <;> omega) _) (by simp <;> omega) hq
        generalize hY : y0.heap.size = Y at *
        clear hY
        replace x5 := k5.cell
        replace x6 := k6.cell
        have x9 := k9.cell
        clear hq
        go_wp2_with fail
        refine (valid_any gn qn am rm h2 _).mono ?_
        rintro e y2 ⟨rfl, hq⟩
        rw [hn2]
        replace k5 := k5.grows hq
        replace k6 := k6.grows hq
        replace k9 := k9.grows hq
        replace hB := below_grows hB (Nat.le_refl _) hq
        replace x5 := k5.cell
        replace x6 := k6.cell
        replace x9 := k9.cell
        have f5 := k5.frozen
        clear hq
        have w1' : IntKind.i64.wrap (gn - g) = gn - g := IntWalk.i64_in _ (by omega)
        have w2' : IntKind.i64.wrap (-(gn - g)) = g - gn := by rw [show -(gn - g) = g - gn by omega]; exact IntWalk.i64_in _ (by omega)
        have q1 : decide (rm < gn - g) = false := by simp; omega
        have q2 : decide (am < g - gn) = false := by simp; omega
        go_wp2
        all_goals first
          | (exfalso; omega)
          | (go_roundw
             case rel =>
               refine ⟨gn, qn, k + 1, hn2, by go_num, by omega, by omega, ?_, ?_, ?_⟩
               · exact (hB.setCell (by simp <;> omega) _).setCell (by simp <;> omega) _
               · exact (k5.set_ 0 _).set_ 1 _
               · exact (k6.far (by simp <;> omega) _).far (by simp <;> omega) _
             case measure => simp [intOf] <;> omega)
end DuckMoves
namespace DuckMoves
theorem contract (H : Type) (enc : TypeId × Value → H) (W : World) (base : Nat) (args : Array Value) (ds gs : List (DataW H)) (before : List MemPlace)
    (hval0 : ∀ (j : Nat) t v, Try.f5.params[j]? = some t → args[j]? = some v → Value.okWide Try.prog W .any base t v)
    (hW : DataW.Whole enc Try.prog Try.f5.params.toList Rows.duckMovesSpec.vars false W args.toList ds gs before)
    (hsz0 : (DataW.weightsEach Try.prog (Try.f5.params.toList ++ Rows.duckMovesSpec.plain.varTypes Try.prog) (ds ++ gs)).all (· ≤ reachBytes) = true) :
    Calls Try.prog 5 args W fun e W' => ∃ v, e = .returned v ∧ Rows.duckMovesSpec.post enc Try.prog Try.f5 false true false false W args v W' := by
  have key : Calls Try.prog 5 args W fun e W' => e = .returned (.bool true) ∧ Below W.heap.size W W' := by
    have hval : ∀ (j : Nat) t v, Try.f5.params[j]? = some t → args[j]? = some v → Value.okWide Try.prog W .any base t v := hval0
    obtain ⟨p, q, hA0, hV, hbe, hfz, hnd⟩ := hW
    have hA : DataW.TrodAll enc Try.prog W 0 (fun _ => true) true Try.f5.params.toList args.toList ds p := hA0
    rw [Try.params5] at hA hval
    clear hA0 hval0
    obtain ⟨v0, vs0, d0, ds0, p0, q0, hargs, rfl, rfl, h0, r0⟩ := trodAll_cons hA
    obtain ⟨v1, vs1, d1, ds1, p1, q1, rfl, rfl, rfl, h1, r1⟩ := trodAll_cons r0
    obtain ⟨rfl, rfl, rfl⟩ := trodAll_nil r1
    obtain rfl : args = #[v0, v1] := by cases args; simp_all
    obtain ⟨rfl, rfl⟩ := trodVars_none hV
    have hsz : (DataW.weightsEach Try.prog (Try.f5.params.toList ++ Rows.duckMovesSpec.plain.varTypes Try.prog) ([d0, d1] ++ [])).all (· ≤ reachBytes) = true := hsz0
    rw [Try.params5] at hsz
    clear hsz0
    obtain ⟨A, cp, l, rfl, hI, hl, _⟩ := open_slice_ints Try.underlying22 Try.underlying3 (by kernel_rfl) (hval 0 22 v0 rfl rfl) h0
    obtain ⟨a1, rfl, rfl, rfl, w1⟩ := open_int Try.underlying3 (hval 1 3 v1 rfl rfl) h1
    exact DuckMoves.walk A cp l a1 W hI hl
  refine key.mono fun e W' ⟨he, hb⟩ => ⟨_, he, law_post laid_out hW ?_ rfl (by kernel_rfl) Try.underlying4 ?_ hb⟩
  · rw [Try.params5]
    intro t ht
    simp only [List.mem_cons, List.not_mem_nil, or_false] at ht
    rcases ht with rfl | rfl <;> exact ⟨by kernel_rfl, of_decide_eq_true (by kernel_rfl)⟩
  · rw [Try.params5]
    intro ds hl
    match ds, hl with
    | [_, _], _ => rfl

set_option maxRecDepth 100000 in
theorem lifted (os : Os) (started : os.Started) (H : Type) (enc : TypeId × Value → H) :
    ReturnsInHanded {} Try.checked os 5 .any (Rows.duckMovesSpec.pre6 enc Try.prog Try.f5 Rows.duckMovesRow.domain false) (Rows.duckMovesSpec.post enc Try.prog Try.f5 false true false false) := by
  refine returnsInHanded_of_change_sized (C := Try.checked) own_knob started (by kernel_rfl) Try.func5
    (ChangeSpec.witness6 (enc := enc) (C := Try.checked) false ⟨#[], #[.slice none 0 0, .int .i64 0], []⟩ 8 (by kernel_rfl) (by kernel_rfl) (by kernel_rfl) (by kernel_rfl)) ?_
  intro W base args ds gs before hval0 hW _ hsz0 _
  exact contract H enc W base args ds gs before hval0 hW hsz0

theorem over : Rows.duckMovesRow.holds Try.pinned (OpenSpec.ofChange Rows.duckMovesSpec) :=
  OpenClaim.holds_of_wide 5 Try.f5 rfl rfl rfl rfl rfl rfl rfl ⟨rfl, rfl, rfl, rfl, rfl⟩ rfl rfl rfl rfl rfl (by kernel_rfl) Try.func5 (by kernel_rfl)
    (of_decide_eq_true (by kernel_rfl)) (by unfold Func.isWrapper; first | (rw [if_pos (by decide +kernel)]; kernel_rfl) | (rw [if_neg (by decide +kernel)]; exact ⟨rfl, rfl⟩))
    (fun os started H enc _ => lifted os started H enc)

/-- The given statement. -/
theorem proved : Rows.DuckMovesSaid := over
end DuckMoves
#print axioms DuckMoves.proved
end Go.Proofs.Ytgmbgbjpakpihaa
