/-
  ClientBalances, for every input: the law returns true, and each argument reads behind the call as it read before. No condition.
-/
import Derived.Test.YtmipggfcdmmpfaaCliC
import Derived.Test.YtmipggfcdmmpfaaSlice
import Derived.Test.YtmipggfcdmmpfaaFlat
namespace Go.Proofs.Ytmipggfcdmmpfaa
open Go.ChangeShapes Go.WideShapes Go.ChangeAt Go.RowKit
theorem few_any (A : Option Addr) (c : Nat) (l : List Int) (w : World) (hl : l.length ≤ 9223372036854775807) : Calls Try.prog 21 #[.slice A l.length c] w fun e w' => e = .returned (.bool (decide (l.length ≤ 200))) ∧ w = w' := by
  have e1 : decide ((l.length : Int) ≤ 200) = decide (l.length ≤ 200) := by rw [decide_eq_decide]; omega
  go_enter Try.func21, Try.ntmps21
  go_wp2
  all_goals (go_ret; refine ⟨ret_bool ?_, rfl⟩; simp_all)
namespace ClientBalances
theorem ok_mk {p g t s : Int} {d : Bool} (h : 0 ≤ p ∧ p ≤ 4096 ∧ 0 ≤ t ∧ t ≤ g ∧ g ≤ 1099511627776 ∧ 0 ≤ s ∧ s ≤ 1099511627776) : Cd.ok ⟨p, g, t, s, d⟩ = true := by
  simpa [Cd.ok, and_assoc] using h
theorem next_le {l : List Int} {k : Nat} (h : k ≤ l.length) : nextK l k ≤ l.length := by unfold nextK; split <;> omega
theorem next_lt {l : List Int} {k : Nat} (h : k < l.length) : nextK l k = k + 1 := by unfold nextK; rw [if_pos h]
theorem next_ge {l : List Int} {k : Nat} : k ≤ nextK l k := by unfold nextK; split <;> omega
set_option maxRecDepth 100000 in
set_option maxHeartbeats 32000000 in
theorem walk (A : Option Addr) (cp : Nat) (l : List Int) (pat : Int) (w : World) (hI : Ints w A l) (hl : l.length ≤ 9223372036854775807) :
    Calls Try.prog 4 #[.slice A l.length cp, .int .i64 pat] w fun e w' => e = .returned (.bool true) ∧ Below w.heap.size w w' := by
  have m1 := Int.emod_nonneg pat (b := 5) (by omega)
  have m2 := Int.emod_lt_of_pos pat (b := 5) (by omega)
  by_cases hlen : l.length ≤ 200
  · have hdl : decide (l.length ≤ 200) = true := by simpa using hlen
    go_enter Try.func4, Try.ntmps4
    go_wp2_with fail
    refine (sane_any _).mono ?_
    rintro e w1 ⟨rfl, hB⟩
    go_wp2_with (go_at_call 21; refine (few_any A cp l _ hl).mono ?_; rintro e w' ⟨rfl, rfl⟩)
    refine (new_deck A cp l _ (hI.grows hB) hl).mono ?_
    rintro e w2 ⟨rfl, hD, hq⟩
    have hG : w.heap.size ≤ w1.heap.size := hB.size
    replace hB := below_grows hB (Nat.le_refl _) hq
    generalize w1.heap.size = G at *
    clear hq
    have en : newF (pat % 5) = (⟨pat % 5, 0, 0, 0, false⟩, 0) := by unfold newF; rw [if_pos (by omega)]
    go_wp2_with (go_at_call 14; refine (mod_any _ _ _ (by omega) (by omega)).mono ?_; rintro e w' ⟨rfl, rfl⟩)
    refine (new_any (pat % 5) _).mono ?_
    rintro e w3 ⟨rfl, hq⟩
    simp only [en]
    replace hD := hD.grows hq
    replace hB := below_grows hB (Nat.le_refl _) hq
    clear hq
    go_wp2
    have z6 := hD.blk.lt
    have k6 := Blk.new w3 24 #[.int .i64 (pat % 5), .int .i64 0, .int .i64 0, .int .i64 0, .bool false]
    replace hD := hD.grows ((Below.refl _ _).alloc (Nat.le_refl _) (Obj.cells #[.int .i64 (pat % 5), .int .i64 0, .int .i64 0, .int .i64 0, .bool false] 24))
    replace hB := hB.alloc hB.size (Obj.cells #[.int .i64 (pat % 5), .int .i64 0, .int .i64 0, .int .i64 0, .bool false] 24)
    generalize hG6 : w3.heap.size = G6 at *
    clear hG6
    generalize World.alloc w3 _ = w4 at *
    go_loopw [8, 9, 10] (fun vn vm vs wr => ∃ (k : Nat) (g t s M : Int), vn = .int .i64 (t + M) ∧ vm = .int .i64 M ∧ vs = .int .i64 s ∧ 0 ≤ t ∧ t ≤ g ∧ g ≤ 60 * k ∧ 0 ≤ s ∧ s ≤ k ∧ 0 ≤ M ∧ M ≤ 60 * k ∧ Below w.heap.size w wr ∧ Deck wr G A cp l k ∧ Blk wr G6 24 #[.int .i64 (pat % 5), .int .i64 g, .int .i64 t, .int .i64 s, .bool false]) (fun _ _ _ wr => l.length - (intOf ((wr.cell? ⟨G, 1, none⟩).getD undef)).toNat)
    case atStart => exact ⟨0, 0, 0, 0, 0, rfl, rfl, rfl, by omega, by omega, by omega, by omega, by omega, by omega, by omega, hB, hD, k6⟩
    case round =>
      clear hB hD k6
      obtain ⟨k, g, t, s, M, rfl, rfl, rfl, i1, i2, i3, i4, i5, i6, i7, hB, hD, k6⟩ := hrel
      have hkl := hD.le
      have hcell := hD.blk.cell 1
      by_cases hk : k < l.length
      · have hdk : decide (k < l.length) = true := by simpa using hk
        have hk1 := next_lt hk
        have hk2 : nextK l (k + 1) ≤ l.length := next_le hk
        have hk3 : k + 1 ≤ nextK l (k + 1) := next_ge
        have bg := nextV_bd l k (n := 60) (by omega)
        have bt := nextV_bd l (k + 1) (n := 60) (by omega)
        go_wp2_with fail
        refine (left_any G A cp l k _ hD).mono ?_
        rintro e y0 ⟨rfl, hq⟩
        have hm0 : (l.length : Int) - k ≥ 0 := by omega
        replace hD := hD.grows hq
        replace k6 := k6.grows hq
        replace hB := below_grows hB (Nat.le_refl _) hq
        clear hq
        go_wp2_with fail
        refine (next_any G A cp l k _ _ hD (by omega) (by omega)).mono ?_
        rintro e y1 ⟨rfl, hD1, hq⟩
        rw [hk1] at hD1
        replace k6 := k6.grown hq (fun hh => by injection hh with hh; omega)
        replace hB := hB.grown hq hB.size (fun j hj => by injection hj with hj; omega)
        clear hq hD
        go_wp2_with fail
        refine (next_any G A cp l (k + 1) _ _ hD1 (by omega) (by omega)).mono ?_
        rintro e y2 ⟨rfl, hD, hq⟩
        replace k6 := k6.grown hq (fun hh => by injection hh with hh; omega)
        replace hB := hB.grown hq hB.size (fun j hj => by injection hj with hj; omega)
        clear hq hD1
        generalize nextV l k 60 = gi at *
        generalize nextV l (k + 1) 60 = ta at *
        generalize hkn : nextK l (k + 1) = kn at *
        clear hkn
        have x6 := k6.cell
        have z66 := k6.lt
        have ew : wroteF ⟨pat % 5, g, t, s, false⟩ gi = (⟨pat % 5, g + gi, t, s, false⟩, 0) := by
          unfold wroteF
          rw [if_neg (by rw [ok_mk (by omega)]; simp), if_neg (by simp), if_neg (by omega), if_neg (by simp only; omega)]
        by_cases hen : ta ≤ g - t + gi
        · have et : tickF ⟨pat % 5, g + gi, t, s, false⟩ ta = (⟨pat % 5, g + gi, t + ta, 0, false⟩, 0, 0) := by
            unfold tickF
            rw [if_neg (by rw [ok_mk (by omega)]; simp), if_neg (by omega)]
            simp only [show min ta (g + gi - t) = ta by omega, Int.sub_self, if_true]
          have es : stateF ⟨pat % 5, g + gi, t + ta, 0, false⟩ = 1 := by
            unfold stateF
            rw [if_neg (by rw [ok_mk (by omega)]; simp), if_neg (by simp), if_neg (by simp only; omega), if_neg (by simp)]
          have q1 : decide (ta ≤ g - t + gi) = true := by simpa using hen
          go_wp2_with fail
          refine (wrote_any _ _ _ _ _ _ _).mono ?_
          rintro e y3 ⟨rfl, hq⟩
          simp only [ew]
          replace k6 := k6.grows hq
          replace hD := hD.grows hq
          replace hB := below_grows hB (Nat.le_refl _) hq
          replace x6 := k6.cell
          replace z66 := k6.lt
          clear hq ew
          go_wp2_with fail
          refine (tick_any _ _ _ _ _ _ _ (by omega)).mono ?_
          rintro e y4 ⟨rfl, hq⟩
          simp only [et]
          replace k6 := Blk.grows (k6.alloc _) hq
          replace hD := (hD.grows ((Below.refl _ _).alloc (Nat.le_refl _) _)).grows hq
          replace hB := below_grows (hB.alloc hB.size _) (by simp <;> omega) hq
          replace x6 := k6.cell
          replace z66 := k6.lt
          clear hq et
          go_wp2_with fail
          refine (state_any _ _ _ _ _ _).mono ?_
          rintro e y5 ⟨rfl, hq⟩
          rw [es]
          have k16 := Blk.grows (Blk.new _ _ _) hq
          replace k6 := Blk.grows (k6.alloc _) hq
          replace hD := (hD.grows ((Below.refl _ _).alloc (Nat.le_refl _) _)).grows hq
          replace hB := below_grows (hB.alloc hB.size _) (by simp <;> omega) hq
          replace x6 := k6.cell
          have x16 := k16.cell
          have f6 := k6.frozen
          clear hq es
          go_wp2_with (go_at_call 14; refine (mod_any _ _ _ (by omega) (by omega)).mono ?_; rintro e w' ⟨rfl, rfl⟩)
          go_roundw
          case rel =>
            refine ⟨kn, g + gi, (t + ta), 0, M, by go_num, by go_num, by go_num, by omega, by omega, by omega, by omega, by omega, by omega, by omega, ?_, ?_, ?_⟩
            · exact ((((hB.setCell (by simp; omega) _).setCell (by simp; omega) _).setCell (by simp; omega) _).setCell (by simp; omega) _).setCell (by simp; omega) _
            · exact ((((hD.far (by simp; omega) _).far (by simp; omega) _).far (by simp; omega) _).far (by simp; omega) _).far (by simp; omega) _
            · exact ((((k6.set_ 0 _).set_ 1 _).set_ 2 _).set_ 3 _).set_ 4 _
          case measure =>
            have d1 := hD.blk.cell 1
            simp [intOf, hcell, d1, World.cell?_setCell_other]
            omega
        · have et : tickF ⟨pat % 5, g + gi, t, s, false⟩ ta = (⟨pat % 5, g + gi, g + gi, s + 1, false⟩, ta - (g + gi - t), 0) := by
            unfold tickF
            rw [if_neg (by rw [ok_mk (by omega)]; simp), if_neg (by omega)]
            simp only [show min ta (g + gi - t) = g + gi - t by omega, show t + (g + gi - t) = g + gi by omega, show min (s + 1) 1099511627776 = s + 1 by omega, if_neg (show ¬ ta - (g + gi - t) = 0 by omega)]
          by_cases hst : pat % 5 < s + 1
          · have es : stateF ⟨pat % 5, g + gi, g + gi, s + 1, false⟩ = 3 := by
              unfold stateF
              rw [if_neg (by rw [ok_mk (by omega)]; simp), if_neg (by simp), if_pos (by simp only; omega)]
            have q1 : decide (ta ≤ g - t + gi) = false := by simpa using hen
            have q2 : (ta - (g + gi - t) == 0) = false := by simp; omega
            have q3 : (s + 1 == 0) = false := by simp; omega
            have q4 : decide (pat % 5 < s + 1) = true := by simpa using hst
            go_wp2_with fail
            refine (wrote_any _ _ _ _ _ _ _).mono ?_
            rintro e y3 ⟨rfl, hq⟩
            simp only [ew]
            replace k6 := k6.grows hq
            replace hD := hD.grows hq
            replace hB := below_grows hB (Nat.le_refl _) hq
            replace x6 := k6.cell
            replace z66 := k6.lt
            clear hq ew
            go_wp2_with fail
            refine (tick_any _ _ _ _ _ _ _ (by omega)).mono ?_
            rintro e y4 ⟨rfl, hq⟩
            simp only [et]
            replace k6 := Blk.grows (k6.alloc _) hq
            replace hD := (hD.grows ((Below.refl _ _).alloc (Nat.le_refl _) _)).grows hq
            replace hB := below_grows (hB.alloc hB.size _) (by simp <;> omega) hq
            replace x6 := k6.cell
            replace z66 := k6.lt
            clear hq et
            go_wp2_with fail
            refine (state_any _ _ _ _ _ _).mono ?_
            rintro e y5 ⟨rfl, hq⟩
            rw [es]
            have k16 := Blk.grows (Blk.new _ _ _) hq
            replace k6 := Blk.grows (k6.alloc _) hq
            replace hD := (hD.grows ((Below.refl _ _).alloc (Nat.le_refl _) _)).grows hq
            replace hB := below_grows (hB.alloc hB.size _) (by simp <;> omega) hq
            replace x6 := k6.cell
            have x16 := k16.cell
            have f6 := k6.frozen
            clear hq es
            go_wp2_with (go_at_call 14; refine (mod_any _ _ _ (by omega) (by omega)).mono ?_; rintro e w' ⟨rfl, rfl⟩)
            go_roundw
            case rel =>
              refine ⟨kn, g + gi, (g + gi), (s + 1), (M + (ta - (g + gi - t))), by go_num, by go_num, by go_num, by omega, by omega, by omega, by omega, by omega, by omega, by omega, ?_, ?_, ?_⟩
              · exact ((((hB.setCell (by simp; omega) _).setCell (by simp; omega) _).setCell (by simp; omega) _).setCell (by simp; omega) _).setCell (by simp; omega) _
              · exact ((((hD.far (by simp; omega) _).far (by simp; omega) _).far (by simp; omega) _).far (by simp; omega) _).far (by simp; omega) _
              · exact ((((k6.set_ 0 _).set_ 1 _).set_ 2 _).set_ 3 _).set_ 4 _
            case measure =>
              have d1 := hD.blk.cell 1
              simp [intOf, hcell, d1, World.cell?_setCell_other]
              omega
          · have es : stateF ⟨pat % 5, g + gi, g + gi, s + 1, false⟩ = 2 := by
              unfold stateF
              rw [if_neg (by rw [ok_mk (by omega)]; simp), if_neg (by simp), if_neg (by simp only; omega), if_pos (by simp only; omega)]
            have q1 : decide (ta ≤ g - t + gi) = false := by simpa using hen
            have q2 : (ta - (g + gi - t) == 0) = false := by simp; omega
            have q3 : (s + 1 == 0) = false := by simp; omega
            have q4 : decide (pat % 5 < s + 1) = false := by simpa using hst
            go_wp2_with fail
            refine (wrote_any _ _ _ _ _ _ _).mono ?_
            rintro e y3 ⟨rfl, hq⟩
            simp only [ew]
            replace k6 := k6.grows hq
            replace hD := hD.grows hq
            replace hB := below_grows hB (Nat.le_refl _) hq
            replace x6 := k6.cell
            replace z66 := k6.lt
            clear hq ew
            go_wp2_with fail
            refine (tick_any _ _ _ _ _ _ _ (by omega)).mono ?_
            rintro e y4 ⟨rfl, hq⟩
            simp only [et]
            replace k6 := Blk.grows (k6.alloc _) hq
            replace hD := (hD.grows ((Below.refl _ _).alloc (Nat.le_refl _) _)).grows hq
            replace hB := below_grows (hB.alloc hB.size _) (by simp <;> omega) hq
            replace x6 := k6.cell
            replace z66 := k6.lt
            clear hq et
            go_wp2_with fail
            refine (state_any _ _ _ _ _ _).mono ?_
            rintro e y5 ⟨rfl, hq⟩
            rw [es]
            have k16 := Blk.grows (Blk.new _ _ _) hq
            replace k6 := Blk.grows (k6.alloc _) hq
            replace hD := (hD.grows ((Below.refl _ _).alloc (Nat.le_refl _) _)).grows hq
            replace hB := below_grows (hB.alloc hB.size _) (by simp <;> omega) hq
            replace x6 := k6.cell
            have x16 := k16.cell
            have f6 := k6.frozen
            clear hq es
            go_wp2_with (go_at_call 14; refine (mod_any _ _ _ (by omega) (by omega)).mono ?_; rintro e w' ⟨rfl, rfl⟩)
            go_roundw
            case rel =>
              refine ⟨kn, g + gi, (g + gi), (s + 1), (M + (ta - (g + gi - t))), by go_num, by go_num, by go_num, by omega, by omega, by omega, by omega, by omega, by omega, by omega, ?_, ?_, ?_⟩
              · exact ((((hB.setCell (by simp; omega) _).setCell (by simp; omega) _).setCell (by simp; omega) _).setCell (by simp; omega) _).setCell (by simp; omega) _
              · exact ((((hD.far (by simp; omega) _).far (by simp; omega) _).far (by simp; omega) _).far (by simp; omega) _).far (by simp; omega) _
              · exact ((((k6.set_ 0 _).set_ 1 _).set_ 2 _).set_ 3 _).set_ 4 _
            case measure =>
              have d1 := hD.blk.cell 1
              simp [intOf, hcell, d1, World.cell?_setCell_other]
              omega
      · have hdk : decide (k < l.length) = false := by simpa using hk
        have ed : stateF ⟨pat % 5, g, t, s, true⟩ = 4 := by
          unfold stateF
          rw [if_neg (by rw [ok_mk (by omega)]; simp), if_pos (by simp)]
        have x6 := k6.cell
        go_wp2_with fail
        refine (left_any G A cp l k _ hD).mono ?_
        rintro e y0 ⟨rfl, hq⟩
        replace k6 := k6.grows hq
        replace hB := below_grows hB (Nat.le_refl _) hq
        replace x6 := k6.cell
        clear hq
        have q1 : t + M - M = t := by omega
        go_wp2_with fail
        refine (die_any _ _ _ _ _ _).mono ?_
        rintro e y1 ⟨rfl, hq⟩
        replace hB := below_grows hB (Nat.le_refl _) hq
        clear hq
        go_wp2_with fail
        refine (state_any _ _ _ _ _ _).mono ?_
        rintro e y2 ⟨rfl, hq⟩
        rw [ed]
        replace hB := below_grows hB (Nat.le_refl _) hq
        go_wp2
        go_ret
        exact ⟨rfl, hB⟩
  · have hdl : decide (l.length ≤ 200) = false := by simpa using hlen
    go_enter Try.func4, Try.ntmps4
    go_wp2_with fail
    refine (sane_any _).mono ?_
    rintro e w1 ⟨rfl, hB⟩
    go_wp2_with (go_at_call 21; refine (few_any A cp l _ hl).mono ?_; rintro e w' ⟨rfl, rfl⟩)
    go_ret
    exact ⟨rfl, hB⟩
end ClientBalances
namespace ClientBalances
theorem contract (H : Type) (enc : TypeId × Value → H) (W : World) (base : Nat) (args : Array Value) (ds gs : List (DataW H)) (before : List MemPlace)
    (hval0 : ∀ (j : Nat) t v, Try.f4.params[j]? = some t → args[j]? = some v → Value.okWide Try.prog W .any base t v)
    (hW : DataW.Whole enc Try.prog Try.f4.params.toList Rows.clientBalancesSpec.vars false W args.toList ds gs before)
    (hsz0 : (DataW.weightsEach Try.prog (Try.f4.params.toList ++ Rows.clientBalancesSpec.plain.varTypes Try.prog) (ds ++ gs)).all (· ≤ reachBytes) = true) :
    Calls Try.prog 4 args W fun e W' => ∃ v, e = .returned v ∧ Rows.clientBalancesSpec.post enc Try.prog Try.f4 false true false false W args v W' := by
  have key : Calls Try.prog 4 args W fun e W' => e = .returned (.bool true) ∧ Below W.heap.size W W' := by
    have hval : ∀ (j : Nat) t v, Try.f4.params[j]? = some t → args[j]? = some v → Value.okWide Try.prog W .any base t v := hval0
    obtain ⟨p, q, hA0, hV, hbe, hfz, hnd⟩ := hW
    have hA : DataW.TrodAll enc Try.prog W 0 (fun _ => true) true Try.f4.params.toList args.toList ds p := hA0
    rw [Try.params4] at hA hval
    clear hA0 hval0
    obtain ⟨v0, vs0, d0, ds0, p0, q0, hargs, rfl, rfl, h0, r0⟩ := trodAll_cons hA
    obtain ⟨v1, vs1, d1, ds1, p1, q1, rfl, rfl, rfl, h1, r1⟩ := trodAll_cons r0
    obtain ⟨rfl, rfl, rfl⟩ := trodAll_nil r1
    obtain rfl : args = #[v0, v1] := by cases args; simp_all
    obtain ⟨rfl, rfl⟩ := trodVars_none hV
    have hsz : (DataW.weightsEach Try.prog (Try.f4.params.toList ++ Rows.clientBalancesSpec.plain.varTypes Try.prog) ([d0, d1] ++ [])).all (· ≤ reachBytes) = true := hsz0
    rw [Try.params4] at hsz
    clear hsz0
    obtain ⟨A, cp, l, rfl, hI, hl, _⟩ := open_slice_ints Try.underlying22 Try.underlying3 (by kernel_rfl) (hval 0 22 v0 rfl rfl) h0
    obtain ⟨a1, rfl, rfl, rfl, w1⟩ := open_int Try.underlying3 (hval 1 3 v1 rfl rfl) h1
    exact ClientBalances.walk A cp l a1 W hI hl
  refine key.mono fun e W' ⟨he, hb⟩ => ⟨_, he, law_post laid_out hW ?_ rfl (by kernel_rfl) Try.underlying4 ?_ hb⟩
  · rw [Try.params4]
    intro t ht
    simp only [List.mem_cons, List.not_mem_nil, or_false] at ht
    rcases ht with rfl | rfl <;> exact ⟨by kernel_rfl, of_decide_eq_true (by kernel_rfl)⟩
  · rw [Try.params4]
    intro ds hl
    match ds, hl with
    | [_, _], _ => rfl

set_option maxRecDepth 100000 in
theorem lifted (os : Os) (started : os.Started) (H : Type) (enc : TypeId × Value → H) :
    ReturnsInHanded {} Try.checked os 4 .any (Rows.clientBalancesSpec.pre6 enc Try.prog Try.f4 Rows.clientBalancesRow.domain false) (Rows.clientBalancesSpec.post enc Try.prog Try.f4 false true false false) := by
  refine returnsInHanded_of_change_sized (C := Try.checked) own_knob started (by kernel_rfl) Try.func4
    (ChangeSpec.witness6 (enc := enc) (C := Try.checked) false ⟨#[], #[.slice none 0 0, .int .i64 0], []⟩ 8 (by kernel_rfl) (by kernel_rfl) (by kernel_rfl) (by kernel_rfl)) ?_
  intro W base args ds gs before hval0 hW _ hsz0 _
  exact contract H enc W base args ds gs before hval0 hW hsz0

theorem over : Rows.clientBalancesRow.holds Try.pinned (OpenSpec.ofChange Rows.clientBalancesSpec) :=
  OpenClaim.holds_of_wide 4 Try.f4 rfl rfl rfl rfl rfl rfl rfl ⟨rfl, rfl, rfl, rfl, rfl⟩ rfl rfl rfl rfl rfl (by kernel_rfl) Try.func4 (by kernel_rfl)
    (of_decide_eq_true (by kernel_rfl)) (by unfold Func.isWrapper; first | (rw [if_pos (by decide +kernel)]; kernel_rfl) | (rw [if_neg (by decide +kernel)]; exact ⟨rfl, rfl⟩))
    (fun os started H enc _ => lifted os started H enc)

/-- The given statement. -/
theorem proved : Rows.ClientBalancesSaid := over
end ClientBalances
#print axioms ClientBalances.proved
end Go.Proofs.Ytmipggfcdmmpfaa
