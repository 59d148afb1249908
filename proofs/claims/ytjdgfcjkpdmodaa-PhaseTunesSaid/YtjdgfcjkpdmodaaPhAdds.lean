/-
  PhaseAdds, for every input: the law returns true, and each argument reads behind the call as it read before. No condition.
-/
import Derived.Test.YtjdgfcjkpdmodaaPhC
namespace Go.Proofs.Ytjdgfcjkpdmodaa
open Go.ChangeShapes Go.WideShapes Go.ChangeAt Go.RowKit
namespace PhaseAdds
theorem tune_val {n d a p f q : Int} (h : okP n d a p f = true) (h1 : -4096 ≤ q) (h2 : q ≤ 4096) : tuneF n d a p f q = ⟨n, d, q, p, f, 0⟩ := by
  have ha : okA q = true := by simp [okA, h1, h2]
  unfold tuneF
  rw [if_neg (by simp [h]), if_neg (by simp [ha])]
set_option maxRecDepth 100000 in
set_option maxHeartbeats 16000000 in
theorem walk (A : Option Addr) (cp : Nat) (l : List Int) (x y z : Int) (w : World) (hI : Reads w w.heap.size 1 A l.length (l.map (Value.int .u8))) (hl : l.length ≤ 9223372036854775807) (hcp : l.length ≤ cp) (hwf : ∀ x ∈ l, 0 ≤ x ∧ x ≤ 255) (hx : 0 ≤ x ∧ x ≤ 65535) (hy : 0 ≤ y ∧ y ≤ 65535) (hz : -32768 ≤ z ∧ z ≤ 32767) : Calls Try.prog 5 #[.slice A l.length cp, .int .u16 x, .int .u16 y, .int .i16 z] w fun e w' => e = .returned (.bool true) ∧ Below w.heap.size w w' := by
  have m1 := Int.emod_nonneg x (b := 2000) (by omega)
  have m2 := Int.emod_lt_of_pos x (b := 2000) (by omega)
  have m3 := Int.emod_nonneg y (b := 2000) (by omega)
  have m4 := Int.emod_lt_of_pos y (b := 2000) (by omega)
  have tx : Int.tmod x 2000 = x % 2000 := Int.tmod_eq_emod_of_nonneg hx.1
  have ty : Int.tmod y 2000 = y % 2000 := Int.tmod_eq_emod_of_nonneg hy.1
  generalize x % 2000 = j at *
  generalize y % 2000 = k at *
  have wj : IntKind.u16.wrap j = j := IntWalk.u16_in _ (by omega)
  have wk : IntKind.u16.wrap k = k := IntWalk.u16_in _ (by omega)
  have wj2 : IntKind.i64.wrap j = j := IntWalk.i64_in _ (by omega)
  have wk2 : IntKind.i64.wrap k = k := IntWalk.i64_in _ (by omega)
  have wjk : IntKind.i64.wrap (j + k) = j + k := IntWalk.i64_in _ (by omega)
  have wz : IntKind.i64.wrap z = z := IntWalk.i64_in _ (by omega)
  have z1 := Int.tmod_lt_of_pos z (show (0 : Int) < 4096 by omega)
  have z2 := Int.lt_tmod_of_pos z (show (0 : Int) < 4096 by omega)
  generalize hzq : Int.tmod z 4096 = q at *
  have wq : IntKind.i64.wrap q = q := IntWalk.i64_in _ (by omega)
  go_enter Try.func5, Try.ntmps5
  go_wp2_with fail
  refine (sane_any _).mono ?_
  rintro e w1 ⟨rfl, hB⟩
  go_wp2_with fail
  refine (made_any A cp l _ (hI.grows hB) hcp hl hwf).mono ?_
  rintro e w2 ⟨⟨n, d, a, p, f, hok, hp, rfl⟩, hq⟩
  replace hB := below_grows hB (Nat.le_refl _) hq
  clear hq
  obtain ⟨b1, b2, b3, b4, b5, b6, b7, b8, b9, b10⟩ := okP_bd hok
  obtain ⟨e1, ok1, l1⟩ := adv_val (k := j) hok (by omega) (by omega) (by omega)
  obtain ⟨e2, ok2, l2⟩ := adv_val (k := k) ok1 (by omega) (by omega) (by omega)
  obtain ⟨e3, ok3, l3⟩ := adv_val (k := j + k) hok (by omega) (by omega) (by omega)
  obtain ⟨s1, s2⟩ := adv_add (n := n) (a := a) (p := p) (f := f) (j := j) (k := k) (by omega : 0 < d)
  rw [s1, s2] at e2
  have e4 := tune_val hok (q := q) (by omega) (by omega)
  clear s1 s2 l1 l2 l3 ok1 ok2 ok3
  generalize p + aheadF n a f (j + k) / (d * 65536) = P3 at *
  generalize aheadF n a f (j + k) % (d * 65536) = F3 at *
  generalize p + aheadF n a f j / (d * 65536) = P1 at *
  generalize aheadF n a f j % (d * 65536) = F1 at *
  clear b1 b2 b3 b4 b5 b6 b7 b8 b9 b10 hok hp
  go_wp2_with fail
  refine (adv_any n d a p f j _).mono ?_
  rintro e w3 ⟨rfl, hq⟩
  simp only [e1]
  have k9 := Blk.grows (Blk.new _ _ _) hq
  replace hB := below_grows (hB.alloc hB.size _) (by simp <;> omega) hq
  have hs3 := hB.size
  generalize hG : w2.heap.size = G9 at *
  clear hq hG e1
  have x9 := k9.cell
  have z9 := k9.lt
  go_wp2_with fail
  refine (adv_any n d a P1 F1 k _).mono ?_
  rintro e w4 ⟨rfl, hq⟩
  simp only [e2]
  replace k9 := Blk.grows (k9.alloc _) hq
  have k12 := Blk.grows (Blk.new _ _ _) hq
  replace hB := below_grows (hB.alloc hB.size _) (by simp <;> omega) hq
  generalize hG : w3.heap.size = G12 at *
  clear hq hG e2
  replace x9 := k9.cell
  have z99 := k9.lt
  have x12 := k12.cell
  have f12 := k12.frozen
  go_wp2_with fail
  refine (adv_any n d a p f (j + k) _).mono ?_
  rintro e w5 ⟨rfl, hq⟩
  simp only [e3]
  replace k9 := Blk.grows (((((k9.far (p := ⟨G12, 0, none⟩) (by simp; omega) _).far (p := ⟨G12, 1, none⟩) (by simp; omega) _).far (p := ⟨G12, 2, none⟩) (by simp; omega) _).far (p := ⟨G12, 3, none⟩) (by simp; omega) _).far (p := ⟨G12, 4, none⟩) (by simp; omega) _) hq
  replace k12 := Blk.grows (((((k12.set_ 0 _).set_ 1 _).set_ 2 _).set_ 3 _).set_ 4 _) hq
  simp only [List.setIfInBounds_toArray, List.set_cons_succ, List.set_cons_zero] at k12
  replace hB := below_grows (((((hB.setCell (p := ⟨G12, 0, none⟩) (by simp; omega) _).setCell (p := ⟨G12, 1, none⟩) (by simp; omega) _).setCell (p := ⟨G12, 2, none⟩) (by simp; omega) _).setCell (p := ⟨G12, 3, none⟩) (by simp; omega) _).setCell (p := ⟨G12, 4, none⟩) (by simp; omega) _) (by simp <;> omega) hq
  clear hq e3 x12 f12
  replace x9 := k9.cell
  replace z99 := k9.lt
  go_wp2_with fail
  refine (tune_any n d a p f q _).mono ?_
  rintro e w6 ⟨rfl, hq⟩
  simp only [e4]
  replace k9 := Blk.grows (k9.alloc _) hq
  replace k12 := Blk.grows (k12.alloc _) hq
  have k15 := Blk.grows (Blk.new _ _ _) hq
  replace hB := below_grows (hB.alloc hB.size _) (by simp <;> omega) hq
  generalize hG : w5.heap.size = G15 at *
  clear hq e4 hG
  replace x9 := k9.cell
  replace z99 := k9.lt
  have x12 := k12.cell
  have z12 := k12.lt
  have x15 := k15.cell
  have z15 := k15.lt
  go_wp2
  go_ret
  exact ⟨rfl, hB.alloc hB.size _⟩
end PhaseAdds
namespace PhaseAdds
theorem contract (H : Type) (enc : TypeId × Value → H) (W : World) (base : Nat) (args : Array Value) (ds gs : List (DataW H)) (before : List MemPlace)
    (hval0 : ∀ (j : Nat) t v, Try.f5.params[j]? = some t → args[j]? = some v → Value.okWide Try.prog W .any base t v)
    (hW : DataW.Whole enc Try.prog Try.f5.params.toList Rows.phaseAddsSpec.vars false W args.toList ds gs before)
    (hsz0 : (DataW.weightsEach Try.prog (Try.f5.params.toList ++ Rows.phaseAddsSpec.plain.varTypes Try.prog) (ds ++ gs)).all (· ≤ reachBytes) = true) :
    Calls Try.prog 5 args W fun e W' => ∃ v, e = .returned v ∧ Rows.phaseAddsSpec.post enc Try.prog Try.f5 false true false false W args v W' := by
  have key : Calls Try.prog 5 args W fun e W' => e = .returned (.bool true) ∧ Below W.heap.size W W' := by
    have hval : ∀ (j : Nat) t v, Try.f5.params[j]? = some t → args[j]? = some v → Value.okWide Try.prog W .any base t v := hval0
    obtain ⟨p, q, hA0, hV, hbe, hfz, hnd⟩ := hW
    have hA : DataW.TrodAll enc Try.prog W 0 (fun _ => true) true Try.f5.params.toList args.toList ds p := hA0
    rw [Try.params5] at hA hval
    clear hA0 hval0
    obtain ⟨v0, vs0, d0, ds0, p0, q0, hargs, rfl, rfl, h0, r0⟩ := trodAll_cons hA
    obtain ⟨v1, vs1, d1, ds1, p1, q1, rfl, rfl, rfl, h1, r1⟩ := trodAll_cons r0
    obtain ⟨v2, vs2, d2, ds2, p2, q2, rfl, rfl, rfl, h2, r2⟩ := trodAll_cons r1
    obtain ⟨v3, vs3, d3, ds3, p3, q3, rfl, rfl, rfl, h3, r3⟩ := trodAll_cons r2
    obtain ⟨rfl, rfl, rfl⟩ := trodAll_nil r3
    obtain rfl : args = #[v0, v1, v2, v3] := by cases args; simp_all
    obtain ⟨rfl, rfl⟩ := trodVars_none hV
    have hsz : (DataW.weightsEach Try.prog (Try.f5.params.toList ++ Rows.phaseAddsSpec.plain.varTypes Try.prog) ([d0, d1, d2, d3] ++ [])).all (· ≤ reachBytes) = true := hsz0
    rw [Try.params5] at hsz
    clear hsz0
    obtain ⟨A, cp, l, rfl, hI, hl, hcp, hwf⟩ := open_slice_kind (k := .u8) Try.underlying22 Try.underlying5 (by kernel_rfl) (hval 0 22 v0 rfl rfl) h0
    obtain ⟨a1, rfl, rfl, rfl, w1⟩ := open_int Try.underlying40 (hval 1 40 v1 rfl rfl) h1
    obtain ⟨a2, rfl, rfl, rfl, w2⟩ := open_int Try.underlying40 (hval 2 40 v2 rfl rfl) h2
    obtain ⟨a3, rfl, rfl, rfl, w3⟩ := open_int Try.underlying41 (hval 3 41 v3 rfl rfl) h3
    exact PhaseAdds.walk A cp l a1 a2 a3 W hI hl hcp (fun x hx => u8_bd (hwf x hx)) (u16_bd w1) (u16_bd w2) (i16_bd w3)
  refine key.mono fun e W' ⟨he, hb⟩ => ⟨_, he, law_post laid_out hW ?_ rfl (by kernel_rfl) Try.underlying4 ?_ hb⟩
  · rw [Try.params5]
    intro t ht
    simp only [List.mem_cons, List.not_mem_nil, or_false] at ht
    rcases ht with rfl | rfl | rfl | rfl <;> exact ⟨by kernel_rfl, of_decide_eq_true (by kernel_rfl)⟩
  · rw [Try.params5]
    intro ds hl
    match ds, hl with
    | [_, _, _, _], _ => rfl

set_option maxRecDepth 100000 in
theorem lifted (os : Os) (started : os.Started) (H : Type) (enc : TypeId × Value → H) :
    ReturnsInHanded {} Try.checked os 5 .any (Rows.phaseAddsSpec.pre6 enc Try.prog Try.f5 Rows.phaseAddsRow.domain false) (Rows.phaseAddsSpec.post enc Try.prog Try.f5 false true false false) := by
  refine returnsInHanded_of_change_sized (C := Try.checked) own_knob started (by kernel_rfl) Try.func5
    (ChangeSpec.witness6 (enc := enc) (C := Try.checked) false ⟨#[], #[.slice none 0 0, .int .u16 0, .int .u16 0, .int .i16 0], []⟩ 8 (by kernel_rfl) (by kernel_rfl) (by kernel_rfl) (by kernel_rfl)) ?_
  intro W base args ds gs before hval0 hW _ hsz0 _
  exact contract H enc W base args ds gs before hval0 hW hsz0

theorem over : Rows.phaseAddsRow.holds Try.pinned (OpenSpec.ofChange Rows.phaseAddsSpec) :=
  OpenClaim.holds_of_wide 5 Try.f5 rfl rfl rfl rfl rfl rfl rfl ⟨rfl, rfl, rfl, rfl, rfl⟩ rfl rfl rfl rfl rfl (by kernel_rfl) Try.func5 (by kernel_rfl)
    (of_decide_eq_true (by kernel_rfl)) (by unfold Func.isWrapper; first | (rw [if_pos (by decide +kernel)]; kernel_rfl) | (rw [if_neg (by decide +kernel)]; exact ⟨rfl, rfl⟩))
    (fun os started H enc _ => lifted os started H enc)

/-- The given statement. -/
theorem proved : Rows.PhaseAddsSaid := over
end PhaseAdds
#print axioms PhaseAdds.proved
end Go.Proofs.Ytjdgfcjkpdmodaa
