/-
  PhaseGalois, for every input: the law returns true, and each argument reads behind the call as it read before. No condition.
-/
import Derived.Test.YtjdgfcjkpdmodaaPhD
namespace Go.Proofs.Ytjdgfcjkpdmodaa
open Go.ChangeShapes Go.WideShapes Go.ChangeAt Go.RowKit
namespace PhaseGalois
theorem galois {n d a p f m r k : Int} (h : okP n d a p f = true) (hr : IsMake n d a f m r) (h1 : 0 ≤ k) (h2 : k ≤ 4000) : decide (needF n d a f k ≤ m) = decide (k ≤ r) := by
  obtain ⟨r1, r2, r3, r4⟩ := hr
  rw [decide_eq_decide]
  constructor
  · intro hk
    rcases r4 with r4 | r4
    · omega
    · by_cases hlt : k ≤ r
      · exact hlt
      · have := need_mono h (show 0 ≤ r + 1 by omega) (show r + 1 ≤ k by omega) (by omega)
        omega
  · intro hk
    have := need_mono h h1 hk (by omega)
    omega
set_option maxRecDepth 100000 in
set_option maxHeartbeats 16000000 in
theorem walk (A : Option Addr) (cp : Nat) (l : List Int) (x y : Int) (w : World) (hI : Reads w w.heap.size 1 A l.length (l.map (Value.int .u8))) (hl : l.length ≤ 9223372036854775807) (hcp : l.length ≤ cp) (hwf : ∀ x ∈ l, 0 ≤ x ∧ x ≤ 255) (hx : 0 ≤ x ∧ x ≤ 65535) (hy : 0 ≤ y ∧ y ≤ 65535) : Calls Try.prog 7 #[.slice A l.length cp, .int .u16 x, .int .u16 y] w fun e w' => e = .returned (.bool true) ∧ Below w.heap.size w w' := by
  have m1 := Int.emod_nonneg x (b := 3000) (by omega)
  have m2 := Int.emod_lt_of_pos x (b := 3000) (by omega)
  have tx : Int.tmod x 3000 = x % 3000 := Int.tmod_eq_emod_of_nonneg hx.1
  generalize x % 3000 = k at *
  have wj : IntKind.u16.wrap k = k := IntWalk.u16_in _ (by omega)
  have wj2 : IntKind.i64.wrap k = k := IntWalk.i64_in _ (by omega)
  have wk : IntKind.i64.wrap (k + 1) = k + 1 := IntWalk.i64_in _ (by omega)
  have wy : IntKind.i64.wrap y = y := IntWalk.i64_in _ (by omega)
  go_enter Try.func7, Try.ntmps7
  go_wp2_with fail
  refine (sane_any _).mono ?_
  rintro e w1 ⟨rfl, hB⟩
  go_wp2_with fail
  refine (made_any A cp l _ (hI.grows hB) hcp hl hwf).mono ?_
  rintro e w2 ⟨⟨n, d, a, p, f, hok, hp, rfl⟩, hq⟩
  replace hB := below_grows hB (Nat.le_refl _) hq
  clear hq
  obtain ⟨b1, b2, b3, b4, b5, b6, b7, b8, b9, b10⟩ := okP_bd hok
  have he1 : errF n d a p f k = 0 := by unfold errF; rw [if_neg (by simp [hok]), if_neg (by omega)]
  have he2 : errF n d a p f (k + 1) = 0 := by unfold errF; rw [if_neg (by simp [hok]), if_neg (by omega)]
  have hn1 : needP n d a p f k = needF n d a f k := by unfold needP; rw [if_pos he1]
  have hn2 : needP n d a p f (k + 1) = needF n d a f (k + 1) := by unfold needP; rw [if_pos he2]
  have hm : makE n d a p f y = 0 := by unfold makE; rw [if_neg (by simp [hok]), if_neg (by omega)]
  have hmono := need_mono hok m1 (show k ≤ k + 1 by omega) (by omega)
  have hpos := need_mono hok (Int.le_refl 0) m1 (by omega)
  rw [need_zero] at hpos
  clear b1 b2 b3 b4 b5 b6 b7 b8 b9 b10 hp
  go_wp2_with fail
  refine (neede_any n d a p f k _).mono ?_
  rintro e w3 ⟨rfl, hq⟩
  rw [hn1, he1]
  have k7 := Blk.grows (Blk.new _ _ _) hq
  replace hB := below_grows (hB.alloc hB.size _) (by simp <;> omega) hq
  have x7 := k7.cell
  clear hq
  go_wp2_with fail
  refine (make_any n d a p f y _).mono ?_
  rintro e w4 ⟨⟨r, hr, rfl⟩, hq⟩
  rw [hm]
  unfold MakeR at hr
  rw [if_pos hm] at hr
  replace k7 := k7.grows hq
  replace hB := below_grows hB (Nat.le_refl _) hq
  replace x7 := k7.cell
  clear hq
  have q0 := galois hok hr m1 (by omega)
  clear hr
  go_wp2_with fail
  refine (neede_any n d a p f (k + 1) _).mono ?_
  rintro e w5 ⟨rfl, hq⟩
  rw [hn2, he2]
  replace hB := below_grows hB (Nat.le_refl _) hq
  clear hq hn1 hn2 he1 he2 hm
  generalize needF n d a f k = N1 at *
  generalize needF n d a f (k + 1) = N2 at *
  have q1 : decide (N1 ≤ N2) = true := by simpa using hmono
  have q2 : decide (0 ≤ N1) = true := by simpa using hpos
  cases hc : decide (k ≤ r)
  · rw [hc] at q0
    go_wp2
    go_ret
    exact ⟨rfl, hB⟩
  · rw [hc] at q0
    go_wp2
    go_ret
    exact ⟨rfl, hB⟩
end PhaseGalois
namespace PhaseGalois
theorem contract (H : Type) (enc : TypeId × Value → H) (W : World) (base : Nat) (args : Array Value) (ds gs : List (DataW H)) (before : List MemPlace)
    (hval0 : ∀ (j : Nat) t v, Try.f7.params[j]? = some t → args[j]? = some v → Value.okWide Try.prog W .any base t v)
    (hW : DataW.Whole enc Try.prog Try.f7.params.toList Rows.phaseGaloisSpec.vars false W args.toList ds gs before)
    (hsz0 : (DataW.weightsEach Try.prog (Try.f7.params.toList ++ Rows.phaseGaloisSpec.plain.varTypes Try.prog) (ds ++ gs)).all (· ≤ reachBytes) = true) :
    Calls Try.prog 7 args W fun e W' => ∃ v, e = .returned v ∧ Rows.phaseGaloisSpec.post enc Try.prog Try.f7 false true false false W args v W' := by
  have key : Calls Try.prog 7 args W fun e W' => e = .returned (.bool true) ∧ Below W.heap.size W W' := by
    have hval : ∀ (j : Nat) t v, Try.f7.params[j]? = some t → args[j]? = some v → Value.okWide Try.prog W .any base t v := hval0
    obtain ⟨p, q, hA0, hV, hbe, hfz, hnd⟩ := hW
    have hA : DataW.TrodAll enc Try.prog W 0 (fun _ => true) true Try.f7.params.toList args.toList ds p := hA0
    rw [Try.params7] at hA hval
    clear hA0 hval0
    obtain ⟨v0, vs0, d0, ds0, p0, q0, hargs, rfl, rfl, h0, r0⟩ := trodAll_cons hA
    obtain ⟨v1, vs1, d1, ds1, p1, q1, rfl, rfl, rfl, h1, r1⟩ := trodAll_cons r0
    obtain ⟨v2, vs2, d2, ds2, p2, q2, rfl, rfl, rfl, h2, r2⟩ := trodAll_cons r1
    obtain ⟨rfl, rfl, rfl⟩ := trodAll_nil r2
    obtain rfl : args = #[v0, v1, v2] := by cases args; simp_all
    obtain ⟨rfl, rfl⟩ := trodVars_none hV
    have hsz : (DataW.weightsEach Try.prog (Try.f7.params.toList ++ Rows.phaseGaloisSpec.plain.varTypes Try.prog) ([d0, d1, d2] ++ [])).all (· ≤ reachBytes) = true := hsz0
    rw [Try.params7] at hsz
    clear hsz0
    obtain ⟨A, cp, l, rfl, hI, hl, hcp, hwf⟩ := open_slice_kind (k := .u8) Try.underlying22 Try.underlying5 (by kernel_rfl) (hval 0 22 v0 rfl rfl) h0
    obtain ⟨a1, rfl, rfl, rfl, w1⟩ := open_int Try.underlying40 (hval 1 40 v1 rfl rfl) h1
    obtain ⟨a2, rfl, rfl, rfl, w2⟩ := open_int Try.underlying40 (hval 2 40 v2 rfl rfl) h2
    exact PhaseGalois.walk A cp l a1 a2 W hI hl hcp (fun x hx => u8_bd (hwf x hx)) (u16_bd w1) (u16_bd w2)
  refine key.mono fun e W' ⟨he, hb⟩ => ⟨_, he, law_post laid_out hW ?_ rfl (by kernel_rfl) Try.underlying4 ?_ hb⟩
  · rw [Try.params7]
    intro t ht
    simp only [List.mem_cons, List.not_mem_nil, or_false] at ht
    rcases ht with rfl | rfl | rfl <;> exact ⟨by kernel_rfl, of_decide_eq_true (by kernel_rfl)⟩
  · rw [Try.params7]
    intro ds hl
    match ds, hl with
    | [_, _, _], _ => rfl

set_option maxRecDepth 100000 in
theorem lifted (os : Os) (started : os.Started) (H : Type) (enc : TypeId × Value → H) :
    ReturnsInHanded {} Try.checked os 7 .any (Rows.phaseGaloisSpec.pre6 enc Try.prog Try.f7 Rows.phaseGaloisRow.domain false) (Rows.phaseGaloisSpec.post enc Try.prog Try.f7 false true false false) := by
  refine returnsInHanded_of_change_sized (C := Try.checked) own_knob started (by kernel_rfl) Try.func7
    (ChangeSpec.witness6 (enc := enc) (C := Try.checked) false ⟨#[], #[.slice none 0 0, .int .u16 0, .int .u16 0], []⟩ 8 (by kernel_rfl) (by kernel_rfl) (by kernel_rfl) (by kernel_rfl)) ?_
  intro W base args ds gs before hval0 hW _ hsz0 _
  exact contract H enc W base args ds gs before hval0 hW hsz0

theorem over : Rows.phaseGaloisRow.holds Try.pinned (OpenSpec.ofChange Rows.phaseGaloisSpec) :=
  OpenClaim.holds_of_wide 7 Try.f7 rfl rfl rfl rfl rfl rfl rfl ⟨rfl, rfl, rfl, rfl, rfl⟩ rfl rfl rfl rfl rfl (by kernel_rfl) Try.func7 (by kernel_rfl)
    (of_decide_eq_true (by kernel_rfl)) (by unfold Func.isWrapper; first | (rw [if_pos (by decide +kernel)]; kernel_rfl) | (rw [if_neg (by decide +kernel)]; exact ⟨rfl, rfl⟩))
    (fun os started H enc _ => lifted os started H enc)

/-- The given statement. -/
theorem proved : Rows.PhaseGaloisSaid := over
end PhaseGalois
#print axioms PhaseGalois.proved
end Go.Proofs.Ytjdgfcjkpdmodaa
