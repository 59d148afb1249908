/-
  PhaseTunes, for every input: the law returns true, and each argument reads behind the call as it read before. No condition.
-/
import Derived.Test.YtjdgfcjkpdmodaaPhD
import Derived.Test.YtjdgfcjkpdmodaaPhAdds
import Derived.Deep.DeepCutAuto
import Derived.Deep.CutBlock
namespace Go.Proofs.Ytjdgfcjkpdmodaa
open Go.ChangeShapes Go.WideShapes Go.ChangeAt Go.RowKit
namespace PhaseTunes
theorem need_tune {n d p f lo hi k : Int} (h1 : okP n d lo p f = true) (hle : lo ≤ hi) (h0 : 0 ≤ k) : needF n d lo f k ≤ needF n d hi f k := by
  obtain ⟨b1, b2, b3, b4, b5, b6, b7, b8, b9, b10⟩ := okP_bd h1
  have hd : 0 < d * 65536 := by omega
  have mono : ∀ j : Int, 0 ≤ j → aheadF n lo f j ≤ aheadF n hi f j := by
    intro j hj
    have := Int.mul_le_mul_of_nonneg_left (show 65536 + lo ≤ 65536 + hi by omega) (Int.mul_nonneg hj (show 0 ≤ n by omega))
    unfold aheadF
    omega
  unfold needF
  split
  · omega
  · have e1 := Int.ediv_le_ediv hd (mono k h0)
    have e2 := Int.ediv_le_ediv hd (mono (k - 1) (by omega))
    omega
theorem make_tune {n d p f lo hi m r s : Int} (h1 : okP n d lo p f = true) (hle : lo ≤ hi) (hr : IsMake n d lo f m r) (hs : IsMake n d hi f m s) : s ≤ r := by
  obtain ⟨r1, r2, r3, r4⟩ := hr
  obtain ⟨s1, s2, s3, s4⟩ := hs
  rcases r4 with r4 | r4
  · omega
  · by_cases hlt : s ≤ r
    · exact hlt
    · have e1 := need_mono h1 (show 0 ≤ r + 1 by omega) (show r + 1 ≤ s by omega) (by omega)
      have e2 := need_tune (k := s) h1 hle s1
      omega
theorem passed {n d hi f k : Int} : aheadF n hi f k / (d * 65536) * d * 65536 + aheadF n hi f k % (d * 65536) - f = k * n * (65536 + hi) := by
  have h := Int.emod_add_mul_ediv (aheadF n hi f k) (d * 65536)
  have e : d * 65536 * (aheadF n hi f k / (d * 65536)) = aheadF n hi f k / (d * 65536) * d * 65536 := by
    rw [Int.mul_comm, Int.mul_assoc]
  rw [e] at h
  have h2 : aheadF n hi f k = f + k * n * (65536 + hi) := rfl
  omega
set_option maxRecDepth 100000 in
set_option maxHeartbeats 32000000 in
theorem walk (A : Option Addr) (cp : Nat) (l : List Int) (x y z : Int) (w : World) (hI : Reads w w.heap.size 1 A l.length (l.map (Value.int .u8))) (hl : l.length ≤ 9223372036854775807) (hcp : l.length ≤ cp) (hwf : ∀ x ∈ l, 0 ≤ x ∧ x ≤ 255) (hx : 0 ≤ x ∧ x ≤ 65535) (hy : -32768 ≤ y ∧ y ≤ 32767) (hz : -32768 ≤ z ∧ z ≤ 32767) : Calls Try.prog 8 #[.slice A l.length cp, .int .u16 x, .int .i16 y, .int .i16 z] w fun e w' => e = .returned (.bool true) ∧ Below w.heap.size w w' := by
  have m1 := Int.emod_nonneg x (b := 2000) (by omega)
  have m2 := Int.emod_lt_of_pos x (b := 2000) (by omega)
  have tx : Int.tmod x 2000 = x % 2000 := Int.tmod_eq_emod_of_nonneg hx.1
  generalize x % 2000 = k at *
  have wj : IntKind.u16.wrap k = k := IntWalk.u16_in _ (by omega)
  have wj2 : IntKind.i64.wrap k = k := IntWalk.i64_in _ (by omega)
  have wy : IntKind.i64.wrap y = y := IntWalk.i64_in _ (by omega)
  have wz : IntKind.i64.wrap z = z := IntWalk.i64_in _ (by omega)
  have y1 := Int.tmod_lt_of_pos y (show (0 : Int) < 4096 by omega)
  have y2 := Int.lt_tmod_of_pos y (show (0 : Int) < 4096 by omega)
  have z1 := Int.tmod_lt_of_pos z (show (0 : Int) < 4096 by omega)
  have z2 := Int.lt_tmod_of_pos z (show (0 : Int) < 4096 by omega)
  have wty : IntKind.i64.wrap (Int.tmod y 4096) = Int.tmod y 4096 := IntWalk.i64_in _ (by omega)
  have wtz : IntKind.i64.wrap (Int.tmod z 4096) = Int.tmod z 4096 := IntWalk.i64_in _ (by omega)
  go_enter Try.func8, Try.ntmps8
  go_wp2_with fail
  refine (sane_any _).mono ?_
  rintro e w1 ⟨rfl, hB⟩
  go_wp2_with fail
  refine (made_any A cp l _ (hI.grows hB) hcp hl hwf).mono ?_
  rintro e w2 ⟨⟨n, d, a, p, f, hok, hp, rfl⟩, hq⟩
  replace hB := below_grows hB (Nat.le_refl _) hq
  clear hq
  obtain ⟨b1, b2, b3, b4, b5, b6, b7, b8, b9, b10⟩ := okP_bd hok
  go_upto_region 4 with fail
  have k9 := Blk.new w2 27 #[.int .i64 n, .int .i64 d, .int .i64 a, .int .i64 p, .int .i64 f]
  have hs9 := hB.size
  replace hB := hB.alloc hB.size (Obj.cells #[.int .i64 n, .int .i64 d, .int .i64 a, .int .i64 p, .int .i64 f] 27)
  generalize hG : w2.heap.size = G at *
  clear hG
  generalize World.alloc w2 _ = w3 at *
  go_cut [10, 11, 12] (fun s10 s11 s12 wx => ∃ l1 h1 : Int, s10 = .int .i64 k ∧ s11 = .int .i64 l1 ∧ s12 = .int .i64 h1 ∧ -4096 < l1 ∧ l1 < 4096 ∧ -4096 < h1 ∧ h1 < 4096 ∧ Below w.heap.size w wx ∧ Blk wx G 27 #[.int .i64 n, .int .i64 d, .int .i64 a, .int .i64 p, .int .i64 f])
  case first =>
    go_wp2
    all_goals go_meet
    all_goals exact ⟨_, _, rfl, rfl, rfl, by omega, by omega, by omega, by omega, hB, k9⟩
  case rest =>
    clear hB k9
    obtain ⟨l1, h1, rfl, rfl, rfl, c1, c2, c3, c4, hB, k9⟩ := hcut
    go_upto_region 5 with fail
    go_cut [11, 12] (fun s11 s12 wx => ∃ lo hi : Int, s11 = .int .i64 lo ∧ s12 = .int .i64 hi ∧ -4096 < lo ∧ lo ≤ hi ∧ hi < 4096 ∧ Below w.heap.size w wx ∧ Blk wx G 27 #[.int .i64 n, .int .i64 d, .int .i64 a, .int .i64 p, .int .i64 f])
    case first =>
      go_wp2
      all_goals go_meet
      all_goals exact ⟨_, _, rfl, rfl, by omega, by omega, by omega, hB, k9⟩
    case rest =>
      clear hB k9
      obtain ⟨lo, hi, rfl, rfl, c5, c6, c7, hB, k9⟩ := hcut
      have okl : okP n d lo p f = true := okP_mk (okP_r hok) b2 b4 (by omega) ⟨b7, b8⟩ ⟨b9, b10⟩
      have okh : okP n d hi p f = true := okP_mk (okP_r hok) b2 b4 (by omega) ⟨b7, b8⟩ ⟨b9, b10⟩
      have el := PhaseAdds.tune_val hok (q := lo) (by omega) (by omega)
      have eh := PhaseAdds.tune_val hok (q := hi) (by omega) (by omega)
      obtain ⟨ea, -, -⟩ := adv_val (k := k) okh (by omega) (by omega) (by omega)
      have hel : errF n d lo p f k = 0 := by unfold errF; rw [if_neg (by simp [okl]), if_neg (by omega)]
      have heh : errF n d hi p f k = 0 := by unfold errF; rw [if_neg (by simp [okh]), if_neg (by omega)]
      have hnl : needP n d lo p f k = needF n d lo f k := by unfold needP; rw [if_pos hel]
      have hnh : needP n d hi p f k = needF n d hi f k := by unfold needP; rw [if_pos heh]
      have hml : makE n d lo p f k = 0 := by unfold makE; rw [if_neg (by simp [okl]), if_neg (by omega)]
      have hmh : makE n d hi p f k = 0 := by unfold makE; rw [if_neg (by simp [okh]), if_neg (by omega)]
      have hnt := need_tune (k := k) okl c6 (by omega)
      obtain ⟨g1, g2, g3, g4, g5, g6, -, -, -⟩ := ahead_bd okh m1 (by omega : k ≤ 65537)
      have hpass := passed (n := n) (d := d) (hi := hi) (f := f) (k := k)
      have t8 := Int.emod_nonneg (aheadF n hi f k) (show d * 65536 ≠ 0 by omega)
      have t9 := Int.emod_lt_of_pos (aheadF n hi f k) (show 0 < d * 65536 by omega)
      have hq0 := Int.ediv_nonneg g5 (show 0 ≤ d * 65536 by omega)
      have hq1 := Int.ediv_le_self (a := aheadF n hi f k) (d * 65536) g5
      clear g5
      generalize aheadF n hi f k / (d * 65536) = Q at *
      generalize aheadF n hi f k % (d * 65536) = F at *
      have hqd : 0 ≤ Q * d := Int.mul_nonneg hq0 (by omega)
      have w1' : IntKind.i64.wrap (k * n) = k * n := IntWalk.i64_in _ (by omega)
      have w2' : IntKind.i64.wrap (65536 + hi) = 65536 + hi := IntWalk.i64_in _ (by omega)
      have w3' : IntKind.i64.wrap (k * n * (65536 + hi)) = k * n * (65536 + hi) := IntWalk.i64_in _ (by omega)
      have w4' : IntKind.i64.wrap (p + Q - p) = Q := by rw [show p + Q - p = Q by omega]; exact IntWalk.i64_in _ (by omega)
      have w5' : IntKind.i64.wrap (Q * d) = Q * d := IntWalk.i64_in _ (by omega)
      have w6' : IntKind.i64.wrap (Q * d * 65536) = Q * d * 65536 := IntWalk.i64_in _ (by omega)
      have w7' : IntKind.i64.wrap (Q * d * 65536 + F) = Q * d * 65536 + F := IntWalk.i64_in _ (by omega)
      have w8' : IntKind.i64.wrap (Q * d * 65536 + F - f) = Q * d * 65536 + F - f := IntWalk.i64_in _ (by omega)
      have HP : (k * n * (65536 + hi) == Q * d * 65536 + F - f) = true := by rw [hpass]; simp
      clear hpass g1 g2 g3 g4 g6 t8 t9 hq0 hq1 hqd b1 b2 b3 b4 b5 b6 b7 b8 b9 b10
      have xk9 := k9.cell
      have zk9 := k9.lt
      have okl' := Lib.hid okl
      have okh' := Lib.hid okh
      clear okl okh
      go_wp2_with fail
      refine (tune_any n d a p f lo _).mono ?_
      rintro e y0 ⟨rfl, hq⟩
      simp only [el]
      replace k9 := Blk.grows k9 hq
      replace hB := below_grows hB (Nat.le_refl _) hq
      have xk9 := k9.cell
      have zk9 := k9.lt
      clear hq
      go_wp2_with fail
      refine (tune_any n d a p f hi _).mono ?_
      rintro e y1 ⟨rfl, hq⟩
      simp only [eh]
      replace k9 := Blk.grows (k9.alloc _) hq
      have k13 := Blk.grows (Blk.new _ _ _) hq
      replace hB := below_grows (hB.alloc hB.size _) (by simp <;> omega) hq
      have xk9 := k9.cell
      have zk9 := k9.lt
      have xk13 := k13.cell
      have zk13 := k13.lt
      clear hq
      go_wp2_with fail
      refine (neede_any n d lo p f k _).mono ?_
      rintro e y2 ⟨rfl, hq⟩
      rw [hnl, hel]
      replace k9 := Blk.grows (k9.alloc _) hq
      replace k13 := Blk.grows (k13.alloc _) hq
      have k15 := Blk.grows (Blk.new _ _ _) hq
      replace hB := below_grows (hB.alloc hB.size _) (by simp <;> omega) hq
      have xk9 := k9.cell
      have zk9 := k9.lt
      have xk13 := k13.cell
      have zk13 := k13.lt
      have xk15 := k15.cell
      have zk15 := k15.lt
      clear hq
      go_wp2_with fail
      refine (neede_any n d hi p f k _).mono ?_
      rintro e y3 ⟨rfl, hq⟩
      rw [hnh, heh]
      replace k9 := Blk.grows k9 hq
      replace k13 := Blk.grows k13 hq
      replace k15 := Blk.grows k15 hq
      replace hB := below_grows hB (Nat.le_refl _) hq
      have xk9 := k9.cell
      have zk9 := k9.lt
      have xk13 := k13.cell
      have zk13 := k13.lt
      have xk15 := k15.cell
      have zk15 := k15.lt
      clear hq
      go_wp2_with fail
      refine (make_any n d lo p f k _).mono ?_
      rintro e y4 ⟨⟨s4, hs4, rfl⟩, hq⟩
      rw [hml]
      replace k9 := Blk.grows k9 hq
      replace k13 := Blk.grows k13 hq
      replace k15 := Blk.grows k15 hq
      replace hB := below_grows hB (Nat.le_refl _) hq
      have xk9 := k9.cell
      have zk9 := k9.lt
      have xk13 := k13.cell
      have zk13 := k13.lt
      have xk15 := k15.cell
      have zk15 := k15.lt
      clear hq
      go_wp2_with fail
      refine (make_any n d hi p f k _).mono ?_
      rintro e y5 ⟨⟨s5, hs5, rfl⟩, hq⟩
      rw [hmh]
      replace k9 := Blk.grows k9 hq
      replace k13 := Blk.grows k13 hq
      replace k15 := Blk.grows k15 hq
      replace hB := below_grows hB (Nat.le_refl _) hq
      have xk9 := k9.cell
      have zk9 := k9.lt
      have xk13 := k13.cell
      have zk13 := k13.lt
      have xk15 := k15.cell
      have zk15 := k15.lt
      clear hq
      unfold MakeR at hs4 hs5
      rw [if_pos hml] at hs4
      rw [if_pos hmh] at hs5
      have hmt := make_tune okl'.out c6 hs4 hs5
      clear hs4 hs5 hml hmh hnl hnh hel heh el eh
      generalize needF n d lo f k = N1 at *
      generalize needF n d hi f k = N2 at *
      have q1 : decide (N1 ≤ N2) = true := by simpa using hnt
      have q2 : decide (s5 ≤ s4) = true := by simpa using hmt
      go_wp2_with fail
      refine (adv_any n d hi p f k _).mono ?_
      rintro e y6 ⟨rfl, hq⟩
      simp only [ea]
      replace k9 := Blk.grows k9 hq
      replace k13 := Blk.grows k13 hq
      replace k15 := Blk.grows k15 hq
      replace hB := below_grows hB (Nat.le_refl _) hq
      have xk9 := k9.cell
      have zk9 := k9.lt
      have xk13 := k13.cell
      have zk13 := k13.lt
      have xk15 := k15.cell
      have zk15 := k15.lt
      clear hq
      go_wp2
      go_ret
      exact ⟨rfl, hB.alloc hB.size _⟩
end PhaseTunes
namespace PhaseTunes
theorem contract (H : Type) (enc : TypeId × Value → H) (W : World) (base : Nat) (args : Array Value) (ds gs : List (DataW H)) (before : List MemPlace)
    (hval0 : ∀ (j : Nat) t v, Try.f8.params[j]? = some t → args[j]? = some v → Value.okWide Try.prog W .any base t v)
    (hW : DataW.Whole enc Try.prog Try.f8.params.toList Rows.phaseTunesSpec.vars false W args.toList ds gs before)
    (hsz0 : (DataW.weightsEach Try.prog (Try.f8.params.toList ++ Rows.phaseTunesSpec.plain.varTypes Try.prog) (ds ++ gs)).all (· ≤ reachBytes) = true) :
    Calls Try.prog 8 args W fun e W' => ∃ v, e = .returned v ∧ Rows.phaseTunesSpec.post enc Try.prog Try.f8 false true false false W args v W' := by
  have key : Calls Try.prog 8 args W fun e W' => e = .returned (.bool true) ∧ Below W.heap.size W W' := by
    have hval : ∀ (j : Nat) t v, Try.f8.params[j]? = some t → args[j]? = some v → Value.okWide Try.prog W .any base t v := hval0
    obtain ⟨p, q, hA0, hV, hbe, hfz, hnd⟩ := hW
    have hA : DataW.TrodAll enc Try.prog W 0 (fun _ => true) true Try.f8.params.toList args.toList ds p := hA0
    rw [Try.params8] at hA hval
    clear hA0 hval0
    obtain ⟨v0, vs0, d0, ds0, p0, q0, hargs, rfl, rfl, h0, r0⟩ := trodAll_cons hA
    obtain ⟨v1, vs1, d1, ds1, p1, q1, rfl, rfl, rfl, h1, r1⟩ := trodAll_cons r0
    obtain ⟨v2, vs2, d2, ds2, p2, q2, rfl, rfl, rfl, h2, r2⟩ := trodAll_cons r1
    obtain ⟨v3, vs3, d3, ds3, p3, q3, rfl, rfl, rfl, h3, r3⟩ := trodAll_cons r2
    obtain ⟨rfl, rfl, rfl⟩ := trodAll_nil r3
    obtain rfl : args = #[v0, v1, v2, v3] := by cases args; simp_all
    obtain ⟨rfl, rfl⟩ := trodVars_none hV
    have hsz : (DataW.weightsEach Try.prog (Try.f8.params.toList ++ Rows.phaseTunesSpec.plain.varTypes Try.prog) ([d0, d1, d2, d3] ++ [])).all (· ≤ reachBytes) = true := hsz0
    rw [Try.params8] at hsz
    clear hsz0
    obtain ⟨A, cp, l, rfl, hI, hl, hcp, hwf⟩ := open_slice_kind (k := .u8) Try.underlying22 Try.underlying5 (by kernel_rfl) (hval 0 22 v0 rfl rfl) h0
    obtain ⟨a1, rfl, rfl, rfl, w1⟩ := open_int Try.underlying40 (hval 1 40 v1 rfl rfl) h1
    obtain ⟨a2, rfl, rfl, rfl, w2⟩ := open_int Try.underlying41 (hval 2 41 v2 rfl rfl) h2
    obtain ⟨a3, rfl, rfl, rfl, w3⟩ := open_int Try.underlying41 (hval 3 41 v3 rfl rfl) h3
    exact PhaseTunes.walk A cp l a1 a2 a3 W hI hl hcp (fun x hx => u8_bd (hwf x hx)) (u16_bd w1) (i16_bd w2) (i16_bd w3)
  refine key.mono fun e W' ⟨he, hb⟩ => ⟨_, he, law_post laid_out hW ?_ rfl (by kernel_rfl) Try.underlying4 ?_ hb⟩
  · rw [Try.params8]
    intro t ht
    simp only [List.mem_cons, List.not_mem_nil, or_false] at ht
    rcases ht with rfl | rfl | rfl | rfl <;> exact ⟨by kernel_rfl, of_decide_eq_true (by kernel_rfl)⟩
  · rw [Try.params8]
    intro ds hl
    match ds, hl with
    | [_, _, _, _], _ => rfl

set_option maxRecDepth 100000 in
theorem lifted (os : Os) (started : os.Started) (H : Type) (enc : TypeId × Value → H) :
    ReturnsInHanded {} Try.checked os 8 .any (Rows.phaseTunesSpec.pre6 enc Try.prog Try.f8 Rows.phaseTunesRow.domain false) (Rows.phaseTunesSpec.post enc Try.prog Try.f8 false true false false) := by
  refine returnsInHanded_of_change_sized (C := Try.checked) own_knob started (by kernel_rfl) Try.func8
    (ChangeSpec.witness6 (enc := enc) (C := Try.checked) false ⟨#[], #[.slice none 0 0, .int .u16 0, .int .i16 0, .int .i16 0], []⟩ 8 (by kernel_rfl) (by kernel_rfl) (by kernel_rfl) (by kernel_rfl)) ?_
  intro W base args ds gs before hval0 hW _ hsz0 _
  exact contract H enc W base args ds gs before hval0 hW hsz0

theorem over : Rows.phaseTunesRow.holds Try.pinned (OpenSpec.ofChange Rows.phaseTunesSpec) :=
  OpenClaim.holds_of_wide 8 Try.f8 rfl rfl rfl rfl rfl rfl rfl ⟨rfl, rfl, rfl, rfl, rfl⟩ rfl rfl rfl rfl rfl (by kernel_rfl) Try.func8 (by kernel_rfl)
    (of_decide_eq_true (by kernel_rfl)) (by unfold Func.isWrapper; first | (rw [if_pos (by decide +kernel)]; kernel_rfl) | (rw [if_neg (by decide +kernel)]; exact ⟨rfl, rfl⟩))
    (fun os started H enc _ => lifted os started H enc)

/-- The given statement. -/
theorem proved : Rows.PhaseTunesSaid := over
end PhaseTunes
#print axioms PhaseTunes.proved
end Go.Proofs.Ytjdgfcjkpdmodaa
