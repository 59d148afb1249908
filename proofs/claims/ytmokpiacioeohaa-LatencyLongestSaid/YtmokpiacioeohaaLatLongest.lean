/-
  LatencyLongest, for every input: the law returns true, and each argument reads behind the call as it read before. No condition.
-/
import Derived.Test.YtmokpiacioeohaaGrZ
import Derived.Test.YtmokpiacioeohaaLatB
import Derived.Test.YtmokpiacioeohaaOpen
import Derived.Test.YtmokpiacioeohaaSlice
namespace Go.Proofs.Ytmokpiacioeohaa
open Go.ChangeShapes Go.WideShapes Go.ChangeAt Go.RowKit
namespace LatencyLongest
theorem in64_wf {n : Int} (h : (Lit.int .i64 n).wf = true) : In64 n := by
  unfold In64
  simpa [Lit.wf, IntKind.min, IntKind.max, IntKind.signed, IntKind.bits] using h
theorem in64_mod (a : Int) : In64 (a % 26) := by
  unfold In64
  omega
set_option maxRecDepth 100000 in
set_option maxHeartbeats 20000000 in
theorem walk (A0 A9 : Option Addr) (c0 c9 : Nat) (l ws : List Int) (f t a b : Int) (w : World) (hI0 : Ints w A0 l) (hI9 : Ints w A9 ws) (hl : l.length ≤ 9223372036854775807) (hf : In64 f) (ht : In64 t) :
    Calls Try.prog 5 #[.slice A0 l.length c0, .slice A9 ws.length c9, .int .i64 f, .int .i64 t, .int .i64 a, .int .i64 b] w fun e w' => e = .returned (.bool true) ∧ Below w.heap.size w w' := by
  have Hf := Lib.hid hf
  have Ht := Lib.hid ht
  clear hf ht
  go_enter Try.func5, Try.ntmps5
  go_wp2_with fail
  refine (sane_any _).mono ?_
  rintro e w1 ⟨rfl, hB⟩
  by_cases h20 : 20 < ws.length
  · go_wp2
    go_ret
    exact ⟨rfl, hB⟩
  have hlw9 : ws.length ≤ 20 := by omega
  go_wp2_with fail
  refine (new_deck A0 c0 l _ (hI0.grows hB) hl).mono ?_
  rintro e w2 ⟨rfl, hD, hq⟩
  have hge := hB.size
  replace hB := below_grows hB (Nat.le_refl _) hq
  clear hq
  generalize w1.heap.size = gd at *
  go_wp2_with fail
  refine (graph_any gd A0 c0 l 0 _ hD).mono ?_
  rintro e w3 ⟨⟨v1, v2, v3, ns, ls, cs, k', rfl, hn, hl2, hi3, hv, hcl, hcr, hn8, hD3⟩, hq⟩
  replace hB := hB.grown hq hB.size (fun q e => by injection e; omega)
  clear hq hD hD3
  obtain ⟨A1, c1, A2, c2, rfl, rfl, hc1, hok⟩ := gok_of hn hl2 hv
  obtain ⟨A3, c3, rfl, hc3, hci⟩ := hi3.read
  have hlcs : cs.length ≤ 8 := by omega
  have HV := Lib.hid hv
  clear hv hcl hcr hn hl2 hi3
  have k13 := Blk.new w3 40 #[.slice A1 ns.length c1, .slice A2 ls.length c2]
  have hq := (Below.refl w3.heap.size w3).alloc (Nat.le_refl _) (Obj.cells #[.slice A1 ns.length c1, .slice A2 ls.length c2] 40)
  go_upto_region 6 with fail
  replace hB := below_grows hB (Nat.le_refl _) hq
  replace hok := hok.grows hq
  replace hci := hci.grows hq
  clear hq
  generalize World.alloc w3 _ = w4 at *
  generalize w3.heap.size = G13 at *
  have k36 := Blk.new w4 36 #[.slice A3 cs.length c3, .slice A9 ws.length c9]
  have hq := (Below.refl w4.heap.size w4).alloc (Nat.le_refl _) (Obj.cells #[.slice A3 cs.length c3, .slice A9 ws.length c9] 36)
  go_wp2_with fail
  replace hB := below_grows hB (Nat.le_refl _) hq
  replace hok := hok.grows hq
  replace hci := hci.grows hq
  replace k13 := k13.grows hq
  clear hq
  generalize World.alloc w4 _ = w5 at *
  generalize w4.heap.size = G36 at *
  go_loopw [38] (fun i wr => ∃ m : Nat, m ≤ 2 ∧ i = .int .i64 m ∧ Below w.heap.size w wr ∧ Blk wr G13 40 #[.slice A1 ns.length c1, .slice A2 ls.length c2] ∧ Blk wr G36 36 #[.slice A3 cs.length c3, .slice A9 ws.length c9] ∧ GOK wr A1 A2 c2 ns ls ∧ Ints wr A3 cs) (fun i _ => 2 - (intOf i).toNat)
  case atStart => exact ⟨0, by omega, rfl, hB, k13, k36, hok, hci⟩
  case round =>
    clear hB k13 k36 hok hci
    obtain ⟨m, hm, rfl, hB, k13, k36, hok, hci⟩ := hrel
    by_cases hlt : m < 2
    · obtain ⟨Aw, cw, ww, hkm, hi, hlw⟩ : ∃ (Aw : Option Addr) (cw : Nat) (ww : List Int), (#[Value.slice A3 cs.length c3, .slice A9 ws.length c9] : Array Value)[m]? = some (.slice Aw ww.length cw) ∧ Ints wr Aw ww ∧ ww.length ≤ 9223372036854775807 := by
        match m, hlt with
        | 0, _ => exact ⟨_, _, _, rfl, hci, by omega⟩
        | 1, _ => exact ⟨_, _, _, rfl, hI9.grows hB, by omega⟩
      have e36 := k36.cell m
      rw [hkm] at e36
      have HKM := Lib.hid hkm
      clear hkm
      go_upto_region 9 with fail
      clear e36
      go_wp2_with (go_at_call 8; refine (mod_any _ _ _ (by omega) (by omega)).mono ?_; rintro e w' ⟨rfl, rfl⟩)
      have k50 := Blk.new wr 46 #[.int .i64 f, .int .i64 t, .int .i64 (a % 26), .int .i64 (b % 26)]
      have hq := (Below.refl wr.heap.size wr).alloc (Nat.le_refl _) (Obj.cells #[.int .i64 f, .int .i64 t, .int .i64 (a % 26), .int .i64 (b % 26)] 46)
      replace hB := below_grows hB (Nat.le_refl _) hq
      replace hok := hok.grows hq
      replace hci := hci.grows hq
      replace hi := hi.grows hq
      replace k13 := k13.grows hq
      replace k36 := k36.grows hq
      clear hq
      generalize World.alloc wr _ = w6 at *
      generalize wr.heap.size = G50 at *
      go_loopw [52] (fun i wr => ∃ p : Nat, p ≤ 2 ∧ i = .int .i64 p ∧ Below w.heap.size w wr ∧ Blk wr G13 40 #[.slice A1 ns.length c1, .slice A2 ls.length c2] ∧ Blk wr G50 46 #[.int .i64 f, .int .i64 t, .int .i64 (a % 26), .int .i64 (b % 26)] ∧ Blk wr G36 36 #[.slice A3 cs.length c3, .slice A9 ws.length c9] ∧ GOK wr A1 A2 c2 ns ls ∧ Ints wr Aw ww ∧ Ints wr A3 cs) (fun i _ => 2 - (intOf i).toNat)
      case atStart => exact ⟨0, by omega, rfl, hB, k13, k50, k36, hok, hi, hci⟩
      case round =>
        clear hB k13 k50 k36 hok hi hci
        obtain ⟨p, hp, rfl, hB, k13, k50, k36, hok, hi, hci⟩ := hrel
        match p, hp with
        | 0, _ =>
          simp only [Int.cast_ofNat_Int]
          have hx1 : In64 (f) := Hf.out
          have hx2 : In64 (t) := Ht.out
          have k18 := Blk.new wr 46 #[.int .i64 (f), .int .i64 (t)]
          have hq := (Below.refl wr.heap.size wr).alloc (Nat.le_refl _) (Obj.cells #[.int .i64 (f), .int .i64 (t)] 46)
          have e0 := k50.cell 0
          have e1 := k50.cell 1
          go_upto_region 12 with fail
          clear e0 e1
          have hB2 := below_grows hB (Nat.le_refl _) hq
          have k13' := k13.grows hq
          have k50' := k50.grows hq
          have k36' := k36.grows hq
          have hok' := hok.grows hq
          have hi' := hi.grows hq
          have hc' := hci.grows hq
          clear hq
          generalize World.alloc wr _ = w5 at *
          generalize wr.heap.size = G18 at *
          have x13 := k13'.cell
          have x18 := k18.cell
          go_wp2_with fail
          refine (plong_any (f) (t) hok' hi' hlw hx1 hx2).mono ?_
          rintro e w6 ⟨rfl, hq⟩
          replace hB2 := below_grows hB2 (Nat.le_refl _) hq
          replace k13' := k13'.grows hq
          replace k50' := k50'.grows hq
          replace k36' := k36'.grows hq
          replace k18 := k18.grows hq
          replace hok' := hok'.grows hq
          replace hi' := hi'.grows hq
          replace hc' := hc'.grows hq
          clear hq x13 x18
          have x13 := k13'.cell
          have x18 := k18.cell
          generalize hR : longG ns ls ww (f) (t) = R
          have HR := Lib.hid hR
          clear hR
          go_wp2_with fail
          refine (rlong_any (f) (t) hok' hi' hlw).mono ?_
          rw [HR.out]
          rintro e w7 ⟨rfl, hq⟩
          replace hB2 := below_grows hB2 (Nat.le_refl _) hq
          replace k13' := k13'.grows hq
          replace k50' := k50'.grows hq
          replace k36' := k36'.grows hq
          replace hok' := hok'.grows hq
          replace hi' := hi'.grows hq
          replace hc' := hc'.grows hq
          clear hq x13 x18 k18
          obtain ⟨r1, r2⟩ := R
          simp only []
          go_wp2
          go_roundw
          case rel => exact ⟨1, by omega, rfl, hB2, k13', k50', k36', hok', hi', hc'⟩
          case measure => simp [intOf]
        | 1, _ =>
          simp only [Int.cast_ofNat_Int]
          have hx1 : In64 (a % 26) := in64_mod a
          have hx2 : In64 (b % 26) := in64_mod b
          have k18 := Blk.new wr 46 #[.int .i64 (a % 26), .int .i64 (b % 26)]
          have hq := (Below.refl wr.heap.size wr).alloc (Nat.le_refl _) (Obj.cells #[.int .i64 (a % 26), .int .i64 (b % 26)] 46)
          have e0 := k50.cell 2
          have e1 := k50.cell 3
          go_upto_region 12 with fail
          clear e0 e1
          have hB2 := below_grows hB (Nat.le_refl _) hq
          have k13' := k13.grows hq
          have k50' := k50.grows hq
          have k36' := k36.grows hq
          have hok' := hok.grows hq
          have hi' := hi.grows hq
          have hc' := hci.grows hq
          clear hq
          generalize World.alloc wr _ = w5 at *
          generalize wr.heap.size = G18 at *
          have x13 := k13'.cell
          have x18 := k18.cell
          go_wp2_with fail
          refine (plong_any (a % 26) (b % 26) hok' hi' hlw hx1 hx2).mono ?_
          rintro e w6 ⟨rfl, hq⟩
          replace hB2 := below_grows hB2 (Nat.le_refl _) hq
          replace k13' := k13'.grows hq
          replace k50' := k50'.grows hq
          replace k36' := k36'.grows hq
          replace k18 := k18.grows hq
          replace hok' := hok'.grows hq
          replace hi' := hi'.grows hq
          replace hc' := hc'.grows hq
          clear hq x13 x18
          have x13 := k13'.cell
          have x18 := k18.cell
          generalize hR : longG ns ls ww (a % 26) (b % 26) = R
          have HR := Lib.hid hR
          clear hR
          go_wp2_with fail
          refine (rlong_any (a % 26) (b % 26) hok' hi' hlw).mono ?_
          rw [HR.out]
          rintro e w7 ⟨rfl, hq⟩
          replace hB2 := below_grows hB2 (Nat.le_refl _) hq
          replace k13' := k13'.grows hq
          replace k50' := k50'.grows hq
          replace k36' := k36'.grows hq
          replace hok' := hok'.grows hq
          replace hi' := hi'.grows hq
          replace hc' := hc'.grows hq
          clear hq x13 x18 k18
          obtain ⟨r1, r2⟩ := R
          simp only []
          go_wp2
          go_roundw
          case rel => exact ⟨2, by omega, rfl, hB2, k13', k50', k36', hok', hi', hc'⟩
          case measure => simp [intOf]
        | 2, _ =>
          simp only [Int.cast_ofNat_Int]
          go_wp2
          go_roundw
          case rel => exact ⟨m + 1, by omega, by go_num, hB, k13, k36, hok, hci⟩
          case measure => simp [intOf]; omega
    · go_wp2
      go_ret
      exact ⟨rfl, hB⟩
end LatencyLongest
namespace LatencyLongest
set_option maxRecDepth 100000 in
theorem contract (H : Type) (enc : TypeId × Value → H) (W : World) (base : Nat) (args : Array Value) (ds gs : List (DataW H)) (before : List MemPlace)
    (hval0 : ∀ (j : Nat) t v, Try.f5.params[j]? = some t → args[j]? = some v → Value.okWide Try.prog W .any base t v)
    (hW : DataW.Whole enc Try.prog Try.f5.params.toList Rows.latencyLongestSpec.vars false W args.toList ds gs before)
    (hsz0 : (DataW.weightsEach Try.prog (Try.f5.params.toList ++ Rows.latencyLongestSpec.plain.varTypes Try.prog) (ds ++ gs)).all (· ≤ reachBytes) = true) :
    Calls Try.prog 5 args W fun e W' => ∃ v, e = .returned v ∧ Rows.latencyLongestSpec.post enc Try.prog Try.f5 false true false false W args v W' := by
  have key : Calls Try.prog 5 args W fun e W' => e = .returned (.bool true) ∧ Below W.heap.size W W' := by
    have hval : ∀ (j : Nat) t v, Try.f5.params[j]? = some t → args[j]? = some v → Value.okWide Try.prog W .any base t v := hval0
    obtain ⟨p, q, hA0, hV, hbe, hfz, hnd⟩ := hW
    have hA : DataW.TrodAll enc Try.prog W 0 (fun _ => true) true Try.f5.params.toList args.toList ds p := hA0
    rw [Try.params5] at hA hval
    clear hA0 hval0
    obtain ⟨v0, vs0, d0, ds0, p0, q0, hargs, rfl, rfl, h0, r0⟩ := trodAll_cons hA
    obtain ⟨v1, vs1, d1, ds1, p1, q1, rfl, rfl, rfl, h1, r1⟩ := trodAll_cons r0
    obtain ⟨v2, vs2, d2, ds2, p2, q2, rfl, rfl, rfl, h2, r2⟩ := trodAll_cons r1
    obtain ⟨v3, vs3, d3, ds3, p3, q3, rfl, rfl, rfl, h3, r3⟩ := trodAll_cons r2
    obtain ⟨v4, vs4, d4, ds4, p4, q4, rfl, rfl, rfl, h4, r4⟩ := trodAll_cons r3
    obtain ⟨v5, vs5, d5, ds5, p5, q5, rfl, rfl, rfl, h5, r5⟩ := trodAll_cons r4
    obtain ⟨rfl, rfl, rfl⟩ := trodAll_nil r5
    obtain rfl : args = #[v0, v1, v2, v3, v4, v5] := by cases args; simp_all
    obtain ⟨rfl, rfl⟩ := trodVars_none hV
    have hsz : (DataW.weightsEach Try.prog (Try.f5.params.toList ++ Rows.latencyLongestSpec.plain.varTypes Try.prog) ([d0, d1, d2, d3, d4, d5] ++ [])).all (· ≤ reachBytes) = true := hsz0
    rw [Try.params5] at hsz
    clear hsz0
    obtain ⟨A0, c0, l, rfl, hI0, hm0, hc0⟩ := open_slice_ints Try.underlying36 Try.underlying3 (by kernel_rfl) (hval 0 36 v0 rfl rfl) h0
    obtain ⟨A9, c9, ws, rfl, hI9, hm9, hc9⟩ := open_slice_ints Try.underlying36 Try.underlying3 (by kernel_rfl) (hval 1 36 v1 rfl rfl) h1
    obtain ⟨a2, rfl, rfl, rfl, w2⟩ := open_int Try.underlying3 (hval 2 3 v2 rfl rfl) h2
    obtain ⟨a3, rfl, rfl, rfl, w3⟩ := open_int Try.underlying3 (hval 3 3 v3 rfl rfl) h3
    obtain ⟨a4, rfl, rfl, rfl, w4⟩ := open_int Try.underlying3 (hval 4 3 v4 rfl rfl) h4
    obtain ⟨a5, rfl, rfl, rfl, w5⟩ := open_int Try.underlying3 (hval 5 3 v5 rfl rfl) h5
    exact LatencyLongest.walk A0 A9 c0 c9 l ws a2 a3 a4 a5 W hI0 hI9 (by unfold maxLen at hm0; omega) (in64_wf w2) (in64_wf w3)
  refine key.mono fun e W' ⟨he, hb⟩ => ⟨_, he, law_post laid_out hW ?_ rfl (by kernel_rfl) Try.underlying4 ?_ hb⟩
  · rw [Try.params5]
    intro t ht
    simp only [List.mem_cons, List.not_mem_nil, or_false] at ht
    rcases ht with rfl | rfl | rfl | rfl | rfl | rfl <;> exact ⟨by kernel_rfl, of_decide_eq_true (by kernel_rfl)⟩
  · rw [Try.params5]
    intro ds hl
    match ds, hl with
    | [_, _, _, _, _, _], _ => rfl

set_option maxRecDepth 100000 in
theorem lifted (os : Os) (started : os.Started) (H : Type) (enc : TypeId × Value → H) :
    ReturnsInHanded {} Try.checked os 5 .any (Rows.latencyLongestSpec.pre6 enc Try.prog Try.f5 Rows.latencyLongestRow.domain false) (Rows.latencyLongestSpec.post enc Try.prog Try.f5 false true false false) := by
  refine returnsInHanded_of_change_sized (C := Try.checked) own_knob started (by kernel_rfl) Try.func5
    (ChangeSpec.witness6 (enc := enc) (C := Try.checked) false ⟨#[], #[.slice none 0 0, .slice none 0 0, .int .i64 0, .int .i64 0, .int .i64 0, .int .i64 0], []⟩ 8 (by kernel_rfl) (by kernel_rfl) (by kernel_rfl) (by kernel_rfl)) ?_
  intro W base args ds gs before hval0 hW _ hsz0 _
  exact contract H enc W base args ds gs before hval0 hW hsz0

theorem over : Rows.latencyLongestRow.holds Try.pinned (OpenSpec.ofChange Rows.latencyLongestSpec) :=
  OpenClaim.holds_of_wide 5 Try.f5 rfl rfl rfl rfl rfl rfl rfl ⟨rfl, rfl, rfl, rfl, rfl⟩ rfl rfl rfl rfl rfl (by kernel_rfl) Try.func5 (by kernel_rfl)
    (of_decide_eq_true (by kernel_rfl)) (by unfold Func.isWrapper; first | (rw [if_pos (by decide +kernel)]; kernel_rfl) | (rw [if_neg (by decide +kernel)]; exact ⟨rfl, rfl⟩))
    (fun os started H enc _ => lifted os started H enc)

/-- The given statement. -/
theorem proved : Rows.LatencyLongestSaid := over
end LatencyLongest
#print axioms LatencyLongest.proved
end Go.Proofs.Ytmokpiacioeohaa
