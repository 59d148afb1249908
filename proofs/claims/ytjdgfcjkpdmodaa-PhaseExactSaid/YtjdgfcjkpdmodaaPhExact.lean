/-
  PhaseExact, for every input: the law returns true, and each argument reads behind the call as it read before. No condition.
-/
import Derived.Test.YtjdgfcjkpdmodaaPhC
namespace Go.Proofs.Ytjdgfcjkpdmodaa
open Go.ChangeShapes Go.WideShapes Go.ChangeAt Go.RowKit
namespace PhaseExact
set_option maxRecDepth 100000 in
set_option maxHeartbeats 16000000 in
theorem walk (A : Option Addr) (cp : Nat) (l : List Int) (t : Int) (w : World) (hI : Reads w w.heap.size 1 A l.length (l.map (Value.int .u8))) (hl : l.length ≤ 9223372036854775807) (hcp : l.length ≤ cp) (hwf : ∀ x ∈ l, 0 ≤ x ∧ x ≤ 255) (ht : 0 ≤ t ∧ t ≤ 255) : Calls Try.prog 3 #[.slice A l.length cp, .int .u8 t] w fun e w' => e = .returned (.bool true) ∧ Below w.heap.size w w' := by
  have m1 := Int.emod_nonneg t (b := 5) (by omega)
  have m2 := Int.emod_lt_of_pos t (b := 5) (by omega)
  have tm : Int.tmod t 5 = t % 5 := Int.tmod_eq_emod_of_nonneg ht.1
  have wm : IntKind.u8.wrap (t % 5) = t % 5 := IntWalk.u8_in _ (by omega)
  have wn : IntKind.i64.wrap (t % 5) = t % 5 := IntWalk.i64_in _ (by omega)
  go_enter Try.func3, Try.ntmps3
  go_wp2_with fail
  refine (sane_any _).mono ?_
  rintro e w1 ⟨rfl, hB⟩
  go_wp2_with fail
  refine (made_any A cp l _ (hI.grows hB) hcp hl hwf).mono ?_
  rintro e w2 ⟨⟨n, d, a, p, f, hok, hp, rfl⟩, hq⟩
  replace hB := below_grows hB (Nat.le_refl _) hq
  clear hq
  obtain ⟨b1, b2, b3, b4, b5, b6, b7, b8, b9, b10⟩ := okP_bd hok
  have hok0 : okP n d 0 p f = true := okP_mk (okP_r hok) b2 b4 (by omega) ⟨b7, b8⟩ ⟨b9, b10⟩
  by_cases hd : 2000 < d
  · have q1 : decide (2000 < d) = true := by simpa using hd
    go_wp2
    go_ret
    exact ⟨rfl, hB.alloc hB.size _⟩
  · have q1 : decide (2000 < d) = false := by simpa using hd
    go_wp2
    have k5 := (Blk.new w2 27 #[.int .i64 n, .int .i64 d, .int .i64 0, .int .i64 p, .int .i64 f]).alloc (Obj.cells #[.int .i64 n, .int .i64 d, .int .i64 0, .int .i64 p, .int .i64 f] 27)
    have k7 := blk_new_at (X := w2.alloc (Obj.cells #[.int .i64 n, .int .i64 d, .int .i64 0, .int .i64 p, .int .i64 f] 27)) (n := w2.heap.size + 1) (t := 27) (cs := #[.int .i64 n, .int .i64 d, .int .i64 0, .int .i64 p, .int .i64 f]) (by simp)
    have hsz := hB.size
    replace hB := (hB.alloc hB.size (Obj.cells #[.int .i64 n, .int .i64 d, .int .i64 0, .int .i64 p, .int .i64 f] 27)).alloc (by simp <;> omega) (Obj.cells #[.int .i64 n, .int .i64 d, .int .i64 0, .int .i64 p, .int .i64 f] 27)
    generalize hG : w2.heap.size = G at *
    clear hG hok
    generalize World.alloc (World.alloc w2 _) _ = w3 at *
    obtain ⟨c1, c2⟩ := mul_bd m1 (by omega : t % 5 ≤ 4) (by omega : 0 ≤ n) b2
    have wu : IntKind.i64.wrap (t % 5 * n) = t % 5 * n := IntWalk.i64_in _ (by omega)
    have wv : IntKind.i64.wrap (p + t % 5 * n) = p + t % 5 * n := IntWalk.i64_in _ (by omega)
    go_loopw [8] (fun i wr => ∃ k pos : Int, i = .int .i64 k ∧ 0 ≤ k ∧ k ≤ t % 5 ∧ pos = p + k * n ∧ Below w.heap.size w wr ∧ Blk wr G 27 #[.int .i64 n, .int .i64 d, .int .i64 0, .int .i64 p, .int .i64 f] ∧ Blk wr (G + 1) 27 #[.int .i64 n, .int .i64 d, .int .i64 0, .int .i64 pos, .int .i64 f]) (fun i _ => (t % 5 - intOf i).toNat)
    case atStart => exact ⟨0, p, rfl, by omega, by omega, by omega, hB, k5, k7⟩
    case round =>
      clear hB k5 k7
      obtain ⟨k, pos, rfl, hk0, hk, hpos, hB, k5, k7⟩ := hrel
      obtain ⟨c3, c4⟩ := mul_bd hk0 (by omega : k ≤ 4) (by omega : 0 ≤ n) b2
      have hpb : 0 ≤ pos ∧ pos ≤ 60000000 := by omega
      have HP := Lib.hid hpos
      clear hpos c3 c4
      have x5 := k5.cell
      have x7 := k7.cell
      have f7 := k7.frozen
      have z5 := k5.lt
      have z7 := k7.lt
      by_cases hlt : k < t % 5
      · have hokq : okP n d 0 pos f = true := okP_mk (okP_r hok0) b2 b4 (by omega) (by omega) ⟨b9, b10⟩
        obtain ⟨e1, -, -⟩ := adv_val (k := d) hokq (by omega) (by omega) (by omega)
        obtain ⟨e2, e3⟩ := adv_period (n := n) (by omega : 0 < d) b9 b10
        rw [e2, e3] at e1
        go_wp2_with fail
        refine (adv_any n d 0 pos f d _).mono ?_
        rintro e w4 ⟨rfl, hq⟩
        simp only [e1]
        replace k5 := k5.grows hq
        replace k7 := k7.grows hq
        replace hB := below_grows hB (Nat.le_refl _) hq
        replace x7 := k7.cell
        replace f7 := k7.frozen
        replace z7 := k7.lt
        replace z5 := k5.lt
        clear hq
        go_wp2
        go_roundw
        case rel =>
          refine ⟨k + 1, pos + n, by go_num, by omega, by omega, by rw [Int.add_mul]; have := HP.out; omega, ?_, ?_, ?_⟩
          · exact ((((((hB.setCell (by simp; omega) _).setCell (by simp; omega) _).setCell (by simp; omega) _).setCell (by simp; omega) _).setCell (by simp; omega) _)).alloc (by simp; omega) _
          · exact ((((((k5.far (by simp) _).far (by simp) _).far (by simp) _).far (by simp) _).far (by simp) _)).alloc _
          · exact (((((k7.set_ 0 _).set_ 1 _).set_ 2 _).set_ 3 _).set_ 4 _).alloc _
        case measure => simp [intOf] <;> omega
      · have hke : k = t % 5 := by omega
        subst hke
        have q3 : (pos == p + t % 5 * n) = true := by simp [HP.out]
        go_wp2
        go_ret
        exact ⟨rfl, hB⟩
end PhaseExact
namespace PhaseExact
theorem contract (H : Type) (enc : TypeId × Value → H) (W : World) (base : Nat) (args : Array Value) (ds gs : List (DataW H)) (before : List MemPlace)
    (hval0 : ∀ (j : Nat) t v, Try.f3.params[j]? = some t → args[j]? = some v → Value.okWide Try.prog W .any base t v)
    (hW : DataW.Whole enc Try.prog Try.f3.params.toList Rows.phaseExactSpec.vars false W args.toList ds gs before)
    (hsz0 : (DataW.weightsEach Try.prog (Try.f3.params.toList ++ Rows.phaseExactSpec.plain.varTypes Try.prog) (ds ++ gs)).all (· ≤ reachBytes) = true) :
    Calls Try.prog 3 args W fun e W' => ∃ v, e = .returned v ∧ Rows.phaseExactSpec.post enc Try.prog Try.f3 false true false false W args v W' := by
  have key : Calls Try.prog 3 args W fun e W' => e = .returned (.bool true) ∧ Below W.heap.size W W' := by
    have hval : ∀ (j : Nat) t v, Try.f3.params[j]? = some t → args[j]? = some v → Value.okWide Try.prog W .any base t v := hval0
    obtain ⟨p, q, hA0, hV, hbe, hfz, hnd⟩ := hW
    have hA : DataW.TrodAll enc Try.prog W 0 (fun _ => true) true Try.f3.params.toList args.toList ds p := hA0
    rw [Try.params3] at hA hval
    clear hA0 hval0
    obtain ⟨v0, vs0, d0, ds0, p0, q0, hargs, rfl, rfl, h0, r0⟩ := trodAll_cons hA
    obtain ⟨v1, vs1, d1, ds1, p1, q1, rfl, rfl, rfl, h1, r1⟩ := trodAll_cons r0
    obtain ⟨rfl, rfl, rfl⟩ := trodAll_nil r1
    obtain rfl : args = #[v0, v1] := by cases args; simp_all
    obtain ⟨rfl, rfl⟩ := trodVars_none hV
    have hsz : (DataW.weightsEach Try.prog (Try.f3.params.toList ++ Rows.phaseExactSpec.plain.varTypes Try.prog) ([d0, d1] ++ [])).all (· ≤ reachBytes) = true := hsz0
    rw [Try.params3] at hsz
    clear hsz0
    obtain ⟨A, cp, l, rfl, hI, hl, hcp, hwf⟩ := open_slice_kind (k := .u8) Try.underlying22 Try.underlying5 (by kernel_rfl) (hval 0 22 v0 rfl rfl) h0
    obtain ⟨a1, rfl, rfl, rfl, w1⟩ := open_int Try.underlying5 (hval 1 5 v1 rfl rfl) h1
    exact PhaseExact.walk A cp l a1 W hI hl hcp (fun x hx => u8_bd (hwf x hx)) (u8_bd w1)
  refine key.mono fun e W' ⟨he, hb⟩ => ⟨_, he, law_post laid_out hW ?_ rfl (by kernel_rfl) Try.underlying4 ?_ hb⟩
  · rw [Try.params3]
    intro t ht
    simp only [List.mem_cons, List.not_mem_nil, or_false] at ht
    rcases ht with rfl | rfl <;> exact ⟨by kernel_rfl, of_decide_eq_true (by kernel_rfl)⟩
  · rw [Try.params3]
    intro ds hl
    match ds, hl with
    | [_, _], _ => rfl

set_option maxRecDepth 100000 in
theorem lifted (os : Os) (started : os.Started) (H : Type) (enc : TypeId × Value → H) :
    ReturnsInHanded {} Try.checked os 3 .any (Rows.phaseExactSpec.pre6 enc Try.prog Try.f3 Rows.phaseExactRow.domain false) (Rows.phaseExactSpec.post enc Try.prog Try.f3 false true false false) := by
  refine returnsInHanded_of_change_sized (C := Try.checked) own_knob started (by kernel_rfl) Try.func3
    (ChangeSpec.witness6 (enc := enc) (C := Try.checked) false ⟨#[], #[.slice none 0 0, .int .u8 0], []⟩ 8 (by kernel_rfl) (by kernel_rfl) (by kernel_rfl) (by kernel_rfl)) ?_
  intro W base args ds gs before hval0 hW _ hsz0 _
  exact contract H enc W base args ds gs before hval0 hW hsz0

theorem over : Rows.phaseExactRow.holds Try.pinned (OpenSpec.ofChange Rows.phaseExactSpec) :=
  OpenClaim.holds_of_wide 3 Try.f3 rfl rfl rfl rfl rfl rfl rfl ⟨rfl, rfl, rfl, rfl, rfl⟩ rfl rfl rfl rfl rfl (by kernel_rfl) Try.func3 (by kernel_rfl)
    (of_decide_eq_true (by kernel_rfl)) (by unfold Func.isWrapper; first | (rw [if_pos (by decide +kernel)]; kernel_rfl) | (rw [if_neg (by decide +kernel)]; exact ⟨rfl, rfl⟩))
    (fun os started H enc _ => lifted os started H enc)

/-- The given statement. -/
theorem proved : Rows.PhaseExactSaid := over
end PhaseExact
#print axioms PhaseExact.proved
end Go.Proofs.Ytjdgfcjkpdmodaa
