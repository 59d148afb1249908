/-
  PhaseNeeds, for every input: the law returns true, and each argument reads behind the call as it read before. No condition.
-/
import Derived.Test.YtjdgfcjkpdmodaaPhD
import Derived.Test.YtjdgfcjkpdmodaaPhMoves
import Derived.Deep.RegionWith
import Derived.Deep.DeepCutAuto
import Derived.Deep.CutBlock
namespace Go.Proofs.Ytjdgfcjkpdmodaa
open Go.ChangeShapes Go.WideShapes Go.ChangeAt Go.RowKit
namespace PhaseNeeds
set_option maxRecDepth 100000 in
set_option maxHeartbeats 32000000 in
theorem walk (r0 r1 r2 r3 r4 : Int) (A : Option Addr) (cp : Nat) (l : List Int) (k m : Int) (w : World) (hI : Reads w w.heap.size 1 A l.length (l.map (Value.int .u8))) (hl : l.length ≤ 9223372036854775807) (hcp : l.length ≤ cp) (hwf : ∀ x ∈ l, 0 ≤ x ∧ x ≤ 255) : Calls Try.prog 6 #[.agg #[.int .i64 r0, .int .i64 r1, .int .i64 r2, .int .i64 r3, .int .i64 r4], .slice A l.length cp, .int .i64 k, .int .i64 m] w fun e w' => e = .returned (.bool true) ∧ Below w.heap.size w w' := by
  go_enter Try.func6, Try.ntmps6
  go_wp2_with fail
  refine (sane_any _).mono ?_
  rintro e w1 ⟨rfl, hq⟩
  have k4 := Blk.grows (Blk.new _ _ _) hq
  have hB := below_grows ((Below.refl w.heap.size w).alloc (Nat.le_refl _) _) (by simp) hq
  have x4 := k4.cell
  have z4 := k4.lt
  clear hq
  go_upto_region 3 with fail
  go_cut [28, 29, 30] (fun s40 s41 s42 wx => ∃ (n d a p f : Int) (G : Nat), s40 = .slice (some ⟨G, 0, none⟩) 2 2 ∧ s41 = .int .i64 2 ∧ s42 = .int .i64 0 ∧ w.heap.size < G ∧ Below w.heap.size w wx ∧ Blk wx G 27 #[.int .i64 r0, .int .i64 r1, .int .i64 r2, .int .i64 r3, .int .i64 r4, .int .i64 n, .int .i64 d, .int .i64 a, .int .i64 p, .int .i64 f])
  case first =>
    go_region_with (go_at_call 10; refine (made_any A cp l _ (hI.grows (by first | exact hB | exact hB.drew)) hcp hl hwf).mono ?_; rintro e w2 ⟨⟨n, d, a, p, f, hok, hp, rfl⟩, hq⟩; have k44 := (Blk.grows (by first | exact k4 | exact k4.drew) hq); have x44 := k44.cell; have hB2 : Below w.heap.size w w2 := below_grows (by first | exact hB | exact hB.drew) (Nat.le_refl _) hq)
    all_goals go_wp2_with fail
    all_goals go_meet
    all_goals exact ⟨n, d, a, p, f, w2.heap.size, rfl, rfl, rfl, k44.lt, hB2.alloc hB2.size _, Blk.new _ _ _⟩
  case rest =>
    clear hB k4 x4 z4
    obtain ⟨n, d, a, p, f, G, rfl, rfl, rfl, hzG, hB, k28⟩ := hcut
    have b1 := Int.tmod_lt_of_pos k (show (0 : Int) < 2000 by omega)
    have b2 := Int.lt_tmod_of_pos k (show (0 : Int) < 2000 by omega)
    have b3 := Int.tmod_lt_of_pos m (show (0 : Int) < 3000 by omega)
    have b4 := Int.lt_tmod_of_pos m (show (0 : Int) < 3000 by omega)
    have b5 := Int.tmod_lt_of_pos m (show (0 : Int) < 1099511627778 by omega)
    have b6 := Int.lt_tmod_of_pos m (show (0 : Int) < 1099511627778 by omega)
    have wk : IntKind.i64.wrap (Int.tmod k 2000) = Int.tmod k 2000 := IntWalk.i64_in _ (by omega)
    have wa : IntKind.i64.wrap (Int.tmod m 3000) = Int.tmod m 3000 := IntWalk.i64_in _ (by omega)
    have wb : IntKind.i64.wrap (Int.tmod m 1099511627778) = Int.tmod m 1099511627778 := IntWalk.i64_in _ (by omega)
    clear b1 b2 b3 b4 b5 b6
    go_wp2
    go_loopw [30] (fun i wr => ∃ c : Nat, c ≤ 2 ∧ i = .int .i64 c ∧ Below w.heap.size w wr ∧ Blk wr G 27 #[.int .i64 r0, .int .i64 r1, .int .i64 r2, .int .i64 r3, .int .i64 r4, .int .i64 n, .int .i64 d, .int .i64 a, .int .i64 p, .int .i64 f]) (fun i _ => 2 - (intOf i).toNat)
    case atStart => exact ⟨0, by omega, rfl, hB, k28⟩
    case round =>
      clear hB k28
      obtain ⟨c, hc, rfl, hB, k28⟩ := hrel
      by_cases hlt : c < 2
      · have hcb : decide ((c : Int) < 2) = true := by simp; omega
        obtain ⟨xn, xd, xa, xp, xf, i0, i1, i2, i3, i4⟩ : ∃ (xn xd xa xp xf : Int), wr.cell? ⟨G, c * 5, none⟩ = some (.int .i64 xn) ∧ wr.cell? ⟨G, c * 5 + 1, none⟩ = some (.int .i64 xd) ∧ wr.cell? ⟨G, c * 5 + 2, none⟩ = some (.int .i64 xa) ∧ wr.cell? ⟨G, c * 5 + 3, none⟩ = some (.int .i64 xp) ∧ wr.cell? ⟨G, c * 5 + 4, none⟩ = some (.int .i64 xf) := by
          match c, hlt with
          | 0, _ => exact ⟨r0, r1, r2, r3, r4, k28.cell 0, k28.cell 1, k28.cell 2, k28.cell 3, k28.cell 4⟩
          | 1, _ => exact ⟨n, d, a, p, f, k28.cell 5, k28.cell 6, k28.cell 7, k28.cell 8, k28.cell 9⟩
        go_wp2
        have k10 := (Blk.new wr 27 #[.int .i64 xn, .int .i64 xd, .int .i64 xa, .int .i64 xp, .int .i64 xf]).alloc (Obj.cells #[.int .i64 k, .int .i64 (Int.tmod k 2000)] 3)
        have k37 := blk_new_at (X := wr.alloc (Obj.cells #[.int .i64 xn, .int .i64 xd, .int .i64 xa, .int .i64 xp, .int .i64 xf] 27)) (n := wr.heap.size + 1) (t := 3) (cs := #[.int .i64 k, .int .i64 (Int.tmod k 2000)]) (by simp)
        have z28 := k28.lt
        replace k28 := (k28.alloc (Obj.cells #[.int .i64 xn, .int .i64 xd, .int .i64 xa, .int .i64 xp, .int .i64 xf] 27)).alloc (Obj.cells #[.int .i64 k, .int .i64 (Int.tmod k 2000)] 3)
        replace hB := (hB.alloc hB.size (Obj.cells #[.int .i64 xn, .int .i64 xd, .int .i64 xa, .int .i64 xp, .int .i64 xf] 27)).alloc (by simp <;> omega) (Obj.cells #[.int .i64 k, .int .i64 (Int.tmod k 2000)] 3)
        clear i0 i1 i2 i3 i4
        generalize hG : wr.heap.size = G12 at *
        clear hG
        generalize World.alloc (World.alloc wr (Obj.cells #[.int .i64 xn, .int .i64 xd, .int .i64 xa, .int .i64 xp, .int .i64 xf] 27)) (Obj.cells #[.int .i64 k, .int .i64 (Int.tmod k 2000)] 3) = w4 at *
        go_loopw [39] (fun i wr => ∃ j : Nat, j ≤ 2 ∧ i = .int .i64 j ∧ Below w.heap.size w wr ∧ Blk wr G 27 #[.int .i64 r0, .int .i64 r1, .int .i64 r2, .int .i64 r3, .int .i64 r4, .int .i64 n, .int .i64 d, .int .i64 a, .int .i64 p, .int .i64 f] ∧ Blk wr G12 27 #[.int .i64 xn, .int .i64 xd, .int .i64 xa, .int .i64 xp, .int .i64 xf] ∧ Blk wr (G12 + 1) 3 #[.int .i64 k, .int .i64 (Int.tmod k 2000)]) (fun i _ => 2 - (intOf i).toNat)
        case atStart => exact ⟨0, by omega, rfl, hB, k28, k10, k37⟩
        case round =>
          clear hB k28 k10 k37
          obtain ⟨j, hj, rfl, hB, k28, k10, k37⟩ := hrel
          by_cases hjt : j < 2
          · have hjb : decide ((j : Int) < 2) = true := by simp; omega
            obtain ⟨nn, hv⟩ : ∃ nn : Int, (#[Value.int .i64 k, .int .i64 (Int.tmod k 2000)] : Array Value)[j]? = some (.int .i64 nn) := by
              match j, hjt with
              | 0, _ => exact ⟨_, rfl⟩
              | 1, _ => exact ⟨_, rfl⟩
            have j0 := (k37.cell j).trans hv
            clear hv
            have x10 := k10.cell
            go_wp2_with fail
            refine (neede_any xn xd xa xp xf nn _).mono ?_
            rintro e y0 ⟨rfl, hq⟩
            replace k28 := k28.grows hq
            replace k10 := k10.grows hq
            replace k37 := k37.grows hq
            replace hB := below_grows hB (Nat.le_refl _) hq
            have x10 := k10.cell
            clear hq
            go_wp2_with fail
            refine (rneede_any xn xd xa xp xf nn _).mono ?_
            rintro e y1 ⟨rfl, hq⟩
            replace k28 := k28.grows hq
            replace k10 := k10.grows hq
            replace k37 := k37.grows hq
            replace hB := below_grows hB (Nat.le_refl _) hq
            have x10 := k10.cell
            clear hq
            go_wp2
            go_roundw
            case rel => exact ⟨j + 1, by omega, by go_num, hB, k28, k10, k37⟩
            case measure => simp [intOf]; omega
          · have hjb : decide ((j : Int) < 2) = false := by simp; omega
            go_wp2
            have z10 := k10.lt
            replace k28 := k28.alloc (Obj.cells #[.int .i64 m, .int .i64 (Int.tmod m 3000), .int .i64 (Int.tmod m 1099511627778)] 2)
            replace k10 := k10.alloc (Obj.cells #[.int .i64 m, .int .i64 (Int.tmod m 3000), .int .i64 (Int.tmod m 1099511627778)] 2)
            replace hB := hB.alloc hB.size (Obj.cells #[.int .i64 m, .int .i64 (Int.tmod m 3000), .int .i64 (Int.tmod m 1099511627778)] 2)
            have k69 := Blk.new wr 2 #[.int .i64 m, .int .i64 (Int.tmod m 3000), .int .i64 (Int.tmod m 1099511627778)]
            clear k37
            generalize hG : wr.heap.size = G69 at *
            clear hG
            generalize World.alloc wr (Obj.cells #[.int .i64 m, .int .i64 (Int.tmod m 3000), .int .i64 (Int.tmod m 1099511627778)] 2) = w5 at *
            go_loopw [71] (fun i wr => ∃ j : Nat, j ≤ 3 ∧ i = .int .i64 j ∧ Below w.heap.size w wr ∧ Blk wr G 27 #[.int .i64 r0, .int .i64 r1, .int .i64 r2, .int .i64 r3, .int .i64 r4, .int .i64 n, .int .i64 d, .int .i64 a, .int .i64 p, .int .i64 f] ∧ Blk wr G12 27 #[.int .i64 xn, .int .i64 xd, .int .i64 xa, .int .i64 xp, .int .i64 xf] ∧ Blk wr G69 2 #[.int .i64 m, .int .i64 (Int.tmod m 3000), .int .i64 (Int.tmod m 1099511627778)]) (fun i _ => 3 - (intOf i).toNat)
            case atStart => exact ⟨0, by omega, rfl, hB, k28, k10, k69⟩
            case round =>
              clear hB k28 k10 k69
              obtain ⟨j, hj, rfl, hB, k28, k10, k69⟩ := hrel
              by_cases hjt : j < 3
              · have hjb : decide ((j : Int) < 3) = true := by simp; omega
                obtain ⟨nn, hv⟩ : ∃ nn : Int, (#[Value.int .i64 m, .int .i64 (Int.tmod m 3000), .int .i64 (Int.tmod m 1099511627778)] : Array Value)[j]? = some (.int .i64 nn) := by
                  match j, hjt with
                  | 0, _ => exact ⟨_, rfl⟩
                  | 1, _ => exact ⟨_, rfl⟩
                  | 2, _ => exact ⟨_, rfl⟩
                have j0 := (k69.cell j).trans hv
                clear hv
                have x10 := k10.cell
                go_wp2_with fail
                refine (make_any xn xd xa xp xf nn _).mono ?_
                rintro e y4 ⟨⟨s4, hs4, rfl⟩, hq⟩
                replace k28 := k28.grows hq
                replace k10 := k10.grows hq
                replace k69 := k69.grows hq
                replace hB := below_grows hB (Nat.le_refl _) hq
                have x10 := k10.cell
                clear hq
                go_wp2_with fail
                refine (rmake_any xn xd xa xp xf nn _).mono ?_
                rintro e y5 ⟨⟨s5, hs5, rfl⟩, hq⟩
                replace k28 := k28.grows hq
                replace k10 := k10.grows hq
                replace k69 := k69.grows hq
                replace hB := below_grows hB (Nat.le_refl _) hq
                have x10 := k10.cell
                clear hq
                obtain rfl := makeR_one hs4 hs5
                clear hs4 hs5
                go_wp2
                go_roundw
                case rel => exact ⟨j + 1, by omega, by go_num, hB, k28, k10, k69⟩
                case measure => simp [intOf]; omega
              · have hjb : decide ((j : Int) < 3) = false := by simp; omega
                go_wp2
                go_roundw
                case rel => exact ⟨c + 1, by omega, by go_num, hB, k28⟩
                case measure => simp [intOf]; omega
      · have hcb : decide ((c : Int) < 2) = false := by simp; omega
        go_wp2
        go_ret
        exact ⟨rfl, hB⟩
end PhaseNeeds
namespace PhaseNeeds
theorem contract (H : Type) (enc : TypeId × Value → H) (W : World) (base : Nat) (args : Array Value) (ds gs : List (DataW H)) (before : List MemPlace)
    (hval0 : ∀ (j : Nat) t v, Try.f6.params[j]? = some t → args[j]? = some v → Value.okWide Try.prog W .any base t v)
    (hW : DataW.Whole enc Try.prog Try.f6.params.toList Rows.phaseNeedsSpec.vars false W args.toList ds gs before)
    (hsz0 : (DataW.weightsEach Try.prog (Try.f6.params.toList ++ Rows.phaseNeedsSpec.plain.varTypes Try.prog) (ds ++ gs)).all (· ≤ reachBytes) = true) :
    Calls Try.prog 6 args W fun e W' => ∃ v, e = .returned v ∧ Rows.phaseNeedsSpec.post enc Try.prog Try.f6 false true false false W args v W' := by
  have key : Calls Try.prog 6 args W fun e W' => e = .returned (.bool true) ∧ Below W.heap.size W W' := by
    have hval : ∀ (j : Nat) t v, Try.f6.params[j]? = some t → args[j]? = some v → Value.okWide Try.prog W .any base t v := hval0
    obtain ⟨p, q, hA0, hV, hbe, hfz, hnd⟩ := hW
    have hA : DataW.TrodAll enc Try.prog W 0 (fun _ => true) true Try.f6.params.toList args.toList ds p := hA0
    rw [Try.params6] at hA hval
    clear hA0 hval0
    obtain ⟨v0, vs0, d0, ds0, p0, q0, hargs, rfl, rfl, h0, r0⟩ := trodAll_cons hA
    obtain ⟨v1, vs1, d1, ds1, p1, q1, rfl, rfl, rfl, h1, r1⟩ := trodAll_cons r0
    obtain ⟨v2, vs2, d2, ds2, p2, q2, rfl, rfl, rfl, h2, r2⟩ := trodAll_cons r1
    obtain ⟨v3, vs3, d3, ds3, p3, q3, rfl, rfl, rfl, h3, r3⟩ := trodAll_cons r2
    obtain ⟨rfl, rfl, rfl⟩ := trodAll_nil r3
    obtain rfl : args = #[v0, v1, v2, v3] := by cases args; simp_all
    obtain ⟨rfl, rfl⟩ := trodVars_none hV
    have hsz : (DataW.weightsEach Try.prog (Try.f6.params.toList ++ Rows.phaseNeedsSpec.plain.varTypes Try.prog) ([d0, d1, d2, d3] ++ [])).all (· ≤ reachBytes) = true := hsz0
    rw [Try.params6] at hsz
    clear hsz0
    obtain ⟨u0, u1, u2, u3, u4, rfl⟩ := open_ph (hval 0 27 v0 rfl rfl) h0
    obtain ⟨A, cp, l, rfl, hI, hl, hcp, hwf⟩ := open_slice_kind (k := .u8) Try.underlying22 Try.underlying5 (by kernel_rfl) (hval 1 22 v1 rfl rfl) h1
    obtain ⟨a2, rfl, rfl, rfl, w2⟩ := open_int Try.underlying3 (hval 2 3 v2 rfl rfl) h2
    obtain ⟨a3, rfl, rfl, rfl, w3⟩ := open_int Try.underlying2 (hval 3 2 v3 rfl rfl) h3
    exact PhaseNeeds.walk u0 u1 u2 u3 u4 A cp l a2 a3 W hI hl hcp (fun x hx => u8_bd (hwf x hx))
  refine key.mono fun e W' ⟨he, hb⟩ => ⟨_, he, law_post laid_out hW ?_ rfl (by kernel_rfl) Try.underlying4 ?_ hb⟩
  · rw [Try.params6]
    intro t ht
    simp only [List.mem_cons, List.not_mem_nil, or_false] at ht
    rcases ht with rfl | rfl | rfl | rfl <;> exact ⟨by kernel_rfl, of_decide_eq_true (by kernel_rfl)⟩
  · rw [Try.params6]
    intro ds hl
    match ds, hl with
    | [_, _, _, _], _ => rfl

set_option maxRecDepth 100000 in
theorem lifted (os : Os) (started : os.Started) (H : Type) (enc : TypeId × Value → H) :
    ReturnsInHanded {} Try.checked os 6 .any (Rows.phaseNeedsSpec.pre6 enc Try.prog Try.f6 Rows.phaseNeedsRow.domain false) (Rows.phaseNeedsSpec.post enc Try.prog Try.f6 false true false false) := by
  refine returnsInHanded_of_change_sized (C := Try.checked) own_knob started (by kernel_rfl) Try.func6
    (ChangeSpec.witness6 (enc := enc) (C := Try.checked) false ⟨#[], #[.agg #[.int .i64 0, .int .i64 0, .int .i64 0, .int .i64 0, .int .i64 0], .slice none 0 0, .int .i64 0, .int .i64 0], []⟩ 8 (by kernel_rfl) (by kernel_rfl) (by kernel_rfl) (by kernel_rfl)) ?_
  intro W base args ds gs before hval0 hW _ hsz0 _
  exact contract H enc W base args ds gs before hval0 hW hsz0

theorem over : Rows.phaseNeedsRow.holds Try.pinned (OpenSpec.ofChange Rows.phaseNeedsSpec) :=
  OpenClaim.holds_of_wide 6 Try.f6 rfl rfl rfl rfl rfl rfl rfl ⟨rfl, rfl, rfl, rfl, rfl⟩ rfl rfl rfl rfl rfl (by kernel_rfl) Try.func6 (by kernel_rfl)
    (of_decide_eq_true (by kernel_rfl)) (by unfold Func.isWrapper; first | (rw [if_pos (by decide +kernel)]; kernel_rfl) | (rw [if_neg (by decide +kernel)]; exact ⟨rfl, rfl⟩))
    (fun os started H enc _ => lifted os started H enc)

/-- The given statement. -/
theorem proved : Rows.PhaseNeedsSaid := over
end PhaseNeeds
#print axioms PhaseNeeds.proved
end Go.Proofs.Ytjdgfcjkpdmodaa
