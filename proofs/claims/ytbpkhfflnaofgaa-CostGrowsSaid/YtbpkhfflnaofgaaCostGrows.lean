/-
  CostGrows, for every input: the law returns true, and each argument reads behind the call as it read before. No condition.
-/
import Derived.Test.YtbpkhfflnaofgaaCostB
import Derived.Test.YtbpkhfflnaofgaaCostPlain
namespace Go.Proofs.Ytbpkhfflnaofgaa
open Go.ChangeShapes Go.WideShapes Go.ChangeAt Go.RowKit
namespace CostGrows
theorem own_ints {w : World} {base : Nat} {e : TypeId} {v : Value} {n : Nat} {l : List Int} (h : w.ownsRow base e 1 v n (l.map (Value.int .i64))) : ∃ (A : Option Addr) (c : Nat), v = .slice A l.length c ∧ Ints w A l := by
  have hn : l.length = n := by have := h.1; simpa using this
  subst hn
  rcases h.2 with ⟨rfl, h0⟩ | ⟨g, cap, cur, rfl, _, _, _⟩
  · exact ⟨none, 0, by rw [h0], Reads.of_own (c := 0) (by rw [h0] at h ⊢; exact h)⟩
  · exact ⟨_, cap, rfl, Reads.of_own h⟩
theorem int_info : (Try.prog.info? 3).map (fun i => (i.zero, i.size, i.bytes)) = some (some (.int .i64 0), 1, 8) := by kernel_rfl
set_option maxRecDepth 100000 in
set_option maxHeartbeats 16000000 in
theorem walk (a b p : Int) (A : Option Addr) (cp : Nat) (l : List Int) (c k : Int) (w : World) (hI : Ints w A l) (hl : l.length ≤ 9223372036854775807) :
    Calls Try.prog 5 #[.int .i64 a, .int .i64 b, .int .i64 p, .slice A l.length cp, .int .i64 c, .int .i64 k] w fun e w' => e = .returned (.bool true) ∧ Below w.heap.size w w' := by
  obtain ⟨i0, hi0, hz0, hz1, hz2⟩ := info_parts int_info
  have hB := Below.refl w.heap.size w
  by_cases hlen : 100 < l.length
  · go_enter Try.func5, Try.ntmps5
    go_wp2_with (first | (go_at_call 6; refine (sane_any _).mono ?_; rintro e w' ⟨rfl, hq⟩; (first | replace hB := below_grows hB (Nat.le_refl _) hq | replace hB := below_grows (hB.alloc hB.size _) (Nat.le_refl _) hq)))
    go_ret
    exact ⟨rfl, hB⟩
  · have m1 := Int.emod_nonneg a (b := 7) (by omega)
    have m2 := Int.emod_lt_of_pos a (b := 7) (by omega)
    have m3 := Int.emod_nonneg b (b := 7) (by omega)
    have m4 := Int.emod_lt_of_pos b (b := 7) (by omega)
    have m5 := Int.emod_nonneg p (b := 1000) (by omega)
    have m6 := Int.emod_lt_of_pos p (b := 1000) (by omega)
    obtain ⟨g1, g2, g3, g4⟩ := stream_grows (i := 1 + a % 7) (o := 1 + b % 7) (p := 16 + p % 1000) (by omega) (by omega) (by omega) (by omega) (by omega) (by omega)
    obtain ⟨g5, g6, g7⟩ := device_grows (c := 1 + a % 7) (p := 16 + p % 1000) (by omega) (by omega) (by omega) (by omega)
    go_enter Try.func5, Try.ntmps5
    go_wp2_with (first | (go_at_call 6; refine (sane_any _).mono ?_; rintro e w' ⟨rfl, hq⟩; (first | replace hB := below_grows hB (Nat.le_refl _) hq | replace hB := below_grows (hB.alloc hB.size _) (Nat.le_refl _) hq)) | (go_at_call 7; refine (mod_any _ _ _ (by omega) (by omega)).mono ?_; rintro e w' ⟨rfl, rfl⟩) | (go_at_call 8; refine (stream_any _ _ _ _).mono ?_; rintro e w' ⟨rfl, hq⟩; (first | replace hB := below_grows hB (Nat.le_refl _) hq | replace hB := below_grows (hB.alloc hB.size _) (Nat.le_refl _) hq)) | (go_at_call 10; refine (device_any _ _ _).mono ?_; rintro e w' ⟨rfl, hq⟩; (first | replace hB := below_grows hB (Nat.le_refl _) hq | replace hB := below_grows (hB.alloc hB.size _) (Nat.le_refl _) hq)))
    clear g1 g2 g3 g4 g5 g6 g7
    go_loopw [27, 127] (fun v i wr => ∃ j : Nat, j ≤ l.length ∧ i = .int .i64 j ∧ wr.ownsRow w.heap.size 3 1 v j (List.take j (List.map (Value.int .i64) l).reverse) ∧ Below w.heap.size w wr) (fun _ i _ => l.length - (intOf i).toNat)
    case atStart => exact ⟨0, by omega, rfl, ⟨by simp, .inl ⟨rfl, rfl⟩⟩, hB⟩
    case round =>
      obtain ⟨j, hj, rfl, hown, hB⟩ := hrel
      by_cases hlt : j < l.length
      · obtain ⟨ad, x, rfl, _, hx, hc⟩ := (hI.grows hB).at_ (k := l.length - 1 - j) (by omega)
        have HX : Hid (List.take (j + 1) (List.map (Value.int .i64) l).reverse = List.take j (List.map (Value.int .i64) l).reverse ++ [.int .i64 x]) := by
          have : (List.map (Value.int .i64) l).reverse[j]? = some (.int .i64 x) := by rw [List.getElem?_reverse (by simpa using hlt), List.length_map, List.getElem?_map, hx]; rfl
          exact take_snoc this
        clear hx
        have hz := hB.size
        go_wp2_with (at_builtin; refine wpList_append_any _ rfl (.tmp 130) (.tmp 139) _ rfl w.heap.size 3 i0 _ 1 8 Try.underlying31 hi0 hz0 hz1 hz2 rfl (by omega) _ j _ rfl (hown.alloc _) (wr.heap.size + 1) (some ⟨wr.heap.size, 0, none⟩) 1 1 [.int .i64 x] rfl ?a1 ?a2 ?a3 ?a4 ?a5 ?_)
        case a1 => exact ⟨by simp, fun _ => ⟨_, rfl, by simp, fun t u hu => by
          match t, hu with
          | 0, hu => simp at hu; subst hu; simp [Addr.add]⟩⟩
        case a2 => intro u hu; simp at hu; subst hu; rfl
        case a3 => simp only [maxLen]; omega
        case a4 => omega
        case a5 => simp; omega
        · intro v1 w1 hown1 hg1 _
          have hB1 : Below w.heap.size w w1 := (hB.alloc hz _).grown hg1 (by simp; omega) fun q hq => (hown.lt q hq).1
          rw [← HX.out] at hown1
          clear hown hB hg1 HX
          go_wp2
          go_roundw
          case rel => exact ⟨j + 1, by omega, by go_num, hown1, hB1⟩
          case measure => simp [intOf]; omega
      · have e : List.take j (List.map (Value.int .i64) l).reverse = (l.reverse).map (Value.int .i64) := by rw [List.take_of_length_le (by simp; omega)]; simp
        rw [e] at hown
        obtain ⟨A2, c2, rfl, hI2⟩ := own_ints hown
        have hl2 : l.reverse.length ≤ 9223372036854775807 := by simpa using hl
        have n1 := Int.emod_nonneg c (b := 100000) (by omega)
        have n2 := Int.emod_lt_of_pos c (b := 100000) (by omega)
        have n3 := Int.emod_nonneg k (b := 100000) (by omega)
        have n4 := Int.emod_lt_of_pos k (b := 100000) (by omega)
        have er : totF l.reverse = totF l := totF_reverse l
        have es : decide (shareF (c % 100000) (1 + k % 100000) ≤ 100) = decide (c % 100000 ≤ 1 + k % 100000) := decide_eq_decide.2 (share_law n1 (by omega) (by omega) (by omega))
        clear e hown hi0 hz0 hz1 hz2
        have hJ := hI.grows hB
        generalize l.reverse = l2 at *
        go_wp2_with (first | (go_at_call 7; refine (mod_any _ _ _ (by omega) (by omega)).mono ?_; rintro e w' ⟨rfl, rfl⟩) | (go_at_call 12; (with_reducible refine (total_any A cp l _ hJ hl).mono ?_); rintro e w' ⟨rfl, rfl⟩) | (go_at_call 12; (with_reducible refine (total_any A2 c2 l2 _ hI2 hl2).mono ?_); rintro e w' ⟨rfl, rfl⟩) | (go_at_call 14; refine (share_any _ _ _).mono ?_; rintro e w' ⟨rfl, hq⟩; (first | replace hB := below_grows hB (Nat.le_refl _) hq | replace hB := below_grows (hB.alloc hB.size _) (Nat.le_refl _) hq)))
        all_goals go_ret
        all_goals exact ⟨rfl, hB⟩
end CostGrows
namespace CostGrows
theorem contract (H : Type) (enc : TypeId × Value → H) (W : World) (base : Nat) (args : Array Value) (ds gs : List (DataW H)) (before : List MemPlace)
    (hval0 : ∀ (j : Nat) t v, Try.f5.params[j]? = some t → args[j]? = some v → Value.okWide Try.prog W .any base t v)
    (hW : DataW.Whole enc Try.prog Try.f5.params.toList Rows.costGrowsSpec.vars false W args.toList ds gs before)
    (hsz0 : (DataW.weightsEach Try.prog (Try.f5.params.toList ++ Rows.costGrowsSpec.plain.varTypes Try.prog) (ds ++ gs)).all (· ≤ reachBytes) = true) :
    Calls Try.prog 5 args W fun e W' => ∃ v, e = .returned v ∧ Rows.costGrowsSpec.post enc Try.prog Try.f5 false true false false W args v W' := by
  have key : Calls Try.prog 5 args W fun e W' => e = .returned (.bool true) ∧ Below W.heap.size W W' := by
    have hval : ∀ (j : Nat) t v, Try.f5.params[j]? = some t → args[j]? = some v → Value.okWide Try.prog W .any base t v := hval0
    obtain ⟨p, q, hA0, hV, hbe, hfz, hnd⟩ := hW
    have hA : DataW.TrodAll enc Try.prog W 0 (fun _ => true) true Try.f5.params.toList args.toList ds p := hA0
    rw [Try.params5] at hA hval
    clear hA0 hval0
    obtain ⟨v0, vs0, d0, ds0, p0, q0, hargs, rfl, rfl, h0, r0⟩ := trodAll_cons hA
    obtain ⟨v1, vs1, d1, ds1, p1, q1, rfl, rfl, rfl, h1, r1⟩ := trodAll_cons r0
    obtain ⟨v2, vs2, d2, ds2, p2, q2, rfl, rfl, rfl, h2, r2⟩ := trodAll_cons r1
    obtain ⟨v3, vs3, d3, ds3, p3, q3, rfl, rfl, rfl, h3, r3⟩ := trodAll_cons r2
    obtain ⟨v4, vs4, d4, ds4, p4, q4, rfl, rfl, rfl, h4, r4⟩ := trodAll_cons r3
    obtain ⟨v5, vs5, d5, ds5, p5, q5, rfl, rfl, rfl, h5, r5⟩ := trodAll_cons r4
    obtain ⟨rfl, rfl, rfl⟩ := trodAll_nil r5
    obtain rfl : args = #[v0, v1, v2, v3, v4, v5] := by cases args; simp_all
    obtain ⟨rfl, rfl⟩ := trodVars_none hV
    have hsz : (DataW.weightsEach Try.prog (Try.f5.params.toList ++ Rows.costGrowsSpec.plain.varTypes Try.prog) ([d0, d1, d2, d3, d4, d5] ++ [])).all (· ≤ reachBytes) = true := hsz0
    rw [Try.params5] at hsz
    clear hsz0
    obtain ⟨a0, rfl, rfl, rfl, w0⟩ := open_int Try.underlying3 (hval 0 3 v0 rfl rfl) h0
    obtain ⟨a1, rfl, rfl, rfl, w1⟩ := open_int Try.underlying3 (hval 1 3 v1 rfl rfl) h1
    obtain ⟨a2, rfl, rfl, rfl, w2⟩ := open_int Try.underlying3 (hval 2 3 v2 rfl rfl) h2
    obtain ⟨A, cp, l, rfl, hI, hl, _⟩ := open_slice_ints Try.underlying31 Try.underlying3 (by kernel_rfl) (hval 3 31 v3 rfl rfl) h3
    obtain ⟨a4, rfl, rfl, rfl, w4⟩ := open_int Try.underlying3 (hval 4 3 v4 rfl rfl) h4
    obtain ⟨a5, rfl, rfl, rfl, w5⟩ := open_int Try.underlying3 (hval 5 3 v5 rfl rfl) h5
    exact CostGrows.walk a0 a1 a2 A cp l a4 a5 W hI hl
  refine key.mono fun e W' ⟨he, hb⟩ => ⟨_, he, law_post laid_out hW ?_ rfl (by kernel_rfl) Try.underlying4 ?_ hb⟩
  · rw [Try.params5]
    intro t ht
    simp only [List.mem_cons, List.not_mem_nil, or_false] at ht
    rcases ht with rfl | rfl | rfl | rfl | rfl | rfl <;> exact ⟨by kernel_rfl, of_decide_eq_true (by kernel_rfl)⟩
  · rw [Try.params5]
    intro ds hl
    match ds, hl with
    | [_, _, _, _, _, _], _ => rfl

set_option maxRecDepth 100000 in
theorem lifted (os : Os) (started : os.Started) (H : Type) (enc : TypeId × Value → H) :
    ReturnsInHanded {} Try.checked os 5 .any (Rows.costGrowsSpec.pre6 enc Try.prog Try.f5 Rows.costGrowsRow.domain false) (Rows.costGrowsSpec.post enc Try.prog Try.f5 false true false false) := by
  refine returnsInHanded_of_change_sized (C := Try.checked) own_knob started (by kernel_rfl) Try.func5
    (ChangeSpec.witness6 (enc := enc) (C := Try.checked) false ⟨#[], #[.int .i64 0, .int .i64 0, .int .i64 0, .slice none 0 0, .int .i64 0, .int .i64 0], []⟩ 8 (by kernel_rfl) (by kernel_rfl) (by kernel_rfl) (by kernel_rfl)) ?_
  intro W base args ds gs before hval0 hW _ hsz0 _
  exact contract H enc W base args ds gs before hval0 hW hsz0

theorem over : Rows.costGrowsRow.holds Try.pinned (OpenSpec.ofChange Rows.costGrowsSpec) :=
  OpenClaim.holds_of_wide 5 Try.f5 rfl rfl rfl rfl rfl rfl rfl ⟨rfl, rfl, rfl, rfl, rfl⟩ rfl rfl rfl rfl rfl (by kernel_rfl) Try.func5 (by kernel_rfl)
    (of_decide_eq_true (by kernel_rfl)) (by unfold Func.isWrapper; first | (rw [if_pos (by decide +kernel)]; kernel_rfl) | (rw [if_neg (by decide +kernel)]; exact ⟨rfl, rfl⟩))
    (fun os started H enc _ => lifted os started H enc)

/-- The given statement. -/
theorem proved : Rows.CostGrowsSaid := over
end CostGrows
#print axioms CostGrows.proved
end Go.Proofs.Ytbpkhfflnaofgaa
