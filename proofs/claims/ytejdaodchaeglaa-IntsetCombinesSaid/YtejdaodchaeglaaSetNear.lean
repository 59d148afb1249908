/-
  IntsetNearest, for every input: the law returns true, and each argument reads behind the call as it read before. No condition.
-/
import Derived.Test.YtejdaodchaeglaaSpM
import Derived.Test.YtejdaodchaeglaaSpO
import Derived.Test.YtejdaodchaeglaaSliceK
namespace Go.Proofs.Ytejdaodchaeglaa
open Go.ChangeShapes Go.WideShapes Go.ChangeAt Go.RowKit
theorem farD_clamp (x : Sp) (n m : Int) (hx : x.1 ≤ x.2) (h1 : x.1 ≤ m) (h2 : m ≤ x.2) : farD (max x.1 (min x.2 n)) n < farD m n ∨ (farD (max x.1 (min x.2 n)) n = farD m n ∧ max x.1 (min x.2 n) ≤ m) := by
  unfold farD
  split <;> split <;> omega
/-- What the search holds behind some spans. -/
def NearI (n : Int) (p : List Sp) (s : Int × Bool) : Prop :=
  (p = [] → s = (0, false)) ∧ (p ≠ [] → s.2 = true ∧ Mem p s.1 ∧ ∀ m, Mem p m → farD s.1 n < farD m n ∨ (farD s.1 n = farD m n ∧ s.1 ≤ m))
theorem near_step {n : Int} {p : List Sp} {s : Int × Bool} {x : Sp} (h : NearI n p s) (hc : Canon (p ++ [x])) : NearI n (p ++ [x]) (nearS n s x) := by
  obtain ⟨hcp, hx, hg⟩ := canon_snoc.1 hc
  have hK : Mem (p ++ [x]) (max x.1 (min x.2 n)) := (mem_append _ _ _).2 (.inr ((mem_cons _ _ _).2 (.inl ⟨by omega, by omega⟩)))
  refine ⟨fun e => by simp at e, fun _ => ?_⟩
  by_cases hp : p = []
  · have hs := h.1 hp
    subst hp
    rw [hs]
    unfold nearS
    rw [if_pos (.inl rfl)]
    refine ⟨rfl, hK, fun m hm => ?_⟩
    rcases (mem_cons _ _ _).1 hm with hm | hm
    · exact farD_clamp x n m hx hm.1 hm.2
    · exact absurd hm (mem_nil _)
  · obtain ⟨h1, h2, h3⟩ := h.2 hp
    obtain ⟨b, q⟩ := s
    simp only [] at h1 h2 h3
    subst h1
    unfold nearS
    by_cases hlt : farD (max x.1 (min x.2 n)) n < farD b n
    · rw [if_pos (.inr hlt)]
      refine ⟨rfl, hK, fun m hm => ?_⟩
      rcases (mem_append _ _ _).1 hm with hm | hm
      · have := h3 m hm
        simp only []
        omega
      · rcases (mem_cons _ _ _).1 hm with hm | hm
        · exact farD_clamp x n m hx hm.1 hm.2
        · exact absurd hm (mem_nil _)
    · rw [if_neg (by simp; omega)]
      refine ⟨rfl, (mem_append _ _ _).2 (.inl h2), fun m hm => ?_⟩
      rcases (mem_append _ _ _).1 hm with hm | hm
      · exact h3 m hm
      · rcases (mem_cons _ _ _).1 hm with hm | hm
        · have hc2 := farD_clamp x n m hx hm.1 hm.2
          obtain ⟨y, hy, hy1, hy2⟩ := h2
          have := hg y hy
          simp only []
          omega
        · exact absurd hm (mem_nil _)
theorem near_inv (n : Int) (l : List Sp) (hc : Canon l) : NearI n l (l.foldl (nearS n) (0, false)) := by
  have key : ∀ (l p : List Sp) (s : Int × Bool), NearI n p s → Canon (p ++ l) → NearI n (p ++ l) (l.foldl (nearS n) s) := by
    intro l
    induction l with
    | nil => intro p s h _; simpa using h
    | cons x l ih =>
      intro p s h hc
      have e : p ++ x :: l = p ++ [x] ++ l := by simp
      rw [e] at hc ⊢
      have hcx : Canon (p ++ [x]) := ⟨fun y hy => hc.1 y (List.mem_append.2 (.inl hy)), (List.pairwise_append.1 hc.2).1⟩
      exact ih _ _ (near_step h hcx) hc
  exact key l [] (0, false) ⟨fun _ => rfl, fun h => absurd rfl h⟩ (by simpa using hc)
theorem hasF_iff {l : List Sp} (h : okS l = true) (n : Int) : hasF l n = true ↔ Mem l n := by
  unfold hasF
  rw [show spansF l = l from if_pos h, List.any_eq_true]
  unfold Mem hasP
  simp
theorem nearF_ok {l : List Sp} (h : okS l = true) (n : Int) : nearF l n = l.foldl (nearS n) (0, false) := by
  unfold nearF
  rw [show spansF l = l from if_pos h]
namespace IntsetNearest
set_option maxRecDepth 100000 in
set_option maxHeartbeats 16000000 in
theorem walk (A : Option Addr) (c : Nat) (l : List Int) (n o : Int) (w : World) (hI : U8s w A l) (hl : l.length ≤ 9223372036854775807) (hu : ∀ x ∈ l, 0 ≤ x ∧ x ≤ 255) (hn : -32768 ≤ n ∧ n ≤ 32767) (ho : 0 ≤ o ∧ o ≤ 255) :
    Calls Try.prog 4 #[.slice A l.length c, .int .i16 n, .int .u8 o] w fun e w' => e = .returned (.bool true) ∧ Below w.heap.size w w' := by
  have hB := Below.refl w.heap.size w
  go_enter Try.func4, Try.ntmps4
  go_wp2_with fail
  refine (sane_any _).mono ?_
  rintro e w2 ⟨rfl, hq⟩
  replace hB := below_grows hB (Nat.le_refl _) hq
  replace hI := hI.grows hq
  clear hq
  go_wp2_with fail
  refine (made9_any A c l _ hI hl hu).mono ?_
  rintro e W1 ⟨⟨s, v, rfl, ⟨A3, c3, rfl, -, hs4⟩, hok, hs20, hsb⟩, hq⟩
  replace hB := below_grows hB (Nat.le_refl _) hq
  clear hq hI
  have k5 := Blk.new W1 24 #[.slice A3 s.length c3]
  have hq := (Below.refl W1.heap.size W1).alloc (Nat.le_refl _) (Obj.cells #[.slice A3 s.length c3] 24)
  replace hB := below_grows hB (Nat.le_refl _) hq
  replace hs4 := hs4.grows hq
  clear hq
  go_upto_region 4 with fail
  generalize World.alloc W1 _ = w3 at *
  generalize W1.heap.size = G5 at *
  have wn : IntKind.i64.wrap n = n := IntWalk.i64_in _ (by omega)
  have wo : IntKind.i64.wrap o = o := IntWalk.i64_in _ (by omega)
  have hinv := near_inv n s ((okS_iff s).1 hok).2.1
  rw [← nearF_ok hok] at hinv
  have hbd := near_bd n s ((okS_iff s).1 hok).1
  rw [← nearF_ok hok] at hbd
  have x5 := k5.cell 0
  go_wp2_with fail
  refine (near_any A3 c3 s n _ hs4 (by omega) (by omega)).mono ?_
  generalize nearF s n = r at *
  obtain ⟨K, q⟩ := r
  simp only [] at hbd ⊢
  rintro e w4 ⟨rfl, hq⟩
  replace hB := below_grows hB (Nat.le_refl _) hq
  replace k5 := k5.grows hq
  replace hs4 := hs4.grows hq
  clear hq x5
  by_cases h0 : s = []
  · have e := hinv.1 h0
    injection e with e1 e2
    subst e1
    subst e2
    subst h0
    have x5 := k5.cell 0
    go_wp2
    go_ret
    exact ⟨rfl, hB⟩
  obtain ⟨hq1, hKm, hbest⟩ := hinv.2 h0
  simp only [] at hq1 hKm hbest
  subst hq1
  have HK : Hid (hasF s K = true) := Lib.hid ((hasF_iff hok K).2 hKm)
  have HP : Hid (Mem s o → farD K n < farD o n ∨ (farD K n = farD o n ∧ K ≤ o)) := Lib.hid (hbest o)
  clear hinv hKm hbest h0 hsb
  have w1 : IntKind.i64.wrap (n - K) = n - K := IntWalk.i64_in _ (by omega)
  have w2 : IntKind.i64.wrap (n - o) = n - o := IntWalk.i64_in _ (by omega)
  have w3 : IntKind.i64.wrap (-(n - K)) = -(n - K) := IntWalk.i64_in _ (by omega)
  have w4 : IntKind.i64.wrap (-(n - o)) = -(n - o) := IntWalk.i64_in _ (by omega)
  by_cases hd : n - K < 0
  · by_cases he : n - o < 0
    · skip
      go_upto_region 12 with fail
      generalize hDv : (-(n - K)) = D at *
      generalize hEv : (-(n - o)) = E at *
      have HP2 : Hid (Mem s o → D < E ∨ (D = E ∧ K ≤ o)) := Lib.hid (fun hm => by
        have := HP.out hm
        rw [show farD K n = D from by unfold farD; split <;> omega, show farD o n = E from by unfold farD; split <;> omega] at this
        exact this)
      clear hDv hEv HP
      have x5 := k5.cell 0
      go_wp2_with fail
      refine (has_any A3 c3 s K _ hs4 (by omega)).mono ?_
      rintro e w6 ⟨rfl, hq⟩
      replace hB := below_grows hB (Nat.le_refl _) hq
      replace k5 := k5.grows hq
      replace hs4 := hs4.grows hq
      clear x5 hq
      have x5 := k5.cell 0
      rw [HK.out]
      go_wp2_with fail
      refine (has_any A3 c3 s o _ hs4 (by omega)).mono ?_
      rintro e w7 ⟨rfl, hq⟩
      replace hB := below_grows hB (Nat.le_refl _) hq
      clear hq x5
      cases hho : hasF s o
      · go_wp2
        go_ret
        exact ⟨rfl, hB⟩
      · have hDE := HP2.out ((hasF_iff hok o).1 hho)
        clear HP2
        by_cases hlt : D < E
        · go_wp2
          go_ret
          exact ⟨rfl, hB⟩
        · have hde : D = E := by omega
          have hko : K ≤ o := by omega
          subst hde
          clear hDE
          go_wp2
          go_ret
          exact ⟨rfl, hB⟩
    · skip
      go_upto_region 12 with fail
      generalize hDv : (-(n - K)) = D at *
      generalize hEv : (n - o) = E at *
      have HP2 : Hid (Mem s o → D < E ∨ (D = E ∧ K ≤ o)) := Lib.hid (fun hm => by
        have := HP.out hm
        rw [show farD K n = D from by unfold farD; split <;> omega, show farD o n = E from by unfold farD; split <;> omega] at this
        exact this)
      clear hDv hEv HP
      have x5 := k5.cell 0
      go_wp2_with fail
      refine (has_any A3 c3 s K _ hs4 (by omega)).mono ?_
      rintro e w6 ⟨rfl, hq⟩
      replace hB := below_grows hB (Nat.le_refl _) hq
      replace k5 := k5.grows hq
      replace hs4 := hs4.grows hq
      clear x5 hq
      have x5 := k5.cell 0
      rw [HK.out]
      go_wp2_with fail
      refine (has_any A3 c3 s o _ hs4 (by omega)).mono ?_
      rintro e w7 ⟨rfl, hq⟩
      replace hB := below_grows hB (Nat.le_refl _) hq
      clear hq x5
      cases hho : hasF s o
      · go_wp2
        go_ret
        exact ⟨rfl, hB⟩
      · have hDE := HP2.out ((hasF_iff hok o).1 hho)
        clear HP2
        by_cases hlt : D < E
        · go_wp2
          go_ret
          exact ⟨rfl, hB⟩
        · have hde : D = E := by omega
          have hko : K ≤ o := by omega
          subst hde
          clear hDE
          go_wp2
          go_ret
          exact ⟨rfl, hB⟩
  · by_cases he : n - o < 0
    · skip
      go_upto_region 12 with fail
      generalize hDv : (n - K) = D at *
      generalize hEv : (-(n - o)) = E at *
      have HP2 : Hid (Mem s o → D < E ∨ (D = E ∧ K ≤ o)) := Lib.hid (fun hm => by
        have := HP.out hm
        rw [show farD K n = D from by unfold farD; split <;> omega, show farD o n = E from by unfold farD; split <;> omega] at this
        exact this)
      clear hDv hEv HP
      have x5 := k5.cell 0
      go_wp2_with fail
      refine (has_any A3 c3 s K _ hs4 (by omega)).mono ?_
      rintro e w6 ⟨rfl, hq⟩
      replace hB := below_grows hB (Nat.le_refl _) hq
      replace k5 := k5.grows hq
      replace hs4 := hs4.grows hq
      clear x5 hq
      have x5 := k5.cell 0
      rw [HK.out]
      go_wp2_with fail
      refine (has_any A3 c3 s o _ hs4 (by omega)).mono ?_
      rintro e w7 ⟨rfl, hq⟩
      replace hB := below_grows hB (Nat.le_refl _) hq
      clear hq x5
      cases hho : hasF s o
      · go_wp2
        go_ret
        exact ⟨rfl, hB⟩
      · have hDE := HP2.out ((hasF_iff hok o).1 hho)
        clear HP2
        by_cases hlt : D < E
        · go_wp2
          go_ret
          exact ⟨rfl, hB⟩
        · have hde : D = E := by omega
          have hko : K ≤ o := by omega
          subst hde
          clear hDE
          go_wp2
          go_ret
          exact ⟨rfl, hB⟩
    · skip
      go_upto_region 12 with fail
      generalize hDv : (n - K) = D at *
      generalize hEv : (n - o) = E at *
      have HP2 : Hid (Mem s o → D < E ∨ (D = E ∧ K ≤ o)) := Lib.hid (fun hm => by
        have := HP.out hm
        rw [show farD K n = D from by unfold farD; split <;> omega, show farD o n = E from by unfold farD; split <;> omega] at this
        exact this)
      clear hDv hEv HP
      have x5 := k5.cell 0
      go_wp2_with fail
      refine (has_any A3 c3 s K _ hs4 (by omega)).mono ?_
      rintro e w6 ⟨rfl, hq⟩
      replace hB := below_grows hB (Nat.le_refl _) hq
      replace k5 := k5.grows hq
      replace hs4 := hs4.grows hq
      clear x5 hq
      have x5 := k5.cell 0
      rw [HK.out]
      go_wp2_with fail
      refine (has_any A3 c3 s o _ hs4 (by omega)).mono ?_
      rintro e w7 ⟨rfl, hq⟩
      replace hB := below_grows hB (Nat.le_refl _) hq
      clear hq x5
      cases hho : hasF s o
      · go_wp2
        go_ret
        exact ⟨rfl, hB⟩
      · have hDE := HP2.out ((hasF_iff hok o).1 hho)
        clear HP2
        by_cases hlt : D < E
        · go_wp2
          go_ret
          exact ⟨rfl, hB⟩
        · have hde : D = E := by omega
          have hko : K ≤ o := by omega
          subst hde
          clear hDE
          go_wp2
          go_ret
          exact ⟨rfl, hB⟩
end IntsetNearest
namespace IntsetNearest
theorem contract (H : Type) (enc : TypeId × Value → H) (W : World) (base : Nat) (args : Array Value) (ds gs : List (DataW H)) (before : List MemPlace)
    (hval0 : ∀ (j : Nat) t v, Try.f4.params[j]? = some t → args[j]? = some v → Value.okWide Try.prog W .any base t v)
    (hW : DataW.Whole enc Try.prog Try.f4.params.toList Rows.intsetNearestSpec.vars false W args.toList ds gs before)
    (hsz0 : (DataW.weightsEach Try.prog (Try.f4.params.toList ++ Rows.intsetNearestSpec.plain.varTypes Try.prog) (ds ++ gs)).all (· ≤ reachBytes) = true) :
    Calls Try.prog 4 args W fun e W' => ∃ v, e = .returned v ∧ Rows.intsetNearestSpec.post enc Try.prog Try.f4 false true false false W args v W' := by
  have key : Calls Try.prog 4 args W fun e W' => e = .returned (.bool true) ∧ Below W.heap.size W W' := by
    have hval : ∀ (j : Nat) t v, Try.f4.params[j]? = some t → args[j]? = some v → Value.okWide Try.prog W .any base t v := hval0
    obtain ⟨p, q, hA0, hV, hbe, hfz, hnd⟩ := hW
    have hA : DataW.TrodAll enc Try.prog W 0 (fun _ => true) true Try.f4.params.toList args.toList ds p := hA0
    rw [Try.params4] at hA hval
    clear hA0 hval0
    obtain ⟨v0, vs0, d0, ds0, p0, q0, hargs, rfl, rfl, h0, r0⟩ := trodAll_cons hA
    obtain ⟨v1, vs1, d1, ds1, p1, q1, rfl, rfl, rfl, h1, r1⟩ := trodAll_cons r0
    obtain ⟨v2, vs2, d2, ds2, p2, q2, rfl, rfl, rfl, h2, r2⟩ := trodAll_cons r1
    obtain ⟨rfl, rfl, rfl⟩ := trodAll_nil r2
    obtain rfl : args = #[v0, v1, v2] := by cases args; simp_all
    obtain ⟨rfl, rfl⟩ := trodVars_none hV
    have hsz : (DataW.weightsEach Try.prog (Try.f4.params.toList ++ Rows.intsetNearestSpec.plain.varTypes Try.prog) ([d0, d1, d2] ++ [])).all (· ≤ reachBytes) = true := hsz0
    rw [Try.params4] at hsz
    clear hsz0
    obtain ⟨A, c, l, rfl, hI0, hl0, _, hw0⟩ := open_slice_kind Try.underlying33 Try.underlying5 (by kernel_rfl) (hval 0 33 v0 rfl rfl) h0
    obtain ⟨a1, rfl, rfl, rfl, w1⟩ := open_int Try.underlying34 (hval 1 34 v1 rfl rfl) h1
    obtain ⟨a2, rfl, rfl, rfl, w2⟩ := open_int Try.underlying5 (hval 2 5 v2 rfl rfl) h2
    exact IntsetNearest.walk A c l a1 a2 W hI0 hl0 (fun x hx => u8_bd (hw0 x hx)) (i16_bd w1) (u8_bd w2)
  refine key.mono fun e W' ⟨he, hb⟩ => ⟨_, he, law_post laid_out hW ?_ rfl (by kernel_rfl) Try.underlying4 ?_ hb⟩
  · rw [Try.params4]
    intro t ht
    simp only [List.mem_cons, List.not_mem_nil, or_false] at ht
    rcases ht with rfl | rfl | rfl <;> exact ⟨by kernel_rfl, of_decide_eq_true (by kernel_rfl)⟩
  · rw [Try.params4]
    intro ds hl
    match ds, hl with
    | [_, _, _], _ => rfl

set_option maxRecDepth 100000 in
theorem lifted (os : Os) (started : os.Started) (H : Type) (enc : TypeId × Value → H) :
    ReturnsInHanded {} Try.checked os 4 .any (Rows.intsetNearestSpec.pre6 enc Try.prog Try.f4 Rows.intsetNearestRow.domain false) (Rows.intsetNearestSpec.post enc Try.prog Try.f4 false true false false) := by
  refine returnsInHanded_of_change_sized (C := Try.checked) own_knob started (by kernel_rfl) Try.func4
    (ChangeSpec.witness6 (enc := enc) (C := Try.checked) false ⟨#[], #[.slice none 0 0, .int .i16 0, .int .u8 0], []⟩ 8 (by kernel_rfl) (by kernel_rfl) (by kernel_rfl) (by kernel_rfl)) ?_
  intro W base args ds gs before hval0 hW _ hsz0 _
  exact contract H enc W base args ds gs before hval0 hW hsz0

theorem over : Rows.intsetNearestRow.holds Try.pinned (OpenSpec.ofChange Rows.intsetNearestSpec) :=
  OpenClaim.holds_of_wide 4 Try.f4 rfl rfl rfl rfl rfl rfl rfl ⟨rfl, rfl, rfl, rfl, rfl⟩ rfl rfl rfl rfl rfl (by kernel_rfl) Try.func4 (by kernel_rfl)
    (of_decide_eq_true (by kernel_rfl)) (by unfold Func.isWrapper; first | (rw [if_pos (by decide +kernel)]; kernel_rfl) | (rw [if_neg (by decide +kernel)]; exact ⟨rfl, rfl⟩))
    (fun os started H enc _ => lifted os started H enc)

/-- The given statement. -/
theorem proved : Rows.IntsetNearestSaid := over
end IntsetNearest
#print axioms IntsetNearest.proved
end Go.Proofs.Ytejdaodchaeglaa
