/-
  IntsetForms, for every input: the law returns true, and each argument reads behind the call as it read before. No condition.
-/
import Derived.Test.YtejdaodchaeglaaSpM
import Derived.Test.YtejdaodchaeglaaSpO
import Derived.Test.YtejdaodchaeglaaSliceK
namespace Go.Proofs.Ytejdaodchaeglaa
open Go.ChangeShapes Go.WideShapes Go.ChangeAt Go.RowKit
theorem sps_blk {w : World} {g : Nat} {l : List Sp} {cs : Array Value} (hb : Blk w g 40 cs) (hc : cs.toList = scells l) : Sps w (some ⟨g, 0, none⟩) l := by
  refine ⟨scells_len l, fun _ => ⟨_, rfl, hb.lt, fun j u hu => ?_⟩⟩
  have ha : (⟨g, 0, none⟩ : Addr).add j = ⟨g, j, none⟩ := by
    unfold Addr.add
    split
    · simp_all
    · simp
  rw [ha, hb.cell, ← Array.getElem?_toList, hc]
  exact hu
theorem form_same {p s : List Sp} (hf : ∀ x ∈ p, fineS x = true) (hc : Canon s) (h : ∀ m, Mem p m ↔ Mem s m) : formS p = s :=
  canon_unique (formS_forms hf).1 hc fun m => ((formS_forms hf).2.1 m).trans (h m)
def evens (j : Nat) : List Sp := (List.range j).map fun (i : Nat) => ((2 * (i : Int), 2 * (i : Int)) : Sp)
theorem evens_succ (j : Nat) : evens (j + 1) = evens j ++ [(2 * (j : Int), 2 * (j : Int))] := by simp [evens, List.range_succ]
theorem evens_len (j : Nat) : (evens j).length = j := by simp [evens]
theorem evens_mem {j : Nat} {x : Sp} (h : x ∈ evens j) : ∃ i : Nat, i < j ∧ x = (2 * (i : Int), 2 * (i : Int)) := by
  obtain ⟨i, hi, rfl⟩ := List.mem_map.1 h
  exact ⟨i, List.mem_range.1 hi, rfl⟩
theorem evens_canon (j : Nat) : Canon (evens j) := by
  induction j with
  | zero => exact canon_nil
  | succ j ih =>
    rw [evens_succ]
    refine canon_snoc.2 ⟨ih, Int.le_refl _, fun y hy => ?_⟩
    obtain ⟨i, hi, rfl⟩ := evens_mem hy
    simp only []
    omega
theorem evens_fine {j : Nat} (hj : j ≤ 100) : ∀ x ∈ evens j, fineS x = true := by
  intro x hx
  obtain ⟨i, hi, rfl⟩ := evens_mem hx
  rw [fineS_iff]
  simp only []
  omega
theorem evens_make {j : Nat} (hj : j ≤ 100) : makeF (evens j) = if 64 < j then ([], 3) else (evens j, 0) := by
  have e : formS (evens j) = evens j := form_same (evens_fine hj) (evens_canon j) fun _ => Iff.rfl
  unfold makeF
  rw [if_pos (List.all_eq_true.2 (evens_fine hj)), e, evens_len]
theorem parts_make {p s : List Sp} (hf : ∀ x ∈ p, fineS x = true) (hok : okS s = true) (h : ∀ m, Mem p m ↔ Mem s m) : makeF p = (s, 0) := by
  have hc := (okS_iff s).1 hok
  have e := form_same hf hc.2.1 h
  unfold makeF
  rw [if_pos (List.all_eq_true.2 hf), e, if_neg (by omega)]
theorem parts_mem {x : Sp} {M : Int} (hx : x.1 ≤ M ∧ M ≤ x.2) (m : Int) : Mem [(M, x.2), (x.1, M), x] m ↔ Mem [x] m := by
  rw [mem_cons, mem_cons]
  simp only []
  constructor
  · rintro (h | h | h)
    · exact (mem_cons _ _ _).2 (.inl ⟨by omega, h.2⟩)
    · exact (mem_cons _ _ _).2 (.inl ⟨h.1, by omega⟩)
    · exact h
  · exact fun h => .inr (.inr h)
namespace IntsetForms
set_option maxRecDepth 100000 in
set_option maxHeartbeats 16000000 in
theorem walk (A : Option Addr) (c : Nat) (l : List Int) (n : Int) (w : World) (hI : U8s w A l) (hl : l.length ≤ 9223372036854775807) (hu : ∀ x ∈ l, 0 ≤ x ∧ x ≤ 255) (hn : 0 ≤ n ∧ n ≤ 255) :
    Calls Try.prog 5 #[.slice A l.length c, .int .u8 n] w fun e w' => e = .returned (.bool true) ∧ Below w.heap.size w w' := by
  have hB := Below.refl w.heap.size w
  go_enter Try.func5, Try.ntmps5
  go_wp2_with fail
  refine (sane_any _).mono ?_
  rintro e w2 ⟨rfl, hq⟩
  replace hB := below_grows hB (Nat.le_refl _) hq
  replace hI := hI.grows hq
  clear hq
  go_wp2_with fail
  refine (made9_any A c l _ hI hl hu).mono ?_
  rintro e W1 ⟨⟨s, v, rfl, ⟨A3, c3, rfl, -, hs4⟩, hok, hs20, hsb⟩, hq⟩
  replace hB := below_grows hB (Nat.le_refl _) hq
  clear hq hI
  have k5 := Blk.new W1 24 #[.slice A3 s.length c3]
  have hq := (Below.refl W1.heap.size W1).alloc (Nat.le_refl _) (Obj.cells #[.slice A3 s.length c3] 24)
  replace hB := below_grows hB (Nat.le_refl _) hq
  replace hs4 := hs4.grows hq
  clear hq
  go_upto_region 4 with fail
  generalize World.alloc W1 _ = W at *
  generalize W1.heap.size = G5 at *
  have x5 := k5.cell 0
  have hsf := ((okS_iff s).1 hok).1
  have e1 : IntKind.i64.wrap ((s.length : Int) - 1) = (s.length : Int) - 1 := IntWalk.i64_in _ (by omega)
  go_upto_region 6 with fail
  clear x5 e1
  go_loopw [6, 7] (fun v i wr => ∃ (j : Nat) (p : List Sp), j ≤ s.length ∧ i = .int .i64 ((j : Int) - 1) ∧ Own wr W.heap.size v p ∧ p.length + 3 * j = 3 * s.length ∧ (∀ x ∈ p, fineS x = true) ∧ (∀ m, Mem p m ↔ Mem (s.drop j) m) ∧ Grows W wr) (fun _ i _ => (intOf i + 1).toNat)
  case atStart => exact ⟨s.length, [], Nat.le_refl _, rfl, own_nil _ _, by simp, by simp, fun m => by rw [List.drop_length], Below.refl _ _⟩
  case round =>
    obtain ⟨j, p, hj, rfl, hown, hpl, hpf, hpm, hg⟩ := hrel
    have HPL := Lib.hid hpl
    have hp60 : p.length ≤ 60 := by omega
    clear hpl
    by_cases h0 : j = 0
    rotate_left
    · obtain ⟨m, rfl⟩ : ∃ m, j = m + 1 := ⟨j - 1, by omega⟩
      rw [show (((m + 1 : Nat) : Int) - 1) = (m : Int) by omega]
      obtain ⟨ad, x, rfl, had, hx, c0, c1⟩ := (hs4.grows hg).elem (k := m) (by omega)
      have hxf := (fineS_iff x).1 (hsf x (List.mem_of_getElem? hx))
      have HD : Hid (s.drop m = x :: s.drop (m + 1)) := Lib.hid (by
        obtain ⟨hj2, hyy⟩ := List.getElem?_eq_some_iff.1 hx
        rw [← hyy]
        exact List.drop_eq_getElem_cons hj2)
      clear hx h0
      have hidx : IntKind.i64.wrap (m : Int) = (m : Int) := IntWalk.i64_in _ (by omega)
      have hml : (m : Int) < (s.length : Int) := by omega
      have k5' := k5.grows hg
      have x5 := k5'.cell 0
      have k8 := Blk.new wr 40 #[.int .i64 x.1, .int .i64 x.2]
      have hq := (Below.refl wr.heap.size wr).alloc (Nat.le_refl _) (Obj.cells #[.int .i64 x.1, .int .i64 x.2] 40)
      go_upto_region 9 with fail
      clear c0 c1 x5 hidx hml k5'
      have hg2 := below_grows hg (Nat.le_refl _) hq
      replace hown := hown.grows hq
      clear hg hq
      generalize World.alloc wr _ = w4 at *
      generalize wr.heap.size = G8 at *
      have e0 := k8.cell 0
      have e1 := k8.cell 1
      have hq0 : Int.tdiv (x.2 - x.1) 2 = (x.2 - x.1) / 2 := Int.tdiv_eq_ediv_of_nonneg (by omega)
      have hw1 : IntKind.i64.wrap (x.2 - x.1) = x.2 - x.1 := IntWalk.i64_in _ (by omega)
      have hM0 : x.1 ≤ x.1 + (x.2 - x.1) / 2 ∧ x.1 + (x.2 - x.1) / 2 ≤ x.2 := by omega
      have hw2 : IntKind.i64.wrap ((x.2 - x.1) / 2) = (x.2 - x.1) / 2 := IntWalk.i64_in _ (by omega)
      have hw3 : IntKind.i64.wrap (x.1 + (x.2 - x.1) / 2) = x.1 + (x.2 - x.1) / 2 := IntWalk.i64_in _ (by omega)
      go_upto_region 10 with fail
      clear hq0 hw1 hw2 hw3
      generalize x.1 + (x.2 - x.1) / 2 = M at *
      refine wp_region_lit ?_
      iterate 11
        refine wpList_plain rfl (fun K hK => ?_)
        go_simp
        refine hK _ _ ?_
        clear hK K
      have hq8 := (Below.refl w4.heap.size w4).alloc (Nat.le_refl _) (Obj.cells #[.int .i64 M, .int .i64 x.2, .int .i64 x.1, .int .i64 M, .int .i64 x.1, .int .i64 x.2] 40)
      have hs8 : Sps (w4.alloc (Obj.cells #[.int .i64 M, .int .i64 x.2, .int .i64 x.1, .int .i64 M, .int .i64 x.1, .int .i64 x.2] 40)) (some ⟨w4.heap.size, 0, none⟩) [(M, x.2), (x.1, M), x] := sps_blk (Blk.new _ _ _) rfl
      replace hown := hown.grows hq8
      replace hg2 := below_grows hg2 (Nat.le_refl _) hq8
      refine wpList_append_sp rfl (.tmp 43) (.tmp 53) rfl (m := [(M, x.2), (x.1, M), x]) rfl rfl hown rfl hs8 (by simp; omega) hg2.size ?_
      intro v3 w6 hown3 hgr3
      have hg3 := hown.below hg2 hgr3 hg2.size
      clear hown hs8 hq8 hgr3 hg2 e0 e1 k8
      have hwm : IntKind.i64.wrap ((m : Int) - 1) = (m : Int) - 1 := IntWalk.i64_in _ (by omega)
      go_wp2
      go_roundw
      case rel =>
        refine ⟨m, _, by omega, rfl, hown3, by have := HPL.out; simp; omega, fun y hy => ?_, fun q => ?_, hg3⟩
        · rcases List.mem_append.1 hy with hy | hy
          · exact hpf y hy
          · simp only [List.mem_cons, List.not_mem_nil, or_false] at hy
            rw [fineS_iff]
            rcases hy with rfl | rfl | rfl <;> (try simp only []) <;> omega
        · rw [mem_append, hpm q, parts_mem hM0, HD.out, mem_cons, mem_cons]
          simp only [mem_nil, or_false]
          exact Or.comm
      case measure => simp [intOf] <;> omega
    · subst h0
      rw [show (((0 : Nat) : Int) - 1) = -1 from rfl]
      rw [List.drop_zero] at hpm
      have hmk := parts_make hpf hok hpm
      replace hB := below_grows hB (Nat.le_refl _) hg
      replace k5 := k5.grows hg
      replace hs4 := hs4.grows hg
      obtain ⟨A6, c6, rfl, -, hr6, -⟩ := hown.read
      clear hown HPL hpm hpf hg hsf hsb
      go_wp2_with fail
      refine (make_any A6 c6 p _ hr6 (by omega)).mono ?_
      rw [hmk]
      rintro e W1 ⟨⟨v, rfl, A4, c4, rfl, -, hs5⟩, hq⟩
      simp only [] at hs5 ⊢
      replace hB := below_grows hB (Nat.le_refl _) hq
      replace k5 := k5.grows hq
      replace hs4 := hs4.grows hq
      clear hq
      have k10 := Blk.new W1 24 #[.slice A4 s.length c4]
      have hq := (Below.refl W1.heap.size W1).alloc (Nat.le_refl _) (Obj.cells #[.slice A4 s.length c4] 24)
      replace hB := below_grows hB (Nat.le_refl _) hq
      replace k5 := k5.grows hq
      replace hs4 := hs4.grows hq
      replace hs5 := hs5.grows hq
      clear hq
      go_upto_region 12 with fail
      generalize World.alloc W1 _ = W4 at *
      generalize W1.heap.size = G10 at *
      clear W1
      clear hmk hr6
      obtain ⟨K, hK⟩ : ∃ K : Nat, 62 + n % 5 = (K : Int) := ⟨(62 + n % 5).toNat, by omega⟩
      have hK66 : K ≤ 66 := by omega
      have HKK := Lib.hid hK
      clear hK
      have ww1 : IntKind.i64.wrap (n % 5) = n % 5 := IntWalk.i64_in _ (by omega)
      have ww2 : IntKind.i64.wrap (62 + n % 5) = 62 + n % 5 := IntWalk.i64_in _ (by omega)
      go_upto_region 15 with fail
      rw [HKK.out]
      clear ww1 ww2
      generalize W4 = W5 at *
      go_loopw [13, 14] (fun v i wr => ∃ j : Nat, j ≤ K ∧ i = .int .i64 j ∧ Own wr W5.heap.size v (evens j) ∧ Grows W5 wr) (fun _ i _ => K - (intOf i).toNat)
      case atStart => exact ⟨0, by omega, rfl, own_nil _ _, Below.refl _ _⟩
      case round =>
        obtain ⟨j, hj, rfl, hown, hg⟩ := hrel
        by_cases hjK : j < K
        · have hw : IntKind.i64.wrap (2 * (j : Int)) = 2 * (j : Int) := IntWalk.i64_in _ (by omega)
          have hel := evens_len j
          have HEL := Lib.hid hel
          clear hel
          go_upto_region 17 with fail
          refine wp_region_lit ?_
          iterate 7
            refine wpList_plain rfl (fun K hK => ?_)
            go_simp
            refine hK _ _ ?_
            clear hK K
          have hq8 := (Below.refl wr.heap.size wr).alloc (Nat.le_refl _) (Obj.cells #[.int .i64 (2 * (j : Int)), .int .i64 (2 * (j : Int))] 40)
          replace hown := hown.grows hq8
          replace hg := below_grows hg (Nat.le_refl _) hq8
          refine wpList_append_sp rfl (.tmp 69) (.tmp 75) rfl (m := [(2 * (j : Int), 2 * (j : Int))]) rfl rfl hown rfl (sps_lit wr (2 * (j : Int), 2 * (j : Int))) (by rw [HEL.out]; simp; omega) hg.size ?_
          intro v3 w6 hown3 hgr3
          have hg3 := hown.below hg hgr3 hg.size
          rw [← evens_succ] at hown3
          clear hown hq8 hgr3 hg hw
          go_wp2
          go_roundw
          case rel => exact ⟨j + 1, by omega, by go_num, hown3, hg3⟩
          case measure => simp [intOf]; omega
        · obtain rfl : j = K := by omega
          replace hB := below_grows hB (Nat.le_refl _) hg
          replace k5 := k5.grows hg
          replace hs4 := hs4.grows hg
          replace k10 := k10.grows hg
          replace hs5 := hs5.grows hg
          obtain ⟨A6, c6, rfl, -, hr6, -⟩ := hown.read
          clear hown hg
          have hmk := evens_make (j := j) (by omega)
          have hlen := evens_len j
          obtain ⟨u, er, hmu, hul⟩ : ∃ u er, makeF (evens j) = (u, er) ∧ ((j ≤ 64 ∧ er = 0 ∧ u.length = j) ∨ (64 < j ∧ er = 3 ∧ u.length = 0)) := by
            by_cases h64 : 64 < j
            · exact ⟨[], 3, by rw [hmk, if_pos h64], .inr ⟨h64, rfl, rfl⟩⟩
            · exact ⟨evens j, 0, by rw [hmk, if_neg h64], .inl ⟨by omega, rfl, hlen⟩⟩
          have HLN := Lib.hid hlen
          have HUL := Lib.hid hul
          clear hmk hlen hul
          go_wp2_with fail
          refine (make_any A6 c6 (evens j) _ hr6 (by rw [HLN.out]; omega)).mono ?_
          rw [hmu]
          rintro e W1 ⟨⟨v, rfl, A7, c7, rfl, -, hs7⟩, hq⟩
          simp only [] at hs7 ⊢
          replace hB := below_grows hB (Nat.le_refl _) hq
          replace k5 := k5.grows hq
          replace hs4 := hs4.grows hq
          replace k10 := k10.grows hq
          replace hs5 := hs5.grows hq
          clear hq
          have k15 := Blk.new W1 24 #[.slice A7 u.length c7]
          have hq := (Below.refl W1.heap.size W1).alloc (Nat.le_refl _) (Obj.cells #[.slice A7 u.length c7] 24)
          replace hB := below_grows hB (Nat.le_refl _) hq
          replace k5 := k5.grows hq
          replace hs4 := hs4.grows hq
          replace k10 := k10.grows hq
          replace hs5 := hs5.grows hq
          replace hs7 := hs7.grows hq
          clear hq
          go_upto_region 19 with fail
          generalize World.alloc W1 _ = W4 at *
          generalize W1.heap.size = G15 at *
          clear W1
          clear hmu hr6 hs7
          rcases HUL.out with ⟨h64, rfl, hul⟩ | ⟨h64, rfl, hul⟩
          · clear HUL
            have x5 := k5.cell 0
            have x10 := k10.cell 0
            have x15 := k15.cell 0
            go_wp2_with fail
            refine (ssame_eq A3 A4 c3 c4 s _ hs4 hs5 (by omega)).mono ?_
            rintro e w9 ⟨rfl, hq⟩
            replace hB := below_grows hB (Nat.le_refl _) hq
            replace k15 := k15.grows hq
            clear x5 x10 x15 hq
            have x15 := k15.cell 0
            go_wp2
            go_ret
            exact ⟨rfl, hB⟩
          · clear HUL
            have x5 := k5.cell 0
            have x10 := k10.cell 0
            have x15 := k15.cell 0
            go_wp2_with fail
            refine (ssame_eq A3 A4 c3 c4 s _ hs4 hs5 (by omega)).mono ?_
            rintro e w9 ⟨rfl, hq⟩
            replace hB := below_grows hB (Nat.le_refl _) hq
            replace k15 := k15.grows hq
            clear x5 x10 x15 hq
            have x15 := k15.cell 0
            go_wp2
            go_ret
            exact ⟨rfl, hB⟩
end IntsetForms
namespace IntsetForms
theorem contract (H : Type) (enc : TypeId × Value → H) (W : World) (base : Nat) (args : Array Value) (ds gs : List (DataW H)) (before : List MemPlace)
    (hval0 : ∀ (j : Nat) t v, Try.f5.params[j]? = some t → args[j]? = some v → Value.okWide Try.prog W .any base t v)
    (hW : DataW.Whole enc Try.prog Try.f5.params.toList Rows.intsetFormsSpec.vars false W args.toList ds gs before)
    (hsz0 : (DataW.weightsEach Try.prog (Try.f5.params.toList ++ Rows.intsetFormsSpec.plain.varTypes Try.prog) (ds ++ gs)).all (· ≤ reachBytes) = true) :
    Calls Try.prog 5 args W fun e W' => ∃ v, e = .returned v ∧ Rows.intsetFormsSpec.post enc Try.prog Try.f5 false true false false W args v W' := by
  have key : Calls Try.prog 5 args W fun e W' => e = .returned (.bool true) ∧ Below W.heap.size W W' := by
    have hval : ∀ (j : Nat) t v, Try.f5.params[j]? = some t → args[j]? = some v → Value.okWide Try.prog W .any base t v := hval0
    obtain ⟨p, q, hA0, hV, hbe, hfz, hnd⟩ := hW
    have hA : DataW.TrodAll enc Try.prog W 0 (fun _ => true) true Try.f5.params.toList args.toList ds p := hA0
    rw [Try.params5] at hA hval
    clear hA0 hval0
    obtain ⟨v0, vs0, d0, ds0, p0, q0, hargs, rfl, rfl, h0, r0⟩ := trodAll_cons hA
    obtain ⟨v1, vs1, d1, ds1, p1, q1, rfl, rfl, rfl, h1, r1⟩ := trodAll_cons r0
    obtain ⟨rfl, rfl, rfl⟩ := trodAll_nil r1
    obtain rfl : args = #[v0, v1] := by cases args; simp_all
    obtain ⟨rfl, rfl⟩ := trodVars_none hV
    have hsz : (DataW.weightsEach Try.prog (Try.f5.params.toList ++ Rows.intsetFormsSpec.plain.varTypes Try.prog) ([d0, d1] ++ [])).all (· ≤ reachBytes) = true := hsz0
    rw [Try.params5] at hsz
    clear hsz0
    obtain ⟨A, c, l, rfl, hI0, hl0, _, hw0⟩ := open_slice_kind Try.underlying33 Try.underlying5 (by kernel_rfl) (hval 0 33 v0 rfl rfl) h0
    obtain ⟨a1, rfl, rfl, rfl, w1⟩ := open_int Try.underlying5 (hval 1 5 v1 rfl rfl) h1
    exact IntsetForms.walk A c l a1 W hI0 hl0 (fun x hx => u8_bd (hw0 x hx)) (u8_bd w1)
  refine key.mono fun e W' ⟨he, hb⟩ => ⟨_, he, law_post laid_out hW ?_ rfl (by kernel_rfl) Try.underlying4 ?_ hb⟩
  · rw [Try.params5]
    intro t ht
    simp only [List.mem_cons, List.not_mem_nil, or_false] at ht
    rcases ht with rfl | rfl <;> exact ⟨by kernel_rfl, of_decide_eq_true (by kernel_rfl)⟩
  · rw [Try.params5]
    intro ds hl
    match ds, hl with
    | [_, _], _ => rfl

set_option maxRecDepth 100000 in
theorem lifted (os : Os) (started : os.Started) (H : Type) (enc : TypeId × Value → H) :
    ReturnsInHanded {} Try.checked os 5 .any (Rows.intsetFormsSpec.pre6 enc Try.prog Try.f5 Rows.intsetFormsRow.domain false) (Rows.intsetFormsSpec.post enc Try.prog Try.f5 false true false false) := by
  refine returnsInHanded_of_change_sized (C := Try.checked) own_knob started (by kernel_rfl) Try.func5
    (ChangeSpec.witness6 (enc := enc) (C := Try.checked) false ⟨#[], #[.slice none 0 0, .int .u8 0], []⟩ 8 (by kernel_rfl) (by kernel_rfl) (by kernel_rfl) (by kernel_rfl)) ?_
  intro W base args ds gs before hval0 hW _ hsz0 _
  exact contract H enc W base args ds gs before hval0 hW hsz0

theorem over : Rows.intsetFormsRow.holds Try.pinned (OpenSpec.ofChange Rows.intsetFormsSpec) :=
  OpenClaim.holds_of_wide 5 Try.f5 rfl rfl rfl rfl rfl rfl rfl ⟨rfl, rfl, rfl, rfl, rfl⟩ rfl rfl rfl rfl rfl (by kernel_rfl) Try.func5 (by kernel_rfl)
    (of_decide_eq_true (by kernel_rfl)) (by unfold Func.isWrapper; first | (rw [if_pos (by decide +kernel)]; kernel_rfl) | (rw [if_neg (by decide +kernel)]; exact ⟨rfl, rfl⟩))
    (fun os started H enc _ => lifted os started H enc)

/-- The given statement. -/
theorem proved : Rows.IntsetFormsSaid := over
end IntsetForms
#print axioms IntsetForms.proved
end Go.Proofs.Ytejdaodchaeglaa
