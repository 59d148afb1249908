/-
  Layer 9: the maker of sets for the laws: some valid set of few small numbers. Plain contract.
-/
import Derived.Test.YtejdaodchaeglaaSpJ
namespace Go.Proofs.Ytejdaodchaeglaa
open Go.RowKit
def U8s (w : World) (A : Option Addr) (l : List Int) : Prop := Reads w w.heap.size 1 A l.length (l.map (Value.int .u8))
theorem U8s.grows {w w' : World} {A : Option Addr} {l : List Int} (h : U8s w A l) (hg : Grows w w') : U8s w' A l := Reads.grows h hg
theorem U8s.at_ {w : World} {A : Option Addr} {l : List Int} (h : U8s w A l) {k : Nat} (hk : k < l.length) : ∃ ad x, A = some ad ∧ l[k]? = some x ∧ w.cell? (ad.add k) = some (.int .u8 x) := by
  obtain ⟨ad, u, e, _, hu, hc⟩ := Reads.at_ h hk
  rw [List.getElem?_map] at hu
  obtain ⟨x, hx, rfl⟩ := Option.map_eq_some_iff.1 hu
  exact ⟨ad, x, e, hx, hc⟩
/-- What the maker gives. -/
def Small (l : List Sp) : Prop := okS l = true ∧ l.length ≤ 20 ∧ ∀ x ∈ l, 0 ≤ x.1 ∧ x.2 ≤ 275
theorem form_fine {l : List Sp} (hf : ∀ x ∈ l, fineS x = true) : ∀ x ∈ formS l, fineS x = true := mergeL_fine _ fun x hx => hf x ((sortS_perm l).mem_iff.1 hx)
theorem form_ok {l : List Sp} (hf : ∀ x ∈ l, fineS x = true) (hl : l.length ≤ 64) : okS (formS l) = true := by
  have h := formS_forms hf
  exact (okS_iff _).2 ⟨form_fine hf, h.1, Nat.le_trans h.2.2 hl⟩
theorem small_make (p : List Sp) (hf : ∀ x ∈ p, fineS x = true) (hl : p.length ≤ 20) : makeF p = (formS p, 0) := by
  have h := (formS_forms hf).2.2
  unfold makeF
  rw [if_pos (List.all_eq_true.2 hf), if_neg (by omega)]
theorem small_form (p : List Sp) (hf : ∀ x ∈ p, fineS x = true ∧ x.2 ≤ 275) (hl : p.length ≤ 20) : Small (formS p) := by
  have hf1 : ∀ x ∈ p, fineS x = true := fun x hx => (hf x hx).1
  have h := formS_forms hf1
  refine ⟨form_ok hf1 (by omega), Nat.le_trans h.2.2 hl, fun x hx => ?_⟩
  have hx2 := (fineS_iff x).1 (form_fine hf1 x hx)
  obtain ⟨y, hy, h1, h2⟩ := (h.2.1 x.2).1 ⟨x, hx, hx2.2.1, Int.le_refl _⟩
  have := (hf y hy).2
  exact ⟨hx2.1, by omega⟩
set_option maxRecDepth 100000 in
set_option maxHeartbeats 16000000 in
theorem made9_any (A : Option Addr) (c : Nat) (l : List Int) (w : World) (hI : U8s w A l) (hl : l.length ≤ 9223372036854775807) (hu : ∀ x ∈ l, 0 ≤ x ∧ x ≤ 255) :
    Calls Try.prog 18 #[.slice A l.length c] w fun e w' => (∃ s v, e = .returned v ∧ SetV w' s v ∧ Small s) ∧ Grows w w' := by
  have k2 := Blk.new w 24 #[.slice none 0 0]
  have hB := (Below.refl w.heap.size w).alloc (Nat.le_refl _) (Obj.cells #[.slice none 0 0] 24)
  go_enter Try.func18, Try.ntmps18
  go_upto_region 1 with fail
  have hI1 := hI.grows hB
  generalize World.alloc w _ = w1 at *
  go_upto_region 3 with fail
  go_loopw [3, 4] (fun v i wr => ∃ (k : Nat) (p : List Sp), k ≤ 20 ∧ i = .int .i64 ((2 * k : Nat) : Int) ∧ Own wr w1.heap.size v p ∧ p.length = k ∧ (∀ x ∈ p, fineS x = true ∧ x.2 ≤ 275) ∧ Grows w1 wr) (fun _ i _ => 40 - (intOf i).toNat)
  case atStart => exact ⟨0, [], by omega, rfl, own_nil _ _, rfl, by simp, Below.refl _ _⟩
  case round =>
    obtain ⟨k, p, hk, rfl, hown, hpl, hpf, hg⟩ := hrel
    have HPL := Lib.hid hpl
    have hp20 : p.length ≤ 20 := by omega
    clear hpl
    by_cases h1 : 2 * k + 1 < l.length ∧ 2 * k < 40
    · obtain ⟨ad, a, rfl, ha, ca⟩ := hI1.at_ (k := 2 * k) (by omega)
      obtain ⟨ad', b, e, hb, cb⟩ := hI1.at_ (k := 2 * k + 1) (by omega)
      injection e with e
      subst e
      have hua := hu a (List.mem_of_getElem? ha)
      have hub := hu b (List.mem_of_getElem? hb)
      have hI2 := hI1
      have hlt : ad.block < w1.heap.size := by
        obtain ⟨ad', e, hlt, _⟩ := hI1.2 (by omega)
        injection e with e
        subst e
        exact hlt
      have hca : ∀ w', Grows w1 w' → w'.cell? (ad.add (2 * k)) = some (.int .u8 a) := fun w' hg => (hg.cell (p := ad.add (2 * k)) (by rw [block_of_add]; exact hlt)).trans ca
      have hcb : ∀ w', Grows w1 w' → w'.cell? ⟨ad.block, ad.off + (2 * k + 1), none⟩ = some (.int .u8 b) := fun w' hg => by
        have e : ad.add (2 * k + 1) = ⟨ad.block, ad.off + (2 * k + 1), none⟩ := by unfold Addr.add; rw [if_neg (by omega)]
        rw [← e]
        exact (hg.cell (p := ad.add (2 * k + 1)) (by rw [block_of_add]; exact hlt)).trans cb
      clear ca cb ha hb hI2 hlt
      have t0 := Int.tmod_nonneg 20 hub.1
      have t1 := Int.tmod_lt_of_pos b (show (0 : Int) < 20 by omega)
      have w1a : IntKind.i64.wrap a = a := IntWalk.i64_in _ (by omega)
      have w1b : IntKind.i64.wrap (Int.tmod b 20) = Int.tmod b 20 := IntWalk.i64_in _ (by omega)
      have w1c : IntKind.i64.wrap (a + Int.tmod b 20) = a + Int.tmod b 20 := IntWalk.i64_in _ (by omega)
      have hi1 : IntKind.i64.wrap (((2 * k : Nat) : Int) + 1) = ((2 * k : Nat) : Int) + 1 := IntWalk.i64_in _ (by omega)
      have hi2 : ((2 * k : Nat) : Int) < (l.length : Int) := by omega
      have hi3 : ((2 * k : Nat) : Int) + 1 < (l.length : Int) := by omega
      have hi4 : ((2 * k : Nat) : Int) < 40 := by omega
      generalize hi0 : 2 * k = i0 at *
      have HI0 := Lib.hid hi0
      clear hi0
      go_upto_region 5 with fail
      generalize u3 = v at *
      obtain ⟨S, HI, HO⟩ : ∃ S : Ran → (Nat → Value) → World → Prop, Hid (∀ L vs w', (Grows w1 w' ∧ KnS [some (v), some (.slice (some ad) l.length c), some (.int .i64 (i0 : Int)), some (.pointer (some (ad.add i0))), some (.int .u8 a), some (.int .i64 a), some (.slice (some ad) l.length c), some (.int .i64 (i0 : Int)), some (.pointer (some (ad.add i0))), some (.int .u8 a), some (.int .i64 a), some (.slice (some ad) l.length c), some (.int .i64 (i0 : Int)), some (.int .i64 ((i0 : Int) + 1)), some (.pointer (some (ad.add (i0 + 1)))), some (.int .u8 b), some (.int .u8 (Int.tmod b 20)), some (.int .i64 (Int.tmod b 20)), some (.int .i64 (a + Int.tmod b 20)), some (.agg #[.int .i64 a, .int .i64 (a + Int.tmod b 20)]), none, none] L vs ∧ (L 21 = false → Own w' w1.heap.size v p) ∧ (L 20 = true → L 21 = false → ∃ gb, vs 20 = .slice (some ⟨gb, 0, none⟩) 1 1 ∧ Sps w' (some ⟨gb, 0, none⟩) [(a, a + Int.tmod b 20)]) ∧ (L 21 = true → Own w' w1.heap.size (vs 21) (p ++ [(a, a + Int.tmod b 20)])) ∧ (L 21 = true → L 20 = true)) → S L vs w') ∧ Hid (∀ L vs w', S L vs w' → (Grows w1 w' ∧ KnS [some (v), some (.slice (some ad) l.length c), some (.int .i64 (i0 : Int)), some (.pointer (some (ad.add i0))), some (.int .u8 a), some (.int .i64 a), some (.slice (some ad) l.length c), some (.int .i64 (i0 : Int)), some (.pointer (some (ad.add i0))), some (.int .u8 a), some (.int .i64 a), some (.slice (some ad) l.length c), some (.int .i64 (i0 : Int)), some (.int .i64 ((i0 : Int) + 1)), some (.pointer (some (ad.add (i0 + 1)))), some (.int .u8 b), some (.int .u8 (Int.tmod b 20)), some (.int .i64 (Int.tmod b 20)), some (.int .i64 (a + Int.tmod b 20)), some (.agg #[.int .i64 a, .int .i64 (a + Int.tmod b 20)]), none, none] L vs ∧ (L 21 = false → Own w' w1.heap.size v p) ∧ (L 20 = true → L 21 = false → ∃ gb, vs 20 = .slice (some ⟨gb, 0, none⟩) 1 1 ∧ Sps w' (some ⟨gb, 0, none⟩) [(a, a + Int.tmod b 20)]) ∧ (L 21 = true → Own w' w1.heap.size (vs 21) (p ++ [(a, a + Int.tmod b 20)])) ∧ (L 21 = true → L 20 = true))) := ⟨fun L vs w' => Grows w1 w' ∧ KnS [some (v), some (.slice (some ad) l.length c), some (.int .i64 (i0 : Int)), some (.pointer (some (ad.add i0))), some (.int .u8 a), some (.int .i64 a), some (.slice (some ad) l.length c), some (.int .i64 (i0 : Int)), some (.pointer (some (ad.add i0))), some (.int .u8 a), some (.int .i64 a), some (.slice (some ad) l.length c), some (.int .i64 (i0 : Int)), some (.int .i64 ((i0 : Int) + 1)), some (.pointer (some (ad.add (i0 + 1)))), some (.int .u8 b), some (.int .u8 (Int.tmod b 20)), some (.int .i64 (Int.tmod b 20)), some (.int .i64 (a + Int.tmod b 20)), some (.agg #[.int .i64 a, .int .i64 (a + Int.tmod b 20)]), none, none] L vs ∧ (L 21 = false → Own w' w1.heap.size v p) ∧ (L 20 = true → L 21 = false → ∃ gb, vs 20 = .slice (some ⟨gb, 0, none⟩) 1 1 ∧ Sps w' (some ⟨gb, 0, none⟩) [(a, a + Int.tmod b 20)]) ∧ (L 21 = true → Own w' w1.heap.size (vs 21) (p ++ [(a, a + Int.tmod b 20)])) ∧ (L 21 = true → L 20 = true), fun _ _ _ h => h, fun _ _ _ h => h⟩
      refine wp_region_genT S 22 46 (by kernel_rfl) (by kernel_rfl) rfl ?_ ?_
      · exact HI.out _ _ _ ⟨below_grows hg (Nat.le_refl _) (Grows.drew' _), kn_none _ _, fun _ => hown.grows (Grows.drew' _), (fun h => by cases h), (fun h => by cases h), (fun h => by cases h)⟩
      simp only [List.take_succ_cons, List.take_zero, List.drop_succ_cons, List.drop_zero]
      refine gent_cons (A' := ?_) (fun vs L w1_1 hL hw1 => ?_) ?_ ?_
      rotate_left 1
      · obtain ⟨q0, q1, q2, q3, q4, q5⟩ := HO.out _ _ _ hw1
        refine gen_plain rfl ?_
        go_simp
        exact gr_val (HI.out _ _ _ ⟨q0, kn_known q1 rfl, q2, q3, q4, q5⟩)
      · intro vs
        simp only [Act.put, List.setIfInBounds_toArray, List.set_cons_succ, List.set_cons_zero]
        rfl
      refine gent_cons (A' := ?_) (fun vs L w1_1 hL hw1 => ?_) ?_ ?_
      rotate_left 1
      · obtain ⟨q0, q1, q2, q3, q4, q5⟩ := HO.out _ _ _ hw1
        refine gen_plain rfl ?_
        go_simp
        exact gr_val (HI.out _ _ _ ⟨q0, kn_known q1 rfl, q2, q3, q4, q5⟩)
      · intro vs
        simp only [Act.put, List.setIfInBounds_toArray, List.set_cons_succ, List.set_cons_zero]
        rfl
      refine gent_cons (A' := ?_) (fun vs L w1_1 hL hw1 => ?_) ?_ ?_
      rotate_left 1
      · obtain ⟨q0, q1, q2, q3, q4, q5⟩ := HO.out _ _ _ hw1
        refine gen_plain rfl ?_
        go_simp
        exact gr_val (HI.out _ _ _ ⟨q0, kn_known q1 rfl, q2, q3, q4, q5⟩)
      · intro vs
        simp only [Act.put, List.setIfInBounds_toArray, List.set_cons_succ, List.set_cons_zero]
        rfl
      refine gent_cons (A' := ?_) (fun vs L w1_1 hL hw1 => ?_) ?_ ?_
      rotate_left 1
      · obtain ⟨q0, q1, q2, q3, q4, q5⟩ := HO.out _ _ _ hw1
        have l1 : L 1 = true := hL.need 1 (by kernel_rfl)
        have e1 := q1 1 _ rfl l1
        have l2 : L 2 = true := hL.need 2 (by kernel_rfl)
        have e2 := q1 2 _ rfl l2
        refine gen_plain rfl ?_
        simp only [e1, e2]
        go_simp
        exact gr_val (HI.out _ _ _ ⟨q0, kn_known q1 rfl, q2, q3, q4, q5⟩)
      · intro vs
        simp only [Act.put, List.setIfInBounds_toArray, List.set_cons_succ, List.set_cons_zero]
        rfl
      refine gent_cons (A' := ?_) (fun vs L w1_1 hL hw1 => ?_) ?_ ?_
      rotate_left 1
      · obtain ⟨q0, q1, q2, q3, q4, q5⟩ := HO.out _ _ _ hw1
        have l3 : L 3 = true := hL.need 3 (by kernel_rfl)
        have e3 := q1 3 _ rfl l3
        have c0 := hca _ q0
        refine gen_plain rfl ?_
        simp only [e3]
        go_simp
        exact gr_val (HI.out _ _ _ ⟨q0, kn_known q1 rfl, q2, q3, q4, q5⟩)
      · intro vs
        simp only [Act.put, List.setIfInBounds_toArray, List.set_cons_succ, List.set_cons_zero]
        rfl
      refine gent_cons (A' := ?_) (fun vs L w1_1 hL hw1 => ?_) ?_ ?_
      rotate_left 1
      · obtain ⟨q0, q1, q2, q3, q4, q5⟩ := HO.out _ _ _ hw1
        have l4 : L 4 = true := hL.need 4 (by kernel_rfl)
        have e4 := q1 4 _ rfl l4
        refine gen_plain rfl ?_
        simp only [e4]
        go_simp
        exact gr_val (HI.out _ _ _ ⟨q0, kn_known q1 rfl, q2, q3, q4, q5⟩)
      · intro vs
        simp only [Act.put, List.setIfInBounds_toArray, List.set_cons_succ, List.set_cons_zero]
        rfl
      refine gent_cons (A' := ?_) (fun vs L w1_1 hL hw1 => ?_) ?_ ?_
      rotate_left 1
      · obtain ⟨q0, q1, q2, q3, q4, q5⟩ := HO.out _ _ _ hw1
        refine gen_plain rfl ?_
        go_simp
        exact gr_val (HI.out _ _ _ ⟨q0, kn_known q1 rfl, q2, q3, q4, q5⟩)
      · intro vs
        simp only [Act.put, List.setIfInBounds_toArray, List.set_cons_succ, List.set_cons_zero]
        rfl
      refine gent_cons (A' := ?_) (fun vs L w1_1 hL hw1 => ?_) ?_ ?_
      rotate_left 1
      · obtain ⟨q0, q1, q2, q3, q4, q5⟩ := HO.out _ _ _ hw1
        refine gen_plain rfl ?_
        go_simp
        exact gr_val (HI.out _ _ _ ⟨q0, kn_known q1 rfl, q2, q3, q4, q5⟩)
      · intro vs
        simp only [Act.put, List.setIfInBounds_toArray, List.set_cons_succ, List.set_cons_zero]
        rfl
      refine gent_cons (A' := ?_) (fun vs L w1_1 hL hw1 => ?_) ?_ ?_
      rotate_left 1
      · obtain ⟨q0, q1, q2, q3, q4, q5⟩ := HO.out _ _ _ hw1
        have l6 : L 6 = true := hL.need 6 (by kernel_rfl)
        have e6 := q1 6 _ rfl l6
        have l7 : L 7 = true := hL.need 7 (by kernel_rfl)
        have e7 := q1 7 _ rfl l7
        refine gen_plain rfl ?_
        simp only [e6, e7]
        go_simp
        exact gr_val (HI.out _ _ _ ⟨q0, kn_known q1 rfl, q2, q3, q4, q5⟩)
      · intro vs
        simp only [Act.put, List.setIfInBounds_toArray, List.set_cons_succ, List.set_cons_zero]
        rfl
      refine gent_cons (A' := ?_) (fun vs L w1_1 hL hw1 => ?_) ?_ ?_
      rotate_left 1
      · obtain ⟨q0, q1, q2, q3, q4, q5⟩ := HO.out _ _ _ hw1
        have l8 : L 8 = true := hL.need 8 (by kernel_rfl)
        have e8 := q1 8 _ rfl l8
        have c0 := hca _ q0
        refine gen_plain rfl ?_
        simp only [e8]
        go_simp
        exact gr_val (HI.out _ _ _ ⟨q0, kn_known q1 rfl, q2, q3, q4, q5⟩)
      · intro vs
        simp only [Act.put, List.setIfInBounds_toArray, List.set_cons_succ, List.set_cons_zero]
        rfl
      refine gent_cons (A' := ?_) (fun vs L w1_1 hL hw1 => ?_) ?_ ?_
      rotate_left 1
      · obtain ⟨q0, q1, q2, q3, q4, q5⟩ := HO.out _ _ _ hw1
        have l9 : L 9 = true := hL.need 9 (by kernel_rfl)
        have e9 := q1 9 _ rfl l9
        refine gen_plain rfl ?_
        simp only [e9]
        go_simp
        exact gr_val (HI.out _ _ _ ⟨q0, kn_known q1 rfl, q2, q3, q4, q5⟩)
      · intro vs
        simp only [Act.put, List.setIfInBounds_toArray, List.set_cons_succ, List.set_cons_zero]
        rfl
      refine gent_cons (A' := ?_) (fun vs L w1_1 hL hw1 => ?_) ?_ ?_
      rotate_left 1
      · obtain ⟨q0, q1, q2, q3, q4, q5⟩ := HO.out _ _ _ hw1
        refine gen_plain rfl ?_
        go_simp
        exact gr_val (HI.out _ _ _ ⟨q0, kn_known q1 rfl, q2, q3, q4, q5⟩)
      · intro vs
        simp only [Act.put, List.setIfInBounds_toArray, List.set_cons_succ, List.set_cons_zero]
        rfl
      refine gent_cons (A' := ?_) (fun vs L w1_1 hL hw1 => ?_) ?_ ?_
      rotate_left 1
      · obtain ⟨q0, q1, q2, q3, q4, q5⟩ := HO.out _ _ _ hw1
        refine gen_plain rfl ?_
        go_simp
        exact gr_val (HI.out _ _ _ ⟨q0, kn_known q1 rfl, q2, q3, q4, q5⟩)
      · intro vs
        simp only [Act.put, List.setIfInBounds_toArray, List.set_cons_succ, List.set_cons_zero]
        rfl
      refine gent_cons (A' := ?_) (fun vs L w1_1 hL hw1 => ?_) ?_ ?_
      rotate_left 1
      · obtain ⟨q0, q1, q2, q3, q4, q5⟩ := HO.out _ _ _ hw1
        have l12 : L 12 = true := hL.need 12 (by kernel_rfl)
        have e12 := q1 12 _ rfl l12
        refine gen_plain rfl ?_
        simp only [e12]
        go_simp
        exact gr_val (HI.out _ _ _ ⟨q0, kn_known q1 rfl, q2, q3, q4, q5⟩)
      · intro vs
        simp only [Act.put, List.setIfInBounds_toArray, List.set_cons_succ, List.set_cons_zero]
        rfl
      refine gent_cons (A' := ?_) (fun vs L w1_1 hL hw1 => ?_) ?_ ?_
      rotate_left 1
      · obtain ⟨q0, q1, q2, q3, q4, q5⟩ := HO.out _ _ _ hw1
        have l11 : L 11 = true := hL.need 11 (by kernel_rfl)
        have e11 := q1 11 _ rfl l11
        have l13 : L 13 = true := hL.need 13 (by kernel_rfl)
        have e13 := q1 13 _ rfl l13
        refine gen_plain rfl ?_
        simp only [e11, e13]
        go_simp
        exact gr_val (HI.out _ _ _ ⟨q0, kn_known q1 rfl, q2, q3, q4, q5⟩)
      · intro vs
        simp only [Act.put, List.setIfInBounds_toArray, List.set_cons_succ, List.set_cons_zero]
        rfl
      refine gent_cons (A' := ?_) (fun vs L w1_1 hL hw1 => ?_) ?_ ?_
      rotate_left 1
      · obtain ⟨q0, q1, q2, q3, q4, q5⟩ := HO.out _ _ _ hw1
        have l14 : L 14 = true := hL.need 14 (by kernel_rfl)
        have e14 := q1 14 _ rfl l14
        have c0 := hcb _ q0
        refine gen_plain rfl ?_
        simp only [e14]
        go_simp
        exact gr_val (HI.out _ _ _ ⟨q0, kn_known q1 rfl, q2, q3, q4, q5⟩)
      · intro vs
        simp only [Act.put, List.setIfInBounds_toArray, List.set_cons_succ, List.set_cons_zero]
        rfl
      refine gent_cons (A' := ?_) (fun vs L w1_1 hL hw1 => ?_) ?_ ?_
      rotate_left 1
      · obtain ⟨q0, q1, q2, q3, q4, q5⟩ := HO.out _ _ _ hw1
        have l15 : L 15 = true := hL.need 15 (by kernel_rfl)
        have e15 := q1 15 _ rfl l15
        refine gen_plain rfl ?_
        simp only [e15]
        go_simp
        exact gr_val (HI.out _ _ _ ⟨q0, kn_known q1 rfl, q2, q3, q4, q5⟩)
      · intro vs
        simp only [Act.put, List.setIfInBounds_toArray, List.set_cons_succ, List.set_cons_zero]
        rfl
      refine gent_cons (A' := ?_) (fun vs L w1_1 hL hw1 => ?_) ?_ ?_
      rotate_left 1
      · obtain ⟨q0, q1, q2, q3, q4, q5⟩ := HO.out _ _ _ hw1
        have l16 : L 16 = true := hL.need 16 (by kernel_rfl)
        have e16 := q1 16 _ rfl l16
        refine gen_plain rfl ?_
        simp only [e16]
        go_simp
        exact gr_val (HI.out _ _ _ ⟨q0, kn_known q1 rfl, q2, q3, q4, q5⟩)
      · intro vs
        simp only [Act.put, List.setIfInBounds_toArray, List.set_cons_succ, List.set_cons_zero]
        rfl
      refine gent_cons (A' := ?_) (fun vs L w1_1 hL hw1 => ?_) ?_ ?_
      rotate_left 1
      · obtain ⟨q0, q1, q2, q3, q4, q5⟩ := HO.out _ _ _ hw1
        have l10 : L 10 = true := hL.need 10 (by kernel_rfl)
        have e10 := q1 10 _ rfl l10
        have l17 : L 17 = true := hL.need 17 (by kernel_rfl)
        have e17 := q1 17 _ rfl l17
        refine gen_plain rfl ?_
        simp only [e10, e17]
        go_simp
        exact gr_val (HI.out _ _ _ ⟨q0, kn_known q1 rfl, q2, q3, q4, q5⟩)
      · intro vs
        simp only [Act.put, List.setIfInBounds_toArray, List.set_cons_succ, List.set_cons_zero]
        rfl
      refine gent_cons (A' := ?_) (fun vs L w1_1 hL hw1 => ?_) ?_ ?_
      rotate_left 1
      · obtain ⟨q0, q1, q2, q3, q4, q5⟩ := HO.out _ _ _ hw1
        have l5 : L 5 = true := hL.need 5 (by kernel_rfl)
        have e5 := q1 5 _ rfl l5
        have l18 : L 18 = true := hL.need 18 (by kernel_rfl)
        have e18 := q1 18 _ rfl l18
        refine gen_plain rfl ?_
        simp only [e5, e18]
        go_simp
        exact gr_val (HI.out _ _ _ ⟨q0, kn_known q1 rfl, q2, q3, q4, q5⟩)
      · intro vs
        simp only [Act.put, List.setIfInBounds_toArray, List.set_cons_succ, List.set_cons_zero]
        rfl
      refine gent_cons (A' := ?_) (fun vs L w1_1 hL hw1 => ?_) ?_ ?_
      rotate_left 1
      · obtain ⟨q0, q1, q2, q3, q4, q5⟩ := HO.out _ _ _ hw1
        have n20 : L 20 = false := hL.1
        have n21 : L 21 = false := by
          cases h : L 21
          · rfl
          · rw [q5 h] at n20; cases n20
        have l19 : L 19 = true := hL.need 19 (by kernel_rfl)
        have e19 := q1 19 _ rfl l19
        refine gen_plain rfl ?_
        simp only [e19]
        go_simp
        have hg2 := (Below.refl w1_1.heap.size w1_1).alloc (Nat.le_refl _) (Obj.cells (csS (a, a + Int.tmod b 20)) 40)
        exact gr_val (HI.out _ _ _ ⟨below_grows q0 (Nat.le_refl _) hg2, kn_free q1 rfl, fun h => (q2 h).grows hg2, (fun _ _ => ⟨_, rfl, sps_lit w1_1 (a, a + Int.tmod b 20)⟩), (fun h => by rw [show L 21 = true from h] at n21; cases n21), (fun h => by rw [show L 21 = true from h] at n21; cases n21)⟩)
      · intro vs
        simp only [Act.put, List.setIfInBounds_toArray, List.set_cons_succ, List.set_cons_zero]
        rfl
      refine gent_cons (A' := ?_) (fun vs L w1_1 hL hw1 => ?_) ?_ ?_
      rotate_left 1
      · obtain ⟨q0, q1, q2, q3, q4, q5⟩ := HO.out _ _ _ hw1
        have n21 : L 21 = false := hL.1
        have l20 : L 20 = true := hL.need 20 (by kernel_rfl)
        obtain ⟨gb, e20, s20⟩ := q3 l20 n21
        have o0 := q2 n21
        have l0 : L 0 = true := hL.need 0 (by kernel_rfl)
        have e0 := q1 0 _ rfl l0
        refine gen_plain rfl ?_
        refine gr_append_sp (.tmp 18) (.tmp 38) rfl (m := [(a, a + Int.tmod b 20)]) rfl e0 o0 e20 s20 (by simp; omega) q0.size ?_
        intro v3 w3 o6 g3
        have hg2 := o0.below q0 g3 q0.size
        exact HI.out _ _ _ ⟨hg2, kn_free q1 rfl, (fun h => by cases h), (fun _ h => by cases h), fun _ => o6, fun _ => l20⟩
      · intro vs
        simp only [Act.put, List.setIfInBounds_toArray, List.set_cons_succ, List.set_cons_zero]
        rfl
      refine gent_nil ?_
      intro vs L W2 hall hS
      obtain ⟨hg2, -, -, -, q4, -⟩ := HO.out _ _ _ hS
      have hown2 := q4 (hall 21 (by omega))
      clear hall hS HI HO q4
      generalize vs 21 = v39 at *
      go_wp2
      go_roundw
      case rel =>
        refine ⟨k + 1, p ++ [(a, a + Int.tmod b 20)], by have := HI0.out; omega, by have := HI0.out; go_num, hown2, by rw [List.length_append, HPL.out]; rfl, fun y hy => ?_, hg2⟩
        rcases List.mem_append.1 hy with hy | hy
        · exact hpf y hy
        · rw [List.mem_singleton.1 hy]
          exact ⟨(fineS_iff _).2 ⟨hua.1, by simp only []; omega, by simp only []; omega⟩, by simp only []; omega⟩
      case measure =>
        have := HI0.out
        simp [intOf]
        omega
    · have hf : ∀ x ∈ p, fineS x = true := fun x hx => (hpf x hx).1
      have hm := small_make p hf hp20
      have hsm := small_form p hpf hp20
      obtain ⟨A3, c3, rfl, -, hr, -⟩ := hown.read
      clear hown
      have key : Calls Try.prog 12 #[.slice A3 p.length c3] wr fun e w' => (∃ A4 c4, e = .returned (.tuple #[.agg #[.slice A4 (formS p).length c4], .int .i64 0]) ∧ (formS p).length ≤ c4 ∧ Sps w' A4 (formS p)) ∧ Grows wr w' := by
        refine (rmake_any A3 c3 p _ hr (by omega)).mono ?_
        rw [hm]
        rintro e w' ⟨⟨v, he, A4, c4, rfl, h1, h2⟩, hq⟩
        exact ⟨⟨A4, c4, he, h1, h2⟩, hq⟩
      clear hm hpf hf hr
      have fin : ∀ (w2 : World) (A4 : Option Addr) (c4 : Nat), (formS p).length ≤ c4 → Sps w2 A4 (formS p) → Below w.heap.size w w2 → SetV w2 (formS p) (.agg #[.slice A4 (formS p).length c4]) ∧ Small (formS p) := fun w2 A4 c4 h1 h2 _ => ⟨⟨A4, c4, rfl, h1, h2⟩, hsm⟩
      clear hsm
      generalize formS p = o at *
      by_cases h2 : 2 * k + 1 < l.length
      · have h3 : ¬ 2 * k < 40 := fun h => h1 ⟨h2, h⟩
        clear h1
        go_wp2_with fail
        refine key.mono ?_
        rintro e w2 ⟨⟨A4, c4, rfl, hc4, hs4⟩, hq⟩
        clear key
        have hg2 := below_grows hg (Nat.le_refl _) hq
        clear hq hg
        have k5 := Blk.new w2 24 #[.slice A4 o.length c4]
        have hq := (Below.refl w2.heap.size w2).alloc (Nat.le_refl _) (Obj.cells #[.slice A4 o.length c4] 24)
        replace hg2 := below_grows hg2 (Nat.le_refl _) hq
        replace hs4 := hs4.grows hq
        clear hq
        go_upto_region 7 with fail
        generalize World.alloc w2 _ = w3 at *
        generalize w2.heap.size = G5 at *
        have x5 := k5.cell 0
        have k3 := k2.grows hg2
        have x3 := k3.cell 0
        have f3 := k3.frozen 0
        go_wp2
        have k4 := k3.set_ 0 (.slice A4 o.length c4)
        have hB4 := (below_grows hB (Nat.le_refl _) hg2).setCell (p := ⟨w.heap.size, 0, none⟩) (Nat.le_refl _) (.slice A4 o.length c4)
        have hr5 := hs4.setOther k3 (.slice A4 o.length c4)
        generalize World.setCell _ _ _ = w5 at *
        have x4 : w5.cell? ⟨w.heap.size, 0, none⟩ = some (.slice A4 o.length c4) := by rw [k4.cell]; rfl
        clear x3 f3 k3 k4 x5
        obtain ⟨f1, f2⟩ := fin w5 A4 c4 hc4 hr5 hB4
        refine bodyPost_ret (v := .agg #[.slice A4 o.length c4]) (by simp [results, Try.results18, go_sem, x4]) rfl ⟨⟨o, _, rfl, f1, f2⟩, hB4⟩
      · clear h1
        go_wp2_with fail
        refine key.mono ?_
        rintro e w2 ⟨⟨A4, c4, rfl, hc4, hs4⟩, hq⟩
        clear key
        have hg2 := below_grows hg (Nat.le_refl _) hq
        clear hq hg
        have k5 := Blk.new w2 24 #[.slice A4 o.length c4]
        have hq := (Below.refl w2.heap.size w2).alloc (Nat.le_refl _) (Obj.cells #[.slice A4 o.length c4] 24)
        replace hg2 := below_grows hg2 (Nat.le_refl _) hq
        replace hs4 := hs4.grows hq
        clear hq
        go_upto_region 7 with fail
        generalize World.alloc w2 _ = w3 at *
        generalize w2.heap.size = G5 at *
        have x5 := k5.cell 0
        have k3 := k2.grows hg2
        have x3 := k3.cell 0
        have f3 := k3.frozen 0
        go_wp2
        have k4 := k3.set_ 0 (.slice A4 o.length c4)
        have hB4 := (below_grows hB (Nat.le_refl _) hg2).setCell (p := ⟨w.heap.size, 0, none⟩) (Nat.le_refl _) (.slice A4 o.length c4)
        have hr5 := hs4.setOther k3 (.slice A4 o.length c4)
        generalize World.setCell _ _ _ = w5 at *
        have x4 : w5.cell? ⟨w.heap.size, 0, none⟩ = some (.slice A4 o.length c4) := by rw [k4.cell]; rfl
        clear x3 f3 k3 k4 x5
        obtain ⟨f1, f2⟩ := fin w5 A4 c4 hc4 hr5 hB4
        refine bodyPost_ret (v := .agg #[.slice A4 o.length c4]) (by simp [results, Try.results18, go_sem, x4]) rfl ⟨⟨o, _, rfl, f1, f2⟩, hB4⟩
end Go.Proofs.Ytejdaodchaeglaa
