/-
  IntsetAlgebra, for every input: the law returns true, and each argument reads behind the call as it read before. No condition.
-/
import Derived.Test.YtejdaodchaeglaaSpW
import Derived.Test.YtejdaodchaeglaaSpO
import Derived.Test.YtejdaodchaeglaaSliceK
namespace Go.Proofs.Ytejdaodchaeglaa
open Go.ChangeShapes Go.WideShapes Go.ChangeAt Go.RowKit
namespace IntsetAlgebra
set_option maxRecDepth 100000 in
set_option maxHeartbeats 32000000 in
theorem walk (A : Option Addr) (c : Nat) (l : List Int) (A2 : Option Addr) (cc2 : Nat) (m : List Int) (A1 : Option Addr) (cc1 : Nat) (n : List Int) (w : World) (hI : U8s w A l) (hl : l.length ≤ 9223372036854775807) (hu : ∀ x ∈ l, 0 ≤ x ∧ x ≤ 255) (hI2 : U8s w A2 m) (hm : m.length ≤ 9223372036854775807) (hum : ∀ x ∈ m, 0 ≤ x ∧ x ≤ 255) (hI3 : U8s w A1 n) (hn : n.length ≤ 9223372036854775807) (hun : ∀ x ∈ n, 0 ≤ x ∧ x ≤ 255) :
    Calls Try.prog 6 #[.slice A l.length c, .slice A2 m.length cc2, .slice A1 n.length cc1] w fun e w' => e = .returned (.bool true) ∧ Below w.heap.size w w' := by
  have hB := Below.refl w.heap.size w
  go_enter Try.func6, Try.ntmps6
  go_wp2_with fail
  refine (sane_any _).mono ?_
  rintro e w2 ⟨rfl, hq⟩
  replace hB := below_grows hB (Nat.le_refl _) hq
  replace hI := hI.grows hq
  replace hI2 := hI2.grows hq
  replace hI3 := hI3.grows hq
  clear hq
  go_wp2_with fail
  refine (made9_any A c l _ hI hl hu).mono ?_
  rintro e W0 ⟨⟨s, v, rfl, ⟨A3, c3, rfl, -, hs⟩, hoks, hs20, -⟩, hq⟩
  replace hB := below_grows hB (Nat.le_refl _) hq
  replace hI2 := hI2.grows hq
  replace hI3 := hI3.grows hq
  clear hq hI
  go_wp2_with fail
  refine (made9_any A2 cc2 m _ hI2 hm hum).mono ?_
  rintro e W2 ⟨⟨t, v, rfl, ⟨A4, c4, rfl, -, ht⟩, hokt, ht20, -⟩, hq⟩
  replace hB := below_grows hB (Nat.le_refl _) hq
  replace hI3 := hI3.grows hq
  replace hs := hs.grows hq
  clear hq hI2
  go_wp2_with fail
  refine (made9_any A1 cc1 n _ hI3 hn hun).mono ?_
  rintro e W1 ⟨⟨r, v, rfl, ⟨A5, c5, rfl, -, hr⟩, hokr, hr20, -⟩, hq⟩
  replace hB := below_grows hB (Nat.le_refl _) hq
  replace hs := hs.grows hq
  replace ht := ht.grows hq
  clear hq hI3
  have k5 := ((Blk.new W1 24 #[.slice A3 s.length c3]).alloc (Obj.cells #[.slice A4 t.length c4] 24)).alloc (Obj.cells #[.slice A5 r.length c5] 24)
  have k6 := (blk_new_at (X := (W1.alloc (Obj.cells #[.slice A3 s.length c3] 24))) (n := W1.heap.size + 1) (t := 24) (cs := #[.slice A4 t.length c4]) (by simp)).alloc (Obj.cells #[.slice A5 r.length c5] 24)
  have k7 := blk_new_at (X := ((W1.alloc (Obj.cells #[.slice A3 s.length c3] 24)).alloc (Obj.cells #[.slice A4 t.length c4] 24))) (n := W1.heap.size + 2) (t := 24) (cs := #[.slice A5 r.length c5]) (by simp)
  have hq := (((Below.refl W1.heap.size W1).alloc (Nat.le_refl _) (Obj.cells #[.slice A3 s.length c3] 24)).alloc (by simp) (Obj.cells #[.slice A4 t.length c4] 24)).alloc (by simp; omega) (Obj.cells #[.slice A5 r.length c5] 24)
  replace hB := below_grows hB (Nat.le_refl _) hq
  replace hs := hs.grows hq
  replace ht := ht.grows hq
  replace hr := hr.grows hq
  clear hq
  go_upto_region 4 with fail
  generalize World.alloc (World.alloc (World.alloc W1 _) _) _ = W4 at *
  generalize W1.heap.size + 2 = G7 at *
  generalize W1.heap.size + 1 = G6 at *
  generalize W1.heap.size = G5 at *
  clear W0 W2 hl hu hm hum hn hun
  have fs := ok_fine hoks
  have ft := ok_fine hokt
  have fr := ok_fine hokr
  have hoki := inter_ok hoks hokt (by omega)
  have hokab := union_ok fs ft (by omega)
  have hokbc := union_ok ft fr (by omega)
  have hoktr := inter_ok hokt hokr (by omega)
  have hil := (inter_form s t (ok_canon hoks) (ok_canon hokt)).2.1
  have htrl := (inter_form t r (ok_canon hokt) (ok_canon hokr)).2.1
  have habl := union_len fs ft
  have hbcl := union_len ft fr
  have habcl := union_len (ok_fine hokab) fr
  have hirl := (inter_form _ r (ok_canon hoki) (ok_canon hokr)).2.1
  have HU1 : Hid (uniF s t = (unionL s t, 0)) := Lib.hid (uni_val hoks hokt (by omega))
  have HU2 : Hid (uniF t s = (unionL s t, 0)) := Lib.hid (by rw [union_comm hoks hokt]; exact uni_val hokt hoks (by omega))
  have HU3 : Hid (uniF s (interF s t) = (s, 0)) := Lib.hid (by rw [uni_val hoks hoki (by omega), union_absorb hoks])
  have HU4 : Hid (uniF (unionL s t) r = (unionL (unionL s t) r, 0)) := Lib.hid (uni_val hokab hokr (by omega))
  have HU5 : Hid (uniF t r = (unionL t r, 0)) := Lib.hid (uni_val hokt hokr (by omega))
  have HU6 : Hid (uniF s (unionL t r) = (unionL (unionL s t) r, 0)) := Lib.hid (by rw [uni_val hoks hokbc (by omega), union_assoc hoks hokt hokr])
  have HI1 : Hid ((interF (spansF s) (spansF t)).take 64 = interF s t) := Lib.hid (inter_val hoks hokt (by omega))
  have HI2 : Hid ((interF (spansF t) (spansF s)).take 64 = interF s t) := Lib.hid (by rw [inter_val hokt hoks (by omega), inter_comm hokt hoks])
  have HI3 : Hid ((interF (spansF s) (spansF (unionL s t))).take 64 = s) := Lib.hid (by rw [inter_val hoks hokab (by omega), inter_absorb hoks hokt])
  have HI4 : Hid ((interF (spansF s) (spansF s)).take 64 = s) := Lib.hid (by rw [inter_val hoks hoks (by omega), inter_self hoks])
  have HI5 : Hid ((interF (spansF (interF s t)) (spansF r)).take 64 = interF (interF s t) r) := Lib.hid (inter_val hoki hokr (by omega))
  have HI6 : Hid ((interF (spansF t) (spansF r)).take 64 = interF t r) := Lib.hid (inter_val hokt hokr (by omega))
  have HI7 : Hid ((interF (spansF s) (spansF (interF t r))).take 64 = interF (interF s t) r) := Lib.hid (by rw [inter_val hoks hoktr (by omega), inter_assoc hoks hokt hokr])
  clear hoks hokt hokr hoki hokab hokbc hoktr fs ft fr
  generalize interF (interF s t) r = ir at *
  generalize interF s t = i at *
  generalize interF t r = tr at *
  generalize unionL (unionL s t) r = abc at *
  generalize unionL s t = ab at *
  generalize unionL t r = bc at *
  have x0 := k5.cell 0
  have x1 := k6.cell 0
  go_wp2_with fail
  refine (union_is A3 c3 s A4 c4 t ab _ hs (by omega) ht (by omega) HU1.out).mono ?_
  rintro e Wa ⟨⟨v, rfl, A10, c10, rfl, -, hab⟩, hq⟩
  clear x0 x1
  replace hB := below_grows hB (Nat.le_refl _) hq
  replace k5 := k5.grows hq
  replace k6 := k6.grows hq
  replace k7 := k7.grows hq
  replace hs := hs.grows hq
  replace ht := ht.grows hq
  replace hr := hr.grows hq
  clear hq
  have k10 := Blk.new Wa 24 #[.slice A10 ab.length c10]
  have hq := (Below.refl Wa.heap.size Wa).alloc (Nat.le_refl _) (Obj.cells #[.slice A10 ab.length c10] 24)
  replace hB := below_grows hB (Nat.le_refl _) hq
  replace k5 := k5.grows hq
  replace k6 := k6.grows hq
  replace k7 := k7.grows hq
  replace hs := hs.grows hq
  replace ht := ht.grows hq
  replace hr := hr.grows hq
  replace hab := hab.grows hq
  clear hq
  go_upto_region 5 with fail
  generalize World.alloc Wa _ = Wb at *
  generalize Wa.heap.size = G10 at *
  clear Wa
  have x0 := k5.cell 0
  have x1 := k6.cell 0
  go_wp2_with fail
  refine (union_is A4 c4 t A3 c3 s ab _ ht (by omega) hs (by omega) HU2.out).mono ?_
  rintro e Wa ⟨⟨v, rfl, A12, c12, rfl, -, hba⟩, hq⟩
  clear x0 x1
  replace hB := below_grows hB (Nat.le_refl _) hq
  replace k5 := k5.grows hq
  replace k6 := k6.grows hq
  replace k7 := k7.grows hq
  replace hs := hs.grows hq
  replace ht := ht.grows hq
  replace hr := hr.grows hq
  replace k10 := k10.grows hq
  replace hab := hab.grows hq
  clear hq
  have k12 := Blk.new Wa 24 #[.slice A12 ab.length c12]
  have hq := (Below.refl Wa.heap.size Wa).alloc (Nat.le_refl _) (Obj.cells #[.slice A12 ab.length c12] 24)
  replace hB := below_grows hB (Nat.le_refl _) hq
  replace k5 := k5.grows hq
  replace k6 := k6.grows hq
  replace k7 := k7.grows hq
  replace hs := hs.grows hq
  replace ht := ht.grows hq
  replace hr := hr.grows hq
  replace k10 := k10.grows hq
  replace hab := hab.grows hq
  replace hba := hba.grows hq
  clear hq
  go_upto_region 6 with fail
  generalize World.alloc Wa _ = Wb at *
  generalize Wa.heap.size = G12 at *
  clear Wa
  obtain ⟨S, HI, HO⟩ : ∃ S : Ran → (Nat → Value) → World → Prop, Hid (∀ L vs w', (Grows Wb w' ∧ KnS [some (.agg #[.slice A3 s.length c3]), some (.agg #[.slice A3 s.length c3]), some (.agg #[.slice A4 t.length c4]), none, none, none, none, some (.int .i64 0), none, none, some (.int .i64 0)] L vs ∧ (L 3 = true → L 4 = false → SetV w' i (vs 3)) ∧ (L 4 = true → ∃ A6 c6, vs 4 = .tuple #[.agg #[.slice A6 s.length c6], .int .i64 0] ∧ s.length ≤ c6 ∧ Sps w' A6 s ∧ (L 5 = true → vs 5 = .tuple #[.agg #[.slice A6 s.length c6], .int .i64 0]) ∧ (L 6 = true → vs 6 = .agg #[.slice A6 s.length c6]) ∧ (L 9 = true → ∃ g, vs 8 = .pointer (some ⟨g, 0, none⟩) ∧ Blk w' g 24 #[.slice A6 s.length c6])) ∧ (L 8 = true → L 9 = false → ∃ g, vs 8 = .pointer (some ⟨g, 0, none⟩) ∧ Wb.heap.size ≤ g ∧ Blk w' g 24 #[.slice none 0 0]) ∧ (L 5 = true → L 4 = true) ∧ (L 6 = true → L 4 = true) ∧ (L 9 = true → L 4 = true ∧ L 8 = true)) → S L vs w') ∧ Hid (∀ L vs w', S L vs w' → (Grows Wb w' ∧ KnS [some (.agg #[.slice A3 s.length c3]), some (.agg #[.slice A3 s.length c3]), some (.agg #[.slice A4 t.length c4]), none, none, none, none, some (.int .i64 0), none, none, some (.int .i64 0)] L vs ∧ (L 3 = true → L 4 = false → SetV w' i (vs 3)) ∧ (L 4 = true → ∃ A6 c6, vs 4 = .tuple #[.agg #[.slice A6 s.length c6], .int .i64 0] ∧ s.length ≤ c6 ∧ Sps w' A6 s ∧ (L 5 = true → vs 5 = .tuple #[.agg #[.slice A6 s.length c6], .int .i64 0]) ∧ (L 6 = true → vs 6 = .agg #[.slice A6 s.length c6]) ∧ (L 9 = true → ∃ g, vs 8 = .pointer (some ⟨g, 0, none⟩) ∧ Blk w' g 24 #[.slice A6 s.length c6])) ∧ (L 8 = true → L 9 = false → ∃ g, vs 8 = .pointer (some ⟨g, 0, none⟩) ∧ Wb.heap.size ≤ g ∧ Blk w' g 24 #[.slice none 0 0]) ∧ (L 5 = true → L 4 = true) ∧ (L 6 = true → L 4 = true) ∧ (L 9 = true → L 4 = true ∧ L 8 = true))) := ⟨fun L vs w' => Grows Wb w' ∧ KnS [some (.agg #[.slice A3 s.length c3]), some (.agg #[.slice A3 s.length c3]), some (.agg #[.slice A4 t.length c4]), none, none, none, none, some (.int .i64 0), none, none, some (.int .i64 0)] L vs ∧ (L 3 = true → L 4 = false → SetV w' i (vs 3)) ∧ (L 4 = true → ∃ A6 c6, vs 4 = .tuple #[.agg #[.slice A6 s.length c6], .int .i64 0] ∧ s.length ≤ c6 ∧ Sps w' A6 s ∧ (L 5 = true → vs 5 = .tuple #[.agg #[.slice A6 s.length c6], .int .i64 0]) ∧ (L 6 = true → vs 6 = .agg #[.slice A6 s.length c6]) ∧ (L 9 = true → ∃ g, vs 8 = .pointer (some ⟨g, 0, none⟩) ∧ Blk w' g 24 #[.slice A6 s.length c6])) ∧ (L 8 = true → L 9 = false → ∃ g, vs 8 = .pointer (some ⟨g, 0, none⟩) ∧ Wb.heap.size ≤ g ∧ Blk w' g 24 #[.slice none 0 0]) ∧ (L 5 = true → L 4 = true) ∧ (L 6 = true → L 4 = true) ∧ (L 9 = true → L 4 = true ∧ L 8 = true), fun _ _ _ h => h, fun _ _ _ h => h⟩
  refine wp_region_genW S 141 (by kernel_rfl) (by kernel_rfl) rfl ?_ ?_
  · exact HI.out _ _ _ ⟨Grows.drew' _, kn_none _ _, (fun h => by cases h), (fun h => by cases h), (fun h => by cases h), (fun h => by cases h), (fun h => by cases h), (fun h => by cases h)⟩
  refine gen_cons (A' := ?_) (fun vs L w1 hL hw1 => ?_) ?_ ?_
  rotate_left 1
  · obtain ⟨q0, q1, q3, q4, q8, h5, h6, h9⟩ := HO.out _ _ _ hw1
    have x := (k5.grows q0).cell 0
    refine gen_plain rfl ?_
    go_simp
    exact gr_val (HI.out _ _ _ ⟨q0, kn_known q1 rfl, q3, q4, q8, h5, h6, h9⟩)
  · intro vs
    simp only [Act.put, List.setIfInBounds_toArray, List.set_cons_succ, List.set_cons_zero]
    rfl
  refine gen_cons (A' := ?_) (fun vs L w1 hL hw1 => ?_) ?_ ?_
  rotate_left 1
  · obtain ⟨q0, q1, q3, q4, q8, h5, h6, h9⟩ := HO.out _ _ _ hw1
    have x := (k5.grows q0).cell 0
    refine gen_plain rfl ?_
    go_simp
    exact gr_val (HI.out _ _ _ ⟨q0, kn_known q1 rfl, q3, q4, q8, h5, h6, h9⟩)
  · intro vs
    simp only [Act.put, List.setIfInBounds_toArray, List.set_cons_succ, List.set_cons_zero]
    rfl
  refine gen_cons (A' := ?_) (fun vs L w1 hL hw1 => ?_) ?_ ?_
  rotate_left 1
  · obtain ⟨q0, q1, q3, q4, q8, h5, h6, h9⟩ := HO.out _ _ _ hw1
    have x := (k6.grows q0).cell 0
    refine gen_plain rfl ?_
    go_simp
    exact gr_val (HI.out _ _ _ ⟨q0, kn_known q1 rfl, q3, q4, q8, h5, h6, h9⟩)
  · intro vs
    simp only [Act.put, List.setIfInBounds_toArray, List.set_cons_succ, List.set_cons_zero]
    rfl
  refine gen_cons (A' := ?_) (fun vs L w1 hL hw1 => ?_) ?_ ?_
  rotate_left 1
  · obtain ⟨q0, q1, q3, q4, q8, h5, h6, h9⟩ := HO.out _ _ _ hw1
    have n3 : L 3 = false := hL.1
    have l1 : L 1 = true := hL.need 1 (by kernel_rfl)
    have e1 := q1 1 _ rfl l1
    have l2 : L 2 = true := hL.need 2 (by kernel_rfl)
    have e2 := q1 2 _ rfl l2
    refine gen_plain rfl ?_
    simp only [e1, e2]
    go_simp
    refine gr_call ?_
    refine (inter_is A3 c3 s A4 c4 t i w1 (hs.grows q0) (by omega) (ht.grows q0) (by omega) HI1.out).mono ?_
    rintro e w2 ⟨⟨v, rfl, hv⟩, hg⟩
    exact ⟨_, rfl, HI.out _ _ _ ⟨below_grows q0 (Nat.le_refl _) hg, kn_free q1 rfl, (fun _ _ => hv), (fun h => by obtain ⟨A6, c6, e, hc, s, y5, y6, y9⟩ := q4 h; exact ⟨A6, c6, e, hc, s.grows hg, y5, y6, fun h => by obtain ⟨g, eg, kk⟩ := y9 h; exact ⟨g, eg, kk.grows hg⟩⟩), (fun h h0 => by obtain ⟨g, e, hgz, kk⟩ := q8 h h0; exact ⟨g, e, hgz, kk.grows hg⟩), h5, h6, h9⟩⟩
  · intro vs
    simp only [Act.put, List.setIfInBounds_toArray, List.set_cons_succ, List.set_cons_zero]
    rfl
  refine gen_cons (A' := ?_) (fun vs L w1 hL hw1 => ?_) ?_ ?_
  rotate_left 1
  · obtain ⟨q0, q1, q3, q4, q8, h5, h6, h9⟩ := HO.out _ _ _ hw1
    have n4 : L 4 = false := hL.1
    have n5 : L 5 = false := by
      cases h : L 5
      · rfl
      · rw [h5 h] at n4; cases n4
    have n6 : L 6 = false := by
      cases h : L 6
      · rfl
      · rw [h6 h] at n4; cases n4
    have n9 : L 9 = false := by
      cases h : L 9
      · rfl
      · rw [(h9 h).1] at n4; cases n4
    have l0 : L 0 = true := hL.need 0 (by kernel_rfl)
    have e0 := q1 0 _ rfl l0
    have l3 : L 3 = true := hL.need 3 (by kernel_rfl)
    obtain ⟨A7, c7, e3, -, s7⟩ := q3 l3 n4
    refine gen_plain rfl ?_
    simp only [e0, e3]
    go_simp
    refine gr_call ?_
    refine (union_is A3 c3 s A7 c7 i s w1 (hs.grows q0) (by omega) s7 (by omega) HU3.out).mono ?_
    rintro e w2 ⟨⟨v, rfl, A6, c6, rfl, hc6, s6⟩, hg⟩
    exact ⟨_, rfl, HI.out _ _ _ ⟨below_grows q0 (Nat.le_refl _) hg, kn_free q1 rfl, (fun _ h => by cases h), (fun _ => ⟨A6, c6, rfl, hc6, s6, (fun h => by rw [show L 5 = true from h] at n5; cases n5), (fun h => by rw [show L 6 = true from h] at n6; cases n6), (fun h => by rw [show L 9 = true from h] at n9; cases n9)⟩), (fun h h0 => by obtain ⟨g, e, hgz, kk⟩ := q8 h h0; exact ⟨g, e, hgz, kk.grows hg⟩), (fun _ => rfl), (fun _ => rfl), (fun h => by rw [show L 9 = true from h] at n9; cases n9)⟩⟩
  · intro vs
    simp only [Act.put, List.setIfInBounds_toArray, List.set_cons_succ, List.set_cons_zero]
    rfl
  refine gen_cons (A' := ?_) (fun vs L w1 hL hw1 => ?_) ?_ ?_
  rotate_left 1
  · obtain ⟨q0, q1, q3, q4, q8, h5, h6, h9⟩ := HO.out _ _ _ hw1
    have l4 : L 4 = true := hL.need 4 (by kernel_rfl)
    obtain ⟨A6, c6, e4, hc6, s6, y5, y6, y9⟩ := q4 l4
    refine gen_plain rfl ?_
    simp only [e4]
    go_simp
    exact gr_val (HI.out _ _ _ ⟨q0, kn_free q1 rfl, q3, (fun _ => ⟨A6, c6, e4, hc6, s6, (fun _ => rfl), y6, y9⟩), q8, (fun _ => l4), h6, h9⟩)
  · intro vs
    simp only [Act.put, List.setIfInBounds_toArray, List.set_cons_succ, List.set_cons_zero]
    rfl
  refine gen_cons (A' := ?_) (fun vs L w1 hL hw1 => ?_) ?_ ?_
  rotate_left 1
  · obtain ⟨q0, q1, q3, q4, q8, h5, h6, h9⟩ := HO.out _ _ _ hw1
    have l5 : L 5 = true := hL.need 5 (by kernel_rfl)
    have l4 := h5 l5
    obtain ⟨A6, c6, e4, hc6, s6, y5, y6, y9⟩ := q4 l4
    have e5 := y5 l5
    refine gen_plain rfl ?_
    simp only [e5]
    go_simp
    exact gr_val (HI.out _ _ _ ⟨q0, kn_free q1 rfl, q3, (fun _ => ⟨A6, c6, e4, hc6, s6, y5, (fun _ => rfl), y9⟩), q8, h5, (fun _ => l4), h9⟩)
  · intro vs
    simp only [Act.put, List.setIfInBounds_toArray, List.set_cons_succ, List.set_cons_zero]
    rfl
  refine gen_cons (A' := ?_) (fun vs L w1 hL hw1 => ?_) ?_ ?_
  rotate_left 1
  · obtain ⟨q0, q1, q3, q4, q8, h5, h6, h9⟩ := HO.out _ _ _ hw1
    have l5 : L 5 = true := hL.need 5 (by kernel_rfl)
    have l4 := h5 l5
    obtain ⟨A6, c6, e4, hc6, s6, y5, y6, y9⟩ := q4 l4
    have e5 := y5 l5
    refine gen_plain rfl ?_
    simp only [e5]
    go_simp
    exact gr_val (HI.out _ _ _ ⟨q0, kn_known q1 rfl, q3, q4, q8, h5, h6, h9⟩)
  · intro vs
    simp only [Act.put, List.setIfInBounds_toArray, List.set_cons_succ, List.set_cons_zero]
    rfl
  refine gen_cons (A' := ?_) (fun vs L w1 hL hw1 => ?_) ?_ ?_
  rotate_left 1
  · obtain ⟨q0, q1, q3, q4, q8, h5, h6, h9⟩ := HO.out _ _ _ hw1
    have n8 : L 8 = false := hL.1
    have n9 : L 9 = false := by
      cases h : L 9
      · rfl
      · rw [(h9 h).2] at n8; cases n8
    refine gen_plain rfl ?_
    go_simp
    have hg := (Below.refl w1.heap.size w1).alloc (Nat.le_refl _) (Obj.cells #[.slice none 0 0] 24)
    exact gr_val (HI.out _ _ _ ⟨below_grows q0 (Nat.le_refl _) hg, kn_free q1 rfl, (fun h h0 => (q3 h h0).grows hg), (fun h => by obtain ⟨A6, c6, e, hc, s, y5, y6, y9⟩ := q4 h; exact ⟨A6, c6, e, hc, s.grows hg, y5, y6, fun h => by rw [show L 9 = true from h] at n9; cases n9⟩), (fun _ _ => ⟨_, rfl, q0.size, Blk.new _ _ _⟩), h5, h6, (fun h => by rw [show L 9 = true from h] at n9; cases n9)⟩)
  · intro vs
    simp only [Act.put, List.setIfInBounds_toArray, List.set_cons_succ, List.set_cons_zero]
    rfl
  refine gen_cons (A' := ?_) (fun vs L w1 hL hw1 => ?_) ?_ ?_
  rotate_left 1
  · obtain ⟨q0, q1, q3, q4, q8, h5, h6, h9⟩ := HO.out _ _ _ hw1
    have n9 : L 9 = false := hL.1
    have l6 : L 6 = true := hL.need 6 (by kernel_rfl)
    have l8 : L 8 = true := hL.need 8 (by kernel_rfl)
    have l4 := h6 l6
    obtain ⟨A6, c6, e4, hc6, s6, y5, y6, y9⟩ := q4 l4
    have e6 := y6 l6
    obtain ⟨g, e8, hgz, kc⟩ := q8 l8 n9
    have x4 := kc.cell 0
    have f4 := kc.frozen 0
    refine gen_plain rfl ?_
    simp only [e6, e8]
    go_simp
    have kc2 := kc.set_ 0 (.slice A6 s.length c6)
    refine gr_skip (HI.out _ _ _ ⟨q0.setCell hgz _, kn_free q1 rfl, (fun _ h => by rw [show L 4 = false from h] at l4; cases l4), (fun _ => ⟨A6, c6, e4, hc6, s6.setOther kc _, y5, y6, fun _ => ⟨g, e8, kc2⟩⟩), (fun _ h => by cases h), h5, h6, (fun _ => ⟨l4, l8⟩)⟩)
  · intro vs
    simp only [Act.put, List.setIfInBounds_toArray, List.set_cons_succ, List.set_cons_zero]
    rfl
  refine gen_cons (A' := ?_) (fun vs L w1 hL hw1 => ?_) ?_ ?_
  rotate_left 1
  · obtain ⟨q0, q1, q3, q4, q8, h5, h6, h9⟩ := HO.out _ _ _ hw1
    have l7 : L 7 = true := hL.need 7 (by kernel_rfl)
    have e7 := q1 7 _ rfl l7
    refine gen_plain rfl ?_
    simp only [e7]
    go_simp
    exact gr_val (HI.out _ _ _ ⟨q0, kn_known q1 rfl, q3, q4, q8, h5, h6, h9⟩)
  · intro vs
    simp only [Act.put, List.setIfInBounds_toArray, List.set_cons_succ, List.set_cons_zero]
    rfl
  refine gen_nil ?_
  intro vs L W6 hall hS
  obtain ⟨hq, q1, -, q4, -, -, -, -⟩ := HO.out _ _ _ hS
  have e10 := q1 10 _ rfl (hall 10 (by simp))
  obtain ⟨A14, c14, -, -, hx, -, -, y9⟩ := q4 (hall 4 (by simp))
  obtain ⟨G14, e8, k14⟩ := y9 (hall 9 (by simp))
  clear hall hS HI HO q1 q4 y9
  simp only [e8, e10]
  replace hB := below_grows hB (Nat.le_refl _) hq
  replace k5 := k5.grows hq
  replace k6 := k6.grows hq
  replace k7 := k7.grows hq
  replace hs := hs.grows hq
  replace ht := ht.grows hq
  replace hr := hr.grows hq
  replace k10 := k10.grows hq
  replace k12 := k12.grows hq
  replace hab := hab.grows hq
  replace hba := hba.grows hq
  clear hq e8 e10
  generalize vs 0 = y0 at *
  generalize vs (0 + 1) = y1 at *
  generalize vs (0 + 1 + 1) = y2 at *
  generalize vs (0 + 1 + 1 + 1) = y3 at *
  generalize vs (0 + 1 + 1 + 1 + 1) = y4 at *
  generalize vs (0 + 1 + 1 + 1 + 1 + 1) = y5 at *
  generalize vs (0 + 1 + 1 + 1 + 1 + 1 + 1) = y6 at *
  generalize vs (0 + 1 + 1 + 1 + 1 + 1 + 1 + 1) = y7 at *
  clear vs
  have x0 := k10.cell 0
  have x1 := k7.cell 0
  go_wp2_with fail
  refine (union_is A10 c10 ab A5 c5 r abc _ hab (by omega) hr (by omega) HU4.out).mono ?_
  rintro e Wa ⟨⟨v, rfl, A16, c16, rfl, -, habc⟩, hq⟩
  clear x0 x1
  replace hB := below_grows hB (Nat.le_refl _) hq
  replace k5 := k5.grows hq
  replace k6 := k6.grows hq
  replace k7 := k7.grows hq
  replace hs := hs.grows hq
  replace ht := ht.grows hq
  replace hr := hr.grows hq
  replace k10 := k10.grows hq
  replace k12 := k12.grows hq
  replace k14 := k14.grows hq
  replace hab := hab.grows hq
  replace hba := hba.grows hq
  replace hx := hx.grows hq
  clear hq
  have k16 := Blk.new Wa 24 #[.slice A16 abc.length c16]
  have hq := (Below.refl Wa.heap.size Wa).alloc (Nat.le_refl _) (Obj.cells #[.slice A16 abc.length c16] 24)
  replace hB := below_grows hB (Nat.le_refl _) hq
  replace k5 := k5.grows hq
  replace k6 := k6.grows hq
  replace k7 := k7.grows hq
  replace hs := hs.grows hq
  replace ht := ht.grows hq
  replace hr := hr.grows hq
  replace k10 := k10.grows hq
  replace k12 := k12.grows hq
  replace k14 := k14.grows hq
  replace hab := hab.grows hq
  replace hba := hba.grows hq
  replace hx := hx.grows hq
  replace habc := habc.grows hq
  clear hq
  go_upto_region 8 with fail
  generalize World.alloc Wa _ = Wb at *
  generalize Wa.heap.size = G16 at *
  clear Wa
  have x0 := k6.cell 0
  have x1 := k7.cell 0
  go_wp2_with fail
  refine (union_is A4 c4 t A5 c5 r bc _ ht (by omega) hr (by omega) HU5.out).mono ?_
  rintro e Wa ⟨⟨v, rfl, A18, c18, rfl, -, hbc⟩, hq⟩
  clear x0 x1
  replace hB := below_grows hB (Nat.le_refl _) hq
  replace k5 := k5.grows hq
  replace k6 := k6.grows hq
  replace k7 := k7.grows hq
  replace hs := hs.grows hq
  replace ht := ht.grows hq
  replace hr := hr.grows hq
  replace k10 := k10.grows hq
  replace k12 := k12.grows hq
  replace k14 := k14.grows hq
  replace k16 := k16.grows hq
  replace hab := hab.grows hq
  replace hba := hba.grows hq
  replace hx := hx.grows hq
  replace habc := habc.grows hq
  clear hq
  have k18 := Blk.new Wa 24 #[.slice A18 bc.length c18]
  have hq := (Below.refl Wa.heap.size Wa).alloc (Nat.le_refl _) (Obj.cells #[.slice A18 bc.length c18] 24)
  replace hB := below_grows hB (Nat.le_refl _) hq
  replace k5 := k5.grows hq
  replace k6 := k6.grows hq
  replace k7 := k7.grows hq
  replace hs := hs.grows hq
  replace ht := ht.grows hq
  replace hr := hr.grows hq
  replace k10 := k10.grows hq
  replace k12 := k12.grows hq
  replace k14 := k14.grows hq
  replace k16 := k16.grows hq
  replace hab := hab.grows hq
  replace hba := hba.grows hq
  replace hx := hx.grows hq
  replace habc := habc.grows hq
  replace hbc := hbc.grows hq
  clear hq
  go_upto_region 9 with fail
  generalize World.alloc Wa _ = Wb at *
  generalize Wa.heap.size = G18 at *
  clear Wa
  have x0 := k5.cell 0
  have x1 := k18.cell 0
  go_wp2_with fail
  refine (union_is A3 c3 s A18 c18 bc abc _ hs (by omega) hbc (by omega) HU6.out).mono ?_
  rintro e Wa ⟨⟨v, rfl, A20, c20, rfl, -, hcba⟩, hq⟩
  clear x0 x1
  replace hB := below_grows hB (Nat.le_refl _) hq
  replace k5 := k5.grows hq
  replace k6 := k6.grows hq
  replace k7 := k7.grows hq
  replace hs := hs.grows hq
  replace ht := ht.grows hq
  replace hr := hr.grows hq
  replace k10 := k10.grows hq
  replace k12 := k12.grows hq
  replace k14 := k14.grows hq
  replace k16 := k16.grows hq
  replace k18 := k18.grows hq
  replace hab := hab.grows hq
  replace hba := hba.grows hq
  replace hx := hx.grows hq
  replace habc := habc.grows hq
  replace hbc := hbc.grows hq
  clear hq
  have k20 := Blk.new Wa 24 #[.slice A20 abc.length c20]
  have hq := (Below.refl Wa.heap.size Wa).alloc (Nat.le_refl _) (Obj.cells #[.slice A20 abc.length c20] 24)
  replace hB := below_grows hB (Nat.le_refl _) hq
  replace k5 := k5.grows hq
  replace k6 := k6.grows hq
  replace k7 := k7.grows hq
  replace hs := hs.grows hq
  replace ht := ht.grows hq
  replace hr := hr.grows hq
  replace k10 := k10.grows hq
  replace k12 := k12.grows hq
  replace k14 := k14.grows hq
  replace k16 := k16.grows hq
  replace k18 := k18.grows hq
  replace hab := hab.grows hq
  replace hba := hba.grows hq
  replace hx := hx.grows hq
  replace habc := habc.grows hq
  replace hbc := hbc.grows hq
  replace hcba := hcba.grows hq
  clear hq
  go_upto_region 10 with fail
  generalize World.alloc Wa _ = Wb at *
  generalize Wa.heap.size = G20 at *
  clear Wa
  clear HU1 HU2 HU3 HU4 HU5 HU6
  obtain ⟨S, HI, HO⟩ : ∃ S : Ran → (Nat → Value) → World → Prop, Hid (∀ L vs w', (Grows Wb w' ∧ KnS [some (.int .i64 0), some (.bool true), some (.bool true), some (.int .i64 0), some (.bool true), some (.bool true), some (.bool true), some (.int .i64 0), some (.bool true), some (.bool true), some (.bool true), some (.int .i64 0), some (.bool true), some (.bool true), some (.bool true), some (.int .i64 0), some (.bool true), some (.bool true), some (.bool true), some (.int .i64 0), some (.bool true), some (.bool true), some (.bool true), some (.agg #[.slice A10 ab.length c10]), some (.agg #[.slice A12 ab.length c12]), some (.bool true), some (.bool true), some (.bool true), some (.agg #[.slice A14 s.length c14]), some (.agg #[.slice A3 s.length c3]), some (.bool true), some (.bool true), some (.bool true), some (.agg #[.slice A16 abc.length c16]), some (.agg #[.slice A20 abc.length c20]), some (.bool true), some (.bool true), some (.bool true), some (.agg #[.slice A3 s.length c3]), some (.agg #[.slice A4 t.length c4]), none, some (.agg #[.slice A4 t.length c4]), some (.agg #[.slice A3 s.length c3]), none, some (.bool true), some (.bool true), some (.bool true), some (.agg #[.slice A3 s.length c3]), some (.agg #[.slice A10 ab.length c10]), none, some (.agg #[.slice A3 s.length c3]), some (.bool true), some (.bool true), some (.bool true), some (.agg #[.slice A3 s.length c3]), some (.agg #[.slice A3 s.length c3]), none, some (.agg #[.slice A3 s.length c3]), some (.bool true), some (.bool true), some (.bool true), some (.agg #[.slice A3 s.length c3]), some (.agg #[.slice A4 t.length c4]), none, some (.agg #[.slice A5 r.length c5]), none, some (.agg #[.slice A3 s.length c3]), some (.agg #[.slice A4 t.length c4]), some (.agg #[.slice A5 r.length c5]), none, none, some (.bool true), some (.bool true), some (.bool true)] L vs ∧ DsS [none, none, none, none, none, none, none, none, none, none, none, none, none, none, none, none, none, none, none, none, none, none, none, none, none, none, none, none, none, none, none, none, none, none, none, none, none, none, none, none, some (gSet i), none, none, some (gSet i), none, none, none, none, none, some (gSet s), none, none, none, none, none, none, some (gSet s), none, none, none, none, none, none, some (gSet i), none, some (gSet ir), none, none, none, some (gSet tr), some (gSet ir), none, none, none] L vs w') → S L vs w') ∧ Hid (∀ L vs w', S L vs w' → (Grows Wb w' ∧ KnS [some (.int .i64 0), some (.bool true), some (.bool true), some (.int .i64 0), some (.bool true), some (.bool true), some (.bool true), some (.int .i64 0), some (.bool true), some (.bool true), some (.bool true), some (.int .i64 0), some (.bool true), some (.bool true), some (.bool true), some (.int .i64 0), some (.bool true), some (.bool true), some (.bool true), some (.int .i64 0), some (.bool true), some (.bool true), some (.bool true), some (.agg #[.slice A10 ab.length c10]), some (.agg #[.slice A12 ab.length c12]), some (.bool true), some (.bool true), some (.bool true), some (.agg #[.slice A14 s.length c14]), some (.agg #[.slice A3 s.length c3]), some (.bool true), some (.bool true), some (.bool true), some (.agg #[.slice A16 abc.length c16]), some (.agg #[.slice A20 abc.length c20]), some (.bool true), some (.bool true), some (.bool true), some (.agg #[.slice A3 s.length c3]), some (.agg #[.slice A4 t.length c4]), none, some (.agg #[.slice A4 t.length c4]), some (.agg #[.slice A3 s.length c3]), none, some (.bool true), some (.bool true), some (.bool true), some (.agg #[.slice A3 s.length c3]), some (.agg #[.slice A10 ab.length c10]), none, some (.agg #[.slice A3 s.length c3]), some (.bool true), some (.bool true), some (.bool true), some (.agg #[.slice A3 s.length c3]), some (.agg #[.slice A3 s.length c3]), none, some (.agg #[.slice A3 s.length c3]), some (.bool true), some (.bool true), some (.bool true), some (.agg #[.slice A3 s.length c3]), some (.agg #[.slice A4 t.length c4]), none, some (.agg #[.slice A5 r.length c5]), none, some (.agg #[.slice A3 s.length c3]), some (.agg #[.slice A4 t.length c4]), some (.agg #[.slice A5 r.length c5]), none, none, some (.bool true), some (.bool true), some (.bool true)] L vs ∧ DsS [none, none, none, none, none, none, none, none, none, none, none, none, none, none, none, none, none, none, none, none, none, none, none, none, none, none, none, none, none, none, none, none, none, none, none, none, none, none, none, none, some (gSet i), none, none, some (gSet i), none, none, none, none, none, some (gSet s), none, none, none, none, none, none, some (gSet s), none, none, none, none, none, none, some (gSet i), none, some (gSet ir), none, none, none, some (gSet tr), some (gSet ir), none, none, none] L vs w')) := ⟨fun L vs w' => Grows Wb w' ∧ KnS [some (.int .i64 0), some (.bool true), some (.bool true), some (.int .i64 0), some (.bool true), some (.bool true), some (.bool true), some (.int .i64 0), some (.bool true), some (.bool true), some (.bool true), some (.int .i64 0), some (.bool true), some (.bool true), some (.bool true), some (.int .i64 0), some (.bool true), some (.bool true), some (.bool true), some (.int .i64 0), some (.bool true), some (.bool true), some (.bool true), some (.agg #[.slice A10 ab.length c10]), some (.agg #[.slice A12 ab.length c12]), some (.bool true), some (.bool true), some (.bool true), some (.agg #[.slice A14 s.length c14]), some (.agg #[.slice A3 s.length c3]), some (.bool true), some (.bool true), some (.bool true), some (.agg #[.slice A16 abc.length c16]), some (.agg #[.slice A20 abc.length c20]), some (.bool true), some (.bool true), some (.bool true), some (.agg #[.slice A3 s.length c3]), some (.agg #[.slice A4 t.length c4]), none, some (.agg #[.slice A4 t.length c4]), some (.agg #[.slice A3 s.length c3]), none, some (.bool true), some (.bool true), some (.bool true), some (.agg #[.slice A3 s.length c3]), some (.agg #[.slice A10 ab.length c10]), none, some (.agg #[.slice A3 s.length c3]), some (.bool true), some (.bool true), some (.bool true), some (.agg #[.slice A3 s.length c3]), some (.agg #[.slice A3 s.length c3]), none, some (.agg #[.slice A3 s.length c3]), some (.bool true), some (.bool true), some (.bool true), some (.agg #[.slice A3 s.length c3]), some (.agg #[.slice A4 t.length c4]), none, some (.agg #[.slice A5 r.length c5]), none, some (.agg #[.slice A3 s.length c3]), some (.agg #[.slice A4 t.length c4]), some (.agg #[.slice A5 r.length c5]), none, none, some (.bool true), some (.bool true), some (.bool true)] L vs ∧ DsS [none, none, none, none, none, none, none, none, none, none, none, none, none, none, none, none, none, none, none, none, none, none, none, none, none, none, none, none, none, none, none, none, none, none, none, none, none, none, none, none, some (gSet i), none, none, some (gSet i), none, none, none, none, none, some (gSet s), none, none, none, none, none, none, some (gSet s), none, none, none, none, none, none, some (gSet i), none, some (gSet ir), none, none, none, some (gSet tr), some (gSet ir), none, none, none] L vs w', fun _ _ _ h => h, fun _ _ _ h => h⟩
  refine wp_region_genW S 141 (by kernel_rfl) (by kernel_rfl) rfl ?_ ?_
  · exact HI.out _ _ _ ⟨Grows.drew' _, kn_none _ _, ds_none _ _ _⟩
  refine gen_cons (A' := ?_) (fun vs L w1 hL hw1 => ?_) ?_ ?_
  rotate_left 1
  · obtain ⟨q0, q1, q2⟩ := HO.out _ _ _ hw1
    refine gen_plain rfl ?_
    go_simp
    exact gr_val (HI.out _ _ _ ⟨q0, kn_known q1 rfl, ds_free q2 rfl⟩)
  · intro vs
    simp only [Act.put, List.setIfInBounds_toArray, List.set_cons_succ, List.set_cons_zero]
    rfl
  refine gen_cons (A' := ?_) (fun vs L w1 hL hw1 => ?_) ?_ ?_
  rotate_left 1
  · obtain ⟨q0, q1, q2⟩ := HO.out _ _ _ hw1
    refine gen_plain rfl ?_
    have l0 : L 0 = true := hL.need 0 (by kernel_rfl)
    have e0 := q1 0 _ rfl l0
    simp only [e0]
    go_simp
    exact gr_val (HI.out _ _ _ ⟨q0, kn_known q1 rfl, ds_free q2 rfl⟩)
  · intro vs
    simp only [Act.put, List.setIfInBounds_toArray, List.set_cons_succ, List.set_cons_zero]
    rfl
  refine gen_cons (A' := ?_) (fun vs L w1 hL hw1 => ?_) ?_ ?_
  rotate_left 1
  · obtain ⟨q0, q1, q2⟩ := HO.out _ _ _ hw1
    refine gen_plain rfl ?_
    have l1 : L 1 = true := hL.need 1 (by kernel_rfl)
    have e1 := q1 1 _ rfl l1
    simp only [e1]
    go_simp
    exact gr_val (HI.out _ _ _ ⟨q0, kn_known q1 rfl, ds_free q2 rfl⟩)
  · intro vs
    simp only [Act.put, List.setIfInBounds_toArray, List.set_cons_succ, List.set_cons_zero]
    rfl
  refine gen_cons (A' := ?_) (fun vs L w1 hL hw1 => ?_) ?_ ?_
  rotate_left 1
  · obtain ⟨q0, q1, q2⟩ := HO.out _ _ _ hw1
    have l2 : L 2 = true := hL.need 2 (by kernel_rfl)
    have e2 := q1 2 _ rfl l2
    refine gen_yes ?_ ?_
    · simp only [e2]
      rfl
    go_simp
    exact gr_val (HI.out _ _ _ ⟨q0, kn_known q1 rfl, ds_free q2 rfl⟩)
  · intro vs
    simp only [Act.put, List.setIfInBounds_toArray, List.set_cons_succ, List.set_cons_zero]
    rfl
  refine gen_cons (A' := ?_) (fun vs L w1 hL hw1 => ?_) ?_ ?_
  rotate_left 1
  · obtain ⟨q0, q1, q2⟩ := HO.out _ _ _ hw1
    have l2 : L 2 = true := hL.need 2 (by kernel_rfl)
    have e2 := q1 2 _ rfl l2
    refine gen_yes ?_ ?_
    · simp only [e2]
      rfl
    have l3 : L 3 = true := hL.need 3 (by kernel_rfl)
    have e3 := q1 3 _ rfl l3
    simp only [e3]
    go_simp
    exact gr_val (HI.out _ _ _ ⟨q0, kn_known q1 rfl, ds_free q2 rfl⟩)
  · intro vs
    simp only [Act.put, List.setIfInBounds_toArray, List.set_cons_succ, List.set_cons_zero]
    rfl
  refine gen_cons (A' := ?_) (fun vs L w1 hL hw1 => ?_) ?_ ?_
  rotate_left 1
  · obtain ⟨q0, q1, q2⟩ := HO.out _ _ _ hw1
    refine gen_plain rfl ?_
    have l2 : L 2 = true := hL.need 2 (by kernel_rfl)
    have e2 := q1 2 _ rfl l2
    have l4 : L 4 = true := hL.need 4 (by kernel_rfl)
    have e4 := q1 4 _ rfl l4
    simp only [e2, e4]
    go_simp
    exact gr_val (HI.out _ _ _ ⟨q0, kn_known q1 rfl, ds_free q2 rfl⟩)
  · intro vs
    simp only [Act.put, List.setIfInBounds_toArray, List.set_cons_succ, List.set_cons_zero]
    rfl
  refine gen_cons (A' := ?_) (fun vs L w1 hL hw1 => ?_) ?_ ?_
  rotate_left 1
  · obtain ⟨q0, q1, q2⟩ := HO.out _ _ _ hw1
    refine gen_plain rfl ?_
    have l5 : L 5 = true := hL.need 5 (by kernel_rfl)
    have e5 := q1 5 _ rfl l5
    simp only [e5]
    go_simp
    exact gr_val (HI.out _ _ _ ⟨q0, kn_known q1 rfl, ds_free q2 rfl⟩)
  · intro vs
    simp only [Act.put, List.setIfInBounds_toArray, List.set_cons_succ, List.set_cons_zero]
    rfl
  refine gen_cons (A' := ?_) (fun vs L w1 hL hw1 => ?_) ?_ ?_
  rotate_left 1
  · obtain ⟨q0, q1, q2⟩ := HO.out _ _ _ hw1
    have l6 : L 6 = true := hL.need 6 (by kernel_rfl)
    have e6 := q1 6 _ rfl l6
    refine gen_yes ?_ ?_
    · simp only [e6]
      rfl
    go_simp
    exact gr_val (HI.out _ _ _ ⟨q0, kn_known q1 rfl, ds_free q2 rfl⟩)
  · intro vs
    simp only [Act.put, List.setIfInBounds_toArray, List.set_cons_succ, List.set_cons_zero]
    rfl
  refine gen_cons (A' := ?_) (fun vs L w1 hL hw1 => ?_) ?_ ?_
  rotate_left 1
  · obtain ⟨q0, q1, q2⟩ := HO.out _ _ _ hw1
    have l6 : L 6 = true := hL.need 6 (by kernel_rfl)
    have e6 := q1 6 _ rfl l6
    refine gen_yes ?_ ?_
    · simp only [e6]
      rfl
    have l7 : L 7 = true := hL.need 7 (by kernel_rfl)
    have e7 := q1 7 _ rfl l7
    simp only [e7]
    go_simp
    exact gr_val (HI.out _ _ _ ⟨q0, kn_known q1 rfl, ds_free q2 rfl⟩)
  · intro vs
    simp only [Act.put, List.setIfInBounds_toArray, List.set_cons_succ, List.set_cons_zero]
    rfl
  refine gen_cons (A' := ?_) (fun vs L w1 hL hw1 => ?_) ?_ ?_
  rotate_left 1
  · obtain ⟨q0, q1, q2⟩ := HO.out _ _ _ hw1
    refine gen_plain rfl ?_
    have l6 : L 6 = true := hL.need 6 (by kernel_rfl)
    have e6 := q1 6 _ rfl l6
    have l8 : L 8 = true := hL.need 8 (by kernel_rfl)
    have e8 := q1 8 _ rfl l8
    simp only [e6, e8]
    go_simp
    exact gr_val (HI.out _ _ _ ⟨q0, kn_known q1 rfl, ds_free q2 rfl⟩)
  · intro vs
    simp only [Act.put, List.setIfInBounds_toArray, List.set_cons_succ, List.set_cons_zero]
    rfl
  refine gen_cons (A' := ?_) (fun vs L w1 hL hw1 => ?_) ?_ ?_
  rotate_left 1
  · obtain ⟨q0, q1, q2⟩ := HO.out _ _ _ hw1
    refine gen_plain rfl ?_
    have l9 : L 9 = true := hL.need 9 (by kernel_rfl)
    have e9 := q1 9 _ rfl l9
    simp only [e9]
    go_simp
    exact gr_val (HI.out _ _ _ ⟨q0, kn_known q1 rfl, ds_free q2 rfl⟩)
  · intro vs
    simp only [Act.put, List.setIfInBounds_toArray, List.set_cons_succ, List.set_cons_zero]
    rfl
  refine gen_cons (A' := ?_) (fun vs L w1 hL hw1 => ?_) ?_ ?_
  rotate_left 1
  · obtain ⟨q0, q1, q2⟩ := HO.out _ _ _ hw1
    have l10 : L 10 = true := hL.need 10 (by kernel_rfl)
    have e10 := q1 10 _ rfl l10
    refine gen_yes ?_ ?_
    · simp only [e10]
      rfl
    go_simp
    exact gr_val (HI.out _ _ _ ⟨q0, kn_known q1 rfl, ds_free q2 rfl⟩)
  · intro vs
    simp only [Act.put, List.setIfInBounds_toArray, List.set_cons_succ, List.set_cons_zero]
    rfl
  refine gen_cons (A' := ?_) (fun vs L w1 hL hw1 => ?_) ?_ ?_
  rotate_left 1
  · obtain ⟨q0, q1, q2⟩ := HO.out _ _ _ hw1
    have l10 : L 10 = true := hL.need 10 (by kernel_rfl)
    have e10 := q1 10 _ rfl l10
    refine gen_yes ?_ ?_
    · simp only [e10]
      rfl
    have l11 : L 11 = true := hL.need 11 (by kernel_rfl)
    have e11 := q1 11 _ rfl l11
    simp only [e11]
    go_simp
    exact gr_val (HI.out _ _ _ ⟨q0, kn_known q1 rfl, ds_free q2 rfl⟩)
  · intro vs
    simp only [Act.put, List.setIfInBounds_toArray, List.set_cons_succ, List.set_cons_zero]
    rfl
  refine gen_cons (A' := ?_) (fun vs L w1 hL hw1 => ?_) ?_ ?_
  rotate_left 1
  · obtain ⟨q0, q1, q2⟩ := HO.out _ _ _ hw1
    refine gen_plain rfl ?_
    have l10 : L 10 = true := hL.need 10 (by kernel_rfl)
    have e10 := q1 10 _ rfl l10
    have l12 : L 12 = true := hL.need 12 (by kernel_rfl)
    have e12 := q1 12 _ rfl l12
    simp only [e10, e12]
    go_simp
    exact gr_val (HI.out _ _ _ ⟨q0, kn_known q1 rfl, ds_free q2 rfl⟩)
  · intro vs
    simp only [Act.put, List.setIfInBounds_toArray, List.set_cons_succ, List.set_cons_zero]
    rfl
  refine gen_cons (A' := ?_) (fun vs L w1 hL hw1 => ?_) ?_ ?_
  rotate_left 1
  · obtain ⟨q0, q1, q2⟩ := HO.out _ _ _ hw1
    refine gen_plain rfl ?_
    have l13 : L 13 = true := hL.need 13 (by kernel_rfl)
    have e13 := q1 13 _ rfl l13
    simp only [e13]
    go_simp
    exact gr_val (HI.out _ _ _ ⟨q0, kn_known q1 rfl, ds_free q2 rfl⟩)
  · intro vs
    simp only [Act.put, List.setIfInBounds_toArray, List.set_cons_succ, List.set_cons_zero]
    rfl
  refine gen_cons (A' := ?_) (fun vs L w1 hL hw1 => ?_) ?_ ?_
  rotate_left 1
  · obtain ⟨q0, q1, q2⟩ := HO.out _ _ _ hw1
    have l14 : L 14 = true := hL.need 14 (by kernel_rfl)
    have e14 := q1 14 _ rfl l14
    refine gen_yes ?_ ?_
    · simp only [e14]
      rfl
    go_simp
    exact gr_val (HI.out _ _ _ ⟨q0, kn_known q1 rfl, ds_free q2 rfl⟩)
  · intro vs
    simp only [Act.put, List.setIfInBounds_toArray, List.set_cons_succ, List.set_cons_zero]
    rfl
  refine gen_cons (A' := ?_) (fun vs L w1 hL hw1 => ?_) ?_ ?_
  rotate_left 1
  · obtain ⟨q0, q1, q2⟩ := HO.out _ _ _ hw1
    have l14 : L 14 = true := hL.need 14 (by kernel_rfl)
    have e14 := q1 14 _ rfl l14
    refine gen_yes ?_ ?_
    · simp only [e14]
      rfl
    have l15 : L 15 = true := hL.need 15 (by kernel_rfl)
    have e15 := q1 15 _ rfl l15
    simp only [e15]
    go_simp
    exact gr_val (HI.out _ _ _ ⟨q0, kn_known q1 rfl, ds_free q2 rfl⟩)
  · intro vs
    simp only [Act.put, List.setIfInBounds_toArray, List.set_cons_succ, List.set_cons_zero]
    rfl
  refine gen_cons (A' := ?_) (fun vs L w1 hL hw1 => ?_) ?_ ?_
  rotate_left 1
  · obtain ⟨q0, q1, q2⟩ := HO.out _ _ _ hw1
    refine gen_plain rfl ?_
    have l14 : L 14 = true := hL.need 14 (by kernel_rfl)
    have e14 := q1 14 _ rfl l14
    have l16 : L 16 = true := hL.need 16 (by kernel_rfl)
    have e16 := q1 16 _ rfl l16
    simp only [e14, e16]
    go_simp
    exact gr_val (HI.out _ _ _ ⟨q0, kn_known q1 rfl, ds_free q2 rfl⟩)
  · intro vs
    simp only [Act.put, List.setIfInBounds_toArray, List.set_cons_succ, List.set_cons_zero]
    rfl
  refine gen_cons (A' := ?_) (fun vs L w1 hL hw1 => ?_) ?_ ?_
  rotate_left 1
  · obtain ⟨q0, q1, q2⟩ := HO.out _ _ _ hw1
    refine gen_plain rfl ?_
    have l17 : L 17 = true := hL.need 17 (by kernel_rfl)
    have e17 := q1 17 _ rfl l17
    simp only [e17]
    go_simp
    exact gr_val (HI.out _ _ _ ⟨q0, kn_known q1 rfl, ds_free q2 rfl⟩)
  · intro vs
    simp only [Act.put, List.setIfInBounds_toArray, List.set_cons_succ, List.set_cons_zero]
    rfl
  refine gen_cons (A' := ?_) (fun vs L w1 hL hw1 => ?_) ?_ ?_
  rotate_left 1
  · obtain ⟨q0, q1, q2⟩ := HO.out _ _ _ hw1
    have l18 : L 18 = true := hL.need 18 (by kernel_rfl)
    have e18 := q1 18 _ rfl l18
    refine gen_yes ?_ ?_
    · simp only [e18]
      rfl
    go_simp
    exact gr_val (HI.out _ _ _ ⟨q0, kn_known q1 rfl, ds_free q2 rfl⟩)
  · intro vs
    simp only [Act.put, List.setIfInBounds_toArray, List.set_cons_succ, List.set_cons_zero]
    rfl
  refine gen_cons (A' := ?_) (fun vs L w1 hL hw1 => ?_) ?_ ?_
  rotate_left 1
  · obtain ⟨q0, q1, q2⟩ := HO.out _ _ _ hw1
    have l18 : L 18 = true := hL.need 18 (by kernel_rfl)
    have e18 := q1 18 _ rfl l18
    refine gen_yes ?_ ?_
    · simp only [e18]
      rfl
    have l19 : L 19 = true := hL.need 19 (by kernel_rfl)
    have e19 := q1 19 _ rfl l19
    simp only [e19]
    go_simp
    exact gr_val (HI.out _ _ _ ⟨q0, kn_known q1 rfl, ds_free q2 rfl⟩)
  · intro vs
    simp only [Act.put, List.setIfInBounds_toArray, List.set_cons_succ, List.set_cons_zero]
    rfl
  refine gen_cons (A' := ?_) (fun vs L w1 hL hw1 => ?_) ?_ ?_
  rotate_left 1
  · obtain ⟨q0, q1, q2⟩ := HO.out _ _ _ hw1
    refine gen_plain rfl ?_
    have l18 : L 18 = true := hL.need 18 (by kernel_rfl)
    have e18 := q1 18 _ rfl l18
    have l20 : L 20 = true := hL.need 20 (by kernel_rfl)
    have e20 := q1 20 _ rfl l20
    simp only [e18, e20]
    go_simp
    exact gr_val (HI.out _ _ _ ⟨q0, kn_known q1 rfl, ds_free q2 rfl⟩)
  · intro vs
    simp only [Act.put, List.setIfInBounds_toArray, List.set_cons_succ, List.set_cons_zero]
    rfl
  refine gen_cons (A' := ?_) (fun vs L w1 hL hw1 => ?_) ?_ ?_
  rotate_left 1
  · obtain ⟨q0, q1, q2⟩ := HO.out _ _ _ hw1
    refine gen_plain rfl ?_
    have l21 : L 21 = true := hL.need 21 (by kernel_rfl)
    have e21 := q1 21 _ rfl l21
    simp only [e21]
    go_simp
    exact gr_val (HI.out _ _ _ ⟨q0, kn_known q1 rfl, ds_free q2 rfl⟩)
  · intro vs
    simp only [Act.put, List.setIfInBounds_toArray, List.set_cons_succ, List.set_cons_zero]
    rfl
  refine gen_cons (A' := ?_) (fun vs L w1 hL hw1 => ?_) ?_ ?_
  rotate_left 1
  · obtain ⟨q0, q1, q2⟩ := HO.out _ _ _ hw1
    have l22 : L 22 = true := hL.need 22 (by kernel_rfl)
    have e22 := q1 22 _ rfl l22
    refine gen_yes ?_ ?_
    · simp only [e22]
      rfl
    have x := (k10.grows q0).cell 0
    go_simp
    exact gr_val (HI.out _ _ _ ⟨q0, kn_known q1 rfl, ds_free q2 rfl⟩)
  · intro vs
    simp only [Act.put, List.setIfInBounds_toArray, List.set_cons_succ, List.set_cons_zero]
    rfl
  refine gen_cons (A' := ?_) (fun vs L w1 hL hw1 => ?_) ?_ ?_
  rotate_left 1
  · obtain ⟨q0, q1, q2⟩ := HO.out _ _ _ hw1
    have l22 : L 22 = true := hL.need 22 (by kernel_rfl)
    have e22 := q1 22 _ rfl l22
    refine gen_yes ?_ ?_
    · simp only [e22]
      rfl
    have x := (k12.grows q0).cell 0
    go_simp
    exact gr_val (HI.out _ _ _ ⟨q0, kn_known q1 rfl, ds_free q2 rfl⟩)
  · intro vs
    simp only [Act.put, List.setIfInBounds_toArray, List.set_cons_succ, List.set_cons_zero]
    rfl
  refine gen_cons (A' := ?_) (fun vs L w1 hL hw1 => ?_) ?_ ?_
  rotate_left 1
  · obtain ⟨q0, q1, q2⟩ := HO.out _ _ _ hw1
    have l22 : L 22 = true := hL.need 22 (by kernel_rfl)
    have e22 := q1 22 _ rfl l22
    refine gen_yes ?_ ?_
    · simp only [e22]
      rfl
    have l23 : L 23 = true := hL.need 23 (by kernel_rfl)
    have e23 := q1 23 _ rfl l23
    have l24 : L 24 = true := hL.need 24 (by kernel_rfl)
    have e24 := q1 24 _ rfl l24
    simp only [e23, e24]
    go_simp
    refine gr_call ?_
    refine (ssame_eq A10 A12 c10 c12 ab w1 (hab.grows q0) (hba.grows q0) (by omega)).mono ?_
    rintro e w2 ⟨rfl, hg⟩
    exact ⟨_, rfl, HI.out _ _ _ ⟨below_grows q0 (Nat.le_refl _) hg, kn_known q1 rfl, ds_free (q2.grows hg) rfl⟩⟩
  · intro vs
    simp only [Act.put, List.setIfInBounds_toArray, List.set_cons_succ, List.set_cons_zero]
    rfl
  refine gen_cons (A' := ?_) (fun vs L w1 hL hw1 => ?_) ?_ ?_
  rotate_left 1
  · obtain ⟨q0, q1, q2⟩ := HO.out _ _ _ hw1
    refine gen_plain rfl ?_
    have l22 : L 22 = true := hL.need 22 (by kernel_rfl)
    have e22 := q1 22 _ rfl l22
    have l25 : L 25 = true := hL.need 25 (by kernel_rfl)
    have e25 := q1 25 _ rfl l25
    simp only [e22, e25]
    go_simp
    exact gr_val (HI.out _ _ _ ⟨q0, kn_known q1 rfl, ds_free q2 rfl⟩)
  · intro vs
    simp only [Act.put, List.setIfInBounds_toArray, List.set_cons_succ, List.set_cons_zero]
    rfl
  refine gen_cons (A' := ?_) (fun vs L w1 hL hw1 => ?_) ?_ ?_
  rotate_left 1
  · obtain ⟨q0, q1, q2⟩ := HO.out _ _ _ hw1
    refine gen_plain rfl ?_
    have l26 : L 26 = true := hL.need 26 (by kernel_rfl)
    have e26 := q1 26 _ rfl l26
    simp only [e26]
    go_simp
    exact gr_val (HI.out _ _ _ ⟨q0, kn_known q1 rfl, ds_free q2 rfl⟩)
  · intro vs
    simp only [Act.put, List.setIfInBounds_toArray, List.set_cons_succ, List.set_cons_zero]
    rfl
  refine gen_cons (A' := ?_) (fun vs L w1 hL hw1 => ?_) ?_ ?_
  rotate_left 1
  · obtain ⟨q0, q1, q2⟩ := HO.out _ _ _ hw1
    have l27 : L 27 = true := hL.need 27 (by kernel_rfl)
    have e27 := q1 27 _ rfl l27
    refine gen_yes ?_ ?_
    · simp only [e27]
      rfl
    have x := (k14.grows q0).cell 0
    go_simp
    exact gr_val (HI.out _ _ _ ⟨q0, kn_known q1 rfl, ds_free q2 rfl⟩)
  · intro vs
    simp only [Act.put, List.setIfInBounds_toArray, List.set_cons_succ, List.set_cons_zero]
    rfl
  refine gen_cons (A' := ?_) (fun vs L w1 hL hw1 => ?_) ?_ ?_
  rotate_left 1
  · obtain ⟨q0, q1, q2⟩ := HO.out _ _ _ hw1
    have l27 : L 27 = true := hL.need 27 (by kernel_rfl)
    have e27 := q1 27 _ rfl l27
    refine gen_yes ?_ ?_
    · simp only [e27]
      rfl
    have x := (k5.grows q0).cell 0
    go_simp
    exact gr_val (HI.out _ _ _ ⟨q0, kn_known q1 rfl, ds_free q2 rfl⟩)
  · intro vs
    simp only [Act.put, List.setIfInBounds_toArray, List.set_cons_succ, List.set_cons_zero]
    rfl
  refine gen_cons (A' := ?_) (fun vs L w1 hL hw1 => ?_) ?_ ?_
  rotate_left 1
  · obtain ⟨q0, q1, q2⟩ := HO.out _ _ _ hw1
    have l27 : L 27 = true := hL.need 27 (by kernel_rfl)
    have e27 := q1 27 _ rfl l27
    refine gen_yes ?_ ?_
    · simp only [e27]
      rfl
    have l28 : L 28 = true := hL.need 28 (by kernel_rfl)
    have e28 := q1 28 _ rfl l28
    have l29 : L 29 = true := hL.need 29 (by kernel_rfl)
    have e29 := q1 29 _ rfl l29
    simp only [e28, e29]
    go_simp
    refine gr_call ?_
    refine (ssame_eq A14 A3 c14 c3 s w1 (hx.grows q0) (hs.grows q0) (by omega)).mono ?_
    rintro e w2 ⟨rfl, hg⟩
    exact ⟨_, rfl, HI.out _ _ _ ⟨below_grows q0 (Nat.le_refl _) hg, kn_known q1 rfl, ds_free (q2.grows hg) rfl⟩⟩
  · intro vs
    simp only [Act.put, List.setIfInBounds_toArray, List.set_cons_succ, List.set_cons_zero]
    rfl
  refine gen_cons (A' := ?_) (fun vs L w1 hL hw1 => ?_) ?_ ?_
  rotate_left 1
  · obtain ⟨q0, q1, q2⟩ := HO.out _ _ _ hw1
    refine gen_plain rfl ?_
    have l27 : L 27 = true := hL.need 27 (by kernel_rfl)
    have e27 := q1 27 _ rfl l27
    have l30 : L 30 = true := hL.need 30 (by kernel_rfl)
    have e30 := q1 30 _ rfl l30
    simp only [e27, e30]
    go_simp
    exact gr_val (HI.out _ _ _ ⟨q0, kn_known q1 rfl, ds_free q2 rfl⟩)
  · intro vs
    simp only [Act.put, List.setIfInBounds_toArray, List.set_cons_succ, List.set_cons_zero]
    rfl
  refine gen_cons (A' := ?_) (fun vs L w1 hL hw1 => ?_) ?_ ?_
  rotate_left 1
  · obtain ⟨q0, q1, q2⟩ := HO.out _ _ _ hw1
    refine gen_plain rfl ?_
    have l31 : L 31 = true := hL.need 31 (by kernel_rfl)
    have e31 := q1 31 _ rfl l31
    simp only [e31]
    go_simp
    exact gr_val (HI.out _ _ _ ⟨q0, kn_known q1 rfl, ds_free q2 rfl⟩)
  · intro vs
    simp only [Act.put, List.setIfInBounds_toArray, List.set_cons_succ, List.set_cons_zero]
    rfl
  refine gen_cons (A' := ?_) (fun vs L w1 hL hw1 => ?_) ?_ ?_
  rotate_left 1
  · obtain ⟨q0, q1, q2⟩ := HO.out _ _ _ hw1
    have l32 : L 32 = true := hL.need 32 (by kernel_rfl)
    have e32 := q1 32 _ rfl l32
    refine gen_yes ?_ ?_
    · simp only [e32]
      rfl
    have x := (k16.grows q0).cell 0
    go_simp
    exact gr_val (HI.out _ _ _ ⟨q0, kn_known q1 rfl, ds_free q2 rfl⟩)
  · intro vs
    simp only [Act.put, List.setIfInBounds_toArray, List.set_cons_succ, List.set_cons_zero]
    rfl
  refine gen_cons (A' := ?_) (fun vs L w1 hL hw1 => ?_) ?_ ?_
  rotate_left 1
  · obtain ⟨q0, q1, q2⟩ := HO.out _ _ _ hw1
    have l32 : L 32 = true := hL.need 32 (by kernel_rfl)
    have e32 := q1 32 _ rfl l32
    refine gen_yes ?_ ?_
    · simp only [e32]
      rfl
    have x := (k20.grows q0).cell 0
    go_simp
    exact gr_val (HI.out _ _ _ ⟨q0, kn_known q1 rfl, ds_free q2 rfl⟩)
  · intro vs
    simp only [Act.put, List.setIfInBounds_toArray, List.set_cons_succ, List.set_cons_zero]
    rfl
  refine gen_cons (A' := ?_) (fun vs L w1 hL hw1 => ?_) ?_ ?_
  rotate_left 1
  · obtain ⟨q0, q1, q2⟩ := HO.out _ _ _ hw1
    have l32 : L 32 = true := hL.need 32 (by kernel_rfl)
    have e32 := q1 32 _ rfl l32
    refine gen_yes ?_ ?_
    · simp only [e32]
      rfl
    have l33 : L 33 = true := hL.need 33 (by kernel_rfl)
    have e33 := q1 33 _ rfl l33
    have l34 : L 34 = true := hL.need 34 (by kernel_rfl)
    have e34 := q1 34 _ rfl l34
    simp only [e33, e34]
    go_simp
    refine gr_call ?_
    refine (ssame_eq A16 A20 c16 c20 abc w1 (habc.grows q0) (hcba.grows q0) (by omega)).mono ?_
    rintro e w2 ⟨rfl, hg⟩
    exact ⟨_, rfl, HI.out _ _ _ ⟨below_grows q0 (Nat.le_refl _) hg, kn_known q1 rfl, ds_free (q2.grows hg) rfl⟩⟩
  · intro vs
    simp only [Act.put, List.setIfInBounds_toArray, List.set_cons_succ, List.set_cons_zero]
    rfl
  refine gen_cons (A' := ?_) (fun vs L w1 hL hw1 => ?_) ?_ ?_
  rotate_left 1
  · obtain ⟨q0, q1, q2⟩ := HO.out _ _ _ hw1
    refine gen_plain rfl ?_
    have l32 : L 32 = true := hL.need 32 (by kernel_rfl)
    have e32 := q1 32 _ rfl l32
    have l35 : L 35 = true := hL.need 35 (by kernel_rfl)
    have e35 := q1 35 _ rfl l35
    simp only [e32, e35]
    go_simp
    exact gr_val (HI.out _ _ _ ⟨q0, kn_known q1 rfl, ds_free q2 rfl⟩)
  · intro vs
    simp only [Act.put, List.setIfInBounds_toArray, List.set_cons_succ, List.set_cons_zero]
    rfl
  refine gen_cons (A' := ?_) (fun vs L w1 hL hw1 => ?_) ?_ ?_
  rotate_left 1
  · obtain ⟨q0, q1, q2⟩ := HO.out _ _ _ hw1
    refine gen_plain rfl ?_
    have l36 : L 36 = true := hL.need 36 (by kernel_rfl)
    have e36 := q1 36 _ rfl l36
    simp only [e36]
    go_simp
    exact gr_val (HI.out _ _ _ ⟨q0, kn_known q1 rfl, ds_free q2 rfl⟩)
  · intro vs
    simp only [Act.put, List.setIfInBounds_toArray, List.set_cons_succ, List.set_cons_zero]
    rfl
  refine gen_cons (A' := ?_) (fun vs L w1 hL hw1 => ?_) ?_ ?_
  rotate_left 1
  · obtain ⟨q0, q1, q2⟩ := HO.out _ _ _ hw1
    have l37 : L 37 = true := hL.need 37 (by kernel_rfl)
    have e37 := q1 37 _ rfl l37
    refine gen_yes ?_ ?_
    · simp only [e37]
      rfl
    have x := (k5.grows q0).cell 0
    go_simp
    exact gr_val (HI.out _ _ _ ⟨q0, kn_known q1 rfl, ds_free q2 rfl⟩)
  · intro vs
    simp only [Act.put, List.setIfInBounds_toArray, List.set_cons_succ, List.set_cons_zero]
    rfl
  refine gen_cons (A' := ?_) (fun vs L w1 hL hw1 => ?_) ?_ ?_
  rotate_left 1
  · obtain ⟨q0, q1, q2⟩ := HO.out _ _ _ hw1
    have l37 : L 37 = true := hL.need 37 (by kernel_rfl)
    have e37 := q1 37 _ rfl l37
    refine gen_yes ?_ ?_
    · simp only [e37]
      rfl
    have x := (k6.grows q0).cell 0
    go_simp
    exact gr_val (HI.out _ _ _ ⟨q0, kn_known q1 rfl, ds_free q2 rfl⟩)
  · intro vs
    simp only [Act.put, List.setIfInBounds_toArray, List.set_cons_succ, List.set_cons_zero]
    rfl
  refine gen_cons (A' := ?_) (fun vs L w1 hL hw1 => ?_) ?_ ?_
  rotate_left 1
  · obtain ⟨q0, q1, q2⟩ := HO.out _ _ _ hw1
    have l37 : L 37 = true := hL.need 37 (by kernel_rfl)
    have e37 := q1 37 _ rfl l37
    refine gen_yes ?_ ?_
    · simp only [e37]
      rfl
    have l38 : L 38 = true := hL.need 38 (by kernel_rfl)
    have e38 := q1 38 _ rfl l38
    have l39 : L 39 = true := hL.need 39 (by kernel_rfl)
    have e39 := q1 39 _ rfl l39
    simp only [e38, e39]
    go_simp
    refine gr_call ?_
    refine (inter_is A3 c3 s A4 c4 t i w1 (hs.grows q0) (by omega) (ht.grows q0) (by omega) HI1.out).mono ?_
    rintro e w2 ⟨⟨v, rfl, hv⟩, hg⟩
    exact ⟨_, rfl, HI.out _ _ _ ⟨below_grows q0 (Nat.le_refl _) hg, kn_free q1 rfl, ds_put (q2.grows hg) rfl (hv)⟩⟩
  · intro vs
    simp only [Act.put, List.setIfInBounds_toArray, List.set_cons_succ, List.set_cons_zero]
    rfl
  refine gen_cons (A' := ?_) (fun vs L w1 hL hw1 => ?_) ?_ ?_
  rotate_left 1
  · obtain ⟨q0, q1, q2⟩ := HO.out _ _ _ hw1
    have l37 : L 37 = true := hL.need 37 (by kernel_rfl)
    have e37 := q1 37 _ rfl l37
    refine gen_yes ?_ ?_
    · simp only [e37]
      rfl
    have x := (k6.grows q0).cell 0
    go_simp
    exact gr_val (HI.out _ _ _ ⟨q0, kn_known q1 rfl, ds_free q2 rfl⟩)
  · intro vs
    simp only [Act.put, List.setIfInBounds_toArray, List.set_cons_succ, List.set_cons_zero]
    rfl
  refine gen_cons (A' := ?_) (fun vs L w1 hL hw1 => ?_) ?_ ?_
  rotate_left 1
  · obtain ⟨q0, q1, q2⟩ := HO.out _ _ _ hw1
    have l37 : L 37 = true := hL.need 37 (by kernel_rfl)
    have e37 := q1 37 _ rfl l37
    refine gen_yes ?_ ?_
    · simp only [e37]
      rfl
    have x := (k5.grows q0).cell 0
    go_simp
    exact gr_val (HI.out _ _ _ ⟨q0, kn_known q1 rfl, ds_free q2 rfl⟩)
  · intro vs
    simp only [Act.put, List.setIfInBounds_toArray, List.set_cons_succ, List.set_cons_zero]
    rfl
  refine gen_cons (A' := ?_) (fun vs L w1 hL hw1 => ?_) ?_ ?_
  rotate_left 1
  · obtain ⟨q0, q1, q2⟩ := HO.out _ _ _ hw1
    have l37 : L 37 = true := hL.need 37 (by kernel_rfl)
    have e37 := q1 37 _ rfl l37
    refine gen_yes ?_ ?_
    · simp only [e37]
      rfl
    have l41 : L 41 = true := hL.need 41 (by kernel_rfl)
    have e41 := q1 41 _ rfl l41
    have l42 : L 42 = true := hL.need 42 (by kernel_rfl)
    have e42 := q1 42 _ rfl l42
    simp only [e41, e42]
    go_simp
    refine gr_call ?_
    refine (inter_is A4 c4 t A3 c3 s i w1 (ht.grows q0) (by omega) (hs.grows q0) (by omega) HI2.out).mono ?_
    rintro e w2 ⟨⟨v, rfl, hv⟩, hg⟩
    exact ⟨_, rfl, HI.out _ _ _ ⟨below_grows q0 (Nat.le_refl _) hg, kn_free q1 rfl, ds_put (q2.grows hg) rfl (hv)⟩⟩
  · intro vs
    simp only [Act.put, List.setIfInBounds_toArray, List.set_cons_succ, List.set_cons_zero]
    rfl
  refine gen_cons (A' := ?_) (fun vs L w1 hL hw1 => ?_) ?_ ?_
  rotate_left 1
  · obtain ⟨q0, q1, q2⟩ := HO.out _ _ _ hw1
    have l37 : L 37 = true := hL.need 37 (by kernel_rfl)
    have e37 := q1 37 _ rfl l37
    refine gen_yes ?_ ?_
    · simp only [e37]
      rfl
    have l40 : L 40 = true := hL.need 40 (by kernel_rfl)
    obtain ⟨A40, c40, e40, -, s40⟩ := q2 40 _ rfl l40
    have l43 : L 43 = true := hL.need 43 (by kernel_rfl)
    obtain ⟨A43, c43, e43, -, s43⟩ := q2 43 _ rfl l43
    simp only [e40, e43]
    go_simp
    refine gr_call ?_
    refine (ssame_eq A40 A43 c40 c43 i w1 s40 s43 (by omega)).mono ?_
    rintro e w2 ⟨rfl, hg⟩
    exact ⟨_, rfl, HI.out _ _ _ ⟨below_grows q0 (Nat.le_refl _) hg, kn_known q1 rfl, ds_free (q2.grows hg) rfl⟩⟩
  · intro vs
    simp only [Act.put, List.setIfInBounds_toArray, List.set_cons_succ, List.set_cons_zero]
    rfl
  refine gen_cons (A' := ?_) (fun vs L w1 hL hw1 => ?_) ?_ ?_
  rotate_left 1
  · obtain ⟨q0, q1, q2⟩ := HO.out _ _ _ hw1
    refine gen_plain rfl ?_
    have l37 : L 37 = true := hL.need 37 (by kernel_rfl)
    have e37 := q1 37 _ rfl l37
    have l44 : L 44 = true := hL.need 44 (by kernel_rfl)
    have e44 := q1 44 _ rfl l44
    simp only [e37, e44]
    go_simp
    exact gr_val (HI.out _ _ _ ⟨q0, kn_known q1 rfl, ds_free q2 rfl⟩)
  · intro vs
    simp only [Act.put, List.setIfInBounds_toArray, List.set_cons_succ, List.set_cons_zero]
    rfl
  refine gen_cons (A' := ?_) (fun vs L w1 hL hw1 => ?_) ?_ ?_
  rotate_left 1
  · obtain ⟨q0, q1, q2⟩ := HO.out _ _ _ hw1
    refine gen_plain rfl ?_
    have l45 : L 45 = true := hL.need 45 (by kernel_rfl)
    have e45 := q1 45 _ rfl l45
    simp only [e45]
    go_simp
    exact gr_val (HI.out _ _ _ ⟨q0, kn_known q1 rfl, ds_free q2 rfl⟩)
  · intro vs
    simp only [Act.put, List.setIfInBounds_toArray, List.set_cons_succ, List.set_cons_zero]
    rfl
  refine gen_cons (A' := ?_) (fun vs L w1 hL hw1 => ?_) ?_ ?_
  rotate_left 1
  · obtain ⟨q0, q1, q2⟩ := HO.out _ _ _ hw1
    have l46 : L 46 = true := hL.need 46 (by kernel_rfl)
    have e46 := q1 46 _ rfl l46
    refine gen_yes ?_ ?_
    · simp only [e46]
      rfl
    have x := (k5.grows q0).cell 0
    go_simp
    exact gr_val (HI.out _ _ _ ⟨q0, kn_known q1 rfl, ds_free q2 rfl⟩)
  · intro vs
    simp only [Act.put, List.setIfInBounds_toArray, List.set_cons_succ, List.set_cons_zero]
    rfl
  refine gen_cons (A' := ?_) (fun vs L w1 hL hw1 => ?_) ?_ ?_
  rotate_left 1
  · obtain ⟨q0, q1, q2⟩ := HO.out _ _ _ hw1
    have l46 : L 46 = true := hL.need 46 (by kernel_rfl)
    have e46 := q1 46 _ rfl l46
    refine gen_yes ?_ ?_
    · simp only [e46]
      rfl
    have x := (k10.grows q0).cell 0
    go_simp
    exact gr_val (HI.out _ _ _ ⟨q0, kn_known q1 rfl, ds_free q2 rfl⟩)
  · intro vs
    simp only [Act.put, List.setIfInBounds_toArray, List.set_cons_succ, List.set_cons_zero]
    rfl
  refine gen_cons (A' := ?_) (fun vs L w1 hL hw1 => ?_) ?_ ?_
  rotate_left 1
  · obtain ⟨q0, q1, q2⟩ := HO.out _ _ _ hw1
    have l46 : L 46 = true := hL.need 46 (by kernel_rfl)
    have e46 := q1 46 _ rfl l46
    refine gen_yes ?_ ?_
    · simp only [e46]
      rfl
    have l47 : L 47 = true := hL.need 47 (by kernel_rfl)
    have e47 := q1 47 _ rfl l47
    have l48 : L 48 = true := hL.need 48 (by kernel_rfl)
    have e48 := q1 48 _ rfl l48
    simp only [e47, e48]
    go_simp
    refine gr_call ?_
    refine (inter_is A3 c3 s A10 c10 ab s w1 (hs.grows q0) (by omega) (hab.grows q0) (by omega) HI3.out).mono ?_
    rintro e w2 ⟨⟨v, rfl, hv⟩, hg⟩
    exact ⟨_, rfl, HI.out _ _ _ ⟨below_grows q0 (Nat.le_refl _) hg, kn_free q1 rfl, ds_put (q2.grows hg) rfl (hv)⟩⟩
  · intro vs
    simp only [Act.put, List.setIfInBounds_toArray, List.set_cons_succ, List.set_cons_zero]
    rfl
  refine gen_cons (A' := ?_) (fun vs L w1 hL hw1 => ?_) ?_ ?_
  rotate_left 1
  · obtain ⟨q0, q1, q2⟩ := HO.out _ _ _ hw1
    have l46 : L 46 = true := hL.need 46 (by kernel_rfl)
    have e46 := q1 46 _ rfl l46
    refine gen_yes ?_ ?_
    · simp only [e46]
      rfl
    have x := (k5.grows q0).cell 0
    go_simp
    exact gr_val (HI.out _ _ _ ⟨q0, kn_known q1 rfl, ds_free q2 rfl⟩)
  · intro vs
    simp only [Act.put, List.setIfInBounds_toArray, List.set_cons_succ, List.set_cons_zero]
    rfl
  refine gen_cons (A' := ?_) (fun vs L w1 hL hw1 => ?_) ?_ ?_
  rotate_left 1
  · obtain ⟨q0, q1, q2⟩ := HO.out _ _ _ hw1
    have l46 : L 46 = true := hL.need 46 (by kernel_rfl)
    have e46 := q1 46 _ rfl l46
    refine gen_yes ?_ ?_
    · simp only [e46]
      rfl
    have l49 : L 49 = true := hL.need 49 (by kernel_rfl)
    obtain ⟨A49, c49, e49, -, s49⟩ := q2 49 _ rfl l49
    have l50 : L 50 = true := hL.need 50 (by kernel_rfl)
    have e50 := q1 50 _ rfl l50
    simp only [e49, e50]
    go_simp
    refine gr_call ?_
    refine (ssame_eq A49 A3 c49 c3 s w1 s49 (hs.grows q0) (by omega)).mono ?_
    rintro e w2 ⟨rfl, hg⟩
    exact ⟨_, rfl, HI.out _ _ _ ⟨below_grows q0 (Nat.le_refl _) hg, kn_known q1 rfl, ds_free (q2.grows hg) rfl⟩⟩
  · intro vs
    simp only [Act.put, List.setIfInBounds_toArray, List.set_cons_succ, List.set_cons_zero]
    rfl
  refine gen_cons (A' := ?_) (fun vs L w1 hL hw1 => ?_) ?_ ?_
  rotate_left 1
  · obtain ⟨q0, q1, q2⟩ := HO.out _ _ _ hw1
    refine gen_plain rfl ?_
    have l46 : L 46 = true := hL.need 46 (by kernel_rfl)
    have e46 := q1 46 _ rfl l46
    have l51 : L 51 = true := hL.need 51 (by kernel_rfl)
    have e51 := q1 51 _ rfl l51
    simp only [e46, e51]
    go_simp
    exact gr_val (HI.out _ _ _ ⟨q0, kn_known q1 rfl, ds_free q2 rfl⟩)
  · intro vs
    simp only [Act.put, List.setIfInBounds_toArray, List.set_cons_succ, List.set_cons_zero]
    rfl
  refine gen_cons (A' := ?_) (fun vs L w1 hL hw1 => ?_) ?_ ?_
  rotate_left 1
  · obtain ⟨q0, q1, q2⟩ := HO.out _ _ _ hw1
    refine gen_plain rfl ?_
    have l52 : L 52 = true := hL.need 52 (by kernel_rfl)
    have e52 := q1 52 _ rfl l52
    simp only [e52]
    go_simp
    exact gr_val (HI.out _ _ _ ⟨q0, kn_known q1 rfl, ds_free q2 rfl⟩)
  · intro vs
    simp only [Act.put, List.setIfInBounds_toArray, List.set_cons_succ, List.set_cons_zero]
    rfl
  refine gen_cons (A' := ?_) (fun vs L w1 hL hw1 => ?_) ?_ ?_
  rotate_left 1
  · obtain ⟨q0, q1, q2⟩ := HO.out _ _ _ hw1
    have l53 : L 53 = true := hL.need 53 (by kernel_rfl)
    have e53 := q1 53 _ rfl l53
    refine gen_yes ?_ ?_
    · simp only [e53]
      rfl
    have x := (k5.grows q0).cell 0
    go_simp
    exact gr_val (HI.out _ _ _ ⟨q0, kn_known q1 rfl, ds_free q2 rfl⟩)
  · intro vs
    simp only [Act.put, List.setIfInBounds_toArray, List.set_cons_succ, List.set_cons_zero]
    rfl
  refine gen_cons (A' := ?_) (fun vs L w1 hL hw1 => ?_) ?_ ?_
  rotate_left 1
  · obtain ⟨q0, q1, q2⟩ := HO.out _ _ _ hw1
    have l53 : L 53 = true := hL.need 53 (by kernel_rfl)
    have e53 := q1 53 _ rfl l53
    refine gen_yes ?_ ?_
    · simp only [e53]
      rfl
    have x := (k5.grows q0).cell 0
    go_simp
    exact gr_val (HI.out _ _ _ ⟨q0, kn_known q1 rfl, ds_free q2 rfl⟩)
  · intro vs
    simp only [Act.put, List.setIfInBounds_toArray, List.set_cons_succ, List.set_cons_zero]
    rfl
  refine gen_cons (A' := ?_) (fun vs L w1 hL hw1 => ?_) ?_ ?_
  rotate_left 1
  · obtain ⟨q0, q1, q2⟩ := HO.out _ _ _ hw1
    have l53 : L 53 = true := hL.need 53 (by kernel_rfl)
    have e53 := q1 53 _ rfl l53
    refine gen_yes ?_ ?_
    · simp only [e53]
      rfl
    have l54 : L 54 = true := hL.need 54 (by kernel_rfl)
    have e54 := q1 54 _ rfl l54
    have l55 : L 55 = true := hL.need 55 (by kernel_rfl)
    have e55 := q1 55 _ rfl l55
    simp only [e54, e55]
    go_simp
    refine gr_call ?_
    refine (inter_is A3 c3 s A3 c3 s s w1 (hs.grows q0) (by omega) (hs.grows q0) (by omega) HI4.out).mono ?_
    rintro e w2 ⟨⟨v, rfl, hv⟩, hg⟩
    exact ⟨_, rfl, HI.out _ _ _ ⟨below_grows q0 (Nat.le_refl _) hg, kn_free q1 rfl, ds_put (q2.grows hg) rfl (hv)⟩⟩
  · intro vs
    simp only [Act.put, List.setIfInBounds_toArray, List.set_cons_succ, List.set_cons_zero]
    rfl
  refine gen_cons (A' := ?_) (fun vs L w1 hL hw1 => ?_) ?_ ?_
  rotate_left 1
  · obtain ⟨q0, q1, q2⟩ := HO.out _ _ _ hw1
    have l53 : L 53 = true := hL.need 53 (by kernel_rfl)
    have e53 := q1 53 _ rfl l53
    refine gen_yes ?_ ?_
    · simp only [e53]
      rfl
    have x := (k5.grows q0).cell 0
    go_simp
    exact gr_val (HI.out _ _ _ ⟨q0, kn_known q1 rfl, ds_free q2 rfl⟩)
  · intro vs
    simp only [Act.put, List.setIfInBounds_toArray, List.set_cons_succ, List.set_cons_zero]
    rfl
  refine gen_cons (A' := ?_) (fun vs L w1 hL hw1 => ?_) ?_ ?_
  rotate_left 1
  · obtain ⟨q0, q1, q2⟩ := HO.out _ _ _ hw1
    have l53 : L 53 = true := hL.need 53 (by kernel_rfl)
    have e53 := q1 53 _ rfl l53
    refine gen_yes ?_ ?_
    · simp only [e53]
      rfl
    have l56 : L 56 = true := hL.need 56 (by kernel_rfl)
    obtain ⟨A56, c56, e56, -, s56⟩ := q2 56 _ rfl l56
    have l57 : L 57 = true := hL.need 57 (by kernel_rfl)
    have e57 := q1 57 _ rfl l57
    simp only [e56, e57]
    go_simp
    refine gr_call ?_
    refine (ssame_eq A56 A3 c56 c3 s w1 s56 (hs.grows q0) (by omega)).mono ?_
    rintro e w2 ⟨rfl, hg⟩
    exact ⟨_, rfl, HI.out _ _ _ ⟨below_grows q0 (Nat.le_refl _) hg, kn_known q1 rfl, ds_free (q2.grows hg) rfl⟩⟩
  · intro vs
    simp only [Act.put, List.setIfInBounds_toArray, List.set_cons_succ, List.set_cons_zero]
    rfl
  refine gen_cons (A' := ?_) (fun vs L w1 hL hw1 => ?_) ?_ ?_
  rotate_left 1
  · obtain ⟨q0, q1, q2⟩ := HO.out _ _ _ hw1
    refine gen_plain rfl ?_
    have l53 : L 53 = true := hL.need 53 (by kernel_rfl)
    have e53 := q1 53 _ rfl l53
    have l58 : L 58 = true := hL.need 58 (by kernel_rfl)
    have e58 := q1 58 _ rfl l58
    simp only [e53, e58]
    go_simp
    exact gr_val (HI.out _ _ _ ⟨q0, kn_known q1 rfl, ds_free q2 rfl⟩)
  · intro vs
    simp only [Act.put, List.setIfInBounds_toArray, List.set_cons_succ, List.set_cons_zero]
    rfl
  refine gen_cons (A' := ?_) (fun vs L w1 hL hw1 => ?_) ?_ ?_
  rotate_left 1
  · obtain ⟨q0, q1, q2⟩ := HO.out _ _ _ hw1
    refine gen_plain rfl ?_
    have l59 : L 59 = true := hL.need 59 (by kernel_rfl)
    have e59 := q1 59 _ rfl l59
    simp only [e59]
    go_simp
    exact gr_val (HI.out _ _ _ ⟨q0, kn_known q1 rfl, ds_free q2 rfl⟩)
  · intro vs
    simp only [Act.put, List.setIfInBounds_toArray, List.set_cons_succ, List.set_cons_zero]
    rfl
  refine gen_cons (A' := ?_) (fun vs L w1 hL hw1 => ?_) ?_ ?_
  rotate_left 1
  · obtain ⟨q0, q1, q2⟩ := HO.out _ _ _ hw1
    have l60 : L 60 = true := hL.need 60 (by kernel_rfl)
    have e60 := q1 60 _ rfl l60
    refine gen_yes ?_ ?_
    · simp only [e60]
      rfl
    have x := (k5.grows q0).cell 0
    go_simp
    exact gr_val (HI.out _ _ _ ⟨q0, kn_known q1 rfl, ds_free q2 rfl⟩)
  · intro vs
    simp only [Act.put, List.setIfInBounds_toArray, List.set_cons_succ, List.set_cons_zero]
    rfl
  refine gen_cons (A' := ?_) (fun vs L w1 hL hw1 => ?_) ?_ ?_
  rotate_left 1
  · obtain ⟨q0, q1, q2⟩ := HO.out _ _ _ hw1
    have l60 : L 60 = true := hL.need 60 (by kernel_rfl)
    have e60 := q1 60 _ rfl l60
    refine gen_yes ?_ ?_
    · simp only [e60]
      rfl
    have x := (k6.grows q0).cell 0
    go_simp
    exact gr_val (HI.out _ _ _ ⟨q0, kn_known q1 rfl, ds_free q2 rfl⟩)
  · intro vs
    simp only [Act.put, List.setIfInBounds_toArray, List.set_cons_succ, List.set_cons_zero]
    rfl
  refine gen_cons (A' := ?_) (fun vs L w1 hL hw1 => ?_) ?_ ?_
  rotate_left 1
  · obtain ⟨q0, q1, q2⟩ := HO.out _ _ _ hw1
    have l60 : L 60 = true := hL.need 60 (by kernel_rfl)
    have e60 := q1 60 _ rfl l60
    refine gen_yes ?_ ?_
    · simp only [e60]
      rfl
    have l61 : L 61 = true := hL.need 61 (by kernel_rfl)
    have e61 := q1 61 _ rfl l61
    have l62 : L 62 = true := hL.need 62 (by kernel_rfl)
    have e62 := q1 62 _ rfl l62
    simp only [e61, e62]
    go_simp
    refine gr_call ?_
    refine (inter_is A3 c3 s A4 c4 t i w1 (hs.grows q0) (by omega) (ht.grows q0) (by omega) HI1.out).mono ?_
    rintro e w2 ⟨⟨v, rfl, hv⟩, hg⟩
    exact ⟨_, rfl, HI.out _ _ _ ⟨below_grows q0 (Nat.le_refl _) hg, kn_free q1 rfl, ds_put (q2.grows hg) rfl (hv)⟩⟩
  · intro vs
    simp only [Act.put, List.setIfInBounds_toArray, List.set_cons_succ, List.set_cons_zero]
    rfl
  refine gen_cons (A' := ?_) (fun vs L w1 hL hw1 => ?_) ?_ ?_
  rotate_left 1
  · obtain ⟨q0, q1, q2⟩ := HO.out _ _ _ hw1
    have l60 : L 60 = true := hL.need 60 (by kernel_rfl)
    have e60 := q1 60 _ rfl l60
    refine gen_yes ?_ ?_
    · simp only [e60]
      rfl
    have x := (k7.grows q0).cell 0
    go_simp
    exact gr_val (HI.out _ _ _ ⟨q0, kn_known q1 rfl, ds_free q2 rfl⟩)
  · intro vs
    simp only [Act.put, List.setIfInBounds_toArray, List.set_cons_succ, List.set_cons_zero]
    rfl
  refine gen_cons (A' := ?_) (fun vs L w1 hL hw1 => ?_) ?_ ?_
  rotate_left 1
  · obtain ⟨q0, q1, q2⟩ := HO.out _ _ _ hw1
    have l60 : L 60 = true := hL.need 60 (by kernel_rfl)
    have e60 := q1 60 _ rfl l60
    refine gen_yes ?_ ?_
    · simp only [e60]
      rfl
    have l63 : L 63 = true := hL.need 63 (by kernel_rfl)
    obtain ⟨A63, c63, e63, -, s63⟩ := q2 63 _ rfl l63
    have l64 : L 64 = true := hL.need 64 (by kernel_rfl)
    have e64 := q1 64 _ rfl l64
    simp only [e63, e64]
    go_simp
    refine gr_call ?_
    refine (inter_is A63 c63 i A5 c5 r ir w1 s63 (by omega) (hr.grows q0) (by omega) HI5.out).mono ?_
    rintro e w2 ⟨⟨v, rfl, hv⟩, hg⟩
    exact ⟨_, rfl, HI.out _ _ _ ⟨below_grows q0 (Nat.le_refl _) hg, kn_free q1 rfl, ds_put (q2.grows hg) rfl (hv)⟩⟩
  · intro vs
    simp only [Act.put, List.setIfInBounds_toArray, List.set_cons_succ, List.set_cons_zero]
    rfl
  refine gen_cons (A' := ?_) (fun vs L w1 hL hw1 => ?_) ?_ ?_
  rotate_left 1
  · obtain ⟨q0, q1, q2⟩ := HO.out _ _ _ hw1
    have l60 : L 60 = true := hL.need 60 (by kernel_rfl)
    have e60 := q1 60 _ rfl l60
    refine gen_yes ?_ ?_
    · simp only [e60]
      rfl
    have x := (k5.grows q0).cell 0
    go_simp
    exact gr_val (HI.out _ _ _ ⟨q0, kn_known q1 rfl, ds_free q2 rfl⟩)
  · intro vs
    simp only [Act.put, List.setIfInBounds_toArray, List.set_cons_succ, List.set_cons_zero]
    rfl
  refine gen_cons (A' := ?_) (fun vs L w1 hL hw1 => ?_) ?_ ?_
  rotate_left 1
  · obtain ⟨q0, q1, q2⟩ := HO.out _ _ _ hw1
    have l60 : L 60 = true := hL.need 60 (by kernel_rfl)
    have e60 := q1 60 _ rfl l60
    refine gen_yes ?_ ?_
    · simp only [e60]
      rfl
    have x := (k6.grows q0).cell 0
    go_simp
    exact gr_val (HI.out _ _ _ ⟨q0, kn_known q1 rfl, ds_free q2 rfl⟩)
  · intro vs
    simp only [Act.put, List.setIfInBounds_toArray, List.set_cons_succ, List.set_cons_zero]
    rfl
  refine gen_cons (A' := ?_) (fun vs L w1 hL hw1 => ?_) ?_ ?_
  rotate_left 1
  · obtain ⟨q0, q1, q2⟩ := HO.out _ _ _ hw1
    have l60 : L 60 = true := hL.need 60 (by kernel_rfl)
    have e60 := q1 60 _ rfl l60
    refine gen_yes ?_ ?_
    · simp only [e60]
      rfl
    have x := (k7.grows q0).cell 0
    go_simp
    exact gr_val (HI.out _ _ _ ⟨q0, kn_known q1 rfl, ds_free q2 rfl⟩)
  · intro vs
    simp only [Act.put, List.setIfInBounds_toArray, List.set_cons_succ, List.set_cons_zero]
    rfl
  refine gen_cons (A' := ?_) (fun vs L w1 hL hw1 => ?_) ?_ ?_
  rotate_left 1
  · obtain ⟨q0, q1, q2⟩ := HO.out _ _ _ hw1
    have l60 : L 60 = true := hL.need 60 (by kernel_rfl)
    have e60 := q1 60 _ rfl l60
    refine gen_yes ?_ ?_
    · simp only [e60]
      rfl
    have l67 : L 67 = true := hL.need 67 (by kernel_rfl)
    have e67 := q1 67 _ rfl l67
    have l68 : L 68 = true := hL.need 68 (by kernel_rfl)
    have e68 := q1 68 _ rfl l68
    simp only [e67, e68]
    go_simp
    refine gr_call ?_
    refine (inter_is A4 c4 t A5 c5 r tr w1 (ht.grows q0) (by omega) (hr.grows q0) (by omega) HI6.out).mono ?_
    rintro e w2 ⟨⟨v, rfl, hv⟩, hg⟩
    exact ⟨_, rfl, HI.out _ _ _ ⟨below_grows q0 (Nat.le_refl _) hg, kn_free q1 rfl, ds_put (q2.grows hg) rfl (hv)⟩⟩
  · intro vs
    simp only [Act.put, List.setIfInBounds_toArray, List.set_cons_succ, List.set_cons_zero]
    rfl
  refine gen_cons (A' := ?_) (fun vs L w1 hL hw1 => ?_) ?_ ?_
  rotate_left 1
  · obtain ⟨q0, q1, q2⟩ := HO.out _ _ _ hw1
    have l60 : L 60 = true := hL.need 60 (by kernel_rfl)
    have e60 := q1 60 _ rfl l60
    refine gen_yes ?_ ?_
    · simp only [e60]
      rfl
    have l66 : L 66 = true := hL.need 66 (by kernel_rfl)
    have e66 := q1 66 _ rfl l66
    have l69 : L 69 = true := hL.need 69 (by kernel_rfl)
    obtain ⟨A69, c69, e69, -, s69⟩ := q2 69 _ rfl l69
    simp only [e66, e69]
    go_simp
    refine gr_call ?_
    refine (inter_is A3 c3 s A69 c69 tr ir w1 (hs.grows q0) (by omega) s69 (by omega) HI7.out).mono ?_
    rintro e w2 ⟨⟨v, rfl, hv⟩, hg⟩
    exact ⟨_, rfl, HI.out _ _ _ ⟨below_grows q0 (Nat.le_refl _) hg, kn_free q1 rfl, ds_put (q2.grows hg) rfl (hv)⟩⟩
  · intro vs
    simp only [Act.put, List.setIfInBounds_toArray, List.set_cons_succ, List.set_cons_zero]
    rfl
  refine gen_cons (A' := ?_) (fun vs L w1 hL hw1 => ?_) ?_ ?_
  rotate_left 1
  · obtain ⟨q0, q1, q2⟩ := HO.out _ _ _ hw1
    have l60 : L 60 = true := hL.need 60 (by kernel_rfl)
    have e60 := q1 60 _ rfl l60
    refine gen_yes ?_ ?_
    · simp only [e60]
      rfl
    have l65 : L 65 = true := hL.need 65 (by kernel_rfl)
    obtain ⟨A65, c65, e65, -, s65⟩ := q2 65 _ rfl l65
    have l70 : L 70 = true := hL.need 70 (by kernel_rfl)
    obtain ⟨A70, c70, e70, -, s70⟩ := q2 70 _ rfl l70
    simp only [e65, e70]
    go_simp
    refine gr_call ?_
    refine (ssame_eq A65 A70 c65 c70 ir w1 s65 s70 (by omega)).mono ?_
    rintro e w2 ⟨rfl, hg⟩
    exact ⟨_, rfl, HI.out _ _ _ ⟨below_grows q0 (Nat.le_refl _) hg, kn_known q1 rfl, ds_free (q2.grows hg) rfl⟩⟩
  · intro vs
    simp only [Act.put, List.setIfInBounds_toArray, List.set_cons_succ, List.set_cons_zero]
    rfl
  refine gen_cons (A' := ?_) (fun vs L w1 hL hw1 => ?_) ?_ ?_
  rotate_left 1
  · obtain ⟨q0, q1, q2⟩ := HO.out _ _ _ hw1
    refine gen_plain rfl ?_
    have l60 : L 60 = true := hL.need 60 (by kernel_rfl)
    have e60 := q1 60 _ rfl l60
    have l71 : L 71 = true := hL.need 71 (by kernel_rfl)
    have e71 := q1 71 _ rfl l71
    simp only [e60, e71]
    go_simp
    exact gr_val (HI.out _ _ _ ⟨q0, kn_known q1 rfl, ds_free q2 rfl⟩)
  · intro vs
    simp only [Act.put, List.setIfInBounds_toArray, List.set_cons_succ, List.set_cons_zero]
    rfl
  refine gen_cons (A' := ?_) (fun vs L w1 hL hw1 => ?_) ?_ ?_
  rotate_left 1
  · obtain ⟨q0, q1, q2⟩ := HO.out _ _ _ hw1
    refine gen_plain rfl ?_
    have l72 : L 72 = true := hL.need 72 (by kernel_rfl)
    have e72 := q1 72 _ rfl l72
    simp only [e72]
    go_simp
    exact gr_val (HI.out _ _ _ ⟨q0, kn_known q1 rfl, ds_free q2 rfl⟩)
  · intro vs
    simp only [Act.put, List.setIfInBounds_toArray, List.set_cons_succ, List.set_cons_zero]
    rfl
  refine gen_nil ?_
  intro vs L W6 hall hS
  obtain ⟨hq, q1, q2⟩ := HO.out _ _ _ hS
  have eX73 := q1 73 _ rfl (hall 73 (by simp))
  clear hall hS HI HO q1 q2
  simp only [eX73]
  replace hB := below_grows hB (Nat.le_refl _) hq
  go_wp2
  go_ret
  exact ⟨rfl, hB⟩
end IntsetAlgebra
namespace IntsetAlgebra
theorem contract (H : Type) (enc : TypeId × Value → H) (W : World) (base : Nat) (args : Array Value) (ds gs : List (DataW H)) (before : List MemPlace)
    (hval0 : ∀ (j : Nat) t v, Try.f6.params[j]? = some t → args[j]? = some v → Value.okWide Try.prog W .any base t v)
    (hW : DataW.Whole enc Try.prog Try.f6.params.toList Rows.intsetAlgebraSpec.vars false W args.toList ds gs before)
    (hsz0 : (DataW.weightsEach Try.prog (Try.f6.params.toList ++ Rows.intsetAlgebraSpec.plain.varTypes Try.prog) (ds ++ gs)).all (· ≤ reachBytes) = true) :
    Calls Try.prog 6 args W fun e W' => ∃ v, e = .returned v ∧ Rows.intsetAlgebraSpec.post enc Try.prog Try.f6 false true false false W args v W' := by
  have key : Calls Try.prog 6 args W fun e W' => e = .returned (.bool true) ∧ Below W.heap.size W W' := by
    have hval : ∀ (j : Nat) t v, Try.f6.params[j]? = some t → args[j]? = some v → Value.okWide Try.prog W .any base t v := hval0
    obtain ⟨p, q, hA0, hV, hbe, hfz, hnd⟩ := hW
    have hA : DataW.TrodAll enc Try.prog W 0 (fun _ => true) true Try.f6.params.toList args.toList ds p := hA0
    rw [Try.params6] at hA hval
    clear hA0 hval0
    obtain ⟨v0, vs0, d0, ds0, p0, q0, hargs, rfl, rfl, h0, r0⟩ := trodAll_cons hA
    obtain ⟨v1, vs1, d1, ds1, p1, q1, rfl, rfl, rfl, h1, r1⟩ := trodAll_cons r0
    obtain ⟨v2, vs2, d2, ds2, p2, q2, rfl, rfl, rfl, h2, r2⟩ := trodAll_cons r1
    obtain ⟨rfl, rfl, rfl⟩ := trodAll_nil r2
    obtain rfl : args = #[v0, v1, v2] := by cases args; simp_all
    obtain ⟨rfl, rfl⟩ := trodVars_none hV
    have hsz : (DataW.weightsEach Try.prog (Try.f6.params.toList ++ Rows.intsetAlgebraSpec.plain.varTypes Try.prog) ([d0, d1, d2] ++ [])).all (· ≤ reachBytes) = true := hsz0
    rw [Try.params6] at hsz
    clear hsz0
    obtain ⟨A, c, l, rfl, hI0, hl0, _, hw0⟩ := open_slice_kind Try.underlying33 Try.underlying5 (by kernel_rfl) (hval 0 33 v0 rfl rfl) h0
    obtain ⟨A2, c2, m, rfl, hI1, hl1, _, hw1⟩ := open_slice_kind Try.underlying33 Try.underlying5 (by kernel_rfl) (hval 1 33 v1 rfl rfl) h1
    obtain ⟨A1, c1, n, rfl, hI2, hl2, _, hw2⟩ := open_slice_kind Try.underlying33 Try.underlying5 (by kernel_rfl) (hval 2 33 v2 rfl rfl) h2
    exact IntsetAlgebra.walk A c l A2 c2 m A1 c1 n W hI0 hl0 (fun x hx => u8_bd (hw0 x hx)) hI1 hl1 (fun x hx => u8_bd (hw1 x hx)) hI2 hl2 (fun x hx => u8_bd (hw2 x hx))
  refine key.mono fun e W' ⟨he, hb⟩ => ⟨_, he, law_post laid_out hW ?_ rfl (by kernel_rfl) Try.underlying4 ?_ hb⟩
  · rw [Try.params6]
    intro t ht
    simp only [List.mem_cons, List.not_mem_nil, or_false] at ht
    rcases ht with rfl | rfl | rfl <;> exact ⟨by kernel_rfl, of_decide_eq_true (by kernel_rfl)⟩
  · rw [Try.params6]
    intro ds hl
    match ds, hl with
    | [_, _, _], _ => rfl

set_option maxRecDepth 100000 in
theorem lifted (os : Os) (started : os.Started) (H : Type) (enc : TypeId × Value → H) :
    ReturnsInHanded {} Try.checked os 6 .any (Rows.intsetAlgebraSpec.pre6 enc Try.prog Try.f6 Rows.intsetAlgebraRow.domain false) (Rows.intsetAlgebraSpec.post enc Try.prog Try.f6 false true false false) := by
  refine returnsInHanded_of_change_sized (C := Try.checked) own_knob started (by kernel_rfl) Try.func6
    (ChangeSpec.witness6 (enc := enc) (C := Try.checked) false ⟨#[], #[.slice none 0 0, .slice none 0 0, .slice none 0 0], []⟩ 8 (by kernel_rfl) (by kernel_rfl) (by kernel_rfl) (by kernel_rfl)) ?_
  intro W base args ds gs before hval0 hW _ hsz0 _
  exact contract H enc W base args ds gs before hval0 hW hsz0

theorem over : Rows.intsetAlgebraRow.holds Try.pinned (OpenSpec.ofChange Rows.intsetAlgebraSpec) :=
  OpenClaim.holds_of_wide 6 Try.f6 rfl rfl rfl rfl rfl rfl rfl ⟨rfl, rfl, rfl, rfl, rfl⟩ rfl rfl rfl rfl rfl (by kernel_rfl) Try.func6 (by kernel_rfl)
    (of_decide_eq_true (by kernel_rfl)) (by unfold Func.isWrapper; first | (rw [if_pos (by decide +kernel)]; kernel_rfl) | (rw [if_neg (by decide +kernel)]; exact ⟨rfl, rfl⟩))
    (fun os started H enc _ => lifted os started H enc)

/-- The given statement. -/
theorem proved : Rows.IntsetAlgebraSaid := over
end IntsetAlgebra
#print axioms IntsetAlgebra.proved
end Go.Proofs.Ytejdaodchaeglaa
