/-
  Layer 9: Union of both. Plain contracts.
-/
import Derived.Test.YtejdaodchaeglaaSpR
import Derived.Test.YtejdaodchaeglaaSpV
import Derived.Test.YtejdaodchaeglaaGenT
namespace Go.Proofs.Ytejdaodchaeglaa
open Go.RowKit
/-- The union, or the error. -/
def uniF (l m : List Sp) : List Sp × Int := if 64 < (formS (spansF l ++ spansF m)).length then ([], 3) else (formS (spansF l ++ spansF m), 0)
theorem spans_fine2 (l m : List Sp) : ∀ x ∈ spansF l ++ spansF m, fineS x = true := fun x hx => (List.mem_append.1 hx).elim (spansF_fine l x) (spansF_fine m x)
theorem uniF_make (l m : List Sp) : makeF (spansF l ++ spansF m) = uniF l m := if_pos (List.all_eq_true.2 (spans_fine2 l m))
set_option maxRecDepth 100000 in
set_option maxHeartbeats 16000000 in
theorem union_any (A : Option Addr) (c : Nat) (l : List Sp) (B : Option Addr) (cb : Nat) (m : List Sp) (w : World) (h : Sps w A l) (hl : l.length ≤ 9223372036854775807) (hm : Sps w B m) (hml : m.length ≤ 9223372036854775807) :
    Calls Try.prog 20 #[.agg #[.slice A l.length c], .agg #[.slice B m.length cb]] w fun e w' => (∃ v, e = .returned (.tuple #[v, .int .i64 (uniF l m).2]) ∧ SetV w' (uniF l m).1 v) ∧ Grows w w' := by
  have k2 := ((Blk.new w 24 #[.slice A l.length c]).alloc (Obj.cells #[.slice B m.length cb] 24)).alloc (Obj.cells #[.slice none 0 0] 24)
  have k3 := (blk_new_at (X := w.alloc (Obj.cells #[.slice A l.length c] 24)) (n := w.heap.size + 1) (t := 24) (cs := #[.slice B m.length cb]) (by simp)).alloc (Obj.cells #[.slice none 0 0] 24)
  have k4 := blk_new_at (X := (w.alloc (Obj.cells #[.slice A l.length c] 24)).alloc (Obj.cells #[.slice B m.length cb] 24)) (n := w.heap.size + 2) (t := 24) (cs := #[.slice none 0 0]) (by simp)
  have hB := (((Below.refl w.heap.size w).alloc (Nat.le_refl _) (Obj.cells #[.slice A l.length c] 24)).alloc (by simp) (Obj.cells #[.slice B m.length cb] 24)).alloc (by simp; omega) (Obj.cells #[.slice none 0 0] 24)
  obtain ⟨A2, c2, ev2, hat⟩ := spV_is A c l
  obtain ⟨A3, c3, ev3, hbt⟩ := spV_is B cb m
  have h2 := hat w h
  have h3 := hbt w hm
  have hla := spansF_len l
  have hlb := spansF_len m
  have C1 : ∀ w0, Sps w0 A l → Calls Try.prog 34 #[.agg #[.slice A l.length c]] w0 fun e w' => e = .returned (.slice A2 (spansF l).length c2) ∧ Grows w0 w' := fun w0 h0 => by
    rw [← ev2]
    exact spans_val A c l w0 h0 hl
  have C2 : ∀ w0, Sps w0 B m → Calls Try.prog 34 #[.agg #[.slice B m.length cb]] w0 fun e w' => e = .returned (.slice A3 (spansF m).length c3) ∧ Grows w0 w' := fun w0 h0 => by
    rw [← ev3]
    exact spans_val B cb m w0 h0 hml
  have hmk := uniF_make l m
  clear hat hbt ev2 ev3
  generalize spansF l = a at *
  generalize spansF m = b at *
  obtain ⟨o, er, hu⟩ : ∃ o er, uniF l m = (o, er) := ⟨_, _, rfl⟩
  rw [hu] at hmk ⊢
  obtain ⟨ab, hab⟩ : ∃ ab, a ++ b = ab := ⟨_, rfl⟩
  rw [hab] at hmk
  have habl : ab.length ≤ 1000 := by rw [← hab, List.length_append]; omega
  have HAB := Lib.hid hab
  have HMK := Lib.hid hmk
  clear hmk hu hab
  go_enter Try.func20, Try.ntmps20
  go_upto_region 1 with fail
  generalize World.alloc (World.alloc (World.alloc w _) _) _ = w1 at *
  have hz2 : w.heap.size + 2 ≤ w1.heap.size := by have := k4.lt; omega
  obtain ⟨S, HI, HO⟩ : ∃ S : Ran → (Nat → Value) → World → Prop, Hid (∀ L vs w', (Below (w.heap.size + 2) w1 w' ∧ KnS [some (.agg #[.slice A l.length c]), some (.slice A2 a.length c2), some (.agg #[.slice B m.length cb]), some (.slice A3 b.length c3), none, none, none, none, some (.int .i64 er), none, some (.int .i64 er)] L vs ∧ (L 9 = false → Blk w' (w.heap.size + 2) 24 #[.slice none 0 0]) ∧ (L 4 = true → L 5 = false → ∃ g, vs 4 = .slice (some ⟨g, 0, none⟩) 2 2 ∧ Blk w' g 22 #[.slice A2 a.length c2, .slice A3 b.length c3]) ∧ (L 5 = true → L 6 = false → ∃ A5 c5, vs 5 = .slice A5 ab.length c5 ∧ Sps w' A5 ab) ∧ (L 6 = true → ∃ A6 c6, vs 6 = .tuple #[.agg #[.slice A6 o.length c6], .int .i64 er] ∧ o.length ≤ c6 ∧ Sps w' A6 o ∧ (L 7 = true → vs 7 = .agg #[.slice A6 o.length c6]) ∧ (L 9 = true → Blk w' (w.heap.size + 2) 24 #[.slice A6 o.length c6])) ∧ (L 7 = true → L 6 = true) ∧ (L 9 = true → L 6 = true)) → S L vs w') ∧ Hid (∀ L vs w', S L vs w' → (Below (w.heap.size + 2) w1 w' ∧ KnS [some (.agg #[.slice A l.length c]), some (.slice A2 a.length c2), some (.agg #[.slice B m.length cb]), some (.slice A3 b.length c3), none, none, none, none, some (.int .i64 er), none, some (.int .i64 er)] L vs ∧ (L 9 = false → Blk w' (w.heap.size + 2) 24 #[.slice none 0 0]) ∧ (L 4 = true → L 5 = false → ∃ g, vs 4 = .slice (some ⟨g, 0, none⟩) 2 2 ∧ Blk w' g 22 #[.slice A2 a.length c2, .slice A3 b.length c3]) ∧ (L 5 = true → L 6 = false → ∃ A5 c5, vs 5 = .slice A5 ab.length c5 ∧ Sps w' A5 ab) ∧ (L 6 = true → ∃ A6 c6, vs 6 = .tuple #[.agg #[.slice A6 o.length c6], .int .i64 er] ∧ o.length ≤ c6 ∧ Sps w' A6 o ∧ (L 7 = true → vs 7 = .agg #[.slice A6 o.length c6]) ∧ (L 9 = true → Blk w' (w.heap.size + 2) 24 #[.slice A6 o.length c6])) ∧ (L 7 = true → L 6 = true) ∧ (L 9 = true → L 6 = true))) := ⟨fun L vs w' => Below (w.heap.size + 2) w1 w' ∧ KnS [some (.agg #[.slice A l.length c]), some (.slice A2 a.length c2), some (.agg #[.slice B m.length cb]), some (.slice A3 b.length c3), none, none, none, none, some (.int .i64 er), none, some (.int .i64 er)] L vs ∧ (L 9 = false → Blk w' (w.heap.size + 2) 24 #[.slice none 0 0]) ∧ (L 4 = true → L 5 = false → ∃ g, vs 4 = .slice (some ⟨g, 0, none⟩) 2 2 ∧ Blk w' g 22 #[.slice A2 a.length c2, .slice A3 b.length c3]) ∧ (L 5 = true → L 6 = false → ∃ A5 c5, vs 5 = .slice A5 ab.length c5 ∧ Sps w' A5 ab) ∧ (L 6 = true → ∃ A6 c6, vs 6 = .tuple #[.agg #[.slice A6 o.length c6], .int .i64 er] ∧ o.length ≤ c6 ∧ Sps w' A6 o ∧ (L 7 = true → vs 7 = .agg #[.slice A6 o.length c6]) ∧ (L 9 = true → Blk w' (w.heap.size + 2) 24 #[.slice A6 o.length c6])) ∧ (L 7 = true → L 6 = true) ∧ (L 9 = true → L 6 = true), fun _ _ _ h => h, fun _ _ _ h => h⟩
  refine wp_region_genW S 15 (by kernel_rfl) (by kernel_rfl) rfl ?_ ?_
  · exact HI.out _ _ _ ⟨below_grows (Below.refl _ _) (by have := k4.lt; omega) (Grows.drew' _), kn_none _ _, fun _ => k4.drew, (fun h => by cases h), (fun h => by cases h), (fun h => by cases h), (fun h => by cases h), (fun h => by cases h)⟩
  refine gen_cons (A' := ?_) (fun vs L w1 hL hw1 => ?_) ?_ ?_
  rotate_left 1
  · obtain ⟨q0, q1, q2, q4, q5, q6, h7, h9⟩ := HO.out _ _ _ hw1
    have x := (k2.below q0 (by omega)).cell 0
    refine gen_plain rfl ?_
    go_simp
    exact gr_val (HI.out _ _ _ ⟨q0, kn_known q1 rfl, q2, q4, q5, q6, h7, h9⟩)
  · intro vs
    simp only [Act.put, List.setIfInBounds_toArray, List.set_cons_succ, List.set_cons_zero]
    rfl
  refine gen_cons (A' := ?_) (fun vs L w1 hL hw1 => ?_) ?_ ?_
  rotate_left 1
  · obtain ⟨q0, q1, q2, q4, q5, q6, h7, h9⟩ := HO.out _ _ _ hw1
    have l0 : L 0 = true := hL.need 0 (by kernel_rfl)
    have e0 := q1 0 _ rfl l0
    refine gen_plain rfl ?_
    simp only [e0]
    go_simp
    refine gr_call ?_
    refine (C1 _ (h.grows (hB.trans (q0.mono (Nat.le_add_right _ 2))))).mono ?_
    rintro e w2 ⟨rfl, hg⟩
    exact ⟨_, rfl, HI.out _ _ _ ⟨below_grows q0 hz2 hg, kn_known q1 rfl, (fun h => (q2 h).grows hg), (fun h h0 => by obtain ⟨g, e, kk⟩ := q4 h h0; exact ⟨g, e, kk.grows hg⟩), (fun h h0 => by obtain ⟨A5, c5, e, s⟩ := q5 h h0; exact ⟨A5, c5, e, s.grows hg⟩), (fun h => by obtain ⟨A6, c6, e, hc, s, y7, y9⟩ := q6 h; exact ⟨A6, c6, e, hc, s.grows hg, y7, fun h => (y9 h).grows hg⟩), h7, h9⟩⟩
  · intro vs
    simp only [Act.put, List.setIfInBounds_toArray, List.set_cons_succ, List.set_cons_zero]
    rfl
  refine gen_cons (A' := ?_) (fun vs L w1 hL hw1 => ?_) ?_ ?_
  rotate_left 1
  · obtain ⟨q0, q1, q2, q4, q5, q6, h7, h9⟩ := HO.out _ _ _ hw1
    have x := (k3.below q0 (by omega)).cell 0
    refine gen_plain rfl ?_
    go_simp
    exact gr_val (HI.out _ _ _ ⟨q0, kn_known q1 rfl, q2, q4, q5, q6, h7, h9⟩)
  · intro vs
    simp only [Act.put, List.setIfInBounds_toArray, List.set_cons_succ, List.set_cons_zero]
    rfl
  refine gen_cons (A' := ?_) (fun vs L w1 hL hw1 => ?_) ?_ ?_
  rotate_left 1
  · obtain ⟨q0, q1, q2, q4, q5, q6, h7, h9⟩ := HO.out _ _ _ hw1
    have l2 : L 2 = true := hL.need 2 (by kernel_rfl)
    have e2 := q1 2 _ rfl l2
    refine gen_plain rfl ?_
    simp only [e2]
    go_simp
    refine gr_call ?_
    refine (C2 _ (hm.grows (hB.trans (q0.mono (Nat.le_add_right _ 2))))).mono ?_
    rintro e w2 ⟨rfl, hg⟩
    exact ⟨_, rfl, HI.out _ _ _ ⟨below_grows q0 hz2 hg, kn_known q1 rfl, (fun h => (q2 h).grows hg), (fun h h0 => by obtain ⟨g, e, kk⟩ := q4 h h0; exact ⟨g, e, kk.grows hg⟩), (fun h h0 => by obtain ⟨A5, c5, e, s⟩ := q5 h h0; exact ⟨A5, c5, e, s.grows hg⟩), (fun h => by obtain ⟨A6, c6, e, hc, s, y7, y9⟩ := q6 h; exact ⟨A6, c6, e, hc, s.grows hg, y7, fun h => (y9 h).grows hg⟩), h7, h9⟩⟩
  · intro vs
    simp only [Act.put, List.setIfInBounds_toArray, List.set_cons_succ, List.set_cons_zero]
    rfl
  refine gen_cons (A' := ?_) (fun vs L w1 hL hw1 => ?_) ?_ ?_
  rotate_left 1
  · obtain ⟨q0, q1, q2, q4, q5, q6, h7, h9⟩ := HO.out _ _ _ hw1
    have l1 : L 1 = true := hL.need 1 (by kernel_rfl)
    have e1 := q1 1 _ rfl l1
    have l3 : L 3 = true := hL.need 3 (by kernel_rfl)
    have e3 := q1 3 _ rfl l3
    refine gen_plain rfl ?_
    simp only [e1, e3]
    go_simp
    have hg := (Below.refl w1.heap.size w1).alloc (Nat.le_refl _) (Obj.cells #[.slice A2 a.length c2, .slice A3 b.length c3] 22)
    exact gr_val (HI.out _ _ _ ⟨below_grows q0 hz2 hg, kn_free q1 rfl, (fun h => (q2 h).grows hg), (fun _ _ => ⟨_, rfl, Blk.new _ _ _⟩), (fun h h0 => by obtain ⟨A5, c5, e, s⟩ := q5 h h0; exact ⟨A5, c5, e, s.grows hg⟩), (fun h => by obtain ⟨A6, c6, e, hc, s, y7, y9⟩ := q6 h; exact ⟨A6, c6, e, hc, s.grows hg, y7, fun h => (y9 h).grows hg⟩), h7, h9⟩)
  · intro vs
    simp only [Act.put, List.setIfInBounds_toArray, List.set_cons_succ, List.set_cons_zero]
    rfl
  refine gen_cons (A' := ?_) (fun vs L w1 hL hw1 => ?_) ?_ ?_
  rotate_left 1
  · obtain ⟨q0, q1, q2, q4, q5, q6, h7, h9⟩ := HO.out _ _ _ hw1
    have n5 : L 5 = false := hL.1
    have l4 : L 4 = true := hL.need 4 (by kernel_rfl)
    obtain ⟨g, e4, kg⟩ := q4 l4 n5
    refine gen_plain rfl ?_
    simp only [e4]
    go_simp
    refine gr_call ?_
    have hgw := hB.trans (q0.mono (show w.heap.size ≤ w.heap.size + 2 by omega))
    refine (concat_any g A2 A3 c2 c3 a b w1 kg (h2.grows hgw) (h3.grows hgw) hla hlb).mono ?_
    rw [HAB.out]
    rintro e w5 ⟨⟨v, rfl, hown⟩, hg⟩
    obtain ⟨A5, c5, rfl, -, s5, -⟩ := hown.read
    exact ⟨_, rfl, HI.out _ _ _ ⟨below_grows q0 hz2 hg, kn_free q1 rfl, (fun h => (q2 h).grows hg), (fun _ h => by cases h), (fun _ _ => ⟨_, _, rfl, s5⟩), (fun h => by obtain ⟨A6, c6, e, hc, s, y7, y9⟩ := q6 h; exact ⟨A6, c6, e, hc, s.grows hg, y7, fun h => (y9 h).grows hg⟩), h7, h9⟩⟩
  · intro vs
    simp only [Act.put, List.setIfInBounds_toArray, List.set_cons_succ, List.set_cons_zero]
    rfl
  refine gen_cons (A' := ?_) (fun vs L w1 hL hw1 => ?_) ?_ ?_
  rotate_left 1
  · obtain ⟨q0, q1, q2, q4, q5, q6, h7, h9⟩ := HO.out _ _ _ hw1
    have n6 : L 6 = false := hL.1
    have l5 : L 5 = true := hL.need 5 (by kernel_rfl)
    obtain ⟨A5, c5, e5, s5⟩ := q5 l5 n6
    refine gen_plain rfl ?_
    simp only [e5]
    go_simp
    refine gr_call ?_
    refine (make_any A5 c5 ab w1 s5 (Nat.le_trans habl (by decide))).mono ?_
    rw [HMK.out]
    rintro e w6 ⟨⟨v, rfl, A6, c6, rfl, hc6, s6⟩, hg⟩
    exact ⟨_, rfl, HI.out _ _ _ ⟨below_grows q0 hz2 hg, kn_free q1 rfl, (fun h => (q2 h).grows hg), (fun h h0 => by obtain ⟨g, e, kk⟩ := q4 h h0; exact ⟨g, e, kk.grows hg⟩), (fun _ h => by cases h), (fun _ => ⟨A6, c6, rfl, hc6, s6, (fun h => by rw [h7 h] at n6; cases n6), (fun h => by rw [h9 h] at n6; cases n6)⟩), (fun _ => rfl), (fun _ => rfl)⟩⟩
  · intro vs
    simp only [Act.put, List.setIfInBounds_toArray, List.set_cons_succ, List.set_cons_zero]
    rfl
  refine gen_cons (A' := ?_) (fun vs L w1 hL hw1 => ?_) ?_ ?_
  rotate_left 1
  · obtain ⟨q0, q1, q2, q4, q5, q6, h7, h9⟩ := HO.out _ _ _ hw1
    have l6 : L 6 = true := hL.need 6 (by kernel_rfl)
    obtain ⟨A6, c6, e6, hc6, s6, y7, y9⟩ := q6 l6
    refine gen_plain rfl ?_
    simp only [e6]
    go_simp
    exact gr_val (HI.out _ _ _ ⟨q0, kn_free q1 rfl, q2, q4, q5, (fun _ => ⟨A6, c6, e6, hc6, s6, fun _ => rfl, y9⟩), (fun _ => l6), h9⟩)
  · intro vs
    simp only [Act.put, List.setIfInBounds_toArray, List.set_cons_succ, List.set_cons_zero]
    rfl
  refine gen_cons (A' := ?_) (fun vs L w1 hL hw1 => ?_) ?_ ?_
  rotate_left 1
  · obtain ⟨q0, q1, q2, q4, q5, q6, h7, h9⟩ := HO.out _ _ _ hw1
    have l6 : L 6 = true := hL.need 6 (by kernel_rfl)
    obtain ⟨A6, c6, e6, hc6, s6, y7, y9⟩ := q6 l6
    refine gen_plain rfl ?_
    simp only [e6]
    go_simp
    exact gr_val (HI.out _ _ _ ⟨q0, kn_known q1 rfl, q2, q4, q5, q6, h7, h9⟩)
  · intro vs
    simp only [Act.put, List.setIfInBounds_toArray, List.set_cons_succ, List.set_cons_zero]
    rfl
  refine gen_cons (A' := ?_) (fun vs L w1 hL hw1 => ?_) ?_ ?_
  rotate_left 1
  · obtain ⟨q0, q1, q2, q4, q5, q6, h7, h9⟩ := HO.out _ _ _ hw1
    have n9 : L 9 = false := hL.1
    have l7 : L 7 = true := hL.need 7 (by kernel_rfl)
    have l6 := h7 l7
    obtain ⟨A6, c6, e6, hc6, s6, y7, y9⟩ := q6 l6
    have e7 := y7 l7
    have kc := q2 n9
    have x4 := kc.cell 0
    have f4 := kc.frozen 0
    refine gen_plain rfl ?_
    simp only [e7]
    go_simp
    have kc2 := kc.set_ 0 (.slice A6 o.length c6)
    refine gr_skip (HI.out _ _ _ ⟨q0.setCell (Nat.le_refl _) _, kn_free q1 rfl, (fun h => by cases h), (fun h h0 => by obtain ⟨g, e, kk⟩ := q4 h h0; exact ⟨g, e, kk.far (Blk.ne_ kk kc (by decide)) _⟩), (fun h h0 => by rw [show L 6 = false from h0] at l6; cases l6), (fun _ => ⟨A6, c6, e6, hc6, s6.setOther kc _, y7, fun _ => kc2⟩), h7, (fun _ => l6)⟩)
  · intro vs
    simp only [Act.put, List.setIfInBounds_toArray, List.set_cons_succ, List.set_cons_zero]
    rfl
  refine gen_cons (A' := ?_) (fun vs L w1 hL hw1 => ?_) ?_ ?_
  rotate_left 1
  · obtain ⟨q0, q1, q2, q4, q5, q6, h7, h9⟩ := HO.out _ _ _ hw1
    have l8 : L 8 = true := hL.need 8 (by kernel_rfl)
    have e8 := q1 8 _ rfl l8
    refine gen_plain rfl ?_
    simp only [e8]
    go_simp
    exact gr_val (HI.out _ _ _ ⟨q0, kn_known q1 rfl, q2, q4, q5, q6, h7, h9⟩)
  · intro vs
    simp only [Act.put, List.setIfInBounds_toArray, List.set_cons_succ, List.set_cons_zero]
    rfl
  refine gen_nil ?_
  intro vs L W6 hall hS
  obtain ⟨q0, q1, -, -, -, q6, -, -⟩ := HO.out _ _ _ hS
  have e10 := q1 10 _ rfl (hall 10 (by simp))
  obtain ⟨A6, c6, -, hc6, s6, -, y9⟩ := q6 (hall 6 (by simp))
  have k6 := y9 (hall 9 (by simp))
  clear hall hS HI HO q1 q6 y9
  simp only [e10]
  have x6 := k6.cell 0
  have hB6 := hB.trans (q0.mono (show w.heap.size ≤ w.heap.size + 2 by omega))
  go_wp2
  exact bodyPost_ret (v := .tuple #[.agg #[.slice A6 o.length c6], .int .i64 er]) (by simp [results, Try.results20, go_sem, x6]) rfl ⟨⟨_, rfl, A6, c6, rfl, hc6, s6⟩, hB6⟩
set_option maxRecDepth 100000 in
set_option maxHeartbeats 16000000 in
theorem runion_any (A : Option Addr) (c : Nat) (l : List Sp) (B : Option Addr) (cb : Nat) (m : List Sp) (w : World) (h : Sps w A l) (hl : l.length ≤ 9223372036854775807) (hm : Sps w B m) (hml : m.length ≤ 9223372036854775807) :
    Calls Try.prog 22 #[.agg #[.slice A l.length c], .agg #[.slice B m.length cb]] w fun e w' => (∃ v, e = .returned (.tuple #[v, .int .i64 (uniF l m).2]) ∧ SetV w' (uniF l m).1 v) ∧ Grows w w' := by
  have k2 := ((Blk.new w 24 #[.slice A l.length c]).alloc (Obj.cells #[.slice B m.length cb] 24)).alloc (Obj.cells #[.slice none 0 0] 24)
  have k3 := (blk_new_at (X := w.alloc (Obj.cells #[.slice A l.length c] 24)) (n := w.heap.size + 1) (t := 24) (cs := #[.slice B m.length cb]) (by simp)).alloc (Obj.cells #[.slice none 0 0] 24)
  have k4 := blk_new_at (X := (w.alloc (Obj.cells #[.slice A l.length c] 24)).alloc (Obj.cells #[.slice B m.length cb] 24)) (n := w.heap.size + 2) (t := 24) (cs := #[.slice none 0 0]) (by simp)
  have hB := (((Below.refl w.heap.size w).alloc (Nat.le_refl _) (Obj.cells #[.slice A l.length c] 24)).alloc (by simp) (Obj.cells #[.slice B m.length cb] 24)).alloc (by simp; omega) (Obj.cells #[.slice none 0 0] 24)
  obtain ⟨A2, c2, ev2, hat⟩ := spV_is A c l
  obtain ⟨A3, c3, ev3, hbt⟩ := spV_is B cb m
  have h2 := hat w h
  have h3 := hbt w hm
  have hla := spansF_len l
  have hlb := spansF_len m
  have C1 : ∀ w0, Sps w0 A l → Calls Try.prog 36 #[.agg #[.slice A l.length c]] w0 fun e w' => e = .returned (.slice A2 (spansF l).length c2) ∧ Grows w0 w' := fun w0 h0 => by
    rw [← ev2]
    exact rspans_val A c l w0 h0 hl
  have C2 : ∀ w0, Sps w0 B m → Calls Try.prog 36 #[.agg #[.slice B m.length cb]] w0 fun e w' => e = .returned (.slice A3 (spansF m).length c3) ∧ Grows w0 w' := fun w0 h0 => by
    rw [← ev3]
    exact rspans_val B cb m w0 h0 hml
  have hfab := spans_fine2 l m
  have HU : Hid (uniF l m = if 64 < (formS (spansF l ++ spansF m)).length then ([], 3) else (formS (spansF l ++ spansF m), 0)) := Lib.hid rfl
  have hfl := (formS_forms hfab).2.2
  clear hat hbt ev2 ev3
  generalize spansF l = a at *
  generalize spansF m = b at *
  have hfl2 : (formS (a ++ b)).length ≤ 128 := by rw [List.length_append] at hfl; omega
  clear hfl
  obtain ⟨ab, hab⟩ : ∃ ab, a ++ b = ab := ⟨_, rfl⟩
  rw [hab] at HU hfl2 hfab
  have habl : ab.length ≤ 1000 := by rw [← hab, List.length_append]; omega
  have HAB := Lib.hid hab
  clear hab
  go_enter Try.func22, Try.ntmps22
  go_upto_region 1 with fail
  generalize World.alloc (World.alloc (World.alloc w _) _) _ = W at *
  have hz2 : w.heap.size < W.heap.size := by have := k4.lt; omega
  obtain ⟨S, HI, HO⟩ : ∃ S : Ran → (Nat → Value) → World → Prop, Hid (∀ L vs w', (Grows W w' ∧ KnS [some (.agg #[.slice A l.length c]), some (.slice A2 a.length c2), none, some (.agg #[.slice B m.length cb]), some (.slice A3 b.length c3), none, none] L vs ∧ (L 2 = true → L 5 = false → Own w' W.heap.size (vs 2) a) ∧ (L 5 = true → L 6 = false → Own w' W.heap.size (vs 5) ab) ∧ (L 6 = true → Own w' W.heap.size (vs 6) (formS ab)) ∧ (L 5 = true → L 2 = true) ∧ (L 6 = true → L 5 = true)) → S L vs w') ∧ Hid (∀ L vs w', S L vs w' → (Grows W w' ∧ KnS [some (.agg #[.slice A l.length c]), some (.slice A2 a.length c2), none, some (.agg #[.slice B m.length cb]), some (.slice A3 b.length c3), none, none] L vs ∧ (L 2 = true → L 5 = false → Own w' W.heap.size (vs 2) a) ∧ (L 5 = true → L 6 = false → Own w' W.heap.size (vs 5) ab) ∧ (L 6 = true → Own w' W.heap.size (vs 6) (formS ab)) ∧ (L 5 = true → L 2 = true) ∧ (L 6 = true → L 5 = true))) := ⟨fun L vs w' => Grows W w' ∧ KnS [some (.agg #[.slice A l.length c]), some (.slice A2 a.length c2), none, some (.agg #[.slice B m.length cb]), some (.slice A3 b.length c3), none, none] L vs ∧ (L 2 = true → L 5 = false → Own w' W.heap.size (vs 2) a) ∧ (L 5 = true → L 6 = false → Own w' W.heap.size (vs 5) ab) ∧ (L 6 = true → Own w' W.heap.size (vs 6) (formS ab)) ∧ (L 5 = true → L 2 = true) ∧ (L 6 = true → L 5 = true), fun _ _ _ h => h, fun _ _ _ h => h⟩
  refine wp_region_genT S 7 20 (by kernel_rfl) (by kernel_rfl) rfl ?_ ?_
  · exact HI.out _ _ _ ⟨Grows.drew' _, kn_none _ _, (fun h => by cases h), (fun h => by cases h), (fun h => by cases h), (fun h => by cases h), (fun h => by cases h)⟩
  simp only [List.take_succ_cons, List.take_zero, List.drop_succ_cons, List.drop_zero]
  refine gent_cons (A' := ?_) (fun vs L w1 hL hw1 => ?_) ?_ ?_
  rotate_left 1
  · obtain ⟨q0, q1, q2, q5, q6, h5, h6⟩ := HO.out _ _ _ hw1
    have x := (k2.grows q0).cell 0
    refine gen_plain rfl ?_
    go_simp
    exact gr_val (HI.out _ _ _ ⟨q0, kn_known q1 rfl, q2, q5, q6, h5, h6⟩)
  · intro vs
    simp only [Act.put, List.setIfInBounds_toArray, List.set_cons_succ, List.set_cons_zero]
    rfl
  refine gent_cons (A' := ?_) (fun vs L w1 hL hw1 => ?_) ?_ ?_
  rotate_left 1
  · obtain ⟨q0, q1, q2, q5, q6, h5, h6⟩ := HO.out _ _ _ hw1
    have l0 : L 0 = true := hL.need 0 (by kernel_rfl)
    have e0 := q1 0 _ rfl l0
    refine gen_plain rfl ?_
    simp only [e0]
    go_simp
    refine gr_call ?_
    refine (C1 _ (h.grows (below_grows hB (Nat.le_refl _) q0))).mono ?_
    rintro e w2 ⟨rfl, hg⟩
    exact ⟨_, rfl, HI.out _ _ _ ⟨below_grows q0 (Nat.le_refl _) hg, kn_known q1 rfl, (fun h h0 => (q2 h h0).grows hg), (fun h h0 => (q5 h h0).grows hg), (fun h => (q6 h).grows hg), h5, h6⟩⟩
  · intro vs
    simp only [Act.put, List.setIfInBounds_toArray, List.set_cons_succ, List.set_cons_zero]
    rfl
  refine gent_cons (A' := ?_) (fun vs L w1 hL hw1 => ?_) ?_ ?_
  rotate_left 1
  · obtain ⟨q0, q1, q2, q5, q6, h5, h6⟩ := HO.out _ _ _ hw1
    have n2 : L 2 = false := hL.1
    have n5 : L 5 = false := by
      cases h : L 5
      · rfl
      · rw [h5 h] at n2; cases n2
    have n6 : L 6 = false := by
      cases h : L 6
      · rfl
      · rw [h6 h] at n5; cases n5
    have l1 : L 1 = true := hL.need 1 (by kernel_rfl)
    have e1 := q1 1 _ rfl l1
    refine gen_plain rfl ?_
    refine gr_append_sp (.const (.slice none 0 0)) (.tmp 8) rfl (m := a) rfl rfl (own_nil w1 W.heap.size) e1 (h2.grows (below_grows hB (Nat.le_refl _) q0)) (by simp only [List.length_nil]; omega) q0.size ?_
    intro v3 w3 o3 g3
    have hg : Grows w1 w3 := (Below.refl _ _).grown g3 (Nat.le_refl _) (fun q hq => by cases hq)
    exact HI.out _ _ _ ⟨below_grows q0 (Nat.le_refl _) hg, kn_free q1 rfl, (fun _ _ => o3), (fun h _ => by rw [show L 5 = true from h] at n5; cases n5), (fun h => by rw [show L 6 = true from h] at n6; cases n6), (fun _ => rfl), h6⟩
  · intro vs
    simp only [Act.put, List.setIfInBounds_toArray, List.set_cons_succ, List.set_cons_zero]
    rfl
  refine gent_cons (A' := ?_) (fun vs L w1 hL hw1 => ?_) ?_ ?_
  rotate_left 1
  · obtain ⟨q0, q1, q2, q5, q6, h5, h6⟩ := HO.out _ _ _ hw1
    have x := (k3.grows q0).cell 0
    refine gen_plain rfl ?_
    go_simp
    exact gr_val (HI.out _ _ _ ⟨q0, kn_known q1 rfl, q2, q5, q6, h5, h6⟩)
  · intro vs
    simp only [Act.put, List.setIfInBounds_toArray, List.set_cons_succ, List.set_cons_zero]
    rfl
  refine gent_cons (A' := ?_) (fun vs L w1 hL hw1 => ?_) ?_ ?_
  rotate_left 1
  · obtain ⟨q0, q1, q2, q5, q6, h5, h6⟩ := HO.out _ _ _ hw1
    have l3 : L 3 = true := hL.need 3 (by kernel_rfl)
    have e3 := q1 3 _ rfl l3
    refine gen_plain rfl ?_
    simp only [e3]
    go_simp
    refine gr_call ?_
    refine (C2 _ (hm.grows (below_grows hB (Nat.le_refl _) q0))).mono ?_
    rintro e w2 ⟨rfl, hg⟩
    exact ⟨_, rfl, HI.out _ _ _ ⟨below_grows q0 (Nat.le_refl _) hg, kn_known q1 rfl, (fun h h0 => (q2 h h0).grows hg), (fun h h0 => (q5 h h0).grows hg), (fun h => (q6 h).grows hg), h5, h6⟩⟩
  · intro vs
    simp only [Act.put, List.setIfInBounds_toArray, List.set_cons_succ, List.set_cons_zero]
    rfl
  refine gent_cons (A' := ?_) (fun vs L w1 hL hw1 => ?_) ?_ ?_
  rotate_left 1
  · obtain ⟨q0, q1, q2, q5, q6, h5, h6⟩ := HO.out _ _ _ hw1
    have n5 : L 5 = false := hL.1
    have n6 : L 6 = false := by
      cases h : L 6
      · rfl
      · rw [h6 h] at n5; cases n5
    have l2 : L 2 = true := hL.need 2 (by kernel_rfl)
    have o2 := q2 l2 n5
    have l4 : L 4 = true := hL.need 4 (by kernel_rfl)
    have e4 := q1 4 _ rfl l4
    refine gen_plain rfl ?_
    refine gr_append_sp (.tmp 9) (.tmp 11) rfl (m := b) rfl rfl o2 e4 (h3.grows (below_grows hB (Nat.le_refl _) q0)) (by omega) q0.size ?_
    intro v3 w3 o5 g3
    rw [HAB.out] at o5
    have hg := o2.below q0 g3 q0.size
    exact HI.out _ _ _ ⟨hg, kn_free q1 rfl, (fun _ h => by cases h), (fun _ _ => o5), (fun h => by rw [show L 6 = true from h] at n6; cases n6), (fun _ => l2), (fun _ => rfl)⟩
  · intro vs
    simp only [Act.put, List.setIfInBounds_toArray, List.set_cons_succ, List.set_cons_zero]
    rfl
  refine gent_cons (A' := ?_) (fun vs L w1 hL hw1 => ?_) ?_ ?_
  rotate_left 1
  · obtain ⟨q0, q1, q2, q5, q6, h5, h6⟩ := HO.out _ _ _ hw1
    have n6 : L 6 = false := hL.1
    have l5 : L 5 = true := hL.need 5 (by kernel_rfl)
    obtain ⟨A5, c5, e5, -, s5, -⟩ := (q5 l5 n6).read
    refine gen_plain rfl ?_
    simp only [e5]
    go_simp
    refine gr_call ?_
    refine (joined_any A5 c5 ab w1 s5 (Nat.le_trans habl (by decide)) hfab).mono ?_
    rintro e w6 ⟨⟨v, rfl, o6⟩, hg⟩
    exact ⟨_, rfl, HI.out _ _ _ ⟨below_grows q0 (Nat.le_refl _) hg, kn_free q1 rfl, (fun h h0 => (q2 h h0).grows hg), (fun _ h => by cases h), (fun _ => o6.mono q0.size), h5, (fun _ => l5)⟩⟩
  · intro vs
    simp only [Act.put, List.setIfInBounds_toArray, List.set_cons_succ, List.set_cons_zero]
    rfl
  refine gent_nil ?_
  intro vs L W6 hall hS
  obtain ⟨hq, -, -, -, q6, -, -⟩ := HO.out _ _ _ hS
  have o6 := q6 (hall 6 (by omega))
  clear hall hS HI HO q6
  have hB6 := below_grows hB (Nat.le_refl _) hq
  replace k4 := k4.grows hq
  obtain ⟨A6, c6, e6, hc6, s6, -⟩ := o6.read
  generalize hF : formS ab = o at *
  clear hF h2 h3 o6 hq C1 C2 k2 k3 hfab
  have x4 := k4.cell 0
  have f4 := k4.frozen 0
  generalize vs 6 = y6 at *
  subst e6
  by_cases h64 : 64 < o.length
  · have HE : Hid (uniF l m = ([], 3)) := Lib.hid (by rw [HU.out, if_pos h64])
    clear HU
    go_wp2
    have k5 := k4.set_ 0 (.slice none 0 0)
    have hB4 := hB6.setCell (p := ⟨w.heap.size + 2, 0, none⟩) (by simp) (.slice none 0 0)
    generalize World.setCell _ _ _ = w5 at *
    have x5 : w5.cell? ⟨w.heap.size + 2, 0, none⟩ = some (.slice none 0 0) := by rw [k5.cell]; rfl
    clear x4 f4 k4 k5
    exact bodyPost_ret (v := .tuple #[.agg #[.slice none 0 0], .int .i64 3]) (by simp [results, Try.results22, go_sem, x5]) rfl ⟨⟨_, by rw [HE.out], by rw [HE.out]; exact setV_nil _⟩, hB4⟩
  · have HE : Hid (uniF l m = (o, 0)) := Lib.hid (by rw [HU.out, if_neg h64])
    clear HU
    go_wp2
    have k5 := k4.set_ 0 (.slice A6 o.length c6)
    have hB4 := hB6.setCell (p := ⟨w.heap.size + 2, 0, none⟩) (by simp) (.slice A6 o.length c6)
    have hr5 := s6.setOther k4 (.slice A6 o.length c6)
    generalize World.setCell _ _ _ = w5 at *
    have x5 : w5.cell? ⟨w.heap.size + 2, 0, none⟩ = some (.slice A6 o.length c6) := by rw [k5.cell]; rfl
    clear x4 f4 k4 k5
    exact bodyPost_ret (v := .tuple #[.agg #[.slice A6 o.length c6], .int .i64 0]) (by simp [results, Try.results22, go_sem, x5]) rfl ⟨⟨_, by rw [HE.out], by rw [HE.out]; exact ⟨A6, c6, rfl, hc6, hr5⟩⟩, hB4⟩
end Go.Proofs.Ytejdaodchaeglaa
