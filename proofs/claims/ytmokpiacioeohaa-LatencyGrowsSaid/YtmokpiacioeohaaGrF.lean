/-
  Graphs: links compared (the program): the library's cmp. Plain contracts.
-/
import Derived.Test.YtmokpiacioeohaaGrC
import Derived.Test.YtmokpiacioeohaaGenD
namespace Go.Proofs.Ytmokpiacioeohaa
open Go.RowKit
def cmp3 (a b : Int) : Int := if a < b then -1 else if b < a then 1 else 0
def orI : List Int → Int
  | [] => 0
  | x :: l => if x = 0 then orI l else x
def cmpL (x l : Q4) : Int := orI [cmp3 x.a l.a, cmp3 x.b l.b, cmp3 x.c l.c, cmp3 x.d l.d]
theorem cmp_neg (a b : Int) (l : List Int) : orI (cmp3 a b :: l) < 0 ↔ a < b ∨ (a = b ∧ orI l < 0) := by
  unfold cmp3
  simp only [orI]
  by_cases h1 : a < b
  · simp [h1]
  · by_cases h2 : b < a
    · simp [h1, h2]
      omega
    · have : a = b := by omega
      subst this
      simp
theorem cmpL_less (x l : Q4) : cmpL x l < 0 ↔ lessL x l = true := by
  unfold cmpL
  rw [cmp_neg, cmp_neg, cmp_neg, cmp_neg]
  simp only [orI, lessL]
  split
  · split
    · split
      · simp only [decide_eq_true_eq]; omega
      · simp only [decide_eq_true_eq]; omega
    · simp only [decide_eq_true_eq]; omega
  · simp only [decide_eq_true_eq]; omega
theorem nan_i (a : Int) (w : World) : Calls Try.prog 56 #[.int .i64 a] w fun e w' => e = .returned (.bool false) ∧ w = w' := by
  go_enter Try.func56, Try.ntmps56
  go_wp2
  go_ret
  exact ⟨rfl, rfl⟩
theorem cmp_i (a b : Int) (w : World) : Calls Try.prog 53 #[.int .i64 a, .int .i64 b] w fun e w' => e = .returned (.int .i64 (cmp3 a b)) ∧ w = w' := by
  rcases Int.lt_trichotomy a b with h | h | h
  · have HE : Hid (cmp3 a b = -1) := Lib.hid (by unfold cmp3; rw [if_pos h])
    go_enter Try.func53, Try.ntmps53
    go_wp2_with (go_at_call 56; refine (nan_i _ _).mono ?_; rintro e w' ⟨rfl, rfl⟩)
    go_ret
    exact ⟨by rw [HE.out]; rfl, rfl⟩
  · subst h
    have HE : Hid (cmp3 a a = 0) := Lib.hid (by unfold cmp3; rw [if_neg (by omega), if_neg (by omega)])
    go_enter Try.func53, Try.ntmps53
    go_wp2_with (go_at_call 56; refine (nan_i _ _).mono ?_; rintro e w' ⟨rfl, rfl⟩)
    go_ret
    exact ⟨by rw [HE.out]; rfl, rfl⟩
  · have HE : Hid (cmp3 a b = 1) := Lib.hid (by unfold cmp3; rw [if_neg (by omega), if_pos h])
    go_enter Try.func53, Try.ntmps53
    go_wp2_with (go_at_call 56; refine (nan_i _ _).mono ?_; rintro e w' ⟨rfl, rfl⟩)
    go_ret
    exact ⟨by rw [HE.out]; rfl, rfl⟩
theorem cmp_iD (a b : Int) (w : World) : Calls Try.prog 53 #[.int .i64 a, .int .i64 b] w fun e w' => e = .returned (.int .i64 (cmp3 a b)) ∧ Grows w w' := (cmp_i a b w).mono fun _ _ ⟨he, hw⟩ => ⟨he, hw ▸ Below.refl _ w⟩
theorem or_drop (l : List Int) (k : Nat) (h : ∀ j < k, l[j]? = some 0) : orI l = orI (l.drop k) := by
  induction k generalizing l with
  | zero => rfl
  | succ k ih =>
    cases l with
    | nil => rfl
    | cons x l =>
      have hx := h 0 (by omega)
      simp only [List.getElem?_cons_zero, Option.some.injEq] at hx
      subst hx
      simp only [orI, if_true, List.drop_succ_cons]
      exact ih l fun j hj => by have := h (j + 1) (by omega); simpa using this
theorem or_any (A : Option Addr) (c : Nat) (l : List Int) (w : World) (h : Reads w w.heap.size 1 A l.length (l.map (Value.int .i64))) (hl : l.length ≤ 9223372036854775807) :
    Calls Try.prog 52 #[.slice A l.length c] w fun e w' => e = .returned (.int .i64 (orI l)) ∧ w = w' := by
  go_enter Try.func52, Try.ntmps52
  go_wp2
  go_loop [8] (fun i => ∃ k : Nat, k ≤ l.length ∧ i = .int .i64 k ∧ ∀ j < k, l[j]? = some 0) (fun i => l.length - (intOf i).toNat)
  case atStart => exact ⟨0, Nat.zero_le _, rfl, fun j hj => by omega⟩
  case round =>
    obtain ⟨k, hk, rfl, hz⟩ := hrel
    have HO : Hid (orI l = orI (l.drop k)) := Lib.hid (or_drop l k hz)
    by_cases hlt : k < l.length
    · obtain ⟨ad, u, rfl, -, hu, hc⟩ := h.at_ hlt
      rw [List.getElem?_map] at hu
      obtain ⟨x, hx, rfl⟩ := Option.map_eq_some_iff.1 hu
      have HX : Hid (l.drop k = x :: l.drop (k + 1)) := Lib.hid (by
        obtain ⟨hj2, hyy⟩ := List.getElem?_eq_some_iff.1 hx
        rw [← hyy]
        exact List.drop_eq_getElem_cons hj2)
      have HZ : Hid (∀ j < k, l[j]? = some 0) := Lib.hid hz
      have HXX : Hid (l[k]? = some x) := Lib.hid hx
      clear hu hx hz
      by_cases h0 : x = 0
      · subst h0
        go_wp2
        go_round
        case rel => exact ⟨k + 1, by omega, by go_num, fun j hj => by
          rcases Nat.lt_succ_iff_lt_or_eq.1 hj with h | rfl
          · exact HZ.out j h
          · exact HXX.out⟩
        case measure => simp [intOf]; omega
      · have hne : ¬ x = 0 := h0
        go_wp2
        go_ret
        exact ⟨by rw [HO.out, HX.out]; simp only [orI]; rw [if_neg h0] <;> rfl, rfl⟩
    · have e0 : l.drop k = [] := List.drop_of_length_le (by omega)
      have HE : Hid (orI l = 0) := Lib.hid (by rw [HO.out, e0]; rfl)
      clear e0 hz HO
      go_wp2
      go_ret
      exact ⟨by rw [HE.out] <;> rfl, rfl⟩
/-- Some numbers in a new block. -/
def gInts (cs : Array Value) : GP := ⟨fun w v => ∃ g, v = .slice (some ⟨g, 0, none⟩) cs.size cs.size ∧ Blk w g 3 cs, fun _ _ _ ⟨g, e, h⟩ hg => ⟨g, e, h.grows hg⟩⟩
theorem or_four {g : Nat} {a b c d : Int} {w : World} (h : Blk w g 3 #[.int .i64 a, .int .i64 b, .int .i64 c, .int .i64 d]) :
    Calls Try.prog 52 #[.slice (some ⟨g, 0, none⟩) 4 4] w fun e' w' => e' = .returned (.int .i64 (orI [a, b, c, d])) ∧ Grows w w' := by
  have hr : Reads w w.heap.size 1 (some ⟨g, 0, none⟩) [a, b, c, d].length ([a, b, c, d].map (Value.int .i64)) := by
    refine ⟨rfl, fun _ => ⟨_, rfl, h.lt, fun j u hu => ?_⟩⟩
    have ha : (⟨g, 0, none⟩ : Addr).add j = ⟨g, j, none⟩ := by
      unfold Addr.add
      split
      · simp_all
      · simp
    rw [ha, h.cell]
    simpa using hu
  exact (or_any _ 4 _ w hr (by simp)).mono fun _ _ ⟨he, hw⟩ => ⟨he, hw ▸ Below.refl _ w⟩
set_option maxRecDepth 100000 in
set_option maxHeartbeats 4000000 in
theorem compare_any (x l : Q4) (w : World) :
    Calls Try.prog 47 #[.agg #[.int .i64 x.a, .int .i64 x.b, .int .i64 x.c, .int .i64 x.d], .agg #[.int .i64 l.a, .int .i64 l.b, .int .i64 l.c, .int .i64 l.d]] w fun e w' => e = .returned (.int .i64 (cmpL x l)) ∧ Grows w w' := by
  have k1 := (Blk.new w 52 #[.int .i64 x.a, .int .i64 x.b, .int .i64 x.c, .int .i64 x.d]).alloc (Obj.cells #[.int .i64 l.a, .int .i64 l.b, .int .i64 l.c, .int .i64 l.d] 52)
  have k2 := blk_new_at (X := w.alloc (Obj.cells #[.int .i64 x.a, .int .i64 x.b, .int .i64 x.c, .int .i64 x.d] 52)) (n := w.heap.size + 1) (t := 52) (cs := #[.int .i64 l.a, .int .i64 l.b, .int .i64 l.c, .int .i64 l.d]) (by simp)
  have hB := ((Below.refl w.heap.size w).alloc (Nat.le_refl _) (Obj.cells #[.int .i64 x.a, .int .i64 x.b, .int .i64 x.c, .int .i64 x.d] 52)).alloc (by simp) (Obj.cells #[.int .i64 l.a, .int .i64 l.b, .int .i64 l.c, .int .i64 l.d] 52)
  go_enter Try.func47, Try.ntmps47
  go_upto_region 1 with fail
  generalize World.alloc (World.alloc w _) _ = W1 at *
  generalize w.heap.size + 1 = G2 at *
  generalize hG1 : w.heap.size = G1 at *
  obtain ⟨S, HI, HO⟩ : ∃ S : Ran → (Nat → Value) → World → Prop, Hid (∀ L vs w', (Grows W1 w' ∧ KnS [some (.pointer (some ⟨G1, 0, none⟩)), some (.int .i64 x.a), some (.pointer (some ⟨G2, 0, none⟩)), some (.int .i64 l.a), some (.int .i64 (cmp3 x.a l.a)), some (.pointer (some ⟨G1, 1, none⟩)), some (.int .i64 x.b), some (.pointer (some ⟨G2, 1, none⟩)), some (.int .i64 l.b), some (.int .i64 (cmp3 x.b l.b)), some (.pointer (some ⟨G1, 2, none⟩)), some (.int .i64 x.c), some (.pointer (some ⟨G2, 2, none⟩)), some (.int .i64 l.c), some (.int .i64 (cmp3 x.c l.c)), some (.pointer (some ⟨G1, 3, none⟩)), some (.int .i64 x.d), some (.pointer (some ⟨G2, 3, none⟩)), some (.int .i64 l.d), some (.int .i64 (cmp3 x.d l.d)), none, some (.int .i64 (cmpL x l)), some (.int .i64 (cmpL x l))] L vs ∧ DsS [none, none, none, none, none, none, none, none, none, none, none, none, none, none, none, none, none, none, none, none, some (gInts #[.int .i64 (cmp3 x.a l.a), .int .i64 (cmp3 x.b l.b), .int .i64 (cmp3 x.c l.c), .int .i64 (cmp3 x.d l.d)]), none, none] L vs w') → S L vs w') ∧ Hid (∀ L vs w', S L vs w' → (Grows W1 w' ∧ KnS [some (.pointer (some ⟨G1, 0, none⟩)), some (.int .i64 x.a), some (.pointer (some ⟨G2, 0, none⟩)), some (.int .i64 l.a), some (.int .i64 (cmp3 x.a l.a)), some (.pointer (some ⟨G1, 1, none⟩)), some (.int .i64 x.b), some (.pointer (some ⟨G2, 1, none⟩)), some (.int .i64 l.b), some (.int .i64 (cmp3 x.b l.b)), some (.pointer (some ⟨G1, 2, none⟩)), some (.int .i64 x.c), some (.pointer (some ⟨G2, 2, none⟩)), some (.int .i64 l.c), some (.int .i64 (cmp3 x.c l.c)), some (.pointer (some ⟨G1, 3, none⟩)), some (.int .i64 x.d), some (.pointer (some ⟨G2, 3, none⟩)), some (.int .i64 l.d), some (.int .i64 (cmp3 x.d l.d)), none, some (.int .i64 (cmpL x l)), some (.int .i64 (cmpL x l))] L vs ∧ DsS [none, none, none, none, none, none, none, none, none, none, none, none, none, none, none, none, none, none, none, none, some (gInts #[.int .i64 (cmp3 x.a l.a), .int .i64 (cmp3 x.b l.b), .int .i64 (cmp3 x.c l.c), .int .i64 (cmp3 x.d l.d)]), none, none] L vs w')) := ⟨fun L vs w' => Grows W1 w' ∧ KnS [some (.pointer (some ⟨G1, 0, none⟩)), some (.int .i64 x.a), some (.pointer (some ⟨G2, 0, none⟩)), some (.int .i64 l.a), some (.int .i64 (cmp3 x.a l.a)), some (.pointer (some ⟨G1, 1, none⟩)), some (.int .i64 x.b), some (.pointer (some ⟨G2, 1, none⟩)), some (.int .i64 l.b), some (.int .i64 (cmp3 x.b l.b)), some (.pointer (some ⟨G1, 2, none⟩)), some (.int .i64 x.c), some (.pointer (some ⟨G2, 2, none⟩)), some (.int .i64 l.c), some (.int .i64 (cmp3 x.c l.c)), some (.pointer (some ⟨G1, 3, none⟩)), some (.int .i64 x.d), some (.pointer (some ⟨G2, 3, none⟩)), some (.int .i64 l.d), some (.int .i64 (cmp3 x.d l.d)), none, some (.int .i64 (cmpL x l)), some (.int .i64 (cmpL x l))] L vs ∧ DsS [none, none, none, none, none, none, none, none, none, none, none, none, none, none, none, none, none, none, none, none, some (gInts #[.int .i64 (cmp3 x.a l.a), .int .i64 (cmp3 x.b l.b), .int .i64 (cmp3 x.c l.c), .int .i64 (cmp3 x.d l.d)]), none, none] L vs w', fun _ _ _ h => h, fun _ _ _ h => h⟩
  refine wp_region_genW S 27 (by kernel_rfl) (by kernel_rfl) rfl ?_ ?_
  · exact HI.out _ _ _ ⟨Grows.drew' _, kn_none _ _, ds_none _ _ _⟩
  refine gen_cons (A' := ?_) (fun vs L w1 hL hw1 => ?_) ?_ ?_
  rotate_left 1
  · obtain ⟨q0, q1, q2⟩ := HO.out _ _ _ hw1
    refine gen_plain rfl ?_
    go_simp
    exact gr_val (HI.out _ _ _ ⟨q0, kn_known q1 rfl, ds_free q2 rfl⟩)
  · intro vs
    simp only [Act.put, List.setIfInBounds_toArray, List.set_cons_succ, List.set_cons_zero]
    rfl
  refine gen_cons (A' := ?_) (fun vs L w1 hL hw1 => ?_) ?_ ?_
  rotate_left 1
  · obtain ⟨q0, q1, q2⟩ := HO.out _ _ _ hw1
    refine gen_plain rfl ?_
    have l0 : L 0 = true := hL.need 0 (by kernel_rfl)
    have e0 := q1 0 _ rfl l0
    have x := (k1.grows q0).cell 0
    simp only [e0]
    go_simp
    exact gr_val (HI.out _ _ _ ⟨q0, kn_known q1 rfl, ds_free q2 rfl⟩)
  · intro vs
    simp only [Act.put, List.setIfInBounds_toArray, List.set_cons_succ, List.set_cons_zero]
    rfl
  refine gen_cons (A' := ?_) (fun vs L w1 hL hw1 => ?_) ?_ ?_
  rotate_left 1
  · obtain ⟨q0, q1, q2⟩ := HO.out _ _ _ hw1
    refine gen_plain rfl ?_
    go_simp
    exact gr_val (HI.out _ _ _ ⟨q0, kn_known q1 rfl, ds_free q2 rfl⟩)
  · intro vs
    simp only [Act.put, List.setIfInBounds_toArray, List.set_cons_succ, List.set_cons_zero]
    rfl
  refine gen_cons (A' := ?_) (fun vs L w1 hL hw1 => ?_) ?_ ?_
  rotate_left 1
  · obtain ⟨q0, q1, q2⟩ := HO.out _ _ _ hw1
    refine gen_plain rfl ?_
    have l2 : L 2 = true := hL.need 2 (by kernel_rfl)
    have e2 := q1 2 _ rfl l2
    have x := (k2.grows q0).cell 0
    simp only [e2]
    go_simp
    exact gr_val (HI.out _ _ _ ⟨q0, kn_known q1 rfl, ds_free q2 rfl⟩)
  · intro vs
    simp only [Act.put, List.setIfInBounds_toArray, List.set_cons_succ, List.set_cons_zero]
    rfl
  refine gen_cons (A' := ?_) (fun vs L w1 hL hw1 => ?_) ?_ ?_
  rotate_left 1
  · obtain ⟨q0, q1, q2⟩ := HO.out _ _ _ hw1
    refine gen_plain rfl ?_
    have l1 : L 1 = true := hL.need 1 (by kernel_rfl)
    have e1 := q1 1 _ rfl l1
    have l3 : L 3 = true := hL.need 3 (by kernel_rfl)
    have e3 := q1 3 _ rfl l3
    simp only [e1, e3]
    go_simp
    refine gr_call ?_
    refine (cmp_iD x.a l.a w1).mono ?_
    rintro e w2 ⟨rfl, hg⟩
    exact ⟨_, rfl, HI.out _ _ _ ⟨below_grows q0 (Nat.le_refl _) hg, kn_known q1 rfl, ds_free (q2.grows hg) rfl⟩⟩
  · intro vs
    simp only [Act.put, List.setIfInBounds_toArray, List.set_cons_succ, List.set_cons_zero]
    rfl
  refine gen_cons (A' := ?_) (fun vs L w1 hL hw1 => ?_) ?_ ?_
  rotate_left 1
  · obtain ⟨q0, q1, q2⟩ := HO.out _ _ _ hw1
    refine gen_plain rfl ?_
    go_simp
    exact gr_val (HI.out _ _ _ ⟨q0, kn_known q1 rfl, ds_free q2 rfl⟩)
  · intro vs
    simp only [Act.put, List.setIfInBounds_toArray, List.set_cons_succ, List.set_cons_zero]
    rfl
  refine gen_cons (A' := ?_) (fun vs L w1 hL hw1 => ?_) ?_ ?_
  rotate_left 1
  · obtain ⟨q0, q1, q2⟩ := HO.out _ _ _ hw1
    refine gen_plain rfl ?_
    have l5 : L 5 = true := hL.need 5 (by kernel_rfl)
    have e5 := q1 5 _ rfl l5
    have x := (k1.grows q0).cell 1
    simp only [e5]
    go_simp
    exact gr_val (HI.out _ _ _ ⟨q0, kn_known q1 rfl, ds_free q2 rfl⟩)
  · intro vs
    simp only [Act.put, List.setIfInBounds_toArray, List.set_cons_succ, List.set_cons_zero]
    rfl
  refine gen_cons (A' := ?_) (fun vs L w1 hL hw1 => ?_) ?_ ?_
  rotate_left 1
  · obtain ⟨q0, q1, q2⟩ := HO.out _ _ _ hw1
    refine gen_plain rfl ?_
    go_simp
    exact gr_val (HI.out _ _ _ ⟨q0, kn_known q1 rfl, ds_free q2 rfl⟩)
  · intro vs
    simp only [Act.put, List.setIfInBounds_toArray, List.set_cons_succ, List.set_cons_zero]
    rfl
  refine gen_cons (A' := ?_) (fun vs L w1 hL hw1 => ?_) ?_ ?_
  rotate_left 1
  · obtain ⟨q0, q1, q2⟩ := HO.out _ _ _ hw1
    refine gen_plain rfl ?_
    have l7 : L 7 = true := hL.need 7 (by kernel_rfl)
    have e7 := q1 7 _ rfl l7
    have x := (k2.grows q0).cell 1
    simp only [e7]
    go_simp
    exact gr_val (HI.out _ _ _ ⟨q0, kn_known q1 rfl, ds_free q2 rfl⟩)
  · intro vs
    simp only [Act.put, List.setIfInBounds_toArray, List.set_cons_succ, List.set_cons_zero]
    rfl
  refine gen_cons (A' := ?_) (fun vs L w1 hL hw1 => ?_) ?_ ?_
  rotate_left 1
  · obtain ⟨q0, q1, q2⟩ := HO.out _ _ _ hw1
    refine gen_plain rfl ?_
    have l6 : L 6 = true := hL.need 6 (by kernel_rfl)
    have e6 := q1 6 _ rfl l6
    have l8 : L 8 = true := hL.need 8 (by kernel_rfl)
    have e8 := q1 8 _ rfl l8
    simp only [e6, e8]
    go_simp
    refine gr_call ?_
    refine (cmp_iD x.b l.b w1).mono ?_
    rintro e w2 ⟨rfl, hg⟩
    exact ⟨_, rfl, HI.out _ _ _ ⟨below_grows q0 (Nat.le_refl _) hg, kn_known q1 rfl, ds_free (q2.grows hg) rfl⟩⟩
  · intro vs
    simp only [Act.put, List.setIfInBounds_toArray, List.set_cons_succ, List.set_cons_zero]
    rfl
  refine gen_cons (A' := ?_) (fun vs L w1 hL hw1 => ?_) ?_ ?_
  rotate_left 1
  · obtain ⟨q0, q1, q2⟩ := HO.out _ _ _ hw1
    refine gen_plain rfl ?_
    go_simp
    exact gr_val (HI.out _ _ _ ⟨q0, kn_known q1 rfl, ds_free q2 rfl⟩)
  · intro vs
    simp only [Act.put, List.setIfInBounds_toArray, List.set_cons_succ, List.set_cons_zero]
    rfl
  refine gen_cons (A' := ?_) (fun vs L w1 hL hw1 => ?_) ?_ ?_
  rotate_left 1
  · obtain ⟨q0, q1, q2⟩ := HO.out _ _ _ hw1
    refine gen_plain rfl ?_
    have l10 : L 10 = true := hL.need 10 (by kernel_rfl)
    have e10 := q1 10 _ rfl l10
    have x := (k1.grows q0).cell 2
    simp only [e10]
    go_simp
    exact gr_val (HI.out _ _ _ ⟨q0, kn_known q1 rfl, ds_free q2 rfl⟩)
  · intro vs
    simp only [Act.put, List.setIfInBounds_toArray, List.set_cons_succ, List.set_cons_zero]
    rfl
  refine gen_cons (A' := ?_) (fun vs L w1 hL hw1 => ?_) ?_ ?_
  rotate_left 1
  · obtain ⟨q0, q1, q2⟩ := HO.out _ _ _ hw1
    refine gen_plain rfl ?_
    go_simp
    exact gr_val (HI.out _ _ _ ⟨q0, kn_known q1 rfl, ds_free q2 rfl⟩)
  · intro vs
    simp only [Act.put, List.setIfInBounds_toArray, List.set_cons_succ, List.set_cons_zero]
    rfl
  refine gen_cons (A' := ?_) (fun vs L w1 hL hw1 => ?_) ?_ ?_
  rotate_left 1
  · obtain ⟨q0, q1, q2⟩ := HO.out _ _ _ hw1
    refine gen_plain rfl ?_
    have l12 : L 12 = true := hL.need 12 (by kernel_rfl)
    have e12 := q1 12 _ rfl l12
    have x := (k2.grows q0).cell 2
    simp only [e12]
    go_simp
    exact gr_val (HI.out _ _ _ ⟨q0, kn_known q1 rfl, ds_free q2 rfl⟩)
  · intro vs
    simp only [Act.put, List.setIfInBounds_toArray, List.set_cons_succ, List.set_cons_zero]
    rfl
  refine gen_cons (A' := ?_) (fun vs L w1 hL hw1 => ?_) ?_ ?_
  rotate_left 1
  · obtain ⟨q0, q1, q2⟩ := HO.out _ _ _ hw1
    refine gen_plain rfl ?_
    have l11 : L 11 = true := hL.need 11 (by kernel_rfl)
    have e11 := q1 11 _ rfl l11
    have l13 : L 13 = true := hL.need 13 (by kernel_rfl)
    have e13 := q1 13 _ rfl l13
    simp only [e11, e13]
    go_simp
    refine gr_call ?_
    refine (cmp_iD x.c l.c w1).mono ?_
    rintro e w2 ⟨rfl, hg⟩
    exact ⟨_, rfl, HI.out _ _ _ ⟨below_grows q0 (Nat.le_refl _) hg, kn_known q1 rfl, ds_free (q2.grows hg) rfl⟩⟩
  · intro vs
    simp only [Act.put, List.setIfInBounds_toArray, List.set_cons_succ, List.set_cons_zero]
    rfl
  refine gen_cons (A' := ?_) (fun vs L w1 hL hw1 => ?_) ?_ ?_
  rotate_left 1
  · obtain ⟨q0, q1, q2⟩ := HO.out _ _ _ hw1
    refine gen_plain rfl ?_
    go_simp
    exact gr_val (HI.out _ _ _ ⟨q0, kn_known q1 rfl, ds_free q2 rfl⟩)
  · intro vs
    simp only [Act.put, List.setIfInBounds_toArray, List.set_cons_succ, List.set_cons_zero]
    rfl
  refine gen_cons (A' := ?_) (fun vs L w1 hL hw1 => ?_) ?_ ?_
  rotate_left 1
  · obtain ⟨q0, q1, q2⟩ := HO.out _ _ _ hw1
    refine gen_plain rfl ?_
    have l15 : L 15 = true := hL.need 15 (by kernel_rfl)
    have e15 := q1 15 _ rfl l15
    have x := (k1.grows q0).cell 3
    simp only [e15]
    go_simp
    exact gr_val (HI.out _ _ _ ⟨q0, kn_known q1 rfl, ds_free q2 rfl⟩)
  · intro vs
    simp only [Act.put, List.setIfInBounds_toArray, List.set_cons_succ, List.set_cons_zero]
    rfl
  refine gen_cons (A' := ?_) (fun vs L w1 hL hw1 => ?_) ?_ ?_
  rotate_left 1
  · obtain ⟨q0, q1, q2⟩ := HO.out _ _ _ hw1
    refine gen_plain rfl ?_
    go_simp
    exact gr_val (HI.out _ _ _ ⟨q0, kn_known q1 rfl, ds_free q2 rfl⟩)
  · intro vs
    simp only [Act.put, List.setIfInBounds_toArray, List.set_cons_succ, List.set_cons_zero]
    rfl
  refine gen_cons (A' := ?_) (fun vs L w1 hL hw1 => ?_) ?_ ?_
  rotate_left 1
  · obtain ⟨q0, q1, q2⟩ := HO.out _ _ _ hw1
    refine gen_plain rfl ?_
    have l17 : L 17 = true := hL.need 17 (by kernel_rfl)
    have e17 := q1 17 _ rfl l17
    have x := (k2.grows q0).cell 3
    simp only [e17]
    go_simp
    exact gr_val (HI.out _ _ _ ⟨q0, kn_known q1 rfl, ds_free q2 rfl⟩)
  · intro vs
    simp only [Act.put, List.setIfInBounds_toArray, List.set_cons_succ, List.set_cons_zero]
    rfl
  refine gen_cons (A' := ?_) (fun vs L w1 hL hw1 => ?_) ?_ ?_
  rotate_left 1
  · obtain ⟨q0, q1, q2⟩ := HO.out _ _ _ hw1
    refine gen_plain rfl ?_
    have l16 : L 16 = true := hL.need 16 (by kernel_rfl)
    have e16 := q1 16 _ rfl l16
    have l18 : L 18 = true := hL.need 18 (by kernel_rfl)
    have e18 := q1 18 _ rfl l18
    simp only [e16, e18]
    go_simp
    refine gr_call ?_
    refine (cmp_iD x.d l.d w1).mono ?_
    rintro e w2 ⟨rfl, hg⟩
    exact ⟨_, rfl, HI.out _ _ _ ⟨below_grows q0 (Nat.le_refl _) hg, kn_known q1 rfl, ds_free (q2.grows hg) rfl⟩⟩
  · intro vs
    simp only [Act.put, List.setIfInBounds_toArray, List.set_cons_succ, List.set_cons_zero]
    rfl
  refine gen_cons (A' := ?_) (fun vs L w1 hL hw1 => ?_) ?_ ?_
  rotate_left 1
  · obtain ⟨q0, q1, q2⟩ := HO.out _ _ _ hw1
    refine gen_plain rfl ?_
    have l4 : L 4 = true := hL.need 4 (by kernel_rfl)
    have e4 := q1 4 _ rfl l4
    have l9 : L 9 = true := hL.need 9 (by kernel_rfl)
    have e9 := q1 9 _ rfl l9
    have l14 : L 14 = true := hL.need 14 (by kernel_rfl)
    have e14 := q1 14 _ rfl l14
    have l19 : L 19 = true := hL.need 19 (by kernel_rfl)
    have e19 := q1 19 _ rfl l19
    simp only [e4, e9, e14, e19]
    go_simp
    have hg := (Below.refl w1.heap.size w1).alloc (Nat.le_refl _) (Obj.cells #[.int .i64 (cmp3 x.a l.a), .int .i64 (cmp3 x.b l.b), .int .i64 (cmp3 x.c l.c), .int .i64 (cmp3 x.d l.d)] 3)
    exact gr_val (HI.out _ _ _ ⟨below_grows q0 (Nat.le_refl _) hg, kn_free q1 rfl, ds_put (q2.grows hg) rfl ⟨_, rfl, Blk.new _ _ _⟩⟩)
  · intro vs
    simp only [Act.put, List.setIfInBounds_toArray, List.set_cons_succ, List.set_cons_zero]
    rfl
  refine gen_cons (A' := ?_) (fun vs L w1 hL hw1 => ?_) ?_ ?_
  rotate_left 1
  · obtain ⟨q0, q1, q2⟩ := HO.out _ _ _ hw1
    refine gen_plain rfl ?_
    have l20 : L 20 = true := hL.need 20 (by kernel_rfl)
    obtain ⟨g20, e20, k20⟩ := q2 20 _ rfl l20
    simp only [e20]
    go_simp
    refine gr_call ?_
    refine (or_four k20).mono ?_
    rintro e w2 ⟨rfl, hg⟩
    exact ⟨_, rfl, HI.out _ _ _ ⟨below_grows q0 (Nat.le_refl _) hg, kn_known q1 rfl, ds_free (q2.grows hg) rfl⟩⟩
  · intro vs
    simp only [Act.put, List.setIfInBounds_toArray, List.set_cons_succ, List.set_cons_zero]
    rfl
  refine gen_cons (A' := ?_) (fun vs L w1 hL hw1 => ?_) ?_ ?_
  rotate_left 1
  · obtain ⟨q0, q1, q2⟩ := HO.out _ _ _ hw1
    refine gen_plain rfl ?_
    have l21 : L 21 = true := hL.need 21 (by kernel_rfl)
    have e21 := q1 21 _ rfl l21
    simp only [e21]
    go_simp
    exact gr_val (HI.out _ _ _ ⟨q0, kn_known q1 rfl, ds_free q2 rfl⟩)
  · intro vs
    simp only [Act.put, List.setIfInBounds_toArray, List.set_cons_succ, List.set_cons_zero]
    rfl
  refine gen_nil ?_
  intro vs L W6 hall hS
  obtain ⟨hq, q1, q2⟩ := HO.out _ _ _ hS
  have eX22 := q1 22 _ rfl (hall 22 (by simp))
  clear hall hS HI HO q1 q2
  simp only [eX22]
  go_wp2
  go_ret
  subst hG1
  exact ⟨rfl, below_grows hB (Nat.le_refl _) hq⟩
end Go.Proofs.Ytmokpiacioeohaa
