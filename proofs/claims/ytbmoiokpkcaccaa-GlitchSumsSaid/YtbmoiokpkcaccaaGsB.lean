/-
  Layer 37: comparisons: the library's cmp, compare, Less of both. Plain contracts.
-/
import Derived.Test.YtbmoiokpkcaccaaGsL
import Derived.Test.YtbmoiokpkcaccaaGsA
import Derived.Test.YtbmoiokpkcaccaaGenD
import Derived.Sort.Grow
namespace Go.Proofs.Ytbmoiokpkcaccaa
open Go.RowKit Go.Sort
/-- Draws and new blocks alone. -/
def GrD (w w' : World) : Prop := ∃ q os, w' = grow (w.drewN q) os
theorem GrD.refl (w : World) : GrD w w := ⟨0, #[], by rw [grow_empty]; rfl⟩
theorem GrD.trans {a b c : World} (h : GrD a b) (k : GrD b c) : GrD a c := by
  obtain ⟨q, os, rfl⟩ := h
  obtain ⟨q', os', rfl⟩ := k
  exact ⟨q + q', os ++ os', by simp [grow, World.drewN, Nat.add_assoc, Array.append_assoc]⟩
theorem GrD.drew' (w : World) : GrD w w.drew := ⟨1, #[], by rw [grow_empty]; rfl⟩
theorem GrD.alloc' (w : World) (o : Obj) : GrD w (w.alloc o) := ⟨0, #[o], by rw [alloc_eq_grow]; rfl⟩
theorem GrD.grows {w w' : World} (h : GrD w w') : Grows w w' := by
  obtain ⟨q, os, rfl⟩ := h
  refine ⟨rfl, rfl, rfl, by simp [grow, World.drewN], fun j hj => ?_⟩
  unfold grow World.drewN
  simp only []
  rw [Array.getElem?_append_left hj]
theorem nan_l (a : Int) (w : World) : Calls Try.prog 46 #[.int .i64 a] w fun e w' => e = .returned (.bool false) ∧ w = w' := by
  go_enter Try.func46, Try.ntmps46
  go_wp2
  go_ret
  exact ⟨rfl, rfl⟩
theorem cmp_l (a b : Int) (w : World) : Calls Try.prog 33 #[.int .i64 a, .int .i64 b] w fun e w' => e = .returned (.int .i64 (cmp3 a b)) ∧ w = w' := by
  rcases Int.lt_trichotomy a b with h | h | h
  · have HE : Hid (cmp3 a b = -1) := Lib.hid (by unfold cmp3; rw [if_pos h])
    go_enter Try.func33, Try.ntmps33
    go_wp2_with (go_at_call 46; refine (nan_l _ _).mono ?_; rintro e w' ⟨rfl, rfl⟩)
    go_ret
    exact ⟨by rw [HE.out]; rfl, rfl⟩
  · subst h
    have HE : Hid (cmp3 a a = 0) := Lib.hid (by unfold cmp3; rw [if_neg (by omega), if_neg (by omega)])
    go_enter Try.func33, Try.ntmps33
    go_wp2_with (go_at_call 46; refine (nan_l _ _).mono ?_; rintro e w' ⟨rfl, rfl⟩)
    go_ret
    exact ⟨by rw [HE.out]; rfl, rfl⟩
  · have HE : Hid (cmp3 a b = 1) := Lib.hid (by unfold cmp3; rw [if_neg (by omega), if_pos h])
    go_enter Try.func33, Try.ntmps33
    go_wp2_with (go_at_call 46; refine (nan_l _ _).mono ?_; rintro e w' ⟨rfl, rfl⟩)
    go_ret
    exact ⟨by rw [HE.out]; rfl, rfl⟩
theorem cmp_lD (a b : Int) (w : World) : Calls Try.prog 33 #[.int .i64 a, .int .i64 b] w fun e w' => e = .returned (.int .i64 (cmp3 a b)) ∧ GrD w w' := (cmp_l a b w).mono fun _ _ ⟨he, hw⟩ => ⟨he, hw ▸ GrD.refl w⟩
theorem nan_i (a : Int) (w : World) : Calls Try.prog 47 #[.int .i64 a] w fun e w' => e = .returned (.bool false) ∧ w = w' := by
  go_enter Try.func47, Try.ntmps47
  go_wp2
  go_ret
  exact ⟨rfl, rfl⟩
theorem cmp_i (a b : Int) (w : World) : Calls Try.prog 34 #[.int .i64 a, .int .i64 b] w fun e w' => e = .returned (.int .i64 (cmp3 a b)) ∧ w = w' := by
  rcases Int.lt_trichotomy a b with h | h | h
  · have HE : Hid (cmp3 a b = -1) := Lib.hid (by unfold cmp3; rw [if_pos h])
    go_enter Try.func34, Try.ntmps34
    go_wp2_with (go_at_call 47; refine (nan_i _ _).mono ?_; rintro e w' ⟨rfl, rfl⟩)
    go_ret
    exact ⟨by rw [HE.out]; rfl, rfl⟩
  · subst h
    have HE : Hid (cmp3 a a = 0) := Lib.hid (by unfold cmp3; rw [if_neg (by omega), if_neg (by omega)])
    go_enter Try.func34, Try.ntmps34
    go_wp2_with (go_at_call 47; refine (nan_i _ _).mono ?_; rintro e w' ⟨rfl, rfl⟩)
    go_ret
    exact ⟨by rw [HE.out]; rfl, rfl⟩
  · have HE : Hid (cmp3 a b = 1) := Lib.hid (by unfold cmp3; rw [if_neg (by omega), if_pos h])
    go_enter Try.func34, Try.ntmps34
    go_wp2_with (go_at_call 47; refine (nan_i _ _).mono ?_; rintro e w' ⟨rfl, rfl⟩)
    go_ret
    exact ⟨by rw [HE.out]; rfl, rfl⟩
theorem cmp_iD (a b : Int) (w : World) : Calls Try.prog 34 #[.int .i64 a, .int .i64 b] w fun e w' => e = .returned (.int .i64 (cmp3 a b)) ∧ GrD w w' := (cmp_i a b w).mono fun _ _ ⟨he, hw⟩ => ⟨he, hw ▸ GrD.refl w⟩
theorem nan_u (a : Int) (w : World) : Calls Try.prog 48 #[.int .u64 a] w fun e w' => e = .returned (.bool false) ∧ w = w' := by
  go_enter Try.func48, Try.ntmps48
  go_wp2
  go_ret
  exact ⟨rfl, rfl⟩
theorem cmp_u (a b : Int) (w : World) : Calls Try.prog 35 #[.int .u64 a, .int .u64 b] w fun e w' => e = .returned (.int .i64 (cmp3 a b)) ∧ w = w' := by
  rcases Int.lt_trichotomy a b with h | h | h
  · have HE : Hid (cmp3 a b = -1) := Lib.hid (by unfold cmp3; rw [if_pos h])
    go_enter Try.func35, Try.ntmps35
    go_wp2_with (go_at_call 48; refine (nan_u _ _).mono ?_; rintro e w' ⟨rfl, rfl⟩)
    go_ret
    exact ⟨by rw [HE.out]; rfl, rfl⟩
  · subst h
    have HE : Hid (cmp3 a a = 0) := Lib.hid (by unfold cmp3; rw [if_neg (by omega), if_neg (by omega)])
    go_enter Try.func35, Try.ntmps35
    go_wp2_with (go_at_call 48; refine (nan_u _ _).mono ?_; rintro e w' ⟨rfl, rfl⟩)
    go_ret
    exact ⟨by rw [HE.out]; rfl, rfl⟩
  · have HE : Hid (cmp3 a b = 1) := Lib.hid (by unfold cmp3; rw [if_neg (by omega), if_pos h])
    go_enter Try.func35, Try.ntmps35
    go_wp2_with (go_at_call 48; refine (nan_u _ _).mono ?_; rintro e w' ⟨rfl, rfl⟩)
    go_ret
    exact ⟨by rw [HE.out]; rfl, rfl⟩
theorem cmp_uD (a b : Int) (w : World) : Calls Try.prog 35 #[.int .u64 a, .int .u64 b] w fun e w' => e = .returned (.int .i64 (cmp3 a b)) ∧ GrD w w' := (cmp_u a b w).mono fun _ _ ⟨he, hw⟩ => ⟨he, hw ▸ GrD.refl w⟩
theorem or_drop (l : List Int) (k : Nat) (h : ∀ j < k, l[j]? = some 0) : orI l = orI (l.drop k) := by
  induction k generalizing l with
  | zero => rfl
  | succ k ih =>
    cases l with
    | nil => rfl
    | cons x l =>
      have hx := h 0 (by omega)
      simp only [List.getElem?_cons_zero, Option.some.injEq] at hx
      subst hx
      simp only [orI, if_true, List.drop_succ_cons]
      exact ih l fun j hj => by have := h (j + 1) (by omega); simpa using this
theorem or_any (A : Option Addr) (c : Nat) (l : List Int) (w : World) (h : Reads w w.heap.size 1 A l.length (l.map (Value.int .i64))) (hl : l.length ≤ 9223372036854775807) :
    Calls Try.prog 32 #[.slice A l.length c] w fun e w' => e = .returned (.int .i64 (orI l)) ∧ w = w' := by
  go_enter Try.func32, Try.ntmps32
  go_wp2
  go_loop [8] (fun i => ∃ k : Nat, k ≤ l.length ∧ i = .int .i64 k ∧ ∀ j < k, l[j]? = some 0) (fun i => l.length - (intOf i).toNat)
  case atStart => exact ⟨0, Nat.zero_le _, rfl, fun j hj => by omega⟩
  case round =>
    obtain ⟨k, hk, rfl, hz⟩ := hrel
    have HO : Hid (orI l = orI (l.drop k)) := Lib.hid (or_drop l k hz)
    by_cases hlt : k < l.length
    · obtain ⟨ad, u, rfl, -, hu, hc⟩ := h.at_ hlt
      rw [List.getElem?_map] at hu
      obtain ⟨x, hx, rfl⟩ := Option.map_eq_some_iff.1 hu
      have HX : Hid (l.drop k = x :: l.drop (k + 1)) := Lib.hid (by
        obtain ⟨hj2, hyy⟩ := List.getElem?_eq_some_iff.1 hx
        rw [← hyy]
        exact List.drop_eq_getElem_cons hj2)
      have HZ : Hid (∀ j < k, l[j]? = some 0) := Lib.hid hz
      have HXX : Hid (l[k]? = some x) := Lib.hid hx
      clear hu hx hz
      by_cases h0 : x = 0
      · subst h0
        go_wp2
        go_round
        case rel => exact ⟨k + 1, by omega, by go_num, fun j hj => by
          rcases Nat.lt_succ_iff_lt_or_eq.1 hj with h | rfl
          · exact HZ.out j h
          · exact HXX.out⟩
        case measure => simp [intOf]; omega
      · have hne : ¬ x = 0 := h0
        go_wp2
        go_ret
        exact ⟨by rw [HO.out, HX.out]; simp only [orI]; rw [if_neg h0] <;> rfl, rfl⟩
    · have e0 : l.drop k = [] := List.drop_of_length_le (by omega)
      have HE : Hid (orI l = 0) := Lib.hid (by rw [HO.out, e0]; rfl)
      clear e0 hz HO
      go_wp2
      go_ret
      exact ⟨by rw [HE.out] <;> rfl, rfl⟩
/-- Some numbers in a new block. -/
def gInts (cs : Array Value) : GP := ⟨fun w v => ∃ g, v = .slice (some ⟨g, 0, none⟩) cs.size cs.size ∧ Blk w g 3 cs, fun _ _ _ ⟨g, e, h⟩ hg => ⟨g, e, h.grows hg⟩⟩
theorem or_six {g : Nat} {a b c d e f : Int} {w : World} (h : Blk w g 3 #[.int .i64 a, .int .i64 b, .int .i64 c, .int .i64 d, .int .i64 e, .int .i64 f]) :
    Calls Try.prog 32 #[.slice (some ⟨g, 0, none⟩) 6 6] w fun e' w' => e' = .returned (.int .i64 (orI [a, b, c, d, e, f])) ∧ GrD w w' := by
  have hr : Reads w w.heap.size 1 (some ⟨g, 0, none⟩) [a, b, c, d, e, f].length ([a, b, c, d, e, f].map (Value.int .i64)) := by
    refine ⟨rfl, fun _ => ⟨_, rfl, h.lt, fun j u hu => ?_⟩⟩
    have ha : (⟨g, 0, none⟩ : Addr).add j = ⟨g, j, none⟩ := by
      unfold Addr.add
      split
      · simp_all
      · simp
    rw [ha, h.cell]
    simpa using hu
  exact (or_any _ 6 _ w hr (by simp)).mono fun _ _ ⟨he, hw⟩ => ⟨he, hw ▸ GrD.refl w⟩
set_option maxRecDepth 100000 in
set_option maxHeartbeats 4000000 in
theorem compare_any (k a q s d f kk aa qq ss dd ff : Int) (w : World) :
    Calls Try.prog 25 #[.agg #[.int .i64 k, .int .i64 a, .int .i64 q, .int .i64 s, .int .u64 d, .int .i64 f], .agg #[.int .i64 kk, .int .i64 aa, .int .i64 qq, .int .i64 ss, .int .u64 dd, .int .i64 ff]] w fun e w' => e = .returned (.int .i64 (cmpG ⟨k, a, q, s, d, f⟩ ⟨kk, aa, qq, ss, dd, ff⟩)) ∧ GrD w w' := by
  have k1 := (Blk.new w 28 #[.int .i64 k, .int .i64 a, .int .i64 q, .int .i64 s, .int .u64 d, .int .i64 f]).alloc (Obj.cells #[.int .i64 kk, .int .i64 aa, .int .i64 qq, .int .i64 ss, .int .u64 dd, .int .i64 ff] 28)
  have k2 := blk_new_at (X := w.alloc (Obj.cells #[.int .i64 k, .int .i64 a, .int .i64 q, .int .i64 s, .int .u64 d, .int .i64 f] 28)) (n := w.heap.size + 1) (t := 28) (cs := #[.int .i64 kk, .int .i64 aa, .int .i64 qq, .int .i64 ss, .int .u64 dd, .int .i64 ff]) (by simp)
  have hB := (GrD.alloc' w (Obj.cells #[.int .i64 k, .int .i64 a, .int .i64 q, .int .i64 s, .int .u64 d, .int .i64 f] 28)).trans (GrD.alloc' _ (Obj.cells #[.int .i64 kk, .int .i64 aa, .int .i64 qq, .int .i64 ss, .int .u64 dd, .int .i64 ff] 28))
  go_enter Try.func25, Try.ntmps25
  go_upto_region 1 with fail
  generalize World.alloc (World.alloc w _) _ = W1 at *
  generalize w.heap.size + 1 = G2 at *
  generalize w.heap.size = G1 at *
  obtain ⟨S, HI, HO⟩ : ∃ S : Ran → (Nat → Value) → World → Prop, Hid (∀ L vs w', (GrD W1 w' ∧ KnS [some (.pointer (some ⟨G1, 1, none⟩)), some (.int .i64 a), some (.pointer (some ⟨G2, 1, none⟩)), some (.int .i64 aa), some (.int .i64 (cmp3 a aa)), some (.pointer (some ⟨G1, 0, none⟩)), some (.int .i64 k), some (.pointer (some ⟨G2, 0, none⟩)), some (.int .i64 kk), some (.int .i64 (cmp3 k kk)), some (.pointer (some ⟨G1, 3, none⟩)), some (.int .i64 s), some (.pointer (some ⟨G2, 3, none⟩)), some (.int .i64 ss), some (.int .i64 (cmp3 s ss)), some (.pointer (some ⟨G1, 4, none⟩)), some (.int .u64 d), some (.pointer (some ⟨G2, 4, none⟩)), some (.int .u64 dd), some (.int .i64 (cmp3 d dd)), some (.pointer (some ⟨G1, 2, none⟩)), some (.int .i64 q), some (.pointer (some ⟨G2, 2, none⟩)), some (.int .i64 qq), some (.int .i64 (cmp3 q qq)), some (.pointer (some ⟨G1, 5, none⟩)), some (.int .i64 f), some (.pointer (some ⟨G2, 5, none⟩)), some (.int .i64 ff), some (.int .i64 (cmp3 f ff)), none, some (.int .i64 (cmpG ⟨k, a, q, s, d, f⟩ ⟨kk, aa, qq, ss, dd, ff⟩)), some (.int .i64 (cmpG ⟨k, a, q, s, d, f⟩ ⟨kk, aa, qq, ss, dd, ff⟩))] L vs ∧ DsS [none, none, none, none, none, none, none, none, none, none, none, none, none, none, none, none, none, none, none, none, none, none, none, none, none, none, none, none, none, none, some (gInts #[.int .i64 (cmp3 a aa), .int .i64 (cmp3 k kk), .int .i64 (cmp3 s ss), .int .i64 (cmp3 d dd), .int .i64 (cmp3 q qq), .int .i64 (cmp3 f ff)]), none, none] L vs w') → S L vs w') ∧ Hid (∀ L vs w', S L vs w' → (GrD W1 w' ∧ KnS [some (.pointer (some ⟨G1, 1, none⟩)), some (.int .i64 a), some (.pointer (some ⟨G2, 1, none⟩)), some (.int .i64 aa), some (.int .i64 (cmp3 a aa)), some (.pointer (some ⟨G1, 0, none⟩)), some (.int .i64 k), some (.pointer (some ⟨G2, 0, none⟩)), some (.int .i64 kk), some (.int .i64 (cmp3 k kk)), some (.pointer (some ⟨G1, 3, none⟩)), some (.int .i64 s), some (.pointer (some ⟨G2, 3, none⟩)), some (.int .i64 ss), some (.int .i64 (cmp3 s ss)), some (.pointer (some ⟨G1, 4, none⟩)), some (.int .u64 d), some (.pointer (some ⟨G2, 4, none⟩)), some (.int .u64 dd), some (.int .i64 (cmp3 d dd)), some (.pointer (some ⟨G1, 2, none⟩)), some (.int .i64 q), some (.pointer (some ⟨G2, 2, none⟩)), some (.int .i64 qq), some (.int .i64 (cmp3 q qq)), some (.pointer (some ⟨G1, 5, none⟩)), some (.int .i64 f), some (.pointer (some ⟨G2, 5, none⟩)), some (.int .i64 ff), some (.int .i64 (cmp3 f ff)), none, some (.int .i64 (cmpG ⟨k, a, q, s, d, f⟩ ⟨kk, aa, qq, ss, dd, ff⟩)), some (.int .i64 (cmpG ⟨k, a, q, s, d, f⟩ ⟨kk, aa, qq, ss, dd, ff⟩))] L vs ∧ DsS [none, none, none, none, none, none, none, none, none, none, none, none, none, none, none, none, none, none, none, none, none, none, none, none, none, none, none, none, none, none, some (gInts #[.int .i64 (cmp3 a aa), .int .i64 (cmp3 k kk), .int .i64 (cmp3 s ss), .int .i64 (cmp3 d dd), .int .i64 (cmp3 q qq), .int .i64 (cmp3 f ff)]), none, none] L vs w')) := ⟨fun L vs w' => GrD W1 w' ∧ KnS [some (.pointer (some ⟨G1, 1, none⟩)), some (.int .i64 a), some (.pointer (some ⟨G2, 1, none⟩)), some (.int .i64 aa), some (.int .i64 (cmp3 a aa)), some (.pointer (some ⟨G1, 0, none⟩)), some (.int .i64 k), some (.pointer (some ⟨G2, 0, none⟩)), some (.int .i64 kk), some (.int .i64 (cmp3 k kk)), some (.pointer (some ⟨G1, 3, none⟩)), some (.int .i64 s), some (.pointer (some ⟨G2, 3, none⟩)), some (.int .i64 ss), some (.int .i64 (cmp3 s ss)), some (.pointer (some ⟨G1, 4, none⟩)), some (.int .u64 d), some (.pointer (some ⟨G2, 4, none⟩)), some (.int .u64 dd), some (.int .i64 (cmp3 d dd)), some (.pointer (some ⟨G1, 2, none⟩)), some (.int .i64 q), some (.pointer (some ⟨G2, 2, none⟩)), some (.int .i64 qq), some (.int .i64 (cmp3 q qq)), some (.pointer (some ⟨G1, 5, none⟩)), some (.int .i64 f), some (.pointer (some ⟨G2, 5, none⟩)), some (.int .i64 ff), some (.int .i64 (cmp3 f ff)), none, some (.int .i64 (cmpG ⟨k, a, q, s, d, f⟩ ⟨kk, aa, qq, ss, dd, ff⟩)), some (.int .i64 (cmpG ⟨k, a, q, s, d, f⟩ ⟨kk, aa, qq, ss, dd, ff⟩))] L vs ∧ DsS [none, none, none, none, none, none, none, none, none, none, none, none, none, none, none, none, none, none, none, none, none, none, none, none, none, none, none, none, none, none, some (gInts #[.int .i64 (cmp3 a aa), .int .i64 (cmp3 k kk), .int .i64 (cmp3 s ss), .int .i64 (cmp3 d dd), .int .i64 (cmp3 q qq), .int .i64 (cmp3 f ff)]), none, none] L vs w', fun _ _ _ h => h, fun _ _ _ h => h⟩
  refine wp_region_genW S 37 (by kernel_rfl) (by kernel_rfl) rfl ?_ ?_
  · exact HI.out _ _ _ ⟨GrD.drew' _, kn_none _ _, ds_none _ _ _⟩
  refine gen_cons (A' := ?_) (fun vs L w1 hL hw1 => ?_) ?_ ?_
  rotate_left 1
  · obtain ⟨q0, q1, q2⟩ := HO.out _ _ _ hw1
    refine gen_plain rfl ?_
    go_simp
    exact gr_val (HI.out _ _ _ ⟨q0, kn_known q1 rfl, ds_free q2 rfl⟩)
  · intro vs
    simp only [Act.put, List.setIfInBounds_toArray, List.set_cons_succ, List.set_cons_zero]
    rfl
  refine gen_cons (A' := ?_) (fun vs L w1 hL hw1 => ?_) ?_ ?_
  rotate_left 1
  · obtain ⟨q0, q1, q2⟩ := HO.out _ _ _ hw1
    refine gen_plain rfl ?_
    have l0 : L 0 = true := hL.need 0 (by kernel_rfl)
    have e0 := q1 0 _ rfl l0
    have x := (k1.grows q0.grows).cell 1
    simp only [e0]
    go_simp
    exact gr_val (HI.out _ _ _ ⟨q0, kn_known q1 rfl, ds_free q2 rfl⟩)
  · intro vs
    simp only [Act.put, List.setIfInBounds_toArray, List.set_cons_succ, List.set_cons_zero]
    rfl
  refine gen_cons (A' := ?_) (fun vs L w1 hL hw1 => ?_) ?_ ?_
  rotate_left 1
  · obtain ⟨q0, q1, q2⟩ := HO.out _ _ _ hw1
    refine gen_plain rfl ?_
    go_simp
    exact gr_val (HI.out _ _ _ ⟨q0, kn_known q1 rfl, ds_free q2 rfl⟩)
  · intro vs
    simp only [Act.put, List.setIfInBounds_toArray, List.set_cons_succ, List.set_cons_zero]
    rfl
  refine gen_cons (A' := ?_) (fun vs L w1 hL hw1 => ?_) ?_ ?_
  rotate_left 1
  · obtain ⟨q0, q1, q2⟩ := HO.out _ _ _ hw1
    refine gen_plain rfl ?_
    have l2 : L 2 = true := hL.need 2 (by kernel_rfl)
    have e2 := q1 2 _ rfl l2
    have x := (k2.grows q0.grows).cell 1
    simp only [e2]
    go_simp
    exact gr_val (HI.out _ _ _ ⟨q0, kn_known q1 rfl, ds_free q2 rfl⟩)
  · intro vs
    simp only [Act.put, List.setIfInBounds_toArray, List.set_cons_succ, List.set_cons_zero]
    rfl
  refine gen_cons (A' := ?_) (fun vs L w1 hL hw1 => ?_) ?_ ?_
  rotate_left 1
  · obtain ⟨q0, q1, q2⟩ := HO.out _ _ _ hw1
    refine gen_plain rfl ?_
    have l1 : L 1 = true := hL.need 1 (by kernel_rfl)
    have e1 := q1 1 _ rfl l1
    have l3 : L 3 = true := hL.need 3 (by kernel_rfl)
    have e3 := q1 3 _ rfl l3
    simp only [e1, e3]
    go_simp
    refine gr_call ?_
    refine (cmp_lD a aa w1).mono ?_
    rintro e w2 ⟨rfl, hg⟩
    exact ⟨_, rfl, HI.out _ _ _ ⟨q0.trans hg, kn_known q1 rfl, ds_free (q2.grows hg.grows) rfl⟩⟩
  · intro vs
    simp only [Act.put, List.setIfInBounds_toArray, List.set_cons_succ, List.set_cons_zero]
    rfl
  refine gen_cons (A' := ?_) (fun vs L w1 hL hw1 => ?_) ?_ ?_
  rotate_left 1
  · obtain ⟨q0, q1, q2⟩ := HO.out _ _ _ hw1
    refine gen_plain rfl ?_
    go_simp
    exact gr_val (HI.out _ _ _ ⟨q0, kn_known q1 rfl, ds_free q2 rfl⟩)
  · intro vs
    simp only [Act.put, List.setIfInBounds_toArray, List.set_cons_succ, List.set_cons_zero]
    rfl
  refine gen_cons (A' := ?_) (fun vs L w1 hL hw1 => ?_) ?_ ?_
  rotate_left 1
  · obtain ⟨q0, q1, q2⟩ := HO.out _ _ _ hw1
    refine gen_plain rfl ?_
    have l5 : L 5 = true := hL.need 5 (by kernel_rfl)
    have e5 := q1 5 _ rfl l5
    have x := (k1.grows q0.grows).cell 0
    simp only [e5]
    go_simp
    exact gr_val (HI.out _ _ _ ⟨q0, kn_known q1 rfl, ds_free q2 rfl⟩)
  · intro vs
    simp only [Act.put, List.setIfInBounds_toArray, List.set_cons_succ, List.set_cons_zero]
    rfl
  refine gen_cons (A' := ?_) (fun vs L w1 hL hw1 => ?_) ?_ ?_
  rotate_left 1
  · obtain ⟨q0, q1, q2⟩ := HO.out _ _ _ hw1
    refine gen_plain rfl ?_
    go_simp
    exact gr_val (HI.out _ _ _ ⟨q0, kn_known q1 rfl, ds_free q2 rfl⟩)
  · intro vs
    simp only [Act.put, List.setIfInBounds_toArray, List.set_cons_succ, List.set_cons_zero]
    rfl
  refine gen_cons (A' := ?_) (fun vs L w1 hL hw1 => ?_) ?_ ?_
  rotate_left 1
  · obtain ⟨q0, q1, q2⟩ := HO.out _ _ _ hw1
    refine gen_plain rfl ?_
    have l7 : L 7 = true := hL.need 7 (by kernel_rfl)
    have e7 := q1 7 _ rfl l7
    have x := (k2.grows q0.grows).cell 0
    simp only [e7]
    go_simp
    exact gr_val (HI.out _ _ _ ⟨q0, kn_known q1 rfl, ds_free q2 rfl⟩)
  · intro vs
    simp only [Act.put, List.setIfInBounds_toArray, List.set_cons_succ, List.set_cons_zero]
    rfl
  refine gen_cons (A' := ?_) (fun vs L w1 hL hw1 => ?_) ?_ ?_
  rotate_left 1
  · obtain ⟨q0, q1, q2⟩ := HO.out _ _ _ hw1
    refine gen_plain rfl ?_
    have l6 : L 6 = true := hL.need 6 (by kernel_rfl)
    have e6 := q1 6 _ rfl l6
    have l8 : L 8 = true := hL.need 8 (by kernel_rfl)
    have e8 := q1 8 _ rfl l8
    simp only [e6, e8]
    go_simp
    refine gr_call ?_
    refine (cmp_iD k kk w1).mono ?_
    rintro e w2 ⟨rfl, hg⟩
    exact ⟨_, rfl, HI.out _ _ _ ⟨q0.trans hg, kn_known q1 rfl, ds_free (q2.grows hg.grows) rfl⟩⟩
  · intro vs
    simp only [Act.put, List.setIfInBounds_toArray, List.set_cons_succ, List.set_cons_zero]
    rfl
  refine gen_cons (A' := ?_) (fun vs L w1 hL hw1 => ?_) ?_ ?_
  rotate_left 1
  · obtain ⟨q0, q1, q2⟩ := HO.out _ _ _ hw1
    refine gen_plain rfl ?_
    go_simp
    exact gr_val (HI.out _ _ _ ⟨q0, kn_known q1 rfl, ds_free q2 rfl⟩)
  · intro vs
    simp only [Act.put, List.setIfInBounds_toArray, List.set_cons_succ, List.set_cons_zero]
    rfl
  refine gen_cons (A' := ?_) (fun vs L w1 hL hw1 => ?_) ?_ ?_
  rotate_left 1
  · obtain ⟨q0, q1, q2⟩ := HO.out _ _ _ hw1
    refine gen_plain rfl ?_
    have l10 : L 10 = true := hL.need 10 (by kernel_rfl)
    have e10 := q1 10 _ rfl l10
    have x := (k1.grows q0.grows).cell 3
    simp only [e10]
    go_simp
    exact gr_val (HI.out _ _ _ ⟨q0, kn_known q1 rfl, ds_free q2 rfl⟩)
  · intro vs
    simp only [Act.put, List.setIfInBounds_toArray, List.set_cons_succ, List.set_cons_zero]
    rfl
  refine gen_cons (A' := ?_) (fun vs L w1 hL hw1 => ?_) ?_ ?_
  rotate_left 1
  · obtain ⟨q0, q1, q2⟩ := HO.out _ _ _ hw1
    refine gen_plain rfl ?_
    go_simp
    exact gr_val (HI.out _ _ _ ⟨q0, kn_known q1 rfl, ds_free q2 rfl⟩)
  · intro vs
    simp only [Act.put, List.setIfInBounds_toArray, List.set_cons_succ, List.set_cons_zero]
    rfl
  refine gen_cons (A' := ?_) (fun vs L w1 hL hw1 => ?_) ?_ ?_
  rotate_left 1
  · obtain ⟨q0, q1, q2⟩ := HO.out _ _ _ hw1
    refine gen_plain rfl ?_
    have l12 : L 12 = true := hL.need 12 (by kernel_rfl)
    have e12 := q1 12 _ rfl l12
    have x := (k2.grows q0.grows).cell 3
    simp only [e12]
    go_simp
    exact gr_val (HI.out _ _ _ ⟨q0, kn_known q1 rfl, ds_free q2 rfl⟩)
  · intro vs
    simp only [Act.put, List.setIfInBounds_toArray, List.set_cons_succ, List.set_cons_zero]
    rfl
  refine gen_cons (A' := ?_) (fun vs L w1 hL hw1 => ?_) ?_ ?_
  rotate_left 1
  · obtain ⟨q0, q1, q2⟩ := HO.out _ _ _ hw1
    refine gen_plain rfl ?_
    have l11 : L 11 = true := hL.need 11 (by kernel_rfl)
    have e11 := q1 11 _ rfl l11
    have l13 : L 13 = true := hL.need 13 (by kernel_rfl)
    have e13 := q1 13 _ rfl l13
    simp only [e11, e13]
    go_simp
    refine gr_call ?_
    refine (cmp_iD s ss w1).mono ?_
    rintro e w2 ⟨rfl, hg⟩
    exact ⟨_, rfl, HI.out _ _ _ ⟨q0.trans hg, kn_known q1 rfl, ds_free (q2.grows hg.grows) rfl⟩⟩
  · intro vs
    simp only [Act.put, List.setIfInBounds_toArray, List.set_cons_succ, List.set_cons_zero]
    rfl
  refine gen_cons (A' := ?_) (fun vs L w1 hL hw1 => ?_) ?_ ?_
  rotate_left 1
  · obtain ⟨q0, q1, q2⟩ := HO.out _ _ _ hw1
    refine gen_plain rfl ?_
    go_simp
    exact gr_val (HI.out _ _ _ ⟨q0, kn_known q1 rfl, ds_free q2 rfl⟩)
  · intro vs
    simp only [Act.put, List.setIfInBounds_toArray, List.set_cons_succ, List.set_cons_zero]
    rfl
  refine gen_cons (A' := ?_) (fun vs L w1 hL hw1 => ?_) ?_ ?_
  rotate_left 1
  · obtain ⟨q0, q1, q2⟩ := HO.out _ _ _ hw1
    refine gen_plain rfl ?_
    have l15 : L 15 = true := hL.need 15 (by kernel_rfl)
    have e15 := q1 15 _ rfl l15
    have x := (k1.grows q0.grows).cell 4
    simp only [e15]
    go_simp
    exact gr_val (HI.out _ _ _ ⟨q0, kn_known q1 rfl, ds_free q2 rfl⟩)
  · intro vs
    simp only [Act.put, List.setIfInBounds_toArray, List.set_cons_succ, List.set_cons_zero]
    rfl
  refine gen_cons (A' := ?_) (fun vs L w1 hL hw1 => ?_) ?_ ?_
  rotate_left 1
  · obtain ⟨q0, q1, q2⟩ := HO.out _ _ _ hw1
    refine gen_plain rfl ?_
    go_simp
    exact gr_val (HI.out _ _ _ ⟨q0, kn_known q1 rfl, ds_free q2 rfl⟩)
  · intro vs
    simp only [Act.put, List.setIfInBounds_toArray, List.set_cons_succ, List.set_cons_zero]
    rfl
  refine gen_cons (A' := ?_) (fun vs L w1 hL hw1 => ?_) ?_ ?_
  rotate_left 1
  · obtain ⟨q0, q1, q2⟩ := HO.out _ _ _ hw1
    refine gen_plain rfl ?_
    have l17 : L 17 = true := hL.need 17 (by kernel_rfl)
    have e17 := q1 17 _ rfl l17
    have x := (k2.grows q0.grows).cell 4
    simp only [e17]
    go_simp
    exact gr_val (HI.out _ _ _ ⟨q0, kn_known q1 rfl, ds_free q2 rfl⟩)
  · intro vs
    simp only [Act.put, List.setIfInBounds_toArray, List.set_cons_succ, List.set_cons_zero]
    rfl
  refine gen_cons (A' := ?_) (fun vs L w1 hL hw1 => ?_) ?_ ?_
  rotate_left 1
  · obtain ⟨q0, q1, q2⟩ := HO.out _ _ _ hw1
    refine gen_plain rfl ?_
    have l16 : L 16 = true := hL.need 16 (by kernel_rfl)
    have e16 := q1 16 _ rfl l16
    have l18 : L 18 = true := hL.need 18 (by kernel_rfl)
    have e18 := q1 18 _ rfl l18
    simp only [e16, e18]
    go_simp
    refine gr_call ?_
    refine (cmp_uD d dd w1).mono ?_
    rintro e w2 ⟨rfl, hg⟩
    exact ⟨_, rfl, HI.out _ _ _ ⟨q0.trans hg, kn_known q1 rfl, ds_free (q2.grows hg.grows) rfl⟩⟩
  · intro vs
    simp only [Act.put, List.setIfInBounds_toArray, List.set_cons_succ, List.set_cons_zero]
    rfl
  refine gen_cons (A' := ?_) (fun vs L w1 hL hw1 => ?_) ?_ ?_
  rotate_left 1
  · obtain ⟨q0, q1, q2⟩ := HO.out _ _ _ hw1
    refine gen_plain rfl ?_
    go_simp
    exact gr_val (HI.out _ _ _ ⟨q0, kn_known q1 rfl, ds_free q2 rfl⟩)
  · intro vs
    simp only [Act.put, List.setIfInBounds_toArray, List.set_cons_succ, List.set_cons_zero]
    rfl
  refine gen_cons (A' := ?_) (fun vs L w1 hL hw1 => ?_) ?_ ?_
  rotate_left 1
  · obtain ⟨q0, q1, q2⟩ := HO.out _ _ _ hw1
    refine gen_plain rfl ?_
    have l20 : L 20 = true := hL.need 20 (by kernel_rfl)
    have e20 := q1 20 _ rfl l20
    have x := (k1.grows q0.grows).cell 2
    simp only [e20]
    go_simp
    exact gr_val (HI.out _ _ _ ⟨q0, kn_known q1 rfl, ds_free q2 rfl⟩)
  · intro vs
    simp only [Act.put, List.setIfInBounds_toArray, List.set_cons_succ, List.set_cons_zero]
    rfl
  refine gen_cons (A' := ?_) (fun vs L w1 hL hw1 => ?_) ?_ ?_
  rotate_left 1
  · obtain ⟨q0, q1, q2⟩ := HO.out _ _ _ hw1
    refine gen_plain rfl ?_
    go_simp
    exact gr_val (HI.out _ _ _ ⟨q0, kn_known q1 rfl, ds_free q2 rfl⟩)
  · intro vs
    simp only [Act.put, List.setIfInBounds_toArray, List.set_cons_succ, List.set_cons_zero]
    rfl
  refine gen_cons (A' := ?_) (fun vs L w1 hL hw1 => ?_) ?_ ?_
  rotate_left 1
  · obtain ⟨q0, q1, q2⟩ := HO.out _ _ _ hw1
    refine gen_plain rfl ?_
    have l22 : L 22 = true := hL.need 22 (by kernel_rfl)
    have e22 := q1 22 _ rfl l22
    have x := (k2.grows q0.grows).cell 2
    simp only [e22]
    go_simp
    exact gr_val (HI.out _ _ _ ⟨q0, kn_known q1 rfl, ds_free q2 rfl⟩)
  · intro vs
    simp only [Act.put, List.setIfInBounds_toArray, List.set_cons_succ, List.set_cons_zero]
    rfl
  refine gen_cons (A' := ?_) (fun vs L w1 hL hw1 => ?_) ?_ ?_
  rotate_left 1
  · obtain ⟨q0, q1, q2⟩ := HO.out _ _ _ hw1
    refine gen_plain rfl ?_
    have l21 : L 21 = true := hL.need 21 (by kernel_rfl)
    have e21 := q1 21 _ rfl l21
    have l23 : L 23 = true := hL.need 23 (by kernel_rfl)
    have e23 := q1 23 _ rfl l23
    simp only [e21, e23]
    go_simp
    refine gr_call ?_
    refine (cmp_iD q qq w1).mono ?_
    rintro e w2 ⟨rfl, hg⟩
    exact ⟨_, rfl, HI.out _ _ _ ⟨q0.trans hg, kn_known q1 rfl, ds_free (q2.grows hg.grows) rfl⟩⟩
  · intro vs
    simp only [Act.put, List.setIfInBounds_toArray, List.set_cons_succ, List.set_cons_zero]
    rfl
  refine gen_cons (A' := ?_) (fun vs L w1 hL hw1 => ?_) ?_ ?_
  rotate_left 1
  · obtain ⟨q0, q1, q2⟩ := HO.out _ _ _ hw1
    refine gen_plain rfl ?_
    go_simp
    exact gr_val (HI.out _ _ _ ⟨q0, kn_known q1 rfl, ds_free q2 rfl⟩)
  · intro vs
    simp only [Act.put, List.setIfInBounds_toArray, List.set_cons_succ, List.set_cons_zero]
    rfl
  refine gen_cons (A' := ?_) (fun vs L w1 hL hw1 => ?_) ?_ ?_
  rotate_left 1
  · obtain ⟨q0, q1, q2⟩ := HO.out _ _ _ hw1
    refine gen_plain rfl ?_
    have l25 : L 25 = true := hL.need 25 (by kernel_rfl)
    have e25 := q1 25 _ rfl l25
    have x := (k1.grows q0.grows).cell 5
    simp only [e25]
    go_simp
    exact gr_val (HI.out _ _ _ ⟨q0, kn_known q1 rfl, ds_free q2 rfl⟩)
  · intro vs
    simp only [Act.put, List.setIfInBounds_toArray, List.set_cons_succ, List.set_cons_zero]
    rfl
  refine gen_cons (A' := ?_) (fun vs L w1 hL hw1 => ?_) ?_ ?_
  rotate_left 1
  · obtain ⟨q0, q1, q2⟩ := HO.out _ _ _ hw1
    refine gen_plain rfl ?_
    go_simp
    exact gr_val (HI.out _ _ _ ⟨q0, kn_known q1 rfl, ds_free q2 rfl⟩)
  · intro vs
    simp only [Act.put, List.setIfInBounds_toArray, List.set_cons_succ, List.set_cons_zero]
    rfl
  refine gen_cons (A' := ?_) (fun vs L w1 hL hw1 => ?_) ?_ ?_
  rotate_left 1
  · obtain ⟨q0, q1, q2⟩ := HO.out _ _ _ hw1
    refine gen_plain rfl ?_
    have l27 : L 27 = true := hL.need 27 (by kernel_rfl)
    have e27 := q1 27 _ rfl l27
    have x := (k2.grows q0.grows).cell 5
    simp only [e27]
    go_simp
    exact gr_val (HI.out _ _ _ ⟨q0, kn_known q1 rfl, ds_free q2 rfl⟩)
  · intro vs
    simp only [Act.put, List.setIfInBounds_toArray, List.set_cons_succ, List.set_cons_zero]
    rfl
  refine gen_cons (A' := ?_) (fun vs L w1 hL hw1 => ?_) ?_ ?_
  rotate_left 1
  · obtain ⟨q0, q1, q2⟩ := HO.out _ _ _ hw1
    refine gen_plain rfl ?_
    have l26 : L 26 = true := hL.need 26 (by kernel_rfl)
    have e26 := q1 26 _ rfl l26
    have l28 : L 28 = true := hL.need 28 (by kernel_rfl)
    have e28 := q1 28 _ rfl l28
    simp only [e26, e28]
    go_simp
    refine gr_call ?_
    refine (cmp_iD f ff w1).mono ?_
    rintro e w2 ⟨rfl, hg⟩
    exact ⟨_, rfl, HI.out _ _ _ ⟨q0.trans hg, kn_known q1 rfl, ds_free (q2.grows hg.grows) rfl⟩⟩
  · intro vs
    simp only [Act.put, List.setIfInBounds_toArray, List.set_cons_succ, List.set_cons_zero]
    rfl
  refine gen_cons (A' := ?_) (fun vs L w1 hL hw1 => ?_) ?_ ?_
  rotate_left 1
  · obtain ⟨q0, q1, q2⟩ := HO.out _ _ _ hw1
    refine gen_plain rfl ?_
    have l4 : L 4 = true := hL.need 4 (by kernel_rfl)
    have e4 := q1 4 _ rfl l4
    have l9 : L 9 = true := hL.need 9 (by kernel_rfl)
    have e9 := q1 9 _ rfl l9
    have l14 : L 14 = true := hL.need 14 (by kernel_rfl)
    have e14 := q1 14 _ rfl l14
    have l19 : L 19 = true := hL.need 19 (by kernel_rfl)
    have e19 := q1 19 _ rfl l19
    have l24 : L 24 = true := hL.need 24 (by kernel_rfl)
    have e24 := q1 24 _ rfl l24
    have l29 : L 29 = true := hL.need 29 (by kernel_rfl)
    have e29 := q1 29 _ rfl l29
    simp only [e4, e9, e14, e19, e24, e29]
    go_simp
    have hg : GrD w1 (w1.alloc (Obj.cells #[.int .i64 (cmp3 a aa), .int .i64 (cmp3 k kk), .int .i64 (cmp3 s ss), .int .i64 (cmp3 d dd), .int .i64 (cmp3 q qq), .int .i64 (cmp3 f ff)] 3)) := GrD.alloc' _ _
    exact gr_val (HI.out _ _ _ ⟨q0.trans hg, kn_free q1 rfl, ds_put (q2.grows hg.grows) rfl ⟨_, rfl, Blk.new _ _ _⟩⟩)
  · intro vs
    simp only [Act.put, List.setIfInBounds_toArray, List.set_cons_succ, List.set_cons_zero]
    rfl
  refine gen_cons (A' := ?_) (fun vs L w1 hL hw1 => ?_) ?_ ?_
  rotate_left 1
  · obtain ⟨q0, q1, q2⟩ := HO.out _ _ _ hw1
    refine gen_plain rfl ?_
    have l30 : L 30 = true := hL.need 30 (by kernel_rfl)
    obtain ⟨g30, e30, k30⟩ := q2 30 _ rfl l30
    simp only [e30]
    go_simp
    refine gr_call ?_
    refine (or_six k30).mono ?_
    rintro e w2 ⟨rfl, hg⟩
    exact ⟨_, rfl, HI.out _ _ _ ⟨q0.trans hg, kn_known q1 rfl, ds_free (q2.grows hg.grows) rfl⟩⟩
  · intro vs
    simp only [Act.put, List.setIfInBounds_toArray, List.set_cons_succ, List.set_cons_zero]
    rfl
  refine gen_cons (A' := ?_) (fun vs L w1 hL hw1 => ?_) ?_ ?_
  rotate_left 1
  · obtain ⟨q0, q1, q2⟩ := HO.out _ _ _ hw1
    refine gen_plain rfl ?_
    have l31 : L 31 = true := hL.need 31 (by kernel_rfl)
    have e31 := q1 31 _ rfl l31
    simp only [e31]
    go_simp
    exact gr_val (HI.out _ _ _ ⟨q0, kn_known q1 rfl, ds_free q2 rfl⟩)
  · intro vs
    simp only [Act.put, List.setIfInBounds_toArray, List.set_cons_succ, List.set_cons_zero]
    rfl
  refine gen_nil ?_
  intro vs L W6 hall hS
  obtain ⟨hq, q1, q2⟩ := HO.out _ _ _ hS
  have eX32 := q1 32 _ rfl (hall 32 (by simp))
  clear hall hS HI HO q1 q2
  simp only [eX32]
  go_wp2
  go_ret
  exact ⟨rfl, hB.trans hq⟩
theorem gcompare_any (g h : Gl) (w : World) : Calls Try.prog 25 #[.agg g.cs, .agg h.cs] w fun e w' => e = .returned (.int .i64 (cmpG g h)) ∧ GrD w w' := compare_any g.k g.a g.q g.s g.d g.f h.k h.a h.q h.s h.d h.f w
theorem less_any (g h : Gl) (w : World) : Calls Try.prog 15 #[.agg g.cs, .agg h.cs] w fun e w' => e = .returned (.bool (lessG g h)) ∧ Grows w w' := by
  obtain ⟨k, a, q, s, d, f⟩ := g
  obtain ⟨kk, aa, qq, ss, dd, ff⟩ := h
  have k1 := (Blk.new w 28 #[.int .i64 k, .int .i64 a, .int .i64 q, .int .i64 s, .int .u64 d, .int .i64 f]).alloc (Obj.cells #[.int .i64 kk, .int .i64 aa, .int .i64 qq, .int .i64 ss, .int .u64 dd, .int .i64 ff] 28)
  have k2 := blk_new_at (X := w.alloc (Obj.cells #[.int .i64 k, .int .i64 a, .int .i64 q, .int .i64 s, .int .u64 d, .int .i64 f] 28)) (n := w.heap.size + 1) (t := 28) (cs := #[.int .i64 kk, .int .i64 aa, .int .i64 qq, .int .i64 ss, .int .u64 dd, .int .i64 ff]) (by simp)
  have hB := ((Below.refl w.heap.size w).alloc (Nat.le_refl _) (Obj.cells #[.int .i64 k, .int .i64 a, .int .i64 q, .int .i64 s, .int .u64 d, .int .i64 f] 28)).alloc (by simp) (Obj.cells #[.int .i64 kk, .int .i64 aa, .int .i64 qq, .int .i64 ss, .int .u64 dd, .int .i64 ff] 28)
  have hl : ∀ n : Int, cmpG ⟨k, a, q, s, d, f⟩ ⟨kk, aa, qq, ss, dd, ff⟩ = n → lessG ⟨k, a, q, s, d, f⟩ ⟨kk, aa, qq, ss, dd, ff⟩ = decide (n < 0) := fun n e => by unfold lessG; rw [e]
  simp only [Gl.cs]
  go_enter Try.func15, Try.ntmps15
  go_upto_region 1 with fail
  generalize World.alloc (World.alloc w _) _ = W1 at *
  generalize w.heap.size + 1 = G2 at *
  have c1 := k1.cell
  have c2 := k2.cell
  have hc := compare_any k a q s d f kk aa qq ss dd ff W1
  obtain ⟨n, hn⟩ : ∃ n, cmpG ⟨k, a, q, s, d, f⟩ ⟨kk, aa, qq, ss, dd, ff⟩ = n := ⟨_, rfl⟩
  rw [hn] at hc
  have HL := Lib.hid (hl n hn)
  clear hl hn
  go_wp2_with fail
  refine hc.mono ?_
  rintro e w2 ⟨rfl, hq⟩
  replace hB := below_grows hB (Nat.le_refl _) hq.grows
  clear c1 c2 hc hq
  go_wp2
  go_ret
  exact ⟨by rw [HL.out] <;> rfl, hB⟩
theorem rless_any (g h : Gl) (w : World) : Calls Try.prog 16 #[.agg g.cs, .agg h.cs] w fun e w' => e = .returned (.bool (lessG g h)) ∧ Grows w w' := by
  obtain ⟨k, a, q, s, d, f⟩ := g
  obtain ⟨kk, aa, qq, ss, dd, ff⟩ := h
  have hB := ((Below.refl w.heap.size w).alloc (Nat.le_refl _) (Obj.cells #[.int .i64 k, .int .i64 a, .int .i64 q, .int .i64 s, .int .u64 d, .int .i64 f] 28)).alloc (by simp) (Obj.cells #[.int .i64 kk, .int .i64 aa, .int .i64 qq, .int .i64 ss, .int .u64 dd, .int .i64 ff] 28)
  simp only [Gl.cs]
  by_cases h0 : a = aa
  rotate_left
  · have HL : Hid (lessG ⟨k, a, q, s, d, f⟩ ⟨kk, aa, qq, ss, dd, ff⟩ = decide (a < aa)) := Lib.hid (by rw [Bool.eq_iff_iff, lessG_iff, decide_eq_true_eq]; simp only [true_and, Int.lt_irrefl, false_or] <;> omega)
    go_enter Try.func16, Try.ntmps16
    go_wp2
    go_ret
    exact ⟨by rw [HL.out] <;> rfl, hB⟩
  subst h0
  by_cases h1 : k = kk
  rotate_left
  · have HL : Hid (lessG ⟨k, a, q, s, d, f⟩ ⟨kk, a, qq, ss, dd, ff⟩ = decide (k < kk)) := Lib.hid (by rw [Bool.eq_iff_iff, lessG_iff, decide_eq_true_eq]; simp only [true_and, Int.lt_irrefl, false_or] <;> omega)
    go_enter Try.func16, Try.ntmps16
    go_wp2
    go_ret
    exact ⟨by rw [HL.out] <;> rfl, hB⟩
  subst h1
  by_cases h2 : s = ss
  rotate_left
  · have HL : Hid (lessG ⟨k, a, q, s, d, f⟩ ⟨k, a, qq, ss, dd, ff⟩ = decide (s < ss)) := Lib.hid (by rw [Bool.eq_iff_iff, lessG_iff, decide_eq_true_eq]; simp only [true_and, Int.lt_irrefl, false_or] <;> omega)
    go_enter Try.func16, Try.ntmps16
    go_wp2
    go_ret
    exact ⟨by rw [HL.out] <;> rfl, hB⟩
  subst h2
  by_cases h3 : d = dd
  rotate_left
  · have HL : Hid (lessG ⟨k, a, q, s, d, f⟩ ⟨k, a, qq, s, dd, ff⟩ = decide (d < dd)) := Lib.hid (by rw [Bool.eq_iff_iff, lessG_iff, decide_eq_true_eq]; simp only [true_and, Int.lt_irrefl, false_or] <;> omega)
    go_enter Try.func16, Try.ntmps16
    go_wp2
    go_ret
    exact ⟨by rw [HL.out] <;> rfl, hB⟩
  subst h3
  by_cases h4 : q = qq
  rotate_left
  · have HL : Hid (lessG ⟨k, a, q, s, d, f⟩ ⟨k, a, qq, s, d, ff⟩ = decide (q < qq)) := Lib.hid (by rw [Bool.eq_iff_iff, lessG_iff, decide_eq_true_eq]; simp only [true_and, Int.lt_irrefl, false_or] <;> omega)
    go_enter Try.func16, Try.ntmps16
    go_wp2
    go_ret
    exact ⟨by rw [HL.out] <;> rfl, hB⟩
  subst h4
  have HL : Hid (lessG ⟨k, a, q, s, d, f⟩ ⟨k, a, q, s, d, ff⟩ = decide (f < ff)) := Lib.hid (by rw [Bool.eq_iff_iff, lessG_iff, decide_eq_true_eq]; simp only [true_and, Int.lt_irrefl, false_or] <;> omega)
  go_enter Try.func16, Try.ntmps16
  go_wp2
  go_ret
  exact ⟨by rw [HL.out] <;> rfl, hB⟩
end Go.Proofs.Ytbmoiokpkcaccaa
