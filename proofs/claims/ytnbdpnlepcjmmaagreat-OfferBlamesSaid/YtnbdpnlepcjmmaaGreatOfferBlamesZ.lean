/-
  OfferBlames, for every input: the law returns true, and the argument reads behind the call as it read before. No condition.
-/
import Derived.Test.YtnbdpnlepcjmmaaGreatOfferBlamesK4
import Derived.Deep.Fields
import Derived.Deep.Slices
import Derived.Deep.DeepCutAuto
namespace Go.Proofs.YtnbdpnlepcjmmaaGreat
open Go.RowKit
theorem shl_small_ : ∀ n : Fin 8, wrap64 (2 ^ n.val) = 2 ^ n.val := by decide +kernel
theorem shl_small {k : Int} (h0 : 0 ≤ k) (h7 : k ≤ 7) : IntKind.i64.wrap (2 ^ k.toNat) = 2 ^ k.toNat := (IntWalk.i64_left _).trans <| shl_small_ ⟨k.toNat, by omega⟩
theorem maps_one {w : World} {ok : Nat → Prop} {g : Nat} {B : Option Addr} {cx : Nat} {m : List Int} (hk : Blk w g 23 #[.slice B m.length cx]) (hg : ok g) (hi : InB w ok B m) (hc : m.length ≤ cx) : MapsR w ok (some ⟨g, 0, none⟩) [m] := by
  refine ⟨[.slice B m.length cx], ⟨⟨rfl, fun _ => ⟨_, rfl, hk.lt, fun j u hu => by rw [add_head, hk.cell, ← Array.getElem?_toList]; exact hu⟩⟩, fun _ ad e => by injection e with e; subst e; exact hg⟩, fun i y hy => ?_⟩
  have hi0 : i = 0 := by
    have := (List.getElem?_eq_some_iff.1 hy).1
    simp only [List.length_singleton] at this
    omega
  subst hi0
  simp only [List.getElem?_cons_zero, Option.some.injEq] at hy
  subst hy
  exact ⟨B, cx, rfl, hc, hi⟩
theorem okb_one {x : Ch} (K : Int) (h : x.m.length ≤ 1000000) : OKB ⟨K, [(x.r, x.r)], [x.m], [(x.s, x.s)]⟩ := ⟨by simp, by simp, by simp, fun y hy => by simp only [List.mem_singleton] at hy; subst hy; exact h⟩
/-- A block that holds one box, as a list of one. -/
theorem bxs_blk {w : World} {ok : Nat → Prop} {z : Bx} {A1 A2 A3 : Option Addr} {c1 c2 c3 g : Nat} {cs : Array Value} (hp : BoxP w ok z A1 c1 A2 c2 A3 c3) (hb : Blk w g 48 cs) (hc : cs = #[.int .i64 z.k, .slice A1 z.r.length c1, .slice A2 z.m.length c2, .slice A3 z.s.length c3]) (hw : ok g := by trivial) : Bxs w ok (some ⟨g, 0, none⟩) [z] := by
  subst hc
  refine ⟨z.cs A1 c1 A2 c2 A3 c3, ⟨⟨rfl, fun _ => ⟨_, rfl, hb.lt, fun j u hu => ?_⟩⟩, fun _ ad e => by injection e with e; subst e; exact hw⟩, fun i x hx => ?_⟩
  · rw [add_head, hb.cell, ← Array.getElem?_toList]
    exact hu
  · have hi0 : i = 0 := by
      have := (List.getElem?_eq_some_iff.1 hx).1
      simp only [List.length_singleton] at this
      omega
    subst hi0
    simp only [List.getElem?_cons_zero, Option.some.injEq] at hx
    subst hx
    exact ⟨A1, c1, A2, c2, A3, c3, hp, fun j hj => by rw [Nat.zero_mul, Nat.zero_add]⟩
theorem bxs_one2 {w : World} {ok : Nat → Prop} {z : Bx} {A1 A2 A3 : Option Addr} {c1 c2 c3 : Nat} {cs : Array Value} (hp : BoxP w ok z A1 c1 A2 c2 A3 c3) (hw : ok w.heap.size) (hc : cs = #[.int .i64 z.k, .slice A1 z.r.length c1, .slice A2 z.m.length c2, .slice A3 z.s.length c3]) : Bxs (w.alloc (.cells cs 48)) ok (some ⟨w.heap.size, 0, none⟩) [z] := by
  subst hc
  exact bxs_lit hp hw
set_option maxHeartbeats 64000000 in
set_option maxRecDepth 10000 in
theorem psingle_any {I : Option Addr} {ci : Nat} {x : Ch} {w : World} (ix : Ints w I x.m) (hci : x.m.length ≤ ci) (hxm : x.m.length ≤ 1000000) :
    Calls Tryz.prog 26 #[.agg #[.int .i64 x.k, .int .i64 x.r, .slice I x.m.length ci, .int .i64 x.s]] w fun e w' => (∃ A c, e = .returned (.slice A (singleF x).length c) ∧ (singleF x).length ≤ c ∧ Bxs w' (Ge w.heap.size) A (singleF x)) ∧ Grows w w' := by
  have k1 := Blk.new w 27 #[.int .i64 x.k, .int .i64 x.r, .slice I x.m.length ci, .int .i64 x.s]
  have hB := (Below.refl w.heap.size w).alloc (Nat.le_refl _) (Obj.cells #[.int .i64 x.k, .int .i64 x.r, .slice I x.m.length ci, .int .i64 x.s] 27)
  go_enter Tryz.func26, Tryz.ntmps26
  go_upto_region 1 with fail
  generalize World.alloc w _ = w1 at *
  have x1 := k1.cell
  by_cases h1 : x.k < 1
  · have HE : Hid (singleF x = []) := Lib.hid (if_neg (fun h => by omega))
    have d1 : decide (x.k < 1) = true := by simpa using h1
    clear h1
    go_wp2
    go_ret
    rw [HE.out]
    exact ⟨⟨none, 0, rfl, Nat.le_refl _, Bxs.nil⟩, hB⟩
  have d1 : decide (x.k < 1) = false := by simpa using h1
  by_cases h2 : 7 < x.k
  · have HE : Hid (singleF x = []) := Lib.hid (if_neg (fun h => by omega))
    have d2 : decide (7 < x.k) = true := by simpa using h2
    clear h1 h2
    go_wp2
    go_ret
    rw [HE.out]
    exact ⟨⟨none, 0, rfl, Nat.le_refl _, Bxs.nil⟩, hB⟩
  have d2 : decide (7 < x.k) = false := by simpa using h2
  have hk1 : 1 ≤ x.k := by omega
  have hk7 : x.k ≤ 7 := by omega
  have hk0 : 0 ≤ x.k := by omega
  have hK0 := shl_small hk0 hk7
  obtain ⟨K, hK⟩ : ∃ K, IntKind.i64.wrap (2 ^ x.k.toNat) = K := ⟨_, rfl⟩
  have HK : Hid (2 ^ x.k.toNat = K) := Lib.hid (hK0.symm.trans hK)
  have HS : Hid (singleF x = if fineB ⟨K, [(x.r, x.r)], [x.m], [(x.s, x.s)]⟩ = true then [⟨K, [(x.r, x.r)], [x.m], [(x.s, x.s)]⟩] else []) := Lib.hid (by
    unfold singleF oneB
    rw [HK.out]
    by_cases hf : fineB ⟨K, [(x.r, x.r)], [x.m], [(x.s, x.s)]⟩ = true
    · rw [if_pos ⟨hk1, hk7, hf⟩, if_pos hf]
    · rw [if_neg (fun h => hf h.2.2), if_neg hf])
  clear h1 h2 hK0
  go_upto_region 3 with fail
  obtain ⟨S, HI, HO⟩ := hideS fun (L : Ran) (vs : Nat → Value) (w' : World) => ((Below w.heap.size w w' ∧ Blk w' w.heap.size 27 #[.int .i64 x.k, .int .i64 x.r, .slice I x.m.length ci, .int .i64 x.s]) ∧ KnS [some (.pointer (some ⟨w.heap.size, 0, none⟩)), some (.pointer (some ⟨w.heap.size, 0, none⟩)), some (.int .i64 x.k), some (.int .i64 K), some (.pointer (some ⟨w.heap.size, 0, none⟩)), some (.pointer (some ⟨w.heap.size, 1, none⟩)), some (.int .i64 x.r), none, some (.pointer (some ⟨w.heap.size, 0, none⟩)), some (.pointer (some ⟨w.heap.size, 2, none⟩)), some (.slice I x.m.length ci), none, none, some (.pointer (some ⟨w.heap.size, 3, none⟩)), some (.int .i64 x.s), none, none, none] L vs ∧ (L 7 = true → ∃ (A : Option Addr), vs 7 = .agg #[.slice A 1 1] ∧ SpB w' (Ge w.heap.size) A [(x.r, x.r)]) ∧ (L 11 = true → OwnI w' w.heap.size (vs 11) x.m) ∧ (L 12 = true → ∃ (g : Nat) (mv : Value), vs 12 = .slice (some ⟨g, 0, none⟩) 1 1 ∧ Blk w' g 23 #[mv] ∧ w.heap.size ≤ g ∧ OwnI w' w.heap.size mv x.m) ∧ (L 15 = true → ∃ (A : Option Addr), vs 15 = .agg #[.slice A 1 1] ∧ SpB w' (Ge w.heap.size) A [(x.s, x.s)]) ∧ (L 16 = true → ∃ (A1 : Option Addr) (g : Nat) (mv : Value) (A3 : Option Addr), vs 16 = .agg #[.int .i64 K, .slice A1 1 1, .slice (some ⟨g, 0, none⟩) 1 1, .slice A3 1 1] ∧ SpB w' (Ge w.heap.size) A1 [(x.r, x.r)] ∧ SpB w' (Ge w.heap.size) A3 [(x.s, x.s)] ∧ Blk w' g 23 #[mv] ∧ w.heap.size ≤ g ∧ OwnI w' w.heap.size mv x.m) ∧ (L 17 = true → ∃ g : Nat, vs 17 = .pointer (some ⟨g, 0, none⟩) ∧ Blk w' g 48 #[.int .i64 0, .slice none 0 0, .slice none 0 0, .slice none 0 0] ∧ w.heap.size ≤ g))
  refine wp_region_genT S 18 36 (by kernel_rfl) (by kernel_rfl) rfl ?_ ?_
  · have hg := Grows.drew' w1
    exact HI.out _ _ _ ⟨⟨below_grows hB (Nat.le_refl _) hg, k1.grows hg⟩, kn_none _ _, (fun h => by cases h), (fun h => by cases h), (fun h => by cases h), (fun h => by cases h), (fun h => by cases h), (fun h => by cases h)⟩
  simp only [List.take_succ_cons, List.take_zero, List.drop_succ_cons, List.drop_zero]
  refine gent_consR (fun vs L w1 hL hw1 => ?_) ?_
  · obtain ⟨⟨qB, qk⟩, q1, q7, q11, qm, qs, qb, qz⟩ := HO.out _ _ _ hw1
    refine gen_plain rfl ?_
    go_simp
    exact gr_val (HI.out _ _ _ ⟨⟨qB, qk⟩, kn_known q1 rfl, q7, q11, qm, qs, qb, qz⟩)
  refine gent_consR (fun vs L w1 hL hw1 => ?_) ?_
  · obtain ⟨⟨qB, qk⟩, q1, q7, q11, qm, qs, qb, qz⟩ := HO.out _ _ _ hw1
    have l0 : L 0 = true := hL.need 0 (by kernel_rfl)
    have e0 := q1 0 _ rfl l0
    refine gen_plain rfl ?_
    simp only [e0]
    go_simp
    exact gr_val (HI.out _ _ _ ⟨⟨qB, qk⟩, kn_known q1 rfl, q7, q11, qm, qs, qb, qz⟩)
  refine gent_consR (fun vs L w1 hL hw1 => ?_) ?_
  · obtain ⟨⟨qB, qk⟩, q1, q7, q11, qm, qs, qb, qz⟩ := HO.out _ _ _ hw1
    have l1 : L 1 = true := hL.need 1 (by kernel_rfl)
    have e1 := q1 1 _ rfl l1
    have xc := qk.cell 0
    refine gen_plain rfl ?_
    simp only [e1]
    go_simp
    exact gr_val (HI.out _ _ _ ⟨⟨qB, qk⟩, kn_known q1 rfl, q7, q11, qm, qs, qb, qz⟩)
  refine gent_consR (fun vs L w1 hL hw1 => ?_) ?_
  · obtain ⟨⟨qB, qk⟩, q1, q7, q11, qm, qs, qb, qz⟩ := HO.out _ _ _ hw1
    have l2 : L 2 = true := hL.need 2 (by kernel_rfl)
    have e2 := q1 2 _ rfl l2
    refine gen_plain rfl ?_
    simp only [e2]
    go_simp
    exact gr_val (HI.out _ _ _ ⟨⟨qB, qk⟩, kn_known q1 rfl, q7, q11, qm, qs, qb, qz⟩)
  refine gent_consR (fun vs L w1 hL hw1 => ?_) ?_
  · obtain ⟨⟨qB, qk⟩, q1, q7, q11, qm, qs, qb, qz⟩ := HO.out _ _ _ hw1
    refine gen_plain rfl ?_
    go_simp
    exact gr_val (HI.out _ _ _ ⟨⟨qB, qk⟩, kn_known q1 rfl, q7, q11, qm, qs, qb, qz⟩)
  refine gent_consR (fun vs L w1 hL hw1 => ?_) ?_
  · obtain ⟨⟨qB, qk⟩, q1, q7, q11, qm, qs, qb, qz⟩ := HO.out _ _ _ hw1
    have l4 : L 4 = true := hL.need 4 (by kernel_rfl)
    have e4 := q1 4 _ rfl l4
    refine gen_plain rfl ?_
    simp only [e4]
    go_simp
    exact gr_val (HI.out _ _ _ ⟨⟨qB, qk⟩, kn_known q1 rfl, q7, q11, qm, qs, qb, qz⟩)
  refine gent_consR (fun vs L w1 hL hw1 => ?_) ?_
  · obtain ⟨⟨qB, qk⟩, q1, q7, q11, qm, qs, qb, qz⟩ := HO.out _ _ _ hw1
    have l5 : L 5 = true := hL.need 5 (by kernel_rfl)
    have e5 := q1 5 _ rfl l5
    have xc := qk.cell 1
    refine gen_plain rfl ?_
    simp only [e5]
    go_simp
    exact gr_val (HI.out _ _ _ ⟨⟨qB, qk⟩, kn_known q1 rfl, q7, q11, qm, qs, qb, qz⟩)
  refine gent_consR (fun vs L w1 hL hw1 => ?_) ?_
  · obtain ⟨⟨qB, qk⟩, q1, q7, q11, qm, qs, qb, qz⟩ := HO.out _ _ _ hw1
    have l6 : L 6 = true := hL.need 6 (by kernel_rfl)
    have e6 := q1 6 _ rfl l6
    refine gen_plain rfl ?_
    simp only [e6]
    go_simp
    refine gr_call ?_
    refine (one_any _ _).mono ?_
    rintro e wc ⟨⟨A5, rfl, hr5⟩, hg⟩
    have hsz := qB.size
    exact ⟨_, rfl, HI.out _ _ _ ⟨⟨below_grows qB (Nat.le_refl _) hg, qk.grows hg⟩, kn_free q1 rfl, (fun _ => ⟨A5, rfl, RdB.mono hr5 (fun k hk => by unfold Ge at *; omega)⟩), (fun h => (q11 h).grows hg), (fun h => by obtain ⟨g, mv, e, hk, hl, ho⟩ := qm h; exact ⟨g, mv, e, hk.grows hg, hl, ho.grows hg⟩), (fun h => by obtain ⟨A, e, hr⟩ := qs h; exact ⟨A, e, hr.grows hg⟩), (fun h => by obtain ⟨A1, g, mv, A3, e, hr, hs, hk, hl, ho⟩ := qb h; exact ⟨A1, g, mv, A3, e, hr.grows hg, hs.grows hg, hk.grows hg, hl, ho.grows hg⟩), (fun h => by obtain ⟨g, e, hk, hl⟩ := qz h; exact ⟨g, e, hk.grows hg, hl⟩)⟩⟩
  refine gent_consR (fun vs L w1 hL hw1 => ?_) ?_
  · obtain ⟨⟨qB, qk⟩, q1, q7, q11, qm, qs, qb, qz⟩ := HO.out _ _ _ hw1
    refine gen_plain rfl ?_
    go_simp
    exact gr_val (HI.out _ _ _ ⟨⟨qB, qk⟩, kn_known q1 rfl, q7, q11, qm, qs, qb, qz⟩)
  refine gent_consR (fun vs L w1 hL hw1 => ?_) ?_
  · obtain ⟨⟨qB, qk⟩, q1, q7, q11, qm, qs, qb, qz⟩ := HO.out _ _ _ hw1
    have l8 : L 8 = true := hL.need 8 (by kernel_rfl)
    have e8 := q1 8 _ rfl l8
    refine gen_plain rfl ?_
    simp only [e8]
    go_simp
    exact gr_val (HI.out _ _ _ ⟨⟨qB, qk⟩, kn_known q1 rfl, q7, q11, qm, qs, qb, qz⟩)
  refine gent_consR (fun vs L w1 hL hw1 => ?_) ?_
  · obtain ⟨⟨qB, qk⟩, q1, q7, q11, qm, qs, qb, qz⟩ := HO.out _ _ _ hw1
    have l9 : L 9 = true := hL.need 9 (by kernel_rfl)
    have e9 := q1 9 _ rfl l9
    have xc := qk.cell 2
    refine gen_plain rfl ?_
    simp only [e9]
    go_simp
    exact gr_val (HI.out _ _ _ ⟨⟨qB, qk⟩, kn_known q1 rfl, q7, q11, qm, qs, qb, qz⟩)
  refine gent_consR (fun vs L w1 hL hw1 => ?_) ?_
  · obtain ⟨⟨qB, qk⟩, q1, q7, q11, qm, qs, qb, qz⟩ := HO.out _ _ _ hw1
    have l10 : L 10 = true := hL.need 10 (by kernel_rfl)
    have e10 := q1 10 _ rfl l10
    refine gen_plain rfl ?_
    simp only [e10]
    go_simp
    refine gr_call ?_
    refine (iclone_any I ci x.m _ (ix.grows qB) hxm).mono ?_
    rintro e wc ⟨⟨v, rfl, hown⟩, hg⟩
    have hsz := qB.size
    exact ⟨_, rfl, HI.out _ _ _ ⟨⟨below_grows qB (Nat.le_refl _) hg, qk.grows hg⟩, kn_free q1 rfl, (fun h => by obtain ⟨A, e, hr⟩ := q7 h; exact ⟨A, e, hr.grows hg⟩), (fun _ => hown.mono hsz), (fun h => by obtain ⟨g, mv, e, hk, hl, ho⟩ := qm h; exact ⟨g, mv, e, hk.grows hg, hl, ho.grows hg⟩), (fun h => by obtain ⟨A, e, hr⟩ := qs h; exact ⟨A, e, hr.grows hg⟩), (fun h => by obtain ⟨A1, g, mv, A3, e, hr, hs, hk, hl, ho⟩ := qb h; exact ⟨A1, g, mv, A3, e, hr.grows hg, hs.grows hg, hk.grows hg, hl, ho.grows hg⟩), (fun h => by obtain ⟨g, e, hk, hl⟩ := qz h; exact ⟨g, e, hk.grows hg, hl⟩)⟩⟩
  refine gent_consR (fun vs L w1 hL hw1 => ?_) ?_
  · obtain ⟨⟨qB, qk⟩, q1, q7, q11, qm, qs, qb, qz⟩ := HO.out _ _ _ hw1
    have l11 : L 11 = true := hL.need 11 (by kernel_rfl)
    have ho := q11 l11
    obtain ⟨B, cx, ev, hcx, -⟩ := ho.read
    rw [ev] at ho
    refine gen_plain rfl ?_
    simp only [ev]
    go_simp
    have hg := (Below.refl w1.heap.size w1).alloc (Nat.le_refl _) (Obj.cells #[.slice B x.m.length cx] 23)
    have hk := Blk.new w1 23 #[.slice B x.m.length cx]
    exact gr_val (HI.out _ _ _ ⟨⟨below_grows qB (Nat.le_refl _) hg, qk.grows hg⟩, kn_free q1 rfl, (fun h => by obtain ⟨A, e, hr⟩ := q7 h; exact ⟨A, e, hr.grows hg⟩), (fun h => (q11 h).grows hg), (fun _ => ⟨w1.heap.size, _, rfl, hk, qB.size, ho.grows hg⟩), (fun h => by obtain ⟨A, e, hr⟩ := qs h; exact ⟨A, e, hr.grows hg⟩), (fun h => by obtain ⟨A1, g, mv, A3, e, hr, hs, hk, hl, ho⟩ := qb h; exact ⟨A1, g, mv, A3, e, hr.grows hg, hs.grows hg, hk.grows hg, hl, ho.grows hg⟩), (fun h => by obtain ⟨g, e, hk, hl⟩ := qz h; exact ⟨g, e, hk.grows hg, hl⟩)⟩)
  refine gent_consR (fun vs L w1 hL hw1 => ?_) ?_
  · obtain ⟨⟨qB, qk⟩, q1, q7, q11, qm, qs, qb, qz⟩ := HO.out _ _ _ hw1
    refine gen_plain rfl ?_
    go_simp
    exact gr_val (HI.out _ _ _ ⟨⟨qB, qk⟩, kn_known q1 rfl, q7, q11, qm, qs, qb, qz⟩)
  refine gent_consR (fun vs L w1 hL hw1 => ?_) ?_
  · obtain ⟨⟨qB, qk⟩, q1, q7, q11, qm, qs, qb, qz⟩ := HO.out _ _ _ hw1
    have l13 : L 13 = true := hL.need 13 (by kernel_rfl)
    have e13 := q1 13 _ rfl l13
    have xc := qk.cell 3
    refine gen_plain rfl ?_
    simp only [e13]
    go_simp
    exact gr_val (HI.out _ _ _ ⟨⟨qB, qk⟩, kn_known q1 rfl, q7, q11, qm, qs, qb, qz⟩)
  refine gent_consR (fun vs L w1 hL hw1 => ?_) ?_
  · obtain ⟨⟨qB, qk⟩, q1, q7, q11, qm, qs, qb, qz⟩ := HO.out _ _ _ hw1
    have l14 : L 14 = true := hL.need 14 (by kernel_rfl)
    have e14 := q1 14 _ rfl l14
    refine gen_plain rfl ?_
    simp only [e14]
    go_simp
    refine gr_call ?_
    refine (one_any _ _).mono ?_
    rintro e wc ⟨⟨A5, rfl, hr5⟩, hg⟩
    have hsz := qB.size
    exact ⟨_, rfl, HI.out _ _ _ ⟨⟨below_grows qB (Nat.le_refl _) hg, qk.grows hg⟩, kn_free q1 rfl, (fun h => by obtain ⟨A, e, hr⟩ := q7 h; exact ⟨A, e, hr.grows hg⟩), (fun h => (q11 h).grows hg), (fun h => by obtain ⟨g, mv, e, hk, hl, ho⟩ := qm h; exact ⟨g, mv, e, hk.grows hg, hl, ho.grows hg⟩), (fun _ => ⟨A5, rfl, RdB.mono hr5 (fun k hk => by unfold Ge at *; omega)⟩), (fun h => by obtain ⟨A1, g, mv, A3, e, hr, hs, hk, hl, ho⟩ := qb h; exact ⟨A1, g, mv, A3, e, hr.grows hg, hs.grows hg, hk.grows hg, hl, ho.grows hg⟩), (fun h => by obtain ⟨g, e, hk, hl⟩ := qz h; exact ⟨g, e, hk.grows hg, hl⟩)⟩⟩
  refine gent_consR (fun vs L w1 hL hw1 => ?_) ?_
  · obtain ⟨⟨qB, qk⟩, q1, q7, q11, qm, qs, qb, qz⟩ := HO.out _ _ _ hw1
    have l3 : L 3 = true := hL.need 3 (by kernel_rfl)
    have e3 := q1 3 _ rfl l3
    have l7 : L 7 = true := hL.need 7 (by kernel_rfl)
    have lm : L 12 = true := hL.need 12 (by kernel_rfl)
    have ls : L 15 = true := hL.need 15 (by kernel_rfl)
    obtain ⟨A1, e7, hr⟩ := q7 l7
    obtain ⟨g, mv, em, hk, hl, ho⟩ := qm lm
    obtain ⟨A3, es, hs⟩ := qs ls
    refine gen_plain rfl ?_
    simp only [e3, e7, em, es]
    go_simp
    exact gr_val (HI.out _ _ _ ⟨⟨qB, qk⟩, kn_free q1 rfl, q7, q11, qm, qs, (fun _ => ⟨A1, g, mv, A3, rfl, hr, hs, hk, hl, ho⟩), qz⟩)
  refine gent_consR (fun vs L w1 hL hw1 => ?_) ?_
  · obtain ⟨⟨qB, qk⟩, q1, q7, q11, qm, qs, qb, qz⟩ := HO.out _ _ _ hw1
    refine gen_plain rfl ?_
    go_simp
    have hg := (Below.refl w1.heap.size w1).alloc (Nat.le_refl _) (Obj.cells #[.int .i64 0, .slice none 0 0, .slice none 0 0, .slice none 0 0] 48)
    have hk := Blk.new w1 48 #[.int .i64 0, .slice none 0 0, .slice none 0 0, .slice none 0 0]
    exact gr_val (HI.out _ _ _ ⟨⟨below_grows qB (Nat.le_refl _) hg, qk.grows hg⟩, kn_free q1 rfl, (fun h => by obtain ⟨A, e, hr⟩ := q7 h; exact ⟨A, e, hr.grows hg⟩), (fun h => (q11 h).grows hg), (fun h => by obtain ⟨g, mv, e, hk, hl, ho⟩ := qm h; exact ⟨g, mv, e, hk.grows hg, hl, ho.grows hg⟩), (fun h => by obtain ⟨A, e, hr⟩ := qs h; exact ⟨A, e, hr.grows hg⟩), (fun h => by obtain ⟨A1, g, mv, A3, e, hr, hs, hk, hl, ho⟩ := qb h; exact ⟨A1, g, mv, A3, e, hr.grows hg, hs.grows hg, hk.grows hg, hl, ho.grows hg⟩), (fun _ => ⟨w1.heap.size, rfl, hk, qB.size⟩)⟩)
  refine gent_nil ?_
  intro vs L W2 hall hS
  obtain ⟨⟨hB2, qk⟩, q1, -, -, -, -, qb, qz⟩ := HO.out _ _ _ hS
  obtain ⟨A1, gm, mv, A3, eb, hr, hs, hm, hl, ho⟩ := qb (hall 16 (by omega))
  obtain ⟨G, ez, hG, hlG⟩ := qz (hall 17 (by omega))
  have e0 := q1 0 _ rfl (hall 0 (by omega))
  have e1 := q1 1 _ rfl (hall 1 (by omega))
  have e2 := q1 2 _ rfl (hall 2 (by omega))
  have e3 := q1 3 _ rfl (hall 3 (by omega))
  have e4 := q1 4 _ rfl (hall 4 (by omega))
  have e5 := q1 5 _ rfl (hall 5 (by omega))
  have e6 := q1 6 _ rfl (hall 6 (by omega))
  have e8 := q1 8 _ rfl (hall 8 (by omega))
  have e9 := q1 9 _ rfl (hall 9 (by omega))
  have e10 := q1 10 _ rfl (hall 10 (by omega))
  have e13 := q1 13 _ rfl (hall 13 (by omega))
  have e14 := q1 14 _ rfl (hall 14 (by omega))
  clear hall hS HI HO q1 qb qz hB k1 x1 qk
  simp only [e0, e1, e2, e3, e4, e5, e6, e8, e9, e10, e13, e14, eb, ez]
  clear e0 e1 e2 e3 e4 e5 e6 e8 e9 e10 e13 e14 eb ez
  have hgm : gm ≠ G := hm.ne_ hG (by decide)
  have hmG := own_blk_ne ho hG (by decide)
  have hr2 : RdB W2 (fun k => w.heap.size ≤ k ∧ k ≠ G) 2 A1 1 (scells [(x.r, x.r)]) := ⟨hr.1, fun hn ad e => ⟨hr.2 hn ad e, sp_ne_box hr.1 hG ad e hn⟩⟩
  have hs2 : RdB W2 (fun k => w.heap.size ≤ k ∧ k ≠ G) 2 A3 1 (scells [(x.s, x.s)]) := ⟨hs.1, fun hn ad e => ⟨hs.2 hn ad e, sp_ne_box hs.1 hG ad e hn⟩⟩
  have y3 := hG.cell
  have hf3 := hG.frozen
  have k3 := ((((hG.set_ 0 (.int .i64 K)).set_ 1 (.slice A1 1 1)).set_ 2 (.slice (some ⟨gm, 0, none⟩) 1 1)).set_ 3 (.slice A3 1 1))
  have hB := ((((hB2.setCell (p := ⟨G, 0, none⟩) (show w.heap.size ≤ G by omega) (.int .i64 K)).setCell (p := ⟨G, 1, none⟩) (show w.heap.size ≤ G by omega) (.slice A1 1 1)).setCell (p := ⟨G, 2, none⟩) (show w.heap.size ≤ G by omega) (.slice (some ⟨gm, 0, none⟩) 1 1)).setCell (p := ⟨G, 3, none⟩) (show w.heap.size ≤ G by omega) (.slice A3 1 1))
  replace hr2 := RdB.grown hr2 (d_only_set (d_only_set (d_only_set (d_only_set (World.grownBy.refl _ (some G)) 0 (.int .i64 K)) 1 (.slice A1 1 1)) 2 (.slice (some ⟨gm, 0, none⟩) 1 1)) 3 (.slice A3 1 1)) (fun q e => by injection e with e; omega)
  replace hs2 := RdB.grown hs2 (d_only_set (d_only_set (d_only_set (d_only_set (World.grownBy.refl _ (some G)) 0 (.int .i64 K)) 1 (.slice A1 1 1)) 2 (.slice (some ⟨gm, 0, none⟩) 1 1)) 3 (.slice A3 1 1)) (fun q e => by injection e with e; omega)
  replace hm := hm.grown (d_only_set (d_only_set (d_only_set (d_only_set (World.grownBy.refl _ (some G)) 0 (.int .i64 K)) 1 (.slice A1 1 1)) 2 (.slice (some ⟨gm, 0, none⟩) 1 1)) 3 (.slice A3 1 1)) (by intro e; injection e; omega)
  have ho2 : OwnI _ w.heap.size mv x.m := World.ownsRow.kept ho (d_only_set (d_only_set (d_only_set (d_only_set (World.grownBy.refl _ (some G)) 0 (.int .i64 K)) 1 (.slice A1 1 1)) 2 (.slice (some ⟨gm, 0, none⟩) 1 1)) 3 (.slice A3 1 1)) (.inr hmG)
  clear hr hs hG hB2 ho hmG
  go_upto_region 4 with fail
  clear y3 hf3
  generalize World.setCell (World.setCell (World.setCell (World.setCell W2 _ _) _ _) _ _) _ _ = w4 at *
  have k3 : Blk w4 G 48 #[.int .i64 K, .slice A1 1 1, .slice (some ⟨gm, 0, none⟩) 1 1, .slice A3 1 1] := k3
  obtain ⟨B, cx, rfl, hcx, hib⟩ := InB.of_own ho2
  have hmr : MapsR w4 (Ge w.heap.size) (some ⟨gm, 0, none⟩) [x.m] := maps_one hm hl hib hcx
  have hp : BoxP w4 (Ge w.heap.size) ⟨K, [(x.r, x.r)], [x.m], [(x.s, x.s)]⟩ A1 1 (some ⟨gm, 0, none⟩) 1 A3 1 := ⟨RdB.mono hr2 (fun k hk => hk.1), hmr, RdB.mono hs2 (fun k hk => hk.1), Nat.le_refl _, Nat.le_refl _, Nat.le_refl _⟩
  have hok : OKB ⟨K, [(x.r, x.r)], [x.m], [(x.s, x.s)]⟩ := okb_one K hxm
  clear hr2 hs2 hm ho2 hib hmr
  have x3 := k3.cell
  obtain ⟨z, hz⟩ : ∃ z : Bx, z = ⟨K, [(x.r, x.r)], [x.m], [(x.s, x.s)]⟩ := ⟨_, rfl⟩
  have hcon := (pfine_any hp hok)
  rw [← hz] at hcon hp hok
  have HSZ : Hid (singleF x = if fineB z = true then [z] else []) := Lib.hid (by rw [hz]; exact HS.out)
  have HZC : Hid ((#[.int .i64 K, .slice A1 1 1, .slice (some ⟨gm, 0, none⟩) 1 1, .slice A3 1 1] : Array Value) = #[.int .i64 z.k, .slice A1 z.r.length 1, .slice (some ⟨gm, 0, none⟩) z.m.length 1, .slice A3 z.s.length 1]) := Lib.hid (by rw [hz]; rfl)
  rw [← HZC.out] at hcon
  have HC := Lib.hid hcon
  clear hcon hz
  go_wp2_with fail
  refine HC.out.mono ?_
  cases hv : fineB z
  · have HE : Hid (singleF x = []) := Lib.hid (by rw [HSZ.out, if_neg (by rw [hv]; decide)])
    clear hv
    rintro e w5 ⟨rfl, hq⟩
    replace hB := below_grows hB (Nat.le_refl _) hq
    go_wp2
    go_ret
    rw [HE.out]
    exact ⟨⟨none, 0, rfl, Nat.le_refl _, Bxs.nil⟩, hB⟩
  · have HE : Hid (singleF x = [z]) := Lib.hid (by rw [HSZ.out, if_pos hv])
    clear hv
    rintro e w5 ⟨rfl, hq⟩
    replace hB := below_grows hB (Nat.le_refl _) hq
    replace k3 := k3.grows hq
    replace hp := hp.grows hq
    clear hq x3
    have x3 := k3.cell
    have hL := bxs_one2 hp (show Ge w.heap.size w5.heap.size from hB.size) HZC.out
    have hq := (Below.refl w5.heap.size w5).alloc (Nat.le_refl _) (Obj.cells #[.int .i64 K, .slice A1 1 1, .slice (some ⟨gm, 0, none⟩) 1 1, .slice A3 1 1] 48)
    have hB6 := below_grows hB (Nat.le_refl _) hq
    clear hq hB
    go_wp2
    go_ret
    rw [HE.out]
    exact ⟨⟨_, 1, rfl, Nat.le_refl _, hL⟩, hB6⟩
set_option maxHeartbeats 64000000 in
set_option maxRecDepth 10000 in
theorem rsingle_any {I : Option Addr} {ci : Nat} {x : Ch} {w : World} (ix : Ints w I x.m) (hci : x.m.length ≤ ci) (hxm : x.m.length ≤ 1000000) :
    Calls Tryz.prog 31 #[.agg #[.int .i64 x.k, .int .i64 x.r, .slice I x.m.length ci, .int .i64 x.s]] w fun e w' => (∃ A c, e = .returned (.slice A (singleF x).length c) ∧ (singleF x).length ≤ c ∧ Bxs w' (fun _ => True) A (singleF x)) ∧ Grows w w' := by
  have k1 := Blk.new w 27 #[.int .i64 x.k, .int .i64 x.r, .slice I x.m.length ci, .int .i64 x.s]
  have hB := (Below.refl w.heap.size w).alloc (Nat.le_refl _) (Obj.cells #[.int .i64 x.k, .int .i64 x.r, .slice I x.m.length ci, .int .i64 x.s] 27)
  go_enter Tryz.func31, Tryz.ntmps31
  go_upto_region 1 with fail
  generalize World.alloc w _ = w1 at *
  have x1 := k1.cell
  by_cases h1 : x.k < 1
  · have HE : Hid (singleF x = []) := Lib.hid (if_neg (fun h => by omega))
    have d1 : decide (x.k < 1) = true := by simpa using h1
    clear h1
    go_wp2
    go_ret
    rw [HE.out]
    exact ⟨⟨none, 0, rfl, Nat.le_refl _, Bxs.nil⟩, hB⟩
  have d1 : decide (x.k < 1) = false := by simpa using h1
  by_cases h2 : 7 < x.k
  · have HE : Hid (singleF x = []) := Lib.hid (if_neg (fun h => by omega))
    have d2 : decide (7 < x.k) = true := by simpa using h2
    clear h1 h2
    go_wp2
    go_ret
    rw [HE.out]
    exact ⟨⟨none, 0, rfl, Nat.le_refl _, Bxs.nil⟩, hB⟩
  have d2 : decide (7 < x.k) = false := by simpa using h2
  have hk1 : 1 ≤ x.k := by omega
  have hk7 : x.k ≤ 7 := by omega
  have hk0 : 0 ≤ x.k := by omega
  have hK0 := shl_small hk0 hk7
  obtain ⟨K, hK⟩ : ∃ K, IntKind.i64.wrap (2 ^ x.k.toNat) = K := ⟨_, rfl⟩
  have HK : Hid (2 ^ x.k.toNat = K) := Lib.hid (hK0.symm.trans hK)
  have HS : Hid (singleF x = if fineB ⟨K, [(x.r, x.r)], [x.m], [(x.s, x.s)]⟩ = true then [⟨K, [(x.r, x.r)], [x.m], [(x.s, x.s)]⟩] else []) := Lib.hid (by
    unfold singleF oneB
    rw [HK.out]
    by_cases hf : fineB ⟨K, [(x.r, x.r)], [x.m], [(x.s, x.s)]⟩ = true
    · rw [if_pos ⟨hk1, hk7, hf⟩, if_pos hf]
    · rw [if_neg (fun h => hf h.2.2), if_neg hf])
  clear h1 h2 hK0
  go_upto_region 3 with fail
  obtain ⟨S, HI, HO⟩ := hideS fun (L : Ran) (vs : Nat → Value) (w' : World) => ((Below w.heap.size w w' ∧ Blk w' w.heap.size 27 #[.int .i64 x.k, .int .i64 x.r, .slice I x.m.length ci, .int .i64 x.s]) ∧ KnS [some (.pointer (some ⟨w.heap.size, 0, none⟩)), some (.pointer (some ⟨w.heap.size, 0, none⟩)), some (.int .i64 x.k), some (.int .i64 K), some (.pointer (some ⟨w.heap.size, 0, none⟩)), some (.pointer (some ⟨w.heap.size, 1, none⟩)), some (.int .i64 x.r), none, some (.pointer (some ⟨w.heap.size, 0, none⟩)), some (.pointer (some ⟨w.heap.size, 2, none⟩)), some (.slice I x.m.length ci), none, some (.pointer (some ⟨w.heap.size, 3, none⟩)), some (.int .i64 x.s), none, none, none] L vs ∧ (L 7 = true → ∃ (A : Option Addr), vs 7 = .agg #[.slice A 1 1] ∧ SpB w' (Ge w.heap.size) A [(x.r, x.r)]) ∧ (L 11 = true → ∃ (g : Nat) (mv : Value), vs 11 = .slice (some ⟨g, 0, none⟩) 1 1 ∧ Blk w' g 23 #[mv] ∧ w.heap.size ≤ g ∧ InB w' (Under w.heap.size) I x.m ∧ mv = .slice I x.m.length ci) ∧ (L 14 = true → ∃ (A : Option Addr), vs 14 = .agg #[.slice A 1 1] ∧ SpB w' (Ge w.heap.size) A [(x.s, x.s)]) ∧ (L 15 = true → ∃ (A1 : Option Addr) (g : Nat) (mv : Value) (A3 : Option Addr), vs 15 = .agg #[.int .i64 K, .slice A1 1 1, .slice (some ⟨g, 0, none⟩) 1 1, .slice A3 1 1] ∧ SpB w' (Ge w.heap.size) A1 [(x.r, x.r)] ∧ SpB w' (Ge w.heap.size) A3 [(x.s, x.s)] ∧ Blk w' g 23 #[mv] ∧ w.heap.size ≤ g ∧ InB w' (Under w.heap.size) I x.m ∧ mv = .slice I x.m.length ci) ∧ (L 16 = true → ∃ (g : Nat) (A1 : Option Addr) (gm : Nat) (mv : Value) (A3 : Option Addr), vs 16 = .slice (some ⟨g, 0, none⟩) 1 1 ∧ Blk w' g 48 #[.int .i64 K, .slice A1 1 1, .slice (some ⟨gm, 0, none⟩) 1 1, .slice A3 1 1] ∧ SpB w' (Ge w.heap.size) A1 [(x.r, x.r)] ∧ SpB w' (Ge w.heap.size) A3 [(x.s, x.s)] ∧ Blk w' gm 23 #[mv] ∧ InB w' (Under w.heap.size) I x.m ∧ mv = .slice I x.m.length ci))
  refine wp_region_genT S 17 33 (by kernel_rfl) (by kernel_rfl) rfl ?_ ?_
  · have hg := Grows.drew' w1
    exact HI.out _ _ _ ⟨⟨below_grows hB (Nat.le_refl _) hg, k1.grows hg⟩, kn_none _ _, (fun h => by cases h), (fun h => by cases h), (fun h => by cases h), (fun h => by cases h), (fun h => by cases h)⟩
  simp only [List.take_succ_cons, List.take_zero, List.drop_succ_cons, List.drop_zero]
  refine gent_consR (fun vs L w1 hL hw1 => ?_) ?_
  · obtain ⟨⟨qB, qk⟩, q1, q7, qm, qs, qb, qz⟩ := HO.out _ _ _ hw1
    refine gen_plain rfl ?_
    go_simp
    exact gr_val (HI.out _ _ _ ⟨⟨qB, qk⟩, kn_known q1 rfl, q7, qm, qs, qb, qz⟩)
  refine gent_consR (fun vs L w1 hL hw1 => ?_) ?_
  · obtain ⟨⟨qB, qk⟩, q1, q7, qm, qs, qb, qz⟩ := HO.out _ _ _ hw1
    have l0 : L 0 = true := hL.need 0 (by kernel_rfl)
    have e0 := q1 0 _ rfl l0
    refine gen_plain rfl ?_
    simp only [e0]
    go_simp
    exact gr_val (HI.out _ _ _ ⟨⟨qB, qk⟩, kn_known q1 rfl, q7, qm, qs, qb, qz⟩)
  refine gent_consR (fun vs L w1 hL hw1 => ?_) ?_
  · obtain ⟨⟨qB, qk⟩, q1, q7, qm, qs, qb, qz⟩ := HO.out _ _ _ hw1
    have l1 : L 1 = true := hL.need 1 (by kernel_rfl)
    have e1 := q1 1 _ rfl l1
    have xc := qk.cell 0
    refine gen_plain rfl ?_
    simp only [e1]
    go_simp
    exact gr_val (HI.out _ _ _ ⟨⟨qB, qk⟩, kn_known q1 rfl, q7, qm, qs, qb, qz⟩)
  refine gent_consR (fun vs L w1 hL hw1 => ?_) ?_
  · obtain ⟨⟨qB, qk⟩, q1, q7, qm, qs, qb, qz⟩ := HO.out _ _ _ hw1
    have l2 : L 2 = true := hL.need 2 (by kernel_rfl)
    have e2 := q1 2 _ rfl l2
    refine gen_plain rfl ?_
    simp only [e2]
    go_simp
    exact gr_val (HI.out _ _ _ ⟨⟨qB, qk⟩, kn_known q1 rfl, q7, qm, qs, qb, qz⟩)
  refine gent_consR (fun vs L w1 hL hw1 => ?_) ?_
  · obtain ⟨⟨qB, qk⟩, q1, q7, qm, qs, qb, qz⟩ := HO.out _ _ _ hw1
    refine gen_plain rfl ?_
    go_simp
    exact gr_val (HI.out _ _ _ ⟨⟨qB, qk⟩, kn_known q1 rfl, q7, qm, qs, qb, qz⟩)
  refine gent_consR (fun vs L w1 hL hw1 => ?_) ?_
  · obtain ⟨⟨qB, qk⟩, q1, q7, qm, qs, qb, qz⟩ := HO.out _ _ _ hw1
    have l4 : L 4 = true := hL.need 4 (by kernel_rfl)
    have e4 := q1 4 _ rfl l4
    refine gen_plain rfl ?_
    simp only [e4]
    go_simp
    exact gr_val (HI.out _ _ _ ⟨⟨qB, qk⟩, kn_known q1 rfl, q7, qm, qs, qb, qz⟩)
  refine gent_consR (fun vs L w1 hL hw1 => ?_) ?_
  · obtain ⟨⟨qB, qk⟩, q1, q7, qm, qs, qb, qz⟩ := HO.out _ _ _ hw1
    have l5 : L 5 = true := hL.need 5 (by kernel_rfl)
    have e5 := q1 5 _ rfl l5
    have xc := qk.cell 1
    refine gen_plain rfl ?_
    simp only [e5]
    go_simp
    exact gr_val (HI.out _ _ _ ⟨⟨qB, qk⟩, kn_known q1 rfl, q7, qm, qs, qb, qz⟩)
  refine gent_consR (fun vs L w1 hL hw1 => ?_) ?_
  · obtain ⟨⟨qB, qk⟩, q1, q7, qm, qs, qb, qz⟩ := HO.out _ _ _ hw1
    have l6 : L 6 = true := hL.need 6 (by kernel_rfl)
    have e6 := q1 6 _ rfl l6
    refine gen_plain rfl ?_
    simp only [e6]
    go_simp
    refine gr_call ?_
    refine (rsingle0_any _ _).mono ?_
    rintro e wc ⟨⟨A5, rfl, hr5⟩, hg⟩
    have hsz := qB.size
    exact ⟨_, rfl, HI.out _ _ _ ⟨⟨below_grows qB (Nat.le_refl _) hg, qk.grows hg⟩, kn_free q1 rfl, (fun _ => ⟨A5, rfl, RdB.mono hr5 (fun k hk => by unfold Ge at *; omega)⟩), (fun h => by obtain ⟨g, mv, e, hk, hl, ho, hmv⟩ := qm h; exact ⟨g, mv, e, hk.grows hg, hl, ho.grows hg, hmv⟩), (fun h => by obtain ⟨A, e, hr⟩ := qs h; exact ⟨A, e, hr.grows hg⟩), (fun h => by obtain ⟨A1, g, mv, A3, e, hr, hs, hk, hl, ho, hmv⟩ := qb h; exact ⟨A1, g, mv, A3, e, hr.grows hg, hs.grows hg, hk.grows hg, hl, ho.grows hg, hmv⟩), (fun h => by obtain ⟨g, A1, gm, mv, A3, e, hb, hr, hs, hk, ho, hmv⟩ := qz h; exact ⟨g, A1, gm, mv, A3, e, hb.grows hg, hr.grows hg, hs.grows hg, hk.grows hg, ho.grows hg, hmv⟩)⟩⟩
  refine gent_consR (fun vs L w1 hL hw1 => ?_) ?_
  · obtain ⟨⟨qB, qk⟩, q1, q7, qm, qs, qb, qz⟩ := HO.out _ _ _ hw1
    refine gen_plain rfl ?_
    go_simp
    exact gr_val (HI.out _ _ _ ⟨⟨qB, qk⟩, kn_known q1 rfl, q7, qm, qs, qb, qz⟩)
  refine gent_consR (fun vs L w1 hL hw1 => ?_) ?_
  · obtain ⟨⟨qB, qk⟩, q1, q7, qm, qs, qb, qz⟩ := HO.out _ _ _ hw1
    have l8 : L 8 = true := hL.need 8 (by kernel_rfl)
    have e8 := q1 8 _ rfl l8
    refine gen_plain rfl ?_
    simp only [e8]
    go_simp
    exact gr_val (HI.out _ _ _ ⟨⟨qB, qk⟩, kn_known q1 rfl, q7, qm, qs, qb, qz⟩)
  refine gent_consR (fun vs L w1 hL hw1 => ?_) ?_
  · obtain ⟨⟨qB, qk⟩, q1, q7, qm, qs, qb, qz⟩ := HO.out _ _ _ hw1
    have l9 : L 9 = true := hL.need 9 (by kernel_rfl)
    have e9 := q1 9 _ rfl l9
    have xc := qk.cell 2
    refine gen_plain rfl ?_
    simp only [e9]
    go_simp
    exact gr_val (HI.out _ _ _ ⟨⟨qB, qk⟩, kn_known q1 rfl, q7, qm, qs, qb, qz⟩)
  refine gent_consR (fun vs L w1 hL hw1 => ?_) ?_
  · obtain ⟨⟨qB, qk⟩, q1, q7, qm, qs, qb, qz⟩ := HO.out _ _ _ hw1
    have l10 : L 10 = true := hL.need 10 (by kernel_rfl)
    have e10 := q1 10 _ rfl l10
    refine gen_plain rfl ?_
    simp only [e10]
    go_simp
    have hg := (Below.refl w1.heap.size w1).alloc (Nat.le_refl _) (Obj.cells #[.slice I x.m.length ci] 23)
    have hk := Blk.new w1 23 #[.slice I x.m.length ci]
    have hib : InB (w1.alloc (Obj.cells #[.slice I x.m.length ci] 23)) (Under w.heap.size) I x.m := InB.grows (InB.grows (RdB.under (base := fun _ => True) ⟨ix, fun _ _ _ => trivial⟩ : InB w (Under w.heap.size) I x.m) qB) hg
    exact gr_val (HI.out _ _ _ ⟨⟨below_grows qB (Nat.le_refl _) hg, qk.grows hg⟩, kn_free q1 rfl, (fun h => by obtain ⟨A, e, hr⟩ := q7 h; exact ⟨A, e, hr.grows hg⟩), (fun _ => ⟨w1.heap.size, _, rfl, hk, qB.size, hib, rfl⟩), (fun h => by obtain ⟨A, e, hr⟩ := qs h; exact ⟨A, e, hr.grows hg⟩), (fun h => by obtain ⟨A1, g, mv, A3, e, hr, hs, hk, hl, ho, hmv⟩ := qb h; exact ⟨A1, g, mv, A3, e, hr.grows hg, hs.grows hg, hk.grows hg, hl, ho.grows hg, hmv⟩), (fun h => by obtain ⟨g, A1, gm, mv, A3, e, hb, hr, hs, hk, ho, hmv⟩ := qz h; exact ⟨g, A1, gm, mv, A3, e, hb.grows hg, hr.grows hg, hs.grows hg, hk.grows hg, ho.grows hg, hmv⟩)⟩)
  refine gent_consR (fun vs L w1 hL hw1 => ?_) ?_
  · obtain ⟨⟨qB, qk⟩, q1, q7, qm, qs, qb, qz⟩ := HO.out _ _ _ hw1
    refine gen_plain rfl ?_
    go_simp
    exact gr_val (HI.out _ _ _ ⟨⟨qB, qk⟩, kn_known q1 rfl, q7, qm, qs, qb, qz⟩)
  refine gent_consR (fun vs L w1 hL hw1 => ?_) ?_
  · obtain ⟨⟨qB, qk⟩, q1, q7, qm, qs, qb, qz⟩ := HO.out _ _ _ hw1
    have l12 : L 12 = true := hL.need 12 (by kernel_rfl)
    have e12 := q1 12 _ rfl l12
    have xc := qk.cell 3
    refine gen_plain rfl ?_
    simp only [e12]
    go_simp
    exact gr_val (HI.out _ _ _ ⟨⟨qB, qk⟩, kn_known q1 rfl, q7, qm, qs, qb, qz⟩)
  refine gent_consR (fun vs L w1 hL hw1 => ?_) ?_
  · obtain ⟨⟨qB, qk⟩, q1, q7, qm, qs, qb, qz⟩ := HO.out _ _ _ hw1
    have l13 : L 13 = true := hL.need 13 (by kernel_rfl)
    have e13 := q1 13 _ rfl l13
    refine gen_plain rfl ?_
    simp only [e13]
    go_simp
    refine gr_call ?_
    refine (rsingle0_any _ _).mono ?_
    rintro e wc ⟨⟨A5, rfl, hr5⟩, hg⟩
    have hsz := qB.size
    exact ⟨_, rfl, HI.out _ _ _ ⟨⟨below_grows qB (Nat.le_refl _) hg, qk.grows hg⟩, kn_free q1 rfl, (fun h => by obtain ⟨A, e, hr⟩ := q7 h; exact ⟨A, e, hr.grows hg⟩), (fun h => by obtain ⟨g, mv, e, hk, hl, ho, hmv⟩ := qm h; exact ⟨g, mv, e, hk.grows hg, hl, ho.grows hg, hmv⟩), (fun _ => ⟨A5, rfl, RdB.mono hr5 (fun k hk => by unfold Ge at *; omega)⟩), (fun h => by obtain ⟨A1, g, mv, A3, e, hr, hs, hk, hl, ho, hmv⟩ := qb h; exact ⟨A1, g, mv, A3, e, hr.grows hg, hs.grows hg, hk.grows hg, hl, ho.grows hg, hmv⟩), (fun h => by obtain ⟨g, A1, gm, mv, A3, e, hb, hr, hs, hk, ho, hmv⟩ := qz h; exact ⟨g, A1, gm, mv, A3, e, hb.grows hg, hr.grows hg, hs.grows hg, hk.grows hg, ho.grows hg, hmv⟩)⟩⟩
  refine gent_consR (fun vs L w1 hL hw1 => ?_) ?_
  · obtain ⟨⟨qB, qk⟩, q1, q7, qm, qs, qb, qz⟩ := HO.out _ _ _ hw1
    have l3 : L 3 = true := hL.need 3 (by kernel_rfl)
    have e3 := q1 3 _ rfl l3
    have l7 : L 7 = true := hL.need 7 (by kernel_rfl)
    have lm : L 11 = true := hL.need 11 (by kernel_rfl)
    have ls : L 14 = true := hL.need 14 (by kernel_rfl)
    obtain ⟨A1, e7, hr⟩ := q7 l7
    obtain ⟨g, mv, em, hk, hl, ho, hmv⟩ := qm lm
    obtain ⟨A3, es, hs⟩ := qs ls
    refine gen_plain rfl ?_
    simp only [e3, e7, em, es]
    go_simp
    exact gr_val (HI.out _ _ _ ⟨⟨qB, qk⟩, kn_free q1 rfl, q7, qm, qs, (fun _ => ⟨A1, g, mv, A3, rfl, hr, hs, hk, hl, ho, hmv⟩), qz⟩)
  refine gent_consR (fun vs L w1 hL hw1 => ?_) ?_
  · obtain ⟨⟨qB, qk⟩, q1, q7, qm, qs, qb, qz⟩ := HO.out _ _ _ hw1
    have lb : L 15 = true := hL.need 15 (by kernel_rfl)
    obtain ⟨A1, g, mv, A3, eb, hr, hs, hk, hl, ho, hmv⟩ := qb lb
    refine gen_plain rfl ?_
    simp only [eb]
    go_simp
    have hg := (Below.refl w1.heap.size w1).alloc (Nat.le_refl _) (Obj.cells #[.int .i64 K, .slice A1 1 1, .slice (some ⟨g, 0, none⟩) 1 1, .slice A3 1 1] 48)
    have hb := Blk.new w1 48 #[.int .i64 K, .slice A1 1 1, .slice (some ⟨g, 0, none⟩) 1 1, .slice A3 1 1]
    exact gr_val (HI.out _ _ _ ⟨⟨below_grows qB (Nat.le_refl _) hg, qk.grows hg⟩, kn_free q1 rfl, (fun h => by obtain ⟨A, e, hr⟩ := q7 h; exact ⟨A, e, hr.grows hg⟩), (fun h => by obtain ⟨g, mv, e, hk, hl, ho, hmv⟩ := qm h; exact ⟨g, mv, e, hk.grows hg, hl, ho.grows hg, hmv⟩), (fun h => by obtain ⟨A, e, hr⟩ := qs h; exact ⟨A, e, hr.grows hg⟩), (fun h => by obtain ⟨A1, g, mv, A3, e, hr, hs, hk, hl, ho, hmv⟩ := qb h; exact ⟨A1, g, mv, A3, e, hr.grows hg, hs.grows hg, hk.grows hg, hl, ho.grows hg, hmv⟩), (fun _ => ⟨w1.heap.size, A1, g, mv, A3, rfl, hb, hr.grows hg, hs.grows hg, hk.grows hg, ho.grows hg, hmv⟩)⟩)
  refine gent_nil ?_
  intro vs L W2 hall hS
  obtain ⟨⟨hB2, qk⟩, q1, -, -, -, -, qz⟩ := HO.out _ _ _ hS
  obtain ⟨G, A1, gm, mv, A3, ez, hG, hr, hs, hm, ho, hmv⟩ := qz (hall 16 (by omega))
  have e0 := q1 0 _ rfl (hall 0 (by omega))
  have e1 := q1 1 _ rfl (hall 1 (by omega))
  have e2 := q1 2 _ rfl (hall 2 (by omega))
  have e3 := q1 3 _ rfl (hall 3 (by omega))
  have e4 := q1 4 _ rfl (hall 4 (by omega))
  have e5 := q1 5 _ rfl (hall 5 (by omega))
  have e6 := q1 6 _ rfl (hall 6 (by omega))
  have e8 := q1 8 _ rfl (hall 8 (by omega))
  have e9 := q1 9 _ rfl (hall 9 (by omega))
  have e10 := q1 10 _ rfl (hall 10 (by omega))
  have e12 := q1 12 _ rfl (hall 12 (by omega))
  have e13 := q1 13 _ rfl (hall 13 (by omega))
  clear hall hS HI HO q1 qz hB k1 x1 qk
  simp only [e0, e1, e2, e3, e4, e5, e6, e8, e9, e10, e12, e13, ez]
  clear e0 e1 e2 e3 e4 e5 e6 e8 e9 e10 e12 e13 ez
  subst hmv
  have hB := hB2
  have hmr : MapsR W2 (fun _ => True) (some ⟨gm, 0, none⟩) [x.m] := maps_one hm trivial (InB.mono ho (fun _ _ => trivial)) hci
  have hp : BoxP W2 (fun _ => True) ⟨K, [(x.r, x.r)], [x.m], [(x.s, x.s)]⟩ A1 1 (some ⟨gm, 0, none⟩) 1 A3 1 := ⟨RdB.mono hr (fun _ _ => trivial), hmr, RdB.mono hs (fun _ _ => trivial), Nat.le_refl _, Nat.le_refl _, Nat.le_refl _⟩
  have hok : OKB ⟨K, [(x.r, x.r)], [x.m], [(x.s, x.s)]⟩ := okb_one K hxm
  have hL := bxs_blk hp hG rfl
  obtain ⟨z, hz⟩ : ∃ z : Bx, z = ⟨K, [(x.r, x.r)], [x.m], [(x.s, x.s)]⟩ := ⟨_, rfl⟩
  rw [← hz] at hL hok
  have HE : Hid (singleF x = boxesF [z]) := Lib.hid (by
    rw [HS.out, ← hz]
    unfold boxesF validL
    simp)
  have hcon := (rlist_any (some ⟨G, 0, none⟩) 1 (fun _ => True) [z] W2 hL (by simp) (fun b hb => by simp only [List.mem_singleton] at hb; exact hb ▸ hok) (by simp))
  have HC := Lib.hid hcon
  clear hcon hr hs hm ho hmr hp hok hz hG hL hB2
  go_wp2_with fail
  refine HC.out.mono ?_
  rintro e w5 ⟨⟨A4, c4, rfl, hc4, hbx⟩, hq⟩
  replace hB := below_grows hB (Nat.le_refl _) hq
  replace hbx := hbx.grows hq
  generalize boxesF [z] = zs at *
  go_wp2
  go_ret
  rw [HE.out]
  exact ⟨⟨_, _, rfl, hc4, hbx⟩, hB⟩
end Go.Proofs.YtnbdpnlepcjmmaaGreat

namespace Go.Proofs.YtnbdpnlepcjmmaaGreat
open Go.ChangeShapes Go.WideShapes Go.RowKit Go.Deep
section
variable {H : Type} {enc : TypeId × Value → H} {P : Program} {w : World} {base : Nat} {spare : Nat → Bool} {held : Bool} {r : Reach} {b0 : Nat}
/-- A struct of one-cell fields: its cells, each with its own reading. -/
theorem open_flat {t : TypeId} {fs : Array Field} {v : Value} {d : DataW H} {p : List MemPlace} (ht : P.underlying t = some (.struct fs)) (hone : oneCellFields P fs = true) (hC : P.cellsOf t = fs.size)
 (hv : Value.okWide P w r b0 t v) (h : DataW.Trod enc P w base spare held t v d p) :
 ∃ l : List Value, v = .agg l.toArray ∧ l.length = fs.size ∧ ∀ (i : Nat) (f : Field), fs[i]? = some f → ∃ (x : Value) (n : Nat) (y : DataW H × List MemPlace), l[i]? = some x ∧ DataW.trod enc P w base spare held n f.type [x] = some y := by
 obtain ⟨cs, rfl, hsz⟩ := okWide_struct ht hv
 obtain ⟨fuel, hf⟩ := h
 obtain ⟨xs, n, _, _, hcl, hlen, hg⟩ := DataW.trod_struct ht hf
 have hcs : (Value.agg cs).cells.toList = cs.toList := rfl
 refine ⟨cs.toList, rfl, by simpa [hC] using hsz, fun i f hi => ?_⟩
 obtain ⟨ho, hk⟩ := hone_of hone i f hi
 have hil : i < fs.size := (Array.getElem?_eq_some_iff.1 hi).1
 have hil' : i < cs.toList.length := by simp [hsz, hC, hil]
 have h1 := hg i f hi
 rw [ho, hk] at h1
 have hone' : ((Value.agg cs).cells.toList.drop i).take 1 = [cs.toList[i]] := by
  rw [hcs, List.drop_eq_getElem_cons hil']
  rfl
 rw [hone', List.getElem?_eq_getElem (by omega)] at h1
 exact ⟨cs.toList[i], n, _, List.getElem?_eq_getElem hil', h1⟩
def allInt (P : Program) (k : IntKind) (fs : Array Field) : Bool := fs.toList.all fun f => match P.underlying f.type with | some (.int k') => decide (k' = k) | _ => false
theorem open_ints_agg {t : TypeId} {fs : Array Field} {k : IntKind} {n : Nat} {v : Value} {d : DataW H} {p : List MemPlace} (ht : P.underlying t = some (.struct fs)) (hone : oneCellFields P fs = true) (hC : P.cellsOf t = n) (hn : fs.size = n) (hk : allInt P k fs = true)
 (hv : Value.okWide P w r b0 t v) (h : DataW.Trod enc P w base spare held t v d p) :
 ∃ l : List Int, v = .agg (l.map (Value.int k)).toArray ∧ l.length = n ∧ ∀ a ∈ l, (Lit.int k a).wf = true := by
 obtain ⟨l, rfl, hl, hf⟩ := open_flat ht hone (hC.trans hn.symm) hv h
 have each : ∀ i, i < l.length → ∃ a : Int, l[i]? = some (.int k a) ∧ (Lit.int k a).wf = true := by
  intro i hi
  have hi' : i < fs.size := by omega
  obtain ⟨x, m, y, hx, hy⟩ := hf i fs[i] (Array.getElem?_eq_getElem hi')
  have hki := List.all_eq_true.1 hk fs[i] (by simp)
  split at hki
  ·rename_i k' hu
   have : k' = k := by simpa using hki
   subst this
   obtain ⟨a, h1, _, h3⟩ := DataW.trod_int hu hy
   simp only [List.cons.injEq, and_true] at h1
   exact ⟨a, by rw [hx, h1], h3⟩
  ·cases hki
 have hmap : ∀ l : List Value, (∀ i, i < l.length → ∃ a : Int, l[i]? = some (.int k a) ∧ (Lit.int k a).wf = true) → ∃ z : List Int, l = z.map (Value.int k) ∧ ∀ a ∈ z, (Lit.int k a).wf = true := by
  intro l
  induction l with
  | nil => exact fun _ => ⟨[], rfl, by simp⟩
  | cons x l ih =>
   intro hh
   obtain ⟨a, h1, h2⟩ := hh 0 (by simp)
   obtain ⟨z, rfl, hz⟩ := ih fun i hi => by simpa using hh (i + 1) (by simp; omega)
   simp at h1
   exact ⟨a :: z, by rw [h1]; rfl, by simpa [h2] using hz⟩
 obtain ⟨z, rfl, hz⟩ := hmap l each
 exact ⟨z, rfl, by simpa [hn] using hl, hz⟩
end
theorem i64_bd {n : Int} (h : (Lit.int .i64 n).wf = true) : -9223372036854775808 ≤ n ∧ n ≤ 9223372036854775807 := by
 simpa [Lit.wf, IntKind.min, IntKind.max, IntKind.signed, IntKind.bits] using h
end Go.Proofs.YtnbdpnlepcjmmaaGreat

namespace Go.Proofs.YtnbdpnlepcjmmaaGreat
open Go.ChangeShapes Go.WideShapes Go.RowKit Go.Deep
set_option maxRecDepth 100000 in
/-- A slice of ints among the arguments. -/
theorem open_slice_kind {H : Type} {enc : TypeId × Value → H} {P : Program} {w : World} {r : Reach} {b0 : Nat} {k : IntKind} {t e : TypeId} {v : Value} {d : DataW H} {p : List MemPlace} (ht : P.underlying t = some (.slice e)) (he : P.underlying e = some (.int k)) (hc : P.cellsOf e = 1)
 (hv : Value.okWide P w r b0 t v) (h : DataW.Trod enc P w 0 (fun _ => true) true t v d p) :
 ∃ (A : Option Addr) (c : Nat) (l : List Int), v = .slice A l.length c ∧ Reads w w.heap.size 1 A l.length (l.map (Value.int k)) ∧ l.length ≤ maxLen ∧ l.length ≤ c ∧ ∀ x ∈ l, (Lit.int k x).wf = true := by
 obtain ⟨a0, len, cap, rfl⟩ := okWide_slice ht hv
 obtain ⟨fuel, hf⟩ := h
 rcases open_ints ht he hc hf with ⟨hcs, _⟩ | ⟨a, len', cap', zs, hcs, _, hl, hm, hz, _, hcell, hwz⟩
 ·simp [Value.cells] at hcs
  obtain ⟨rfl, rfl, rfl⟩ := hcs
  exact ⟨none, 0, [], rfl, ⟨by simp, fun h => absurd h (by simp)⟩, by simp, by simp, by simp⟩
 ·simp [Value.cells] at hcs
  obtain ⟨rfl, rfl, rfl⟩ := hcs
  simp only [if_true] at hz
  have hlen : (zs.take len).length = len := by simp; omega
  refine ⟨some a, cap, zs.take len, by rw [hlen], ⟨by simp, fun _ => ⟨a, rfl, ?_, fun j u hu => ?_⟩⟩, by omega, by omega, fun x hx => hwz x (List.mem_of_mem_take hx)⟩
  ·have h0 : 0 < zs.length := by
    rename_i hpos
    rw [hlen] at hpos
    omega
   have := hcell 0 h0
   have hb : (a.add 0).block = a.block := block_of_add a 0
   rw [← hb]
   exact World.block_lt_of_cell? w _ this
  ·rw [List.getElem?_map] at hu
   obtain ⟨x, hx, rfl⟩ := Option.map_eq_some_iff.1 hu
   have hj : j < len := by
    have := (List.getElem?_eq_some_iff.1 hx).1
    rw [hlen] at this
    exact this
   rw [hcell j (by omega)]
   rw [List.getElem?_take, if_pos hj] at hx
   rw [List.getD_eq_getElem?_getD, hx]
   rfl
set_option maxRecDepth 100000 in
theorem u8_bd {n : Int} (h : (Lit.int .u8 n).wf = true) : 0 ≤ n ∧ n ≤ 255 := by
 simpa [Lit.wf, IntKind.min, IntKind.max, IntKind.signed, IntKind.bits] using h
set_option maxRecDepth 100000 in
theorem u16_bd {n : Int} (h : (Lit.int .u16 n).wf = true) : 0 ≤ n ∧ n ≤ 65535 := by
 simpa [Lit.wf, IntKind.min, IntKind.max, IntKind.signed, IntKind.bits] using h
set_option maxRecDepth 100000 in
theorem i16_bd {n : Int} (h : (Lit.int .i16 n).wf = true) : -32768 ≤ n ∧ n ≤ 32767 := by
 simpa [Lit.wf, IntKind.min, IntKind.max, IntKind.signed, IntKind.bits] using h
end Go.Proofs.YtnbdpnlepcjmmaaGreat

namespace Go.Proofs.YtnbdpnlepcjmmaaGreat
open Go.RowKit
theorem validM_len {m : List Int} (h : validM m = true) : m.length ≤ 8 := by
  unfold validM at h
  simp only [Bool.and_eq_true, decide_eq_true_eq] at h
  exact h.1.2
theorem okb_fine {b : Bx} (h : FB b) : OKB b := by
  obtain ⟨f1, f2, f3, f4⟩ := fineB_all.1 h.1
  obtain ⟨g1, g2, g3, g4⟩ := maps_iff.1 f4
  have h1 := ((okS_iff b.r).1 h.r).2.2
  have h2 := ((okS_iff b.s).1 h.s).2.2
  exact ⟨by omega, by omega, by omega, fun x hx => by have := validM_len (g3 x hx); omega⟩
theorem fl_fine {l : List Bx} (h : Fine l) (hl : l.length ≤ 64) : FL l := ⟨fun b hb => ⟨(h b hb).1, (h b hb).2.2.1⟩, hl⟩
theorem small_fine {l : List Bx} (h : Fine l) : Small l := fun b hb => by have := (h b hb).2.2.2; unfold Few at this; omega
theorem FL.okb {l : List Bx} (h : FL l) : ∀ b ∈ l, OKB b := fun b hb => okb_fine (h.1 b hb)
end Go.Proofs.YtnbdpnlepcjmmaaGreat

namespace Go.Proofs.YtnbdpnlepcjmmaaGreat
open Go.RowKit
/-- A box with the dimensions in d, the others those of x. -/
def blendB (d : Int) (x y : Bx) : Bx := ⟨if bitZ d 1 = true then y.k else x.k, if bitZ d 2 = true then y.r else x.r, if bitZ d 4 = true then y.m else x.m, if bitZ d 8 = true then y.s else x.s⟩
def apOk (d : Int) (x y : Bx) : Bool := decide ((interR [x] [blendB d x y]).2 = 0) && decide ((interR [x] [blendB d x y]).1.length = 0)
def apartF (d : Int) (a b : List Bx) : Bool := a.all fun x => b.all fun y => apOk d x y
theorem mix_fine {d : Int} {x y : Bx} (hx : FB x) (hy : FB y) : FB (blendB d x y) := by
  obtain ⟨f1, f2, f3, f4⟩ := fineB_all.1 hx.1
  obtain ⟨g1, g2, g3, g4⟩ := fineB_all.1 hy.1
  refine ⟨fineB_all.2 ⟨?_, ?_, ?_, ?_⟩, ?_⟩
  · show kindsOk (if bitZ d 1 = true then y.k else x.k) = true
    split <;> assumption
  · show withinS (if bitZ d 2 = true then y.r else x.r) _ _ = true
    split <;> assumption
  · show withinS (if bitZ d 8 = true then y.s else x.s) _ _ = true
    split <;> assumption
  · show mapsOk (if bitZ d 4 = true then y.m else x.m) = true
    split <;> assumption
  · show I64 (if bitZ d 1 = true then y.k else x.k)
    split
    · exact hy.2
    · exact hx.2
theorem inD_mix {d : Int} {x y : Bx} {c : Ch} (hc : inB x c = true) : inB (blendB d x y) c = inD d y c := by
  obtain ⟨h1, h2, h3, h4⟩ := inB_iff.1 hc
  have e1 : kindB (blendB d x y).k c.k = (!bitZ d 1 || kindB y.k c.k) := by
    show kindB (if bitZ d 1 = true then y.k else x.k) c.k = _
    cases bitZ d 1
    · simp [h1]
    · simp
  have e2 : hasF (blendB d x y).r c.r = (!bitZ d 2 || hasF y.r c.r) := by
    show hasF (if bitZ d 2 = true then y.r else x.r) c.r = _
    cases bitZ d 2
    · simp [h2]
    · simp
  have e3 : decide (c.m ∈ (blendB d x y).m) = (!bitZ d 4 || decide (c.m ∈ y.m)) := by
    show decide (c.m ∈ (if bitZ d 4 = true then y.m else x.m)) = _
    cases bitZ d 4
    · simp [h3]
    · simp
  have e4 : hasF (blendB d x y).s c.s = (!bitZ d 8 || hasF y.s c.s) := by
    show hasF (if bitZ d 8 = true then y.s else x.s) c.s = _
    cases bitZ d 8
    · simp [h4]
    · simp
  unfold inB inD
  rw [e1, e2, e3, e4]
theorem mix_some {d : Int} {x y : Bx} (hx : FB x) (hy : FB y) : someB (dimsF 15 x (blendB d x y)) = someB (dimsF d x y) := by
  rw [Bool.eq_iff_iff]
  constructor
  · intro h
    obtain ⟨c, c1, c2⟩ := some_has hx (mix_fine hx hy) h
    rw [inD_all, inD_mix c1] at c2
    exact dims_some hx hy c1 c2
  · intro h
    obtain ⟨c, c1, c2⟩ := some_has hx hy h
    exact dims_some hx (mix_fine hx hy) c1 (by rw [inD_all, inD_mix c1]; exact c2)
theorem apOk_is {d : Int} {x y : Bx} (hx : FB x) (hy : FB y) : apOk d x y = !someB (dimsF d x y) := by
  have hz := mix_fine (d := d) hx hy
  have h1 : FL [x] := ⟨fun b hb => by simp only [List.mem_singleton] at hb; exact hb ▸ hx, by simp⟩
  have h2 : FL [blendB d x y] := ⟨fun b hb => by simp only [List.mem_singleton] at hb; exact hb ▸ hz, by simp⟩
  have e : interR [x] [blendB d x y] = productF 15 [x] [blendB d x y] := if_pos ⟨h1.valid, h2.valid⟩
  have ep : prodF 15 [x] [blendB d x y] = prodStep 15 x (some []) (blendB d x y) := rfl
  unfold apOk
  rw [e, ← mix_some hx hy]
  cases hs : someB (dimsF 15 x (blendB d x y))
  · have : productF 15 [x] [blendB d x y] = ([], 0) := by
      unfold productF
      rw [ep, prodStep_no hs]
      rfl
    rw [this]
    rfl
  · cases hm : manyB 15 (dimsF 15 x (blendB d x y))
    · have : productF 15 [x] [blendB d x y] = (reduceL [dimsF 15 x (blendB d x y)], 0) := by
        unfold productF
        rw [ep, prodStep_yes hs hm (by simp)]
        exact if_pos (FL.valid ⟨fun b hb => by simp only [List.nil_append, List.mem_singleton] at hb; exact hb ▸ dims_fine hx hz hs hm, by simp⟩)
      rw [this]
      have hne : (reduceL [dimsF 15 x (blendB d x y)]).length ≠ 0 := fun h => by
        have := reduce_nil.1 (List.eq_nil_of_length_eq_zero h)
        cases this
      rw [decide_eq_false hne]
      rfl
    · have : productF 15 [x] [blendB d x y] = ([], 3) := by
        unfold productF
        rw [ep, prodStep_stop hs (.inl hm)]
      rw [this]
      rfl
/-- Whether some pair has something in common in all of d. -/
def metD (d : Int) (a b : List Bx) : Bool := a.any fun x => b.any fun y => someB (dimsF d x y)
theorem apart_is {d : Int} {a b : List Bx} (ha : FL a) (hb : FL b) : apartF d a b = !metD d a b := by
  have key : apartF d a b = a.all fun x => b.all fun y => !someB (dimsF d x y) := by
    unfold apartF
    rw [Bool.eq_iff_iff, List.all_eq_true, List.all_eq_true]
    constructor
    · intro h x hx
      rw [List.all_eq_true]
      intro y hy
      rw [← apOk_is (ha.1 x hx) (hb.1 y hy)]
      exact List.all_eq_true.1 (h x hx) y hy
    · intro h x hx
      rw [List.all_eq_true]
      intro y hy
      rw [apOk_is (ha.1 x hx) (hb.1 y hy)]
      exact List.all_eq_true.1 (h x hx) y hy
  rw [key]
  unfold metD
  rw [List.not_any_eq_all_not]
  congr 1
  funext x
  rw [List.not_any_eq_all_not]
/-- The program's test. -/
theorem common_fin : ∀ (k r m s : Bool) (d : Fin 16), (bits .and .i64 ((if k then 0 else 1) + (if r then 0 else 2) + (if m then 4 else 0) + (if s then 0 else 8)) (d.val : Int) == (d.val : Int)) = ((!bitZ d.val 1 || !k) && (!bitZ d.val 2 || !r) && (!bitZ d.val 4 || m) && (!bitZ d.val 8 || !s)) := by decide +kernel
theorem meets_is {n : Nat} (hn : n < 16) {x y : Bx} (hx : FB x) (hy : FB y) : meets (n : Int) x y = someB (dimsF (n : Int) x y) := by
  have h := common_fin (decide (bits .and .i64 x.k y.k = 0)) (decide (piecesN x.r y.r = 0)) (meetM x y) (decide (piecesN x.s y.s = 0)) ⟨n, hn⟩
  have e : meets (n : Int) x y = (bits .and .i64 ((if decide (bits .and .i64 x.k y.k = 0) = true then 0 else 1) + (if decide (piecesN x.r y.r = 0) = true then 0 else 2) + (if meetM x y = true then 4 else 0) + (if decide (piecesN x.s y.s = 0) = true then 0 else 8)) (n : Int) == (n : Int)) := by
    unfold meets commonF
    simp only [decide_eq_true_eq]
  rw [e]
  refine (h.trans ?_)
  show ((!bitZ (n : Int) 1 || !decide (bits .and .i64 x.k y.k = 0)) && (!bitZ (n : Int) 2 || !decide (piecesN x.r y.r = 0)) && (!bitZ (n : Int) 4 || meetM x y) && (!bitZ (n : Int) 8 || !decide (piecesN x.s y.s = 0))) = _
  rw [Bool.eq_iff_iff, some_iff]
  simp only [Bool.and_eq_true, Bool.or_eq_true, Bool.not_eq_true', decide_eq_false_iff_not, ← len_inter]
  have c1 : (bitZ (n : Int) 1 = false ∨ ¬ bits .and .i64 x.k y.k = 0) ↔ (dimsF (n : Int) x y).k ≠ 0 := by
    show _ ↔ (if bitZ (n : Int) 1 = true then bits .and .i64 x.k y.k else x.k) ≠ 0
    cases bitZ (n : Int) 1
    · exact ⟨fun _ => hx.k0, fun _ => .inl rfl⟩
    · exact ⟨fun h => h.resolve_left (by decide), fun h => .inr h⟩
  have c2 : (bitZ (n : Int) 2 = false ∨ ¬ (interF x.r y.r).length = 0) ↔ 0 < (dimsF (n : Int) x y).r.length := by
    show _ ↔ 0 < (if bitZ (n : Int) 2 = true then interF (spansF x.r) (spansF y.r) else x.r).length
    rw [hx.sr, hy.sr]
    cases bitZ (n : Int) 2
    · exact ⟨fun _ => hx.r0, fun _ => .inl rfl⟩
    · exact ⟨fun h => Nat.pos_of_ne_zero (h.resolve_left (by decide)), fun h => .inr (Nat.ne_of_gt h)⟩
  have c3 : (bitZ (n : Int) 4 = false ∨ meetM x y = true) ↔ 0 < (dimsF (n : Int) x y).m.length := by
    show _ ↔ 0 < (if bitZ (n : Int) 4 = true then x.m.filter (fun z => decide (z ∈ y.m)) else x.m).length
    cases bitZ (n : Int) 4
    · exact ⟨fun _ => hx.m0, fun _ => .inl rfl⟩
    · constructor
      · intro h
        obtain ⟨m, hm, hy⟩ := List.any_eq_true.1 (h.resolve_left (by decide))
        exact List.length_pos_of_mem (List.mem_filter.2 ⟨hm, hy⟩)
      · intro h
        obtain ⟨m, hm⟩ := List.exists_mem_of_length_pos h
        obtain ⟨h1, h2⟩ := List.mem_filter.1 hm
        exact .inr (List.any_eq_true.2 ⟨m, h1, h2⟩)
  have c4 : (bitZ (n : Int) 8 = false ∨ ¬ (interF x.s y.s).length = 0) ↔ 0 < (dimsF (n : Int) x y).s.length := by
    show _ ↔ 0 < (if bitZ (n : Int) 8 = true then interF (spansF x.s) (spansF y.s) else x.s).length
    rw [hx.ss, hy.ss]
    cases bitZ (n : Int) 8
    · exact ⟨fun _ => hx.s0, fun _ => .inl rfl⟩
    · exact ⟨fun h => Nat.pos_of_ne_zero (h.resolve_left (by decide)), fun h => .inr (Nat.ne_of_gt h)⟩
  rw [c1, c2, c3, c4]
  constructor
  · rintro ⟨⟨⟨h1, h2⟩, h3⟩, h4⟩
    exact ⟨h1, h3, h2, h4⟩
  · rintro ⟨h1, h3, h2, h4⟩
    exact ⟨⟨⟨h1, h2⟩, h3⟩, h4⟩
theorem met_is {n : Nat} (hn : n < 16) {a b : List Bx} (ha : FL a) (hb : FL b) : metF a b (n : Int) = metD (n : Int) a b := by
  unfold metF metD
  rw [Bool.eq_iff_iff, List.any_eq_true, List.any_eq_true]
  constructor
  · rintro ⟨x, hx, h⟩
    obtain ⟨y, hy, h⟩ := List.any_eq_true.1 h
    exact ⟨x, hx, List.any_eq_true.2 ⟨y, hy, by rw [← meets_is hn (ha.1 x hx) (hb.1 y hy)]; exact h⟩⟩
  · rintro ⟨x, hx, h⟩
    obtain ⟨y, hy, h⟩ := List.any_eq_true.1 h
    exact ⟨x, hx, List.any_eq_true.2 ⟨y, hy, by rw [meets_is hn (ha.1 x hx) (hb.1 y hy)]; exact h⟩⟩
theorem metD_comm {d : Int} {a b : List Bx} (ha : FL a) (hb : FL b) : metD d a b = metD d b a := by
  have key : ∀ {a b : List Bx}, FL a → FL b → metD d a b = true → metD d b a = true := by
    intro a b ha hb h
    obtain ⟨x, hx, h⟩ := List.any_eq_true.1 h
    obtain ⟨y, hy, h⟩ := List.any_eq_true.1 h
    refine List.any_eq_true.2 ⟨y, hy, List.any_eq_true.2 ⟨x, hx, ?_⟩⟩
    obtain ⟨c, c1, c2⟩ := some_has (ha.1 x hx) (hb.1 y hy) h
    have fx := ha.1 x hx
    have fy := hb.1 y hy
    have hz := mix_fine (d := d) fx fy
    rw [← mix_some fy fx]
    obtain ⟨e, e1, e2⟩ := some_has fy fy (d := 0) (by
      have : dimsF 0 y y = y := by
        unfold dimsF
        rw [if_neg (by decide), if_neg (by decide), if_neg (by decide), if_neg (by decide)]
      rw [this]
      exact some_iff.2 ⟨fy.k0, fy.m0, fy.r0, fy.s0⟩)
    have hc : inB (blendB d y x) ⟨if bitZ d 1 = true then c.k else e.k, if bitZ d 2 = true then c.r else e.r, if bitZ d 4 = true then c.m else e.m, if bitZ d 8 = true then c.s else e.s⟩ = true := by
      obtain ⟨i1, i2, i3, i4⟩ := inB_iff.1 c1
      obtain ⟨j1, j2, j3, j4⟩ := inB_iff.1 e1
      refine inB_iff.2 ⟨?_, ?_, ?_, ?_⟩
      · show kindB (if bitZ d 1 = true then x.k else y.k) (if bitZ d 1 = true then c.k else e.k) = true
        split <;> assumption
      · show hasF (if bitZ d 2 = true then x.r else y.r) (if bitZ d 2 = true then c.r else e.r) = true
        split <;> assumption
      · show (if bitZ d 4 = true then c.m else e.m) ∈ (if bitZ d 4 = true then x.m else y.m)
        split <;> assumption
      · show hasF (if bitZ d 8 = true then x.s else y.s) (if bitZ d 8 = true then c.s else e.s) = true
        split <;> assumption
    refine dims_some fy (mix_fine fy fx) (c := ⟨if bitZ d 1 = true then c.k else e.k, if bitZ d 2 = true then c.r else e.r, if bitZ d 4 = true then c.m else e.m, if bitZ d 8 = true then c.s else e.s⟩) ?_ (by rw [inD_all]; exact hc)
    unfold inD at c2
    simp only [Bool.and_eq_true, Bool.or_eq_true, Bool.not_eq_true', decide_eq_true_eq] at c2
    obtain ⟨⟨⟨d1, d2⟩, d3⟩, d4⟩ := c2
    obtain ⟨j1, j2, j3, j4⟩ := inB_iff.1 e1
    refine inB_iff.2 ⟨?_, ?_, ?_, ?_⟩
    · show kindB y.k (if bitZ d 1 = true then c.k else e.k) = true
      split
      · rename_i hb; exact d1.resolve_left (by rw [hb]; decide)
      · exact j1
    · show hasF y.r (if bitZ d 2 = true then c.r else e.r) = true
      split
      · rename_i hb; exact d2.resolve_left (by rw [hb]; decide)
      · exact j2
    · show (if bitZ d 4 = true then c.m else e.m) ∈ y.m
      split
      · rename_i hb; exact d3.resolve_left (by rw [hb]; decide)
      · exact j3
    · show hasF y.s (if bitZ d 8 = true then c.s else e.s) = true
      split
      · rename_i hb; exact d4.resolve_left (by rw [hb]; decide)
      · exact j4
  rw [Bool.eq_iff_iff]
  exact ⟨key ha hb, key hb ha⟩
theorem met_zero {a b : List Bx} (ha : FL a) (_hb : FL b) (h1 : a ≠ []) (h2 : b ≠ []) : metD 0 a b = true := by
  obtain ⟨x, hx⟩ := List.exists_mem_of_ne_nil a h1
  obtain ⟨y, hy⟩ := List.exists_mem_of_ne_nil b h2
  have fx := ha.1 x hx
  refine List.any_eq_true.2 ⟨x, hx, List.any_eq_true.2 ⟨y, hy, ?_⟩⟩
  have : dimsF 0 x y = x := by
    unfold dimsF
    rw [if_neg (by decide), if_neg (by decide), if_neg (by decide), if_neg (by decide)]
  rw [this]
  exact some_iff.2 ⟨fx.k0, fx.m0, fx.r0, fx.s0⟩
end Go.Proofs.YtnbdpnlepcjmmaaGreat

namespace Go.Proofs.YtnbdpnlepcjmmaaGreat
open Go.RowKit
theorem ones_fin : ∀ n : Fin 16, ∀ k ∈ [1, 2, 4, 8], bits .and .i64 (n.val : Int) (k : Int) ≠ 0 → ∃ s : Fin 16, bits .andNot .i64 (n.val : Int) (k : Int) = (s.val : Int) ∧ ones (s.val : Int) < ones (n.val : Int) ∧ s.val < 15 := by decide +kernel
theorem bl_spec (l m : List Bx) : ∀ n, n ≤ 14 → (blUp l m n = 15 ∨ ∃ s : Nat, blUp l m n = (s : Int) ∧ 1 ≤ s ∧ s ≤ n ∧ metF l m (s : Int) = false) ∧ (∀ s : Nat, 1 ≤ s → s ≤ n → metF l m (s : Int) = false → ones (blUp l m n) ≤ ones (s : Int)) := by
  intro n
  induction n with
  | zero => exact fun _ => ⟨.inl rfl, fun s h1 h2 => by omega⟩
  | succ n ih =>
    intro h
    obtain ⟨i1, i2⟩ := ih (by omega)
    have e : blUp l m (n + 1) = if (decide (ones ((n : Int) + 1) < ones (blUp l m n)) && !metF l m ((n : Int) + 1)) = true then (n : Int) + 1 else blUp l m n := rfl
    have en : ((n + 1 : Nat) : Int) = (n : Int) + 1 := by omega
    rw [e]
    by_cases hc : (decide (ones ((n : Int) + 1) < ones (blUp l m n)) && !metF l m ((n : Int) + 1)) = true
    · rw [if_pos hc]
      rw [Bool.and_eq_true, decide_eq_true_eq, Bool.not_eq_true'] at hc
      refine ⟨.inr ⟨n + 1, en.symm, by omega, by omega, by rw [en]; exact hc.2⟩, fun s h1 h2 h3 => ?_⟩
      by_cases hs : s = n + 1
      · subst hs
        rw [en]
        exact Int.le_refl _
      · have := i2 s h1 (by omega) h3
        omega
    · rw [if_neg hc]
      refine ⟨i1.imp id fun ⟨s, h1, h2, h3, h4⟩ => ⟨s, h1, h2, by omega, h4⟩, fun s h1 h2 h3 => ?_⟩
      by_cases hs : s = n + 1
      · subst hs
        rw [en] at h3 ⊢
        rw [h3, Bool.not_false, Bool.and_true, decide_eq_true_eq] at hc
        omega
      · exact i2 s h1 (by omega) h3
theorem blame_spec {a b : List Bx} (ha : FL a) (hb : FL b) : ∃ n : Nat, n < 16 ∧ blameF a b = (n : Int) ∧ (a = [] ∨ b = [] → n = 15) ∧ (a ≠ [] → b ≠ [] → (metD 15 a b = true → n = 0) ∧ (metD 15 a b = false → n ≠ 0) ∧ (n ≠ 0 → metD (n : Int) a b = false ∧ ∀ k ∈ [1, 2, 4, 8], bits .and .i64 (n : Int) (k : Int) ≠ 0 → metD (bits .andNot .i64 (n : Int) (k : Int)) a b = true)) := by
  unfold blameF
  rw [ha.boxes, hb.boxes]
  by_cases he : a = [] ∨ b = []
  · rw [if_pos he]
    refine ⟨15, by omega, rfl, fun _ => rfl, fun h1 h2 => absurd he (fun h => h.elim h1 h2)⟩
  · rw [if_neg he]
    have h15 := met_is (n := 15) (by omega) ha hb
    rw [show ((15 : Nat) : Int) = 15 from rfl] at h15
    rw [h15]
    cases hm : metD 15 a b
    · rw [if_neg (by decide)]
      obtain ⟨s1, s2⟩ := bl_spec a b 14 (Nat.le_refl _)
      obtain ⟨n, hn, hn1, hn2, hn3⟩ : ∃ n : Nat, blUp a b 14 = (n : Int) ∧ 1 ≤ n ∧ n < 16 ∧ metD (n : Int) a b = false := by
        rcases s1 with h | ⟨s, h1, h2, h3, h4⟩
        · exact ⟨15, h, by omega, by omega, hm⟩
        · exact ⟨s, h1, h2, by omega, by rw [← met_is (by omega) ha hb]; exact h4⟩
      refine ⟨n, hn2, hn, fun h => absurd h he, fun h1 h2 => ⟨fun h => (by cases h), fun _ => (by omega), fun _ => ⟨hn3, fun k hk hb2 => ?_⟩⟩⟩
      obtain ⟨s, e, ho, hs⟩ := ones_fin ⟨n, hn2⟩ k hk hb2
      have e : bits .andNot .i64 (n : Int) (k : Int) = (s.val : Int) := e
      rw [e]
      by_cases h0 : s.val = 0
      · rw [h0]
        exact met_zero ha hb h1 h2
      · cases hv : metD (s.val : Int) a b
        · rw [← met_is s.isLt ha hb] at hv
          have := s2 s.val (by omega) (by omega) hv
          rw [hn] at this
          have ho : ones (s.val : Int) < ones (n : Int) := ho
          omega
        · rfl
    · rw [if_pos rfl]
      refine ⟨0, by omega, rfl, fun h => absurd h he, fun h1 h2 => ⟨fun _ => rfl, fun h => (by cases h), fun h => absurd rfl h⟩⟩
theorem blame_comm {a b : List Bx} (ha : FL a) (hb : FL b) : blameF b a = blameF a b := by
  have hmet : ∀ n : Nat, n < 16 → metF b a (n : Int) = metF a b (n : Int) := fun n hn => by
    rw [met_is hn ha hb, met_is hn hb ha, metD_comm hb ha]
  have hup : ∀ n, n ≤ 14 → blUp b a n = blUp a b n := by
    intro n
    induction n with
    | zero => exact fun _ => rfl
    | succ n ih =>
      intro h
      have en : ((n + 1 : Nat) : Int) = (n : Int) + 1 := by omega
      have hm := hmet (n + 1) (by omega)
      rw [en] at hm
      show (if (decide (ones ((n : Int) + 1) < ones (blUp b a n)) && !metF b a ((n : Int) + 1)) = true then (n : Int) + 1 else blUp b a n) = (if (decide (ones ((n : Int) + 1) < ones (blUp a b n)) && !metF a b ((n : Int) + 1)) = true then (n : Int) + 1 else blUp a b n)
      rw [ih (by omega), hm]
  unfold blameF
  rw [ha.boxes, hb.boxes, hup 14 (Nat.le_refl _)]
  have h15 := hmet 15 (by omega)
  rw [show ((15 : Nat) : Int) = 15 from rfl] at h15
  rw [h15]
  by_cases he : a = [] ∨ b = []
  · rw [if_pos he, if_pos he.symm]
  · rw [if_neg he, if_neg (fun h => he h.symm)]
theorem cand_met {a b : List Bx} : candL 15 (pairsL a b) = [] ↔ metD 15 a b = false := by
  constructor
  · intro h
    cases hv : metD 15 a b
    · rfl
    · obtain ⟨x, hx, hv⟩ := List.any_eq_true.1 hv
      obtain ⟨y, hy, hv⟩ := List.any_eq_true.1 hv
      have : dimsF 15 x y ∈ candL 15 (pairsL a b) := mem_cand.2 ⟨x, hx, y, hy, rfl, hv⟩
      rw [h] at this
      cases this
  · intro h
    refine List.eq_nil_iff_forall_not_mem.2 fun z hz => ?_
    obtain ⟨x, hx, y, hy, rfl, hs⟩ := mem_cand.1 hz
    have : metD 15 a b = true := List.any_eq_true.2 ⟨x, hx, List.any_eq_true.2 ⟨y, hy, hs⟩⟩
    rw [h] at this
    cases this
end Go.Proofs.YtnbdpnlepcjmmaaGreat

namespace Go.Proofs.YtnbdpnlepcjmmaaGreat
open Go.RowKit
set_option maxHeartbeats 4000000 in
theorem ssame_eq (A A2 : Option Addr) (c c2 : Nat) (l : List Sp) (w : World) (h : Sps w A l) (h2 : Sps w A2 l) (hl : l.length ≤ 9223372036854775807) :
    Calls Tryz.prog 101 #[.agg #[.slice A l.length c], .agg #[.slice A2 l.length c2]] w fun e w' => e = .returned (.bool true) ∧ Grows w w' := by
  have k1 := (Blk.new w 45 #[.slice A l.length c]).alloc (Obj.cells #[.slice A2 l.length c2] 45)
  have k2 := blk_new_at (X := w.alloc (Obj.cells #[.slice A l.length c] 45)) (n := w.heap.size + 1) (t := 45) (cs := #[.slice A2 l.length c2]) (by simp)
  have hB := ((Below.refl w.heap.size w).alloc (Nat.le_refl _) (Obj.cells #[.slice A l.length c] 45)).alloc (by simp) (Obj.cells #[.slice A2 l.length c2] 45)
  go_enter Tryz.func101, Tryz.ntmps101
  go_upto_region 1 with fail
  have h1 := h.grows hB
  have h3 := h2.grows hB
  generalize World.alloc (World.alloc w _) _ = w1 at *
  have x1 := k1.cell 0
  have x2 := k2.cell 0
  go_wp2_with fail
  clear x1 x2
  go_loopw [16] (fun i wr => ∃ k : Nat, k ≤ l.length ∧ i = .int .i64 k ∧ Grows w1 wr) (fun i _ => l.length - (intOf i).toNat)
  case atStart => exact ⟨0, by omega, rfl, Below.refl _ _⟩
  case round =>
    obtain ⟨k, hk, rfl, hg⟩ := hrel
    by_cases hlt : k < l.length
    · obtain ⟨ad, x, rfl, had, hx, c0, c1⟩ := (h1.grows hg).elem hlt
      obtain ⟨ad2, x2, rfl, had2, hx2, d0, d1⟩ := (h3.grows hg).elem hlt
      rw [hx] at hx2
      injection hx2 with hx2
      subst hx2
      clear hx
      have k3 := k1.grows hg
      have k4 := k2.grows hg
      have y1 := k3.cell 0
      have y2 := k4.cell 0
      go_upto_region 6 with fail
      go_region
      replace hg := below_grows hg (Nat.le_refl _) (Grows.drew' wr)
      go_wp2
      go_roundw
      case rel => exact ⟨k + 1, by omega, by go_num, hg⟩
      case measure => simp [intOf]; omega
    · go_wp2
      go_ret
      exact ⟨rfl, below_grows hB (Nat.le_refl _) hg⟩
set_option maxHeartbeats 32000000 in
set_option maxRecDepth 10000 in
theorem samebox_eq {ba bb : Nat → Prop} {b : Bx} {A1 A2 A3 B1 B2 B3 : Option Addr} {c1 c2 c3 d1 d2 d3 : Nat} {w : World} (hpa : BoxP w ba b A1 c1 A2 c2 A3 c3) (hpb : BoxP w bb b B1 d1 B2 d2 B3 d3) (hl : OKB b) :
    Calls Tryz.prog 57 #[.agg #[.int .i64 b.k, .slice A1 b.r.length c1, .slice A2 b.m.length c2, .slice A3 b.s.length c3], .agg #[.int .i64 b.k, .slice B1 b.r.length d1, .slice B2 b.m.length d2, .slice B3 b.s.length d3]] w fun e w' => e = .returned (.bool true) ∧ Grows w w' := by
  obtain ⟨hlr, hls, hlm, hlx⟩ := hl
  have HLX := Lib.hid hlx
  clear hlx
  have ka := ((Blk.new w 48 #[.int .i64 b.k, .slice A1 b.r.length c1, .slice A2 b.m.length c2, .slice A3 b.s.length c3]).alloc (Obj.cells #[.int .i64 b.k, .slice B1 b.r.length d1, .slice B2 b.m.length d2, .slice B3 b.s.length d3] 48))
  have kb := (Blk.new (w.alloc (Obj.cells #[.int .i64 b.k, .slice A1 b.r.length c1, .slice A2 b.m.length c2, .slice A3 b.s.length c3] 48)) 48 #[.int .i64 b.k, .slice B1 b.r.length d1, .slice B2 b.m.length d2, .slice B3 b.s.length d3])
  have hB := (((Below.refl w.heap.size w).alloc (Nat.le_refl _) (Obj.cells #[.int .i64 b.k, .slice A1 b.r.length c1, .slice A2 b.m.length c2, .slice A3 b.s.length c3] 48)).alloc (by simp) (Obj.cells #[.int .i64 b.k, .slice B1 b.r.length d1, .slice B2 b.m.length d2, .slice B3 b.s.length d3] 48))
  go_enter Tryz.func57, Tryz.ntmps57
  go_upto_region 1 with fail
  have hs1 : (w.alloc (Obj.cells #[.int .i64 b.k, .slice A1 b.r.length c1, .slice A2 b.m.length c2, .slice A3 b.s.length c3] 48)).heap.size = w.heap.size + 1 := by simp
  rw [hs1] at kb
  clear hs1
  generalize World.alloc (World.alloc w _) _ = w2 at *
  generalize hG1 : w.heap.size + 1 = G1 at *
  have HG1 := Lib.hid hG1
  clear hG1
  have xa := ka.cell
  have xb := kb.cell
  go_wp2_with fail
  refine (ssame_eq A1 B1 c1 d1 b.r _ (hpa.r.grows hB).sps (hpb.r.grows hB).sps (by omega)).mono ?_
  rintro e w3 ⟨rfl, hq⟩
  replace hB := below_grows hB (Nat.le_refl _) hq
  replace ka := ka.grows hq
  replace kb := kb.grows hq
  clear hq xa xb
  have xa := ka.cell
  have xb := kb.cell
  go_wp2_with fail
  refine (ssame_eq A3 B3 c3 d3 b.s _ (hpa.s.grows hB).sps (hpb.s.grows hB).sps (by omega)).mono ?_
  rintro e w4 ⟨rfl, hq⟩
  replace hB := below_grows hB (Nat.le_refl _) hq
  replace ka := ka.grows hq
  replace kb := kb.grows hq
  clear hq xa xb
  have xa := ka.cell
  have xb := kb.cell
  go_wp2_with fail
  clear xa xb
  go_loopw [39] (fun i wr => ∃ k : Nat, k ≤ b.m.length ∧ i = .int .i64 k ∧ Blk wr w.heap.size 48 #[.int .i64 b.k, .slice A1 b.r.length c1, .slice A2 b.m.length c2, .slice A3 b.s.length c3] ∧ Blk wr G1 48 #[.int .i64 b.k, .slice B1 b.r.length d1, .slice B2 b.m.length d2, .slice B3 b.s.length d3] ∧ Below w.heap.size w wr) (fun i _ => b.m.length - (intOf i).toNat)
  case atStart => exact ⟨0, by omega, rfl, ka, kb, hB⟩
  case round =>
    clear ka kb hB
    obtain ⟨k, hk, rfl, ka, kb, hB⟩ := hrel
    by_cases hlt : k < b.m.length
    · obtain ⟨ad, x, C, cx, e1, had, hx, q0, hcx, hix⟩ := (hpa.m.grows hB).elem hlt
      obtain ⟨ad2, y, D, cy, e2, had2, hy, p0, hcy, hiy⟩ := (hpb.m.grows hB).elem hlt
      rw [hx] at hy
      injection hy with hy
      subst hy
      subst e1
      subst e2
      have hxl := HLX.out x (List.mem_of_getElem? hx)
      clear hx
      have HC : Hid (∀ w0, Grows wr w0 → Calls Tryz.prog 82 #[.slice C x.length cx, .slice D x.length cy] w0 fun e w' => e = .returned (.bool true) ∧ Grows w0 w') := Lib.hid fun w0 h => by
        have := rsame6_any C D cx cy x x w0 (hix.ints.grows h) (hiy.ints.grows h) (by omega) (by omega)
        simpa using this
      go_upto_region 6 with fail
      refine wp_region_mix (fun w' => Grows wr w') [] 12 55 (by kernel_rfl) (by kernel_rfl) rfl ?_ float_none ?_ ?_
      · exact fun w1 w2 h0 hg => below_grows h0 (Nat.le_refl _) hg
      · exact Grows.drew' _
      · skip
        simp only [List.take_succ_cons, List.take_zero, List.drop_succ_cons, List.drop_zero]
        iterate 12
          refine calm_plain rfl rfl (v := ?_) (a' := ?_) (fun w1 hw1 => ?_) ?_ ?_
          rotate_left 2
          · have h0 := hw1
            have xa := (ka.grows h0).cell
            have xb := (kb.grows h0).cell
            have r0 := (h0.cell (p := ad.add k) (by rw [block_of_add]; exact had)).trans q0
            have r1 := (h0.cell (p := ad2.add k) (by rw [block_of_add]; exact had2)).trans p0
            go_simp
            first | exact calm_val | (refine calm_call ?_; with_reducible exact HC.out _ h0)
          · simp only [Act.put, List.setIfInBounds_toArray, List.set_cons_succ, List.set_cons_zero]
            rfl
        refine calm_done (end_none ?_)
        intro wq hg
        replace hB := below_grows hB (Nat.le_refl _) hg
        replace ka := ka.grows hg
        replace kb := kb.grows hg
        clear hg q0 p0 HC hix hiy
        go_wp2
        go_roundw
        case rel => exact ⟨k + 1, by omega, by go_num, ka, kb, hB⟩
        case measure => simp [intOf]; omega
    · go_wp2
      go_ret
      exact ⟨rfl, hB⟩
set_option maxHeartbeats 32000000 in
set_option maxRecDepth 10000 in
theorem same_eq {ba bb : Nat → Prop} {A B : Option Addr} {c d n m : Nat} {l : List Bx} {w : World} (hn : n = l.length) (hm : m = l.length) (ha : Bxs w ba A l) (hb : Bxs w bb B l) (hl : l.length ≤ 1000000) (ho : ∀ b ∈ l, OKB b) :
    Calls Tryz.prog 21 #[.slice A n c, .slice B m d] w fun e w' => e = .returned (.bool true) ∧ Grows w w' := by
  subst hn
  subst hm
  have HO := Lib.hid ho
  clear ho
  have hB := Below.refl w.heap.size w
  go_enter Tryz.func21, Tryz.ntmps21
  go_wp2_with fail
  go_loopw [13] (fun i wr => ∃ k : Nat, k ≤ l.length ∧ i = .int .i64 k ∧ Below w.heap.size w wr) (fun i _ => l.length - (intOf i).toNat)
  case atStart => exact ⟨0, by omega, rfl, hB⟩
  case round =>
    clear hB
    obtain ⟨k, hk, rfl, hB⟩ := hrel
    by_cases hlt : k < l.length
    · obtain ⟨ad, b, A1, c1, A2, c2, A3, c3, e1, had, hx, hpa, q0, q1, q2, q3⟩ := (ha.grows hB).elem hlt
      obtain ⟨ad2, y, B1, d1, B2, d2, B3, d3, e2, had2, hy, hpb, p0, p1, p2, p3⟩ := (hb.grows hB).elem hlt
      rw [hx] at hy
      injection hy with hy
      subst hy
      subst e1
      subst e2
      have hob := HO.out b (List.mem_of_getElem? hx)
      clear hx
      have HC : Hid (∀ w0, Grows wr w0 → Calls Tryz.prog 57 #[.agg #[.int .i64 b.k, .slice A1 b.r.length c1, .slice A2 b.m.length c2, .slice A3 b.s.length c3], .agg #[.int .i64 b.k, .slice B1 b.r.length d1, .slice B2 b.m.length d2, .slice B3 b.s.length d3]] w0 fun e w' => e = .returned (.bool true) ∧ Grows w0 w') := Lib.hid fun w0 h => samebox_eq (hpa.grows h) (hpb.grows h) hob
      go_upto_region 6 with fail
      refine wp_region_mix (fun w' => Grows wr w') [] 10 27 (by kernel_rfl) (by kernel_rfl) rfl ?_ float_none ?_ ?_
      · exact fun w1 w2 h0 hg => below_grows h0 (Nat.le_refl _) hg
      · exact Grows.drew' _
      · skip
        simp only [List.take_succ_cons, List.take_zero, List.drop_succ_cons, List.drop_zero]
        iterate 10
          refine calm_plain rfl rfl (v := ?_) (a' := ?_) (fun w1 hw1 => ?_) ?_ ?_
          rotate_left 2
          · have h0 := hw1
            have r0 := (h0.cell (p := ad.add (k * 4)) (by rw [block_of_add]; exact had)).trans q0
            have r1 := (h0.cell (p := ⟨(ad.add (k * 4)).block, (ad.add (k * 4)).off + 1, none⟩) (by simp only [block_of_add]; exact had)).trans q1
            have r2 := (h0.cell (p := ⟨(ad.add (k * 4)).block, (ad.add (k * 4)).off + 2, none⟩) (by simp only [block_of_add]; exact had)).trans q2
            have r3 := (h0.cell (p := ⟨(ad.add (k * 4)).block, (ad.add (k * 4)).off + 3, none⟩) (by simp only [block_of_add]; exact had)).trans q3
            have s0 := (h0.cell (p := ad2.add (k * 4)) (by rw [block_of_add]; exact had2)).trans p0
            have s1 := (h0.cell (p := ⟨(ad2.add (k * 4)).block, (ad2.add (k * 4)).off + 1, none⟩) (by simp only [block_of_add]; exact had2)).trans p1
            have s2 := (h0.cell (p := ⟨(ad2.add (k * 4)).block, (ad2.add (k * 4)).off + 2, none⟩) (by simp only [block_of_add]; exact had2)).trans p2
            have s3 := (h0.cell (p := ⟨(ad2.add (k * 4)).block, (ad2.add (k * 4)).off + 3, none⟩) (by simp only [block_of_add]; exact had2)).trans p3
            go_simp
            first | exact calm_val | (refine calm_call ?_; with_reducible exact HC.out _ h0)
          · simp only [Act.put, List.setIfInBounds_toArray, List.set_cons_succ, List.set_cons_zero]
            rfl
        refine calm_done (end_none ?_)
        intro wq hg
        replace hB := below_grows hB (Nat.le_refl _) hg
        clear hg q0 q1 q2 q3 p0 p1 p2 p3 HC hpa hpb
        go_wp2
        go_roundw
        case rel => exact ⟨k + 1, by omega, by go_num, hB⟩
        case measure => simp [intOf]; omega
    · go_wp2
      go_ret
      exact ⟨rfl, hB⟩
end Go.Proofs.YtnbdpnlepcjmmaaGreat

namespace Go.Proofs.YtnbdpnlepcjmmaaGreat
open Go.RowKit
def Dk (n : Nat) (ba : Nat → Prop) : Nat → Prop := fun k => (ba k ∧ k < n) ∨ n + 4 ≤ k
set_option maxHeartbeats 64000000 in
set_option maxRecDepth 10000 in
theorem rdims_any {ba bb : Nat → Prop} {a b : Bx} {A1 A2 A3 B1 B2 B3 : Option Addr} {c1 c2 c3 d1 d2 d3 : Nat} {w : World} (hpa : BoxP w ba a A1 c1 A2 c2 A3 c3) (hpb : BoxP w bb b B1 d1 B2 d2 B3 d3) (hla : OKB a) (hlb : OKB b) (d : Int) :
    Calls Tryz.prog 98 #[.agg #[.int .i64 a.k, .slice A1 a.r.length c1, .slice A2 a.m.length c2, .slice A3 a.s.length c3], .agg #[.int .i64 b.k, .slice B1 b.r.length d1, .slice B2 b.m.length d2, .slice B3 b.s.length d3], .int .i64 d] w fun e w' => (∃ v, e = .returned (.tuple #[v, .bool (someB (dimsF d a b)), .bool (manyB d (dimsF d a b))]) ∧ BoxV w' (Dk w.heap.size ba) (dimsF d a b) v) ∧ Grows w w' := by
  obtain ⟨har, has_, ham, hax⟩ := hla
  obtain ⟨hbr, hbs, hbm, hbx⟩ := hlb
  have HAX := Lib.hid hax
  have HBX := Lib.hid hbx
  clear hax hbx
  have ka := ((Blk.new w 48 #[.int .i64 a.k, .slice A1 a.r.length c1, .slice A2 a.m.length c2, .slice A3 a.s.length c3]).alloc (Obj.cells #[.int .i64 b.k, .slice B1 b.r.length d1, .slice B2 b.m.length d2, .slice B3 b.s.length d3] 48)).alloc (Obj.cells #[.int .i64 0, .slice none 0 0, .slice none 0 0, .slice none 0 0] 48)
  have kb := (blk_new_at (X := w.alloc (Obj.cells #[.int .i64 a.k, .slice A1 a.r.length c1, .slice A2 a.m.length c2, .slice A3 a.s.length c3] 48)) (n := w.heap.size + 1) (t := 48) (cs := #[.int .i64 b.k, .slice B1 b.r.length d1, .slice B2 b.m.length d2, .slice B3 b.s.length d3]) (by simp)).alloc (Obj.cells #[.int .i64 0, .slice none 0 0, .slice none 0 0, .slice none 0 0] 48)
  have k4 := blk_new_at (X := (w.alloc (Obj.cells #[.int .i64 a.k, .slice A1 a.r.length c1, .slice A2 a.m.length c2, .slice A3 a.s.length c3] 48)).alloc (Obj.cells #[.int .i64 b.k, .slice B1 b.r.length d1, .slice B2 b.m.length d2, .slice B3 b.s.length d3] 48)) (n := w.heap.size + 2) (t := 48) (cs := #[.int .i64 0, .slice none 0 0, .slice none 0 0, .slice none 0 0]) (by simp)
  have hB := (((Below.refl w.heap.size w).alloc (Nat.le_refl _) (Obj.cells #[.int .i64 a.k, .slice A1 a.r.length c1, .slice A2 a.m.length c2, .slice A3 a.s.length c3] 48)).alloc (by simp) (Obj.cells #[.int .i64 b.k, .slice B1 b.r.length d1, .slice B2 b.m.length d2, .slice B3 b.s.length d3] 48)).alloc (by simp; omega) (Obj.cells #[.int .i64 0, .slice none 0 0, .slice none 0 0, .slice none 0 0] 48)
  have hs3 : (((w.alloc (Obj.cells #[.int .i64 a.k, .slice A1 a.r.length c1, .slice A2 a.m.length c2, .slice A3 a.s.length c3] 48)).alloc (Obj.cells #[.int .i64 b.k, .slice B1 b.r.length d1, .slice B2 b.m.length d2, .slice B3 b.s.length d3] 48)).alloc (Obj.cells #[.int .i64 0, .slice none 0 0, .slice none 0 0, .slice none 0 0] 48)).heap.size = w.heap.size + 3 := by simp
  have HK : Hid ((dimsF d a b).k = if bitZ d 1 = true then bits .and .i64 a.k b.k else a.k) := Lib.hid rfl
  have HR : Hid ((dimsF d a b).r = if bitZ d 2 = true then interF (spansF a.r) (spansF b.r) else a.r) := Lib.hid rfl
  have HM : Hid ((dimsF d a b).m = if bitZ d 4 = true then a.m.filter (fun x => decide (x ∈ b.m)) else a.m) := Lib.hid rfl
  have HZ : Hid ((dimsF d a b).s = if bitZ d 8 = true then interF (spansF a.s) (spansF b.s) else a.s) := Lib.hid rfl
  have HSB : Hid (someB (dimsF d a b) = (((dimsF d a b).k != 0) && decide (0 < (dimsF d a b).m.length) && decide (0 < (dimsF d a b).r.length) && decide (0 < (dimsF d a b).s.length))) := Lib.hid rfl
  have HMB : Hid (manyB d (dimsF d a b) = ((bitZ d 2 && decide (64 < (dimsF d a b).r.length)) || (bitZ d 8 && decide (64 < (dimsF d a b).s.length)))) := Lib.hid rfl
  generalize dimsF d a b = z at *
  go_enter Tryz.func98, Tryz.ntmps98
  go_upto_region 1 with fail
  generalize World.alloc (World.alloc (World.alloc w _) _) _ = w1 at *
  have xa := ka.cell
  have k9 := Blk.new w1 48 #[.int .i64 a.k, .slice A1 a.r.length c1, .slice A2 a.m.length c2, .slice A3 a.s.length c3]
  rw [hs3] at k9
  have hq := (Below.refl w1.heap.size w1).alloc (Nat.le_refl _) (Obj.cells #[.int .i64 a.k, .slice A1 a.r.length c1, .slice A2 a.m.length c2, .slice A3 a.s.length c3] 48)
  go_upto_region 2 with fail
  try rw [hs3]
  replace hB := below_grows hB (Nat.le_refl _) hq
  replace ka := ka.grows hq
  replace kb := kb.grows hq
  replace k4 := k4.grows hq
  clear hq xa hs3
  generalize World.alloc w1 _ = w2 at *
  generalize hq9 : w.heap.size + 3 = q9 at *
  go_upto_if 16 with fail
  go_cut [] (fun wx => (Below w.heap.size w wx ∧ Blk wx w.heap.size 48 #[.int .i64 a.k, .slice A1 a.r.length c1, .slice A2 a.m.length c2, .slice A3 a.s.length c3] ∧ Blk wx (w.heap.size + 1) 48 #[.int .i64 b.k, .slice B1 b.r.length d1, .slice B2 b.m.length d2, .slice B3 b.s.length d3] ∧ Blk wx (w.heap.size + 2) 48 #[.int .i64 0, .slice none 0 0, .slice none 0 0, .slice none 0 0]) ∧ Blk wx q9 48 #[.int .i64 z.k, .slice A1 a.r.length c1, .slice A2 a.m.length c2, .slice A3 a.s.length c3])
  case first =>
    cases hb : bitZ d 1
    · have e1 : (bits .and .i64 d 1 != 0) = false := hb
      have HE : Hid (z.k = a.k) := Lib.hid (by rw [HK.out, hb]; rfl)
      clear hb
      go_wp2
      go_meet
      exact ⟨⟨hB, ka, kb, k4⟩, by rw [HE.out]; exact k9⟩
    · have e1 : (bits .and .i64 d 1 != 0) = true := hb
      have HE : Hid (z.k = bits .and .i64 a.k b.k) := Lib.hid (by rw [HK.out, hb]; rfl)
      clear hb
      have xa := ka.cell
      have xb := kb.cell
      have x9 := k9.cell
      have f9 := k9.frozen
      go_wp2
      go_meet
      exact ⟨⟨hB.setCell (p := ⟨q9, 0, none⟩) (show w.heap.size ≤ q9 by omega) _, ka.far (p := ⟨q9, 0, none⟩) (show w.heap.size ≠ q9 by omega) _, kb.far (p := ⟨q9, 0, none⟩) (show w.heap.size + 1 ≠ q9 by omega) _, k4.far (p := ⟨q9, 0, none⟩) (show w.heap.size + 2 ≠ q9 by omega) _⟩, by rw [HE.out]; exact k9.set_ 0 _⟩
  case rest =>
  obtain ⟨⟨hB2, ka2, kb2, k42⟩, k92⟩ := hcut
  clear hB ka kb k4 k9
  have hB := hB2
  have ka := ka2
  have kb := kb2
  have k4 := k42
  have k9 := k92
  clear hB2 ka2 kb2 k42 k92
  generalize wc = w3 at *
  have hpm : MapsR w (Dk w.heap.size ba) A2 a.m := hpa.m.bd.mono (fun k hk => Or.inl hk)
  have hpr : RdB w (Dk w.heap.size ba) 2 A1 a.r.length (scells a.r) := RdB.mono (RdB.bd hpa.r) (fun k hk => Or.inl hk)
  have hps : RdB w (Dk w.heap.size ba) 2 A3 a.s.length (scells a.s) := RdB.mono (RdB.bd hpa.s) (fun k hk => Or.inl hk)
  go_upto_if 25 with fail
  go_cut [] (fun wx => (Below w.heap.size w wx ∧ Blk wx w.heap.size 48 #[.int .i64 a.k, .slice A1 a.r.length c1, .slice A2 a.m.length c2, .slice A3 a.s.length c3] ∧ Blk wx (w.heap.size + 1) 48 #[.int .i64 b.k, .slice B1 b.r.length d1, .slice B2 b.m.length d2, .slice B3 b.s.length d3] ∧ Blk wx (w.heap.size + 2) 48 #[.int .i64 0, .slice none 0 0, .slice none 0 0, .slice none 0 0]) ∧ ∃ (A6 : Option Addr) (c6 : Nat), Blk wx q9 48 #[.int .i64 z.k, .slice A1 a.r.length c1, .slice A6 z.m.length c6, .slice A3 a.s.length c3] ∧ z.m.length ≤ c6 ∧ MapsR wx (Dk w.heap.size ba) A6 z.m)
  case first =>
    cases hb : bitZ d 4
    · have e1 : (bits .and .i64 d 4 != 0) = false := hb
      have HE : Hid (z.m = a.m) := Lib.hid (by rw [HM.out, hb]; rfl)
      clear hb
      go_wp2
      go_meet
      exact ⟨⟨hB, ka, kb, k4⟩, A2, c2, by rw [HE.out]; exact k9, by rw [HE.out]; exact hpa.cm, by rw [HE.out]; exact hpm.grows hB⟩
    · have e1 : (bits .and .i64 d 4 != 0) = true := hb
      rw [e1]
      have HE : Hid (z.m = a.m.filter (fun x => decide (x ∈ b.m))) := Lib.hid (by rw [HM.out, hb]; rfl)
      clear hb
      have x9 := k9.cell
      have f9 := k9.frozen
      go_upto_region 6 with fail
      replace hB := hB.setCell (p := ⟨q9, 2, none⟩) (show w.heap.size ≤ q9 by omega) (.slice none 0 0)
      replace ka := ka.far (p := ⟨q9, 2, none⟩) (show w.heap.size ≠ q9 by omega) (.slice none 0 0)
      replace kb := kb.far (p := ⟨q9, 2, none⟩) (show w.heap.size + 1 ≠ q9 by omega) (.slice none 0 0)
      replace k4 := k4.far (p := ⟨q9, 2, none⟩) (show w.heap.size + 2 ≠ q9 by omega) (.slice none 0 0)
      have k9n := k9.set_ 2 (.slice none 0 0)
      clear x9 f9 k9
      generalize World.setCell w3 _ _ = w4 at *
      have k9 : Blk w4 q9 48 #[.int .i64 z.k, .slice A1 a.r.length c1, .slice none 0 0, .slice A3 a.s.length c3] := k9n
      clear k9n
      obtain ⟨b2, hb2⟩ : ∃ b2, b2 = w4.heap.size := ⟨_, rfl⟩
      have hb3 : b2 ≤ w4.heap.size := by omega
      have hl9 : q9 < b2 := by have := k9.lt; omega
      clear hb2
      have xa := ka.cell
      go_wp2_with fail
      clear xa
      go_loopw [30] (fun i wr => ∃ (k : Nat) (V : Value), k ≤ a.m.length ∧ i = .int .i64 k ∧ b2 ≤ wr.heap.size ∧ OwnMq wr b2 (Bd ba w.heap.size) V ((a.m.take k).filter fun x => decide (x ∈ b.m)) ∧ (Below w.heap.size w wr ∧ Blk wr w.heap.size 48 #[.int .i64 a.k, .slice A1 a.r.length c1, .slice A2 a.m.length c2, .slice A3 a.s.length c3] ∧ Blk wr (w.heap.size + 1) 48 #[.int .i64 b.k, .slice B1 b.r.length d1, .slice B2 b.m.length d2, .slice B3 b.s.length d3] ∧ Blk wr (w.heap.size + 2) 48 #[.int .i64 0, .slice none 0 0, .slice none 0 0, .slice none 0 0]) ∧ Blk wr q9 48 #[.int .i64 z.k, .slice A1 a.r.length c1, V, .slice A3 a.s.length c3]) (fun i _ => a.m.length - (intOf i).toNat)
      case atStart => exact ⟨0, _, by omega, rfl, hb3, OwnMq.nil, ⟨hB, ka, kb, k4⟩, k9⟩
      case round =>
        clear ka kb k4 k9 hB hb3
        obtain ⟨k, V, hk, rfl, hb3, ho, ⟨hB, ka, kb, k4⟩, k9⟩ := hrel
        obtain ⟨A2', c2', rfl, hc2', -⟩ := ho.read
        by_cases hlt : k < a.m.length
        · obtain ⟨ad, x, B0, cm, ea, had, hx, q0, hcm, hix⟩ := hpa.m.bd.elem hlt
          replace q0 := (hB.cell (p := ad.add k) (by rw [block_of_add]; exact had)).trans q0
          subst ea
          have HX := Lib.hid (filter_next (p := fun x => decide (x ∈ b.m)) hx)
          have hxl : x.length ≤ 1000000 := HAX.out x (List.mem_of_getElem? hx)
          have hkl : ((a.m.take k).filter fun x => decide (x ∈ b.m)).length + 1 ≤ 1000000 := by
            have := List.length_filter_le (fun x => decide (x ∈ b.m)) (a.m.take k)
            rw [List.length_take] at this
            omega
          clear hx
          generalize ((a.m.take k).filter fun x => decide (x ∈ b.m)) = ms at *
          have xb := kb.cell
          go_wp2_with fail
          refine (rhas_any B2 B0 d2 cm b.m x _ rfl (hpb.m.grows hB) hbm HBX.out (hix.ints.grows hB) hxl).mono ?_
          by_cases h5 : x ∈ b.m
          case neg =>
            have HT : Hid ((a.m.take (k + 1)).filter (fun x => decide (x ∈ b.m)) = ms) := Lib.hid (by rw [HX.out, decide_eq_false h5, if_neg (by decide), List.append_nil])
            rw [decide_eq_false h5]
            clear h5 HX
            rintro e w5 ⟨rfl, hg⟩
            replace hB := below_grows hB (Nat.le_refl _) hg
            replace ka := ka.grows hg
            replace kb := kb.grows hg
            replace k4 := k4.grows hg
            replace k9 := k9.grows hg
            replace ho := ho.grows hg
            replace hb3 := Nat.le_trans hb3 hg.size
            clear hg xb q0
            go_wp2
            go_roundw
            case rel => exact ⟨k + 1, _, by omega, by go_num, hb3, by rw [HT.out]; exact ho, ⟨hB, ka, kb, k4⟩, k9⟩
            case measure => simp [intOf]; omega
          have HT : Hid ((a.m.take (k + 1)).filter (fun x => decide (x ∈ b.m)) = ms ++ [x]) := Lib.hid (by rw [HX.out, decide_eq_true h5, if_pos rfl])
          rw [decide_eq_true h5]
          clear h5 HX
          rintro e w5 ⟨rfl, hg⟩
          replace hB := below_grows hB (Nat.le_refl _) hg
          replace ka := ka.grows hg
          replace kb := kb.grows hg
          replace k4 := k4.grows hg
          replace k9 := k9.grows hg
          replace ho := ho.grows hg
          replace hb3 := Nat.le_trans hb3 hg.size
          clear hg xb q0
          have x9 := k9.cell
          go_upto_region 10 with fail
          refine wp_region_lit ?_
          iterate 4
            refine wpList_plain rfl (fun K hK => ?_)
            go_simp
            refine hK _ _ ?_
            clear hK K
          have hk0 := Blk.new w5 23 #[.slice B0 x.length cm]
          have hq := (Below.refl w5.heap.size w5).alloc (Nat.le_refl _) (Obj.cells #[.slice B0 x.length cm] 23)
          have hrd : Reads (w5.alloc (Obj.cells #[.slice B0 x.length cm] 23)) (w5.alloc (Obj.cells #[.slice B0 x.length cm] 23)).heap.size 1 (some ⟨w5.heap.size, 0, none⟩) 1 [.slice B0 x.length cm] := ⟨rfl, fun _ => ⟨_, rfl, hk0.lt, fun j u hu => by rw [add_head, hk0.cell, ← Array.getElem?_toList]; exact hu⟩⟩
          replace hB := below_grows hB (Nat.le_refl _) hq
          replace ka := ka.grows hq
          replace kb := kb.grows hq
          replace k4 := k4.grows hq
          replace k9 := k9.grows hq
          replace ho := ho.grows hq
          replace hb3 := Nat.le_trans hb3 hq.size
          have hix2 := InB.grows hix hB
          have hol := ho.lt
          clear hq hk0 x9
          refine wpList_append_mapq rfl (.tmp 39) (.tmp 41) rfl rfl ho rfl hrd (by omega) hb3 hix2 hcm (fun ad e hl e2 => by have := (hol _ e2).1; have := (hix.2 hl ad e).2; omega) ?_
          intro v6 w6 ho2 hgr
          replace hB := hB.grown hgr hB.size (fun q e => by have := (hol q e).1; omega)
          replace ka := ka.grown hgr (fun e => by have := (hol _ e.symm).1; omega)
          replace kb := kb.grown hgr (fun e => by have := (hol _ e.symm).1; omega)
          replace k4 := k4.grown hgr (fun e => by have := (hol _ e.symm).1; omega)
          replace k9 := k9.grown hgr (fun e => by have := (hol _ e.symm).1; omega)
          replace hb3 := Nat.le_trans hb3 hgr.size
          clear hrd hgr ho hol hix2
          generalize ms ++ [x] = ms2 at *
          obtain ⟨A8, c8, rfl, hc8, -⟩ := ho2.read
          have y9 := k9.cell
          have f9 := k9.frozen
          replace hB := hB.setCell (p := ⟨q9, 2, none⟩) (show w.heap.size ≤ q9 by omega) (.slice A8 ms2.length c8)
          replace ka := ka.far (p := ⟨q9, 2, none⟩) (show w.heap.size ≠ q9 by omega) (.slice A8 ms2.length c8)
          replace kb := kb.far (p := ⟨q9, 2, none⟩) (show w.heap.size + 1 ≠ q9 by omega) (.slice A8 ms2.length c8)
          replace k4 := k4.far (p := ⟨q9, 2, none⟩) (show w.heap.size + 2 ≠ q9 by omega) (.slice A8 ms2.length c8)
          have k9n := k9.set_ 2 (.slice A8 ms2.length c8)
          have ho3 := ho2.only (d_only_set (World.grownBy.refl _ (some q9)) 2 (.slice A8 ms2.length c8)) (by omega) (by unfold Bd; omega)
          have hb4 : b2 ≤ (w6.setCell ⟨q9, 2, none⟩ (.slice A8 ms2.length c8)).heap.size := by simpa [World.setCell] using hb3
          clear k9 ho2 hb3
          go_wp2
          go_roundw
          case rel => exact ⟨k + 1, _, by omega, by go_num, hb4, by rw [HT.out]; exact ho3, ⟨hB, ka, kb, k4⟩, k9n⟩
          case measure => simp [intOf]; omega
        · rw [List.take_of_length_le (by omega)] at *
          obtain ⟨A9, c9, e9, hc9, hmr⟩ := ho.read
          injection e9 with e9 _ e10
          subst e9
          subst e10
          clear ho
          rw [← HE.out] at hc9 hmr k9
          go_wp2
          go_meet
          exact ⟨⟨hB, ka, kb, k4⟩, A2', c2', k9, hc9, hmr.mono (fun k hk => hk.elim (fun h => Or.inl h) (fun h => Or.inr (by omega)))⟩
  case rest =>
  obtain ⟨⟨hB2, ka2, kb2, k42⟩, A6, c6, k92, hc6, hmr⟩ := hcut
  clear hB ka kb k4 k9
  have hB := hB2
  have ka := ka2
  have kb := kb2
  have k4 := k42
  have k9 := k92
  clear hB2 ka2 kb2 k42 k92
  generalize wc = w4 at *
  go_upto_if 47 with fail
  go_cut [12] (fun v wx => v = .bool (bitZ d 2 && decide (64 < z.r.length)) ∧ (Below w.heap.size w wx ∧ Blk wx w.heap.size 48 #[.int .i64 a.k, .slice A1 a.r.length c1, .slice A2 a.m.length c2, .slice A3 a.s.length c3] ∧ Blk wx (w.heap.size + 1) 48 #[.int .i64 b.k, .slice B1 b.r.length d1, .slice B2 b.m.length d2, .slice B3 b.s.length d3] ∧ Blk wx (w.heap.size + 2) 48 #[.int .i64 0, .slice none 0 0, .slice none 0 0, .slice none 0 0]) ∧ ∃ (A5 : Option Addr) (c5 : Nat), Blk wx q9 48 #[.int .i64 z.k, .slice A5 z.r.length c5, .slice A6 z.m.length c6, .slice A3 a.s.length c3] ∧ z.r.length ≤ c5 ∧ RdB wx (Dk w.heap.size ba) 2 A5 z.r.length (scells z.r) ∧ MapsR wx (Dk w.heap.size ba) A6 z.m)
  case first =>
    cases hb : bitZ d 2
    · have e1 : (bits .and .i64 d 2 != 0) = false := hb
      have HE : Hid (z.r = a.r) := Lib.hid (by rw [HR.out, hb]; rfl)
      have HBB := Lib.hid hb
      clear hb
      go_wp2
      go_meet
      exact ⟨by rw [HBB.out]; rfl, ⟨hB, ka, kb, k4⟩, A1, c1, by rw [HE.out]; exact k9, by rw [HE.out]; exact hpa.cr, by rw [HE.out]; exact RdB.grows hpr hB, hmr⟩
    · have e1 : (bits .and .i64 d 2 != 0) = true := hb
      have HE : Hid (interF (spansF a.r) (spansF b.r) = z.r) := Lib.hid (by rw [HR.out, hb]; rfl)
      have HBB := Lib.hid hb
      clear hb
      have xa := ka.cell
      have xb := kb.cell
      go_wp2_with fail
      refine (all_any A1 c1 a.r B1 d1 b.r _ (hpa.r.grows hB).sps (by omega) (hpb.r.grows hB).sps (by omega)).mono ?_
      rw [HE.out]
      rintro e w5 ⟨⟨v, rfl, hown⟩, hq⟩
      obtain ⟨A5, c5, rfl, hc5, hr5⟩ := SpB.of_own hown
      have hl9 := k9.lt
      replace hr5 : RdB w5 (Dk w.heap.size ba) 2 A5 z.r.length (scells z.r) := RdB.mono hr5 (fun k hk => by unfold Ge at hk; unfold Dk; omega)
      replace hB := below_grows hB (Nat.le_refl _) hq
      replace ka := ka.grows hq
      replace kb := kb.grows hq
      replace k4 := k4.grows hq
      replace k9 := k9.grows hq
      replace hmr := hmr.grows hq
      clear hq hown xa xb hl9
      have x9 := k9.cell
      have f9 := k9.frozen
      go_upto_region 15 with fail
      replace hB := hB.setCell (p := ⟨q9, 1, none⟩) (show w.heap.size ≤ q9 by omega) (.slice A5 z.r.length c5)
      replace ka := ka.far (p := ⟨q9, 1, none⟩) (show w.heap.size ≠ q9 by omega) (.slice A5 z.r.length c5)
      replace kb := kb.far (p := ⟨q9, 1, none⟩) (show w.heap.size + 1 ≠ q9 by omega) (.slice A5 z.r.length c5)
      replace k4 := k4.far (p := ⟨q9, 1, none⟩) (show w.heap.size + 2 ≠ q9 by omega) (.slice A5 z.r.length c5)
      have k9n := k9.set_ 1 (.slice A5 z.r.length c5)
      have hch := d_only_set (World.grownBy.refl w5 (some q9)) 1 (.slice A5 z.r.length c5)
      replace hr5 := RdB.grown hr5 hch (fun q e hh => by injection e with e; unfold Dk at hh; omega)
      replace hmr := hmr.grown hch (fun q e hh => by injection e with e; unfold Dk at hh; omega)
      clear hch
      clear x9 f9 k9
      generalize World.setCell w5 _ _ = w6 at *
      have x9 : ∀ i, w6.cell? ⟨q9, i, none⟩ = #[.int .i64 z.k, .slice A5 z.r.length c5, .slice A6 z.m.length c6, .slice A3 a.s.length c3][i]? := k9n.cell
      go_wp2
      go_meet
      exact ⟨by rw [HBB.out, Bool.true_and]; exact congrArg Value.bool (by rw [Bool.eq_iff_iff, decide_eq_true_eq, decide_eq_true_eq]; omega), ⟨hB, ka, kb, k4⟩, A5, c5, k9n, hc5, hr5, hmr⟩
  case rest =>
  obtain ⟨rfl, ⟨hB2, ka2, kb2, k42⟩, A5, c5, k92, hc5, hr5, hmr2⟩ := hcut
  clear hB ka kb k4 k9 hmr
  have hB := hB2
  have ka := ka2
  have kb := kb2
  have k4 := k42
  have k9 := k92
  have hmr := hmr2
  clear hB2 ka2 kb2 k42 k92 hmr2
  generalize wc = w5 at *
  generalize hM1 : (bitZ d 2 && decide (64 < z.r.length)) = M1 at *
  have HM1 := Lib.hid hM1
  clear hM1
  go_upto_if 65 with fail
  go_cut [12] (fun v wx => v = .bool (manyB d z) ∧ (Below w.heap.size w wx ∧ Blk wx w.heap.size 48 #[.int .i64 a.k, .slice A1 a.r.length c1, .slice A2 a.m.length c2, .slice A3 a.s.length c3] ∧ Blk wx (w.heap.size + 1) 48 #[.int .i64 b.k, .slice B1 b.r.length d1, .slice B2 b.m.length d2, .slice B3 b.s.length d3] ∧ Blk wx (w.heap.size + 2) 48 #[.int .i64 0, .slice none 0 0, .slice none 0 0, .slice none 0 0]) ∧ ∃ (A7 : Option Addr) (c7 : Nat), Blk wx q9 48 #[.int .i64 z.k, .slice A5 z.r.length c5, .slice A6 z.m.length c6, .slice A7 z.s.length c7] ∧ z.s.length ≤ c7 ∧ RdB wx (Dk w.heap.size ba) 2 A7 z.s.length (scells z.s) ∧ RdB wx (Dk w.heap.size ba) 2 A5 z.r.length (scells z.r) ∧ MapsR wx (Dk w.heap.size ba) A6 z.m)
  case first =>
    cases hb : bitZ d 8
    · have e1 : (bits .and .i64 d 8 != 0) = false := hb
      have HE : Hid (z.s = a.s) := Lib.hid (by rw [HZ.out, hb]; rfl)
      have HBB := Lib.hid hb
      clear hb
      go_wp2
      go_meet
      exact ⟨by rw [HMB.out, HBB.out]; simp, ⟨hB, ka, kb, k4⟩, A3, c3, by rw [HE.out]; exact k9, by rw [HE.out]; exact hpa.cs, by rw [HE.out]; exact RdB.grows hps hB, hr5, hmr⟩
    · have e1 : (bits .and .i64 d 8 != 0) = true := hb
      have HE : Hid (interF (spansF a.s) (spansF b.s) = z.s) := Lib.hid (by rw [HZ.out, hb]; rfl)
      have HBB := Lib.hid hb
      clear hb
      have xa := ka.cell
      have xb := kb.cell
      go_wp2_with fail
      refine (all_any A3 c3 a.s B3 d3 b.s _ (hpa.s.grows hB).sps (by omega) (hpb.s.grows hB).sps (by omega)).mono ?_
      rw [HE.out]
      rintro e w6 ⟨⟨v, rfl, hown⟩, hq⟩
      obtain ⟨A7, c7, rfl, hc7, hr7⟩ := SpB.of_own hown
      have hl9 := k9.lt
      replace hr7 : RdB w6 (Dk w.heap.size ba) 2 A7 z.s.length (scells z.s) := RdB.mono hr7 (fun k hk => by unfold Ge at hk; unfold Dk; omega)
      replace hB := below_grows hB (Nat.le_refl _) hq
      replace ka := ka.grows hq
      replace kb := kb.grows hq
      replace k4 := k4.grows hq
      replace k9 := k9.grows hq
      replace hmr := hmr.grows hq
      replace hr5 := RdB.grows hr5 hq
      clear hq hown xa xb hl9
      have x9 := k9.cell
      have f9 := k9.frozen
      go_upto_region 18 with fail
      replace hB := hB.setCell (p := ⟨q9, 3, none⟩) (show w.heap.size ≤ q9 by omega) (.slice A7 z.s.length c7)
      replace ka := ka.far (p := ⟨q9, 3, none⟩) (show w.heap.size ≠ q9 by omega) (.slice A7 z.s.length c7)
      replace kb := kb.far (p := ⟨q9, 3, none⟩) (show w.heap.size + 1 ≠ q9 by omega) (.slice A7 z.s.length c7)
      replace k4 := k4.far (p := ⟨q9, 3, none⟩) (show w.heap.size + 2 ≠ q9 by omega) (.slice A7 z.s.length c7)
      have k9n := k9.set_ 3 (.slice A7 z.s.length c7)
      have hch := d_only_set (World.grownBy.refl w6 (some q9)) 3 (.slice A7 z.s.length c7)
      replace hr7 := RdB.grown hr7 hch (fun q e hh => by injection e with e; unfold Dk at hh; omega)
      replace hr5 := RdB.grown hr5 hch (fun q e hh => by injection e with e; unfold Dk at hh; omega)
      replace hmr := hmr.grown hch (fun q e hh => by injection e with e; unfold Dk at hh; omega)
      clear hch
      clear x9 f9 k9
      generalize World.setCell w6 _ _ = w7 at *
      have x9 : ∀ i, w7.cell? ⟨q9, i, none⟩ = #[.int .i64 z.k, .slice A5 z.r.length c5, .slice A6 z.m.length c6, .slice A7 z.s.length c7][i]? := k9n.cell
      have HMV : Hid (manyB d z = (M1 || decide (64 < z.s.length))) := Lib.hid (by rw [HMB.out, HBB.out, Bool.true_and])
      cases M1
      · have HMV2 : Hid (Value.bool (decide (64 < (z.s.length : Int))) = .bool (manyB d z)) := Lib.hid (by rw [HMV.out, Bool.false_or]; exact congrArg Value.bool (by rw [Bool.eq_iff_iff, decide_eq_true_eq, decide_eq_true_eq]; omega))
        go_wp2
        go_meet
        exact ⟨HMV2.out, ⟨hB, ka, kb, k4⟩, A7, c7, k9n, hc7, hr7, hr5, hmr⟩
      · have HMV2 : Hid (Value.bool true = .bool (manyB d z)) := Lib.hid (by rw [HMV.out]; rfl)
        go_wp2
        go_meet
        exact ⟨HMV2.out, ⟨hB, ka, kb, k4⟩, A7, c7, k9n, hc7, hr7, hr5, hmr⟩
  case rest =>
  obtain ⟨rfl, ⟨hB2, ka2, kb2, k42⟩, A7, c7, k92, hc7, hs7, hr52, hmr2⟩ := hcut
  clear hB ka kb k4 k9 hmr hr5
  have hB := hB2
  have k4 := k42
  have k9 := k92
  have hmr := hmr2
  have hr := hr52
  have hs := hs7
  clear hB2 ka2 kb2 k42 k92 hmr2 hr52 hs7
  generalize wc = w6 at *
  have HV := HSB.out
  have x9 := k9.cell
  have x4 := k4.cell
  have hf4 := k4.frozen
  have HRES : Hid (∀ w9 : World, RdB w9 (Dk w.heap.size ba) 2 A5 z.r.length (scells z.r) → RdB w9 (Dk w.heap.size ba) 2 A7 z.s.length (scells z.s) → MapsR w9 (Dk w.heap.size ba) A6 z.m → BoxV w9 (Dk w.heap.size ba) z (.agg #[.int .i64 z.k, .slice A5 z.r.length c5, .slice A6 z.m.length c6, .slice A7 z.s.length c7])) := Lib.hid (fun w9 yR yS yM => ⟨A5, c5, A6, c6, A7, c7, rfl, ⟨yR, yM, yS, hc5, hc6, hc7⟩⟩)
  have y0 := Blk.drew ((((k4.set_ 0 (.int .i64 z.k)).set_ 1 (.slice A5 z.r.length c5)).set_ 2 (.slice A6 z.m.length c6)).set_ 3 (.slice A7 z.s.length c7))
  have yB := below_grows ((((hB.setCell (p := ⟨w.heap.size + 2, 0, none⟩) (show w.heap.size ≤ w.heap.size + 2 by omega) (.int .i64 z.k)).setCell (p := ⟨w.heap.size + 2, 1, none⟩) (show w.heap.size ≤ w.heap.size + 2 by omega) (.slice A5 z.r.length c5)).setCell (p := ⟨w.heap.size + 2, 2, none⟩) (show w.heap.size ≤ w.heap.size + 2 by omega) (.slice A6 z.m.length c6)).setCell (p := ⟨w.heap.size + 2, 3, none⟩) (show w.heap.size ≤ w.heap.size + 2 by omega) (.slice A7 z.s.length c7)) (Nat.le_refl _) (Grows.drew' _)
  have yR := RdB.grows (RdB.grown hr (d_only_set (d_only_set (d_only_set (d_only_set (World.grownBy.refl _ (some (w.heap.size + 2))) 0 (.int .i64 z.k)) 1 (.slice A5 z.r.length c5)) 2 (.slice A6 z.m.length c6)) 3 (.slice A7 z.s.length c7)) (fun q e hh => by injection e with e; unfold Dk at hh; omega)) (Grows.drew' _)
  have yS := RdB.grows (RdB.grown hs (d_only_set (d_only_set (d_only_set (d_only_set (World.grownBy.refl _ (some (w.heap.size + 2))) 0 (.int .i64 z.k)) 1 (.slice A5 z.r.length c5)) 2 (.slice A6 z.m.length c6)) 3 (.slice A7 z.s.length c7)) (fun q e hh => by injection e with e; unfold Dk at hh; omega)) (Grows.drew' _)
  have yM := MapsR.grows (MapsR.grown hmr (d_only_set (d_only_set (d_only_set (d_only_set (World.grownBy.refl _ (some (w.heap.size + 2))) 0 (.int .i64 z.k)) 1 (.slice A5 z.r.length c5)) 2 (.slice A6 z.m.length c6)) 3 (.slice A7 z.s.length c7)) (fun q e hh => by injection e with e; unfold Dk at hh; omega)) (Grows.drew' _)
  have y6 := y0.cell
  clear k4 k9 hr hs hmr hB
  go_upto_region 19 with fail
  by_cases h1 : z.k = 0
  case pos =>
    have HE : Hid (someB z = false) := Lib.hid (by rw [HV, h1]; rfl)
    have dk : (z.k != 0) = false := by simpa using h1
    clear h1 HV
    go_region
    go_wp2
    refine bodyPost_ret (v := .tuple #[.agg #[.int .i64 z.k, .slice A5 z.r.length c5, .slice A6 z.m.length c6, .slice A7 z.s.length c7], .bool false, .bool (manyB d z)]) (by simp [results, Tryz.results98, go_sem, y6]) rfl ⟨⟨_, by rw [HE.out], HRES.out _ yR yS yM⟩, yB⟩
  have dk : (z.k != 0) = true := by simpa using h1
  clear h1
  by_cases h2 : 0 < z.m.length
  case neg =>
    have HE : Hid (someB z = false) := Lib.hid (by rw [HV, decide_eq_false h2]; simp)
    have dm1 : decide (0 < (z.m.length : Int)) = false := by simp only [decide_eq_false_iff_not]; omega
    have dm2 : decide (0 < z.m.length) = false := by simpa using h2
    clear h2 HV
    go_region
    go_wp2
    refine bodyPost_ret (v := .tuple #[.agg #[.int .i64 z.k, .slice A5 z.r.length c5, .slice A6 z.m.length c6, .slice A7 z.s.length c7], .bool false, .bool (manyB d z)]) (by simp [results, Tryz.results98, go_sem, y6]) rfl ⟨⟨_, by rw [HE.out], HRES.out _ yR yS yM⟩, yB⟩
  have dm1 : decide (0 < (z.m.length : Int)) = true := by simp only [decide_eq_true_eq]; omega
  have dm2 : decide (0 < z.m.length) = true := by simpa using h2
  clear h2
  by_cases h2 : 0 < z.r.length
  case neg =>
    have HE : Hid (someB z = false) := Lib.hid (by rw [HV, decide_eq_false h2]; simp)
    have dr1 : decide (0 < (z.r.length : Int)) = false := by simp only [decide_eq_false_iff_not]; omega
    have dr2 : decide (0 < z.r.length) = false := by simpa using h2
    clear h2 HV
    go_region
    go_wp2
    refine bodyPost_ret (v := .tuple #[.agg #[.int .i64 z.k, .slice A5 z.r.length c5, .slice A6 z.m.length c6, .slice A7 z.s.length c7], .bool false, .bool (manyB d z)]) (by simp [results, Tryz.results98, go_sem, y6]) rfl ⟨⟨_, by rw [HE.out], HRES.out _ yR yS yM⟩, yB⟩
  have dr1 : decide (0 < (z.r.length : Int)) = true := by simp only [decide_eq_true_eq]; omega
  have dr2 : decide (0 < z.r.length) = true := by simpa using h2
  clear h2
  by_cases h2 : 0 < z.s.length
  case neg =>
    have HE : Hid (someB z = false) := Lib.hid (by rw [HV, decide_eq_false h2]; simp)
    have ds1 : decide (0 < (z.s.length : Int)) = false := by simp only [decide_eq_false_iff_not]; omega
    have ds2 : decide (0 < z.s.length) = false := by simpa using h2
    clear h2 HV
    go_region
    go_wp2
    refine bodyPost_ret (v := .tuple #[.agg #[.int .i64 z.k, .slice A5 z.r.length c5, .slice A6 z.m.length c6, .slice A7 z.s.length c7], .bool false, .bool (manyB d z)]) (by simp [results, Tryz.results98, go_sem, y6]) rfl ⟨⟨_, by rw [HE.out], HRES.out _ yR yS yM⟩, yB⟩
  have ds1 : decide (0 < (z.s.length : Int)) = true := by simp only [decide_eq_true_eq]; omega
  have ds2 : decide (0 < z.s.length) = true := by simpa using h2
  clear h2
  have HE : Hid (someB z = true) := Lib.hid (by rw [HV, dk, dm2, dr2, ds2]; rfl)
  clear HV
  go_region
  go_wp2
  refine bodyPost_ret (v := .tuple #[.agg #[.int .i64 z.k, .slice A5 z.r.length c5, .slice A6 z.m.length c6, .slice A7 z.s.length c7], .bool true, .bool (manyB d z)]) (by simp [results, Tryz.results98, go_sem, y6]) rfl ⟨⟨_, by rw [HE.out], HRES.out _ yR yS yM⟩, yB⟩
end Go.Proofs.YtnbdpnlepcjmmaaGreat

namespace Go.Proofs.YtnbdpnlepcjmmaaGreat
open Go.RowKit
theorem okb_dims {x y : Bx} {d : Int} (hx : OKB x) : OKB (dimsF d x y) := by
  obtain ⟨h1, h2, h3, h4⟩ := hx
  have hb : ∀ u v : List Sp, (interF (spansF u) (spansF v)).length ≤ 4096 := fun u v => Nat.le_trans (interF_len _ _) (Nat.le_trans (Nat.mul_le_mul (spansF_len u) (spansF_len v)) (by omega))
  refine ⟨?_, ?_, ?_, fun m hm => ?_⟩
  · show (if bitZ d 2 = true then interF (spansF x.r) (spansF y.r) else x.r).length ≤ 1000000
    split
    · have := hb x.r y.r
      omega
    · exact h1
  · show (if bitZ d 8 = true then interF (spansF x.s) (spansF y.s) else x.s).length ≤ 1000000
    split
    · have := hb x.s y.s
      omega
    · exact h2
  · show (if bitZ d 4 = true then x.m.filter (fun z => decide (z ∈ y.m)) else x.m).length ≤ 1000000
    split
    · have := List.length_filter_le (fun z => decide (z ∈ y.m)) x.m
      omega
    · exact h3
  · have hm : m ∈ (if bitZ d 4 = true then x.m.filter (fun z => decide (z ∈ y.m)) else x.m) := hm
    split at hm
    · exact h4 m (List.mem_filter.1 hm).1
    · exact h4 m hm
theorem product_lim {d : Int} {a b : List Bx} (h : prodF d a b = none) : productF d a b = ([], 3) := by unfold productF; rw [h]
theorem product_ok {d : Int} {a b out : List Bx} (h : prodF d a b = some out) : productF d a b = reduceF out := by unfold productF; rw [h]
set_option maxHeartbeats 64000000 in
set_option maxRecDepth 10000 in
theorem rproduct_any {ba bb : Nat → Prop} {A B : Option Addr} {c d n m : Nat} {a b : List Bx} {w : World} (dd : Int) (hn : n = a.length) (hm : m = b.length) (ha : Bxs w ba A a) (hb : Bxs w bb B b) (hla : a.length ≤ 100000) (hlb : b.length ≤ 100000) (hoa : ∀ x ∈ a, OKB x) (hob : ∀ x ∈ b, OKB x) :
    Calls Tryz.prog 70 #[.slice A n c, .slice B m d, .int .i64 dd] w fun e w' => (∃ v, e = .returned (.tuple #[v, .int .i64 (productF dd a b).2]) ∧ OwnBq w' w.heap.size (fun _ => True) v (productF dd a b).1) ∧ Grows w w' := by
  subst hn hm
  have HOA := Lib.hid hoa
  have HOB := Lib.hid hob
  clear hoa hob
  replace ha := ha.under
  have hB := Below.refl w.heap.size w
  go_enter Tryz.func70, Tryz.ntmps70
  go_wp2_with fail
  go_loopw [8, 18] (fun v i wr => ∃ (k : Nat) (out : List Bx), k ≤ a.length ∧ i = .int .i64 k ∧ Hid ((a.take k).foldl (prodRow dd b) (some []) = some out) ∧ Hid (∀ z ∈ out, OKB z) ∧ out.length ≤ 64 ∧ OwnBq wr w.heap.size (fun _ => True) v out ∧ Below w.heap.size w wr) (fun _ i _ => a.length - (intOf i).toNat)
  case atStart => exact ⟨0, [], by omega, rfl, Lib.hid rfl, Lib.hid (fun z hz => by cases hz), by simp, OwnBq.nil, hB⟩
  case round =>
    clear hB
    obtain ⟨k, out0, hk, rfl, HK, HOO, hol, hw, hB⟩ := hrel
    by_cases hlt : k < a.length
    · obtain ⟨ad, x, A1, c1, A2, c2, A3, c3, e1, had, hx, hpx, q0, q1, q2, q3⟩ := ha.elemB hB hlt
      subst e1
      have HX := Lib.hid hx
      have hox := HOA.out x (List.mem_of_getElem? hx)
      clear hx
      have k8 := Blk.new wr 48 #[.int .i64 x.k, .slice A1 x.r.length c1, .slice A2 x.m.length c2, .slice A3 x.s.length c3]
      have hne := fun e => Nat.lt_irrefl _ (hw.lt _ e).2
      have hq := (Below.refl wr.heap.size wr).alloc (Nat.le_refl _) (Obj.cells #[.int .i64 x.k, .slice A1 x.r.length c1, .slice A2 x.m.length c2, .slice A3 x.s.length c3] 48)
      go_upto_region 5 with fail
      replace hB := below_grows hB (Nat.le_refl _) hq
      replace hw := hw.grows hq
      clear hq q0 q1 q2 q3
      generalize World.alloc wr _ = w5 at *
      generalize wr.heap.size = G8 at *
      have hB5 := hB
      clear hB
      go_wp2_with fail
      go_loopw [8, 24] (fun v i wq => ∃ (j : Nat) (out : List Bx), j ≤ b.length ∧ i = .int .i64 j ∧ Hid ((b.take j).foldl (prodStep dd x) (some out0) = some out) ∧ Hid (∀ z ∈ out, OKB z) ∧ out.length ≤ 64 ∧ OwnBq wq w.heap.size (fun _ => True) v out ∧ v.ownBlock ≠ some G8 ∧ Blk wq G8 48 #[.int .i64 x.k, .slice A1 x.r.length c1, .slice A2 x.m.length c2, .slice A3 x.s.length c3] ∧ Below w.heap.size w wq) (fun _ i _ => b.length - (intOf i).toNat)
      case atStart => exact ⟨0, out0, by omega, rfl, Lib.hid rfl, HOO, hol, hw, hne, k8, hB5⟩
      case round =>
        clear hw k8 hB5 HOO hol hne
        obtain ⟨j, out, hj, rfl, HJ, HOO, hol, hw, hne, k8, hB⟩ := hrel
        by_cases hjt : j < b.length
        · obtain ⟨ad2, y, B1, d1, B2, d2, B3, d3, e2, had2, hy, hpy, q0, q1, q2, q3⟩ := hb.elemB hB hjt
          subst e2
          have HY := Lib.hid hy
          have hoy := HOB.out y (List.mem_of_getElem? hy)
          clear hy
          have k10 := Blk.new wr 48 #[.int .i64 y.k, .slice B1 y.r.length d1, .slice B2 y.m.length d2, .slice B3 y.s.length d3]
          have hq := (Below.refl wr.heap.size wr).alloc (Nat.le_refl _) (Obj.cells #[.int .i64 y.k, .slice B1 y.r.length d1, .slice B2 y.m.length d2, .slice B3 y.s.length d3] 48)
          go_upto_region 8 with fail
          replace hB := below_grows hB (Nat.le_refl _) hq
          replace hw := hw.grows hq
          replace k8 := k8.grows hq
          clear hq q0 q1 q2 q3
          generalize World.alloc wr _ = w6 at *
          generalize wr.heap.size = G10 at *
          have x8 := k8.cell
          have x10 := k10.cell
          have hown := hw.lt
          go_wp2_with fail
          refine (rdims_any (hpx.grows hB) (hpy.grows hB) hox hoy dd).mono ?_
          have hoz := okb_dims (y := y) (d := dd) hox
          have HPS : Hid (someB (dimsF dd x y) = false → prodStep dd x (some out) y = some out) := Lib.hid prodStep_no
          have HPY : Hid (someB (dimsF dd x y) = true → manyB dd (dimsF dd x y) = false → out.length < 64 → prodStep dd x (some out) y = some (out ++ [dimsF dd x y])) := Lib.hid prodStep_yes
          have HPN : Hid (someB (dimsF dd x y) = true → (manyB dd (dimsF dd x y) = true ∨ 64 ≤ out.length) → prodStep dd x (some out) y = none) := Lib.hid prodStep_stop
          generalize dimsF dd x y = z at *
          rintro e w7 ⟨⟨v2, rfl, E1, f1, E2, f2, E3, f3, rfl, hpz⟩, hq⟩
          have hs6 := hB.size
          replace hpz : BoxP w7 (Aq (fun _ => True) _) z E1 f1 E2 f2 E3 f3 := hpz.mono fun k hk => ⟨trivial, fun e => by have h9 := hown _ e; unfold Dk Under at hk; omega⟩
          replace hB := below_grows hB (Nat.le_refl _) hq
          replace hw := hw.grows hq
          replace k8 := k8.grows hq
          clear hq x8 x10 k10 hown hs6
          have k13 := Blk.new w7 48 #[.int .i64 z.k, .slice E1 z.r.length f1, .slice E2 z.m.length f2, .slice E3 z.s.length f3]
          have hq := (Below.refl w7.heap.size w7).alloc (Nat.le_refl _) (Obj.cells #[.int .i64 z.k, .slice E1 z.r.length f1, .slice E2 z.m.length f2, .slice E3 z.s.length f3] 48)
          replace hB := below_grows hB (Nat.le_refl _) hq
          replace hw := hw.grows hq
          replace k8 := k8.grows hq
          replace hpz := hpz.grows hq
          go_upto_region 9 with fail
          clear hq
          generalize World.alloc w7 _ = w8 at *
          generalize w7.heap.size = G13 at *
          cases hs : someB z
          case false =>
            have HN : Hid ((b.take (j + 1)).foldl (prodStep dd x) (some out0) = some out) := Lib.hid (by rw [fold_next HY.out, HJ.out]; exact HPS.out hs)
            clear hs k13 hpz
            go_wp2
            go_roundw
            case rel => exact ⟨j + 1, out, by omega, by go_num, HN, HOO, hol, hw, hne, k8, hB⟩
            case measure => simp [intOf]; omega
          have HS := Lib.hid hs
          clear hs
          obtain ⟨A9, c9, rfl, hc9, -⟩ := hw.read
          cases hm : manyB dd z
          case true =>
            have HE : Hid (productF dd a b = ([], 3)) := Lib.hid (product_lim (prod_stop HX.out HY.out HK.out HJ.out (HPN.out HS.out (.inl hm))))
            clear hm k13 hpz
            go_wp2
            refine bodyPost_ret (v := .tuple #[.slice none 0 0, .int .i64 3]) (by simp [results, Tryz.results70, go_sem]) rfl ?_
            rw [HE.out]
            exact ⟨⟨_, rfl, OwnBq.nil⟩, hB⟩
          have HM := Lib.hid hm
          clear hm
          by_cases h1 : 64 ≤ out.length
          case pos =>
            have dq : decide ((64 : Int) ≤ (out.length : Int)) = true := by simp only [decide_eq_true_eq]; omega
            have dq2 : decide (64 ≤ out.length) = true := by simpa using h1
            have HE : Hid (productF dd a b = ([], 3)) := Lib.hid (product_lim (prod_stop HX.out HY.out HK.out HJ.out (HPN.out HS.out (.inr h1))))
            clear h1 k13 hpz
            go_wp2
            refine bodyPost_ret (v := .tuple #[.slice none 0 0, .int .i64 3]) (by simp [results, Tryz.results70, go_sem]) rfl ?_
            rw [HE.out]
            exact ⟨⟨_, rfl, OwnBq.nil⟩, hB⟩
          have dq : decide ((64 : Int) ≤ (out.length : Int)) = false := by simp only [decide_eq_false_iff_not]; omega
          have dq2 : decide (64 ≤ out.length) = false := by simpa using h1
          have HN : Hid ((b.take (j + 1)).foldl (prodStep dd x) (some out0) = some (out ++ [z])) := Lib.hid (by rw [fold_next HY.out, HJ.out]; exact HPY.out HS.out HM.out (by omega))
          have hol2 : (out ++ [z]).length ≤ 64 := by rw [List.length_append, List.length_singleton]; omega
          have HOO2 := Lib.hid (okb_snoc HOO.out hoz)
          clear h1 HJ HPS HPY HPN
          have x13 := k13.cell
          go_upto_region 12 with fail
          refine wp_region_lit ?_
          iterate 3
            refine wpList_plain rfl (fun K hK => ?_)
            go_simp
            refine hK _ _ ?_
            clear hK K
          have hown := hw.lt
          have hL := bxs_lit hpz ⟨trivial, fun e => by have := (hown _ e).2; omega⟩
          have hq := (Below.refl w8.heap.size w8).alloc (Nat.le_refl _) (Obj.cells #[.int .i64 z.k, .slice E1 z.r.length f1, .slice E2 z.m.length f2, .slice E3 z.s.length f3] 48)
          replace hw := hw.grows hq
          replace hB := below_grows hB (Nat.le_refl _) hq
          replace k8 := k8.grows hq
          have hown3 := hw.lt
          clear hq hpz hown x13 k13
          refine wpList_append_boxesq rfl (.tmp 44) (.tmp 46) rfl (m := [z]) rfl rfl hw rfl hL (by simp only [List.length_singleton]; omega) hB.size ?_
          intro v5 w12 ho2 hgr hv5
          have hne2 : v5.ownBlock ≠ some G8 := by
            rcases hv5 with e | e
            · rw [e]; exact hne
            · rw [e]; intro e2; injection e2 with e2; have := k8.lt; omega
          replace hB := hB.grown hgr hB.size (fun q e => (hown3 q e).1)
          replace k8 := k8.grown hgr (fun e => hne e.symm)
          clear hown3 hgr hw hL
          generalize out ++ [z] = out2 at *
          go_wp2
          go_roundw
          case rel => exact ⟨j + 1, out2, by omega, by go_num, HN, HOO2, hol2, ho2, hne2, k8, hB⟩
          case measure => simp [intOf]; omega
        · have HN : Hid ((a.take (k + 1)).foldl (prodRow dd b) (some []) = some out) := Lib.hid (by rw [fold_next HX.out, HK.out]; have := HJ.out; rwa [List.take_of_length_le (by omega)] at this)
          go_wp2
          go_roundw
          case rel => exact ⟨k + 1, out, by omega, by go_num, HN, HOO, hol, hw, hB⟩
          case measure => simp [intOf]; omega
    · have HE : Hid (productF dd a b = reduceF out0) := Lib.hid (product_ok (by have := HK.out; rwa [List.take_of_length_le (by omega)] at this))
      obtain ⟨A9, c9, rfl, hc9, hxo⟩ := hw.read
      go_wp2_with fail
      refine (rreduce_any rfl hxo (by omega) HOO.out).mono ?_
      rintro e w3 ⟨⟨v, rfl, hw2⟩, hq2⟩
      have hs := hB.size
      replace hB := below_grows hB (Nat.le_refl _) hq2
      go_wp2
      refine bodyPost_ret (v := .tuple #[v, .int .i64 (reduceF out0).2]) (by simp [results, Tryz.results70, go_sem]) rfl ?_
      rw [HE.out]
      exact ⟨⟨_, rfl, hw2.lower hs (fun _ _ => trivial)⟩, hB⟩
set_option maxHeartbeats 16000000 in
set_option maxRecDepth 10000 in
theorem rinterl_any {ba bb : Nat → Prop} {A B : Option Addr} {c d n m : Nat} {a b : List Bx} {w : World} (hn : n = a.length) (hm : m = b.length) (ha : Bxs w ba A a) (hb : Bxs w bb B b) (hla : a.length ≤ 100000) (hlb : b.length ≤ 100000) (hoa : ∀ x ∈ a, OKB x) (hob : ∀ x ∈ b, OKB x) :
    Calls Tryz.prog 28 #[.slice A n c, .slice B m d] w fun e w' => (∃ v, e = .returned (.tuple #[v, .int .i64 (interR a b).2]) ∧ OwnBq w' w.heap.size (fun _ => True) v (interR a b).1) ∧ Grows w w' := by
  subst hn hm
  have HOA := Lib.hid hoa
  have HOB := Lib.hid hob
  clear hoa hob
  have hB := Below.refl w.heap.size w
  go_enter Tryz.func28, Tryz.ntmps28
  go_wp2_with fail
  refine (rvalidl_any A c ba a _ ha (by omega) HOA.out).mono ?_
  cases hv : validL a
  · have HE : Hid (interR a b = ([], 1)) := Lib.hid (if_neg (fun h => by rw [hv] at h; cases h.1))
    clear hv
    rintro e w2 ⟨rfl, hq⟩
    replace hB := below_grows hB (Nat.le_refl _) hq
    go_wp2
    refine bodyPost_ret (v := .tuple #[.slice none 0 0, .int .i64 1]) (by simp [results, Tryz.results28, go_sem]) rfl ?_
    rw [HE.out]
    exact ⟨⟨_, rfl, OwnBq.nil⟩, hB⟩
  have HVA := Lib.hid hv
  clear hv
  rintro e w2 ⟨rfl, hq⟩
  replace hB := below_grows hB (Nat.le_refl _) hq
  clear hq
  go_wp2_with fail
  refine (rvalidl_any B d bb b _ (hb.grows hB) (by omega) HOB.out).mono ?_
  cases hv : validL b
  · have HE : Hid (interR a b = ([], 1)) := Lib.hid (if_neg (fun h => by rw [hv] at h; cases h.2))
    clear hv
    rintro e w3 ⟨rfl, hq⟩
    replace hB := below_grows hB (Nat.le_refl _) hq
    go_wp2
    refine bodyPost_ret (v := .tuple #[.slice none 0 0, .int .i64 1]) (by simp [results, Tryz.results28, go_sem]) rfl ?_
    rw [HE.out]
    exact ⟨⟨_, rfl, OwnBq.nil⟩, hB⟩
  have HE : Hid (interR a b = productF 15 a b) := Lib.hid (if_pos ⟨HVA.out, hv⟩)
  clear hv
  rintro e w3 ⟨rfl, hq⟩
  replace hB := below_grows hB (Nat.le_refl _) hq
  clear hq
  go_wp2_with fail
  refine (rproduct_any 15 rfl rfl (ha.grows hB) (hb.grows hB) hla hlb HOA.out HOB.out).mono ?_
  rintro e w4 ⟨⟨v, rfl, hw2⟩, hq2⟩
  have hs := hB.size
  replace hB := below_grows hB (Nat.le_refl _) hq2
  generalize productF 15 a b = pf at *
  go_wp2
  refine bodyPost_ret (v := .tuple #[v, .int .i64 pf.2]) (by simp [results, Tryz.results28, go_sem]) rfl ?_
  rw [HE.out]
  exact ⟨⟨_, rfl, hw2.lower hs (fun _ h => h)⟩, hB⟩
end Go.Proofs.YtnbdpnlepcjmmaaGreat

namespace Go.Proofs.YtnbdpnlepcjmmaaGreat
open Go.RowKit
theorem okb_blend {d : Int} {x y : Bx} (hx : OKB x) (hy : OKB y) : OKB (blendB d x y) := by
  obtain ⟨h1, h2, h3, h4⟩ := hx
  obtain ⟨g1, g2, g3, g4⟩ := hy
  refine ⟨?_, ?_, ?_, fun m hm => ?_⟩
  · show (if bitZ d 2 = true then y.r else x.r).length ≤ 1000000
    split <;> assumption
  · show (if bitZ d 8 = true then y.s else x.s).length ≤ 1000000
    split <;> assumption
  · show (if bitZ d 4 = true then y.m else x.m).length ≤ 1000000
    split <;> assumption
  · have hm : m ∈ (if bitZ d 4 = true then y.m else x.m) := hm
    split at hm
    · exact g4 m hm
    · exact h4 m hm
theorem apart_no {d : Int} {a b : List Bx} {x y : Bx} (hx : x ∈ a) (hy : y ∈ b) (h : apOk d x y = false) : apartF d a b = false := by
  unfold apartF
  rw [List.all_eq_false]
  refine ⟨x, hx, ?_⟩
  rw [Bool.not_eq_true, List.all_eq_false]
  exact ⟨y, hy, by rw [h]; simp⟩
theorem apart_yes {d : Int} {a b : List Bx} (h : ∀ x ∈ a, ∀ y ∈ b, apOk d x y = true) : apartF d a b = true := by
  unfold apartF
  rw [List.all_eq_true]
  intro x hx
  rw [List.all_eq_true]
  exact h x hx
set_option maxHeartbeats 64000000 in
set_option maxRecDepth 10000 in
theorem apart_any {ba bb : Nat → Prop} {A B : Option Addr} {c d n m : Nat} {a b : List Bx} {w : World} (dd : Int) (hn : n = a.length) (hm : m = b.length) (ha : Bxs w ba A a) (hb : Bxs w bb B b) (hla : a.length ≤ 100000) (hlb : b.length ≤ 100000) (hoa : ∀ x ∈ a, OKB x) (hob : ∀ x ∈ b, OKB x) :
    Calls Tryz.prog 24 #[.slice A n c, .slice B m d, .int .i64 dd] w fun e w' => e = .returned (.bool (apartF dd a b)) ∧ Grows w w' := by
  subst hn hm
  have HOA := Lib.hid hoa
  have HOB := Lib.hid hob
  clear hoa hob
  have hB := Below.refl w.heap.size w
  go_enter Tryz.func24, Tryz.ntmps24
  go_wp2_with fail
  go_loopw [16] (fun i wr => ∃ k : Nat, k ≤ a.length ∧ i = .int .i64 k ∧ Hid (∀ x ∈ a.take k, ∀ y ∈ b, apOk dd x y = true) ∧ Below w.heap.size w wr) (fun i _ => a.length - (intOf i).toNat)
  case atStart => exact ⟨0, by omega, rfl, Lib.hid (by simp), hB⟩
  case round =>
    clear hB
    obtain ⟨k, hk, rfl, HK, hB⟩ := hrel
    by_cases hlt : k < a.length
    · obtain ⟨ad, x, A1, c1, A2, c2, A3, c3, e1, had, hx, hpx, q0, q1, q2, q3⟩ := ha.elemB hB hlt
      subst e1
      have HX := Lib.hid hx
      have hox := HOA.out x (List.mem_of_getElem? hx)
      clear hx
      have hwr := hB.size
      have k8 := Blk.new wr 48 #[.int .i64 x.k, .slice A1 x.r.length c1, .slice A2 x.m.length c2, .slice A3 x.s.length c3]
      have hq := (Below.refl wr.heap.size wr).alloc (Nat.le_refl _) (Obj.cells #[.int .i64 x.k, .slice A1 x.r.length c1, .slice A2 x.m.length c2, .slice A3 x.s.length c3] 48)
      go_upto_region 4 with fail
      replace hB := below_grows hB (Nat.le_refl _) hq
      clear hq q0 q1 q2 q3
      generalize World.alloc wr _ = w5 at *
      generalize wr.heap.size = G8 at *
      have hB5 := hB
      clear hB
      go_wp2_with fail
      go_loopw [22] (fun i wq => ∃ j : Nat, j ≤ b.length ∧ i = .int .i64 j ∧ Hid (∀ y ∈ b.take j, apOk dd x y = true) ∧ Blk wq G8 48 #[.int .i64 x.k, .slice A1 x.r.length c1, .slice A2 x.m.length c2, .slice A3 x.s.length c3] ∧ Below w.heap.size w wq) (fun i _ => b.length - (intOf i).toNat)
      case atStart => exact ⟨0, by omega, rfl, Lib.hid (by simp), k8, hB5⟩
      case round =>
        clear k8 hB5
        obtain ⟨j, hj, rfl, HJ, k8, hB⟩ := hrel
        by_cases hjt : j < b.length
        · obtain ⟨ad2, y, B1, d1, B2, d2, B3, d3, e2, had2, hy, hpy, q0, q1, q2, q3⟩ := hb.elemB hB hjt
          subst e2
          have HY := Lib.hid hy
          have hoy := HOB.out y (List.mem_of_getElem? hy)
          clear hy
          have l8 := k8.lt
          have k10 := Blk.new wr 48 #[.int .i64 y.k, .slice B1 y.r.length d1, .slice B2 y.m.length d2, .slice B3 y.s.length d3]
          have hq := (Below.refl wr.heap.size wr).alloc (Nat.le_refl _) (Obj.cells #[.int .i64 y.k, .slice B1 y.r.length d1, .slice B2 y.m.length d2, .slice B3 y.s.length d3] 48)
          go_upto_region 7 with fail
          replace hB := below_grows hB (Nat.le_refl _) hq
          replace k8 := k8.grows hq
          clear hq q0 q1 q2 q3
          generalize World.alloc wr _ = w6 at *
          generalize wr.heap.size = G10 at *
          have l10 := k10.lt
          have x10 := k10.cell
          have k11 := Blk.new w6 48 #[.int .i64 y.k, .slice B1 y.r.length d1, .slice B2 y.m.length d2, .slice B3 y.s.length d3]
          have hq := (Below.refl w6.heap.size w6).alloc (Nat.le_refl _) (Obj.cells #[.int .i64 y.k, .slice B1 y.r.length d1, .slice B2 y.m.length d2, .slice B3 y.s.length d3] 48)
          go_upto_region 8 with fail
          replace hB := below_grows hB (Nat.le_refl _) hq
          replace k8 := k8.grows hq
          replace k10 := k10.grows hq
          clear hq x10
          generalize World.alloc w6 _ = w7 at *
          generalize w6.heap.size = G11 at *
          have HAP : Hid (apOk dd x y = (decide ((interR [x] [blendB dd x y]).2 = 0) && decide ((interR [x] [blendB dd x y]).1.length = 0))) := Lib.hid rfl
          have HK1 : Hid ((blendB dd x y).k = if bitZ dd 1 = true then y.k else x.k) := Lib.hid rfl
          have HR1 : Hid ((blendB dd x y).r = if bitZ dd 2 = true then y.r else x.r) := Lib.hid rfl
          have HM1 : Hid ((blendB dd x y).m = if bitZ dd 4 = true then y.m else x.m) := Lib.hid rfl
          have HS1 : Hid ((blendB dd x y).s = if bitZ dd 8 = true then y.s else x.s) := Lib.hid rfl
          have hoz : OKB (blendB dd x y) := okb_blend hox hoy
          generalize blendB dd x y = z at *
          go_upto_if 29 with fail
          go_cut [] (fun wx => (Below w.heap.size w wx ∧ Blk wx G8 48 #[.int .i64 x.k, .slice A1 x.r.length c1, .slice A2 x.m.length c2, .slice A3 x.s.length c3] ∧ Blk wx G10 48 #[.int .i64 y.k, .slice B1 y.r.length d1, .slice B2 y.m.length d2, .slice B3 y.s.length d3]) ∧ Blk wx G11 48 #[.int .i64 z.k, .slice B1 y.r.length d1, .slice B2 y.m.length d2, .slice B3 y.s.length d3])
          case first =>
            cases hb : bitZ dd 1
            · have e1 : (bits .and .i64 dd 1 == 0) = true := by unfold bitZ at hb; simpa using hb
              have HE : Hid (z.k = x.k) := Lib.hid (by rw [HK1.out, hb]; rfl)
              clear hb
              have x8 := k8.cell
              have x11 := k11.cell
              have f11 := k11.frozen
              go_wp2
              go_meet
              exact ⟨⟨hB.setCell (p := ⟨G11, 0, none⟩) (show w.heap.size ≤ G11 by omega) _, k8.far (p := ⟨G11, 0, none⟩) (show G8 ≠ G11 by omega) _, k10.far (p := ⟨G11, 0, none⟩) (show G10 ≠ G11 by omega) _⟩, by rw [HE.out]; exact k11.set_ 0 (.int .i64 x.k)⟩
            · have e1 : (bits .and .i64 dd 1 == 0) = false := by unfold bitZ at hb; simpa using hb
              have HE : Hid (z.k = y.k) := Lib.hid (by rw [HK1.out, hb]; rfl)
              clear hb
              go_wp2
              go_meet
              exact ⟨⟨hB, k8, k10⟩, by rw [HE.out]; exact k11⟩
          case rest =>
          obtain ⟨⟨hB2, k82, k102⟩, k112⟩ := hcut
          clear hB k8 k10 k11
          have hB := hB2
          have k8 := k82
          have k10 := k102
          have k11 := k112
          clear hB2 k82 k102 k112
          generalize wc = w20 at *
          go_upto_if 35 with fail
          go_cut [] (fun wx => (Below w.heap.size w wx ∧ Blk wx G8 48 #[.int .i64 x.k, .slice A1 x.r.length c1, .slice A2 x.m.length c2, .slice A3 x.s.length c3] ∧ Blk wx G10 48 #[.int .i64 y.k, .slice B1 y.r.length d1, .slice B2 y.m.length d2, .slice B3 y.s.length d3]) ∧ ∃ (C1 : Option Addr) (f1 : Nat), Blk wx G11 48 #[.int .i64 z.k, .slice C1 z.r.length f1, .slice B2 y.m.length d2, .slice B3 y.s.length d3] ∧ z.r.length ≤ f1 ∧ RdB w (fun _ => True) 2 C1 z.r.length (scells z.r))
          case first =>
            cases hb : bitZ dd 2
            · have e1 : (bits .and .i64 dd 2 == 0) = true := by unfold bitZ at hb; simpa using hb
              have HE : Hid (z.r = x.r) := Lib.hid (by rw [HR1.out, hb]; rfl)
              clear hb
              have x8 := k8.cell
              have x11 := k11.cell
              have f11 := k11.frozen
              go_wp2
              go_meet
              exact ⟨⟨hB.setCell (p := ⟨G11, 1, none⟩) (show w.heap.size ≤ G11 by omega) _, k8.far (p := ⟨G11, 1, none⟩) (show G8 ≠ G11 by omega) _, k10.far (p := ⟨G11, 1, none⟩) (show G10 ≠ G11 by omega) _⟩, A1, c1, by rw [HE.out]; exact k11.set_ 1 (.slice A1 x.r.length c1), by rw [HE.out]; exact hpx.cr, by rw [HE.out]; exact RdB.mono hpx.r (fun _ _ => trivial)⟩
            · have e1 : (bits .and .i64 dd 2 == 0) = false := by unfold bitZ at hb; simpa using hb
              have HE : Hid (z.r = y.r) := Lib.hid (by rw [HR1.out, hb]; rfl)
              clear hb
              go_wp2
              go_meet
              exact ⟨⟨hB, k8, k10⟩, B1, d1, by rw [HE.out]; exact k11, by rw [HE.out]; exact hpy.cr, by rw [HE.out]; exact RdB.mono hpy.r (fun _ _ => trivial)⟩
          case rest =>
          obtain ⟨⟨hB2, k82, k102⟩, C1, f1, k112, hle1, hrd1⟩ := hcut
          clear hB k8 k10 k11
          have hB := hB2
          have k8 := k82
          have k10 := k102
          have k11 := k112
          clear hB2 k82 k102 k112
          generalize wc = w21 at *
          go_upto_if 41 with fail
          go_cut [] (fun wx => (Below w.heap.size w wx ∧ Blk wx G8 48 #[.int .i64 x.k, .slice A1 x.r.length c1, .slice A2 x.m.length c2, .slice A3 x.s.length c3] ∧ Blk wx G10 48 #[.int .i64 y.k, .slice B1 y.r.length d1, .slice B2 y.m.length d2, .slice B3 y.s.length d3]) ∧ ∃ (C2 : Option Addr) (f2 : Nat), Blk wx G11 48 #[.int .i64 z.k, .slice C1 z.r.length f1, .slice C2 z.m.length f2, .slice B3 y.s.length d3] ∧ z.m.length ≤ f2 ∧ MapsR w (fun _ => True) C2 z.m)
          case first =>
            cases hb : bitZ dd 4
            · have e1 : (bits .and .i64 dd 4 == 0) = true := by unfold bitZ at hb; simpa using hb
              have HE : Hid (z.m = x.m) := Lib.hid (by rw [HM1.out, hb]; rfl)
              clear hb
              have x8 := k8.cell
              have x11 := k11.cell
              have f11 := k11.frozen
              go_wp2
              go_meet
              exact ⟨⟨hB.setCell (p := ⟨G11, 2, none⟩) (show w.heap.size ≤ G11 by omega) _, k8.far (p := ⟨G11, 2, none⟩) (show G8 ≠ G11 by omega) _, k10.far (p := ⟨G11, 2, none⟩) (show G10 ≠ G11 by omega) _⟩, A2, c2, by rw [HE.out]; exact k11.set_ 2 (.slice A2 x.m.length c2), by rw [HE.out]; exact hpx.cm, by rw [HE.out]; exact hpx.m.mono (fun _ _ => trivial)⟩
            · have e1 : (bits .and .i64 dd 4 == 0) = false := by unfold bitZ at hb; simpa using hb
              have HE : Hid (z.m = y.m) := Lib.hid (by rw [HM1.out, hb]; rfl)
              clear hb
              go_wp2
              go_meet
              exact ⟨⟨hB, k8, k10⟩, B2, d2, by rw [HE.out]; exact k11, by rw [HE.out]; exact hpy.cm, by rw [HE.out]; exact hpy.m.mono (fun _ _ => trivial)⟩
          case rest =>
          obtain ⟨⟨hB2, k82, k102⟩, C2, f2, k112, hle2, hrd2⟩ := hcut
          clear hB k8 k10 k11
          have hB := hB2
          have k8 := k82
          have k10 := k102
          have k11 := k112
          clear hB2 k82 k102 k112
          generalize wc = w22 at *
          go_upto_if 47 with fail
          go_cut [] (fun wx => (Below w.heap.size w wx ∧ Blk wx G8 48 #[.int .i64 x.k, .slice A1 x.r.length c1, .slice A2 x.m.length c2, .slice A3 x.s.length c3] ∧ Blk wx G10 48 #[.int .i64 y.k, .slice B1 y.r.length d1, .slice B2 y.m.length d2, .slice B3 y.s.length d3]) ∧ ∃ (C3 : Option Addr) (f3 : Nat), Blk wx G11 48 #[.int .i64 z.k, .slice C1 z.r.length f1, .slice C2 z.m.length f2, .slice C3 z.s.length f3] ∧ z.s.length ≤ f3 ∧ RdB w (fun _ => True) 2 C3 z.s.length (scells z.s))
          case first =>
            cases hb : bitZ dd 8
            · have e1 : (bits .and .i64 dd 8 == 0) = true := by unfold bitZ at hb; simpa using hb
              have HE : Hid (z.s = x.s) := Lib.hid (by rw [HS1.out, hb]; rfl)
              clear hb
              have x8 := k8.cell
              have x11 := k11.cell
              have f11 := k11.frozen
              go_wp2
              go_meet
              exact ⟨⟨hB.setCell (p := ⟨G11, 3, none⟩) (show w.heap.size ≤ G11 by omega) _, k8.far (p := ⟨G11, 3, none⟩) (show G8 ≠ G11 by omega) _, k10.far (p := ⟨G11, 3, none⟩) (show G10 ≠ G11 by omega) _⟩, A3, c3, by rw [HE.out]; exact k11.set_ 3 (.slice A3 x.s.length c3), by rw [HE.out]; exact hpx.cs, by rw [HE.out]; exact RdB.mono hpx.s (fun _ _ => trivial)⟩
            · have e1 : (bits .and .i64 dd 8 == 0) = false := by unfold bitZ at hb; simpa using hb
              have HE : Hid (z.s = y.s) := Lib.hid (by rw [HS1.out, hb]; rfl)
              clear hb
              go_wp2
              go_meet
              exact ⟨⟨hB, k8, k10⟩, B3, d3, by rw [HE.out]; exact k11, by rw [HE.out]; exact hpy.cs, by rw [HE.out]; exact RdB.mono hpy.s (fun _ _ => trivial)⟩
          case rest =>
          obtain ⟨⟨hB2, k82, k102⟩, C3, f3, k112, hle3, hrd3⟩ := hcut
          clear hB k8 k10 k11
          have hB := hB2
          have k8 := k82
          have k10 := k102
          have k11 := k112
          clear hB2 k82 k102 k112
          generalize wc = w23 at *
          have x8 := k8.cell
          have x11 := k11.cell
          have hpz : BoxP w (fun _ => True) z C1 f1 C2 f2 C3 f3 := ⟨hrd1, hrd2, hrd3, hle1, hle2, hle3⟩
          have hq1 := (Below.refl w23.heap.size w23).alloc (Nat.le_refl _) (Obj.cells #[.int .i64 x.k, .slice A1 x.r.length c1, .slice A2 x.m.length c2, .slice A3 x.s.length c3] 48)
          have hL1 := bxs_one2 ((hpx.mono (b2 := fun _ => True) (fun _ _ => trivial)).grows hB) trivial (show (#[.int .i64 x.k, .slice A1 x.r.length c1, .slice A2 x.m.length c2, .slice A3 x.s.length c3] : Array Value) = _ from rfl)
          have hs1 : (w23.alloc (Obj.cells #[.int .i64 x.k, .slice A1 x.r.length c1, .slice A2 x.m.length c2, .slice A3 x.s.length c3] 48)).heap.size = w23.heap.size + 1 := by simp
          have hB1 := below_grows hB (Nat.le_refl _) hq1
          have hL2 := bxs_one2 (hpz.grows hB1) trivial (show (#[.int .i64 z.k, .slice C1 z.r.length f1, .slice C2 z.m.length f2, .slice C3 z.s.length f3] : Array Value) = _ from rfl)
          rw [hs1] at hL2
          have hq2 := (Below.refl (w23.alloc (Obj.cells #[.int .i64 x.k, .slice A1 x.r.length c1, .slice A2 x.m.length c2, .slice A3 x.s.length c3] 48)).heap.size (w23.alloc (Obj.cells #[.int .i64 x.k, .slice A1 x.r.length c1, .slice A2 x.m.length c2, .slice A3 x.s.length c3] 48))).alloc (Nat.le_refl _) (Obj.cells #[.int .i64 z.k, .slice C1 z.r.length f1, .slice C2 z.m.length f2, .slice C3 z.s.length f3] 48)
          have hB2 := below_grows hB1 (Nat.le_refl _) hq2
          replace hL1 := hL1.grows hq2
          have k82 := (k8.grows hq1).grows hq2
          have l11x := k11.lt
          have l8x := k8.lt
          clear hq1 hq2 hs1 hB1 hB k8 k11 hpz
          go_wp2_with fail
          refine (rinterl_any rfl rfl hL1 hL2 (by simp) (by simp) (fun z hz => by simp only [List.mem_singleton] at hz; exact hz ▸ hox) (fun z hz => by simp only [List.mem_singleton] at hz; exact hz ▸ hoz)).mono ?_
          clear hL1 hL2 x8 x11
          rintro e w9 ⟨⟨v, rfl, hw⟩, hq⟩
          have hB := below_grows hB2 (Nat.le_refl _) hq
          have k8 := k82.grows hq
          obtain ⟨A9, c9, rfl, hc9, -⟩ := hw.read
          clear hq hB2 k82 hw
          generalize interR [x] [z] = ir at *
          by_cases h1 : ir.2 = 0
          case neg =>
            have dn : (ir.2 != 0) = true := by simpa using h1
            have HE : Hid (apartF dd a b = false) := Lib.hid (apart_no (List.mem_of_getElem? HX.out) (List.mem_of_getElem? HY.out) (by rw [HAP.out, decide_eq_false h1]; rfl))
            clear h1
            go_wp2
            go_ret
            exact ⟨ret_bool HE.out.symm, hB⟩
          have dn : (ir.2 != 0) = false := by simpa using h1
          have HN1 := Lib.hid h1
          clear h1
          by_cases h2 : ir.1.length = 0
          case neg =>
            have dl : decide (0 < (ir.1.length : Int)) = true := by simp only [decide_eq_true_eq]; omega
            have dl2 : decide (0 < ir.1.length) = true := by simp only [decide_eq_true_eq]; omega
            have HE : Hid (apartF dd a b = false) := Lib.hid (apart_no (List.mem_of_getElem? HX.out) (List.mem_of_getElem? HY.out) (by rw [HAP.out, decide_eq_false h2, Bool.and_false]))
            clear h2
            go_wp2
            go_ret
            exact ⟨ret_bool HE.out.symm, hB⟩
          have dl : decide (0 < (ir.1.length : Int)) = false := by simp only [decide_eq_false_iff_not]; omega
          have dl2 : decide (0 < ir.1.length) = false := by simp only [decide_eq_false_iff_not]; omega
          have HN : Hid (∀ y ∈ b.take (j + 1), apOk dd x y = true) := Lib.hid (by
            rw [take_snoc HY.out]
            intro q hq
            rcases List.mem_append.1 hq with hq | hq
            · exact HJ.out q hq
            · simp only [List.mem_singleton] at hq
              subst hq
              rw [HAP.out, decide_eq_true HN1.out, decide_eq_true h2]
              rfl)
          clear h2
          go_wp2
          go_roundw
          case rel => exact ⟨j + 1, by omega, by go_num, HN, k8, hB⟩
          case measure => simp [intOf]; omega
        · have HN : Hid (∀ x ∈ a.take (k + 1), ∀ y ∈ b, apOk dd x y = true) := Lib.hid (by
            rw [take_snoc HX.out]
            intro q hq y hy
            rcases List.mem_append.1 hq with hq | hq
            · exact HK.out q hq y hy
            · simp only [List.mem_singleton] at hq
              subst hq
              have := HJ.out
              rw [List.take_of_length_le (by omega)] at this
              exact this y hy)
          go_wp2
          go_roundw
          case rel => exact ⟨k + 1, by omega, by go_num, HN, hB⟩
          case measure => simp [intOf]; omega
    · have HE : Hid (apartF dd a b = true) := Lib.hid (apart_yes (by have := HK.out; rwa [List.take_of_length_le (by omega)] at this))
      go_wp2
      go_ret
      exact ⟨ret_bool HE.out.symm, hB⟩
end Go.Proofs.YtnbdpnlepcjmmaaGreat

namespace Go.Proofs.YtnbdpnlepcjmmaaGreat
open Go.ChangeShapes Go.WideShapes Go.ChangeAt Go.RowKit
namespace OfferBlames
set_option maxHeartbeats 32000000 in
set_option maxRecDepth 10000 in
theorem walk (A : Option Addr) (c0 : Nat) (sd : List Int) (w : World) (h0 : Reads w w.heap.size 1 A sd.length (sd.map (Value.int .u8))) (hc : sd.length ≤ c0) (hl : sd.length ≤ 9223372036854775807) (hwf : ∀ x ∈ sd, 0 ≤ x ∧ x ≤ 255) :
    Calls Tryz.prog 5 #[.slice A sd.length c0] w fun e w' => e = .returned (.bool true) ∧ Grows w w' := by
  have hB := Below.refl w.heap.size w
  go_enter Tryz.func5, Tryz.ntmps5
  go_wp2_with fail
  refine (sane_any w).mono ?_
  rintro e w1 ⟨rfl, hq⟩
  replace hB := below_grows hB (Nat.le_refl _) hq
  replace h0 := Reads.grows h0 hq
  have hs1 := hB.size
  clear hq
  go_wp2_with fail
  refine (made_any A c0 sd w1 h0 hc hl hwf).mono ?_
  rintro e w2 ⟨⟨g, a, b, c, A1, c1, A2, c2, v, rfl, hxa, hxb, hc1, hc2, hfa, hfb, hla, hlb, ⟨A3, n3, rfl, hn3, hic⟩, hokc, hD, hsz⟩, hq⟩
  replace hB := below_grows hB (Nat.le_refl _) hq
  clear hq h0
  have HFA := Lib.hid hfa
  have HFB := Lib.hid hfb
  have fla := fl_fine hfa (by omega)
  have flb := fl_fine hfb (by omega)
  have sma := small_fine hfa
  have smb := small_fine hfb
  clear hfa hfb
  have hg2 := hD.lt
  obtain ⟨-, i2, i3, i4⟩ := has_interP fla flb sma smb (by have := Nat.mul_le_mul hla hlb; omega)
  have hin := fun (w0 : World) h1 h2 => pinter_any (w := w0) (ba := Btw (g + 1) w2.heap.size) (bb := Btw (g + 1) w2.heap.size) (A := A1) (B := A2) (c := c1) (d := c2) rfl rfl h1 h2 (by omega) (by omega) fla.okb flb.okb
  rw [i2] at hin
  have hb1 := fun (w0 : World) h1 h2 => blame_any (w := w0) (base := Btw (g + 1) w2.heap.size) (bb := Btw (g + 1) w2.heap.size) (A := A1) (B := A2) (c := c1) (d := c2) h1 h2 (by omega) (by omega) hc1 hc2 fla.okb flb.okb
  have hb2 := fun (w0 : World) h1 h2 => blame_any (w := w0) (base := Btw (g + 1) w2.heap.size) (bb := Btw (g + 1) w2.heap.size) (A := A2) (B := A1) (c := c2) (d := c1) h1 h2 (by omega) (by omega) hc2 hc1 flb.okb fla.okb
  have hap := fun (w0 : World) (d : Int) h1 h2 => apart_any (w := w0) (ba := Btw (g + 1) w2.heap.size) (bb := Btw (g + 1) w2.heap.size) (A := A1) (B := A2) (c := c1) (d := c2) d rfl rfl h1 h2 (by omega) (by omega) fla.okb flb.okb
  simp only [apart_is fla flb] at hap
  obtain ⟨n, hn, en, b1, b2⟩ := blame_spec fla flb
  simp only [blame_comm fla flb] at hb2
  simp only [en] at hb1 hb2
  have hz2 : decide ((0 : Int) < ((interP a b).1.length : Int)) = decide (n = 0) := by
    have h5 : (interP a b).1 = [] ↔ metD 15 a b = false := i4.trans cand_met
    rw [Bool.eq_iff_iff, decide_eq_true_eq, decide_eq_true_eq]
    have hl : (0 : Int) < ((interP a b).1.length : Int) ↔ ¬ (interP a b).1 = [] := by
      rw [← List.length_eq_zero_iff]
      omega
    rw [hl, h5]
    by_cases h6 : a = [] ∨ b = []
    · have h7 := b1 h6
      have h8 : metD 15 a b = false := by
        rw [← h5, i4]
        rcases h6 with rfl | rfl
        · rfl
        · unfold pairsL; simp [candL]
      exact ⟨fun h => absurd h8 h, fun h => by omega⟩
    · have h7 := b2 (fun h => h6 (.inl h)) (fun h => h6 (.inr h))
      constructor
      · intro h
        exact h7.1 (by simpa using h)
      · intro h h8
        exact h7.2.1 h8 h
  have hcs : ((n = 0 ∨ n = 15) ∧ (n = 0 ∨ a.length = 0 ∨ b.length = 0)) ∨ (n ≠ 0 ∧ a.length ≠ 0 ∧ b.length ≠ 0 ∧ metD (n : Int) a b = false ∧ ∀ k ∈ [1, 2, 4, 8], bits .and .i64 (n : Int) (k : Int) ≠ 0 → metD (bits .andNot .i64 (n : Int) (k : Int)) a b = true) := by
    by_cases h6 : a = [] ∨ b = []
    · refine .inl ⟨.inr (b1 h6), .inr ?_⟩
      rcases h6 with rfl | rfl
      · exact .inl rfl
      · exact .inr rfl
    · by_cases h0 : n = 0
      · exact .inl ⟨.inl h0, .inl h0⟩
      · have h7 := (b2 (fun h => h6 (.inl h)) (fun h => h6 (.inr h))).2.2 h0
        exact .inr ⟨h0, fun h => h6 (.inl (List.eq_nil_of_length_eq_zero h)), fun h => h6 (.inr (List.eq_nil_of_length_eq_zero h)), h7⟩
  have hz : n = 0 ↔ 0 < (interP a b).1.length := by
    rw [Bool.eq_iff_iff, decide_eq_true_eq, decide_eq_true_eq] at hz2
    exact ⟨fun h => by have := hz2.2 h; omega, fun h => hz2.1 (by omega)⟩
  clear hz2
  generalize (interP a b).1 = I at *
  have HIN := Lib.hid hin
  have HB1 := Lib.hid hb1
  have HB2 := Lib.hid hb2
  have HAP := Lib.hid hap
  have HCS := Lib.hid hcs
  clear hin hb1 hb2 hap hcs i2 i3 i4 b1 b2 en fla flb sma smb
  go_wp2_with fail
  replace hxa : Bxs w2 (Btw (g + 1) w2.heap.size) A1 a := hxa.bd
  replace hxb : Bxs w2 (Btw (g + 1) w2.heap.size) A2 b := hxb.bd
  have hic2 : InB w2 (fun k => g < k ∧ k ≠ w2.heap.size) A3 c.m := (RdB.bd hic).mono (fun k hk => ⟨hk.1, Nat.ne_of_lt hk.2⟩)
  clear hic
  have hic := hic2
  clear hic2
  have k5 := Blk.new w2 27 #[.int .i64 c.k, .int .i64 c.r, .slice A3 c.m.length n3, .int .i64 c.s]
  have hq := (Below.refl w2.heap.size w2).alloc (Nat.le_refl _) (Obj.cells #[.int .i64 c.k, .int .i64 c.r, .slice A3 c.m.length n3, .int .i64 c.s] 27)
  replace hB := below_grows hB (Nat.le_refl _) hq
  replace hxa := hxa.grows hq
  replace hxb := hxb.grows hq
  replace hic := hic.grows hq
  replace hD := hD.grows hq
  clear hq
  generalize w2.heap.size = q5 at *
  generalize World.alloc w2 _ = w3 at *
  have hg5 : g < q5 := hg2
  refine (HIN.out _ hxa hxb).mono ?_
  rintro e w4 ⟨⟨v, rfl, hwi⟩, hq⟩
  obtain ⟨A7, c7, rfl, hc7, -⟩ := hwi.read
  replace hB := below_grows hB (Nat.le_refl _) hq
  replace k5 := k5.grows hq
  replace hxa := hxa.grows hq
  replace hxb := hxb.grows hq
  clear hq
  clear hwi hic hD HIN
  go_wp2_with fail
  refine (HB1.out _ hxa hxb).mono ?_
  rintro e w5 ⟨rfl, hq⟩
  replace hB := below_grows hB (Nat.le_refl _) hq
  replace k5 := k5.grows hq
  replace hxa := hxa.grows hq
  replace hxb := hxb.grows hq
  clear hq
  clear HB1
  have e2 : ((n : Int) != (n : Int)) = false := by simp
  by_cases hn0 : n = 0
  · have e0 : ((n : Int) == 0) = true := by simp only [beq_iff_eq]; omega
    have e1 : decide ((0 : Int) < (I.length : Int)) = true := by simp only [decide_eq_true_eq]; omega
    have e3 : decide (0 < I.length) = true := by simp only [decide_eq_true_eq]; omega
    go_wp2_with fail
    refine (HB2.out _ hxb hxa).mono ?_
    rintro e w6 ⟨rfl, hq⟩
    replace hB := below_grows hB (Nat.le_refl _) hq
    replace k5 := k5.grows hq
    replace hxa := hxa.grows hq
    replace hxb := hxb.grows hq
    clear hq
    clear HB2
    clear hxa hxb k5
    go_wp2
    go_ret
    exact ⟨rfl, hB⟩
  have e0 : ((n : Int) == 0) = false := by simp only [beq_eq_false_iff_ne, ne_eq]; omega
  have e1 : decide ((0 : Int) < (I.length : Int)) = false := by simp only [decide_eq_false_iff_not]; omega
  have e3 : decide (0 < I.length) = false := by simp only [decide_eq_false_iff_not]; omega
  go_wp2_with fail
  refine (HB2.out _ hxb hxa).mono ?_
  rintro e w6 ⟨rfl, hq⟩
  replace hB := below_grows hB (Nat.le_refl _) hq
  replace k5 := k5.grows hq
  replace hxa := hxa.grows hq
  replace hxb := hxb.grows hq
  clear hq
  clear HB2
  clear e1 e2 e3
  rcases HCS.out with ⟨h1, h2⟩ | ⟨h1, h2, h3, h4, h5⟩
  · have e1 : ((n : Int) == 15) = true := by simp only [beq_iff_eq]; omega
    clear hxa hxb k5
    by_cases hna : a.length = 0
    · have e2 : ((a.length : Int) == 0) = true := by simp only [beq_iff_eq]; omega
      go_wp2
      go_ret
      exact ⟨rfl, hB⟩
    · have e2 : ((a.length : Int) == 0) = false := by simp only [beq_eq_false_iff_ne, ne_eq]; omega
      have e3 : ((b.length : Int) == 0) = true := by simp only [beq_iff_eq]; omega
      go_wp2
      go_ret
      exact ⟨rfl, hB⟩
  have e2 : ((a.length : Int) == 0) = false := by simp only [beq_eq_false_iff_ne, ne_eq]; omega
  have e3 : ((b.length : Int) == 0) = false := by simp only [beq_eq_false_iff_ne, ne_eq]; omega
  have H4 := Lib.hid h4
  have H5 := Lib.hid h5
  clear h4 h5 HCS
  go_wp2_with fail
  clear e0 e2 e3
  go_loopw [10] (fun i wr => ∃ k : Nat, k ∈ [1, 2, 4, 8, 16] ∧ i = .int .i64 k ∧ Bxs wr (Btw (g + 1) q5) A1 a ∧ Bxs wr (Btw (g + 1) q5) A2 b ∧ Below w.heap.size w wr) (fun i _ => 17 - (intOf i).toNat)
  case atStart => exact ⟨1, by simp, rfl, hxa, hxb, hB⟩
  case round =>
    clear k5 hxa hxb hB
    obtain ⟨k, hk, rfl, hxa, hxb, hB⟩ := hrel
    have hk1 : 1 ≤ k ∧ k ≤ 16 ∧ (k ≤ 8 → k * 2 ∈ [1, 2, 4, 8, 16] ∧ k ∈ [1, 2, 4, 8]) ∧ (8 < k → k = 16) := by
      simp only [List.mem_cons, List.not_mem_nil, or_false] at hk ⊢
      omega
    obtain ⟨hk1, hk2, hk3, hk4⟩ := hk1
    by_cases hlt : k ≤ 8
    · have d1 : decide ((k : Int) ≤ 8) = true := by simp only [decide_eq_true_eq]; omega
      have hwn : IntKind.i64.wrap ((k : Int) * 2) = ((k * 2 : Nat) : Int) := by rw [IntWalk.i64_in _ (by omega)]; omega
      obtain ⟨hk3, hk5⟩ := hk3 hlt
      have HK : Hid (bits .and .i64 (n : Int) (k : Int) ≠ 0 → metD (bits .andNot .i64 (n : Int) (k : Int)) a b = true) := Lib.hid (H5.out k (by simp only [List.mem_cons, List.not_mem_nil, or_false] at hk5 ⊢; omega))
      clear hk hk5 hk4
      by_cases hb : bits .and .i64 (n : Int) (k : Int) = 0
      · have e1 : (bits .and .i64 (n : Int) (k : Int) != 0) = false := by simpa using hb
        clear hb
        go_wp2
        go_roundw
        case rel => exact ⟨k * 2, hk3, by go_num, hxa, hxb, hB⟩
        case measure => simp [intOf]; omega
      · have e1 : (bits .and .i64 (n : Int) (k : Int) != 0) = true := by simpa using hb
        have hm := HK.out hb
        clear hb
        go_wp2_with fail
        have hcon := HAP.out _ (bits .andNot .i64 (n : Int) (k : Int)) hxa hxb
        rw [hm] at hcon
        refine hcon.mono ?_
        rintro e w7 ⟨rfl, hq⟩
        replace hB := below_grows hB (Nat.le_refl _) hq
        replace hxa := hxa.grows hq
        replace hxb := hxb.grows hq
        clear hq
        clear hcon hm
        go_wp2_with fail
        go_roundw
        case rel => exact ⟨k * 2, hk3, by go_num, hxa, hxb, hB⟩
        case measure => simp [intOf]; omega
    · obtain rfl := hk4 (by omega)
      have hcon := HAP.out _ (n : Int) hxa hxb
      rw [H4.out] at hcon
      have HCO := Lib.hid hcon
      clear hcon
      go_wp2_with fail
      refine HCO.out.mono ?_
      rintro e w7 ⟨rfl, hq⟩
      replace hB := below_grows hB (Nat.le_refl _) hq
      clear hq
      go_wp2
      go_ret
      exact ⟨rfl, hB⟩
end OfferBlames
namespace OfferBlames
set_option maxRecDepth 100000 in
theorem contract (H : Type) (enc : TypeId × Value → H) (W : World) (base : Nat) (args : Array Value) (ds gs : List (DataW H)) (before : List MemPlace)
    (hval0 : ∀ (j : Nat) t v, Tryz.f5.params[j]? = some t → args[j]? = some v → Value.okWide Tryz.prog W .any base t v)
    (hW : DataW.Whole enc Tryz.prog Tryz.f5.params.toList Rows.offerBlamesSpec.vars false W args.toList ds gs before)
    (hsz0 : (DataW.weightsEach Tryz.prog (Tryz.f5.params.toList ++ Rows.offerBlamesSpec.plain.varTypes Tryz.prog) (ds ++ gs)).all (· ≤ reachBytes) = true) :
    Calls Tryz.prog 5 args W fun e W' => ∃ v, e = .returned v ∧ Rows.offerBlamesSpec.post enc Tryz.prog Tryz.f5 false true false false W args v W' := by
  have key : Calls Tryz.prog 5 args W fun e W' => e = .returned (.bool true) ∧ Below W.heap.size W W' := by
    have hval : ∀ (j : Nat) t v, Tryz.f5.params[j]? = some t → args[j]? = some v → Value.okWide Tryz.prog W .any base t v := hval0
    obtain ⟨p, q, hA0, hV, hbe, hfz, hnd⟩ := hW
    have hA : DataW.TrodAll enc Tryz.prog W 0 (fun _ => true) true Tryz.f5.params.toList args.toList ds p := hA0
    rw [Tryz.params5] at hA hval
    clear hA0 hval0
    obtain ⟨v0, vs0, d0, ds0, p0, q0, hargs, rfl, rfl, h0, r0⟩ := trodAll_cons hA
    obtain ⟨rfl, rfl, rfl⟩ := trodAll_nil r0
    obtain rfl : args = #[v0] := by cases args; simp_all
    obtain ⟨rfl, rfl⟩ := trodVars_none hV
    have hsz : (DataW.weightsEach Tryz.prog (Tryz.f5.params.toList ++ Rows.offerBlamesSpec.plain.varTypes Tryz.prog) ([d0] ++ [])).all (· ≤ reachBytes) = true := hsz0
    rw [Tryz.params5] at hsz
    clear hsz0
    obtain ⟨A, c, l, rfl, hI0, hl0, hlen0, hw0⟩ := open_slice_kind Tryz.underlying28 Tryz.underlying5 (by kernel_rfl) (hval 0 28 v0 rfl rfl) h0
    exact OfferBlames.walk A c l W hI0 hlen0 hl0 (fun x hx => u8_bd (hw0 x hx))
  refine key.mono fun e W' ⟨he, hb⟩ => ⟨_, he, law_post laid_out hW ?_ rfl (by kernel_rfl) Tryz.underlying4 ?_ hb⟩
  · rw [Tryz.params5]
    intro t ht
    simp only [List.mem_cons, List.not_mem_nil, or_false] at ht
    rcases ht with rfl <;> exact ⟨by kernel_rfl, of_decide_eq_true (by kernel_rfl)⟩
  · rw [Tryz.params5]
    intro ds hl
    match ds, hl with
    | [_], _ => rfl

set_option maxRecDepth 100000 in
theorem lifted (os : Os) (started : os.Started) (H : Type) (enc : TypeId × Value → H) :
    ReturnsInHanded {} Tryz.checked os 5 .any (Rows.offerBlamesSpec.pre6 enc Tryz.prog Tryz.f5 Rows.offerBlamesRow.domain false) (Rows.offerBlamesSpec.post enc Tryz.prog Tryz.f5 false true false false) := by
  refine returnsInHanded_of_change_sized (C := Tryz.checked) own_knob started (by kernel_rfl) Tryz.func5
    (ChangeSpec.witness6 (enc := enc) (C := Tryz.checked) false ⟨#[], #[.slice none 0 0], []⟩ 8 (by kernel_rfl) (by kernel_rfl) (by kernel_rfl) (by kernel_rfl)) ?_
  intro W base args ds gs before hval0 hW _ hsz0 _
  exact contract H enc W base args ds gs before hval0 hW hsz0

theorem over : Rows.offerBlamesRow.holds Tryz.pinned (OpenSpec.ofChange Rows.offerBlamesSpec) :=
  OpenClaim.holds_of_wide 5 Tryz.f5 rfl rfl rfl rfl rfl rfl rfl ⟨rfl, rfl, rfl, rfl, rfl⟩ rfl rfl rfl rfl rfl (by kernel_rfl) Tryz.func5 (by kernel_rfl)
    (of_decide_eq_true (by kernel_rfl)) (by unfold Func.isWrapper; first | (rw [if_pos (by decide +kernel)]; kernel_rfl) | (rw [if_neg (by decide +kernel)]; exact ⟨rfl, rfl⟩))
    (fun os started H enc _ => lifted os started H enc)

/-- The given statement. -/
theorem proved : Rows.OfferBlamesSaid := over
end OfferBlames
#print axioms OfferBlames.proved
end Go.Proofs.YtnbdpnlepcjmmaaGreat
