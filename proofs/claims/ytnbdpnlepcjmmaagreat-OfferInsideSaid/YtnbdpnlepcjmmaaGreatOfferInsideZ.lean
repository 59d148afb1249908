/-
  OfferInside, for every input: the law returns true, and the argument reads behind the call as it read before. No condition.
-/
import Derived.Test.YtnbdpnlepcjmmaaGreatOfferInsideK4
import Derived.Deep.Fields
import Derived.Deep.Slices
namespace Go.Proofs.YtnbdpnlepcjmmaaGreat
open Go.RowKit
theorem shl_small_ : ∀ n : Fin 8, wrap64 (2 ^ n.val) = 2 ^ n.val := by decide +kernel
theorem shl_small {k : Int} (h0 : 0 ≤ k) (h7 : k ≤ 7) : IntKind.i64.wrap (2 ^ k.toNat) = 2 ^ k.toNat := (IntWalk.i64_left _).trans <| shl_small_ ⟨k.toNat, by omega⟩
theorem maps_one {w : World} {ok : Nat → Prop} {g : Nat} {B : Option Addr} {cx : Nat} {m : List Int} (hk : Blk w g 23 #[.slice B m.length cx]) (hg : ok g) (hi : InB w ok B m) (hc : m.length ≤ cx) : MapsR w ok (some ⟨g, 0, none⟩) [m] := by
  refine ⟨[.slice B m.length cx], ⟨⟨rfl, fun _ => ⟨_, rfl, hk.lt, fun j u hu => by rw [add_head, hk.cell, ← Array.getElem?_toList]; exact hu⟩⟩, fun _ ad e => by injection e with e; subst e; exact hg⟩, fun i y hy => ?_⟩
  have hi0 : i = 0 := by
    have := (List.getElem?_eq_some_iff.1 hy).1
    simp only [List.length_singleton] at this
    omega
  subst hi0
  simp only [List.getElem?_cons_zero, Option.some.injEq] at hy
  subst hy
  exact ⟨B, cx, rfl, hc, hi⟩
theorem okb_one {x : Ch} (K : Int) (h : x.m.length ≤ 1000000) : OKB ⟨K, [(x.r, x.r)], [x.m], [(x.s, x.s)]⟩ := ⟨by simp, by simp, by simp, fun y hy => by simp only [List.mem_singleton] at hy; subst hy; exact h⟩
/-- A block that holds one box, as a list of one. -/
theorem bxs_blk {w : World} {ok : Nat → Prop} {z : Bx} {A1 A2 A3 : Option Addr} {c1 c2 c3 g : Nat} {cs : Array Value} (hp : BoxP w ok z A1 c1 A2 c2 A3 c3) (hb : Blk w g 48 cs) (hc : cs = #[.int .i64 z.k, .slice A1 z.r.length c1, .slice A2 z.m.length c2, .slice A3 z.s.length c3]) (hw : ok g := by trivial) : Bxs w ok (some ⟨g, 0, none⟩) [z] := by
  subst hc
  refine ⟨z.cs A1 c1 A2 c2 A3 c3, ⟨⟨rfl, fun _ => ⟨_, rfl, hb.lt, fun j u hu => ?_⟩⟩, fun _ ad e => by injection e with e; subst e; exact hw⟩, fun i x hx => ?_⟩
  · rw [add_head, hb.cell, ← Array.getElem?_toList]
    exact hu
  · have hi0 : i = 0 := by
      have := (List.getElem?_eq_some_iff.1 hx).1
      simp only [List.length_singleton] at this
      omega
    subst hi0
    simp only [List.getElem?_cons_zero, Option.some.injEq] at hx
    subst hx
    exact ⟨A1, c1, A2, c2, A3, c3, hp, fun j hj => by rw [Nat.zero_mul, Nat.zero_add]⟩
theorem bxs_one2 {w : World} {ok : Nat → Prop} {z : Bx} {A1 A2 A3 : Option Addr} {c1 c2 c3 : Nat} {cs : Array Value} (hp : BoxP w ok z A1 c1 A2 c2 A3 c3) (hw : ok w.heap.size) (hc : cs = #[.int .i64 z.k, .slice A1 z.r.length c1, .slice A2 z.m.length c2, .slice A3 z.s.length c3]) : Bxs (w.alloc (.cells cs 48)) ok (some ⟨w.heap.size, 0, none⟩) [z] := by
  subst hc
  exact bxs_lit hp hw
set_option maxHeartbeats 64000000 in
set_option maxRecDepth 10000 in
theorem psingle_any {I : Option Addr} {ci : Nat} {x : Ch} {w : World} (ix : Ints w I x.m) (hci : x.m.length ≤ ci) (hxm : x.m.length ≤ 1000000) :
    Calls Tryz.prog 26 #[.agg #[.int .i64 x.k, .int .i64 x.r, .slice I x.m.length ci, .int .i64 x.s]] w fun e w' => (∃ A c, e = .returned (.slice A (singleF x).length c) ∧ (singleF x).length ≤ c ∧ Bxs w' (Ge w.heap.size) A (singleF x)) ∧ Grows w w' := by
  have k1 := Blk.new w 27 #[.int .i64 x.k, .int .i64 x.r, .slice I x.m.length ci, .int .i64 x.s]
  have hB := (Below.refl w.heap.size w).alloc (Nat.le_refl _) (Obj.cells #[.int .i64 x.k, .int .i64 x.r, .slice I x.m.length ci, .int .i64 x.s] 27)
  go_enter Tryz.func26, Tryz.ntmps26
  go_upto_region 1 with fail
  generalize World.alloc w _ = w1 at *
  have x1 := k1.cell
  by_cases h1 : x.k < 1
  · have HE : Hid (singleF x = []) := Lib.hid (if_neg (fun h => by omega))
    have d1 : decide (x.k < 1) = true := by simpa using h1
    clear h1
    go_wp2
    go_ret
    rw [HE.out]
    exact ⟨⟨none, 0, rfl, Nat.le_refl _, Bxs.nil⟩, hB⟩
  have d1 : decide (x.k < 1) = false := by simpa using h1
  by_cases h2 : 7 < x.k
  · have HE : Hid (singleF x = []) := Lib.hid (if_neg (fun h => by omega))
    have d2 : decide (7 < x.k) = true := by simpa using h2
    clear h1 h2
    go_wp2
    go_ret
    rw [HE.out]
    exact ⟨⟨none, 0, rfl, Nat.le_refl _, Bxs.nil⟩, hB⟩
  have d2 : decide (7 < x.k) = false := by simpa using h2
  have hk1 : 1 ≤ x.k := by omega
  have hk7 : x.k ≤ 7 := by omega
  have hk0 : 0 ≤ x.k := by omega
  have hK0 := shl_small hk0 hk7
  obtain ⟨K, hK⟩ : ∃ K, IntKind.i64.wrap (2 ^ x.k.toNat) = K := ⟨_, rfl⟩
  have HK : Hid (2 ^ x.k.toNat = K) := Lib.hid (hK0.symm.trans hK)
  have HS : Hid (singleF x = if fineB ⟨K, [(x.r, x.r)], [x.m], [(x.s, x.s)]⟩ = true then [⟨K, [(x.r, x.r)], [x.m], [(x.s, x.s)]⟩] else []) := Lib.hid (by
    unfold singleF oneB
    rw [HK.out]
    by_cases hf : fineB ⟨K, [(x.r, x.r)], [x.m], [(x.s, x.s)]⟩ = true
    · rw [if_pos ⟨hk1, hk7, hf⟩, if_pos hf]
    · rw [if_neg (fun h => hf h.2.2), if_neg hf])
  clear h1 h2 hK0
  go_upto_region 3 with fail
  obtain ⟨S, HI, HO⟩ := hideS fun (L : Ran) (vs : Nat → Value) (w' : World) => ((Below w.heap.size w w' ∧ Blk w' w.heap.size 27 #[.int .i64 x.k, .int .i64 x.r, .slice I x.m.length ci, .int .i64 x.s]) ∧ KnS [some (.pointer (some ⟨w.heap.size, 0, none⟩)), some (.pointer (some ⟨w.heap.size, 0, none⟩)), some (.int .i64 x.k), some (.int .i64 K), some (.pointer (some ⟨w.heap.size, 0, none⟩)), some (.pointer (some ⟨w.heap.size, 1, none⟩)), some (.int .i64 x.r), none, some (.pointer (some ⟨w.heap.size, 0, none⟩)), some (.pointer (some ⟨w.heap.size, 2, none⟩)), some (.slice I x.m.length ci), none, none, some (.pointer (some ⟨w.heap.size, 3, none⟩)), some (.int .i64 x.s), none, none, none] L vs ∧ (L 7 = true → ∃ (A : Option Addr), vs 7 = .agg #[.slice A 1 1] ∧ SpB w' (Ge w.heap.size) A [(x.r, x.r)]) ∧ (L 11 = true → OwnI w' w.heap.size (vs 11) x.m) ∧ (L 12 = true → ∃ (g : Nat) (mv : Value), vs 12 = .slice (some ⟨g, 0, none⟩) 1 1 ∧ Blk w' g 23 #[mv] ∧ w.heap.size ≤ g ∧ OwnI w' w.heap.size mv x.m) ∧ (L 15 = true → ∃ (A : Option Addr), vs 15 = .agg #[.slice A 1 1] ∧ SpB w' (Ge w.heap.size) A [(x.s, x.s)]) ∧ (L 16 = true → ∃ (A1 : Option Addr) (g : Nat) (mv : Value) (A3 : Option Addr), vs 16 = .agg #[.int .i64 K, .slice A1 1 1, .slice (some ⟨g, 0, none⟩) 1 1, .slice A3 1 1] ∧ SpB w' (Ge w.heap.size) A1 [(x.r, x.r)] ∧ SpB w' (Ge w.heap.size) A3 [(x.s, x.s)] ∧ Blk w' g 23 #[mv] ∧ w.heap.size ≤ g ∧ OwnI w' w.heap.size mv x.m) ∧ (L 17 = true → ∃ g : Nat, vs 17 = .pointer (some ⟨g, 0, none⟩) ∧ Blk w' g 48 #[.int .i64 0, .slice none 0 0, .slice none 0 0, .slice none 0 0] ∧ w.heap.size ≤ g))
  refine wp_region_genT S 18 36 (by kernel_rfl) (by kernel_rfl) rfl ?_ ?_
  · have hg := Grows.drew' w1
    exact HI.out _ _ _ ⟨⟨below_grows hB (Nat.le_refl _) hg, k1.grows hg⟩, kn_none _ _, (fun h => by cases h), (fun h => by cases h), (fun h => by cases h), (fun h => by cases h), (fun h => by cases h), (fun h => by cases h)⟩
  simp only [List.take_succ_cons, List.take_zero, List.drop_succ_cons, List.drop_zero]
  refine gent_consR (fun vs L w1 hL hw1 => ?_) ?_
  · obtain ⟨⟨qB, qk⟩, q1, q7, q11, qm, qs, qb, qz⟩ := HO.out _ _ _ hw1
    refine gen_plain rfl ?_
    go_simp
    exact gr_val (HI.out _ _ _ ⟨⟨qB, qk⟩, kn_known q1 rfl, q7, q11, qm, qs, qb, qz⟩)
  refine gent_consR (fun vs L w1 hL hw1 => ?_) ?_
  · obtain ⟨⟨qB, qk⟩, q1, q7, q11, qm, qs, qb, qz⟩ := HO.out _ _ _ hw1
    have l0 : L 0 = true := hL.need 0 (by kernel_rfl)
    have e0 := q1 0 _ rfl l0
    refine gen_plain rfl ?_
    simp only [e0]
    go_simp
    exact gr_val (HI.out _ _ _ ⟨⟨qB, qk⟩, kn_known q1 rfl, q7, q11, qm, qs, qb, qz⟩)
  refine gent_consR (fun vs L w1 hL hw1 => ?_) ?_
  · obtain ⟨⟨qB, qk⟩, q1, q7, q11, qm, qs, qb, qz⟩ := HO.out _ _ _ hw1
    have l1 : L 1 = true := hL.need 1 (by kernel_rfl)
    have e1 := q1 1 _ rfl l1
    have xc := qk.cell 0
    refine gen_plain rfl ?_
    simp only [e1]
    go_simp
    exact gr_val (HI.out _ _ _ ⟨⟨qB, qk⟩, kn_known q1 rfl, q7, q11, qm, qs, qb, qz⟩)
  refine gent_consR (fun vs L w1 hL hw1 => ?_) ?_
  · obtain ⟨⟨qB, qk⟩, q1, q7, q11, qm, qs, qb, qz⟩ := HO.out _ _ _ hw1
    have l2 : L 2 = true := hL.need 2 (by kernel_rfl)
    have e2 := q1 2 _ rfl l2
    refine gen_plain rfl ?_
    simp only [e2]
    go_simp
    exact gr_val (HI.out _ _ _ ⟨⟨qB, qk⟩, kn_known q1 rfl, q7, q11, qm, qs, qb, qz⟩)
  refine gent_consR (fun vs L w1 hL hw1 => ?_) ?_
  · obtain ⟨⟨qB, qk⟩, q1, q7, q11, qm, qs, qb, qz⟩ := HO.out _ _ _ hw1
    refine gen_plain rfl ?_
    go_simp
    exact gr_val (HI.out _ _ _ ⟨⟨qB, qk⟩, kn_known q1 rfl, q7, q11, qm, qs, qb, qz⟩)
  refine gent_consR (fun vs L w1 hL hw1 => ?_) ?_
  · obtain ⟨⟨qB, qk⟩, q1, q7, q11, qm, qs, qb, qz⟩ := HO.out _ _ _ hw1
    have l4 : L 4 = true := hL.need 4 (by kernel_rfl)
    have e4 := q1 4 _ rfl l4
    refine gen_plain rfl ?_
    simp only [e4]
    go_simp
    exact gr_val (HI.out _ _ _ ⟨⟨qB, qk⟩, kn_known q1 rfl, q7, q11, qm, qs, qb, qz⟩)
  refine gent_consR (fun vs L w1 hL hw1 => ?_) ?_
  · obtain ⟨⟨qB, qk⟩, q1, q7, q11, qm, qs, qb, qz⟩ := HO.out _ _ _ hw1
    have l5 : L 5 = true := hL.need 5 (by kernel_rfl)
    have e5 := q1 5 _ rfl l5
    have xc := qk.cell 1
    refine gen_plain rfl ?_
    simp only [e5]
    go_simp
    exact gr_val (HI.out _ _ _ ⟨⟨qB, qk⟩, kn_known q1 rfl, q7, q11, qm, qs, qb, qz⟩)
  refine gent_consR (fun vs L w1 hL hw1 => ?_) ?_
  · obtain ⟨⟨qB, qk⟩, q1, q7, q11, qm, qs, qb, qz⟩ := HO.out _ _ _ hw1
    have l6 : L 6 = true := hL.need 6 (by kernel_rfl)
    have e6 := q1 6 _ rfl l6
    refine gen_plain rfl ?_
    simp only [e6]
    go_simp
    refine gr_call ?_
    refine (one_any _ _).mono ?_
    rintro e wc ⟨⟨A5, rfl, hr5⟩, hg⟩
    have hsz := qB.size
    exact ⟨_, rfl, HI.out _ _ _ ⟨⟨below_grows qB (Nat.le_refl _) hg, qk.grows hg⟩, kn_free q1 rfl, (fun _ => ⟨A5, rfl, RdB.mono hr5 (fun k hk => by unfold Ge at *; omega)⟩), (fun h => (q11 h).grows hg), (fun h => by obtain ⟨g, mv, e, hk, hl, ho⟩ := qm h; exact ⟨g, mv, e, hk.grows hg, hl, ho.grows hg⟩), (fun h => by obtain ⟨A, e, hr⟩ := qs h; exact ⟨A, e, hr.grows hg⟩), (fun h => by obtain ⟨A1, g, mv, A3, e, hr, hs, hk, hl, ho⟩ := qb h; exact ⟨A1, g, mv, A3, e, hr.grows hg, hs.grows hg, hk.grows hg, hl, ho.grows hg⟩), (fun h => by obtain ⟨g, e, hk, hl⟩ := qz h; exact ⟨g, e, hk.grows hg, hl⟩)⟩⟩
  refine gent_consR (fun vs L w1 hL hw1 => ?_) ?_
  · obtain ⟨⟨qB, qk⟩, q1, q7, q11, qm, qs, qb, qz⟩ := HO.out _ _ _ hw1
    refine gen_plain rfl ?_
    go_simp
    exact gr_val (HI.out _ _ _ ⟨⟨qB, qk⟩, kn_known q1 rfl, q7, q11, qm, qs, qb, qz⟩)
  refine gent_consR (fun vs L w1 hL hw1 => ?_) ?_
  · obtain ⟨⟨qB, qk⟩, q1, q7, q11, qm, qs, qb, qz⟩ := HO.out _ _ _ hw1
    have l8 : L 8 = true := hL.need 8 (by kernel_rfl)
    have e8 := q1 8 _ rfl l8
    refine gen_plain rfl ?_
    simp only [e8]
    go_simp
    exact gr_val (HI.out _ _ _ ⟨⟨qB, qk⟩, kn_known q1 rfl, q7, q11, qm, qs, qb, qz⟩)
  refine gent_consR (fun vs L w1 hL hw1 => ?_) ?_
  · obtain ⟨⟨qB, qk⟩, q1, q7, q11, qm, qs, qb, qz⟩ := HO.out _ _ _ hw1
    have l9 : L 9 = true := hL.need 9 (by kernel_rfl)
    have e9 := q1 9 _ rfl l9
    have xc := qk.cell 2
    refine gen_plain rfl ?_
    simp only [e9]
    go_simp
    exact gr_val (HI.out _ _ _ ⟨⟨qB, qk⟩, kn_known q1 rfl, q7, q11, qm, qs, qb, qz⟩)
  refine gent_consR (fun vs L w1 hL hw1 => ?_) ?_
  · obtain ⟨⟨qB, qk⟩, q1, q7, q11, qm, qs, qb, qz⟩ := HO.out _ _ _ hw1
    have l10 : L 10 = true := hL.need 10 (by kernel_rfl)
    have e10 := q1 10 _ rfl l10
    refine gen_plain rfl ?_
    simp only [e10]
    go_simp
    refine gr_call ?_
    refine (iclone_any I ci x.m _ (ix.grows qB) hxm).mono ?_
    rintro e wc ⟨⟨v, rfl, hown⟩, hg⟩
    have hsz := qB.size
    exact ⟨_, rfl, HI.out _ _ _ ⟨⟨below_grows qB (Nat.le_refl _) hg, qk.grows hg⟩, kn_free q1 rfl, (fun h => by obtain ⟨A, e, hr⟩ := q7 h; exact ⟨A, e, hr.grows hg⟩), (fun _ => hown.mono hsz), (fun h => by obtain ⟨g, mv, e, hk, hl, ho⟩ := qm h; exact ⟨g, mv, e, hk.grows hg, hl, ho.grows hg⟩), (fun h => by obtain ⟨A, e, hr⟩ := qs h; exact ⟨A, e, hr.grows hg⟩), (fun h => by obtain ⟨A1, g, mv, A3, e, hr, hs, hk, hl, ho⟩ := qb h; exact ⟨A1, g, mv, A3, e, hr.grows hg, hs.grows hg, hk.grows hg, hl, ho.grows hg⟩), (fun h => by obtain ⟨g, e, hk, hl⟩ := qz h; exact ⟨g, e, hk.grows hg, hl⟩)⟩⟩
  refine gent_consR (fun vs L w1 hL hw1 => ?_) ?_
  · obtain ⟨⟨qB, qk⟩, q1, q7, q11, qm, qs, qb, qz⟩ := HO.out _ _ _ hw1
    have l11 : L 11 = true := hL.need 11 (by kernel_rfl)
    have ho := q11 l11
    obtain ⟨B, cx, ev, hcx, -⟩ := ho.read
    rw [ev] at ho
    refine gen_plain rfl ?_
    simp only [ev]
    go_simp
    have hg := (Below.refl w1.heap.size w1).alloc (Nat.le_refl _) (Obj.cells #[.slice B x.m.length cx] 23)
    have hk := Blk.new w1 23 #[.slice B x.m.length cx]
    exact gr_val (HI.out _ _ _ ⟨⟨below_grows qB (Nat.le_refl _) hg, qk.grows hg⟩, kn_free q1 rfl, (fun h => by obtain ⟨A, e, hr⟩ := q7 h; exact ⟨A, e, hr.grows hg⟩), (fun h => (q11 h).grows hg), (fun _ => ⟨w1.heap.size, _, rfl, hk, qB.size, ho.grows hg⟩), (fun h => by obtain ⟨A, e, hr⟩ := qs h; exact ⟨A, e, hr.grows hg⟩), (fun h => by obtain ⟨A1, g, mv, A3, e, hr, hs, hk, hl, ho⟩ := qb h; exact ⟨A1, g, mv, A3, e, hr.grows hg, hs.grows hg, hk.grows hg, hl, ho.grows hg⟩), (fun h => by obtain ⟨g, e, hk, hl⟩ := qz h; exact ⟨g, e, hk.grows hg, hl⟩)⟩)
  refine gent_consR (fun vs L w1 hL hw1 => ?_) ?_
  · obtain ⟨⟨qB, qk⟩, q1, q7, q11, qm, qs, qb, qz⟩ := HO.out _ _ _ hw1
    refine gen_plain rfl ?_
    go_simp
    exact gr_val (HI.out _ _ _ ⟨⟨qB, qk⟩, kn_known q1 rfl, q7, q11, qm, qs, qb, qz⟩)
  refine gent_consR (fun vs L w1 hL hw1 => ?_) ?_
  · obtain ⟨⟨qB, qk⟩, q1, q7, q11, qm, qs, qb, qz⟩ := HO.out _ _ _ hw1
    have l13 : L 13 = true := hL.need 13 (by kernel_rfl)
    have e13 := q1 13 _ rfl l13
    have xc := qk.cell 3
    refine gen_plain rfl ?_
    simp only [e13]
    go_simp
    exact gr_val (HI.out _ _ _ ⟨⟨qB, qk⟩, kn_known q1 rfl, q7, q11, qm, qs, qb, qz⟩)
  refine gent_consR (fun vs L w1 hL hw1 => ?_) ?_
  · obtain ⟨⟨qB, qk⟩, q1, q7, q11, qm, qs, qb, qz⟩ := HO.out _ _ _ hw1
    have l14 : L 14 = true := hL.need 14 (by kernel_rfl)
    have e14 := q1 14 _ rfl l14
    refine gen_plain rfl ?_
    simp only [e14]
    go_simp
    refine gr_call ?_
    refine (one_any _ _).mono ?_
    rintro e wc ⟨⟨A5, rfl, hr5⟩, hg⟩
    have hsz := qB.size
    exact ⟨_, rfl, HI.out _ _ _ ⟨⟨below_grows qB (Nat.le_refl _) hg, qk.grows hg⟩, kn_free q1 rfl, (fun h => by obtain ⟨A, e, hr⟩ := q7 h; exact ⟨A, e, hr.grows hg⟩), (fun h => (q11 h).grows hg), (fun h => by obtain ⟨g, mv, e, hk, hl, ho⟩ := qm h; exact ⟨g, mv, e, hk.grows hg, hl, ho.grows hg⟩), (fun _ => ⟨A5, rfl, RdB.mono hr5 (fun k hk => by unfold Ge at *; omega)⟩), (fun h => by obtain ⟨A1, g, mv, A3, e, hr, hs, hk, hl, ho⟩ := qb h; exact ⟨A1, g, mv, A3, e, hr.grows hg, hs.grows hg, hk.grows hg, hl, ho.grows hg⟩), (fun h => by obtain ⟨g, e, hk, hl⟩ := qz h; exact ⟨g, e, hk.grows hg, hl⟩)⟩⟩
  refine gent_consR (fun vs L w1 hL hw1 => ?_) ?_
  · obtain ⟨⟨qB, qk⟩, q1, q7, q11, qm, qs, qb, qz⟩ := HO.out _ _ _ hw1
    have l3 : L 3 = true := hL.need 3 (by kernel_rfl)
    have e3 := q1 3 _ rfl l3
    have l7 : L 7 = true := hL.need 7 (by kernel_rfl)
    have lm : L 12 = true := hL.need 12 (by kernel_rfl)
    have ls : L 15 = true := hL.need 15 (by kernel_rfl)
    obtain ⟨A1, e7, hr⟩ := q7 l7
    obtain ⟨g, mv, em, hk, hl, ho⟩ := qm lm
    obtain ⟨A3, es, hs⟩ := qs ls
    refine gen_plain rfl ?_
    simp only [e3, e7, em, es]
    go_simp
    exact gr_val (HI.out _ _ _ ⟨⟨qB, qk⟩, kn_free q1 rfl, q7, q11, qm, qs, (fun _ => ⟨A1, g, mv, A3, rfl, hr, hs, hk, hl, ho⟩), qz⟩)
  refine gent_consR (fun vs L w1 hL hw1 => ?_) ?_
  · obtain ⟨⟨qB, qk⟩, q1, q7, q11, qm, qs, qb, qz⟩ := HO.out _ _ _ hw1
    refine gen_plain rfl ?_
    go_simp
    have hg := (Below.refl w1.heap.size w1).alloc (Nat.le_refl _) (Obj.cells #[.int .i64 0, .slice none 0 0, .slice none 0 0, .slice none 0 0] 48)
    have hk := Blk.new w1 48 #[.int .i64 0, .slice none 0 0, .slice none 0 0, .slice none 0 0]
    exact gr_val (HI.out _ _ _ ⟨⟨below_grows qB (Nat.le_refl _) hg, qk.grows hg⟩, kn_free q1 rfl, (fun h => by obtain ⟨A, e, hr⟩ := q7 h; exact ⟨A, e, hr.grows hg⟩), (fun h => (q11 h).grows hg), (fun h => by obtain ⟨g, mv, e, hk, hl, ho⟩ := qm h; exact ⟨g, mv, e, hk.grows hg, hl, ho.grows hg⟩), (fun h => by obtain ⟨A, e, hr⟩ := qs h; exact ⟨A, e, hr.grows hg⟩), (fun h => by obtain ⟨A1, g, mv, A3, e, hr, hs, hk, hl, ho⟩ := qb h; exact ⟨A1, g, mv, A3, e, hr.grows hg, hs.grows hg, hk.grows hg, hl, ho.grows hg⟩), (fun _ => ⟨w1.heap.size, rfl, hk, qB.size⟩)⟩)
  refine gent_nil ?_
  intro vs L W2 hall hS
  obtain ⟨⟨hB2, qk⟩, q1, -, -, -, -, qb, qz⟩ := HO.out _ _ _ hS
  obtain ⟨A1, gm, mv, A3, eb, hr, hs, hm, hl, ho⟩ := qb (hall 16 (by omega))
  obtain ⟨G, ez, hG, hlG⟩ := qz (hall 17 (by omega))
  have e0 := q1 0 _ rfl (hall 0 (by omega))
  have e1 := q1 1 _ rfl (hall 1 (by omega))
  have e2 := q1 2 _ rfl (hall 2 (by omega))
  have e3 := q1 3 _ rfl (hall 3 (by omega))
  have e4 := q1 4 _ rfl (hall 4 (by omega))
  have e5 := q1 5 _ rfl (hall 5 (by omega))
  have e6 := q1 6 _ rfl (hall 6 (by omega))
  have e8 := q1 8 _ rfl (hall 8 (by omega))
  have e9 := q1 9 _ rfl (hall 9 (by omega))
  have e10 := q1 10 _ rfl (hall 10 (by omega))
  have e13 := q1 13 _ rfl (hall 13 (by omega))
  have e14 := q1 14 _ rfl (hall 14 (by omega))
  clear hall hS HI HO q1 qb qz hB k1 x1 qk
  simp only [e0, e1, e2, e3, e4, e5, e6, e8, e9, e10, e13, e14, eb, ez]
  clear e0 e1 e2 e3 e4 e5 e6 e8 e9 e10 e13 e14 eb ez
  have hgm : gm ≠ G := hm.ne_ hG (by decide)
  have hmG := own_blk_ne ho hG (by decide)
  have hr2 : RdB W2 (fun k => w.heap.size ≤ k ∧ k ≠ G) 2 A1 1 (scells [(x.r, x.r)]) := ⟨hr.1, fun hn ad e => ⟨hr.2 hn ad e, sp_ne_box hr.1 hG ad e hn⟩⟩
  have hs2 : RdB W2 (fun k => w.heap.size ≤ k ∧ k ≠ G) 2 A3 1 (scells [(x.s, x.s)]) := ⟨hs.1, fun hn ad e => ⟨hs.2 hn ad e, sp_ne_box hs.1 hG ad e hn⟩⟩
  have y3 := hG.cell
  have hf3 := hG.frozen
  have k3 := ((((hG.set_ 0 (.int .i64 K)).set_ 1 (.slice A1 1 1)).set_ 2 (.slice (some ⟨gm, 0, none⟩) 1 1)).set_ 3 (.slice A3 1 1))
  have hB := ((((hB2.setCell (p := ⟨G, 0, none⟩) (show w.heap.size ≤ G by omega) (.int .i64 K)).setCell (p := ⟨G, 1, none⟩) (show w.heap.size ≤ G by omega) (.slice A1 1 1)).setCell (p := ⟨G, 2, none⟩) (show w.heap.size ≤ G by omega) (.slice (some ⟨gm, 0, none⟩) 1 1)).setCell (p := ⟨G, 3, none⟩) (show w.heap.size ≤ G by omega) (.slice A3 1 1))
  replace hr2 := RdB.grown hr2 (d_only_set (d_only_set (d_only_set (d_only_set (World.grownBy.refl _ (some G)) 0 (.int .i64 K)) 1 (.slice A1 1 1)) 2 (.slice (some ⟨gm, 0, none⟩) 1 1)) 3 (.slice A3 1 1)) (fun q e => by injection e with e; omega)
  replace hs2 := RdB.grown hs2 (d_only_set (d_only_set (d_only_set (d_only_set (World.grownBy.refl _ (some G)) 0 (.int .i64 K)) 1 (.slice A1 1 1)) 2 (.slice (some ⟨gm, 0, none⟩) 1 1)) 3 (.slice A3 1 1)) (fun q e => by injection e with e; omega)
  replace hm := hm.grown (d_only_set (d_only_set (d_only_set (d_only_set (World.grownBy.refl _ (some G)) 0 (.int .i64 K)) 1 (.slice A1 1 1)) 2 (.slice (some ⟨gm, 0, none⟩) 1 1)) 3 (.slice A3 1 1)) (by intro e; injection e; omega)
  have ho2 : OwnI _ w.heap.size mv x.m := World.ownsRow.kept ho (d_only_set (d_only_set (d_only_set (d_only_set (World.grownBy.refl _ (some G)) 0 (.int .i64 K)) 1 (.slice A1 1 1)) 2 (.slice (some ⟨gm, 0, none⟩) 1 1)) 3 (.slice A3 1 1)) (.inr hmG)
  clear hr hs hG hB2 ho hmG
  go_upto_region 4 with fail
  clear y3 hf3
  generalize World.setCell (World.setCell (World.setCell (World.setCell W2 _ _) _ _) _ _) _ _ = w4 at *
  have k3 : Blk w4 G 48 #[.int .i64 K, .slice A1 1 1, .slice (some ⟨gm, 0, none⟩) 1 1, .slice A3 1 1] := k3
  obtain ⟨B, cx, rfl, hcx, hib⟩ := InB.of_own ho2
  have hmr : MapsR w4 (Ge w.heap.size) (some ⟨gm, 0, none⟩) [x.m] := maps_one hm hl hib hcx
  have hp : BoxP w4 (Ge w.heap.size) ⟨K, [(x.r, x.r)], [x.m], [(x.s, x.s)]⟩ A1 1 (some ⟨gm, 0, none⟩) 1 A3 1 := ⟨RdB.mono hr2 (fun k hk => hk.1), hmr, RdB.mono hs2 (fun k hk => hk.1), Nat.le_refl _, Nat.le_refl _, Nat.le_refl _⟩
  have hok : OKB ⟨K, [(x.r, x.r)], [x.m], [(x.s, x.s)]⟩ := okb_one K hxm
  clear hr2 hs2 hm ho2 hib hmr
  have x3 := k3.cell
  obtain ⟨z, hz⟩ : ∃ z : Bx, z = ⟨K, [(x.r, x.r)], [x.m], [(x.s, x.s)]⟩ := ⟨_, rfl⟩
  have hcon := (pfine_any hp hok)
  rw [← hz] at hcon hp hok
  have HSZ : Hid (singleF x = if fineB z = true then [z] else []) := Lib.hid (by rw [hz]; exact HS.out)
  have HZC : Hid ((#[.int .i64 K, .slice A1 1 1, .slice (some ⟨gm, 0, none⟩) 1 1, .slice A3 1 1] : Array Value) = #[.int .i64 z.k, .slice A1 z.r.length 1, .slice (some ⟨gm, 0, none⟩) z.m.length 1, .slice A3 z.s.length 1]) := Lib.hid (by rw [hz]; rfl)
  rw [← HZC.out] at hcon
  have HC := Lib.hid hcon
  clear hcon hz
  go_wp2_with fail
  refine HC.out.mono ?_
  cases hv : fineB z
  · have HE : Hid (singleF x = []) := Lib.hid (by rw [HSZ.out, if_neg (by rw [hv]; decide)])
    clear hv
    rintro e w5 ⟨rfl, hq⟩
    replace hB := below_grows hB (Nat.le_refl _) hq
    go_wp2
    go_ret
    rw [HE.out]
    exact ⟨⟨none, 0, rfl, Nat.le_refl _, Bxs.nil⟩, hB⟩
  · have HE : Hid (singleF x = [z]) := Lib.hid (by rw [HSZ.out, if_pos hv])
    clear hv
    rintro e w5 ⟨rfl, hq⟩
    replace hB := below_grows hB (Nat.le_refl _) hq
    replace k3 := k3.grows hq
    replace hp := hp.grows hq
    clear hq x3
    have x3 := k3.cell
    have hL := bxs_one2 hp (show Ge w.heap.size w5.heap.size from hB.size) HZC.out
    have hq := (Below.refl w5.heap.size w5).alloc (Nat.le_refl _) (Obj.cells #[.int .i64 K, .slice A1 1 1, .slice (some ⟨gm, 0, none⟩) 1 1, .slice A3 1 1] 48)
    have hB6 := below_grows hB (Nat.le_refl _) hq
    clear hq hB
    go_wp2
    go_ret
    rw [HE.out]
    exact ⟨⟨_, 1, rfl, Nat.le_refl _, hL⟩, hB6⟩
set_option maxHeartbeats 64000000 in
set_option maxRecDepth 10000 in
theorem rsingle_any {I : Option Addr} {ci : Nat} {x : Ch} {w : World} (ix : Ints w I x.m) (hci : x.m.length ≤ ci) (hxm : x.m.length ≤ 1000000) :
    Calls Tryz.prog 31 #[.agg #[.int .i64 x.k, .int .i64 x.r, .slice I x.m.length ci, .int .i64 x.s]] w fun e w' => (∃ A c, e = .returned (.slice A (singleF x).length c) ∧ (singleF x).length ≤ c ∧ Bxs w' (fun _ => True) A (singleF x)) ∧ Grows w w' := by
  have k1 := Blk.new w 27 #[.int .i64 x.k, .int .i64 x.r, .slice I x.m.length ci, .int .i64 x.s]
  have hB := (Below.refl w.heap.size w).alloc (Nat.le_refl _) (Obj.cells #[.int .i64 x.k, .int .i64 x.r, .slice I x.m.length ci, .int .i64 x.s] 27)
  go_enter Tryz.func31, Tryz.ntmps31
  go_upto_region 1 with fail
  generalize World.alloc w _ = w1 at *
  have x1 := k1.cell
  by_cases h1 : x.k < 1
  · have HE : Hid (singleF x = []) := Lib.hid (if_neg (fun h => by omega))
    have d1 : decide (x.k < 1) = true := by simpa using h1
    clear h1
    go_wp2
    go_ret
    rw [HE.out]
    exact ⟨⟨none, 0, rfl, Nat.le_refl _, Bxs.nil⟩, hB⟩
  have d1 : decide (x.k < 1) = false := by simpa using h1
  by_cases h2 : 7 < x.k
  · have HE : Hid (singleF x = []) := Lib.hid (if_neg (fun h => by omega))
    have d2 : decide (7 < x.k) = true := by simpa using h2
    clear h1 h2
    go_wp2
    go_ret
    rw [HE.out]
    exact ⟨⟨none, 0, rfl, Nat.le_refl _, Bxs.nil⟩, hB⟩
  have d2 : decide (7 < x.k) = false := by simpa using h2
  have hk1 : 1 ≤ x.k := by omega
  have hk7 : x.k ≤ 7 := by omega
  have hk0 : 0 ≤ x.k := by omega
  have hK0 := shl_small hk0 hk7
  obtain ⟨K, hK⟩ : ∃ K, IntKind.i64.wrap (2 ^ x.k.toNat) = K := ⟨_, rfl⟩
  have HK : Hid (2 ^ x.k.toNat = K) := Lib.hid (hK0.symm.trans hK)
  have HS : Hid (singleF x = if fineB ⟨K, [(x.r, x.r)], [x.m], [(x.s, x.s)]⟩ = true then [⟨K, [(x.r, x.r)], [x.m], [(x.s, x.s)]⟩] else []) := Lib.hid (by
    unfold singleF oneB
    rw [HK.out]
    by_cases hf : fineB ⟨K, [(x.r, x.r)], [x.m], [(x.s, x.s)]⟩ = true
    · rw [if_pos ⟨hk1, hk7, hf⟩, if_pos hf]
    · rw [if_neg (fun h => hf h.2.2), if_neg hf])
  clear h1 h2 hK0
  go_upto_region 3 with fail
  obtain ⟨S, HI, HO⟩ := hideS fun (L : Ran) (vs : Nat → Value) (w' : World) => ((Below w.heap.size w w' ∧ Blk w' w.heap.size 27 #[.int .i64 x.k, .int .i64 x.r, .slice I x.m.length ci, .int .i64 x.s]) ∧ KnS [some (.pointer (some ⟨w.heap.size, 0, none⟩)), some (.pointer (some ⟨w.heap.size, 0, none⟩)), some (.int .i64 x.k), some (.int .i64 K), some (.pointer (some ⟨w.heap.size, 0, none⟩)), some (.pointer (some ⟨w.heap.size, 1, none⟩)), some (.int .i64 x.r), none, some (.pointer (some ⟨w.heap.size, 0, none⟩)), some (.pointer (some ⟨w.heap.size, 2, none⟩)), some (.slice I x.m.length ci), none, some (.pointer (some ⟨w.heap.size, 3, none⟩)), some (.int .i64 x.s), none, none, none] L vs ∧ (L 7 = true → ∃ (A : Option Addr), vs 7 = .agg #[.slice A 1 1] ∧ SpB w' (Ge w.heap.size) A [(x.r, x.r)]) ∧ (L 11 = true → ∃ (g : Nat) (mv : Value), vs 11 = .slice (some ⟨g, 0, none⟩) 1 1 ∧ Blk w' g 23 #[mv] ∧ w.heap.size ≤ g ∧ InB w' (Under w.heap.size) I x.m ∧ mv = .slice I x.m.length ci) ∧ (L 14 = true → ∃ (A : Option Addr), vs 14 = .agg #[.slice A 1 1] ∧ SpB w' (Ge w.heap.size) A [(x.s, x.s)]) ∧ (L 15 = true → ∃ (A1 : Option Addr) (g : Nat) (mv : Value) (A3 : Option Addr), vs 15 = .agg #[.int .i64 K, .slice A1 1 1, .slice (some ⟨g, 0, none⟩) 1 1, .slice A3 1 1] ∧ SpB w' (Ge w.heap.size) A1 [(x.r, x.r)] ∧ SpB w' (Ge w.heap.size) A3 [(x.s, x.s)] ∧ Blk w' g 23 #[mv] ∧ w.heap.size ≤ g ∧ InB w' (Under w.heap.size) I x.m ∧ mv = .slice I x.m.length ci) ∧ (L 16 = true → ∃ (g : Nat) (A1 : Option Addr) (gm : Nat) (mv : Value) (A3 : Option Addr), vs 16 = .slice (some ⟨g, 0, none⟩) 1 1 ∧ Blk w' g 48 #[.int .i64 K, .slice A1 1 1, .slice (some ⟨gm, 0, none⟩) 1 1, .slice A3 1 1] ∧ SpB w' (Ge w.heap.size) A1 [(x.r, x.r)] ∧ SpB w' (Ge w.heap.size) A3 [(x.s, x.s)] ∧ Blk w' gm 23 #[mv] ∧ InB w' (Under w.heap.size) I x.m ∧ mv = .slice I x.m.length ci))
  refine wp_region_genT S 17 33 (by kernel_rfl) (by kernel_rfl) rfl ?_ ?_
  · have hg := Grows.drew' w1
    exact HI.out _ _ _ ⟨⟨below_grows hB (Nat.le_refl _) hg, k1.grows hg⟩, kn_none _ _, (fun h => by cases h), (fun h => by cases h), (fun h => by cases h), (fun h => by cases h), (fun h => by cases h)⟩
  simp only [List.take_succ_cons, List.take_zero, List.drop_succ_cons, List.drop_zero]
  refine gent_consR (fun vs L w1 hL hw1 => ?_) ?_
  · obtain ⟨⟨qB, qk⟩, q1, q7, qm, qs, qb, qz⟩ := HO.out _ _ _ hw1
    refine gen_plain rfl ?_
    go_simp
    exact gr_val (HI.out _ _ _ ⟨⟨qB, qk⟩, kn_known q1 rfl, q7, qm, qs, qb, qz⟩)
  refine gent_consR (fun vs L w1 hL hw1 => ?_) ?_
  · obtain ⟨⟨qB, qk⟩, q1, q7, qm, qs, qb, qz⟩ := HO.out _ _ _ hw1
    have l0 : L 0 = true := hL.need 0 (by kernel_rfl)
    have e0 := q1 0 _ rfl l0
    refine gen_plain rfl ?_
    simp only [e0]
    go_simp
    exact gr_val (HI.out _ _ _ ⟨⟨qB, qk⟩, kn_known q1 rfl, q7, qm, qs, qb, qz⟩)
  refine gent_consR (fun vs L w1 hL hw1 => ?_) ?_
  · obtain ⟨⟨qB, qk⟩, q1, q7, qm, qs, qb, qz⟩ := HO.out _ _ _ hw1
    have l1 : L 1 = true := hL.need 1 (by kernel_rfl)
    have e1 := q1 1 _ rfl l1
    have xc := qk.cell 0
    refine gen_plain rfl ?_
    simp only [e1]
    go_simp
    exact gr_val (HI.out _ _ _ ⟨⟨qB, qk⟩, kn_known q1 rfl, q7, qm, qs, qb, qz⟩)
  refine gent_consR (fun vs L w1 hL hw1 => ?_) ?_
  · obtain ⟨⟨qB, qk⟩, q1, q7, qm, qs, qb, qz⟩ := HO.out _ _ _ hw1
    have l2 : L 2 = true := hL.need 2 (by kernel_rfl)
    have e2 := q1 2 _ rfl l2
    refine gen_plain rfl ?_
    simp only [e2]
    go_simp
    exact gr_val (HI.out _ _ _ ⟨⟨qB, qk⟩, kn_known q1 rfl, q7, qm, qs, qb, qz⟩)
  refine gent_consR (fun vs L w1 hL hw1 => ?_) ?_
  · obtain ⟨⟨qB, qk⟩, q1, q7, qm, qs, qb, qz⟩ := HO.out _ _ _ hw1
    refine gen_plain rfl ?_
    go_simp
    exact gr_val (HI.out _ _ _ ⟨⟨qB, qk⟩, kn_known q1 rfl, q7, qm, qs, qb, qz⟩)
  refine gent_consR (fun vs L w1 hL hw1 => ?_) ?_
  · obtain ⟨⟨qB, qk⟩, q1, q7, qm, qs, qb, qz⟩ := HO.out _ _ _ hw1
    have l4 : L 4 = true := hL.need 4 (by kernel_rfl)
    have e4 := q1 4 _ rfl l4
    refine gen_plain rfl ?_
    simp only [e4]
    go_simp
    exact gr_val (HI.out _ _ _ ⟨⟨qB, qk⟩, kn_known q1 rfl, q7, qm, qs, qb, qz⟩)
  refine gent_consR (fun vs L w1 hL hw1 => ?_) ?_
  · obtain ⟨⟨qB, qk⟩, q1, q7, qm, qs, qb, qz⟩ := HO.out _ _ _ hw1
    have l5 : L 5 = true := hL.need 5 (by kernel_rfl)
    have e5 := q1 5 _ rfl l5
    have xc := qk.cell 1
    refine gen_plain rfl ?_
    simp only [e5]
    go_simp
    exact gr_val (HI.out _ _ _ ⟨⟨qB, qk⟩, kn_known q1 rfl, q7, qm, qs, qb, qz⟩)
  refine gent_consR (fun vs L w1 hL hw1 => ?_) ?_
  · obtain ⟨⟨qB, qk⟩, q1, q7, qm, qs, qb, qz⟩ := HO.out _ _ _ hw1
    have l6 : L 6 = true := hL.need 6 (by kernel_rfl)
    have e6 := q1 6 _ rfl l6
    refine gen_plain rfl ?_
    simp only [e6]
    go_simp
    refine gr_call ?_
    refine (rsingle0_any _ _).mono ?_
    rintro e wc ⟨⟨A5, rfl, hr5⟩, hg⟩
    have hsz := qB.size
    exact ⟨_, rfl, HI.out _ _ _ ⟨⟨below_grows qB (Nat.le_refl _) hg, qk.grows hg⟩, kn_free q1 rfl, (fun _ => ⟨A5, rfl, RdB.mono hr5 (fun k hk => by unfold Ge at *; omega)⟩), (fun h => by obtain ⟨g, mv, e, hk, hl, ho, hmv⟩ := qm h; exact ⟨g, mv, e, hk.grows hg, hl, ho.grows hg, hmv⟩), (fun h => by obtain ⟨A, e, hr⟩ := qs h; exact ⟨A, e, hr.grows hg⟩), (fun h => by obtain ⟨A1, g, mv, A3, e, hr, hs, hk, hl, ho, hmv⟩ := qb h; exact ⟨A1, g, mv, A3, e, hr.grows hg, hs.grows hg, hk.grows hg, hl, ho.grows hg, hmv⟩), (fun h => by obtain ⟨g, A1, gm, mv, A3, e, hb, hr, hs, hk, ho, hmv⟩ := qz h; exact ⟨g, A1, gm, mv, A3, e, hb.grows hg, hr.grows hg, hs.grows hg, hk.grows hg, ho.grows hg, hmv⟩)⟩⟩
  refine gent_consR (fun vs L w1 hL hw1 => ?_) ?_
  · obtain ⟨⟨qB, qk⟩, q1, q7, qm, qs, qb, qz⟩ := HO.out _ _ _ hw1
    refine gen_plain rfl ?_
    go_simp
    exact gr_val (HI.out _ _ _ ⟨⟨qB, qk⟩, kn_known q1 rfl, q7, qm, qs, qb, qz⟩)
  refine gent_consR (fun vs L w1 hL hw1 => ?_) ?_
  · obtain ⟨⟨qB, qk⟩, q1, q7, qm, qs, qb, qz⟩ := HO.out _ _ _ hw1
    have l8 : L 8 = true := hL.need 8 (by kernel_rfl)
    have e8 := q1 8 _ rfl l8
    refine gen_plain rfl ?_
    simp only [e8]
    go_simp
    exact gr_val (HI.out _ _ _ ⟨⟨qB, qk⟩, kn_known q1 rfl, q7, qm, qs, qb, qz⟩)
  refine gent_consR (fun vs L w1 hL hw1 => ?_) ?_
  · obtain ⟨⟨qB, qk⟩, q1, q7, qm, qs, qb, qz⟩ := HO.out _ _ _ hw1
    have l9 : L 9 = true := hL.need 9 (by kernel_rfl)
    have e9 := q1 9 _ rfl l9
    have xc := qk.cell 2
    refine gen_plain rfl ?_
    simp only [e9]
    go_simp
    exact gr_val (HI.out _ _ _ ⟨⟨qB, qk⟩, kn_known q1 rfl, q7, qm, qs, qb, qz⟩)
  refine gent_consR (fun vs L w1 hL hw1 => ?_) ?_
  · obtain ⟨⟨qB, qk⟩, q1, q7, qm, qs, qb, qz⟩ := HO.out _ _ _ hw1
    have l10 : L 10 = true := hL.need 10 (by kernel_rfl)
    have e10 := q1 10 _ rfl l10
    refine gen_plain rfl ?_
    simp only [e10]
    go_simp
    have hg := (Below.refl w1.heap.size w1).alloc (Nat.le_refl _) (Obj.cells #[.slice I x.m.length ci] 23)
    have hk := Blk.new w1 23 #[.slice I x.m.length ci]
    have hib : InB (w1.alloc (Obj.cells #[.slice I x.m.length ci] 23)) (Under w.heap.size) I x.m := InB.grows (InB.grows (RdB.under (base := fun _ => True) ⟨ix, fun _ _ _ => trivial⟩ : InB w (Under w.heap.size) I x.m) qB) hg
    exact gr_val (HI.out _ _ _ ⟨⟨below_grows qB (Nat.le_refl _) hg, qk.grows hg⟩, kn_free q1 rfl, (fun h => by obtain ⟨A, e, hr⟩ := q7 h; exact ⟨A, e, hr.grows hg⟩), (fun _ => ⟨w1.heap.size, _, rfl, hk, qB.size, hib, rfl⟩), (fun h => by obtain ⟨A, e, hr⟩ := qs h; exact ⟨A, e, hr.grows hg⟩), (fun h => by obtain ⟨A1, g, mv, A3, e, hr, hs, hk, hl, ho, hmv⟩ := qb h; exact ⟨A1, g, mv, A3, e, hr.grows hg, hs.grows hg, hk.grows hg, hl, ho.grows hg, hmv⟩), (fun h => by obtain ⟨g, A1, gm, mv, A3, e, hb, hr, hs, hk, ho, hmv⟩ := qz h; exact ⟨g, A1, gm, mv, A3, e, hb.grows hg, hr.grows hg, hs.grows hg, hk.grows hg, ho.grows hg, hmv⟩)⟩)
  refine gent_consR (fun vs L w1 hL hw1 => ?_) ?_
  · obtain ⟨⟨qB, qk⟩, q1, q7, qm, qs, qb, qz⟩ := HO.out _ _ _ hw1
    refine gen_plain rfl ?_
    go_simp
    exact gr_val (HI.out _ _ _ ⟨⟨qB, qk⟩, kn_known q1 rfl, q7, qm, qs, qb, qz⟩)
  refine gent_consR (fun vs L w1 hL hw1 => ?_) ?_
  · obtain ⟨⟨qB, qk⟩, q1, q7, qm, qs, qb, qz⟩ := HO.out _ _ _ hw1
    have l12 : L 12 = true := hL.need 12 (by kernel_rfl)
    have e12 := q1 12 _ rfl l12
    have xc := qk.cell 3
    refine gen_plain rfl ?_
    simp only [e12]
    go_simp
    exact gr_val (HI.out _ _ _ ⟨⟨qB, qk⟩, kn_known q1 rfl, q7, qm, qs, qb, qz⟩)
  refine gent_consR (fun vs L w1 hL hw1 => ?_) ?_
  · obtain ⟨⟨qB, qk⟩, q1, q7, qm, qs, qb, qz⟩ := HO.out _ _ _ hw1
    have l13 : L 13 = true := hL.need 13 (by kernel_rfl)
    have e13 := q1 13 _ rfl l13
    refine gen_plain rfl ?_
    simp only [e13]
    go_simp
    refine gr_call ?_
    refine (rsingle0_any _ _).mono ?_
    rintro e wc ⟨⟨A5, rfl, hr5⟩, hg⟩
    have hsz := qB.size
    exact ⟨_, rfl, HI.out _ _ _ ⟨⟨below_grows qB (Nat.le_refl _) hg, qk.grows hg⟩, kn_free q1 rfl, (fun h => by obtain ⟨A, e, hr⟩ := q7 h; exact ⟨A, e, hr.grows hg⟩), (fun h => by obtain ⟨g, mv, e, hk, hl, ho, hmv⟩ := qm h; exact ⟨g, mv, e, hk.grows hg, hl, ho.grows hg, hmv⟩), (fun _ => ⟨A5, rfl, RdB.mono hr5 (fun k hk => by unfold Ge at *; omega)⟩), (fun h => by obtain ⟨A1, g, mv, A3, e, hr, hs, hk, hl, ho, hmv⟩ := qb h; exact ⟨A1, g, mv, A3, e, hr.grows hg, hs.grows hg, hk.grows hg, hl, ho.grows hg, hmv⟩), (fun h => by obtain ⟨g, A1, gm, mv, A3, e, hb, hr, hs, hk, ho, hmv⟩ := qz h; exact ⟨g, A1, gm, mv, A3, e, hb.grows hg, hr.grows hg, hs.grows hg, hk.grows hg, ho.grows hg, hmv⟩)⟩⟩
  refine gent_consR (fun vs L w1 hL hw1 => ?_) ?_
  · obtain ⟨⟨qB, qk⟩, q1, q7, qm, qs, qb, qz⟩ := HO.out _ _ _ hw1
    have l3 : L 3 = true := hL.need 3 (by kernel_rfl)
    have e3 := q1 3 _ rfl l3
    have l7 : L 7 = true := hL.need 7 (by kernel_rfl)
    have lm : L 11 = true := hL.need 11 (by kernel_rfl)
    have ls : L 14 = true := hL.need 14 (by kernel_rfl)
    obtain ⟨A1, e7, hr⟩ := q7 l7
    obtain ⟨g, mv, em, hk, hl, ho, hmv⟩ := qm lm
    obtain ⟨A3, es, hs⟩ := qs ls
    refine gen_plain rfl ?_
    simp only [e3, e7, em, es]
    go_simp
    exact gr_val (HI.out _ _ _ ⟨⟨qB, qk⟩, kn_free q1 rfl, q7, qm, qs, (fun _ => ⟨A1, g, mv, A3, rfl, hr, hs, hk, hl, ho, hmv⟩), qz⟩)
  refine gent_consR (fun vs L w1 hL hw1 => ?_) ?_
  · obtain ⟨⟨qB, qk⟩, q1, q7, qm, qs, qb, qz⟩ := HO.out _ _ _ hw1
    have lb : L 15 = true := hL.need 15 (by kernel_rfl)
    obtain ⟨A1, g, mv, A3, eb, hr, hs, hk, hl, ho, hmv⟩ := qb lb
    refine gen_plain rfl ?_
    simp only [eb]
    go_simp
    have hg := (Below.refl w1.heap.size w1).alloc (Nat.le_refl _) (Obj.cells #[.int .i64 K, .slice A1 1 1, .slice (some ⟨g, 0, none⟩) 1 1, .slice A3 1 1] 48)
    have hb := Blk.new w1 48 #[.int .i64 K, .slice A1 1 1, .slice (some ⟨g, 0, none⟩) 1 1, .slice A3 1 1]
    exact gr_val (HI.out _ _ _ ⟨⟨below_grows qB (Nat.le_refl _) hg, qk.grows hg⟩, kn_free q1 rfl, (fun h => by obtain ⟨A, e, hr⟩ := q7 h; exact ⟨A, e, hr.grows hg⟩), (fun h => by obtain ⟨g, mv, e, hk, hl, ho, hmv⟩ := qm h; exact ⟨g, mv, e, hk.grows hg, hl, ho.grows hg, hmv⟩), (fun h => by obtain ⟨A, e, hr⟩ := qs h; exact ⟨A, e, hr.grows hg⟩), (fun h => by obtain ⟨A1, g, mv, A3, e, hr, hs, hk, hl, ho, hmv⟩ := qb h; exact ⟨A1, g, mv, A3, e, hr.grows hg, hs.grows hg, hk.grows hg, hl, ho.grows hg, hmv⟩), (fun _ => ⟨w1.heap.size, A1, g, mv, A3, rfl, hb, hr.grows hg, hs.grows hg, hk.grows hg, ho.grows hg, hmv⟩)⟩)
  refine gent_nil ?_
  intro vs L W2 hall hS
  obtain ⟨⟨hB2, qk⟩, q1, -, -, -, -, qz⟩ := HO.out _ _ _ hS
  obtain ⟨G, A1, gm, mv, A3, ez, hG, hr, hs, hm, ho, hmv⟩ := qz (hall 16 (by omega))
  have e0 := q1 0 _ rfl (hall 0 (by omega))
  have e1 := q1 1 _ rfl (hall 1 (by omega))
  have e2 := q1 2 _ rfl (hall 2 (by omega))
  have e3 := q1 3 _ rfl (hall 3 (by omega))
  have e4 := q1 4 _ rfl (hall 4 (by omega))
  have e5 := q1 5 _ rfl (hall 5 (by omega))
  have e6 := q1 6 _ rfl (hall 6 (by omega))
  have e8 := q1 8 _ rfl (hall 8 (by omega))
  have e9 := q1 9 _ rfl (hall 9 (by omega))
  have e10 := q1 10 _ rfl (hall 10 (by omega))
  have e12 := q1 12 _ rfl (hall 12 (by omega))
  have e13 := q1 13 _ rfl (hall 13 (by omega))
  clear hall hS HI HO q1 qz hB k1 x1 qk
  simp only [e0, e1, e2, e3, e4, e5, e6, e8, e9, e10, e12, e13, ez]
  clear e0 e1 e2 e3 e4 e5 e6 e8 e9 e10 e12 e13 ez
  subst hmv
  have hB := hB2
  have hmr : MapsR W2 (fun _ => True) (some ⟨gm, 0, none⟩) [x.m] := maps_one hm trivial (InB.mono ho (fun _ _ => trivial)) hci
  have hp : BoxP W2 (fun _ => True) ⟨K, [(x.r, x.r)], [x.m], [(x.s, x.s)]⟩ A1 1 (some ⟨gm, 0, none⟩) 1 A3 1 := ⟨RdB.mono hr (fun _ _ => trivial), hmr, RdB.mono hs (fun _ _ => trivial), Nat.le_refl _, Nat.le_refl _, Nat.le_refl _⟩
  have hok : OKB ⟨K, [(x.r, x.r)], [x.m], [(x.s, x.s)]⟩ := okb_one K hxm
  have hL := bxs_blk hp hG rfl
  obtain ⟨z, hz⟩ : ∃ z : Bx, z = ⟨K, [(x.r, x.r)], [x.m], [(x.s, x.s)]⟩ := ⟨_, rfl⟩
  rw [← hz] at hL hok
  have HE : Hid (singleF x = boxesF [z]) := Lib.hid (by
    rw [HS.out, ← hz]
    unfold boxesF validL
    simp)
  have hcon := (rlist_any (some ⟨G, 0, none⟩) 1 (fun _ => True) [z] W2 hL (by simp) (fun b hb => by simp only [List.mem_singleton] at hb; exact hb ▸ hok) (by simp))
  have HC := Lib.hid hcon
  clear hcon hr hs hm ho hmr hp hok hz hG hL hB2
  go_wp2_with fail
  refine HC.out.mono ?_
  rintro e w5 ⟨⟨A4, c4, rfl, hc4, hbx⟩, hq⟩
  replace hB := below_grows hB (Nat.le_refl _) hq
  replace hbx := hbx.grows hq
  generalize boxesF [z] = zs at *
  go_wp2
  go_ret
  rw [HE.out]
  exact ⟨⟨_, _, rfl, hc4, hbx⟩, hB⟩
end Go.Proofs.YtnbdpnlepcjmmaaGreat

namespace Go.Proofs.YtnbdpnlepcjmmaaGreat
open Go.ChangeShapes Go.WideShapes Go.RowKit Go.Deep
section
variable {H : Type} {enc : TypeId × Value → H} {P : Program} {w : World} {base : Nat} {spare : Nat → Bool} {held : Bool} {r : Reach} {b0 : Nat}
/-- A struct of one-cell fields: its cells, each with its own reading. -/
theorem open_flat {t : TypeId} {fs : Array Field} {v : Value} {d : DataW H} {p : List MemPlace} (ht : P.underlying t = some (.struct fs)) (hone : oneCellFields P fs = true) (hC : P.cellsOf t = fs.size)
 (hv : Value.okWide P w r b0 t v) (h : DataW.Trod enc P w base spare held t v d p) :
 ∃ l : List Value, v = .agg l.toArray ∧ l.length = fs.size ∧ ∀ (i : Nat) (f : Field), fs[i]? = some f → ∃ (x : Value) (n : Nat) (y : DataW H × List MemPlace), l[i]? = some x ∧ DataW.trod enc P w base spare held n f.type [x] = some y := by
 obtain ⟨cs, rfl, hsz⟩ := okWide_struct ht hv
 obtain ⟨fuel, hf⟩ := h
 obtain ⟨xs, n, _, _, hcl, hlen, hg⟩ := DataW.trod_struct ht hf
 have hcs : (Value.agg cs).cells.toList = cs.toList := rfl
 refine ⟨cs.toList, rfl, by simpa [hC] using hsz, fun i f hi => ?_⟩
 obtain ⟨ho, hk⟩ := hone_of hone i f hi
 have hil : i < fs.size := (Array.getElem?_eq_some_iff.1 hi).1
 have hil' : i < cs.toList.length := by simp [hsz, hC, hil]
 have h1 := hg i f hi
 rw [ho, hk] at h1
 have hone' : ((Value.agg cs).cells.toList.drop i).take 1 = [cs.toList[i]] := by
  rw [hcs, List.drop_eq_getElem_cons hil']
  rfl
 rw [hone', List.getElem?_eq_getElem (by omega)] at h1
 exact ⟨cs.toList[i], n, _, List.getElem?_eq_getElem hil', h1⟩
def allInt (P : Program) (k : IntKind) (fs : Array Field) : Bool := fs.toList.all fun f => match P.underlying f.type with | some (.int k') => decide (k' = k) | _ => false
theorem open_ints_agg {t : TypeId} {fs : Array Field} {k : IntKind} {n : Nat} {v : Value} {d : DataW H} {p : List MemPlace} (ht : P.underlying t = some (.struct fs)) (hone : oneCellFields P fs = true) (hC : P.cellsOf t = n) (hn : fs.size = n) (hk : allInt P k fs = true)
 (hv : Value.okWide P w r b0 t v) (h : DataW.Trod enc P w base spare held t v d p) :
 ∃ l : List Int, v = .agg (l.map (Value.int k)).toArray ∧ l.length = n ∧ ∀ a ∈ l, (Lit.int k a).wf = true := by
 obtain ⟨l, rfl, hl, hf⟩ := open_flat ht hone (hC.trans hn.symm) hv h
 have each : ∀ i, i < l.length → ∃ a : Int, l[i]? = some (.int k a) ∧ (Lit.int k a).wf = true := by
  intro i hi
  have hi' : i < fs.size := by omega
  obtain ⟨x, m, y, hx, hy⟩ := hf i fs[i] (Array.getElem?_eq_getElem hi')
  have hki := List.all_eq_true.1 hk fs[i] (by simp)
  split at hki
  ·rename_i k' hu
   have : k' = k := by simpa using hki
   subst this
   obtain ⟨a, h1, _, h3⟩ := DataW.trod_int hu hy
   simp only [List.cons.injEq, and_true] at h1
   exact ⟨a, by rw [hx, h1], h3⟩
  ·cases hki
 have hmap : ∀ l : List Value, (∀ i, i < l.length → ∃ a : Int, l[i]? = some (.int k a) ∧ (Lit.int k a).wf = true) → ∃ z : List Int, l = z.map (Value.int k) ∧ ∀ a ∈ z, (Lit.int k a).wf = true := by
  intro l
  induction l with
  | nil => exact fun _ => ⟨[], rfl, by simp⟩
  | cons x l ih =>
   intro hh
   obtain ⟨a, h1, h2⟩ := hh 0 (by simp)
   obtain ⟨z, rfl, hz⟩ := ih fun i hi => by simpa using hh (i + 1) (by simp; omega)
   simp at h1
   exact ⟨a :: z, by rw [h1]; rfl, by simpa [h2] using hz⟩
 obtain ⟨z, rfl, hz⟩ := hmap l each
 exact ⟨z, rfl, by simpa [hn] using hl, hz⟩
end
theorem i64_bd {n : Int} (h : (Lit.int .i64 n).wf = true) : -9223372036854775808 ≤ n ∧ n ≤ 9223372036854775807 := by
 simpa [Lit.wf, IntKind.min, IntKind.max, IntKind.signed, IntKind.bits] using h
end Go.Proofs.YtnbdpnlepcjmmaaGreat

namespace Go.Proofs.YtnbdpnlepcjmmaaGreat
open Go.ChangeShapes Go.WideShapes Go.RowKit Go.Deep
set_option maxRecDepth 100000 in
/-- A slice of ints among the arguments. -/
theorem open_slice_kind {H : Type} {enc : TypeId × Value → H} {P : Program} {w : World} {r : Reach} {b0 : Nat} {k : IntKind} {t e : TypeId} {v : Value} {d : DataW H} {p : List MemPlace} (ht : P.underlying t = some (.slice e)) (he : P.underlying e = some (.int k)) (hc : P.cellsOf e = 1)
 (hv : Value.okWide P w r b0 t v) (h : DataW.Trod enc P w 0 (fun _ => true) true t v d p) :
 ∃ (A : Option Addr) (c : Nat) (l : List Int), v = .slice A l.length c ∧ Reads w w.heap.size 1 A l.length (l.map (Value.int k)) ∧ l.length ≤ maxLen ∧ l.length ≤ c ∧ ∀ x ∈ l, (Lit.int k x).wf = true := by
 obtain ⟨a0, len, cap, rfl⟩ := okWide_slice ht hv
 obtain ⟨fuel, hf⟩ := h
 rcases open_ints ht he hc hf with ⟨hcs, _⟩ | ⟨a, len', cap', zs, hcs, _, hl, hm, hz, _, hcell, hwz⟩
 ·simp [Value.cells] at hcs
  obtain ⟨rfl, rfl, rfl⟩ := hcs
  exact ⟨none, 0, [], rfl, ⟨by simp, fun h => absurd h (by simp)⟩, by simp, by simp, by simp⟩
 ·simp [Value.cells] at hcs
  obtain ⟨rfl, rfl, rfl⟩ := hcs
  simp only [if_true] at hz
  have hlen : (zs.take len).length = len := by simp; omega
  refine ⟨some a, cap, zs.take len, by rw [hlen], ⟨by simp, fun _ => ⟨a, rfl, ?_, fun j u hu => ?_⟩⟩, by omega, by omega, fun x hx => hwz x (List.mem_of_mem_take hx)⟩
  ·have h0 : 0 < zs.length := by
    rename_i hpos
    rw [hlen] at hpos
    omega
   have := hcell 0 h0
   have hb : (a.add 0).block = a.block := block_of_add a 0
   rw [← hb]
   exact World.block_lt_of_cell? w _ this
  ·rw [List.getElem?_map] at hu
   obtain ⟨x, hx, rfl⟩ := Option.map_eq_some_iff.1 hu
   have hj : j < len := by
    have := (List.getElem?_eq_some_iff.1 hx).1
    rw [hlen] at this
    exact this
   rw [hcell j (by omega)]
   rw [List.getElem?_take, if_pos hj] at hx
   rw [List.getD_eq_getElem?_getD, hx]
   rfl
set_option maxRecDepth 100000 in
theorem u8_bd {n : Int} (h : (Lit.int .u8 n).wf = true) : 0 ≤ n ∧ n ≤ 255 := by
 simpa [Lit.wf, IntKind.min, IntKind.max, IntKind.signed, IntKind.bits] using h
set_option maxRecDepth 100000 in
theorem u16_bd {n : Int} (h : (Lit.int .u16 n).wf = true) : 0 ≤ n ∧ n ≤ 65535 := by
 simpa [Lit.wf, IntKind.min, IntKind.max, IntKind.signed, IntKind.bits] using h
set_option maxRecDepth 100000 in
theorem i16_bd {n : Int} (h : (Lit.int .i16 n).wf = true) : -32768 ≤ n ∧ n ≤ 32767 := by
 simpa [Lit.wf, IntKind.min, IntKind.max, IntKind.signed, IntKind.bits] using h
end Go.Proofs.YtnbdpnlepcjmmaaGreat

namespace Go.Proofs.YtnbdpnlepcjmmaaGreat
open Go.RowKit
theorem validM_len {m : List Int} (h : validM m = true) : m.length ≤ 8 := by
  unfold validM at h
  simp only [Bool.and_eq_true, decide_eq_true_eq] at h
  exact h.1.2
theorem okb_fine {b : Bx} (h : FB b) : OKB b := by
  obtain ⟨f1, f2, f3, f4⟩ := fineB_all.1 h.1
  obtain ⟨g1, g2, g3, g4⟩ := maps_iff.1 f4
  have h1 := ((okS_iff b.r).1 h.r).2.2
  have h2 := ((okS_iff b.s).1 h.s).2.2
  exact ⟨by omega, by omega, by omega, fun x hx => by have := validM_len (g3 x hx); omega⟩
theorem fl_fine {l : List Bx} (h : Fine l) (hl : l.length ≤ 64) : FL l := ⟨fun b hb => ⟨(h b hb).1, (h b hb).2.2.1⟩, hl⟩
theorem small_fine {l : List Bx} (h : Fine l) : Small l := fun b hb => by have := (h b hb).2.2.2; unfold Few at this; omega
theorem FL.okb {l : List Bx} (h : FL l) : ∀ b ∈ l, OKB b := fun b hb => okb_fine (h.1 b hb)
end Go.Proofs.YtnbdpnlepcjmmaaGreat

namespace Go.Proofs.YtnbdpnlepcjmmaaGreat
open Go.RowKit
theorem drop_app {a : List Bx} {p : Bx} {i : Nat} {b : Bx} : ∀ n, n ≤ a.length → dropUp (a ++ [p]) i b n = dropUp a i b n := by
  intro n
  induction n with
  | zero => exact fun _ => rfl
  | succ n ih =>
    intro h
    obtain ⟨c, hc⟩ : ∃ c, a[n]? = some c := ⟨_, List.getElem?_eq_getElem (by omega)⟩
    have hc2 : (a ++ [p])[n]? = some c := by rw [List.getElem?_append_left (by omega)]; exact hc
    rw [drop_next hc, drop_next hc2, ih (by omega)]
theorem drop_more {a : List Bx} {p x : Bx} {j i : Nat} {b : Bx} (hj : a[j]? = some x) (hp : insideB p x = true) (hi : a[i]? = some b) : dropUp (a ++ [p]) i b (a ++ [p]).length = dropUp a i b a.length := by
  have hin := (List.getElem?_eq_some_iff.1 hi).1
  have hl : (a ++ [p]).length = a.length + 1 := by simp
  have hpp : (a ++ [p])[a.length]? = some p := by rw [List.getElem?_append_right (Nat.le_refl _)]; simp
  rw [hl, drop_next hpp, drop_app a.length (Nat.le_refl _)]
  cases hd : dropAt i b a.length p
  · rw [Bool.or_false]
  · rw [Bool.or_true]
    obtain ⟨h1, h2, h3⟩ := dropAt_iff.1 hd
    have h4 : insideB p b = false := by
      rcases h3 with h3 | h3
      · omega
      · exact h3
    have hne : j ≠ i := fun e => by
      subst e
      rw [hj] at hi
      injection hi with hi
      subst hi
      rw [hp] at h4
      cases h4
    have hnx : insideB x b = false := by
      cases e : insideB x b
      · rfl
      · rw [insB_trans hp e] at h4
        cases h4
    exact ((drop_iff a.length).2 ⟨j, x, (List.getElem?_eq_some_iff.1 hj).1, hj, dropAt_iff.2 ⟨hne, insB_trans h2 hp, .inr hnx⟩⟩).symm
theorem reduce_more {a : List Bx} {p x : Bx} {j : Nat} (hj : a[j]? = some x) (hp : insideB p x = true) : reduceL (a ++ [p]) = reduceL a := by
  have hjl := (List.getElem?_eq_some_iff.1 hj).1
  have hl : (a ++ [p]).length = a.length + 1 := by simp
  have key : ∀ n, n ≤ a.length → keepUp (a ++ [p]) n = keepUp a n := by
    intro n
    induction n with
    | zero => exact fun _ => rfl
    | succ n ih =>
      intro h
      obtain ⟨c, hc⟩ : ∃ c, a[n]? = some c := ⟨_, List.getElem?_eq_getElem (by omega)⟩
      have hc2 : (a ++ [p])[n]? = some c := by rw [List.getElem?_append_left (by omega)]; exact hc
      rw [keep_next hc, keep_next hc2, ih (by omega), drop_more hj hp hc]
  have hpp : (a ++ [p])[a.length]? = some p := by rw [List.getElem?_append_right (Nat.le_refl _)]; simp
  have hdp : dropUp (a ++ [p]) a.length p (a ++ [p]).length = true := (drop_iff _).2 ⟨j, x, by omega, by rw [List.getElem?_append_left hjl]; exact hj, dropAt_iff.2 ⟨by omega, hp, .inl hjl⟩⟩
  unfold reduceL
  rw [hl, keep_next hpp, key a.length (Nat.le_refl _), if_pos hdp, List.append_nil]
/-- A box with its first map alone. -/
def cutB (b : Bx) : Bx := ⟨b.k, b.r, b.m.take 1, b.s⟩
theorem cut_inside (b : Bx) : insideB (cutB b) b = true := insB_iff.2 ⟨fun x hx => List.mem_of_mem_take hx, andNot_self _, insF_self _, insF_self _⟩
theorem cut_fine {b : Bx} (h : FB b) : FB (cutB b) := by
  obtain ⟨f1, f2, f3, f4⟩ := fineB_all.1 h.1
  refine ⟨fineB_all.2 ⟨f1, f2, f3, maps_sub f4 (List.take_sublist _ _) ?_⟩, h.2⟩
  show 0 < (b.m.take 1).length
  rw [List.length_take]
  have := h.m0
  omega
theorem fl_more {a : List Bx} (ha : FL a) (hl : a.length ≤ 63) {j : Nat} {x : Bx} (hj : a[j]? = some x) : FL (a ++ [cutB x]) := by
  refine ⟨fun b hb => ?_, by rw [List.length_append, List.length_singleton]; omega⟩
  rcases List.mem_append.1 hb with hb | hb
  · exact ha.1 b hb
  · simp only [List.mem_singleton] at hb
    subst hb
    exact cut_fine (ha.1 x (List.mem_of_getElem? hj))
theorem has_more {a : List Bx} (ha : FL a) (hl : a.length ≤ 63) {j : Nat} {x : Bx} (hj : a[j]? = some x) (c : Ch) : hasL (a ++ [cutB x]) c = hasL a c := by
  have hm := fl_more ha hl hj
  rw [has_app hm]
  cases h : hasL [cutB x] c
  · rw [Bool.or_false]
  · rw [Bool.or_true]
    have h1 : FL [cutB x] := ⟨fun b hb => hm.1 b (List.mem_append_right _ hb), by simp⟩
    obtain ⟨b, hb, hc⟩ := (h1.has c).1 h
    simp only [List.mem_singleton] at hb
    subst hb
    exact ((ha.has c).2 ⟨x, List.mem_of_getElem? hj, insB_has (h1.1 _ (List.mem_singleton.2 rfl)) (ha.1 x (List.mem_of_getElem? hj)) (cut_inside x) hc⟩).symm
end Go.Proofs.YtnbdpnlepcjmmaaGreat

namespace Go.Proofs.YtnbdpnlepcjmmaaGreat
open Go.RowKit
set_option maxHeartbeats 4000000 in
theorem ssame_eq (A A2 : Option Addr) (c c2 : Nat) (l : List Sp) (w : World) (h : Sps w A l) (h2 : Sps w A2 l) (hl : l.length ≤ 9223372036854775807) :
    Calls Tryz.prog 101 #[.agg #[.slice A l.length c], .agg #[.slice A2 l.length c2]] w fun e w' => e = .returned (.bool true) ∧ Grows w w' := by
  have k1 := (Blk.new w 45 #[.slice A l.length c]).alloc (Obj.cells #[.slice A2 l.length c2] 45)
  have k2 := blk_new_at (X := w.alloc (Obj.cells #[.slice A l.length c] 45)) (n := w.heap.size + 1) (t := 45) (cs := #[.slice A2 l.length c2]) (by simp)
  have hB := ((Below.refl w.heap.size w).alloc (Nat.le_refl _) (Obj.cells #[.slice A l.length c] 45)).alloc (by simp) (Obj.cells #[.slice A2 l.length c2] 45)
  go_enter Tryz.func101, Tryz.ntmps101
  go_upto_region 1 with fail
  have h1 := h.grows hB
  have h3 := h2.grows hB
  generalize World.alloc (World.alloc w _) _ = w1 at *
  have x1 := k1.cell 0
  have x2 := k2.cell 0
  go_wp2_with fail
  clear x1 x2
  go_loopw [16] (fun i wr => ∃ k : Nat, k ≤ l.length ∧ i = .int .i64 k ∧ Grows w1 wr) (fun i _ => l.length - (intOf i).toNat)
  case atStart => exact ⟨0, by omega, rfl, Below.refl _ _⟩
  case round =>
    obtain ⟨k, hk, rfl, hg⟩ := hrel
    by_cases hlt : k < l.length
    · obtain ⟨ad, x, rfl, had, hx, c0, c1⟩ := (h1.grows hg).elem hlt
      obtain ⟨ad2, x2, rfl, had2, hx2, d0, d1⟩ := (h3.grows hg).elem hlt
      rw [hx] at hx2
      injection hx2 with hx2
      subst hx2
      clear hx
      have k3 := k1.grows hg
      have k4 := k2.grows hg
      have y1 := k3.cell 0
      have y2 := k4.cell 0
      go_upto_region 6 with fail
      go_region
      replace hg := below_grows hg (Nat.le_refl _) (Grows.drew' wr)
      go_wp2
      go_roundw
      case rel => exact ⟨k + 1, by omega, by go_num, hg⟩
      case measure => simp [intOf]; omega
    · go_wp2
      go_ret
      exact ⟨rfl, below_grows hB (Nat.le_refl _) hg⟩
set_option maxHeartbeats 32000000 in
set_option maxRecDepth 10000 in
theorem samebox_eq {ba bb : Nat → Prop} {b : Bx} {A1 A2 A3 B1 B2 B3 : Option Addr} {c1 c2 c3 d1 d2 d3 : Nat} {w : World} (hpa : BoxP w ba b A1 c1 A2 c2 A3 c3) (hpb : BoxP w bb b B1 d1 B2 d2 B3 d3) (hl : OKB b) :
    Calls Tryz.prog 57 #[.agg #[.int .i64 b.k, .slice A1 b.r.length c1, .slice A2 b.m.length c2, .slice A3 b.s.length c3], .agg #[.int .i64 b.k, .slice B1 b.r.length d1, .slice B2 b.m.length d2, .slice B3 b.s.length d3]] w fun e w' => e = .returned (.bool true) ∧ Grows w w' := by
  obtain ⟨hlr, hls, hlm, hlx⟩ := hl
  have HLX := Lib.hid hlx
  clear hlx
  have ka := ((Blk.new w 48 #[.int .i64 b.k, .slice A1 b.r.length c1, .slice A2 b.m.length c2, .slice A3 b.s.length c3]).alloc (Obj.cells #[.int .i64 b.k, .slice B1 b.r.length d1, .slice B2 b.m.length d2, .slice B3 b.s.length d3] 48))
  have kb := (Blk.new (w.alloc (Obj.cells #[.int .i64 b.k, .slice A1 b.r.length c1, .slice A2 b.m.length c2, .slice A3 b.s.length c3] 48)) 48 #[.int .i64 b.k, .slice B1 b.r.length d1, .slice B2 b.m.length d2, .slice B3 b.s.length d3])
  have hB := (((Below.refl w.heap.size w).alloc (Nat.le_refl _) (Obj.cells #[.int .i64 b.k, .slice A1 b.r.length c1, .slice A2 b.m.length c2, .slice A3 b.s.length c3] 48)).alloc (by simp) (Obj.cells #[.int .i64 b.k, .slice B1 b.r.length d1, .slice B2 b.m.length d2, .slice B3 b.s.length d3] 48))
  go_enter Tryz.func57, Tryz.ntmps57
  go_upto_region 1 with fail
  have hs1 : (w.alloc (Obj.cells #[.int .i64 b.k, .slice A1 b.r.length c1, .slice A2 b.m.length c2, .slice A3 b.s.length c3] 48)).heap.size = w.heap.size + 1 := by simp
  rw [hs1] at kb
  clear hs1
  generalize World.alloc (World.alloc w _) _ = w2 at *
  generalize hG1 : w.heap.size + 1 = G1 at *
  have HG1 := Lib.hid hG1
  clear hG1
  have xa := ka.cell
  have xb := kb.cell
  go_wp2_with fail
  refine (ssame_eq A1 B1 c1 d1 b.r _ (hpa.r.grows hB).sps (hpb.r.grows hB).sps (by omega)).mono ?_
  rintro e w3 ⟨rfl, hq⟩
  replace hB := below_grows hB (Nat.le_refl _) hq
  replace ka := ka.grows hq
  replace kb := kb.grows hq
  clear hq xa xb
  have xa := ka.cell
  have xb := kb.cell
  go_wp2_with fail
  refine (ssame_eq A3 B3 c3 d3 b.s _ (hpa.s.grows hB).sps (hpb.s.grows hB).sps (by omega)).mono ?_
  rintro e w4 ⟨rfl, hq⟩
  replace hB := below_grows hB (Nat.le_refl _) hq
  replace ka := ka.grows hq
  replace kb := kb.grows hq
  clear hq xa xb
  have xa := ka.cell
  have xb := kb.cell
  go_wp2_with fail
  clear xa xb
  go_loopw [39] (fun i wr => ∃ k : Nat, k ≤ b.m.length ∧ i = .int .i64 k ∧ Blk wr w.heap.size 48 #[.int .i64 b.k, .slice A1 b.r.length c1, .slice A2 b.m.length c2, .slice A3 b.s.length c3] ∧ Blk wr G1 48 #[.int .i64 b.k, .slice B1 b.r.length d1, .slice B2 b.m.length d2, .slice B3 b.s.length d3] ∧ Below w.heap.size w wr) (fun i _ => b.m.length - (intOf i).toNat)
  case atStart => exact ⟨0, by omega, rfl, ka, kb, hB⟩
  case round =>
    clear ka kb hB
    obtain ⟨k, hk, rfl, ka, kb, hB⟩ := hrel
    by_cases hlt : k < b.m.length
    · obtain ⟨ad, x, C, cx, e1, had, hx, q0, hcx, hix⟩ := (hpa.m.grows hB).elem hlt
      obtain ⟨ad2, y, D, cy, e2, had2, hy, p0, hcy, hiy⟩ := (hpb.m.grows hB).elem hlt
      rw [hx] at hy
      injection hy with hy
      subst hy
      subst e1
      subst e2
      have hxl := HLX.out x (List.mem_of_getElem? hx)
      clear hx
      have HC : Hid (∀ w0, Grows wr w0 → Calls Tryz.prog 82 #[.slice C x.length cx, .slice D x.length cy] w0 fun e w' => e = .returned (.bool true) ∧ Grows w0 w') := Lib.hid fun w0 h => by
        have := rsame6_any C D cx cy x x w0 (hix.ints.grows h) (hiy.ints.grows h) (by omega) (by omega)
        simpa using this
      go_upto_region 6 with fail
      refine wp_region_mix (fun w' => Grows wr w') [] 12 55 (by kernel_rfl) (by kernel_rfl) rfl ?_ float_none ?_ ?_
      · exact fun w1 w2 h0 hg => below_grows h0 (Nat.le_refl _) hg
      · exact Grows.drew' _
      · skip
        simp only [List.take_succ_cons, List.take_zero, List.drop_succ_cons, List.drop_zero]
        iterate 12
          refine calm_plain rfl rfl (v := ?_) (a' := ?_) (fun w1 hw1 => ?_) ?_ ?_
          rotate_left 2
          · have h0 := hw1
            have xa := (ka.grows h0).cell
            have xb := (kb.grows h0).cell
            have r0 := (h0.cell (p := ad.add k) (by rw [block_of_add]; exact had)).trans q0
            have r1 := (h0.cell (p := ad2.add k) (by rw [block_of_add]; exact had2)).trans p0
            go_simp
            first | exact calm_val | (refine calm_call ?_; with_reducible exact HC.out _ h0)
          · simp only [Act.put, List.setIfInBounds_toArray, List.set_cons_succ, List.set_cons_zero]
            rfl
        refine calm_done (end_none ?_)
        intro wq hg
        replace hB := below_grows hB (Nat.le_refl _) hg
        replace ka := ka.grows hg
        replace kb := kb.grows hg
        clear hg q0 p0 HC hix hiy
        go_wp2
        go_roundw
        case rel => exact ⟨k + 1, by omega, by go_num, ka, kb, hB⟩
        case measure => simp [intOf]; omega
    · go_wp2
      go_ret
      exact ⟨rfl, hB⟩
set_option maxHeartbeats 32000000 in
set_option maxRecDepth 10000 in
theorem same_eq {ba bb : Nat → Prop} {A B : Option Addr} {c d n m : Nat} {l : List Bx} {w : World} (hn : n = l.length) (hm : m = l.length) (ha : Bxs w ba A l) (hb : Bxs w bb B l) (hl : l.length ≤ 1000000) (ho : ∀ b ∈ l, OKB b) :
    Calls Tryz.prog 21 #[.slice A n c, .slice B m d] w fun e w' => e = .returned (.bool true) ∧ Grows w w' := by
  subst hn
  subst hm
  have HO := Lib.hid ho
  clear ho
  have hB := Below.refl w.heap.size w
  go_enter Tryz.func21, Tryz.ntmps21
  go_wp2_with fail
  go_loopw [13] (fun i wr => ∃ k : Nat, k ≤ l.length ∧ i = .int .i64 k ∧ Below w.heap.size w wr) (fun i _ => l.length - (intOf i).toNat)
  case atStart => exact ⟨0, by omega, rfl, hB⟩
  case round =>
    clear hB
    obtain ⟨k, hk, rfl, hB⟩ := hrel
    by_cases hlt : k < l.length
    · obtain ⟨ad, b, A1, c1, A2, c2, A3, c3, e1, had, hx, hpa, q0, q1, q2, q3⟩ := (ha.grows hB).elem hlt
      obtain ⟨ad2, y, B1, d1, B2, d2, B3, d3, e2, had2, hy, hpb, p0, p1, p2, p3⟩ := (hb.grows hB).elem hlt
      rw [hx] at hy
      injection hy with hy
      subst hy
      subst e1
      subst e2
      have hob := HO.out b (List.mem_of_getElem? hx)
      clear hx
      have HC : Hid (∀ w0, Grows wr w0 → Calls Tryz.prog 57 #[.agg #[.int .i64 b.k, .slice A1 b.r.length c1, .slice A2 b.m.length c2, .slice A3 b.s.length c3], .agg #[.int .i64 b.k, .slice B1 b.r.length d1, .slice B2 b.m.length d2, .slice B3 b.s.length d3]] w0 fun e w' => e = .returned (.bool true) ∧ Grows w0 w') := Lib.hid fun w0 h => samebox_eq (hpa.grows h) (hpb.grows h) hob
      go_upto_region 6 with fail
      refine wp_region_mix (fun w' => Grows wr w') [] 10 27 (by kernel_rfl) (by kernel_rfl) rfl ?_ float_none ?_ ?_
      · exact fun w1 w2 h0 hg => below_grows h0 (Nat.le_refl _) hg
      · exact Grows.drew' _
      · skip
        simp only [List.take_succ_cons, List.take_zero, List.drop_succ_cons, List.drop_zero]
        iterate 10
          refine calm_plain rfl rfl (v := ?_) (a' := ?_) (fun w1 hw1 => ?_) ?_ ?_
          rotate_left 2
          · have h0 := hw1
            have r0 := (h0.cell (p := ad.add (k * 4)) (by rw [block_of_add]; exact had)).trans q0
            have r1 := (h0.cell (p := ⟨(ad.add (k * 4)).block, (ad.add (k * 4)).off + 1, none⟩) (by simp only [block_of_add]; exact had)).trans q1
            have r2 := (h0.cell (p := ⟨(ad.add (k * 4)).block, (ad.add (k * 4)).off + 2, none⟩) (by simp only [block_of_add]; exact had)).trans q2
            have r3 := (h0.cell (p := ⟨(ad.add (k * 4)).block, (ad.add (k * 4)).off + 3, none⟩) (by simp only [block_of_add]; exact had)).trans q3
            have s0 := (h0.cell (p := ad2.add (k * 4)) (by rw [block_of_add]; exact had2)).trans p0
            have s1 := (h0.cell (p := ⟨(ad2.add (k * 4)).block, (ad2.add (k * 4)).off + 1, none⟩) (by simp only [block_of_add]; exact had2)).trans p1
            have s2 := (h0.cell (p := ⟨(ad2.add (k * 4)).block, (ad2.add (k * 4)).off + 2, none⟩) (by simp only [block_of_add]; exact had2)).trans p2
            have s3 := (h0.cell (p := ⟨(ad2.add (k * 4)).block, (ad2.add (k * 4)).off + 3, none⟩) (by simp only [block_of_add]; exact had2)).trans p3
            go_simp
            first | exact calm_val | (refine calm_call ?_; with_reducible exact HC.out _ h0)
          · simp only [Act.put, List.setIfInBounds_toArray, List.set_cons_succ, List.set_cons_zero]
            rfl
        refine calm_done (end_none ?_)
        intro wq hg
        replace hB := below_grows hB (Nat.le_refl _) hg
        clear hg q0 q1 q2 q3 p0 p1 p2 p3 HC hpa hpb
        go_wp2
        go_roundw
        case rel => exact ⟨k + 1, by omega, by go_num, hB⟩
        case measure => simp [intOf]; omega
    · go_wp2
      go_ret
      exact ⟨rfl, hB⟩
end Go.Proofs.YtnbdpnlepcjmmaaGreat

namespace Go.Proofs.YtnbdpnlepcjmmaaGreat
open Go.ChangeShapes Go.WideShapes Go.ChangeAt Go.RowKit
theorem gr_append_boxesq {o : Oper} {ev : Operand → Value} {w : World} {T : Value → World → Prop} (s x : Operand) (ho : o.op = .call { callee := .builtin .append, args := #[s, x], argTypes := #[22, 22] })
    {base : Nat} {ok : Nat → Prop} {v : Value} {l m : List Bx} {A : Option Addr} {c n : Nat} (hn : n = m.length) (hs : ev s = v) (hown : OwnBq w base ok v l) (hx : ev x = .slice A n c) (hr : Bxs w (Aq ok v) A m) (hlen : l.length + m.length ≤ 1000000) (hbase : base ≤ w.heap.size)
    (h : ∀ v' w', OwnBq w' base ok v' (l ++ m) → w.grownBy w' v.ownBlock → (v'.ownBlock = v.ownBlock ∨ v'.ownBlock = some w.heap.size) → T v' w') : genR Tryz.prog T ((execOp ev o).run Tryz.prog w) := by
  obtain ⟨i0, hi0, hi1, hi2, hi3, hi4⟩ := box_info
  obtain ⟨vs, h1, h2⟩ := hown
  obtain ⟨us, r1, r2⟩ := hr
  subst hn
  have hul := r1.1.1
  have hvl := h1.1
  obtain ⟨v', w', hrun, h3, h4, h5⟩ := run_append_any (P := Tryz.prog) w base 22 o.type 48 i0 _ 4 80 Tryz.underlying22 hi0 hi3 hi1 hi2 hi4 (by omega) v l.length vs h1 w.heap.size A m.length c us r1.1 (bxs_one hul fun i b hb => by obtain ⟨A1, c1, A2, c2, A3, c3, _, hc⟩ := r2 i b hb; exact ⟨A1, c1, A2, c2, A3, c3, hc⟩) (by simp only [maxLen]; omega) (by omega) hbase
  unfold execOp
  simp only [ho, resolve, invoke, builtin, Sem.run_bind, Sem.run_pure, Result.andThen_ok, List.map_toArray, List.map_cons, List.map_nil, hs, hx, hrun]
  refine h v' w' ⟨vs ++ us, by rw [List.length_append]; exact h3, fun i b hb => ?_⟩ h4 h5
  have hto : ∀ (b : Bx) (A1 : Option Addr) (c1 : Nat) (A2 : Option Addr) (c2 : Nat) (A3 : Option Addr) (c3 : Nat), BoxP w (Aq ok v) b A1 c1 A2 c2 A3 c3 → BoxP w' (Aq ok v') b A1 c1 A2 c2 A3 c3 := by
    intro b A1 c1 A2 c2 A3 c3 hp
    refine (hp.band.grown h4 (fun q e hq => hq.1.2 e)).mono fun k hk => ⟨hk.1.1, fun e => ?_⟩
    rcases h5 with h5 | h5
    · exact hk.1.2 (h5 ▸ e)
    · rw [h5] at e
      injection e with e
      have := hk.2
      omega
  by_cases hi : i < l.length
  · rw [List.getElem?_append_left hi] at hb
    obtain ⟨A1, c1, A2, c2, A3, c3, hp, hc⟩ := h2 i b hb
    exact ⟨A1, c1, A2, c2, A3, c3, hto _ _ _ _ _ _ _ hp, fun j hj => by rw [List.getElem?_append_left (by omega)]; exact hc j hj⟩
  · rw [List.getElem?_append_right (by omega)] at hb
    obtain ⟨A1, c1, A2, c2, A3, c3, hp, hc⟩ := r2 _ b hb
    exact ⟨A1, c1, A2, c2, A3, c3, hto _ _ _ _ _ _ _ hp, fun j hj => by rw [List.getElem?_append_right (by omega), show i * 4 + j - vs.length = (i - l.length) * 4 + j by omega]; exact hc j hj⟩
namespace OfferInside
set_option maxHeartbeats 32000000 in
set_option maxRecDepth 10000 in
theorem walk (A : Option Addr) (c0 : Nat) (sd : List Int) (w : World) (h0 : Reads w w.heap.size 1 A sd.length (sd.map (Value.int .u8))) (hc : sd.length ≤ c0) (hl : sd.length ≤ 9223372036854775807) (hwf : ∀ x ∈ sd, 0 ≤ x ∧ x ≤ 255) (kk : Int) (hkk : 0 ≤ kk ∧ kk ≤ 255) :
    Calls Tryz.prog 4 #[.slice A sd.length c0, .int .u8 kk] w fun e w' => e = .returned (.bool true) ∧ Grows w w' := by
  have hB := Below.refl w.heap.size w
  go_enter Tryz.func4, Tryz.ntmps4
  go_wp2_with fail
  refine (sane_any w).mono ?_
  rintro e w1 ⟨rfl, hq⟩
  replace hB := below_grows hB (Nat.le_refl _) hq
  replace h0 := Reads.grows h0 hq
  have hs1 := hB.size
  clear hq
  go_wp2_with fail
  refine (made_any A c0 sd w1 h0 hc hl hwf).mono ?_
  rintro e w2 ⟨⟨g, a, b, c, A1, c1, A2, c2, v, rfl, hxa, hxb, hc1, hc2, hfa, hfb, hla, hlb, ⟨A3, n3, rfl, hn3, hic⟩, hokc, hD, hsz⟩, hq⟩
  replace hB := below_grows hB (Nat.le_refl _) hq
  clear hq h0
  have HFA := Lib.hid hfa
  have HFB := Lib.hid hfb
  have fla := fl_fine hfa (by omega)
  have flb := fl_fine hfb (by omega)
  have sma := small_fine hfa
  have smb := small_fine hfb
  clear hfa hfb
  have hg2 := hD.lt
  go_upto_region 4 with fail
  have k5 := Blk.new w2 27 #[.int .i64 c.k, .int .i64 c.r, .slice A3 c.m.length n3, .int .i64 c.s]
  have hq := (Below.refl w2.heap.size w2).alloc (Nat.le_refl _) (Obj.cells #[.int .i64 c.k, .int .i64 c.r, .slice A3 c.m.length n3, .int .i64 c.s] 27)
  replace hB := below_grows hB (Nat.le_refl _) hq
  replace hxa := hxa.grows hq
  replace hxb := hxb.grows hq
  replace hic := hic.grows hq
  replace hD := hD.grows hq
  clear hq
  generalize w2.heap.size = q5 at *
  generalize World.alloc w2 _ = w3 at *
  by_cases ha0 : a.length = 0
  · have d1 : ((a.length : Int) == 0) = true := by simp only [beq_iff_eq]; omega
    clear hxa hxb hic hD k5 HFA HFB fla flb
    go_wp2
    go_ret
    exact ⟨rfl, hB⟩
  have d1 : ((a.length : Int) == 0) = false := by simp only [beq_eq_false_iff_ne, ne_eq]; omega
  have hm0 := Int.emod_nonneg kk (show (a.length : Int) ≠ 0 by omega)
  have hm1 := Int.emod_lt_of_pos kk (show (0 : Int) < (a.length : Int) by omega)
  obtain ⟨j, hj⟩ : ∃ j : Nat, kk % (a.length : Int) = (j : Int) := ⟨(kk % (a.length : Int)).toNat, by omega⟩
  rw [hj] at hm0 hm1
  have hjl : j < a.length := by omega
  have hk0 := hkk.1
  obtain ⟨ad, x, E1, f1, E2, f2, E3, f3, ea, had, hx, hp, q0, q1, q2, q3⟩ := hxa.elem hjl
  subst ea
  have FX := fla.1 x (List.mem_of_getElem? hx)
  have hx0 := FX.m0
  have he2 := hp.cm
  have HX := Lib.hid hx
  have fm := fl_more fla (by omega) hx
  have HRM := Lib.hid (reduce_more hx (cut_inside x))
  have HMH := Lib.hid (has_more fla (by omega) hx)
  have HFM := Lib.hid fm
  have HFAL := Lib.hid fla
  have fab : FL (a ++ b) := ⟨fun z hz => (List.mem_append.1 hz).elim (fla.1 z) (flb.1 z), by rw [List.length_append]; omega⟩
  have HFAB := Lib.hid fab
  have HABH := Lib.hid (has_app fab)
  have HOA := Lib.hid fla.okb
  have HOB := Lib.hid flb.okb
  have HRA : Hid (reduceF a = (reduceL a, 0)) := Lib.hid (if_pos fla.valid)
  have HRB : Hid (reduceF (a ++ [cutB x]) = (reduceL a, 0)) := Lib.hid (by rw [← HRM.out]; exact if_pos fm.valid)
  clear hx fm fab fla flb
  have hlt5 := k5.lt
  have hw3 := hB.size
  replace hxa := hxa.under
  replace hxb := hxb.under
  replace hic := RdB.under hic
  replace hp := hp.under
  have hm1 : (x.m.take 1).length = 1 := by rw [List.length_take]; omega
  have hpc : BoxP w3 (Under w3.heap.size) (cutB x) E1 f1 E2 f2 E3 f3 := ⟨hp.r, hp.m.take (by omega), hp.s, hp.cr, by show (x.m.take 1).length ≤ f2; omega, hp.cs⟩
  have HPC : Hid ((#[.int .i64 x.k, .slice E1 x.r.length f1, .slice E2 1 f2, .slice E3 x.s.length f3] : Array Value) = #[.int .i64 (cutB x).k, .slice E1 (cutB x).r.length f1, .slice E2 (cutB x).m.length f2, .slice E3 (cutB x).s.length f3]) := Lib.hid (by show _ = (#[.int .i64 x.k, .slice E1 x.r.length f1, .slice E2 (x.m.take 1).length f2, .slice E3 x.s.length f3] : Array Value); rw [hm1])
  have he2b : 1 ≤ f2 := by omega
  have k9 := Blk.new w3 48 #[.int .i64 x.k, .slice E1 x.r.length f1, .slice E2 x.m.length f2, .slice E3 x.s.length f3]
  have hq := (Below.refl w3.heap.size w3).alloc (Nat.le_refl _) (Obj.cells #[.int .i64 x.k, .slice E1 x.r.length f1, .slice E2 x.m.length f2, .slice E3 x.s.length f3] 48)
  go_upto_region 7 with fail
  replace hB := below_grows hB (Nat.le_refl _) hq
  replace k5 := k5.grows hq
  replace hxa := hxa.grows hq
  replace hxb := hxb.grows hq
  replace hic := hic.grows hq
  replace hpc := hpc.grows hq
  clear hq
  clear q0 q1 q2 q3 hD hp hm1
  generalize w3.heap.size = q9 at *
  generalize World.alloc w3 _ = w4 at *
  have x9 := k9.cell
  have f9 := k9.frozen
  have k9n := k9.set_ 2 (.slice E2 1 f2)
  have hch := d_only_set (World.grownBy.refl w4 (some q9)) 2 (.slice E2 1 f2)
  replace hxa := hxa.grown hch (fun q e hh => by injection e with e; unfold Under at hh; omega)
  replace hxb := hxb.grown hch (fun q e hh => by injection e with e; unfold Under at hh; omega)
  replace hpc := hpc.grown hch (fun q e hh => by injection e with e; unfold Under at hh; omega)
  replace hic := RdB.grown hic hch (fun q e hh => by injection e with e; unfold Under at hh; omega)
  replace k5 := k5.far (p := ⟨q9, 2, none⟩) (Nat.ne_of_lt hlt5) (.slice E2 1 f2)
  replace hB := hB.setCell (p := ⟨q9, 2, none⟩) (show w.heap.size ≤ q9 by omega) (.slice E2 1 f2)
  clear k9 hch
  go_upto_region 8 with fail
  clear x9 f9
  generalize World.setCell w4 _ _ = w5 at *
  have k9 : Blk w5 q9 48 #[.int .i64 x.k, .slice E1 x.r.length f1, .slice E2 1 f2, .slice E3 x.s.length f3] := k9n
  clear k9n
  obtain ⟨p, hpe⟩ : ∃ p, p = cutB x := ⟨_, rfl⟩
  rw [← hpe] at hpc
  have HPE := Lib.hid hpe
  have HPC2 : Hid ((#[.int .i64 x.k, .slice E1 x.r.length f1, .slice E2 1 f2, .slice E3 x.s.length f3] : Array Value) = #[.int .i64 p.k, .slice E1 p.r.length f1, .slice E2 p.m.length f2, .slice E3 p.s.length f3]) := Lib.hid (by rw [hpe]; exact HPC.out)
  rw [← hpe] at HRB HMH HFM
  clear hpe HPC
  obtain ⟨S, HI, HO⟩ := hideS fun (L : Ran) (vs : Nat → Value) (w' : World) => (Grows w5 w' ∧ KnS [some (.slice (some ad) a.length c1), none, some (.agg #[.int .i64 x.k, .slice E1 x.r.length f1, .slice E2 1 f2, .slice E3 x.s.length f3]), none, none] L vs ∧ (L 4 = true → L 1 = true ∧ L 3 = true) ∧ (L 1 = true → L 4 = false → OwnBq w' w5.heap.size (fun _ => True) (vs 1) a) ∧ (L 3 = true → L 4 = false → ∃ gb : Nat, vs 3 = .slice (some ⟨gb, 0, none⟩) 1 1 ∧ w5.heap.size ≤ gb ∧ Blk w' gb 48 #[.int .i64 x.k, .slice E1 x.r.length f1, .slice E2 1 f2, .slice E3 x.s.length f3]) ∧ (L 1 = true → L 3 = true → L 4 = false → ∀ q, vs 3 = .slice (some ⟨q, 0, none⟩) 1 1 → (vs 1).ownBlock ≠ some q) ∧ (L 4 = true → OwnBq w' w5.heap.size (fun _ => True) (vs 4) (a ++ [p])))
  refine wp_region_genT S 5 93 (by kernel_rfl) (by kernel_rfl) rfl ?_ ?_
  · exact HI.out _ _ _ ⟨Grows.drew' _, kn_none _ _, (fun h => by cases h), (fun h => by cases h), (fun h => by cases h), (fun h => by cases h), (fun h => by cases h)⟩
  simp only [List.take_succ_cons, List.take_zero, List.drop_succ_cons, List.drop_zero]
  refine gent_consR (fun vs L w1 hL hw1 => ?_) ?_
  · obtain ⟨q0, q1, c4, p1, p3, pq, p4⟩ := HO.out _ _ _ hw1
    refine gen_plain rfl ?_
    go_simp
    exact gr_val (HI.out _ _ _ ⟨q0, kn_known q1 rfl, c4, p1, p3, pq, p4⟩)
  refine gent_consR (fun vs L w1 hL hw1 => ?_) ?_
  · obtain ⟨q0, q1, c4, p1, p3, pq, p4⟩ := HO.out _ _ _ hw1
    have n1 : L 1 = false := hL.1
    have n4 : L 4 = false := by
      cases h : L 4
      · rfl
      · rw [(c4 h).1] at n1; cases n1
    have l0 : L 0 = true := hL.need 0 (by kernel_rfl)
    have e0 := q1 0 _ rfl l0
    refine gen_plain rfl ?_
    refine gr_append_boxesq (.const (.slice none 0 0)) (.tmp 40) rfl (v := .slice none 0 0) (base := w5.heap.size) (ok := fun _ => True) (l := []) (m := a) rfl rfl OwnBq.nil e0 ((hxa.grows q0).mono fun k _ => ⟨trivial, by simp [Value.ownBlock]⟩) (by simp only [List.length_nil]; omega) q0.size ?_
    intro v' w2 ho hgr hv
    rw [List.nil_append] at ho
    exact HI.out _ _ _ ⟨Below.grown q0 hgr q0.size (fun q e => by simp [Value.ownBlock] at e), kn_free q1 rfl, (fun h => by rw [show L 4 = true from h] at n4; cases n4), (fun _ _ => ho), (fun l3 _ => by obtain ⟨gb, e, hge, hk⟩ := p3 l3 n4; exact ⟨gb, e, hge, hk.grown hgr (by simp [Value.ownBlock])⟩), (fun _ l3 _ q e e2 => by
      obtain ⟨gb, e3, hge, hk⟩ := p3 l3 n4
      rw [show vs 3 = _ from e] at e3
      injection e3 with e3
      injection e3 with e3
      injection e3 with e3
      have := hk.lt
      rcases hv with hv | hv
      · rw [show setV vs 1 v' 1 = v' from rfl, hv] at e2; simp [Value.ownBlock] at e2
      · rw [show setV vs 1 v' 1 = v' from rfl, hv] at e2; injection e2 with e2; omega), (fun h => by rw [show L 4 = true from h] at n4; cases n4)⟩
  refine gent_consR (fun vs L w1 hL hw1 => ?_) ?_
  · obtain ⟨q0, q1, c4, p1, p3, pq, p4⟩ := HO.out _ _ _ hw1
    have xc := (k9.grows q0).cell
    refine gen_plain rfl ?_
    go_simp
    exact gr_val (HI.out _ _ _ ⟨q0, kn_known q1 rfl, c4, p1, p3, pq, p4⟩)
  refine gent_consR (fun vs L w1 hL hw1 => ?_) ?_
  · obtain ⟨q0, q1, c4, p1, p3, pq, p4⟩ := HO.out _ _ _ hw1
    have n3 : L 3 = false := hL.1
    have n4 : L 4 = false := by
      cases h : L 4
      · rfl
      · rw [(c4 h).2] at n3; cases n3
    have l2 : L 2 = true := hL.need 2 (by kernel_rfl)
    have e2 := q1 2 _ rfl l2
    refine gen_plain rfl ?_
    simp only [e2]
    go_simp
    have hg := (Below.refl w1.heap.size w1).alloc (Nat.le_refl _) (Obj.cells #[.int .i64 x.k, .slice E1 x.r.length f1, .slice E2 1 f2, .slice E3 x.s.length f3] 48)
    have hk := Blk.new w1 48 #[.int .i64 x.k, .slice E1 x.r.length f1, .slice E2 1 f2, .slice E3 x.s.length f3]
    have hsz := q0.size
    exact gr_val (HI.out _ _ _ ⟨below_grows q0 (Nat.le_refl _) hg, kn_free q1 rfl, (fun h => by rw [show L 4 = true from h] at n4; cases n4), (fun h h2 => (p1 h h2).grows hg), (fun _ _ => ⟨w1.heap.size, rfl, hsz, hk⟩), (fun l1 _ _ q e e2 => by
      have h9 := ((p1 l1 n4).lt _ e2).2
      have e : (Value.slice (some ⟨w1.heap.size, 0, none⟩) 1 1) = .slice (some ⟨q, 0, none⟩) 1 1 := e
      injection e with e
      injection e with e
      injection e with e
      omega), (fun h => by rw [show L 4 = true from h] at n4; cases n4)⟩)
  refine gent_consR (fun vs L w1 hL hw1 => ?_) ?_
  · obtain ⟨q0, q1, c4, p1, p3, pq, p4⟩ := HO.out _ _ _ hw1
    have n4 : L 4 = false := hL.1
    have l1 : L 1 = true := hL.need 1 (by kernel_rfl)
    have l3 : L 3 = true := hL.need 3 (by kernel_rfl)
    have ho := p1 l1 n4
    obtain ⟨gb, e3, hge, hk⟩ := p3 l3 n4
    have hap := pq l1 l3 n4 gb e3
    have hol := ho.lt
    have hL1 : Bxs w1 (Aq (fun _ => True) (vs 1)) (some ⟨gb, 0, none⟩) [p] := bxs_blk ((hpc.grows q0).mono fun k hk => ⟨trivial, fun e => by have := (hol _ e).1; have := k9.lt; unfold Under at hk; omega⟩) hk HPC2.out ⟨trivial, hap⟩
    refine gen_plain rfl ?_
    refine gr_append_boxesq (.tmp 41) (.tmp 43) rfl (v := vs 1) (l := a) (m := [p]) rfl rfl ho e3 hL1 (by simp only [List.length_singleton]; omega) q0.size ?_
    intro v' w2 ho2 hgr _
    exact HI.out _ _ _ ⟨Below.grown q0 hgr q0.size (fun q e => (hol q e).1), kn_free q1 rfl, (fun _ => ⟨l1, l3⟩), (fun _ h => by cases h), (fun _ h => by cases h), (fun _ _ h => by cases h), (fun _ => ho2)⟩
  refine gent_nil ?_
  intro vs L W2 hall hS
  obtain ⟨q0, q1, -, -, -, -, p4⟩ := HO.out _ _ _ hS
  have ho := p4 (hall 4 (by omega))
  have e0 := q1 0 _ rfl (hall 0 (by omega))
  have e2 := q1 2 _ rfl (hall 2 (by omega))
  clear hall hS HI HO q1 p4
  simp only [e0, e2]
  obtain ⟨A10, c10, e10, hc10, hxm⟩ := ho.read
  simp only [e10]
  clear e10 e0 e2 ho HPC2
  generalize vs 1 = y1 at *
  generalize vs 3 = y3 at *
  clear vs
  have hB2 := below_grows hB (Nat.le_refl _) q0
  clear hB
  have hB := hB2
  clear hB2
  replace k5 := k5.grows q0
  replace hxa := hxa.grows q0
  replace hxb := hxb.grows q0
  replace hic := hic.grows q0
  clear q0 k9 hpc
  have hmore : (a ++ [p]).length ≤ 5 := by rw [List.length_append, List.length_singleton]; omega
  generalize hmm : a ++ [p] = mr at *
  clear hmm
  generalize hRR : reduceL a = R at *
  have hRl : R.length ≤ 5 := by have := reduce_len a; rw [hRR] at this; omega
  have hRo : ∀ z ∈ R, OKB z := fun z hz => HOA.out z (reduce_mem z (by rw [hRR]; exact hz))
  clear hRR
  go_wp2_with fail
  have hcon := preduce_any (w := W2) (A := some ad) (c := c1) rfl hxa (by omega) HOA.out
  rw [HRA.out] at hcon
  refine hcon.mono ?_
  rintro e w6 ⟨⟨v, rfl, hwi⟩, hq⟩
  obtain ⟨A11, c11, rfl, hc11, hx11⟩ := hwi.read
  replace hB := below_grows hB (Nat.le_refl _) hq
  replace k5 := k5.grows hq
  replace hxa := hxa.grows hq
  replace hxb := hxb.grows hq
  replace hic := hic.grows hq
  replace hxm := hxm.grows hq
  clear hq
  clear hwi hcon
  go_wp2_with fail
  have hcon := preduce_any (w := w6) (A := A10) (c := c10) rfl hxm (by omega) HFM.out.okb
  rw [HRB.out] at hcon
  refine hcon.mono ?_
  rintro e w7 ⟨⟨v, rfl, hwi⟩, hq⟩
  obtain ⟨A13, c13, rfl, hc13, hx13⟩ := hwi.read
  replace hB := below_grows hB (Nat.le_refl _) hq
  replace k5 := k5.grows hq
  replace hxa := hxa.grows hq
  replace hxb := hxb.grows hq
  replace hic := hic.grows hq
  replace hxm := hxm.grows hq
  replace hx11 := hx11.grows hq
  clear hq
  clear hwi hcon
  go_upto_region 11 with fail
  have hq57 := k5.lt
  have hw7 := hB.size
  replace hxa := hxa.under
  replace hxb := hxb.under
  replace hxm := hxm.under
  replace hx11 := hx11.under
  replace hx13 := hx13.under
  replace hic := RdB.under hic
  refine wp_region_lit ?_
  refine wpList_plain rfl (fun K hK => ?_)
  go_simp
  refine hK _ _ ?_
  clear hK K
  refine wpList_append_boxesq rfl (.const (.slice none 0 0)) (.tmp 55) rfl (v := .slice none 0 0) (base := w7.heap.size) (ok := fun _ => True) (l := []) (m := a) rfl rfl OwnBq.nil rfl (hxa.mono fun k _ => ⟨trivial, by simp [Value.ownBlock]⟩) (by simp only [List.length_nil]; omega) (Nat.le_refl _) ?_
  intro v8 w8 ho8 hgr hv8
  rw [List.nil_append] at ho8
  have hq : Grows w7 w8 := Below.grown (Below.refl _ _) hgr (Nat.le_refl _) (fun q e => by simp [Value.ownBlock] at e)
  have hs7 := hq.size
  replace hB := below_grows hB (Nat.le_refl _) hq
  replace k5 := k5.grows hq
  replace hxa := hxa.grows hq
  replace hxb := hxb.grows hq
  replace hic := hic.grows hq
  replace hxm := hxm.grows hq
  replace hx11 := hx11.grows hq
  replace hx13 := hx13.grows hq
  clear hq
  clear hgr hv8
  have hol8 := ho8.lt
  refine wpList_plain rfl (fun K hK => ?_)
  go_simp
  refine hK _ _ ?_
  clear hK K
  refine wpList_append_boxesq rfl (.tmp 56) (.tmp 57) rfl (base := w7.heap.size) (ok := fun _ => True) (l := a) (m := b) rfl rfl ho8 rfl (hxb.mono fun k hk => ⟨trivial, fun e => by have := (hol8 _ e).1; unfold Under at hk; omega⟩) (by omega) hs7 ?_
  intro v9 w9 ho9 hgr hv9
  replace hB := hB.grown hgr hB.size (fun q e => by have := (hol8 q e).1; omega)
  replace k5 := k5.grown hgr (fun e => by have := (hol8 _ e.symm).1; omega)
  replace hxa := hxa.grown hgr (fun q e hh => by have := (hol8 q e).1; unfold Under at hh; omega)
  replace hxb := hxb.grown hgr (fun q e hh => by have := (hol8 q e).1; unfold Under at hh; omega)
  replace hxm := hxm.grown hgr (fun q e hh => by have := (hol8 q e).1; unfold Under at hh; omega)
  replace hx11 := hx11.grown hgr (fun q e hh => by have := (hol8 q e).1; unfold Under at hh; omega)
  replace hx13 := hx13.grown hgr (fun q e hh => by have := (hol8 q e).1; unfold Under at hh; omega)
  replace hic := RdB.grown hic hgr (fun q e hh => by have := (hol8 q e).1; unfold Under at hh; omega)
  obtain ⟨A15, c15, rfl, hc15, hxab⟩ := ho9.read
  clear hgr hv9 hol8 ho8 ho9 hs7
  have hlab : (a ++ b).length ≤ 20 := by rw [List.length_append]; omega
  generalize hab : a ++ b = ab at *
  clear hab
  go_upto_region 12 with fail
  have HCS : Hid (∀ w0, Grows w9 w0 → Calls Tryz.prog 21 #[.slice A11 R.length c11, .slice A13 R.length c13] w0 fun e w' => e = .returned (.bool true) ∧ Grows w0 w') := Lib.hid (fun w0 h => same_eq rfl rfl (hx11.grows h) (hx13.grows h) (by omega) hRo)
  have CM := fun (w0 : World) (h : Grows w9 w0) => phasl_any (x := c) (I := A3) (ci := n3) (c := c10) (hxm.grows h) (by omega) hc10 HFM.out.okb (InB.ints (hic.grows h)) hokc.2.2
  have CA := fun (w0 : World) (h : Grows w9 w0) => phasl_any (x := c) (I := A3) (ci := n3) (c := c1) (hxa.grows h) (by omega) hc1 HOA.out (InB.ints (hic.grows h)) hokc.2.2
  have CB := fun (w0 : World) (h : Grows w9 w0) => phasl_any (x := c) (I := A3) (ci := n3) (c := c2) (hxb.grows h) (by omega) hc2 HOB.out (InB.ints (hic.grows h)) hokc.2.2
  have CAB := fun (w0 : World) (h : Grows w9 w0) => phasl_any (x := c) (I := A3) (ci := n3) (c := c15) (hxab.grows h) (by omega) hc15 HFAB.out.okb (InB.ints (hic.grows h)) hokc.2.2
  simp only [HMH.out c] at CM
  simp only [HABH.out c] at CAB
  generalize hasL a c = va at *
  generalize hasL b c = vb at *
  have HCM := Lib.hid CM
  have HCA := Lib.hid CA
  have HCB := Lib.hid CB
  have HCAB := Lib.hid CAB
  clear CM CA CB CAB
  cases va
  · replace HCAB : Hid (∀ w0, Grows w9 w0 → Calls Tryz.prog 22 #[.slice A15 ab.length c15, .agg #[.int .i64 c.k, .int .i64 c.r, .slice A3 c.m.length n3, .int .i64 c.s]] w0 fun e w' => e = .returned (.bool vb) ∧ Grows w0 w') := Lib.hid (by simpa using HCAB.out)
    refine wp_region_mix (fun w' => Grows w9 w') [] 35 93 (by kernel_rfl) (by kernel_rfl) rfl ?_ float_none ?_ ?_
    · exact fun w1 w2 h0 hg => below_grows h0 (Nat.le_refl _) hg
    · exact Grows.drew' _
    · skip
      simp only [List.take_succ_cons, List.take_zero, List.drop_succ_cons, List.drop_zero]
      iterate 35
        first
          | (refine calm_no rfl rfl (a' := ?_) ?_ ?_
             rotate_left 1
             · simp only [Act.put, List.setIfInBounds_toArray, List.set_cons_succ, List.set_cons_zero]
               rfl)
          | (first | refine calm_plain rfl rfl (v := ?_) (a' := ?_) (fun w1 hw1 => ?_) ?_ ?_ | refine calm_yes rfl rfl (v := ?_) (a' := ?_) (fun w1 hw1 => ?_) ?_ ?_
             rotate_left 2
             · have h0 := hw1
               have x5 := (k5.grows h0).cell
               go_simp
               first | exact calm_val | (refine calm_call ?_; with_reducible exact HCS.out _ h0) | (refine calm_call ?_; with_reducible exact HCM.out _ h0) | (refine calm_call ?_; with_reducible exact HCA.out _ h0) | (refine calm_call ?_; with_reducible exact HCB.out _ h0) | (refine calm_call ?_; with_reducible exact HCAB.out _ h0)
             · simp only [Act.put, List.setIfInBounds_toArray, List.set_cons_succ, List.set_cons_zero]
               rfl)
      refine calm_done (end_none ?_)
      intro wq hgw
      replace hB := below_grows hB (Nat.le_refl _) hgw
      clear hgw hic HCS HCM HCA HCB HCAB
      go_wp2
      go_ret
      exact ⟨rfl, hB⟩
  · replace HCAB : Hid (∀ w0, Grows w9 w0 → Calls Tryz.prog 22 #[.slice A15 ab.length c15, .agg #[.int .i64 c.k, .int .i64 c.r, .slice A3 c.m.length n3, .int .i64 c.s]] w0 fun e w' => e = .returned (.bool true) ∧ Grows w0 w') := Lib.hid (by simpa using HCAB.out)
    refine wp_region_mix (fun w' => Grows w9 w') [] 35 93 (by kernel_rfl) (by kernel_rfl) rfl ?_ float_none ?_ ?_
    · exact fun w1 w2 h0 hg => below_grows h0 (Nat.le_refl _) hg
    · exact Grows.drew' _
    · skip
      simp only [List.take_succ_cons, List.take_zero, List.drop_succ_cons, List.drop_zero]
      iterate 35
        first
          | (refine calm_no rfl rfl (a' := ?_) ?_ ?_
             rotate_left 1
             · simp only [Act.put, List.setIfInBounds_toArray, List.set_cons_succ, List.set_cons_zero]
               rfl)
          | (first | refine calm_plain rfl rfl (v := ?_) (a' := ?_) (fun w1 hw1 => ?_) ?_ ?_ | refine calm_yes rfl rfl (v := ?_) (a' := ?_) (fun w1 hw1 => ?_) ?_ ?_
             rotate_left 2
             · have h0 := hw1
               have x5 := (k5.grows h0).cell
               go_simp
               first | exact calm_val | (refine calm_call ?_; with_reducible exact HCS.out _ h0) | (refine calm_call ?_; with_reducible exact HCM.out _ h0) | (refine calm_call ?_; with_reducible exact HCA.out _ h0) | (refine calm_call ?_; with_reducible exact HCB.out _ h0) | (refine calm_call ?_; with_reducible exact HCAB.out _ h0)
             · simp only [Act.put, List.setIfInBounds_toArray, List.set_cons_succ, List.set_cons_zero]
               rfl)
      refine calm_done (end_none ?_)
      intro wq hgw
      replace hB := below_grows hB (Nat.le_refl _) hgw
      clear hgw hic HCS HCM HCA HCB HCAB
      go_wp2
      go_ret
      exact ⟨rfl, hB⟩
end OfferInside
namespace OfferInside
set_option maxRecDepth 100000 in
theorem contract (H : Type) (enc : TypeId × Value → H) (W : World) (base : Nat) (args : Array Value) (ds gs : List (DataW H)) (before : List MemPlace)
    (hval0 : ∀ (j : Nat) t v, Tryz.f4.params[j]? = some t → args[j]? = some v → Value.okWide Tryz.prog W .any base t v)
    (hW : DataW.Whole enc Tryz.prog Tryz.f4.params.toList Rows.offerInsideSpec.vars false W args.toList ds gs before)
    (hsz0 : (DataW.weightsEach Tryz.prog (Tryz.f4.params.toList ++ Rows.offerInsideSpec.plain.varTypes Tryz.prog) (ds ++ gs)).all (· ≤ reachBytes) = true) :
    Calls Tryz.prog 4 args W fun e W' => ∃ v, e = .returned v ∧ Rows.offerInsideSpec.post enc Tryz.prog Tryz.f4 false true false false W args v W' := by
  have key : Calls Tryz.prog 4 args W fun e W' => e = .returned (.bool true) ∧ Below W.heap.size W W' := by
    have hval : ∀ (j : Nat) t v, Tryz.f4.params[j]? = some t → args[j]? = some v → Value.okWide Tryz.prog W .any base t v := hval0
    obtain ⟨p, q, hA0, hV, hbe, hfz, hnd⟩ := hW
    have hA : DataW.TrodAll enc Tryz.prog W 0 (fun _ => true) true Tryz.f4.params.toList args.toList ds p := hA0
    rw [Tryz.params4] at hA hval
    clear hA0 hval0
    obtain ⟨v0, vs0, d0, ds0, p0, q0, hargs, rfl, rfl, h0, r0⟩ := trodAll_cons hA
    obtain ⟨v1, vs1, d1, ds1, p1, q1, rfl, rfl, rfl, h1, r1⟩ := trodAll_cons r0
    obtain ⟨rfl, rfl, rfl⟩ := trodAll_nil r1
    obtain rfl : args = #[v0, v1] := by cases args; simp_all
    obtain ⟨rfl, rfl⟩ := trodVars_none hV
    have hsz : (DataW.weightsEach Tryz.prog (Tryz.f4.params.toList ++ Rows.offerInsideSpec.plain.varTypes Tryz.prog) ([d0, d1] ++ [])).all (· ≤ reachBytes) = true := hsz0
    rw [Tryz.params4] at hsz
    clear hsz0
    obtain ⟨A, c, l, rfl, hI0, hl0, hlen0, hw0⟩ := open_slice_kind Tryz.underlying28 Tryz.underlying5 (by kernel_rfl) (hval 0 28 v0 rfl rfl) h0
    obtain ⟨a1, rfl, rfl, rfl, w1⟩ := open_int Tryz.underlying5 (hval 1 5 v1 rfl rfl) h1
    exact OfferInside.walk A c l W hI0 hlen0 hl0 (fun x hx => u8_bd (hw0 x hx)) a1 (u8_bd w1)
  refine key.mono fun e W' ⟨he, hb⟩ => ⟨_, he, law_post laid_out hW ?_ rfl (by kernel_rfl) Tryz.underlying4 ?_ hb⟩
  · rw [Tryz.params4]
    intro t ht
    simp only [List.mem_cons, List.not_mem_nil, or_false] at ht
    rcases ht with rfl | rfl <;> exact ⟨by kernel_rfl, of_decide_eq_true (by kernel_rfl)⟩
  · rw [Tryz.params4]
    intro ds hl
    match ds, hl with
    | [_, _], _ => rfl

set_option maxRecDepth 100000 in
theorem lifted (os : Os) (started : os.Started) (H : Type) (enc : TypeId × Value → H) :
    ReturnsInHanded {} Tryz.checked os 4 .any (Rows.offerInsideSpec.pre6 enc Tryz.prog Tryz.f4 Rows.offerInsideRow.domain false) (Rows.offerInsideSpec.post enc Tryz.prog Tryz.f4 false true false false) := by
  refine returnsInHanded_of_change_sized (C := Tryz.checked) own_knob started (by kernel_rfl) Tryz.func4
    (ChangeSpec.witness6 (enc := enc) (C := Tryz.checked) false ⟨#[], #[.slice none 0 0, .int .u8 0], []⟩ 8 (by kernel_rfl) (by kernel_rfl) (by kernel_rfl) (by kernel_rfl)) ?_
  intro W base args ds gs before hval0 hW _ hsz0 _
  exact contract H enc W base args ds gs before hval0 hW hsz0

theorem over : Rows.offerInsideRow.holds Tryz.pinned (OpenSpec.ofChange Rows.offerInsideSpec) :=
  OpenClaim.holds_of_wide 4 Tryz.f4 rfl rfl rfl rfl rfl rfl rfl ⟨rfl, rfl, rfl, rfl, rfl⟩ rfl rfl rfl rfl rfl (by kernel_rfl) Tryz.func4 (by kernel_rfl)
    (of_decide_eq_true (by kernel_rfl)) (by unfold Func.isWrapper; first | (rw [if_pos (by decide +kernel)]; kernel_rfl) | (rw [if_neg (by decide +kernel)]; exact ⟨rfl, rfl⟩))
    (fun os started H enc _ => lifted os started H enc)

/-- The given statement. -/
theorem proved : Rows.OfferInsideSaid := over
end OfferInside
#print axioms OfferInside.proved
end Go.Proofs.YtnbdpnlepcjmmaaGreat
