/-
  OfferSingles, for every input: the law returns true, and the argument reads behind the call as it read before. No condition.
-/
import Derived.Test.YtnbdpnlepcjmmaaGreatOfferSinglesK4
import Derived.Deep.Fields
import Derived.Deep.Slices
namespace Go.Proofs.YtnbdpnlepcjmmaaGreat
open Go.RowKit
theorem shl_small_ : ∀ n : Fin 8, wrap64 (2 ^ n.val) = 2 ^ n.val := by decide +kernel
theorem shl_small {k : Int} (h0 : 0 ≤ k) (h7 : k ≤ 7) : IntKind.i64.wrap (2 ^ k.toNat) = 2 ^ k.toNat := (IntWalk.i64_left _).trans <| shl_small_ ⟨k.toNat, by omega⟩
theorem maps_one {w : World} {ok : Nat → Prop} {g : Nat} {B : Option Addr} {cx : Nat} {m : List Int} (hk : Blk w g 23 #[.slice B m.length cx]) (hg : ok g) (hi : InB w ok B m) (hc : m.length ≤ cx) : MapsR w ok (some ⟨g, 0, none⟩) [m] := by
  refine ⟨[.slice B m.length cx], ⟨⟨rfl, fun _ => ⟨_, rfl, hk.lt, fun j u hu => by rw [add_head, hk.cell, ← Array.getElem?_toList]; exact hu⟩⟩, fun _ ad e => by injection e with e; subst e; exact hg⟩, fun i y hy => ?_⟩
  have hi0 : i = 0 := by
    have := (List.getElem?_eq_some_iff.1 hy).1
    simp only [List.length_singleton] at this
    omega
  subst hi0
  simp only [List.getElem?_cons_zero, Option.some.injEq] at hy
  subst hy
  exact ⟨B, cx, rfl, hc, hi⟩
theorem okb_one {x : Ch} (K : Int) (h : x.m.length ≤ 1000000) : OKB ⟨K, [(x.r, x.r)], [x.m], [(x.s, x.s)]⟩ := ⟨by simp, by simp, by simp, fun y hy => by simp only [List.mem_singleton] at hy; subst hy; exact h⟩
/-- A block that holds one box, as a list of one. -/
theorem bxs_blk {w : World} {ok : Nat → Prop} {z : Bx} {A1 A2 A3 : Option Addr} {c1 c2 c3 g : Nat} {cs : Array Value} (hp : BoxP w ok z A1 c1 A2 c2 A3 c3) (hb : Blk w g 48 cs) (hc : cs = #[.int .i64 z.k, .slice A1 z.r.length c1, .slice A2 z.m.length c2, .slice A3 z.s.length c3]) (hw : ok g := by trivial) : Bxs w ok (some ⟨g, 0, none⟩) [z] := by
  subst hc
  refine ⟨z.cs A1 c1 A2 c2 A3 c3, ⟨⟨rfl, fun _ => ⟨_, rfl, hb.lt, fun j u hu => ?_⟩⟩, fun _ ad e => by injection e with e; subst e; exact hw⟩, fun i x hx => ?_⟩
  · rw [add_head, hb.cell, ← Array.getElem?_toList]
    exact hu
  · have hi0 : i = 0 := by
      have := (List.getElem?_eq_some_iff.1 hx).1
      simp only [List.length_singleton] at this
      omega
    subst hi0
    simp only [List.getElem?_cons_zero, Option.some.injEq] at hx
    subst hx
    exact ⟨A1, c1, A2, c2, A3, c3, hp, fun j hj => by rw [Nat.zero_mul, Nat.zero_add]⟩
theorem bxs_one2 {w : World} {ok : Nat → Prop} {z : Bx} {A1 A2 A3 : Option Addr} {c1 c2 c3 : Nat} {cs : Array Value} (hp : BoxP w ok z A1 c1 A2 c2 A3 c3) (hw : ok w.heap.size) (hc : cs = #[.int .i64 z.k, .slice A1 z.r.length c1, .slice A2 z.m.length c2, .slice A3 z.s.length c3]) : Bxs (w.alloc (.cells cs 48)) ok (some ⟨w.heap.size, 0, none⟩) [z] := by
  subst hc
  exact bxs_lit hp hw
set_option maxHeartbeats 64000000 in
set_option maxRecDepth 10000 in
theorem psingle_any {I : Option Addr} {ci : Nat} {x : Ch} {w : World} (ix : Ints w I x.m) (hci : x.m.length ≤ ci) (hxm : x.m.length ≤ 1000000) :
    Calls Tryz.prog 26 #[.agg #[.int .i64 x.k, .int .i64 x.r, .slice I x.m.length ci, .int .i64 x.s]] w fun e w' => (∃ A c, e = .returned (.slice A (singleF x).length c) ∧ (singleF x).length ≤ c ∧ Bxs w' (Ge w.heap.size) A (singleF x)) ∧ Grows w w' := by
  have k1 := Blk.new w 27 #[.int .i64 x.k, .int .i64 x.r, .slice I x.m.length ci, .int .i64 x.s]
  have hB := (Below.refl w.heap.size w).alloc (Nat.le_refl _) (Obj.cells #[.int .i64 x.k, .int .i64 x.r, .slice I x.m.length ci, .int .i64 x.s] 27)
  go_enter Tryz.func26, Tryz.ntmps26
  go_upto_region 1 with fail
  generalize World.alloc w _ = w1 at *
  have x1 := k1.cell
  by_cases h1 : x.k < 1
  · have HE : Hid (singleF x = []) := Lib.hid (if_neg (fun h => by omega))
    have d1 : decide (x.k < 1) = true := by simpa using h1
    clear h1
    go_wp2
    go_ret
    rw [HE.out]
    exact ⟨⟨none, 0, rfl, Nat.le_refl _, Bxs.nil⟩, hB⟩
  have d1 : decide (x.k < 1) = false := by simpa using h1
  by_cases h2 : 7 < x.k
  · have HE : Hid (singleF x = []) := Lib.hid (if_neg (fun h => by omega))
    have d2 : decide (7 < x.k) = true := by simpa using h2
    clear h1 h2
    go_wp2
    go_ret
    rw [HE.out]
    exact ⟨⟨none, 0, rfl, Nat.le_refl _, Bxs.nil⟩, hB⟩
  have d2 : decide (7 < x.k) = false := by simpa using h2
  have hk1 : 1 ≤ x.k := by omega
  have hk7 : x.k ≤ 7 := by omega
  have hk0 : 0 ≤ x.k := by omega
  have hK0 := shl_small hk0 hk7
  obtain ⟨K, hK⟩ : ∃ K, IntKind.i64.wrap (2 ^ x.k.toNat) = K := ⟨_, rfl⟩
  have HK : Hid (2 ^ x.k.toNat = K) := Lib.hid (hK0.symm.trans hK)
  have HS : Hid (singleF x = if fineB ⟨K, [(x.r, x.r)], [x.m], [(x.s, x.s)]⟩ = true then [⟨K, [(x.r, x.r)], [x.m], [(x.s, x.s)]⟩] else []) := Lib.hid (by
    unfold singleF oneB
    rw [HK.out]
    by_cases hf : fineB ⟨K, [(x.r, x.r)], [x.m], [(x.s, x.s)]⟩ = true
    · rw [if_pos ⟨hk1, hk7, hf⟩, if_pos hf]
    · rw [if_neg (fun h => hf h.2.2), if_neg hf])
  clear h1 h2 hK0
  go_upto_region 3 with fail
  obtain ⟨S, HI, HO⟩ := hideS fun (L : Ran) (vs : Nat → Value) (w' : World) => ((Below w.heap.size w w' ∧ Blk w' w.heap.size 27 #[.int .i64 x.k, .int .i64 x.r, .slice I x.m.length ci, .int .i64 x.s]) ∧ KnS [some (.pointer (some ⟨w.heap.size, 0, none⟩)), some (.pointer (some ⟨w.heap.size, 0, none⟩)), some (.int .i64 x.k), some (.int .i64 K), some (.pointer (some ⟨w.heap.size, 0, none⟩)), some (.pointer (some ⟨w.heap.size, 1, none⟩)), some (.int .i64 x.r), none, some (.pointer (some ⟨w.heap.size, 0, none⟩)), some (.pointer (some ⟨w.heap.size, 2, none⟩)), some (.slice I x.m.length ci), none, none, some (.pointer (some ⟨w.heap.size, 3, none⟩)), some (.int .i64 x.s), none, none, none] L vs ∧ (L 7 = true → ∃ (A : Option Addr), vs 7 = .agg #[.slice A 1 1] ∧ SpB w' (Ge w.heap.size) A [(x.r, x.r)]) ∧ (L 11 = true → OwnI w' w.heap.size (vs 11) x.m) ∧ (L 12 = true → ∃ (g : Nat) (mv : Value), vs 12 = .slice (some ⟨g, 0, none⟩) 1 1 ∧ Blk w' g 23 #[mv] ∧ w.heap.size ≤ g ∧ OwnI w' w.heap.size mv x.m) ∧ (L 15 = true → ∃ (A : Option Addr), vs 15 = .agg #[.slice A 1 1] ∧ SpB w' (Ge w.heap.size) A [(x.s, x.s)]) ∧ (L 16 = true → ∃ (A1 : Option Addr) (g : Nat) (mv : Value) (A3 : Option Addr), vs 16 = .agg #[.int .i64 K, .slice A1 1 1, .slice (some ⟨g, 0, none⟩) 1 1, .slice A3 1 1] ∧ SpB w' (Ge w.heap.size) A1 [(x.r, x.r)] ∧ SpB w' (Ge w.heap.size) A3 [(x.s, x.s)] ∧ Blk w' g 23 #[mv] ∧ w.heap.size ≤ g ∧ OwnI w' w.heap.size mv x.m) ∧ (L 17 = true → ∃ g : Nat, vs 17 = .pointer (some ⟨g, 0, none⟩) ∧ Blk w' g 48 #[.int .i64 0, .slice none 0 0, .slice none 0 0, .slice none 0 0] ∧ w.heap.size ≤ g))
  refine wp_region_genT S 18 36 (by kernel_rfl) (by kernel_rfl) rfl ?_ ?_
  · have hg := Grows.drew' w1
    exact HI.out _ _ _ ⟨⟨below_grows hB (Nat.le_refl _) hg, k1.grows hg⟩, kn_none _ _, (fun h => by cases h), (fun h => by cases h), (fun h => by cases h), (fun h => by cases h), (fun h => by cases h), (fun h => by cases h)⟩
  simp only [List.take_succ_cons, List.take_zero, List.drop_succ_cons, List.drop_zero]
  refine gent_consR (fun vs L w1 hL hw1 => ?_) ?_
  · obtain ⟨⟨qB, qk⟩, q1, q7, q11, qm, qs, qb, qz⟩ := HO.out _ _ _ hw1
    refine gen_plain rfl ?_
    go_simp
    exact gr_val (HI.out _ _ _ ⟨⟨qB, qk⟩, kn_known q1 rfl, q7, q11, qm, qs, qb, qz⟩)
  refine gent_consR (fun vs L w1 hL hw1 => ?_) ?_
  · obtain ⟨⟨qB, qk⟩, q1, q7, q11, qm, qs, qb, qz⟩ := HO.out _ _ _ hw1
    have l0 : L 0 = true := hL.need 0 (by kernel_rfl)
    have e0 := q1 0 _ rfl l0
    refine gen_plain rfl ?_
    simp only [e0]
    go_simp
    exact gr_val (HI.out _ _ _ ⟨⟨qB, qk⟩, kn_known q1 rfl, q7, q11, qm, qs, qb, qz⟩)
  refine gent_consR (fun vs L w1 hL hw1 => ?_) ?_
  · obtain ⟨⟨qB, qk⟩, q1, q7, q11, qm, qs, qb, qz⟩ := HO.out _ _ _ hw1
    have l1 : L 1 = true := hL.need 1 (by kernel_rfl)
    have e1 := q1 1 _ rfl l1
    have xc := qk.cell 0
    refine gen_plain rfl ?_
    simp only [e1]
    go_simp
    exact gr_val (HI.out _ _ _ ⟨⟨qB, qk⟩, kn_known q1 rfl, q7, q11, qm, qs, qb, qz⟩)
  refine gent_consR (fun vs L w1 hL hw1 => ?_) ?_
  · obtain ⟨⟨qB, qk⟩, q1, q7, q11, qm, qs, qb, qz⟩ := HO.out _ _ _ hw1
    have l2 : L 2 = true := hL.need 2 (by kernel_rfl)
    have e2 := q1 2 _ rfl l2
    refine gen_plain rfl ?_
    simp only [e2]
    go_simp
    exact gr_val (HI.out _ _ _ ⟨⟨qB, qk⟩, kn_known q1 rfl, q7, q11, qm, qs, qb, qz⟩)
  refine gent_consR (fun vs L w1 hL hw1 => ?_) ?_
  · obtain ⟨⟨qB, qk⟩, q1, q7, q11, qm, qs, qb, qz⟩ := HO.out _ _ _ hw1
    refine gen_plain rfl ?_
    go_simp
    exact gr_val (HI.out _ _ _ ⟨⟨qB, qk⟩, kn_known q1 rfl, q7, q11, qm, qs, qb, qz⟩)
  refine gent_consR (fun vs L w1 hL hw1 => ?_) ?_
  · obtain ⟨⟨qB, qk⟩, q1, q7, q11, qm, qs, qb, qz⟩ := HO.out _ _ _ hw1
    have l4 : L 4 = true := hL.need 4 (by kernel_rfl)
    have e4 := q1 4 _ rfl l4
    refine gen_plain rfl ?_
    simp only [e4]
    go_simp
    exact gr_val (HI.out _ _ _ ⟨⟨qB, qk⟩, kn_known q1 rfl, q7, q11, qm, qs, qb, qz⟩)
  refine gent_consR (fun vs L w1 hL hw1 => ?_) ?_
  · obtain ⟨⟨qB, qk⟩, q1, q7, q11, qm, qs, qb, qz⟩ := HO.out _ _ _ hw1
    have l5 : L 5 = true := hL.need 5 (by kernel_rfl)
    have e5 := q1 5 _ rfl l5
    have xc := qk.cell 1
    refine gen_plain rfl ?_
    simp only [e5]
    go_simp
    exact gr_val (HI.out _ _ _ ⟨⟨qB, qk⟩, kn_known q1 rfl, q7, q11, qm, qs, qb, qz⟩)
  refine gent_consR (fun vs L w1 hL hw1 => ?_) ?_
  · obtain ⟨⟨qB, qk⟩, q1, q7, q11, qm, qs, qb, qz⟩ := HO.out _ _ _ hw1
    have l6 : L 6 = true := hL.need 6 (by kernel_rfl)
    have e6 := q1 6 _ rfl l6
    refine gen_plain rfl ?_
    simp only [e6]
    go_simp
    refine gr_call ?_
    refine (one_any _ _).mono ?_
    rintro e wc ⟨⟨A5, rfl, hr5⟩, hg⟩
    have hsz := qB.size
    exact ⟨_, rfl, HI.out _ _ _ ⟨⟨below_grows qB (Nat.le_refl _) hg, qk.grows hg⟩, kn_free q1 rfl, (fun _ => ⟨A5, rfl, RdB.mono hr5 (fun k hk => by unfold Ge at *; omega)⟩), (fun h => (q11 h).grows hg), (fun h => by obtain ⟨g, mv, e, hk, hl, ho⟩ := qm h; exact ⟨g, mv, e, hk.grows hg, hl, ho.grows hg⟩), (fun h => by obtain ⟨A, e, hr⟩ := qs h; exact ⟨A, e, hr.grows hg⟩), (fun h => by obtain ⟨A1, g, mv, A3, e, hr, hs, hk, hl, ho⟩ := qb h; exact ⟨A1, g, mv, A3, e, hr.grows hg, hs.grows hg, hk.grows hg, hl, ho.grows hg⟩), (fun h => by obtain ⟨g, e, hk, hl⟩ := qz h; exact ⟨g, e, hk.grows hg, hl⟩)⟩⟩
  refine gent_consR (fun vs L w1 hL hw1 => ?_) ?_
  · obtain ⟨⟨qB, qk⟩, q1, q7, q11, qm, qs, qb, qz⟩ := HO.out _ _ _ hw1
    refine gen_plain rfl ?_
    go_simp
    exact gr_val (HI.out _ _ _ ⟨⟨qB, qk⟩, kn_known q1 rfl, q7, q11, qm, qs, qb, qz⟩)
  refine gent_consR (fun vs L w1 hL hw1 => ?_) ?_
  · obtain ⟨⟨qB, qk⟩, q1, q7, q11, qm, qs, qb, qz⟩ := HO.out _ _ _ hw1
    have l8 : L 8 = true := hL.need 8 (by kernel_rfl)
    have e8 := q1 8 _ rfl l8
    refine gen_plain rfl ?_
    simp only [e8]
    go_simp
    exact gr_val (HI.out _ _ _ ⟨⟨qB, qk⟩, kn_known q1 rfl, q7, q11, qm, qs, qb, qz⟩)
  refine gent_consR (fun vs L w1 hL hw1 => ?_) ?_
  · obtain ⟨⟨qB, qk⟩, q1, q7, q11, qm, qs, qb, qz⟩ := HO.out _ _ _ hw1
    have l9 : L 9 = true := hL.need 9 (by kernel_rfl)
    have e9 := q1 9 _ rfl l9
    have xc := qk.cell 2
    refine gen_plain rfl ?_
    simp only [e9]
    go_simp
    exact gr_val (HI.out _ _ _ ⟨⟨qB, qk⟩, kn_known q1 rfl, q7, q11, qm, qs, qb, qz⟩)
  refine gent_consR (fun vs L w1 hL hw1 => ?_) ?_
  · obtain ⟨⟨qB, qk⟩, q1, q7, q11, qm, qs, qb, qz⟩ := HO.out _ _ _ hw1
    have l10 : L 10 = true := hL.need 10 (by kernel_rfl)
    have e10 := q1 10 _ rfl l10
    refine gen_plain rfl ?_
    simp only [e10]
    go_simp
    refine gr_call ?_
    refine (iclone_any I ci x.m _ (ix.grows qB) hxm).mono ?_
    rintro e wc ⟨⟨v, rfl, hown⟩, hg⟩
    have hsz := qB.size
    exact ⟨_, rfl, HI.out _ _ _ ⟨⟨below_grows qB (Nat.le_refl _) hg, qk.grows hg⟩, kn_free q1 rfl, (fun h => by obtain ⟨A, e, hr⟩ := q7 h; exact ⟨A, e, hr.grows hg⟩), (fun _ => hown.mono hsz), (fun h => by obtain ⟨g, mv, e, hk, hl, ho⟩ := qm h; exact ⟨g, mv, e, hk.grows hg, hl, ho.grows hg⟩), (fun h => by obtain ⟨A, e, hr⟩ := qs h; exact ⟨A, e, hr.grows hg⟩), (fun h => by obtain ⟨A1, g, mv, A3, e, hr, hs, hk, hl, ho⟩ := qb h; exact ⟨A1, g, mv, A3, e, hr.grows hg, hs.grows hg, hk.grows hg, hl, ho.grows hg⟩), (fun h => by obtain ⟨g, e, hk, hl⟩ := qz h; exact ⟨g, e, hk.grows hg, hl⟩)⟩⟩
  refine gent_consR (fun vs L w1 hL hw1 => ?_) ?_
  · obtain ⟨⟨qB, qk⟩, q1, q7, q11, qm, qs, qb, qz⟩ := HO.out _ _ _ hw1
    have l11 : L 11 = true := hL.need 11 (by kernel_rfl)
    have ho := q11 l11
    obtain ⟨B, cx, ev, hcx, -⟩ := ho.read
    rw [ev] at ho
    refine gen_plain rfl ?_
    simp only [ev]
    go_simp
    have hg := (Below.refl w1.heap.size w1).alloc (Nat.le_refl _) (Obj.cells #[.slice B x.m.length cx] 23)
    have hk := Blk.new w1 23 #[.slice B x.m.length cx]
    exact gr_val (HI.out _ _ _ ⟨⟨below_grows qB (Nat.le_refl _) hg, qk.grows hg⟩, kn_free q1 rfl, (fun h => by obtain ⟨A, e, hr⟩ := q7 h; exact ⟨A, e, hr.grows hg⟩), (fun h => (q11 h).grows hg), (fun _ => ⟨w1.heap.size, _, rfl, hk, qB.size, ho.grows hg⟩), (fun h => by obtain ⟨A, e, hr⟩ := qs h; exact ⟨A, e, hr.grows hg⟩), (fun h => by obtain ⟨A1, g, mv, A3, e, hr, hs, hk, hl, ho⟩ := qb h; exact ⟨A1, g, mv, A3, e, hr.grows hg, hs.grows hg, hk.grows hg, hl, ho.grows hg⟩), (fun h => by obtain ⟨g, e, hk, hl⟩ := qz h; exact ⟨g, e, hk.grows hg, hl⟩)⟩)
  refine gent_consR (fun vs L w1 hL hw1 => ?_) ?_
  · obtain ⟨⟨qB, qk⟩, q1, q7, q11, qm, qs, qb, qz⟩ := HO.out _ _ _ hw1
    refine gen_plain rfl ?_
    go_simp
    exact gr_val (HI.out _ _ _ ⟨⟨qB, qk⟩, kn_known q1 rfl, q7, q11, qm, qs, qb, qz⟩)
  refine gent_consR (fun vs L w1 hL hw1 => ?_) ?_
  · obtain ⟨⟨qB, qk⟩, q1, q7, q11, qm, qs, qb, qz⟩ := HO.out _ _ _ hw1
    have l13 : L 13 = true := hL.need 13 (by kernel_rfl)
    have e13 := q1 13 _ rfl l13
    have xc := qk.cell 3
    refine gen_plain rfl ?_
    simp only [e13]
    go_simp
    exact gr_val (HI.out _ _ _ ⟨⟨qB, qk⟩, kn_known q1 rfl, q7, q11, qm, qs, qb, qz⟩)
  refine gent_consR (fun vs L w1 hL hw1 => ?_) ?_
  · obtain ⟨⟨qB, qk⟩, q1, q7, q11, qm, qs, qb, qz⟩ := HO.out _ _ _ hw1
    have l14 : L 14 = true := hL.need 14 (by kernel_rfl)
    have e14 := q1 14 _ rfl l14
    refine gen_plain rfl ?_
    simp only [e14]
    go_simp
    refine gr_call ?_
    refine (one_any _ _).mono ?_
    rintro e wc ⟨⟨A5, rfl, hr5⟩, hg⟩
    have hsz := qB.size
    exact ⟨_, rfl, HI.out _ _ _ ⟨⟨below_grows qB (Nat.le_refl _) hg, qk.grows hg⟩, kn_free q1 rfl, (fun h => by obtain ⟨A, e, hr⟩ := q7 h; exact ⟨A, e, hr.grows hg⟩), (fun h => (q11 h).grows hg), (fun h => by obtain ⟨g, mv, e, hk, hl, ho⟩ := qm h; exact ⟨g, mv, e, hk.grows hg, hl, ho.grows hg⟩), (fun _ => ⟨A5, rfl, RdB.mono hr5 (fun k hk => by unfold Ge at *; omega)⟩), (fun h => by obtain ⟨A1, g, mv, A3, e, hr, hs, hk, hl, ho⟩ := qb h; exact ⟨A1, g, mv, A3, e, hr.grows hg, hs.grows hg, hk.grows hg, hl, ho.grows hg⟩), (fun h => by obtain ⟨g, e, hk, hl⟩ := qz h; exact ⟨g, e, hk.grows hg, hl⟩)⟩⟩
  refine gent_consR (fun vs L w1 hL hw1 => ?_) ?_
  · obtain ⟨⟨qB, qk⟩, q1, q7, q11, qm, qs, qb, qz⟩ := HO.out _ _ _ hw1
    have l3 : L 3 = true := hL.need 3 (by kernel_rfl)
    have e3 := q1 3 _ rfl l3
    have l7 : L 7 = true := hL.need 7 (by kernel_rfl)
    have lm : L 12 = true := hL.need 12 (by kernel_rfl)
    have ls : L 15 = true := hL.need 15 (by kernel_rfl)
    obtain ⟨A1, e7, hr⟩ := q7 l7
    obtain ⟨g, mv, em, hk, hl, ho⟩ := qm lm
    obtain ⟨A3, es, hs⟩ := qs ls
    refine gen_plain rfl ?_
    simp only [e3, e7, em, es]
    go_simp
    exact gr_val (HI.out _ _ _ ⟨⟨qB, qk⟩, kn_free q1 rfl, q7, q11, qm, qs, (fun _ => ⟨A1, g, mv, A3, rfl, hr, hs, hk, hl, ho⟩), qz⟩)
  refine gent_consR (fun vs L w1 hL hw1 => ?_) ?_
  · obtain ⟨⟨qB, qk⟩, q1, q7, q11, qm, qs, qb, qz⟩ := HO.out _ _ _ hw1
    refine gen_plain rfl ?_
    go_simp
    have hg := (Below.refl w1.heap.size w1).alloc (Nat.le_refl _) (Obj.cells #[.int .i64 0, .slice none 0 0, .slice none 0 0, .slice none 0 0] 48)
    have hk := Blk.new w1 48 #[.int .i64 0, .slice none 0 0, .slice none 0 0, .slice none 0 0]
    exact gr_val (HI.out _ _ _ ⟨⟨below_grows qB (Nat.le_refl _) hg, qk.grows hg⟩, kn_free q1 rfl, (fun h => by obtain ⟨A, e, hr⟩ := q7 h; exact ⟨A, e, hr.grows hg⟩), (fun h => (q11 h).grows hg), (fun h => by obtain ⟨g, mv, e, hk, hl, ho⟩ := qm h; exact ⟨g, mv, e, hk.grows hg, hl, ho.grows hg⟩), (fun h => by obtain ⟨A, e, hr⟩ := qs h; exact ⟨A, e, hr.grows hg⟩), (fun h => by obtain ⟨A1, g, mv, A3, e, hr, hs, hk, hl, ho⟩ := qb h; exact ⟨A1, g, mv, A3, e, hr.grows hg, hs.grows hg, hk.grows hg, hl, ho.grows hg⟩), (fun _ => ⟨w1.heap.size, rfl, hk, qB.size⟩)⟩)
  refine gent_nil ?_
  intro vs L W2 hall hS
  obtain ⟨⟨hB2, qk⟩, q1, -, -, -, -, qb, qz⟩ := HO.out _ _ _ hS
  obtain ⟨A1, gm, mv, A3, eb, hr, hs, hm, hl, ho⟩ := qb (hall 16 (by omega))
  obtain ⟨G, ez, hG, hlG⟩ := qz (hall 17 (by omega))
  have e0 := q1 0 _ rfl (hall 0 (by omega))
  have e1 := q1 1 _ rfl (hall 1 (by omega))
  have e2 := q1 2 _ rfl (hall 2 (by omega))
  have e3 := q1 3 _ rfl (hall 3 (by omega))
  have e4 := q1 4 _ rfl (hall 4 (by omega))
  have e5 := q1 5 _ rfl (hall 5 (by omega))
  have e6 := q1 6 _ rfl (hall 6 (by omega))
  have e8 := q1 8 _ rfl (hall 8 (by omega))
  have e9 := q1 9 _ rfl (hall 9 (by omega))
  have e10 := q1 10 _ rfl (hall 10 (by omega))
  have e13 := q1 13 _ rfl (hall 13 (by omega))
  have e14 := q1 14 _ rfl (hall 14 (by omega))
  clear hall hS HI HO q1 qb qz hB k1 x1 qk
  simp only [e0, e1, e2, e3, e4, e5, e6, e8, e9, e10, e13, e14, eb, ez]
  clear e0 e1 e2 e3 e4 e5 e6 e8 e9 e10 e13 e14 eb ez
  have hgm : gm ≠ G := hm.ne_ hG (by decide)
  have hmG := own_blk_ne ho hG (by decide)
  have hr2 : RdB W2 (fun k => w.heap.size ≤ k ∧ k ≠ G) 2 A1 1 (scells [(x.r, x.r)]) := ⟨hr.1, fun hn ad e => ⟨hr.2 hn ad e, sp_ne_box hr.1 hG ad e hn⟩⟩
  have hs2 : RdB W2 (fun k => w.heap.size ≤ k ∧ k ≠ G) 2 A3 1 (scells [(x.s, x.s)]) := ⟨hs.1, fun hn ad e => ⟨hs.2 hn ad e, sp_ne_box hs.1 hG ad e hn⟩⟩
  have y3 := hG.cell
  have hf3 := hG.frozen
  have k3 := ((((hG.set_ 0 (.int .i64 K)).set_ 1 (.slice A1 1 1)).set_ 2 (.slice (some ⟨gm, 0, none⟩) 1 1)).set_ 3 (.slice A3 1 1))
  have hB := ((((hB2.setCell (p := ⟨G, 0, none⟩) (show w.heap.size ≤ G by omega) (.int .i64 K)).setCell (p := ⟨G, 1, none⟩) (show w.heap.size ≤ G by omega) (.slice A1 1 1)).setCell (p := ⟨G, 2, none⟩) (show w.heap.size ≤ G by omega) (.slice (some ⟨gm, 0, none⟩) 1 1)).setCell (p := ⟨G, 3, none⟩) (show w.heap.size ≤ G by omega) (.slice A3 1 1))
  replace hr2 := RdB.grown hr2 (d_only_set (d_only_set (d_only_set (d_only_set (World.grownBy.refl _ (some G)) 0 (.int .i64 K)) 1 (.slice A1 1 1)) 2 (.slice (some ⟨gm, 0, none⟩) 1 1)) 3 (.slice A3 1 1)) (fun q e => by injection e with e; omega)
  replace hs2 := RdB.grown hs2 (d_only_set (d_only_set (d_only_set (d_only_set (World.grownBy.refl _ (some G)) 0 (.int .i64 K)) 1 (.slice A1 1 1)) 2 (.slice (some ⟨gm, 0, none⟩) 1 1)) 3 (.slice A3 1 1)) (fun q e => by injection e with e; omega)
  replace hm := hm.grown (d_only_set (d_only_set (d_only_set (d_only_set (World.grownBy.refl _ (some G)) 0 (.int .i64 K)) 1 (.slice A1 1 1)) 2 (.slice (some ⟨gm, 0, none⟩) 1 1)) 3 (.slice A3 1 1)) (by intro e; injection e; omega)
  have ho2 : OwnI _ w.heap.size mv x.m := World.ownsRow.kept ho (d_only_set (d_only_set (d_only_set (d_only_set (World.grownBy.refl _ (some G)) 0 (.int .i64 K)) 1 (.slice A1 1 1)) 2 (.slice (some ⟨gm, 0, none⟩) 1 1)) 3 (.slice A3 1 1)) (.inr hmG)
  clear hr hs hG hB2 ho hmG
  go_upto_region 4 with fail
  clear y3 hf3
  generalize World.setCell (World.setCell (World.setCell (World.setCell W2 _ _) _ _) _ _) _ _ = w4 at *
  have k3 : Blk w4 G 48 #[.int .i64 K, .slice A1 1 1, .slice (some ⟨gm, 0, none⟩) 1 1, .slice A3 1 1] := k3
  obtain ⟨B, cx, rfl, hcx, hib⟩ := InB.of_own ho2
  have hmr : MapsR w4 (Ge w.heap.size) (some ⟨gm, 0, none⟩) [x.m] := maps_one hm hl hib hcx
  have hp : BoxP w4 (Ge w.heap.size) ⟨K, [(x.r, x.r)], [x.m], [(x.s, x.s)]⟩ A1 1 (some ⟨gm, 0, none⟩) 1 A3 1 := ⟨RdB.mono hr2 (fun k hk => hk.1), hmr, RdB.mono hs2 (fun k hk => hk.1), Nat.le_refl _, Nat.le_refl _, Nat.le_refl _⟩
  have hok : OKB ⟨K, [(x.r, x.r)], [x.m], [(x.s, x.s)]⟩ := okb_one K hxm
  clear hr2 hs2 hm ho2 hib hmr
  have x3 := k3.cell
  obtain ⟨z, hz⟩ : ∃ z : Bx, z = ⟨K, [(x.r, x.r)], [x.m], [(x.s, x.s)]⟩ := ⟨_, rfl⟩
  have hcon := (pfine_any hp hok)
  rw [← hz] at hcon hp hok
  have HSZ : Hid (singleF x = if fineB z = true then [z] else []) := Lib.hid (by rw [hz]; exact HS.out)
  have HZC : Hid ((#[.int .i64 K, .slice A1 1 1, .slice (some ⟨gm, 0, none⟩) 1 1, .slice A3 1 1] : Array Value) = #[.int .i64 z.k, .slice A1 z.r.length 1, .slice (some ⟨gm, 0, none⟩) z.m.length 1, .slice A3 z.s.length 1]) := Lib.hid (by rw [hz]; rfl)
  rw [← HZC.out] at hcon
  have HC := Lib.hid hcon
  clear hcon hz
  go_wp2_with fail
  refine HC.out.mono ?_
  cases hv : fineB z
  · have HE : Hid (singleF x = []) := Lib.hid (by rw [HSZ.out, if_neg (by rw [hv]; decide)])
    clear hv
    rintro e w5 ⟨rfl, hq⟩
    replace hB := below_grows hB (Nat.le_refl _) hq
    go_wp2
    go_ret
    rw [HE.out]
    exact ⟨⟨none, 0, rfl, Nat.le_refl _, Bxs.nil⟩, hB⟩
  · have HE : Hid (singleF x = [z]) := Lib.hid (by rw [HSZ.out, if_pos hv])
    clear hv
    rintro e w5 ⟨rfl, hq⟩
    replace hB := below_grows hB (Nat.le_refl _) hq
    replace k3 := k3.grows hq
    replace hp := hp.grows hq
    clear hq x3
    have x3 := k3.cell
    have hL := bxs_one2 hp (show Ge w.heap.size w5.heap.size from hB.size) HZC.out
    have hq := (Below.refl w5.heap.size w5).alloc (Nat.le_refl _) (Obj.cells #[.int .i64 K, .slice A1 1 1, .slice (some ⟨gm, 0, none⟩) 1 1, .slice A3 1 1] 48)
    have hB6 := below_grows hB (Nat.le_refl _) hq
    clear hq hB
    go_wp2
    go_ret
    rw [HE.out]
    exact ⟨⟨_, 1, rfl, Nat.le_refl _, hL⟩, hB6⟩
set_option maxHeartbeats 64000000 in
set_option maxRecDepth 10000 in
theorem rsingle_any {I : Option Addr} {ci : Nat} {x : Ch} {w : World} (ix : Ints w I x.m) (hci : x.m.length ≤ ci) (hxm : x.m.length ≤ 1000000) :
    Calls Tryz.prog 31 #[.agg #[.int .i64 x.k, .int .i64 x.r, .slice I x.m.length ci, .int .i64 x.s]] w fun e w' => (∃ A c, e = .returned (.slice A (singleF x).length c) ∧ (singleF x).length ≤ c ∧ Bxs w' (fun _ => True) A (singleF x)) ∧ Grows w w' := by
  have k1 := Blk.new w 27 #[.int .i64 x.k, .int .i64 x.r, .slice I x.m.length ci, .int .i64 x.s]
  have hB := (Below.refl w.heap.size w).alloc (Nat.le_refl _) (Obj.cells #[.int .i64 x.k, .int .i64 x.r, .slice I x.m.length ci, .int .i64 x.s] 27)
  go_enter Tryz.func31, Tryz.ntmps31
  go_upto_region 1 with fail
  generalize World.alloc w _ = w1 at *
  have x1 := k1.cell
  by_cases h1 : x.k < 1
  · have HE : Hid (singleF x = []) := Lib.hid (if_neg (fun h => by omega))
    have d1 : decide (x.k < 1) = true := by simpa using h1
    clear h1
    go_wp2
    go_ret
    rw [HE.out]
    exact ⟨⟨none, 0, rfl, Nat.le_refl _, Bxs.nil⟩, hB⟩
  have d1 : decide (x.k < 1) = false := by simpa using h1
  by_cases h2 : 7 < x.k
  · have HE : Hid (singleF x = []) := Lib.hid (if_neg (fun h => by omega))
    have d2 : decide (7 < x.k) = true := by simpa using h2
    clear h1 h2
    go_wp2
    go_ret
    rw [HE.out]
    exact ⟨⟨none, 0, rfl, Nat.le_refl _, Bxs.nil⟩, hB⟩
  have d2 : decide (7 < x.k) = false := by simpa using h2
  have hk1 : 1 ≤ x.k := by omega
  have hk7 : x.k ≤ 7 := by omega
  have hk0 : 0 ≤ x.k := by omega
  have hK0 := shl_small hk0 hk7
  obtain ⟨K, hK⟩ : ∃ K, IntKind.i64.wrap (2 ^ x.k.toNat) = K := ⟨_, rfl⟩
  have HK : Hid (2 ^ x.k.toNat = K) := Lib.hid (hK0.symm.trans hK)
  have HS : Hid (singleF x = if fineB ⟨K, [(x.r, x.r)], [x.m], [(x.s, x.s)]⟩ = true then [⟨K, [(x.r, x.r)], [x.m], [(x.s, x.s)]⟩] else []) := Lib.hid (by
    unfold singleF oneB
    rw [HK.out]
    by_cases hf : fineB ⟨K, [(x.r, x.r)], [x.m], [(x.s, x.s)]⟩ = true
    · rw [if_pos ⟨hk1, hk7, hf⟩, if_pos hf]
    · rw [if_neg (fun h => hf h.2.2), if_neg hf])
  clear h1 h2 hK0
  go_upto_region 3 with fail
  obtain ⟨S, HI, HO⟩ := hideS fun (L : Ran) (vs : Nat → Value) (w' : World) => ((Below w.heap.size w w' ∧ Blk w' w.heap.size 27 #[.int .i64 x.k, .int .i64 x.r, .slice I x.m.length ci, .int .i64 x.s]) ∧ KnS [some (.pointer (some ⟨w.heap.size, 0, none⟩)), some (.pointer (some ⟨w.heap.size, 0, none⟩)), some (.int .i64 x.k), some (.int .i64 K), some (.pointer (some ⟨w.heap.size, 0, none⟩)), some (.pointer (some ⟨w.heap.size, 1, none⟩)), some (.int .i64 x.r), none, some (.pointer (some ⟨w.heap.size, 0, none⟩)), some (.pointer (some ⟨w.heap.size, 2, none⟩)), some (.slice I x.m.length ci), none, some (.pointer (some ⟨w.heap.size, 3, none⟩)), some (.int .i64 x.s), none, none, none] L vs ∧ (L 7 = true → ∃ (A : Option Addr), vs 7 = .agg #[.slice A 1 1] ∧ SpB w' (Ge w.heap.size) A [(x.r, x.r)]) ∧ (L 11 = true → ∃ (g : Nat) (mv : Value), vs 11 = .slice (some ⟨g, 0, none⟩) 1 1 ∧ Blk w' g 23 #[mv] ∧ w.heap.size ≤ g ∧ InB w' (Under w.heap.size) I x.m ∧ mv = .slice I x.m.length ci) ∧ (L 14 = true → ∃ (A : Option Addr), vs 14 = .agg #[.slice A 1 1] ∧ SpB w' (Ge w.heap.size) A [(x.s, x.s)]) ∧ (L 15 = true → ∃ (A1 : Option Addr) (g : Nat) (mv : Value) (A3 : Option Addr), vs 15 = .agg #[.int .i64 K, .slice A1 1 1, .slice (some ⟨g, 0, none⟩) 1 1, .slice A3 1 1] ∧ SpB w' (Ge w.heap.size) A1 [(x.r, x.r)] ∧ SpB w' (Ge w.heap.size) A3 [(x.s, x.s)] ∧ Blk w' g 23 #[mv] ∧ w.heap.size ≤ g ∧ InB w' (Under w.heap.size) I x.m ∧ mv = .slice I x.m.length ci) ∧ (L 16 = true → ∃ (g : Nat) (A1 : Option Addr) (gm : Nat) (mv : Value) (A3 : Option Addr), vs 16 = .slice (some ⟨g, 0, none⟩) 1 1 ∧ Blk w' g 48 #[.int .i64 K, .slice A1 1 1, .slice (some ⟨gm, 0, none⟩) 1 1, .slice A3 1 1] ∧ SpB w' (Ge w.heap.size) A1 [(x.r, x.r)] ∧ SpB w' (Ge w.heap.size) A3 [(x.s, x.s)] ∧ Blk w' gm 23 #[mv] ∧ InB w' (Under w.heap.size) I x.m ∧ mv = .slice I x.m.length ci))
  refine wp_region_genT S 17 33 (by kernel_rfl) (by kernel_rfl) rfl ?_ ?_
  · have hg := Grows.drew' w1
    exact HI.out _ _ _ ⟨⟨below_grows hB (Nat.le_refl _) hg, k1.grows hg⟩, kn_none _ _, (fun h => by cases h), (fun h => by cases h), (fun h => by cases h), (fun h => by cases h), (fun h => by cases h)⟩
  simp only [List.take_succ_cons, List.take_zero, List.drop_succ_cons, List.drop_zero]
  refine gent_consR (fun vs L w1 hL hw1 => ?_) ?_
  · obtain ⟨⟨qB, qk⟩, q1, q7, qm, qs, qb, qz⟩ := HO.out _ _ _ hw1
    refine gen_plain rfl ?_
    go_simp
    exact gr_val (HI.out _ _ _ ⟨⟨qB, qk⟩, kn_known q1 rfl, q7, qm, qs, qb, qz⟩)
  refine gent_consR (fun vs L w1 hL hw1 => ?_) ?_
  · obtain ⟨⟨qB, qk⟩, q1, q7, qm, qs, qb, qz⟩ := HO.out _ _ _ hw1
    have l0 : L 0 = true := hL.need 0 (by kernel_rfl)
    have e0 := q1 0 _ rfl l0
    refine gen_plain rfl ?_
    simp only [e0]
    go_simp
    exact gr_val (HI.out _ _ _ ⟨⟨qB, qk⟩, kn_known q1 rfl, q7, qm, qs, qb, qz⟩)
  refine gent_consR (fun vs L w1 hL hw1 => ?_) ?_
  · obtain ⟨⟨qB, qk⟩, q1, q7, qm, qs, qb, qz⟩ := HO.out _ _ _ hw1
    have l1 : L 1 = true := hL.need 1 (by kernel_rfl)
    have e1 := q1 1 _ rfl l1
    have xc := qk.cell 0
    refine gen_plain rfl ?_
    simp only [e1]
    go_simp
    exact gr_val (HI.out _ _ _ ⟨⟨qB, qk⟩, kn_known q1 rfl, q7, qm, qs, qb, qz⟩)
  refine gent_consR (fun vs L w1 hL hw1 => ?_) ?_
  · obtain ⟨⟨qB, qk⟩, q1, q7, qm, qs, qb, qz⟩ := HO.out _ _ _ hw1
    have l2 : L 2 = true := hL.need 2 (by kernel_rfl)
    have e2 := q1 2 _ rfl l2
    refine gen_plain rfl ?_
    simp only [e2]
    go_simp
    exact gr_val (HI.out _ _ _ ⟨⟨qB, qk⟩, kn_known q1 rfl, q7, qm, qs, qb, qz⟩)
  refine gent_consR (fun vs L w1 hL hw1 => ?_) ?_
  · obtain ⟨⟨qB, qk⟩, q1, q7, qm, qs, qb, qz⟩ := HO.out _ _ _ hw1
    refine gen_plain rfl ?_
    go_simp
    exact gr_val (HI.out _ _ _ ⟨⟨qB, qk⟩, kn_known q1 rfl, q7, qm, qs, qb, qz⟩)
  refine gent_consR (fun vs L w1 hL hw1 => ?_) ?_
  · obtain ⟨⟨qB, qk⟩, q1, q7, qm, qs, qb, qz⟩ := HO.out _ _ _ hw1
    have l4 : L 4 = true := hL.need 4 (by kernel_rfl)
    have e4 := q1 4 _ rfl l4
    refine gen_plain rfl ?_
    simp only [e4]
    go_simp
    exact gr_val (HI.out _ _ _ ⟨⟨qB, qk⟩, kn_known q1 rfl, q7, qm, qs, qb, qz⟩)
  refine gent_consR (fun vs L w1 hL hw1 => ?_) ?_
  · obtain ⟨⟨qB, qk⟩, q1, q7, qm, qs, qb, qz⟩ := HO.out _ _ _ hw1
    have l5 : L 5 = true := hL.need 5 (by kernel_rfl)
    have e5 := q1 5 _ rfl l5
    have xc := qk.cell 1
    refine gen_plain rfl ?_
    simp only [e5]
    go_simp
    exact gr_val (HI.out _ _ _ ⟨⟨qB, qk⟩, kn_known q1 rfl, q7, qm, qs, qb, qz⟩)
  refine gent_consR (fun vs L w1 hL hw1 => ?_) ?_
  · obtain ⟨⟨qB, qk⟩, q1, q7, qm, qs, qb, qz⟩ := HO.out _ _ _ hw1
    have l6 : L 6 = true := hL.need 6 (by kernel_rfl)
    have e6 := q1 6 _ rfl l6
    refine gen_plain rfl ?_
    simp only [e6]
    go_simp
    refine gr_call ?_
    refine (rsingle0_any _ _).mono ?_
    rintro e wc ⟨⟨A5, rfl, hr5⟩, hg⟩
    have hsz := qB.size
    exact ⟨_, rfl, HI.out _ _ _ ⟨⟨below_grows qB (Nat.le_refl _) hg, qk.grows hg⟩, kn_free q1 rfl, (fun _ => ⟨A5, rfl, RdB.mono hr5 (fun k hk => by unfold Ge at *; omega)⟩), (fun h => by obtain ⟨g, mv, e, hk, hl, ho, hmv⟩ := qm h; exact ⟨g, mv, e, hk.grows hg, hl, ho.grows hg, hmv⟩), (fun h => by obtain ⟨A, e, hr⟩ := qs h; exact ⟨A, e, hr.grows hg⟩), (fun h => by obtain ⟨A1, g, mv, A3, e, hr, hs, hk, hl, ho, hmv⟩ := qb h; exact ⟨A1, g, mv, A3, e, hr.grows hg, hs.grows hg, hk.grows hg, hl, ho.grows hg, hmv⟩), (fun h => by obtain ⟨g, A1, gm, mv, A3, e, hb, hr, hs, hk, ho, hmv⟩ := qz h; exact ⟨g, A1, gm, mv, A3, e, hb.grows hg, hr.grows hg, hs.grows hg, hk.grows hg, ho.grows hg, hmv⟩)⟩⟩
  refine gent_consR (fun vs L w1 hL hw1 => ?_) ?_
  · obtain ⟨⟨qB, qk⟩, q1, q7, qm, qs, qb, qz⟩ := HO.out _ _ _ hw1
    refine gen_plain rfl ?_
    go_simp
    exact gr_val (HI.out _ _ _ ⟨⟨qB, qk⟩, kn_known q1 rfl, q7, qm, qs, qb, qz⟩)
  refine gent_consR (fun vs L w1 hL hw1 => ?_) ?_
  · obtain ⟨⟨qB, qk⟩, q1, q7, qm, qs, qb, qz⟩ := HO.out _ _ _ hw1
    have l8 : L 8 = true := hL.need 8 (by kernel_rfl)
    have e8 := q1 8 _ rfl l8
    refine gen_plain rfl ?_
    simp only [e8]
    go_simp
    exact gr_val (HI.out _ _ _ ⟨⟨qB, qk⟩, kn_known q1 rfl, q7, qm, qs, qb, qz⟩)
  refine gent_consR (fun vs L w1 hL hw1 => ?_) ?_
  · obtain ⟨⟨qB, qk⟩, q1, q7, qm, qs, qb, qz⟩ := HO.out _ _ _ hw1
    have l9 : L 9 = true := hL.need 9 (by kernel_rfl)
    have e9 := q1 9 _ rfl l9
    have xc := qk.cell 2
    refine gen_plain rfl ?_
    simp only [e9]
    go_simp
    exact gr_val (HI.out _ _ _ ⟨⟨qB, qk⟩, kn_known q1 rfl, q7, qm, qs, qb, qz⟩)
  refine gent_consR (fun vs L w1 hL hw1 => ?_) ?_
  · obtain ⟨⟨qB, qk⟩, q1, q7, qm, qs, qb, qz⟩ := HO.out _ _ _ hw1
    have l10 : L 10 = true := hL.need 10 (by kernel_rfl)
    have e10 := q1 10 _ rfl l10
    refine gen_plain rfl ?_
    simp only [e10]
    go_simp
    have hg := (Below.refl w1.heap.size w1).alloc (Nat.le_refl _) (Obj.cells #[.slice I x.m.length ci] 23)
    have hk := Blk.new w1 23 #[.slice I x.m.length ci]
    have hib : InB (w1.alloc (Obj.cells #[.slice I x.m.length ci] 23)) (Under w.heap.size) I x.m := InB.grows (InB.grows (RdB.under (base := fun _ => True) ⟨ix, fun _ _ _ => trivial⟩ : InB w (Under w.heap.size) I x.m) qB) hg
    exact gr_val (HI.out _ _ _ ⟨⟨below_grows qB (Nat.le_refl _) hg, qk.grows hg⟩, kn_free q1 rfl, (fun h => by obtain ⟨A, e, hr⟩ := q7 h; exact ⟨A, e, hr.grows hg⟩), (fun _ => ⟨w1.heap.size, _, rfl, hk, qB.size, hib, rfl⟩), (fun h => by obtain ⟨A, e, hr⟩ := qs h; exact ⟨A, e, hr.grows hg⟩), (fun h => by obtain ⟨A1, g, mv, A3, e, hr, hs, hk, hl, ho, hmv⟩ := qb h; exact ⟨A1, g, mv, A3, e, hr.grows hg, hs.grows hg, hk.grows hg, hl, ho.grows hg, hmv⟩), (fun h => by obtain ⟨g, A1, gm, mv, A3, e, hb, hr, hs, hk, ho, hmv⟩ := qz h; exact ⟨g, A1, gm, mv, A3, e, hb.grows hg, hr.grows hg, hs.grows hg, hk.grows hg, ho.grows hg, hmv⟩)⟩)
  refine gent_consR (fun vs L w1 hL hw1 => ?_) ?_
  · obtain ⟨⟨qB, qk⟩, q1, q7, qm, qs, qb, qz⟩ := HO.out _ _ _ hw1
    refine gen_plain rfl ?_
    go_simp
    exact gr_val (HI.out _ _ _ ⟨⟨qB, qk⟩, kn_known q1 rfl, q7, qm, qs, qb, qz⟩)
  refine gent_consR (fun vs L w1 hL hw1 => ?_) ?_
  · obtain ⟨⟨qB, qk⟩, q1, q7, qm, qs, qb, qz⟩ := HO.out _ _ _ hw1
    have l12 : L 12 = true := hL.need 12 (by kernel_rfl)
    have e12 := q1 12 _ rfl l12
    have xc := qk.cell 3
    refine gen_plain rfl ?_
    simp only [e12]
    go_simp
    exact gr_val (HI.out _ _ _ ⟨⟨qB, qk⟩, kn_known q1 rfl, q7, qm, qs, qb, qz⟩)
  refine gent_consR (fun vs L w1 hL hw1 => ?_) ?_
  · obtain ⟨⟨qB, qk⟩, q1, q7, qm, qs, qb, qz⟩ := HO.out _ _ _ hw1
    have l13 : L 13 = true := hL.need 13 (by kernel_rfl)
    have e13 := q1 13 _ rfl l13
    refine gen_plain rfl ?_
    simp only [e13]
    go_simp
    refine gr_call ?_
    refine (rsingle0_any _ _).mono ?_
    rintro e wc ⟨⟨A5, rfl, hr5⟩, hg⟩
    have hsz := qB.size
    exact ⟨_, rfl, HI.out _ _ _ ⟨⟨below_grows qB (Nat.le_refl _) hg, qk.grows hg⟩, kn_free q1 rfl, (fun h => by obtain ⟨A, e, hr⟩ := q7 h; exact ⟨A, e, hr.grows hg⟩), (fun h => by obtain ⟨g, mv, e, hk, hl, ho, hmv⟩ := qm h; exact ⟨g, mv, e, hk.grows hg, hl, ho.grows hg, hmv⟩), (fun _ => ⟨A5, rfl, RdB.mono hr5 (fun k hk => by unfold Ge at *; omega)⟩), (fun h => by obtain ⟨A1, g, mv, A3, e, hr, hs, hk, hl, ho, hmv⟩ := qb h; exact ⟨A1, g, mv, A3, e, hr.grows hg, hs.grows hg, hk.grows hg, hl, ho.grows hg, hmv⟩), (fun h => by obtain ⟨g, A1, gm, mv, A3, e, hb, hr, hs, hk, ho, hmv⟩ := qz h; exact ⟨g, A1, gm, mv, A3, e, hb.grows hg, hr.grows hg, hs.grows hg, hk.grows hg, ho.grows hg, hmv⟩)⟩⟩
  refine gent_consR (fun vs L w1 hL hw1 => ?_) ?_
  · obtain ⟨⟨qB, qk⟩, q1, q7, qm, qs, qb, qz⟩ := HO.out _ _ _ hw1
    have l3 : L 3 = true := hL.need 3 (by kernel_rfl)
    have e3 := q1 3 _ rfl l3
    have l7 : L 7 = true := hL.need 7 (by kernel_rfl)
    have lm : L 11 = true := hL.need 11 (by kernel_rfl)
    have ls : L 14 = true := hL.need 14 (by kernel_rfl)
    obtain ⟨A1, e7, hr⟩ := q7 l7
    obtain ⟨g, mv, em, hk, hl, ho, hmv⟩ := qm lm
    obtain ⟨A3, es, hs⟩ := qs ls
    refine gen_plain rfl ?_
    simp only [e3, e7, em, es]
    go_simp
    exact gr_val (HI.out _ _ _ ⟨⟨qB, qk⟩, kn_free q1 rfl, q7, qm, qs, (fun _ => ⟨A1, g, mv, A3, rfl, hr, hs, hk, hl, ho, hmv⟩), qz⟩)
  refine gent_consR (fun vs L w1 hL hw1 => ?_) ?_
  · obtain ⟨⟨qB, qk⟩, q1, q7, qm, qs, qb, qz⟩ := HO.out _ _ _ hw1
    have lb : L 15 = true := hL.need 15 (by kernel_rfl)
    obtain ⟨A1, g, mv, A3, eb, hr, hs, hk, hl, ho, hmv⟩ := qb lb
    refine gen_plain rfl ?_
    simp only [eb]
    go_simp
    have hg := (Below.refl w1.heap.size w1).alloc (Nat.le_refl _) (Obj.cells #[.int .i64 K, .slice A1 1 1, .slice (some ⟨g, 0, none⟩) 1 1, .slice A3 1 1] 48)
    have hb := Blk.new w1 48 #[.int .i64 K, .slice A1 1 1, .slice (some ⟨g, 0, none⟩) 1 1, .slice A3 1 1]
    exact gr_val (HI.out _ _ _ ⟨⟨below_grows qB (Nat.le_refl _) hg, qk.grows hg⟩, kn_free q1 rfl, (fun h => by obtain ⟨A, e, hr⟩ := q7 h; exact ⟨A, e, hr.grows hg⟩), (fun h => by obtain ⟨g, mv, e, hk, hl, ho, hmv⟩ := qm h; exact ⟨g, mv, e, hk.grows hg, hl, ho.grows hg, hmv⟩), (fun h => by obtain ⟨A, e, hr⟩ := qs h; exact ⟨A, e, hr.grows hg⟩), (fun h => by obtain ⟨A1, g, mv, A3, e, hr, hs, hk, hl, ho, hmv⟩ := qb h; exact ⟨A1, g, mv, A3, e, hr.grows hg, hs.grows hg, hk.grows hg, hl, ho.grows hg, hmv⟩), (fun _ => ⟨w1.heap.size, A1, g, mv, A3, rfl, hb, hr.grows hg, hs.grows hg, hk.grows hg, ho.grows hg, hmv⟩)⟩)
  refine gent_nil ?_
  intro vs L W2 hall hS
  obtain ⟨⟨hB2, qk⟩, q1, -, -, -, -, qz⟩ := HO.out _ _ _ hS
  obtain ⟨G, A1, gm, mv, A3, ez, hG, hr, hs, hm, ho, hmv⟩ := qz (hall 16 (by omega))
  have e0 := q1 0 _ rfl (hall 0 (by omega))
  have e1 := q1 1 _ rfl (hall 1 (by omega))
  have e2 := q1 2 _ rfl (hall 2 (by omega))
  have e3 := q1 3 _ rfl (hall 3 (by omega))
  have e4 := q1 4 _ rfl (hall 4 (by omega))
  have e5 := q1 5 _ rfl (hall 5 (by omega))
  have e6 := q1 6 _ rfl (hall 6 (by omega))
  have e8 := q1 8 _ rfl (hall 8 (by omega))
  have e9 := q1 9 _ rfl (hall 9 (by omega))
  have e10 := q1 10 _ rfl (hall 10 (by omega))
  have e12 := q1 12 _ rfl (hall 12 (by omega))
  have e13 := q1 13 _ rfl (hall 13 (by omega))
  clear hall hS HI HO q1 qz hB k1 x1 qk
  simp only [e0, e1, e2, e3, e4, e5, e6, e8, e9, e10, e12, e13, ez]
  clear e0 e1 e2 e3 e4 e5 e6 e8 e9 e10 e12 e13 ez
  subst hmv
  have hB := hB2
  have hmr : MapsR W2 (fun _ => True) (some ⟨gm, 0, none⟩) [x.m] := maps_one hm trivial (InB.mono ho (fun _ _ => trivial)) hci
  have hp : BoxP W2 (fun _ => True) ⟨K, [(x.r, x.r)], [x.m], [(x.s, x.s)]⟩ A1 1 (some ⟨gm, 0, none⟩) 1 A3 1 := ⟨RdB.mono hr (fun _ _ => trivial), hmr, RdB.mono hs (fun _ _ => trivial), Nat.le_refl _, Nat.le_refl _, Nat.le_refl _⟩
  have hok : OKB ⟨K, [(x.r, x.r)], [x.m], [(x.s, x.s)]⟩ := okb_one K hxm
  have hL := bxs_blk hp hG rfl
  obtain ⟨z, hz⟩ : ∃ z : Bx, z = ⟨K, [(x.r, x.r)], [x.m], [(x.s, x.s)]⟩ := ⟨_, rfl⟩
  rw [← hz] at hL hok
  have HE : Hid (singleF x = boxesF [z]) := Lib.hid (by
    rw [HS.out, ← hz]
    unfold boxesF validL
    simp)
  have hcon := (rlist_any (some ⟨G, 0, none⟩) 1 (fun _ => True) [z] W2 hL (by simp) (fun b hb => by simp only [List.mem_singleton] at hb; exact hb ▸ hok) (by simp))
  have HC := Lib.hid hcon
  clear hcon hr hs hm ho hmr hp hok hz hG hL hB2
  go_wp2_with fail
  refine HC.out.mono ?_
  rintro e w5 ⟨⟨A4, c4, rfl, hc4, hbx⟩, hq⟩
  replace hB := below_grows hB (Nat.le_refl _) hq
  replace hbx := hbx.grows hq
  generalize boxesF [z] = zs at *
  go_wp2
  go_ret
  rw [HE.out]
  exact ⟨⟨_, _, rfl, hc4, hbx⟩, hB⟩
end Go.Proofs.YtnbdpnlepcjmmaaGreat

namespace Go.Proofs.YtnbdpnlepcjmmaaGreat
open Go.RowKit
theorem one_fin : ∀ k : Fin 8, 1 ≤ k.val → kindsOk (2 ^ k.val : Int) = true ∧ I64 (2 ^ k.val : Int) ∧ ∀ j : Fin 8, kindB (2 ^ k.val : Int) (j.val : Int) = decide (j.val = k.val) := by
  unfold I64
  decide +kernel
theorem one_kind {k : Int} (h1 : 1 ≤ k) (h7 : k ≤ 7) : kindsOk (2 ^ k.toNat : Int) = true ∧ I64 (2 ^ k.toNat : Int) ∧ ∀ j, kindB (2 ^ k.toNat : Int) j = decide (j = k) := by
  obtain ⟨n, rfl⟩ : ∃ n : Nat, k = (n : Int) := ⟨k.toNat, by omega⟩
  obtain ⟨a1, a2, a3⟩ := one_fin ⟨n, by omega⟩ (by show 1 ≤ n; omega)
  refine ⟨a1, a2, fun j => ?_⟩
  by_cases hj : 1 ≤ j ∧ j ≤ 7
  · obtain ⟨i, rfl⟩ : ∃ i : Nat, j = (i : Int) := ⟨j.toNat, by omega⟩
    have := a3 ⟨i, by omega⟩
    refine this.trans ?_
    rw [Bool.eq_iff_iff, decide_eq_true_eq, decide_eq_true_eq]
    show i = n ↔ (i : Int) = (n : Int)
    omega
  · rw [kind_out hj, decide_eq_false (by omega)]
theorem one_span {r n : Int} (h : okS [(r, r)] = true) : hasF [(r, r)] n = decide (n = r) := by
  rw [Bool.eq_iff_iff, hasF_iff h, decide_eq_true_eq, mem_cons]
  constructor
  · rintro (h | h)
    · have : r ≤ n ∧ n ≤ r := h
      omega
    · exact absurd h (mem_nil n)
  · rintro rfl
    exact .inl ⟨Int.le_refl _, Int.le_refl _⟩
theorem one_has {c : Ch} (h : fineB (oneB c) = true) (h1 : 1 ≤ c.k) (h7 : c.k ≤ 7) (d : Ch) : inB (oneB c) d = decide (d = c) := by
  obtain ⟨f1, f2, f3, f4⟩ := fineB_all.1 h
  have e : inB (oneB c) d = (kindB (2 ^ c.k.toNat : Int) d.k && hasF [(c.r, c.r)] d.r && decide (d.m ∈ [c.m]) && hasF [(c.s, c.s)] d.s) := rfl
  rw [e, (one_kind h1 h7).2.2, one_span (within_iff.1 f2).1, one_span (within_iff.1 f3).1, Bool.eq_iff_iff]
  simp only [Bool.and_eq_true, decide_eq_true_eq, List.mem_singleton]
  obtain ⟨k, r, m, s⟩ := c
  obtain ⟨k2, r2, m2, s2⟩ := d
  simp only [Ch.mk.injEq]
  constructor
  · rintro ⟨⟨⟨h1, h2⟩, h3⟩, h4⟩
    exact ⟨h1, h2, h3, h4⟩
  · rintro ⟨h1, h2, h3, h4⟩
    exact ⟨⟨⟨h1, h2⟩, h3⟩, h4⟩
theorem span_one {n lo hi : Int} (h0 : 0 ≤ n) (h1 : lo ≤ n) (h2 : n ≤ hi) (h3 : n ≤ 2147483647) : withinS [(n, n)] lo hi = true := by
  refine within_iff.2 ⟨(okS_iff _).2 ⟨fun x hx => ?_, ?_, by simp⟩, by simp, fun x hx => ?_⟩
  · simp only [List.mem_singleton] at hx
    subst hx
    exact (fineS_iff _).2 ⟨h0, Int.le_refl _, h3⟩
  · exact canon_cons.2 ⟨Int.le_refl _, (fun y hy => (by cases hy)), canon_nil⟩
  · simp only [List.mem_singleton] at hx
    subst hx
    exact ⟨h1, h2⟩
theorem one_fine {x : Bx} (hx : FB x) {c : Ch} (h : inB x c = true) : 1 ≤ c.k ∧ c.k ≤ 7 ∧ fineB (oneB c) = true := by
  obtain ⟨i1, i2, i3, i4⟩ := inB_iff.1 h
  obtain ⟨k1, k7⟩ := kindB_rng i1
  obtain ⟨f1, f2, f3, f4⟩ := fineB_all.1 hx.1
  obtain ⟨g1, g2, g3, g4⟩ := maps_iff.1 f4
  obtain ⟨-, -, wr⟩ := within_iff.1 f2
  obtain ⟨-, -, ws⟩ := within_iff.1 f3
  refine ⟨k1, k7, fineB_all.2 ⟨(one_kind k1 k7).1, ?_, ?_, maps_iff.2 ⟨Nat.le_refl _, by simp [oneB], fun y hy => ?_, by simp [oneB]⟩⟩⟩
  · obtain ⟨z, hz, z1, z2⟩ := (hasF_iff hx.r c.r).1 i2
    have := wr z hz
    exact span_one (by omega) (by omega) (by omega) (by omega)
  · obtain ⟨z, hz, z1, z2⟩ := (hasF_iff hx.s c.s).1 i4
    have := ws z hz
    exact span_one (by omega) (by omega) (by omega) (by omega)
  · have hy : y ∈ [c.m] := hy
    simp only [List.mem_singleton] at hy
    exact hy ▸ g3 c.m i3
theorem fl_single (c : Ch) : FL (singleF c) ∧ Small (singleF c) ∧ (singleF c).length ≤ 1 := by
  unfold singleF
  split
  · rename_i h
    refine ⟨⟨fun b hb => ?_, by simp⟩, fun b hb => ?_, by simp⟩
    · simp only [List.mem_singleton] at hb
      subst hb
      exact ⟨h.2.2, (one_kind h.1 h.2.1).2.1⟩
    · simp only [List.mem_singleton] at hb
      subst hb
      exact ⟨by simp [oneB], by simp [oneB]⟩
  · exact ⟨⟨fun b hb => (by cases hb), by simp⟩, fun b hb => (by cases hb), by simp⟩
/-- A list has a choice exactly if its intersection with that choice alone is not empty. -/
theorem has_single {a : List Bx} (ha : FL a) (c : Ch) : candL 15 (pairsL a (singleF c)) = [] ↔ hasL a c = false := by
  have key : hasL a c = true ↔ ∃ z, z ∈ candL 15 (pairsL a (singleF c)) := by
    rw [ha.has]
    constructor
    · rintro ⟨x, hx, hc⟩
      obtain ⟨k1, k7, hf⟩ := one_fine (ha.1 x hx) hc
      have e : singleF c = [oneB c] := if_pos ⟨k1, k7, hf⟩
      have hfb : FB (oneB c) := ⟨hf, (one_kind k1 k7).2.1⟩
      refine ⟨_, mem_cand.2 ⟨x, hx, oneB c, by rw [e]; exact List.mem_singleton.2 rfl, rfl, dims_some (ha.1 x hx) hfb hc ?_⟩⟩
      rw [inD_all, one_has hf k1 k7, decide_eq_true rfl]
    · rintro ⟨z, hz⟩
      obtain ⟨x, hx, y, hy, rfl, hs⟩ := mem_cand.1 hz
      unfold singleF at hy
      split at hy
      · rename_i h
        simp only [List.mem_singleton] at hy
        subst hy
        obtain ⟨d, d1, d2⟩ := some_has (ha.1 x hx) ⟨h.2.2, (one_kind h.1 h.2.1).2.1⟩ hs
        rw [inD_all, one_has h.2.2 h.1 h.2.1, decide_eq_true_eq] at d2
        subst d2
        exact ⟨x, hx, d1⟩
      · cases hy
  constructor
  · intro h
    cases e : hasL a c
    · rfl
    · obtain ⟨z, hz⟩ := key.1 e
      rw [h] at hz
      cases hz
  · intro h
    refine List.eq_nil_iff_forall_not_mem.2 fun z hz => ?_
    rw [key.2 ⟨z, hz⟩] at h
    cases h
end Go.Proofs.YtnbdpnlepcjmmaaGreat

namespace Go.Proofs.YtnbdpnlepcjmmaaGreat
open Go.ChangeShapes Go.WideShapes Go.RowKit Go.Deep
section
variable {H : Type} {enc : TypeId × Value → H} {P : Program} {w : World} {base : Nat} {spare : Nat → Bool} {held : Bool} {r : Reach} {b0 : Nat}
/-- A struct of one-cell fields: its cells, each with its own reading. -/
theorem open_flat {t : TypeId} {fs : Array Field} {v : Value} {d : DataW H} {p : List MemPlace} (ht : P.underlying t = some (.struct fs)) (hone : oneCellFields P fs = true) (hC : P.cellsOf t = fs.size)
 (hv : Value.okWide P w r b0 t v) (h : DataW.Trod enc P w base spare held t v d p) :
 ∃ l : List Value, v = .agg l.toArray ∧ l.length = fs.size ∧ ∀ (i : Nat) (f : Field), fs[i]? = some f → ∃ (x : Value) (n : Nat) (y : DataW H × List MemPlace), l[i]? = some x ∧ DataW.trod enc P w base spare held n f.type [x] = some y := by
 obtain ⟨cs, rfl, hsz⟩ := okWide_struct ht hv
 obtain ⟨fuel, hf⟩ := h
 obtain ⟨xs, n, _, _, hcl, hlen, hg⟩ := DataW.trod_struct ht hf
 have hcs : (Value.agg cs).cells.toList = cs.toList := rfl
 refine ⟨cs.toList, rfl, by simpa [hC] using hsz, fun i f hi => ?_⟩
 obtain ⟨ho, hk⟩ := hone_of hone i f hi
 have hil : i < fs.size := (Array.getElem?_eq_some_iff.1 hi).1
 have hil' : i < cs.toList.length := by simp [hsz, hC, hil]
 have h1 := hg i f hi
 rw [ho, hk] at h1
 have hone' : ((Value.agg cs).cells.toList.drop i).take 1 = [cs.toList[i]] := by
  rw [hcs, List.drop_eq_getElem_cons hil']
  rfl
 rw [hone', List.getElem?_eq_getElem (by omega)] at h1
 exact ⟨cs.toList[i], n, _, List.getElem?_eq_getElem hil', h1⟩
def allInt (P : Program) (k : IntKind) (fs : Array Field) : Bool := fs.toList.all fun f => match P.underlying f.type with | some (.int k') => decide (k' = k) | _ => false
theorem open_ints_agg {t : TypeId} {fs : Array Field} {k : IntKind} {n : Nat} {v : Value} {d : DataW H} {p : List MemPlace} (ht : P.underlying t = some (.struct fs)) (hone : oneCellFields P fs = true) (hC : P.cellsOf t = n) (hn : fs.size = n) (hk : allInt P k fs = true)
 (hv : Value.okWide P w r b0 t v) (h : DataW.Trod enc P w base spare held t v d p) :
 ∃ l : List Int, v = .agg (l.map (Value.int k)).toArray ∧ l.length = n ∧ ∀ a ∈ l, (Lit.int k a).wf = true := by
 obtain ⟨l, rfl, hl, hf⟩ := open_flat ht hone (hC.trans hn.symm) hv h
 have each : ∀ i, i < l.length → ∃ a : Int, l[i]? = some (.int k a) ∧ (Lit.int k a).wf = true := by
  intro i hi
  have hi' : i < fs.size := by omega
  obtain ⟨x, m, y, hx, hy⟩ := hf i fs[i] (Array.getElem?_eq_getElem hi')
  have hki := List.all_eq_true.1 hk fs[i] (by simp)
  split at hki
  ·rename_i k' hu
   have : k' = k := by simpa using hki
   subst this
   obtain ⟨a, h1, _, h3⟩ := DataW.trod_int hu hy
   simp only [List.cons.injEq, and_true] at h1
   exact ⟨a, by rw [hx, h1], h3⟩
  ·cases hki
 have hmap : ∀ l : List Value, (∀ i, i < l.length → ∃ a : Int, l[i]? = some (.int k a) ∧ (Lit.int k a).wf = true) → ∃ z : List Int, l = z.map (Value.int k) ∧ ∀ a ∈ z, (Lit.int k a).wf = true := by
  intro l
  induction l with
  | nil => exact fun _ => ⟨[], rfl, by simp⟩
  | cons x l ih =>
   intro hh
   obtain ⟨a, h1, h2⟩ := hh 0 (by simp)
   obtain ⟨z, rfl, hz⟩ := ih fun i hi => by simpa using hh (i + 1) (by simp; omega)
   simp at h1
   exact ⟨a :: z, by rw [h1]; rfl, by simpa [h2] using hz⟩
 obtain ⟨z, rfl, hz⟩ := hmap l each
 exact ⟨z, rfl, by simpa [hn] using hl, hz⟩
end
theorem i64_bd {n : Int} (h : (Lit.int .i64 n).wf = true) : -9223372036854775808 ≤ n ∧ n ≤ 9223372036854775807 := by
 simpa [Lit.wf, IntKind.min, IntKind.max, IntKind.signed, IntKind.bits] using h
end Go.Proofs.YtnbdpnlepcjmmaaGreat

namespace Go.Proofs.YtnbdpnlepcjmmaaGreat
open Go.ChangeShapes Go.WideShapes Go.RowKit Go.Deep
set_option maxRecDepth 100000 in
/-- A slice of ints among the arguments. -/
theorem open_slice_kind {H : Type} {enc : TypeId × Value → H} {P : Program} {w : World} {r : Reach} {b0 : Nat} {k : IntKind} {t e : TypeId} {v : Value} {d : DataW H} {p : List MemPlace} (ht : P.underlying t = some (.slice e)) (he : P.underlying e = some (.int k)) (hc : P.cellsOf e = 1)
 (hv : Value.okWide P w r b0 t v) (h : DataW.Trod enc P w 0 (fun _ => true) true t v d p) :
 ∃ (A : Option Addr) (c : Nat) (l : List Int), v = .slice A l.length c ∧ Reads w w.heap.size 1 A l.length (l.map (Value.int k)) ∧ l.length ≤ maxLen ∧ l.length ≤ c ∧ ∀ x ∈ l, (Lit.int k x).wf = true := by
 obtain ⟨a0, len, cap, rfl⟩ := okWide_slice ht hv
 obtain ⟨fuel, hf⟩ := h
 rcases open_ints ht he hc hf with ⟨hcs, _⟩ | ⟨a, len', cap', zs, hcs, _, hl, hm, hz, _, hcell, hwz⟩
 ·simp [Value.cells] at hcs
  obtain ⟨rfl, rfl, rfl⟩ := hcs
  exact ⟨none, 0, [], rfl, ⟨by simp, fun h => absurd h (by simp)⟩, by simp, by simp, by simp⟩
 ·simp [Value.cells] at hcs
  obtain ⟨rfl, rfl, rfl⟩ := hcs
  simp only [if_true] at hz
  have hlen : (zs.take len).length = len := by simp; omega
  refine ⟨some a, cap, zs.take len, by rw [hlen], ⟨by simp, fun _ => ⟨a, rfl, ?_, fun j u hu => ?_⟩⟩, by omega, by omega, fun x hx => hwz x (List.mem_of_mem_take hx)⟩
  ·have h0 : 0 < zs.length := by
    rename_i hpos
    rw [hlen] at hpos
    omega
   have := hcell 0 h0
   have hb : (a.add 0).block = a.block := block_of_add a 0
   rw [← hb]
   exact World.block_lt_of_cell? w _ this
  ·rw [List.getElem?_map] at hu
   obtain ⟨x, hx, rfl⟩ := Option.map_eq_some_iff.1 hu
   have hj : j < len := by
    have := (List.getElem?_eq_some_iff.1 hx).1
    rw [hlen] at this
    exact this
   rw [hcell j (by omega)]
   rw [List.getElem?_take, if_pos hj] at hx
   rw [List.getD_eq_getElem?_getD, hx]
   rfl
set_option maxRecDepth 100000 in
theorem u8_bd {n : Int} (h : (Lit.int .u8 n).wf = true) : 0 ≤ n ∧ n ≤ 255 := by
 simpa [Lit.wf, IntKind.min, IntKind.max, IntKind.signed, IntKind.bits] using h
set_option maxRecDepth 100000 in
theorem u16_bd {n : Int} (h : (Lit.int .u16 n).wf = true) : 0 ≤ n ∧ n ≤ 65535 := by
 simpa [Lit.wf, IntKind.min, IntKind.max, IntKind.signed, IntKind.bits] using h
set_option maxRecDepth 100000 in
theorem i16_bd {n : Int} (h : (Lit.int .i16 n).wf = true) : -32768 ≤ n ∧ n ≤ 32767 := by
 simpa [Lit.wf, IntKind.min, IntKind.max, IntKind.signed, IntKind.bits] using h
end Go.Proofs.YtnbdpnlepcjmmaaGreat

namespace Go.Proofs.YtnbdpnlepcjmmaaGreat
open Go.RowKit
theorem validM_len {m : List Int} (h : validM m = true) : m.length ≤ 8 := by
  unfold validM at h
  simp only [Bool.and_eq_true, decide_eq_true_eq] at h
  exact h.1.2
theorem okb_fine {b : Bx} (h : FB b) : OKB b := by
  obtain ⟨f1, f2, f3, f4⟩ := fineB_all.1 h.1
  obtain ⟨g1, g2, g3, g4⟩ := maps_iff.1 f4
  have h1 := ((okS_iff b.r).1 h.r).2.2
  have h2 := ((okS_iff b.s).1 h.s).2.2
  exact ⟨by omega, by omega, by omega, fun x hx => by have := validM_len (g3 x hx); omega⟩
theorem fl_fine {l : List Bx} (h : Fine l) (hl : l.length ≤ 64) : FL l := ⟨fun b hb => ⟨(h b hb).1, (h b hb).2.2.1⟩, hl⟩
theorem small_fine {l : List Bx} (h : Fine l) : Small l := fun b hb => by have := (h b hb).2.2.2; unfold Few at this; omega
theorem FL.okb {l : List Bx} (h : FL l) : ∀ b ∈ l, OKB b := fun b hb => okb_fine (h.1 b hb)
end Go.Proofs.YtnbdpnlepcjmmaaGreat

namespace Go.Proofs.YtnbdpnlepcjmmaaGreat
open Go.ChangeShapes Go.WideShapes Go.ChangeAt Go.RowKit
namespace OfferSingles
set_option maxHeartbeats 32000000 in
set_option maxRecDepth 10000 in
theorem walk (A : Option Addr) (c0 : Nat) (sd : List Int) (w : World) (h0 : Reads w w.heap.size 1 A sd.length (sd.map (Value.int .u8))) (hc : sd.length ≤ c0) (hl : sd.length ≤ 9223372036854775807) (hwf : ∀ x ∈ sd, 0 ≤ x ∧ x ≤ 255) :
    Calls Tryz.prog 7 #[.slice A sd.length c0] w fun e w' => e = .returned (.bool true) ∧ Grows w w' := by
  have hB := Below.refl w.heap.size w
  go_enter Tryz.func7, Tryz.ntmps7
  go_wp2_with fail
  refine (sane_any w).mono ?_
  rintro e w1 ⟨rfl, hq⟩
  replace hB := below_grows hB (Nat.le_refl _) hq
  replace h0 := Reads.grows h0 hq
  have hs1 := hB.size
  clear hq
  go_wp2_with fail
  refine (made_any A c0 sd w1 h0 hc hl hwf).mono ?_
  rintro e w2 ⟨⟨g, a, b, c, A1, c1, A2, c2, v, rfl, hxa, hxb, hc1, hc2, hfa, hfb, hla, hlb, ⟨A3, n3, rfl, hn3, hic⟩, hokc, hD, hsz⟩, hq⟩
  replace hB := below_grows hB (Nat.le_refl _) hq
  clear hq h0
  have HFA := Lib.hid hfa
  have HFB := Lib.hid hfb
  have fla := fl_fine hfa (by omega)
  have flb := fl_fine hfb (by omega)
  have sma := small_fine hfa
  have smb := small_fine hfb
  clear hfa hfb
  have hg2 := hD.lt
  obtain ⟨i1, i2, i3, -⟩ := has_interP fla flb sma smb (by have := Nat.mul_le_mul hla hlb; omega)
  obtain ⟨j1, j2, j3, -⟩ := has_interP flb fla smb sma (by have := Nat.mul_le_mul hlb hla; omega)
  obtain ⟨m1, m2, m3, -⟩ := has_interP fla fla sma sma (by have := Nat.mul_le_mul hla hla; omega)
  have HOA := Lib.hid fla.okb
  have HOB := Lib.hid flb.okb
  have HS1 : Hid (∀ c, ∃ u, interP a (singleF c) = (u, 0) ∧ decide (0 < u.length) = hasL a c) := Lib.hid (fun c => by
    obtain ⟨s1, s2, s3⟩ := fl_single c
    obtain ⟨t1, t2, t3, t4⟩ := has_interP fla s1 sma s2 (by have := Nat.mul_le_mul hla s3; omega)
    refine ⟨(interP a (singleF c)).1, Prod.ext rfl t2, ?_⟩
    rw [Bool.eq_iff_iff, decide_eq_true_eq]
    have h := has_single fla c
    rw [← t4] at h
    cases hv : hasL a c
    · rw [h.2 hv]
      simp
    · have hne : (interP a (singleF c)).1 ≠ [] := fun e => by rw [h.1 e] at hv; cases hv
      exact ⟨fun _ => rfl, fun _ => List.length_pos_iff.2 hne⟩)
  have HIN := Lib.hid fun (q0 : Nat) (w0 : World) h1 h2 => (i2 ▸ pinter_any (w := w0) (ba := Btw (g + 1) q0) (bb := Btw (g + 1) q0) (A := A1) (B := A2) (c := c1) (d := c2) rfl rfl h1 h2 (by omega) (by omega) fla.okb flb.okb)
  have HJN := Lib.hid fun (q0 : Nat) (w0 : World) h1 h2 => (j2 ▸ pinter_any (w := w0) (ba := Btw (g + 1) q0) (bb := Btw (g + 1) q0) (A := A2) (B := A1) (c := c2) (d := c1) rfl rfl h1 h2 (by omega) (by omega) flb.okb fla.okb)
  have HMN := Lib.hid fun (q0 : Nat) (w0 : World) h1 h2 => (m2 ▸ pinter_any (w := w0) (ba := Btw (g + 1) q0) (bb := Btw (g + 1) q0) (A := A1) (B := A1) (c := c1) (d := c1) rfl rfl h1 h2 (by omega) (by omega) fla.okb fla.okb)
  have HSN := Lib.hid fun (q0 : Nat) (w0 : World) (B : Option Addr) (d : Nat) (S : List Bx) (hs : FL S) (ok : Nat → Prop) (h1 : Bxs w0 (Btw (g + 1) q0) A1 a) (h2 : Bxs w0 ok B S) => pinter_any (w := w0) (c := c1) (d := d) rfl rfl h1 h2 (by omega) (by have := hs.2; omega) fla.okb hs.okb
  generalize hI : (interP a b).1 = I at *
  generalize hJ : (interP b a).1 = J at *
  generalize hM : (interP a a).1 = M at *
  have HI1 := Lib.hid i3
  have HI2 := Lib.hid i1
  have HJ1 := Lib.hid j3
  have HJ2 := Lib.hid j1
  have HM1 := Lib.hid m3
  have HM2 := Lib.hid m1
  clear i1 i2 i3 j1 j2 j3 m1 m2 m3 hI hJ hM fla flb sma smb
  go_wp2_with fail
  replace hxa : Bxs w2 (Btw (g + 1) w2.heap.size) A1 a := hxa.bd
  replace hxb : Bxs w2 (Btw (g + 1) w2.heap.size) A2 b := hxb.bd
  have hic2 : InB w2 (fun k => g < k ∧ k ≠ w2.heap.size) A3 c.m := (RdB.bd hic).mono (fun k hk => ⟨hk.1, Nat.ne_of_lt hk.2⟩)
  clear hic
  have hic := hic2
  clear hic2
  have k5 := Blk.new w2 27 #[.int .i64 c.k, .int .i64 c.r, .slice A3 c.m.length n3, .int .i64 c.s]
  have hq := (Below.refl w2.heap.size w2).alloc (Nat.le_refl _) (Obj.cells #[.int .i64 c.k, .int .i64 c.r, .slice A3 c.m.length n3, .int .i64 c.s] 27)
  replace hB := below_grows hB (Nat.le_refl _) hq
  replace hxa := hxa.grows hq
  replace hxb := hxb.grows hq
  replace hic := hic.grows hq
  replace hD := hD.grows hq
  clear hq
  generalize w2.heap.size = q5 at *
  generalize World.alloc w2 _ = w3 at *
  have hg5 : g < q5 := hg2
  go_wp2_with fail
  refine ((HIN.out q5 _ hxa hxb)).mono ?_
  rintro e w4 ⟨⟨v, rfl, hwi⟩, hq⟩
  have hs4 := k5.lt
  obtain ⟨A7, c7, rfl, hcc7, hxI⟩ := hwi.read
  replace hxI : Bxs w4 (fun k => q5 < k) A7 I := hxI.mono (fun k hk => by unfold Ge at *; omega)
  replace hB := below_grows hB (Nat.le_refl _) hq
  replace k5 := k5.grows hq
  replace hxa := hxa.grows hq
  replace hxb := hxb.grows hq
  replace hic := hic.grows hq
  replace hD := hD.grows hq
  clear hq
  clear hwi hs4
  go_wp2_with fail
  refine (HJN.out q5 _ hxb hxa).mono ?_
  rintro e w5 ⟨⟨v, rfl, hwi⟩, hq⟩
  have hs4 := k5.lt
  obtain ⟨A8, c8, rfl, hcc8, hxJ⟩ := hwi.read
  replace hxJ : Bxs w5 (fun k => q5 < k) A8 J := hxJ.mono (fun k hk => by unfold Ge at *; omega)
  replace hB := below_grows hB (Nat.le_refl _) hq
  replace k5 := k5.grows hq
  replace hxa := hxa.grows hq
  replace hxb := hxb.grows hq
  replace hic := hic.grows hq
  replace hD := hD.grows hq
  replace hxI := hxI.grows hq
  clear hq
  clear hwi hs4
  go_wp2_with fail
  refine (HMN.out q5 _ hxa hxa).mono ?_
  rintro e w6 ⟨⟨v, rfl, hwi⟩, hq⟩
  have hs4 := k5.lt
  obtain ⟨A9, c9, rfl, hcc9, hxM⟩ := hwi.read
  replace hxM : Bxs w6 (fun k => q5 < k) A9 M := hxM.mono (fun k hk => by unfold Ge at *; omega)
  replace hB := below_grows hB (Nat.le_refl _) hq
  replace k5 := k5.grows hq
  replace hxa := hxa.grows hq
  replace hxb := hxb.grows hq
  replace hic := hic.grows hq
  replace hD := hD.grows hq
  replace hxI := hxI.grows hq
  replace hxJ := hxJ.grows hq
  clear hq
  clear hwi hs4
  clear HIN HJN HMN
  go_wp2_with fail
  go_loopw [13] (fun i wr => ∃ (n : Nat) (c : Ch) (A3 : Option Addr) (n3 : Nat), n ≤ 4 ∧ i = .int .i64 n ∧ c.m.length ≤ n3 ∧ Blk wr q5 27 #[.int .i64 c.k, .int .i64 c.r, .slice A3 c.m.length n3, .int .i64 c.s] ∧ InB wr (fun k => g < k ∧ k ≠ q5) A3 c.m ∧ OKC c ∧ Bxs wr (Btw (g + 1) q5) A1 a ∧ Bxs wr (Btw (g + 1) q5) A2 b ∧ Bxs wr (fun k => q5 < k) A7 I ∧ Bxs wr (fun k => q5 < k) A8 J ∧ Bxs wr (fun k => q5 < k) A9 M ∧ DR wr w1.heap.size g ∧ Below w.heap.size w wr) (fun i _ => 4 - (intOf i).toNat)
  case atStart => exact ⟨0, c, A3, n3, by omega, rfl, hn3, k5, hic, hokc, hxa, hxb, hxI, hxJ, hxM, hD, hB⟩
  case round =>
    clear k5 hxa hxb hic hxI hxJ hxM hD hB hokc hn3
    obtain ⟨n, c, A3, n3, hn6, rfl, hn3, k5, hic, hokc, hxa, hxb, hxI, hxJ, hxM, hD, hB⟩ := hrel
    by_cases hlt : n < 4
    · have d1 : decide ((n : Int) < 4) = true := by simp only [decide_eq_true_eq]; omega
      have hwn : IntKind.i64.wrap ((n : Int) + 1) = ((n + 1 : Nat) : Int) := by rw [IntWalk.i64_in _ (by omega)]; rfl
      obtain ⟨u, hu, hul⟩ := HS1.out c
      have HU := Lib.hid hu
      have HFS := Lib.hid (fl_single c).1
      clear hu
      have x5 := k5.cell
      go_wp2_with fail
      refine (psingle_any (x := c) (I := A3) (ci := n3) (InB.ints hic) hn3 hokc.2.2).mono ?_
      rintro e w7 ⟨⟨A5, c5, rfl, hc5, hxs⟩, hq⟩
      replace hB := below_grows hB (Nat.le_refl _) hq
      replace k5 := k5.grows hq
      replace hxa := hxa.grows hq
      replace hxb := hxb.grows hq
      replace hic := hic.grows hq
      replace hD := hD.grows hq
      replace hxI := hxI.grows hq
      replace hxJ := hxJ.grows hq
      replace hxM := hxM.grows hq
      clear hq
      clear x5
      go_wp2_with fail
      have hcon := HSN.out q5 _ A5 c5 (singleF c) HFS.out _ hxa hxs
      rw [HU.out] at hcon
      refine hcon.mono ?_
      rintro e w8 ⟨⟨v, rfl, hwi⟩, hq⟩
      obtain ⟨A6, c6, rfl, hc6, -⟩ := hwi.read
      replace hB := below_grows hB (Nat.le_refl _) hq
      replace k5 := k5.grows hq
      replace hxa := hxa.grows hq
      replace hxb := hxb.grows hq
      replace hic := hic.grows hq
      replace hD := hD.grows hq
      replace hxI := hxI.grows hq
      replace hxJ := hxJ.grows hq
      replace hxM := hxM.grows hq
      clear hq
      clear hcon hwi hxs
      go_upto_region 11 with fail
      have hul2 : decide ((0 : Int) < (u.length : Int)) = hasL a c := by rw [← hul, Bool.eq_iff_iff, decide_eq_true_eq, decide_eq_true_eq]; omega
      have CI := fun (w0 : World) (h : Grows w8 w0) => phasl_any (x := c) (I := A3) (ci := n3) (c := c7) (hxI.grows h) (by have := HI2.out.2; omega) hcc7 HI2.out.okb (InB.ints (hic.grows h)) hokc.2.2
      have CJ := fun (w0 : World) (h : Grows w8 w0) => phasl_any (x := c) (I := A3) (ci := n3) (c := c8) (hxJ.grows h) (by have := HJ2.out.2; omega) hcc8 HJ2.out.okb (InB.ints (hic.grows h)) hokc.2.2
      have CM := fun (w0 : World) (h : Grows w8 w0) => phasl_any (x := c) (I := A3) (ci := n3) (c := c9) (hxM.grows h) (by have := HM2.out.2; omega) hcc9 HM2.out.okb (InB.ints (hic.grows h)) hokc.2.2
      have CA := fun (w0 : World) (h : Grows w8 w0) => phasl_any (x := c) (I := A3) (ci := n3) (c := c1) (hxa.grows h) (by omega) hc1 HOA.out (InB.ints (hic.grows h)) hokc.2.2
      simp only [HI1.out c] at CI
      simp only [HJ1.out c, Bool.and_comm (hasL b c)] at CJ
      simp only [HM1.out c, Bool.and_self] at CM
      generalize (hasL a c && hasL b c) = vz at *
      generalize hasL a c = va at *
      have HCI := Lib.hid CI
      have HCJ := Lib.hid CJ
      have HCM := Lib.hid CM
      have HCA := Lib.hid CA
      clear CI CJ CM CA
      refine wp_region_mix (fun w' => Grows w8 w') [] 29 96 (by kernel_rfl) (by kernel_rfl) rfl ?_ float_none ?_ ?_
      · exact fun w1 w2 h0 hg => below_grows h0 (Nat.le_refl _) hg
      · exact Grows.drew' _
      · skip
        simp only [List.take_succ_cons, List.take_zero, List.drop_succ_cons, List.drop_zero]
        iterate 29
          first
            | (refine calm_no rfl rfl (a' := ?_) ?_ ?_
               rotate_left 1
               · simp only [Act.put, List.setIfInBounds_toArray, List.set_cons_succ, List.set_cons_zero]
                 rfl)
            | (first | refine calm_plain rfl rfl (v := ?_) (a' := ?_) (fun w1 hw1 => ?_) ?_ ?_ | refine calm_yes rfl rfl (v := ?_) (a' := ?_) (fun w1 hw1 => ?_) ?_ ?_
               rotate_left 2
               · have h0 := hw1
                 have x5 := (k5.grows h0).cell
                 go_simp
                 first | exact calm_val | (refine calm_call ?_; with_reducible exact HCI.out _ h0) | (refine calm_call ?_; with_reducible exact HCJ.out _ h0) | (refine calm_call ?_; with_reducible exact HCM.out _ h0) | (refine calm_call ?_; with_reducible exact HCA.out _ h0)
               · simp only [Act.put, List.setIfInBounds_toArray, List.set_cons_succ, List.set_cons_zero]
                 rfl)
        refine calm_done (end_none ?_)
        intro wq hgw
        replace hB := below_grows hB (Nat.le_refl _) hgw
        replace k5 := k5.grows hgw
        replace hxa := hxa.grows hgw
        replace hxb := hxb.grows hgw
        replace hxI := hxI.grows hgw
        replace hxJ := hxJ.grows hgw
        replace hxM := hxM.grows hgw
        replace hD := hD.grows hgw
        clear hgw hic HCI HCJ HCM HCA hul hul2
        go_wp2_with fail
        refine (choice_anyq w1.heap.size g _ hD hxa (by omega) hc1 HFA.out (fun k hk => by unfold Btw at hk; omega)).mono ?_
        rintro e w6 ⟨⟨y, v, rfl, ⟨A5, n5, rfl, hn5, hiy⟩, hoky⟩, hDn, hq⟩
        have hsz9 := hD.lt
        have hsq := k5.lt
        replace k5 := k5.grown hq (by intro e; injection e; omega)
        replace hxa := hxa.grown hq (fun q e hh => by injection e with e; unfold Btw at hh; omega)
        replace hxb := hxb.grown hq (fun q e hh => by injection e with e; unfold Btw at hh; omega)
        replace hxI := hxI.grown hq (fun q e hh => by injection e with e; omega)
        replace hxJ := hxJ.grown hq (fun q e hh => by injection e with e; omega)
        replace hxM := hxM.grown hq (fun q e hh => by injection e with e; omega)
        replace hB := hB.grown hq hB.size (fun q e => by injection e; omega)
        replace hD := hDn
        replace hiy : InB w6 (fun k => g < k ∧ k ≠ q5) A5 y.m := RdB.mono hiy (fun k hk => hk.elim (fun hk => by unfold Btw at hk; omega) (fun hk => by omega))
        clear hDn hq
        have x5 := k5.cell
        have hf5 := k5.frozen
        have hw0 := hB.size
        have k5n := ((((k5.set_ 0 (.int .i64 y.k)).set_ 1 (.int .i64 y.r)).set_ 2 (.slice A5 y.m.length n5)).set_ 3 (.int .i64 y.s))
        have hBn := ((((hB.setCell (p := ⟨q5, 0, none⟩) (show w.heap.size ≤ q5 by omega) (.int .i64 y.k)).setCell (p := ⟨q5, 1, none⟩) (show w.heap.size ≤ q5 by omega) (.int .i64 y.r)).setCell (p := ⟨q5, 2, none⟩) (show w.heap.size ≤ q5 by omega) (.slice A5 y.m.length n5)).setCell (p := ⟨q5, 3, none⟩) (show w.heap.size ≤ q5 by omega) (.int .i64 y.s))
        have hDn := ((((hD.put (p := ⟨q5, 0, none⟩) (show w1.heap.size ≤ q5 by omega) (show g ≠ q5 by omega) (.int .i64 y.k)).put (p := ⟨q5, 1, none⟩) (show w1.heap.size ≤ q5 by omega) (show g ≠ q5 by omega) (.int .i64 y.r)).put (p := ⟨q5, 2, none⟩) (show w1.heap.size ≤ q5 by omega) (show g ≠ q5 by omega) (.slice A5 y.m.length n5)).put (p := ⟨q5, 3, none⟩) (show w1.heap.size ≤ q5 by omega) (show g ≠ q5 by omega) (.int .i64 y.s))
        have hiyn := RdB.grown hiy (d_only_set (d_only_set (d_only_set (d_only_set (World.grownBy.refl _ (some q5)) 0 (.int .i64 y.k)) 1 (.int .i64 y.r)) 2 (.slice A5 y.m.length n5)) 3 (.int .i64 y.s)) (fun q e hh => by injection e with e; omega)
        replace hxa := hxa.grown (d_only_set (d_only_set (d_only_set (d_only_set (World.grownBy.refl _ (some q5)) 0 (.int .i64 y.k)) 1 (.int .i64 y.r)) 2 (.slice A5 y.m.length n5)) 3 (.int .i64 y.s)) (fun q e hh => by injection e with e; unfold Btw at hh; omega)
        replace hxb := hxb.grown (d_only_set (d_only_set (d_only_set (d_only_set (World.grownBy.refl _ (some q5)) 0 (.int .i64 y.k)) 1 (.int .i64 y.r)) 2 (.slice A5 y.m.length n5)) 3 (.int .i64 y.s)) (fun q e hh => by injection e with e; unfold Btw at hh; omega)
        replace hxI := hxI.grown (d_only_set (d_only_set (d_only_set (d_only_set (World.grownBy.refl _ (some q5)) 0 (.int .i64 y.k)) 1 (.int .i64 y.r)) 2 (.slice A5 y.m.length n5)) 3 (.int .i64 y.s)) (fun q e hh => by injection e with e; omega)
        replace hxJ := hxJ.grown (d_only_set (d_only_set (d_only_set (d_only_set (World.grownBy.refl _ (some q5)) 0 (.int .i64 y.k)) 1 (.int .i64 y.r)) 2 (.slice A5 y.m.length n5)) 3 (.int .i64 y.s)) (fun q e hh => by injection e with e; omega)
        replace hxM := hxM.grown (d_only_set (d_only_set (d_only_set (d_only_set (World.grownBy.refl _ (some q5)) 0 (.int .i64 y.k)) 1 (.int .i64 y.r)) 2 (.slice A5 y.m.length n5)) 3 (.int .i64 y.s)) (fun q e hh => by injection e with e; omega)
        clear k5 hB hD hiy
        go_wp2
        generalize World.setCell (World.setCell (World.setCell (World.setCell w6 _ _) _ _) _ _) _ _ = w8 at *
        have k5 : Blk w8 q5 27 #[.int .i64 y.k, .int .i64 y.r, .slice A5 y.m.length n5, .int .i64 y.s] := k5n
        go_roundw
        case rel => exact ⟨n + 1, y, A5, n5, by omega, by go_num, hn5, k5, hiyn, hoky, hxa, hxb, hxI, hxJ, hxM, hDn, hBn⟩
        case measure => simp [intOf]; omega
    · obtain rfl : n = 4 := by omega
      clear hxa hxb hxI hxJ hxM hD k5
      go_wp2
      go_ret
      exact ⟨rfl, hB⟩
end OfferSingles
namespace OfferSingles
set_option maxRecDepth 100000 in
theorem contract (H : Type) (enc : TypeId × Value → H) (W : World) (base : Nat) (args : Array Value) (ds gs : List (DataW H)) (before : List MemPlace)
    (hval0 : ∀ (j : Nat) t v, Tryz.f7.params[j]? = some t → args[j]? = some v → Value.okWide Tryz.prog W .any base t v)
    (hW : DataW.Whole enc Tryz.prog Tryz.f7.params.toList Rows.offerSinglesSpec.vars false W args.toList ds gs before)
    (hsz0 : (DataW.weightsEach Tryz.prog (Tryz.f7.params.toList ++ Rows.offerSinglesSpec.plain.varTypes Tryz.prog) (ds ++ gs)).all (· ≤ reachBytes) = true) :
    Calls Tryz.prog 7 args W fun e W' => ∃ v, e = .returned v ∧ Rows.offerSinglesSpec.post enc Tryz.prog Tryz.f7 false true false false W args v W' := by
  have key : Calls Tryz.prog 7 args W fun e W' => e = .returned (.bool true) ∧ Below W.heap.size W W' := by
    have hval : ∀ (j : Nat) t v, Tryz.f7.params[j]? = some t → args[j]? = some v → Value.okWide Tryz.prog W .any base t v := hval0
    obtain ⟨p, q, hA0, hV, hbe, hfz, hnd⟩ := hW
    have hA : DataW.TrodAll enc Tryz.prog W 0 (fun _ => true) true Tryz.f7.params.toList args.toList ds p := hA0
    rw [Tryz.params7] at hA hval
    clear hA0 hval0
    obtain ⟨v0, vs0, d0, ds0, p0, q0, hargs, rfl, rfl, h0, r0⟩ := trodAll_cons hA
    obtain ⟨rfl, rfl, rfl⟩ := trodAll_nil r0
    obtain rfl : args = #[v0] := by cases args; simp_all
    obtain ⟨rfl, rfl⟩ := trodVars_none hV
    have hsz : (DataW.weightsEach Tryz.prog (Tryz.f7.params.toList ++ Rows.offerSinglesSpec.plain.varTypes Tryz.prog) ([d0] ++ [])).all (· ≤ reachBytes) = true := hsz0
    rw [Tryz.params7] at hsz
    clear hsz0
    obtain ⟨A, c, l, rfl, hI0, hl0, hlen0, hw0⟩ := open_slice_kind Tryz.underlying28 Tryz.underlying5 (by kernel_rfl) (hval 0 28 v0 rfl rfl) h0
    exact OfferSingles.walk A c l W hI0 hlen0 hl0 (fun x hx => u8_bd (hw0 x hx))
  refine key.mono fun e W' ⟨he, hb⟩ => ⟨_, he, law_post laid_out hW ?_ rfl (by kernel_rfl) Tryz.underlying4 ?_ hb⟩
  · rw [Tryz.params7]
    intro t ht
    simp only [List.mem_cons, List.not_mem_nil, or_false] at ht
    rcases ht with rfl <;> exact ⟨by kernel_rfl, of_decide_eq_true (by kernel_rfl)⟩
  · rw [Tryz.params7]
    intro ds hl
    match ds, hl with
    | [_], _ => rfl

set_option maxRecDepth 100000 in
theorem lifted (os : Os) (started : os.Started) (H : Type) (enc : TypeId × Value → H) :
    ReturnsInHanded {} Tryz.checked os 7 .any (Rows.offerSinglesSpec.pre6 enc Tryz.prog Tryz.f7 Rows.offerSinglesRow.domain false) (Rows.offerSinglesSpec.post enc Tryz.prog Tryz.f7 false true false false) := by
  refine returnsInHanded_of_change_sized (C := Tryz.checked) own_knob started (by kernel_rfl) Tryz.func7
    (ChangeSpec.witness6 (enc := enc) (C := Tryz.checked) false ⟨#[], #[.slice none 0 0], []⟩ 8 (by kernel_rfl) (by kernel_rfl) (by kernel_rfl) (by kernel_rfl)) ?_
  intro W base args ds gs before hval0 hW _ hsz0 _
  exact contract H enc W base args ds gs before hval0 hW hsz0

theorem over : Rows.offerSinglesRow.holds Tryz.pinned (OpenSpec.ofChange Rows.offerSinglesSpec) :=
  OpenClaim.holds_of_wide 7 Tryz.f7 rfl rfl rfl rfl rfl rfl rfl ⟨rfl, rfl, rfl, rfl, rfl⟩ rfl rfl rfl rfl rfl (by kernel_rfl) Tryz.func7 (by kernel_rfl)
    (of_decide_eq_true (by kernel_rfl)) (by unfold Func.isWrapper; first | (rw [if_pos (by decide +kernel)]; kernel_rfl) | (rw [if_neg (by decide +kernel)]; exact ⟨rfl, rfl⟩))
    (fun os started H enc _ => lifted os started H enc)

/-- The given statement. -/
theorem proved : Rows.OfferSinglesSaid := over
end OfferSingles
#print axioms OfferSingles.proved
end Go.Proofs.YtnbdpnlepcjmmaaGreat
