/-
  OfferBest, for every input: the law returns true, and the argument reads behind the call as it read before. No condition.
-/
import Derived.Test.YtnbdpnlepcjmmaaOfferBestK3
namespace Go.Proofs.Ytnbdpnlepcjmmaa
open Go.ChangeShapes Go.WideShapes Go.ChangeAt Go.RowKit
theorem gr_append_boxes {o : Oper} {ev : Operand → Value} {w : World} {T : Value → World → Prop} (s x : Operand) (ho : o.op = .call { callee := .builtin .append, args := #[s, x], argTypes := #[24, 24] })
 {base lo : Nat} {v : Value} {l m : List Bx} {A : Option Addr} {c n : Nat} (hn : n = m.length) (hs : ev s = v) (hown : OwnB w base lo v l) (hx : ev x = .slice A n c) (hr : Bxs w (Ap lo v) A m) (hlen : l.length + m.length ≤ 1000000) (hbase : base ≤ w.heap.size)
 (h : ∀ v' w', OwnB w' base lo v' (l ++ m) → w.grownBy w' v.ownBlock → (v'.ownBlock = v.ownBlock ∨ v'.ownBlock = some w.heap.size) → T v' w') : genR Try.prog T ((execOp ev o).run Try.prog w) := by
 obtain ⟨i0, hi0, hi1, hi2, hi3, hi4⟩ := box_info
 obtain ⟨vs, h1, h2⟩ := hown
 obtain ⟨us, r1, r2⟩ := hr
 subst hn
 have hul := r1.1.1
 have hvl := h1.1
 obtain ⟨v', w', hrun, h3, h4, h5⟩ := run_append_any (P := Try.prog) w base 24 o.type 45 i0 _ 4 80 Try.underlying24 hi0 hi3 hi1 hi2 hi4 (by omega) v l.length vs h1 w.heap.size A m.length c us r1.1 (bxs_one hul fun i b hb => by obtain ⟨A1, c1, A2, c2, A3, c3, _, hc⟩ := r2 i b hb; exact ⟨A1, c1, A2, c2, A3, c3, hc⟩) (by simp only [maxLen]; omega) (by omega) hbase
 unfold execOp
 simp only [ho, resolve, invoke, builtin, Sem.run_bind, Sem.run_pure, Result.andThen_ok, List.map_toArray, List.map_cons, List.map_nil, hs, hx, hrun]
 refine h v' w' ⟨vs ++ us, by rw [List.length_append]; exact h3, fun i b hb => ?_⟩ h4 h5
 have hto : ∀ (b : Bx) (A1 : Option Addr) (c1 : Nat) (A2 : Option Addr) (c2 : Nat) (A3 : Option Addr) (c3 : Nat), BoxP w (Ap lo v) b A1 c1 A2 c2 A3 c3 → BoxP w' (Ap lo v') b A1 c1 A2 c2 A3 c3 := by
  intro b A1 c1 A2 c2 A3 c3 hp
  refine (hp.band.grown h4 (fun q e hq => hq.1.2 e)).mono fun k hk => ⟨hk.1.1, fun e => ?_⟩
  rcases h5 with h5 | h5
  ·exact hk.1.2 (h5 ▸ e)
  ·rw [h5] at e
   injection e with e
   have := hk.2
   omega
 by_cases hi : i < l.length
 ·rw [List.getElem?_append_left hi] at hb
  obtain ⟨A1, c1, A2, c2, A3, c3, hp, hc⟩ := h2 i b hb
  exact ⟨A1, c1, A2, c2, A3, c3, hto _ _ _ _ _ _ _ hp, fun j hj => by rw [List.getElem?_append_left (by omega)]; exact hc j hj⟩
 ·rw [List.getElem?_append_right (by omega)] at hb
  obtain ⟨A1, c1, A2, c2, A3, c3, hp, hc⟩ := r2 _ b hb
  exact ⟨A1, c1, A2, c2, A3, c3, hto _ _ _ _ _ _ _ hp, fun j hj => by rw [List.getElem?_append_right (by omega), show i * 4 + j - vs.length = (i - l.length) * 4 + j by omega]; exact hc j hj⟩
theorem RdBb {w w2 : World} {ok : Nat → Prop} {A : Option Addr} {l : List Bx} (h : Bxs w ok A l) (hg : Grows w w2) : Bxs w2 (Bd ok w.heap.size) A l := h.bd.grows hg
namespace OfferBest
theorem bestL_okc_top {c : Ch} {l : List Bx} (h : ∀ b ∈ l, OKB b) : OKC (bestL (topP c) c l).1 := by
 unfold bestL
 have key : ∀ (m : List Bx) (s : Ch × Bool), (∀ b ∈ m, OKB b) → OKC s.1 → OKC (m.foldl (bestStep (topP c) c) s).1 := by
  intro m
  induction m with
  | nil => exact fun s _ hs => hs
  | cons b m ih =>
   intro s hm hs
   refine ih _ (fun b hb => hm b (List.mem_cons_of_mem _ hb)) ?_
   unfold bestStep
   split
   ·exact okc_topP (hm b (List.mem_cons_self ..))
   ·exact hs
 exact key _ _ (boxes_ok h) okc_zero
set_option maxHeartbeats 32000000 in
set_option maxRecDepth 10000 in
theorem walk (A : Option Addr) (c0 : Nat) (sd : List Int) (w : World) (h0 : Reads w w.heap.size 1 A sd.length (sd.map (Value.int .u8))) (hc : sd.length ≤ c0) (hl : sd.length ≤ 9223372036854775807) (hwf : ∀ x ∈ sd, 0 ≤ x ∧ x ≤ 255) :
 Calls Try.prog 3 #[.slice A sd.length c0] w fun e w' => e = .returned (.bool true) ∧ Grows w w' := by
 have hB := Below.refl w.heap.size w
 go_enter Try.func3, Try.ntmps3
 go_wp2_with fail
 refine (sane_any w).mono ?_
 rintro e w1 ⟨rfl, hq⟩
 replace hB := below_grows hB (Nat.le_refl _) hq
 replace h0 := Reads.grows h0 hq
 have hs1 := hB.size
 clear hq
 go_wp2_with fail
 refine (made_any A c0 sd w1 h0 hc hl hwf).mono ?_
 rintro e w2 ⟨⟨g, a, b, c, A1, c1, A2, c2, v, rfl, hxa, hxb, hc1, hc2, hfa, hfb, hla, hlb, ⟨A3, n3, rfl, hn3, hic⟩, hokc, hD, hsz⟩, hq⟩
 replace hB := below_grows hB (Nat.le_refl _) hq
 clear hq h0
 have HFA := Lib.hid hfa
 have HFB := Lib.hid hfb
 clear hfa hfb
 have hg2 := hD.lt
 go_wp2_with fail
 have k5 := Blk.new w2 29 #[.int .i64 c.k, .int .i64 c.r, .slice A3 c.m.length n3, .int .i64 c.s]
 have hq := (Below.refl w2.heap.size w2).alloc (Nat.le_refl _) (Obj.cells #[.int .i64 c.k, .int .i64 c.r, .slice A3 c.m.length n3, .int .i64 c.s] 29)
 replace hB := below_grows hB (Nat.le_refl _) hq
 replace hxa := hxa.grows hq
 replace hxb := hxb.grows hq
 replace hic := hic.grows hq
 replace hD := hD.grows hq
 clear hq
 generalize w2.heap.size = q5 at *
 generalize World.alloc w2 _ = w3 at *
 have hcon := pbestl_any (want := c) (I := A3) (ci := n3) (c := c1) hxa (by omega) hc1 (fun b hb => (HFA.out b hb).2.1) (fun b hb => (HFA.out b hb).2.2.1) (InB.ints hic) hokc
 by_cases hn : a = []
 ·subst hn
  rw [best_empty] at hcon
  refine hcon.mono ?_
  rintro e w4 ⟨⟨v, rfl, A4, n4, rfl, hn4, hix⟩, hq⟩
  replace hB := below_grows hB (Nat.le_refl _) hq
  have hq2 := (Below.refl w4.heap.size w4).alloc (Nat.le_refl _) (Obj.cells #[.int .i64 (bestL (topP c) c []).1.k, .int .i64 (bestL (topP c) c []).1.r, .slice A4 (bestL (topP c) c []).1.m.length n4, .int .i64 (bestL (topP c) c []).1.s] 29)
  replace hB := below_grows hB (Nat.le_refl _) hq2
  clear hcon hq hq2
  go_wp2
  go_ret
  exact ⟨rfl, hB⟩
 obtain ⟨hb2, hhas, hleast⟩ := best_ok (w := c) HFA.out (by omega) hn
 have hokX : OKC (bestL (topP c) c a).1 := bestL_okc_top fun b hb => (HFA.out b hb).2.1
 have hwant := fun hw => best_want (w := c) HFA.out (by omega) hn hw
 have happ := best_app (w := c) HFA.out HFB.out (by omega) hn
 rw [hb2] at hcon
 refine hcon.mono ?_
 rintro e w4 ⟨⟨v, rfl, A4, n4, rfl, hn4, hix⟩, hq⟩
 clear hcon hb2
 generalize hX : (bestL (topP c) c a).1 = X at *
 have HL := Lib.hid hleast
 have HW := Lib.hid hwant
 have HP := Lib.hid happ
 clear hleast hwant happ hX
 have hs3 := hD.lt
 have hs4 := hq.size
 replace hix : InB w4 (Ge (g + 1)) A4 X.m := RdB.mono hix (fun k hk => by unfold Ge at *; omega)
 replace hB := below_grows hB (Nat.le_refl _) hq
 replace k5 := k5.grows hq
 replace hxa := hxa.grows hq
 replace hxb := hxb.grows hq
 replace hic := hic.grows hq
 replace hD := hD.grows hq
 clear hq
 have k7 := Blk.new w4 29 #[.int .i64 X.k, .int .i64 X.r, .slice A4 X.m.length n4, .int .i64 X.s]
 have hq := (Below.refl w4.heap.size w4).alloc (Nat.le_refl _) (Obj.cells #[.int .i64 X.k, .int .i64 X.r, .slice A4 X.m.length n4, .int .i64 X.s] 29)
 replace hB := below_grows hB (Nat.le_refl _) hq
 replace k5 := k5.grows hq
 replace hxa := hxa.grows hq
 replace hxb := hxb.grows hq
 replace hic := hic.grows hq
 replace hix := hix.grows hq
 replace hD := hD.grows hq
 clear hq
 go_wp2_with fail
 have hg5 : g < q5 := hg2
 have hg7 : g < w4.heap.size := by omega
 generalize w4.heap.size = q7 at *
 generalize World.alloc w4 _ = w5 at *
 go_loopw [9] (fun i wr => ∃ n : Nat, n ≤ 6 ∧ i = .int .i64 n ∧ Blk wr q5 29 #[.int .i64 c.k, .int .i64 c.r, .slice A3 c.m.length n3, .int .i64 c.s] ∧ Blk wr q7 29 #[.int .i64 X.k, .int .i64 X.r, .slice A4 X.m.length n4, .int .i64 X.s] ∧ Bxs wr (Ge (g + 1)) A1 a ∧ Bxs wr (Ge (g + 1)) A2 b ∧ InB wr (Ge (g + 1)) A3 c.m ∧ InB wr (Ge (g + 1)) A4 X.m ∧ DR wr w1.heap.size g ∧ Below w.heap.size w wr) (fun i _ => 6 - (intOf i).toNat)
 case atStart => exact ⟨0, by omega, rfl, k5, k7, hxa, hxb, hic, hix, hD, hB⟩
 case round =>
  clear k5 k7 hxa hxb hic hix hD hB
  obtain ⟨n, hn6, rfl, k5, k7, hxa, hxb, hic, hix, hD, hB⟩ := hrel
  by_cases hlt : n < 6
  ·have d1 : decide ((n : Int) < 6) = true := by simp only [decide_eq_true_eq]; omega
   have hwn : IntKind.i64.wrap ((n : Int) + 1) = ((n + 1 : Nat) : Int) := by rw [IntWalk.i64_in _ (by omega)]; rfl
   go_wp2_with fail
   refine (choice_any w1.heap.size g _ hD hxa (by omega) hc1 HFA.out (fun k hk => by unfold Ge at hk; omega)).mono ?_
   rintro e w6 ⟨⟨y, v, rfl, ⟨A5, n5, rfl, hn5, hiy⟩, hoky⟩, hDn, hq⟩
   replace k5 := k5.grown hq (by intro e; injection e; omega)
   replace k7 := k7.grown hq (by intro e; injection e; omega)
   replace hxa := hxa.grown hq (fun q e hh => by injection e with e; unfold Ge at hh; omega)
   replace hxb := hxb.grown hq (fun q e hh => by injection e with e; unfold Ge at hh; omega)
   replace hic := RdB.grown hic hq (fun q e hh => by injection e with e; unfold Ge at hh; omega)
   replace hix := RdB.grown hix hq (fun q e hh => by injection e with e; unfold Ge at hh; omega)
   replace hB := hB.grown hq hB.size (fun q e => by injection e; omega)
   replace hD := hDn
   clear hDn
   have k10 := Blk.new w6 29 #[.int .i64 y.k, .int .i64 y.r, .slice A5 y.m.length n5, .int .i64 y.s]
   have hq := (Below.refl w6.heap.size w6).alloc (Nat.le_refl _) (Obj.cells #[.int .i64 y.k, .int .i64 y.r, .slice A5 y.m.length n5, .int .i64 y.s] 29)
   replace hB := below_grows hB (Nat.le_refl _) hq
   replace k5 := k5.grows hq
   replace k7 := k7.grows hq
   replace hxa := hxa.grows hq
   replace hxb := hxb.grows hq
   replace hic := hic.grows hq
   replace hix := hix.grows hq
   replace hiy := hiy.grows hq
   replace hD := hD.grows hq
   clear hq
   go_wp2_with fail
   generalize World.alloc w6 _ = w7 at *
   refine (phasl_any (x := y) (I := A5) (ci := n5) (c := c1) hxa (by omega) hc1 (fun b hb => (HFA.out b hb).2.1) (InB.ints hiy) hoky.2.2).mono ?_
   rintro e w8 ⟨rfl, hq⟩
   replace k10 := k10.grows hq
   replace hB := below_grows hB (Nat.le_refl _) hq
   replace k5 := k5.grows hq
   replace k7 := k7.grows hq
   replace hxa := hxa.grows hq
   replace hxb := hxb.grows hq
   replace hic := hic.grows hq
   replace hix := hix.grows hq
   replace hiy := hiy.grows hq
   replace hD := hD.grows hq
   clear hq
   cases hv : hasL a y with
   | false =>
    clear k10 hiy hhas
    go_wp2
    go_roundw
    case rel => exact ⟨n + 1, by omega, by go_num, k5, k7, hxa, hxb, hic, hix, hD, hB⟩
    case measure => simp [intOf]; omega
   | true =>
    have hle := HL.out y hv
    have x5 := k5.cell
    have x7 := k7.cell
    have x10 := k10.cell
    clear hv hhas
    go_wp2_with fail
    refine (compare_any A3 A4 A5 n3 n4 n5 c X y w8 (InB.ints hic) (InB.ints hix) (InB.ints hiy) hokc hokX hoky).mono ?_
    rintro e w9 ⟨rfl, hq⟩
    generalize cmpF c X y = L at *
    have d3 : decide (0 < L) = false := by simp only [decide_eq_false_iff_not]; omega
    clear k10 x5 x7 x10 hle
    replace hB := below_grows hB (Nat.le_refl _) hq
    replace k5 := k5.grows hq
    replace k7 := k7.grows hq
    replace hxa := hxa.grows hq
    replace hxb := hxb.grows hq
    replace hic := hic.grows hq
    replace hix := hix.grows hq
    replace hiy := hiy.grows hq
    replace hD := hD.grows hq
    clear hq
    go_wp2
    go_roundw
    case rel => exact ⟨n + 1, by omega, by go_num, k5, k7, hxa, hxb, hic, hix, hD, hB⟩
    case measure => simp [intOf]; omega
  ·obtain rfl : n = 6 := by omega
   go_upto_region 13 with fail
   have HAB := Lib.hid (fine_app HFA.out HFB.out)
   have hgw := hD.lt
   obtain ⟨hz1, hz2⟩ := HP.out
   have hokZ : OKC (bestL (topP c) c (a ++ b)).1 := bestL_okc_top fun x hx => (HAB.out x hx).2.1
   have HZ : Hid ((bestL (topP c) c (a ++ b)).2 = true) := Lib.hid hz1
   have hlab : (a ++ b).length ≤ 1000 := by rw [List.length_append]; omega
   generalize hab : a ++ b = ab at *
   have HE := Lib.hid hab
   clear hab
   generalize hZ : (bestL (topP c) c ab).1 = Z at *
   have HZE := Lib.hid hZ
   clear hZ
   obtain ⟨S, HI, HO⟩ := hideS fun (L : Ran) (vs : Nat → Value) (w' : World) => Grows wr w' ∧ KnS [some (.slice A1 a.length c1), none, some (.slice A2 b.length c2), none, some (.agg #[.int .i64 c.k, .int .i64 c.r, .slice A3 c.m.length n3, .int .i64 c.s]), none, none, none, some (.bool true), none, none] L vs ∧ (L 1 = true → L 3 = false → OwnB w' wr.heap.size (g + 1) (vs 1) a) ∧ (L 1 = true → L 3 = false → L 9 = true → ∀ q, vs 9 = .pointer (some ⟨q, 0, none⟩) → (vs 1).ownBlock ≠ some q) ∧ (L 3 = true → L 5 = false → OwnB w' wr.heap.size (g + 1) (vs 3) ab) ∧ (L 5 = true → ∃ (A' : Option Addr) (n' : Nat), vs 5 = .tuple #[.agg #[.int .i64 Z.k, .int .i64 Z.r, .slice A' Z.m.length n', .int .i64 Z.s], .bool true] ∧ InB w' (fun k => L 9 = true → vs 9 ≠ .pointer (some ⟨k, 0, none⟩)) A' Z.m) ∧ (L 6 = true → L 5 = true ∧ vs 6 = vs 5) ∧ (L 7 = true → L 5 = true ∧ ∀ t u, vs 5 = .tuple #[t, u] → vs 7 = t) ∧ (L 9 = true → ∃ q, vs 9 = .pointer (some ⟨q, 0, none⟩) ∧ wr.heap.size ≤ q ∧ (L 10 = false → Blk w' q 29 #[.int .i64 0, .int .i64 0, .slice none 0 0, .int .i64 0]) ∧ (L 10 = true → ∃ (A' : Option Addr) (n' : Nat), Blk w' q 29 #[.int .i64 Z.k, .int .i64 Z.r, .slice A' Z.m.length n', .int .i64 Z.s] ∧ InB w' AnyB A' Z.m)) ∧ (L 10 = true → L 9 = true ∧ L 5 = true) ∧ (L 5 = true → L 3 = true) ∧ (L 3 = true → L 1 = true)
   refine wp_region_genT S 11 83 (by kernel_rfl) (by kernel_rfl) rfl ?_ ?_
   ·exact HI.out _ _ _ ⟨Grows.drew' _, kn_none _ _, (fun h => by cases h), (fun h => by cases h), (fun h => by cases h), (fun h => by cases h), (fun h => by cases h), (fun h => by cases h), (fun h => by cases h), (fun h => by cases h), (fun h => by cases h), (fun h => by cases h)⟩
   simp only [List.take_succ_cons, List.take_zero, List.drop_succ_cons, List.drop_zero]
   refine gent_consR (fun vs L w1 hL hw1 => ?_) ?_
   ·obtain ⟨q0, q1, p1, pq, p3, p5, p6, p7, p9, s10, s5, s3⟩ := HO.out _ _ _ hw1
    refine gen_plain rfl ?_
    go_simp
    exact gr_val (HI.out _ _ _ ⟨q0, kn_known q1 rfl, p1, pq, p3, p5, p6, p7, p9, s10, s5, s3⟩)
   refine gent_consR (fun vs L w1 hL hw1 => ?_) ?_
   ·obtain ⟨q0, q1, p1, pq, p3, p5, p6, p7, p9, s10, s5, s3⟩ := HO.out _ _ _ hw1
    refine gen_plain rfl ?_
    have n1 : L 1 = false := hL.1
    have n3 : L 3 = false := by
     cases h : L 3
     ·rfl
     ·have h9 := (s3 h); rw [n1] at h9; cases h9
    have n5 : L 5 = false := by
     cases h : L 5
     ·rfl
     ·have h9 := (s5 h); rw [n3] at h9; cases h9
    have n10 : L 10 = false := by
     cases h : L 10
     ·rfl
     ·have h9 := (s10 h).2; rw [n5] at h9; cases h9
    have l0 : L 0 = true := hL.need 0 (by kernel_rfl)
    have e0 := q1 0 _ rfl l0
    refine gr_append_boxes (.const (.slice none 0 0)) (.tmp 51) rfl (v := .slice none 0 0) (base := wr.heap.size) (lo := g + 1) (l := []) (m := a) rfl rfl OwnB.nil e0 ((hxa.grows q0).mono fun k hk => ⟨hk, by simp [Value.ownBlock]⟩) (by simp only [List.length_nil]; omega) q0.size ?_
    intro v' w2 ho hgr hv
    rw [List.nil_append] at ho
    have hf : ∀ q, vs 9 = .pointer (some ⟨q, 0, none⟩) → L 9 = true → v'.ownBlock ≠ some q := fun q e9 l9 e => by
     obtain ⟨q9, e99, hge, hz, -⟩ := p9 l9
     rw [e9] at e99
     injection e99 with e99
     injection e99 with e99
     injection e99 with e99
     subst e99
     have := (hz n10).lt
     rcases hv with hv | hv
     ·rw [hv] at e; simp [Value.ownBlock] at e
     ·rw [hv] at e; injection e with e; omega
    exact HI.out _ _ _ ⟨Below.grown q0 hgr q0.size (fun q e => by simp [Value.ownBlock] at e), kn_free q1 rfl, (fun _ _ => ho), (fun _ _ l9 q e => hf q e l9), (fun h => by rw [show L 3 = true from h] at n3; cases n3), (fun h => by rw [show L 5 = true from h] at n5; cases n5), p6, p7, (fun h => by obtain ⟨q, e, hge, hz, -⟩ := p9 h; exact ⟨q, e, hge, fun h0 => (hz h0).grown hgr (by simp [Value.ownBlock]), fun h0 => by rw [show L 10 = true from h0] at n10; cases n10⟩), s10, s5, (fun _ => rfl)⟩
   refine gent_consR (fun vs L w1 hL hw1 => ?_) ?_
   ·obtain ⟨q0, q1, p1, pq, p3, p5, p6, p7, p9, s10, s5, s3⟩ := HO.out _ _ _ hw1
    refine gen_plain rfl ?_
    go_simp
    exact gr_val (HI.out _ _ _ ⟨q0, kn_known q1 rfl, p1, pq, p3, p5, p6, p7, p9, s10, s5, s3⟩)
   refine gent_consR (fun vs L w1 hL hw1 => ?_) ?_
   ·obtain ⟨q0, q1, p1, pq, p3, p5, p6, p7, p9, s10, s5, s3⟩ := HO.out _ _ _ hw1
    refine gen_plain rfl ?_
    have n3 : L 3 = false := hL.1
    have n5 : L 5 = false := by
     cases h : L 5
     ·rfl
     ·have h9 := (s5 h); rw [n3] at h9; cases h9
    have n10 : L 10 = false := by
     cases h : L 10
     ·rfl
     ·have h9 := (s10 h).2; rw [n5] at h9; cases h9
    have l2 : L 2 = true := hL.need 2 (by kernel_rfl)
    have e2 := q1 2 _ rfl l2
    have l1 : L 1 = true := hL.need 1 (by kernel_rfl)
    have ho1 := p1 l1 n3
    have hol := ho1.lt
    refine gr_append_boxes (.tmp 52) (.tmp 53) rfl (v := vs 1) (l := a) (m := b) rfl rfl ho1 e2 ((RdBb hxb q0).mono fun k hk => ⟨hk.1, fun e => by have := (hol _ e).1; have := hk.2; omega⟩) (by omega) q0.size ?_
    intro v' w2 ho hgr hv
    rw [HE.out] at ho
    exact HI.out _ _ _ ⟨Below.grown q0 hgr q0.size (fun q e => (hol q e).1), kn_free q1 rfl, (fun _ h => by cases h), (fun _ h => by cases h), (fun _ _ => ho), (fun h => by rw [show L 5 = true from h] at n5; cases n5), p6, p7, (fun h => by obtain ⟨q, e, hge, hz, -⟩ := p9 h; exact ⟨q, e, hge, fun h0 => (hz h0).grown hgr (fun e2 => pq l1 n3 h q e e2.symm), fun h0 => by rw [show L 10 = true from h0] at n10; cases n10⟩), s10, (fun _ => rfl), (fun _ => l1)⟩
   refine gent_consR (fun vs L w1 hL hw1 => ?_) ?_
   ·obtain ⟨q0, q1, p1, pq, p3, p5, p6, p7, p9, s10, s5, s3⟩ := HO.out _ _ _ hw1
    refine gen_plain rfl ?_
    have x5 := (k5.grows q0).cell
    go_simp
    exact gr_val (HI.out _ _ _ ⟨q0, kn_known q1 rfl, p1, pq, p3, p5, p6, p7, p9, s10, s5, s3⟩)
   refine gent_consR (fun vs L w1 hL hw1 => ?_) ?_
   ·obtain ⟨q0, q1, p1, pq, p3, p5, p6, p7, p9, s10, s5, s3⟩ := HO.out _ _ _ hw1
    refine gen_plain rfl ?_
    have n5 : L 5 = false := hL.1
    have n10 : L 10 = false := by
     cases h : L 10
     ·rfl
     ·have h9 := (s10 h).2; rw [n5] at h9; cases h9
    have l4 : L 4 = true := hL.need 4 (by kernel_rfl)
    have e4 := q1 4 _ rfl l4
    have l3 : L 3 = true := hL.need 3 (by kernel_rfl)
    have ho3 := p3 l3 n5
    obtain ⟨A9, c9, e3, hc9, hx9⟩ := ho3.read (by omega)
    simp only [e3, e4]
    go_simp
    refine gr_call ?_
    have hcon := pbestl_any (want := c) (I := A3) (ci := n3) hx9 (by omega) hc9 (fun x hx => (HAB.out x hx).2.1) (fun x hx => (HAB.out x hx).2.2.1) (InB.ints (InB.grows hic q0)) hokc
    rw [HZ.out, HZE.out] at hcon
    refine hcon.mono ?_
    rintro e w2 ⟨⟨v, rfl, A', n', rfl, hn', hi⟩, hg⟩
    exact ⟨_, rfl, HI.out _ _ _ ⟨below_grows q0 (Nat.le_refl _) hg, kn_free q1 rfl, (fun _ h => by rw [show L 3 = false from h] at l3; cases l3), (fun _ h => by rw [show L 3 = false from h] at l3; cases l3), (fun _ h => by cases h), (fun _ => ⟨A', n', rfl, RdB.mono hi (fun k hk h9 e9 => by obtain ⟨q, e, -, hz, -⟩ := p9 h9; rw [show vs 9 = _ from e9] at e; injection e with e; injection e with e; injection e with e; subst e; have := (hz n10).lt; unfold Ge at hk; omega)⟩), (fun h => by have h9 := (p6 h).1; rw [n5] at h9; cases h9), (fun h => by have h9 := (p7 h).1; rw [n5] at h9; cases h9), (fun h => by obtain ⟨q, e, hge, hz, -⟩ := p9 h; exact ⟨q, e, hge, fun h0 => (hz h0).grows hg, fun h0 => by rw [show L 10 = true from h0] at n10; cases n10⟩), (fun h => ⟨(s10 h).1, rfl⟩), (fun _ => l3), s3⟩⟩
   refine gent_consR (fun vs L w1 hL hw1 => ?_) ?_
   ·obtain ⟨q0, q1, p1, pq, p3, p5, p6, p7, p9, s10, s5, s3⟩ := HO.out _ _ _ hw1
    refine gen_plain rfl ?_
    have l5 : L 5 = true := hL.need 5 (by kernel_rfl)
    obtain ⟨A', n', e5, hi⟩ := p5 l5
    go_simp
    exact gr_val (HI.out _ _ _ ⟨q0, kn_free q1 rfl, p1, pq, p3, p5, (fun _ => ⟨l5, e5.symm⟩), p7, p9, s10, s5, s3⟩)
   refine gent_consR (fun vs L w1 hL hw1 => ?_) ?_
   ·obtain ⟨q0, q1, p1, pq, p3, p5, p6, p7, p9, s10, s5, s3⟩ := HO.out _ _ _ hw1
    refine gen_plain rfl ?_
    have l6 : L 6 = true := hL.need 6 (by kernel_rfl)
    obtain ⟨l5, e6⟩ := p6 l6
    obtain ⟨A', n', e5, hi⟩ := p5 l5
    rw [e5] at e6
    simp only [e6]
    go_simp
    exact gr_val (HI.out _ _ _ ⟨q0, kn_free q1 rfl, p1, pq, p3, p5, p6, (fun _ => ⟨l5, fun t u e => by rw [show vs 5 = _ from e] at e5; injection e5 with e5; injection e5 with e5; injection e5 with e5 _; exact e5.symm⟩), p9, s10, s5, s3⟩)
   refine gent_consR (fun vs L w1 hL hw1 => ?_) ?_
   ·obtain ⟨q0, q1, p1, pq, p3, p5, p6, p7, p9, s10, s5, s3⟩ := HO.out _ _ _ hw1
    refine gen_plain rfl ?_
    have l6 : L 6 = true := hL.need 6 (by kernel_rfl)
    obtain ⟨l5, e6⟩ := p6 l6
    obtain ⟨A', n', e5, hi⟩ := p5 l5
    rw [e5] at e6
    simp only [e6]
    go_simp
    exact gr_val (HI.out _ _ _ ⟨q0, kn_known q1 rfl, p1, pq, p3, p5, p6, p7, p9, s10, s5, s3⟩)
   refine gent_consR (fun vs L w1 hL hw1 => ?_) ?_
   ·obtain ⟨q0, q1, p1, pq, p3, p5, p6, p7, p9, s10, s5, s3⟩ := HO.out _ _ _ hw1
    refine gen_plain rfl ?_
    have n9 : L 9 = false := hL.1
    have n10 : L 10 = false := by
     cases h : L 10
     ·rfl
     ·have h9 := (s10 h).1; rw [n9] at h9; cases h9
    have hk := Blk.new w1 29 #[.int .i64 0, .int .i64 0, .slice none 0 0, .int .i64 0]
    have hg := (Below.refl w1.heap.size w1).alloc (Nat.le_refl _) (Obj.cells #[.int .i64 0, .int .i64 0, .slice none 0 0, .int .i64 0] 29)
    have hsz := q0.size
    go_simp
    exact gr_val (HI.out _ _ _ ⟨below_grows q0 (Nat.le_refl _) hg, kn_free q1 rfl, (fun h h2 => (p1 h h2).grows hg), (fun h h2 _ q e e2 => by have e9 : q = w1.heap.size := by {injection e with e; injection e with e; injection e with e; exact e.symm}; have := ((p1 h h2).lt _ e2).2; omega), (fun h h2 => (p3 h h2).grows hg), (fun h => by obtain ⟨A', n', e, hi⟩ := p5 h; exact ⟨A', n', e, (RdB.under hi).grows hg |>.mono (fun k hk _ e9 => by injection e9 with e9; injection e9 with e9; injection e9 with e9; unfold Under at hk; omega)⟩), p6, p7, (fun _ => ⟨_, rfl, hsz, fun _ => hk, fun h0 => by rw [show L 10 = true from h0] at n10; cases n10⟩), (fun h => by rw [show L 10 = true from h] at n10; cases n10), s5, s3⟩)
   refine gent_consR (fun vs L w1 hL hw1 => ?_) ?_
   ·obtain ⟨q0, q1, p1, pq, p3, p5, p6, p7, p9, s10, s5, s3⟩ := HO.out _ _ _ hw1
    refine gen_plain rfl ?_
    have n10 : L 10 = false := hL.1
    have l9 : L 9 = true := hL.need 9 (by kernel_rfl)
    have l7 : L 7 = true := hL.need 7 (by kernel_rfl)
    obtain ⟨l5, h7⟩ := p7 l7
    have l3 := s5 l5
    obtain ⟨A', n', e5, hi⟩ := p5 l5
    have e7 := h7 _ _ e5
    obtain ⟨q, e9, hge, hz, -⟩ := p9 l9
    have hk := hz n10
    have hcl := hk.cell
    have hfz := hk.frozen
    simp only [e9, e7]
    go_simp
    refine gr_skip (show S (upd L 10) (setV vs 10 undef) _ from HI.out _ _ _ ?_)
    have hgq := (d_only_set (d_only_set (d_only_set (d_only_set (World.grownBy.refl w1 (some q)) 0 (.int .i64 Z.k)) 1 (.int .i64 Z.r)) 2 (.slice A' Z.m.length n')) 3 (.int .i64 Z.s))
    have hi2 := RdB.grown hi hgq (fun q2 e hh => by injection e with e; subst e; exact hh l9 e9)
    exact ⟨((((q0.setCell (p := ⟨q, 0, none⟩) hge (.int .i64 Z.k)).setCell (p := ⟨q, 1, none⟩) hge (.int .i64 Z.r)).setCell (p := ⟨q, 2, none⟩) hge (.slice A' Z.m.length n')).setCell (p := ⟨q, 3, none⟩) hge (.int .i64 Z.s)), kn_free q1 rfl, (fun _ h => by rw [show L 3 = false from h] at l3; cases l3), (fun _ h => by rw [show L 3 = false from h] at l3; cases l3), (fun _ h => by rw [show L 5 = false from h] at l5; cases l5), (fun _ => ⟨A', n', e5, hi2⟩), p6, p7, (fun _ => ⟨q, e9, hge, (fun h => by cases h), fun _ => ⟨A', n', ((((hk.set_ 0 (.int .i64 Z.k)).set_ 1 (.int .i64 Z.r)).set_ 2 (.slice A' Z.m.length n')).set_ 3 (.int .i64 Z.s)), RdB.mono hi2 (fun _ _ => trivial)⟩⟩), (fun _ => ⟨l9, l5⟩), s5, s3⟩
   refine gent_nil ?_
   intro vs L W2 hall hS
   obtain ⟨q0, q1, -, -, -, -, -, -, p9, -, -, -⟩ := HO.out _ _ _ hS
   obtain ⟨q11, e9, hge, -, hc9⟩ := p9 (hall 9 (by simp))
   obtain ⟨A6, n6, k11, hiz⟩ := hc9 (hall 10 (by simp))
   have e8 := q1 8 _ rfl (hall 8 (by simp))
   clear hall hS HI HO q1 p9 hc9
   simp only [e9, e8]
   generalize vs 0 = z0 at *
   generalize vs 1 = z1 at *
   generalize vs 2 = z2 at *
   generalize vs 3 = z3 at *
   generalize vs 4 = z4 at *
   generalize vs 5 = z5 at *
   generalize vs 6 = z6 at *
   generalize vs 7 = z7 at *
   generalize vs 10 = z10 at *
   clear e9 e8
   have hq := q0
   clear hxb hD
   replace hB := below_grows hB (Nat.le_refl _) hq
   replace k5 := k5.grows hq
   replace k7 := k7.grows hq
   replace hxa := hxa.grows hq
   replace hic := hic.grows hq
   replace hix := hix.grows hq
   clear hq
   have x5 := k5.cell
   have x7 := k7.cell
   have x11 := k11.cell
   go_wp2_with fail
   have hcon := phasl_any (x := X) (I := A4) (ci := n4) (c := c1) hxa (by omega) hc1 (fun b hb => (HFA.out b hb).2.1) (InB.ints hix) hokX.2.2
   rw [hhas] at hcon
   refine hcon.mono ?_
   rintro e v1 ⟨rfl, hq⟩
   clear hcon x5 x7 x11 hhas
   replace hB := below_grows hB (Nat.le_refl _) hq
   replace k5 := k5.grows hq
   replace k7 := k7.grows hq
   replace k11 := k11.grows hq
   replace hxa := hxa.grows hq
   replace hic := hic.grows hq
   replace hix := hix.grows hq
   replace hiz := hiz.grows hq
   clear hq
   have x5 := k5.cell
   have x7 := k7.cell
   have x11 := k11.cell
   have hle := hz2
   generalize hL0 : cmpF c Z X = L at *
   have HLL := Lib.hid hL0
   clear hL0
   have d3 : decide (L ≤ 0) = true := decide_eq_true hle
   go_wp2_with fail
   refine (phasl_any (x := c) (I := A3) (ci := n3) (c := c1) hxa (by omega) hc1 (fun b hb => (HFA.out b hb).2.1) (InB.ints hic) hokc.2.2).mono ?_
   rintro e v2 ⟨rfl, hq⟩
   clear x5 x7 x11
   replace hB := below_grows hB (Nat.le_refl _) hq
   replace k5 := k5.grows hq
   replace k7 := k7.grows hq
   replace k11 := k11.grows hq
   replace hxa := hxa.grows hq
   replace hic := hic.grows hq
   replace hix := hix.grows hq
   replace hiz := hiz.grows hq
   clear hq
   have x5 := k5.cell
   have x7 := k7.cell
   have x11 := k11.cell
   cases hv : hasL a c with
   | false =>
    clear hv
    go_wp2_with fail
    have hcon := compare_any A3 A6 A4 n3 n6 n4 c Z X _ (InB.ints hic) (InB.ints hiz) (InB.ints hix) hokc hokZ hokX
    rw [HLL.out] at hcon
    refine hcon.mono ?_
    rintro e v4 ⟨rfl, hq⟩
    replace hB := below_grows hB (Nat.le_refl _) hq
    clear hcon hq
    go_wp2
    go_ret
    exact ⟨rfl, hB⟩
   | true =>
    have hXc := Lib.hid (HW.out hv)
    clear hv
    go_wp2_with fail
    have hcon := samec_any (A := A4) (B := A3) (c := n4) (d := n3) (a := X) (b := c) (InB.ints hix) (InB.ints hic) hokX.2.2 hokc.2.2
    rw [decide_eq_true hXc.out] at hcon
    refine hcon.mono ?_
    rintro e v3 ⟨rfl, hq⟩
    clear hcon x5 x7 x11 hXc
    replace hB := below_grows hB (Nat.le_refl _) hq
    replace k5 := k5.grows hq
    replace k7 := k7.grows hq
    replace k11 := k11.grows hq
    replace hic := hic.grows hq
    replace hix := hix.grows hq
    replace hiz := hiz.grows hq
    clear hq
    have x5 := k5.cell
    have x7 := k7.cell
    have x11 := k11.cell
    go_wp2_with fail
    have hcon := compare_any A3 A6 A4 n3 n6 n4 c Z X _ (InB.ints hic) (InB.ints hiz) (InB.ints hix) hokc hokZ hokX
    rw [HLL.out] at hcon
    refine hcon.mono ?_
    rintro e v4 ⟨rfl, hq⟩
    replace hB := below_grows hB (Nat.le_refl _) hq
    clear hcon hq
    go_wp2
    go_ret
    exact ⟨rfl, hB⟩
end OfferBest
namespace OfferBest
set_option maxRecDepth 100000 in
theorem contract (H : Type) (enc : TypeId × Value → H) (W : World) (base : Nat) (args : Array Value) (ds gs : List (DataW H)) (before : List MemPlace)
 (hval0 : ∀ (j : Nat) t v, Try.f3.params[j]? = some t → args[j]? = some v → Value.okWide Try.prog W .any base t v)
 (hW : DataW.Whole enc Try.prog Try.f3.params.toList Rows.offerBestSpec.vars false W args.toList ds gs before)
 (hsz0 : (DataW.weightsEach Try.prog (Try.f3.params.toList ++ Rows.offerBestSpec.plain.varTypes Try.prog) (ds ++ gs)).all (· ≤ reachBytes) = true) :
 Calls Try.prog 3 args W fun e W' => ∃ v, e = .returned v ∧ Rows.offerBestSpec.post enc Try.prog Try.f3 false true false false W args v W' := by
 have key : Calls Try.prog 3 args W fun e W' => e = .returned (.bool true) ∧ Below W.heap.size W W' := by
  have hval : ∀ (j : Nat) t v, Try.f3.params[j]? = some t → args[j]? = some v → Value.okWide Try.prog W .any base t v := hval0
  obtain ⟨p, q, hA0, hV, hbe, hfz, hnd⟩ := hW
  have hA : DataW.TrodAll enc Try.prog W 0 (fun _ => true) true Try.f3.params.toList args.toList ds p := hA0
  rw [Try.params3] at hA hval
  clear hA0 hval0
  obtain ⟨v0, vs0, d0, ds0, p0, q0, hargs, rfl, rfl, h0, r0⟩ := trodAll_cons hA
  obtain ⟨rfl, rfl, rfl⟩ := trodAll_nil r0
  obtain rfl : args = #[v0] := by cases args; simp_all
  obtain ⟨rfl, rfl⟩ := trodVars_none hV
  have hsz : (DataW.weightsEach Try.prog (Try.f3.params.toList ++ Rows.offerBestSpec.plain.varTypes Try.prog) ([d0] ++ [])).all (· ≤ reachBytes) = true := hsz0
  rw [Try.params3] at hsz
  clear hsz0
  obtain ⟨A, c, l, rfl, hI0, hl0, hlen0, hw0⟩ := open_slice_kind Try.underlying22 Try.underlying5 (by kernel_rfl) (hval 0 22 v0 rfl rfl) h0
  exact OfferBest.walk A c l W hI0 hlen0 hl0 (fun x hx => u8_bd (hw0 x hx))
 refine key.mono fun e W' ⟨he, hb⟩ => ⟨_, he, law_post laid_out hW ?_ rfl (by kernel_rfl) Try.underlying4 ?_ hb⟩
 ·rw [Try.params3]
  intro t ht
  simp only [List.mem_cons, List.not_mem_nil, or_false] at ht
  rcases ht with rfl <;> exact ⟨by kernel_rfl, of_decide_eq_true (by kernel_rfl)⟩
 ·rw [Try.params3]
  intro ds hl
  match ds, hl with
  | [_], _ => rfl
set_option maxRecDepth 100000 in
theorem lifted (os : Os) (started : os.Started) (H : Type) (enc : TypeId × Value → H) :
 ReturnsInHanded {} Try.checked os 3 .any (Rows.offerBestSpec.pre6 enc Try.prog Try.f3 Rows.offerBestRow.domain false) (Rows.offerBestSpec.post enc Try.prog Try.f3 false true false false) := by
 refine returnsInHanded_of_change_sized (C := Try.checked) own_knob started (by kernel_rfl) Try.func3
  (ChangeSpec.witness6 (enc := enc) (C := Try.checked) false ⟨#[], #[.slice none 0 0], []⟩ 8 (by kernel_rfl) (by kernel_rfl) (by kernel_rfl) (by kernel_rfl)) ?_
 intro W base args ds gs before hval0 hW _ hsz0 _
 exact contract H enc W base args ds gs before hval0 hW hsz0
theorem over : Rows.offerBestRow.holds Try.pinned (OpenSpec.ofChange Rows.offerBestSpec) :=
 OpenClaim.holds_of_wide 3 Try.f3 rfl rfl rfl rfl rfl rfl rfl ⟨rfl, rfl, rfl, rfl, rfl⟩ rfl rfl rfl rfl rfl (by kernel_rfl) Try.func3 (by kernel_rfl)
  (of_decide_eq_true (by kernel_rfl)) (by unfold Func.isWrapper; first | (rw [if_pos (by decide +kernel)]; kernel_rfl) | (rw [if_neg (by decide +kernel)]; exact ⟨rfl, rfl⟩))
  (fun os started H enc _ => lifted os started H enc)
/-- The given statement. -/
theorem proved : Rows.OfferBestSaid := over
end OfferBest
#print axioms OfferBest.proved
end Go.Proofs.Ytnbdpnlepcjmmaa
