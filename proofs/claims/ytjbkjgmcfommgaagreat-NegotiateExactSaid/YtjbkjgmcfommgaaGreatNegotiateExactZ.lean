/-
  NegotiateExact, for every input: the law returns true, and the argument reads behind the call as it read before. No condition.
-/
import Derived.Test.YtjbkjgmcfommgaaGreatNegotiateExactK4
namespace Go.Proofs.YtjbkjgmcfommgaaGreat
open Go.RowKit
theorem CellsB.grows {w w' : World} {p : Addr} {v0 v1 v2 v3 : Value} (h : CellsB w p v0 v1 v2 v3) (hg : Grows w w') (hp : p.block < w.heap.size) : CellsB w' p v0 v1 v2 v3 := by
 obtain ⟨h0, h1, h2, h3⟩ := h
 exact ⟨(Below.cell hg hp).trans h0, (Below.cell (p := ⟨p.block, p.off + 1, none⟩) hg hp).trans h1, (Below.cell (p := ⟨p.block, p.off + 2, none⟩) hg hp).trans h2, (Below.cell (p := ⟨p.block, p.off + 3, none⟩) hg hp).trans h3⟩
/-- A best choice, as a call gives it. -/
def PsBest (b : Nat) (x : Ch) (o : Bool) : GP := ⟨fun w v => ∃ A c, v = .tuple #[.agg #[.int .i64 x.k, .int .i64 x.r, .slice A x.m.length c, .int .i64 x.s], .bool o] ∧ x.m.length ≤ c ∧ InB w (Ge b) A x.m, fun w w' v h hg => by obtain ⟨A, c, e, hc, hx⟩ := h; exact ⟨A, c, e, hc, hx.grows hg⟩⟩
def PsCh (b : Nat) (x : Ch) : GP := ⟨fun w v => ∃ A c, v = .agg #[.int .i64 x.k, .int .i64 x.r, .slice A x.m.length c, .int .i64 x.s] ∧ x.m.length ≤ c ∧ InB w (Ge b) A x.m, fun w w' v h hg => by obtain ⟨A, c, e, hc, hx⟩ := h; exact ⟨A, c, e, hc, hx.grows hg⟩⟩
theorem ch_last {l : List Pt} {ls : List (List Bx)} {want : Ch} {N : Nat} (hN : l.length = N + 1) : chUp l ls want (l.length - 1) (l.length - 1 - N) = (bestL (topP want) want (ls.getD N [])).1 := by
 rw [hN, show N + 1 - 1 = N from rfl, Nat.sub_self]
 rfl
theorem ch_step {l : List Pt} {ls : List (List Bx)} {want : Ch} {N j : Nat} (hN : l.length = N + 1) (hj : j < N) : chUp l ls want (l.length - 1) (l.length - 1 - j) = backP (keptD (l.getD j noPt)) (ls.getD j []) (chUp l ls want (l.length - 1) (l.length - 1 - (j + 1))) := by
 rw [hN, show N + 1 - 1 = N from rfl, show N - j = N - (j + 1) + 1 by omega]
 show backP (keptD (l.getD (N - (N - (j + 1) + 1)) noPt)) (ls.getD (N - (N - (j + 1) + 1)) []) _ = _
 rw [show N - (N - (j + 1) + 1) = j by omega]
theorem At.all {md : Region.Mode} {ops : Array Oper} {i : Nat} {L : Ran} (h : At md ops i L) (n g : Nat) (hk : (((List.range n).filter (· != g)).all fun j => (needs md ops 4 i).contains j) = true) : ∀ j, j < n → j ≠ g → L j = true := fun j h1 h2 => h.need j (List.all_eq_true.1 hk j (List.mem_filter.2 ⟨List.mem_range.2 h1, by simpa using h2⟩))
set_option maxRecDepth 100000 in
theorem ch_info : ∃ i : TypeInfo, Tryz.prog.info? 42 = some i ∧ i.size = 4 ∧ i.bytes = 48 ∧ i.zero = some (.agg #[.int .i64 0, .int .i64 0, .slice none 0 0, .int .i64 0]) ∧ (Value.agg #[.int .i64 0, .int .i64 0, .slice none 0 0, .int .i64 0]).cells.size = 4 := ⟨_, by first | exact Tryz.info42 | rfl, rfl, rfl, rfl, rfl⟩
set_option maxHeartbeats 64000000 in
set_option maxRecDepth 10000 in
theorem choose_any {ok ow : Nat → Prop} {A I : Option Addr} {c n ci : Nat} {l : List Pt} {want : Ch} {w : World} (hn : n = l.length) (h : Pts w ok A l) (hl : l.length ≤ 1000000) (ho : ∀ p ∈ l, (∀ b ∈ p.b, OKB b ∧ I64 b.k) ∧ p.b.length ≤ 1000000) (hi : InB w ow I want.m) (hok : OKC want) :
 Calls Tryz.prog 16 #[.slice A n c, .agg #[.int .i64 want.k, .int .i64 want.r, .slice I want.m.length ci, .int .i64 want.s]] w fun e w' => (∃ A' c', e = .returned (.tuple #[.slice A' (chooseF l want).1.length c', .agg #[.int .i64 (chooseF l want).2.1.1, .int .i64 (chooseF l want).2.1.2], .int .i64 (chooseF l want).2.2]) ∧ (chooseF l want).1.length ≤ c' ∧ Chs w' (Ge w.heap.size) A' (chooseF l want).1) ∧ Grows w w' := by
 subst hn
 have HO := Lib.hid ho
 clear ho
 have kw := (Blk.new w 42 #[.int .i64 want.k, .int .i64 want.r, .slice I want.m.length ci, .int .i64 want.s]).alloc (Obj.cells #[.int .i64 0, .int .i64 0] 32)
 have k5 := blk_new_at (X := w.alloc (Obj.cells #[.int .i64 want.k, .int .i64 want.r, .slice I want.m.length ci, .int .i64 want.s] 42)) (n := w.heap.size + 1) (t := 32) (cs := #[.int .i64 0, .int .i64 0]) (by simp)
 have hB := ((Below.refl w.heap.size w).alloc (Nat.le_refl _) (Obj.cells #[.int .i64 want.k, .int .i64 want.r, .slice I want.m.length ci, .int .i64 want.s] 42)).alloc (by simp) (Obj.cells #[.int .i64 0, .int .i64 0] 32)
 have hcon := fun (w0 : World) (hg : Grows w w0) => forward_any (w := w0) (c := c) rfl (h.grows hg) hl HO.out
 obtain ⟨⟨ls, ⟨fa, fb⟩, fe⟩, hf⟩ : ∃ f, forwardF l = f := ⟨_, rfl⟩
 simp only [hf] at hcon
 have HF := Lib.hid hf
 have HC := Lib.hid hcon
 clear hf hcon
 go_enter Tryz.func16, Tryz.ntmps16
 go_upto_region 1 with fail
 generalize World.alloc (World.alloc w _) _ = w1 at *
 go_wp2_with fail
 refine (HC.out _ hB).mono ?_
 rintro e w2 ⟨⟨v, rfl, hw⟩, hq⟩
 replace hB := below_grows hB (Nat.le_refl _) hq
 replace kw := kw.grows hq
 replace k5 := k5.grows hq
 obtain ⟨A7, c7, rfl, hc7, hlb⟩ := hw.lbx
 replace hlb := hlb.under
 clear hq hw HC
 have k8 := Blk.new w2 32 #[.int .i64 fa, .int .i64 fb]
 have hq := (Below.refl w2.heap.size w2).alloc (Nat.le_refl _) (Obj.cells #[.int .i64 fa, .int .i64 fb] 32)
 go_upto_region 2 with fail
 replace hB := below_grows hB (Nat.le_refl _) hq
 replace kw := kw.grows hq
 replace k5 := k5.grows hq
 replace hlb := hlb.grows hq
 clear hq
 generalize World.alloc w2 _ = w3 at *
 have hs2 := k8.lt
 have hs5 := k5.lt
 generalize w2.heap.size = q8 at *
 by_cases hfe : fe = 0
 ·subst hfe
  have e5 : ((0 : Int) != 0) = false := rfl
  have e6 : decide ((0 : Int) = 0) = true := rfl
  have HE := Lib.hid (choose_yes (want := want) HF.out)
  obtain ⟨hv, hup, hll, hfl⟩ := forward_fl (fun p hp b hb => ((HO.out p hp).1 b hb).2) HF.out
  have HFL := Lib.hid hfl
  have HLL := Lib.hid hll
  obtain ⟨h1l, h16⟩ := (valid_ports hv).2
  obtain ⟨N, hN⟩ : ∃ N, l.length = N + 1 := ⟨l.length - 1, by omega⟩
  have HN := Lib.hid hN
  have hwN : IntKind.i64.wrap ((l.length : Int) - 1) = (N : Int) := by rw [IntWalk.i64_in _ (by omega)]; omega
  have HOC : Hid (∀ i, i < l.length → OKC (chUp l ls want (l.length - 1) (l.length - 1 - i))) := Lib.hid (fun i hi => ch_okc (fun j hj => HFL.out j (by omega)) _ (by omega))
  have HLAST := Lib.hid (ch_last (l := l) (ls := ls) (want := want) hN)
  have HSTEP := Lib.hid (fun j hj => ch_step (l := l) (ls := ls) (want := want) (j := j) hN hj)
  generalize hfdef : (fun i => chUp l ls want (l.length - 1) (l.length - 1 - i)) = f at HE
  have HFD : Hid (∀ i, chUp l ls want (l.length - 1) (l.length - 1 - i) = f i) := Lib.hid (fun i => congrFun hfdef i)
  replace HOC := Lib.hid (fun i hi => HFD.out i ▸ HOC.out i hi)
  replace HLAST := Lib.hid ((HFD.out N).symm.trans HLAST.out)
  replace HSTEP := Lib.hid (fun j hj => ((HFD.out j).symm.trans (HSTEP.out j hj)).trans (by rw [HFD.out]))
  clear hv hup hll hfl hfdef hN HFD
  have hle4 : w.heap.size ≤ w3.heap.size := hB.size
  have b0 : (0 : Int) ≤ (l.length : Int) := by omega
  go_upto_region 4 with fail
  clear e5 e6
  refine wp_region_lit ?_
  iterate 2
   refine wpList_plain rfl (fun K hK => ?_)
   go_simp
   refine hK _ _ ?_
   clear hK K
  obtain ⟨i0, hi0, hi1, hi2, hi3, hi4⟩ := ch_info
  refine wpList_make_full _ rfl (.tmp 26) (.tmp 26) 43 rfl (w.heap.size + 2) 42 i0 _ 4 Tryz.underlying43 hi0 hi3 hi1 .i64 .i64 l.length l.length l.length rfl rfl rfl rfl (by rw [hi2]; omega) (by simp only [maxLen]; omega) (by omega) ?_
  intro w4 hown hgr
  have hch := ChG.made (f := f) hown
  have hg4 : Grows w3 w4 := Below.grown (Below.refl w3.heap.size w3) hgr (Nat.le_refl _) (fun q e => by cases e)
  replace kw := kw.grows hg4
  have hGge : w3.heap.size ≤ w3.heap.size := Nat.le_refl _
  generalize hGd : w3.heap.size = G at hch hGge ⊢
  replace hGge : w3.heap.size ≤ G := by omega
  clear hown hgr hi0 hi1 hi2 hi3 hi4 i0 hGd
  go_upto_region 6 with fail
  obtain ⟨ad7, xN, BN, dN, e7, had7, hxN, hdN, hcN, hbN⟩ := hlb.elem hg4 (k := N) (by have := HLL.out; have := HN.out; omega)
  subst e7
  have hB4 := below_grows hB (Nat.le_refl _) hg4
  have hGlt := hch.lt
  have hle5 : w.heap.size + 2 ≤ w4.heap.size := by have := hg4.size; omega
  have b1 : (0 : Int) ≤ (N : Int) := by omega
  have b2 : (N : Int) < (l.length : Int) := by have := HN.out; omega
  have b3 : (N : Int) < (ls.length : Int) := by have := HN.out; have := HLL.out; omega
  have b4 : N < l.length := by omega
  have b5 : N < ls.length := by omega
  have hgN : ls.getD N [] = xN := by rw [List.getD_eq_getElem?_getD, hxN]; rfl
  have hfN : FL xN := hgN ▸ HFL.out N b4
  have HBE := Lib.hid (fun (w0 : World) (hg : Grows w4 w0) => pbestl_any (w := w0) (c := dN) (ci := ci) (want := want) (I := I) (hbN.grows (below_grows hg4 (Nat.le_refl _) hg)) (by have := hfN.2; omega) hdN hfN.okb (fun b hb => (hfN.1 b hb).2) (InB.ints (hi.grows (below_grows hB4 (Nat.le_refl _) hg))) hok)
  have HX0 := HLAST.out
  rw [hgN] at HX0
  generalize bestL (topP want) want xN = XO at *
  obtain ⟨X, bo⟩ := XO
  have HX : Hid (f N = X) := Lib.hid HX0
  clear HX0 hgN hfN hxN HLAST
  have had7c : (ad7.add N).block < w4.heap.size := by rw [block_of_add]; exact had7
  obtain ⟨S, HI, HO⟩ := hideS fun (L : Ran) (vs : Nat → Value) (w' : World) => ((L 12 = false → Grows w4 w' ∧ DsS [none, none, none, none, none, none, none, some (PsBest w4.heap.size X bo), some (PsBest w4.heap.size X bo), some (PsCh w4.heap.size X), none, none, none] L vs w') ∧ KnS [some (.slice (some ⟨G, 0, none⟩) l.length l.length), some (.int .i64 N), some (.slice (some ad7) ls.length c7), some (.int .i64 N), some (.pointer (some (ad7.add N))), some (.slice BN xN.length dN), some (.agg #[.int .i64 want.k, .int .i64 want.r, .slice I want.m.length ci, .int .i64 want.s]), none, none, none, none, some (.pointer (some ⟨G, N * 4, none⟩)), none] L vs ∧ (L 12 = true → (∀ j, j < 12 → j ≠ 10 → L j = true) ∧ (∃ t u, vs 8 = .tuple #[t, u]) ∧ w4.grownBy w' (some G) ∧ ChG w' (w.heap.size + 2) G l.length (fun k => False ∨ k = N) f))
  refine wp_region_genT S 13 84 (by kernel_rfl) (by kernel_rfl) rfl ?_ ?_
  ·exact HI.out _ _ _ ⟨fun _ => ⟨Grows.drew' _, ds_none _ _ _⟩, kn_none _ _, fun h => by cases h⟩
  simp only [List.take_succ_cons, List.take_zero, List.drop_succ_cons, List.drop_zero]
  refine gent_consR (fun vs L w1 hL hw1 => ?_) ?_
  ·obtain ⟨p0, q1, p2⟩ := HO.out _ _ _ hw1
   refine gen_plain rfl ?_
   have ns : L 12 = false := by
    cases h : L 12
    ·rfl
    ·exact absurd ((p2 h).1 0 (by omega) (by omega)) (by rw [hL.1]; simp)
   obtain ⟨q0, q2⟩ := p0 ns
   go_simp
   exact gr_val (HI.out _ _ _ ⟨fun _ => ⟨q0, ds_free q2 rfl⟩, kn_known q1 rfl, fun h => absurd (show L 12 = true from h) (by rw [ns]; simp)⟩)
  refine gent_consR (fun vs L w1 hL hw1 => ?_) ?_
  ·obtain ⟨p0, q1, p2⟩ := HO.out _ _ _ hw1
   refine gen_plain rfl ?_
   have ns : L 12 = false := by
    cases h : L 12
    ·rfl
    ·exact absurd ((p2 h).1 1 (by omega) (by omega)) (by rw [hL.1]; simp)
   obtain ⟨q0, q2⟩ := p0 ns
   go_simp
   exact gr_val (HI.out _ _ _ ⟨fun _ => ⟨q0, ds_free q2 rfl⟩, kn_known q1 rfl, fun h => absurd (show L 12 = true from h) (by rw [ns]; simp)⟩)
  refine gent_consR (fun vs L w1 hL hw1 => ?_) ?_
  ·obtain ⟨p0, q1, p2⟩ := HO.out _ _ _ hw1
   refine gen_plain rfl ?_
   have ns : L 12 = false := by
    cases h : L 12
    ·rfl
    ·exact absurd ((p2 h).1 2 (by omega) (by omega)) (by rw [hL.1]; simp)
   obtain ⟨q0, q2⟩ := p0 ns
   go_simp
   exact gr_val (HI.out _ _ _ ⟨fun _ => ⟨q0, ds_free q2 rfl⟩, kn_known q1 rfl, fun h => absurd (show L 12 = true from h) (by rw [ns]; simp)⟩)
  refine gent_consR (fun vs L w1 hL hw1 => ?_) ?_
  ·obtain ⟨p0, q1, p2⟩ := HO.out _ _ _ hw1
   refine gen_plain rfl ?_
   have ns : L 12 = false := by
    cases h : L 12
    ·rfl
    ·exact absurd ((p2 h).1 3 (by omega) (by omega)) (by rw [hL.1]; simp)
   obtain ⟨q0, q2⟩ := p0 ns
   go_simp
   exact gr_val (HI.out _ _ _ ⟨fun _ => ⟨q0, ds_free q2 rfl⟩, kn_known q1 rfl, fun h => absurd (show L 12 = true from h) (by rw [ns]; simp)⟩)
  refine gent_consR (fun vs L w1 hL hw1 => ?_) ?_
  ·obtain ⟨p0, q1, p2⟩ := HO.out _ _ _ hw1
   refine gen_plain rfl ?_
   have ns : L 12 = false := by
    cases h : L 12
    ·rfl
    ·exact absurd ((p2 h).1 4 (by omega) (by omega)) (by rw [hL.1]; simp)
   obtain ⟨q0, q2⟩ := p0 ns
   have l2 : L 2 = true := hL.need 2 (by kernel_rfl)
   have e2 := q1 2 _ rfl l2
   have l3 : L 3 = true := hL.need 3 (by kernel_rfl)
   have e3 := q1 3 _ rfl l3
   simp only [e2, e3]
   go_simp
   exact gr_val (HI.out _ _ _ ⟨fun _ => ⟨q0, ds_free q2 rfl⟩, kn_known q1 rfl, fun h => absurd (show L 12 = true from h) (by rw [ns]; simp)⟩)
  refine gent_consR (fun vs L w1 hL hw1 => ?_) ?_
  ·obtain ⟨p0, q1, p2⟩ := HO.out _ _ _ hw1
   refine gen_plain rfl ?_
   have ns : L 12 = false := by
    cases h : L 12
    ·rfl
    ·exact absurd ((p2 h).1 5 (by omega) (by omega)) (by rw [hL.1]; simp)
   obtain ⟨q0, q2⟩ := p0 ns
   have l4 : L 4 = true := hL.need 4 (by kernel_rfl)
   have e4 := q1 4 _ rfl l4
   simp only [e4]
   have xb := (Below.cell q0 had7c).trans hcN
   go_simp
   exact gr_val (HI.out _ _ _ ⟨fun _ => ⟨q0, ds_free q2 rfl⟩, kn_known q1 rfl, fun h => absurd (show L 12 = true from h) (by rw [ns]; simp)⟩)
  refine gent_consR (fun vs L w1 hL hw1 => ?_) ?_
  ·obtain ⟨p0, q1, p2⟩ := HO.out _ _ _ hw1
   refine gen_plain rfl ?_
   have ns : L 12 = false := by
    cases h : L 12
    ·rfl
    ·exact absurd ((p2 h).1 6 (by omega) (by omega)) (by rw [hL.1]; simp)
   obtain ⟨q0, q2⟩ := p0 ns
   have xb := (kw.grows q0).cell
   go_simp
   exact gr_val (HI.out _ _ _ ⟨fun _ => ⟨q0, ds_free q2 rfl⟩, kn_known q1 rfl, fun h => absurd (show L 12 = true from h) (by rw [ns]; simp)⟩)
  refine gent_consR (fun vs L w1 hL hw1 => ?_) ?_
  ·obtain ⟨p0, q1, p2⟩ := HO.out _ _ _ hw1
   refine gen_plain rfl ?_
   have ns : L 12 = false := by
    cases h : L 12
    ·rfl
    ·exact absurd ((p2 h).1 7 (by omega) (by omega)) (by rw [hL.1]; simp)
   obtain ⟨q0, q2⟩ := p0 ns
   have l5 : L 5 = true := hL.need 5 (by kernel_rfl)
   have e5 := q1 5 _ rfl l5
   have l6 : L 6 = true := hL.need 6 (by kernel_rfl)
   have e6 := q1 6 _ rfl l6
   simp only [e5, e6]
   go_simp
   refine gr_call ?_
   refine (HBE.out _ q0).mono ?_
   rintro e w6 ⟨⟨v6, rfl, A9, c9, rfl, hc9, hx9⟩, hg⟩
   have hsz := q0.size
   exact ⟨_, rfl, HI.out _ _ _ ⟨fun _ => ⟨below_grows q0 (Nat.le_refl _) hg, ds_put (q2.grows hg) rfl ⟨A9, c9, rfl, hc9, RdB.mono hx9 (fun k hk => by unfold Ge at *; omega)⟩⟩, kn_free q1 rfl, fun h => absurd (show L 12 = true from h) (by rw [ns]; simp)⟩⟩
  refine gent_consR (fun vs L w1 hL hw1 => ?_) ?_
  ·obtain ⟨p0, q1, p2⟩ := HO.out _ _ _ hw1
   refine gen_plain rfl ?_
   have ns : L 12 = false := by
    cases h : L 12
    ·rfl
    ·exact absurd ((p2 h).1 8 (by omega) (by omega)) (by rw [hL.1]; simp)
   obtain ⟨q0, q2⟩ := p0 ns
   have l7 : L 7 = true := hL.need 7 (by kernel_rfl)
   have p7 := q2 7 _ rfl l7
   go_simp
   exact gr_val (HI.out _ _ _ ⟨fun _ => ⟨q0, ds_put q2 rfl p7⟩, kn_free q1 rfl, fun h => absurd (show L 12 = true from h) (by rw [ns]; simp)⟩)
  refine gent_consR (fun vs L w1 hL hw1 => ?_) ?_
  ·obtain ⟨p0, q1, p2⟩ := HO.out _ _ _ hw1
   refine gen_plain rfl ?_
   have ns : L 12 = false := by
    cases h : L 12
    ·rfl
    ·exact absurd ((p2 h).1 9 (by omega) (by omega)) (by rw [hL.1]; simp)
   obtain ⟨q0, q2⟩ := p0 ns
   have l8 : L 8 = true := hL.need 8 (by kernel_rfl)
   obtain ⟨A9, c9, e9, hc9, hx9⟩ := q2 8 _ rfl l8
   simp only [e9]
   go_simp
   exact gr_val (HI.out _ _ _ ⟨fun _ => ⟨q0, ds_put q2 rfl ⟨A9, c9, rfl, hc9, hx9⟩⟩, kn_free q1 rfl, fun h => absurd (show L 12 = true from h) (by rw [ns]; simp)⟩)
  refine gent_consR (fun vs L w1 hL hw1 => ?_) ?_
  ·obtain ⟨p0, q1, p2⟩ := HO.out _ _ _ hw1
   refine gen_plain rfl ?_
   have htup : ∃ t u, vs 8 = .tuple #[t, u] := by
    cases h : L 12
    ·obtain ⟨A9, c9, e9, -⟩ := (p0 h).2 8 _ rfl (hL.need 8 (by kernel_rfl))
     exact ⟨_, _, e9⟩
    ·exact (p2 h).2.1
   obtain ⟨t, u, e9⟩ := htup
   simp only [e9]
   go_simp
   exact gr_val (HI.out _ _ _ ⟨fun h => ⟨(p0 h).1, ds_free (p0 h).2 rfl⟩, kn_free q1 rfl, fun h => ⟨(fun j h1 h2 => by have := (p2 h).1 j h1 h2; unfold upd; rw [if_neg h2]; exact this), ⟨t, u, (show vs 8 = _ from e9)⟩, (p2 h).2.2⟩⟩)
  refine gent_consR (fun vs L w1 hL hw1 => ?_) ?_
  ·obtain ⟨p0, q1, p2⟩ := HO.out _ _ _ hw1
   refine gen_plain rfl ?_
   have ns : L 12 = false := by
    cases h : L 12
    ·rfl
    ·exact absurd ((p2 h).1 11 (by omega) (by omega)) (by rw [hL.1]; simp)
   obtain ⟨q0, q2⟩ := p0 ns
   have l0 : L 0 = true := hL.need 0 (by kernel_rfl)
   have e0 := q1 0 _ rfl l0
   have l1 : L 1 = true := hL.need 1 (by kernel_rfl)
   have e1 := q1 1 _ rfl l1
   simp only [e0, e1]
   go_simp
   exact gr_val (HI.out _ _ _ ⟨fun _ => ⟨q0, ds_free q2 rfl⟩, kn_known q1 rfl, fun h => absurd (show L 12 = true from h) (by rw [ns]; simp)⟩)
  refine gent_consR (fun vs L w1 hL hw1 => ?_) ?_
  ·obtain ⟨p0, q1, p2⟩ := HO.out _ _ _ hw1
   refine gen_plain rfl ?_
   have ns : L 12 = false := hL.1
   obtain ⟨q0, q2⟩ := p0 ns
   have l11 : L 11 = true := hL.need 11 (by kernel_rfl)
   have e11 := q1 11 _ rfl l11
   obtain ⟨A9, c9, e9, hc9, hx9⟩ := q2 9 _ rfl (hL.need 9 (by kernel_rfl))
   obtain ⟨A8, c8, e8, -, -⟩ := q2 8 _ rfl (hL.need 8 (by kernel_rfl))
   have hc0 := hch.grows q0
   obtain ⟨v0, v1, v2, v3, y0, y1, y2, y3, z0, z1, z2, z3⟩ := hc0.old (i := N) (by omega)
   have hcp := hc0.put (i := N) (A := A9) (c := c9) (by omega) (by rw [HX.out]; exact hc9) (by rw [HX.out]; exact hx9.mono (fun k hk => by unfold Ge at hk; omega))
   rw [HX.out] at hcp
   simp only [e11, e9, add_head]
   go_simp
   refine gr_skip ?_
   show S (upd L 12) (setV vs 12 undef) (putC w1 G (N * 4) X A9 c9)
   exact HI.out _ _ _ ⟨fun h => absurd (show true = false from h) (by simp), kn_free q1 rfl, fun _ => ⟨(fun j h1 h2 => by have := hL.all 12 10 (by kernel_rfl) j h1 h2; unfold upd; split <;> first | rfl | exact this), ⟨_, _, (show vs 8 = _ from e8)⟩, only_trans (d_only_grows (World.grownBy.refl w4 (some G)) q0) (putC_only w1 G (N * 4) X A9 c9), hcp⟩⟩
  refine gent_nil ?_
  intro vs L W2 hall hS
  obtain ⟨-, q1, p2⟩ := HO.out _ _ _ hS
  obtain ⟨-, -, hgb, hch2⟩ := p2 (hall 12 (by omega))
  clear hall hS HI HO p2 q1 HX hch HBE had7c hcN hbN
  iterate 13
   try generalize vs _ = yv
  replace hg4 := Below.grown hg4 hgb hg4.size (fun q e => by injection e with e; omega)
  have hch := ChG.sub (W2 := fun k => N ≤ k) hch2 (fun k hk hw => .inr (by have := HN.out; omega))
  clear hch2 hgb hB4 hGlt hle5 had7 hdN kw
  have hwN2 : IntKind.i64.wrap ((N : Int) - 1) = (N : Int) - 1 := IntWalk.i64_in _ (by omega)
  generalize W2 = w5 at *
  go_wp2_with fail
  go_loopw [12] (fun i wr => ∃ (j m : Nat) (z : Int), j + m = N ∧ i = .int .i64 z ∧ Hid (z = (j : Int) - 1) ∧ ChG wr (w.heap.size + 2) G l.length (fun k => j ≤ k) f ∧ Below w3.heap.size w3 wr) (fun i _ => (intOf i + 1).toNat)
  case atStart => exact ⟨N, 0, _, by omega, rfl, Lib.hid rfl, hch, hg4⟩
  case round =>
   clear hch hg4
   obtain ⟨j, m, z, hjm, rfl, HZ, hch, hg4⟩ := hrel
   have hB4 := below_grows hB (Nat.le_refl _) hg4
   have hGlt := hch.lt
   have hle5 : w.heap.size + 2 ≤ wr.heap.size := by have := hg4.size; omega
   have hle6 : w3.heap.size ≤ wr.heap.size := hg4.size
   cases j with
   | zero =>
    have hz : z = -1 := HZ.out
    subst hz
    have d1 : decide ((0 : Int) ≤ -1) = false := by decide
    replace k5 := k5.below hg4 hs5
    have x5 := k5.cell
    have f5 := k5.frozen
    have hdone := ChG.done hch (fun i _ => Nat.zero_le i) (by omega)
    have hB3 := (hB4.setCell (p := ⟨w.heap.size + 1, 0, none⟩) (by simp) (.int .i64 0)).setCell (p := ⟨w.heap.size + 1, 1, none⟩) (by simp) (.int .i64 0)
    have x3z := ((k5.set_ 0 (.int .i64 0)).set_ 1 (.int .i64 0)).cell
    have hlen : ((List.range l.length).map f).length = l.length := by rw [List.length_map, List.length_range]
    go_wp2
    have hd2 := (hdone.grown (d_only_set (d_only_set (World.grownBy.refl wr (some (w.heap.size + 1))) 0 (.int .i64 0)) 1 (.int .i64 0)) (fun g e hh => by injection e with e; unfold Ge at hh; omega)).mono (ok2 := Ge w.heap.size) (fun k hk => by unfold Ge at *; omega)
    generalize World.setCell (World.setCell wr _ _) _ _ = wz at *
    refine bodyPost_ret (v := .tuple #[.slice (some ⟨G, 0, none⟩) l.length l.length, .agg #[.int .i64 0, .int .i64 0], .int .i64 0]) (by simp [results, Tryz.results16, go_sem, x3z]) rfl ?_
    rw [HE.out]
    exact ⟨⟨some ⟨G, 0, none⟩, l.length, by rw [hlen], by rw [hlen]; exact Nat.le_refl _, hd2⟩, hB3⟩
   | succ j =>
    obtain rfl : z = (j : Int) := by have := HZ.out; omega
    obtain ⟨j1, hj1⟩ : ∃ j1, j + 1 = j1 := ⟨_, rfl⟩
    replace hch := ChG.sub (W2 := fun k => j1 ≤ k) hch (fun k _ hw => by omega)
    have HJ1 := Lib.hid hj1
    have HJM := Lib.hid hjm
    clear hj1 hjm
    have d1 : decide ((0 : Int) ≤ (j : Int)) = true := by simp only [decide_eq_true_eq]; omega
    have d2 : decide (0 ≤ j) = true := by simp only [decide_eq_true_eq]; omega
    have hwj : IntKind.i64.wrap ((j : Int) + 1) = (j1 : Int) := by rw [IntWalk.i64_in _ (by have := HN.out; have := HJM.out; omega)]; have := HJ1.out; omega
    have hwm : IntKind.i64.wrap ((j : Int) - 1) = (j : Int) - 1 := IntWalk.i64_in _ (by have := HN.out; have := HJM.out; omega)
    have c1 : (0 : Int) ≤ (j : Int) := by omega
    have c2 : (j : Int) < (l.length : Int) := by have := HN.out; have := HJM.out; omega
    have c3 : (j : Int) < (ls.length : Int) := by have := HN.out; have := HLL.out; have := HJM.out; omega
    have c4 : (j1 : Int) < (l.length : Int) := by have := HN.out; have := HJM.out; have := HJ1.out; omega
    have c5 : (0 : Int) ≤ (j1 : Int) := by omega
    have c6 : j < l.length := by omega
    have c7_ : j < ls.length := by omega
    have c8 : j1 < l.length := by omega
    obtain ⟨ad8, xN, BN, dN, e7, had7, hxN, hdN, hcN, hbN⟩ := hlb.elem hg4 (k := j) c7_
    injection e7 with e7
    subst e7
    obtain ⟨ad, p, B, cp, e1, had, hp, -, -, q20, q21⟩ := h.elem hB4 (k := j) c6
    subst e1
    obtain ⟨AY, cY, hcY, hiY, hcellY⟩ := hch.at_ (i := j1) c8 (Nat.le_refl _)
    have hOY := HOC.out j1 c8
    have hst := HSTEP.out j (by have := HJM.out; omega)
    rw [show ls.getD j [] = xN by rw [List.getD_eq_getElem?_getD, hxN]; rfl, show l.getD j noPt = p by rw [List.getD_eq_getElem?_getD, hp]; rfl, HJ1.out] at hst
    have hfN : FL xN := by
     have := HFL.out j c6
     rwa [show ls.getD j [] = xN by rw [List.getD_eq_getElem?_getD, hxN]; rfl] at this
    generalize f j1 = Y at *
    have HX0 : Hid (f j = (bestL (topP Y) Y (productF (bits .andNot .i64 15 p.v) xN (singleF Y)).1).1) := Lib.hid hst
    have HFS := Lib.hid (fl_single Y).1
    have hls1 : (singleF Y).length ≤ 1 := (fl_single Y).2.2
    have HFP := Lib.hid (fl_prodF (d := bits .andNot .i64 15 p.v) hfN (fl_single Y).1)
    have HFN := Lib.hid hfN
    have hlN := hfN.2
    clear hst hxN hp hfN
    go_upto_region 10 with fail
    have HDD : Hid (∃ d, bits .andNot .i64 15 p.v = d) := Lib.hid ⟨_, rfl⟩
    obtain ⟨dd, hdd⟩ := HDD.out
    rw [hdd] at HX0 HFP
    have HDE := Lib.hid hdd
    clear hdd HDD
    have HS := Lib.hid (fun (w0 : World) (hg : Grows wr w0) => psingle_any (w := w0) (ci := cY) (InB.ints (hiY.grows hg)) hcY hOY.2.2)
    have HR := Lib.hid (fun (w0 : World) (A9 : Option Addr) (c9 : Nat) (hg : Grows wr w0) (h9 : Bxs w0 (Ge wr.heap.size) A9 (singleF Y)) => reach_any (w := w0) (c := dN) (d := c9) dd rfl rfl (hbN.grows (below_grows hg4 (Nat.le_refl _) hg)) h9 (by omega) (by omega) HFN.out.1 HFS.out.1)
    generalize singleF Y = sY at *
    generalize productF dd xN sY = pr at *
    obtain ⟨pl, pe⟩ := pr
    have HX1 : Hid (f j = (bestL (topP Y) Y pl).1) := HX0
    have HFP1 : Hid (FL pl) := HFP
    clear HX0 HFP
    have had7c : (ad7.add j).block < wr.heap.size := by rw [block_of_add]; exact had7
    have hadc : (ad.add (j * 2)).block < wr.heap.size := by rw [block_of_add]; exact had
    obtain ⟨S, HI, HO⟩ := hideS fun (L : Ran) (vs : Nat → Value) (w' : World) => (Grows wr w' ∧ KnS [some (.slice (some ad7) ls.length c7), some (.int .i64 j), some (.pointer (some (ad7.add j))), some (.slice BN xN.length dN), some (.slice (some ⟨G, 0, none⟩) l.length l.length), some (.int .i64 j), some (.int .i64 j1), some (.pointer (some ⟨G, j1 * 4, none⟩)), some (.agg #[.int .i64 Y.k, .int .i64 Y.r, .slice AY Y.m.length cY, .int .i64 Y.s]), none, some (.slice (some ad) l.length c), some (.int .i64 j), some (.pointer (some (ad.add (j * 2)))), some (.pointer (some { block := (ad.add (j * 2)).block, off := (ad.add (j * 2)).off + 1 })), some (.int .i64 p.v), some (.int .i64 dd), none, none, none, some (.int .i64 pe), none, some (.int .i64 pe)] L vs ∧ DsS [none, none, none, none, none, none, none, none, none, some (PsN wr.heap.size sY), none, none, none, none, none, none, some (PsT wr.heap.size pl pe), some (PsT wr.heap.size pl pe), some (PsN wr.heap.size pl), none, some (PsN wr.heap.size pl), none] L vs w')
    refine wp_region_genT S 22 84 (by kernel_rfl) (by kernel_rfl) rfl ?_ ?_
    ·exact HI.out _ _ _ ⟨Grows.drew' _, kn_none _ _, ds_none _ _ _⟩
    simp only [List.take_succ_cons, List.take_zero, List.drop_succ_cons, List.drop_zero]
    refine gent_consR (fun vs L w1 hL hw1 => ?_) ?_
    ·obtain ⟨q0, q1, q2⟩ := HO.out _ _ _ hw1
     refine gen_plain rfl ?_
     go_simp
     exact gr_val (HI.out _ _ _ ⟨q0, kn_known q1 rfl, ds_free q2 rfl⟩)
    refine gent_consR (fun vs L w1 hL hw1 => ?_) ?_
    ·obtain ⟨q0, q1, q2⟩ := HO.out _ _ _ hw1
     refine gen_plain rfl ?_
     go_simp
     exact gr_val (HI.out _ _ _ ⟨q0, kn_known q1 rfl, ds_free q2 rfl⟩)
    refine gent_consR (fun vs L w1 hL hw1 => ?_) ?_
    ·obtain ⟨q0, q1, q2⟩ := HO.out _ _ _ hw1
     refine gen_plain rfl ?_
     have l0 : L 0 = true := hL.need 0 (by kernel_rfl)
     have e0 := q1 0 _ rfl l0
     have l1 : L 1 = true := hL.need 1 (by kernel_rfl)
     have e1 := q1 1 _ rfl l1
     simp only [e0, e1]
     go_simp
     exact gr_val (HI.out _ _ _ ⟨q0, kn_known q1 rfl, ds_free q2 rfl⟩)
    refine gent_consR (fun vs L w1 hL hw1 => ?_) ?_
    ·obtain ⟨q0, q1, q2⟩ := HO.out _ _ _ hw1
     refine gen_plain rfl ?_
     have l2 : L 2 = true := hL.need 2 (by kernel_rfl)
     have e2 := q1 2 _ rfl l2
     simp only [e2]
     have xb := (Below.cell q0 had7c).trans hcN
     go_simp
     exact gr_val (HI.out _ _ _ ⟨q0, kn_known q1 rfl, ds_free q2 rfl⟩)
    refine gent_consR (fun vs L w1 hL hw1 => ?_) ?_
    ·obtain ⟨q0, q1, q2⟩ := HO.out _ _ _ hw1
     refine gen_plain rfl ?_
     go_simp
     exact gr_val (HI.out _ _ _ ⟨q0, kn_known q1 rfl, ds_free q2 rfl⟩)
    refine gent_consR (fun vs L w1 hL hw1 => ?_) ?_
    ·obtain ⟨q0, q1, q2⟩ := HO.out _ _ _ hw1
     refine gen_plain rfl ?_
     go_simp
     exact gr_val (HI.out _ _ _ ⟨q0, kn_known q1 rfl, ds_free q2 rfl⟩)
    refine gent_consR (fun vs L w1 hL hw1 => ?_) ?_
    ·obtain ⟨q0, q1, q2⟩ := HO.out _ _ _ hw1
     refine gen_plain rfl ?_
     have l5 : L 5 = true := hL.need 5 (by kernel_rfl)
     have e5 := q1 5 _ rfl l5
     simp only [e5]
     go_simp
     exact gr_val (HI.out _ _ _ ⟨q0, kn_known q1 rfl, ds_free q2 rfl⟩)
    refine gent_consR (fun vs L w1 hL hw1 => ?_) ?_
    ·obtain ⟨q0, q1, q2⟩ := HO.out _ _ _ hw1
     refine gen_plain rfl ?_
     have l4 : L 4 = true := hL.need 4 (by kernel_rfl)
     have e4 := q1 4 _ rfl l4
     have l6 : L 6 = true := hL.need 6 (by kernel_rfl)
     have e6 := q1 6 _ rfl l6
     simp only [e4, e6]
     go_simp
     exact gr_val (HI.out _ _ _ ⟨q0, kn_known q1 rfl, ds_free q2 rfl⟩)
    refine gent_consR (fun vs L w1 hL hw1 => ?_) ?_
    ·obtain ⟨q0, q1, q2⟩ := HO.out _ _ _ hw1
     refine gen_plain rfl ?_
     have l7 : L 7 = true := hL.need 7 (by kernel_rfl)
     have e7 := q1 7 _ rfl l7
     simp only [e7]
     obtain ⟨y0, y1, y2, y3⟩ := hcellY.grows q0 (show G < _ by omega)
     go_simp
     exact gr_val (HI.out _ _ _ ⟨q0, kn_known q1 rfl, ds_free q2 rfl⟩)
    refine gent_consR (fun vs L w1 hL hw1 => ?_) ?_
    ·obtain ⟨q0, q1, q2⟩ := HO.out _ _ _ hw1
     refine gen_plain rfl ?_
     have l8 : L 8 = true := hL.need 8 (by kernel_rfl)
     have e8 := q1 8 _ rfl l8
     simp only [e8]
     go_simp
     refine gr_call ?_
     refine (HS.out _ q0).mono ?_
     rintro e w6 ⟨⟨A9, c9, rfl, hc9, hx9⟩, hg⟩
     have hsz := q0.size
     exact ⟨_, rfl, HI.out _ _ _ ⟨below_grows q0 (Nat.le_refl _) hg, kn_free q1 rfl, ds_put (q2.grows hg) rfl ⟨A9, c9, rfl, hc9, hx9.mono (fun k hk => by unfold Ge at *; omega)⟩⟩⟩
    refine gent_consR (fun vs L w1 hL hw1 => ?_) ?_
    ·obtain ⟨q0, q1, q2⟩ := HO.out _ _ _ hw1
     refine gen_plain rfl ?_
     go_simp
     exact gr_val (HI.out _ _ _ ⟨q0, kn_known q1 rfl, ds_free q2 rfl⟩)
    refine gent_consR (fun vs L w1 hL hw1 => ?_) ?_
    ·obtain ⟨q0, q1, q2⟩ := HO.out _ _ _ hw1
     refine gen_plain rfl ?_
     go_simp
     exact gr_val (HI.out _ _ _ ⟨q0, kn_known q1 rfl, ds_free q2 rfl⟩)
    refine gent_consR (fun vs L w1 hL hw1 => ?_) ?_
    ·obtain ⟨q0, q1, q2⟩ := HO.out _ _ _ hw1
     refine gen_plain rfl ?_
     have l10 : L 10 = true := hL.need 10 (by kernel_rfl)
     have e10 := q1 10 _ rfl l10
     have l11 : L 11 = true := hL.need 11 (by kernel_rfl)
     have e11 := q1 11 _ rfl l11
     simp only [e10, e11]
     go_simp
     exact gr_val (HI.out _ _ _ ⟨q0, kn_known q1 rfl, ds_free q2 rfl⟩)
    refine gent_consR (fun vs L w1 hL hw1 => ?_) ?_
    ·obtain ⟨q0, q1, q2⟩ := HO.out _ _ _ hw1
     refine gen_plain rfl ?_
     have l12 : L 12 = true := hL.need 12 (by kernel_rfl)
     have e12 := q1 12 _ rfl l12
     simp only [e12]
     go_simp
     exact gr_val (HI.out _ _ _ ⟨q0, kn_known q1 rfl, ds_free q2 rfl⟩)
    refine gent_consR (fun vs L w1 hL hw1 => ?_) ?_
    ·obtain ⟨q0, q1, q2⟩ := HO.out _ _ _ hw1
     refine gen_plain rfl ?_
     have l13 : L 13 = true := hL.need 13 (by kernel_rfl)
     have e13 := q1 13 _ rfl l13
     simp only [e13]
     have xb := (Below.cell (p := ⟨(ad.add (j * 2)).block, (ad.add (j * 2)).off + 1, none⟩) q0 hadc).trans q21
     go_simp
     exact gr_val (HI.out _ _ _ ⟨q0, kn_known q1 rfl, ds_free q2 rfl⟩)
    refine gent_consR (fun vs L w1 hL hw1 => ?_) ?_
    ·obtain ⟨q0, q1, q2⟩ := HO.out _ _ _ hw1
     refine gen_plain rfl ?_
     have l14 : L 14 = true := hL.need 14 (by kernel_rfl)
     have e14 := q1 14 _ rfl l14
     simp only [e14]
     go_simp
     rw [HDE.out]
     exact gr_val (HI.out _ _ _ ⟨q0, kn_known q1 rfl, ds_free q2 rfl⟩)
    refine gent_consR (fun vs L w1 hL hw1 => ?_) ?_
    ·obtain ⟨q0, q1, q2⟩ := HO.out _ _ _ hw1
     refine gen_plain rfl ?_
     have l3 : L 3 = true := hL.need 3 (by kernel_rfl)
     have e3 := q1 3 _ rfl l3
     have l15 : L 15 = true := hL.need 15 (by kernel_rfl)
     have e15 := q1 15 _ rfl l15
     simp only [e3, e15]
     obtain ⟨A9, c9, e9, hc9, hx9⟩ := q2 9 _ rfl (hL.need 9 (by kernel_rfl))
     simp only [e9]
     go_simp
     refine gr_call ?_
     refine (HR.out _ A9 c9 q0 hx9).mono ?_
     rintro e w6 ⟨⟨v6, rfl, hw6⟩, hg⟩
     obtain ⟨A9, c9, rfl, hc9, hx9⟩ := hw6.read
     have hsz := q0.size
     exact ⟨_, rfl, HI.out _ _ _ ⟨below_grows q0 (Nat.le_refl _) hg, kn_free q1 rfl, ds_put (q2.grows hg) rfl ⟨A9, c9, rfl, hc9, hx9.mono (fun k hk => by unfold Ge at *; omega)⟩⟩⟩
    refine gent_consR (fun vs L w1 hL hw1 => ?_) ?_
    ·obtain ⟨q0, q1, q2⟩ := HO.out _ _ _ hw1
     refine gen_plain rfl ?_
     have p16 := q2 16 _ rfl (hL.need 16 (by kernel_rfl))
     go_simp
     exact gr_val (HI.out _ _ _ ⟨q0, kn_free q1 rfl, ds_put q2 rfl p16⟩)
    refine gent_consR (fun vs L w1 hL hw1 => ?_) ?_
    ·obtain ⟨q0, q1, q2⟩ := HO.out _ _ _ hw1
     refine gen_plain rfl ?_
     obtain ⟨A9, c9, e9, hc9, hx9⟩ := q2 17 _ rfl (hL.need 17 (by kernel_rfl))
     simp only [e9]
     go_simp
     exact gr_val (HI.out _ _ _ ⟨q0, kn_free q1 rfl, ds_put q2 rfl ⟨A9, c9, rfl, hc9, hx9⟩⟩)
    refine gent_consR (fun vs L w1 hL hw1 => ?_) ?_
    ·obtain ⟨q0, q1, q2⟩ := HO.out _ _ _ hw1
     refine gen_plain rfl ?_
     obtain ⟨A9, c9, e9, hc9, hx9⟩ := q2 17 _ rfl (hL.need 17 (by kernel_rfl))
     simp only [e9]
     go_simp
     exact gr_val (HI.out _ _ _ ⟨q0, kn_known q1 rfl, ds_free q2 rfl⟩)
    refine gent_consR (fun vs L w1 hL hw1 => ?_) ?_
    ·obtain ⟨q0, q1, q2⟩ := HO.out _ _ _ hw1
     refine gen_plain rfl ?_
     have p18 := q2 18 _ rfl (hL.need 18 (by kernel_rfl))
     go_simp
     exact gr_val (HI.out _ _ _ ⟨q0, kn_free q1 rfl, ds_put q2 rfl p18⟩)
    refine gent_consR (fun vs L w1 hL hw1 => ?_) ?_
    ·obtain ⟨q0, q1, q2⟩ := HO.out _ _ _ hw1
     refine gen_plain rfl ?_
     have l19 : L 19 = true := hL.need 19 (by kernel_rfl)
     have e19 := q1 19 _ rfl l19
     simp only [e19]
     go_simp
     exact gr_val (HI.out _ _ _ ⟨q0, kn_known q1 rfl, ds_free q2 rfl⟩)
    refine gent_nil ?_
    intro vs L W2 hall hS
    obtain ⟨q0, q1, q2⟩ := HO.out _ _ _ hS
    have e21 := q1 21 _ rfl (hall 21 (by omega))
    obtain ⟨A9, c9, e20, hc9, hx9⟩ := q2 20 _ rfl (hall 20 (by omega))
    have hcellY2 := hcellY.grows q0 hGlt
    have hch1 := hch.grows q0
    have hg5 := below_grows hg4 (Nat.le_refl _) q0
    have hiY2 := RdB.grows hiY q0
    have hszW := q0.size
    have hl9 := HFP1.out.2
    clear hall hS HI HO q1 q2 hcellY hch hg4 hB4 hiY hcN had7c hadc hbN HS HR q20 q21
    simp only [e20, e21]
    clear e20 e21
    iterate 22
     try generalize vs _ = yv
    have hch := hch1
    have HBE := Lib.hid (fun (w0 : World) (hg : Grows W2 w0) => pbestl_any (w := w0) (c := c9) (ci := cY) (want := Y) (I := AY) (hx9.grows hg) (by omega) hc9 HFP1.out.okb (fun b hb => (HFP1.out.1 b hb).2) (InB.ints (hiY2.grows hg)) hOY)
    generalize bestL (topP Y) Y pl = XO at *
    obtain ⟨X, bo⟩ := XO
    have HX : Hid (f j = X) := HX1
    clear HX1 hch1
    have hGlt2 := hch.lt
    have hle7 : w.heap.size + 2 ≤ W2.heap.size := by omega
    obtain ⟨y0, y1, y2, y3⟩ := hcellY2
    go_wp2_with fail
    refine (HBE.out _ (Below.refl _ _)).mono ?_
    rintro e w7 ⟨⟨v7, rfl, A6, n6, rfl, hn6, hx6⟩, hq⟩
    have hsz7 := hq.size
    replace hg5 := below_grows hg5 (Nat.le_refl _) hq
    have hch2 := hch.grows hq
    clear hq HBE hch y0 y1 y2 y3 hx9
    obtain ⟨v0, v1, v2, v3, y0, y1, y2, y3, z0, z1, z2, z3⟩ := hch2.old (i := j) c6
    have hcp := hch2.put (i := j) (A := A6) (c := n6) c6 (by rw [HX.out]; exact hn6) (by rw [HX.out]; exact RdB.mono hx6 (fun k hk => by unfold Ge at hk; omega))
    rw [HX.out] at hcp
    have hg6 := Below.grown hg5 (putC_only w7 G (j * 4) X A6 n6) hg5.size (fun q e => by injection e with e; omega)
    have hch3 := ChG.sub (W2 := fun k => j ≤ k) hcp (fun k hk hw => by have := HJ1.out; omega)
    clear hch2 hcp hg5 hx6 HX
    go_wp2
    go_roundw
    case rel => exact ⟨j, m + 1, _, by have := HJM.out; omega, rfl, Lib.hid rfl, hch3, hg6⟩
    case measure => simp [intOf]
 ·have HE := Lib.hid (choose_no (want := want) HF.out hfe)
  have e5 : (fe != 0) = true := bne_iff_ne.2 hfe
  have e6 : decide (fe = 0) = false := decide_eq_false hfe
  have x5 := k5.cell
  have f5 := k5.frozen
  have x8 := k8.cell
  clear hfe h hi
  go_upto_region 3 with fail
  have hB3 := ((hB.setCell (p := ⟨w.heap.size + 1, 0, none⟩) (by simp) (.int .i64 fa)).setCell (p := ⟨w.heap.size + 1, 1, none⟩) (by simp) (.int .i64 fb)).drew
  have x3z := ((k5.set_ 0 (.int .i64 fa)).set_ 1 (.int .i64 fb)).drew.cell
  go_region
  go_wp2
  generalize World.drew _ = wz at *
  refine bodyPost_ret (v := .tuple #[.slice none 0 0, .agg #[.int .i64 fa, .int .i64 fb], .int .i64 fe]) (by simp [results, Tryz.results16, go_sem, x3z]) rfl ?_
  rw [HE.out]
  exact ⟨⟨none, 0, rfl, Nat.le_refl _, Chs.nil⟩, hB3⟩
end Go.Proofs.YtjbkjgmcfommgaaGreat

namespace Go.Proofs.YtjbkjgmcfommgaaGreat
open Go.RowKit
set_option maxHeartbeats 64000000 in
set_option maxRecDepth 10000 in
theorem agree_any {A B : Option Addr} {c d : Nat} {a b : Ch} {w : World} (dd : Int) (ia : Ints w A a.m) (ib : Ints w B b.m) (ha : a.m.length ≤ 1000000) (hb : b.m.length ≤ 1000000) :
 Calls Tryz.prog 43 #[.agg #[.int .i64 a.k, .int .i64 a.r, .slice A a.m.length c, .int .i64 a.s], .agg #[.int .i64 b.k, .int .i64 b.r, .slice B b.m.length d, .int .i64 b.s], .int .i64 dd] w fun e w' => e = .returned (.bool (agD dd a b)) ∧ Grows w w' := by
 have k3 := (Blk.new w 42 #[.int .i64 a.k, .int .i64 a.r, .slice A a.m.length c, .int .i64 a.s]).alloc (Obj.cells #[.int .i64 b.k, .int .i64 b.r, .slice B b.m.length d, .int .i64 b.s] 42)
 have k4 := blk_new_at (X := w.alloc (Obj.cells #[.int .i64 a.k, .int .i64 a.r, .slice A a.m.length c, .int .i64 a.s] 42)) (n := w.heap.size + 1) (t := 42) (cs := #[.int .i64 b.k, .int .i64 b.r, .slice B b.m.length d, .int .i64 b.s]) (by simp)
 have hB := ((Below.refl w.heap.size w).alloc (Nat.le_refl _) (Obj.cells #[.int .i64 a.k, .int .i64 a.r, .slice A a.m.length c, .int .i64 a.s] 42)).alloc (by simp) (Obj.cells #[.int .i64 b.k, .int .i64 b.r, .slice B b.m.length d, .int .i64 b.s] 42)
 go_enter Tryz.func43, Tryz.ntmps43
 go_upto_region 1 with fail
 have hs1 : (w.alloc (Obj.cells #[.int .i64 a.k, .int .i64 a.r, .slice A a.m.length c, .int .i64 a.s] 42)).heap.size = w.heap.size + 1 := by simp
 try rw [hs1] at k4
 clear hs1
 generalize World.alloc (World.alloc w _) _ = w2 at *
 have HG : Hid (agD dd a b = ((!bitZ dd 1 || decide (a.k = b.k)) && (!bitZ dd 2 || decide (a.r = b.r)) && (!bitZ dd 4 || decide (a.m = b.m)) && (!bitZ dd 8 || decide (a.s = b.s)))) := Lib.hid rfl
 have HC := Lib.hid (fun (w0 : World) (hg : Grows w2 w0) => psame_any A B c d a.m b.m w0 (Ints.grows (Ints.grows ia hB) hg) (Ints.grows (Ints.grows ib hB) hg) (by omega) (by omega))
 have x3 := k3.cell
 have x4 := k4.cell
 cases h1 : bitZ dd 1 with
 | false =>
  cases h2 : bitZ dd 2 with
  | false =>
   cases h3 : bitZ dd 4 with
   | false =>
    cases h4 : bitZ dd 8 with
    | false =>
     have HE : Hid (agD dd a b = true) := Lib.hid (HG.out.trans (by simp only [h1, h2, h3, h4, Bool.not_true, Bool.not_false, Bool.true_or, Bool.false_or, Bool.and_true, Bool.true_and, Bool.and_false, Bool.false_and]))
     have u1 : (bits .and .i64 dd 1 == 0) = true := by have := h1; unfold bitZ at this; simpa using this
     have t1 : decide (bits .and .i64 dd 1 = 0) = true := by have := u1; simpa using this
     have u2 : (bits .and .i64 dd 2 == 0) = true := by have := h2; unfold bitZ at this; simpa using this
     have t2 : decide (bits .and .i64 dd 2 = 0) = true := by have := u2; simpa using this
     have u3 : (bits .and .i64 dd 4 == 0) = true := by have := h3; unfold bitZ at this; simpa using this
     have t3 : decide (bits .and .i64 dd 4 = 0) = true := by have := u3; simpa using this
     have u4 : (bits .and .i64 dd 8 == 0) = true := by have := h4; unfold bitZ at this; simpa using this
     have t4 : decide (bits .and .i64 dd 8 = 0) = true := by have := u4; simpa using this
     clear HG h1 h2 h3 h4
     go_wp2
     go_ret
     exact ⟨ret_bool HE.out.symm, hB⟩
    | true =>
     cases g4 : decide (a.s = b.s) with
     | false =>
      have HE : Hid (agD dd a b = false) := Lib.hid (HG.out.trans (by simp only [h1, h2, h3, h4, g4, Bool.not_true, Bool.not_false, Bool.true_or, Bool.false_or, Bool.and_true, Bool.true_and, Bool.and_false, Bool.false_and]))
      have u1 : (bits .and .i64 dd 1 == 0) = true := by have := h1; unfold bitZ at this; simpa using this
      have t1 : decide (bits .and .i64 dd 1 = 0) = true := by have := u1; simpa using this
      have u2 : (bits .and .i64 dd 2 == 0) = true := by have := h2; unfold bitZ at this; simpa using this
      have t2 : decide (bits .and .i64 dd 2 = 0) = true := by have := u2; simpa using this
      have u3 : (bits .and .i64 dd 4 == 0) = true := by have := h3; unfold bitZ at this; simpa using this
      have t3 : decide (bits .and .i64 dd 4 = 0) = true := by have := u3; simpa using this
      have u4 : (bits .and .i64 dd 8 == 0) = false := by have := h4; unfold bitZ at this; simpa using this
      have t4 : decide (bits .and .i64 dd 8 = 0) = false := by have := u4; simpa using this
      have v4 : (a.s == b.s) = false := by have := g4; simpa using this
      clear HG h1 h2 h3 h4
      go_wp2
      go_ret
      exact ⟨ret_bool HE.out.symm, hB⟩
     | true =>
      have HE : Hid (agD dd a b = true) := Lib.hid (HG.out.trans (by simp only [h1, h2, h3, h4, g4, Bool.not_true, Bool.not_false, Bool.true_or, Bool.false_or, Bool.and_true, Bool.true_and, Bool.and_false, Bool.false_and]))
      have u1 : (bits .and .i64 dd 1 == 0) = true := by have := h1; unfold bitZ at this; simpa using this
      have t1 : decide (bits .and .i64 dd 1 = 0) = true := by have := u1; simpa using this
      have u2 : (bits .and .i64 dd 2 == 0) = true := by have := h2; unfold bitZ at this; simpa using this
      have t2 : decide (bits .and .i64 dd 2 = 0) = true := by have := u2; simpa using this
      have u3 : (bits .and .i64 dd 4 == 0) = true := by have := h3; unfold bitZ at this; simpa using this
      have t3 : decide (bits .and .i64 dd 4 = 0) = true := by have := u3; simpa using this
      have u4 : (bits .and .i64 dd 8 == 0) = false := by have := h4; unfold bitZ at this; simpa using this
      have t4 : decide (bits .and .i64 dd 8 = 0) = false := by have := u4; simpa using this
      have v4 : (a.s == b.s) = true := by have := g4; simpa using this
      clear HG h1 h2 h3 h4
      go_wp2
      go_ret
      exact ⟨ret_bool HE.out.symm, hB⟩
   | true =>
    cases g3 : decide (a.m = b.m) with
    | false =>
     have HE : Hid (agD dd a b = false) := Lib.hid (HG.out.trans (by simp only [h1, h2, h3, g3, Bool.not_true, Bool.not_false, Bool.true_or, Bool.false_or, Bool.and_true, Bool.true_and, Bool.and_false, Bool.false_and]))
     have u1 : (bits .and .i64 dd 1 == 0) = true := by have := h1; unfold bitZ at this; simpa using this
     have t1 : decide (bits .and .i64 dd 1 = 0) = true := by have := u1; simpa using this
     have u2 : (bits .and .i64 dd 2 == 0) = true := by have := h2; unfold bitZ at this; simpa using this
     have t2 : decide (bits .and .i64 dd 2 = 0) = true := by have := u2; simpa using this
     have u3 : (bits .and .i64 dd 4 == 0) = false := by have := h3; unfold bitZ at this; simpa using this
     have t3 : decide (bits .and .i64 dd 4 = 0) = false := by have := u3; simpa using this
     clear HG h1 h2 h3
     go_wp2_with fail
     refine (HC.out _ (Below.refl _ _)).mono ?_
     rw [g3]
     rintro e w3 ⟨rfl, hq⟩
     replace k3 := k3.grows hq
     replace k4 := k4.grows hq
     replace hB := below_grows hB (Nat.le_refl _) hq
     clear hq x3 x4
     have x3 := k3.cell
     have x4 := k4.cell
     go_wp2
     go_ret
     exact ⟨ret_bool HE.out.symm, hB⟩
    | true =>
     cases h4 : bitZ dd 8 with
     | false =>
      have HE : Hid (agD dd a b = true) := Lib.hid (HG.out.trans (by simp only [h1, h2, h3, g3, h4, Bool.not_true, Bool.not_false, Bool.true_or, Bool.false_or, Bool.and_true, Bool.true_and, Bool.and_false, Bool.false_and]))
      have u1 : (bits .and .i64 dd 1 == 0) = true := by have := h1; unfold bitZ at this; simpa using this
      have t1 : decide (bits .and .i64 dd 1 = 0) = true := by have := u1; simpa using this
      have u2 : (bits .and .i64 dd 2 == 0) = true := by have := h2; unfold bitZ at this; simpa using this
      have t2 : decide (bits .and .i64 dd 2 = 0) = true := by have := u2; simpa using this
      have u3 : (bits .and .i64 dd 4 == 0) = false := by have := h3; unfold bitZ at this; simpa using this
      have t3 : decide (bits .and .i64 dd 4 = 0) = false := by have := u3; simpa using this
      have u4 : (bits .and .i64 dd 8 == 0) = true := by have := h4; unfold bitZ at this; simpa using this
      have t4 : decide (bits .and .i64 dd 8 = 0) = true := by have := u4; simpa using this
      clear HG h1 h2 h3 h4
      go_wp2_with fail
      refine (HC.out _ (Below.refl _ _)).mono ?_
      rw [g3]
      rintro e w3 ⟨rfl, hq⟩
      replace k3 := k3.grows hq
      replace k4 := k4.grows hq
      replace hB := below_grows hB (Nat.le_refl _) hq
      clear hq x3 x4
      have x3 := k3.cell
      have x4 := k4.cell
      go_wp2
      go_ret
      exact ⟨ret_bool HE.out.symm, hB⟩
     | true =>
      cases g4 : decide (a.s = b.s) with
      | false =>
       have HE : Hid (agD dd a b = false) := Lib.hid (HG.out.trans (by simp only [h1, h2, h3, g3, h4, g4, Bool.not_true, Bool.not_false, Bool.true_or, Bool.false_or, Bool.and_true, Bool.true_and, Bool.and_false, Bool.false_and]))
       have u1 : (bits .and .i64 dd 1 == 0) = true := by have := h1; unfold bitZ at this; simpa using this
       have t1 : decide (bits .and .i64 dd 1 = 0) = true := by have := u1; simpa using this
       have u2 : (bits .and .i64 dd 2 == 0) = true := by have := h2; unfold bitZ at this; simpa using this
       have t2 : decide (bits .and .i64 dd 2 = 0) = true := by have := u2; simpa using this
       have u3 : (bits .and .i64 dd 4 == 0) = false := by have := h3; unfold bitZ at this; simpa using this
       have t3 : decide (bits .and .i64 dd 4 = 0) = false := by have := u3; simpa using this
       have u4 : (bits .and .i64 dd 8 == 0) = false := by have := h4; unfold bitZ at this; simpa using this
       have t4 : decide (bits .and .i64 dd 8 = 0) = false := by have := u4; simpa using this
       have v4 : (a.s == b.s) = false := by have := g4; simpa using this
       clear HG h1 h2 h3 h4
       go_wp2_with fail
       refine (HC.out _ (Below.refl _ _)).mono ?_
       rw [g3]
       rintro e w3 ⟨rfl, hq⟩
       replace k3 := k3.grows hq
       replace k4 := k4.grows hq
       replace hB := below_grows hB (Nat.le_refl _) hq
       clear hq x3 x4
       have x3 := k3.cell
       have x4 := k4.cell
       go_wp2
       go_ret
       exact ⟨ret_bool HE.out.symm, hB⟩
      | true =>
       have HE : Hid (agD dd a b = true) := Lib.hid (HG.out.trans (by simp only [h1, h2, h3, g3, h4, g4, Bool.not_true, Bool.not_false, Bool.true_or, Bool.false_or, Bool.and_true, Bool.true_and, Bool.and_false, Bool.false_and]))
       have u1 : (bits .and .i64 dd 1 == 0) = true := by have := h1; unfold bitZ at this; simpa using this
       have t1 : decide (bits .and .i64 dd 1 = 0) = true := by have := u1; simpa using this
       have u2 : (bits .and .i64 dd 2 == 0) = true := by have := h2; unfold bitZ at this; simpa using this
       have t2 : decide (bits .and .i64 dd 2 = 0) = true := by have := u2; simpa using this
       have u3 : (bits .and .i64 dd 4 == 0) = false := by have := h3; unfold bitZ at this; simpa using this
       have t3 : decide (bits .and .i64 dd 4 = 0) = false := by have := u3; simpa using this
       have u4 : (bits .and .i64 dd 8 == 0) = false := by have := h4; unfold bitZ at this; simpa using this
       have t4 : decide (bits .and .i64 dd 8 = 0) = false := by have := u4; simpa using this
       have v4 : (a.s == b.s) = true := by have := g4; simpa using this
       clear HG h1 h2 h3 h4
       go_wp2_with fail
       refine (HC.out _ (Below.refl _ _)).mono ?_
       rw [g3]
       rintro e w3 ⟨rfl, hq⟩
       replace k3 := k3.grows hq
       replace k4 := k4.grows hq
       replace hB := below_grows hB (Nat.le_refl _) hq
       clear hq x3 x4
       have x3 := k3.cell
       have x4 := k4.cell
       go_wp2
       go_ret
       exact ⟨ret_bool HE.out.symm, hB⟩
  | true =>
   cases g2 : decide (a.r = b.r) with
   | false =>
    have HE : Hid (agD dd a b = false) := Lib.hid (HG.out.trans (by simp only [h1, h2, g2, Bool.not_true, Bool.not_false, Bool.true_or, Bool.false_or, Bool.and_true, Bool.true_and, Bool.and_false, Bool.false_and]))
    have u1 : (bits .and .i64 dd 1 == 0) = true := by have := h1; unfold bitZ at this; simpa using this
    have t1 : decide (bits .and .i64 dd 1 = 0) = true := by have := u1; simpa using this
    have u2 : (bits .and .i64 dd 2 == 0) = false := by have := h2; unfold bitZ at this; simpa using this
    have t2 : decide (bits .and .i64 dd 2 = 0) = false := by have := u2; simpa using this
    have v2 : (a.r == b.r) = false := by have := g2; simpa using this
    clear HG h1 h2
    go_wp2
    go_ret
    exact ⟨ret_bool HE.out.symm, hB⟩
   | true =>
    cases h3 : bitZ dd 4 with
    | false =>
     cases h4 : bitZ dd 8 with
     | false =>
      have HE : Hid (agD dd a b = true) := Lib.hid (HG.out.trans (by simp only [h1, h2, g2, h3, h4, Bool.not_true, Bool.not_false, Bool.true_or, Bool.false_or, Bool.and_true, Bool.true_and, Bool.and_false, Bool.false_and]))
      have u1 : (bits .and .i64 dd 1 == 0) = true := by have := h1; unfold bitZ at this; simpa using this
      have t1 : decide (bits .and .i64 dd 1 = 0) = true := by have := u1; simpa using this
      have u2 : (bits .and .i64 dd 2 == 0) = false := by have := h2; unfold bitZ at this; simpa using this
      have t2 : decide (bits .and .i64 dd 2 = 0) = false := by have := u2; simpa using this
      have v2 : (a.r == b.r) = true := by have := g2; simpa using this
      have u3 : (bits .and .i64 dd 4 == 0) = true := by have := h3; unfold bitZ at this; simpa using this
      have t3 : decide (bits .and .i64 dd 4 = 0) = true := by have := u3; simpa using this
      have u4 : (bits .and .i64 dd 8 == 0) = true := by have := h4; unfold bitZ at this; simpa using this
      have t4 : decide (bits .and .i64 dd 8 = 0) = true := by have := u4; simpa using this
      clear HG h1 h2 h3 h4
      go_wp2
      go_ret
      exact ⟨ret_bool HE.out.symm, hB⟩
     | true =>
      cases g4 : decide (a.s = b.s) with
      | false =>
       have HE : Hid (agD dd a b = false) := Lib.hid (HG.out.trans (by simp only [h1, h2, g2, h3, h4, g4, Bool.not_true, Bool.not_false, Bool.true_or, Bool.false_or, Bool.and_true, Bool.true_and, Bool.and_false, Bool.false_and]))
       have u1 : (bits .and .i64 dd 1 == 0) = true := by have := h1; unfold bitZ at this; simpa using this
       have t1 : decide (bits .and .i64 dd 1 = 0) = true := by have := u1; simpa using this
       have u2 : (bits .and .i64 dd 2 == 0) = false := by have := h2; unfold bitZ at this; simpa using this
       have t2 : decide (bits .and .i64 dd 2 = 0) = false := by have := u2; simpa using this
       have v2 : (a.r == b.r) = true := by have := g2; simpa using this
       have u3 : (bits .and .i64 dd 4 == 0) = true := by have := h3; unfold bitZ at this; simpa using this
       have t3 : decide (bits .and .i64 dd 4 = 0) = true := by have := u3; simpa using this
       have u4 : (bits .and .i64 dd 8 == 0) = false := by have := h4; unfold bitZ at this; simpa using this
       have t4 : decide (bits .and .i64 dd 8 = 0) = false := by have := u4; simpa using this
       have v4 : (a.s == b.s) = false := by have := g4; simpa using this
       clear HG h1 h2 h3 h4
       go_wp2
       go_ret
       exact ⟨ret_bool HE.out.symm, hB⟩
      | true =>
       have HE : Hid (agD dd a b = true) := Lib.hid (HG.out.trans (by simp only [h1, h2, g2, h3, h4, g4, Bool.not_true, Bool.not_false, Bool.true_or, Bool.false_or, Bool.and_true, Bool.true_and, Bool.and_false, Bool.false_and]))
       have u1 : (bits .and .i64 dd 1 == 0) = true := by have := h1; unfold bitZ at this; simpa using this
       have t1 : decide (bits .and .i64 dd 1 = 0) = true := by have := u1; simpa using this
       have u2 : (bits .and .i64 dd 2 == 0) = false := by have := h2; unfold bitZ at this; simpa using this
       have t2 : decide (bits .and .i64 dd 2 = 0) = false := by have := u2; simpa using this
       have v2 : (a.r == b.r) = true := by have := g2; simpa using this
       have u3 : (bits .and .i64 dd 4 == 0) = true := by have := h3; unfold bitZ at this; simpa using this
       have t3 : decide (bits .and .i64 dd 4 = 0) = true := by have := u3; simpa using this
       have u4 : (bits .and .i64 dd 8 == 0) = false := by have := h4; unfold bitZ at this; simpa using this
       have t4 : decide (bits .and .i64 dd 8 = 0) = false := by have := u4; simpa using this
       have v4 : (a.s == b.s) = true := by have := g4; simpa using this
       clear HG h1 h2 h3 h4
       go_wp2
       go_ret
       exact ⟨ret_bool HE.out.symm, hB⟩
    | true =>
     cases g3 : decide (a.m = b.m) with
     | false =>
      have HE : Hid (agD dd a b = false) := Lib.hid (HG.out.trans (by simp only [h1, h2, g2, h3, g3, Bool.not_true, Bool.not_false, Bool.true_or, Bool.false_or, Bool.and_true, Bool.true_and, Bool.and_false, Bool.false_and]))
      have u1 : (bits .and .i64 dd 1 == 0) = true := by have := h1; unfold bitZ at this; simpa using this
      have t1 : decide (bits .and .i64 dd 1 = 0) = true := by have := u1; simpa using this
      have u2 : (bits .and .i64 dd 2 == 0) = false := by have := h2; unfold bitZ at this; simpa using this
      have t2 : decide (bits .and .i64 dd 2 = 0) = false := by have := u2; simpa using this
      have v2 : (a.r == b.r) = true := by have := g2; simpa using this
      have u3 : (bits .and .i64 dd 4 == 0) = false := by have := h3; unfold bitZ at this; simpa using this
      have t3 : decide (bits .and .i64 dd 4 = 0) = false := by have := u3; simpa using this
      clear HG h1 h2 h3
      go_wp2_with fail
      refine (HC.out _ (Below.refl _ _)).mono ?_
      rw [g3]
      rintro e w3 ⟨rfl, hq⟩
      replace k3 := k3.grows hq
      replace k4 := k4.grows hq
      replace hB := below_grows hB (Nat.le_refl _) hq
      clear hq x3 x4
      have x3 := k3.cell
      have x4 := k4.cell
      go_wp2
      go_ret
      exact ⟨ret_bool HE.out.symm, hB⟩
     | true =>
      cases h4 : bitZ dd 8 with
      | false =>
       have HE : Hid (agD dd a b = true) := Lib.hid (HG.out.trans (by simp only [h1, h2, g2, h3, g3, h4, Bool.not_true, Bool.not_false, Bool.true_or, Bool.false_or, Bool.and_true, Bool.true_and, Bool.and_false, Bool.false_and]))
       have u1 : (bits .and .i64 dd 1 == 0) = true := by have := h1; unfold bitZ at this; simpa using this
       have t1 : decide (bits .and .i64 dd 1 = 0) = true := by have := u1; simpa using this
       have u2 : (bits .and .i64 dd 2 == 0) = false := by have := h2; unfold bitZ at this; simpa using this
       have t2 : decide (bits .and .i64 dd 2 = 0) = false := by have := u2; simpa using this
       have v2 : (a.r == b.r) = true := by have := g2; simpa using this
       have u3 : (bits .and .i64 dd 4 == 0) = false := by have := h3; unfold bitZ at this; simpa using this
       have t3 : decide (bits .and .i64 dd 4 = 0) = false := by have := u3; simpa using this
       have u4 : (bits .and .i64 dd 8 == 0) = true := by have := h4; unfold bitZ at this; simpa using this
       have t4 : decide (bits .and .i64 dd 8 = 0) = true := by have := u4; simpa using this
       clear HG h1 h2 h3 h4
       go_wp2_with fail
       refine (HC.out _ (Below.refl _ _)).mono ?_
       rw [g3]
       rintro e w3 ⟨rfl, hq⟩
       replace k3 := k3.grows hq
       replace k4 := k4.grows hq
       replace hB := below_grows hB (Nat.le_refl _) hq
       clear hq x3 x4
       have x3 := k3.cell
       have x4 := k4.cell
       go_wp2
       go_ret
       exact ⟨ret_bool HE.out.symm, hB⟩
      | true =>
       cases g4 : decide (a.s = b.s) with
       | false =>
        have HE : Hid (agD dd a b = false) := Lib.hid (HG.out.trans (by simp only [h1, h2, g2, h3, g3, h4, g4, Bool.not_true, Bool.not_false, Bool.true_or, Bool.false_or, Bool.and_true, Bool.true_and, Bool.and_false, Bool.false_and]))
        have u1 : (bits .and .i64 dd 1 == 0) = true := by have := h1; unfold bitZ at this; simpa using this
        have t1 : decide (bits .and .i64 dd 1 = 0) = true := by have := u1; simpa using this
        have u2 : (bits .and .i64 dd 2 == 0) = false := by have := h2; unfold bitZ at this; simpa using this
        have t2 : decide (bits .and .i64 dd 2 = 0) = false := by have := u2; simpa using this
        have v2 : (a.r == b.r) = true := by have := g2; simpa using this
        have u3 : (bits .and .i64 dd 4 == 0) = false := by have := h3; unfold bitZ at this; simpa using this
        have t3 : decide (bits .and .i64 dd 4 = 0) = false := by have := u3; simpa using this
        have u4 : (bits .and .i64 dd 8 == 0) = false := by have := h4; unfold bitZ at this; simpa using this
        have t4 : decide (bits .and .i64 dd 8 = 0) = false := by have := u4; simpa using this
        have v4 : (a.s == b.s) = false := by have := g4; simpa using this
        clear HG h1 h2 h3 h4
        go_wp2_with fail
        refine (HC.out _ (Below.refl _ _)).mono ?_
        rw [g3]
        rintro e w3 ⟨rfl, hq⟩
        replace k3 := k3.grows hq
        replace k4 := k4.grows hq
        replace hB := below_grows hB (Nat.le_refl _) hq
        clear hq x3 x4
        have x3 := k3.cell
        have x4 := k4.cell
        go_wp2
        go_ret
        exact ⟨ret_bool HE.out.symm, hB⟩
       | true =>
        have HE : Hid (agD dd a b = true) := Lib.hid (HG.out.trans (by simp only [h1, h2, g2, h3, g3, h4, g4, Bool.not_true, Bool.not_false, Bool.true_or, Bool.false_or, Bool.and_true, Bool.true_and, Bool.and_false, Bool.false_and]))
        have u1 : (bits .and .i64 dd 1 == 0) = true := by have := h1; unfold bitZ at this; simpa using this
        have t1 : decide (bits .and .i64 dd 1 = 0) = true := by have := u1; simpa using this
        have u2 : (bits .and .i64 dd 2 == 0) = false := by have := h2; unfold bitZ at this; simpa using this
        have t2 : decide (bits .and .i64 dd 2 = 0) = false := by have := u2; simpa using this
        have v2 : (a.r == b.r) = true := by have := g2; simpa using this
        have u3 : (bits .and .i64 dd 4 == 0) = false := by have := h3; unfold bitZ at this; simpa using this
        have t3 : decide (bits .and .i64 dd 4 = 0) = false := by have := u3; simpa using this
        have u4 : (bits .and .i64 dd 8 == 0) = false := by have := h4; unfold bitZ at this; simpa using this
        have t4 : decide (bits .and .i64 dd 8 = 0) = false := by have := u4; simpa using this
        have v4 : (a.s == b.s) = true := by have := g4; simpa using this
        clear HG h1 h2 h3 h4
        go_wp2_with fail
        refine (HC.out _ (Below.refl _ _)).mono ?_
        rw [g3]
        rintro e w3 ⟨rfl, hq⟩
        replace k3 := k3.grows hq
        replace k4 := k4.grows hq
        replace hB := below_grows hB (Nat.le_refl _) hq
        clear hq x3 x4
        have x3 := k3.cell
        have x4 := k4.cell
        go_wp2
        go_ret
        exact ⟨ret_bool HE.out.symm, hB⟩
 | true =>
  cases g1 : decide (a.k = b.k) with
  | false =>
   have HE : Hid (agD dd a b = false) := Lib.hid (HG.out.trans (by simp only [h1, g1, Bool.not_true, Bool.not_false, Bool.true_or, Bool.false_or, Bool.and_true, Bool.true_and, Bool.and_false, Bool.false_and]))
   have u1 : (bits .and .i64 dd 1 == 0) = false := by have := h1; unfold bitZ at this; simpa using this
   have t1 : decide (bits .and .i64 dd 1 = 0) = false := by have := u1; simpa using this
   have v1 : (a.k == b.k) = false := by have := g1; simpa using this
   clear HG h1
   go_wp2
   go_ret
   exact ⟨ret_bool HE.out.symm, hB⟩
  | true =>
   cases h2 : bitZ dd 2 with
   | false =>
    cases h3 : bitZ dd 4 with
    | false =>
     cases h4 : bitZ dd 8 with
     | false =>
      have HE : Hid (agD dd a b = true) := Lib.hid (HG.out.trans (by simp only [h1, g1, h2, h3, h4, Bool.not_true, Bool.not_false, Bool.true_or, Bool.false_or, Bool.and_true, Bool.true_and, Bool.and_false, Bool.false_and]))
      have u1 : (bits .and .i64 dd 1 == 0) = false := by have := h1; unfold bitZ at this; simpa using this
      have t1 : decide (bits .and .i64 dd 1 = 0) = false := by have := u1; simpa using this
      have v1 : (a.k == b.k) = true := by have := g1; simpa using this
      have u2 : (bits .and .i64 dd 2 == 0) = true := by have := h2; unfold bitZ at this; simpa using this
      have t2 : decide (bits .and .i64 dd 2 = 0) = true := by have := u2; simpa using this
      have u3 : (bits .and .i64 dd 4 == 0) = true := by have := h3; unfold bitZ at this; simpa using this
      have t3 : decide (bits .and .i64 dd 4 = 0) = true := by have := u3; simpa using this
      have u4 : (bits .and .i64 dd 8 == 0) = true := by have := h4; unfold bitZ at this; simpa using this
      have t4 : decide (bits .and .i64 dd 8 = 0) = true := by have := u4; simpa using this
      clear HG h1 h2 h3 h4
      go_wp2
      go_ret
      exact ⟨ret_bool HE.out.symm, hB⟩
     | true =>
      cases g4 : decide (a.s = b.s) with
      | false =>
       have HE : Hid (agD dd a b = false) := Lib.hid (HG.out.trans (by simp only [h1, g1, h2, h3, h4, g4, Bool.not_true, Bool.not_false, Bool.true_or, Bool.false_or, Bool.and_true, Bool.true_and, Bool.and_false, Bool.false_and]))
       have u1 : (bits .and .i64 dd 1 == 0) = false := by have := h1; unfold bitZ at this; simpa using this
       have t1 : decide (bits .and .i64 dd 1 = 0) = false := by have := u1; simpa using this
       have v1 : (a.k == b.k) = true := by have := g1; simpa using this
       have u2 : (bits .and .i64 dd 2 == 0) = true := by have := h2; unfold bitZ at this; simpa using this
       have t2 : decide (bits .and .i64 dd 2 = 0) = true := by have := u2; simpa using this
       have u3 : (bits .and .i64 dd 4 == 0) = true := by have := h3; unfold bitZ at this; simpa using this
       have t3 : decide (bits .and .i64 dd 4 = 0) = true := by have := u3; simpa using this
       have u4 : (bits .and .i64 dd 8 == 0) = false := by have := h4; unfold bitZ at this; simpa using this
       have t4 : decide (bits .and .i64 dd 8 = 0) = false := by have := u4; simpa using this
       have v4 : (a.s == b.s) = false := by have := g4; simpa using this
       clear HG h1 h2 h3 h4
       go_wp2
       go_ret
       exact ⟨ret_bool HE.out.symm, hB⟩
      | true =>
       have HE : Hid (agD dd a b = true) := Lib.hid (HG.out.trans (by simp only [h1, g1, h2, h3, h4, g4, Bool.not_true, Bool.not_false, Bool.true_or, Bool.false_or, Bool.and_true, Bool.true_and, Bool.and_false, Bool.false_and]))
       have u1 : (bits .and .i64 dd 1 == 0) = false := by have := h1; unfold bitZ at this; simpa using this
       have t1 : decide (bits .and .i64 dd 1 = 0) = false := by have := u1; simpa using this
       have v1 : (a.k == b.k) = true := by have := g1; simpa using this
       have u2 : (bits .and .i64 dd 2 == 0) = true := by have := h2; unfold bitZ at this; simpa using this
       have t2 : decide (bits .and .i64 dd 2 = 0) = true := by have := u2; simpa using this
       have u3 : (bits .and .i64 dd 4 == 0) = true := by have := h3; unfold bitZ at this; simpa using this
       have t3 : decide (bits .and .i64 dd 4 = 0) = true := by have := u3; simpa using this
       have u4 : (bits .and .i64 dd 8 == 0) = false := by have := h4; unfold bitZ at this; simpa using this
       have t4 : decide (bits .and .i64 dd 8 = 0) = false := by have := u4; simpa using this
       have v4 : (a.s == b.s) = true := by have := g4; simpa using this
       clear HG h1 h2 h3 h4
       go_wp2
       go_ret
       exact ⟨ret_bool HE.out.symm, hB⟩
    | true =>
     cases g3 : decide (a.m = b.m) with
     | false =>
      have HE : Hid (agD dd a b = false) := Lib.hid (HG.out.trans (by simp only [h1, g1, h2, h3, g3, Bool.not_true, Bool.not_false, Bool.true_or, Bool.false_or, Bool.and_true, Bool.true_and, Bool.and_false, Bool.false_and]))
      have u1 : (bits .and .i64 dd 1 == 0) = false := by have := h1; unfold bitZ at this; simpa using this
      have t1 : decide (bits .and .i64 dd 1 = 0) = false := by have := u1; simpa using this
      have v1 : (a.k == b.k) = true := by have := g1; simpa using this
      have u2 : (bits .and .i64 dd 2 == 0) = true := by have := h2; unfold bitZ at this; simpa using this
      have t2 : decide (bits .and .i64 dd 2 = 0) = true := by have := u2; simpa using this
      have u3 : (bits .and .i64 dd 4 == 0) = false := by have := h3; unfold bitZ at this; simpa using this
      have t3 : decide (bits .and .i64 dd 4 = 0) = false := by have := u3; simpa using this
      clear HG h1 h2 h3
      go_wp2_with fail
      refine (HC.out _ (Below.refl _ _)).mono ?_
      rw [g3]
      rintro e w3 ⟨rfl, hq⟩
      replace k3 := k3.grows hq
      replace k4 := k4.grows hq
      replace hB := below_grows hB (Nat.le_refl _) hq
      clear hq x3 x4
      have x3 := k3.cell
      have x4 := k4.cell
      go_wp2
      go_ret
      exact ⟨ret_bool HE.out.symm, hB⟩
     | true =>
      cases h4 : bitZ dd 8 with
      | false =>
       have HE : Hid (agD dd a b = true) := Lib.hid (HG.out.trans (by simp only [h1, g1, h2, h3, g3, h4, Bool.not_true, Bool.not_false, Bool.true_or, Bool.false_or, Bool.and_true, Bool.true_and, Bool.and_false, Bool.false_and]))
       have u1 : (bits .and .i64 dd 1 == 0) = false := by have := h1; unfold bitZ at this; simpa using this
       have t1 : decide (bits .and .i64 dd 1 = 0) = false := by have := u1; simpa using this
       have v1 : (a.k == b.k) = true := by have := g1; simpa using this
       have u2 : (bits .and .i64 dd 2 == 0) = true := by have := h2; unfold bitZ at this; simpa using this
       have t2 : decide (bits .and .i64 dd 2 = 0) = true := by have := u2; simpa using this
       have u3 : (bits .and .i64 dd 4 == 0) = false := by have := h3; unfold bitZ at this; simpa using this
       have t3 : decide (bits .and .i64 dd 4 = 0) = false := by have := u3; simpa using this
       have u4 : (bits .and .i64 dd 8 == 0) = true := by have := h4; unfold bitZ at this; simpa using this
       have t4 : decide (bits .and .i64 dd 8 = 0) = true := by have := u4; simpa using this
       clear HG h1 h2 h3 h4
       go_wp2_with fail
       refine (HC.out _ (Below.refl _ _)).mono ?_
       rw [g3]
       rintro e w3 ⟨rfl, hq⟩
       replace k3 := k3.grows hq
       replace k4 := k4.grows hq
       replace hB := below_grows hB (Nat.le_refl _) hq
       clear hq x3 x4
       have x3 := k3.cell
       have x4 := k4.cell
       go_wp2
       go_ret
       exact ⟨ret_bool HE.out.symm, hB⟩
      | true =>
       cases g4 : decide (a.s = b.s) with
       | false =>
        have HE : Hid (agD dd a b = false) := Lib.hid (HG.out.trans (by simp only [h1, g1, h2, h3, g3, h4, g4, Bool.not_true, Bool.not_false, Bool.true_or, Bool.false_or, Bool.and_true, Bool.true_and, Bool.and_false, Bool.false_and]))
        have u1 : (bits .and .i64 dd 1 == 0) = false := by have := h1; unfold bitZ at this; simpa using this
        have t1 : decide (bits .and .i64 dd 1 = 0) = false := by have := u1; simpa using this
        have v1 : (a.k == b.k) = true := by have := g1; simpa using this
        have u2 : (bits .and .i64 dd 2 == 0) = true := by have := h2; unfold bitZ at this; simpa using this
        have t2 : decide (bits .and .i64 dd 2 = 0) = true := by have := u2; simpa using this
        have u3 : (bits .and .i64 dd 4 == 0) = false := by have := h3; unfold bitZ at this; simpa using this
        have t3 : decide (bits .and .i64 dd 4 = 0) = false := by have := u3; simpa using this
        have u4 : (bits .and .i64 dd 8 == 0) = false := by have := h4; unfold bitZ at this; simpa using this
        have t4 : decide (bits .and .i64 dd 8 = 0) = false := by have := u4; simpa using this
        have v4 : (a.s == b.s) = false := by have := g4; simpa using this
        clear HG h1 h2 h3 h4
        go_wp2_with fail
        refine (HC.out _ (Below.refl _ _)).mono ?_
        rw [g3]
        rintro e w3 ⟨rfl, hq⟩
        replace k3 := k3.grows hq
        replace k4 := k4.grows hq
        replace hB := below_grows hB (Nat.le_refl _) hq
        clear hq x3 x4
        have x3 := k3.cell
        have x4 := k4.cell
        go_wp2
        go_ret
        exact ⟨ret_bool HE.out.symm, hB⟩
       | true =>
        have HE : Hid (agD dd a b = true) := Lib.hid (HG.out.trans (by simp only [h1, g1, h2, h3, g3, h4, g4, Bool.not_true, Bool.not_false, Bool.true_or, Bool.false_or, Bool.and_true, Bool.true_and, Bool.and_false, Bool.false_and]))
        have u1 : (bits .and .i64 dd 1 == 0) = false := by have := h1; unfold bitZ at this; simpa using this
        have t1 : decide (bits .and .i64 dd 1 = 0) = false := by have := u1; simpa using this
        have v1 : (a.k == b.k) = true := by have := g1; simpa using this
        have u2 : (bits .and .i64 dd 2 == 0) = true := by have := h2; unfold bitZ at this; simpa using this
        have t2 : decide (bits .and .i64 dd 2 = 0) = true := by have := u2; simpa using this
        have u3 : (bits .and .i64 dd 4 == 0) = false := by have := h3; unfold bitZ at this; simpa using this
        have t3 : decide (bits .and .i64 dd 4 = 0) = false := by have := u3; simpa using this
        have u4 : (bits .and .i64 dd 8 == 0) = false := by have := h4; unfold bitZ at this; simpa using this
        have t4 : decide (bits .and .i64 dd 8 = 0) = false := by have := u4; simpa using this
        have v4 : (a.s == b.s) = true := by have := g4; simpa using this
        clear HG h1 h2 h3 h4
        go_wp2_with fail
        refine (HC.out _ (Below.refl _ _)).mono ?_
        rw [g3]
        rintro e w3 ⟨rfl, hq⟩
        replace k3 := k3.grows hq
        replace k4 := k4.grows hq
        replace hB := below_grows hB (Nat.le_refl _) hq
        clear hq x3 x4
        have x3 := k3.cell
        have x4 := k4.cell
        go_wp2
        go_ret
        exact ⟨ret_bool HE.out.symm, hB⟩
   | true =>
    cases g2 : decide (a.r = b.r) with
    | false =>
     have HE : Hid (agD dd a b = false) := Lib.hid (HG.out.trans (by simp only [h1, g1, h2, g2, Bool.not_true, Bool.not_false, Bool.true_or, Bool.false_or, Bool.and_true, Bool.true_and, Bool.and_false, Bool.false_and]))
     have u1 : (bits .and .i64 dd 1 == 0) = false := by have := h1; unfold bitZ at this; simpa using this
     have t1 : decide (bits .and .i64 dd 1 = 0) = false := by have := u1; simpa using this
     have v1 : (a.k == b.k) = true := by have := g1; simpa using this
     have u2 : (bits .and .i64 dd 2 == 0) = false := by have := h2; unfold bitZ at this; simpa using this
     have t2 : decide (bits .and .i64 dd 2 = 0) = false := by have := u2; simpa using this
     have v2 : (a.r == b.r) = false := by have := g2; simpa using this
     clear HG h1 h2
     go_wp2
     go_ret
     exact ⟨ret_bool HE.out.symm, hB⟩
    | true =>
     cases h3 : bitZ dd 4 with
     | false =>
      cases h4 : bitZ dd 8 with
      | false =>
       have HE : Hid (agD dd a b = true) := Lib.hid (HG.out.trans (by simp only [h1, g1, h2, g2, h3, h4, Bool.not_true, Bool.not_false, Bool.true_or, Bool.false_or, Bool.and_true, Bool.true_and, Bool.and_false, Bool.false_and]))
       have u1 : (bits .and .i64 dd 1 == 0) = false := by have := h1; unfold bitZ at this; simpa using this
       have t1 : decide (bits .and .i64 dd 1 = 0) = false := by have := u1; simpa using this
       have v1 : (a.k == b.k) = true := by have := g1; simpa using this
       have u2 : (bits .and .i64 dd 2 == 0) = false := by have := h2; unfold bitZ at this; simpa using this
       have t2 : decide (bits .and .i64 dd 2 = 0) = false := by have := u2; simpa using this
       have v2 : (a.r == b.r) = true := by have := g2; simpa using this
       have u3 : (bits .and .i64 dd 4 == 0) = true := by have := h3; unfold bitZ at this; simpa using this
       have t3 : decide (bits .and .i64 dd 4 = 0) = true := by have := u3; simpa using this
       have u4 : (bits .and .i64 dd 8 == 0) = true := by have := h4; unfold bitZ at this; simpa using this
       have t4 : decide (bits .and .i64 dd 8 = 0) = true := by have := u4; simpa using this
       clear HG h1 h2 h3 h4
       go_wp2
       go_ret
       exact ⟨ret_bool HE.out.symm, hB⟩
      | true =>
       cases g4 : decide (a.s = b.s) with
       | false =>
        have HE : Hid (agD dd a b = false) := Lib.hid (HG.out.trans (by simp only [h1, g1, h2, g2, h3, h4, g4, Bool.not_true, Bool.not_false, Bool.true_or, Bool.false_or, Bool.and_true, Bool.true_and, Bool.and_false, Bool.false_and]))
        have u1 : (bits .and .i64 dd 1 == 0) = false := by have := h1; unfold bitZ at this; simpa using this
        have t1 : decide (bits .and .i64 dd 1 = 0) = false := by have := u1; simpa using this
        have v1 : (a.k == b.k) = true := by have := g1; simpa using this
        have u2 : (bits .and .i64 dd 2 == 0) = false := by have := h2; unfold bitZ at this; simpa using this
        have t2 : decide (bits .and .i64 dd 2 = 0) = false := by have := u2; simpa using this
        have v2 : (a.r == b.r) = true := by have := g2; simpa using this
        have u3 : (bits .and .i64 dd 4 == 0) = true := by have := h3; unfold bitZ at this; simpa using this
        have t3 : decide (bits .and .i64 dd 4 = 0) = true := by have := u3; simpa using this
        have u4 : (bits .and .i64 dd 8 == 0) = false := by have := h4; unfold bitZ at this; simpa using this
        have t4 : decide (bits .and .i64 dd 8 = 0) = false := by have := u4; simpa using this
        have v4 : (a.s == b.s) = false := by have := g4; simpa using this
        clear HG h1 h2 h3 h4
        go_wp2
        go_ret
        exact ⟨ret_bool HE.out.symm, hB⟩
       | true =>
        have HE : Hid (agD dd a b = true) := Lib.hid (HG.out.trans (by simp only [h1, g1, h2, g2, h3, h4, g4, Bool.not_true, Bool.not_false, Bool.true_or, Bool.false_or, Bool.and_true, Bool.true_and, Bool.and_false, Bool.false_and]))
        have u1 : (bits .and .i64 dd 1 == 0) = false := by have := h1; unfold bitZ at this; simpa using this
        have t1 : decide (bits .and .i64 dd 1 = 0) = false := by have := u1; simpa using this
        have v1 : (a.k == b.k) = true := by have := g1; simpa using this
        have u2 : (bits .and .i64 dd 2 == 0) = false := by have := h2; unfold bitZ at this; simpa using this
        have t2 : decide (bits .and .i64 dd 2 = 0) = false := by have := u2; simpa using this
        have v2 : (a.r == b.r) = true := by have := g2; simpa using this
        have u3 : (bits .and .i64 dd 4 == 0) = true := by have := h3; unfold bitZ at this; simpa using this
        have t3 : decide (bits .and .i64 dd 4 = 0) = true := by have := u3; simpa using this
        have u4 : (bits .and .i64 dd 8 == 0) = false := by have := h4; unfold bitZ at this; simpa using this
        have t4 : decide (bits .and .i64 dd 8 = 0) = false := by have := u4; simpa using this
        have v4 : (a.s == b.s) = true := by have := g4; simpa using this
        clear HG h1 h2 h3 h4
        go_wp2
        go_ret
        exact ⟨ret_bool HE.out.symm, hB⟩
     | true =>
      cases g3 : decide (a.m = b.m) with
      | false =>
       have HE : Hid (agD dd a b = false) := Lib.hid (HG.out.trans (by simp only [h1, g1, h2, g2, h3, g3, Bool.not_true, Bool.not_false, Bool.true_or, Bool.false_or, Bool.and_true, Bool.true_and, Bool.and_false, Bool.false_and]))
       have u1 : (bits .and .i64 dd 1 == 0) = false := by have := h1; unfold bitZ at this; simpa using this
       have t1 : decide (bits .and .i64 dd 1 = 0) = false := by have := u1; simpa using this
       have v1 : (a.k == b.k) = true := by have := g1; simpa using this
       have u2 : (bits .and .i64 dd 2 == 0) = false := by have := h2; unfold bitZ at this; simpa using this
       have t2 : decide (bits .and .i64 dd 2 = 0) = false := by have := u2; simpa using this
       have v2 : (a.r == b.r) = true := by have := g2; simpa using this
       have u3 : (bits .and .i64 dd 4 == 0) = false := by have := h3; unfold bitZ at this; simpa using this
       have t3 : decide (bits .and .i64 dd 4 = 0) = false := by have := u3; simpa using this
       clear HG h1 h2 h3
       go_wp2_with fail
       refine (HC.out _ (Below.refl _ _)).mono ?_
       rw [g3]
       rintro e w3 ⟨rfl, hq⟩
       replace k3 := k3.grows hq
       replace k4 := k4.grows hq
       replace hB := below_grows hB (Nat.le_refl _) hq
       clear hq x3 x4
       have x3 := k3.cell
       have x4 := k4.cell
       go_wp2
       go_ret
       exact ⟨ret_bool HE.out.symm, hB⟩
      | true =>
       cases h4 : bitZ dd 8 with
       | false =>
        have HE : Hid (agD dd a b = true) := Lib.hid (HG.out.trans (by simp only [h1, g1, h2, g2, h3, g3, h4, Bool.not_true, Bool.not_false, Bool.true_or, Bool.false_or, Bool.and_true, Bool.true_and, Bool.and_false, Bool.false_and]))
        have u1 : (bits .and .i64 dd 1 == 0) = false := by have := h1; unfold bitZ at this; simpa using this
        have t1 : decide (bits .and .i64 dd 1 = 0) = false := by have := u1; simpa using this
        have v1 : (a.k == b.k) = true := by have := g1; simpa using this
        have u2 : (bits .and .i64 dd 2 == 0) = false := by have := h2; unfold bitZ at this; simpa using this
        have t2 : decide (bits .and .i64 dd 2 = 0) = false := by have := u2; simpa using this
        have v2 : (a.r == b.r) = true := by have := g2; simpa using this
        have u3 : (bits .and .i64 dd 4 == 0) = false := by have := h3; unfold bitZ at this; simpa using this
        have t3 : decide (bits .and .i64 dd 4 = 0) = false := by have := u3; simpa using this
        have u4 : (bits .and .i64 dd 8 == 0) = true := by have := h4; unfold bitZ at this; simpa using this
        have t4 : decide (bits .and .i64 dd 8 = 0) = true := by have := u4; simpa using this
        clear HG h1 h2 h3 h4
        go_wp2_with fail
        refine (HC.out _ (Below.refl _ _)).mono ?_
        rw [g3]
        rintro e w3 ⟨rfl, hq⟩
        replace k3 := k3.grows hq
        replace k4 := k4.grows hq
        replace hB := below_grows hB (Nat.le_refl _) hq
        clear hq x3 x4
        have x3 := k3.cell
        have x4 := k4.cell
        go_wp2
        go_ret
        exact ⟨ret_bool HE.out.symm, hB⟩
       | true =>
        cases g4 : decide (a.s = b.s) with
        | false =>
         have HE : Hid (agD dd a b = false) := Lib.hid (HG.out.trans (by simp only [h1, g1, h2, g2, h3, g3, h4, g4, Bool.not_true, Bool.not_false, Bool.true_or, Bool.false_or, Bool.and_true, Bool.true_and, Bool.and_false, Bool.false_and]))
         have u1 : (bits .and .i64 dd 1 == 0) = false := by have := h1; unfold bitZ at this; simpa using this
         have t1 : decide (bits .and .i64 dd 1 = 0) = false := by have := u1; simpa using this
         have v1 : (a.k == b.k) = true := by have := g1; simpa using this
         have u2 : (bits .and .i64 dd 2 == 0) = false := by have := h2; unfold bitZ at this; simpa using this
         have t2 : decide (bits .and .i64 dd 2 = 0) = false := by have := u2; simpa using this
         have v2 : (a.r == b.r) = true := by have := g2; simpa using this
         have u3 : (bits .and .i64 dd 4 == 0) = false := by have := h3; unfold bitZ at this; simpa using this
         have t3 : decide (bits .and .i64 dd 4 = 0) = false := by have := u3; simpa using this
         have u4 : (bits .and .i64 dd 8 == 0) = false := by have := h4; unfold bitZ at this; simpa using this
         have t4 : decide (bits .and .i64 dd 8 = 0) = false := by have := u4; simpa using this
         have v4 : (a.s == b.s) = false := by have := g4; simpa using this
         clear HG h1 h2 h3 h4
         go_wp2_with fail
         refine (HC.out _ (Below.refl _ _)).mono ?_
         rw [g3]
         rintro e w3 ⟨rfl, hq⟩
         replace k3 := k3.grows hq
         replace k4 := k4.grows hq
         replace hB := below_grows hB (Nat.le_refl _) hq
         clear hq x3 x4
         have x3 := k3.cell
         have x4 := k4.cell
         go_wp2
         go_ret
         exact ⟨ret_bool HE.out.symm, hB⟩
        | true =>
         have HE : Hid (agD dd a b = true) := Lib.hid (HG.out.trans (by simp only [h1, g1, h2, g2, h3, g3, h4, g4, Bool.not_true, Bool.not_false, Bool.true_or, Bool.false_or, Bool.and_true, Bool.true_and, Bool.and_false, Bool.false_and]))
         have u1 : (bits .and .i64 dd 1 == 0) = false := by have := h1; unfold bitZ at this; simpa using this
         have t1 : decide (bits .and .i64 dd 1 = 0) = false := by have := u1; simpa using this
         have v1 : (a.k == b.k) = true := by have := g1; simpa using this
         have u2 : (bits .and .i64 dd 2 == 0) = false := by have := h2; unfold bitZ at this; simpa using this
         have t2 : decide (bits .and .i64 dd 2 = 0) = false := by have := u2; simpa using this
         have v2 : (a.r == b.r) = true := by have := g2; simpa using this
         have u3 : (bits .and .i64 dd 4 == 0) = false := by have := h3; unfold bitZ at this; simpa using this
         have t3 : decide (bits .and .i64 dd 4 = 0) = false := by have := u3; simpa using this
         have u4 : (bits .and .i64 dd 8 == 0) = false := by have := h4; unfold bitZ at this; simpa using this
         have t4 : decide (bits .and .i64 dd 8 = 0) = false := by have := u4; simpa using this
         have v4 : (a.s == b.s) = true := by have := g4; simpa using this
         clear HG h1 h2 h3 h4
         go_wp2_with fail
         refine (HC.out _ (Below.refl _ _)).mono ?_
         rw [g3]
         rintro e w3 ⟨rfl, hq⟩
         replace k3 := k3.grows hq
         replace k4 := k4.grows hq
         replace hB := below_grows hB (Nat.le_refl _) hq
         clear hq x3 x4
         have x3 := k3.cell
         have x4 := k4.cell
         go_wp2
         go_ret
         exact ⟨ret_bool HE.out.symm, hB⟩
end Go.Proofs.YtjbkjgmcfommgaaGreat

namespace Go.Proofs.YtjbkjgmcfommgaaGreat
open Go.RowKit
/-- Whether choices fit up to a port. -/
def fitAt (l : List Pt) (cs : List Ch) (i : Nat) : Bool := hasL (l.getD i noPt).b (cs.getD i zeroC) && (decide (i = 0) || agD (keptD (l.getD (i - 1) noPt)) (cs.getD (i - 1) zeroC) (cs.getD i zeroC))
theorem fits_no {l : List Pt} {cs : List Ch} {i : Nat} (hi : i < l.length) (h : fitAt l cs i = false) : fitsF l cs = false := by
 unfold fitsF
 have : ((List.range l.length).all fun i => hasL (l.getD i noPt).b (cs.getD i zeroC) && (decide (i = 0) || agD (keptD (l.getD (i - 1) noPt)) (cs.getD (i - 1) zeroC) (cs.getD i zeroC))) = false := List.all_eq_false.2 ⟨i, List.mem_range.2 hi, by
  have h : (hasL (l.getD i noPt).b (cs.getD i zeroC) && (decide (i = 0) || agD (keptD (l.getD (i - 1) noPt)) (cs.getD (i - 1) zeroC) (cs.getD i zeroC))) = false := h
  rw [h]
  simp⟩
 rw [this, Bool.and_false]
theorem fits_yes {l : List Pt} {cs : List Ch} (hv : validC l = true) (hn : cs.length = l.length) (h : ∀ i, i < l.length → fitAt l cs i = true) : fitsF l cs = true := by
 unfold fitsF
 rw [hv, decide_eq_true hn, Bool.true_and, Bool.true_and, List.all_eq_true]
 exact fun i hi => h i (List.mem_range.1 hi)
theorem fits_bad {l : List Pt} {cs : List Ch} (h : validC l = false) : fitsF l cs = false := by unfold fitsF; rw [h]; rfl
theorem fits_len {l : List Pt} {cs : List Ch} (h : cs.length ≠ l.length) : fitsF l cs = false := by unfold fitsF; rw [decide_eq_false h, Bool.and_false]; rfl
theorem fit_at {l : List Pt} {cs : List Ch} {k : Nat} {p : Pt} {x : Ch} (hp : l[k]? = some p) (hx : cs[k]? = some x) : fitAt l cs k = (hasL p.b x && (decide (k = 0) || agD (keptD (l.getD (k - 1) noPt)) (cs.getD (k - 1) zeroC) x)) := by
 unfold fitAt
 rw [show l.getD k noPt = p by rw [List.getD_eq_getElem?_getD, hp]; rfl, show cs.getD k zeroC = x by rw [List.getD_eq_getElem?_getD, hx]; rfl]
theorem fit_ag {l : List Pt} {cs : List Ch} {k : Nat} {p : Pt} {x : Ch} (hp : l[k]? = some p) (hx : cs[k]? = some x) : agD (keptD (l.getD k noPt)) (cs.getD k zeroC) = agD (bits .andNot .i64 15 p.v) x := by
 rw [show l.getD k noPt = p by rw [List.getD_eq_getElem?_getD, hp]; rfl, show cs.getD k zeroC = x by rw [List.getD_eq_getElem?_getD, hx]; rfl]
 rfl
theorem ge_of {w : World} {ok : Nat → Prop} {A : Option Addr} {x : List Int} (h : InB w ok A x) : Ints w A x := h.1
set_option maxHeartbeats 64000000 in
set_option maxRecDepth 10000 in
theorem fits_any {ok ow : Nat → Prop} {A B : Option Addr} {c d n m : Nat} {l : List Pt} {cs : List Ch} {w : World} (hn : n = l.length) (hm : m = cs.length) (h : Pts w ok A l) (hc : Chs w ow B cs) (hl : l.length ≤ 1000000) (hcl : cs.length ≤ 9223372036854775807) (ho : ∀ p ∈ l, (∀ b ∈ p.b, OKB b) ∧ p.b.length ≤ 1000000) (hco : ∀ x ∈ cs, x.m.length ≤ 1000000) :
 Calls Tryz.prog 19 #[.slice A n c, .slice B m d] w fun e w' => e = .returned (.bool (fitsF l cs)) ∧ Grows w w' := by
 subst hn hm
 have HO := Lib.hid ho
 have HCO := Lib.hid hco
 clear ho hco
 have hB := Below.refl w.heap.size w
 go_enter Tryz.func19, Tryz.ntmps19
 go_wp2_with fail
 refine (nvalid_any rfl (h.grows hB) hl (fun p hp => HO.out p hp)).mono ?_
 rintro e w2 ⟨rfl, hq⟩
 replace hB := below_grows hB (Nat.le_refl _) hq
 clear hq
 cases hv : validC l with
 | false =>
  have HE := Lib.hid (fits_bad (cs := cs) hv)
  clear hv
  go_wp2
  go_ret
  exact ⟨ret_bool HE.out.symm, hB⟩
 | true =>
 have HV := Lib.hid hv
 have hl16 := (valid_ports hv).2.2
 clear hv
 by_cases hcn : cs.length = l.length
 case neg =>
  have HE := Lib.hid (fits_len hcn)
  have e1 : ((cs.length : Int) != (l.length : Int)) = true := by rw [bne_iff_ne]; omega
  have e2 : decide ((cs.length : Int) = (l.length : Int)) = false := by simp only [decide_eq_false_iff_not]; omega
  have e3 : decide (cs.length = l.length) = false := by simp only [decide_eq_false_iff_not]; omega
  clear hcn
  go_wp2
  go_ret
  exact ⟨ret_bool HE.out.symm, hB⟩
 have HCN := Lib.hid hcn
 have e1 : ((cs.length : Int) != (l.length : Int)) = false := by rw [hcn]; simp
 have e2 : decide ((cs.length : Int) = (l.length : Int)) = true := by simp only [decide_eq_true_eq]; omega
 have e3 : decide (cs.length = l.length) = true := by simp only [decide_eq_true_eq]; omega
 clear hcn
 go_upto_region 3 with fail
 clear e1 e2 e3
 go_wp2_with fail
 go_loopw [19] (fun i wr => ∃ k : Nat, k ≤ l.length ∧ i = .int .i64 k ∧ Hid (∀ i, i < k → fitAt l cs i = true) ∧ Below w.heap.size w wr) (fun i _ => l.length - (intOf i).toNat)
 case atStart => exact ⟨0, by omega, rfl, Lib.hid (fun i hi => absurd hi (by omega)), hB⟩
 case round =>
  clear hB
  obtain ⟨k, hk, rfl, HK, hB⟩ := hrel
  by_cases hlt : k < l.length
  ·obtain ⟨ad, p, BP, cp, ea, had, hp, hbx, hcp, q0, q1⟩ := h.elem hB hlt
   subst ea
   obtain ⟨ad2, x, BX, dX, eb, had2, hx, hdX, hix, hcx⟩ := hc.elem hB (show k < cs.length by have := HCN.out; omega)
   subst eb
   have HP := Lib.hid hp
   have HX := Lib.hid hx
   have HPO := Lib.hid (HO.out p (List.mem_of_getElem? hp))
   have HXO := Lib.hid (HCO.out x (List.mem_of_getElem? hx))
   have HAT := Lib.hid (fit_at (l := l) (cs := cs) hp hx)
   have HNO := Lib.hid (fun h => fits_no (l := l) (cs := cs) (i := k) hlt h)
   clear hp hx
   have k6 := Blk.new wr 47 #[.slice BP p.b.length cp, .int .i64 p.v]
   have hq := (Below.refl wr.heap.size wr).alloc (Nat.le_refl _) (Obj.cells #[.slice BP p.b.length cp, .int .i64 p.v] 47)
   go_upto_region 6 with fail
   replace hB := below_grows hB (Nat.le_refl _) hq
   replace hcx := hcx.grows hq (by rw [block_of_add]; exact had2)
   replace hbx := hbx.grows hB
   replace hix := RdB.grows hix hB
   have hszq := hq.size
   clear hq q0 q1
   have had3 : ad.block < (World.alloc wr (Obj.cells #[.slice BP p.b.length cp, .int .i64 p.v] 47)).heap.size := by omega
   have had4 : ad2.block < (World.alloc wr (Obj.cells #[.slice BP p.b.length cp, .int .i64 p.v] 47)).heap.size := by omega
   generalize World.alloc wr _ = w5 at *
   generalize wr.heap.size = G6 at *
   have c1 : (0 : Int) ≤ (k : Int) := by omega
   have c2 : (k : Int) < (l.length : Int) := by omega
   have c3 : (k : Int) < (cs.length : Int) := by have := HCN.out; omega
   have c4 : k < cs.length := by have := HCN.out; omega
   have had5 : (ad2.add (k * 4)).block < w5.heap.size := by rw [block_of_add]; exact had4
   have HH := Lib.hid (fun (w0 : World) (hg : Grows w5 w0) => phasl_any (x := x) (ci := dX) (w := w0) (hbx.grows hg) HPO.out.2 hcp HPO.out.1 (ge_of (RdB.grows hix hg)) HXO.out)
   cases hh : hasL p.b x with
   | false =>
    have HE := Lib.hid (HNO.out (by rw [HAT.out, hh]; rfl))
    rw [hh] at HH
    clear hh
    refine wp_region_mix (fun w' => Grows w5 w') [] 32 57 (by kernel_rfl) (by kernel_rfl) rfl ?_ float_none ?_ ?_
    ·exact fun w1 w2 h0 hg => below_grows h0 (Nat.le_refl _) hg
    ·exact Grows.drew' _
    ·skip
     simp only [List.take_succ_cons, List.take_zero, List.drop_succ_cons, List.drop_zero]
     iterate 32
      first
       | (refine calm_no rfl rfl (a' := ?_) ?_ ?_
          rotate_left 1
          ·simp only [Act.put, List.setIfInBounds_toArray, List.set_cons_succ, List.set_cons_zero]
           rfl)
       | (first | refine calm_plain rfl rfl (v := ?_) (a' := ?_) (fun w1 hw1 => ?_) ?_ ?_ | refine calm_yes rfl rfl (v := ?_) (a' := ?_) (fun w1 hw1 => ?_) ?_ ?_
          rotate_left 2
          ·have h0 := hw1
           have x6 := (k6.grows h0).cell
           obtain ⟨y0, y1, y2, y3⟩ := hcx.grows h0 had5
           go_simp
           first | exact calm_val | (refine calm_call ?_; with_reducible exact HH.out _ h0)
          ·simp only [Act.put, List.setIfInBounds_toArray, List.set_cons_succ, List.set_cons_zero]
           rfl)
     refine calm_done (end_none ?_)
     rintro W2 h0
     replace hB := below_grows hB (Nat.le_refl _) h0
     go_wp2
     go_ret
     exact ⟨ret_bool HE.out.symm, hB⟩
   | true =>
   rw [hh] at HH
   by_cases hk0 : k = 0
   ·have HE : Hid (fitAt l cs k = true) := Lib.hid (by rw [HAT.out, hh, decide_eq_true hk0]; rfl)
    have d1 : decide ((0 : Int) < (k : Int)) = false := by simp only [decide_eq_false_iff_not]; omega
    have d2 : decide (0 < k) = false := by simp only [decide_eq_false_iff_not]; omega
    clear hh hk0
    refine wp_region_mix (fun w' => Grows w5 w') [] 32 57 (by kernel_rfl) (by kernel_rfl) rfl ?_ float_none ?_ ?_
    ·exact fun w1 w2 h0 hg => below_grows h0 (Nat.le_refl _) hg
    ·exact Grows.drew' _
    ·skip
     simp only [List.take_succ_cons, List.take_zero, List.drop_succ_cons, List.drop_zero]
     iterate 32
      first
       | (refine calm_no rfl rfl (a' := ?_) ?_ ?_
          rotate_left 1
          ·simp only [Act.put, List.setIfInBounds_toArray, List.set_cons_succ, List.set_cons_zero]
           rfl)
       | (first | refine calm_plain rfl rfl (v := ?_) (a' := ?_) (fun w1 hw1 => ?_) ?_ ?_ | refine calm_yes rfl rfl (v := ?_) (a' := ?_) (fun w1 hw1 => ?_) ?_ ?_
          rotate_left 2
          ·have h0 := hw1
           have x6 := (k6.grows h0).cell
           obtain ⟨y0, y1, y2, y3⟩ := hcx.grows h0 had5
           go_simp
           first | exact calm_val | (refine calm_call ?_; with_reducible exact HH.out _ h0)
          ·simp only [Act.put, List.setIfInBounds_toArray, List.set_cons_succ, List.set_cons_zero]
           rfl)
     refine calm_done (end_none ?_)
     rintro W2 h0
     replace hB := below_grows hB (Nat.le_refl _) h0
     go_wp2
     go_roundw
     case rel => exact ⟨k + 1, by omega, by go_num, Lib.hid (fun i hi => by
      rcases Nat.lt_or_ge i k with h | h
      ·exact HK.out i h
      ·obtain rfl : i = k := by omega
       exact HE.out), hB⟩
     case measure => simp [intOf]; omega
   ·have d1 : decide ((0 : Int) < (k : Int)) = true := by simp only [decide_eq_true_eq]; omega
    have d2 : decide (0 < k) = true := by simp only [decide_eq_true_eq]; omega
    obtain ⟨j, hj⟩ : ∃ j, k = j + 1 := ⟨k - 1, by omega⟩
    have HJ := Lib.hid hj
    have hwj : IntKind.i64.wrap ((k : Int) - 1) = (j : Int) := by rw [IntWalk.i64_in _ (by omega)]; omega
    have c5 : (0 : Int) ≤ (j : Int) := by omega
    have c6 : (j : Int) < (l.length : Int) := by omega
    have c7 : (j : Int) < (cs.length : Int) := by have := HCN.out; omega
    have c8 : j < l.length := by omega
    have c9 : j < cs.length := by have := HCN.out; omega
    obtain ⟨ad9, p2, BP2, cp2, ea, -, hp2, -, -, q20, q21⟩ := h.elem hB c8
    injection ea with ea
    subst ea
    obtain ⟨ad9, y, BY, dY, eb, -, hy, hdY, hiy, hcy⟩ := hc.elem hB c9
    injection eb with eb
    subst eb
    have hyo := HCO.out y (List.mem_of_getElem? hy)
    have HAG : Hid (fitAt l cs k = agD (bits .andNot .i64 15 p2.v) y x) := Lib.hid (by
     rw [HAT.out, hh, decide_eq_false hk0, hj, Nat.add_sub_cancel, fit_ag hp2 hy]
     rfl)
    have HA := Lib.hid (fun (w0 : World) (hg : Grows w5 w0) => agree_any (a := y) (b := x) (c := dY) (d := dX) (w := w0) (bits .andNot .i64 15 p2.v) (ge_of (RdB.grows hiy (below_grows hB (Nat.le_refl _) hg))) (ge_of (RdB.grows hix hg)) hyo HXO.out)
    have had7 : (ad2.add (j * 4)).block < w5.heap.size := by rw [block_of_add]; exact had4
    have had8 : (ad.add (j * 2)).block < w5.heap.size := by rw [block_of_add]; exact had3
    clear hh hk0 hj hp2 hy
    cases ha : agD (bits .andNot .i64 15 p2.v) y x with
    | false =>
     have HE := Lib.hid (HNO.out (HAG.out.trans ha))
     rw [ha] at HA
     clear ha
     refine wp_region_mix (fun w' => Grows w5 w') [] 32 57 (by kernel_rfl) (by kernel_rfl) rfl ?_ float_none ?_ ?_
     ·exact fun w1 w2 h0 hg => below_grows h0 (Nat.le_refl _) hg
     ·exact Grows.drew' _
     ·skip
      simp only [List.take_succ_cons, List.take_zero, List.drop_succ_cons, List.drop_zero]
      iterate 32
       first
        | (refine calm_no rfl rfl (a' := ?_) ?_ ?_
           rotate_left 1
           ·simp only [Act.put, List.setIfInBounds_toArray, List.set_cons_succ, List.set_cons_zero]
            rfl)
        | (first | refine calm_plain rfl rfl (v := ?_) (a' := ?_) (fun w1 hw1 => ?_) ?_ ?_ | refine calm_yes rfl rfl (v := ?_) (a' := ?_) (fun w1 hw1 => ?_) ?_ ?_
           rotate_left 2
           ·have h0 := hw1
            have x6 := (k6.grows h0).cell
            obtain ⟨y0, y1, y2, y3⟩ := hcx.grows h0 had5
            obtain ⟨z0, z1, z2, z3⟩ := hcy.grows h0 had7
            have zz := (Below.cell (p := ⟨(ad.add (j * 2)).block, (ad.add (j * 2)).off + 1, none⟩) h0 had8).trans q21
            go_simp
            first | exact calm_val | (refine calm_call ?_; with_reducible exact HH.out _ h0) | (refine calm_call ?_; with_reducible exact HA.out _ h0)
           ·simp only [Act.put, List.setIfInBounds_toArray, List.set_cons_succ, List.set_cons_zero]
            rfl)
      refine calm_done (end_none ?_)
      rintro W2 h0
      replace hB := below_grows hB (Nat.le_refl _) h0
      go_wp2
      go_ret
      exact ⟨ret_bool HE.out.symm, hB⟩
    | true =>
     have HE : Hid (fitAt l cs k = true) := Lib.hid (HAG.out.trans ha)
     rw [ha] at HA
     clear ha
     refine wp_region_mix (fun w' => Grows w5 w') [] 32 57 (by kernel_rfl) (by kernel_rfl) rfl ?_ float_none ?_ ?_
     ·exact fun w1 w2 h0 hg => below_grows h0 (Nat.le_refl _) hg
     ·exact Grows.drew' _
     ·skip
      simp only [List.take_succ_cons, List.take_zero, List.drop_succ_cons, List.drop_zero]
      iterate 32
       first
        | (refine calm_no rfl rfl (a' := ?_) ?_ ?_
           rotate_left 1
           ·simp only [Act.put, List.setIfInBounds_toArray, List.set_cons_succ, List.set_cons_zero]
            rfl)
        | (first | refine calm_plain rfl rfl (v := ?_) (a' := ?_) (fun w1 hw1 => ?_) ?_ ?_ | refine calm_yes rfl rfl (v := ?_) (a' := ?_) (fun w1 hw1 => ?_) ?_ ?_
           rotate_left 2
           ·have h0 := hw1
            have x6 := (k6.grows h0).cell
            obtain ⟨y0, y1, y2, y3⟩ := hcx.grows h0 had5
            obtain ⟨z0, z1, z2, z3⟩ := hcy.grows h0 had7
            have zz := (Below.cell (p := ⟨(ad.add (j * 2)).block, (ad.add (j * 2)).off + 1, none⟩) h0 had8).trans q21
            go_simp
            first | exact calm_val | (refine calm_call ?_; with_reducible exact HH.out _ h0) | (refine calm_call ?_; with_reducible exact HA.out _ h0)
           ·simp only [Act.put, List.setIfInBounds_toArray, List.set_cons_succ, List.set_cons_zero]
            rfl)
      refine calm_done (end_none ?_)
      rintro W2 h0
      replace hB := below_grows hB (Nat.le_refl _) h0
      go_wp2
      go_roundw
      case rel => exact ⟨k + 1, by omega, by go_num, Lib.hid (fun i hi => by
       rcases Nat.lt_or_ge i k with h | h
       ·exact HK.out i h
       ·obtain rfl : i = k := by omega
        exact HE.out), hB⟩
      case measure => simp [intOf]; omega
  ·have HE := Lib.hid (fits_yes HV.out HCN.out (fun i hi => HK.out i (by omega)))
   go_wp2
   go_ret
   exact ⟨ret_bool HE.out.symm, hB⟩
end Go.Proofs.YtjbkjgmcfommgaaGreat

namespace Go.Proofs.YtjbkjgmcfommgaaGreat
open Go.RowKit
def ptC (p : Pt) (B : Option Addr) (c : Nat) : List Value := [.slice B p.b.length c, .int .i64 p.v]
/-- A row of ports of one's own, apart from what its members take. -/
def OwnPq (w : World) (base : Nat) (ok : Nat → Prop) (v : Value) (l : List Pt) : Prop :=
 ∃ vs, w.ownsRow base 47 2 v l.length vs ∧ ∀ (i : Nat) (p : Pt), l[i]? = some p → ∃ B c, Bxs w (Aq ok v) B p.b ∧ p.b.length ≤ c ∧ ∀ j < 2, vs[i * 2 + j]? = (ptC p B c)[j]?
set_option maxRecDepth 100000 in
theorem port_info : ∃ i : TypeInfo, Tryz.prog.info? 47 = some i ∧ i.size = 2 ∧ i.bytes = 32 ∧ i.zero = some (.agg #[.slice none 0 0, .int .i64 0]) ∧ (Value.agg #[.slice none 0 0, .int .i64 0]).cells.size = 2 := ⟨_, by first | exact Tryz.info47 | rfl, rfl, rfl, rfl, rfl⟩
section
variable {w w' : World} {base g : Nat} {ok : Nat → Prop} {v : Value} {l : List Pt}
theorem OwnPq.nil : OwnPq w base ok (.slice none 0 0) [] := ⟨[], World.ownsRow_nil w base _ 2, fun i x h => by simp at h⟩
theorem OwnPq.grows (h : OwnPq w base ok v l) (hg : Grows w w') : OwnPq w' base ok v l := by
 obtain ⟨vs, h1, h2⟩ := h
 exact ⟨vs, own_grows h1 hg, fun i x hx => by obtain ⟨B, c, hb, r⟩ := h2 i x hx; exact ⟨B, c, hb.grows hg, r⟩⟩
theorem OwnPq.only (h : OwnPq w base ok v l) (hg : w.grownBy w' (some g)) (hb : g < base) (hl : ¬ ok g) : OwnPq w' base ok v l := by
 obtain ⟨vs, h1, h2⟩ := h
 refine ⟨vs, World.ownsRow.kept h1 hg ?_, fun i x hx => by obtain ⟨B, c, hi, r⟩ := h2 i x hx; exact ⟨B, c, hi.onlyq hg hl, r⟩⟩
 cases e : v.ownBlock with
 | none => exact .inl rfl
 | some q =>
  refine .inr fun e2 => ?_
  have := (World.ownsRow.lt h1 q e).1
  injection e2 with e2
  omega
theorem OwnPq.lt (h : OwnPq w base ok v l) : ∀ q, v.ownBlock = some q → base ≤ q ∧ q < w.heap.size := by
 obtain ⟨vs, h1, -⟩ := h
 exact World.ownsRow.lt h1
theorem OwnPq.read (h : OwnPq w base ok v l) : ∃ A c, v = .slice A l.length c ∧ l.length ≤ c ∧ Pts w (fun k => ok k ∨ base ≤ k) A l := by
 obtain ⟨vs, h1, h2⟩ := h
 have h3 : ∀ (i : Nat) (p : Pt), l[i]? = some p → ∃ B c, Bxs w (fun k => ok k ∨ base ≤ k) B p.b ∧ p.b.length ≤ c ∧ vs[i * 2]? = some (.slice B p.b.length c) ∧ vs[i * 2 + 1]? = some (.int .i64 p.v) := fun i p hx => by
  obtain ⟨B, c, hb, hc, r⟩ := h2 i p hx
  exact ⟨B, c, hb.mono (fun k hk => .inl hk.1), hc, r 0 (by omega), r 1 (by omega)⟩
 rcases h1.2 with ⟨rfl, hn⟩ | ⟨q, cap, cur, rfl, hbq, hg, hnc, hm, hs, ht⟩
 ·have e := List.eq_nil_of_length_eq_zero hn
  subst e
  exact ⟨none, 0, rfl, Nat.le_refl _, Pts.nil⟩
 ·refine ⟨_, cap, rfl, hnc, vs, ⟨Reads.of_own h1, fun _ ad e => ?_⟩, h3⟩
  injection e with e
  subst e
  exact Or.inr hbq
end
theorem ptC_one (p : Pt) (B : Option Addr) (c : Nat) : ∀ u ∈ ptC p B c, u.oneCell' = true := by
 intro u hu
 simp only [ptC, List.mem_cons, List.not_mem_nil, or_false] at hu
 rcases hu with rfl | rfl <;> rfl
theorem pts_one {l : List Pt} {vs : List Value} (hl : vs.length = l.length * 2) (h : ∀ (i : Nat) (p : Pt), l[i]? = some p → ∃ B c, ∀ j < 2, vs[i * 2 + j]? = (ptC p B c)[j]?) : ∀ u ∈ vs, u.oneCell' = true := by
 intro u hu
 obtain ⟨k, hk, e⟩ := List.mem_iff_getElem.1 hu
 have hi : k / 2 < l.length := by omega
 obtain ⟨B, c, hc⟩ := h (k / 2) _ (List.getElem?_eq_getElem hi)
 have h2 := hc (k % 2) (Nat.mod_lt _ (by omega))
 rw [show k / 2 * 2 + k % 2 = k by omega, List.getElem?_eq_getElem hk, e] at h2
 exact ptC_one _ B c u (List.mem_of_getElem? h2.symm)
theorem Pts.cells {w : World} {ok : Nat → Prop} {A : Option Addr} {l : List Pt} (h : Pts w ok A l) : ∃ vs : List Value, RdB w ok 2 A l.length vs ∧ ∀ (i : Nat) (p : Pt), l[i]? = some p → ∃ B c, Bxs w ok B p.b ∧ p.b.length ≤ c ∧ ∀ j < 2, vs[i * 2 + j]? = (ptC p B c)[j]? := by
 obtain ⟨vs, h1, h2⟩ := h
 refine ⟨vs, h1, fun i p hp => ?_⟩
 obtain ⟨B, c, hb, hc, r0, r1⟩ := h2 i p hp
 exact ⟨B, c, hb, hc, fun j hj => match j, hj with | 0, _ => r0 | 1, _ => r1⟩
theorem wpList_append_ports {ops : Array Oper} {rest : List Oper} {o : Oper} {a : Act} {w : World} {Q : Exit → Act → World → Prop} (hgd : o.guard = none) (s x : Operand) (ho : o.op = .call { callee := .builtin .append, args := #[s, x], argTypes := #[22, 22] })
 {base : Nat} {ok : Nat → Prop} {v : Value} {l m : List Pt} {A : Option Addr} {c n : Nat} (hn : n = m.length) (hs : a.eval s = v) (hown : OwnPq w base ok v l) (hx : a.eval x = .slice A n c) (hr : Pts w (Aq ok v) A m) (hlen : l.length + m.length ≤ 1000000) (hbase : base ≤ w.heap.size)
 (h : ∀ v' w', OwnPq w' base ok v' (l ++ m) → w.grownBy w' v.ownBlock → (v'.ownBlock = v.ownBlock ∨ v'.ownBlock = some w.heap.size) → wpList Tryz.prog ops Q rest (a.put o.dst v') w') : wpList Tryz.prog ops Q (o :: rest) a w := by
 obtain ⟨i0, hi0, hi1, hi2, hi3, hi4⟩ := port_info
 obtain ⟨vs, h1, h2⟩ := hown
 obtain ⟨us, r1, r2⟩ := hr.cells
 subst hn
 have hul := r1.1.1
 have hvl := h1.1
 refine wpList_append_any w hgd s x 22 ho base 47 i0 _ 2 32 Tryz.underlying22 hi0 hi3 hi1 hi2 hi4 (by omega) v l.length vs hs h1 w.heap.size A m.length c us hx r1.1 (pts_one hul fun i b hb => by obtain ⟨B, c, _, _, hc⟩ := r2 i b hb; exact ⟨B, c, hc⟩) (by simp only [maxLen]; omega) (by omega) hbase fun v' w' h3 h4 h5 => h v' w' ⟨vs ++ us, by rw [List.length_append]; exact h3, fun i p hp => ?_⟩ h4 h5
 by_cases hi : i < l.length
 ·rw [List.getElem?_append_left hi] at hp
  obtain ⟨B, c, hb, hc, r⟩ := h2 i p hp
  exact ⟨B, c, hb.aq h4 h5, hc, fun j hj => by rw [List.getElem?_append_left (by omega)]; exact r j hj⟩
 ·rw [List.getElem?_append_right (by omega)] at hp
  obtain ⟨B, c, hb, hc, r⟩ := r2 _ p hp
  exact ⟨B, c, hb.aq h4 h5, hc, fun j hj => by rw [List.getElem?_append_right (by omega), show i * 2 + j - vs.length = (i - l.length) * 2 + j by omega]; exact r j hj⟩
/-- A chain of one port, laid by a literal. -/
theorem pts_lit {w : World} {ok : Nat → Prop} {p : Pt} {B : Option Addr} {c : Nat} (hb : Bxs w ok B p.b) (hc : p.b.length ≤ c) (hw : ok w.heap.size) : Pts (w.alloc (.cells #[.slice B p.b.length c, .int .i64 p.v] 47)) ok (some ⟨w.heap.size, 0, none⟩) [p] := by
 have hk := Blk.new w 47 #[.slice B p.b.length c, .int .i64 p.v]
 have hq := (Below.refl w.heap.size w).alloc (Nat.le_refl _) (Obj.cells #[.slice B p.b.length c, .int .i64 p.v] 47)
 refine ⟨ptC p B c, ⟨⟨rfl, fun _ => ⟨_, rfl, hk.lt, fun j u hu => ?_⟩⟩, fun _ ad e => by injection e with e; subst e; exact hw⟩, fun i x hx => ?_⟩
 ·rw [add_head, hk.cell, ← Array.getElem?_toList]
  exact hu
 ·have hi0 : i = 0 := by
   have := (List.getElem?_eq_some_iff.1 hx).1
   simp only [List.length_singleton] at this
   omega
  subst hi0
  simp only [List.getElem?_cons_zero, Option.some.injEq] at hx
  subst hx
  exact ⟨B, c, hb.grows hq, hc, rfl, rfl⟩
/-- Ports that the maker makes. -/
def FineP (l : List Pt) : Prop := ∀ p ∈ l, Fine p.b ∧ 1 ≤ p.b.length ∧ p.b.length ≤ 2 ∧ 0 ≤ p.v ∧ p.v ≤ 15
theorem finep_app {l m : List Pt} (h : FineP l) (h2 : FineP m) : FineP (l ++ m) := fun b hb => (List.mem_append.1 hb).elim (h b) (h2 b)
set_option maxHeartbeats 8000000 in
theorem ports_any (B g : Nat) (w : World) (h : DR w B g) : Calls Tryz.prog 8 #[.pointer (some ⟨g, 0, none⟩)] w fun e w' => (∃ l v, e = .returned v ∧ OwnPq w' w.heap.size (Ge w.heap.size) v l ∧ MadeP l) ∧ DR w' B g ∧ w.grownBy w' (some g) := by
 have hgl := h.lt
 go_enter Tryz.func8, Tryz.ntmps8
 go_wp2_with fail
 refine (rolls_any B g 5 _ h (by omega) (by omega)).mono ?_
 rintro e w1 ⟨⟨r, rfl, r0, r1⟩, hD, hO⟩
 obtain ⟨n0, hn0⟩ : ∃ n0 : Nat, 1 + r = (n0 : Int) := ⟨(1 + r).toNat, by omega⟩
 have hw3 : IntKind.i64.wrap (1 + r) = (n0 : Int) := by rw [IntWalk.i64_in _ (by omega)]; exact hn0
 have hn1 : 1 ≤ n0 ∧ n0 ≤ 5 := by omega
 clear hn0 h
 have hsz := hO.size
 go_wp2_with fail
 go_loopw [3, 4] (fun v i wr => ∃ (n : Nat) (l : List Pt), n ≤ n0 ∧ i = .int .i64 n ∧ l.length + n = n0 ∧ Hid (FineP l) ∧ OwnPq wr w.heap.size (Ge w.heap.size) v l ∧ DR wr B g ∧ w.grownBy wr (some g)) (fun _ i _ => (intOf i).toNat)
 case atStart => exact ⟨n0, [], by omega, rfl, by simp, Lib.hid (fun b hb => by cases hb), OwnPq.nil, hD, hO⟩
 case round =>
  clear hD hO hsz
  obtain ⟨n, l, hn, rfl, hln, HF, ho, hD, hO⟩ := hrel
  have hsz := hO.size
  by_cases hpos : 0 < n
  ·have d1 : decide ((0 : Int) < (n : Int)) = true := by simp only [decide_eq_true_eq]; omega
   have d2 : decide (0 < n) = true := by simp only [decide_eq_true_eq]; omega
   have hwn : IntKind.i64.wrap ((n : Int) - 1) = ((n - 1 : Nat) : Int) := by rw [IntWalk.i64_in _ (by omega)]; omega
   go_upto_region 5 with fail
   refine wp_region_lit ?_
   iterate 2
    refine wpList_plain rfl (fun K hK => ?_)
    go_simp
    refine hK _ _ ?_
    clear hK K
   refine wpList_plain rfl (fun K hK => ?_)
   go_simp
   have hown := ho.lt
   refine (boxes_any B g 1 2 _ hD (by omega) (by omega)).mono ?_
   rintro e wb ⟨⟨b, vb, rfl, hb, hfb, hb1, hb2⟩, hDn, hq⟩
   obtain ⟨A1, c1, rfl, hc1, hbx⟩ := hb.read (Nat.le_refl _)
   have HFB := Lib.hid hfb
   clear hfb
   refine hK _ _ ?_
   clear hK K
   have hszb := hq.size
   replace hbx : Bxs wb (Aq (Ge w.heap.size) _) A1 b := hbx.mono fun k hk => ⟨by unfold Ge at *; omega, fun e => by have := (hown _ e).2; unfold Ge at hk; omega⟩
   replace ho := ho.only hq (by omega) (by unfold Ge; omega)
   replace hO := only_trans hO hq
   replace hsz := Nat.le_trans hsz hq.size
   replace hown := ho.lt
   clear hD hq hb
   refine wpList_plain rfl (fun K hK => ?_)
   go_simp
   refine hK _ _ ?_
   clear hK K
   refine wpList_plain rfl (fun K hK => ?_)
   go_simp
   refine (rolls_any B g 16 _ hDn (by omega) (by omega)).mono ?_
   rintro e wc ⟨⟨v, rfl, v0, v1⟩, hD, hq⟩
   refine hK _ _ ?_
   clear hK K
   replace hbx : Bxs wc (Aq (Ge w.heap.size) _) A1 b := hbx.grown hq (fun q e hh => by injection e with e; have := hh.1; unfold Ge at this; omega)
   replace ho := ho.only hq (by omega) (by unfold Ge; omega)
   replace hO := only_trans hO hq
   replace hsz := Nat.le_trans hsz hq.size
   replace hown := ho.lt
   clear hDn hq
   have HFP : Hid (FineP [⟨b, v⟩]) := Lib.hid fun p hp => by simp only [List.mem_singleton] at hp; subst hp; exact ⟨HFB.out, hb1, hb2, v0, by show v ≤ 15; omega⟩
   iterate 2
    refine wpList_plain rfl (fun K hK => ?_)
    go_simp
    refine hK _ _ ?_
    clear hK K
   have hL := pts_lit (p := ⟨b, v⟩) hbx hc1 ⟨by unfold Ge; omega, fun e => by have := (hown _ e).2; omega⟩
   have hq := (Below.refl wc.heap.size wc).alloc (Nat.le_refl _) (Obj.cells #[.slice A1 b.length c1, .int .i64 v] 47)
   replace ho := ho.grows hq
   replace hD := hD.grows hq
   replace hO := d_only_grows hO hq
   replace hsz := Nat.le_trans hsz hq.size
   replace hown := ho.lt
   clear hq hbx
   refine wpList_append_ports rfl (.tmp 12) (.tmp 18) rfl (m := [⟨b, v⟩]) rfl rfl ho rfl hL (by simp only [List.length_singleton]; omega) hsz ?_
   intro v5 w12 ho2 hgr _
   replace hD := hD.grown hgr (fun q e => by have := (hown q e).1; omega)
   replace hO := only_own hO hgr (fun q e => (hown q e).1)
   have HF2 := Lib.hid (finep_app HF.out HFP.out)
   have hl2 : (l ++ [Pt.mk b v]).length + (n - 1) = n0 := by rw [List.length_append, List.length_singleton]; omega
   clear hown hgr ho hL hsz HFB HF HFP v0 v1
   generalize l ++ [Pt.mk b v] = l2 at *
   go_wp2
   go_roundw
   case rel => exact ⟨n - 1, l2, by omega, by go_num, hl2, HF2, ho2, hD, hO⟩
   case measure => simp [intOf]; omega
  ·obtain rfl : n = 0 := by omega
   have d2 : decide ((0 : Int) < ((0 : Nat) : Int)) = false := by decide
   go_wp2
   go_ret
   exact ⟨⟨l, _, rfl, ho, by omega, by omega, HF.out⟩, hD, hO⟩
end Go.Proofs.YtjbkjgmcfommgaaGreat

namespace Go.Proofs.YtjbkjgmcfommgaaGreat
open Go.RowKit
def nA : List Pt := [⟨[ptB 44100 [3]], 0⟩, ⟨[ptB 48000 [3]], 0⟩]
def nB : List Pt := [⟨[ptB 44100 [3]], 2⟩, ⟨[ptB 48000 [3]], 0⟩]
def nX : List Ch := [⟨2, 44100, [3], 64⟩, ⟨2, 48000, [3], 64⟩]
theorem nsane1 : chooseF nA zeroC = ([], (1, 2), 13) := by decide +kernel
theorem nsane2 : chooseF nB zeroC = (nX, (0, 0), 0) := by decide +kernel
theorem nsane3 : fitsF nB nX = true := by decide +kernel
theorem nsane4 : validC nB = true := by decide +kernel
theorem okbN (r : Int) : OKB (ptB r [3]) := ⟨by show (1 : Nat) ≤ _; decide, by show (1 : Nat) ≤ _; decide, by show (1 : Nat) ≤ _; decide, fun m hm => by
 have : m = [3] := by simpa [ptB] using hm
 subst this
 decide⟩
theorem okN {v u : Int} : ∀ p ∈ ([⟨[ptB 44100 [3]], v⟩, ⟨[ptB 48000 [3]], u⟩] : List Pt), (∀ b ∈ p.b, OKB b ∧ I64 b.k) ∧ p.b.length ≤ 1000000 := by
 intro p hp
 simp only [List.mem_cons, List.not_mem_nil, or_false] at hp
 rcases hp with rfl | rfl <;> exact ⟨fun b hb => by
  simp only [List.mem_singleton] at hb
  subst hb
  exact ⟨okbN _, (by unfold I64; show (-9223372036854775808 : Int) ≤ 4 ∧ (4 : Int) ≤ 9223372036854775807; decide)⟩, (by show 1 ≤ 1000000; decide)⟩
/-- A chain of two ports in a block. -/
theorem pts_blk2 {w : World} {ok : Nat → Prop} {G : Nat} {p q : Pt} {B C : Option Addr} {c d : Nat} (hk : Blk w G 47 #[.slice B p.b.length c, .int .i64 p.v, .slice C q.b.length d, .int .i64 q.v]) (hb : Bxs w ok B p.b) (hc : p.b.length ≤ c) (hb2 : Bxs w ok C q.b) (hd : q.b.length ≤ d) (hw : ok G) : Pts w ok (some ⟨G, 0, none⟩) [p, q] := by
 refine ⟨[.slice B p.b.length c, .int .i64 p.v, .slice C q.b.length d, .int .i64 q.v], ⟨⟨rfl, fun _ => ⟨_, rfl, hk.lt, fun j u hu => ?_⟩⟩, fun _ ad e => by injection e with e; subst e; exact hw⟩, fun i x hx => ?_⟩
 ·rw [add_head, hk.cell, ← Array.getElem?_toList]
  exact hu
 ·have hi := (List.getElem?_eq_some_iff.1 hx).1
  simp only [List.length_cons, List.length_nil] at hi
  rcases (show i = 0 ∨ i = 1 by omega) with rfl | rfl
  ·simp only [List.getElem?_cons_zero, Option.some.injEq] at hx
   subst hx
   exact ⟨B, c, hb, hc, rfl, rfl⟩
  ·simp only [List.getElem?_cons_succ, List.getElem?_cons_zero, Option.some.injEq] at hx
   subst hx
   exact ⟨C, d, hb2, hd, rfl, rfl⟩
set_option maxHeartbeats 8000000 in
theorem lbox_any (r : Int) (w : World) : Calls Tryz.prog 23 #[.int .i64 r] w fun e w' => (∃ v, e = .returned v ∧ BoxV w' AnyB (ptB r [3]) v) ∧ Grows w w' := by
 have k0 := Blk.new w 61 #[.int .i64 0, .slice none 0 0, .slice none 0 0, .slice none 0 0]
 have hB := (Below.refl w.heap.size w).alloc (Nat.le_refl _) (Obj.cells #[.int .i64 0, .slice none 0 0, .slice none 0 0, .slice none 0 0] 61)
 go_enter Tryz.func23, Tryz.ntmps23
 go_upto_region 1 with fail
 generalize World.alloc w _ = w1 at *
 have hs1 := k0.lt
 refine wp_region_lit ?_
 iterate 4
  refine BigFrame.wpList_want (by first | rfl | kernel_rfl) (fun K hK => ?_)
  go_simp
  refine hK _ _ ?_
  clear hK K
 have hr := rd_lit w1 (ok := fun k => k ≠ w.heap.size) 86 #[.int .i64 r, .int .i64 r] 2 1 rfl (by omega)
 have hq := (Below.refl w1.heap.size w1).alloc (Nat.le_refl _) (Obj.cells #[.int .i64 r, .int .i64 r] 86)
 replace k0 := k0.grows hq
 replace hB := below_grows hB (Nat.le_refl _) hq
 clear hq
 generalize w1.heap.size = n1 at *
 generalize World.alloc w1 _ = w2 at *
 replace hs1 := k0.lt
 iterate 2
  refine BigFrame.wpList_want (by first | rfl | kernel_rfl) (fun K hK => ?_)
  go_simp
  refine hK _ _ ?_
  clear hK K
 have hm : InB _ (fun k => k ≠ w.heap.size) _ [3] := rd_lit w2 3 #[.int .i64 3] 1 1 rfl (by omega)
 have hq := (Below.refl w2.heap.size w2).alloc (Nat.le_refl _) (Obj.cells #[.int .i64 3] 3)
 replace k0 := k0.grows hq
 replace hr := hr.grows hq
 replace hB := below_grows hB (Nat.le_refl _) hq
 clear hq
 generalize w2.heap.size = n5 at *
 generalize World.alloc w2 _ = w5 at *
 replace hs1 := k0.lt
 iterate 1
  refine BigFrame.wpList_want (by first | rfl | kernel_rfl) (fun K hK => ?_)
  go_simp
  refine hK _ _ ?_
  clear hK K
 have hmm := maps_lit1 w5 (c := 1) hm (by decide) (by omega)
 have hq := (Below.refl w5.heap.size w5).alloc (Nat.le_refl _) (Obj.cells #[.slice (some ⟨n5, 0, none⟩) 1 1] 38)
 replace k0 := k0.grows hq
 replace hr := hr.grows hq
 replace hB := below_grows hB (Nat.le_refl _) hq
 clear hq hm
 have hmm : MapsR (w5.alloc (.cells #[.slice (some ⟨n5, 0, none⟩) 1 1] 38)) (fun k => k ≠ w.heap.size) (some ⟨w5.heap.size, 0, none⟩) [[3]] := hmm
 generalize w5.heap.size = n2 at *
 generalize World.alloc w5 _ = w3 at *
 replace hs1 := k0.lt
 iterate 2
  refine BigFrame.wpList_want (by first | rfl | kernel_rfl) (fun K hK => ?_)
  go_simp
  refine hK _ _ ?_
  clear hK K
 have hs := rd_lit w3 (ok := fun k => k ≠ w.heap.size) 86 #[.int .i64 64, .int .i64 64] 2 1 rfl (by omega)
 have hq := (Below.refl w3.heap.size w3).alloc (Nat.le_refl _) (Obj.cells #[.int .i64 64, .int .i64 64] 86)
 replace k0 := k0.grows hq
 replace hr := hr.grows hq
 replace hmm := hmm.grows hq
 replace hB := below_grows hB (Nat.le_refl _) hq
 clear hq
 generalize w3.heap.size = n3 at *
 generalize World.alloc w3 _ = w4 at *
 have y0 := ((((k0.set_ 0 (.int .i64 4)).set_ 1 (.slice (some ⟨n1, 0, none⟩) 1 1)).set_ 2 (.slice (some ⟨n2, 0, none⟩) 1 1)).set_ 3 (.slice (some ⟨n3, 0, none⟩) 1 1))
 have yB := ((((hB.setCell (p := ⟨w.heap.size, 0, none⟩) (Nat.le_refl _) (.int .i64 4)).setCell (p := ⟨w.heap.size, 1, none⟩) (Nat.le_refl _) (.slice (some ⟨n1, 0, none⟩) 1 1)).setCell (p := ⟨w.heap.size, 2, none⟩) (Nat.le_refl _) (.slice (some ⟨n2, 0, none⟩) 1 1)).setCell (p := ⟨w.heap.size, 3, none⟩) (Nat.le_refl _) (.slice (some ⟨n3, 0, none⟩) 1 1))
 have hgq := (d_only_set (d_only_set (d_only_set (d_only_set (World.grownBy.refl w4 (some w.heap.size)) 0 (.int .i64 4)) 1 (.slice (some ⟨n1, 0, none⟩) 1 1)) 2 (.slice (some ⟨n2, 0, none⟩) 1 1)) 3 (.slice (some ⟨n3, 0, none⟩) 1 1))
 have yr := RdB.grown hr hgq (fun q e hh => by injection e with e; exact hh e.symm)
 have ym := MapsR.grown hmm hgq (fun q e hh => by injection e with e; exact hh e.symm)
 have ys := RdB.grown hs hgq (fun q e hh => by injection e with e; exact hh e.symm)
 have y6 := y0.cell
 have x0 := k0.cell
 have hf0 := k0.frozen
 clear k0 hB hr hmm hs
 go_wp2
 refine bodyPost_ret (v := .agg #[.int .i64 4, .slice (some ⟨n1, 0, none⟩) 1 1, .slice (some ⟨n2, 0, none⟩) 1 1, .slice (some ⟨n3, 0, none⟩) 1 1]) (by simp [results, Tryz.results23, go_sem, y6]) rfl ⟨⟨_, rfl, ⟨some ⟨n1, 0, none⟩, 1, some ⟨n2, 0, none⟩, 1, some ⟨n3, 0, none⟩, 1, rfl, ⟨RdB.mono yr (fun _ _ => trivial), MapsR.mono ym (fun _ _ => trivial), RdB.mono ys (fun _ _ => trivial), Nat.le_refl _, Nat.le_refl _, Nat.le_refl _⟩⟩⟩, yB⟩
set_option maxHeartbeats 16000000 in
set_option maxRecDepth 10000 in
theorem nsane_any (w : World) : Calls Tryz.prog 6 #[] w fun e w' => e = .returned (.bool true) ∧ Grows w w' := by
 have hB := Below.refl w.heap.size w
 go_enter Tryz.func6, Tryz.ntmps6
 go_wp2_with fail
 refine (lbox_any 44100 _).mono ?_
 rintro e w3 ⟨⟨v, rfl, A1, c1, A2, c2, A3, c3, rfl, hp0⟩, hq⟩
 replace hB := below_grows hB (Nat.le_refl _) hq
 clear hq
 have ha : Bxs _ AnyB _ [ptB 44100 [3]] := bxs_lit hp0 trivial
 have hq := (Below.refl w3.heap.size w3).alloc (Nat.le_refl _) (Obj.cells #[.int .i64 (ptB 44100 [3]).k, .slice A1 (ptB 44100 [3]).r.length c1, .slice A2 (ptB 44100 [3]).m.length c2, .slice A3 (ptB 44100 [3]).s.length c3] 61)
 replace hB := below_grows hB (Nat.le_refl _) hq
 clear hq hp0
 go_wp2_with fail
 generalize w3.heap.size = n3 at *
 generalize World.alloc w3 _ = v3 at *
 refine (lbox_any 48000 _).mono ?_
 rintro e w4 ⟨⟨v, rfl, A4, c4, A5, c5, A6, c6, rfl, hp1⟩, hq⟩
 replace hB := below_grows hB (Nat.le_refl _) hq
 replace ha := ha.grows hq
 clear hq
 have hb : Bxs _ AnyB _ [ptB 48000 [3]] := bxs_lit hp1 trivial
 have hq := (Below.refl w4.heap.size w4).alloc (Nat.le_refl _) (Obj.cells #[.int .i64 (ptB 48000 [3]).k, .slice A4 (ptB 48000 [3]).r.length c4, .slice A5 (ptB 48000 [3]).m.length c5, .slice A6 (ptB 48000 [3]).s.length c6] 61)
 replace hB := below_grows hB (Nat.le_refl _) hq
 replace ha := ha.grows hq
 clear hq hp1
 go_upto_region 2 with fail
 have hG1 : (World.alloc w4 (Obj.cells #[.int .i64 (ptB 48000 [3]).k, .slice A4 (ptB 48000 [3]).r.length c4, .slice A5 (ptB 48000 [3]).m.length c5, .slice A6 (ptB 48000 [3]).s.length c6] 61)).heap.size = w4.heap.size + 1 := by simp
 generalize w4.heap.size = n4 at *
 generalize World.alloc w4 _ = v4 at *
 have k1 := Blk.new v4 47 #[.slice (some ⟨n3, 0, none⟩) 1 1, .int .i64 0, .slice (some ⟨n4, 0, none⟩) 1 1, .int .i64 0]
 have hq := (Below.refl v4.heap.size v4).alloc (Nat.le_refl _) (Obj.cells #[.slice (some ⟨n3, 0, none⟩) 1 1, .int .i64 0, .slice (some ⟨n4, 0, none⟩) 1 1, .int .i64 0] 47)
 replace ha := ha.under.grows hq
 replace hb := hb.under.grows hq
 have hGw := hB.size
 replace hB := below_grows hB (Nat.le_refl _) hq
 clear hq
 rw [hG1] at k1 ha hb hGw
 clear hG1
 generalize World.alloc v4 _ = v5 at *
 generalize n4 + 1 = G at *
 go_wp2_with fail
 have h2 : Pts v5 (fun k => k ≤ G) (some ⟨G, 0, none⟩) nA := pts_blk2 (p := ⟨[ptB 44100 [3]], 0⟩) (q := ⟨[ptB 48000 [3]], 0⟩) k1 (ha.mono (fun k hk => Nat.le_of_lt hk)) (by decide) (hb.mono (fun k hk => Nat.le_of_lt hk)) (by decide) (Nat.le_refl _)
 have hcon : Calls Tryz.prog 16 #[.slice (some ⟨G, 0, none⟩) 2 2, .agg #[.int .i64 0, .int .i64 0, .slice none 0 0, .int .i64 0]] v5 fun e w' => (∃ A' c', e = .returned (.tuple #[.slice A' 0 c', .agg #[.int .i64 1, .int .i64 2], .int .i64 13]) ∧ 0 ≤ c' ∧ Chs w' (Ge v5.heap.size) A' []) ∧ Grows v5 w' := by
  have := choose_any (w := v5) (c := 2) (ci := 0) (n := 2) (l := nA) (want := zeroC) (I := none) (ow := AnyB) rfl h2 (by decide) okN RdB.nil okc_zero
  rw [nsane1] at this
  exact this
 refine hcon.mono ?_
 rintro e w6 ⟨⟨A7, c7, rfl, -, -⟩, hq⟩
 replace hB := below_grows hB (Nat.le_refl _) hq
 replace ha := ha.grows hq
 replace hb := hb.grows hq
 replace k1 := k1.grows hq
 clear hq hcon h2
 have k3 := Blk.new w6 32 #[.int .i64 1, .int .i64 2]
 have hq := (Below.refl w6.heap.size w6).alloc (Nat.le_refl _) (Obj.cells #[.int .i64 1, .int .i64 2] 32)
 go_upto_region 3 with fail
 replace hB := below_grows hB (Nat.le_refl _) hq
 replace ha := ha.grows hq
 replace hb := hb.grows hq
 replace k1 := k1.grows hq
 have hne : w6.heap.size ≠ G := by have := k1.lt; intro e; subst e; exact absurd (Blk.ne_ k1 k3 (by decide)) (by simp)
 clear hq
 generalize w6.heap.size = n6 at *
 generalize World.alloc w6 _ = v6 at *
 have x1 := k1.cell
 have f1 := k1.frozen
 have hg6 := d_only_set (World.grownBy.refl v6 (some G)) 1 (.int .i64 2)
 have hB2 := hB.setCell (p := ⟨G, 1, none⟩) hGw (.int .i64 2)
 have ha2 := ha.grown hg6 (fun g e hh => by injection e with e; unfold Under at hh; omega)
 have hb2 := hb.grown hg6 (fun g e hh => by injection e with e; unfold Under at hh; omega)
 have k12 : Blk (v6.setCell ⟨G, 1, none⟩ (.int .i64 2)) G 47 #[.slice (some ⟨n3, 0, none⟩) 1 1, .int .i64 2, .slice (some ⟨n4, 0, none⟩) 1 1, .int .i64 0] := k1.set_ 1 (.int .i64 2)
 have k32 := k3.far (p := ⟨G, 1, none⟩) hne (.int .i64 2)
 go_upto_region 4 with fail
 clear x1 f1 hg6 hB ha hb k1 k3 hne
 generalize v6.setCell _ _ = v7 at *
 go_wp2_with fail
 have h2 : Pts v7 (fun k => k ≤ G) (some ⟨G, 0, none⟩) nB := pts_blk2 (p := ⟨[ptB 44100 [3]], 2⟩) (q := ⟨[ptB 48000 [3]], 0⟩) k12 (ha2.mono (fun k hk => Nat.le_of_lt hk)) (by decide) (hb2.mono (fun k hk => Nat.le_of_lt hk)) (by decide) (Nat.le_refl _)
 have hcon : Calls Tryz.prog 16 #[.slice (some ⟨G, 0, none⟩) 2 2, .agg #[.int .i64 0, .int .i64 0, .slice none 0 0, .int .i64 0]] v7 fun e w' => (∃ A' c', e = .returned (.tuple #[.slice A' 2 c', .agg #[.int .i64 0, .int .i64 0], .int .i64 0]) ∧ 2 ≤ c' ∧ Chs w' (Ge v7.heap.size) A' nX) ∧ Grows v7 w' := by
  have := choose_any (w := v7) (c := 2) (ci := 0) (n := 2) (l := nB) (want := zeroC) (I := none) (ow := AnyB) rfl h2 (by decide) okN RdB.nil okc_zero
  rw [nsane2] at this
  exact this
 refine hcon.mono ?_
 rintro e w8 ⟨⟨A8, c8, rfl, -, hx⟩, hq⟩
 have hB := below_grows hB2 (Nat.le_refl _) hq
 replace h2 := h2.grows hq
 replace k32 := k32.grows hq
 clear hq hcon hB2 ha2 hb2 k12
 have k6 := Blk.new w8 32 #[.int .i64 0, .int .i64 0]
 have hq := (Below.refl w8.heap.size w8).alloc (Nat.le_refl _) (Obj.cells #[.int .i64 0, .int .i64 0] 32)
 go_upto_region 5 with fail
 replace hB := below_grows hB (Nat.le_refl _) hq
 replace h2 := h2.grows hq
 replace hx := hx.grows hq
 replace k32 := k32.grows hq
 clear hq
 generalize w8.heap.size = n8 at *
 generalize World.alloc w8 _ = v8 at *
 obtain ⟨ad, x, BX, dX, e7, had, hx0, hdX, hix, hcx⟩ := hx.elem (Grows.rfl' v8) (k := 0) (by decide)
 subst e7
 obtain ⟨ad2, y, BY, dY, e7, -, hy0, hdY, hiy, hcy⟩ := hx.elem (Grows.rfl' v8) (k := 1) (by decide)
 injection e7 with e7
 subst e7
 obtain rfl : (⟨2, 44100, [3], 64⟩ : Ch) = x := Option.some.inj hx0
 obtain rfl : (⟨2, 48000, [3], 64⟩ : Ch) = y := Option.some.inj hy0
 obtain ⟨x0, x1, x2, x3⟩ := hcx
 obtain ⟨y0, y1, y2, y3⟩ := hcy
 have z3 := k32.cell
 have e0 : ad.add (0 * 4) = ad := by simp [Addr.add]
 rw [e0] at x0 x1
 have y1b : v8.cell? { block := ad.block, off := ad.off + 4 + 1 } = some (.int .i64 48000) := y1
 clear e0 y0 y2 y3 x2 x3
 go_wp2_with fail
 have hF : Calls Tryz.prog 19 #[.slice (some ⟨G, 0, none⟩) 2 2, .slice (some ad) 2 c8] v8 fun e w' => e = .returned (.bool true) ∧ Grows v8 w' := by
  have := fits_any (w := v8) (c := 2) (d := c8) (n := 2) (m := 2) (l := nB) (cs := nX) rfl rfl h2 hx (by decide) (by decide) (fun p hp => ⟨fun b hb => ((okN p hp).1 b hb).1, (okN p hp).2⟩) (fun x hx => by simp only [nX, List.mem_cons, List.not_mem_nil, or_false] at hx; rcases hx with rfl | rfl <;> decide)
  rw [nsane3] at this
  exact this
 refine hF.mono ?_
 rintro e w9 ⟨rfl, hq⟩
 replace hB := below_grows hB (Nat.le_refl _) hq
 replace h2 := h2.grows hq
 clear hq hF x0 x1 y1 y1b z3
 go_wp2_with fail
 have hV : Calls Tryz.prog 12 #[.slice (some ⟨G, 0, none⟩) 2 2] w9 fun e w' => e = .returned (.bool true) ∧ Grows w9 w' := by
  have := nvalid_any (w := w9) (c := 2) (n := 2) (l := nB) rfl h2 (by decide) (fun p hp => ⟨fun b hb => ((okN p hp).1 b hb).1, (okN p hp).2⟩)
  rw [nsane4] at this
  exact this
 refine hV.mono ?_
 rintro e w10 ⟨rfl, hq⟩
 replace hB := below_grows hB (Nat.le_refl _) hq
 go_wp2
 go_ret
 exact ⟨rfl, hB⟩
end Go.Proofs.YtjbkjgmcfommgaaGreat

namespace Go.Proofs.YtjbkjgmcfommgaaGreat
open Go.RowKit
theorem MadeP.oks {l : List Pt} (h : MadeP l) : ∀ p ∈ l, (∀ b ∈ p.b, OKB b ∧ I64 b.k) ∧ p.b.length ≤ 1000000 := fun p hp => ⟨fun b hb => ⟨((h.2.2 p hp).1 b hb).2.1, ((h.2.2 p hp).1 b hb).2.2.1⟩, by have := (h.2.2 p hp).2.2.1; omega⟩
theorem MadeP.fw {l : List Pt} (h : MadeP l) : forwardF l = fwUp l l.length := by
 unfold forwardF
 rw [if_pos h.valid]
theorem MadeP.take {l : List Pt} (h : MadeP l) {m : Nat} (h1 : 1 ≤ m) : MadeP (l.take m) := ⟨by rw [List.length_take]; have := h.1; omega, by rw [List.length_take]; have := h.2.1; omega, fun p hp => h.2.2 p (List.mem_of_mem_take hp)⟩
theorem forward_at {ok : Nat → Prop} {A : Option Addr} {c n : Nat} {l : List Pt} {w : World} {ls : List (List Bx)} {a b e0 : Int} (hf : forwardF l = (ls, (a, b), e0)) (hn : n = l.length) (h : Pts w ok A l) (hl : l.length ≤ 1000000) (ho : ∀ p ∈ l, (∀ b ∈ p.b, OKB b ∧ I64 b.k) ∧ p.b.length ≤ 1000000) :
 Calls Tryz.prog 10 #[.slice A n c] w fun e w' => (∃ A' c', e = .returned (.tuple #[.slice A' ls.length c', .agg #[.int .i64 a, .int .i64 b], .int .i64 e0]) ∧ ls.length ≤ c' ∧ Lbx w' (Ge w.heap.size) A' ls) ∧ Grows w w' := by
 have := forward_any (c := c) hn h hl ho
 rw [hf] at this
 refine this.mono ?_
 rintro e w1 ⟨⟨v, rfl, hw⟩, hq⟩
 obtain ⟨A', c', rfl, hc, hb⟩ := hw.lbx
 exact ⟨⟨A', c', rfl, hc, hb.mono (fun k hk => hk.elim id id)⟩, hq⟩
theorem choose_at {ok ow : Nat → Prop} {A I : Option Addr} {c n ci : Nat} {l : List Pt} {want : Ch} {w : World} {L : List Ch} {a b e0 : Int} (hf : chooseF l want = (L, (a, b), e0)) (hn : n = l.length) (h : Pts w ok A l) (hl : l.length ≤ 1000000) (ho : ∀ p ∈ l, (∀ b ∈ p.b, OKB b ∧ I64 b.k) ∧ p.b.length ≤ 1000000) (hi : InB w ow I want.m) (hok : OKC want) :
 Calls Tryz.prog 16 #[.slice A n c, .agg #[.int .i64 want.k, .int .i64 want.r, .slice I want.m.length ci, .int .i64 want.s]] w fun e w' => (∃ A' c', e = .returned (.tuple #[.slice A' L.length c', .agg #[.int .i64 a, .int .i64 b], .int .i64 e0]) ∧ L.length ≤ c' ∧ Chs w' (Ge w.heap.size) A' L) ∧ Grows w w' := by
 have := choose_any (c := c) (ci := ci) hn h hl ho hi hok
 rw [hf] at this
 exact this
/-- Whether a made chain is met. -/
theorem MadeP.met {l : List Pt} (h : MadeP l) : ((forwardF l).2.2 = 0 ↔ ∃ c, Rch l (l.length - 1) c) ∧ ((forwardF l).2.2 = 0 ∨ (forwardF l).2.2 = 13) ∧ (forwardF l).2.2 ≠ 3 := by
 obtain ⟨n, hn⟩ : ∃ n, l.length = n + 1 := ⟨l.length - 1, by have := h.1; omega⟩
 have hs := h.small (n := n + 1) (by omega)
 have := fw_ok h.ok h.k (n := n) (by omega) hs
 rw [h.fw, hn]
 exact ⟨this.1, this.2, hs⟩
end Go.Proofs.YtjbkjgmcfommgaaGreat

namespace Go.Proofs.YtjbkjgmcfommgaaGreat
open Go.RowKit
end Go.Proofs.YtjbkjgmcfommgaaGreat


namespace Go.Proofs.YtjbkjgmcfommgaaGreat
open Go.RowKit
end Go.Proofs.YtjbkjgmcfommgaaGreat

namespace Go.Proofs.YtjbkjgmcfommgaaGreat
open Go.RowKit
end Go.Proofs.YtjbkjgmcfommgaaGreat

namespace Go.Proofs.YtjbkjgmcfommgaaGreat
open Go.RowKit
end Go.Proofs.YtjbkjgmcfommgaaGreat

namespace Go.Proofs.YtjbkjgmcfommgaaGreat
open Go.RowKit
end Go.Proofs.YtjbkjgmcfommgaaGreat

namespace Go.Proofs.YtjbkjgmcfommgaaGreat
open Go.RowKit
end Go.Proofs.YtjbkjgmcfommgaaGreat

namespace Go.Proofs.YtjbkjgmcfommgaaGreat
open Go.RowKit
set_option maxHeartbeats 4000000 in
theorem rhass_any (A : Option Addr) (c : Nat) (l : List Sp) (n : Int) (w : World) (h : Sps w A l) (hl : l.length ≤ 9223372036854775807) :
 Calls Tryz.prog 80 #[.agg #[.slice A l.length c], .int .i64 n] w fun e w' => e = .returned (.bool (hasF l n)) ∧ Grows w w' := by
 have k2 := Blk.new w 58 #[.slice A l.length c]
 have hB := (Below.refl w.heap.size w).alloc (Nat.le_refl _) (Obj.cells #[.slice A l.length c] 58)
 go_enter Tryz.func80, Tryz.ntmps80
 go_upto_region 1 with fail
 have h1 := h.grows hB
 generalize World.alloc w _ = w1 at *
 have x2 := k2.cell 0
 go_wp2_with fail
 refine (rspans_any A c l _ h1 hl).mono ?_
 rintro e w2 ⟨⟨A2, c2, rfl, h2, -⟩, hq⟩
 replace hB := below_grows hB (Nat.le_refl _) hq
 have hl2 := spansF_len l
 have HF : Hid (hasF l n = (spansF l).any fun x => hasP n x) := Lib.hid rfl
 generalize spansF l = o at *
 clear x2 hq
 go_wp2_with fail
 go_loopw [10] (fun i wr => ∃ k : Nat, k ≤ o.length ∧ i = .int .i64 k ∧ Grows w2 wr ∧ ∀ x ∈ o.take k, hasP n x = false) (fun i _ => o.length - (intOf i).toNat)
 case atStart => exact ⟨0, by omega, rfl, Below.refl _ _, by simp⟩
 case round =>
  obtain ⟨k, hk, rfl, hg, hall⟩ := hrel
  by_cases hlt : k < o.length
  ·obtain ⟨ad, x, rfl, had, hx, c0, c1⟩ := (h2.grows hg).elem hlt
   have HX : Hid (o.take (k + 1) = o.take k ++ [x]) := take_snoc hx
   have HM : Hid (x ∈ o) := List.mem_of_getElem? hx
   clear hx
   have hq := (Below.refl wr.heap.size wr).alloc (Nat.le_refl _) (Obj.cells #[.int .i64 x.1, .int .i64 x.2] 86)
   replace hg := below_grows hg (Nat.le_refl _) hq
   clear hq
   by_cases h1 : x.1 ≤ n
   ·by_cases h2 : n ≤ x.2
    ·have HE : Hid (o.any (fun x => hasP n x) = true) := Lib.hid (List.any_eq_true.2 ⟨x, HM.out, by simp [hasP, h1, h2]⟩)
     go_wp2
     go_ret
     exact ⟨ret_bool (HF.out.trans HE.out).symm, below_grows hB (Nat.le_refl _) hg⟩
    ·have HE : Hid (hasP n x = false) := Lib.hid (by simp [hasP, h2])
     go_wp2
     go_roundw
     case rel => exact ⟨k + 1, by omega, by go_num, hg, by rw [HX.out]; intro y hy; rcases List.mem_append.1 hy with hy | hy; exact hall y hy; rw [List.mem_singleton.1 hy]; exact HE.out⟩
     case measure => simp [intOf]; omega
   ·have HE : Hid (hasP n x = false) := Lib.hid (by simp [hasP, h1])
    go_wp2
    go_roundw
    case rel => exact ⟨k + 1, by omega, by go_num, hg, by rw [HX.out]; intro y hy; rcases List.mem_append.1 hy with hy | hy; exact hall y hy; rw [List.mem_singleton.1 hy]; exact HE.out⟩
    case measure => simp [intOf]; omega
  ·have e : o.take k = o := List.take_of_length_le (by omega)
   rw [e] at hall
   have HE : Hid (o.any (fun x => hasP n x) = false) := Lib.hid (by rw [List.any_eq_false]; intro x hx; rw [hall x hx]; simp)
   clear e hall
   go_wp2
   go_ret
   exact ⟨ret_bool (HF.out.trans HE.out).symm, below_grows hB (Nat.le_refl _) hg⟩
set_option maxHeartbeats 16000000 in
theorem rin_any {base : Nat → Prop} {I A1 A2 A3 : Option Addr} {ci c1 c2 c3 : Nat} {b : Bx} {x : Ch} {w : World} (hp : BoxP w base b A1 c1 A2 c2 A3 c3) (hl : OKB b) (ix : Ints w I x.m) (hxm : x.m.length ≤ 1000000) :
 Calls Tryz.prog 46 #[.agg #[.int .i64 b.k, .slice A1 b.r.length c1, .slice A2 b.m.length c2, .slice A3 b.s.length c3], .agg #[.int .i64 x.k, .int .i64 x.r, .slice I x.m.length ci, .int .i64 x.s]] w fun e w' => e = .returned (.bool (inB b x)) ∧ Grows w w' := by
 obtain ⟨hlr, hls, hlm, hlx⟩ := hl
 have HLM := Lib.hid hlx
 clear hlx
 have k2 := ((Blk.new w 61 #[.int .i64 b.k, .slice A1 b.r.length c1, .slice A2 b.m.length c2, .slice A3 b.s.length c3]).alloc (Obj.cells #[.int .i64 x.k, .int .i64 x.r, .slice I x.m.length ci, .int .i64 x.s] 42))
 have kc := (Blk.new (w.alloc (Obj.cells #[.int .i64 b.k, .slice A1 b.r.length c1, .slice A2 b.m.length c2, .slice A3 b.s.length c3] 61)) 42 #[.int .i64 x.k, .int .i64 x.r, .slice I x.m.length ci, .int .i64 x.s])
 have hB := (((Below.refl w.heap.size w).alloc (Nat.le_refl _) (Obj.cells #[.int .i64 b.k, .slice A1 b.r.length c1, .slice A2 b.m.length c2, .slice A3 b.s.length c3] 61)).alloc (by simp) (Obj.cells #[.int .i64 x.k, .int .i64 x.r, .slice I x.m.length ci, .int .i64 x.s] 42))
 go_enter Tryz.func46, Tryz.ntmps46
 go_upto_region 1 with fail
 have hs1 : (w.alloc (Obj.cells #[.int .i64 b.k, .slice A1 b.r.length c1, .slice A2 b.m.length c2, .slice A3 b.s.length c3] 61)).heap.size = w.heap.size + 1 := by simp
 rw [hs1] at kc
 clear hs1
 generalize World.alloc (World.alloc w _) _ = w1 at *
 generalize hG1 : w.heap.size + 1 = G1 at *
 clear hG1
 have x1 := kc.cell
 have x2 := k2.cell
 go_wp2_with fail
 refine (rkind_any b.k x.k _).mono ?_
 cases hv : kindB b.k x.k
 ·have HE : Hid (inB b x = false) := Lib.hid (inB_k hv)
  clear hv
  rintro e w2 ⟨rfl, hq⟩
  replace hB := below_grows hB (Nat.le_refl _) hq
  clear hq x1 x2
  go_wp2
  go_ret
  exact ⟨ret_bool HE.out.symm, hB⟩
 have H0 := Lib.hid hv
 clear hv
 rintro e w2 ⟨rfl, hq⟩
 replace hB := below_grows hB (Nat.le_refl _) hq
 replace kc := kc.grows hq
 replace k2 := k2.grows hq
 clear hq x1 x2
 have x1 := kc.cell
 have x2 := k2.cell
 go_wp2_with fail
 refine (rhass_any A1 c1 b.r x.r _ (hp.r.grows hB).sps (by omega)).mono ?_
 cases hv : hasF b.r x.r
 ·have HE : Hid (inB b x = false) := Lib.hid (inB_r hv)
  clear hv
  rintro e w2 ⟨rfl, hq⟩
  replace hB := below_grows hB (Nat.le_refl _) hq
  clear hq x1 x2
  go_wp2
  go_ret
  exact ⟨ret_bool HE.out.symm, hB⟩
 have H1 := Lib.hid hv
 clear hv
 rintro e w2 ⟨rfl, hq⟩
 replace hB := below_grows hB (Nat.le_refl _) hq
 replace kc := kc.grows hq
 replace k2 := k2.grows hq
 clear hq x1 x2
 have x1 := kc.cell
 have x2 := k2.cell
 go_wp2_with fail
 refine (rhas_any A2 I c2 ci b.m x.m _ rfl (hp.m.grows hB) hlm HLM.out (ix.grows hB) hxm).mono ?_
 by_cases hv : x.m ∈ b.m
 case neg =>
  have HE : Hid (inB b x = false) := Lib.hid (inB_m hv)
  rw [decide_eq_false hv]
  clear hv
  rintro e w2 ⟨rfl, hq⟩
  replace hB := below_grows hB (Nat.le_refl _) hq
  clear hq x1 x2
  go_wp2
  go_ret
  exact ⟨ret_bool HE.out.symm, hB⟩
 have H2 := Lib.hid hv
 rw [decide_eq_true hv]
 clear hv
 rintro e w2 ⟨rfl, hq⟩
 replace hB := below_grows hB (Nat.le_refl _) hq
 replace kc := kc.grows hq
 replace k2 := k2.grows hq
 clear hq x1 x2
 have x1 := kc.cell
 have x2 := k2.cell
 go_wp2_with fail
 refine (rhass_any A3 c3 b.s x.s _ (hp.s.grows hB).sps (by omega)).mono ?_
 cases hv : hasF b.s x.s
 ·have HE : Hid (inB b x = false) := Lib.hid (inB_s hv)
  clear hv
  rintro e w2 ⟨rfl, hq⟩
  replace hB := below_grows hB (Nat.le_refl _) hq
  clear hq x1 x2
  go_wp2
  go_ret
  exact ⟨ret_bool HE.out.symm, hB⟩
 have HE : Hid (inB b x = true) := Lib.hid (inB_yes H0.out H1.out H2.out hv)
 clear hv
 rintro e w2 ⟨rfl, hq⟩
 replace hB := below_grows hB (Nat.le_refl _) hq
 clear hq x1 x2
 go_wp2
 go_ret
 exact ⟨ret_bool HE.out.symm, hB⟩
set_option maxHeartbeats 16000000 in
theorem rhasl_any {base : Nat → Prop} {A I : Option Addr} {c ci : Nat} {l : List Bx} {x : Ch} {w : World} (h : Bxs w base A l) (hl : l.length ≤ 1000000) (hc : l.length ≤ c) (ho : ∀ b ∈ l, OKB b) (ix : Ints w I x.m) (hxm : x.m.length ≤ 1000000) :
 Calls Tryz.prog 21 #[.slice A l.length c, .agg #[.int .i64 x.k, .int .i64 x.r, .slice I x.m.length ci, .int .i64 x.s]] w fun e w' => e = .returned (.bool (hasL l x)) ∧ Grows w w' := by
 have HO := Lib.hid ho
 have HL : Hid (hasL l x = (boxesF l).any fun b => inB b x) := Lib.hid rfl
 clear ho
 have kc := Blk.new w 42 #[.int .i64 x.k, .int .i64 x.r, .slice I x.m.length ci, .int .i64 x.s]
 have hB := (Below.refl w.heap.size w).alloc (Nat.le_refl _) (Obj.cells #[.int .i64 x.k, .int .i64 x.r, .slice I x.m.length ci, .int .i64 x.s] 42)
 go_enter Tryz.func21, Tryz.ntmps21
 go_upto_region 1 with fail
 generalize World.alloc w _ = w1 at *
 go_wp2_with fail
 refine (rlist_any A c base l _ (h.grows hB) hl HO.out hc).mono ?_
 have HOB := Lib.hid (boxes_ok HO.out)
 have hbl := boxes_len l
 generalize boxesF l = bl at *
 rintro e w4 ⟨⟨A4, c4, rfl, hc4, hbx⟩, hq⟩
 replace hB := below_grows hB (Nat.le_refl _) hq
 replace hbx := hbx.grows hq
 replace kc := kc.grows hq
 clear hq
 have hB0 := hB
 clear hB
 go_wp2_with fail
 go_loopw [10] (fun i wr => ∃ k : Nat, k ≤ bl.length ∧ i = .int .i64 k ∧ Hid (∀ y ∈ bl.take k, inB y x = false) ∧ Blk wr w.heap.size 42 #[.int .i64 x.k, .int .i64 x.r, .slice I x.m.length ci, .int .i64 x.s] ∧ Grows w4 wr) (fun i _ => bl.length - (intOf i).toNat)
 case atStart => exact ⟨0, by omega, rfl, Lib.hid (by simp), kc, Below.refl _ _⟩
 case round =>
  clear kc
  obtain ⟨k, hk, rfl, HA, kc, hB⟩ := hrel
  by_cases hlt : k < bl.length
  ·obtain ⟨ad, y, A1, c1, A2, c2, A3, c3, ea, had, hy, hp, q0, q1, q2, q3⟩ := hbx.elemB hB hlt
   subst ea
   have HY := Lib.hid hy
   have hoy := HOB.out y (List.mem_of_getElem? hy)
   clear hy
   have k8 := Blk.new wr 61 #[.int .i64 y.k, .slice A1 y.r.length c1, .slice A2 y.m.length c2, .slice A3 y.s.length c3]
   have hq := (Below.refl wr.heap.size wr).alloc (Nat.le_refl _) (Obj.cells #[.int .i64 y.k, .slice A1 y.r.length c1, .slice A2 y.m.length c2, .slice A3 y.s.length c3] 61)
   go_upto_region 4 with fail
   replace hB := below_grows hB (Nat.le_refl _) hq
   replace kc := kc.grows hq
   clear hq q0 q1 q2 q3
   generalize World.alloc wr _ = w5 at *
   generalize wr.heap.size = G8 at *
   have x8 := k8.cell
   have xc := kc.cell
   go_wp2_with fail
   refine (rin_any (hp.grows hB) hoy (ix.grows (below_grows hB0 (Nat.le_refl _) hB)) hxm).mono ?_
   rintro e w6 ⟨rfl, hq⟩
   clear x8 xc
   replace hB := below_grows hB (Nat.le_refl _) hq
   replace kc := kc.grows hq
   clear hq k8
   cases hv : inB y x
   ·have HN : Hid (∀ z ∈ bl.take (k + 1), inB z x = false) := Lib.hid (by
     rw [take_snoc HY.out]
     intro z hz
     rcases List.mem_append.1 hz with hz | hz
     ·exact HA.out z hz
     ·simp only [List.mem_singleton] at hz
      exact hz ▸ hv)
    clear hv
    go_wp2
    go_roundw
    case rel => exact ⟨k + 1, by omega, by go_num, HN, kc, hB⟩
    case measure => simp [intOf]; omega
   ·have HE : Hid (bl.any (fun b => inB b x) = true) := Lib.hid (List.any_eq_true.2 ⟨y, List.mem_of_getElem? HY.out, hv⟩)
    clear hv
    go_wp2
    go_ret
    exact ⟨ret_bool (HL.out.trans HE.out).symm, below_grows hB0 (Nat.le_refl _) hB⟩
  ·have HE : Hid (bl.any (fun b => inB b x) = false) := Lib.hid (by
    rw [List.any_eq_false]
    intro y hy
    rw [HA.out y (by rwa [List.take_of_length_le (by omega)])]
    simp)
   go_wp2
   go_ret
   exact ⟨ret_bool (HL.out.trans HE.out).symm, below_grows hB0 (Nat.le_refl _) hB⟩
def KeptB (b : Bx) : Prop := b.r.length ≤ 70 ∧ b.s.length ≤ 70 ∧ b.m.length ≤ 20 ∧ ∀ x ∈ b.m, x.length ≤ 12
theorem KeptB.okb {b : Bx} (h : KeptB b) : OKB b := by
 obtain ⟨h1, h2, h3, h4⟩ := h
 exact ⟨by omega, by omega, by omega, fun x hx => by have := h4 x hx; omega⟩
end Go.Proofs.YtjbkjgmcfommgaaGreat

namespace Go.Proofs.YtjbkjgmcfommgaaGreat
open Go.ChangeShapes Go.WideShapes Go.RowKit Go.Deep
section
variable {H : Type} {enc : TypeId × Value → H} {P : Program} {w : World} {base : Nat} {spare : Nat → Bool} {held : Bool} {fs : Array Field} {cs : List Value} {xs : List (DataW H × List MemPlace)} {n : Nat}
end
end Go.Proofs.YtjbkjgmcfommgaaGreat

namespace Go.Proofs.YtjbkjgmcfommgaaGreat
open Go.ChangeShapes Go.WideShapes Go.RowKit Go.Deep
set_option maxRecDepth 100000
section
variable {H : Type} {enc : TypeId × Value → H} {w : World} {base : Nat} {spare : Nat → Bool} {held : Bool}
end
end Go.Proofs.YtjbkjgmcfommgaaGreat

namespace Go.Proofs.YtjbkjgmcfommgaaGreat
open Go.RowKit
end Go.Proofs.YtjbkjgmcfommgaaGreat

namespace Go.Proofs.YtjbkjgmcfommgaaGreat
open Go.ChangeShapes Go.WideShapes Go.RowKit Go.Deep
set_option maxRecDepth 100000
section
variable {H : Type} {enc : TypeId × Value → H} {w : World} {base : Nat} {spare : Nat → Bool} {held : Bool}
end
/-- What Forward hands back is valid. -/
theorem forward_lists {l : List Pt} (hk : ∀ p ∈ l, ∀ b ∈ p.b, I64 b.k) : (forwardF l).1.length ≤ 16 ∧ ∀ x ∈ (forwardF l).1, FL x := by
 cases hv : validC l with
 | false =>
  rw [fw_bad hv]
  exact ⟨Nat.zero_le _, fun x hx => by cases hx⟩
 | true =>
  have e : forwardF l = fwUp l l.length := if_pos hv
  rw [e]
  rcases fw_is (valid_ports hv).1 hk l.length (Nat.le_refl _) with ⟨-, h2, h3⟩ | h1 | ⟨k, d, -, h2, -, -⟩
  ·refine ⟨by rw [h2]; exact (valid_ports hv).2.2, fun x hx => ?_⟩
   obtain ⟨i, hi⟩ := List.mem_iff_getElem?.1 hx
   have hil := (List.getElem?_eq_some_iff.1 hi).1
   have := (h3 i (by omega)).1
   rwa [List.getD_eq_getElem?_getD, hi] at this
  ·rw [h1]
   exact ⟨Nat.zero_le _, fun x hx => by cases hx⟩
  ·rw [h2]
   exact ⟨Nat.zero_le _, fun x hx => by cases hx⟩
end Go.Proofs.YtjbkjgmcfommgaaGreat

namespace Go.Proofs.YtjbkjgmcfommgaaGreat
open Go.RowKit
/-- A row of choices of one's own, apart from what its members take. -/
def OwnCq (w : World) (base : Nat) (ok : Nat → Prop) (v : Value) (l : List Ch) : Prop :=
 ∃ vs, w.ownsRow base 42 4 v l.length vs ∧ ∀ (i : Nat) (x : Ch), l[i]? = some x → ∃ B c, InB w (Aq ok v) B x.m ∧ x.m.length ≤ c ∧ ∀ j < 4, vs[i * 4 + j]? = (chC x B c)[j]?
section
variable {w w' : World} {base g : Nat} {ok : Nat → Prop} {v : Value} {l : List Ch}
theorem OwnCq.nil : OwnCq w base ok (.slice none 0 0) [] := ⟨[], World.ownsRow_nil w base _ 4, fun i x h => by simp at h⟩
theorem OwnCq.grows (h : OwnCq w base ok v l) (hg : Grows w w') : OwnCq w' base ok v l := by
 obtain ⟨vs, h1, h2⟩ := h
 exact ⟨vs, own_grows h1 hg, fun i x hx => by obtain ⟨B, c, hb, r⟩ := h2 i x hx; exact ⟨B, c, hb.grows hg, r⟩⟩
theorem OwnCq.only (h : OwnCq w base ok v l) (hg : w.grownBy w' (some g)) (hb : g < base) (hl : ¬ ok g) : OwnCq w' base ok v l := by
 obtain ⟨vs, h1, h2⟩ := h
 refine ⟨vs, World.ownsRow.kept h1 hg ?_, fun i x hx => by obtain ⟨B, c, hi, r⟩ := h2 i x hx; exact ⟨B, c, RdB.grown hi hg (fun q e hq => by injection e with e; exact hl (e ▸ hq.1)), r⟩⟩
 cases e : v.ownBlock with
 | none => exact .inl rfl
 | some q =>
  refine .inr fun e2 => ?_
  have := (World.ownsRow.lt h1 q e).1
  injection e2 with e2
  omega
theorem OwnCq.lt (h : OwnCq w base ok v l) : ∀ q, v.ownBlock = some q → base ≤ q ∧ q < w.heap.size := by
 obtain ⟨vs, h1, -⟩ := h
 exact World.ownsRow.lt h1
theorem OwnCq.read (h : OwnCq w base ok v l) : ∃ A c, v = .slice A l.length c ∧ l.length ≤ c ∧ Chs w (fun _ => True) A l := by
 obtain ⟨vs, h1, h2⟩ := h
 have h3 : ∀ (i : Nat) (x : Ch), l[i]? = some x → ∃ B c, InB w (fun _ => True) B x.m ∧ x.m.length ≤ c ∧ ∀ j < 4, vs[i * 4 + j]? = (chC x B c)[j]? := fun i p hx => by
  obtain ⟨B, c, hb, r⟩ := h2 i p hx
  exact ⟨B, c, RdB.mono hb (fun _ _ => trivial), r⟩
 rcases h1.2 with ⟨rfl, hn⟩ | ⟨q, cap, cur, rfl, hbq, hg, hnc, hm, hs, ht⟩
 ·have e := List.eq_nil_of_length_eq_zero hn
  subst e
  exact ⟨none, 0, rfl, Nat.le_refl _, Chs.nil⟩
 ·exact ⟨_, cap, rfl, hnc, vs, ⟨Reads.of_own h1, fun _ _ _ => trivial⟩, h3⟩
end
theorem InB.aq {w w' : World} {ok : Nat → Prop} {v v' : Value} {B : Option Addr} {x : List Int} (h : InB w (Aq ok v) B x) (hg : w.grownBy w' v.ownBlock) (hv : v'.ownBlock = v.ownBlock ∨ v'.ownBlock = some w.heap.size) : InB w' (Aq ok v') B x :=
 RdB.mono (RdB.grown (RdB.bd h) hg (fun g e hh => hh.1.2 e)) (fun k hk => ⟨hk.1.1, fun e => by
  rcases hv with e2 | e2
  ·exact hk.1.2 (e2 ▸ e)
  ·rw [e2] at e
   injection e with e
   have := hk.2
   omega⟩)
theorem chC_one (x : Ch) (B : Option Addr) (c : Nat) : ∀ u ∈ chC x B c, u.oneCell' = true := by
 intro u hu
 simp only [chC, List.mem_cons, List.not_mem_nil, or_false] at hu
 rcases hu with rfl | rfl | rfl | rfl <;> rfl
/-- append of one choice that a literal laid. -/
theorem wpList_append_choice {ops : Array Oper} {rest : List Oper} {o : Oper} {a : Act} {w : World} {Q : Exit → Act → World → Prop} (hgd : o.guard = none) (s x : Operand) (ho : o.op = .call { callee := .builtin .append, args := #[s, x], argTypes := #[43, 43] })
 {base : Nat} {ok : Nat → Prop} {v : Value} {l : List Ch} {y : Ch} {A B : Option Addr} {c cy : Nat} (hs : a.eval s = v) (hown : OwnCq w base ok v l) (hx : a.eval x = .slice A 1 c) (hr : Reads w w.heap.size 4 A 1 (chC y B cy)) (hy : InB w (Aq ok v) B y.m) (hcy : y.m.length ≤ cy) (hlen : l.length + 1 ≤ 1000000) (hbase : base ≤ w.heap.size)
 (h : ∀ v' w', OwnCq w' base ok v' (l ++ [y]) → w.grownBy w' v.ownBlock → wpList Tryz.prog ops Q rest (a.put o.dst v') w') : wpList Tryz.prog ops Q (o :: rest) a w := by
 obtain ⟨i0, hi0, hi1, hi2, hi3, hi4⟩ := ch_info
 obtain ⟨vs, h1, h2⟩ := hown
 have hvl := h1.1
 refine wpList_append_any w hgd s x 43 ho base 42 i0 _ 4 48 Tryz.underlying43 hi0 hi3 hi1 hi2 hi4 (by omega) v l.length vs hs h1 w.heap.size A 1 c (chC y B cy) hx hr (chC_one y B cy) (by simp only [maxLen]; omega) (by omega) hbase fun v' w' h3 h4 h5 => h v' w' ⟨vs ++ chC y B cy, by rw [List.length_append]; exact h3, fun i p hp => ?_⟩ h4
 by_cases hi : i < l.length
 ·rw [List.getElem?_append_left hi] at hp
  obtain ⟨B2, c2, hb, hc, r⟩ := h2 i p hp
  exact ⟨B2, c2, hb.aq h4 h5, hc, fun j hj => by rw [List.getElem?_append_left (by omega)]; exact r j hj⟩
 ·rw [List.getElem?_append_right (by omega)] at hp
  have hi0 : i = l.length := by
   have := (List.getElem?_eq_some_iff.1 hp).1
   simp only [List.length_singleton] at this
   omega
  subst hi0
  rw [Nat.sub_self] at hp
  simp only [List.getElem?_cons_zero, Option.some.injEq] at hp
  subst hp
  exact ⟨B, cy, hy.aq h4 h5, hcy, fun j hj => by rw [List.getElem?_append_right (by omega), show l.length * 4 + j - vs.length = j by omega]⟩
theorem ch_lit {w : World} {y : Ch} {B : Option Addr} {cy : Nat} : Reads (w.alloc (.cells #[.int .i64 y.k, .int .i64 y.r, .slice B y.m.length cy, .int .i64 y.s] 42)) (w.alloc (.cells #[.int .i64 y.k, .int .i64 y.r, .slice B y.m.length cy, .int .i64 y.s] 42)).heap.size 4 (some ⟨w.heap.size, 0, none⟩) 1 (chC y B cy) := by
 have hk := Blk.new w 42 #[.int .i64 y.k, .int .i64 y.r, .slice B y.m.length cy, .int .i64 y.s]
 refine ⟨rfl, fun _ => ⟨_, rfl, hk.lt, fun j u hu => ?_⟩⟩
 rw [add_head, hk.cell, ← Array.getElem?_toList]
 exact hu
/-- The choices that are found, and what holds of them. -/
theorem choose_found {l : List Pt} (hk : ∀ p ∈ l, ∀ b ∈ p.b, I64 b.k) {want : Ch} {ls : List (List Bx)} {a b : Int} (h : forwardF l = (ls, (a, b), 0)) : ∃ C, chooseF l want = (C, (0, 0), 0) ∧ C.length = l.length ∧ ls.length = l.length ∧ 1 ≤ l.length ∧ fitsF l C = true ∧ (∀ x ∈ C, OKC x) ∧ ∀ x, ls[l.length - 1]? = some x → hasL x want = true → C[l.length - 1]? = some want := by
 obtain ⟨hv, hup, hll, hfl⟩ := forward_fl hk h
 have h1 := (valid_ports hv).2.1
 refine ⟨_, choose_yes h, by rw [List.length_map, List.length_range], hll, h1, ?_, fun x hx => ?_, fun x hx hw => ?_⟩
 ·have hs : ∀ i, i ≤ l.length - 1 → FL (ls.getD i []) ∧ ls.getD i [] ≠ [] ∧ ∀ c, hasL (ls.getD i []) c = true ↔ Rch l i c := fun i hi => by
   have := fw_ex (valid_ports hv).1 hk (Nat.le_refl l.length) (k := i) (by rw [hup]) (by omega)
   rw [hup] at this
   exact ⟨this.1, this.2.1, this.2.2.1⟩
  have hat : ∀ i, i < l.length → ((List.range l.length).map fun i => chUp l ls want (l.length - 1) (l.length - 1 - i)).getD i zeroC = chUp l ls want (l.length - 1) (l.length - 1 - i) := fun i hi => by
   rw [List.getD_eq_getElem?_getD, List.getElem?_map, List.getElem?_range hi]
   rfl
  have hc := fun i (hi : i < l.length) => ch_is (want := want) hs (l.length - 1 - i) (by omega)
  unfold fitsF
  rw [hv, List.length_map, List.length_range, decide_eq_true rfl, Bool.true_and, Bool.true_and, List.all_eq_true]
  intro i hi
  have hi := List.mem_range.1 hi
  obtain ⟨c1, c2⟩ := hc i hi
  rw [show l.length - 1 - (l.length - 1 - i) = i by omega] at c1
  have c1 := rch_has (((hs i (by omega)).2.2 _).1 c1)
  rw [hat i hi, c1, Bool.true_and]
  by_cases h0 : i = 0
  ·rw [decide_eq_true h0, Bool.true_or]
  ·obtain ⟨j, rfl⟩ : ∃ j, i = j + 1 := ⟨i - 1, by omega⟩
   have d2 := (hc j (by omega)).2 (l.length - 1 - (j + 1)) (by omega)
   rw [show l.length - 1 - (l.length - 1 - j) = j by omega] at d2
   rw [Nat.add_sub_cancel, hat j (by omega), d2, Bool.or_true]
 ·obtain ⟨i, hi, rfl⟩ := List.mem_map.1 hx
  have hi := List.mem_range.1 hi
  exact ch_okc (fun j hj => hfl j (by omega)) _ (by omega)
 ·rw [List.getElem?_map, List.getElem?_range (by omega)]
  show some (chUp l ls want (l.length - 1) (l.length - 1 - (l.length - 1))) = some want
  rw [Nat.sub_self]
  have e : ls.getD (l.length - 1) [] = x := by rw [List.getD_eq_getElem?_getD, hx]; rfl
  have := fw_ex (valid_ports hv).1 hk (Nat.le_refl l.length) (k := l.length - 1) (by rw [hup]) (by omega)
  rw [hup] at this
  show some (bestL (topP want) want (ls.getD (l.length - 1) [])).1 = some want
  obtain ⟨t1, t2, -⟩ := this
  have t1 : FL (ls.getD (l.length - 1) []) := t1
  have t2 : ls.getD (l.length - 1) [] ≠ [] := t2
  rw [e] at t1 t2 ⊢
  rw [best_wanted t1 t2 hw]
/-- If some choices fit, a made chain is met. -/
theorem fits_met {l : List Pt} (h : MadeP l) {cs : List Ch} (hf : fitsF l cs = true) : (forwardF l).2.2 = 0 := by
 unfold fitsF at hf
 simp only [Bool.and_eq_true, decide_eq_true_eq, List.all_eq_true, Bool.or_eq_true] at hf
 obtain ⟨⟨h1, h2⟩, h3⟩ := hf
 refine h.met.1.2 ⟨cs.getD (l.length - 1) zeroC, fits_reach (n := l.length - 1) (fun i hi => ?_) _ (Nat.le_refl _)⟩
 have := h3 i (List.mem_range.2 (by have := h.1; omega))
 exact this
end Go.Proofs.YtjbkjgmcfommgaaGreat

namespace Go.Proofs.YtjbkjgmcfommgaaGreat
open Go.ChangeShapes Go.WideShapes Go.ChangeAt Go.RowKit
theorem Pts.under_and {w : World} {n : Nat} {A : Option Addr} {l : List Pt} (h : Pts w (fun k => n < k) A l) : Pts w (fun k => n < k ∧ k < w.heap.size) A l := h.bd
namespace NegotiateExact
set_option maxHeartbeats 32000000 in
set_option maxRecDepth 10000 in
theorem walk (A : Option Addr) (c0 : Nat) (sd : List Int) (w : World) (h0 : Reads w w.heap.size 1 A sd.length (sd.map (Value.int .u8))) (hc : sd.length ≤ c0) (hl : sd.length ≤ 9223372036854775807) (hwf : ∀ x ∈ sd, 0 ≤ x ∧ x ≤ 255) :
    Calls Tryz.prog 5 #[.slice A sd.length c0] w fun e w' => e = .returned (.bool true) ∧ Grows w w' := by
  have hB := Below.refl w.heap.size w
  go_enter Tryz.func5, Tryz.ntmps5
  go_wp2_with fail
  refine (nsane_any w).mono ?_
  rintro e w1 ⟨rfl, hq⟩
  replace hB := below_grows hB (Nat.le_refl _) hq
  replace h0 := Reads.grows h0 hq
  have hs1 := hB.size
  clear hq
  go_wp2_with fail
  refine (dice_low w1.heap.size A c0 sd w1 h0 (Nat.le_refl _) hc hl hwf).mono ?_
  rintro e w2 ⟨rfl, hD, hq⟩
  replace hB := below_grows hB (Nat.le_refl _) hq
  have hs2 := hD.lt
  clear hq h0
  generalize w1.heap.size = g at *
  go_wp2_with fail
  refine (ports_any _ g _ hD).mono ?_
  rintro e w3 ⟨⟨l, v, rfl, ho, hm⟩, hD3, hq⟩
  obtain ⟨A1, c1, rfl, hc1, hp⟩ := ho.read
  replace hp : Pts w3 (fun k => g < k) A1 l := hp.mono (fun k hk => by unfold Ge at hk; omega)
  replace hB := hB.grown hq hB.size (fun q e => by injection e with e; omega)
  have hl5 := hm.2.1
  have hl1 := hm.1
  clear ho hq hD
  replace hp : Pts w3 (fun k => g < k ∧ k < w3.heap.size) A1 l := hp.under_and
  have HOK := Lib.hid hm.oks
  have HI := Lib.hid hm.k
  have HM := Lib.hid hm
  have HFI : Hid (∀ p ∈ l, Fine p.b ∧ 1 ≤ p.b.length ∧ p.b.length ≤ 2) := Lib.hid (fun p hp => ⟨(hm.2.2 p hp).1, (hm.2.2 p hp).2.1, (hm.2.2 p hp).2.2.1⟩)
  obtain ⟨N, hN⟩ : ∃ N, l.length = N + 1 := ⟨l.length - 1, by omega⟩
  have HN := Lib.hid hN
  have hNl : N < l.length := by omega
  have h13 := hm.met.2.1
  have H13 := Lib.hid h13
  clear hm hN h13
  obtain ⟨ad, pN, BN, cN, ea, had, hpN, hbN, hcN, q0, q1⟩ := hp.elem (Grows.rfl' w3) hNl
  subst ea
  have hpf := HFI.out pN (List.mem_of_getElem? hpN)
  have hwN : IntKind.i64.wrap ((l.length : Int) - 1) = (N : Int) := by have := HN.out; rw [IntWalk.i64_in _ (by omega)]; omega
  have b0 : (0 : Int) ≤ (N : Int) := by omega
  have b1 : (N : Int) < (l.length : Int) := by omega
  go_wp2_with fail
  refine (choice_anyq g g _ hD3 hbN (by have := hpf.2.2; omega) hcN hpf.1 (fun k hk => hk.1)).mono ?_
  rintro e w4 ⟨⟨x, v, rfl, ⟨I, ci, rfl, hci, hix⟩, hokx⟩, hD4, hq⟩
  have hs3 := hq.size
  have hg3 := hD3.lt
  replace hB := hB.grown hq hB.size (fun q e => by injection e with e; omega)
  replace hp := hp.grown hq (fun q e hh => by injection e with e; have := hh.1; omega)
  replace hix : InB w4 (fun k => g < k) I x.m := RdB.mono hix (fun k hk => hk.elim (fun h => h.1) (fun h => by have := hD3.lt; omega))
  clear hq hD3 q0 q1 had hbN hcN hpf b0 b1 hwN hpN
  have k5 := Blk.new w4 42 #[.int .i64 x.k, .int .i64 x.r, .slice I x.m.length ci, .int .i64 x.s]
  have hq := (Below.refl w4.heap.size w4).alloc (Nat.le_refl _) (Obj.cells #[.int .i64 x.k, .int .i64 x.r, .slice I x.m.length ci, .int .i64 x.s] 42)
  go_upto_region 6 with fail
  replace hB := below_grows hB (Nat.le_refl _) hq
  replace hp := hp.grows hq
  replace hix := hix.grows hq
  replace hD4 := hD4.grows hq
  clear hq
  have hg5 : g < w4.heap.size := by omega
  generalize w4.heap.size = q5 at *
  generalize World.alloc w4 _ = w5 at *
  rcases H13.out with h0 | h0
  · obtain ⟨⟨ls, ⟨fa, fb⟩, fe⟩, hf⟩ : ∃ f, forwardF l = f := ⟨_, rfl⟩
    rw [hf] at h0
    have h0 : fe = 0 := h0
    subst h0
    obtain ⟨C, hcf, hCl, hll, -, hfit, hCo, hwant⟩ := choose_found (want := x) HI.out hf
    obtain ⟨xN, hxN⟩ : ∃ y, ls[N]? = some y := ⟨_, List.getElem?_eq_getElem (by omega)⟩
    have hwant2 := hwant xN (by rw [HN.out]; exact hxN)
    rw [HN.out, Nat.add_sub_cancel] at hwant2
    have HWA := Lib.hid hwant2
    have HFIT := Lib.hid hfit
    have HCO := Lib.hid hCo
    have HCL := Lib.hid hCl
    have HLL := Lib.hid hll
    have HF := Lib.hid hf
    have HCF := Lib.hid hcf
    have HXN := Lib.hid hxN
    have HFL := Lib.hid ((forward_lists HI.out))
    rw [hf] at HFL
    clear hwant hwant2 hfit hCo hCl hll hf hcf hxN h0
    have x5 := k5.cell
    go_wp2_with fail
    refine (choose_at (c := c1) (ci := ci) HCF.out rfl hp (by omega) HOK.out hix hokx).mono ?_
    rintro e w6 ⟨⟨A7, c7, rfl, hc7, hr7⟩, hq⟩
    replace hB := below_grows hB (Nat.le_refl _) hq
    replace hp := hp.grows hq
    replace hix := hix.grows hq
    replace hD4 := hD4.grows hq
    replace k5 := k5.grows hq
    clear hq
    have k7 := Blk.new w6 32 #[.int .i64 0, .int .i64 0]
    have hq := (Below.refl w6.heap.size w6).alloc (Nat.le_refl _) (Obj.cells #[.int .i64 0, .int .i64 0] 32)
    go_upto_region 7 with fail
    replace hB := below_grows hB (Nat.le_refl _) hq
    replace hp := hp.grows hq
    replace hix := hix.grows hq
    replace hD4 := hD4.grows hq
    replace k5 := k5.grows hq
    replace hr7 := hr7.grows hq
    clear hq
    generalize w6.heap.size = q7 at *
    generalize World.alloc w6 _ = w6b at *
    go_wp2_with fail
    refine (forward_at (c := c1) HF.out rfl hp (by omega) HOK.out).mono ?_
    rintro e w7 ⟨⟨A10, c10, rfl, hc10, hr10⟩, hq⟩
    replace hB := below_grows hB (Nat.le_refl _) hq
    replace hp := hp.grows hq
    replace hix := hix.grows hq
    replace hD4 := hD4.grows hq
    replace k5 := k5.grows hq
    replace k7 := k7.grows hq
    replace hr7 := hr7.grows hq
    clear hq
    have k10 := Blk.new w7 32 #[.int .i64 fa, .int .i64 fb]
    have hq := (Below.refl w7.heap.size w7).alloc (Nat.le_refl _) (Obj.cells #[.int .i64 fa, .int .i64 fb] 32)
    go_upto_region 8 with fail
    replace hB := below_grows hB (Nat.le_refl _) hq
    replace hp := hp.grows hq
    replace hix := hix.grows hq
    replace hD4 := hD4.grows hq
    replace k5 := k5.grows hq
    replace k7 := k7.grows hq
    replace hr7 := hr7.grows hq
    replace hr10 := hr10.grows hq
    clear hq
    generalize w7.heap.size = q10 at *
    generalize World.alloc w7 _ = w7b at *
    clear x5
    obtain ⟨ad7, cN, B7, d7, ea, had7, hcN, hd7, hi7, hcell7⟩ := hr7.elem (Grows.rfl' w7b) (k := N) (by have := HCL.out; omega)
    subst ea
    obtain ⟨ad10, yN, B10, d10, ea, had10, hyN, hd10, hcell10, hb10⟩ := hr10.elem (Grows.rfl' w7b) (k := N) (by have := HLL.out; omega)
    subst ea
    obtain rfl : yN = xN := Option.some.inj (hyN.symm.trans HXN.out)
    have hfN := HFL.out.2 yN (List.mem_of_getElem? hyN)
    have hcNo := HCO.out cN (List.mem_of_getElem? hcN)
    have hCF := Lib.hid (fun (w0 : World) (h : Grows w7b w0) => fits_any (w := w0) (c := c1) (d := c7) rfl rfl (hp.grows h) (hr7.grows h) (by omega) (by have := HCL.out; omega) (fun p hp => ⟨fun b hb => ((HOK.out p hp).1 b hb).1, (HOK.out p hp).2⟩) (fun y hy => (HCO.out y hy).2.2))
    rw [HFIT.out] at hCF
    have hCH := Lib.hid (fun (w0 : World) (h : Grows w7b w0) => rhasl_any (w := w0) (x := x) (I := I) (ci := ci) (c := d10) (hb10.grows h) (by have := hfN.2; omega) hd10 hfN.okb (InB.ints (hix.grows h)) hokx.2.2)
    have hCC := Lib.hid (fun (w0 : World) (h : Grows w7b w0) => samec_any (w := w0) (a := cN) (b := x) (c := d7) (d := ci) (InB.ints (hi7.grows h)) (InB.ints (hix.grows h)) hcNo.2.2 hokx.2.2)
    have hwN : IntKind.i64.wrap ((C.length : Int) - 1) = (N : Int) := by have := HCL.out; have := HN.out; rw [IntWalk.i64_in _ (by omega)]; omega
    have hwN2 : IntKind.i64.wrap ((ls.length : Int) - 1) = (N : Int) := by have := HLL.out; have := HN.out; rw [IntWalk.i64_in _ (by omega)]; omega
    have b0 : (0 : Int) ≤ (N : Int) := by omega
    have b1 : (N : Int) < (C.length : Int) := by have := HCL.out; omega
    have b2 : (N : Int) < (ls.length : Int) := by have := HLL.out; omega
    have b3 : N < C.length := by omega
    have b4 : N < ls.length := by omega
    have e4 : ((ls.length : Int) == (l.length : Int)) = true := by rw [HLL.out]; simp
    have e5 : decide ((ls.length : Int) = (l.length : Int)) = true := by have := HLL.out; simp only [decide_eq_true_eq]; omega
    have e6 : decide (ls.length = l.length) = true := by have := HLL.out; simp only [decide_eq_true_eq]; omega
    have had8 : (ad7.add (N * 4)).block < w7b.heap.size := by rw [block_of_add]; exact had7
    have had11 : (ad10.add N).block < w7b.heap.size := by rw [block_of_add]; exact had10
    go_upto_region 11 with fail
    cases hh : hasL yN x with
    | false =>
      rw [hh] at hCH
      clear hh
      refine wp_region_mix (fun w' => Grows w7b w') [] 37 111 (by kernel_rfl) (by kernel_rfl) rfl ?_ float_none ?_ ?_
      · exact fun w1 w2 h0 hg => below_grows h0 (Nat.le_refl _) hg
      · exact Grows.drew' _
      · skip
        simp only [List.take_succ_cons, List.take_zero, List.drop_succ_cons, List.drop_zero]
        iterate 37
          first
            | (refine calm_no rfl rfl (a' := ?_) ?_ ?_
               rotate_left 1
               · simp only [Act.put, List.setIfInBounds_toArray, List.set_cons_succ, List.set_cons_zero]
                 rfl)
            | (first | refine calm_plain rfl rfl (v := ?_) (a' := ?_) (fun w1 hw1 => ?_) ?_ ?_ | refine calm_yes rfl rfl (v := ?_) (a' := ?_) (fun w1 hw1 => ?_) ?_ ?_
               rotate_left 2
               · have h0 := hw1
                 have x5 := (k5.grows h0).cell
                 have x7 := (k7.grows h0).cell
                 obtain ⟨y0, y1, y2, y3⟩ := hcell7.grows h0 had8
                 have zz := (Below.cell h0 had11).trans hcell10
                 go_simp
                 first | exact calm_val | (refine calm_call ?_; with_reducible exact hCF.out _ h0) | (refine calm_call ?_; with_reducible exact hCH.out _ h0) | (refine calm_call ?_; with_reducible exact hCC.out _ h0)
               · simp only [Act.put, List.setIfInBounds_toArray, List.set_cons_succ, List.set_cons_zero]
                 rfl)
        refine calm_done (end_none ?_)
        intro wq hgw
        replace hB := below_grows hB (Nat.le_refl _) hgw
        go_wp2
        go_ret
        exact ⟨rfl, hB⟩
    | true =>
      have hcx := HWA.out hh
      obtain rfl : cN = x := Option.some.inj (hcN.symm.trans hcx)
      rw [hh] at hCH
      rw [decide_eq_true rfl] at hCC
      clear hh hcx
      refine wp_region_mix (fun w' => Grows w7b w') [] 37 111 (by kernel_rfl) (by kernel_rfl) rfl ?_ float_none ?_ ?_
      · exact fun w1 w2 h0 hg => below_grows h0 (Nat.le_refl _) hg
      · exact Grows.drew' _
      · skip
        simp only [List.take_succ_cons, List.take_zero, List.drop_succ_cons, List.drop_zero]
        iterate 37
          first
            | (refine calm_no rfl rfl (a' := ?_) ?_ ?_
               rotate_left 1
               · simp only [Act.put, List.setIfInBounds_toArray, List.set_cons_succ, List.set_cons_zero]
                 rfl)
            | (first | refine calm_plain rfl rfl (v := ?_) (a' := ?_) (fun w1 hw1 => ?_) ?_ ?_ | refine calm_yes rfl rfl (v := ?_) (a' := ?_) (fun w1 hw1 => ?_) ?_ ?_
               rotate_left 2
               · have h0 := hw1
                 have x5 := (k5.grows h0).cell
                 have x7 := (k7.grows h0).cell
                 obtain ⟨y0, y1, y2, y3⟩ := hcell7.grows h0 had8
                 have zz := (Below.cell h0 had11).trans hcell10
                 go_simp
                 first | exact calm_val | (refine calm_call ?_; with_reducible exact hCF.out _ h0) | (refine calm_call ?_; with_reducible exact hCH.out _ h0) | (refine calm_call ?_; with_reducible exact hCC.out _ h0)
               · simp only [Act.put, List.setIfInBounds_toArray, List.set_cons_succ, List.set_cons_zero]
                 rfl)
        refine calm_done (end_none ?_)
        intro wq hgw
        replace hB := below_grows hB (Nat.le_refl _) hgw
        go_wp2
        go_ret
        exact ⟨rfl, hB⟩
  · obtain ⟨⟨ls, ⟨fa, fb⟩, fe⟩, hf⟩ : ∃ f, forwardF l = f := ⟨_, rfl⟩
    rw [hf] at h0
    have h0 : fe = 13 := h0
    subst h0
    have HCF : Hid (chooseF l x = ([], (fa, fb), 13)) := Lib.hid (choose_no hf (by decide))
    have HNF : Hid (∀ cs, fitsF l cs = false) := Lib.hid (fun cs => by
      cases hc : fitsF l cs with
      | false => rfl
      | true => exact absurd (fits_met HM.out hc) (by rw [hf]; exact (show ¬ (13 : Int) = 0 by decide)))
    have HF := Lib.hid hf
    clear hf h0
    have x5 := k5.cell
    go_wp2_with fail
    refine (choose_at (c := c1) (ci := ci) HCF.out rfl hp (by omega) HOK.out hix hokx).mono ?_
    rintro e w6 ⟨⟨A7, c7, rfl, hc7, hr7⟩, hq⟩
    replace hB := below_grows hB (Nat.le_refl _) hq
    replace hp := hp.grows hq
    replace hD4 := hD4.grows hq
    replace k5 := k5.grows hq
    clear hq hr7 hc7
    have k7 := Blk.new w6 32 #[.int .i64 fa, .int .i64 fb]
    have hq := (Below.refl w6.heap.size w6).alloc (Nat.le_refl _) (Obj.cells #[.int .i64 fa, .int .i64 fb] 32)
    go_upto_region 7 with fail
    replace hB := below_grows hB (Nat.le_refl _) hq
    replace hp := hp.grows hq
    replace hD4 := hD4.grows hq
    replace k5 := k5.grows hq
    clear hq
    generalize w6.heap.size = q7 at *
    generalize World.alloc w6 _ = w6b at *
    go_wp2_with fail
    refine (forward_at (c := c1) HF.out rfl hp (by omega) HOK.out).mono ?_
    rintro e w7 ⟨⟨A10, c10, rfl, hc10, hr10⟩, hq⟩
    replace hB := below_grows hB (Nat.le_refl _) hq
    replace hp := hp.grows hq
    replace hD4 := hD4.grows hq
    replace k5 := k5.grows hq
    clear hq hr10 hc10
    have k10 := Blk.new w7 32 #[.int .i64 fa, .int .i64 fb]
    have hq := (Below.refl w7.heap.size w7).alloc (Nat.le_refl _) (Obj.cells #[.int .i64 fa, .int .i64 fb] 32)
    go_upto_region 8 with fail
    replace hB := below_grows hB (Nat.le_refl _) hq
    replace hp := hp.grows hq
    replace hD4 := hD4.grows hq
    replace k5 := k5.grows hq
    clear hq
    generalize w7.heap.size = q10 at *
    generalize World.alloc w7 _ = w7b at *
    have e1 : ((13 : Int) != 13) = false := rfl
    have e2 : ((13 : Int) == 0) = false := rfl
    have hs4 : w3.heap.size ≤ w7b.heap.size := by have := k5.lt; omega
    have hgB : g < w7b.heap.size := by omega
    have hsw := hB.size
    clear x5 k5 k7 k10 hix
    generalize hB0 : w7b.heap.size = B0 at hs4 hgB hsw
    have HB0 : B0 ≤ w7b.heap.size := by omega
    clear hB0
    go_wp2_with fail
    go_loopw [12, 86] (fun v i wr => ∃ (k : Nat) (L : List Ch), k ≤ l.length ∧ i = .int .i64 k ∧ Hid (∀ y ∈ L, y.m.length ≤ 1000000) ∧ Hid (L.length = k) ∧ OwnCq wr B0 (fun k => g < k) v L ∧ Pts wr (fun k => g < k ∧ k < w3.heap.size) (some ad) l ∧ DR wr g g ∧ Below w.heap.size w wr ∧ B0 ≤ wr.heap.size) (fun _ i _ => l.length - (intOf i).toNat)
    case atStart => exact ⟨0, [], by omega, rfl, Lib.hid (fun y hy => by cases hy), Lib.hid rfl, OwnCq.nil, hp, hD4, hB, HB0⟩
    case round =>
      clear hp hD4 hB HB0
      obtain ⟨k, L, hk, rfl, HLO, HLL, hw, hp, hD, hB, hsz⟩ := hrel
      by_cases hlt : k < l.length
      · obtain ⟨ad2, p, BP, cp, ea, had, hpk, hbx, hcp, q0, q1⟩ := hp.elem (Grows.rfl' wr) hlt
        injection ea with ea
        subst ea
        have hpf := HFI.out p (List.mem_of_getElem? hpk)
        have HFP := Lib.hid hpf.1
        have hpl := hpf.2.2
        clear hpk hpf
        have k14 := Blk.new wr 47 #[.slice BP p.b.length cp, .int .i64 p.v]
        have hq := (Below.refl wr.heap.size wr).alloc (Nat.le_refl _) (Obj.cells #[.slice BP p.b.length cp, .int .i64 p.v] 47)
        go_upto_region 16 with fail
        replace hB := below_grows hB (Nat.le_refl _) hq
        replace hw := hw.grows hq
        replace hp := hp.grows hq
        replace hD := hD.grows hq
        replace hbx := hbx.grows hq
        replace hsz := Nat.le_trans hsz hq.size
        clear hq q0 q1 had
        generalize World.alloc wr _ = w8 at *
        generalize wr.heap.size = G14 at *
        have x14 := k14.cell
        refine wp_region_lit ?_
        iterate 4
          refine wpList_plain rfl (fun K hK => ?_)
          go_simp
          refine hK _ _ ?_
          clear hK K
        refine wpList_plain rfl (fun K hK => ?_)
        go_simp
        have hown := hw.lt
        refine (choice_anyq g g _ hD hbx (by omega) hcp HFP.out (fun k hk => hk.1)).mono ?_
        rintro e wb ⟨⟨y, vy, rfl, ⟨Iy, cy, rfl, hcy, hiy⟩, hoky⟩, hDn, hq⟩
        refine hK _ _ ?_
        clear hK K
        have hsq := hq.size
        replace hiy : InB wb (Aq (fun k => g < k) _) Iy y.m := RdB.mono hiy (fun k hk => ⟨by rcases hk with h | h <;> omega, fun e => by have := hown _ e; rcases hk with h | h <;> omega⟩)
        replace hw := hw.only hq hgB (by omega)
        replace hp := hp.grown hq (fun q e hh => by injection e with e; have := hh.1; omega)
        replace hB := hB.grown hq hB.size (fun q e => by injection e with e; omega)
        replace hsz := Nat.le_trans hsz hq.size
        have hD := hDn
        clear hq hDn hbx x14 k14 hown hsq
        refine wpList_plain rfl (fun K hK => ?_)
        go_simp
        refine hK _ _ ?_
        clear hK K
        have hrd := ch_lit (w := wb) (y := y) (B := Iy) (cy := cy)
        have hq := (Below.refl wb.heap.size wb).alloc (Nat.le_refl _) (Obj.cells #[.int .i64 y.k, .int .i64 y.r, .slice Iy y.m.length cy, .int .i64 y.s] 42)
        replace hB := below_grows hB (Nat.le_refl _) hq
        replace hw := hw.grows hq
        replace hp := hp.grows hq
        replace hD := hD.grows hq
        replace hiy := hiy.grows hq
        replace hsz := Nat.le_trans hsz hq.size
        have hown := hw.lt
        clear hq
        refine wpList_append_choice rfl (.tmp 90) (.tmp 95) rfl (y := y) rfl hw rfl hrd hiy hcy (by have := HLL.out; omega) hsz ?_
        intro v5 w12 ho2 hgr
        replace hp := hp.grown hgr (fun q e hh => by have := (hown q e).1; have := hh.2; omega)
        replace hD := hD.grown hgr (fun q e => by have := (hown q e).1; omega)
        replace hB := hB.grown hgr hB.size (fun q e => by have := (hown q e).1; omega)
        replace hsz := Nat.le_trans hsz hgr.size
        have HLO2 : Hid (∀ z ∈ L ++ [y], z.m.length ≤ 1000000) := Lib.hid (fun z hz => by
          rcases List.mem_append.1 hz with hz | hz
          · exact HLO.out z hz
          · simp only [List.mem_singleton] at hz
            exact hz ▸ hoky.2.2)
        have HLL2 : Hid ((L ++ [y]).length = k + 1) := Lib.hid (by rw [List.length_append, List.length_singleton, HLL.out])
        clear hgr hown hrd hiy hw HLO HLL hoky hcy
        generalize L ++ [y] = L2 at *
        go_wp2
        go_roundw
        case rel => exact ⟨k + 1, L2, by omega, by go_num, HLO2, HLL2, ho2, hp, hD, hB, hsz⟩
        case measure => simp [intOf]; omega
      · obtain ⟨A12, c12, rfl, hc12, hcs⟩ := hw.read
        have HLL2 : Hid (L.length ≤ 5) := Lib.hid (by have := HLL.out; omega)
        have hCF := Lib.hid (fun (w0 : World) (h : Grows wr w0) => fits_any (w := w0) (c := c1) (d := c12) rfl rfl (hp.grows h) (hcs.grows h) (by omega) (by have := HLL2.out; omega) (fun p hp => ⟨fun b hb => ((HOK.out p hp).1 b hb).1, (HOK.out p hp).2⟩) HLO.out)
        rw [HNF.out] at hCF
        go_wp2_with fail
        refine (hCF.out _ (Below.refl _ _)).mono ?_
        rintro e w9 ⟨rfl, hq⟩
        replace hB := below_grows hB (Nat.le_refl _) hq
        clear hq
        go_wp2
        go_ret
        exact ⟨rfl, hB⟩
end NegotiateExact
namespace NegotiateExact
set_option maxRecDepth 100000 in
theorem contract (H : Type) (enc : TypeId × Value → H) (W : World) (base : Nat) (args : Array Value) (ds gs : List (DataW H)) (before : List MemPlace)
    (hval0 : ∀ (j : Nat) t v, Tryz.f5.params[j]? = some t → args[j]? = some v → Value.okWide Tryz.prog W .any base t v)
    (hW : DataW.Whole enc Tryz.prog Tryz.f5.params.toList Rows.negotiateExactSpec.vars false W args.toList ds gs before)
    (hsz0 : (DataW.weightsEach Tryz.prog (Tryz.f5.params.toList ++ Rows.negotiateExactSpec.plain.varTypes Tryz.prog) (ds ++ gs)).all (· ≤ reachBytes) = true) :
    Calls Tryz.prog 5 args W fun e W' => ∃ v, e = .returned v ∧ Rows.negotiateExactSpec.post enc Tryz.prog Tryz.f5 false true false false W args v W' := by
  have key : Calls Tryz.prog 5 args W fun e W' => e = .returned (.bool true) ∧ Below W.heap.size W W' := by
    have hval : ∀ (j : Nat) t v, Tryz.f5.params[j]? = some t → args[j]? = some v → Value.okWide Tryz.prog W .any base t v := hval0
    obtain ⟨p, q, hA0, hV, hbe, hfz, hnd⟩ := hW
    have hA : DataW.TrodAll enc Tryz.prog W 0 (fun _ => true) true Tryz.f5.params.toList args.toList ds p := hA0
    rw [Tryz.params5] at hA hval
    clear hA0 hval0
    obtain ⟨v0, vs0, d0, ds0, p0, q0, hargs, rfl, rfl, h0, r0⟩ := trodAll_cons hA
    obtain ⟨rfl, rfl, rfl⟩ := trodAll_nil r0
    obtain rfl : args = #[v0] := by cases args; simp_all
    obtain ⟨rfl, rfl⟩ := trodVars_none hV
    have hsz : (DataW.weightsEach Tryz.prog (Tryz.f5.params.toList ++ Rows.negotiateExactSpec.plain.varTypes Tryz.prog) ([d0] ++ [])).all (· ≤ reachBytes) = true := hsz0
    rw [Tryz.params5] at hsz
    clear hsz0
    obtain ⟨A, c, l, rfl, hI0, hl0, hlen0, hw0⟩ := open_slice_kind Tryz.underlying23 Tryz.underlying5 (by kernel_rfl) (hval 0 23 v0 rfl rfl) h0
    exact NegotiateExact.walk A c l W hI0 hlen0 hl0 (fun x hx => u8_bd (hw0 x hx))
  refine key.mono fun e W' ⟨he, hb⟩ => ⟨_, he, law_post laid_out hW ?_ rfl (by kernel_rfl) Tryz.underlying4 ?_ hb⟩
  · rw [Tryz.params5]
    intro t ht
    simp only [List.mem_cons, List.not_mem_nil, or_false] at ht
    rcases ht with rfl <;> exact ⟨by kernel_rfl, of_decide_eq_true (by kernel_rfl)⟩
  · rw [Tryz.params5]
    intro ds hl
    match ds, hl with
    | [_], _ => rfl

set_option maxRecDepth 100000 in
theorem lifted (os : Os) (started : os.Started) (H : Type) (enc : TypeId × Value → H) :
    ReturnsInHanded {} Tryz.checked os 5 .any (Rows.negotiateExactSpec.pre6 enc Tryz.prog Tryz.f5 Rows.negotiateExactRow.domain false) (Rows.negotiateExactSpec.post enc Tryz.prog Tryz.f5 false true false false) := by
  refine returnsInHanded_of_change_sized (C := Tryz.checked) own_knob started (by kernel_rfl) Tryz.func5
    (ChangeSpec.witness6 (enc := enc) (C := Tryz.checked) false ⟨#[], #[.slice none 0 0], []⟩ 8 (by kernel_rfl) (by kernel_rfl) (by kernel_rfl) (by kernel_rfl)) ?_
  intro W base args ds gs before hval0 hW _ hsz0 _
  exact contract H enc W base args ds gs before hval0 hW hsz0

theorem over : Rows.negotiateExactRow.holds Tryz.pinned (OpenSpec.ofChange Rows.negotiateExactSpec) :=
  OpenClaim.holds_of_wide 5 Tryz.f5 rfl rfl rfl rfl rfl rfl rfl ⟨rfl, rfl, rfl, rfl, rfl⟩ rfl rfl rfl rfl rfl (by kernel_rfl) Tryz.func5 (by kernel_rfl)
    (of_decide_eq_true (by kernel_rfl)) (by unfold Func.isWrapper; first | (rw [if_pos (by decide +kernel)]; kernel_rfl) | (rw [if_neg (by decide +kernel)]; exact ⟨rfl, rfl⟩))
    (fun os started H enc _ => lifted os started H enc)

/-- The given statement. -/
theorem proved : Rows.NegotiateExactSaid := over
end NegotiateExact
#print axioms NegotiateExact.proved
end Go.Proofs.YtjbkjgmcfommgaaGreat

