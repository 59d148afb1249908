/-
  NegotiateConverts, for every input: the law returns true, and the argument reads behind the call as it read before. No condition.
-/
import Derived.Test.YtjbkjgmcfommgaaNegotiateConvertsK4
namespace Go.Proofs.Ytjbkjgmcfommgaa
open Go.RowKit
theorem CellsB.grows {w w' : World} {p : Addr} {v0 v1 v2 v3 : Value} (h : CellsB w p v0 v1 v2 v3) (hg : Grows w w') (hp : p.block < w.heap.size) : CellsB w' p v0 v1 v2 v3 := by
 obtain ⟨h0, h1, h2, h3⟩ := h
 exact ⟨(Below.cell hg hp).trans h0, (Below.cell (p := ⟨p.block, p.off + 1, none⟩) hg hp).trans h1, (Below.cell (p := ⟨p.block, p.off + 2, none⟩) hg hp).trans h2, (Below.cell (p := ⟨p.block, p.off + 3, none⟩) hg hp).trans h3⟩
/-- A best choice, as a call gives it. -/
def PsBest (b : Nat) (x : Ch) (o : Bool) : GP := ⟨fun w v => ∃ A c, v = .tuple #[.agg #[.int .i64 x.k, .int .i64 x.r, .slice A x.m.length c, .int .i64 x.s], .bool o] ∧ x.m.length ≤ c ∧ InB w (Ge b) A x.m, fun w w' v h hg => by obtain ⟨A, c, e, hc, hx⟩ := h; exact ⟨A, c, e, hc, hx.grows hg⟩⟩
def PsCh (b : Nat) (x : Ch) : GP := ⟨fun w v => ∃ A c, v = .agg #[.int .i64 x.k, .int .i64 x.r, .slice A x.m.length c, .int .i64 x.s] ∧ x.m.length ≤ c ∧ InB w (Ge b) A x.m, fun w w' v h hg => by obtain ⟨A, c, e, hc, hx⟩ := h; exact ⟨A, c, e, hc, hx.grows hg⟩⟩
theorem ch_last {l : List Pt} {ls : List (List Bx)} {want : Ch} {N : Nat} (hN : l.length = N + 1) : chUp l ls want (l.length - 1) (l.length - 1 - N) = (bestL (topP want) want (ls.getD N [])).1 := by
 rw [hN, show N + 1 - 1 = N from rfl, Nat.sub_self]
 rfl
theorem ch_step {l : List Pt} {ls : List (List Bx)} {want : Ch} {N j : Nat} (hN : l.length = N + 1) (hj : j < N) : chUp l ls want (l.length - 1) (l.length - 1 - j) = backP (keptD (l.getD j noPt)) (ls.getD j []) (chUp l ls want (l.length - 1) (l.length - 1 - (j + 1))) := by
 rw [hN, show N + 1 - 1 = N from rfl, show N - j = N - (j + 1) + 1 by omega]
 show backP (keptD (l.getD (N - (N - (j + 1) + 1)) noPt)) (ls.getD (N - (N - (j + 1) + 1)) []) _ = _
 rw [show N - (N - (j + 1) + 1) = j by omega]
theorem At.all {md : Region.Mode} {ops : Array Oper} {i : Nat} {L : Ran} (h : At md ops i L) (n g : Nat) (hk : (((List.range n).filter (· != g)).all fun j => (needs md ops 4 i).contains j) = true) : ∀ j, j < n → j ≠ g → L j = true := fun j h1 h2 => h.need j (List.all_eq_true.1 hk j (List.mem_filter.2 ⟨List.mem_range.2 h1, by simpa using h2⟩))
set_option maxRecDepth 100000 in
theorem ch_info : ∃ i : TypeInfo, Try.prog.info? 46 = some i ∧ i.size = 4 ∧ i.bytes = 48 ∧ i.zero = some (.agg #[.int .i64 0, .int .i64 0, .slice none 0 0, .int .i64 0]) ∧ (Value.agg #[.int .i64 0, .int .i64 0, .slice none 0 0, .int .i64 0]).cells.size = 4 := ⟨_, by first | exact Try.info46 | rfl, rfl, rfl, rfl, rfl⟩
set_option maxHeartbeats 64000000 in
set_option maxRecDepth 10000 in
theorem choose_any {ok ow : Nat → Prop} {A I : Option Addr} {c n ci : Nat} {l : List Pt} {want : Ch} {w : World} (hn : n = l.length) (h : Pts w ok A l) (hl : l.length ≤ 1000000) (ho : ∀ p ∈ l, (∀ b ∈ p.b, OKB b ∧ I64 b.k) ∧ p.b.length ≤ 1000000) (hi : InB w ow I want.m) (hok : OKC want) :
 Calls Try.prog 11 #[.slice A n c, .agg #[.int .i64 want.k, .int .i64 want.r, .slice I want.m.length ci, .int .i64 want.s]] w fun e w' => (∃ A' c', e = .returned (.tuple #[.slice A' (chooseF l want).1.length c', .agg #[.int .i64 (chooseF l want).2.1.1, .int .i64 (chooseF l want).2.1.2], .int .i64 (chooseF l want).2.2]) ∧ (chooseF l want).1.length ≤ c' ∧ Chs w' (Ge w.heap.size) A' (chooseF l want).1) ∧ Grows w w' := by
 subst hn
 have HO := Lib.hid ho
 clear ho
 have kw := (Blk.new w 46 #[.int .i64 want.k, .int .i64 want.r, .slice I want.m.length ci, .int .i64 want.s]).alloc (Obj.cells #[.int .i64 0, .int .i64 0] 30)
 have k5 := blk_new_at (X := w.alloc (Obj.cells #[.int .i64 want.k, .int .i64 want.r, .slice I want.m.length ci, .int .i64 want.s] 46)) (n := w.heap.size + 1) (t := 30) (cs := #[.int .i64 0, .int .i64 0]) (by simp)
 have hB := ((Below.refl w.heap.size w).alloc (Nat.le_refl _) (Obj.cells #[.int .i64 want.k, .int .i64 want.r, .slice I want.m.length ci, .int .i64 want.s] 46)).alloc (by simp) (Obj.cells #[.int .i64 0, .int .i64 0] 30)
 have hcon := fun (w0 : World) (hg : Grows w w0) => forward_any (w := w0) (c := c) rfl (h.grows hg) hl HO.out
 obtain ⟨⟨ls, ⟨fa, fb⟩, fe⟩, hf⟩ : ∃ f, forwardF l = f := ⟨_, rfl⟩
 simp only [hf] at hcon
 have HF := Lib.hid hf
 have HC := Lib.hid hcon
 clear hf hcon
 go_enter Try.func11, Try.ntmps11
 go_upto_region 1 with fail
 generalize World.alloc (World.alloc w _) _ = w1 at *
 go_wp2_with fail
 refine (HC.out _ hB).mono ?_
 rintro e w2 ⟨⟨v, rfl, hw⟩, hq⟩
 replace hB := below_grows hB (Nat.le_refl _) hq
 replace kw := kw.grows hq
 replace k5 := k5.grows hq
 obtain ⟨A7, c7, rfl, hc7, hlb⟩ := hw.lbx
 replace hlb := hlb.under
 clear hq hw HC
 have k8 := Blk.new w2 30 #[.int .i64 fa, .int .i64 fb]
 have hq := (Below.refl w2.heap.size w2).alloc (Nat.le_refl _) (Obj.cells #[.int .i64 fa, .int .i64 fb] 30)
 go_upto_region 2 with fail
 replace hB := below_grows hB (Nat.le_refl _) hq
 replace kw := kw.grows hq
 replace k5 := k5.grows hq
 replace hlb := hlb.grows hq
 clear hq
 generalize World.alloc w2 _ = w3 at *
 have hs2 := k8.lt
 have hs5 := k5.lt
 generalize w2.heap.size = q8 at *
 by_cases hfe : fe = 0
 ·subst hfe
  have e5 : ((0 : Int) != 0) = false := rfl
  have e6 : decide ((0 : Int) = 0) = true := rfl
  have HE := Lib.hid (choose_yes (want := want) HF.out)
  obtain ⟨hv, hup, hll, hfl⟩ := forward_fl (fun p hp b hb => ((HO.out p hp).1 b hb).2) HF.out
  have HFL := Lib.hid hfl
  have HLL := Lib.hid hll
  obtain ⟨h1l, h16⟩ := (valid_ports hv).2
  obtain ⟨N, hN⟩ : ∃ N, l.length = N + 1 := ⟨l.length - 1, by omega⟩
  have HN := Lib.hid hN
  have hwN : IntKind.i64.wrap ((l.length : Int) - 1) = (N : Int) := by rw [IntWalk.i64_in _ (by omega)]; omega
  have HOC : Hid (∀ i, i < l.length → OKC (chUp l ls want (l.length - 1) (l.length - 1 - i))) := Lib.hid (fun i hi => ch_okc (fun j hj => HFL.out j (by omega)) _ (by omega))
  have HLAST := Lib.hid (ch_last (l := l) (ls := ls) (want := want) hN)
  have HSTEP := Lib.hid (fun j hj => ch_step (l := l) (ls := ls) (want := want) (j := j) hN hj)
  generalize hfdef : (fun i => chUp l ls want (l.length - 1) (l.length - 1 - i)) = f at HE
  have HFD : Hid (∀ i, chUp l ls want (l.length - 1) (l.length - 1 - i) = f i) := Lib.hid (fun i => congrFun hfdef i)
  replace HOC := Lib.hid (fun i hi => HFD.out i ▸ HOC.out i hi)
  replace HLAST := Lib.hid ((HFD.out N).symm.trans HLAST.out)
  replace HSTEP := Lib.hid (fun j hj => ((HFD.out j).symm.trans (HSTEP.out j hj)).trans (by rw [HFD.out]))
  clear hv hup hll hfl hfdef hN HFD
  have hle4 : w.heap.size ≤ w3.heap.size := hB.size
  have b0 : (0 : Int) ≤ (l.length : Int) := by omega
  go_upto_region 4 with fail
  clear e5 e6
  refine wp_region_lit ?_
  iterate 2
   refine wpList_plain rfl (fun K hK => ?_)
   go_simp
   refine hK _ _ ?_
   clear hK K
  obtain ⟨i0, hi0, hi1, hi2, hi3, hi4⟩ := ch_info
  refine wpList_make_full _ rfl (.tmp 26) (.tmp 26) 39 rfl (w.heap.size + 2) 46 i0 _ 4 Try.underlying39 hi0 hi3 hi1 .i64 .i64 l.length l.length l.length rfl rfl rfl rfl (by rw [hi2]; omega) (by simp only [maxLen]; omega) (by omega) ?_
  intro w4 hown hgr
  have hch := ChG.made (f := f) hown
  have hg4 : Grows w3 w4 := Below.grown (Below.refl w3.heap.size w3) hgr (Nat.le_refl _) (fun q e => by cases e)
  replace kw := kw.grows hg4
  have hGge : w3.heap.size ≤ w3.heap.size := Nat.le_refl _
  generalize hGd : w3.heap.size = G at hch hGge ⊢
  replace hGge : w3.heap.size ≤ G := by omega
  clear hown hgr hi0 hi1 hi2 hi3 hi4 i0 hGd
  go_upto_region 6 with fail
  obtain ⟨ad7, xN, BN, dN, e7, had7, hxN, hdN, hcN, hbN⟩ := hlb.elem hg4 (k := N) (by have := HLL.out; have := HN.out; omega)
  subst e7
  have hB4 := below_grows hB (Nat.le_refl _) hg4
  have hGlt := hch.lt
  have hle5 : w.heap.size + 2 ≤ w4.heap.size := by have := hg4.size; omega
  have b1 : (0 : Int) ≤ (N : Int) := by omega
  have b2 : (N : Int) < (l.length : Int) := by have := HN.out; omega
  have b3 : (N : Int) < (ls.length : Int) := by have := HN.out; have := HLL.out; omega
  have b4 : N < l.length := by omega
  have b5 : N < ls.length := by omega
  have hgN : ls.getD N [] = xN := by rw [List.getD_eq_getElem?_getD, hxN]; rfl
  have hfN : FL xN := hgN ▸ HFL.out N b4
  have HBE := Lib.hid (fun (w0 : World) (hg : Grows w4 w0) => pbestl_any (w := w0) (c := dN) (ci := ci) (want := want) (I := I) (hbN.grows (below_grows hg4 (Nat.le_refl _) hg)) (by have := hfN.2; omega) hdN hfN.okb (fun b hb => (hfN.1 b hb).2) (InB.ints (hi.grows (below_grows hB4 (Nat.le_refl _) hg))) hok)
  have HX0 := HLAST.out
  rw [hgN] at HX0
  generalize bestL (topP want) want xN = XO at *
  obtain ⟨X, bo⟩ := XO
  have HX : Hid (f N = X) := Lib.hid HX0
  clear HX0 hgN hfN hxN HLAST
  have had7c : (ad7.add N).block < w4.heap.size := by rw [block_of_add]; exact had7
  obtain ⟨S, HI, HO⟩ := hideS fun (L : Ran) (vs : Nat → Value) (w' : World) => ((L 12 = false → Grows w4 w' ∧ DsS [none, none, none, none, none, none, none, some (PsBest w4.heap.size X bo), some (PsBest w4.heap.size X bo), some (PsCh w4.heap.size X), none, none, none] L vs w') ∧ KnS [some (.slice (some ⟨G, 0, none⟩) l.length l.length), some (.int .i64 N), some (.slice (some ad7) ls.length c7), some (.int .i64 N), some (.pointer (some (ad7.add N))), some (.slice BN xN.length dN), some (.agg #[.int .i64 want.k, .int .i64 want.r, .slice I want.m.length ci, .int .i64 want.s]), none, none, none, none, some (.pointer (some ⟨G, N * 4, none⟩)), none] L vs ∧ (L 12 = true → (∀ j, j < 12 → j ≠ 10 → L j = true) ∧ (∃ t u, vs 8 = .tuple #[t, u]) ∧ w4.grownBy w' (some G) ∧ ChG w' (w.heap.size + 2) G l.length (fun k => False ∨ k = N) f))
  refine wp_region_genT S 13 84 (by kernel_rfl) (by kernel_rfl) rfl ?_ ?_
  ·exact HI.out _ _ _ ⟨fun _ => ⟨Grows.drew' _, ds_none _ _ _⟩, kn_none _ _, fun h => by cases h⟩
  simp only [List.take_succ_cons, List.take_zero, List.drop_succ_cons, List.drop_zero]
  refine gent_consR (fun vs L w1 hL hw1 => ?_) ?_
  ·obtain ⟨p0, q1, p2⟩ := HO.out _ _ _ hw1
   refine gen_plain rfl ?_
   have ns : L 12 = false := by
    cases h : L 12
    ·rfl
    ·exact absurd ((p2 h).1 0 (by omega) (by omega)) (by rw [hL.1]; simp)
   obtain ⟨q0, q2⟩ := p0 ns
   go_simp
   exact gr_val (HI.out _ _ _ ⟨fun _ => ⟨q0, ds_free q2 rfl⟩, kn_known q1 rfl, fun h => absurd (show L 12 = true from h) (by rw [ns]; simp)⟩)
  refine gent_consR (fun vs L w1 hL hw1 => ?_) ?_
  ·obtain ⟨p0, q1, p2⟩ := HO.out _ _ _ hw1
   refine gen_plain rfl ?_
   have ns : L 12 = false := by
    cases h : L 12
    ·rfl
    ·exact absurd ((p2 h).1 1 (by omega) (by omega)) (by rw [hL.1]; simp)
   obtain ⟨q0, q2⟩ := p0 ns
   go_simp
   exact gr_val (HI.out _ _ _ ⟨fun _ => ⟨q0, ds_free q2 rfl⟩, kn_known q1 rfl, fun h => absurd (show L 12 = true from h) (by rw [ns]; simp)⟩)
  refine gent_consR (fun vs L w1 hL hw1 => ?_) ?_
  ·obtain ⟨p0, q1, p2⟩ := HO.out _ _ _ hw1
   refine gen_plain rfl ?_
   have ns : L 12 = false := by
    cases h : L 12
    ·rfl
    ·exact absurd ((p2 h).1 2 (by omega) (by omega)) (by rw [hL.1]; simp)
   obtain ⟨q0, q2⟩ := p0 ns
   go_simp
   exact gr_val (HI.out _ _ _ ⟨fun _ => ⟨q0, ds_free q2 rfl⟩, kn_known q1 rfl, fun h => absurd (show L 12 = true from h) (by rw [ns]; simp)⟩)
  refine gent_consR (fun vs L w1 hL hw1 => ?_) ?_
  ·obtain ⟨p0, q1, p2⟩ := HO.out _ _ _ hw1
   refine gen_plain rfl ?_
   have ns : L 12 = false := by
    cases h : L 12
    ·rfl
    ·exact absurd ((p2 h).1 3 (by omega) (by omega)) (by rw [hL.1]; simp)
   obtain ⟨q0, q2⟩ := p0 ns
   go_simp
   exact gr_val (HI.out _ _ _ ⟨fun _ => ⟨q0, ds_free q2 rfl⟩, kn_known q1 rfl, fun h => absurd (show L 12 = true from h) (by rw [ns]; simp)⟩)
  refine gent_consR (fun vs L w1 hL hw1 => ?_) ?_
  ·obtain ⟨p0, q1, p2⟩ := HO.out _ _ _ hw1
   refine gen_plain rfl ?_
   have ns : L 12 = false := by
    cases h : L 12
    ·rfl
    ·exact absurd ((p2 h).1 4 (by omega) (by omega)) (by rw [hL.1]; simp)
   obtain ⟨q0, q2⟩ := p0 ns
   have l2 : L 2 = true := hL.need 2 (by kernel_rfl)
   have e2 := q1 2 _ rfl l2
   have l3 : L 3 = true := hL.need 3 (by kernel_rfl)
   have e3 := q1 3 _ rfl l3
   simp only [e2, e3]
   go_simp
   exact gr_val (HI.out _ _ _ ⟨fun _ => ⟨q0, ds_free q2 rfl⟩, kn_known q1 rfl, fun h => absurd (show L 12 = true from h) (by rw [ns]; simp)⟩)
  refine gent_consR (fun vs L w1 hL hw1 => ?_) ?_
  ·obtain ⟨p0, q1, p2⟩ := HO.out _ _ _ hw1
   refine gen_plain rfl ?_
   have ns : L 12 = false := by
    cases h : L 12
    ·rfl
    ·exact absurd ((p2 h).1 5 (by omega) (by omega)) (by rw [hL.1]; simp)
   obtain ⟨q0, q2⟩ := p0 ns
   have l4 : L 4 = true := hL.need 4 (by kernel_rfl)
   have e4 := q1 4 _ rfl l4
   simp only [e4]
   have xb := (Below.cell q0 had7c).trans hcN
   go_simp
   exact gr_val (HI.out _ _ _ ⟨fun _ => ⟨q0, ds_free q2 rfl⟩, kn_known q1 rfl, fun h => absurd (show L 12 = true from h) (by rw [ns]; simp)⟩)
  refine gent_consR (fun vs L w1 hL hw1 => ?_) ?_
  ·obtain ⟨p0, q1, p2⟩ := HO.out _ _ _ hw1
   refine gen_plain rfl ?_
   have ns : L 12 = false := by
    cases h : L 12
    ·rfl
    ·exact absurd ((p2 h).1 6 (by omega) (by omega)) (by rw [hL.1]; simp)
   obtain ⟨q0, q2⟩ := p0 ns
   have xb := (kw.grows q0).cell
   go_simp
   exact gr_val (HI.out _ _ _ ⟨fun _ => ⟨q0, ds_free q2 rfl⟩, kn_known q1 rfl, fun h => absurd (show L 12 = true from h) (by rw [ns]; simp)⟩)
  refine gent_consR (fun vs L w1 hL hw1 => ?_) ?_
  ·obtain ⟨p0, q1, p2⟩ := HO.out _ _ _ hw1
   refine gen_plain rfl ?_
   have ns : L 12 = false := by
    cases h : L 12
    ·rfl
    ·exact absurd ((p2 h).1 7 (by omega) (by omega)) (by rw [hL.1]; simp)
   obtain ⟨q0, q2⟩ := p0 ns
   have l5 : L 5 = true := hL.need 5 (by kernel_rfl)
   have e5 := q1 5 _ rfl l5
   have l6 : L 6 = true := hL.need 6 (by kernel_rfl)
   have e6 := q1 6 _ rfl l6
   simp only [e5, e6]
   go_simp
   refine gr_call ?_
   refine (HBE.out _ q0).mono ?_
   rintro e w6 ⟨⟨v6, rfl, A9, c9, rfl, hc9, hx9⟩, hg⟩
   have hsz := q0.size
   exact ⟨_, rfl, HI.out _ _ _ ⟨fun _ => ⟨below_grows q0 (Nat.le_refl _) hg, ds_put (q2.grows hg) rfl ⟨A9, c9, rfl, hc9, RdB.mono hx9 (fun k hk => by unfold Ge at *; omega)⟩⟩, kn_free q1 rfl, fun h => absurd (show L 12 = true from h) (by rw [ns]; simp)⟩⟩
  refine gent_consR (fun vs L w1 hL hw1 => ?_) ?_
  ·obtain ⟨p0, q1, p2⟩ := HO.out _ _ _ hw1
   refine gen_plain rfl ?_
   have ns : L 12 = false := by
    cases h : L 12
    ·rfl
    ·exact absurd ((p2 h).1 8 (by omega) (by omega)) (by rw [hL.1]; simp)
   obtain ⟨q0, q2⟩ := p0 ns
   have l7 : L 7 = true := hL.need 7 (by kernel_rfl)
   have p7 := q2 7 _ rfl l7
   go_simp
   exact gr_val (HI.out _ _ _ ⟨fun _ => ⟨q0, ds_put q2 rfl p7⟩, kn_free q1 rfl, fun h => absurd (show L 12 = true from h) (by rw [ns]; simp)⟩)
  refine gent_consR (fun vs L w1 hL hw1 => ?_) ?_
  ·obtain ⟨p0, q1, p2⟩ := HO.out _ _ _ hw1
   refine gen_plain rfl ?_
   have ns : L 12 = false := by
    cases h : L 12
    ·rfl
    ·exact absurd ((p2 h).1 9 (by omega) (by omega)) (by rw [hL.1]; simp)
   obtain ⟨q0, q2⟩ := p0 ns
   have l8 : L 8 = true := hL.need 8 (by kernel_rfl)
   obtain ⟨A9, c9, e9, hc9, hx9⟩ := q2 8 _ rfl l8
   simp only [e9]
   go_simp
   exact gr_val (HI.out _ _ _ ⟨fun _ => ⟨q0, ds_put q2 rfl ⟨A9, c9, rfl, hc9, hx9⟩⟩, kn_free q1 rfl, fun h => absurd (show L 12 = true from h) (by rw [ns]; simp)⟩)
  refine gent_consR (fun vs L w1 hL hw1 => ?_) ?_
  ·obtain ⟨p0, q1, p2⟩ := HO.out _ _ _ hw1
   refine gen_plain rfl ?_
   have htup : ∃ t u, vs 8 = .tuple #[t, u] := by
    cases h : L 12
    ·obtain ⟨A9, c9, e9, -⟩ := (p0 h).2 8 _ rfl (hL.need 8 (by kernel_rfl))
     exact ⟨_, _, e9⟩
    ·exact (p2 h).2.1
   obtain ⟨t, u, e9⟩ := htup
   simp only [e9]
   go_simp
   exact gr_val (HI.out _ _ _ ⟨fun h => ⟨(p0 h).1, ds_free (p0 h).2 rfl⟩, kn_free q1 rfl, fun h => ⟨(fun j h1 h2 => by have := (p2 h).1 j h1 h2; unfold upd; rw [if_neg h2]; exact this), ⟨t, u, (show vs 8 = _ from e9)⟩, (p2 h).2.2⟩⟩)
  refine gent_consR (fun vs L w1 hL hw1 => ?_) ?_
  ·obtain ⟨p0, q1, p2⟩ := HO.out _ _ _ hw1
   refine gen_plain rfl ?_
   have ns : L 12 = false := by
    cases h : L 12
    ·rfl
    ·exact absurd ((p2 h).1 11 (by omega) (by omega)) (by rw [hL.1]; simp)
   obtain ⟨q0, q2⟩ := p0 ns
   have l0 : L 0 = true := hL.need 0 (by kernel_rfl)
   have e0 := q1 0 _ rfl l0
   have l1 : L 1 = true := hL.need 1 (by kernel_rfl)
   have e1 := q1 1 _ rfl l1
   simp only [e0, e1]
   go_simp
   exact gr_val (HI.out _ _ _ ⟨fun _ => ⟨q0, ds_free q2 rfl⟩, kn_known q1 rfl, fun h => absurd (show L 12 = true from h) (by rw [ns]; simp)⟩)
  refine gent_consR (fun vs L w1 hL hw1 => ?_) ?_
  ·obtain ⟨p0, q1, p2⟩ := HO.out _ _ _ hw1
   refine gen_plain rfl ?_
   have ns : L 12 = false := hL.1
   obtain ⟨q0, q2⟩ := p0 ns
   have l11 : L 11 = true := hL.need 11 (by kernel_rfl)
   have e11 := q1 11 _ rfl l11
   obtain ⟨A9, c9, e9, hc9, hx9⟩ := q2 9 _ rfl (hL.need 9 (by kernel_rfl))
   obtain ⟨A8, c8, e8, -, -⟩ := q2 8 _ rfl (hL.need 8 (by kernel_rfl))
   have hc0 := hch.grows q0
   obtain ⟨v0, v1, v2, v3, y0, y1, y2, y3, z0, z1, z2, z3⟩ := hc0.old (i := N) (by omega)
   have hcp := hc0.put (i := N) (A := A9) (c := c9) (by omega) (by rw [HX.out]; exact hc9) (by rw [HX.out]; exact hx9.mono (fun k hk => by unfold Ge at hk; omega))
   rw [HX.out] at hcp
   simp only [e11, e9, add_head]
   go_simp
   refine gr_skip ?_
   show S (upd L 12) (setV vs 12 undef) (putC w1 G (N * 4) X A9 c9)
   exact HI.out _ _ _ ⟨fun h => absurd (show true = false from h) (by simp), kn_free q1 rfl, fun _ => ⟨(fun j h1 h2 => by have := hL.all 12 10 (by kernel_rfl) j h1 h2; unfold upd; split <;> first | rfl | exact this), ⟨_, _, (show vs 8 = _ from e8)⟩, only_trans (d_only_grows (World.grownBy.refl w4 (some G)) q0) (putC_only w1 G (N * 4) X A9 c9), hcp⟩⟩
  refine gent_nil ?_
  intro vs L W2 hall hS
  obtain ⟨-, q1, p2⟩ := HO.out _ _ _ hS
  obtain ⟨-, -, hgb, hch2⟩ := p2 (hall 12 (by omega))
  clear hall hS HI HO p2 q1 HX hch HBE had7c hcN hbN
  iterate 13
   try generalize vs _ = yv
  replace hg4 := Below.grown hg4 hgb hg4.size (fun q e => by injection e with e; omega)
  have hch := ChG.sub (W2 := fun k => N ≤ k) hch2 (fun k hk hw => .inr (by have := HN.out; omega))
  clear hch2 hgb hB4 hGlt hle5 had7 hdN kw
  have hwN2 : IntKind.i64.wrap ((N : Int) - 1) = (N : Int) - 1 := IntWalk.i64_in _ (by omega)
  generalize W2 = w5 at *
  go_wp2_with fail
  go_loopw [12] (fun i wr => ∃ (j m : Nat) (z : Int), j + m = N ∧ i = .int .i64 z ∧ Hid (z = (j : Int) - 1) ∧ ChG wr (w.heap.size + 2) G l.length (fun k => j ≤ k) f ∧ Below w3.heap.size w3 wr) (fun i _ => (intOf i + 1).toNat)
  case atStart => exact ⟨N, 0, _, by omega, rfl, Lib.hid rfl, hch, hg4⟩
  case round =>
   clear hch hg4
   obtain ⟨j, m, z, hjm, rfl, HZ, hch, hg4⟩ := hrel
   have hB4 := below_grows hB (Nat.le_refl _) hg4
   have hGlt := hch.lt
   have hle5 : w.heap.size + 2 ≤ wr.heap.size := by have := hg4.size; omega
   have hle6 : w3.heap.size ≤ wr.heap.size := hg4.size
   cases j with
   | zero =>
    have hz : z = -1 := HZ.out
    subst hz
    have d1 : decide ((0 : Int) ≤ -1) = false := by decide
    replace k5 := k5.below hg4 hs5
    have x5 := k5.cell
    have f5 := k5.frozen
    have hdone := ChG.done hch (fun i _ => Nat.zero_le i) (by omega)
    have hB3 := (hB4.setCell (p := ⟨w.heap.size + 1, 0, none⟩) (by simp) (.int .i64 0)).setCell (p := ⟨w.heap.size + 1, 1, none⟩) (by simp) (.int .i64 0)
    have x3z := ((k5.set_ 0 (.int .i64 0)).set_ 1 (.int .i64 0)).cell
    have hlen : ((List.range l.length).map f).length = l.length := by rw [List.length_map, List.length_range]
    go_wp2
    have hd2 := (hdone.grown (d_only_set (d_only_set (World.grownBy.refl wr (some (w.heap.size + 1))) 0 (.int .i64 0)) 1 (.int .i64 0)) (fun g e hh => by injection e with e; unfold Ge at hh; omega)).mono (ok2 := Ge w.heap.size) (fun k hk => by unfold Ge at *; omega)
    generalize World.setCell (World.setCell wr _ _) _ _ = wz at *
    refine bodyPost_ret (v := .tuple #[.slice (some ⟨G, 0, none⟩) l.length l.length, .agg #[.int .i64 0, .int .i64 0], .int .i64 0]) (by simp [results, Try.results11, go_sem, x3z]) rfl ?_
    rw [HE.out]
    exact ⟨⟨some ⟨G, 0, none⟩, l.length, by rw [hlen], by rw [hlen]; exact Nat.le_refl _, hd2⟩, hB3⟩
   | succ j =>
    obtain rfl : z = (j : Int) := by have := HZ.out; omega
    obtain ⟨j1, hj1⟩ : ∃ j1, j + 1 = j1 := ⟨_, rfl⟩
    replace hch := ChG.sub (W2 := fun k => j1 ≤ k) hch (fun k _ hw => by omega)
    have HJ1 := Lib.hid hj1
    have HJM := Lib.hid hjm
    clear hj1 hjm
    have d1 : decide ((0 : Int) ≤ (j : Int)) = true := by simp only [decide_eq_true_eq]; omega
    have d2 : decide (0 ≤ j) = true := by simp only [decide_eq_true_eq]; omega
    have hwj : IntKind.i64.wrap ((j : Int) + 1) = (j1 : Int) := by rw [IntWalk.i64_in _ (by have := HN.out; have := HJM.out; omega)]; have := HJ1.out; omega
    have hwm : IntKind.i64.wrap ((j : Int) - 1) = (j : Int) - 1 := IntWalk.i64_in _ (by have := HN.out; have := HJM.out; omega)
    have c1 : (0 : Int) ≤ (j : Int) := by omega
    have c2 : (j : Int) < (l.length : Int) := by have := HN.out; have := HJM.out; omega
    have c3 : (j : Int) < (ls.length : Int) := by have := HN.out; have := HLL.out; have := HJM.out; omega
    have c4 : (j1 : Int) < (l.length : Int) := by have := HN.out; have := HJM.out; have := HJ1.out; omega
    have c5 : (0 : Int) ≤ (j1 : Int) := by omega
    have c6 : j < l.length := by omega
    have c7_ : j < ls.length := by omega
    have c8 : j1 < l.length := by omega
    obtain ⟨ad8, xN, BN, dN, e7, had7, hxN, hdN, hcN, hbN⟩ := hlb.elem hg4 (k := j) c7_
    injection e7 with e7
    subst e7
    obtain ⟨ad, p, B, cp, e1, had, hp, -, -, q20, q21⟩ := h.elem hB4 (k := j) c6
    subst e1
    obtain ⟨AY, cY, hcY, hiY, hcellY⟩ := hch.at_ (i := j1) c8 (Nat.le_refl _)
    have hOY := HOC.out j1 c8
    have hst := HSTEP.out j (by have := HJM.out; omega)
    rw [show ls.getD j [] = xN by rw [List.getD_eq_getElem?_getD, hxN]; rfl, show l.getD j noPt = p by rw [List.getD_eq_getElem?_getD, hp]; rfl, HJ1.out] at hst
    have hfN : FL xN := by
     have := HFL.out j c6
     rwa [show ls.getD j [] = xN by rw [List.getD_eq_getElem?_getD, hxN]; rfl] at this
    generalize f j1 = Y at *
    have HX0 : Hid (f j = (bestL (topP Y) Y (productF (bits .andNot .i64 15 p.v) xN (singleF Y)).1).1) := Lib.hid hst
    have HFS := Lib.hid (fl_single Y).1
    have hls1 : (singleF Y).length ≤ 1 := (fl_single Y).2.2
    have HFP := Lib.hid (fl_prodF (d := bits .andNot .i64 15 p.v) hfN (fl_single Y).1)
    have HFN := Lib.hid hfN
    have hlN := hfN.2
    clear hst hxN hp hfN
    go_upto_region 10 with fail
    have HDD : Hid (∃ d, bits .andNot .i64 15 p.v = d) := Lib.hid ⟨_, rfl⟩
    obtain ⟨dd, hdd⟩ := HDD.out
    rw [hdd] at HX0 HFP
    have HDE := Lib.hid hdd
    clear hdd HDD
    have HS := Lib.hid (fun (w0 : World) (hg : Grows wr w0) => psingle_any (w := w0) (ci := cY) (InB.ints (hiY.grows hg)) hcY hOY.2.2)
    have HR := Lib.hid (fun (w0 : World) (A9 : Option Addr) (c9 : Nat) (hg : Grows wr w0) (h9 : Bxs w0 (Ge wr.heap.size) A9 (singleF Y)) => reach_any (w := w0) (c := dN) (d := c9) dd rfl rfl (hbN.grows (below_grows hg4 (Nat.le_refl _) hg)) h9 (by omega) (by omega) HFN.out.1 HFS.out.1)
    generalize singleF Y = sY at *
    generalize productF dd xN sY = pr at *
    obtain ⟨pl, pe⟩ := pr
    have HX1 : Hid (f j = (bestL (topP Y) Y pl).1) := HX0
    have HFP1 : Hid (FL pl) := HFP
    clear HX0 HFP
    have had7c : (ad7.add j).block < wr.heap.size := by rw [block_of_add]; exact had7
    have hadc : (ad.add (j * 2)).block < wr.heap.size := by rw [block_of_add]; exact had
    obtain ⟨S, HI, HO⟩ := hideS fun (L : Ran) (vs : Nat → Value) (w' : World) => (Grows wr w' ∧ KnS [some (.slice (some ad7) ls.length c7), some (.int .i64 j), some (.pointer (some (ad7.add j))), some (.slice BN xN.length dN), some (.slice (some ⟨G, 0, none⟩) l.length l.length), some (.int .i64 j), some (.int .i64 j1), some (.pointer (some ⟨G, j1 * 4, none⟩)), some (.agg #[.int .i64 Y.k, .int .i64 Y.r, .slice AY Y.m.length cY, .int .i64 Y.s]), none, some (.slice (some ad) l.length c), some (.int .i64 j), some (.pointer (some (ad.add (j * 2)))), some (.pointer (some { block := (ad.add (j * 2)).block, off := (ad.add (j * 2)).off + 1 })), some (.int .i64 p.v), some (.int .i64 dd), none, none, none, some (.int .i64 pe), none, some (.int .i64 pe)] L vs ∧ DsS [none, none, none, none, none, none, none, none, none, some (PsN wr.heap.size sY), none, none, none, none, none, none, some (PsT wr.heap.size pl pe), some (PsT wr.heap.size pl pe), some (PsN wr.heap.size pl), none, some (PsN wr.heap.size pl), none] L vs w')
    refine wp_region_genT S 22 84 (by kernel_rfl) (by kernel_rfl) rfl ?_ ?_
    ·exact HI.out _ _ _ ⟨Grows.drew' _, kn_none _ _, ds_none _ _ _⟩
    simp only [List.take_succ_cons, List.take_zero, List.drop_succ_cons, List.drop_zero]
    refine gent_consR (fun vs L w1 hL hw1 => ?_) ?_
    ·obtain ⟨q0, q1, q2⟩ := HO.out _ _ _ hw1
     refine gen_plain rfl ?_
     go_simp
     exact gr_val (HI.out _ _ _ ⟨q0, kn_known q1 rfl, ds_free q2 rfl⟩)
    refine gent_consR (fun vs L w1 hL hw1 => ?_) ?_
    ·obtain ⟨q0, q1, q2⟩ := HO.out _ _ _ hw1
     refine gen_plain rfl ?_
     go_simp
     exact gr_val (HI.out _ _ _ ⟨q0, kn_known q1 rfl, ds_free q2 rfl⟩)
    refine gent_consR (fun vs L w1 hL hw1 => ?_) ?_
    ·obtain ⟨q0, q1, q2⟩ := HO.out _ _ _ hw1
     refine gen_plain rfl ?_
     have l0 : L 0 = true := hL.need 0 (by kernel_rfl)
     have e0 := q1 0 _ rfl l0
     have l1 : L 1 = true := hL.need 1 (by kernel_rfl)
     have e1 := q1 1 _ rfl l1
     simp only [e0, e1]
     go_simp
     exact gr_val (HI.out _ _ _ ⟨q0, kn_known q1 rfl, ds_free q2 rfl⟩)
    refine gent_consR (fun vs L w1 hL hw1 => ?_) ?_
    ·obtain ⟨q0, q1, q2⟩ := HO.out _ _ _ hw1
     refine gen_plain rfl ?_
     have l2 : L 2 = true := hL.need 2 (by kernel_rfl)
     have e2 := q1 2 _ rfl l2
     simp only [e2]
     have xb := (Below.cell q0 had7c).trans hcN
     go_simp
     exact gr_val (HI.out _ _ _ ⟨q0, kn_known q1 rfl, ds_free q2 rfl⟩)
    refine gent_consR (fun vs L w1 hL hw1 => ?_) ?_
    ·obtain ⟨q0, q1, q2⟩ := HO.out _ _ _ hw1
     refine gen_plain rfl ?_
     go_simp
     exact gr_val (HI.out _ _ _ ⟨q0, kn_known q1 rfl, ds_free q2 rfl⟩)
    refine gent_consR (fun vs L w1 hL hw1 => ?_) ?_
    ·obtain ⟨q0, q1, q2⟩ := HO.out _ _ _ hw1
     refine gen_plain rfl ?_
     go_simp
     exact gr_val (HI.out _ _ _ ⟨q0, kn_known q1 rfl, ds_free q2 rfl⟩)
    refine gent_consR (fun vs L w1 hL hw1 => ?_) ?_
    ·obtain ⟨q0, q1, q2⟩ := HO.out _ _ _ hw1
     refine gen_plain rfl ?_
     have l5 : L 5 = true := hL.need 5 (by kernel_rfl)
     have e5 := q1 5 _ rfl l5
     simp only [e5]
     go_simp
     exact gr_val (HI.out _ _ _ ⟨q0, kn_known q1 rfl, ds_free q2 rfl⟩)
    refine gent_consR (fun vs L w1 hL hw1 => ?_) ?_
    ·obtain ⟨q0, q1, q2⟩ := HO.out _ _ _ hw1
     refine gen_plain rfl ?_
     have l4 : L 4 = true := hL.need 4 (by kernel_rfl)
     have e4 := q1 4 _ rfl l4
     have l6 : L 6 = true := hL.need 6 (by kernel_rfl)
     have e6 := q1 6 _ rfl l6
     simp only [e4, e6]
     go_simp
     exact gr_val (HI.out _ _ _ ⟨q0, kn_known q1 rfl, ds_free q2 rfl⟩)
    refine gent_consR (fun vs L w1 hL hw1 => ?_) ?_
    ·obtain ⟨q0, q1, q2⟩ := HO.out _ _ _ hw1
     refine gen_plain rfl ?_
     have l7 : L 7 = true := hL.need 7 (by kernel_rfl)
     have e7 := q1 7 _ rfl l7
     simp only [e7]
     obtain ⟨y0, y1, y2, y3⟩ := hcellY.grows q0 (show G < _ by omega)
     go_simp
     exact gr_val (HI.out _ _ _ ⟨q0, kn_known q1 rfl, ds_free q2 rfl⟩)
    refine gent_consR (fun vs L w1 hL hw1 => ?_) ?_
    ·obtain ⟨q0, q1, q2⟩ := HO.out _ _ _ hw1
     refine gen_plain rfl ?_
     have l8 : L 8 = true := hL.need 8 (by kernel_rfl)
     have e8 := q1 8 _ rfl l8
     simp only [e8]
     go_simp
     refine gr_call ?_
     refine (HS.out _ q0).mono ?_
     rintro e w6 ⟨⟨A9, c9, rfl, hc9, hx9⟩, hg⟩
     have hsz := q0.size
     exact ⟨_, rfl, HI.out _ _ _ ⟨below_grows q0 (Nat.le_refl _) hg, kn_free q1 rfl, ds_put (q2.grows hg) rfl ⟨A9, c9, rfl, hc9, hx9.mono (fun k hk => by unfold Ge at *; omega)⟩⟩⟩
    refine gent_consR (fun vs L w1 hL hw1 => ?_) ?_
    ·obtain ⟨q0, q1, q2⟩ := HO.out _ _ _ hw1
     refine gen_plain rfl ?_
     go_simp
     exact gr_val (HI.out _ _ _ ⟨q0, kn_known q1 rfl, ds_free q2 rfl⟩)
    refine gent_consR (fun vs L w1 hL hw1 => ?_) ?_
    ·obtain ⟨q0, q1, q2⟩ := HO.out _ _ _ hw1
     refine gen_plain rfl ?_
     go_simp
     exact gr_val (HI.out _ _ _ ⟨q0, kn_known q1 rfl, ds_free q2 rfl⟩)
    refine gent_consR (fun vs L w1 hL hw1 => ?_) ?_
    ·obtain ⟨q0, q1, q2⟩ := HO.out _ _ _ hw1
     refine gen_plain rfl ?_
     have l10 : L 10 = true := hL.need 10 (by kernel_rfl)
     have e10 := q1 10 _ rfl l10
     have l11 : L 11 = true := hL.need 11 (by kernel_rfl)
     have e11 := q1 11 _ rfl l11
     simp only [e10, e11]
     go_simp
     exact gr_val (HI.out _ _ _ ⟨q0, kn_known q1 rfl, ds_free q2 rfl⟩)
    refine gent_consR (fun vs L w1 hL hw1 => ?_) ?_
    ·obtain ⟨q0, q1, q2⟩ := HO.out _ _ _ hw1
     refine gen_plain rfl ?_
     have l12 : L 12 = true := hL.need 12 (by kernel_rfl)
     have e12 := q1 12 _ rfl l12
     simp only [e12]
     go_simp
     exact gr_val (HI.out _ _ _ ⟨q0, kn_known q1 rfl, ds_free q2 rfl⟩)
    refine gent_consR (fun vs L w1 hL hw1 => ?_) ?_
    ·obtain ⟨q0, q1, q2⟩ := HO.out _ _ _ hw1
     refine gen_plain rfl ?_
     have l13 : L 13 = true := hL.need 13 (by kernel_rfl)
     have e13 := q1 13 _ rfl l13
     simp only [e13]
     have xb := (Below.cell (p := ⟨(ad.add (j * 2)).block, (ad.add (j * 2)).off + 1, none⟩) q0 hadc).trans q21
     go_simp
     exact gr_val (HI.out _ _ _ ⟨q0, kn_known q1 rfl, ds_free q2 rfl⟩)
    refine gent_consR (fun vs L w1 hL hw1 => ?_) ?_
    ·obtain ⟨q0, q1, q2⟩ := HO.out _ _ _ hw1
     refine gen_plain rfl ?_
     have l14 : L 14 = true := hL.need 14 (by kernel_rfl)
     have e14 := q1 14 _ rfl l14
     simp only [e14]
     go_simp
     rw [HDE.out]
     exact gr_val (HI.out _ _ _ ⟨q0, kn_known q1 rfl, ds_free q2 rfl⟩)
    refine gent_consR (fun vs L w1 hL hw1 => ?_) ?_
    ·obtain ⟨q0, q1, q2⟩ := HO.out _ _ _ hw1
     refine gen_plain rfl ?_
     have l3 : L 3 = true := hL.need 3 (by kernel_rfl)
     have e3 := q1 3 _ rfl l3
     have l15 : L 15 = true := hL.need 15 (by kernel_rfl)
     have e15 := q1 15 _ rfl l15
     simp only [e3, e15]
     obtain ⟨A9, c9, e9, hc9, hx9⟩ := q2 9 _ rfl (hL.need 9 (by kernel_rfl))
     simp only [e9]
     go_simp
     refine gr_call ?_
     refine (HR.out _ A9 c9 q0 hx9).mono ?_
     rintro e w6 ⟨⟨v6, rfl, hw6⟩, hg⟩
     obtain ⟨A9, c9, rfl, hc9, hx9⟩ := hw6.read
     have hsz := q0.size
     exact ⟨_, rfl, HI.out _ _ _ ⟨below_grows q0 (Nat.le_refl _) hg, kn_free q1 rfl, ds_put (q2.grows hg) rfl ⟨A9, c9, rfl, hc9, hx9.mono (fun k hk => by unfold Ge at *; omega)⟩⟩⟩
    refine gent_consR (fun vs L w1 hL hw1 => ?_) ?_
    ·obtain ⟨q0, q1, q2⟩ := HO.out _ _ _ hw1
     refine gen_plain rfl ?_
     have p16 := q2 16 _ rfl (hL.need 16 (by kernel_rfl))
     go_simp
     exact gr_val (HI.out _ _ _ ⟨q0, kn_free q1 rfl, ds_put q2 rfl p16⟩)
    refine gent_consR (fun vs L w1 hL hw1 => ?_) ?_
    ·obtain ⟨q0, q1, q2⟩ := HO.out _ _ _ hw1
     refine gen_plain rfl ?_
     obtain ⟨A9, c9, e9, hc9, hx9⟩ := q2 17 _ rfl (hL.need 17 (by kernel_rfl))
     simp only [e9]
     go_simp
     exact gr_val (HI.out _ _ _ ⟨q0, kn_free q1 rfl, ds_put q2 rfl ⟨A9, c9, rfl, hc9, hx9⟩⟩)
    refine gent_consR (fun vs L w1 hL hw1 => ?_) ?_
    ·obtain ⟨q0, q1, q2⟩ := HO.out _ _ _ hw1
     refine gen_plain rfl ?_
     obtain ⟨A9, c9, e9, hc9, hx9⟩ := q2 17 _ rfl (hL.need 17 (by kernel_rfl))
     simp only [e9]
     go_simp
     exact gr_val (HI.out _ _ _ ⟨q0, kn_known q1 rfl, ds_free q2 rfl⟩)
    refine gent_consR (fun vs L w1 hL hw1 => ?_) ?_
    ·obtain ⟨q0, q1, q2⟩ := HO.out _ _ _ hw1
     refine gen_plain rfl ?_
     have p18 := q2 18 _ rfl (hL.need 18 (by kernel_rfl))
     go_simp
     exact gr_val (HI.out _ _ _ ⟨q0, kn_free q1 rfl, ds_put q2 rfl p18⟩)
    refine gent_consR (fun vs L w1 hL hw1 => ?_) ?_
    ·obtain ⟨q0, q1, q2⟩ := HO.out _ _ _ hw1
     refine gen_plain rfl ?_
     have l19 : L 19 = true := hL.need 19 (by kernel_rfl)
     have e19 := q1 19 _ rfl l19
     simp only [e19]
     go_simp
     exact gr_val (HI.out _ _ _ ⟨q0, kn_known q1 rfl, ds_free q2 rfl⟩)
    refine gent_nil ?_
    intro vs L W2 hall hS
    obtain ⟨q0, q1, q2⟩ := HO.out _ _ _ hS
    have e21 := q1 21 _ rfl (hall 21 (by omega))
    obtain ⟨A9, c9, e20, hc9, hx9⟩ := q2 20 _ rfl (hall 20 (by omega))
    have hcellY2 := hcellY.grows q0 hGlt
    have hch1 := hch.grows q0
    have hg5 := below_grows hg4 (Nat.le_refl _) q0
    have hiY2 := RdB.grows hiY q0
    have hszW := q0.size
    have hl9 := HFP1.out.2
    clear hall hS HI HO q1 q2 hcellY hch hg4 hB4 hiY hcN had7c hadc hbN HS HR q20 q21
    simp only [e20, e21]
    clear e20 e21
    iterate 22
     try generalize vs _ = yv
    have hch := hch1
    have HBE := Lib.hid (fun (w0 : World) (hg : Grows W2 w0) => pbestl_any (w := w0) (c := c9) (ci := cY) (want := Y) (I := AY) (hx9.grows hg) (by omega) hc9 HFP1.out.okb (fun b hb => (HFP1.out.1 b hb).2) (InB.ints (hiY2.grows hg)) hOY)
    generalize bestL (topP Y) Y pl = XO at *
    obtain ⟨X, bo⟩ := XO
    have HX : Hid (f j = X) := HX1
    clear HX1 hch1
    have hGlt2 := hch.lt
    have hle7 : w.heap.size + 2 ≤ W2.heap.size := by omega
    obtain ⟨y0, y1, y2, y3⟩ := hcellY2
    go_wp2_with fail
    refine (HBE.out _ (Below.refl _ _)).mono ?_
    rintro e w7 ⟨⟨v7, rfl, A6, n6, rfl, hn6, hx6⟩, hq⟩
    have hsz7 := hq.size
    replace hg5 := below_grows hg5 (Nat.le_refl _) hq
    have hch2 := hch.grows hq
    clear hq HBE hch y0 y1 y2 y3 hx9
    obtain ⟨v0, v1, v2, v3, y0, y1, y2, y3, z0, z1, z2, z3⟩ := hch2.old (i := j) c6
    have hcp := hch2.put (i := j) (A := A6) (c := n6) c6 (by rw [HX.out]; exact hn6) (by rw [HX.out]; exact RdB.mono hx6 (fun k hk => by unfold Ge at hk; omega))
    rw [HX.out] at hcp
    have hg6 := Below.grown hg5 (putC_only w7 G (j * 4) X A6 n6) hg5.size (fun q e => by injection e with e; omega)
    have hch3 := ChG.sub (W2 := fun k => j ≤ k) hcp (fun k hk hw => by have := HJ1.out; omega)
    clear hch2 hcp hg5 hx6 HX
    go_wp2
    go_roundw
    case rel => exact ⟨j, m + 1, _, by have := HJM.out; omega, rfl, Lib.hid rfl, hch3, hg6⟩
    case measure => simp [intOf]
 ·have HE := Lib.hid (choose_no (want := want) HF.out hfe)
  have e5 : (fe != 0) = true := bne_iff_ne.2 hfe
  have e6 : decide (fe = 0) = false := decide_eq_false hfe
  have x5 := k5.cell
  have f5 := k5.frozen
  have x8 := k8.cell
  clear hfe h hi
  go_upto_region 3 with fail
  have hB3 := ((hB.setCell (p := ⟨w.heap.size + 1, 0, none⟩) (by simp) (.int .i64 fa)).setCell (p := ⟨w.heap.size + 1, 1, none⟩) (by simp) (.int .i64 fb)).drew
  have x3z := ((k5.set_ 0 (.int .i64 fa)).set_ 1 (.int .i64 fb)).drew.cell
  go_region
  go_wp2
  generalize World.drew _ = wz at *
  refine bodyPost_ret (v := .tuple #[.slice none 0 0, .agg #[.int .i64 fa, .int .i64 fb], .int .i64 fe]) (by simp [results, Try.results11, go_sem, x3z]) rfl ?_
  rw [HE.out]
  exact ⟨⟨none, 0, rfl, Nat.le_refl _, Chs.nil⟩, hB3⟩
end Go.Proofs.Ytjbkjgmcfommgaa

namespace Go.Proofs.Ytjbkjgmcfommgaa
open Go.RowKit
set_option maxHeartbeats 64000000 in
set_option maxRecDepth 10000 in
theorem agree_any {A B : Option Addr} {c d : Nat} {a b : Ch} {w : World} (dd : Int) (ia : Ints w A a.m) (ib : Ints w B b.m) (ha : a.m.length ≤ 1000000) (hb : b.m.length ≤ 1000000) :
 Calls Try.prog 29 #[.agg #[.int .i64 a.k, .int .i64 a.r, .slice A a.m.length c, .int .i64 a.s], .agg #[.int .i64 b.k, .int .i64 b.r, .slice B b.m.length d, .int .i64 b.s], .int .i64 dd] w fun e w' => e = .returned (.bool (agD dd a b)) ∧ Grows w w' := by
 have k3 := (Blk.new w 46 #[.int .i64 a.k, .int .i64 a.r, .slice A a.m.length c, .int .i64 a.s]).alloc (Obj.cells #[.int .i64 b.k, .int .i64 b.r, .slice B b.m.length d, .int .i64 b.s] 46)
 have k4 := blk_new_at (X := w.alloc (Obj.cells #[.int .i64 a.k, .int .i64 a.r, .slice A a.m.length c, .int .i64 a.s] 46)) (n := w.heap.size + 1) (t := 46) (cs := #[.int .i64 b.k, .int .i64 b.r, .slice B b.m.length d, .int .i64 b.s]) (by simp)
 have hB := ((Below.refl w.heap.size w).alloc (Nat.le_refl _) (Obj.cells #[.int .i64 a.k, .int .i64 a.r, .slice A a.m.length c, .int .i64 a.s] 46)).alloc (by simp) (Obj.cells #[.int .i64 b.k, .int .i64 b.r, .slice B b.m.length d, .int .i64 b.s] 46)
 go_enter Try.func29, Try.ntmps29
 go_upto_region 1 with fail
 have hs1 : (w.alloc (Obj.cells #[.int .i64 a.k, .int .i64 a.r, .slice A a.m.length c, .int .i64 a.s] 46)).heap.size = w.heap.size + 1 := by simp
 try rw [hs1] at k4
 clear hs1
 generalize World.alloc (World.alloc w _) _ = w2 at *
 have HG : Hid (agD dd a b = ((!bitZ dd 1 || decide (a.k = b.k)) && (!bitZ dd 2 || decide (a.r = b.r)) && (!bitZ dd 4 || decide (a.m = b.m)) && (!bitZ dd 8 || decide (a.s = b.s)))) := Lib.hid rfl
 have HC := Lib.hid (fun (w0 : World) (hg : Grows w2 w0) => psame_any A B c d a.m b.m w0 (Ints.grows (Ints.grows ia hB) hg) (Ints.grows (Ints.grows ib hB) hg) (by omega) (by omega))
 have x3 := k3.cell
 have x4 := k4.cell
 cases h1 : bitZ dd 1 with
 | false =>
  cases h2 : bitZ dd 2 with
  | false =>
   cases h3 : bitZ dd 4 with
   | false =>
    cases h4 : bitZ dd 8 with
    | false =>
     have HE : Hid (agD dd a b = true) := Lib.hid (HG.out.trans (by simp only [h1, h2, h3, h4, Bool.not_true, Bool.not_false, Bool.true_or, Bool.false_or, Bool.and_true, Bool.true_and, Bool.and_false, Bool.false_and]))
     have u1 : (bits .and .i64 dd 1 == 0) = true := by have := h1; unfold bitZ at this; simpa using this
     have t1 : decide (bits .and .i64 dd 1 = 0) = true := by have := u1; simpa using this
     have u2 : (bits .and .i64 dd 2 == 0) = true := by have := h2; unfold bitZ at this; simpa using this
     have t2 : decide (bits .and .i64 dd 2 = 0) = true := by have := u2; simpa using this
     have u3 : (bits .and .i64 dd 4 == 0) = true := by have := h3; unfold bitZ at this; simpa using this
     have t3 : decide (bits .and .i64 dd 4 = 0) = true := by have := u3; simpa using this
     have u4 : (bits .and .i64 dd 8 == 0) = true := by have := h4; unfold bitZ at this; simpa using this
     have t4 : decide (bits .and .i64 dd 8 = 0) = true := by have := u4; simpa using this
     clear HG h1 h2 h3 h4
     go_wp2
     go_ret
     exact ⟨ret_bool HE.out.symm, hB⟩
    | true =>
     cases g4 : decide (a.s = b.s) with
     | false =>
      have HE : Hid (agD dd a b = false) := Lib.hid (HG.out.trans (by simp only [h1, h2, h3, h4, g4, Bool.not_true, Bool.not_false, Bool.true_or, Bool.false_or, Bool.and_true, Bool.true_and, Bool.and_false, Bool.false_and]))
      have u1 : (bits .and .i64 dd 1 == 0) = true := by have := h1; unfold bitZ at this; simpa using this
      have t1 : decide (bits .and .i64 dd 1 = 0) = true := by have := u1; simpa using this
      have u2 : (bits .and .i64 dd 2 == 0) = true := by have := h2; unfold bitZ at this; simpa using this
      have t2 : decide (bits .and .i64 dd 2 = 0) = true := by have := u2; simpa using this
      have u3 : (bits .and .i64 dd 4 == 0) = true := by have := h3; unfold bitZ at this; simpa using this
      have t3 : decide (bits .and .i64 dd 4 = 0) = true := by have := u3; simpa using this
      have u4 : (bits .and .i64 dd 8 == 0) = false := by have := h4; unfold bitZ at this; simpa using this
      have t4 : decide (bits .and .i64 dd 8 = 0) = false := by have := u4; simpa using this
      have v4 : (a.s == b.s) = false := by have := g4; simpa using this
      clear HG h1 h2 h3 h4
      go_wp2
      go_ret
      exact ⟨ret_bool HE.out.symm, hB⟩
     | true =>
      have HE : Hid (agD dd a b = true) := Lib.hid (HG.out.trans (by simp only [h1, h2, h3, h4, g4, Bool.not_true, Bool.not_false, Bool.true_or, Bool.false_or, Bool.and_true, Bool.true_and, Bool.and_false, Bool.false_and]))
      have u1 : (bits .and .i64 dd 1 == 0) = true := by have := h1; unfold bitZ at this; simpa using this
      have t1 : decide (bits .and .i64 dd 1 = 0) = true := by have := u1; simpa using this
      have u2 : (bits .and .i64 dd 2 == 0) = true := by have := h2; unfold bitZ at this; simpa using this
      have t2 : decide (bits .and .i64 dd 2 = 0) = true := by have := u2; simpa using this
      have u3 : (bits .and .i64 dd 4 == 0) = true := by have := h3; unfold bitZ at this; simpa using this
      have t3 : decide (bits .and .i64 dd 4 = 0) = true := by have := u3; simpa using this
      have u4 : (bits .and .i64 dd 8 == 0) = false := by have := h4; unfold bitZ at this; simpa using this
      have t4 : decide (bits .and .i64 dd 8 = 0) = false := by have := u4; simpa using this
      have v4 : (a.s == b.s) = true := by have := g4; simpa using this
      clear HG h1 h2 h3 h4
      go_wp2
      go_ret
      exact ⟨ret_bool HE.out.symm, hB⟩
   | true =>
    cases g3 : decide (a.m = b.m) with
    | false =>
     have HE : Hid (agD dd a b = false) := Lib.hid (HG.out.trans (by simp only [h1, h2, h3, g3, Bool.not_true, Bool.not_false, Bool.true_or, Bool.false_or, Bool.and_true, Bool.true_and, Bool.and_false, Bool.false_and]))
     have u1 : (bits .and .i64 dd 1 == 0) = true := by have := h1; unfold bitZ at this; simpa using this
     have t1 : decide (bits .and .i64 dd 1 = 0) = true := by have := u1; simpa using this
     have u2 : (bits .and .i64 dd 2 == 0) = true := by have := h2; unfold bitZ at this; simpa using this
     have t2 : decide (bits .and .i64 dd 2 = 0) = true := by have := u2; simpa using this
     have u3 : (bits .and .i64 dd 4 == 0) = false := by have := h3; unfold bitZ at this; simpa using this
     have t3 : decide (bits .and .i64 dd 4 = 0) = false := by have := u3; simpa using this
     clear HG h1 h2 h3
     go_wp2_with fail
     refine (HC.out _ (Below.refl _ _)).mono ?_
     rw [g3]
     rintro e w3 ⟨rfl, hq⟩
     replace k3 := k3.grows hq
     replace k4 := k4.grows hq
     replace hB := below_grows hB (Nat.le_refl _) hq
     clear hq x3 x4
     have x3 := k3.cell
     have x4 := k4.cell
     go_wp2
     go_ret
     exact ⟨ret_bool HE.out.symm, hB⟩
    | true =>
     cases h4 : bitZ dd 8 with
     | false =>
      have HE : Hid (agD dd a b = true) := Lib.hid (HG.out.trans (by simp only [h1, h2, h3, g3, h4, Bool.not_true, Bool.not_false, Bool.true_or, Bool.false_or, Bool.and_true, Bool.true_and, Bool.and_false, Bool.false_and]))
      have u1 : (bits .and .i64 dd 1 == 0) = true := by have := h1; unfold bitZ at this; simpa using this
      have t1 : decide (bits .and .i64 dd 1 = 0) = true := by have := u1; simpa using this
      have u2 : (bits .and .i64 dd 2 == 0) = true := by have := h2; unfold bitZ at this; simpa using this
      have t2 : decide (bits .and .i64 dd 2 = 0) = true := by have := u2; simpa using this
      have u3 : (bits .and .i64 dd 4 == 0) = false := by have := h3; unfold bitZ at this; simpa using this
      have t3 : decide (bits .and .i64 dd 4 = 0) = false := by have := u3; simpa using this
      have u4 : (bits .and .i64 dd 8 == 0) = true := by have := h4; unfold bitZ at this; simpa using this
      have t4 : decide (bits .and .i64 dd 8 = 0) = true := by have := u4; simpa using this
      clear HG h1 h2 h3 h4
      go_wp2_with fail
      refine (HC.out _ (Below.refl _ _)).mono ?_
      rw [g3]
      rintro e w3 ⟨rfl, hq⟩
      replace k3 := k3.grows hq
      replace k4 := k4.grows hq
      replace hB := below_grows hB (Nat.le_refl _) hq
      clear hq x3 x4
      have x3 := k3.cell
      have x4 := k4.cell
      go_wp2
      go_ret
      exact ⟨ret_bool HE.out.symm, hB⟩
     | true =>
      cases g4 : decide (a.s = b.s) with
      | false =>
       have HE : Hid (agD dd a b = false) := Lib.hid (HG.out.trans (by simp only [h1, h2, h3, g3, h4, g4, Bool.not_true, Bool.not_false, Bool.true_or, Bool.false_or, Bool.and_true, Bool.true_and, Bool.and_false, Bool.false_and]))
       have u1 : (bits .and .i64 dd 1 == 0) = true := by have := h1; unfold bitZ at this; simpa using this
       have t1 : decide (bits .and .i64 dd 1 = 0) = true := by have := u1; simpa using this
       have u2 : (bits .and .i64 dd 2 == 0) = true := by have := h2; unfold bitZ at this; simpa using this
       have t2 : decide (bits .and .i64 dd 2 = 0) = true := by have := u2; simpa using this
       have u3 : (bits .and .i64 dd 4 == 0) = false := by have := h3; unfold bitZ at this; simpa using this
       have t3 : decide (bits .and .i64 dd 4 = 0) = false := by have := u3; simpa using this
       have u4 : (bits .and .i64 dd 8 == 0) = false := by have := h4; unfold bitZ at this; simpa using this
       have t4 : decide (bits .and .i64 dd 8 = 0) = false := by have := u4; simpa using this
       have v4 : (a.s == b.s) = false := by have := g4; simpa using this
       clear HG h1 h2 h3 h4
       go_wp2_with fail
       refine (HC.out _ (Below.refl _ _)).mono ?_
       rw [g3]
       rintro e w3 ⟨rfl, hq⟩
       replace k3 := k3.grows hq
       replace k4 := k4.grows hq
       replace hB := below_grows hB (Nat.le_refl _) hq
       clear hq x3 x4
       have x3 := k3.cell
       have x4 := k4.cell
       go_wp2
       go_ret
       exact ⟨ret_bool HE.out.symm, hB⟩
      | true =>
       have HE : Hid (agD dd a b = true) := Lib.hid (HG.out.trans (by simp only [h1, h2, h3, g3, h4, g4, Bool.not_true, Bool.not_false, Bool.true_or, Bool.false_or, Bool.and_true, Bool.true_and, Bool.and_false, Bool.false_and]))
       have u1 : (bits .and .i64 dd 1 == 0) = true := by have := h1; unfold bitZ at this; simpa using this
       have t1 : decide (bits .and .i64 dd 1 = 0) = true := by have := u1; simpa using this
       have u2 : (bits .and .i64 dd 2 == 0) = true := by have := h2; unfold bitZ at this; simpa using this
       have t2 : decide (bits .and .i64 dd 2 = 0) = true := by have := u2; simpa using this
       have u3 : (bits .and .i64 dd 4 == 0) = false := by have := h3; unfold bitZ at this; simpa using this
       have t3 : decide (bits .and .i64 dd 4 = 0) = false := by have := u3; simpa using this
       have u4 : (bits .and .i64 dd 8 == 0) = false := by have := h4; unfold bitZ at this; simpa using this
       have t4 : decide (bits .and .i64 dd 8 = 0) = false := by have := u4; simpa using this
       have v4 : (a.s == b.s) = true := by have := g4; simpa using this
       clear HG h1 h2 h3 h4
       go_wp2_with fail
       refine (HC.out _ (Below.refl _ _)).mono ?_
       rw [g3]
       rintro e w3 ⟨rfl, hq⟩
       replace k3 := k3.grows hq
       replace k4 := k4.grows hq
       replace hB := below_grows hB (Nat.le_refl _) hq
       clear hq x3 x4
       have x3 := k3.cell
       have x4 := k4.cell
       go_wp2
       go_ret
       exact ⟨ret_bool HE.out.symm, hB⟩
  | true =>
   cases g2 : decide (a.r = b.r) with
   | false =>
    have HE : Hid (agD dd a b = false) := Lib.hid (HG.out.trans (by simp only [h1, h2, g2, Bool.not_true, Bool.not_false, Bool.true_or, Bool.false_or, Bool.and_true, Bool.true_and, Bool.and_false, Bool.false_and]))
    have u1 : (bits .and .i64 dd 1 == 0) = true := by have := h1; unfold bitZ at this; simpa using this
    have t1 : decide (bits .and .i64 dd 1 = 0) = true := by have := u1; simpa using this
    have u2 : (bits .and .i64 dd 2 == 0) = false := by have := h2; unfold bitZ at this; simpa using this
    have t2 : decide (bits .and .i64 dd 2 = 0) = false := by have := u2; simpa using this
    have v2 : (a.r == b.r) = false := by have := g2; simpa using this
    clear HG h1 h2
    go_wp2
    go_ret
    exact ⟨ret_bool HE.out.symm, hB⟩
   | true =>
    cases h3 : bitZ dd 4 with
    | false =>
     cases h4 : bitZ dd 8 with
     | false =>
      have HE : Hid (agD dd a b = true) := Lib.hid (HG.out.trans (by simp only [h1, h2, g2, h3, h4, Bool.not_true, Bool.not_false, Bool.true_or, Bool.false_or, Bool.and_true, Bool.true_and, Bool.and_false, Bool.false_and]))
      have u1 : (bits .and .i64 dd 1 == 0) = true := by have := h1; unfold bitZ at this; simpa using this
      have t1 : decide (bits .and .i64 dd 1 = 0) = true := by have := u1; simpa using this
      have u2 : (bits .and .i64 dd 2 == 0) = false := by have := h2; unfold bitZ at this; simpa using this
      have t2 : decide (bits .and .i64 dd 2 = 0) = false := by have := u2; simpa using this
      have v2 : (a.r == b.r) = true := by have := g2; simpa using this
      have u3 : (bits .and .i64 dd 4 == 0) = true := by have := h3; unfold bitZ at this; simpa using this
      have t3 : decide (bits .and .i64 dd 4 = 0) = true := by have := u3; simpa using this
      have u4 : (bits .and .i64 dd 8 == 0) = true := by have := h4; unfold bitZ at this; simpa using this
      have t4 : decide (bits .and .i64 dd 8 = 0) = true := by have := u4; simpa using this
      clear HG h1 h2 h3 h4
      go_wp2
      go_ret
      exact ⟨ret_bool HE.out.symm, hB⟩
     | true =>
      cases g4 : decide (a.s = b.s) with
      | false =>
       have HE : Hid (agD dd a b = false) := Lib.hid (HG.out.trans (by simp only [h1, h2, g2, h3, h4, g4, Bool.not_true, Bool.not_false, Bool.true_or, Bool.false_or, Bool.and_true, Bool.true_and, Bool.and_false, Bool.false_and]))
       have u1 : (bits .and .i64 dd 1 == 0) = true := by have := h1; unfold bitZ at this; simpa using this
       have t1 : decide (bits .and .i64 dd 1 = 0) = true := by have := u1; simpa using this
       have u2 : (bits .and .i64 dd 2 == 0) = false := by have := h2; unfold bitZ at this; simpa using this
       have t2 : decide (bits .and .i64 dd 2 = 0) = false := by have := u2; simpa using this
       have v2 : (a.r == b.r) = true := by have := g2; simpa using this
       have u3 : (bits .and .i64 dd 4 == 0) = true := by have := h3; unfold bitZ at this; simpa using this
       have t3 : decide (bits .and .i64 dd 4 = 0) = true := by have := u3; simpa using this
       have u4 : (bits .and .i64 dd 8 == 0) = false := by have := h4; unfold bitZ at this; simpa using this
       have t4 : decide (bits .and .i64 dd 8 = 0) = false := by have := u4; simpa using this
       have v4 : (a.s == b.s) = false := by have := g4; simpa using this
       clear HG h1 h2 h3 h4
       go_wp2
       go_ret
       exact ⟨ret_bool HE.out.symm, hB⟩
      | true =>
       have HE : Hid (agD dd a b = true) := Lib.hid (HG.out.trans (by simp only [h1, h2, g2, h3, h4, g4, Bool.not_true, Bool.not_false, Bool.true_or, Bool.false_or, Bool.and_true, Bool.true_and, Bool.and_false, Bool.false_and]))
       have u1 : (bits .and .i64 dd 1 == 0) = true := by have := h1; unfold bitZ at this; simpa using this
       have t1 : decide (bits .and .i64 dd 1 = 0) = true := by have := u1; simpa using this
       have u2 : (bits .and .i64 dd 2 == 0) = false := by have := h2; unfold bitZ at this; simpa using this
       have t2 : decide (bits .and .i64 dd 2 = 0) = false := by have := u2; simpa using this
       have v2 : (a.r == b.r) = true := by have := g2; simpa using this
       have u3 : (bits .and .i64 dd 4 == 0) = true := by have := h3; unfold bitZ at this; simpa using this
       have t3 : decide (bits .and .i64 dd 4 = 0) = true := by have := u3; simpa using this
       have u4 : (bits .and .i64 dd 8 == 0) = false := by have := h4; unfold bitZ at this; simpa using this
       have t4 : decide (bits .and .i64 dd 8 = 0) = false := by have := u4; simpa using this
       have v4 : (a.s == b.s) = true := by have := g4; simpa using this
       clear HG h1 h2 h3 h4
       go_wp2
       go_ret
       exact ⟨ret_bool HE.out.symm, hB⟩
    | true =>
     cases g3 : decide (a.m = b.m) with
     | false =>
      have HE : Hid (agD dd a b = false) := Lib.hid (HG.out.trans (by simp only [h1, h2, g2, h3, g3, Bool.not_true, Bool.not_false, Bool.true_or, Bool.false_or, Bool.and_true, Bool.true_and, Bool.and_false, Bool.false_and]))
      have u1 : (bits .and .i64 dd 1 == 0) = true := by have := h1; unfold bitZ at this; simpa using this
      have t1 : decide (bits .and .i64 dd 1 = 0) = true := by have := u1; simpa using this
      have u2 : (bits .and .i64 dd 2 == 0) = false := by have := h2; unfold bitZ at this; simpa using this
      have t2 : decide (bits .and .i64 dd 2 = 0) = false := by have := u2; simpa using this
      have v2 : (a.r == b.r) = true := by have := g2; simpa using this
      have u3 : (bits .and .i64 dd 4 == 0) = false := by have := h3; unfold bitZ at this; simpa using this
      have t3 : decide (bits .and .i64 dd 4 = 0) = false := by have := u3; simpa using this
      clear HG h1 h2 h3
      go_wp2_with fail
      refine (HC.out _ (Below.refl _ _)).mono ?_
      rw [g3]
      rintro e w3 ⟨rfl, hq⟩
      replace k3 := k3.grows hq
      replace k4 := k4.grows hq
      replace hB := below_grows hB (Nat.le_refl _) hq
      clear hq x3 x4
      have x3 := k3.cell
      have x4 := k4.cell
      go_wp2
      go_ret
      exact ⟨ret_bool HE.out.symm, hB⟩
     | true =>
      cases h4 : bitZ dd 8 with
      | false =>
       have HE : Hid (agD dd a b = true) := Lib.hid (HG.out.trans (by simp only [h1, h2, g2, h3, g3, h4, Bool.not_true, Bool.not_false, Bool.true_or, Bool.false_or, Bool.and_true, Bool.true_and, Bool.and_false, Bool.false_and]))
       have u1 : (bits .and .i64 dd 1 == 0) = true := by have := h1; unfold bitZ at this; simpa using this
       have t1 : decide (bits .and .i64 dd 1 = 0) = true := by have := u1; simpa using this
       have u2 : (bits .and .i64 dd 2 == 0) = false := by have := h2; unfold bitZ at this; simpa using this
       have t2 : decide (bits .and .i64 dd 2 = 0) = false := by have := u2; simpa using this
       have v2 : (a.r == b.r) = true := by have := g2; simpa using this
       have u3 : (bits .and .i64 dd 4 == 0) = false := by have := h3; unfold bitZ at this; simpa using this
       have t3 : decide (bits .and .i64 dd 4 = 0) = false := by have := u3; simpa using this
       have u4 : (bits .and .i64 dd 8 == 0) = true := by have := h4; unfold bitZ at this; simpa using this
       have t4 : decide (bits .and .i64 dd 8 = 0) = true := by have := u4; simpa using this
       clear HG h1 h2 h3 h4
       go_wp2_with fail
       refine (HC.out _ (Below.refl _ _)).mono ?_
       rw [g3]
       rintro e w3 ⟨rfl, hq⟩
       replace k3 := k3.grows hq
       replace k4 := k4.grows hq
       replace hB := below_grows hB (Nat.le_refl _) hq
       clear hq x3 x4
       have x3 := k3.cell
       have x4 := k4.cell
       go_wp2
       go_ret
       exact ⟨ret_bool HE.out.symm, hB⟩
      | true =>
       cases g4 : decide (a.s = b.s) with
       | false =>
        have HE : Hid (agD dd a b = false) := Lib.hid (HG.out.trans (by simp only [h1, h2, g2, h3, g3, h4, g4, Bool.not_true, Bool.not_false, Bool.true_or, Bool.false_or, Bool.and_true, Bool.true_and, Bool.and_false, Bool.false_and]))
        have u1 : (bits .and .i64 dd 1 == 0) = true := by have := h1; unfold bitZ at this; simpa using this
        have t1 : decide (bits .and .i64 dd 1 = 0) = true := by have := u1; simpa using this
        have u2 : (bits .and .i64 dd 2 == 0) = false := by have := h2; unfold bitZ at this; simpa using this
        have t2 : decide (bits .and .i64 dd 2 = 0) = false := by have := u2; simpa using this
        have v2 : (a.r == b.r) = true := by have := g2; simpa using this
        have u3 : (bits .and .i64 dd 4 == 0) = false := by have := h3; unfold bitZ at this; simpa using this
        have t3 : decide (bits .and .i64 dd 4 = 0) = false := by have := u3; simpa using this
        have u4 : (bits .and .i64 dd 8 == 0) = false := by have := h4; unfold bitZ at this; simpa using this
        have t4 : decide (bits .and .i64 dd 8 = 0) = false := by have := u4; simpa using this
        have v4 : (a.s == b.s) = false := by have := g4; simpa using this
        clear HG h1 h2 h3 h4
        go_wp2_with fail
        refine (HC.out _ (Below.refl _ _)).mono ?_
        rw [g3]
        rintro e w3 ⟨rfl, hq⟩
        replace k3 := k3.grows hq
        replace k4 := k4.grows hq
        replace hB := below_grows hB (Nat.le_refl _) hq
        clear hq x3 x4
        have x3 := k3.cell
        have x4 := k4.cell
        go_wp2
        go_ret
        exact ⟨ret_bool HE.out.symm, hB⟩
       | true =>
        have HE : Hid (agD dd a b = true) := Lib.hid (HG.out.trans (by simp only [h1, h2, g2, h3, g3, h4, g4, Bool.not_true, Bool.not_false, Bool.true_or, Bool.false_or, Bool.and_true, Bool.true_and, Bool.and_false, Bool.false_and]))
        have u1 : (bits .and .i64 dd 1 == 0) = true := by have := h1; unfold bitZ at this; simpa using this
        have t1 : decide (bits .and .i64 dd 1 = 0) = true := by have := u1; simpa using this
        have u2 : (bits .and .i64 dd 2 == 0) = false := by have := h2; unfold bitZ at this; simpa using this
        have t2 : decide (bits .and .i64 dd 2 = 0) = false := by have := u2; simpa using this
        have v2 : (a.r == b.r) = true := by have := g2; simpa using this
        have u3 : (bits .and .i64 dd 4 == 0) = false := by have := h3; unfold bitZ at this; simpa using this
        have t3 : decide (bits .and .i64 dd 4 = 0) = false := by have := u3; simpa using this
        have u4 : (bits .and .i64 dd 8 == 0) = false := by have := h4; unfold bitZ at this; simpa using this
        have t4 : decide (bits .and .i64 dd 8 = 0) = false := by have := u4; simpa using this
        have v4 : (a.s == b.s) = true := by have := g4; simpa using this
        clear HG h1 h2 h3 h4
        go_wp2_with fail
        refine (HC.out _ (Below.refl _ _)).mono ?_
        rw [g3]
        rintro e w3 ⟨rfl, hq⟩
        replace k3 := k3.grows hq
        replace k4 := k4.grows hq
        replace hB := below_grows hB (Nat.le_refl _) hq
        clear hq x3 x4
        have x3 := k3.cell
        have x4 := k4.cell
        go_wp2
        go_ret
        exact ⟨ret_bool HE.out.symm, hB⟩
 | true =>
  cases g1 : decide (a.k = b.k) with
  | false =>
   have HE : Hid (agD dd a b = false) := Lib.hid (HG.out.trans (by simp only [h1, g1, Bool.not_true, Bool.not_false, Bool.true_or, Bool.false_or, Bool.and_true, Bool.true_and, Bool.and_false, Bool.false_and]))
   have u1 : (bits .and .i64 dd 1 == 0) = false := by have := h1; unfold bitZ at this; simpa using this
   have t1 : decide (bits .and .i64 dd 1 = 0) = false := by have := u1; simpa using this
   have v1 : (a.k == b.k) = false := by have := g1; simpa using this
   clear HG h1
   go_wp2
   go_ret
   exact ⟨ret_bool HE.out.symm, hB⟩
  | true =>
   cases h2 : bitZ dd 2 with
   | false =>
    cases h3 : bitZ dd 4 with
    | false =>
     cases h4 : bitZ dd 8 with
     | false =>
      have HE : Hid (agD dd a b = true) := Lib.hid (HG.out.trans (by simp only [h1, g1, h2, h3, h4, Bool.not_true, Bool.not_false, Bool.true_or, Bool.false_or, Bool.and_true, Bool.true_and, Bool.and_false, Bool.false_and]))
      have u1 : (bits .and .i64 dd 1 == 0) = false := by have := h1; unfold bitZ at this; simpa using this
      have t1 : decide (bits .and .i64 dd 1 = 0) = false := by have := u1; simpa using this
      have v1 : (a.k == b.k) = true := by have := g1; simpa using this
      have u2 : (bits .and .i64 dd 2 == 0) = true := by have := h2; unfold bitZ at this; simpa using this
      have t2 : decide (bits .and .i64 dd 2 = 0) = true := by have := u2; simpa using this
      have u3 : (bits .and .i64 dd 4 == 0) = true := by have := h3; unfold bitZ at this; simpa using this
      have t3 : decide (bits .and .i64 dd 4 = 0) = true := by have := u3; simpa using this
      have u4 : (bits .and .i64 dd 8 == 0) = true := by have := h4; unfold bitZ at this; simpa using this
      have t4 : decide (bits .and .i64 dd 8 = 0) = true := by have := u4; simpa using this
      clear HG h1 h2 h3 h4
      go_wp2
      go_ret
      exact ⟨ret_bool HE.out.symm, hB⟩
     | true =>
      cases g4 : decide (a.s = b.s) with
      | false =>
       have HE : Hid (agD dd a b = false) := Lib.hid (HG.out.trans (by simp only [h1, g1, h2, h3, h4, g4, Bool.not_true, Bool.not_false, Bool.true_or, Bool.false_or, Bool.and_true, Bool.true_and, Bool.and_false, Bool.false_and]))
       have u1 : (bits .and .i64 dd 1 == 0) = false := by have := h1; unfold bitZ at this; simpa using this
       have t1 : decide (bits .and .i64 dd 1 = 0) = false := by have := u1; simpa using this
       have v1 : (a.k == b.k) = true := by have := g1; simpa using this
       have u2 : (bits .and .i64 dd 2 == 0) = true := by have := h2; unfold bitZ at this; simpa using this
       have t2 : decide (bits .and .i64 dd 2 = 0) = true := by have := u2; simpa using this
       have u3 : (bits .and .i64 dd 4 == 0) = true := by have := h3; unfold bitZ at this; simpa using this
       have t3 : decide (bits .and .i64 dd 4 = 0) = true := by have := u3; simpa using this
       have u4 : (bits .and .i64 dd 8 == 0) = false := by have := h4; unfold bitZ at this; simpa using this
       have t4 : decide (bits .and .i64 dd 8 = 0) = false := by have := u4; simpa using this
       have v4 : (a.s == b.s) = false := by have := g4; simpa using this
       clear HG h1 h2 h3 h4
       go_wp2
       go_ret
       exact ⟨ret_bool HE.out.symm, hB⟩
      | true =>
       have HE : Hid (agD dd a b = true) := Lib.hid (HG.out.trans (by simp only [h1, g1, h2, h3, h4, g4, Bool.not_true, Bool.not_false, Bool.true_or, Bool.false_or, Bool.and_true, Bool.true_and, Bool.and_false, Bool.false_and]))
       have u1 : (bits .and .i64 dd 1 == 0) = false := by have := h1; unfold bitZ at this; simpa using this
       have t1 : decide (bits .and .i64 dd 1 = 0) = false := by have := u1; simpa using this
       have v1 : (a.k == b.k) = true := by have := g1; simpa using this
       have u2 : (bits .and .i64 dd 2 == 0) = true := by have := h2; unfold bitZ at this; simpa using this
       have t2 : decide (bits .and .i64 dd 2 = 0) = true := by have := u2; simpa using this
       have u3 : (bits .and .i64 dd 4 == 0) = true := by have := h3; unfold bitZ at this; simpa using this
       have t3 : decide (bits .and .i64 dd 4 = 0) = true := by have := u3; simpa using this
       have u4 : (bits .and .i64 dd 8 == 0) = false := by have := h4; unfold bitZ at this; simpa using this
       have t4 : decide (bits .and .i64 dd 8 = 0) = false := by have := u4; simpa using this
       have v4 : (a.s == b.s) = true := by have := g4; simpa using this
       clear HG h1 h2 h3 h4
       go_wp2
       go_ret
       exact ⟨ret_bool HE.out.symm, hB⟩
    | true =>
     cases g3 : decide (a.m = b.m) with
     | false =>
      have HE : Hid (agD dd a b = false) := Lib.hid (HG.out.trans (by simp only [h1, g1, h2, h3, g3, Bool.not_true, Bool.not_false, Bool.true_or, Bool.false_or, Bool.and_true, Bool.true_and, Bool.and_false, Bool.false_and]))
      have u1 : (bits .and .i64 dd 1 == 0) = false := by have := h1; unfold bitZ at this; simpa using this
      have t1 : decide (bits .and .i64 dd 1 = 0) = false := by have := u1; simpa using this
      have v1 : (a.k == b.k) = true := by have := g1; simpa using this
      have u2 : (bits .and .i64 dd 2 == 0) = true := by have := h2; unfold bitZ at this; simpa using this
      have t2 : decide (bits .and .i64 dd 2 = 0) = true := by have := u2; simpa using this
      have u3 : (bits .and .i64 dd 4 == 0) = false := by have := h3; unfold bitZ at this; simpa using this
      have t3 : decide (bits .and .i64 dd 4 = 0) = false := by have := u3; simpa using this
      clear HG h1 h2 h3
      go_wp2_with fail
      refine (HC.out _ (Below.refl _ _)).mono ?_
      rw [g3]
      rintro e w3 ⟨rfl, hq⟩
      replace k3 := k3.grows hq
      replace k4 := k4.grows hq
      replace hB := below_grows hB (Nat.le_refl _) hq
      clear hq x3 x4
      have x3 := k3.cell
      have x4 := k4.cell
      go_wp2
      go_ret
      exact ⟨ret_bool HE.out.symm, hB⟩
     | true =>
      cases h4 : bitZ dd 8 with
      | false =>
       have HE : Hid (agD dd a b = true) := Lib.hid (HG.out.trans (by simp only [h1, g1, h2, h3, g3, h4, Bool.not_true, Bool.not_false, Bool.true_or, Bool.false_or, Bool.and_true, Bool.true_and, Bool.and_false, Bool.false_and]))
       have u1 : (bits .and .i64 dd 1 == 0) = false := by have := h1; unfold bitZ at this; simpa using this
       have t1 : decide (bits .and .i64 dd 1 = 0) = false := by have := u1; simpa using this
       have v1 : (a.k == b.k) = true := by have := g1; simpa using this
       have u2 : (bits .and .i64 dd 2 == 0) = true := by have := h2; unfold bitZ at this; simpa using this
       have t2 : decide (bits .and .i64 dd 2 = 0) = true := by have := u2; simpa using this
       have u3 : (bits .and .i64 dd 4 == 0) = false := by have := h3; unfold bitZ at this; simpa using this
       have t3 : decide (bits .and .i64 dd 4 = 0) = false := by have := u3; simpa using this
       have u4 : (bits .and .i64 dd 8 == 0) = true := by have := h4; unfold bitZ at this; simpa using this
       have t4 : decide (bits .and .i64 dd 8 = 0) = true := by have := u4; simpa using this
       clear HG h1 h2 h3 h4
       go_wp2_with fail
       refine (HC.out _ (Below.refl _ _)).mono ?_
       rw [g3]
       rintro e w3 ⟨rfl, hq⟩
       replace k3 := k3.grows hq
       replace k4 := k4.grows hq
       replace hB := below_grows hB (Nat.le_refl _) hq
       clear hq x3 x4
       have x3 := k3.cell
       have x4 := k4.cell
       go_wp2
       go_ret
       exact ⟨ret_bool HE.out.symm, hB⟩
      | true =>
       cases g4 : decide (a.s = b.s) with
       | false =>
        have HE : Hid (agD dd a b = false) := Lib.hid (HG.out.trans (by simp only [h1, g1, h2, h3, g3, h4, g4, Bool.not_true, Bool.not_false, Bool.true_or, Bool.false_or, Bool.and_true, Bool.true_and, Bool.and_false, Bool.false_and]))
        have u1 : (bits .and .i64 dd 1 == 0) = false := by have := h1; unfold bitZ at this; simpa using this
        have t1 : decide (bits .and .i64 dd 1 = 0) = false := by have := u1; simpa using this
        have v1 : (a.k == b.k) = true := by have := g1; simpa using this
        have u2 : (bits .and .i64 dd 2 == 0) = true := by have := h2; unfold bitZ at this; simpa using this
        have t2 : decide (bits .and .i64 dd 2 = 0) = true := by have := u2; simpa using this
        have u3 : (bits .and .i64 dd 4 == 0) = false := by have := h3; unfold bitZ at this; simpa using this
        have t3 : decide (bits .and .i64 dd 4 = 0) = false := by have := u3; simpa using this
        have u4 : (bits .and .i64 dd 8 == 0) = false := by have := h4; unfold bitZ at this; simpa using this
        have t4 : decide (bits .and .i64 dd 8 = 0) = false := by have := u4; simpa using this
        have v4 : (a.s == b.s) = false := by have := g4; simpa using this
        clear HG h1 h2 h3 h4
        go_wp2_with fail
        refine (HC.out _ (Below.refl _ _)).mono ?_
        rw [g3]
        rintro e w3 ⟨rfl, hq⟩
        replace k3 := k3.grows hq
        replace k4 := k4.grows hq
        replace hB := below_grows hB (Nat.le_refl _) hq
        clear hq x3 x4
        have x3 := k3.cell
        have x4 := k4.cell
        go_wp2
        go_ret
        exact ⟨ret_bool HE.out.symm, hB⟩
       | true =>
        have HE : Hid (agD dd a b = true) := Lib.hid (HG.out.trans (by simp only [h1, g1, h2, h3, g3, h4, g4, Bool.not_true, Bool.not_false, Bool.true_or, Bool.false_or, Bool.and_true, Bool.true_and, Bool.and_false, Bool.false_and]))
        have u1 : (bits .and .i64 dd 1 == 0) = false := by have := h1; unfold bitZ at this; simpa using this
        have t1 : decide (bits .and .i64 dd 1 = 0) = false := by have := u1; simpa using this
        have v1 : (a.k == b.k) = true := by have := g1; simpa using this
        have u2 : (bits .and .i64 dd 2 == 0) = true := by have := h2; unfold bitZ at this; simpa using this
        have t2 : decide (bits .and .i64 dd 2 = 0) = true := by have := u2; simpa using this
        have u3 : (bits .and .i64 dd 4 == 0) = false := by have := h3; unfold bitZ at this; simpa using this
        have t3 : decide (bits .and .i64 dd 4 = 0) = false := by have := u3; simpa using this
        have u4 : (bits .and .i64 dd 8 == 0) = false := by have := h4; unfold bitZ at this; simpa using this
        have t4 : decide (bits .and .i64 dd 8 = 0) = false := by have := u4; simpa using this
        have v4 : (a.s == b.s) = true := by have := g4; simpa using this
        clear HG h1 h2 h3 h4
        go_wp2_with fail
        refine (HC.out _ (Below.refl _ _)).mono ?_
        rw [g3]
        rintro e w3 ⟨rfl, hq⟩
        replace k3 := k3.grows hq
        replace k4 := k4.grows hq
        replace hB := below_grows hB (Nat.le_refl _) hq
        clear hq x3 x4
        have x3 := k3.cell
        have x4 := k4.cell
        go_wp2
        go_ret
        exact ⟨ret_bool HE.out.symm, hB⟩
   | true =>
    cases g2 : decide (a.r = b.r) with
    | false =>
     have HE : Hid (agD dd a b = false) := Lib.hid (HG.out.trans (by simp only [h1, g1, h2, g2, Bool.not_true, Bool.not_false, Bool.true_or, Bool.false_or, Bool.and_true, Bool.true_and, Bool.and_false, Bool.false_and]))
     have u1 : (bits .and .i64 dd 1 == 0) = false := by have := h1; unfold bitZ at this; simpa using this
     have t1 : decide (bits .and .i64 dd 1 = 0) = false := by have := u1; simpa using this
     have v1 : (a.k == b.k) = true := by have := g1; simpa using this
     have u2 : (bits .and .i64 dd 2 == 0) = false := by have := h2; unfold bitZ at this; simpa using this
     have t2 : decide (bits .and .i64 dd 2 = 0) = false := by have := u2; simpa using this
     have v2 : (a.r == b.r) = false := by have := g2; simpa using this
     clear HG h1 h2
     go_wp2
     go_ret
     exact ⟨ret_bool HE.out.symm, hB⟩
    | true =>
     cases h3 : bitZ dd 4 with
     | false =>
      cases h4 : bitZ dd 8 with
      | false =>
       have HE : Hid (agD dd a b = true) := Lib.hid (HG.out.trans (by simp only [h1, g1, h2, g2, h3, h4, Bool.not_true, Bool.not_false, Bool.true_or, Bool.false_or, Bool.and_true, Bool.true_and, Bool.and_false, Bool.false_and]))
       have u1 : (bits .and .i64 dd 1 == 0) = false := by have := h1; unfold bitZ at this; simpa using this
       have t1 : decide (bits .and .i64 dd 1 = 0) = false := by have := u1; simpa using this
       have v1 : (a.k == b.k) = true := by have := g1; simpa using this
       have u2 : (bits .and .i64 dd 2 == 0) = false := by have := h2; unfold bitZ at this; simpa using this
       have t2 : decide (bits .and .i64 dd 2 = 0) = false := by have := u2; simpa using this
       have v2 : (a.r == b.r) = true := by have := g2; simpa using this
       have u3 : (bits .and .i64 dd 4 == 0) = true := by have := h3; unfold bitZ at this; simpa using this
       have t3 : decide (bits .and .i64 dd 4 = 0) = true := by have := u3; simpa using this
       have u4 : (bits .and .i64 dd 8 == 0) = true := by have := h4; unfold bitZ at this; simpa using this
       have t4 : decide (bits .and .i64 dd 8 = 0) = true := by have := u4; simpa using this
       clear HG h1 h2 h3 h4
       go_wp2
       go_ret
       exact ⟨ret_bool HE.out.symm, hB⟩
      | true =>
       cases g4 : decide (a.s = b.s) with
       | false =>
        have HE : Hid (agD dd a b = false) := Lib.hid (HG.out.trans (by simp only [h1, g1, h2, g2, h3, h4, g4, Bool.not_true, Bool.not_false, Bool.true_or, Bool.false_or, Bool.and_true, Bool.true_and, Bool.and_false, Bool.false_and]))
        have u1 : (bits .and .i64 dd 1 == 0) = false := by have := h1; unfold bitZ at this; simpa using this
        have t1 : decide (bits .and .i64 dd 1 = 0) = false := by have := u1; simpa using this
        have v1 : (a.k == b.k) = true := by have := g1; simpa using this
        have u2 : (bits .and .i64 dd 2 == 0) = false := by have := h2; unfold bitZ at this; simpa using this
        have t2 : decide (bits .and .i64 dd 2 = 0) = false := by have := u2; simpa using this
        have v2 : (a.r == b.r) = true := by have := g2; simpa using this
        have u3 : (bits .and .i64 dd 4 == 0) = true := by have := h3; unfold bitZ at this; simpa using this
        have t3 : decide (bits .and .i64 dd 4 = 0) = true := by have := u3; simpa using this
        have u4 : (bits .and .i64 dd 8 == 0) = false := by have := h4; unfold bitZ at this; simpa using this
        have t4 : decide (bits .and .i64 dd 8 = 0) = false := by have := u4; simpa using this
        have v4 : (a.s == b.s) = false := by have := g4; simpa using this
        clear HG h1 h2 h3 h4
        go_wp2
        go_ret
        exact ⟨ret_bool HE.out.symm, hB⟩
       | true =>
        have HE : Hid (agD dd a b = true) := Lib.hid (HG.out.trans (by simp only [h1, g1, h2, g2, h3, h4, g4, Bool.not_true, Bool.not_false, Bool.true_or, Bool.false_or, Bool.and_true, Bool.true_and, Bool.and_false, Bool.false_and]))
        have u1 : (bits .and .i64 dd 1 == 0) = false := by have := h1; unfold bitZ at this; simpa using this
        have t1 : decide (bits .and .i64 dd 1 = 0) = false := by have := u1; simpa using this
        have v1 : (a.k == b.k) = true := by have := g1; simpa using this
        have u2 : (bits .and .i64 dd 2 == 0) = false := by have := h2; unfold bitZ at this; simpa using this
        have t2 : decide (bits .and .i64 dd 2 = 0) = false := by have := u2; simpa using this
        have v2 : (a.r == b.r) = true := by have := g2; simpa using this
        have u3 : (bits .and .i64 dd 4 == 0) = true := by have := h3; unfold bitZ at this; simpa using this
        have t3 : decide (bits .and .i64 dd 4 = 0) = true := by have := u3; simpa using this
        have u4 : (bits .and .i64 dd 8 == 0) = false := by have := h4; unfold bitZ at this; simpa using this
        have t4 : decide (bits .and .i64 dd 8 = 0) = false := by have := u4; simpa using this
        have v4 : (a.s == b.s) = true := by have := g4; simpa using this
        clear HG h1 h2 h3 h4
        go_wp2
        go_ret
        exact ⟨ret_bool HE.out.symm, hB⟩
     | true =>
      cases g3 : decide (a.m = b.m) with
      | false =>
       have HE : Hid (agD dd a b = false) := Lib.hid (HG.out.trans (by simp only [h1, g1, h2, g2, h3, g3, Bool.not_true, Bool.not_false, Bool.true_or, Bool.false_or, Bool.and_true, Bool.true_and, Bool.and_false, Bool.false_and]))
       have u1 : (bits .and .i64 dd 1 == 0) = false := by have := h1; unfold bitZ at this; simpa using this
       have t1 : decide (bits .and .i64 dd 1 = 0) = false := by have := u1; simpa using this
       have v1 : (a.k == b.k) = true := by have := g1; simpa using this
       have u2 : (bits .and .i64 dd 2 == 0) = false := by have := h2; unfold bitZ at this; simpa using this
       have t2 : decide (bits .and .i64 dd 2 = 0) = false := by have := u2; simpa using this
       have v2 : (a.r == b.r) = true := by have := g2; simpa using this
       have u3 : (bits .and .i64 dd 4 == 0) = false := by have := h3; unfold bitZ at this; simpa using this
       have t3 : decide (bits .and .i64 dd 4 = 0) = false := by have := u3; simpa using this
       clear HG h1 h2 h3
       go_wp2_with fail
       refine (HC.out _ (Below.refl _ _)).mono ?_
       rw [g3]
       rintro e w3 ⟨rfl, hq⟩
       replace k3 := k3.grows hq
       replace k4 := k4.grows hq
       replace hB := below_grows hB (Nat.le_refl _) hq
       clear hq x3 x4
       have x3 := k3.cell
       have x4 := k4.cell
       go_wp2
       go_ret
       exact ⟨ret_bool HE.out.symm, hB⟩
      | true =>
       cases h4 : bitZ dd 8 with
       | false =>
        have HE : Hid (agD dd a b = true) := Lib.hid (HG.out.trans (by simp only [h1, g1, h2, g2, h3, g3, h4, Bool.not_true, Bool.not_false, Bool.true_or, Bool.false_or, Bool.and_true, Bool.true_and, Bool.and_false, Bool.false_and]))
        have u1 : (bits .and .i64 dd 1 == 0) = false := by have := h1; unfold bitZ at this; simpa using this
        have t1 : decide (bits .and .i64 dd 1 = 0) = false := by have := u1; simpa using this
        have v1 : (a.k == b.k) = true := by have := g1; simpa using this
        have u2 : (bits .and .i64 dd 2 == 0) = false := by have := h2; unfold bitZ at this; simpa using this
        have t2 : decide (bits .and .i64 dd 2 = 0) = false := by have := u2; simpa using this
        have v2 : (a.r == b.r) = true := by have := g2; simpa using this
        have u3 : (bits .and .i64 dd 4 == 0) = false := by have := h3; unfold bitZ at this; simpa using this
        have t3 : decide (bits .and .i64 dd 4 = 0) = false := by have := u3; simpa using this
        have u4 : (bits .and .i64 dd 8 == 0) = true := by have := h4; unfold bitZ at this; simpa using this
        have t4 : decide (bits .and .i64 dd 8 = 0) = true := by have := u4; simpa using this
        clear HG h1 h2 h3 h4
        go_wp2_with fail
        refine (HC.out _ (Below.refl _ _)).mono ?_
        rw [g3]
        rintro e w3 ⟨rfl, hq⟩
        replace k3 := k3.grows hq
        replace k4 := k4.grows hq
        replace hB := below_grows hB (Nat.le_refl _) hq
        clear hq x3 x4
        have x3 := k3.cell
        have x4 := k4.cell
        go_wp2
        go_ret
        exact ⟨ret_bool HE.out.symm, hB⟩
       | true =>
        cases g4 : decide (a.s = b.s) with
        | false =>
         have HE : Hid (agD dd a b = false) := Lib.hid (HG.out.trans (by simp only [h1, g1, h2, g2, h3, g3, h4, g4, Bool.not_true, Bool.not_false, Bool.true_or, Bool.false_or, Bool.and_true, Bool.true_and, Bool.and_false, Bool.false_and]))
         have u1 : (bits .and .i64 dd 1 == 0) = false := by have := h1; unfold bitZ at this; simpa using this
         have t1 : decide (bits .and .i64 dd 1 = 0) = false := by have := u1; simpa using this
         have v1 : (a.k == b.k) = true := by have := g1; simpa using this
         have u2 : (bits .and .i64 dd 2 == 0) = false := by have := h2; unfold bitZ at this; simpa using this
         have t2 : decide (bits .and .i64 dd 2 = 0) = false := by have := u2; simpa using this
         have v2 : (a.r == b.r) = true := by have := g2; simpa using this
         have u3 : (bits .and .i64 dd 4 == 0) = false := by have := h3; unfold bitZ at this; simpa using this
         have t3 : decide (bits .and .i64 dd 4 = 0) = false := by have := u3; simpa using this
         have u4 : (bits .and .i64 dd 8 == 0) = false := by have := h4; unfold bitZ at this; simpa using this
         have t4 : decide (bits .and .i64 dd 8 = 0) = false := by have := u4; simpa using this
         have v4 : (a.s == b.s) = false := by have := g4; simpa using this
         clear HG h1 h2 h3 h4
         go_wp2_with fail
         refine (HC.out _ (Below.refl _ _)).mono ?_
         rw [g3]
         rintro e w3 ⟨rfl, hq⟩
         replace k3 := k3.grows hq
         replace k4 := k4.grows hq
         replace hB := below_grows hB (Nat.le_refl _) hq
         clear hq x3 x4
         have x3 := k3.cell
         have x4 := k4.cell
         go_wp2
         go_ret
         exact ⟨ret_bool HE.out.symm, hB⟩
        | true =>
         have HE : Hid (agD dd a b = true) := Lib.hid (HG.out.trans (by simp only [h1, g1, h2, g2, h3, g3, h4, g4, Bool.not_true, Bool.not_false, Bool.true_or, Bool.false_or, Bool.and_true, Bool.true_and, Bool.and_false, Bool.false_and]))
         have u1 : (bits .and .i64 dd 1 == 0) = false := by have := h1; unfold bitZ at this; simpa using this
         have t1 : decide (bits .and .i64 dd 1 = 0) = false := by have := u1; simpa using this
         have v1 : (a.k == b.k) = true := by have := g1; simpa using this
         have u2 : (bits .and .i64 dd 2 == 0) = false := by have := h2; unfold bitZ at this; simpa using this
         have t2 : decide (bits .and .i64 dd 2 = 0) = false := by have := u2; simpa using this
         have v2 : (a.r == b.r) = true := by have := g2; simpa using this
         have u3 : (bits .and .i64 dd 4 == 0) = false := by have := h3; unfold bitZ at this; simpa using this
         have t3 : decide (bits .and .i64 dd 4 = 0) = false := by have := u3; simpa using this
         have u4 : (bits .and .i64 dd 8 == 0) = false := by have := h4; unfold bitZ at this; simpa using this
         have t4 : decide (bits .and .i64 dd 8 = 0) = false := by have := u4; simpa using this
         have v4 : (a.s == b.s) = true := by have := g4; simpa using this
         clear HG h1 h2 h3 h4
         go_wp2_with fail
         refine (HC.out _ (Below.refl _ _)).mono ?_
         rw [g3]
         rintro e w3 ⟨rfl, hq⟩
         replace k3 := k3.grows hq
         replace k4 := k4.grows hq
         replace hB := below_grows hB (Nat.le_refl _) hq
         clear hq x3 x4
         have x3 := k3.cell
         have x4 := k4.cell
         go_wp2
         go_ret
         exact ⟨ret_bool HE.out.symm, hB⟩
end Go.Proofs.Ytjbkjgmcfommgaa

namespace Go.Proofs.Ytjbkjgmcfommgaa
open Go.RowKit
/-- Whether choices fit up to a port. -/
def fitAt (l : List Pt) (cs : List Ch) (i : Nat) : Bool := hasL (l.getD i noPt).b (cs.getD i zeroC) && (decide (i = 0) || agD (keptD (l.getD (i - 1) noPt)) (cs.getD (i - 1) zeroC) (cs.getD i zeroC))
theorem fits_no {l : List Pt} {cs : List Ch} {i : Nat} (hi : i < l.length) (h : fitAt l cs i = false) : fitsF l cs = false := by
 unfold fitsF
 have : ((List.range l.length).all fun i => hasL (l.getD i noPt).b (cs.getD i zeroC) && (decide (i = 0) || agD (keptD (l.getD (i - 1) noPt)) (cs.getD (i - 1) zeroC) (cs.getD i zeroC))) = false := List.all_eq_false.2 ⟨i, List.mem_range.2 hi, by
  have h : (hasL (l.getD i noPt).b (cs.getD i zeroC) && (decide (i = 0) || agD (keptD (l.getD (i - 1) noPt)) (cs.getD (i - 1) zeroC) (cs.getD i zeroC))) = false := h
  rw [h]
  simp⟩
 rw [this, Bool.and_false]
theorem fits_yes {l : List Pt} {cs : List Ch} (hv : validC l = true) (hn : cs.length = l.length) (h : ∀ i, i < l.length → fitAt l cs i = true) : fitsF l cs = true := by
 unfold fitsF
 rw [hv, decide_eq_true hn, Bool.true_and, Bool.true_and, List.all_eq_true]
 exact fun i hi => h i (List.mem_range.1 hi)
theorem fits_bad {l : List Pt} {cs : List Ch} (h : validC l = false) : fitsF l cs = false := by unfold fitsF; rw [h]; rfl
theorem fits_len {l : List Pt} {cs : List Ch} (h : cs.length ≠ l.length) : fitsF l cs = false := by unfold fitsF; rw [decide_eq_false h, Bool.and_false]; rfl
theorem fit_at {l : List Pt} {cs : List Ch} {k : Nat} {p : Pt} {x : Ch} (hp : l[k]? = some p) (hx : cs[k]? = some x) : fitAt l cs k = (hasL p.b x && (decide (k = 0) || agD (keptD (l.getD (k - 1) noPt)) (cs.getD (k - 1) zeroC) x)) := by
 unfold fitAt
 rw [show l.getD k noPt = p by rw [List.getD_eq_getElem?_getD, hp]; rfl, show cs.getD k zeroC = x by rw [List.getD_eq_getElem?_getD, hx]; rfl]
theorem fit_ag {l : List Pt} {cs : List Ch} {k : Nat} {p : Pt} {x : Ch} (hp : l[k]? = some p) (hx : cs[k]? = some x) : agD (keptD (l.getD k noPt)) (cs.getD k zeroC) = agD (bits .andNot .i64 15 p.v) x := by
 rw [show l.getD k noPt = p by rw [List.getD_eq_getElem?_getD, hp]; rfl, show cs.getD k zeroC = x by rw [List.getD_eq_getElem?_getD, hx]; rfl]
 rfl
theorem ge_of {w : World} {ok : Nat → Prop} {A : Option Addr} {x : List Int} (h : InB w ok A x) : Ints w A x := h.1
set_option maxHeartbeats 64000000 in
set_option maxRecDepth 10000 in
theorem fits_any {ok ow : Nat → Prop} {A B : Option Addr} {c d n m : Nat} {l : List Pt} {cs : List Ch} {w : World} (hn : n = l.length) (hm : m = cs.length) (h : Pts w ok A l) (hc : Chs w ow B cs) (hl : l.length ≤ 1000000) (hcl : cs.length ≤ 9223372036854775807) (ho : ∀ p ∈ l, (∀ b ∈ p.b, OKB b) ∧ p.b.length ≤ 1000000) (hco : ∀ x ∈ cs, x.m.length ≤ 1000000) :
 Calls Try.prog 16 #[.slice A n c, .slice B m d] w fun e w' => e = .returned (.bool (fitsF l cs)) ∧ Grows w w' := by
 subst hn hm
 have HO := Lib.hid ho
 have HCO := Lib.hid hco
 clear ho hco
 have hB := Below.refl w.heap.size w
 go_enter Try.func16, Try.ntmps16
 go_wp2_with fail
 refine (nvalid_any rfl (h.grows hB) hl (fun p hp => HO.out p hp)).mono ?_
 rintro e w2 ⟨rfl, hq⟩
 replace hB := below_grows hB (Nat.le_refl _) hq
 clear hq
 cases hv : validC l with
 | false =>
  have HE := Lib.hid (fits_bad (cs := cs) hv)
  clear hv
  go_wp2
  go_ret
  exact ⟨ret_bool HE.out.symm, hB⟩
 | true =>
 have HV := Lib.hid hv
 have hl16 := (valid_ports hv).2.2
 clear hv
 by_cases hcn : cs.length = l.length
 case neg =>
  have HE := Lib.hid (fits_len hcn)
  have e1 : ((cs.length : Int) != (l.length : Int)) = true := by rw [bne_iff_ne]; omega
  have e2 : decide ((cs.length : Int) = (l.length : Int)) = false := by simp only [decide_eq_false_iff_not]; omega
  have e3 : decide (cs.length = l.length) = false := by simp only [decide_eq_false_iff_not]; omega
  clear hcn
  go_wp2
  go_ret
  exact ⟨ret_bool HE.out.symm, hB⟩
 have HCN := Lib.hid hcn
 have e1 : ((cs.length : Int) != (l.length : Int)) = false := by rw [hcn]; simp
 have e2 : decide ((cs.length : Int) = (l.length : Int)) = true := by simp only [decide_eq_true_eq]; omega
 have e3 : decide (cs.length = l.length) = true := by simp only [decide_eq_true_eq]; omega
 clear hcn
 go_upto_region 3 with fail
 clear e1 e2 e3
 go_wp2_with fail
 go_loopw [19] (fun i wr => ∃ k : Nat, k ≤ l.length ∧ i = .int .i64 k ∧ Hid (∀ i, i < k → fitAt l cs i = true) ∧ Below w.heap.size w wr) (fun i _ => l.length - (intOf i).toNat)
 case atStart => exact ⟨0, by omega, rfl, Lib.hid (fun i hi => absurd hi (by omega)), hB⟩
 case round =>
  clear hB
  obtain ⟨k, hk, rfl, HK, hB⟩ := hrel
  by_cases hlt : k < l.length
  ·obtain ⟨ad, p, BP, cp, ea, had, hp, hbx, hcp, q0, q1⟩ := h.elem hB hlt
   subst ea
   obtain ⟨ad2, x, BX, dX, eb, had2, hx, hdX, hix, hcx⟩ := hc.elem hB (show k < cs.length by have := HCN.out; omega)
   subst eb
   have HP := Lib.hid hp
   have HX := Lib.hid hx
   have HPO := Lib.hid (HO.out p (List.mem_of_getElem? hp))
   have HXO := Lib.hid (HCO.out x (List.mem_of_getElem? hx))
   have HAT := Lib.hid (fit_at (l := l) (cs := cs) hp hx)
   have HNO := Lib.hid (fun h => fits_no (l := l) (cs := cs) (i := k) hlt h)
   clear hp hx
   have k6 := Blk.new wr 36 #[.slice BP p.b.length cp, .int .i64 p.v]
   have hq := (Below.refl wr.heap.size wr).alloc (Nat.le_refl _) (Obj.cells #[.slice BP p.b.length cp, .int .i64 p.v] 36)
   go_upto_region 6 with fail
   replace hB := below_grows hB (Nat.le_refl _) hq
   replace hcx := hcx.grows hq (by rw [block_of_add]; exact had2)
   replace hbx := hbx.grows hB
   replace hix := RdB.grows hix hB
   have hszq := hq.size
   clear hq q0 q1
   have had3 : ad.block < (World.alloc wr (Obj.cells #[.slice BP p.b.length cp, .int .i64 p.v] 36)).heap.size := by omega
   have had4 : ad2.block < (World.alloc wr (Obj.cells #[.slice BP p.b.length cp, .int .i64 p.v] 36)).heap.size := by omega
   generalize World.alloc wr _ = w5 at *
   generalize wr.heap.size = G6 at *
   have c1 : (0 : Int) ≤ (k : Int) := by omega
   have c2 : (k : Int) < (l.length : Int) := by omega
   have c3 : (k : Int) < (cs.length : Int) := by have := HCN.out; omega
   have c4 : k < cs.length := by have := HCN.out; omega
   have had5 : (ad2.add (k * 4)).block < w5.heap.size := by rw [block_of_add]; exact had4
   have HH := Lib.hid (fun (w0 : World) (hg : Grows w5 w0) => phasl_any (x := x) (ci := dX) (w := w0) (hbx.grows hg) HPO.out.2 hcp HPO.out.1 (ge_of (RdB.grows hix hg)) HXO.out)
   cases hh : hasL p.b x with
   | false =>
    have HE := Lib.hid (HNO.out (by rw [HAT.out, hh]; rfl))
    rw [hh] at HH
    clear hh
    refine wp_region_mix (fun w' => Grows w5 w') [] 32 57 (by kernel_rfl) (by kernel_rfl) rfl ?_ float_none ?_ ?_
    ·exact fun w1 w2 h0 hg => below_grows h0 (Nat.le_refl _) hg
    ·exact Grows.drew' _
    ·skip
     simp only [List.take_succ_cons, List.take_zero, List.drop_succ_cons, List.drop_zero]
     iterate 32
      first
       | (refine calm_no rfl rfl (a' := ?_) ?_ ?_
          rotate_left 1
          ·simp only [Act.put, List.setIfInBounds_toArray, List.set_cons_succ, List.set_cons_zero]
           rfl)
       | (first | refine calm_plain rfl rfl (v := ?_) (a' := ?_) (fun w1 hw1 => ?_) ?_ ?_ | refine calm_yes rfl rfl (v := ?_) (a' := ?_) (fun w1 hw1 => ?_) ?_ ?_
          rotate_left 2
          ·have h0 := hw1
           have x6 := (k6.grows h0).cell
           obtain ⟨y0, y1, y2, y3⟩ := hcx.grows h0 had5
           go_simp
           first | exact calm_val | (refine calm_call ?_; with_reducible exact HH.out _ h0)
          ·simp only [Act.put, List.setIfInBounds_toArray, List.set_cons_succ, List.set_cons_zero]
           rfl)
     refine calm_done (end_none ?_)
     rintro W2 h0
     replace hB := below_grows hB (Nat.le_refl _) h0
     go_wp2
     go_ret
     exact ⟨ret_bool HE.out.symm, hB⟩
   | true =>
   rw [hh] at HH
   by_cases hk0 : k = 0
   ·have HE : Hid (fitAt l cs k = true) := Lib.hid (by rw [HAT.out, hh, decide_eq_true hk0]; rfl)
    have d1 : decide ((0 : Int) < (k : Int)) = false := by simp only [decide_eq_false_iff_not]; omega
    have d2 : decide (0 < k) = false := by simp only [decide_eq_false_iff_not]; omega
    clear hh hk0
    refine wp_region_mix (fun w' => Grows w5 w') [] 32 57 (by kernel_rfl) (by kernel_rfl) rfl ?_ float_none ?_ ?_
    ·exact fun w1 w2 h0 hg => below_grows h0 (Nat.le_refl _) hg
    ·exact Grows.drew' _
    ·skip
     simp only [List.take_succ_cons, List.take_zero, List.drop_succ_cons, List.drop_zero]
     iterate 32
      first
       | (refine calm_no rfl rfl (a' := ?_) ?_ ?_
          rotate_left 1
          ·simp only [Act.put, List.setIfInBounds_toArray, List.set_cons_succ, List.set_cons_zero]
           rfl)
       | (first | refine calm_plain rfl rfl (v := ?_) (a' := ?_) (fun w1 hw1 => ?_) ?_ ?_ | refine calm_yes rfl rfl (v := ?_) (a' := ?_) (fun w1 hw1 => ?_) ?_ ?_
          rotate_left 2
          ·have h0 := hw1
           have x6 := (k6.grows h0).cell
           obtain ⟨y0, y1, y2, y3⟩ := hcx.grows h0 had5
           go_simp
           first | exact calm_val | (refine calm_call ?_; with_reducible exact HH.out _ h0)
          ·simp only [Act.put, List.setIfInBounds_toArray, List.set_cons_succ, List.set_cons_zero]
           rfl)
     refine calm_done (end_none ?_)
     rintro W2 h0
     replace hB := below_grows hB (Nat.le_refl _) h0
     go_wp2
     go_roundw
     case rel => exact ⟨k + 1, by omega, by go_num, Lib.hid (fun i hi => by
      rcases Nat.lt_or_ge i k with h | h
      ·exact HK.out i h
      ·obtain rfl : i = k := by omega
       exact HE.out), hB⟩
     case measure => simp [intOf]; omega
   ·have d1 : decide ((0 : Int) < (k : Int)) = true := by simp only [decide_eq_true_eq]; omega
    have d2 : decide (0 < k) = true := by simp only [decide_eq_true_eq]; omega
    obtain ⟨j, hj⟩ : ∃ j, k = j + 1 := ⟨k - 1, by omega⟩
    have HJ := Lib.hid hj
    have hwj : IntKind.i64.wrap ((k : Int) - 1) = (j : Int) := by rw [IntWalk.i64_in _ (by omega)]; omega
    have c5 : (0 : Int) ≤ (j : Int) := by omega
    have c6 : (j : Int) < (l.length : Int) := by omega
    have c7 : (j : Int) < (cs.length : Int) := by have := HCN.out; omega
    have c8 : j < l.length := by omega
    have c9 : j < cs.length := by have := HCN.out; omega
    obtain ⟨ad9, p2, BP2, cp2, ea, -, hp2, -, -, q20, q21⟩ := h.elem hB c8
    injection ea with ea
    subst ea
    obtain ⟨ad9, y, BY, dY, eb, -, hy, hdY, hiy, hcy⟩ := hc.elem hB c9
    injection eb with eb
    subst eb
    have hyo := HCO.out y (List.mem_of_getElem? hy)
    have HAG : Hid (fitAt l cs k = agD (bits .andNot .i64 15 p2.v) y x) := Lib.hid (by
     rw [HAT.out, hh, decide_eq_false hk0, hj, Nat.add_sub_cancel, fit_ag hp2 hy]
     rfl)
    have HA := Lib.hid (fun (w0 : World) (hg : Grows w5 w0) => agree_any (a := y) (b := x) (c := dY) (d := dX) (w := w0) (bits .andNot .i64 15 p2.v) (ge_of (RdB.grows hiy (below_grows hB (Nat.le_refl _) hg))) (ge_of (RdB.grows hix hg)) hyo HXO.out)
    have had7 : (ad2.add (j * 4)).block < w5.heap.size := by rw [block_of_add]; exact had4
    have had8 : (ad.add (j * 2)).block < w5.heap.size := by rw [block_of_add]; exact had3
    clear hh hk0 hj hp2 hy
    cases ha : agD (bits .andNot .i64 15 p2.v) y x with
    | false =>
     have HE := Lib.hid (HNO.out (HAG.out.trans ha))
     rw [ha] at HA
     clear ha
     refine wp_region_mix (fun w' => Grows w5 w') [] 32 57 (by kernel_rfl) (by kernel_rfl) rfl ?_ float_none ?_ ?_
     ·exact fun w1 w2 h0 hg => below_grows h0 (Nat.le_refl _) hg
     ·exact Grows.drew' _
     ·skip
      simp only [List.take_succ_cons, List.take_zero, List.drop_succ_cons, List.drop_zero]
      iterate 32
       first
        | (refine calm_no rfl rfl (a' := ?_) ?_ ?_
           rotate_left 1
           ·simp only [Act.put, List.setIfInBounds_toArray, List.set_cons_succ, List.set_cons_zero]
            rfl)
        | (first | refine calm_plain rfl rfl (v := ?_) (a' := ?_) (fun w1 hw1 => ?_) ?_ ?_ | refine calm_yes rfl rfl (v := ?_) (a' := ?_) (fun w1 hw1 => ?_) ?_ ?_
           rotate_left 2
           ·have h0 := hw1
            have x6 := (k6.grows h0).cell
            obtain ⟨y0, y1, y2, y3⟩ := hcx.grows h0 had5
            obtain ⟨z0, z1, z2, z3⟩ := hcy.grows h0 had7
            have zz := (Below.cell (p := ⟨(ad.add (j * 2)).block, (ad.add (j * 2)).off + 1, none⟩) h0 had8).trans q21
            go_simp
            first | exact calm_val | (refine calm_call ?_; with_reducible exact HH.out _ h0) | (refine calm_call ?_; with_reducible exact HA.out _ h0)
           ·simp only [Act.put, List.setIfInBounds_toArray, List.set_cons_succ, List.set_cons_zero]
            rfl)
      refine calm_done (end_none ?_)
      rintro W2 h0
      replace hB := below_grows hB (Nat.le_refl _) h0
      go_wp2
      go_ret
      exact ⟨ret_bool HE.out.symm, hB⟩
    | true =>
     have HE : Hid (fitAt l cs k = true) := Lib.hid (HAG.out.trans ha)
     rw [ha] at HA
     clear ha
     refine wp_region_mix (fun w' => Grows w5 w') [] 32 57 (by kernel_rfl) (by kernel_rfl) rfl ?_ float_none ?_ ?_
     ·exact fun w1 w2 h0 hg => below_grows h0 (Nat.le_refl _) hg
     ·exact Grows.drew' _
     ·skip
      simp only [List.take_succ_cons, List.take_zero, List.drop_succ_cons, List.drop_zero]
      iterate 32
       first
        | (refine calm_no rfl rfl (a' := ?_) ?_ ?_
           rotate_left 1
           ·simp only [Act.put, List.setIfInBounds_toArray, List.set_cons_succ, List.set_cons_zero]
            rfl)
        | (first | refine calm_plain rfl rfl (v := ?_) (a' := ?_) (fun w1 hw1 => ?_) ?_ ?_ | refine calm_yes rfl rfl (v := ?_) (a' := ?_) (fun w1 hw1 => ?_) ?_ ?_
           rotate_left 2
           ·have h0 := hw1
            have x6 := (k6.grows h0).cell
            obtain ⟨y0, y1, y2, y3⟩ := hcx.grows h0 had5
            obtain ⟨z0, z1, z2, z3⟩ := hcy.grows h0 had7
            have zz := (Below.cell (p := ⟨(ad.add (j * 2)).block, (ad.add (j * 2)).off + 1, none⟩) h0 had8).trans q21
            go_simp
            first | exact calm_val | (refine calm_call ?_; with_reducible exact HH.out _ h0) | (refine calm_call ?_; with_reducible exact HA.out _ h0)
           ·simp only [Act.put, List.setIfInBounds_toArray, List.set_cons_succ, List.set_cons_zero]
            rfl)
      refine calm_done (end_none ?_)
      rintro W2 h0
      replace hB := below_grows hB (Nat.le_refl _) h0
      go_wp2
      go_roundw
      case rel => exact ⟨k + 1, by omega, by go_num, Lib.hid (fun i hi => by
       rcases Nat.lt_or_ge i k with h | h
       ·exact HK.out i h
       ·obtain rfl : i = k := by omega
        exact HE.out), hB⟩
      case measure => simp [intOf]; omega
  ·have HE := Lib.hid (fits_yes HV.out HCN.out (fun i hi => HK.out i (by omega)))
   go_wp2
   go_ret
   exact ⟨ret_bool HE.out.symm, hB⟩
end Go.Proofs.Ytjbkjgmcfommgaa

namespace Go.Proofs.Ytjbkjgmcfommgaa
open Go.RowKit
def ptC (p : Pt) (B : Option Addr) (c : Nat) : List Value := [.slice B p.b.length c, .int .i64 p.v]
/-- A row of ports of one's own, apart from what its members take. -/
def OwnPq (w : World) (base : Nat) (ok : Nat → Prop) (v : Value) (l : List Pt) : Prop :=
 ∃ vs, w.ownsRow base 36 2 v l.length vs ∧ ∀ (i : Nat) (p : Pt), l[i]? = some p → ∃ B c, Bxs w (Aq ok v) B p.b ∧ p.b.length ≤ c ∧ ∀ j < 2, vs[i * 2 + j]? = (ptC p B c)[j]?
set_option maxRecDepth 100000 in
theorem port_info : ∃ i : TypeInfo, Try.prog.info? 36 = some i ∧ i.size = 2 ∧ i.bytes = 32 ∧ i.zero = some (.agg #[.slice none 0 0, .int .i64 0]) ∧ (Value.agg #[.slice none 0 0, .int .i64 0]).cells.size = 2 := ⟨_, by first | exact Try.info36 | rfl, rfl, rfl, rfl, rfl⟩
section
variable {w w' : World} {base g : Nat} {ok : Nat → Prop} {v : Value} {l : List Pt}
theorem OwnPq.nil : OwnPq w base ok (.slice none 0 0) [] := ⟨[], World.ownsRow_nil w base _ 2, fun i x h => by simp at h⟩
theorem OwnPq.grows (h : OwnPq w base ok v l) (hg : Grows w w') : OwnPq w' base ok v l := by
 obtain ⟨vs, h1, h2⟩ := h
 exact ⟨vs, own_grows h1 hg, fun i x hx => by obtain ⟨B, c, hb, r⟩ := h2 i x hx; exact ⟨B, c, hb.grows hg, r⟩⟩
theorem OwnPq.only (h : OwnPq w base ok v l) (hg : w.grownBy w' (some g)) (hb : g < base) (hl : ¬ ok g) : OwnPq w' base ok v l := by
 obtain ⟨vs, h1, h2⟩ := h
 refine ⟨vs, World.ownsRow.kept h1 hg ?_, fun i x hx => by obtain ⟨B, c, hi, r⟩ := h2 i x hx; exact ⟨B, c, hi.onlyq hg hl, r⟩⟩
 cases e : v.ownBlock with
 | none => exact .inl rfl
 | some q =>
  refine .inr fun e2 => ?_
  have := (World.ownsRow.lt h1 q e).1
  injection e2 with e2
  omega
theorem OwnPq.lt (h : OwnPq w base ok v l) : ∀ q, v.ownBlock = some q → base ≤ q ∧ q < w.heap.size := by
 obtain ⟨vs, h1, -⟩ := h
 exact World.ownsRow.lt h1
theorem OwnPq.read (h : OwnPq w base ok v l) : ∃ A c, v = .slice A l.length c ∧ l.length ≤ c ∧ Pts w (fun k => ok k ∨ base ≤ k) A l := by
 obtain ⟨vs, h1, h2⟩ := h
 have h3 : ∀ (i : Nat) (p : Pt), l[i]? = some p → ∃ B c, Bxs w (fun k => ok k ∨ base ≤ k) B p.b ∧ p.b.length ≤ c ∧ vs[i * 2]? = some (.slice B p.b.length c) ∧ vs[i * 2 + 1]? = some (.int .i64 p.v) := fun i p hx => by
  obtain ⟨B, c, hb, hc, r⟩ := h2 i p hx
  exact ⟨B, c, hb.mono (fun k hk => .inl hk.1), hc, r 0 (by omega), r 1 (by omega)⟩
 rcases h1.2 with ⟨rfl, hn⟩ | ⟨q, cap, cur, rfl, hbq, hg, hnc, hm, hs, ht⟩
 ·have e := List.eq_nil_of_length_eq_zero hn
  subst e
  exact ⟨none, 0, rfl, Nat.le_refl _, Pts.nil⟩
 ·refine ⟨_, cap, rfl, hnc, vs, ⟨Reads.of_own h1, fun _ ad e => ?_⟩, h3⟩
  injection e with e
  subst e
  exact Or.inr hbq
end
theorem ptC_one (p : Pt) (B : Option Addr) (c : Nat) : ∀ u ∈ ptC p B c, u.oneCell' = true := by
 intro u hu
 simp only [ptC, List.mem_cons, List.not_mem_nil, or_false] at hu
 rcases hu with rfl | rfl <;> rfl
theorem pts_one {l : List Pt} {vs : List Value} (hl : vs.length = l.length * 2) (h : ∀ (i : Nat) (p : Pt), l[i]? = some p → ∃ B c, ∀ j < 2, vs[i * 2 + j]? = (ptC p B c)[j]?) : ∀ u ∈ vs, u.oneCell' = true := by
 intro u hu
 obtain ⟨k, hk, e⟩ := List.mem_iff_getElem.1 hu
 have hi : k / 2 < l.length := by omega
 obtain ⟨B, c, hc⟩ := h (k / 2) _ (List.getElem?_eq_getElem hi)
 have h2 := hc (k % 2) (Nat.mod_lt _ (by omega))
 rw [show k / 2 * 2 + k % 2 = k by omega, List.getElem?_eq_getElem hk, e] at h2
 exact ptC_one _ B c u (List.mem_of_getElem? h2.symm)
theorem Pts.cells {w : World} {ok : Nat → Prop} {A : Option Addr} {l : List Pt} (h : Pts w ok A l) : ∃ vs : List Value, RdB w ok 2 A l.length vs ∧ ∀ (i : Nat) (p : Pt), l[i]? = some p → ∃ B c, Bxs w ok B p.b ∧ p.b.length ≤ c ∧ ∀ j < 2, vs[i * 2 + j]? = (ptC p B c)[j]? := by
 obtain ⟨vs, h1, h2⟩ := h
 refine ⟨vs, h1, fun i p hp => ?_⟩
 obtain ⟨B, c, hb, hc, r0, r1⟩ := h2 i p hp
 exact ⟨B, c, hb, hc, fun j hj => match j, hj with | 0, _ => r0 | 1, _ => r1⟩
theorem wpList_append_ports {ops : Array Oper} {rest : List Oper} {o : Oper} {a : Act} {w : World} {Q : Exit → Act → World → Prop} (hgd : o.guard = none) (s x : Operand) (ho : o.op = .call { callee := .builtin .append, args := #[s, x], argTypes := #[24, 24] })
 {base : Nat} {ok : Nat → Prop} {v : Value} {l m : List Pt} {A : Option Addr} {c n : Nat} (hn : n = m.length) (hs : a.eval s = v) (hown : OwnPq w base ok v l) (hx : a.eval x = .slice A n c) (hr : Pts w (Aq ok v) A m) (hlen : l.length + m.length ≤ 1000000) (hbase : base ≤ w.heap.size)
 (h : ∀ v' w', OwnPq w' base ok v' (l ++ m) → w.grownBy w' v.ownBlock → (v'.ownBlock = v.ownBlock ∨ v'.ownBlock = some w.heap.size) → wpList Try.prog ops Q rest (a.put o.dst v') w') : wpList Try.prog ops Q (o :: rest) a w := by
 obtain ⟨i0, hi0, hi1, hi2, hi3, hi4⟩ := port_info
 obtain ⟨vs, h1, h2⟩ := hown
 obtain ⟨us, r1, r2⟩ := hr.cells
 subst hn
 have hul := r1.1.1
 have hvl := h1.1
 refine wpList_append_any w hgd s x 24 ho base 36 i0 _ 2 32 Try.underlying24 hi0 hi3 hi1 hi2 hi4 (by omega) v l.length vs hs h1 w.heap.size A m.length c us hx r1.1 (pts_one hul fun i b hb => by obtain ⟨B, c, _, _, hc⟩ := r2 i b hb; exact ⟨B, c, hc⟩) (by simp only [maxLen]; omega) (by omega) hbase fun v' w' h3 h4 h5 => h v' w' ⟨vs ++ us, by rw [List.length_append]; exact h3, fun i p hp => ?_⟩ h4 h5
 by_cases hi : i < l.length
 ·rw [List.getElem?_append_left hi] at hp
  obtain ⟨B, c, hb, hc, r⟩ := h2 i p hp
  exact ⟨B, c, hb.aq h4 h5, hc, fun j hj => by rw [List.getElem?_append_left (by omega)]; exact r j hj⟩
 ·rw [List.getElem?_append_right (by omega)] at hp
  obtain ⟨B, c, hb, hc, r⟩ := r2 _ p hp
  exact ⟨B, c, hb.aq h4 h5, hc, fun j hj => by rw [List.getElem?_append_right (by omega), show i * 2 + j - vs.length = (i - l.length) * 2 + j by omega]; exact r j hj⟩
/-- A chain of one port, laid by a literal. -/
theorem pts_lit {w : World} {ok : Nat → Prop} {p : Pt} {B : Option Addr} {c : Nat} (hb : Bxs w ok B p.b) (hc : p.b.length ≤ c) (hw : ok w.heap.size) : Pts (w.alloc (.cells #[.slice B p.b.length c, .int .i64 p.v] 36)) ok (some ⟨w.heap.size, 0, none⟩) [p] := by
 have hk := Blk.new w 36 #[.slice B p.b.length c, .int .i64 p.v]
 have hq := (Below.refl w.heap.size w).alloc (Nat.le_refl _) (Obj.cells #[.slice B p.b.length c, .int .i64 p.v] 36)
 refine ⟨ptC p B c, ⟨⟨rfl, fun _ => ⟨_, rfl, hk.lt, fun j u hu => ?_⟩⟩, fun _ ad e => by injection e with e; subst e; exact hw⟩, fun i x hx => ?_⟩
 ·rw [add_head, hk.cell, ← Array.getElem?_toList]
  exact hu
 ·have hi0 : i = 0 := by
   have := (List.getElem?_eq_some_iff.1 hx).1
   simp only [List.length_singleton] at this
   omega
  subst hi0
  simp only [List.getElem?_cons_zero, Option.some.injEq] at hx
  subst hx
  exact ⟨B, c, hb.grows hq, hc, rfl, rfl⟩
/-- Ports that the maker makes. -/
def FineP (l : List Pt) : Prop := ∀ p ∈ l, Fine p.b ∧ 1 ≤ p.b.length ∧ p.b.length ≤ 2 ∧ 0 ≤ p.v ∧ p.v ≤ 15
theorem finep_app {l m : List Pt} (h : FineP l) (h2 : FineP m) : FineP (l ++ m) := fun b hb => (List.mem_append.1 hb).elim (h b) (h2 b)
set_option maxHeartbeats 8000000 in
theorem ports_any (B g : Nat) (w : World) (h : DR w B g) : Calls Try.prog 8 #[.pointer (some ⟨g, 0, none⟩)] w fun e w' => (∃ l v, e = .returned v ∧ OwnPq w' w.heap.size (Ge w.heap.size) v l ∧ MadeP l) ∧ DR w' B g ∧ w.grownBy w' (some g) := by
 have hgl := h.lt
 go_enter Try.func8, Try.ntmps8
 go_wp2_with fail
 refine (rolls_any B g 5 _ h (by omega) (by omega)).mono ?_
 rintro e w1 ⟨⟨r, rfl, r0, r1⟩, hD, hO⟩
 obtain ⟨n0, hn0⟩ : ∃ n0 : Nat, 1 + r = (n0 : Int) := ⟨(1 + r).toNat, by omega⟩
 have hw3 : IntKind.i64.wrap (1 + r) = (n0 : Int) := by rw [IntWalk.i64_in _ (by omega)]; exact hn0
 have hn1 : 1 ≤ n0 ∧ n0 ≤ 5 := by omega
 clear hn0 h
 have hsz := hO.size
 go_wp2_with fail
 go_loopw [3, 4] (fun v i wr => ∃ (n : Nat) (l : List Pt), n ≤ n0 ∧ i = .int .i64 n ∧ l.length + n = n0 ∧ Hid (FineP l) ∧ OwnPq wr w.heap.size (Ge w.heap.size) v l ∧ DR wr B g ∧ w.grownBy wr (some g)) (fun _ i _ => (intOf i).toNat)
 case atStart => exact ⟨n0, [], by omega, rfl, by simp, Lib.hid (fun b hb => by cases hb), OwnPq.nil, hD, hO⟩
 case round =>
  clear hD hO hsz
  obtain ⟨n, l, hn, rfl, hln, HF, ho, hD, hO⟩ := hrel
  have hsz := hO.size
  by_cases hpos : 0 < n
  ·have d1 : decide ((0 : Int) < (n : Int)) = true := by simp only [decide_eq_true_eq]; omega
   have d2 : decide (0 < n) = true := by simp only [decide_eq_true_eq]; omega
   have hwn : IntKind.i64.wrap ((n : Int) - 1) = ((n - 1 : Nat) : Int) := by rw [IntWalk.i64_in _ (by omega)]; omega
   go_upto_region 5 with fail
   refine wp_region_lit ?_
   iterate 2
    refine wpList_plain rfl (fun K hK => ?_)
    go_simp
    refine hK _ _ ?_
    clear hK K
   refine wpList_plain rfl (fun K hK => ?_)
   go_simp
   have hown := ho.lt
   refine (boxes_any B g 1 2 _ hD (by omega) (by omega)).mono ?_
   rintro e wb ⟨⟨b, vb, rfl, hb, hfb, hb1, hb2⟩, hDn, hq⟩
   obtain ⟨A1, c1, rfl, hc1, hbx⟩ := hb.read (Nat.le_refl _)
   have HFB := Lib.hid hfb
   clear hfb
   refine hK _ _ ?_
   clear hK K
   have hszb := hq.size
   replace hbx : Bxs wb (Aq (Ge w.heap.size) _) A1 b := hbx.mono fun k hk => ⟨by unfold Ge at *; omega, fun e => by have := (hown _ e).2; unfold Ge at hk; omega⟩
   replace ho := ho.only hq (by omega) (by unfold Ge; omega)
   replace hO := only_trans hO hq
   replace hsz := Nat.le_trans hsz hq.size
   replace hown := ho.lt
   clear hD hq hb
   refine wpList_plain rfl (fun K hK => ?_)
   go_simp
   refine hK _ _ ?_
   clear hK K
   refine wpList_plain rfl (fun K hK => ?_)
   go_simp
   refine (rolls_any B g 16 _ hDn (by omega) (by omega)).mono ?_
   rintro e wc ⟨⟨v, rfl, v0, v1⟩, hD, hq⟩
   refine hK _ _ ?_
   clear hK K
   replace hbx : Bxs wc (Aq (Ge w.heap.size) _) A1 b := hbx.grown hq (fun q e hh => by injection e with e; have := hh.1; unfold Ge at this; omega)
   replace ho := ho.only hq (by omega) (by unfold Ge; omega)
   replace hO := only_trans hO hq
   replace hsz := Nat.le_trans hsz hq.size
   replace hown := ho.lt
   clear hDn hq
   have HFP : Hid (FineP [⟨b, v⟩]) := Lib.hid fun p hp => by simp only [List.mem_singleton] at hp; subst hp; exact ⟨HFB.out, hb1, hb2, v0, by show v ≤ 15; omega⟩
   iterate 2
    refine wpList_plain rfl (fun K hK => ?_)
    go_simp
    refine hK _ _ ?_
    clear hK K
   have hL := pts_lit (p := ⟨b, v⟩) hbx hc1 ⟨by unfold Ge; omega, fun e => by have := (hown _ e).2; omega⟩
   have hq := (Below.refl wc.heap.size wc).alloc (Nat.le_refl _) (Obj.cells #[.slice A1 b.length c1, .int .i64 v] 36)
   replace ho := ho.grows hq
   replace hD := hD.grows hq
   replace hO := d_only_grows hO hq
   replace hsz := Nat.le_trans hsz hq.size
   replace hown := ho.lt
   clear hq hbx
   refine wpList_append_ports rfl (.tmp 12) (.tmp 18) rfl (m := [⟨b, v⟩]) rfl rfl ho rfl hL (by simp only [List.length_singleton]; omega) hsz ?_
   intro v5 w12 ho2 hgr _
   replace hD := hD.grown hgr (fun q e => by have := (hown q e).1; omega)
   replace hO := only_own hO hgr (fun q e => (hown q e).1)
   have HF2 := Lib.hid (finep_app HF.out HFP.out)
   have hl2 : (l ++ [Pt.mk b v]).length + (n - 1) = n0 := by rw [List.length_append, List.length_singleton]; omega
   clear hown hgr ho hL hsz HFB HF HFP v0 v1
   generalize l ++ [Pt.mk b v] = l2 at *
   go_wp2
   go_roundw
   case rel => exact ⟨n - 1, l2, by omega, by go_num, hl2, HF2, ho2, hD, hO⟩
   case measure => simp [intOf]; omega
  ·obtain rfl : n = 0 := by omega
   have d2 : decide ((0 : Int) < ((0 : Nat) : Int)) = false := by decide
   go_wp2
   go_ret
   exact ⟨⟨l, _, rfl, ho, by omega, by omega, HF.out⟩, hD, hO⟩
end Go.Proofs.Ytjbkjgmcfommgaa

namespace Go.Proofs.Ytjbkjgmcfommgaa
open Go.RowKit
def nA : List Pt := [⟨[ptB 44100 [3]], 0⟩, ⟨[ptB 48000 [3]], 0⟩]
def nB : List Pt := [⟨[ptB 44100 [3]], 2⟩, ⟨[ptB 48000 [3]], 0⟩]
def nX : List Ch := [⟨2, 44100, [3], 64⟩, ⟨2, 48000, [3], 64⟩]
theorem nsane1 : chooseF nA zeroC = ([], (1, 2), 13) := by decide +kernel
theorem nsane2 : chooseF nB zeroC = (nX, (0, 0), 0) := by decide +kernel
theorem nsane3 : fitsF nB nX = true := by decide +kernel
theorem nsane4 : validC nB = true := by decide +kernel
theorem okbN (r : Int) : OKB (ptB r [3]) := ⟨by show (1 : Nat) ≤ _; decide, by show (1 : Nat) ≤ _; decide, by show (1 : Nat) ≤ _; decide, fun m hm => by
 have : m = [3] := by simpa [ptB] using hm
 subst this
 decide⟩
theorem okN {v u : Int} : ∀ p ∈ ([⟨[ptB 44100 [3]], v⟩, ⟨[ptB 48000 [3]], u⟩] : List Pt), (∀ b ∈ p.b, OKB b ∧ I64 b.k) ∧ p.b.length ≤ 1000000 := by
 intro p hp
 simp only [List.mem_cons, List.not_mem_nil, or_false] at hp
 rcases hp with rfl | rfl <;> exact ⟨fun b hb => by
  simp only [List.mem_singleton] at hb
  subst hb
  exact ⟨okbN _, (by unfold I64; show (-9223372036854775808 : Int) ≤ 4 ∧ (4 : Int) ≤ 9223372036854775807; decide)⟩, (by show 1 ≤ 1000000; decide)⟩
/-- A chain of two ports in a block. -/
theorem pts_blk2 {w : World} {ok : Nat → Prop} {G : Nat} {p q : Pt} {B C : Option Addr} {c d : Nat} (hk : Blk w G 36 #[.slice B p.b.length c, .int .i64 p.v, .slice C q.b.length d, .int .i64 q.v]) (hb : Bxs w ok B p.b) (hc : p.b.length ≤ c) (hb2 : Bxs w ok C q.b) (hd : q.b.length ≤ d) (hw : ok G) : Pts w ok (some ⟨G, 0, none⟩) [p, q] := by
 refine ⟨[.slice B p.b.length c, .int .i64 p.v, .slice C q.b.length d, .int .i64 q.v], ⟨⟨rfl, fun _ => ⟨_, rfl, hk.lt, fun j u hu => ?_⟩⟩, fun _ ad e => by injection e with e; subst e; exact hw⟩, fun i x hx => ?_⟩
 ·rw [add_head, hk.cell, ← Array.getElem?_toList]
  exact hu
 ·have hi := (List.getElem?_eq_some_iff.1 hx).1
  simp only [List.length_cons, List.length_nil] at hi
  rcases (show i = 0 ∨ i = 1 by omega) with rfl | rfl
  ·simp only [List.getElem?_cons_zero, Option.some.injEq] at hx
   subst hx
   exact ⟨B, c, hb, hc, rfl, rfl⟩
  ·simp only [List.getElem?_cons_succ, List.getElem?_cons_zero, Option.some.injEq] at hx
   subst hx
   exact ⟨C, d, hb2, hd, rfl, rfl⟩
set_option maxHeartbeats 8000000 in
theorem lbox_any (r : Int) (w : World) : Calls Try.prog 15 #[.int .i64 r] w fun e w' => (∃ v, e = .returned v ∧ BoxV w' AnyB (ptB r [3]) v) ∧ Grows w w' := by
 have k0 := Blk.new w 54 #[.int .i64 0, .slice none 0 0, .slice none 0 0, .slice none 0 0]
 have hB := (Below.refl w.heap.size w).alloc (Nat.le_refl _) (Obj.cells #[.int .i64 0, .slice none 0 0, .slice none 0 0, .slice none 0 0] 54)
 go_enter Try.func15, Try.ntmps15
 go_upto_region 1 with fail
 generalize World.alloc w _ = w1 at *
 have hs1 := k0.lt
 refine wp_region_lit ?_
 iterate 4
  refine BigFrame.wpList_want (by first | rfl | kernel_rfl) (fun K hK => ?_)
  go_simp
  refine hK _ _ ?_
  clear hK K
 have hr := rd_lit w1 (ok := fun k => k ≠ w.heap.size) 74 #[.int .i64 r, .int .i64 r] 2 1 rfl (by omega)
 have hq := (Below.refl w1.heap.size w1).alloc (Nat.le_refl _) (Obj.cells #[.int .i64 r, .int .i64 r] 74)
 replace k0 := k0.grows hq
 replace hB := below_grows hB (Nat.le_refl _) hq
 clear hq
 generalize w1.heap.size = n1 at *
 generalize World.alloc w1 _ = w2 at *
 replace hs1 := k0.lt
 iterate 2
  refine BigFrame.wpList_want (by first | rfl | kernel_rfl) (fun K hK => ?_)
  go_simp
  refine hK _ _ ?_
  clear hK K
 have hm : InB _ (fun k => k ≠ w.heap.size) _ [3] := rd_lit w2 3 #[.int .i64 3] 1 1 rfl (by omega)
 have hq := (Below.refl w2.heap.size w2).alloc (Nat.le_refl _) (Obj.cells #[.int .i64 3] 3)
 replace k0 := k0.grows hq
 replace hr := hr.grows hq
 replace hB := below_grows hB (Nat.le_refl _) hq
 clear hq
 generalize w2.heap.size = n5 at *
 generalize World.alloc w2 _ = w5 at *
 replace hs1 := k0.lt
 iterate 1
  refine BigFrame.wpList_want (by first | rfl | kernel_rfl) (fun K hK => ?_)
  go_simp
  refine hK _ _ ?_
  clear hK K
 have hmm := maps_lit1 w5 (c := 1) hm (by decide) (by omega)
 have hq := (Below.refl w5.heap.size w5).alloc (Nat.le_refl _) (Obj.cells #[.slice (some ⟨n5, 0, none⟩) 1 1] 42)
 replace k0 := k0.grows hq
 replace hr := hr.grows hq
 replace hB := below_grows hB (Nat.le_refl _) hq
 clear hq hm
 have hmm : MapsR (w5.alloc (.cells #[.slice (some ⟨n5, 0, none⟩) 1 1] 42)) (fun k => k ≠ w.heap.size) (some ⟨w5.heap.size, 0, none⟩) [[3]] := hmm
 generalize w5.heap.size = n2 at *
 generalize World.alloc w5 _ = w3 at *
 replace hs1 := k0.lt
 iterate 2
  refine BigFrame.wpList_want (by first | rfl | kernel_rfl) (fun K hK => ?_)
  go_simp
  refine hK _ _ ?_
  clear hK K
 have hs := rd_lit w3 (ok := fun k => k ≠ w.heap.size) 74 #[.int .i64 64, .int .i64 64] 2 1 rfl (by omega)
 have hq := (Below.refl w3.heap.size w3).alloc (Nat.le_refl _) (Obj.cells #[.int .i64 64, .int .i64 64] 74)
 replace k0 := k0.grows hq
 replace hr := hr.grows hq
 replace hmm := hmm.grows hq
 replace hB := below_grows hB (Nat.le_refl _) hq
 clear hq
 generalize w3.heap.size = n3 at *
 generalize World.alloc w3 _ = w4 at *
 have y0 := ((((k0.set_ 0 (.int .i64 4)).set_ 1 (.slice (some ⟨n1, 0, none⟩) 1 1)).set_ 2 (.slice (some ⟨n2, 0, none⟩) 1 1)).set_ 3 (.slice (some ⟨n3, 0, none⟩) 1 1))
 have yB := ((((hB.setCell (p := ⟨w.heap.size, 0, none⟩) (Nat.le_refl _) (.int .i64 4)).setCell (p := ⟨w.heap.size, 1, none⟩) (Nat.le_refl _) (.slice (some ⟨n1, 0, none⟩) 1 1)).setCell (p := ⟨w.heap.size, 2, none⟩) (Nat.le_refl _) (.slice (some ⟨n2, 0, none⟩) 1 1)).setCell (p := ⟨w.heap.size, 3, none⟩) (Nat.le_refl _) (.slice (some ⟨n3, 0, none⟩) 1 1))
 have hgq := (d_only_set (d_only_set (d_only_set (d_only_set (World.grownBy.refl w4 (some w.heap.size)) 0 (.int .i64 4)) 1 (.slice (some ⟨n1, 0, none⟩) 1 1)) 2 (.slice (some ⟨n2, 0, none⟩) 1 1)) 3 (.slice (some ⟨n3, 0, none⟩) 1 1))
 have yr := RdB.grown hr hgq (fun q e hh => by injection e with e; exact hh e.symm)
 have ym := MapsR.grown hmm hgq (fun q e hh => by injection e with e; exact hh e.symm)
 have ys := RdB.grown hs hgq (fun q e hh => by injection e with e; exact hh e.symm)
 have y6 := y0.cell
 have x0 := k0.cell
 have hf0 := k0.frozen
 clear k0 hB hr hmm hs
 go_wp2
 refine bodyPost_ret (v := .agg #[.int .i64 4, .slice (some ⟨n1, 0, none⟩) 1 1, .slice (some ⟨n2, 0, none⟩) 1 1, .slice (some ⟨n3, 0, none⟩) 1 1]) (by simp [results, Try.results15, go_sem, y6]) rfl ⟨⟨_, rfl, ⟨some ⟨n1, 0, none⟩, 1, some ⟨n2, 0, none⟩, 1, some ⟨n3, 0, none⟩, 1, rfl, ⟨RdB.mono yr (fun _ _ => trivial), MapsR.mono ym (fun _ _ => trivial), RdB.mono ys (fun _ _ => trivial), Nat.le_refl _, Nat.le_refl _, Nat.le_refl _⟩⟩⟩, yB⟩
set_option maxHeartbeats 16000000 in
set_option maxRecDepth 10000 in
theorem nsane_any (w : World) : Calls Try.prog 7 #[] w fun e w' => e = .returned (.bool true) ∧ Grows w w' := by
 have hB := Below.refl w.heap.size w
 go_enter Try.func7, Try.ntmps7
 go_wp2_with fail
 refine (lbox_any 44100 _).mono ?_
 rintro e w3 ⟨⟨v, rfl, A1, c1, A2, c2, A3, c3, rfl, hp0⟩, hq⟩
 replace hB := below_grows hB (Nat.le_refl _) hq
 clear hq
 have ha : Bxs _ AnyB _ [ptB 44100 [3]] := bxs_lit hp0 trivial
 have hq := (Below.refl w3.heap.size w3).alloc (Nat.le_refl _) (Obj.cells #[.int .i64 (ptB 44100 [3]).k, .slice A1 (ptB 44100 [3]).r.length c1, .slice A2 (ptB 44100 [3]).m.length c2, .slice A3 (ptB 44100 [3]).s.length c3] 54)
 replace hB := below_grows hB (Nat.le_refl _) hq
 clear hq hp0
 go_wp2_with fail
 generalize w3.heap.size = n3 at *
 generalize World.alloc w3 _ = v3 at *
 refine (lbox_any 48000 _).mono ?_
 rintro e w4 ⟨⟨v, rfl, A4, c4, A5, c5, A6, c6, rfl, hp1⟩, hq⟩
 replace hB := below_grows hB (Nat.le_refl _) hq
 replace ha := ha.grows hq
 clear hq
 have hb : Bxs _ AnyB _ [ptB 48000 [3]] := bxs_lit hp1 trivial
 have hq := (Below.refl w4.heap.size w4).alloc (Nat.le_refl _) (Obj.cells #[.int .i64 (ptB 48000 [3]).k, .slice A4 (ptB 48000 [3]).r.length c4, .slice A5 (ptB 48000 [3]).m.length c5, .slice A6 (ptB 48000 [3]).s.length c6] 54)
 replace hB := below_grows hB (Nat.le_refl _) hq
 replace ha := ha.grows hq
 clear hq hp1
 go_upto_region 2 with fail
 have hG1 : (World.alloc w4 (Obj.cells #[.int .i64 (ptB 48000 [3]).k, .slice A4 (ptB 48000 [3]).r.length c4, .slice A5 (ptB 48000 [3]).m.length c5, .slice A6 (ptB 48000 [3]).s.length c6] 54)).heap.size = w4.heap.size + 1 := by simp
 generalize w4.heap.size = n4 at *
 generalize World.alloc w4 _ = v4 at *
 have k1 := Blk.new v4 36 #[.slice (some ⟨n3, 0, none⟩) 1 1, .int .i64 0, .slice (some ⟨n4, 0, none⟩) 1 1, .int .i64 0]
 have hq := (Below.refl v4.heap.size v4).alloc (Nat.le_refl _) (Obj.cells #[.slice (some ⟨n3, 0, none⟩) 1 1, .int .i64 0, .slice (some ⟨n4, 0, none⟩) 1 1, .int .i64 0] 36)
 replace ha := ha.under.grows hq
 replace hb := hb.under.grows hq
 have hGw := hB.size
 replace hB := below_grows hB (Nat.le_refl _) hq
 clear hq
 rw [hG1] at k1 ha hb hGw
 clear hG1
 generalize World.alloc v4 _ = v5 at *
 generalize n4 + 1 = G at *
 go_wp2_with fail
 have h2 : Pts v5 (fun k => k ≤ G) (some ⟨G, 0, none⟩) nA := pts_blk2 (p := ⟨[ptB 44100 [3]], 0⟩) (q := ⟨[ptB 48000 [3]], 0⟩) k1 (ha.mono (fun k hk => Nat.le_of_lt hk)) (by decide) (hb.mono (fun k hk => Nat.le_of_lt hk)) (by decide) (Nat.le_refl _)
 have hcon : Calls Try.prog 11 #[.slice (some ⟨G, 0, none⟩) 2 2, .agg #[.int .i64 0, .int .i64 0, .slice none 0 0, .int .i64 0]] v5 fun e w' => (∃ A' c', e = .returned (.tuple #[.slice A' 0 c', .agg #[.int .i64 1, .int .i64 2], .int .i64 13]) ∧ 0 ≤ c' ∧ Chs w' (Ge v5.heap.size) A' []) ∧ Grows v5 w' := by
  have := choose_any (w := v5) (c := 2) (ci := 0) (n := 2) (l := nA) (want := zeroC) (I := none) (ow := AnyB) rfl h2 (by decide) okN RdB.nil okc_zero
  rw [nsane1] at this
  exact this
 refine hcon.mono ?_
 rintro e w6 ⟨⟨A7, c7, rfl, -, -⟩, hq⟩
 replace hB := below_grows hB (Nat.le_refl _) hq
 replace ha := ha.grows hq
 replace hb := hb.grows hq
 replace k1 := k1.grows hq
 clear hq hcon h2
 have k3 := Blk.new w6 30 #[.int .i64 1, .int .i64 2]
 have hq := (Below.refl w6.heap.size w6).alloc (Nat.le_refl _) (Obj.cells #[.int .i64 1, .int .i64 2] 30)
 go_upto_region 3 with fail
 replace hB := below_grows hB (Nat.le_refl _) hq
 replace ha := ha.grows hq
 replace hb := hb.grows hq
 replace k1 := k1.grows hq
 have hne : w6.heap.size ≠ G := by have := k1.lt; intro e; subst e; exact absurd (Blk.ne_ k1 k3 (by decide)) (by simp)
 clear hq
 generalize w6.heap.size = n6 at *
 generalize World.alloc w6 _ = v6 at *
 have x1 := k1.cell
 have f1 := k1.frozen
 have hg6 := d_only_set (World.grownBy.refl v6 (some G)) 1 (.int .i64 2)
 have hB2 := hB.setCell (p := ⟨G, 1, none⟩) hGw (.int .i64 2)
 have ha2 := ha.grown hg6 (fun g e hh => by injection e with e; unfold Under at hh; omega)
 have hb2 := hb.grown hg6 (fun g e hh => by injection e with e; unfold Under at hh; omega)
 have k12 : Blk (v6.setCell ⟨G, 1, none⟩ (.int .i64 2)) G 36 #[.slice (some ⟨n3, 0, none⟩) 1 1, .int .i64 2, .slice (some ⟨n4, 0, none⟩) 1 1, .int .i64 0] := k1.set_ 1 (.int .i64 2)
 have k32 := k3.far (p := ⟨G, 1, none⟩) hne (.int .i64 2)
 go_upto_region 4 with fail
 clear x1 f1 hg6 hB ha hb k1 k3 hne
 generalize v6.setCell _ _ = v7 at *
 go_wp2_with fail
 have h2 : Pts v7 (fun k => k ≤ G) (some ⟨G, 0, none⟩) nB := pts_blk2 (p := ⟨[ptB 44100 [3]], 2⟩) (q := ⟨[ptB 48000 [3]], 0⟩) k12 (ha2.mono (fun k hk => Nat.le_of_lt hk)) (by decide) (hb2.mono (fun k hk => Nat.le_of_lt hk)) (by decide) (Nat.le_refl _)
 have hcon : Calls Try.prog 11 #[.slice (some ⟨G, 0, none⟩) 2 2, .agg #[.int .i64 0, .int .i64 0, .slice none 0 0, .int .i64 0]] v7 fun e w' => (∃ A' c', e = .returned (.tuple #[.slice A' 2 c', .agg #[.int .i64 0, .int .i64 0], .int .i64 0]) ∧ 2 ≤ c' ∧ Chs w' (Ge v7.heap.size) A' nX) ∧ Grows v7 w' := by
  have := choose_any (w := v7) (c := 2) (ci := 0) (n := 2) (l := nB) (want := zeroC) (I := none) (ow := AnyB) rfl h2 (by decide) okN RdB.nil okc_zero
  rw [nsane2] at this
  exact this
 refine hcon.mono ?_
 rintro e w8 ⟨⟨A8, c8, rfl, -, hx⟩, hq⟩
 have hB := below_grows hB2 (Nat.le_refl _) hq
 replace h2 := h2.grows hq
 replace k32 := k32.grows hq
 clear hq hcon hB2 ha2 hb2 k12
 have k6 := Blk.new w8 30 #[.int .i64 0, .int .i64 0]
 have hq := (Below.refl w8.heap.size w8).alloc (Nat.le_refl _) (Obj.cells #[.int .i64 0, .int .i64 0] 30)
 go_upto_region 5 with fail
 replace hB := below_grows hB (Nat.le_refl _) hq
 replace h2 := h2.grows hq
 replace hx := hx.grows hq
 replace k32 := k32.grows hq
 clear hq
 generalize w8.heap.size = n8 at *
 generalize World.alloc w8 _ = v8 at *
 obtain ⟨ad, x, BX, dX, e7, had, hx0, hdX, hix, hcx⟩ := hx.elem (Grows.rfl' v8) (k := 0) (by decide)
 subst e7
 obtain ⟨ad2, y, BY, dY, e7, -, hy0, hdY, hiy, hcy⟩ := hx.elem (Grows.rfl' v8) (k := 1) (by decide)
 injection e7 with e7
 subst e7
 obtain rfl : (⟨2, 44100, [3], 64⟩ : Ch) = x := Option.some.inj hx0
 obtain rfl : (⟨2, 48000, [3], 64⟩ : Ch) = y := Option.some.inj hy0
 obtain ⟨x0, x1, x2, x3⟩ := hcx
 obtain ⟨y0, y1, y2, y3⟩ := hcy
 have z3 := k32.cell
 have e0 : ad.add (0 * 4) = ad := by simp [Addr.add]
 rw [e0] at x0 x1
 have y1b : v8.cell? { block := ad.block, off := ad.off + 4 + 1 } = some (.int .i64 48000) := y1
 clear e0 y0 y2 y3 x2 x3
 go_wp2_with fail
 have hF : Calls Try.prog 16 #[.slice (some ⟨G, 0, none⟩) 2 2, .slice (some ad) 2 c8] v8 fun e w' => e = .returned (.bool true) ∧ Grows v8 w' := by
  have := fits_any (w := v8) (c := 2) (d := c8) (n := 2) (m := 2) (l := nB) (cs := nX) rfl rfl h2 hx (by decide) (by decide) (fun p hp => ⟨fun b hb => ((okN p hp).1 b hb).1, (okN p hp).2⟩) (fun x hx => by simp only [nX, List.mem_cons, List.not_mem_nil, or_false] at hx; rcases hx with rfl | rfl <;> decide)
  rw [nsane3] at this
  exact this
 refine hF.mono ?_
 rintro e w9 ⟨rfl, hq⟩
 replace hB := below_grows hB (Nat.le_refl _) hq
 replace h2 := h2.grows hq
 clear hq hF x0 x1 y1 y1b z3
 go_wp2_with fail
 have hV : Calls Try.prog 17 #[.slice (some ⟨G, 0, none⟩) 2 2] w9 fun e w' => e = .returned (.bool true) ∧ Grows w9 w' := by
  have := nvalid_any (w := w9) (c := 2) (n := 2) (l := nB) rfl h2 (by decide) (fun p hp => ⟨fun b hb => ((okN p hp).1 b hb).1, (okN p hp).2⟩)
  rw [nsane4] at this
  exact this
 refine hV.mono ?_
 rintro e w10 ⟨rfl, hq⟩
 replace hB := below_grows hB (Nat.le_refl _) hq
 go_wp2
 go_ret
 exact ⟨rfl, hB⟩
end Go.Proofs.Ytjbkjgmcfommgaa

namespace Go.Proofs.Ytjbkjgmcfommgaa
open Go.RowKit
theorem MadeP.oks {l : List Pt} (h : MadeP l) : ∀ p ∈ l, (∀ b ∈ p.b, OKB b ∧ I64 b.k) ∧ p.b.length ≤ 1000000 := fun p hp => ⟨fun b hb => ⟨((h.2.2 p hp).1 b hb).2.1, ((h.2.2 p hp).1 b hb).2.2.1⟩, by have := (h.2.2 p hp).2.2.1; omega⟩
theorem MadeP.fw {l : List Pt} (h : MadeP l) : forwardF l = fwUp l l.length := by
 unfold forwardF
 rw [if_pos h.valid]
theorem MadeP.take {l : List Pt} (h : MadeP l) {m : Nat} (h1 : 1 ≤ m) : MadeP (l.take m) := ⟨by rw [List.length_take]; have := h.1; omega, by rw [List.length_take]; have := h.2.1; omega, fun p hp => h.2.2 p (List.mem_of_mem_take hp)⟩
theorem MadeP.fw_take {l : List Pt} (h : MadeP l) {m : Nat} (h1 : 1 ≤ m) (h2 : m ≤ l.length) : forwardF (l.take m) = fwUp l m := by
 rw [(h.take h1).fw, List.length_take, Nat.min_eq_left h2]
 exact Go.Proofs.Ytjbkjgmcfommgaa.fw_take m (Nat.le_refl _)
theorem forward_at {ok : Nat → Prop} {A : Option Addr} {c n : Nat} {l : List Pt} {w : World} {ls : List (List Bx)} {a b e0 : Int} (hf : forwardF l = (ls, (a, b), e0)) (hn : n = l.length) (h : Pts w ok A l) (hl : l.length ≤ 1000000) (ho : ∀ p ∈ l, (∀ b ∈ p.b, OKB b ∧ I64 b.k) ∧ p.b.length ≤ 1000000) :
 Calls Try.prog 10 #[.slice A n c] w fun e w' => (∃ A' c', e = .returned (.tuple #[.slice A' ls.length c', .agg #[.int .i64 a, .int .i64 b], .int .i64 e0]) ∧ ls.length ≤ c' ∧ Lbx w' (Ge w.heap.size) A' ls) ∧ Grows w w' := by
 have := forward_any (c := c) hn h hl ho
 rw [hf] at this
 refine this.mono ?_
 rintro e w1 ⟨⟨v, rfl, hw⟩, hq⟩
 obtain ⟨A', c', rfl, hc, hb⟩ := hw.lbx
 exact ⟨⟨A', c', rfl, hc, hb.mono (fun k hk => hk.elim id id)⟩, hq⟩
theorem choose_at {ok ow : Nat → Prop} {A I : Option Addr} {c n ci : Nat} {l : List Pt} {want : Ch} {w : World} {L : List Ch} {a b e0 : Int} (hf : chooseF l want = (L, (a, b), e0)) (hn : n = l.length) (h : Pts w ok A l) (hl : l.length ≤ 1000000) (ho : ∀ p ∈ l, (∀ b ∈ p.b, OKB b ∧ I64 b.k) ∧ p.b.length ≤ 1000000) (hi : InB w ow I want.m) (hok : OKC want) :
 Calls Try.prog 11 #[.slice A n c, .agg #[.int .i64 want.k, .int .i64 want.r, .slice I want.m.length ci, .int .i64 want.s]] w fun e w' => (∃ A' c', e = .returned (.tuple #[.slice A' L.length c', .agg #[.int .i64 a, .int .i64 b], .int .i64 e0]) ∧ L.length ≤ c' ∧ Chs w' (Ge w.heap.size) A' L) ∧ Grows w w' := by
 have := choose_any (c := c) (ci := ci) hn h hl ho hi hok
 rw [hf] at this
 exact this
/-- Whether a made chain is met. -/
theorem MadeP.met {l : List Pt} (h : MadeP l) : ((forwardF l).2.2 = 0 ↔ ∃ c, Rch l (l.length - 1) c) ∧ ((forwardF l).2.2 = 0 ∨ (forwardF l).2.2 = 13) ∧ (forwardF l).2.2 ≠ 3 := by
 obtain ⟨n, hn⟩ : ∃ n, l.length = n + 1 := ⟨l.length - 1, by have := h.1; omega⟩
 have hs := h.small (n := n + 1) (by omega)
 have := fw_ok h.ok h.k (n := n) (by omega) hs
 rw [h.fw, hn]
 exact ⟨this.1, this.2, hs⟩
end Go.Proofs.Ytjbkjgmcfommgaa

namespace Go.Proofs.Ytjbkjgmcfommgaa
open Go.RowKit
section
variable {w w' : World} {base : Nat} {ok : Nat → Prop} {l : List Pt} {ad : Addr} {c n : Nat}
theorem OwnPq.addr (h : OwnPq w base ok (.slice (some ad) n c) l) : ∃ q, ad = ⟨q, 0, none⟩ ∧ base ≤ q ∧ q < w.heap.size := by
 obtain ⟨vs, h1, -⟩ := h
 have hlt := World.ownsRow.lt h1 ad.block rfl
 rcases h1.2 with ⟨e, _⟩ | ⟨q, cap, cur, e, hb, _⟩
 ·injection e with e; cases e
 ·injection e with e
  injection e with e
  subst e
  exact ⟨q, rfl, hb, hlt.2⟩
theorem OwnPq.form {v : Value} (h : OwnPq w base ok v l) (hl : 0 < l.length) : ∃ q c, v = .slice (some ⟨q, 0, none⟩) l.length c ∧ l.length ≤ c ∧ base ≤ q ∧ q < w.heap.size := by
 obtain ⟨A, c, rfl, hc, hp⟩ := h.read
 obtain ⟨ad, _, _, _, rfl, _⟩ := hp.elem (Grows.rfl' w) hl
 obtain ⟨q, rfl, hb, hq⟩ := h.addr
 exact ⟨q, c, rfl, hc, hb, hq⟩
theorem OwnPq.readq {v : Value} (h : OwnPq w base ok v l) : ∃ A c, v = .slice A l.length c ∧ l.length ≤ c ∧ Pts w (fun k => ok k ∨ v.ownBlock = some k) A l := by
 obtain ⟨vs, h1, h2⟩ := h
 have h3 : ∀ (i : Nat) (p : Pt), l[i]? = some p → ∃ B c, Bxs w (fun k => ok k ∨ v.ownBlock = some k) B p.b ∧ p.b.length ≤ c ∧ vs[i * 2]? = some (.slice B p.b.length c) ∧ vs[i * 2 + 1]? = some (.int .i64 p.v) := fun i p hx => by
  obtain ⟨B, c, hb, hc, r⟩ := h2 i p hx
  exact ⟨B, c, hb.mono (fun k hk => .inl hk.1), hc, r 0 (by omega), r 1 (by omega)⟩
 rcases h1.2 with ⟨rfl, hn⟩ | ⟨q, cap, cur, rfl, hbq, hg, hnc, hm, hs, ht⟩
 ·have e := List.eq_nil_of_length_eq_zero hn
  subst e
  exact ⟨none, 0, rfl, Nat.le_refl _, Pts.nil⟩
 ·refine ⟨_, cap, rfl, hnc, vs, ⟨Reads.of_own h1, fun _ ad e => ?_⟩, h3⟩
  injection e with e
  subst e
  exact Or.inr rfl
theorem OwnPq.cells {q : Nat} (h : OwnPq w base ok (.slice (some ⟨q, 0, none⟩) n c) l) {k : Nat} {p : Pt} (hp : l[k]? = some p) : ∃ B d, p.b.length ≤ d ∧ Bxs w (Aq ok (.slice (some ⟨q, 0, none⟩) n c)) B p.b ∧ w.cell? ⟨q, k * 2, none⟩ = some (.slice B p.b.length d) ∧ w.cell? ⟨q, k * 2 + 1, none⟩ = some (.int .i64 p.v) ∧ w.frozen? ⟨q, k * 2, none⟩ = false ∧ w.frozen? ⟨q, k * 2 + 1, none⟩ = false := by
 obtain ⟨vs, h1, h2⟩ := h
 have hn : n = l.length := by
  rcases h1.2 with ⟨e, _⟩ | ⟨_, _, _, e, _⟩ <;> (injection e with _ e _)
  all_goals omega
 subst hn
 obtain ⟨B, d, hb, hd, r⟩ := h2 k p hp
 have hk := (List.getElem?_eq_some_iff.1 hp).1
 exact ⟨B, d, hd, hb, (h1.cellAt (k * 2) (by omega)).trans (r 0 (by omega)), (h1.cellAt (k * 2 + 1) (by omega)).trans (r 1 (by omega)), h1.frozenAt _, h1.frozenAt _⟩
theorem Bxs.apart {v : Value} {q : Nat} {B : Option Addr} {x : List Bx} (h : Bxs w (Aq ok v) B x) (hg : w.grownBy w' (some q)) (hv : v.ownBlock = some q) : Bxs w' (Aq ok v) B x := h.grown hg (fun g e hq => by injection e with e; subst e; exact hq.2 hv)
theorem OwnPq.putv {q : Nat} (h : OwnPq w base ok (.slice (some ⟨q, 0, none⟩) n c) l) {k : Nat} {p : Pt} (hp : l[k]? = some p) (x : Int) : OwnPq (w.setCell ⟨q, k * 2 + 1, none⟩ (.int .i64 x)) base ok (.slice (some ⟨q, 0, none⟩) n c) (l.set k ⟨p.b, x⟩) ∧ w.grownBy (w.setCell ⟨q, k * 2 + 1, none⟩ (.int .i64 x)) (some q) := by
 obtain ⟨vs, h1, h2⟩ := h
 have hn : n = l.length := by
  rcases h1.2 with ⟨e, _⟩ | ⟨_, _, _, e, _⟩ <;> (injection e with _ e _)
  all_goals omega
 subst hn
 obtain ⟨g1, g2⟩ := h1.stored (k * 2 + 1) (.int .i64 x)
 have hk := (List.getElem?_eq_some_iff.1 hp).1
 refine ⟨⟨_, by rw [List.length_set]; exact g1, fun i y hy => ?_⟩, g2⟩
 by_cases e : k = i
 ·subst e
  rw [List.getElem?_set_self hk] at hy
  injection hy with hy
  subst hy
  obtain ⟨B, d, hb, hd, r⟩ := h2 k p hp
  refine ⟨B, d, hb.apart g2 rfl, hd, fun j hj => ?_⟩
  match j, hj with
  | 0, _ => rw [List.getElem?_set_ne (by omega)]; exact r 0 (by omega)
  | 1, _ => rw [List.getElem?_set_self (by have := h1.1; omega)]; rfl
 ·rw [List.getElem?_set_ne e] at hy
  obtain ⟨B, d, hb, hd, r⟩ := h2 i y hy
  exact ⟨B, d, hb.apart g2 rfl, hd, fun j hj => by rw [List.getElem?_set_ne (by omega)]; exact r j hj⟩
theorem OwnPq.putb {q : Nat} (h : OwnPq w base ok (.slice (some ⟨q, 0, none⟩) n c) l) {k : Nat} {p : Pt} (hp : l[k]? = some p) {B : Option Addr} {d : Nat} {b : List Bx} (hb : Bxs w (Aq ok (.slice (some ⟨q, 0, none⟩) n c)) B b) (hd : b.length ≤ d) : OwnPq (w.setCell ⟨q, k * 2, none⟩ (.slice B b.length d)) base ok (.slice (some ⟨q, 0, none⟩) n c) (l.set k ⟨b, p.v⟩) ∧ w.grownBy (w.setCell ⟨q, k * 2, none⟩ (.slice B b.length d)) (some q) := by
 obtain ⟨vs, h1, h2⟩ := h
 have hn : n = l.length := by
  rcases h1.2 with ⟨e, _⟩ | ⟨_, _, _, e, _⟩ <;> (injection e with _ e _)
  all_goals omega
 subst hn
 obtain ⟨g1, g2⟩ := h1.stored (k * 2) (.slice B b.length d)
 have hk := (List.getElem?_eq_some_iff.1 hp).1
 refine ⟨⟨_, by rw [List.length_set]; exact g1, fun i y hy => ?_⟩, g2⟩
 by_cases e : k = i
 ·subst e
  rw [List.getElem?_set_self hk] at hy
  injection hy with hy
  subst hy
  obtain ⟨B0, d0, hb0, hd0, r⟩ := h2 k p hp
  refine ⟨B, d, hb.apart g2 rfl, hd, fun j hj => ?_⟩
  match j, hj with
  | 0, _ => rw [Nat.add_zero, List.getElem?_set_self (by have := h1.1; omega)]; rfl
  | 1, _ => rw [List.getElem?_set_ne (by omega)]; exact r 1 (by omega)
 ·rw [List.getElem?_set_ne e] at hy
  obtain ⟨B0, d0, hb0, hd0, r⟩ := h2 i y hy
  exact ⟨B0, d0, hb0.apart g2 rfl, hd0, fun j hj => by rw [List.getElem?_set_ne (by omega)]; exact r j hj⟩
end
theorem getD_set {l : List Pt} {k : Nat} {q : Pt} (hk : k < l.length) (i : Nat) : (l.set k q).getD i noPt = if i = k then q else l.getD i noPt := by
 rw [List.getD_eq_getElem?_getD, List.getD_eq_getElem?_getD]
 by_cases e : i = k
 ·subst e
  rw [if_pos rfl, List.getElem?_set_self hk]
  rfl
 ·rw [if_neg e, List.getElem?_set_ne (Ne.symm e)]
theorem at_getD {l : List Pt} {k : Nat} {p : Pt} (h : l[k]? = some p) : l.getD k noPt = p := by rw [List.getD_eq_getElem?_getD, h]; rfl
theorem MadeP.set {l : List Pt} (h : MadeP l) {k : Nat} {q : Pt} (hq : Fine q.b ∧ 1 ≤ q.b.length ∧ q.b.length ≤ 2 ∧ 0 ≤ q.v ∧ q.v ≤ 15) : MadeP (l.set k q) := ⟨by rw [List.length_set]; exact h.1, by rw [List.length_set]; exact h.2.1, fun p hp => by
 rcases List.mem_or_eq_of_mem_set hp with hp | rfl
 ·exact h.2.2 p hp
 ·exact hq⟩
theorem MadeP.has {l : List Pt} (h : MadeP l) {i : Nat} (hi : i < l.length) : ∃ c, hasL (l.getD i noPt).b c = true := by
 have hp := getD_mem (l := l) hi
 have hf := fl_port (h.ok _ hp) (h.k _ hp)
 exact (fl_has hf).2 (fun e => by have := (h.2.2 _ hp).2.1; rw [e] at this; simp at this)
/-- One port converts more. -/
theorem conv_more {l : List Pt} (h : MadeP l) {k : Nat} {p : Pt} (hp : l[k]? = some p) (x : Fin 16) : MadeP (l.set k ⟨p.b, bits .or .i64 p.v (x.val : Int)⟩) ∧ ((forwardF l).2.2 = 0 → (forwardF (l.set k ⟨p.b, bits .or .i64 p.v (x.val : Int)⟩)).2.2 = 0) := by
 have hk := (List.getElem?_eq_some_iff.1 hp).1
 obtain ⟨f1, f2, f3, f4, f5⟩ := h.2.2 p (List.mem_of_getElem? hp)
 obtain ⟨v, hv⟩ : ∃ v : Fin 16, p.v = (v.val : Int) := ⟨⟨p.v.toNat, by omega⟩, by show p.v = ((p.v.toNat : Nat) : Int); omega⟩
 obtain ⟨s1, s2, s4, s8, s0, s15⟩ := kept_sub v x
 have hm : MadeP (l.set k ⟨p.b, bits .or .i64 p.v (x.val : Int)⟩) := h.set ⟨f1, f2, f3, by show 0 ≤ bits .or .i64 p.v (x.val : Int); rw [hv]; exact s0, by show bits .or .i64 p.v (x.val : Int) ≤ 15; rw [hv]; exact s15⟩
 refine ⟨hm, fun h0 => hm.met.1.2 ?_⟩
 obtain ⟨c, hc⟩ := h.met.1.1 h0
 rw [List.length_set]
 refine ⟨c, rch_mono _ (fun i hi c hc => ?_) (fun i hi a c ha => ?_) c hc⟩
 ·rw [getD_set hk]
  split
  ·rename_i e
   subst e
   rwa [at_getD hp] at hc
  ·exact hc
 ·rw [getD_set hk]
  split
  ·rename_i e
   subst e
   rw [at_getD hp] at ha
   unfold keptD at ha ⊢
   rw [hv] at ha
   show agD (bits .andNot .i64 15 (bits .or .i64 p.v (x.val : Int))) a c = true
   rw [hv]
   exact ag_sub s1 s2 s4 s8 ha
  ·exact ha
def conv15 (p : Pt) : Pt := ⟨p.b, 15⟩
/-- Everything is converted. -/
theorem conv_all {l : List Pt} (h : MadeP l) : MadeP (l.map conv15) ∧ (forwardF (l.map conv15)).2.2 = 0 := by
 have hm : MadeP (l.map conv15) := ⟨by rw [List.length_map]; exact h.1, by rw [List.length_map]; exact h.2.1, fun p hp => by
  obtain ⟨q, hq, rfl⟩ := List.mem_map.1 hp
  obtain ⟨f1, f2, f3, f4, f5⟩ := h.2.2 q hq
  exact ⟨f1, f2, f3, (by show (0 : Int) ≤ 15; decide), (by show (15 : Int) ≤ 15; decide)⟩⟩
 refine ⟨hm, hm.met.1.2 (rch_free _ (fun i hi => hm.has (by have := hm.1; omega)) (fun i hi => ?_))⟩
 have hi2 : i < l.length := by rw [List.length_map] at hi; omega
 rw [List.getD_eq_getElem?_getD, List.getElem?_map, List.getElem?_eq_getElem hi2]
 show bits .andNot .i64 15 15 = 0
 decide
theorem map_done {l L : List Pt} (hL : L.length = l.length) (h : ∀ i, i < l.length → L[i]? = (l[i]?).map conv15) : L = l.map conv15 := by
 refine List.ext_getElem? fun i => ?_
 rw [List.getElem?_map]
 by_cases hi : i < l.length
 ·exact h i hi
 ·rw [List.getElem?_eq_none (by omega), List.getElem?_eq_none (by omega)]
  rfl
theorem map_next {l L : List Pt} {k : Nat} {p : Pt} (hL : L.length = l.length) (h1 : ∀ i, i < k → L[i]? = (l[i]?).map conv15) (h2 : ∀ i, k ≤ i → L[i]? = l[i]?) (hp : L[k]? = some p) : (L.set k ⟨p.b, 15⟩).length = l.length ∧ (∀ i, i < k + 1 → (L.set k ⟨p.b, 15⟩)[i]? = (l[i]?).map conv15) ∧ (∀ i, k + 1 ≤ i → (L.set k ⟨p.b, 15⟩)[i]? = l[i]?) := by
 have hk := (List.getElem?_eq_some_iff.1 hp).1
 refine ⟨by rw [List.length_set]; exact hL, fun i hi => ?_, fun i hi => ?_⟩
 ·by_cases e : k = i
  ·subst e
   rw [List.getElem?_set_self hk, ← h2 k (Nat.le_refl _), hp]
   rfl
  ·rw [List.getElem?_set_ne e]
   exact h1 i (by omega)
 ·rw [List.getElem?_set_ne (by omega)]
  exact h2 i (by omega)
theorem and15 : ∀ d : Fin 256, ∃ x : Fin 16, bits .and .i64 (d.val : Int) 15 = (x.val : Int) := by decide +kernel
theorem and_dims {d : Int} (h0 : 0 ≤ d) (h1 : d ≤ 255) : ∃ x : Fin 16, bits .and .i64 d 15 = (x.val : Int) := by
 obtain ⟨x, hx⟩ := and15 ⟨d.toNat, by omega⟩
 refine ⟨x, ?_⟩
 rw [← hx]
 congr 1
 show d = ((d.toNat : Nat) : Int)
 omega
end Go.Proofs.Ytjbkjgmcfommgaa

namespace Go.Proofs.Ytjbkjgmcfommgaa
open Go.ChangeShapes Go.WideShapes Go.ChangeAt Go.RowKit
namespace NegotiateConverts
set_option maxHeartbeats 32000000 in
set_option maxRecDepth 10000 in
theorem walk (A : Option Addr) (c0 : Nat) (sd : List Int) (po di : Int) (w : World) (h0 : Reads w w.heap.size 1 A sd.length (sd.map (Value.int .u8))) (hc : sd.length ≤ c0) (hl : sd.length ≤ 9223372036854775807) (hwf : ∀ x ∈ sd, 0 ≤ x ∧ x ≤ 255) (hpo : 0 ≤ po ∧ po ≤ 255) (hdi : 0 ≤ di ∧ di ≤ 255) :
    Calls Try.prog 4 #[.slice A sd.length c0, .int .u8 po, .int .u8 di] w fun e w' => e = .returned (.bool true) ∧ Grows w w' := by
  have hB := Below.refl w.heap.size w
  go_enter Try.func4, Try.ntmps4
  go_wp2_with fail
  refine (nsane_any w).mono ?_
  rintro e w1 ⟨rfl, hq⟩
  replace hB := below_grows hB (Nat.le_refl _) hq
  replace h0 := Reads.grows h0 hq
  have hs1 := hB.size
  clear hq
  go_wp2_with fail
  refine (dice_low w1.heap.size A c0 sd w1 h0 (Nat.le_refl _) hc hl hwf).mono ?_
  rintro e w2 ⟨rfl, hD, hq⟩
  replace hB := below_grows hB (Nat.le_refl _) hq
  have hs2 := hD.lt
  clear hq h0
  generalize w1.heap.size = g at *
  go_wp2_with fail
  refine (ports_any _ g _ hD).mono ?_
  rintro e w3 ⟨⟨l, v, rfl, ho, hm⟩, hD3, hq⟩
  obtain ⟨A1, c1, rfl, hc1, hp⟩ := ho.read
  replace hp : Pts w3 (fun k => g < k) A1 l := hp.mono (fun k hk => by unfold Ge at hk; omega)
  replace hB := hB.grown hq hB.size (fun q e => by injection e with e; omega)
  have hl5 := hm.2.1
  have hl1 := hm.1
  clear ho hq hD
  obtain ⟨k, hk⟩ : ∃ k : Nat, po % (l.length : Int) = (k : Int) := ⟨(po % (l.length : Int)).toNat, by have := Int.emod_nonneg po (b := (l.length : Int)) (by omega); omega⟩
  have hkl : k < l.length := by have := Int.emod_lt_of_pos po (b := (l.length : Int)) (by omega); omega
  have hk2 : po.tmod (l.length : Int) = (k : Int) := by rw [Int.tmod_eq_emod_of_nonneg hpo.1]; exact hk
  obtain ⟨p, hpk⟩ : ∃ p, l[k]? = some p := ⟨_, List.getElem?_eq_getElem hkl⟩
  obtain ⟨x, hx⟩ := and_dims hdi.1 hdi.2
  obtain ⟨hm1, hmore⟩ := conv_more hm hpk x
  rw [← hx] at hm1 hmore
  obtain ⟨hm2, hall⟩ := conv_all hm
  have h13 := hm.met.2.1
  obtain ⟨⟨ls, ⟨fa, fb⟩, fe⟩, hf⟩ : ∃ f, forwardF l = f := ⟨_, rfl⟩
  rw [hf] at hmore h13
  have hmore : fe = 0 → _ := hmore
  have h13 : fe = 0 ∨ fe = 13 := h13
  have HM := Lib.hid hm
  have HM1 := Lib.hid hm1
  have HM2 := Lib.hid hm2
  have HMORE := Lib.hid hmore
  have HALL := Lib.hid hall
  have H13 := Lib.hid h13
  have HPK := Lib.hid hpk
  have HK := Lib.hid hk
  have HK2 := Lib.hid hk2
  clear hm1 hm2 hmore hall h13 hpk hx x hm hk hk2
  go_wp2_with fail
  refine (forward_at (c := c1) hf rfl hp (by omega) HM.out.oks).mono ?_
  rintro e w4 ⟨⟨A9, c9, rfl, hc9, hr9⟩, hq⟩
  replace hB := below_grows hB (Nat.le_refl _) hq
  replace hp := hp.grows hq
  clear hq hr9 hc9
  have k9 := Blk.new w4 30 #[.int .i64 fa, .int .i64 fb]
  have hq := (Below.refl w4.heap.size w4).alloc (Nat.le_refl _) (Obj.cells #[.int .i64 fa, .int .i64 fb] 30)
  go_upto_region 5 with fail
  replace hB := below_grows hB (Nat.le_refl _) hq
  replace hp := hp.grows hq
  clear hq
  generalize w4.heap.size = q9 at *
  generalize World.alloc w4 _ = w4b at *
  clear hf k9
  replace hp := hp.under
  have hs4 := hB.size
  generalize hG4 : w4b.heap.size = G4 at hp
  have HG4 := Lib.hid hG4
  clear hG4
  refine wp_region_lit ?_
  refine wpList_plain rfl (fun K hK => ?_)
  go_simp
  refine hK _ _ ?_
  clear hK K
  refine wpList_append_ports rfl (.const (.slice none 0 0)) (.tmp 31) rfl (base := w4b.heap.size) (ok := fun k => Under G4 k) (v := .slice none 0 0) (l := []) (m := l) (c := c1) rfl rfl OwnPq.nil rfl (hp.mono fun k hk => ⟨hk, by simp [Value.ownBlock]⟩) (by simp only [List.length_nil]; omega) (Nat.le_refl _) ?_
  intro v5 w5 hv5 hgr _
  rw [List.nil_append] at hv5
  have hq : Grows w4b w5 := Below.grown (Below.refl _ _) hgr (Nat.le_refl _) (fun q e => by simp [Value.ownBlock] at e)
  replace hB := below_grows hB (Nat.le_refl _) hq
  replace hp := hp.grows hq
  have hs_v5 := hq.size
  clear hq hgr
  obtain ⟨q5, c5, rfl, hc5, hb5, hl5b⟩ := hv5.form (by omega)
  refine wpList_plain rfl (fun K hK => ?_)
  go_simp
  refine hK _ _ ?_
  clear hK K
  refine wpList_append_ports rfl (.const (.slice none 0 0)) (.tmp 33) rfl (base := w5.heap.size) (ok := fun k => Under G4 k) (v := .slice none 0 0) (l := []) (m := l) (c := c1) rfl rfl OwnPq.nil rfl (hp.mono fun k hk => ⟨hk, by simp [Value.ownBlock]⟩) (by simp only [List.length_nil]; omega) (Nat.le_refl _) ?_
  intro v6 w6 hv6 hgr _
  rw [List.nil_append] at hv6
  have hq : Grows w5 w6 := Below.grown (Below.refl _ _) hgr (Nat.le_refl _) (fun q e => by simp [Value.ownBlock] at e)
  replace hB := below_grows hB (Nat.le_refl _) hq
  replace hp := hp.grows hq
  replace hv5 := hv5.grows hq
  have hs_v6 := hq.size
  clear hq hgr
  obtain ⟨q6, c6, rfl, hc6, hb6, hl6b⟩ := hv6.form (by omega)
  obtain ⟨B5, d5, hd5, hbx5, y0, y1, z0, z1⟩ := hv5.cells HPK.out
  have hq5G : G4 ≤ q5 := by have := HG4.out; omega
  have hw1 : IntKind.i64.wrap po = po := IntWalk.i64_in _ (by omega)
  have hw2 : IntKind.i64.wrap di = di := IntWalk.i64_in _ (by omega)
  have hnz : ((l.length : Int) == 0) = false := by simp only [beq_eq_false_iff_ne, ne_eq]; omega
  have hnz2 : decide ((l.length : Int) = 0) = false := by simp only [decide_eq_false_iff_not]; omega
  have hnz3 : (l.length : Int) ≠ 0 := by omega
  have hk1 := HK.out
  have hk2 := HK2.out
  have b0 : (0 : Int) ≤ (k : Int) := by omega
  have b1 : (k : Int) < (l.length : Int) := by omega
  obtain ⟨hv5n, hg5⟩ := hv5.putv HPK.out (bits .or .i64 p.v (bits .and .i64 di 15))
  have hm1len : (l.set k ⟨p.b, bits .or .i64 p.v (bits .and .i64 di 15)⟩).length = l.length := List.length_set ..
  generalize hm1 : l.set k ⟨p.b, bits .or .i64 p.v (bits .and .i64 di 15)⟩ = m1 at *
  have HL1 := Lib.hid hm1len
  clear hm1 hm1len
  replace hv6 := hv6.only hg5 (by omega) (by show ¬ (q5 < G4); omega)
  have hB := hB.setCell (p := ⟨q5, k * 2 + 1, none⟩) (show w.heap.size ≤ q5 by omega) (.int .i64 (bits .or .i64 p.v (bits .and .i64 di 15)))
  clear hv5 hg5 hp
  go_upto_region 7 with fail
  generalize World.setCell w6 _ _ = w7 at *
  clear y0 y1 z0 z1 hbx5 hd5 hk1 hk2 hw1 hw2 hnz hnz2 hnz3 b0 b1
  have hqw : w.heap.size ≤ q6 := by omega
  have hv5b := hv5n.readq
  obtain ⟨A5, n5, e5, hn5, hp5⟩ := hv5b
  replace e5 : A5 = some ⟨q5, 0, none⟩ := by injection e5 with e5; exact e5.symm
  subst e5
  replace hp5 : Pts w7 (fun k => k ≠ q6) _ m1 := hp5.mono (fun k hk => by
    rcases hk with h | h
    · have h : k < G4 := h
      omega
    · have h : q5 = k := by simpa [Value.ownBlock] using h
      omega)
  go_wp2_with fail
  go_loopw [52] (fun i wr => ∃ (k : Nat) (L : List Pt), k ≤ l.length ∧ i = .int .i64 k ∧ Hid (L.length = l.length) ∧ Hid (∀ i, i < k → L[i]? = (l[i]?).map conv15) ∧ Hid (∀ i, k ≤ i → L[i]? = l[i]?) ∧ OwnPq wr w5.heap.size (fun k => Under G4 k) (.slice (some ⟨q6, 0, none⟩) l.length c6) L ∧ Pts wr (fun k => k ≠ q6) (some ⟨q5, 0, none⟩) m1 ∧ Below w.heap.size w wr) (fun i _ => l.length - (intOf i).toNat)
  case atStart => exact ⟨0, l, by omega, rfl, Lib.hid rfl, Lib.hid (fun i hi => absurd hi (by omega)), Lib.hid (fun i _ => rfl), hv6, hp5, hB⟩
  case round =>
    clear hv6 hp5 hB
    obtain ⟨k, L, hk, rfl, HLL, HC1, HC2, hv6, hp5, hB⟩ := hrel
    by_cases hlt : k < l.length
    · obtain ⟨p, hpk⟩ : ∃ p, L[k]? = some p := ⟨_, List.getElem?_eq_getElem (by have := HLL.out; omega)⟩
      obtain ⟨B5, d5, hd5, hbx5, y0, y1, z0, z1⟩ := hv6.cells hpk
      obtain ⟨g1, g2, g3⟩ := map_next HLL.out HC1.out HC2.out hpk
      obtain ⟨hv6n, hg6⟩ := hv6.putv hpk 15
      have hp6 := hp5.grown hg6 (fun q e hh => by injection e with e; exact hh e.symm)
      have hB6 := hB.setCell (p := ⟨q6, k * 2 + 1, none⟩) hqw (.int .i64 15)
      have HG1 := Lib.hid g1
      have HG2 := Lib.hid g2
      have HG3 := Lib.hid g3
      have c1_ : (0 : Int) ≤ (k : Int) := by omega
      have c2_ : (k : Int) < (l.length : Int) := by omega
      clear g1 g2 g3 hpk hbx5 hg6 hv6 hp5 hB
      generalize L.set k ⟨p.b, 15⟩ = L2 at *
      go_wp2
      go_roundw
      case rel => exact ⟨k + 1, L2, by omega, by go_num, HG1, HG2, HG3, hv6n, hp6, hB6⟩
      case measure => simp [intOf]; omega
    · have hLm := map_done HLL.out (fun i hi => HC1.out i (by omega))
      subst hLm
      have hvl : (l.map conv15).length = l.length := List.length_map ..
      obtain ⟨A6, n6, e6, hn6, hp6⟩ := hv6.read
      injection e6 with e6 e7 e8
      subst e6
      clear hv6 e7 e8 hn6
      obtain ⟨⟨ls2, ⟨fa2, fb2⟩, fe2⟩, hf2⟩ : ∃ f, forwardF m1 = f := ⟨_, rfl⟩
      obtain ⟨⟨ls3, ⟨fa3, fb3⟩, fe3⟩, hf3⟩ : ∃ f, forwardF (l.map conv15) = f := ⟨_, rfl⟩
      have h3 : fe3 = 0 := by have := HALL.out; rw [hf3] at this; exact this
      subst h3
      have h2 : fe = 0 → fe2 = 0 := by have := HMORE.out; rw [hf2] at this; exact this
      have H2 := Lib.hid h2
      have HF2 := Lib.hid hf2
      have HF3 := Lib.hid hf3
      have HVL := Lib.hid hvl
      clear h2 hf2 hf3 hvl
      go_wp2_with fail
      refine (forward_at (c := c5) HF2.out HL1.out.symm hp5 (by rw [HL1.out]; omega) HM1.out.oks).mono ?_
      rintro e w8 ⟨⟨A15, c15, rfl, hc15, hr15⟩, hq⟩
      replace hB := below_grows hB (Nat.le_refl _) hq
      replace hp6 := hp6.grows hq
      clear hp5 hq hr15 hc15
      have k15 := Blk.new w8 30 #[.int .i64 fa2, .int .i64 fb2]
      have hq := (Below.refl w8.heap.size w8).alloc (Nat.le_refl _) (Obj.cells #[.int .i64 fa2, .int .i64 fb2] 30)
      go_upto_region 13 with fail
      replace hB := below_grows hB (Nat.le_refl _) hq
      replace hp6 := hp6.grows hq
      clear hq
      generalize w8.heap.size = q15 at *
      generalize World.alloc w8 _ = w8b at *
      go_wp2_with fail
      refine (forward_at (c := c6) HF3.out HVL.out.symm hp6 (by rw [HVL.out]; omega) HM2.out.oks).mono ?_
      rintro e w9 ⟨⟨A18, c18, rfl, hc18, hr18⟩, hq⟩
      replace hB := below_grows hB (Nat.le_refl _) hq
      clear hq hr18 hc18
      have k18 := Blk.new w9 30 #[.int .i64 fa3, .int .i64 fb3]
      have hq := (Below.refl w9.heap.size w9).alloc (Nat.le_refl _) (Obj.cells #[.int .i64 fa3, .int .i64 fb3] 30)
      go_upto_region 14 with fail
      replace hB := below_grows hB (Nat.le_refl _) hq
      clear hq
      generalize w9.heap.size = q18 at *
      generalize World.alloc w9 _ = w9b at *
      rcases H13.out with h | h
      · have h2 := H2.out h
        subst h h2
        go_wp2
        go_ret
        exact ⟨rfl, hB⟩
      · subst h
        go_wp2
        go_ret
        exact ⟨rfl, hB⟩
end NegotiateConverts
namespace NegotiateConverts
set_option maxRecDepth 100000 in
theorem contract (H : Type) (enc : TypeId × Value → H) (W : World) (base : Nat) (args : Array Value) (ds gs : List (DataW H)) (before : List MemPlace)
    (hval0 : ∀ (j : Nat) t v, Try.f4.params[j]? = some t → args[j]? = some v → Value.okWide Try.prog W .any base t v)
    (hW : DataW.Whole enc Try.prog Try.f4.params.toList Rows.negotiateConvertsSpec.vars false W args.toList ds gs before)
    (hsz0 : (DataW.weightsEach Try.prog (Try.f4.params.toList ++ Rows.negotiateConvertsSpec.plain.varTypes Try.prog) (ds ++ gs)).all (· ≤ reachBytes) = true) :
    Calls Try.prog 4 args W fun e W' => ∃ v, e = .returned v ∧ Rows.negotiateConvertsSpec.post enc Try.prog Try.f4 false true false false W args v W' := by
  have key : Calls Try.prog 4 args W fun e W' => e = .returned (.bool true) ∧ Below W.heap.size W W' := by
    have hval : ∀ (j : Nat) t v, Try.f4.params[j]? = some t → args[j]? = some v → Value.okWide Try.prog W .any base t v := hval0
    obtain ⟨p, q, hA0, hV, hbe, hfz, hnd⟩ := hW
    have hA : DataW.TrodAll enc Try.prog W 0 (fun _ => true) true Try.f4.params.toList args.toList ds p := hA0
    rw [Try.params4] at hA hval
    clear hA0 hval0
    obtain ⟨v0, vs0, d0, ds0, p0, q0, hargs, rfl, rfl, h0, r0⟩ := trodAll_cons hA
    obtain ⟨v1, vs1, d1, ds1, p1, q1, rfl, rfl, rfl, h1, r1⟩ := trodAll_cons r0
    obtain ⟨v2, vs2, d2, ds2, p2, q2, rfl, rfl, rfl, h2, r2⟩ := trodAll_cons r1
    obtain ⟨rfl, rfl, rfl⟩ := trodAll_nil r2
    obtain rfl : args = #[v0, v1, v2] := by cases args; simp_all
    obtain ⟨rfl, rfl⟩ := trodVars_none hV
    have hsz : (DataW.weightsEach Try.prog (Try.f4.params.toList ++ Rows.negotiateConvertsSpec.plain.varTypes Try.prog) ([d0, d1, d2] ++ [])).all (· ≤ reachBytes) = true := hsz0
    rw [Try.params4] at hsz
    clear hsz0
    obtain ⟨A, c, l, rfl, hI0, hl0, hlen0, hw0⟩ := open_slice_kind Try.underlying22 Try.underlying5 (by kernel_rfl) (hval 0 22 v0 rfl rfl) h0
    obtain ⟨a1, rfl, rfl, rfl, w1⟩ := open_int Try.underlying5 (hval 1 5 v1 rfl rfl) h1
    obtain ⟨a2, rfl, rfl, rfl, w2⟩ := open_int Try.underlying5 (hval 2 5 v2 rfl rfl) h2
    exact NegotiateConverts.walk A c l a1 a2 W hI0 hlen0 hl0 (fun x hx => u8_bd (hw0 x hx)) (u8_bd w1) (u8_bd w2)
  refine key.mono fun e W' ⟨he, hb⟩ => ⟨_, he, law_post laid_out hW ?_ rfl (by kernel_rfl) Try.underlying4 ?_ hb⟩
  · rw [Try.params4]
    intro t ht
    simp only [List.mem_cons, List.not_mem_nil, or_false] at ht
    rcases ht with rfl | rfl | rfl <;> exact ⟨by kernel_rfl, of_decide_eq_true (by kernel_rfl)⟩
  · rw [Try.params4]
    intro ds hl
    match ds, hl with
    | [_, _, _], _ => rfl

set_option maxRecDepth 100000 in
theorem lifted (os : Os) (started : os.Started) (H : Type) (enc : TypeId × Value → H) :
    ReturnsInHanded {} Try.checked os 4 .any (Rows.negotiateConvertsSpec.pre6 enc Try.prog Try.f4 Rows.negotiateConvertsRow.domain false) (Rows.negotiateConvertsSpec.post enc Try.prog Try.f4 false true false false) := by
  refine returnsInHanded_of_change_sized (C := Try.checked) own_knob started (by kernel_rfl) Try.func4
    (ChangeSpec.witness6 (enc := enc) (C := Try.checked) false ⟨#[], #[.slice none 0 0, .int .u8 0, .int .u8 0], []⟩ 8 (by kernel_rfl) (by kernel_rfl) (by kernel_rfl) (by kernel_rfl)) ?_
  intro W base args ds gs before hval0 hW _ hsz0 _
  exact contract H enc W base args ds gs before hval0 hW hsz0

theorem over : Rows.negotiateConvertsRow.holds Try.pinned (OpenSpec.ofChange Rows.negotiateConvertsSpec) :=
  OpenClaim.holds_of_wide 4 Try.f4 rfl rfl rfl rfl rfl rfl rfl ⟨rfl, rfl, rfl, rfl, rfl⟩ rfl rfl rfl rfl rfl (by kernel_rfl) Try.func4 (by kernel_rfl)
    (of_decide_eq_true (by kernel_rfl)) (by unfold Func.isWrapper; first | (rw [if_pos (by decide +kernel)]; kernel_rfl) | (rw [if_neg (by decide +kernel)]; exact ⟨rfl, rfl⟩))
    (fun os started H enc _ => lifted os started H enc)

/-- The given statement. -/
theorem proved : Rows.NegotiateConvertsSaid := over
end NegotiateConverts
#print axioms NegotiateConverts.proved
end Go.Proofs.Ytjbkjgmcfommgaa
