/-
  NegotiateWider, for every input: the law returns true, and the argument reads behind the call as it read before. No condition.
-/
import Derived.Test.YtjbkjgmcfommgaaNegotiateWiderK4
namespace Go.Proofs.Ytjbkjgmcfommgaa
open Go.ChangeShapes Go.WideShapes Go.ChangeAt Go.RowKit
theorem gr_append_boxesq {o : Oper} {ev : Operand → Value} {w : World} {T : Value → World → Prop} (s x : Operand) (ho : o.op = .call { callee := .builtin .append, args := #[s, x], argTypes := #[34, 34] })
    {base : Nat} {ok : Nat → Prop} {v : Value} {l m : List Bx} {A : Option Addr} {c n : Nat} (hn : n = m.length) (hs : ev s = v) (hown : OwnBq w base ok v l) (hx : ev x = .slice A n c) (hr : Bxs w (Aq ok v) A m) (hlen : l.length + m.length ≤ 1000000) (hbase : base ≤ w.heap.size)
    (h : ∀ v' w', OwnBq w' base ok v' (l ++ m) → w.grownBy w' v.ownBlock → (v'.ownBlock = v.ownBlock ∨ v'.ownBlock = some w.heap.size) → T v' w') : genR Try.prog T ((execOp ev o).run Try.prog w) := by
  obtain ⟨i0, hi0, hi1, hi2, hi3, hi4⟩ := box_info
  obtain ⟨vs, h1, h2⟩ := hown
  obtain ⟨us, r1, r2⟩ := hr
  subst hn
  have hul := r1.1.1
  have hvl := h1.1
  obtain ⟨v', w', hrun, h3, h4, h5⟩ := run_append_any (P := Try.prog) w base 34 o.type 54 i0 _ 4 80 Try.underlying34 hi0 hi3 hi1 hi2 hi4 (by omega) v l.length vs h1 w.heap.size A m.length c us r1.1 (bxs_one hul fun i b hb => by obtain ⟨A1, c1, A2, c2, A3, c3, _, hc⟩ := r2 i b hb; exact ⟨A1, c1, A2, c2, A3, c3, hc⟩) (by simp only [maxLen]; omega) (by omega) hbase
  unfold execOp
  simp only [ho, resolve, invoke, builtin, Sem.run_bind, Sem.run_pure, Result.andThen_ok, List.map_toArray, List.map_cons, List.map_nil, hs, hx, hrun]
  refine h v' w' ⟨vs ++ us, by rw [List.length_append]; exact h3, fun i b hb => ?_⟩ h4 h5
  have hto : ∀ (b : Bx) (A1 : Option Addr) (c1 : Nat) (A2 : Option Addr) (c2 : Nat) (A3 : Option Addr) (c3 : Nat), BoxP w (Aq ok v) b A1 c1 A2 c2 A3 c3 → BoxP w' (Aq ok v') b A1 c1 A2 c2 A3 c3 := by
    intro b A1 c1 A2 c2 A3 c3 hp
    refine (hp.band.grown h4 (fun q e hq => hq.1.2 e)).mono fun k hk => ⟨hk.1.1, fun e => ?_⟩
    rcases h5 with h5 | h5
    · exact hk.1.2 (h5 ▸ e)
    · rw [h5] at e
      injection e with e
      have := hk.2
      omega
  by_cases hi : i < l.length
  · rw [List.getElem?_append_left hi] at hb
    obtain ⟨A1, c1, A2, c2, A3, c3, hp, hc⟩ := h2 i b hb
    exact ⟨A1, c1, A2, c2, A3, c3, hto _ _ _ _ _ _ _ hp, fun j hj => by rw [List.getElem?_append_left (by omega)]; exact hc j hj⟩
  · rw [List.getElem?_append_right (by omega)] at hb
    obtain ⟨A1, c1, A2, c2, A3, c3, hp, hc⟩ := r2 _ b hb
    exact ⟨A1, c1, A2, c2, A3, c3, hto _ _ _ _ _ _ _ hp, fun j hj => by rw [List.getElem?_append_right (by omega), show i * 4 + j - vs.length = (i - l.length) * 4 + j by omega]; exact hc j hj⟩
theorem OwnPq.mono {w : World} {base : Nat} {ok ok2 : Nat → Prop} {v : Value} {l : List Pt} (h : OwnPq w base ok v l) (hk : ∀ k, ok k → ok2 k) : OwnPq w base ok2 v l := by
  obtain ⟨vs, h1, h2⟩ := h
  exact ⟨vs, h1, fun i x hx => by obtain ⟨B, c, hb, r⟩ := h2 i x hx; exact ⟨B, c, hb.mono (fun k h => ⟨hk k h.1, h.2⟩), r⟩⟩
theorem OwnPq.far {w w' : World} {base : Nat} {ok : Nat → Prop} {v : Value} {l : List Pt} {row : Option Nat} (h : OwnPq w base ok v l) (hg : w.grownBy w' row) (hr : ∀ q, row = some q → v.ownBlock ≠ some q ∧ ¬ ok q) : OwnPq w' base ok v l := by
  obtain ⟨vs, h1, h2⟩ := h
  refine ⟨vs, World.ownsRow.kept h1 hg ?_, fun i x hx => by obtain ⟨B, c, hi, r⟩ := h2 i x hx; exact ⟨B, c, hi.grown hg (fun q e hh => (hr q e).2 hh.1), r⟩⟩
  cases e : v.ownBlock with
  | none => exact .inl rfl
  | some q => exact .inr fun e2 => (hr q e2.symm).1 e
namespace NegotiateWider
set_option maxHeartbeats 32000000 in
set_option maxRecDepth 10000 in
theorem walk (A : Option Addr) (c0 : Nat) (sd : List Int) (po : Int) (w : World) (h0 : Reads w w.heap.size 1 A sd.length (sd.map (Value.int .u8))) (hc : sd.length ≤ c0) (hl : sd.length ≤ 9223372036854775807) (hwf : ∀ x ∈ sd, 0 ≤ x ∧ x ≤ 255) (hpo : 0 ≤ po ∧ po ≤ 255) :
    Calls Try.prog 6 #[.slice A sd.length c0, .int .u8 po] w fun e w' => e = .returned (.bool true) ∧ Grows w w' := by
  have hB := Below.refl w.heap.size w
  go_enter Try.func6, Try.ntmps6
  go_wp2_with fail
  refine (nsane_any w).mono ?_
  rintro e w1 ⟨rfl, hq⟩
  replace hB := below_grows hB (Nat.le_refl _) hq
  replace h0 := Reads.grows h0 hq
  have hs1 := hB.size
  clear hq
  go_wp2_with fail
  refine (dice_low w1.heap.size A c0 sd w1 h0 (Nat.le_refl _) hc hl hwf).mono ?_
  rintro e w2 ⟨rfl, hD, hq⟩
  replace hB := below_grows hB (Nat.le_refl _) hq
  have hs2 := hD.lt
  clear hq h0
  generalize w1.heap.size = g at *
  go_wp2_with fail
  refine (ports_any _ g _ hD).mono ?_
  rintro e w3 ⟨⟨l, v, rfl, ho, hm⟩, hD3, hq⟩
  obtain ⟨A1, c1, rfl, hc1, hp⟩ := ho.read
  replace hp : Pts w3 (fun k => g < k) A1 l := hp.mono (fun k hk => by unfold Ge at hk; omega)
  replace hB := hB.grown hq hB.size (fun q e => by injection e with e; omega)
  have hl5 := hm.2.1
  have hl1 := hm.1
  clear ho hq hD
  obtain ⟨k, hk⟩ : ∃ k : Nat, po % (l.length : Int) = (k : Int) := ⟨(po % (l.length : Int)).toNat, by have := Int.emod_nonneg po (b := (l.length : Int)) (by omega); omega⟩
  have hkl : k < l.length := by have := Int.emod_lt_of_pos po (b := (l.length : Int)) (by omega); omega
  have hk2 : po.tmod (l.length : Int) = (k : Int) := by rw [Int.tmod_eq_emod_of_nonneg hpo.1]; exact hk
  obtain ⟨p, hpk⟩ : ∃ p, l[k]? = some p := ⟨_, List.getElem?_eq_getElem hkl⟩
  have hpf := hm.2.2 p (List.mem_of_getElem? hpk)
  have HPF := Lib.hid hpf
  have hpb1 : 1 ≤ p.b.length := hpf.2.1
  have hpb2 : p.b.length ≤ 2 := hpf.2.2.1
  have HM := Lib.hid hm
  have HPK := Lib.hid hpk
  have hw1 : IntKind.i64.wrap po = po := IntWalk.i64_in _ (by omega)
  have hnz : ((l.length : Int) == 0) = false := by simp only [beq_eq_false_iff_ne, ne_eq]; omega
  have hnz2 : decide ((l.length : Int) = 0) = false := by simp only [decide_eq_false_iff_not]; omega
  have hnz3 : (l.length : Int) ≠ 0 := by omega
  replace hp : Pts w3 (fun k => g < k ∧ k < w3.heap.size) A1 l := hp.bd
  have hs4 := hB.size
  have hgl := hD3.lt
  generalize hG4 : w3.heap.size = G4 at hp
  have HG4 := Lib.hid hG4
  clear hG4 hm hpf hpk
  go_upto_region 6 with fail
  clear hw1 hnz hnz2 hnz3 hk hk2
  have HRA : Hid (l.length ≤ 5) := Lib.hid hl5
  refine wp_region_lit ?_
  refine wpList_plain rfl (fun K hK => ?_)
  go_simp
  refine hK _ _ ?_
  clear hK K
  refine wpList_append_ports rfl (.const (.slice none 0 0)) (.tmp 30) rfl (base := w3.heap.size) (ok := fun k => g < k ∧ k < G4) (v := .slice none 0 0) (l := []) (m := l) (c := c1) rfl rfl OwnPq.nil rfl (hp.mono fun k hk => ⟨hk, by simp [Value.ownBlock]⟩) (by simp only [List.length_nil]; omega) (Nat.le_refl _) ?_
  intro v5 w5 hv5 hgr _
  rw [List.nil_append] at hv5
  have hq : Grows w3 w5 := Below.grown (Below.refl _ _) hgr (Nat.le_refl _) (fun q e => by simp [Value.ownBlock] at e)
  replace hB := below_grows hB (Nat.le_refl _) hq
  replace hp := hp.grows hq
  replace hD3 := hD3.grows hq
  have hs_v5 := hq.size
  clear hq hgr
  obtain ⟨q5, c5, rfl, hc5, hb5, hl5b⟩ := hv5.form (by omega)
  refine wpList_plain rfl (fun K hK => ?_)
  go_simp
  refine hK _ _ ?_
  clear hK K
  refine wpList_append_ports rfl (.const (.slice none 0 0)) (.tmp 32) rfl (base := w5.heap.size) (ok := fun k => g < k ∧ k < G4) (v := .slice none 0 0) (l := []) (m := l) (c := c1) rfl rfl OwnPq.nil rfl (hp.mono fun k hk => ⟨hk, by simp [Value.ownBlock]⟩) (by simp only [List.length_nil]; omega) (Nat.le_refl _) ?_
  intro v6 w6 hv6 hgr _
  rw [List.nil_append] at hv6
  have hq : Grows w5 w6 := Below.grown (Below.refl _ _) hgr (Nat.le_refl _) (fun q e => by simp [Value.ownBlock] at e)
  replace hB := below_grows hB (Nat.le_refl _) hq
  replace hp := hp.grows hq
  replace hv5 := hv5.grows hq
  replace hD3 := hD3.grows hq
  have hs_v6 := hq.size
  clear hq hgr
  obtain ⟨q6, c6, rfl, hc6, hb6, hl6b⟩ := hv6.form (by omega)
  have hq5G : G4 ≤ q5 := by have := HG4.out; omega
  have hq6G : G4 ≤ q6 := by have := HG4.out; omega
  have hgG : g < G4 := by have := HG4.out; omega
  have hq56 : q5 < q6 := by omega
  go_upto_region 7 with fail
  obtain ⟨ad, p0, B, cp, ea, had, hp0, hbx, hcp, q0, q1⟩ := hp.elem (Grows.rfl' w6) hkl
  subst ea
  obtain rfl : p0 = p := Option.some.inj (hp0.symm.trans HPK.out)
  clear hp0
  have b0 : (0 : Int) ≤ (k : Int) := by omega
  have b1 : (k : Int) < (l.length : Int) := by omega
  refine wp_region_lit ?_
  iterate 7
    refine wpList_plain rfl (fun K hK => ?_)
    go_simp
    refine hK _ _ ?_
    clear hK K
  refine wpList_append_boxesq rfl (.const (.slice none 0 0)) (.tmp 40) rfl (base := w6.heap.size) (ok := fun k => g < k ∧ k ≠ q5 ∧ k ≠ q6) (v := .slice none 0 0) (l := []) (m := p0.b) rfl rfl OwnBq.nil rfl (hbx.mono fun k hk => ⟨⟨hk.1, by have := hk.2; omega, by have := hk.2; omega⟩, by simp [Value.ownBlock]⟩) (by simp only [List.length_nil]; omega) (Nat.le_refl _) ?_
  intro v7 w7 h7 hgr _
  rw [List.nil_append] at h7
  have hq : Grows w6 w7 := Below.grown (Below.refl _ _) hgr (Nat.le_refl _) (fun q e => by simp [Value.ownBlock] at e)
  replace hB := below_grows hB (Nat.le_refl _) hq
  replace hp := hp.grows hq
  replace hv5 := hv5.grows hq
  replace hv6 := hv6.grows hq
  replace hD3 := hD3.grows hq
  have hs7 := hq.size
  have hown := h7.lt
  clear hq hgr hbx q0 q1 had hcp
  refine wpList_plain rfl (fun K hK => ?_)
  go_simp
  refine hK _ _ ?_
  clear hK K
  refine wpList_plain rfl (fun K hK => ?_)
  go_simp
  refine (box_any g g _ hD3).mono ?_
  rintro e w8 ⟨⟨b, vb, rfl, ⟨F1, h1, F2, h2, F3, h3, rfl, hpz⟩, hfb, hob, hib, hfew⟩, hD4, hq⟩
  refine hK _ _ ?_
  clear hK K
  have hs8 := hq.size
  have HFB : Hid (Fine [b]) := Lib.hid (fun x hx => by
    simp only [List.mem_singleton] at hx
    exact hx ▸ ⟨hfb, hob, hib, hfew⟩)
  replace hpz : BoxP w8 (Aq (fun k => g < k ∧ k ≠ q5 ∧ k ≠ q6) v7) b F1 h1 F2 h2 F3 h3 := hpz.mono (fun k hk => by
    unfold Ge at hk
    exact ⟨⟨by omega, by omega, by omega⟩, fun e => by have := (hown _ e).2; omega⟩)
  replace hp := hp.grown hq (fun q e hh => by injection e with e; have := hh.1; omega)
  replace hv5 := hv5.only hq (by omega) (by rintro ⟨h, -⟩; omega)
  replace hv6 := hv6.only hq (by omega) (by rintro ⟨h, -⟩; omega)
  replace h7 := h7.only hq (by omega) (by rintro ⟨h, -, -⟩; omega)
  replace hB := hB.grown hq hB.size (fun q e => by injection e with e; omega)
  clear hq hD3 hfb hob hib hfew hown
  refine wpList_plain rfl (fun K hK => ?_)
  go_simp
  refine hK _ _ ?_
  clear hK K
  have hown2 := h7.lt
  have hL := bxs_lit hpz ⟨⟨by omega, by omega, by omega⟩, fun e => by have := (hown2 _ e).2; omega⟩
  have hq := (Below.refl w8.heap.size w8).alloc (Nat.le_refl _) (Obj.cells #[.int .i64 b.k, .slice F1 b.r.length h1, .slice F2 b.m.length h2, .slice F3 b.s.length h3] 54)
  replace hB := below_grows hB (Nat.le_refl _) hq
  replace hp := hp.grows hq
  replace hv5 := hv5.grows hq
  replace hv6 := hv6.grows hq
  replace hD4 := hD4.grows hq
  replace h7 := h7.grows hq
  have hs9 := hq.size
  have hown3 := h7.lt
  clear hq hpz hown2
  refine wpList_append_boxesq rfl (.tmp 41) (.tmp 44) rfl (m := [b]) rfl rfl h7 rfl hL (by simp only [List.length_singleton]; omega) (by omega) ?_
  intro v9 w10 h9 hgr _
  replace hp := hp.grown hgr (fun q e hh => by have := (hown3 q e).1; have := hh.2; omega)
  replace hv5 := hv5.far hgr (fun q e => ⟨by have := (hown3 q e).1; simp only [Value.ownBlock, ne_eq, Option.some.injEq]; omega, by have := (hown3 q e).1; rintro ⟨-, h⟩; omega⟩)
  replace hv6 := hv6.far hgr (fun q e => ⟨by have := (hown3 q e).1; simp only [Value.ownBlock, ne_eq, Option.some.injEq]; omega, by have := (hown3 q e).1; rintro ⟨-, h⟩; omega⟩)
  replace hD4 := hD4.grown hgr (fun q e => by have := (hown3 q e).1; omega)
  replace hB := hB.grown hgr hB.size (fun q e => by have := (hown3 q e).1; omega)
  have hs10 := hgr.size
  obtain ⟨nb, hnb⟩ : ∃ nb, p0.b ++ [b] = nb := ⟨_, rfl⟩
  have HNB := Lib.hid hnb
  have hnl : nb.length ≤ 3 := by rw [← hnb, List.length_append, List.length_singleton]; omega
  rw [hnb] at h9
  clear hnb hgr hown3 hL h7
  obtain ⟨A9, c9, rfl, hc9, hbw⟩ := h9.read
  replace hv5 := hv5.mono (ok2 := fun k => g < k ∧ k ≠ q6) (fun k hk => ⟨hk.1, by have := hk.2; omega⟩)
  obtain ⟨B5, d5, hd5, hbx5, y0, y1, z0, z1⟩ := hv5.cells HPK.out
  obtain ⟨hv5n, hg5⟩ := hv5.putb HPK.out (B := A9) (d := c9) (b := nb) (hbw.mono (fun k hk => by
    rcases hk with hk | hk
    · exact ⟨⟨hk.1, hk.2.2⟩, by simp only [Value.ownBlock, ne_eq, Option.some.injEq]; exact fun e => hk.2.1 e.symm⟩
    · exact ⟨⟨by omega, by omega⟩, by simp only [Value.ownBlock, ne_eq, Option.some.injEq]; omega⟩)) hc9
  replace hv6 := hv6.only hg5 (by omega) (by rintro ⟨-, h⟩; omega)
  replace hp := hp.grown hg5 (fun q e hh => by injection e with e; have := hh.2; omega)
  replace hD4 := hD4.grown hg5 (fun q e => by injection e with e; omega)
  have hB := hB.setCell (p := ⟨q5, k * 2, none⟩) (show w.heap.size ≤ q5 by omega) (.slice A9 nb.length c9)
  have hs11 := hg5.size
  clear hv5 hg5 hbw h9
  go_upto_region 8 with fail
  generalize World.setCell w10 _ _ = w11 at *
  clear y0 y1 z0 z1 hbx5 hd5 b0 b1
  obtain ⟨ad_, p1, B, cp, ea, had, hp1, hbx, hcp, q20, q21⟩ := hp.elem (Grows.rfl' w11) hkl
  injection ea with ea
  subst ea
  obtain rfl : p1 = p0 := Option.some.inj (hp1.symm.trans HPK.out)
  clear hp1 q21
  obtain ⟨ad9, b0, B1, d1, B2, d2, B3, d3, e9, had9, hb0, hpb0, r0, r1, r2, r3⟩ := hbx.elemB (Grows.rfl' w11) (k := 0) (by omega)
  subst e9
  have HB0 := Lib.hid hb0
  clear hb0
  have b0_ : (0 : Int) ≤ (k : Int) := by omega
  have b1_ : (k : Int) < (l.length : Int) := by omega
  have b2_ : (0 : Int) < (p1.b.length : Int) := by omega
  have b3_ : 0 < p1.b.length := by omega
  have b4_ : k < l.length := hkl
  have hadk : (ad.add (k * 2)).block < w11.heap.size := by rw [block_of_add]; exact had
  have hq6w : q6 < w11.heap.size := by omega
  obtain ⟨S, HI, HO⟩ := hideS fun (L : Ran) (vs : Nat → Value) (w' : World) => (Grows w11 w' ∧ KnS [some (.slice (some ⟨q6, 0, none⟩) l.length c6), some (.int .i64 k), some (.slice (some ad) l.length c1), some (.int .i64 k), some (.pointer (some (ad.add (k * 2)))), some (.pointer (some (ad.add (k * 2)))), some (.slice (some ad9) p1.b.length cp), none, some (.slice (some ad) l.length c1), some (.int .i64 k), some (.pointer (some (ad.add (k * 2)))), some (.pointer (some (ad.add (k * 2)))), some (.slice (some ad9) p1.b.length cp), some (.pointer (some ad9)), some (.agg #[.int .i64 b0.k, .slice B1 b0.r.length d1, .slice B2 b0.m.length d2, .slice B3 b0.s.length d3]), none, none, some (.pointer (some ⟨q6, k * 2, none⟩)), some (.pointer (some ⟨q6, k * 2, none⟩))] L vs ∧ (L 16 = true → L 7 = true ∧ L 15 = true) ∧ (L 7 = true → L 16 = false → OwnBq w' w11.heap.size (fun k => k ≠ q6) (vs 7) p1.b) ∧ (L 15 = true → L 16 = false → ∃ gb : Nat, vs 15 = .slice (some ⟨gb, 0, none⟩) 1 1 ∧ w11.heap.size ≤ gb ∧ Blk w' gb 54 #[.int .i64 b0.k, .slice B1 b0.r.length d1, .slice B2 b0.m.length d2, .slice B3 b0.s.length d3]) ∧ (L 7 = true → L 15 = true → L 16 = false → ∀ q, vs 15 = .slice (some ⟨q, 0, none⟩) 1 1 → (vs 7).ownBlock ≠ some q) ∧ (L 16 = true → OwnBq w' w11.heap.size (fun k => k ≠ q6) (vs 16) (p1.b ++ [b0])))
  refine wp_region_genT S 19 118 (by kernel_rfl) (by kernel_rfl) rfl ?_ ?_
  · exact HI.out _ _ _ ⟨Grows.drew' _, kn_none _ _, (fun h => by cases h), (fun h => by cases h), (fun h => by cases h), (fun h => by cases h), (fun h => by cases h)⟩
  simp only [List.take_succ_cons, List.take_zero, List.drop_succ_cons, List.drop_zero]
  refine gent_consR (fun vs L w1 hL hw1 => ?_) ?_
  · obtain ⟨q0, q1, c4, p1_, p3, pq, p4⟩ := HO.out _ _ _ hw1
    refine gen_plain rfl ?_
    go_simp
    exact gr_val (HI.out _ _ _ ⟨q0, kn_known q1 rfl, c4, p1_, p3, pq, p4⟩)
  refine gent_consR (fun vs L w1 hL hw1 => ?_) ?_
  · obtain ⟨q0, q1, c4, p1_, p3, pq, p4⟩ := HO.out _ _ _ hw1
    refine gen_plain rfl ?_
    go_simp
    exact gr_val (HI.out _ _ _ ⟨q0, kn_known q1 rfl, c4, p1_, p3, pq, p4⟩)
  refine gent_consR (fun vs L w1 hL hw1 => ?_) ?_
  · obtain ⟨q0, q1, c4, p1_, p3, pq, p4⟩ := HO.out _ _ _ hw1
    refine gen_plain rfl ?_
    go_simp
    exact gr_val (HI.out _ _ _ ⟨q0, kn_known q1 rfl, c4, p1_, p3, pq, p4⟩)
  refine gent_consR (fun vs L w1 hL hw1 => ?_) ?_
  · obtain ⟨q0, q1, c4, p1_, p3, pq, p4⟩ := HO.out _ _ _ hw1
    refine gen_plain rfl ?_
    go_simp
    exact gr_val (HI.out _ _ _ ⟨q0, kn_known q1 rfl, c4, p1_, p3, pq, p4⟩)
  refine gent_consR (fun vs L w1 hL hw1 => ?_) ?_
  · obtain ⟨q0, q1, c4, p1_, p3, pq, p4⟩ := HO.out _ _ _ hw1
    refine gen_plain rfl ?_
    have l2 : L 2 = true := hL.need 2 (by kernel_rfl)
    have e2 := q1 2 _ rfl l2
    have l3 : L 3 = true := hL.need 3 (by kernel_rfl)
    have e3 := q1 3 _ rfl l3
    simp only [e2, e3]
    go_simp
    exact gr_val (HI.out _ _ _ ⟨q0, kn_known q1 rfl, c4, p1_, p3, pq, p4⟩)
  refine gent_consR (fun vs L w1 hL hw1 => ?_) ?_
  · obtain ⟨q0, q1, c4, p1_, p3, pq, p4⟩ := HO.out _ _ _ hw1
    refine gen_plain rfl ?_
    have l4 : L 4 = true := hL.need 4 (by kernel_rfl)
    have e4 := q1 4 _ rfl l4
    simp only [e4]
    go_simp
    exact gr_val (HI.out _ _ _ ⟨q0, kn_known q1 rfl, c4, p1_, p3, pq, p4⟩)
  refine gent_consR (fun vs L w1 hL hw1 => ?_) ?_
  · obtain ⟨q0, q1, c4, p1_, p3, pq, p4⟩ := HO.out _ _ _ hw1
    refine gen_plain rfl ?_
    have l5 : L 5 = true := hL.need 5 (by kernel_rfl)
    have e5 := q1 5 _ rfl l5
    simp only [e5]
    have xb := (Below.cell q0 hadk).trans q20
    go_simp
    exact gr_val (HI.out _ _ _ ⟨q0, kn_known q1 rfl, c4, p1_, p3, pq, p4⟩)
  refine gent_consR (fun vs L w1 hL hw1 => ?_) ?_
  · obtain ⟨q0, q1, c4, p1_, p3, pq, p4⟩ := HO.out _ _ _ hw1
    have nn : L 7 = false := hL.1
    have n16 : L 16 = false := by
      cases h : L 16
      · rfl
      · rw [(c4 h).1] at nn; cases nn
    have l6 : L 6 = true := hL.need 6 (by kernel_rfl)
    have e6 := q1 6 _ rfl l6
    refine gen_plain rfl ?_
    refine gr_append_boxesq (.const (.slice none 0 0)) (.tmp 54) rfl (v := .slice none 0 0) (base := w11.heap.size) (ok := fun k => k ≠ q6) (l := []) (m := p1.b) rfl rfl OwnBq.nil e6 ((hbx.grows q0).mono fun k hk => ⟨by have := hk.2; omega, by simp [Value.ownBlock]⟩) (by simp only [List.length_nil]; omega) q0.size ?_
    intro v' w2 ho hgr hv
    rw [List.nil_append] at ho
    exact HI.out _ _ _ ⟨Below.grown q0 hgr q0.size (fun q e => by simp [Value.ownBlock] at e), kn_free q1 rfl, (fun h => by rw [show L 16 = true from h] at n16; cases n16), (fun _ _ => ho), (fun l3 _ => by obtain ⟨gb, e, hge, hk⟩ := p3 l3 n16; exact ⟨gb, e, hge, hk.grown hgr (by simp [Value.ownBlock])⟩), (fun _ l3 _ q e e2 => by
      obtain ⟨gb, e3, hge, hk⟩ := p3 l3 n16
      rw [show vs 15 = _ from e] at e3
      injection e3 with e3
      injection e3 with e3
      injection e3 with e3
      have := hk.lt
      rcases hv with hv | hv
      · rw [show setV vs 7 v' 7 = v' from rfl, hv] at e2; simp [Value.ownBlock] at e2
      · rw [show setV vs 7 v' 7 = v' from rfl, hv] at e2; injection e2 with e2; omega), (fun h => by rw [show L 16 = true from h] at n16; cases n16)⟩
  refine gent_consR (fun vs L w1 hL hw1 => ?_) ?_
  · obtain ⟨q0, q1, c4, p1_, p3, pq, p4⟩ := HO.out _ _ _ hw1
    refine gen_plain rfl ?_
    go_simp
    exact gr_val (HI.out _ _ _ ⟨q0, kn_known q1 rfl, c4, p1_, p3, pq, p4⟩)
  refine gent_consR (fun vs L w1 hL hw1 => ?_) ?_
  · obtain ⟨q0, q1, c4, p1_, p3, pq, p4⟩ := HO.out _ _ _ hw1
    refine gen_plain rfl ?_
    go_simp
    exact gr_val (HI.out _ _ _ ⟨q0, kn_known q1 rfl, c4, p1_, p3, pq, p4⟩)
  refine gent_consR (fun vs L w1 hL hw1 => ?_) ?_
  · obtain ⟨q0, q1, c4, p1_, p3, pq, p4⟩ := HO.out _ _ _ hw1
    refine gen_plain rfl ?_
    have l8 : L 8 = true := hL.need 8 (by kernel_rfl)
    have e8 := q1 8 _ rfl l8
    have l9 : L 9 = true := hL.need 9 (by kernel_rfl)
    have e9 := q1 9 _ rfl l9
    simp only [e8, e9]
    go_simp
    exact gr_val (HI.out _ _ _ ⟨q0, kn_known q1 rfl, c4, p1_, p3, pq, p4⟩)
  refine gent_consR (fun vs L w1 hL hw1 => ?_) ?_
  · obtain ⟨q0, q1, c4, p1_, p3, pq, p4⟩ := HO.out _ _ _ hw1
    refine gen_plain rfl ?_
    have l10 : L 10 = true := hL.need 10 (by kernel_rfl)
    have e10 := q1 10 _ rfl l10
    simp only [e10]
    go_simp
    exact gr_val (HI.out _ _ _ ⟨q0, kn_known q1 rfl, c4, p1_, p3, pq, p4⟩)
  refine gent_consR (fun vs L w1 hL hw1 => ?_) ?_
  · obtain ⟨q0, q1, c4, p1_, p3, pq, p4⟩ := HO.out _ _ _ hw1
    refine gen_plain rfl ?_
    have l11 : L 11 = true := hL.need 11 (by kernel_rfl)
    have e11 := q1 11 _ rfl l11
    simp only [e11]
    have xb := (Below.cell q0 hadk).trans q20
    go_simp
    exact gr_val (HI.out _ _ _ ⟨q0, kn_known q1 rfl, c4, p1_, p3, pq, p4⟩)
  refine gent_consR (fun vs L w1 hL hw1 => ?_) ?_
  · obtain ⟨q0, q1, c4, p1_, p3, pq, p4⟩ := HO.out _ _ _ hw1
    refine gen_plain rfl ?_
    have l12 : L 12 = true := hL.need 12 (by kernel_rfl)
    have e12 := q1 12 _ rfl l12
    simp only [e12]
    go_simp
    exact gr_val (HI.out _ _ _ ⟨q0, kn_known q1 rfl, c4, p1_, p3, pq, p4⟩)
  refine gent_consR (fun vs L w1 hL hw1 => ?_) ?_
  · obtain ⟨q0, q1, c4, p1_, p3, pq, p4⟩ := HO.out _ _ _ hw1
    refine gen_plain rfl ?_
    have l13 : L 13 = true := hL.need 13 (by kernel_rfl)
    have e13 := q1 13 _ rfl l13
    simp only [e13]
    have x0 := (Below.cell q0 had9).trans r0
    have x1 := (Below.cell (p := ⟨ad9.block, ad9.off + 1, none⟩) q0 had9).trans r1
    have x2 := (Below.cell (p := ⟨ad9.block, ad9.off + 2, none⟩) q0 had9).trans r2
    have x3 := (Below.cell (p := ⟨ad9.block, ad9.off + 3, none⟩) q0 had9).trans r3
    go_simp
    exact gr_val (HI.out _ _ _ ⟨q0, kn_known q1 rfl, c4, p1_, p3, pq, p4⟩)
  refine gent_consR (fun vs L w1 hL hw1 => ?_) ?_
  · obtain ⟨q0, q1, c4, p1_, p3, pq, p4⟩ := HO.out _ _ _ hw1
    have nn : L 15 = false := hL.1
    have n16 : L 16 = false := by
      cases h : L 16
      · rfl
      · rw [(c4 h).2] at nn; cases nn
    have l14 : L 14 = true := hL.need 14 (by kernel_rfl)
    have e14 := q1 14 _ rfl l14
    refine gen_plain rfl ?_
    simp only [e14]
    go_simp
    have hg := (Below.refl w1.heap.size w1).alloc (Nat.le_refl _) (Obj.cells #[.int .i64 b0.k, .slice B1 b0.r.length d1, .slice B2 b0.m.length d2, .slice B3 b0.s.length d3] 54)
    have hk := Blk.new w1 54 #[.int .i64 b0.k, .slice B1 b0.r.length d1, .slice B2 b0.m.length d2, .slice B3 b0.s.length d3]
    have hsz := q0.size
    exact gr_val (HI.out _ _ _ ⟨below_grows q0 (Nat.le_refl _) hg, kn_free q1 rfl, (fun h => by rw [show L 16 = true from h] at n16; cases n16), (fun h h2 => (p1_ h h2).grows hg), (fun _ _ => ⟨w1.heap.size, rfl, hsz, hk⟩), (fun l1 _ _ q e e2 => by
      have h9 := ((p1_ l1 n16).lt _ e2).2
      have e : (Value.slice (some ⟨w1.heap.size, 0, none⟩) 1 1) = .slice (some ⟨q, 0, none⟩) 1 1 := e
      injection e with e
      injection e with e
      injection e with e
      omega), (fun h => by rw [show L 16 = true from h] at n16; cases n16)⟩)
  refine gent_consR (fun vs L w1 hL hw1 => ?_) ?_
  · obtain ⟨q0, q1, c4, p1_, p3, pq, p4⟩ := HO.out _ _ _ hw1
    have n16 : L 16 = false := hL.1
    have l7 : L 7 = true := hL.need 7 (by kernel_rfl)
    have l15 : L 15 = true := hL.need 15 (by kernel_rfl)
    have ho := p1_ l7 n16
    obtain ⟨gb, e3, hge, hk⟩ := p3 l15 n16
    have hap := pq l7 l15 n16 gb e3
    have hol := ho.lt
    have hL1 : Bxs w1 (Aq (fun k => k ≠ q6) (vs 7)) (some ⟨gb, 0, none⟩) [b0] := bxs_blk ((hpb0.grows q0).mono fun k hk => ⟨by have := hk.2; omega, fun e => by have := (hol _ e).1; have := hk.2; omega⟩) hk rfl ⟨by omega, hap⟩
    refine gen_plain rfl ?_
    refine gr_append_boxesq (.tmp 55) (.tmp 63) rfl (v := vs 7) (l := p1.b) (m := [b0]) rfl rfl ho e3 hL1 (by simp only [List.length_singleton]; omega) q0.size ?_
    intro v' w2 ho2 hgr _
    exact HI.out _ _ _ ⟨Below.grown q0 hgr q0.size (fun q e => (hol q e).1), kn_free q1 rfl, (fun _ => ⟨l7, l15⟩), (fun _ h => by cases h), (fun _ h => by cases h), (fun _ _ h => by cases h), (fun _ => ho2)⟩
  refine gent_consR (fun vs L w1 hL hw1 => ?_) ?_
  · obtain ⟨q0, q1, c4, p1_, p3, pq, p4⟩ := HO.out _ _ _ hw1
    refine gen_plain rfl ?_
    have l0 : L 0 = true := hL.need 0 (by kernel_rfl)
    have e0 := q1 0 _ rfl l0
    have l1 : L 1 = true := hL.need 1 (by kernel_rfl)
    have e1 := q1 1 _ rfl l1
    simp only [e0, e1]
    go_simp
    exact gr_val (HI.out _ _ _ ⟨q0, kn_known q1 rfl, c4, p1_, p3, pq, p4⟩)
  refine gent_consR (fun vs L w1 hL hw1 => ?_) ?_
  · obtain ⟨q0, q1, c4, p1_, p3, pq, p4⟩ := HO.out _ _ _ hw1
    refine gen_plain rfl ?_
    have l17 : L 17 = true := hL.need 17 (by kernel_rfl)
    have e17 := q1 17 _ rfl l17
    simp only [e17]
    go_simp
    exact gr_val (HI.out _ _ _ ⟨q0, kn_known q1 rfl, c4, p1_, p3, pq, p4⟩)
  refine gent_nil ?_
  intro vs L W2 hall hS
  obtain ⟨q0, q1, -, -, -, -, p4⟩ := HO.out _ _ _ hS
  have ho := p4 (hall 16 (by omega))
  have e18 := q1 18 _ rfl (hall 18 (by omega))
  clear hall hS HI HO q1 p4
  obtain ⟨nb2, hnb2⟩ : ∃ nb, p1.b ++ [b0] = nb := ⟨_, rfl⟩
  have HNB2 := Lib.hid hnb2
  have hnl2 : nb2.length ≤ 3 := by rw [← hnb2, List.length_append, List.length_singleton]; omega
  rw [hnb2] at ho
  clear hnb2
  obtain ⟨A16, c16, e16, hc16, hbw⟩ := ho.read
  simp only [e18, e16]
  clear e18 e16 ho
  generalize vs 0 = yv
  generalize vs 1 = yv
  generalize vs 2 = yv
  generalize vs 3 = yv
  generalize vs 4 = yv
  generalize vs 5 = yv
  generalize vs 6 = yv
  generalize vs 7 = yv
  generalize vs 8 = yv
  generalize vs 9 = yv
  generalize vs 10 = yv
  generalize vs 11 = yv
  generalize vs 12 = yv
  generalize vs 13 = yv
  generalize vs 14 = yv
  generalize vs 15 = yv
  generalize vs 17 = yv
  clear vs
  have hBq := below_grows hB (Nat.le_refl _) q0
  replace hp := hp.grows q0
  replace hv5n := hv5n.grows q0
  replace hv6 := (hv6.grows q0).mono (ok2 := fun k => k ≠ q6) (fun k hk => by have := hk.2; omega)
  have hs12 := q0.size
  clear q0 hB hbx hpb0 r0 r1 r2 r3 q20 had had9 hadk b2_ b3_ hcp
  obtain ⟨B6, d6, hd6, hbx6, y0, y1, z0, z1⟩ := hv6.cells HPK.out
  obtain ⟨hv6n, hg6⟩ := hv6.putb HPK.out (B := A16) (d := c16) (b := nb2) (hbw.mono (fun k hk => by
    have h : k ≠ q6 := by rcases hk with hk | hk; exact hk; omega
    exact ⟨h, by simp only [Value.ownBlock, ne_eq, Option.some.injEq]; exact fun e => h e.symm⟩)) hc16
  obtain ⟨A5, n5, e5, hn5, hp5⟩ := hv5n.readq
  replace e5 : A5 = some ⟨q5, 0, none⟩ := by injection e5 with e5; exact e5.symm
  subst e5
  replace hp5 : Pts W2 (fun k => k ≠ q6) _ (l.set k ⟨nb, p1.v⟩) := hp5.mono (fun k hk => by
    rcases hk with h | h
    · exact h.2
    · have h : q5 = k := by simpa [Value.ownBlock] using h
      omega)
  replace hp5 := hp5.grown hg6 (fun q e hh => by injection e with e; exact hh e.symm)
  replace hp := hp.grown hg6 (fun q e hh => by injection e with e; have := hh.2; omega)
  have hB := hBq.setCell (p := ⟨q6, k * 2, none⟩) (show w.heap.size ≤ q6 by omega) (.slice A16 nb2.length c16)
  clear hv5n hv6 hg6 hbw hBq hn5
  go_upto_region 9 with fail
  generalize World.setCell W2 _ _ = w12 at *
  clear y0 y1 z0 z1 hbx6 hd6 b0_ b1_ b4_
  obtain ⟨A6, n6, e6, hn6, hp6⟩ := hv6n.read
  replace e6 : A6 = some ⟨q6, 0, none⟩ := by injection e6 with e6; exact e6.symm
  subst e6
  clear hv6n hn6
  have HWL : Hid (wideL l k p1 b = l.set k ⟨nb, p1.v⟩) := Lib.hid (by unfold wideL; rw [HNB.out])
  have HTL : Hid (wideL l k p1 b0 = l.set k ⟨nb2, p1.v⟩) := Lib.hid (by unfold wideL; rw [HNB2.out])
  rw [← HWL.out] at hp5
  rw [← HTL.out] at hp6
  have HMW := Lib.hid (wide_made HM.out HPK.out HFB.out)
  have HMT := Lib.hid (wide_made HM.out HPK.out (b := b0) (fun x hx => by simp only [List.mem_singleton] at hx; exact hx ▸ HPF.out.1 b0 (List.mem_of_getElem? HB0.out)))
  have HLW := Lib.hid (wide_len l k p1 b)
  have HLT := Lib.hid (wide_len l k p1 b0)
  have hmore := wide_more HM.out HPK.out HFB.out
  have hsame := wide_same HM.out HPK.out (List.mem_of_getElem? HB0.out) zeroC
  generalize wideL l k p1 b = wd at *
  generalize wideL l k p1 b0 = tw at *
  clear HWL HTL
  have h13 := HM.out.met.2.1
  obtain ⟨⟨ls, ⟨fa, fb⟩, fe⟩, hf⟩ : ∃ f, forwardF l = f := ⟨_, rfl⟩
  obtain ⟨⟨ls2, ⟨fa2, fb2⟩, fe2⟩, hf2⟩ : ∃ f, forwardF wd = f := ⟨_, rfl⟩
  obtain ⟨⟨C, ⟨ca, cb⟩, ce⟩, hcf⟩ : ∃ f, chooseF l zeroC = f := ⟨_, rfl⟩
  obtain ⟨⟨C3, ⟨ta, tb⟩, te⟩, htf⟩ : ∃ f, chooseF tw zeroC = f := ⟨_, rfl⟩
  rw [hf] at h13 hmore
  rw [hf2] at hmore
  have hce : ce = fe ∧ C.length ≤ 5 ∧ ∀ x ∈ C, x.m.length ≤ 1000000 := by
    by_cases h0 : fe = 0
    · subst h0
      obtain ⟨C9, hc, hl9, -, -, -, ho9, -⟩ := choose_found HM.out.k (want := zeroC) hf
      rw [hcf] at hc
      injection hc with h1 h2
      injection h2 with h2 h3
      subst h1 h3
      exact ⟨rfl, by omega, fun x hx => (ho9 x hx).2.2⟩
    · rw [choose_no hf h0] at hcf
      injection hcf with h1 h2
      injection h2 with h2 h3
      subst h1 h3
      exact ⟨rfl, by simp, by simp⟩
  obtain ⟨hce, hC5, hCm⟩ := hce
  subst hce
  have hsame2 : te = 3 ∨ (C3 = C ∧ ta = ca ∧ tb = cb ∧ te = ce) := by
    rcases hsame with h | h
    · left
      obtain ⟨⟨ls9, ⟨f8, f9⟩, fe9⟩, hf9⟩ : ∃ f, forwardF tw = f := ⟨_, rfl⟩
      rw [hf9] at h
      have h : fe9 = 3 := h
      subst h
      rw [choose_no hf9 (by decide)] at htf
      injection htf with h1 h2
      injection h2 with h2 h3
      exact h3.symm
    · right
      rw [htf, hcf] at h
      injection h with h1 h2
      injection h2 with h2 h3
      injection h2 with h4 h5
      exact ⟨h1, h4, h5, h3⟩
  replace h13 : ce = 0 ∨ ce = 13 := h13
  replace hmore : fe2 = 3 ∨ ((ce = 0 → fe2 = 0) ∧ (fe2 = 0 ∨ fe2 = 13)) := hmore
  have H13 := Lib.hid h13
  have HMO := Lib.hid hmore
  have HSA := Lib.hid hsame2
  have HCF := Lib.hid hcf
  have HF2 := Lib.hid hf2
  have HTF := Lib.hid htf
  have HCM := Lib.hid hCm
  clear h13 hmore hsame hsame2 hcf hf hf2 htf hCm
  go_wp2_with fail
  refine (choose_at (c := c1) (ci := 0) (want := zeroC) (I := none) (ow := AnyB) HCF.out rfl hp (by omega) HM.out.oks RdB.nil okc_zero).mono ?_
  rintro e w13 ⟨⟨A11, c11, rfl, hc11, hr11⟩, hq⟩
  replace hB := below_grows hB (Nat.le_refl _) hq
  replace hp5 := hp5.grows hq
  replace hp6 := hp6.grows hq
  clear hq
  have k11 := Blk.new w13 30 #[.int .i64 ca, .int .i64 cb]
  have hq := (Below.refl w13.heap.size w13).alloc (Nat.le_refl _) (Obj.cells #[.int .i64 ca, .int .i64 cb] 30)
  go_upto_region 10 with fail
  replace hB := below_grows hB (Nat.le_refl _) hq
  replace hp5 := hp5.grows hq
  replace hp6 := hp6.grows hq
  replace hr11 := hr11.grows hq
  clear hq
  generalize w13.heap.size = q11 at *
  generalize World.alloc w13 _ = w13b at *
  go_wp2_with fail
  refine (forward_at (c := c5) HF2.out HLW.out.symm hp5 (by rw [HLW.out]; omega) HMW.out.oks).mono ?_
  rintro e w14 ⟨⟨A14, c14, rfl, hc14, hr14⟩, hq⟩
  replace hB := below_grows hB (Nat.le_refl _) hq
  replace hp6 := hp6.grows hq
  replace hr11 := hr11.grows hq
  replace k11 := k11.grows hq
  clear hq hr14 hc14
  have k14 := Blk.new w14 30 #[.int .i64 fa2, .int .i64 fb2]
  have hq := (Below.refl w14.heap.size w14).alloc (Nat.le_refl _) (Obj.cells #[.int .i64 fa2, .int .i64 fb2] 30)
  go_upto_region 11 with fail
  replace hB := below_grows hB (Nat.le_refl _) hq
  replace hp6 := hp6.grows hq
  replace hr11 := hr11.grows hq
  replace k11 := k11.grows hq
  clear hq
  generalize w14.heap.size = q14 at *
  generalize World.alloc w14 _ = w14b at *
  go_wp2_with fail
  refine (choose_at (c := c6) (ci := 0) (want := zeroC) (I := none) (ow := AnyB) HTF.out HLT.out.symm hp6 (by rw [HLT.out]; omega) HMT.out.oks RdB.nil okc_zero).mono ?_
  rintro e w15 ⟨⟨A17, c17, rfl, hc17, hr17⟩, hq⟩
  replace hB := below_grows hB (Nat.le_refl _) hq
  replace hr11 := hr11.grows hq
  replace k11 := k11.grows hq
  clear hq
  have k17 := Blk.new w15 30 #[.int .i64 ta, .int .i64 tb]
  have hq := (Below.refl w15.heap.size w15).alloc (Nat.le_refl _) (Obj.cells #[.int .i64 ta, .int .i64 tb] 30)
  go_upto_region 12 with fail
  replace hB := below_grows hB (Nat.le_refl _) hq
  replace hr11 := hr11.grows hq
  replace k11 := k11.grows hq
  replace hr17 := hr17.grows hq
  clear hq
  generalize w15.heap.size = q17 at *
  generalize World.alloc w15 _ = w15b at *
  have x11 := k11.cell
  have x17 := k17.cell
  rcases HMO.out with h3 | ⟨h0, h4⟩
  · subst h3
    rcases H13.out with h | h
    · subst h
      go_wp2
      go_ret
      exact ⟨rfl, hB⟩
    · subst h
      go_wp2
      go_ret
      exact ⟨rfl, hB⟩
  · rcases HSA.out with h | ⟨h5, h6, h7, h8⟩
    · subst h
      rcases H13.out with h | h
      · have hx := h0 h
        subst h hx
        go_wp2
        go_ret
        exact ⟨rfl, hB⟩
      · subst h
        rcases h4 with h | h
        · subst h
          go_wp2
          go_ret
          exact ⟨rfl, hB⟩
        · subst h
          go_wp2
          go_ret
          exact ⟨rfl, hB⟩
    · subst h5 h6 h7 h8
      have HCS := Lib.hid (fun (w0 : World) (h : Grows w15b w0) => samechs_eq (w := w0) (c := c11) (d := c17) rfl rfl (hr11.grows h) (hr17.grows h) (by omega) HCM.out)
      rcases H13.out with h | h
      · have hx := h0 h
        subst h hx
        go_wp2_with fail
        refine (HCS.out _ (Below.refl _ _)).mono ?_
        rintro e w16 ⟨rfl, hq⟩
        replace hB := below_grows hB (Nat.le_refl _) hq
        go_wp2
        go_ret
        exact ⟨rfl, hB⟩
      · subst h
        rcases h4 with h | h
        · subst h
          go_wp2_with fail
          refine (HCS.out _ (Below.refl _ _)).mono ?_
          rintro e w16 ⟨rfl, hq⟩
          replace hB := below_grows hB (Nat.le_refl _) hq
          go_wp2
          go_ret
          exact ⟨rfl, hB⟩
        · subst h
          go_wp2_with fail
          refine (HCS.out _ (Below.refl _ _)).mono ?_
          rintro e w16 ⟨rfl, hq⟩
          replace hB := below_grows hB (Nat.le_refl _) hq
          go_wp2
          go_ret
          exact ⟨rfl, hB⟩
end NegotiateWider
namespace NegotiateWider
set_option maxRecDepth 100000 in
theorem contract (H : Type) (enc : TypeId × Value → H) (W : World) (base : Nat) (args : Array Value) (ds gs : List (DataW H)) (before : List MemPlace)
    (hval0 : ∀ (j : Nat) t v, Try.f6.params[j]? = some t → args[j]? = some v → Value.okWide Try.prog W .any base t v)
    (hW : DataW.Whole enc Try.prog Try.f6.params.toList Rows.negotiateWiderSpec.vars false W args.toList ds gs before)
    (hsz0 : (DataW.weightsEach Try.prog (Try.f6.params.toList ++ Rows.negotiateWiderSpec.plain.varTypes Try.prog) (ds ++ gs)).all (· ≤ reachBytes) = true) :
    Calls Try.prog 6 args W fun e W' => ∃ v, e = .returned v ∧ Rows.negotiateWiderSpec.post enc Try.prog Try.f6 false true false false W args v W' := by
  have key : Calls Try.prog 6 args W fun e W' => e = .returned (.bool true) ∧ Below W.heap.size W W' := by
    have hval : ∀ (j : Nat) t v, Try.f6.params[j]? = some t → args[j]? = some v → Value.okWide Try.prog W .any base t v := hval0
    obtain ⟨p, q, hA0, hV, hbe, hfz, hnd⟩ := hW
    have hA : DataW.TrodAll enc Try.prog W 0 (fun _ => true) true Try.f6.params.toList args.toList ds p := hA0
    rw [Try.params6] at hA hval
    clear hA0 hval0
    obtain ⟨v0, vs0, d0, ds0, p0, q0, hargs, rfl, rfl, h0, r0⟩ := trodAll_cons hA
    obtain ⟨v1, vs1, d1, ds1, p1, q1, rfl, rfl, rfl, h1, r1⟩ := trodAll_cons r0
    obtain ⟨rfl, rfl, rfl⟩ := trodAll_nil r1
    obtain rfl : args = #[v0, v1] := by cases args; simp_all
    obtain ⟨rfl, rfl⟩ := trodVars_none hV
    have hsz : (DataW.weightsEach Try.prog (Try.f6.params.toList ++ Rows.negotiateWiderSpec.plain.varTypes Try.prog) ([d0, d1] ++ [])).all (· ≤ reachBytes) = true := hsz0
    rw [Try.params6] at hsz
    clear hsz0
    obtain ⟨A, c, l, rfl, hI0, hl0, hlen0, hw0⟩ := open_slice_kind Try.underlying22 Try.underlying5 (by kernel_rfl) (hval 0 22 v0 rfl rfl) h0
    obtain ⟨a1, rfl, rfl, rfl, w1⟩ := open_int Try.underlying5 (hval 1 5 v1 rfl rfl) h1
    exact NegotiateWider.walk A c l a1 W hI0 hlen0 hl0 (fun x hx => u8_bd (hw0 x hx)) (u8_bd w1)
  refine key.mono fun e W' ⟨he, hb⟩ => ⟨_, he, law_post laid_out hW ?_ rfl (by kernel_rfl) Try.underlying4 ?_ hb⟩
  · rw [Try.params6]
    intro t ht
    simp only [List.mem_cons, List.not_mem_nil, or_false] at ht
    rcases ht with rfl | rfl <;> exact ⟨by kernel_rfl, of_decide_eq_true (by kernel_rfl)⟩
  · rw [Try.params6]
    intro ds hl
    match ds, hl with
    | [_, _], _ => rfl

set_option maxRecDepth 100000 in
theorem lifted (os : Os) (started : os.Started) (H : Type) (enc : TypeId × Value → H) :
    ReturnsInHanded {} Try.checked os 6 .any (Rows.negotiateWiderSpec.pre6 enc Try.prog Try.f6 Rows.negotiateWiderRow.domain false) (Rows.negotiateWiderSpec.post enc Try.prog Try.f6 false true false false) := by
  refine returnsInHanded_of_change_sized (C := Try.checked) own_knob started (by kernel_rfl) Try.func6
    (ChangeSpec.witness6 (enc := enc) (C := Try.checked) false ⟨#[], #[.slice none 0 0, .int .u8 0], []⟩ 8 (by kernel_rfl) (by kernel_rfl) (by kernel_rfl) (by kernel_rfl)) ?_
  intro W base args ds gs before hval0 hW _ hsz0 _
  exact contract H enc W base args ds gs before hval0 hW hsz0

theorem over : Rows.negotiateWiderRow.holds Try.pinned (OpenSpec.ofChange Rows.negotiateWiderSpec) :=
  OpenClaim.holds_of_wide 6 Try.f6 rfl rfl rfl rfl rfl rfl rfl ⟨rfl, rfl, rfl, rfl, rfl⟩ rfl rfl rfl rfl rfl (by kernel_rfl) Try.func6 (by kernel_rfl)
    (of_decide_eq_true (by kernel_rfl)) (by unfold Func.isWrapper; first | (rw [if_pos (by decide +kernel)]; kernel_rfl) | (rw [if_neg (by decide +kernel)]; exact ⟨rfl, rfl⟩))
    (fun os started H enc _ => lifted os started H enc)

/-- The given statement. -/
theorem proved : Rows.NegotiateWiderSaid := over
end NegotiateWider
#print axioms NegotiateWider.proved
end Go.Proofs.Ytjbkjgmcfommgaa

