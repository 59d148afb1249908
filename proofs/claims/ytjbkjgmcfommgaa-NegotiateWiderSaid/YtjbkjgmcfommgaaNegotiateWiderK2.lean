/-
  YtjbkjgmcfommgaaNegotiateWider: shared parts, 2. Plain theorems.
-/
import Derived.Test.YtjbkjgmcfommgaaNegotiateWiderK1
import Derived.Lib.MinMax
import Derived.Deep.DeepCutAuto
namespace Go.Proofs.Ytjbkjgmcfommgaa
open Go.RowKit
theorem kinds_range {k : Int} (hk : I64 k) (h : kindsOk k = true) : 2 ≤ k ∧ k ≤ 254 ∧ k % 2 = 0 := by
 unfold kindsOk at h
 simp only [Bool.and_eq_true, bne_iff_ne, ne_eq, beq_iff_eq] at h
 obtain ⟨h0, h1⟩ := h
 have h2 : IntKind.i64.wrap (((BitVec.ofInt 64 k &&& ~~~BitVec.ofInt 64 254).toNat : Nat) : Int) = 0 := h1
 rw [IntWalk.i64_left] at h2
 unfold wrap64 at h2
 have hlt := (BitVec.ofInt 64 k &&& ~~~BitVec.ofInt 64 254).isLt
 have hz : (BitVec.ofInt 64 k &&& ~~~BitVec.ofInt 64 254).toNat = 0 := by omega
 have hz2 : BitVec.ofInt 64 k &&& ~~~BitVec.ofInt 64 254 = 0#64 := BitVec.eq_of_toNat_eq (by simpa using hz)
 have e : BitVec.ofInt 64 k = BitVec.ofInt 64 k &&& BitVec.ofInt 64 254 := by
  generalize BitVec.ofInt 64 k = v at *
  generalize BitVec.ofInt 64 254 = u at *
  ext i hi
  have := congrArg (fun x : BitVec 64 => x[i]) hz2
  simp only [BitVec.getElem_and, BitVec.getElem_not, BitVec.getElem_zero] at this
  rw [BitVec.getElem_and]
  revert this
  cases v[i] <;> cases u[i] <;> simp
 have e2 : (BitVec.ofInt 64 k).toNat = (BitVec.ofInt 64 k).toNat &&& 254 := by
  have := congrArg BitVec.toNat e
  rw [BitVec.toNat_and] at this
  exact this
 have h254 : (BitVec.ofInt 64 k).toNat ≤ 254 := by rw [e2]; exact Nat.and_le_right
 have hev : (BitVec.ofInt 64 k).toNat % 2 = 0 := by
  have h9 := Nat.testBit_and (BitVec.ofInt 64 k).toNat 254 0
  rw [Nat.testBit_zero, Nat.testBit_zero, Nat.testBit_zero, ← e2, show decide (254 % 2 = 1) = false from rfl, Bool.and_false, decide_eq_false_iff_not] at h9
  omega
 have hn : ((BitVec.ofInt 64 k).toNat : Int) = k % 18446744073709551616 := by
  rw [BitVec.toNat_ofInt]
  have := Int.emod_nonneg k (show (18446744073709551616 : Int) ≠ 0 by decide)
  rw [Int.toNat_of_nonneg (by simpa using this)]
  rfl
 unfold I64 at hk
 omega
def topK (want b : Int) : Int := if kindB b want = true then want else (Lib.bitLen b.toNat : Int) - 1
def topP (want : Ch) (b : Bx) : Ch := ⟨topK want.k b.k, (nearF b.r want.r).1, minUp want.m b.m b.m.length, (nearF b.s want.s).1⟩
set_option maxRecDepth 100000 in
set_option maxHeartbeats 4000000 in
theorem iclone_any (A : Option Addr) (c : Nat) (l : List Int) (w : World) (h : Ints w A l) (hl : l.length ≤ 1000000) :
 Calls Try.prog 41 #[.slice A l.length c] w fun e w' => (∃ v, e = .returned v ∧ OwnI w' w.heap.size v l) ∧ Grows w w' := by
 go_enter Try.func41, Try.ntmps41
 go_wp2_with fail
 rw [Lib.run_eql_slice_nil (P := Try.prog) w 42 3 _ _ _ _ _ Try.underlying42]
 rcases A with _ | ad
 ·have h0 : l.length = 0 := by
   rcases Nat.eq_zero_or_pos l.length with h0 | h0
   ·exact h0
   ·obtain ⟨ad, hh, _⟩ := h.2 h0
    cases hh
  obtain rfl : l = [] := List.length_eq_zero_iff.1 h0
  go_wp2
  go_ret
  exact ⟨⟨_, rfl, ownI_nil w w.heap.size⟩, Below.refl _ _⟩
 ·go_upto_region 3 with fail
  refine wp_region_lit ?_
  iterate 2
   refine wpList_plain rfl (fun K hK => ?_)
   go_simp
   refine hK _ _ ?_
   clear hK K
  have hB1 := (Below.refl w.heap.size w).alloc (Nat.le_refl _) (Obj.cells #[] 3)
  have how : OwnI (w.alloc (Obj.cells #[] 3)) w.heap.size (.slice (some ⟨w.heap.size, 0, none⟩) 0 0) [] := World.ownsRow_lit w #[] 0 (Nat.le_refl _) (by simp [maxLen]) rfl
  have h1 := h.grows hB1
  generalize hW : World.alloc w _ = w1 at *
  refine wpList_append_int rfl (.tmp 5) (.tmp 6) rfl (m := l) rfl rfl how rfl h1 (by simpa using hl) hB1.size ?_
  intro v' w2 hown hgr _
  have hB2 := how.below hB1 hgr hB1.size
  rw [List.nil_append] at hown
  clear how hgr h1 h hB1 hW
  go_wp2
  go_ret
  exact ⟨⟨_, rfl, hown⟩, hB2⟩
theorem top1_any {G : Nat} {I A B : Option Addr} {ci ca cb : Nat} {want : Ch} {x y : List Int} {w : World} (kw : Blk w G 46 #[.int .i64 want.k, .int .i64 want.r, .slice I want.m.length ci, .int .i64 want.s]) (iw : Ints w I want.m) (hx : Ints w A x) (hy : Ints w B y) (hlw : want.m.length ≤ 1000000) (hlx : x.length ≤ 9223372036854775807) (hly : y.length ≤ 9223372036854775807) :
 Calls Try.prog 63 #[.slice A x.length ca, .slice B y.length cb, .pointer (some ⟨G, 0, none⟩)] w fun e w' => e = .returned (.int .i64 (mapsF want.m x y)) ∧ Grows w w' := by
 have x1 := kw.cell
 go_enter Try.func63, Try.ntmps63
 go_wp2_with fail
 refine (maps_any I A B ci ca cb want.m x y _ iw hx hy hlw hlx hly).mono ?_
 rintro e w1 ⟨rfl, hq⟩
 go_wp2
 go_ret
 exact ⟨rfl, hq⟩
set_option maxHeartbeats 4000000 in
theorem minfunc_any {G : Nat} {base : Nat → Prop} {I A : Option Addr} {ci c : Nat} {want : Ch} {ms : List (List Int)} {w : World} (kw : Blk w G 46 #[.int .i64 want.k, .int .i64 want.r, .slice I want.m.length ci, .int .i64 want.s]) (iw : Ints w I want.m) (h : MapsR w base A ms) (hl0 : 0 < ms.length) (hl : ms.length ≤ 1000000) (hlw : want.m.length ≤ 1000000) (hlx : ∀ x ∈ ms, x.length ≤ 1000000) :
 Calls Try.prog 62 #[.slice A ms.length c, .func (.func 63) #[] #[.pointer (some ⟨G, 0, none⟩)]] w fun e w' => (∃ B cx, e = .returned (.slice B (minUp want.m ms ms.length).length cx) ∧ (minUp want.m ms ms.length).length ≤ cx ∧ InB w base B (minUp want.m ms ms.length) ∧ (minUp want.m ms ms.length).length ≤ 1000000) ∧ Grows w w' := by
 have HLX := Lib.hid hlx
 clear hlx
 obtain ⟨ad, x0, B0, cx0, e0, had, hx0, q0, hcx0, hi0⟩ := h.elem hl0
 subst e0
 have H0 : Hid (minUp want.m ms 1 = x0) := Lib.hid (by
  have e9 : ms.getD 0 [] = x0 := by rw [List.getD_eq_getElem?_getD, hx0]; rfl
  unfold minUp
  rw [if_pos (.inl rfl), e9])
 have hxl0 := HLX.out x0 (List.mem_of_getElem? hx0)
 have ea : ad.add 0 = ad := by simp [Addr.add]
 rw [ea] at q0
 have d0 : decide ((ms.length : Int) < 1) = false := by simp only [decide_eq_false_iff_not]; omega
 clear hx0 ea
 go_enter Try.func62, Try.ntmps62
 go_wp2_with fail
 go_loopw [5, 6] (fun m i wr => ∃ (n : Nat) (x : List Int) (B : Option Addr) (cx : Nat), 1 ≤ n ∧ n ≤ ms.length ∧ i = .int .i64 n ∧ m = .slice B x.length cx ∧ Hid (minUp want.m ms n = x) ∧ x.length ≤ 1000000 ∧ x.length ≤ cx ∧ InB w base B x ∧ Grows w wr) (fun _ i _ => ms.length - (intOf i).toNat)
 case atStart => exact ⟨1, x0, B0, cx0, by omega, by omega, rfl, rfl, H0, hxl0, hcx0, hi0, Below.refl _ _⟩
 case round =>
  obtain ⟨n, x, B, cx, hn1, hn, rfl, rfl, HF, hxl, hcx, hix, hB⟩ := hrel
  by_cases hlt : n < ms.length
  ·obtain ⟨ad2, y, B2, cy, e2, had2, hy, q1, hcy, hiy⟩ := h.elem hlt
   injection e2 with e2
   subst e2
   have q2 := (hB.cell (p := ad.add n) (by rw [block_of_add]; exact had)).trans q1
   have hyl := HLX.out y (List.mem_of_getElem? hy)
   have HS : Hid (minUp want.m ms (n + 1) = if n = 0 ∨ mapsF want.m y x < 0 then y else x) := Lib.hid (by
    have e9 : ms.getD n [] = y := by rw [List.getD_eq_getElem?_getD, hy]; rfl
    rw [← HF.out, ← e9]
    rfl)
   clear hy q1
   go_wp2_with fail
   refine (top1_any (kw.grows hB) (iw.grows hB) (hiy.grows hB).ints (hix.grows hB).ints hlw (by omega) (by omega)).mono ?_
   by_cases h1 : mapsF want.m y x < 0
   ·have HE : Hid (minUp want.m ms (n + 1) = y) := Lib.hid (by rw [HS.out, if_pos (.inr h1)])
    have d3 : decide (mapsF want.m y x < 0) = true := by simpa using h1
    clear h1 HS
    generalize mapsF want.m y x = z at *
    rintro e w9 ⟨rfl, hq⟩
    replace q2 := (hq.cell (p := ad.add n) (by rw [block_of_add]; exact Nat.lt_of_lt_of_le had hB.size)).trans q2
    replace hB := below_grows hB (Nat.le_refl _) hq
    clear hq
    go_wp2
    go_roundw
    case rel => exact ⟨n + 1, y, B2, cy, by omega, by omega, by go_num, rfl, HE, hyl, hcy, hiy, hB⟩
    case measure => simp [intOf]; omega
   ·have HE : Hid (minUp want.m ms (n + 1) = x) := Lib.hid (by rw [HS.out, if_neg (fun h => h.elim (by omega) h1)])
    have d3 : decide (mapsF want.m y x < 0) = false := by simpa using h1
    clear h1 HS
    generalize mapsF want.m y x = z at *
    rintro e w9 ⟨rfl, hq⟩
    replace hB := below_grows hB (Nat.le_refl _) hq
    clear hq
    go_wp2
    go_roundw
    case rel => exact ⟨n + 1, x, B, cx, by omega, by omega, by go_num, rfl, HE, hxl, hcx, hix, hB⟩
    case measure => simp [intOf]; omega
  ·obtain rfl : n = ms.length := by omega
   go_wp2
   go_ret
   rw [HF.out]
   exact ⟨⟨B, cx, rfl, hcx, hix, hxl⟩, hB⟩
end Go.Proofs.Ytjbkjgmcfommgaa

namespace Go.Proofs.Ytjbkjgmcfommgaa
open Go.RowKit
set_option maxHeartbeats 16000000 in
theorem ptop_any {A1 A2 A3 I : Option Addr} {c1 c2 c3 ci : Nat} {base : Nat → Prop} {b : Bx} {want : Ch} {w : World} (hp : BoxP w base b A1 c1 A2 c2 A3 c3) (hl : OKB b) (hk : I64 b.k) (hf : fineB b = true) (iw : Ints w I want.m) (hw : OKC want) :
 Calls Try.prog 38 #[.agg #[.int .i64 b.k, .slice A1 b.r.length c1, .slice A2 b.m.length c2, .slice A3 b.s.length c3], .agg #[.int .i64 want.k, .int .i64 want.r, .slice I want.m.length ci, .int .i64 want.s]] w fun e w' => (∃ v, e = .returned v ∧ ChV w' (Ge w.heap.size) (topP want b) v) ∧ Grows w w' := by
 obtain ⟨hlr, hls, hlm, hlx⟩ := hl
 obtain ⟨hwr, hws, hwm⟩ := hw
 have HLM := Lib.hid hlx
 clear hlx
 have hm0 : 0 < b.m.length := by
  unfold fineB mapsOk at hf
  simp only [Bool.and_eq_true, decide_eq_true_eq] at hf
  omega
 have hkr := kinds_range hk (by unfold fineB at hf; simp only [Bool.and_eq_true] at hf; exact hf.1.1.1)
 have hu : IntKind.u64.wrap b.k = b.k := IntWalk.u64_in _ (by omega)
 have HU := Lib.hid hu
 clear hf hk
 have k2 := (((Blk.new w 54 #[.int .i64 b.k, .slice A1 b.r.length c1, .slice A2 b.m.length c2, .slice A3 b.s.length c3]).alloc (Obj.cells #[.int .i64 want.k, .int .i64 want.r, .slice I want.m.length ci, .int .i64 want.s] 46)).alloc (Obj.cells #[.int .i64 0, .int .i64 0, .slice none 0 0, .int .i64 0] 46))
 have k3 := ((Blk.new (w.alloc (Obj.cells #[.int .i64 b.k, .slice A1 b.r.length c1, .slice A2 b.m.length c2, .slice A3 b.s.length c3] 54)) 46 #[.int .i64 want.k, .int .i64 want.r, .slice I want.m.length ci, .int .i64 want.s]).alloc (Obj.cells #[.int .i64 0, .int .i64 0, .slice none 0 0, .int .i64 0] 46))
 have k4 := (Blk.new ((w.alloc (Obj.cells #[.int .i64 b.k, .slice A1 b.r.length c1, .slice A2 b.m.length c2, .slice A3 b.s.length c3] 54)).alloc (Obj.cells #[.int .i64 want.k, .int .i64 want.r, .slice I want.m.length ci, .int .i64 want.s] 46)) 46 #[.int .i64 0, .int .i64 0, .slice none 0 0, .int .i64 0])
 have hB := ((((Below.refl w.heap.size w).alloc (Nat.le_refl _) (Obj.cells #[.int .i64 b.k, .slice A1 b.r.length c1, .slice A2 b.m.length c2, .slice A3 b.s.length c3] 54)).alloc (by simp) (Obj.cells #[.int .i64 want.k, .int .i64 want.r, .slice I want.m.length ci, .int .i64 want.s] 46)).alloc (by simp; omega) (Obj.cells #[.int .i64 0, .int .i64 0, .slice none 0 0, .int .i64 0] 46))
 go_enter Try.func38, Try.ntmps38
 go_upto_region 1 with fail
 have hs1 : (w.alloc (Obj.cells #[.int .i64 b.k, .slice A1 b.r.length c1, .slice A2 b.m.length c2, .slice A3 b.s.length c3] 54)).heap.size = w.heap.size + 1 := by simp
 rw [hs1] at k3
 have hs2 : ((w.alloc (Obj.cells #[.int .i64 b.k, .slice A1 b.r.length c1, .slice A2 b.m.length c2, .slice A3 b.s.length c3] 54)).alloc (Obj.cells #[.int .i64 want.k, .int .i64 want.r, .slice I want.m.length ci, .int .i64 want.s] 46)).heap.size = w.heap.size + 1 + 1 := by simp
 rw [hs2] at k4
 clear hs1 hs2
 generalize World.alloc (World.alloc (World.alloc w _) _) _ = w3 at *
 generalize hG1 : w.heap.size + 1 = G1 at *
 have HG1 := Lib.hid hG1
 clear hG1
 generalize hG2 : G1 + 1 = G2 at *
 have HG2 := Lib.hid hG2
 clear hG2
 have l2 : w.heap.size ≤ G2 := by have h1 := HG1.out; have h2 := HG2.out; omega
 have e03 : w.heap.size ≠ w3.heap.size := Nat.ne_of_lt k2.lt
 have e13 : G1 ≠ w3.heap.size := Nat.ne_of_lt k3.lt
 have e23 : G2 ≠ w3.heap.size := Nat.ne_of_lt k4.lt
 have e23l : G2 < w3.heap.size := k4.lt
 have l3 : w.heap.size ≤ w3.heap.size := hB.size
 have x3 := k3.cell
 have k5 := Blk.new w3 46 #[.int .i64 want.k, .int .i64 0, .slice none 0 0, .int .i64 0]
 have hq := (Below.refl w3.heap.size w3).alloc (Nat.le_refl _) (Obj.cells #[.int .i64 want.k, .int .i64 0, .slice none 0 0, .int .i64 0] 46)
 go_upto_region 2 with fail
 replace hB := below_grows hB (Nat.le_refl _) hq
 replace k2 := k2.grows hq
 replace k3 := k3.grows hq
 replace k4 := k4.grows hq
 clear hq x3
 generalize World.alloc w3 _ = w4 at *
 generalize w3.heap.size = G3 at *
 have x2 := k2.cell
 have x5 := k5.cell
 go_wp2_with fail
 refine (pkind_any b.k want.k A1 A2 A3 b.r.length c1 b.m.length c2 b.s.length c3 _).mono ?_
 cases hv : kindB b.k want.k
 ·have HK : Hid (topK want.k b.k = (Lib.bitLen b.k.toNat : Int) - 1) := Lib.hid (by unfold topK; rw [hv]; rfl)
  clear hv
  rintro e w5 ⟨rfl, hq⟩
  replace hB := below_grows hB (Nat.le_refl _) hq
  replace k2 := k2.grows hq
  replace k3 := k3.grows hq
  replace k4 := k4.grows hq
  replace k5 := k5.grows hq
  clear hq x2 x5
  have x2 := k2.cell
  have hu := HU.out
  go_wp2_with fail
  refine (len_any b.k _ (by omega) (by omega)).mono ?_
  have h8 := Lib.bitLen_le8' b.k (by omega) (by omega)
  generalize Lib.bitLen b.k.toNat = L at *
  have hwl : IntKind.i64.wrap ((L : Int) - 1) = (L : Int) - 1 := IntWalk.i64_in _ (by omega)
  rintro e w6 ⟨rfl, hq⟩
  replace hB := below_grows hB (Nat.le_refl _) hq
  replace k2 := k2.grows hq
  replace k3 := k3.grows hq
  replace k4 := k4.grows hq
  replace k5 := k5.grows hq
  clear hq x2 hu
  have hf5 := k5.frozen
  have y5 := k5.cell
  replace k2 := k2.far (p := ⟨G3, 0, none⟩) e03 (.int .i64 ((L : Int) - 1))
  replace k3 := k3.far (p := ⟨G3, 0, none⟩) e13 (.int .i64 ((L : Int) - 1))
  replace k4 := k4.far (p := ⟨G3, 0, none⟩) e23 (.int .i64 ((L : Int) - 1))
  replace k5 := k5.set_ 0 (.int .i64 ((L : Int) - 1))
  replace hB := hB.setCell (p := ⟨G3, 0, none⟩) l3 (.int .i64 ((L : Int) - 1))
  have x2 := k2.cell
  have x3 := k3.cell
  have x5 := k5.cell
  go_wp2_with fail
  refine (near_any A1 c1 b.r want.r _ (hp.r.grows hB).sps (by omega) hwr).mono ?_
  generalize hnpr : nearF b.r want.r = pr at *
  have HNpr := Lib.hid hnpr
  clear hnpr
  rintro e w7 ⟨rfl, hq⟩
  replace hB := below_grows hB (Nat.le_refl _) hq
  replace k2 := k2.grows hq
  replace k3 := k3.grows hq
  replace k4 := k4.grows hq
  replace k5 := k5.grows hq
  clear hq x2 x3 x5
  have hf5 := k5.frozen
  have y5 := k5.cell
  replace k2 := k2.far (p := ⟨G3, 1, none⟩) e03 (.int .i64 pr.1)
  replace k3 := k3.far (p := ⟨G3, 1, none⟩) e13 (.int .i64 pr.1)
  replace k4 := k4.far (p := ⟨G3, 1, none⟩) e23 (.int .i64 pr.1)
  replace k5 := k5.set_ 1 (.int .i64 pr.1)
  replace hB := hB.setCell (p := ⟨G3, 1, none⟩) l3 (.int .i64 pr.1)
  have x2 := k2.cell
  have x3 := k3.cell
  have x5 := k5.cell
  go_wp2_with fail
  refine (near_any A3 c3 b.s want.s _ (hp.s.grows hB).sps (by omega) hws).mono ?_
  generalize hnps : nearF b.s want.s = ps at *
  have HNps := Lib.hid hnps
  clear hnps
  rintro e w8 ⟨rfl, hq⟩
  replace hB := below_grows hB (Nat.le_refl _) hq
  replace k2 := k2.grows hq
  replace k3 := k3.grows hq
  replace k4 := k4.grows hq
  replace k5 := k5.grows hq
  clear hq x2 x3 x5 hf5 y5
  have hf5 := k5.frozen
  have y5 := k5.cell
  replace k2 := k2.far (p := ⟨G3, 3, none⟩) e03 (.int .i64 ps.1)
  replace k3 := k3.far (p := ⟨G3, 3, none⟩) e13 (.int .i64 ps.1)
  replace k4 := k4.far (p := ⟨G3, 3, none⟩) e23 (.int .i64 ps.1)
  replace k5 := k5.set_ 3 (.int .i64 ps.1)
  replace hB := hB.setCell (p := ⟨G3, 3, none⟩) l3 (.int .i64 ps.1)
  have x2 := k2.cell
  have x3 := k3.cell
  have x5 := k5.cell
  go_wp2_with fail
  refine (minfunc_any k3 (iw.grows hB) (hp.m.grows hB) hm0 hlm hwm HLM.out).mono ?_
  generalize hnm : minUp want.m b.m b.m.length = mm at *
  have HNM := Lib.hid hnm
  clear hnm
  rintro e w9 ⟨⟨B, cx, rfl, hcx, hix, hml⟩, hq⟩
  replace hB := below_grows hB (Nat.le_refl _) hq
  replace k2 := k2.grows hq
  replace k3 := k3.grows hq
  replace k4 := k4.grows hq
  replace k5 := k5.grows hq
  replace hix := hix.grows hq
  clear hq x2 x3 x5 hf5 y5
  have hlo := k5.lt
  go_wp2_with fail
  refine (iclone_any B cx mm _ hix.ints hml).mono ?_
  have hlo2 : w.heap.size ≤ w9.heap.size := hB.size
  have hg9 : ∀ u : World, Grows w9 u → Grows w9 u := fun _ h => h
  clear hg9
  rintro e w10 ⟨⟨v, rfl, hov⟩, hq⟩
  replace hB := below_grows hB (Nat.le_refl _) hq
  replace k2 := k2.grows hq
  replace k3 := k3.grows hq
  replace k4 := k4.grows hq
  replace k5 := k5.grows hq
  clear hq hix hcx
  obtain ⟨B2, cy, rfl, hcy, hiy⟩ := InB.of_own hov
  clear hov
  have hf5 := k5.frozen
  have y5 := k5.cell
  replace hiy := RdB.grown hiy (d_only_set (World.grownBy.refl _ (some G3)) 2 (.slice B2 mm.length cy)) (fun g e => by injection e with e; unfold Ge; omega)
  replace k2 := k2.far (p := ⟨G3, 2, none⟩) e03 (.slice B2 mm.length cy)
  replace k3 := k3.far (p := ⟨G3, 2, none⟩) e13 (.slice B2 mm.length cy)
  replace k4 := k4.far (p := ⟨G3, 2, none⟩) e23 (.slice B2 mm.length cy)
  replace k5 := k5.set_ 2 (.slice B2 mm.length cy)
  replace hB := hB.setCell (p := ⟨G3, 2, none⟩) l3 (.slice B2 mm.length cy)
  have x5 := k5.cell
  have x4 := k4.cell
  have hf4 := k4.frozen
  have y4 := ((((k4.set_ 0 (.int .i64 ((L : Int) - 1))).set_ 1 (.int .i64 pr.1)).set_ 2 (.slice B2 mm.length cy)).set_ 3 (.int .i64 ps.1))
  have yB := ((((hB.setCell (p := ⟨G2, 0, none⟩) l2 (.int .i64 ((L : Int) - 1))).setCell (p := ⟨G2, 1, none⟩) l2 (.int .i64 pr.1)).setCell (p := ⟨G2, 2, none⟩) l2 (.slice B2 mm.length cy)).setCell (p := ⟨G2, 3, none⟩) l2 (.int .i64 ps.1))
  have yI := RdB.mono (RdB.grown hiy (d_only_set (d_only_set (d_only_set (d_only_set (World.grownBy.refl _ (some G2)) 0 (.int .i64 ((L : Int) - 1))) 1 (.int .i64 pr.1)) 2 (.slice B2 mm.length cy)) 3 (.int .i64 ps.1)) (fun g e => by injection e with e; unfold Ge; omega)) (fun k hk => Nat.le_trans hlo2 hk)
  have HE : Hid (topP want b = ⟨((L : Int) - 1), pr.1, mm, ps.1⟩) := Lib.hid (by unfold topP; rw [HK.out, HNpr.out, HNps.out, HNM.out])
  have y6 := y4.cell
  clear k2 k3 k4 k5 hiy
  go_wp2
  refine bodyPost_ret (v := .agg #[.int .i64 ((L : Int) - 1), .int .i64 pr.1, .slice B2 mm.length cy, .int .i64 ps.1]) (by simp [results, Try.results38, go_sem, y6]) rfl ⟨?_, yB⟩
  rw [HE.out]
  exact ⟨_, rfl, B2, cy, rfl, hcy, yI⟩
 ·have HK : Hid (topK want.k b.k = want.k) := Lib.hid (by unfold topK; rw [hv]; rfl)
  clear hv
  rintro e w5 ⟨rfl, hq⟩
  replace hB := below_grows hB (Nat.le_refl _) hq
  replace k2 := k2.grows hq
  replace k3 := k3.grows hq
  replace k4 := k4.grows hq
  replace k5 := k5.grows hq
  clear hq x2 x5
  have x2 := k2.cell
  have x3 := k3.cell
  have x5 := k5.cell
  go_wp2_with fail
  refine (near_any A1 c1 b.r want.r _ (hp.r.grows hB).sps (by omega) hwr).mono ?_
  generalize hnpr : nearF b.r want.r = pr at *
  have HNpr := Lib.hid hnpr
  clear hnpr
  rintro e w7 ⟨rfl, hq⟩
  replace hB := below_grows hB (Nat.le_refl _) hq
  replace k2 := k2.grows hq
  replace k3 := k3.grows hq
  replace k4 := k4.grows hq
  replace k5 := k5.grows hq
  clear hq x2 x3 x5
  have hf5 := k5.frozen
  have y5 := k5.cell
  replace k2 := k2.far (p := ⟨G3, 1, none⟩) e03 (.int .i64 pr.1)
  replace k3 := k3.far (p := ⟨G3, 1, none⟩) e13 (.int .i64 pr.1)
  replace k4 := k4.far (p := ⟨G3, 1, none⟩) e23 (.int .i64 pr.1)
  replace k5 := k5.set_ 1 (.int .i64 pr.1)
  replace hB := hB.setCell (p := ⟨G3, 1, none⟩) l3 (.int .i64 pr.1)
  have x2 := k2.cell
  have x3 := k3.cell
  have x5 := k5.cell
  go_wp2_with fail
  refine (near_any A3 c3 b.s want.s _ (hp.s.grows hB).sps (by omega) hws).mono ?_
  generalize hnps : nearF b.s want.s = ps at *
  have HNps := Lib.hid hnps
  clear hnps
  rintro e w8 ⟨rfl, hq⟩
  replace hB := below_grows hB (Nat.le_refl _) hq
  replace k2 := k2.grows hq
  replace k3 := k3.grows hq
  replace k4 := k4.grows hq
  replace k5 := k5.grows hq
  clear hq x2 x3 x5 hf5 y5
  have hf5 := k5.frozen
  have y5 := k5.cell
  replace k2 := k2.far (p := ⟨G3, 3, none⟩) e03 (.int .i64 ps.1)
  replace k3 := k3.far (p := ⟨G3, 3, none⟩) e13 (.int .i64 ps.1)
  replace k4 := k4.far (p := ⟨G3, 3, none⟩) e23 (.int .i64 ps.1)
  replace k5 := k5.set_ 3 (.int .i64 ps.1)
  replace hB := hB.setCell (p := ⟨G3, 3, none⟩) l3 (.int .i64 ps.1)
  have x2 := k2.cell
  have x3 := k3.cell
  have x5 := k5.cell
  go_wp2_with fail
  refine (minfunc_any k3 (iw.grows hB) (hp.m.grows hB) hm0 hlm hwm HLM.out).mono ?_
  generalize hnm : minUp want.m b.m b.m.length = mm at *
  have HNM := Lib.hid hnm
  clear hnm
  rintro e w9 ⟨⟨B, cx, rfl, hcx, hix, hml⟩, hq⟩
  replace hB := below_grows hB (Nat.le_refl _) hq
  replace k2 := k2.grows hq
  replace k3 := k3.grows hq
  replace k4 := k4.grows hq
  replace k5 := k5.grows hq
  replace hix := hix.grows hq
  clear hq x2 x3 x5 hf5 y5
  have hlo := k5.lt
  go_wp2_with fail
  refine (iclone_any B cx mm _ hix.ints hml).mono ?_
  have hlo2 : w.heap.size ≤ w9.heap.size := hB.size
  have hg9 : ∀ u : World, Grows w9 u → Grows w9 u := fun _ h => h
  clear hg9
  rintro e w10 ⟨⟨v, rfl, hov⟩, hq⟩
  replace hB := below_grows hB (Nat.le_refl _) hq
  replace k2 := k2.grows hq
  replace k3 := k3.grows hq
  replace k4 := k4.grows hq
  replace k5 := k5.grows hq
  clear hq hix hcx
  obtain ⟨B2, cy, rfl, hcy, hiy⟩ := InB.of_own hov
  clear hov
  have hf5 := k5.frozen
  have y5 := k5.cell
  replace hiy := RdB.grown hiy (d_only_set (World.grownBy.refl _ (some G3)) 2 (.slice B2 mm.length cy)) (fun g e => by injection e with e; unfold Ge; omega)
  replace k2 := k2.far (p := ⟨G3, 2, none⟩) e03 (.slice B2 mm.length cy)
  replace k3 := k3.far (p := ⟨G3, 2, none⟩) e13 (.slice B2 mm.length cy)
  replace k4 := k4.far (p := ⟨G3, 2, none⟩) e23 (.slice B2 mm.length cy)
  replace k5 := k5.set_ 2 (.slice B2 mm.length cy)
  replace hB := hB.setCell (p := ⟨G3, 2, none⟩) l3 (.slice B2 mm.length cy)
  have x5 := k5.cell
  have x4 := k4.cell
  have hf4 := k4.frozen
  have y4 := ((((k4.set_ 0 (.int .i64 want.k)).set_ 1 (.int .i64 pr.1)).set_ 2 (.slice B2 mm.length cy)).set_ 3 (.int .i64 ps.1))
  have yB := ((((hB.setCell (p := ⟨G2, 0, none⟩) l2 (.int .i64 want.k)).setCell (p := ⟨G2, 1, none⟩) l2 (.int .i64 pr.1)).setCell (p := ⟨G2, 2, none⟩) l2 (.slice B2 mm.length cy)).setCell (p := ⟨G2, 3, none⟩) l2 (.int .i64 ps.1))
  have yI := RdB.mono (RdB.grown hiy (d_only_set (d_only_set (d_only_set (d_only_set (World.grownBy.refl _ (some G2)) 0 (.int .i64 want.k)) 1 (.int .i64 pr.1)) 2 (.slice B2 mm.length cy)) 3 (.int .i64 ps.1)) (fun g e => by injection e with e; unfold Ge; omega)) (fun k hk => Nat.le_trans hlo2 hk)
  have HE : Hid (topP want b = ⟨want.k, pr.1, mm, ps.1⟩) := Lib.hid (by unfold topP; rw [HK.out, HNpr.out, HNps.out, HNM.out])
  have y6 := y4.cell
  clear k2 k3 k4 k5 hiy
  go_wp2
  refine bodyPost_ret (v := .agg #[.int .i64 want.k, .int .i64 pr.1, .slice B2 mm.length cy, .int .i64 ps.1]) (by simp [results, Try.results38, go_sem, y6]) rfl ⟨?_, yB⟩
  rw [HE.out]
  exact ⟨_, rfl, B2, cy, rfl, hcy, yI⟩
end Go.Proofs.Ytjbkjgmcfommgaa

namespace Go.Proofs.Ytjbkjgmcfommgaa
open Go.RowKit
theorem near_i64 (l : List Sp) (n : Int) : I64 (nearF l n).1 := by
 have := near_bd n (spansF l) (spansF_fine l)
 unfold I64 nearF
 omega
theorem minUp_len (want : List Int) (ms : List (List Int)) (h : ∀ x ∈ ms, x.length ≤ 1000000) (n : Nat) : (minUp want ms n).length ≤ 1000000 := by
 have hg : ∀ k, (ms.getD k []).length ≤ 1000000 := fun k => by
  rw [List.getD_eq_getElem?_getD]
  cases e : ms[k]? with
  | none => simp
  | some x => exact h x (List.mem_of_getElem? e)
 induction n with
 | zero => simp [minUp]
 | succ n ih =>
  unfold minUp
  split
  ·exact hg n
  ·exact ih
theorem okc_topP {want : Ch} {b : Bx} (h : OKB b) : OKC (topP want b) := ⟨near_i64 _ _, near_i64 _ _, minUp_len _ _ h.2.2.2 _⟩
def zeroC : Ch := ⟨0, 0, [], 0⟩
theorem okc_zero : OKC zeroC := ⟨by unfold I64 zeroC; decide, by unfold I64 zeroC; decide, by simp [zeroC]⟩
def bestStep (f : Bx → Ch) (want : Ch) (s : Ch × Bool) (b : Bx) : Ch × Bool := if s.2 = false ∨ cmpF want (f b) s.1 < 0 then (f b, true) else s
def bestL (f : Bx → Ch) (want : Ch) (l : List Bx) : Ch × Bool := (boxesF l).foldl (bestStep f want) (zeroC, false)
theorem boxes_ok {l : List Bx} (h : ∀ b ∈ l, OKB b) : ∀ b ∈ boxesF l, OKB b := by
 unfold boxesF
 split
 ·exact h
 ·simp
theorem boxes_mem {l : List Bx} {b : Bx} (h : b ∈ boxesF l) : b ∈ l ∧ fineB b = true := by
 unfold boxesF at h
 split at h
 ·rename_i hv
  refine ⟨h, ?_⟩
  unfold validL at hv
  simp only [Bool.and_eq_true, List.all_eq_true] at hv
  exact hv.2 b h
 ·simp at h
theorem boxes_len (l : List Bx) : (boxesF l).length ≤ 64 := by
 unfold boxesF
 split
 ·rename_i hv
  unfold validL at hv
  simp only [Bool.and_eq_true, decide_eq_true_eq] at hv
  exact hv.1
 ·simp
set_option maxHeartbeats 16000000 in
theorem pbestl_any {base : Nat → Prop} {A I : Option Addr} {c ci : Nat} {l : List Bx} {want : Ch} {w : World} (h : Bxs w base A l) (hl : l.length ≤ 1000000) (hc : l.length ≤ c) (ho : ∀ b ∈ l, OKB b) (hk : ∀ b ∈ l, I64 b.k) (iw : Ints w I want.m) (hw : OKC want) :
 Calls Try.prog 23 #[.slice A l.length c, .agg #[.int .i64 want.k, .int .i64 want.r, .slice I want.m.length ci, .int .i64 want.s]] w fun e w' => (∃ v, e = .returned (.tuple #[v, .bool (bestL (topP want) want l).2]) ∧ ChV w' (Ge w.heap.size) (bestL (topP want) want l).1 v) ∧ Grows w w' := by
 have HO := Lib.hid ho
 clear ho
 have HK := Lib.hid hk
 clear hk
 have k3 := (((Blk.new w 46 #[.int .i64 want.k, .int .i64 want.r, .slice I want.m.length ci, .int .i64 want.s]).alloc (Obj.cells #[.int .i64 0, .int .i64 0, .slice none 0 0, .int .i64 0] 46)).alloc (Obj.cells #[.int .i64 0, .int .i64 0, .slice none 0 0, .int .i64 0] 46))
 have k4 := ((Blk.new (w.alloc (Obj.cells #[.int .i64 want.k, .int .i64 want.r, .slice I want.m.length ci, .int .i64 want.s] 46)) 46 #[.int .i64 0, .int .i64 0, .slice none 0 0, .int .i64 0]).alloc (Obj.cells #[.int .i64 0, .int .i64 0, .slice none 0 0, .int .i64 0] 46))
 have k6 := (Blk.new ((w.alloc (Obj.cells #[.int .i64 want.k, .int .i64 want.r, .slice I want.m.length ci, .int .i64 want.s] 46)).alloc (Obj.cells #[.int .i64 0, .int .i64 0, .slice none 0 0, .int .i64 0] 46)) 46 #[.int .i64 0, .int .i64 0, .slice none 0 0, .int .i64 0])
 have hB := ((((Below.refl w.heap.size w).alloc (Nat.le_refl _) (Obj.cells #[.int .i64 want.k, .int .i64 want.r, .slice I want.m.length ci, .int .i64 want.s] 46)).alloc (by simp) (Obj.cells #[.int .i64 0, .int .i64 0, .slice none 0 0, .int .i64 0] 46)).alloc (by simp; omega) (Obj.cells #[.int .i64 0, .int .i64 0, .slice none 0 0, .int .i64 0] 46))
 go_enter Try.func23, Try.ntmps23
 go_upto_region 3 with fail
 have hs1 : (w.alloc (Obj.cells #[.int .i64 want.k, .int .i64 want.r, .slice I want.m.length ci, .int .i64 want.s] 46)).heap.size = w.heap.size + 1 := by simp
 rw [hs1] at k4
 have hs2 : ((w.alloc (Obj.cells #[.int .i64 want.k, .int .i64 want.r, .slice I want.m.length ci, .int .i64 want.s] 46)).alloc (Obj.cells #[.int .i64 0, .int .i64 0, .slice none 0 0, .int .i64 0] 46)).heap.size = w.heap.size + 1 + 1 := by simp
 rw [hs2] at k6
 clear hs1 hs2
 generalize World.alloc (World.alloc (World.alloc w _) _) _ = w3 at *
 generalize hG1 : w.heap.size + 1 = G1 at *
 have HG1 := Lib.hid hG1
 clear hG1
 generalize hG2 : G1 + 1 = G2 at *
 have HG2 := Lib.hid hG2
 clear hG2
 have l1 : w.heap.size ≤ G1 := by have h1 := HG1.out; omega
 have l2 : w.heap.size ≤ G2 := by have h1 := HG1.out; have h2 := HG2.out; omega
 have e02 : w.heap.size ≠ G2 := by have h1 := HG1.out; have h2 := HG2.out; omega
 have e12 : G1 ≠ G2 := by have h2 := HG2.out; omega
 have e12l : G1 < G2 := by have h2 := HG2.out; omega
 go_wp2_with fail
 refine (pboxes_any A c (Bd base w.heap.size) l _ (h.bd.grows hB) hl HO.out hc).mono ?_
 have HBL : Hid (bestL (topP want) want l = (boxesF l).foldl (bestStep (topP want) want) (zeroC, false)) := Lib.hid rfl
 have HOB := Lib.hid (boxes_ok HO.out)
 have HMB : Hid (∀ b ∈ boxesF l, b ∈ boxesF l) := Lib.hid fun _ h => h
 have hbl := boxes_len l
 generalize hls : boxesF l = bl at *
 have HLS := Lib.hid hls
 clear hls
 rintro e w4 ⟨⟨A4, c4, rfl, hc4, hbx3⟩, hq⟩
 have hbx := Bxs.backU hbx3 (fun _ h => h.2) hB (Nat.le_refl _)
 replace hB := below_grows hB (Nat.le_refl _) hq
 replace k3 := k3.grows hq
 replace k4 := k4.grows hq
 replace k6 := k6.grows hq
 clear hbx3 hq
 have HB4 := Lib.hid hB
 clear hB
 go_wp2_with fail
 go_loopw [7, 14] (fun q i wr => ∃ (n : Nat) (sc : Ch) (sb : Bool) (B : Option Addr) (cx : Nat), n ≤ bl.length ∧ i = .int .i64 n ∧ q = .bool sb ∧ Hid ((bl.take n).foldl (bestStep (topP want) want) (zeroC, false) = (sc, sb)) ∧ Hid (OKC sc) ∧ sc.m.length ≤ cx ∧ InB wr (Ge (G2 + 1)) B sc.m ∧ Blk wr w.heap.size 46 #[.int .i64 want.k, .int .i64 want.r, .slice I want.m.length ci, .int .i64 want.s] ∧ Blk wr G1 46 #[.int .i64 0, .int .i64 0, .slice none 0 0, .int .i64 0] ∧ Blk wr G2 46 #[.int .i64 sc.k, .int .i64 sc.r, .slice B sc.m.length cx, .int .i64 sc.s] ∧ Below w.heap.size w wr) (fun _ i _ => bl.length - (intOf i).toNat)
 case atStart => exact ⟨0, zeroC, false, none, 0, by omega, rfl, rfl, Lib.hid rfl, Lib.hid okc_zero, by simp [zeroC], RdB.nil, k3, k4, k6, HB4.out⟩
 case round =>
  clear k3 k4 k6
  obtain ⟨n, sc, sb, B, cx, hn, rfl, rfl, HF, HSC, hcx, hix, k3, k4, k6, hB⟩ := hrel
  by_cases hlt : n < bl.length
  ·obtain ⟨ad, b, A1, c1, A2, c2, A3, c3, e1, had, hx, hp, q0, q1, q2, q3⟩ := (hbx.grows hB).elem hlt
   subst e1
   have HM := Lib.hid (HMB.out b (List.mem_of_getElem? hx))
   have HOb := Lib.hid (HOB.out b (List.mem_of_getElem? hx))
   have HS : Hid ((bl.take (n + 1)).foldl (bestStep (topP want) want) (zeroC, false) = bestStep (topP want) want (sc, sb) b) := Lib.hid (by rw [take_snoc hx, List.foldl_append, HF.out]; rfl)
   clear hx HF
   have k9 := Blk.new wr 54 #[.int .i64 b.k, .slice A1 b.r.length c1, .slice A2 b.m.length c2, .slice A3 b.s.length c3]
   have hq := (Below.refl wr.heap.size wr).alloc (Nat.le_refl _) (Obj.cells #[.int .i64 b.k, .slice A1 b.r.length c1, .slice A2 b.m.length c2, .slice A3 b.s.length c3] 54)
   go_upto_region 6 with fail
   replace hB := below_grows hB (Nat.le_refl _) hq
   replace k3 := k3.grows hq
   replace k4 := k4.grows hq
   replace k6 := k6.grows hq
   replace hp := hp.grows hq
   replace hix := hix.grows hq
   clear hq q0 q1 q2 q3
   generalize World.alloc wr _ = w5 at *
   generalize wr.heap.size = G9 at *
   have x9 := k9.cell
   have x3 := k3.cell
   have hlt5 := k6.lt
   go_wp2_with fail
   refine (ptop_any hp HOb.out (HK.out b (boxes_mem (HLS.out.symm ▸ HM.out)).1) (boxes_mem (HLS.out.symm ▸ HM.out)).2 (iw.grows hB) hw).mono ?_
   have HOC : Hid (OKC (topP want b)) := Lib.hid (okc_topP HOb.out)
   generalize hcc : topP want b = cc at *
   have HCC := Lib.hid hcc
   clear hcc
   rintro e w6 ⟨⟨v, rfl, hcv⟩, hq⟩
   replace hB := below_grows hB (Nat.le_refl _) hq
   replace k3 := k3.grows hq
   replace k4 := k4.grows hq
   replace k6 := k6.grows hq
   replace hix := hix.grows hq
   clear hq x9 x3 k9 hp
   obtain ⟨B2, cy, rfl, hcy, hic⟩ := hcv
   replace hic : InB w6 (Ge (G2 + 1)) B2 cc.m := RdB.mono hic (fun k hk => by unfold Ge at *; omega)
   have k10 := Blk.new w6 46 #[.int .i64 cc.k, .int .i64 cc.r, .slice B2 cc.m.length cy, .int .i64 cc.s]
   have hq := (Below.refl w6.heap.size w6).alloc (Nat.le_refl _) (Obj.cells #[.int .i64 cc.k, .int .i64 cc.r, .slice B2 cc.m.length cy, .int .i64 cc.s] 46)
   go_upto_region 7 with fail
   replace hB := below_grows hB (Nat.le_refl _) hq
   replace k3 := k3.grows hq
   replace k4 := k4.grows hq
   replace k6 := k6.grows hq
   replace hix := hix.grows hq
   replace hic := hic.grows hq
   clear hq
   generalize World.alloc w6 _ = w7 at *
   generalize w6.heap.size = G10 at *
   cases sb
   ·have HE : Hid ((bl.take (n + 1)).foldl (bestStep (topP want) want) (zeroC, false) = (cc, true)) := Lib.hid (by rw [HS.out]; unfold bestStep; rw [if_pos (.inl rfl), HCC.out])
    clear HS HSC hix hcx
    have xc := k10.cell
    have x6 := k6.cell
    have hf6 := k6.frozen
    have y6 := ((((k6.set_ 0 (.int .i64 cc.k)).set_ 1 (.int .i64 cc.r)).set_ 2 (.slice B2 cc.m.length cy)).set_ 3 (.int .i64 cc.s))
    have yB := ((((hB.setCell (p := ⟨G2, 0, none⟩) l2 (.int .i64 cc.k)).setCell (p := ⟨G2, 1, none⟩) l2 (.int .i64 cc.r)).setCell (p := ⟨G2, 2, none⟩) l2 (.slice B2 cc.m.length cy)).setCell (p := ⟨G2, 3, none⟩) l2 (.int .i64 cc.s))
    have y3 := ((((k3.far (p := ⟨G2, 0, none⟩) e02 (.int .i64 cc.k)).far (p := ⟨G2, 1, none⟩) e02 (.int .i64 cc.r)).far (p := ⟨G2, 2, none⟩) e02 (.slice B2 cc.m.length cy)).far (p := ⟨G2, 3, none⟩) e02 (.int .i64 cc.s))
    have y4 := ((((k4.far (p := ⟨G2, 0, none⟩) e12 (.int .i64 cc.k)).far (p := ⟨G2, 1, none⟩) e12 (.int .i64 cc.r)).far (p := ⟨G2, 2, none⟩) e12 (.slice B2 cc.m.length cy)).far (p := ⟨G2, 3, none⟩) e12 (.int .i64 cc.s))
    have yI := RdB.grown hic (d_only_set (d_only_set (d_only_set (d_only_set (World.grownBy.refl _ (some G2)) 0 (.int .i64 cc.k)) 1 (.int .i64 cc.r)) 2 (.slice B2 cc.m.length cy)) 3 (.int .i64 cc.s)) (fun g e => by injection e with e; unfold Ge; omega)
    clear hic
    go_wp2
    go_roundw
    case rel => exact ⟨n + 1, cc, true, B2, cy, by omega, by go_num, rfl, HE, HOC, hcy, yI, y3, y4, y6, yB⟩
    case measure => simp [intOf]; omega
   have x3 := k3.cell
   have xc := k10.cell
   have x6 := k6.cell
   go_wp2_with fail
   refine (compare_any I B2 B ci cy cx want cc sc _ (iw.grows hB) hic.ints hix.ints hw HOC.out HSC.out).mono ?_
   by_cases h1 : cmpF want cc sc < 0
   ·have HE : Hid ((bl.take (n + 1)).foldl (bestStep (topP want) want) (zeroC, false) = (cc, true)) := Lib.hid (by rw [HS.out]; unfold bestStep; rw [HCC.out, if_pos (.inr h1)])
    have d3 : decide (cmpF want cc sc < 0) = true := by simpa using h1
    clear h1 HS HSC hcx
    generalize cmpF want cc sc = z at *
    rintro e w8 ⟨rfl, hq⟩
    replace hB := below_grows hB (Nat.le_refl _) hq
    replace k3 := k3.grows hq
    replace k4 := k4.grows hq
    replace k6 := k6.grows hq
    replace k10 := k10.grows hq
    replace hic := hic.grows hq
    clear hq x3 xc x6 hix
    have xc := k10.cell
    have x6 := k6.cell
    have hf6 := k6.frozen
    have y6 := ((((k6.set_ 0 (.int .i64 cc.k)).set_ 1 (.int .i64 cc.r)).set_ 2 (.slice B2 cc.m.length cy)).set_ 3 (.int .i64 cc.s))
    have yB := ((((hB.setCell (p := ⟨G2, 0, none⟩) l2 (.int .i64 cc.k)).setCell (p := ⟨G2, 1, none⟩) l2 (.int .i64 cc.r)).setCell (p := ⟨G2, 2, none⟩) l2 (.slice B2 cc.m.length cy)).setCell (p := ⟨G2, 3, none⟩) l2 (.int .i64 cc.s))
    have y3 := ((((k3.far (p := ⟨G2, 0, none⟩) e02 (.int .i64 cc.k)).far (p := ⟨G2, 1, none⟩) e02 (.int .i64 cc.r)).far (p := ⟨G2, 2, none⟩) e02 (.slice B2 cc.m.length cy)).far (p := ⟨G2, 3, none⟩) e02 (.int .i64 cc.s))
    have y4 := ((((k4.far (p := ⟨G2, 0, none⟩) e12 (.int .i64 cc.k)).far (p := ⟨G2, 1, none⟩) e12 (.int .i64 cc.r)).far (p := ⟨G2, 2, none⟩) e12 (.slice B2 cc.m.length cy)).far (p := ⟨G2, 3, none⟩) e12 (.int .i64 cc.s))
    have yI := RdB.grown hic (d_only_set (d_only_set (d_only_set (d_only_set (World.grownBy.refl _ (some G2)) 0 (.int .i64 cc.k)) 1 (.int .i64 cc.r)) 2 (.slice B2 cc.m.length cy)) 3 (.int .i64 cc.s)) (fun g e => by injection e with e; unfold Ge; omega)
    clear hic
    go_wp2
    go_roundw
    case rel => exact ⟨n + 1, cc, true, B2, cy, by omega, by go_num, rfl, HE, HOC, hcy, yI, y3, y4, y6, yB⟩
    case measure => simp [intOf]; omega
   ·have HE : Hid ((bl.take (n + 1)).foldl (bestStep (topP want) want) (zeroC, false) = (sc, true)) := Lib.hid (by rw [HS.out]; unfold bestStep; rw [HCC.out, if_neg (fun h => h.elim (by simp) h1)])
    have d3 : decide (cmpF want cc sc < 0) = false := by simpa using h1
    clear h1 HS
    generalize cmpF want cc sc = z at *
    rintro e w8 ⟨rfl, hq⟩
    replace hB := below_grows hB (Nat.le_refl _) hq
    replace k3 := k3.grows hq
    replace k4 := k4.grows hq
    replace k6 := k6.grows hq
    replace hix := hix.grows hq
    clear hq x3 xc x6
    go_wp2
    go_roundw
    case rel => exact ⟨n + 1, sc, true, B, cx, by omega, by go_num, rfl, HE, HSC, hcx, hix, k3, k4, k6, hB⟩
    case measure => simp [intOf]; omega
  ·obtain rfl : n = bl.length := by omega
   have HE : Hid (bestL (topP want) want l = (sc, sb)) := Lib.hid (by rw [HBL.out]; have := HF.out; rwa [List.take_length] at this)
   have x6 := k6.cell
   have x4 := k4.cell
   have hf4 := k4.frozen
   have y4 := ((((k4.set_ 0 (.int .i64 sc.k)).set_ 1 (.int .i64 sc.r)).set_ 2 (.slice B sc.m.length cx)).set_ 3 (.int .i64 sc.s))
   have yB := ((((hB.setCell (p := ⟨G1, 0, none⟩) l1 (.int .i64 sc.k)).setCell (p := ⟨G1, 1, none⟩) l1 (.int .i64 sc.r)).setCell (p := ⟨G1, 2, none⟩) l1 (.slice B sc.m.length cx)).setCell (p := ⟨G1, 3, none⟩) l1 (.int .i64 sc.s))
   have yI : InB _ (Ge w.heap.size) B sc.m := RdB.mono (RdB.grown hix (d_only_set (d_only_set (d_only_set (d_only_set (World.grownBy.refl _ (some G1)) 0 (.int .i64 sc.k)) 1 (.int .i64 sc.r)) 2 (.slice B sc.m.length cx)) 3 (.int .i64 sc.s)) (fun g e => by injection e with e; unfold Ge; omega)) (fun k hk => by unfold Ge at *; omega)
   have y6 := y4.cell
   clear k3 k4 k6
   go_wp2
   refine bodyPost_ret (v := .tuple #[.agg #[.int .i64 sc.k, .int .i64 sc.r, .slice B sc.m.length cx, .int .i64 sc.s], .bool sb]) (by simp [results, Try.results23, go_sem, y6]) rfl ⟨?_, yB⟩
   rw [HE.out]
   exact ⟨_, rfl, B, cx, rfl, hcx, yI⟩
end Go.Proofs.Ytjbkjgmcfommgaa

namespace Go.Proofs.Ytjbkjgmcfommgaa
open Go.RowKit
def inB (b : Bx) (c : Ch) : Bool := kindB b.k c.k && hasF b.r c.r && decide (c.m ∈ b.m) && hasF b.s c.s
def hasL (l : List Bx) (c : Ch) : Bool := (boxesF l).any fun b => inB b c
theorem inB_k {b : Bx} {c : Ch} (h : kindB b.k c.k = false) : inB b c = false := by unfold inB; rw [h]; rfl
theorem inB_r {b : Bx} {c : Ch} (h : hasF b.r c.r = false) : inB b c = false := by unfold inB; rw [h]; simp
theorem inB_m {b : Bx} {c : Ch} (h : c.m ∉ b.m) : inB b c = false := by unfold inB; rw [decide_eq_false h]; simp
theorem inB_s {b : Bx} {c : Ch} (h : hasF b.s c.s = false) : inB b c = false := by unfold inB; rw [h]; simp
theorem inB_yes {b : Bx} {c : Ch} (h1 : kindB b.k c.k = true) (h2 : hasF b.r c.r = true) (h3 : c.m ∈ b.m) (h4 : hasF b.s c.s = true) : inB b c = true := by unfold inB; rw [h1, h2, h4, decide_eq_true h3]; rfl
set_option maxHeartbeats 4000000 in
theorem has1b_any {G : Nat} {base : Nat → Prop} {I A1 A2 A3 : Option Addr} {ci c1 c2 c3 : Nat} {b : Bx} {x : Ch} {w : World} (kc : Blk w G 46 #[.int .i64 x.k, .int .i64 x.r, .slice I x.m.length ci, .int .i64 x.s]) (hp : BoxP w base b A1 c1 A2 c2 A3 c3) (hl : OKB b) (ix : Ints w I x.m) (hxm : x.m.length ≤ 9223372036854775807) :
 Calls Try.prog 47 #[.agg #[.int .i64 b.k, .slice A1 b.r.length c1, .slice A2 b.m.length c2, .slice A3 b.s.length c3], .pointer (some ⟨G, 0, none⟩)] w fun e w' => e = .returned (.bool (inB b x)) ∧ Grows w w' := by
 obtain ⟨hlr, hls, hlm, hlx⟩ := hl
 have HLM := Lib.hid hlx
 clear hlx
 have k2 := Blk.new w 54 #[.int .i64 b.k, .slice A1 b.r.length c1, .slice A2 b.m.length c2, .slice A3 b.s.length c3]
 have hB := (Below.refl w.heap.size w).alloc (Nat.le_refl _) (Obj.cells #[.int .i64 b.k, .slice A1 b.r.length c1, .slice A2 b.m.length c2, .slice A3 b.s.length c3] 54)
 go_enter Try.func47, Try.ntmps47
 go_upto_region 1 with fail
 replace kc := kc.grows hB
 generalize World.alloc w _ = w1 at *
 have x1 := kc.cell
 have x2 := k2.cell
 go_wp2_with fail
 refine (pkind_any b.k x.k A1 A2 A3 b.r.length c1 b.m.length c2 b.s.length c3 _).mono ?_
 cases hv : kindB b.k x.k
 ·have HE : Hid (inB b x = false) := Lib.hid (inB_k hv)
  clear hv
  rintro e w2 ⟨rfl, hq⟩
  replace hB := below_grows hB (Nat.le_refl _) hq
  clear hq x1 x2
  go_wp2
  go_ret
  exact ⟨ret_bool HE.out.symm, hB⟩
 have H1 := Lib.hid hv
 clear hv
 rintro e w2 ⟨rfl, hq⟩
 replace hB := below_grows hB (Nat.le_refl _) hq
 replace kc := kc.grows hq
 replace k2 := k2.grows hq
 clear hq x1 x2
 have x1 := kc.cell
 have x2 := k2.cell
 go_wp2_with fail
 refine (has_any A1 c1 b.r x.r _ (hp.r.grows hB).sps (by omega)).mono ?_
 cases hv : hasF b.r x.r
 ·have HE : Hid (inB b x = false) := Lib.hid (inB_r hv)
  clear hv
  rintro e w2 ⟨rfl, hq⟩
  replace hB := below_grows hB (Nat.le_refl _) hq
  clear hq x1 x2
  go_wp2
  go_ret
  exact ⟨ret_bool HE.out.symm, hB⟩
 have H2 := Lib.hid hv
 clear hv
 rintro e w2 ⟨rfl, hq⟩
 replace hB := below_grows hB (Nat.le_refl _) hq
 replace kc := kc.grows hq
 replace k2 := k2.grows hq
 clear hq x1 x2
 have x1 := kc.cell
 have x2 := k2.cell
 go_wp2_with fail
 refine (phasw_any A2 I c2 ci b.m x.m _ rfl (hp.m.grows hB) hlm HLM.out (ix.grows hB) hxm).mono ?_
 by_cases hv : x.m ∈ b.m
 case neg =>
  have HE : Hid (inB b x = false) := Lib.hid (inB_m hv)
  rw [decide_eq_false hv]
  clear hv
  rintro e w2 ⟨rfl, hq⟩
  replace hB := below_grows hB (Nat.le_refl _) hq
  clear hq x1 x2
  go_wp2
  go_ret
  exact ⟨ret_bool HE.out.symm, hB⟩
 have H3 := Lib.hid hv
 rw [decide_eq_true hv]
 clear hv
 rintro e w2 ⟨rfl, hq⟩
 replace hB := below_grows hB (Nat.le_refl _) hq
 replace kc := kc.grows hq
 replace k2 := k2.grows hq
 clear hq x1 x2
 have x1 := kc.cell
 have x2 := k2.cell
 go_wp2_with fail
 refine (has_any A3 c3 b.s x.s _ (hp.s.grows hB).sps (by omega)).mono ?_
 cases hv : hasF b.s x.s
 ·have HE : Hid (inB b x = false) := Lib.hid (inB_s hv)
  clear hv
  rintro e w2 ⟨rfl, hq⟩
  replace hB := below_grows hB (Nat.le_refl _) hq
  clear hq x1 x2
  go_wp2
  go_ret
  exact ⟨ret_bool HE.out.symm, hB⟩
 have HE : Hid (inB b x = true) := Lib.hid (inB_yes H1.out H2.out H3.out hv)
 clear hv
 rintro e w2 ⟨rfl, hq⟩
 replace hB := below_grows hB (Nat.le_refl _) hq
 clear hq x1 x2
 go_wp2
 go_ret
 exact ⟨ret_bool HE.out.symm, hB⟩
set_option maxHeartbeats 2000000 in
theorem idx_hasb (G : Nat) {n : Nat} (A : Option Addr) (c : Nat) (base : Nat → Prop) (l : List Bx) (p : Bx → Bool) (w : World) (hn : n = l.length) (h : Bxs w base A l) (hl : l.length ≤ 9223372036854775807)
 (hp : ∀ (x : Bx) (A1 A2 A3 : Option Addr) (c1 c2 c3 : Nat) (w1 : World), x ∈ l → Grows w w1 → BoxP w1 base x A1 c1 A2 c2 A3 c3 → Calls Try.prog 47 #[.agg #[.int .i64 x.k, .slice A1 x.r.length c1, .slice A2 x.m.length c2, .slice A3 x.s.length c3], .pointer (some ⟨G, 0, none⟩)] w1 fun e w' => e = .returned (.bool (p x)) ∧ Grows w1 w') :
 Calls Try.prog 73 #[.slice A n c, .func (.func 47) #[] #[.pointer (some ⟨G, 0, none⟩)]] w fun e w' => e = .returned (.int .i64 (placeZ (l.findIdx? p))) ∧ Grows w w' := by
 subst hn
 have HP := Lib.hid hp
 clear hp
 go_enter Try.func73, Try.ntmps73
 go_wp2_with fail
 go_loopw [8] (fun i wr => ∃ k : Nat, k ≤ l.length ∧ i = .int .i64 k ∧ Hid ((l.take k).findIdx? p = none) ∧ Grows w wr) (fun i _ => l.length - (intOf i).toNat)
 case atStart => exact ⟨0, by omega, rfl, Lib.hid rfl, Below.refl _ _⟩
 case round =>
  obtain ⟨k, hk, rfl, hf, hB⟩ := hrel
  by_cases hlt : k < l.length
  ·obtain ⟨ad, x, A1, c1, A2, c2, A3, c3, rfl, had, hx, hpx, q0, q1, q2, q3⟩ := (h.grows hB).elem hlt
   have HX := Lib.hid hx
   clear hx
   go_wp2_with fail
   refine (HP.out x A1 A2 A3 c1 c2 c3 _ (List.mem_of_getElem? HX.out) hB hpx).mono ?_
   rintro e w2 ⟨rfl, hq⟩
   replace hB := below_grows hB (Nat.le_refl _) hq
   clear hq q0 q1 q2 q3 hpx
   cases e : p x
   ·have HE := Lib.hid (idx_upU hf.out HX.out e)
    go_wp2
    go_roundw
    case rel => exact ⟨k + 1, by omega, by go_num, HE, hB⟩
    case measure => simp [intOf]; omega
   ·have HE := Lib.hid (idx_atU hf.out HX.out e)
    go_wp2
    go_ret
    rw [HE.out]
    exact ⟨rfl, hB⟩
  ·have HE : Hid (l.findIdx? p = none) := Lib.hid (by have := hf.out; rwa [List.take_of_length_le (by omega)] at this)
   go_wp2
   go_ret
   rw [HE.out]
   exact ⟨rfl, hB⟩
theorem cont_hasb (G : Nat) {n : Nat} (A : Option Addr) (c : Nat) (base : Nat → Prop) (l : List Bx) (p : Bx → Bool) (w : World) (hn : n = l.length) (h : Bxs w base A l) (hl : l.length ≤ 9223372036854775807)
 (hp : ∀ (x : Bx) (A1 A2 A3 : Option Addr) (c1 c2 c3 : Nat) (w1 : World), x ∈ l → Grows w w1 → BoxP w1 base x A1 c1 A2 c2 A3 c3 → Calls Try.prog 47 #[.agg #[.int .i64 x.k, .slice A1 x.r.length c1, .slice A2 x.m.length c2, .slice A3 x.s.length c3], .pointer (some ⟨G, 0, none⟩)] w1 fun e w' => e = .returned (.bool (p x)) ∧ Grows w1 w') :
 Calls Try.prog 46 #[.slice A n c, .func (.func 47) #[] #[.pointer (some ⟨G, 0, none⟩)]] w fun e w' => e = .returned (.bool (l.any p)) ∧ Grows w w' := by
 subst hn
 have HP := Lib.hid hp
 clear hp
 rw [← place_anyU]
 go_enter Try.func46, Try.ntmps46
 go_wp2_with fail
 refine (idx_hasb G A c base l p _ rfl h hl HP.out).mono ?_
 rintro e w2 ⟨rfl, hq⟩
 generalize hz : placeZ (l.findIdx? p) = z
 have HZ := Lib.hid hz
 clear hz
 go_wp2
 go_ret
 rw [HZ.out]
 exact ⟨rfl, hq⟩
theorem phaslw_any {base : Nat → Prop} {A I : Option Addr} {c ci : Nat} {l : List Bx} {x : Ch} {w : World} (h : Bxs w base A l) (hl : l.length ≤ 1000000) (hc : l.length ≤ c) (ho : ∀ b ∈ l, OKB b) (ix : Ints w I x.m) (hxm : x.m.length ≤ 9223372036854775807) :
 Calls Try.prog 28 #[.slice A l.length c, .agg #[.int .i64 x.k, .int .i64 x.r, .slice I x.m.length ci, .int .i64 x.s]] w fun e w' => e = .returned (.bool (hasL l x)) ∧ Grows w w' := by
 have HO := Lib.hid ho
 have HL : Hid (hasL l x = (boxesF l).any fun b => inB b x) := Lib.hid rfl
 clear ho
 have kc := Blk.new w 46 #[.int .i64 x.k, .int .i64 x.r, .slice I x.m.length ci, .int .i64 x.s]
 have hB := (Below.refl w.heap.size w).alloc (Nat.le_refl _) (Obj.cells #[.int .i64 x.k, .int .i64 x.r, .slice I x.m.length ci, .int .i64 x.s] 46)
 go_enter Try.func28, Try.ntmps28
 go_upto_region 1 with fail
 generalize World.alloc w _ = w1 at *
 go_wp2_with fail
 refine (pboxes_any A c base l _ (h.grows hB) hl HO.out hc).mono ?_
 have HOB := Lib.hid (boxes_ok HO.out)
 have hbl := boxes_len l
 generalize boxesF l = bl at *
 rintro e w4 ⟨⟨A4, c4, rfl, hc4, hbx⟩, hq⟩
 replace hB := below_grows hB (Nat.le_refl _) hq
 replace hbx := hbx.grows hq
 replace kc := kc.grows hq
 clear hq
 go_wp2_with fail
 refine (cont_hasb w.heap.size A4 c4 base bl (fun b => inB b x) _ rfl hbx (by omega) (fun b A1 A2 A3 c1 c2 c3 w2 hb hg hp => has1b_any (kc.grows hg) hp (HOB.out b hb) (ix.grows (below_grows hB (Nat.le_refl _) hg)) hxm)).mono ?_
 rintro e w5 ⟨rfl, hq⟩
 replace hB := below_grows hB (Nat.le_refl _) hq
 go_wp2
 go_ret
 rw [HL.out]
 exact ⟨rfl, hB⟩
def sameC (a b : Ch) : Bool := decide (a.s = b.s) && (decide (a.k = b.k) && decide (a.r = b.r) && decide (a.m = b.m))
theorem sameC_iff (a b : Ch) : sameC a b = decide (a = b) := by
 unfold sameC
 obtain ⟨k, r, m, s⟩ := a
 obtain ⟨k2, r2, m2, s2⟩ := b
 by_cases h1 : k = k2 <;> by_cases h2 : r = r2 <;> by_cases h3 : m = m2 <;> by_cases h4 : s = s2 <;> simp [h1, h2, h3, h4]
set_option maxHeartbeats 2000000 in
theorem samef_any {A B : Option Addr} {c d : Nat} {a b : Ch} {w : World} (ia : Ints w A a.m) (ib : Ints w B b.m) (ha : a.m.length ≤ 1000000) (hb : b.m.length ≤ 1000000) :
 Calls Try.prog 25 #[.agg #[.int .i64 a.k, .int .i64 a.r, .slice A a.m.length c], .agg #[.int .i64 b.k, .int .i64 b.r, .slice B b.m.length d]] w fun e w' => e = .returned (.bool (decide (a.k = b.k) && decide (a.r = b.r) && decide (a.m = b.m))) ∧ Grows w w' := by
 have k1 := (Blk.new w 44 #[.int .i64 a.k, .int .i64 a.r, .slice A a.m.length c]).alloc (Obj.cells #[.int .i64 b.k, .int .i64 b.r, .slice B b.m.length d] 44)
 have k2 := Blk.new (w.alloc (Obj.cells #[.int .i64 a.k, .int .i64 a.r, .slice A a.m.length c] 44)) 44 #[.int .i64 b.k, .int .i64 b.r, .slice B b.m.length d]
 have hB := ((Below.refl w.heap.size w).alloc (Nat.le_refl _) (Obj.cells #[.int .i64 a.k, .int .i64 a.r, .slice A a.m.length c] 44)).alloc (by simp) (Obj.cells #[.int .i64 b.k, .int .i64 b.r, .slice B b.m.length d] 44)
 go_enter Try.func25, Try.ntmps25
 go_upto_region 1 with fail
 have hs1 : (w.alloc (Obj.cells #[.int .i64 a.k, .int .i64 a.r, .slice A a.m.length c] 44)).heap.size = w.heap.size + 1 := by simp
 rw [hs1] at k2
 generalize World.alloc (World.alloc w _) _ = w2 at *
 generalize w.heap.size + 1 = G1 at *
 have x1 := k1.cell
 have x2 := k2.cell
 by_cases h1 : a.k = b.k
 case neg =>
  have HE : Hid ((decide (a.k = b.k) && decide (a.r = b.r) && decide (a.m = b.m)) = false) := Lib.hid (by rw [decide_eq_false h1]; rfl)
  have d1 : (a.k == b.k) = false := by simpa using h1
  clear h1
  go_wp2
  go_ret
  exact ⟨ret_bool HE.out.symm, hB⟩
 have d1 : (a.k == b.k) = true := by simpa using h1
 by_cases h2 : a.r = b.r
 case neg =>
  have HE : Hid ((decide (a.k = b.k) && decide (a.r = b.r) && decide (a.m = b.m)) = false) := Lib.hid (by rw [decide_eq_false h2]; simp)
  have d2 : (a.r == b.r) = false := by simpa using h2
  clear h1 h2
  go_wp2
  go_ret
  exact ⟨ret_bool HE.out.symm, hB⟩
 have d2 : (a.r == b.r) = true := by simpa using h2
 have HE : Hid ((decide (a.k = b.k) && decide (a.r = b.r) && decide (a.m = b.m)) = decide (a.m = b.m)) := Lib.hid (by rw [decide_eq_true h1, decide_eq_true h2]; rfl)
 clear h1 h2
 go_wp2_with fail
 refine (rsame6_any A B c d a.m b.m _ (ia.grows hB) (ib.grows hB) (by omega) (by omega)).mono ?_
 rintro e w3 ⟨rfl, hq⟩
 replace hB := below_grows hB (Nat.le_refl _) hq
 go_wp2
 go_ret
 exact ⟨ret_bool HE.out.symm, hB⟩
theorem samec_any {A B : Option Addr} {c d : Nat} {a b : Ch} {w : World} (ia : Ints w A a.m) (ib : Ints w B b.m) (ha : a.m.length ≤ 1000000) (hb : b.m.length ≤ 1000000) :
 Calls Try.prog 12 #[.agg #[.int .i64 a.k, .int .i64 a.r, .slice A a.m.length c, .int .i64 a.s], .agg #[.int .i64 b.k, .int .i64 b.r, .slice B b.m.length d, .int .i64 b.s]] w fun e w' => e = .returned (.bool (decide (a = b))) ∧ Grows w w' := by
 rw [← sameC_iff]
 have k1 := (Blk.new w 46 #[.int .i64 a.k, .int .i64 a.r, .slice A a.m.length c, .int .i64 a.s]).alloc (Obj.cells #[.int .i64 b.k, .int .i64 b.r, .slice B b.m.length d, .int .i64 b.s] 46)
 have k2 := Blk.new (w.alloc (Obj.cells #[.int .i64 a.k, .int .i64 a.r, .slice A a.m.length c, .int .i64 a.s] 46)) 46 #[.int .i64 b.k, .int .i64 b.r, .slice B b.m.length d, .int .i64 b.s]
 have hB := ((Below.refl w.heap.size w).alloc (Nat.le_refl _) (Obj.cells #[.int .i64 a.k, .int .i64 a.r, .slice A a.m.length c, .int .i64 a.s] 46)).alloc (by simp) (Obj.cells #[.int .i64 b.k, .int .i64 b.r, .slice B b.m.length d, .int .i64 b.s] 46)
 go_enter Try.func12, Try.ntmps12
 go_upto_region 1 with fail
 have hs1 : (w.alloc (Obj.cells #[.int .i64 a.k, .int .i64 a.r, .slice A a.m.length c, .int .i64 a.s] 46)).heap.size = w.heap.size + 1 := by simp
 rw [hs1] at k2
 generalize World.alloc (World.alloc w _) _ = w2 at *
 generalize w.heap.size + 1 = G1 at *
 have x1 := k1.cell
 have x2 := k2.cell
 by_cases h1 : a.s = b.s
 case neg =>
  have HE : Hid (sameC a b = false) := Lib.hid (by unfold sameC; rw [decide_eq_false h1]; rfl)
  have d1 : (a.s == b.s) = false := by simpa using h1
  clear h1
  go_wp2
  go_ret
  exact ⟨ret_bool HE.out.symm, hB⟩
 have d1 : (a.s == b.s) = true := by simpa using h1
 have HE : Hid (sameC a b = (decide (a.k = b.k) && decide (a.r = b.r) && decide (a.m = b.m))) := Lib.hid (by unfold sameC; rw [decide_eq_true h1]; rfl)
 clear h1
 go_wp2_with fail
 refine (samef_any (c := c) (d := d) (ia.grows hB) (ib.grows hB) ha hb).mono ?_
 rintro e w3 ⟨rfl, hq⟩
 replace hB := below_grows hB (Nat.le_refl _) hq
 go_wp2
 go_ret
 exact ⟨ret_bool HE.out.symm, hB⟩
end Go.Proofs.Ytjbkjgmcfommgaa

namespace Go.Proofs.Ytjbkjgmcfommgaa
open Go.RowKit
/-- How many of b's spans meet x. -/
def cutsN (x : Sp) (b : List Sp) : Nat := (b.filter fun y => decide (max x.1 y.1 ≤ min x.2 y.2)).length
def piecesN (a b : List Sp) : Nat := (a.map fun x => cutsN x b).sum
theorem cuts_len (x : Sp) (b : List Sp) : cutsN x b ≤ b.length := List.length_filter_le _ _
theorem cuts_next {x y : Sp} {b : List Sp} {k : Nat} (h : b[k]? = some y) : cutsN x (b.take (k + 1)) = cutsN x (b.take k) + (if max x.1 y.1 ≤ min x.2 y.2 then 1 else 0) := by
 unfold cutsN
 rw [take_snoc h, List.filter_append, List.length_append]
 congr 1
 by_cases h2 : max x.1 y.1 ≤ min x.2 y.2
 ·rw [if_pos h2, List.filter_cons_of_pos (by simpa using h2)]; rfl
 ·rw [if_neg h2, List.filter_cons_of_neg (by simpa using h2)]; rfl
theorem pieces_next {x : Sp} {a b : List Sp} {k : Nat} (h : a[k]? = some x) : piecesN (a.take (k + 1)) b = piecesN (a.take k) b + cutsN x b := by
 unfold piecesN
 rw [take_snoc h]
 simp
theorem pieces_len (a b : List Sp) : piecesN a b ≤ a.length * b.length := by
 unfold piecesN
 induction a with
 | nil => simp
 | cons x a ih =>
  have := cuts_len x b
  simp only [List.map_cons, List.sum_cons, List.length_cons]
  rw [Nat.add_mul]
  omega
theorem pieces_bd (a b : List Sp) (ha : a.length ≤ 1000000) (hb : b.length ≤ 1000000) : piecesN a b ≤ 1000000000000 := Nat.le_trans (pieces_len a b) (Nat.mul_le_mul ha hb)
set_option maxHeartbeats 8000000 in
theorem pieces_any (A B : Option Addr) (c d : Nat) (a b : List Sp) (w : World) (ha : Sps w A a) (hb : Sps w B b) (hl : a.length ≤ 1000000) (hl2 : b.length ≤ 1000000) :
 Calls Try.prog 83 #[.agg #[.slice A a.length c], .agg #[.slice B b.length d]] w fun e w' => e = .returned (.int .i64 (piecesN a b : Int)) ∧ Grows w w' := by
 have k2 := (Blk.new w 51 #[.slice A a.length c]).alloc (Obj.cells #[.slice B b.length d] 51)
 have k3 := Blk.new (w.alloc (Obj.cells #[.slice A a.length c] 51)) 51 #[.slice B b.length d]
 have hB := ((Below.refl w.heap.size w).alloc (Nat.le_refl _) (Obj.cells #[.slice A a.length c] 51)).alloc (by simp) (Obj.cells #[.slice B b.length d] 51)
 go_enter Try.func83, Try.ntmps83
 go_upto_region 2 with fail
 have hs1 : (w.alloc (Obj.cells #[.slice A a.length c] 51)).heap.size = w.heap.size + 1 := by simp
 rw [hs1] at k3
 generalize World.alloc (World.alloc w _) _ = w2 at *
 generalize w.heap.size + 1 = G1 at *
 have x2 := k2.cell 0
 have hB2 := hB
 clear hB
 go_wp2_with fail
 go_loopw [5, 13] (fun n i wr => ∃ (k z : Nat), k ≤ a.length ∧ i = .int .i64 k ∧ n = .int .i64 z ∧ Hid (piecesN (a.take k) b = z) ∧ Blk wr G1 51 #[.slice B b.length d] ∧ Below w.heap.size w wr) (fun _ i _ => a.length - (intOf i).toNat)
 case atStart => exact ⟨0, 0, by omega, rfl, rfl, Lib.hid rfl, k3, hB2⟩
 case round =>
  clear k3 x2 k2
  obtain ⟨k, z, hk, rfl, rfl, HZ, k3, hB⟩ := hrel
  by_cases hlt : k < a.length
  ·obtain ⟨ad, x, rfl, had, hx, q0, q1⟩ := (ha.grows hB).elem hlt
   have HX := Lib.hid (pieces_next (b := b) hx)
   have hzb := pieces_bd (a.take k) b (by rw [List.length_take]; omega) hl2
   rw [HZ.out] at hzb
   clear hx
   have k7 := Blk.new wr 74 #[.int .i64 x.1, .int .i64 x.2]
   have hq := (Below.refl wr.heap.size wr).alloc (Nat.le_refl _) (Obj.cells #[.int .i64 x.1, .int .i64 x.2] 74)
   go_upto_region 5 with fail
   replace hB := below_grows hB (Nat.le_refl _) hq
   replace k3 := k3.grows hq
   have l7 : G1 < wr.heap.size ∨ True := .inr trivial
   clear hq q0 q1 l7
   generalize World.alloc wr _ = w5 at *
   generalize wr.heap.size = G7 at *
   have x3 := k3.cell 0
   have hB5 := hB
   clear hB
   go_wp2_with fail
   go_loopw [5, 20] (fun n i wq => ∃ (j y : Nat), j ≤ b.length ∧ i = .int .i64 j ∧ n = .int .i64 ((z : Int) + (y : Int)) ∧ Hid (cutsN x (b.take j) = y) ∧ Blk wq G7 74 #[.int .i64 x.1, .int .i64 x.2] ∧ Blk wq G1 51 #[.slice B b.length d] ∧ Below w.heap.size w wq) (fun _ i _ => b.length - (intOf i).toNat)
   case atStart => exact ⟨0, 0, by omega, rfl, by simp, Lib.hid rfl, k7, k3, hB5⟩
   case round =>
    clear k7 k3 x3 hB5
    obtain ⟨j, y, hj, rfl, rfl, HY, k7, k3, hB⟩ := hrel
    by_cases hlt2 : j < b.length
    ·obtain ⟨ad2, v, rfl, had2, hv, q2, q3⟩ := (hb.grows hB).elem hlt2
     have HV := Lib.hid (cuts_next (x := x) hv)
     have hyb := cuts_len x (b.take j)
     rw [HY.out, List.length_take] at hyb
     clear hv
     have k9 := Blk.new wr 74 #[.int .i64 v.1, .int .i64 v.2]
     have hq := (Below.refl wr.heap.size wr).alloc (Nat.le_refl _) (Obj.cells #[.int .i64 v.1, .int .i64 v.2] 74)
     go_upto_region 8 with fail
     replace hB := below_grows hB (Nat.le_refl _) hq
     replace k3 := k3.grows hq
     replace k7 := k7.grows hq
     clear hq q2 q3
     generalize World.alloc wr _ = w9 at *
     generalize wr.heap.size = G9 at *
     have x7 := k7.cell
     have x9 := k9.cell
     refine wp_region_lit ?_
     iterate 4
      refine wpList_plain rfl (fun K hK => ?_)
      go_simp
      refine hK _ _ ?_
      clear hK K
     refine wpList_max2 rfl (.tmp 25) (.tmp 27) _ rfl .i64 _ _ rfl rfl ?_
     iterate 4
      refine wpList_plain rfl (fun K hK => ?_)
      go_simp
      refine hK _ _ ?_
      clear hK K
     refine wpList_min2 rfl (.tmp 30) (.tmp 32) _ rfl .i64 _ _ rfl rfl ?_
     generalize max x.1 v.1 = mx at *
     generalize min x.2 v.2 = mn at *
     by_cases hm : mx ≤ mn
     ·have HE : Hid (cutsN x (b.take (j + 1)) = y + 1) := Lib.hid (by rw [HV.out, HY.out, if_pos hm])
      have d1 : decide (mx ≤ mn) = true := by simpa using hm
      have hwz : IntKind.i64.wrap ((z : Int) + (y : Int) + 1) = (z : Int) + (y : Int) + 1 := IntWalk.i64_in _ (by omega)
      clear hm HV
      go_wp2
      go_roundw
      case rel => exact ⟨j + 1, y + 1, by omega, by go_num, congrArg (Value.int .i64) (by omega), HE, k7, k3, hB⟩
      case measure => simp [intOf]; omega
     ·have HE : Hid (cutsN x (b.take (j + 1)) = y) := Lib.hid (by rw [HV.out, HY.out, if_neg hm, Nat.add_zero])
      have d1 : decide (mx ≤ mn) = false := by simpa using hm
      clear hm HV
      go_wp2
      go_roundw
      case rel => exact ⟨j + 1, y, by omega, by go_num, rfl, HE, k7, k3, hB⟩
      case measure => simp [intOf]; omega
    ·have HE : Hid (piecesN (a.take (k + 1)) b = z + y) := Lib.hid (by rw [HX.out, HZ.out]; have := HY.out; rw [List.take_of_length_le (by omega)] at this; rw [this])
     go_wp2
     go_roundw
     case rel => exact ⟨k + 1, z + y, by omega, by go_num, congrArg (Value.int .i64) (by omega), HE, k3, hB⟩
     case measure => simp [intOf]; omega
  ·have HE : Hid (piecesN a b = z) := Lib.hid (by have := HZ.out; rwa [List.take_of_length_le (by omega)] at this)
   go_wp2
   go_ret
   rw [HE.out]
   exact ⟨rfl, hB⟩
end Go.Proofs.Ytjbkjgmcfommgaa

namespace Go.Proofs.Ytjbkjgmcfommgaa
open Go.RowKit
def ones (n : Int) : Int := (Lib.onesCount n.toNat : Int)
set_option maxRecDepth 4000 in
theorem ones64_any (n : Nat) (w : World) (h : n < 16) : Calls Try.prog 59 #[.int .u64 (n : Int)] w fun e w' => e = .returned (.int .i64 (Lib.onesCount n : Int)) ∧ Grows w w' := by
 have hB := Below.refl w.heap.size w
 go_enter Try.func59, Try.ntmps59
 go_wp2
 go_ret
 refine ⟨ret_int ?_, hB⟩
 clear hB
 match n, h with
 | 0, _ => decide +kernel
 | 1, _ => decide +kernel
 | 2, _ => decide +kernel
 | 3, _ => decide +kernel
 | 4, _ => decide +kernel
 | 5, _ => decide +kernel
 | 6, _ => decide +kernel
 | 7, _ => decide +kernel
 | 8, _ => decide +kernel
 | 9, _ => decide +kernel
 | 10, _ => decide +kernel
 | 11, _ => decide +kernel
 | 12, _ => decide +kernel
 | 13, _ => decide +kernel
 | 14, _ => decide +kernel
 | 15, _ => decide +kernel
 | n + 16, h => exact absurd h (by omega)
theorem ones_any (x : Int) (w : World) (h0 : 0 ≤ x) (h1 : x ≤ 15) : Calls Try.prog 36 #[.int .u64 x] w fun e w' => e = .returned (.int .i64 (ones x)) ∧ Grows w w' := by
 obtain ⟨n, rfl⟩ : ∃ n : Nat, x = (n : Int) := ⟨x.toNat, by omega⟩
 go_enter Try.func36, Try.ntmps36
 go_wp2_with fail
 refine (ones64_any n _ (by omega)).mono ?_
 rintro e w2 ⟨rfl, hq⟩
 go_wp2
 go_ret
 exact ⟨rfl, hq⟩
end Go.Proofs.Ytjbkjgmcfommgaa

namespace Go.Proofs.Ytjbkjgmcfommgaa
open Go.RowKit
section
variable {P : Program} {ops : Array Oper} {S : Ran → (Nat → Value) → World → Prop} {md : Region.Mode} {n N : Nat} {a0 : Act}
set_option maxRecDepth 100000 in
theorem listed_lt {listed : Array Bool} (hinv : HeadInv md ops n listed) {k : Nat} {o : Oper} (ho : ops[k]? = some o) (hl : listed.getD k false = true) : k < n := by
 rcases Nat.lt_or_ge k n with h | h
 ·exact h
 ·have := getD_both (hinv.tail k h (lt_of_get ho))
  rw [hl] at this
  cases this
set_option maxRecDepth 100000 in
theorem gent_agree (ok : MixOk md ops n N []) (hN : a0.tmps.size = N) {vs : Nat → Value} {listed : Array Bool} {a : Act} {w : World} (hinv : HeadInv md ops n listed) (inv : InvG S ops vs a0 listed a w) {i : Nat} {o : Oper} (hi : i < n) (ho : ops[i]? = some o) (hr : i ∈ Region.ready md ops listed) :
 ∀ t ∈ o.looksAt ops, (fin [] vs (ops.toList.take i) 0 a0).tmps[t]? = a.tmps[t]? := by
 intro t ht
 by_cases hex : ∃ (k : Nat) (o' : Oper), k < n ∧ ops[k]? = some o' ∧ o'.dst = some t
 ·obtain ⟨k, o', hk, ho', hd⟩ := hex
  obtain ⟨h1, _, h3⟩ := ok.look i o k o' t hi hk ho ho' hd ht
  have hlisted : listed.getD k false = true := by
   obtain ⟨oj, hoj, e, he, hb, hon⟩ := Region.waitsFor_spec h3
   obtain ⟨_, oi, hoi, hall⟩ := mem_ready.1 hr
   have : oj = oi := Option.some.inj (hoj.symm.trans hoi)
   subst this
   have := hall e he hb
   rwa [hon] at this
  have e1 := inv.calm k o' t ho' hd hlisted
  have hlt : t < a0.tmps.size := by rw [hN]; exact ok.bd k o' t hk ho' hd
  have e2 := fin_at (fl := []) (val := vs) (ops.toList.take i) 0 a0 k o' (take_get h1 ho') hd rfl hlt (by
   intro j oj hj hne hdj
   obtain ⟨hji, hoj⟩ := of_take_get hj
   exact ok.ne j oj k o' t (by omega) hk hoj ho' (Ne.symm hne) hdj hd)
  rw [Nat.zero_add] at e2
  rw [e1, e2]
 ·have e1 := inv.other t fun k o' ho' hl hd => hex ⟨k, o', listed_lt hinv ho' hl, ho', hd⟩
  have e2 := fin_other (fl := []) (val := vs) (ops.toList.take i) 0 a0 fun j oj hj _ hd => by
   obtain ⟨hji, hoj⟩ := of_take_get hj
   exact hex ⟨j, oj, by omega, hoj, hd⟩
  rw [e1, e2]
set_option maxRecDepth 100000 in
theorem inv_stepT (ok : MixOk md ops n N []) (hN : a0.tmps.size = N) {vs : Nat → Value} {listed : Array Bool} {a : Act} {w w' : World} (hinv : HeadInv md ops n listed) (inv : InvG S ops vs a0 listed a w) {i : Nat} {o : Oper} (hi : i < n) (ho : ops[i]? = some o) (hl : i < listed.size) {u : Value}
 (hs : S (ranOf (listed.setIfInBounds i true)) (setV vs i u) w') : InvG S ops (setV vs i u) a0 (listed.setIfInBounds i true) (a.put o.dst u) w' := by
 have key : ∀ k o' t, k < n → ops[k]? = some o' → o'.dst = some t → k ≠ i → (a.put o.dst u).tmps[t]? = a.tmps[t]? := by
  intro k o' t hk ho' hd hne
  exact put_get_ne fun e => ok.ne i o k o' t hi hk ho ho' hne e hd
 refine ⟨hs, (put_defers' _ _ _).trans inv.defers, (put_size _ _ _).trans inv.size, ?_, ?_⟩
 ·intro k o' t ho' hd hlk
  by_cases hki : k = i
  ·subst hki
   have : o' = o := Option.some.inj (ho'.symm.trans ho)
   subst this
   rw [hd, put_get_eq (by rw [inv.size, hN]; exact ok.bd k o' t hi ho' hd)]
   simp [setV]
  ·have hlk' : listed.getD k false = true := by rwa [getD_set_ne false (Ne.symm hki)] at hlk
   rw [key k o' t (listed_lt hinv ho' hlk') ho' hd hki, inv.calm k o' t ho' hd hlk']
   simp [setV, hki]
 ·intro t ht
  have h1 : o.dst ≠ some t := ht i o ho (by simp [hl])
  rw [put_get_ne h1]
  exact inv.other t fun k o' ho' hlk => ht k o' ho' (getD_set_true hlk)
set_option maxRecDepth 100000 in
theorem gent_run {Q : Exit → Act → World → Prop} (ok : MixOk md ops n N []) (hN : a0.tmps.size = N)
 (good : ∀ k o, k < n → ops[k]? = some o → ∀ vs L w, At md ops k L → S L vs w → GenOp P ops S k o (fin [] vs (ops.toList.take k) 0 a0) vs L w) (g : Nat)
 (H : ∀ listed a w vs, HeadInv md ops n listed → (∀ i, i < n → listed.getD i false = true) → InvG S ops vs a0 listed a w → wpAny P md ops Q g listed a w) :
 ∀ (f : Nat) (listed : Array Bool) (a : Act) (w : World) (vs : Nat → Value), ((List.range n).countP fun i => !listed.getD i false) ≤ f → HeadInv md ops n listed → InvG S ops vs a0 listed a w →
  wpAny P md ops Q (f + g) listed a w := by
 intro f
 induction f with
 | zero =>
  intro listed a w vs hc hinv inv
  rw [Nat.zero_add]
  refine H listed a w vs hinv (fun i hi => ?_) inv
  have h0 : ((List.range n).countP fun i => !listed.getD i false) = 0 := by omega
  rw [List.countP_eq_zero] at h0
  have := h0 i (List.mem_range.2 hi)
  simpa using this
 | succ f ih =>
  intro listed a w vs hc hinv inv
  by_cases hall : ∀ i, i < n → listed.getD i false = true
  ·exact wpAny_fuel g listed a w (H listed a w vs hinv hall inv) (f + 1)
  ·have hex : ∃ i, i < n ∧ listed.getD i false = false := by
    apply Classical.byContradiction
    intro hno
    exact hall fun i hi => by
     cases h : listed.getD i false
     ·exact absurd ⟨i, hi, h⟩ hno
     ·rfl
   obtain ⟨i0, hi0, hl0⟩ := hex
   have hsz : ∀ i, i < n → i < listed.size := fun i hi => by rw [hinv.size]; have := ok.le; omega
   have hready : Region.ready md ops listed ≠ [] := by
    have : ∀ d i, i ≤ d → i < n → listed.getD i false = false → ∃ j, j ∈ Region.ready md ops listed := by
     intro d
     induction d with
     | zero =>
      intro i hid hi hl
      obtain ⟨o, ho⟩ : ∃ o, ops[i]? = some o := ⟨ops[i]'(by have := ok.le; omega), by simp [show i < ops.size by have := ok.le; omega]⟩
      refine ⟨i, mem_ready.2 ⟨getD_in (hsz i hi) hl, o, ho, fun e he hb => ?_⟩⟩
      have := ok.back i o hi ho e he hb
      omega
     | succ d ihd =>
      intro i hid hi hl
      obtain ⟨o, ho⟩ : ∃ o, ops[i]? = some o := ⟨ops[i]'(by have := ok.le; omega), by simp [show i < ops.size by have := ok.le; omega]⟩
      by_cases hw : ∀ e ∈ o.after, Region.binds md e = true → listed.getD e.on false = true
      ·exact ⟨i, mem_ready.2 ⟨getD_in (hsz i hi) hl, o, ho, hw⟩⟩
      ·have : ∃ e ∈ o.after, Region.binds md e = true ∧ listed.getD e.on false = false := by
        apply Classical.byContradiction
        intro hno
        exact hw fun e he hb => by
         cases h : listed.getD e.on false
         ·exact absurd ⟨e, he, hb, h⟩ hno
         ·rfl
       obtain ⟨e, he, hb, hle⟩ := this
       have hlt := ok.back i o hi ho e he hb
       exact ihd e.on (by omega) (by omega) hle
    obtain ⟨j, hj⟩ := this i0 i0 (Nat.le_refl _) hi0 hl0
    intro h0
    rw [h0] at hj
    cases hj
   rw [show f + 1 + g = (f + g) + 1 by omega]
   refine ⟨fun h0 => absurd h0 hready, fun i hir => ?_⟩
   have hin : i < n := by
    rcases Nat.lt_or_ge i n with h | h
    ·exact h
    ·exfalso
     obtain ⟨_, oi, hoi, _⟩ := mem_ready.1 hir
     have hlt : i < ops.size := (Array.getElem?_eq_some_iff.1 hoi).1
     rcases ok.tail with ht | ⟨ht, hs, hch⟩
     ·omega
     ·exact tail_waits hs hch ht hinv _ i0 rfl hi0 (getD_in (hsz i0 hi0) hl0) i h hir
   obtain ⟨hun, o, ho, hwaits⟩ := mem_ready.1 hir
   have hunf : listed.getD i false = false := getD_both hun
   have hcnt : ((List.range n).countP fun j => !(listed.setIfInBounds i true).getD j false) ≤ f := by
    have := countP_lt (p := fun j => !listed.getD j false) (q := fun j => !(listed.setIfInBounds i true).getD j false) (List.range n) (List.mem_range.2 hin)
     (fun j _ hj => by
       simp only [Bool.not_eq_true'] at hj ⊢
       cases h : listed.getD j false
       ·rfl
       ·rw [getD_set_true h] at hj; cases hj) (by simp only [hunf, Bool.not_false]) (by simp [hsz i hin])
    omega
   have hinv' := hinv.set hir hin
   have hat : At md ops i (ranOf listed) := ⟨hunf, needs_ran hinv _ i o ho hwaits⟩
   have hag := gent_agree ok hN hinv inv hin ho hir
   have hg := good i o hin ho vs (ranOf listed) w hat inv.s
   have hs : ∀ cs b, o.op ≠ .select cs b := fun cs b => Region.noSelect_spec ok.sel i o cs b ho
   unfold GenOp at hg
   rw [run_agree (ops := ops) hs hag, wanted_agree hag] at hg
   refine gen_wpOp ho hg fun u w' hs' => ih _ _ _ _ hcnt hinv' (inv_stepT ok hN hinv inv hin ho (hsz i hin) ?_)
   rw [ranOf_set (hsz i hin)]
   exact hs'
end
def GenT (P : Program) (full : List Oper) (n : Nat) (S : Ran → (Nat → Value) → World → Prop) (E : Act → World → Prop) : List Oper → Nat → ((Nat → Value) → Act) → Prop
 | [], _, A => ∀ vs L w', (∀ k, k < n → L k = true) → S L vs w' → E (A vs) w'
 | o :: l, k, A => (∀ vs L w, At .any full.toArray k L → S L vs w → GenOp P full.toArray S k o (A vs) vs L w) ∧ GenT P full n S E l (k + 1) (fun vs => (A vs).put o.dst (vs k))
set_option maxRecDepth 100000 in
theorem genT_out {P : Program} {full : List Oper} {n : Nat} {S : Ran → (Nat → Value) → World → Prop} {E : Act → World → Prop} : ∀ (l : List Oper) (k : Nat) (A : (Nat → Value) → Act), GenT P full n S E l k A →
 (∀ j o, l[j]? = some o → ∀ vs L w, At .any full.toArray (k + j) L → S L vs w → GenOp P full.toArray S (k + j) o (fin [] vs (l.take j) k (A vs)) vs L w) ∧ ∀ vs L w', (∀ k, k < n → L k = true) → S L vs w' → E (fin [] vs l k (A vs)) w'
 | [], _, _, h => ⟨fun j o hj => by simp at hj, h⟩
 | o :: l, k, A, h => by
  obtain ⟨h1, h2⟩ := genT_out l (k + 1) _ h.2
  refine ⟨fun j o' hj => ?_, h2⟩
  cases j with
  | zero =>
   simp only [List.getElem?_cons_zero, Option.some.injEq] at hj
   subst hj
   exact h.1
  | succ j =>
   have := h1 j o' (by simpa using hj)
   rw [show k + 1 + j = k + (j + 1) by omega] at this
   exact this
set_option maxRecDepth 100000 in
theorem wp_region_genT {P : Program} {id : Nat} {Q : Exit → Act → World → Prop} {a : Act} {w : World} {l : List Oper} (S : Ran → (Nat → Value) → World → Prop) (n N : Nat) (hm : P.follows .mixedOrders = true) (hB : mixB .any l.toArray n N [] = true)
 (hN : a.tmps.size = N) (h0 : S (fun _ => false) (fun _ => undef) w.drew)
 (h : GenT P l n S (fun a' w' => wpList P l.toArray Q (l.drop n) a' w') (l.take n) 0 (fun _ => a)) : (Code.region id l.toArray true).wp P Q a w := by
 have ok := mixOk_of hB
 have hle : n ≤ l.length := by simpa using ok.le
 obtain ⟨h1, h2⟩ := genT_out (l.take n) 0 _ h
 refine wp_region_any hm ?_
 have inv0 : HeadInv .any l.toArray n (Array.replicate l.toArray.size false) :=
  ⟨by simp, fun j oj _ hl => (by rw [getD_replicate_false] at hl; cases hl), fun t _ ht => getD_in (by simpa using ht) (getD_replicate_false _ _)⟩
 have key := gent_run (md := .any) (Q := Q) (ops := l.toArray) (S := S) (a0 := a) ok hN (fun k o hk ho vs L w' hL hS => by
  have := h1 k o (by rw [List.getElem?_take, if_pos hk]; simpa using ho) vs L w'
  rw [Nat.zero_add, List.take_take, Nat.min_eq_left (by omega)] at this
  exact this hL hS) (l.length - n) (by
  intro listed b w' vs hinv hall inv
  refine (show l.length - n = (l.drop n).length by simp) ▸ wpAny_of_seq (l.drop n) n listed b w' (fun j => by simp [List.getElem?_drop]) ?_ ?_
  ·have hls : listed = (Array.replicate n true) ++ (Array.replicate (l.length - n) false) := by
    refine Array.ext (by simp [hinv.size]; omega) fun i h1 h2 => ?_
    have hsz : i < l.length := by have := hinv.size; simp at this; omega
    by_cases hin : i < n
    ·have := hall i hin
     rw [Array.getElem_append_left (by simpa using hin)]
     simpa [h1] using this
    ·have := hinv.tail i (by omega) (by simpa using hsz)
     rw [Array.getElem_append_right (by simp; omega)]
     simpa [h1] using this
   have := ok.seq
   rw [hls]
   simpa using this
  ·have he : b = fin [] vs (l.take n) 0 a := by
    refine act_ext (inv.defers.trans (fin_defers _ _ _).symm) (inv.size.trans (fin_size _ _ _).symm) fun t => ?_
    by_cases hex : ∃ (k : Nat) (o' : Oper), k < n ∧ l.toArray[k]? = some o' ∧ o'.dst = some t
    ·obtain ⟨k, o', hk, ho', hd⟩ := hex
     have e1 := inv.calm k o' t ho' hd (hall k hk)
     have e2 := fin_at (fl := []) (val := vs) (l.take n) 0 a k o' (by rw [List.getElem?_take, if_pos hk]; simpa using ho') hd rfl (by rw [hN]; exact ok.bd k o' t hk ho' hd) (by
      intro j oj hj hne hdj
      rw [List.getElem?_take] at hj
      split at hj
      ·rename_i hjn
       exact ok.ne j oj k o' t hjn hk (by simpa using hj) ho' (Ne.symm hne) hdj hd
      ·cases hj)
     rw [Nat.zero_add] at e2
     rw [e1, e2]
    ·have e1 := inv.other t fun k o' ho' hl hd => hex ⟨k, o', listed_lt hinv ho' hl, ho', hd⟩
     have e2 := fin_other (fl := []) (val := vs) (t := t) (l.take n) 0 a fun j oj hj _ hd => by
      rw [List.getElem?_take] at hj
      split at hj
      ·rename_i hjn
       exact hex ⟨j, oj, hjn, by simpa using hj, hd⟩
      ·cases hj
     rw [e1, e2]
   rw [he]
   exact h2 vs (ranOf listed) w' hall inv.s)
 have := key n (Array.replicate l.toArray.size false) a w.drew (fun _ => undef) (by
  have := List.countP_le_length (p := fun i => !(Array.replicate l.toArray.size false).getD i false) (l := List.range n)
  simpa using this) inv0 ⟨by rw [show ranOf (Array.replicate l.toArray.size false) = fun _ => false from funext fun k => getD_replicate_false _ _]; exact h0, rfl, rfl, fun k o t _ _ hl => (by rw [getD_replicate_false] at hl; cases hl), fun t _ => rfl⟩
 rw [show n + (l.length - n) = l.toArray.size by simp; omega] at this
 exact this
section
variable {P : Program} {full l : List Oper} {S : Ran → (Nat → Value) → World → Prop} {E : Act → World → Prop} {o : Oper} {k n : Nat} {A A' : (Nat → Value) → Act}
set_option maxRecDepth 100000 in
theorem gent_cons (hc : ∀ vs L w, At .any full.toArray k L → S L vs w → GenOp P full.toArray S k o (A vs) vs L w) (hA : ∀ vs, (A vs).put o.dst (vs k) = A' vs) (h : GenT P full n S E l (k + 1) A') : GenT P full n S E (o :: l) k A := by
 obtain rfl : (fun vs => (A vs).put o.dst (vs k)) = A' := funext hA
 exact ⟨hc, h⟩
set_option maxRecDepth 100000 in
theorem gent_consR (hc : ∀ vs L w, At .any full.toArray k L → S L vs w → GenOp P full.toArray S k o (A vs) vs L w) (h : GenT P full n S E l (k + 1) A') (hA : ∀ vs, (A vs).put o.dst (vs k) = A' vs := by intro vs; simp only [Act.put, List.setIfInBounds_toArray, List.set_cons_succ, List.set_cons_zero]; rfl) : GenT P full n S E (o :: l) k A := gent_cons hc hA h
set_option maxRecDepth 100000 in
theorem gent_nil (h : ∀ vs L w', (∀ k, k < n → L k = true) → S L vs w' → E (A vs) w') : GenT P full n S E [] k A := h
end
end Go.Proofs.Ytjbkjgmcfommgaa

namespace Go.Proofs.Ytjbkjgmcfommgaa
open Go.RowKit
set_option maxRecDepth 100000
/-- A span put into a row that is in order, behind those that begin no later. -/
theorem put_sorted {p q : List Sp} {x : Sp} (h : (p ++ q).Pairwise (fun x y => x.1 ≤ y.1)) (hp : ∀ y ∈ p, y.1 ≤ x.1) (hq : ∀ y ∈ q, x.1 ≤ y.1) : (p ++ [x] ++ q).Pairwise (fun x y => x.1 ≤ y.1) := by
 rw [List.append_assoc, List.pairwise_append]
 rw [List.pairwise_append] at h
 refine ⟨h.1, List.pairwise_cons.2 ⟨hq, h.2.1⟩, fun a ha b hb => ?_⟩
 rcases List.mem_cons.1 hb with rfl | hb
 ·exact hp a ha
 ·exact h.2.2 a ha b hb
theorem put_perm {p q t : List Sp} {x : Sp} (h : (p ++ q).Perm t) : (p ++ [x] ++ q).Perm (t ++ [x]) := by
 refine ((List.perm_append_comm (l₁ := p) (l₂ := [x])).append_right q).trans ?_
 rw [List.append_assoc]
 exact (List.perm_append_comm).trans (List.Perm.append_right _ h)
theorem gr_append_sp {o : Oper} {ev : Operand → Value} {w : World} {T : Value → World → Prop} (s x : Operand) (ho : o.op = .call { callee := .builtin .append, args := #[s, x], argTypes := #[49, 49] })
 {base : Nat} {v : Value} {l m : List Sp} {A : Option Addr} {c n : Nat} (hn : n = m.length) (hs : ev s = v) (hown : Own w base v l) (hx : ev x = .slice A n c) (hr : Sps w A m) (hlen : l.length + m.length ≤ 1000000) (hbase : base ≤ w.heap.size)
 (h : ∀ v' w', Own w' base v' (l ++ m) → w.grownBy w' v.ownBlock → T v' w') : genR Try.prog T ((execOp ev o).run Try.prog w) := by
 obtain ⟨i0, hi0, hi1, hi2, hi3, hi4⟩ := sinfo
 subst hn
 obtain ⟨v', w', hrun, h2, h3, h4⟩ := run_append_any (P := Try.prog) w base 49 o.type 74 i0 _ 2 16 Try.underlying49 hi0 hi3 hi1 hi2 hi4 (by omega) v l.length (scells l) hown w.heap.size A m.length c (scells m) hr (scells_one m) (by simp only [maxLen]; omega) (by omega) hbase
 unfold execOp
 simp only [ho, resolve, invoke, builtin, Sem.run_bind, Sem.run_pure, Result.andThen_ok, List.map_toArray, List.map_cons, List.map_nil, hs, hx, hrun]
 refine h v' w' ?_ h3
 unfold Own
 rw [scells_append, List.length_append]
 exact h2
set_option maxHeartbeats 16000000 in
theorem joined_any (A : Option Addr) (c : Nat) (l : List Sp) (w : World) (h : Sps w A l) (hl : l.length ≤ 10000) (hf : ∀ x ∈ l, fineS x = true) :
 Calls Try.prog 72 #[.slice A l.length c] w fun e w' => (∃ v, e = .returned v ∧ Own w' w.heap.size v (formS l)) ∧ Grows w w' := by
 go_enter Try.func72, Try.ntmps72
 go_wp2_with fail
 go_loopw [3, 13] (fun v i wr => ∃ (k : Nat) (d : List Sp), k ≤ l.length ∧ i = .int .i64 k ∧ d.Perm (l.take k) ∧ d.Pairwise (fun x y => x.1 ≤ y.1) ∧ Own wr w.heap.size v d ∧ Grows w wr) (fun _ i _ => l.length - (intOf i).toNat)
 case atStart => exact ⟨0, [], by omega, rfl, List.Perm.refl _, List.Pairwise.nil, own_nil _ _, Below.refl _ _⟩
 case round =>
  obtain ⟨k, d, hk, rfl, hp, hs, hown, hB⟩ := hrel
  have HPL := Lib.hid (show d.length = k by rw [hp.length_eq, List.length_take]; omega)
  by_cases hlt : k < l.length
  ·obtain ⟨ad, x, rfl, had, hx, c0, c1⟩ := (h.grows hB).elem hlt
   have HT : Hid (l.take (k + 1) = l.take k ++ [x]) := take_snoc hx
   have hxf := (fineS_iff x).1 (hf x (List.mem_of_getElem? hx))
   clear hx
   obtain ⟨A3, c3, rfl, hc3, hin, -⟩ := hown.read
   have k6 := Blk.new wr 74 #[.int .i64 x.1, .int .i64 x.2]
   have hq := (Below.refl wr.heap.size wr).alloc (Nat.le_refl _) (Obj.cells #[.int .i64 x.1, .int .i64 x.2] 74)
   replace hB := below_grows hB (Nat.le_refl _) hq
   replace hin := hin.grows hq
   have hdl : d.length ≤ 10000 := by have := HPL.out; omega
   clear hown
   go_upto_region 6 with fail
   clear c0 c1 hq
   generalize World.alloc wr _ = W0 at *
   generalize wr.heap.size = G6 at *
   have e0 := k6.cell 0
   have e1 := k6.cell 1
   go_loopw [7] (fun i W => ∃ m : Nat, m ≤ d.length ∧ i = .int .i64 m ∧ (∀ y ∈ d.drop m, x.1 ≤ y.1) ∧ Grows W0 W) (fun i _ => (intOf i).toNat)
   case atStart => exact ⟨d.length, Nat.le_refl _, rfl, by simp, Below.refl _ _⟩
   case round =>
    obtain ⟨m, hmd, rfl, hgt, hg⟩ := hrel
    have hg0 := hg
    replace hB := below_grows hB (Nat.le_refl _) hg
    replace hin := hin.grows hg
    replace k6 := k6.grows hg
    clear e0 e1 hg
    have e0 := k6.cell 0
    have e1 := k6.cell 1
    by_cases h0 : m = 0
    ·have hpos : decide ((0 : Int) < (m : Int)) = false := decide_eq_false (by omega)
     have hposN : ¬ 0 < m := by omega
     have HLE : Hid (∀ z ∈ d.take m, z.1 ≤ x.1) := Lib.hid (fun z hz => by rw [h0] at hz; simp at hz)
     clear h0
     go_upto_region 6 with fail
     go_region
     clear hpos hposN
     have hg := Grows.drew' wr
     generalize World.drew _ = W at *
     replace hB := below_grows hB (Nat.le_refl _) hg
     replace hin := hin.grows hg
     replace k6 := k6.grows hg
     clear e0 e1 hg
     have hdec : d.take m ++ d.drop m = d := List.take_append_drop _ _
     have HSO := Lib.hid (put_sorted (by rw [hdec]; exact hs) HLE.out hgt)
     have HPE := Lib.hid (put_perm (x := x) (t := l.take k) (by rw [hdec]; exact hp))
     clear HLE hdec hgt hs hp
     have hmc : m ≤ c3 := by omega
     go_upto_region 8 with fail
     obtain ⟨S, HI, HO⟩ := hideS fun (L : Ran) (vs : Nat → Value) (w' : World) => Grows W w' ∧ KnS [some (.slice A3 d.length c3), some (.int .i64 m), some (.slice A3 m c3), none, some (.agg #[.int .i64 x.1, .int .i64 x.2]), none, none, some (.slice A3 d.length c3), some (.int .i64 m), some (.slice (if c3 = m then A3 else A3.map (fun x => x.add (m * 2))) (d.length - m) (c3 - m)), none] L vs ∧ (L 3 = true → L 6 = false → Own w' W.heap.size (vs 3) (d.take m)) ∧ (L 5 = true → L 6 = false → ∃ gb, vs 5 = .slice (some ⟨gb, 0, none⟩) 1 1 ∧ Sps w' (some ⟨gb, 0, none⟩) [x]) ∧ (L 6 = true → L 10 = false → Own w' W.heap.size (vs 6) (d.take m ++ [x])) ∧ (L 10 = true → Own w' W.heap.size (vs 10) (d.take m ++ [x] ++ d.drop m)) ∧ (L 6 = true → L 3 = true ∧ L 5 = true) ∧ (L 10 = true → L 6 = true)
     refine wp_region_genT S 11 86 (by kernel_rfl) (by kernel_rfl) rfl ?_ ?_
     ·exact HI.out _ _ _ ⟨Grows.drew' _, kn_none _ _, (fun h => by cases h), (fun h => by cases h), (fun h => by cases h), (fun h => by cases h), (fun h => by cases h), (fun h => by cases h)⟩
     simp only [List.take_succ_cons, List.take_zero, List.drop_succ_cons, List.drop_zero]
     refine gent_consR (fun vs L w1 hL hw1 => ?_) ?_
     ·obtain ⟨q0, q1, q3, q5, q6, qa, h6, ha⟩ := HO.out _ _ _ hw1
      refine gen_plain rfl ?_
      go_simp
      exact gr_val (HI.out _ _ _ ⟨q0, kn_known q1 rfl, q3, q5, q6, qa, h6, ha⟩)
     refine gent_consR (fun vs L w1 hL hw1 => ?_) ?_
     ·obtain ⟨q0, q1, q3, q5, q6, qa, h6, ha⟩ := HO.out _ _ _ hw1
      refine gen_plain rfl ?_
      go_simp
      exact gr_val (HI.out _ _ _ ⟨q0, kn_known q1 rfl, q3, q5, q6, qa, h6, ha⟩)
     refine gent_consR (fun vs L w1 hL hw1 => ?_) ?_
     ·obtain ⟨q0, q1, q3, q5, q6, qa, h6, ha⟩ := HO.out _ _ _ hw1
      have l0 : L 0 = true := hL.need 0 (by kernel_rfl)
      have e0 := q1 0 _ rfl l0
      have l1 : L 1 = true := hL.need 1 (by kernel_rfl)
      have e1 := q1 1 _ rfl l1
      refine gen_plain rfl ?_
      simp only [e0, e1]
      go_simp
      exact gr_val (HI.out _ _ _ ⟨q0, kn_known q1 rfl, q3, q5, q6, qa, h6, ha⟩)
     refine gent_consR (fun vs L w1 hL hw1 => ?_) ?_
     ·obtain ⟨q0, q1, q3, q5, q6, qa, h6, ha⟩ := HO.out _ _ _ hw1
      have n3 : L 3 = false := hL.1
      have n6 : L 6 = false := by
       cases h : L 6
       ·rfl
       ·rw [(h6 h).1] at n3; cases n3
      have n10 : L 10 = false := by
       cases h : L 10
       ·rfl
       ·rw [ha h] at n6; cases n6
      have l2 : L 2 = true := hL.need 2 (by kernel_rfl)
      have e2 := q1 2 _ rfl l2
      refine gen_plain rfl ?_
      refine gr_append_sp (.const (.slice none 0 0)) (.tmp 36) rfl (m := d.take m) (by rw [List.length_take]; omega) rfl (own_nil w1 W.heap.size) e2 (sps_take (hin.grows q0) m) (by simp only [List.length_nil, List.length_take]; omega) q0.size ?_
      intro v3 w3 o3 g3
      have hg : Grows w1 w3 := (Below.refl _ _).grown g3 (Nat.le_refl _) (fun q hq => by cases hq)
      exact HI.out _ _ _ ⟨below_grows q0 (Nat.le_refl _) hg, kn_free q1 rfl, fun _ _ => o3, (fun h h0 => by obtain ⟨gb, e, s⟩ := q5 h h0; exact ⟨gb, e, s.grows hg⟩), (fun h _ => by rw [show L 6 = true from h] at n6; cases n6), (fun h => by rw [show L 10 = true from h] at n10; cases n10), (fun h => by rw [show L 6 = true from h] at n6; cases n6), (fun h => by rw [show L 10 = true from h] at n10; cases n10)⟩
     refine gent_consR (fun vs L w1 hL hw1 => ?_) ?_
     ·obtain ⟨q0, q1, q3, q5, q6, qa, h6, ha⟩ := HO.out _ _ _ hw1
      have e0 := (k6.grows q0).cell 0
      have e1 := (k6.grows q0).cell 1
      refine gen_plain rfl ?_
      go_simp
      exact gr_val (HI.out _ _ _ ⟨q0, kn_known q1 rfl, q3, q5, q6, qa, h6, ha⟩)
     refine gent_consR (fun vs L w1 hL hw1 => ?_) ?_
     ·obtain ⟨q0, q1, q3, q5, q6, qa, h6, ha⟩ := HO.out _ _ _ hw1
      have n5 : L 5 = false := hL.1
      have n6 : L 6 = false := by
       cases h : L 6
       ·rfl
       ·rw [(h6 h).2] at n5; cases n5
      have n10 : L 10 = false := by
       cases h : L 10
       ·rfl
       ·rw [ha h] at n6; cases n6
      have l4 : L 4 = true := hL.need 4 (by kernel_rfl)
      have e4 := q1 4 _ rfl l4
      refine gen_plain rfl ?_
      simp only [e4]
      go_simp
      have hg := (Below.refl w1.heap.size w1).alloc (Nat.le_refl _) (Obj.cells (csS x) 74)
      exact gr_val (HI.out _ _ _ ⟨below_grows q0 (Nat.le_refl _) hg, kn_free q1 rfl, (fun h h0 => (q3 h h0).grows hg), (fun _ _ => ⟨_, rfl, sps_lit w1 x⟩), (fun h _ => by rw [show L 6 = true from h] at n6; cases n6), (fun h => by rw [show L 10 = true from h] at n10; cases n10), (fun h => by rw [show L 6 = true from h] at n6; cases n6), (fun h => by rw [show L 10 = true from h] at n10; cases n10)⟩)
     refine gent_consR (fun vs L w1 hL hw1 => ?_) ?_
     ·obtain ⟨q0, q1, q3, q5, q6, qa, h6, ha⟩ := HO.out _ _ _ hw1
      have n6 : L 6 = false := hL.1
      have n10 : L 10 = false := by
       cases h : L 10
       ·rfl
       ·rw [ha h] at n6; cases n6
      have l3 : L 3 = true := hL.need 3 (by kernel_rfl)
      have l5 : L 5 = true := hL.need 5 (by kernel_rfl)
      have o3 := q3 l3 n6
      obtain ⟨gb, e5, s5⟩ := q5 l5 n6
      refine gen_plain rfl ?_
      refine gr_append_sp (.tmp 37) (.tmp 39) rfl (m := [x]) rfl rfl o3 e5 s5 (by simp only [List.length_take, List.length_cons, List.length_nil]; omega) q0.size ?_
      intro v3 w3 o6 g3
      have hg := o3.below q0 g3 q0.size
      exact HI.out _ _ _ ⟨hg, kn_free q1 rfl, (fun _ h => by cases h), (fun _ h => by cases h), fun _ _ => o6, (fun h => by rw [show L 10 = true from h] at n10; cases n10), fun _ => ⟨l3, l5⟩, (fun h => by rw [show L 10 = true from h] at n10; cases n10)⟩
     refine gent_consR (fun vs L w1 hL hw1 => ?_) ?_
     ·obtain ⟨q0, q1, q3, q5, q6, qa, h6, ha⟩ := HO.out _ _ _ hw1
      refine gen_plain rfl ?_
      go_simp
      exact gr_val (HI.out _ _ _ ⟨q0, kn_known q1 rfl, q3, q5, q6, qa, h6, ha⟩)
     refine gent_consR (fun vs L w1 hL hw1 => ?_) ?_
     ·obtain ⟨q0, q1, q3, q5, q6, qa, h6, ha⟩ := HO.out _ _ _ hw1
      refine gen_plain rfl ?_
      go_simp
      exact gr_val (HI.out _ _ _ ⟨q0, kn_known q1 rfl, q3, q5, q6, qa, h6, ha⟩)
     refine gent_consR (fun vs L w1 hL hw1 => ?_) ?_
     ·obtain ⟨q0, q1, q3, q5, q6, qa, h6, ha⟩ := HO.out _ _ _ hw1
      have l7 : L 7 = true := hL.need 7 (by kernel_rfl)
      have e7 := q1 7 _ rfl l7
      have l8 : L 8 = true := hL.need 8 (by kernel_rfl)
      have e8 := q1 8 _ rfl l8
      refine gen_plain rfl ?_
      simp only [e7, e8]
      go_simp
      exact gr_val (HI.out _ _ _ ⟨q0, kn_known q1 rfl, q3, q5, q6, qa, h6, ha⟩)
     refine gent_consR (fun vs L w1 hL hw1 => ?_) ?_
     ·obtain ⟨q0, q1, q3, q5, q6, qa, h6, ha⟩ := HO.out _ _ _ hw1
      have n10 : L 10 = false := hL.1
      have l6 : L 6 = true := hL.need 6 (by kernel_rfl)
      have o6 := q6 l6 n10
      have l9 : L 9 = true := hL.need 9 (by kernel_rfl)
      have e9 := q1 9 _ rfl l9
      refine gen_plain rfl ?_
      refine gr_append_sp (.tmp 40) (.tmp 43) rfl (m := d.drop m) (by simp) rfl o6 e9 (sps_drop (hin.grows q0) hmd hc3) (by simp only [List.length_append, List.length_take, List.length_drop, List.length_cons, List.length_nil]; omega) q0.size ?_
      intro v3 w3 o7 g3
      have hg := o6.below q0 g3 q0.size
      exact HI.out _ _ _ ⟨hg, kn_free q1 rfl, (fun h h0 => by rw [show L 6 = false from h0] at l6; cases l6), (fun h h0 => by rw [show L 6 = false from h0] at l6; cases l6), (fun _ h => by cases h), fun _ => o7, h6, fun _ => l6⟩
     refine gent_nil ?_
     intro vs L W2 hall hS
     obtain ⟨hq, -, -, -, -, qa, -, -⟩ := HO.out _ _ _ hS
     have hown2 := qa (hall 10 (by omega))
     clear hall hS HI HO qa
     have hown3 := hown2.mono hB.size
     have hB2 := below_grows hB (Nat.le_refl _) hq
     clear hown2 hq hin k6
     generalize vs 10 = v44 at *
     go_wp2
     go_roundw
     case rel => exact ⟨k + 1, d.take m ++ [x] ++ d.drop m, by omega, by go_num, by rw [HT.out]; exact HPE.out, HSO.out, hown3, hB2⟩
     case measure => simp [intOf]; omega
    obtain ⟨j, hj⟩ : ∃ j, m = j + 1 := ⟨m - 1, by omega⟩
    obtain ⟨ad3, y, rfl, had3, hy, d0, d1⟩ := hin.elem (k := j) (by omega)
    have HY : Hid (d.take m = d.take j ++ [y]) := Lib.hid (by rw [hj]; exact take_snoc hy)
    have HD : Hid (d.drop j = y :: d.drop m) := Lib.hid (by
     obtain ⟨hj2, hyy⟩ := List.getElem?_eq_some_iff.1 hy
     rw [← hyy, hj]
     exact List.drop_eq_getElem_cons hj2)
    clear hy
    have hidx : IntKind.i64.wrap ((m : Int) - 1) = (j : Int) := by rw [IntWalk.i64_in _ (by omega)]; omega
    have hjd : (j : Int) < (d.length : Int) := by omega
    have hpos : decide ((0 : Int) < (m : Int)) = true := decide_eq_true (by omega)
    have hposN : 0 < m := by omega
    have HJ := Lib.hid hj
    clear hj h0
    by_cases hxy : x.1 < y.1
    ·go_upto_region 6 with fail
     go_region
     have hg := Grows.drew' wr
     generalize World.drew _ = W at *
     clear d0 d1 e0 e1
     go_wp2
     go_roundw
     case rel =>
      refine ⟨j, by omega, by go_num, fun z hz => ?_, below_grows hg0 (Nat.le_refl _) hg⟩
      rw [HD.out] at hz
      rcases List.mem_cons.1 hz with rfl | hz
      ·omega
      ·exact hgt z hz
     case measure =>
      have := HJ.out
      simp [intOf]
      omega
    ·have HLE : Hid (∀ z ∈ d.take m, z.1 ≤ x.1) := Lib.hid (fun z hz => by
      rw [HY.out] at hz
      rcases List.mem_append.1 hz with hz | hz
      ·have := (List.pairwise_append.1 (show (d.take j ++ y :: d.drop m).Pairwise (fun x y => x.1 ≤ y.1) by rw [← HD.out, List.take_append_drop]; exact hs)).2.2 z hz y (by simp)
       omega
      ·rw [List.mem_singleton.1 hz]; omega)
     go_upto_region 6 with fail
     go_region
     clear hpos hposN hidx hjd HY HD HJ d0 d1
     have hg := Grows.drew' wr
     generalize World.drew _ = W at *
     replace hB := below_grows hB (Nat.le_refl _) hg
     replace hin := hin.grows hg
     replace k6 := k6.grows hg
     clear e0 e1 hg
     have hdec : d.take m ++ d.drop m = d := List.take_append_drop _ _
     have HSO := Lib.hid (put_sorted (by rw [hdec]; exact hs) HLE.out hgt)
     have HPE := Lib.hid (put_perm (x := x) (t := l.take k) (by rw [hdec]; exact hp))
     clear HLE hdec hgt hs hp
     have hmc : m ≤ c3 := by omega
     go_upto_region 8 with fail
     obtain ⟨S, HI, HO⟩ := hideS fun (L : Ran) (vs : Nat → Value) (w' : World) => Grows W w' ∧ KnS [some (.slice (some ad3) d.length c3), some (.int .i64 m), some (.slice (some ad3) m c3), none, some (.agg #[.int .i64 x.1, .int .i64 x.2]), none, none, some (.slice (some ad3) d.length c3), some (.int .i64 m), some (.slice (if c3 = m then (some ad3) else (some ad3).map (fun x => x.add (m * 2))) (d.length - m) (c3 - m)), none] L vs ∧ (L 3 = true → L 6 = false → Own w' W.heap.size (vs 3) (d.take m)) ∧ (L 5 = true → L 6 = false → ∃ gb, vs 5 = .slice (some ⟨gb, 0, none⟩) 1 1 ∧ Sps w' (some ⟨gb, 0, none⟩) [x]) ∧ (L 6 = true → L 10 = false → Own w' W.heap.size (vs 6) (d.take m ++ [x])) ∧ (L 10 = true → Own w' W.heap.size (vs 10) (d.take m ++ [x] ++ d.drop m)) ∧ (L 6 = true → L 3 = true ∧ L 5 = true) ∧ (L 10 = true → L 6 = true)
     refine wp_region_genT S 11 86 (by kernel_rfl) (by kernel_rfl) rfl ?_ ?_
     ·exact HI.out _ _ _ ⟨Grows.drew' _, kn_none _ _, (fun h => by cases h), (fun h => by cases h), (fun h => by cases h), (fun h => by cases h), (fun h => by cases h), (fun h => by cases h)⟩
     simp only [List.take_succ_cons, List.take_zero, List.drop_succ_cons, List.drop_zero]
     refine gent_consR (fun vs L w1 hL hw1 => ?_) ?_
     ·obtain ⟨q0, q1, q3, q5, q6, qa, h6, ha⟩ := HO.out _ _ _ hw1
      refine gen_plain rfl ?_
      go_simp
      exact gr_val (HI.out _ _ _ ⟨q0, kn_known q1 rfl, q3, q5, q6, qa, h6, ha⟩)
     refine gent_consR (fun vs L w1 hL hw1 => ?_) ?_
     ·obtain ⟨q0, q1, q3, q5, q6, qa, h6, ha⟩ := HO.out _ _ _ hw1
      refine gen_plain rfl ?_
      go_simp
      exact gr_val (HI.out _ _ _ ⟨q0, kn_known q1 rfl, q3, q5, q6, qa, h6, ha⟩)
     refine gent_consR (fun vs L w1 hL hw1 => ?_) ?_
     ·obtain ⟨q0, q1, q3, q5, q6, qa, h6, ha⟩ := HO.out _ _ _ hw1
      have l0 : L 0 = true := hL.need 0 (by kernel_rfl)
      have e0 := q1 0 _ rfl l0
      have l1 : L 1 = true := hL.need 1 (by kernel_rfl)
      have e1 := q1 1 _ rfl l1
      refine gen_plain rfl ?_
      simp only [e0, e1]
      go_simp
      exact gr_val (HI.out _ _ _ ⟨q0, kn_known q1 rfl, q3, q5, q6, qa, h6, ha⟩)
     refine gent_consR (fun vs L w1 hL hw1 => ?_) ?_
     ·obtain ⟨q0, q1, q3, q5, q6, qa, h6, ha⟩ := HO.out _ _ _ hw1
      have n3 : L 3 = false := hL.1
      have n6 : L 6 = false := by
       cases h : L 6
       ·rfl
       ·rw [(h6 h).1] at n3; cases n3
      have n10 : L 10 = false := by
       cases h : L 10
       ·rfl
       ·rw [ha h] at n6; cases n6
      have l2 : L 2 = true := hL.need 2 (by kernel_rfl)
      have e2 := q1 2 _ rfl l2
      refine gen_plain rfl ?_
      refine gr_append_sp (.const (.slice none 0 0)) (.tmp 36) rfl (m := d.take m) (by rw [List.length_take]; omega) rfl (own_nil w1 W.heap.size) e2 (sps_take (hin.grows q0) m) (by simp only [List.length_nil, List.length_take]; omega) q0.size ?_
      intro v3 w3 o3 g3
      have hg : Grows w1 w3 := (Below.refl _ _).grown g3 (Nat.le_refl _) (fun q hq => by cases hq)
      exact HI.out _ _ _ ⟨below_grows q0 (Nat.le_refl _) hg, kn_free q1 rfl, fun _ _ => o3, (fun h h0 => by obtain ⟨gb, e, s⟩ := q5 h h0; exact ⟨gb, e, s.grows hg⟩), (fun h _ => by rw [show L 6 = true from h] at n6; cases n6), (fun h => by rw [show L 10 = true from h] at n10; cases n10), (fun h => by rw [show L 6 = true from h] at n6; cases n6), (fun h => by rw [show L 10 = true from h] at n10; cases n10)⟩
     refine gent_consR (fun vs L w1 hL hw1 => ?_) ?_
     ·obtain ⟨q0, q1, q3, q5, q6, qa, h6, ha⟩ := HO.out _ _ _ hw1
      have e0 := (k6.grows q0).cell 0
      have e1 := (k6.grows q0).cell 1
      refine gen_plain rfl ?_
      go_simp
      exact gr_val (HI.out _ _ _ ⟨q0, kn_known q1 rfl, q3, q5, q6, qa, h6, ha⟩)
     refine gent_consR (fun vs L w1 hL hw1 => ?_) ?_
     ·obtain ⟨q0, q1, q3, q5, q6, qa, h6, ha⟩ := HO.out _ _ _ hw1
      have n5 : L 5 = false := hL.1
      have n6 : L 6 = false := by
       cases h : L 6
       ·rfl
       ·rw [(h6 h).2] at n5; cases n5
      have n10 : L 10 = false := by
       cases h : L 10
       ·rfl
       ·rw [ha h] at n6; cases n6
      have l4 : L 4 = true := hL.need 4 (by kernel_rfl)
      have e4 := q1 4 _ rfl l4
      refine gen_plain rfl ?_
      simp only [e4]
      go_simp
      have hg := (Below.refl w1.heap.size w1).alloc (Nat.le_refl _) (Obj.cells (csS x) 74)
      exact gr_val (HI.out _ _ _ ⟨below_grows q0 (Nat.le_refl _) hg, kn_free q1 rfl, (fun h h0 => (q3 h h0).grows hg), (fun _ _ => ⟨_, rfl, sps_lit w1 x⟩), (fun h _ => by rw [show L 6 = true from h] at n6; cases n6), (fun h => by rw [show L 10 = true from h] at n10; cases n10), (fun h => by rw [show L 6 = true from h] at n6; cases n6), (fun h => by rw [show L 10 = true from h] at n10; cases n10)⟩)
     refine gent_consR (fun vs L w1 hL hw1 => ?_) ?_
     ·obtain ⟨q0, q1, q3, q5, q6, qa, h6, ha⟩ := HO.out _ _ _ hw1
      have n6 : L 6 = false := hL.1
      have n10 : L 10 = false := by
       cases h : L 10
       ·rfl
       ·rw [ha h] at n6; cases n6
      have l3 : L 3 = true := hL.need 3 (by kernel_rfl)
      have l5 : L 5 = true := hL.need 5 (by kernel_rfl)
      have o3 := q3 l3 n6
      obtain ⟨gb, e5, s5⟩ := q5 l5 n6
      refine gen_plain rfl ?_
      refine gr_append_sp (.tmp 37) (.tmp 39) rfl (m := [x]) rfl rfl o3 e5 s5 (by simp only [List.length_take, List.length_cons, List.length_nil]; omega) q0.size ?_
      intro v3 w3 o6 g3
      have hg := o3.below q0 g3 q0.size
      exact HI.out _ _ _ ⟨hg, kn_free q1 rfl, (fun _ h => by cases h), (fun _ h => by cases h), fun _ _ => o6, (fun h => by rw [show L 10 = true from h] at n10; cases n10), fun _ => ⟨l3, l5⟩, (fun h => by rw [show L 10 = true from h] at n10; cases n10)⟩
     refine gent_consR (fun vs L w1 hL hw1 => ?_) ?_
     ·obtain ⟨q0, q1, q3, q5, q6, qa, h6, ha⟩ := HO.out _ _ _ hw1
      refine gen_plain rfl ?_
      go_simp
      exact gr_val (HI.out _ _ _ ⟨q0, kn_known q1 rfl, q3, q5, q6, qa, h6, ha⟩)
     refine gent_consR (fun vs L w1 hL hw1 => ?_) ?_
     ·obtain ⟨q0, q1, q3, q5, q6, qa, h6, ha⟩ := HO.out _ _ _ hw1
      refine gen_plain rfl ?_
      go_simp
      exact gr_val (HI.out _ _ _ ⟨q0, kn_known q1 rfl, q3, q5, q6, qa, h6, ha⟩)
     refine gent_consR (fun vs L w1 hL hw1 => ?_) ?_
     ·obtain ⟨q0, q1, q3, q5, q6, qa, h6, ha⟩ := HO.out _ _ _ hw1
      have l7 : L 7 = true := hL.need 7 (by kernel_rfl)
      have e7 := q1 7 _ rfl l7
      have l8 : L 8 = true := hL.need 8 (by kernel_rfl)
      have e8 := q1 8 _ rfl l8
      refine gen_plain rfl ?_
      simp only [e7, e8]
      go_simp
      exact gr_val (HI.out _ _ _ ⟨q0, kn_known q1 rfl, q3, q5, q6, qa, h6, ha⟩)
     refine gent_consR (fun vs L w1 hL hw1 => ?_) ?_
     ·obtain ⟨q0, q1, q3, q5, q6, qa, h6, ha⟩ := HO.out _ _ _ hw1
      have n10 : L 10 = false := hL.1
      have l6 : L 6 = true := hL.need 6 (by kernel_rfl)
      have o6 := q6 l6 n10
      have l9 : L 9 = true := hL.need 9 (by kernel_rfl)
      have e9 := q1 9 _ rfl l9
      refine gen_plain rfl ?_
      refine gr_append_sp (.tmp 40) (.tmp 43) rfl (m := d.drop m) (by simp) rfl o6 e9 (sps_drop (hin.grows q0) hmd hc3) (by simp only [List.length_append, List.length_take, List.length_drop, List.length_cons, List.length_nil]; omega) q0.size ?_
      intro v3 w3 o7 g3
      have hg := o6.below q0 g3 q0.size
      exact HI.out _ _ _ ⟨hg, kn_free q1 rfl, (fun h h0 => by rw [show L 6 = false from h0] at l6; cases l6), (fun h h0 => by rw [show L 6 = false from h0] at l6; cases l6), (fun _ h => by cases h), fun _ => o7, h6, fun _ => l6⟩
     refine gent_nil ?_
     intro vs L W2 hall hS
     obtain ⟨hq, -, -, -, -, qa, -, -⟩ := HO.out _ _ _ hS
     have hown2 := qa (hall 10 (by omega))
     clear hall hS HI HO qa
     have hown3 := hown2.mono hB.size
     have hB2 := below_grows hB (Nat.le_refl _) hq
     clear hown2 hq hin k6
     generalize vs 10 = v44 at *
     go_wp2
     go_roundw
     case rel => exact ⟨k + 1, d.take m ++ [x] ++ d.drop m, by omega, by go_num, by rw [HT.out]; exact HPE.out, HSO.out, hown3, hB2⟩
     case measure => simp [intOf]; omega
  ·have e : l.take k = l := List.take_of_length_le (by omega)
   rw [e] at hp
   clear e HPL
   obtain ⟨A3, c3, rfl, hc3, hin, -⟩ := hown.read
   have HPL := Lib.hid (show d.length = l.length from hp.length_eq)
   have hdl : d.length ≤ 10000 := by have := HPL.out; omega
   have hfd : ∀ x ∈ d, fineS x = true := fun x hx => hf x (hp.mem_iff.1 hx)
   clear hown
   have hB1 := hB
   clear hB
   go_upto_region 11 with fail
   generalize wr = W1 at *
   go_loopw [4, 48] (fun v i wr => ∃ j : Nat, j ≤ d.length ∧ i = .int .i64 j ∧ Own wr W1.heap.size v (mergeL (d.take j)) ∧ Grows W1 wr) (fun _ i _ => d.length - (intOf i).toNat)
   case atStart => exact ⟨0, by omega, rfl, own_nil _ _, Below.refl _ _⟩
   case round =>
    obtain ⟨k, hk, rfl, hown, hB⟩ := hrel
    by_cases hlt : k < d.length
    ·obtain ⟨ad, x, rfl, had, hx, c0, c1⟩ := (hin.grows hB).elem hlt
     have HX : Hid (mergeL (d.take (k + 1)) = mergeS (mergeL (d.take k)) x) := Lib.hid (by rw [take_snoc hx, mergeL_snoc])
     have hxf := (fineS_iff x).1 (hfd x (List.mem_of_getElem? hx))
     have hof := mergeL_fine (d.take k) fun z hz => hfd z (List.mem_of_mem_take hz)
     have hlen : (mergeL (d.take k)).length ≤ 100000 := Nat.le_trans (mergeL_len _) (by rw [List.length_take]; omega)
     generalize mergeL (d.take k) = out at *
     clear hx
     have hz := hB.size
     obtain ⟨A2, c2, rfl, hcap, hr, hge⟩ := hown.read
     have k5 := Blk.new wr 74 #[.int .i64 x.1, .int .i64 x.2]
     have hq := (Below.refl wr.heap.size wr).alloc (Nat.le_refl _) (Obj.cells #[.int .i64 x.1, .int .i64 x.2] 74)
     by_cases h0 : out.length = 0
     ·obtain rfl : out = [] := List.length_eq_zero_iff.1 h0
      go_upto_region 14 with fail
      go_region
      have hq6 := below_grows hq (Nat.le_refl _) (Grows.drew' _)
      replace k5 := k5.drew
      have hown6 := hown.grows hq6
      have hB6 := below_grows hB (Nat.le_refl _) hq6
      have hz6 := hB6.size
      generalize World.drew _ = w6 at *
      clear hq hq6
      have e0 := k5.cell 0
      have e1 := k5.cell 1
      go_upto_region 16 with fail
      refine wp_region_lit ?_
      iterate 3
       refine wpList_plain rfl (fun K hK => ?_)
       go_simp
       refine hK _ _ ?_
       clear hK K
      have hq8 := (Below.refl w6.heap.size w6).alloc (Nat.le_refl _) (Obj.cells #[.int .i64 x.1, .int .i64 x.2] 74)
      have hown8 := hown6.grows hq8
      have hB8 := below_grows hB6 (Nat.le_refl _) hq8
      refine wpList_append_sp rfl (.tmp 80) (.tmp 82) rfl (m := [x]) rfl rfl hown8 rfl (sps_lit w6 x) (by simp <;> omega) hB8.size ?_
      intro v3 w3 hown3 hgr3
      have hB3 := hown8.below hB8 hgr3 hB8.size
      clear hown hown6 hown8 hgr3 hq8 hB6 hB8 e0 e1 k5
      have e : mergeL (d.take (k + 1)) = [] ++ [x] := HX.out
      rw [← e] at hown3
      go_wp2
      go_roundw
      case rel => exact ⟨k + 1, by omega, by go_num, hown3, hB3⟩
      case measure => simp [intOf]; omega
     ·obtain ⟨q, y, rfl⟩ : ∃ q y, out = q ++ [y] := by
       cases hl : out.getLast? with
       | none => exact absurd (by rw [List.getLast?_eq_none_iff.1 hl]; rfl) h0
       | some y => exact ⟨out.dropLast, y, last_split hl⟩
      obtain ⟨ad2, y', rfl, had2, hy', d0, d1⟩ := hr.elem (k := q.length) (by simp)
      obtain rfl : y' = y := by simpa using hy'.symm
      have hyf := (fineS_iff y').1 (hof y' (by simp))
      have HM : Hid (mergeS (q ++ [y']) x = if x.1 ≤ y'.2 + 1 then q ++ [(y'.1, max y'.2 x.2)] else (q ++ [y']) ++ [x]) := Lib.hid (by unfold mergeS; rw [List.getLast?_concat]; simp only [List.dropLast_concat])
      clear hof hy' h0
      obtain ⟨g, rfl, hg1, hg2⟩ := hown.addr (by simp)
      have hn1 : (q ++ [y']).length = q.length + 1 := by simp
      rw [hn1] at hown hlen hcap ⊢
      have hpa : (⟨g, 0, none⟩ : Addr).add (q.length * 2) = ⟨g, q.length * 2, none⟩ := by
       unfold Addr.add
       split
       ·simp_all
       ·simp
      rw [hpa] at d0 d1
      simp only [] at d0 d1
      have hfz := (show Own wr W1.heap.size (.slice (some ⟨g, 0, none⟩) (q ++ [y']).length c2) (q ++ [y']) by rw [hn1]; exact hown).frozenAt (q.length * 2 + 1)
      have hidx : IntKind.i64.wrap (((q.length + 1 : Nat) : Int) - 1) = (q.length : Int) := by rw [IntWalk.i64_in _ (by omega)]; omega
      have hadd : IntKind.i64.wrap (x.1 - 1) = x.1 - 1 := IntWalk.i64_in _ (by omega)
      clear hr hge had2
      by_cases ht : x.1 ≤ y'.2 + 1
      ·have ht2 : x.1 - 1 ≤ y'.2 := by omega
       go_upto_region 14 with fail
       go_region
       go_upto_region 15 with fail
       go_region
       have hown2 : Own wr W1.heap.size (.slice (some ⟨g, 0, none⟩) (q ++ [y']).length c2) (q ++ [y']) := by rw [hn1]; exact hown
       have e : mergeL (d.take (k + 1)) = q ++ [(y'.1, max y'.2 x.2)] := by rw [HX.out, HM.out, if_pos ht]
       have HE := Lib.hid e
       clear e HX HM
       generalize (max y'.2 x.2) = z at *
       have h3 := hown2.setHi z
       have hb3 := hB.setCell (p := ⟨g, q.length * 2 + 1, none⟩) hg1 (.int .i64 z)
       rw [hn1] at h3
       generalize World.setCell wr _ _ = w3 at *
       have hg3 : Grows w3 ((w3.alloc (Obj.cells #[.int .i64 x.1, .int .i64 x.2] 74)).drew.drew) := below_grows (below_grows ((Below.refl w3.heap.size w3).alloc (Nat.le_refl _) (Obj.cells #[.int .i64 x.1, .int .i64 x.2] 74)) (Nat.le_refl _) (Grows.drew' _)) (Nat.le_refl _) (Grows.drew' _)
       replace h3 := h3.grows hg3
       replace hb3 := below_grows hb3 (Nat.le_refl _) hg3
       rw [← HE.out] at h3
       clear hown hown2 k5 hq d0 d1 hfz hidx hadd hg3
       generalize World.drew _ = w4 at *
       go_wp2
       go_roundw
       case rel => exact ⟨k + 1, by omega, by go_num, h3, hb3⟩
       case measure => simp [intOf]; omega
      ·have ht2 : ¬ x.1 - 1 ≤ y'.2 := by omega
       go_upto_region 14 with fail
       go_region
       have hq6 := below_grows hq (Nat.le_refl _) (Grows.drew' _)
       replace k5 := k5.drew
       have hown6 := hown.grows hq6
       have hB6 := below_grows hB (Nat.le_refl _) hq6
       have hz6 := hB6.size
       generalize World.drew _ = w6 at *
       clear hq hq6
       have e0 := k5.cell 0
       have e1 := k5.cell 1
       clear d0 d1 hfz hidx hadd
       go_upto_region 16 with fail
       refine wp_region_lit ?_
       iterate 3
        refine wpList_plain rfl (fun K hK => ?_)
        go_simp
        refine hK _ _ ?_
        clear hK K
       have hq8 := (Below.refl w6.heap.size w6).alloc (Nat.le_refl _) (Obj.cells #[.int .i64 x.1, .int .i64 x.2] 74)
       have hown8 := hown6.grows hq8
       have hB8 := below_grows hB6 (Nat.le_refl _) hq8
       refine wpList_append_sp rfl (.tmp 80) (.tmp 82) rfl (m := [x]) rfl rfl hown8 rfl (sps_lit w6 x) (by simp <;> omega) hB8.size ?_
       intro v3 w3 hown3 hgr3
       have hB3 := hown8.below hB8 hgr3 hB8.size
       clear hown hown6 hown8 hgr3 hq8 hB6 hB8 e0 e1 k5
       have e : mergeL (d.take (k + 1)) = (q ++ [y']) ++ [x] := by rw [HX.out, HM.out, if_neg ht]
       rw [← e] at hown3
       clear HX HM e
       go_wp2
       go_roundw
       case rel => exact ⟨k + 1, by omega, by go_num, hown3, hB3⟩
       case measure => simp [intOf]; omega
    ·have e : d.take k = d := List.take_of_length_le (by omega)
     rw [e, form_eq hf hp hs] at hown
     replace hown := hown.mono hB1.size
     have hB2 := below_grows hB1 (Nat.le_refl _) hB
     clear e
     go_wp2
     go_ret
     exact ⟨⟨_, rfl, hown⟩, hB2⟩
end Go.Proofs.Ytjbkjgmcfommgaa

namespace Go.Proofs.Ytjbkjgmcfommgaa
open Go.RowKit
/-- A property of a value that stays when the world grows. -/
abbrev GP := {P : World → Value → Prop // ∀ w w' v, P w v → Grows w w' → P w' v}
/-- The values that are described. -/
def DsS (DS : List (Option GP)) (L : Ran) (vs : Nat → Value) (w : World) : Prop := ∀ j P, DS[j]? = some (some P) → L j = true → P.1 w (vs j)
section
variable {DS : List (Option GP)} {L : Ran} {vs : Nat → Value} {w w' : World} {k : Nat} {u : Value}
set_option maxRecDepth 100000 in
theorem ds_none (DS : List (Option GP)) (vs : Nat → Value) (w : World) : DsS DS (fun _ => false) vs w := fun _ _ _ h => by cases h
set_option maxRecDepth 100000 in
theorem DsS.grows (h : DsS DS L vs w) (hg : Grows w w') : DsS DS L vs w' := fun j P hj hL => P.2 w w' (vs j) (h j P hj hL) hg
set_option maxRecDepth 100000 in
theorem ds_free (h : DsS DS L vs w) (hk : DS[k]? = some none) : DsS DS (upd L k) (setV vs k u) w := by
 intro j P hj hL
 unfold setV
 unfold upd at hL
 by_cases e : j = k
 ·subst e
  rw [hk] at hj
  cases hj
 ·rw [if_neg e] at hL ⊢
  exact h j P hj hL
set_option maxRecDepth 100000 in
theorem ds_put {P : GP} (h : DsS DS L vs w) (hk : DS[k]? = some (some P)) (hP : P.1 w u) : DsS DS (upd L k) (setV vs k u) w := by
 intro j P' hj hL
 unfold setV
 unfold upd at hL
 by_cases e : j = k
 ·subst e
  rw [hk] at hj
  injection hj with hj
  injection hj with hj
  subst hj
  rw [if_pos rfl]
  exact hP
 ·rw [if_neg e] at hL ⊢
  exact h j P' hj hL
end
end Go.Proofs.Ytjbkjgmcfommgaa

namespace Go.Proofs.Ytjbkjgmcfommgaa
open Go.RowKit
def DR (w : World) (B g : Nat) : Prop := ∃ l, Dice w B g l
theorem DR.grows {w w' : World} {B g : Nat} (h : DR w B g) (hg : Grows w w') : DR w' B g := by
 obtain ⟨l, h⟩ := h
 exact ⟨l, h.grows hg⟩
theorem DR.lt {w : World} {B g : Nat} (h : DR w B g) : g < w.heap.size := by
 obtain ⟨l, h⟩ := h
 exact h.lt
theorem DR.put {w : World} {B g : Nat} (h : DR w B g) {p : Addr} (hp : B ≤ p.block) (hg : g ≠ p.block) (u : Value) : DR (w.setCell p u) B g := by
 obtain ⟨l, h⟩ := h
 exact ⟨l, h.put hp hg u⟩
theorem DR.lo {w : World} {B g : Nat} (h : DR w B g) : B ≤ g := by
 obtain ⟨l, A, c, h⟩ := h
 exact h.lo
set_option maxHeartbeats 4000000 in
theorem rolls_any (B g : Nat) (n : Int) (w : World) (h : DR w B g) (hn : 1 ≤ n) (hn2 : n ≤ 9223372036854775807) :
 Calls Try.prog 18 #[.pointer (some ⟨g, 0, none⟩), .int .i64 n] w fun e w' => (∃ r, e = .returned (.int .i64 r) ∧ 0 ≤ r ∧ r < n) ∧ DR w' B g ∧ w.grownBy w' (some g) := by
 obtain ⟨l, h⟩ := h
 by_cases h2 : 2 ≤ n
 ·exact (roll_any B g l n w h h2 hn2).mono fun e w' ⟨he, hd, hg, _⟩ => ⟨⟨_, he, (rollV_bd l hn).1, (rollV_bd l hn).2⟩, ⟨_, hd⟩, hg⟩
 obtain rfl : n = 1 := by omega
 have h0 := h
 obtain ⟨A, c, h⟩ := h
 have x1 := h.blk.cell 0
 have d1 : decide ((1 : Int) ≤ 1) = true := by decide
 go_enter Try.func18, Try.ntmps18
 by_cases hl : l.length = 0
 ·have d2 : ((l.length : Int) == 0) = true := by simp only [beq_iff_eq]; omega
  clear hl h
  go_wp2
  go_ret
  exact ⟨⟨0, rfl, by omega, by omega⟩, ⟨l, h0⟩, World.grownBy.refl w _⟩
 ·have d2 : ((l.length : Int) == 0) = false := by simp only [beq_eq_false_iff_ne, ne_eq]; omega
  clear hl h
  go_wp2
  go_ret
  exact ⟨⟨0, rfl, by omega, by omega⟩, ⟨l, h0⟩, World.grownBy.refl w _⟩
set_option maxRecDepth 100000
theorem add_head (g k : Nat) : (⟨g, 0, none⟩ : Addr).add k = ⟨g, k, none⟩ := by unfold Addr.add; split <;> simp_all
def mapsL : List (List Int) := [[3], [1, 2], [1, 2, 3, 4, 5, 6], [2, 1], [1, 2, 7, 8], [4], [1, 3]]
theorem mapsL_ok : ∀ m ∈ mapsL, validM m = true ∧ 0 < m.length ∧ m.length ≤ 8 := by decide
theorem mapsL_len : mapsL.length = 7 := rfl
theorem inB_of {w : World} {A : Option Addr} {l : List Int} {n : Nat} (h : Ints w A l) (hA : ∀ ad, A = some ad → n ≤ ad.block) : InB w (Ge n) A l := ⟨h, fun _ ad e => hA ad e⟩
set_option maxHeartbeats 4000000 in
theorem maps_lit (w : World) : ∃ W A, Calls Try.prog 45 #[] w (fun e w' => e = .returned (.slice (some A) 7 7) ∧ w' = W) ∧ MapsR W (Ge w.heap.size) (some A) mapsL ∧ Grows w W := by
 have e0 : w.heap.size = w.heap.size + 0 := rfl
 obtain ⟨W1, hW1⟩ : ∃ W, W = w.alloc (Obj.cells #[.int .i64 3] 3) := ⟨_, rfl⟩
 have s1 : W1.heap.size = w.heap.size + 1 := by rw [hW1]; simp
 have i1 : Ints W1 (some ⟨w.heap.size, 0, none⟩) [3] := by rw [hW1]; exact ints_lits w [3] #[.int .i64 3] 3 rfl
 have g1 : Grows w W1 := by rw [hW1]; exact (Below.refl _ _).alloc (Nat.le_refl _) _
 obtain ⟨W2, hW2⟩ : ∃ W, W = W1.alloc (Obj.cells #[.int .i64 1, .int .i64 2] 3) := ⟨_, rfl⟩
 have s2 : W2.heap.size = w.heap.size + 2 := by rw [hW2]; simp [s1]
 have i2 : Ints W2 (some ⟨w.heap.size + 1, 0, none⟩) [1, 2] := by rw [← s1, hW2]; exact ints_lits W1 [1, 2] #[.int .i64 1, .int .i64 2] 3 rfl
 have g2 : Grows W1 W2 := by rw [hW2]; exact (Below.refl _ _).alloc (Nat.le_refl _) _
 obtain ⟨W3, hW3⟩ : ∃ W, W = W2.alloc (Obj.cells #[.int .i64 1, .int .i64 2, .int .i64 3, .int .i64 4, .int .i64 5, .int .i64 6] 3) := ⟨_, rfl⟩
 have s3 : W3.heap.size = w.heap.size + 3 := by rw [hW3]; simp [s2]
 have i3 : Ints W3 (some ⟨w.heap.size + 2, 0, none⟩) [1, 2, 3, 4, 5, 6] := by rw [← s2, hW3]; exact ints_lits W2 [1, 2, 3, 4, 5, 6] #[.int .i64 1, .int .i64 2, .int .i64 3, .int .i64 4, .int .i64 5, .int .i64 6] 3 rfl
 have g3 : Grows W2 W3 := by rw [hW3]; exact (Below.refl _ _).alloc (Nat.le_refl _) _
 obtain ⟨W4, hW4⟩ : ∃ W, W = W3.alloc (Obj.cells #[.int .i64 2, .int .i64 1] 3) := ⟨_, rfl⟩
 have s4 : W4.heap.size = w.heap.size + 4 := by rw [hW4]; simp [s3]
 have i4 : Ints W4 (some ⟨w.heap.size + 3, 0, none⟩) [2, 1] := by rw [← s3, hW4]; exact ints_lits W3 [2, 1] #[.int .i64 2, .int .i64 1] 3 rfl
 have g4 : Grows W3 W4 := by rw [hW4]; exact (Below.refl _ _).alloc (Nat.le_refl _) _
 obtain ⟨W5, hW5⟩ : ∃ W, W = W4.alloc (Obj.cells #[.int .i64 1, .int .i64 2, .int .i64 7, .int .i64 8] 3) := ⟨_, rfl⟩
 have s5 : W5.heap.size = w.heap.size + 5 := by rw [hW5]; simp [s4]
 have i5 : Ints W5 (some ⟨w.heap.size + 4, 0, none⟩) [1, 2, 7, 8] := by rw [← s4, hW5]; exact ints_lits W4 [1, 2, 7, 8] #[.int .i64 1, .int .i64 2, .int .i64 7, .int .i64 8] 3 rfl
 have g5 : Grows W4 W5 := by rw [hW5]; exact (Below.refl _ _).alloc (Nat.le_refl _) _
 obtain ⟨W6, hW6⟩ : ∃ W, W = W5.alloc (Obj.cells #[.int .i64 4] 3) := ⟨_, rfl⟩
 have s6 : W6.heap.size = w.heap.size + 6 := by rw [hW6]; simp [s5]
 have i6 : Ints W6 (some ⟨w.heap.size + 5, 0, none⟩) [4] := by rw [← s5, hW6]; exact ints_lits W5 [4] #[.int .i64 4] 3 rfl
 have g6 : Grows W5 W6 := by rw [hW6]; exact (Below.refl _ _).alloc (Nat.le_refl _) _
 obtain ⟨W7, hW7⟩ : ∃ W, W = W6.alloc (Obj.cells #[.int .i64 1, .int .i64 3] 3) := ⟨_, rfl⟩
 have s7 : W7.heap.size = w.heap.size + 7 := by rw [hW7]; simp [s6]
 have i7 : Ints W7 (some ⟨w.heap.size + 6, 0, none⟩) [1, 3] := by rw [← s6, hW7]; exact ints_lits W6 [1, 3] #[.int .i64 1, .int .i64 3] 3 rfl
 have g7 : Grows W6 W7 := by rw [hW7]; exact (Below.refl _ _).alloc (Nat.le_refl _) _
 obtain ⟨W8, hW8⟩ : ∃ W, W = W7.alloc (Obj.cells #[.slice (some ⟨w.heap.size, 0, none⟩) 1 1, .slice (some ⟨w.heap.size + 1, 0, none⟩) 2 2, .slice (some ⟨w.heap.size + 2, 0, none⟩) 6 6, .slice (some ⟨w.heap.size + 3, 0, none⟩) 2 2, .slice (some ⟨w.heap.size + 4, 0, none⟩) 4 4, .slice (some ⟨w.heap.size + 5, 0, none⟩) 1 1, .slice (some ⟨w.heap.size + 6, 0, none⟩) 2 2] 42) := ⟨_, rfl⟩
 have k8 : Blk W8 (w.heap.size + 7) 42 #[.slice (some ⟨w.heap.size, 0, none⟩) 1 1, .slice (some ⟨w.heap.size + 1, 0, none⟩) 2 2, .slice (some ⟨w.heap.size + 2, 0, none⟩) 6 6, .slice (some ⟨w.heap.size + 3, 0, none⟩) 2 2, .slice (some ⟨w.heap.size + 4, 0, none⟩) 4 4, .slice (some ⟨w.heap.size + 5, 0, none⟩) 1 1, .slice (some ⟨w.heap.size + 6, 0, none⟩) 2 2] := by rw [hW8, ← s7]; exact Blk.new _ _ _
 have g8 : Grows W7 W8 := by rw [hW8]; exact (Below.refl _ _).alloc (Nat.le_refl _) _
 have s8 : W8.heap.size = w.heap.size + 8 := by rw [hW8]; simp [s7]
 have j1 := (((((((i1.grows g2).grows g3).grows g4).grows g5).grows g6).grows g7).grows g8)
 have j2 := ((((((i2.grows g3).grows g4).grows g5).grows g6).grows g7).grows g8)
 have j3 := (((((i3.grows g4).grows g5).grows g6).grows g7).grows g8)
 have j4 := ((((i4.grows g5).grows g6).grows g7).grows g8)
 have j5 := (((i5.grows g6).grows g7).grows g8)
 have j6 := ((i6.grows g7).grows g8)
 have j7 := (i7.grows g8)
 have gA : Grows w W8 := (below_grows (below_grows (below_grows (below_grows (below_grows (below_grows (below_grows g1 (Nat.le_refl _) g2) (Nat.le_refl _) g3) (Nat.le_refl _) g4) (Nat.le_refl _) g5) (Nat.le_refl _) g6) (Nat.le_refl _) g7) (Nat.le_refl _) g8)
 refine ⟨W8, ⟨w.heap.size + 7, 0, none⟩, ?_, ?_, gA⟩
 ·clear gA k8 i1 i2 i3 i4 i5 i6 i7 j1 j2 j3 j4 j5 j6 j7 g1 g2 g3 g4 g5 g6 g7 g8 s1 s2 s3 s4 s5 s6 s7 s8 e0
  subst hW1 hW2 hW3 hW4 hW5 hW6 hW7 hW8
  go_enter Try.func45, Try.ntmps45
  go_wp2
  go_ret
  first
   | exact ⟨rfl, rfl⟩
   | (simp; done)
   | trace_state
 ·refine ⟨#[.slice (some ⟨w.heap.size, 0, none⟩) 1 1, .slice (some ⟨w.heap.size + 1, 0, none⟩) 2 2, .slice (some ⟨w.heap.size + 2, 0, none⟩) 6 6, .slice (some ⟨w.heap.size + 3, 0, none⟩) 2 2, .slice (some ⟨w.heap.size + 4, 0, none⟩) 4 4, .slice (some ⟨w.heap.size + 5, 0, none⟩) 1 1, .slice (some ⟨w.heap.size + 6, 0, none⟩) 2 2].toList, ⟨⟨rfl, fun _ => ⟨_, rfl, by rw [s8]; exact Nat.lt_of_lt_of_le (Nat.lt_succ_self _) (Nat.le_refl _), fun j u hu => ?_⟩⟩, fun _ ad e => by injection e with e; subst e; exact Nat.le_add_right _ 7⟩, fun i x hx => ?_⟩
  ·rw [add_head, k8.cell, ← Array.getElem?_toList]
   exact hu
  ·match i, hx with
   | 0, hx => (injection hx with hx; subst hx; exact ⟨_, _, rfl, Nat.le_refl _, inB_of j1 (fun ad e => by injection e with e; subst e; simp)⟩)
   | 1, hx => (injection hx with hx; subst hx; exact ⟨_, _, rfl, Nat.le_refl _, inB_of j2 (fun ad e => by injection e with e; subst e; simp)⟩)
   | 2, hx => (injection hx with hx; subst hx; exact ⟨_, _, rfl, Nat.le_refl _, inB_of j3 (fun ad e => by injection e with e; subst e; simp)⟩)
   | 3, hx => (injection hx with hx; subst hx; exact ⟨_, _, rfl, Nat.le_refl _, inB_of j4 (fun ad e => by injection e with e; subst e; simp)⟩)
   | 4, hx => (injection hx with hx; subst hx; exact ⟨_, _, rfl, Nat.le_refl _, inB_of j5 (fun ad e => by injection e with e; subst e; simp)⟩)
   | 5, hx => (injection hx with hx; subst hx; exact ⟨_, _, rfl, Nat.le_refl _, inB_of j6 (fun ad e => by injection e with e; subst e; simp)⟩)
   | 6, hx => (injection hx with hx; subst hx; exact ⟨_, _, rfl, Nat.le_refl _, inB_of j7 (fun ad e => by injection e with e; subst e; simp)⟩)
   | i + 7, hx => exact absurd (List.getElem?_eq_some_iff.1 hx).1 (by rw [mapsL_len]; omega)
end Go.Proofs.Ytjbkjgmcfommgaa

namespace Go.Proofs.Ytjbkjgmcfommgaa
open Go.RowKit
def Btw (a b : Nat) : Nat → Prop := fun k => a ≤ k ∧ k < b
def SetN (w : World) (n : Nat) (l : List Sp) (v : Value) : Prop := ∃ A c, v = .agg #[.slice A l.length c] ∧ l.length ≤ c ∧ Sps w A l ∧ ∀ ad, A = some ad → n ≤ ad.block
theorem setN_nil (w : World) (n : Nat) : SetN w n [] (.agg #[.slice none 0 0]) := ⟨none, 0, rfl, Nat.le_refl _, sps_nil w, fun ad e => by cases e⟩
set_option maxHeartbeats 8000000 in
theorem rmakeb_any (A : Option Addr) (c : Nat) (l : List Sp) (w : World) (h : Sps w A l) (hl : l.length ≤ 10000) :
 Calls Try.prog 44 #[.slice A l.length c] w fun e w' => (∃ v, e = .returned (.tuple #[v, .int .i64 (makeF l).2]) ∧ SetN w' w.heap.size (makeF l).1 v) ∧ Grows w w' := by
 have k2 := Blk.new w 51 #[.slice none 0 0]
 have hB := (Below.refl w.heap.size w).alloc (Nat.le_refl _) (Obj.cells #[.slice none 0 0] 51)
 have h1 := h.grows hB
 go_enter Try.func44, Try.ntmps44
 go_upto_region 1 with fail
 generalize World.alloc w _ = w1 at *
 go_wp2_with fail
 go_loopw [9] (fun i wr => ∃ k : Nat, k ≤ l.length ∧ i = .int .i64 k ∧ (l.take k).all fineS = true ∧ Grows w1 wr) (fun i _ => l.length - (intOf i).toNat)
 case atStart => exact ⟨0, by omega, rfl, rfl, Below.refl _ _⟩
 case round =>
  obtain ⟨k, hk, rfl, hall, hg⟩ := hrel
  by_cases hlt : k < l.length
  ·obtain ⟨ad, x, rfl, had, hx, c0, c1⟩ := (h1.grows hg).elem hlt
   have HX := Lib.hid (all_snoc hx)
   have HM : Hid (x ∈ l) := List.mem_of_getElem? hx
   clear hx
   have hq := (Below.refl wr.heap.size wr).alloc (Nat.le_refl _) (Obj.cells #[.int .i64 x.1, .int .i64 x.2] 74)
   replace hg := below_grows hg (Nat.le_refl _) hq
   clear hq
   have k5 := Blk.new wr 74 #[.int .i64 x.1, .int .i64 x.2]
   go_upto_region 4 with fail
   generalize World.alloc wr _ = w3 at *
   generalize wr.heap.size = G5 at *
   clear c0 c1
   have e0 := k5.cell 0
   have e1 := k5.cell 1
   by_cases h1 : x.1 < 0
   ·skip
    have hm : makeF l = ([], 2) := by
     unfold makeF
     rw [if_neg]
     intro ha
     have := List.all_eq_true.1 ha x HM.out
     rw [show fineS x = false by simp [fineS]; omega] at this
     cases this
    have k3 := k2.grows hg
    have x3 := k3.cell 0
    have f3 := k3.frozen 0
    have HE := Lib.hid hm
    clear hm
    go_wp2
    have k4 := k3.set_ 0 (.slice none 0 0)
    have hB4 := (below_grows hB (Nat.le_refl _) hg).setCell (p := ⟨w.heap.size, 0, none⟩) (Nat.le_refl _) (.slice none 0 0)
    generalize World.setCell _ _ _ = w5 at *
    have x4 : w5.cell? ⟨w.heap.size, 0, none⟩ = some (.slice none 0 0) := by rw [k4.cell]; rfl
    clear x3 f3 k3 k4
    refine bodyPost_ret (v := .tuple #[.agg #[.slice none 0 0], .int .i64 2]) (by simp [results, Try.results44, go_sem, x4]) rfl ⟨⟨_, by rw [HE.out], by rw [HE.out]; exact setN_nil _ _⟩, hB4⟩
   by_cases h2 : x.2 < x.1
   ·skip
    have hm : makeF l = ([], 2) := by
     unfold makeF
     rw [if_neg]
     intro ha
     have := List.all_eq_true.1 ha x HM.out
     rw [show fineS x = false by simp [fineS]; omega] at this
     cases this
    have k3 := k2.grows hg
    have x3 := k3.cell 0
    have f3 := k3.frozen 0
    have HE := Lib.hid hm
    clear hm
    go_wp2
    have k4 := k3.set_ 0 (.slice none 0 0)
    have hB4 := (below_grows hB (Nat.le_refl _) hg).setCell (p := ⟨w.heap.size, 0, none⟩) (Nat.le_refl _) (.slice none 0 0)
    generalize World.setCell _ _ _ = w5 at *
    have x4 : w5.cell? ⟨w.heap.size, 0, none⟩ = some (.slice none 0 0) := by rw [k4.cell]; rfl
    clear x3 f3 k3 k4
    refine bodyPost_ret (v := .tuple #[.agg #[.slice none 0 0], .int .i64 2]) (by simp [results, Try.results44, go_sem, x4]) rfl ⟨⟨_, by rw [HE.out], by rw [HE.out]; exact setN_nil _ _⟩, hB4⟩
   by_cases h3 : 2147483647 < x.2
   ·skip
    have hm : makeF l = ([], 2) := by
     unfold makeF
     rw [if_neg]
     intro ha
     have := List.all_eq_true.1 ha x HM.out
     rw [show fineS x = false by simp [fineS]; omega] at this
     cases this
    have k3 := k2.grows hg
    have x3 := k3.cell 0
    have f3 := k3.frozen 0
    have HE := Lib.hid hm
    clear hm
    go_wp2
    have k4 := k3.set_ 0 (.slice none 0 0)
    have hB4 := (below_grows hB (Nat.le_refl _) hg).setCell (p := ⟨w.heap.size, 0, none⟩) (Nat.le_refl _) (.slice none 0 0)
    generalize World.setCell _ _ _ = w5 at *
    have x4 : w5.cell? ⟨w.heap.size, 0, none⟩ = some (.slice none 0 0) := by rw [k4.cell]; rfl
    clear x3 f3 k3 k4
    refine bodyPost_ret (v := .tuple #[.agg #[.slice none 0 0], .int .i64 2]) (by simp [results, Try.results44, go_sem, x4]) rfl ⟨⟨_, by rw [HE.out], by rw [HE.out]; exact setN_nil _ _⟩, hB4⟩
   have HF : Hid (fineS x = true) := Lib.hid ((fineS_iff x).2 ⟨by omega, by omega, by omega⟩)
   go_wp2
   go_roundw
   case rel => exact ⟨k + 1, by omega, by go_num, by rw [HX.out, hall, HF.out]; rfl, hg⟩
   case measure => simp [intOf]; omega
  ·have e : l.take k = l := List.take_of_length_le (by omega)
   rw [e] at hall
   have hf : ∀ x ∈ l, fineS x = true := List.all_eq_true.1 hall
   have hm : makeF l = if 64 < (formS l).length then ([], 3) else (formS l, 0) := if_pos hall
   have HE := Lib.hid hm
   clear hm e hall
   go_wp2_with fail
   refine (joined_any A c l _ (h1.grows hg) (by omega) hf).mono ?_
   rintro e w2 ⟨⟨v, rfl, hown⟩, hq⟩
   have hg4 := below_grows hg (Nat.le_refl _) hq
   have hfl : (formS l).length ≤ 100000 := by have := (formS_forms hf).2.2; omega
   obtain ⟨A4, c4, rfl, hc4, hr4, hlo4⟩ := hown.read
   have HLO : Hid (∀ ad, A4 = some ad → w.heap.size ≤ ad.block) := Lib.hid fun ad e => Nat.le_trans (Nat.le_trans hB.size hg.size) (hlo4 ad e)
   clear hlo4
   clear hq hg hown
   generalize hfo : formS l = o at *
   clear hfo
   have k6 := Blk.new w2 51 #[.slice A4 o.length c4]
   have hq := (Below.refl w2.heap.size w2).alloc (Nat.le_refl _) (Obj.cells #[.slice A4 o.length c4] 51)
   replace hg4 := below_grows hg4 (Nat.le_refl _) hq
   replace hr4 := hr4.grows hq
   clear hq
   go_upto_region 8 with fail
   generalize World.alloc w2 _ = w3 at *
   generalize w2.heap.size = G6 at *
   have x6 := k6.cell 0
   have k3 := k2.grows hg4
   have x3 := k3.cell 0
   have f3 := k3.frozen 0
   by_cases h64 : 64 < o.length
   ·have hm : makeF l = ([], 3) := by rw [HE.out, if_pos h64]
    replace HE := Lib.hid hm
    clear hm
    go_wp2
    have k4 := k3.set_ 0 (.slice none 0 0)
    have hB4 := (below_grows hB (Nat.le_refl _) hg4).setCell (p := ⟨w.heap.size, 0, none⟩) (Nat.le_refl _) (.slice none 0 0)
    generalize World.setCell _ _ _ = w5 at *
    have x4 : w5.cell? ⟨w.heap.size, 0, none⟩ = some (.slice none 0 0) := by rw [k4.cell]; rfl
    clear x3 f3 k3 k4
    refine bodyPost_ret (v := .tuple #[.agg #[.slice none 0 0], .int .i64 3]) (by simp [results, Try.results44, go_sem, x4]) rfl ⟨⟨_, by rw [HE.out], by rw [HE.out]; exact setN_nil _ _⟩, hB4⟩
   ·have hm : makeF l = (o, 0) := by rw [HE.out, if_neg h64]
    replace HE := Lib.hid hm
    clear hm
    go_wp2
    have k4 := k3.set_ 0 (.slice A4 o.length c4)
    have hB4 := (below_grows hB (Nat.le_refl _) hg4).setCell (p := ⟨w.heap.size, 0, none⟩) (Nat.le_refl _) (.slice A4 o.length c4)
    have hr5 := hr4.setOther k3 (.slice A4 o.length c4)
    generalize World.setCell _ _ _ = w5 at *
    have x4 : w5.cell? ⟨w.heap.size, 0, none⟩ = some (.slice A4 o.length c4) := by rw [k4.cell]; rfl
    clear x3 f3 k3 k4
    refine bodyPost_ret (v := .tuple #[.agg #[.slice A4 o.length c4], .int .i64 0]) (by simp [results, Try.results44, go_sem, x4]) rfl ⟨⟨_, by rw [HE.out], by rw [HE.out]; exact ⟨A4, c4, rfl, hc4, hr5, HLO.out⟩⟩, hB4⟩
theorem only_own {a w w' : World} {g : Nat} {row : Option Nat} (h : a.grownBy w (some g)) (hg : w.grownBy w' row) (hr : ∀ q, row = some q → a.heap.size ≤ q) : a.grownBy w' (some g) :=
 ⟨hg.os.trans h.os, hg.tape.trans h.tape, hg.output.trans h.output, Nat.le_trans h.size hg.size, fun k hk hn => (hg.block k (Nat.lt_of_lt_of_le hk h.size) (fun e => by have := hr k e.symm; omega)).trans (h.block k hk hn)⟩
theorem only_trans {a w w' : World} {g : Nat} (h : a.grownBy w (some g)) (hg : w.grownBy w' (some g)) : a.grownBy w' (some g) :=
 ⟨hg.os.trans h.os, hg.tape.trans h.tape, hg.output.trans h.output, Nat.le_trans h.size hg.size, fun k hk hn => (hg.block k (Nat.lt_of_lt_of_le hk h.size) hn).trans (h.block k hk hn)⟩
theorem only_set {a w : World} {g : Nat} (h : a.grownBy w (some g)) {p : Addr} (hp : a.heap.size ≤ p.block) (u : Value) : a.grownBy (w.setCell p u) (some g) :=
 ⟨h.os, h.tape, h.output, by simpa [World.setCell] using h.size, fun k hk hn => (Below.heap_setCell w p u k (fun e => by omega)).trans (h.block k hk hn)⟩
theorem DR.grown {w w' : World} {B g : Nat} (h : DR w B g) {row : Option Nat} (hg : w.grownBy w' row) (hr : ∀ q, row = some q → g < q) : DR w' B g := by
 obtain ⟨l, A, c, h⟩ := h
 have hgl := h.blk.lt
 refine ⟨l, A, c, h.blk.grown hg (fun e => by have := hr g e.symm; omega), ?_, h.cap, h.lo, h.wf, h.len⟩
 refine Reads.keep h.bytes fun p hp => World.cell?_of_block (hg.block p.block (by have := h.lo; omega) (fun e => by have := hr _ e.symm; have := h.lo; omega))
theorem own_kept {w w' : World} {b : Nat} {v : Value} {l : List Sp} (h : Own w b v l) {g : Nat} (hg : w.grownBy w' (some g)) (hb : g < b) : Own w' b v l := by
 refine World.ownsRow.kept h hg ?_
 cases e : v.ownBlock with
 | none => exact .inl rfl
 | some q =>
  refine .inr fun e2 => ?_
  have := (World.ownsRow.lt h q e).1
  injection e2 with e2
  omega
set_option maxHeartbeats 4000000 in
theorem map_any (B g : Nat) (w : World) (h : DR w B g) : Calls Try.prog 27 #[.pointer (some ⟨g, 0, none⟩)] w fun e w' => (∃ m A c, e = .returned (.slice A (m : List Int).length c) ∧ m ∈ mapsL ∧ m.length ≤ c ∧ InB w' (Ge w.heap.size) A m) ∧ DR w' B g ∧ w.grownBy w' (some g) := by
 have hgl := h.lt
 obtain ⟨W, A, hcall, hm, hg⟩ := maps_lit w
 replace h := h.grows hg
 have hq := d_only_grows (World.grownBy.refl w (some g)) hg
 go_enter Try.func27, Try.ntmps27
 go_wp2_with fail
 refine hcall.mono ?_
 rintro e w1 ⟨rfl, rfl⟩
 clear hcall
 go_wp2_with fail
 refine (rolls_any B g 7 _ h (by omega) (by omega)).mono ?_
 rintro e w2 ⟨⟨r, rfl, hr0, hr1⟩, hD, hq2⟩
 replace hm := hm.grown hq2 (fun q e => by injection e with e; unfold Ge; omega)
 replace hq := only_trans hq hq2
 clear hq2 h hg
 obtain ⟨k, rfl⟩ : ∃ k : Nat, r = (k : Int) := ⟨r.toNat, by omega⟩
 obtain ⟨ad, x, C, cx, e1, had, hx, q0, hcx, hix⟩ := hm.elem (show k < mapsL.length by rw [mapsL_len]; omega)
 injection e1 with e1
 subst e1
 have HX := Lib.hid (List.mem_of_getElem? hx)
 clear hx
 go_wp2
 go_ret
 exact ⟨⟨x, C, cx, rfl, HX.out, hcx, hix⟩, hD, hq⟩
theorem forms_within {q : List Sp} {lo hi : Int} (hq : 0 < q.length) (hl : q.length ≤ 64) (hf : ∀ x ∈ q, fineS x = true ∧ lo ≤ x.1 ∧ x.2 ≤ hi) : makeF q = (formS q, 0) ∧ withinS (formS q) lo hi = true ∧ (formS q).length ≤ q.length := by
 have hf1 : ∀ x ∈ q, fineS x = true := fun x hx => (hf x hx).1
 have hF := formS_forms (l := q) hf1
 have hlen : (formS q).length ≤ 64 := Nat.le_trans hF.2.2 hl
 have hall : q.all fineS = true := List.all_eq_true.2 hf1
 have hok : okS (formS q) = true := by
  have hfine : ∀ x ∈ formS q, fineS x = true := mergeL_fine _ fun x hx => hf1 x ((sortS_perm q).mem_iff.1 hx)
  unfold okS
  rw [List.all_eq_true.2 hfine, (chainS_canon _ fun x hx => ((fineS_iff x).1 (hfine x hx)).2.1).2 hF.1, decide_eq_true hlen]
  rfl
 have hne : 0 < (formS q).length := by
  rcases Nat.eq_zero_or_pos (formS q).length with h0 | h0
  ·exfalso
   have e := List.eq_nil_of_length_eq_zero h0
   obtain ⟨x, hx⟩ : ∃ x, x ∈ q := ⟨q[0], List.getElem_mem hq⟩
   have hxf := (fineS_iff x).1 (hf1 x hx)
   have := (hF.2.1 x.1).2 ⟨x, hx, by omega, by omega⟩
   rw [e] at this
   exact mem_nil _ this
  ·exact h0
 have hin : ∀ x ∈ formS q, lo ≤ x.1 ∧ x.2 ≤ hi := by
  intro x hx
  have hxf := hF.1.1 x hx
  obtain ⟨y, hy, h1, h2⟩ := (hF.2.1 x.1).1 ⟨x, hx, by omega, by omega⟩
  obtain ⟨z, hz, h3, h4⟩ := (hF.2.1 x.2).1 ⟨x, hx, by omega, by omega⟩
  have := (hf y hy).2
  have := (hf z hz).2
  omega
 refine ⟨by unfold makeF; rw [if_pos hall, if_neg (by omega)], ?_, hF.2.2⟩
 unfold withinS
 rw [hok, decide_eq_true hne]
 have h1 : (formS q).headD (0, 0) ∈ formS q := by
  cases e : formS q with
  | nil => rw [e] at hne; simp at hne
  | cons x l => simp
 have h2 : (formS q).getLastD (0, 0) ∈ formS q := by
  cases e : formS q with
  | nil => rw [e] at hne; simp at hne
  | cons x l => rw [List.getLastD_cons]; exact List.getLastD_mem_cons
 simp only [Bool.true_and, Bool.and_eq_true, decide_eq_true_eq]
 exact ⟨(hin _ h1).1, (hin _ h2).2⟩
set_option maxHeartbeats 8000000 in
theorem set_any (B g : Nat) (A : Option Addr) (c : Nat) (l : List Sp) (lo hi : Int) (w : World) (h : DR w B g) (hl : SpB w (Ge (g + 1)) A l) (hn : 1 ≤ l.length) (hn2 : l.length ≤ 50) (hf : ∀ x ∈ l, fineS x = true ∧ lo ≤ x.1 ∧ x.2 ≤ hi) :
 Calls Try.prog 26 #[.pointer (some ⟨g, 0, none⟩), .slice A l.length c] w fun e w' => (∃ s A2 c2, e = .returned (.agg #[.slice A2 s.length c2]) ∧ (s : List Sp).length ≤ c2 ∧ s.length ≤ l.length ∧ SpB w' (Ge w.heap.size) A2 s ∧ withinS s lo hi = true) ∧ DR w' B g ∧ w.grownBy w' (some g) := by
 have HF := Lib.hid hf
 clear hf
 have hgl := h.lt
 have hBg := h.lo
 replace hl : RdB w (Btw (g + 1) w.heap.size) 2 A l.length (scells l) := ⟨hl.1, fun hn ad e => ⟨hl.2 hn ad e, (RdB.under hl).2 hn ad e⟩⟩
 have k4 := Blk.new w 51 #[.slice none 0 0]
 have hB := (Below.refl w.heap.size w).alloc (Nat.le_refl _) (Obj.cells #[.slice none 0 0] 51)
 go_enter Try.func26, Try.ntmps26
 go_upto_region 2 with fail
 have hD := h.grows hB
 have hO := d_only_grows (World.grownBy.refl w (some g)) hB
 replace hl := RdB.grows hl hB
 have hs1 : (w.alloc (Obj.cells #[.slice none 0 0] 51)).heap.size = w.heap.size + 1 := by simp
 have hsz1 := Nat.le_of_eq hs1.symm
 clear hs1
 clear hB h
 generalize World.alloc w _ = w1 at *
 go_wp2_with fail
 go_loopw [5, 12] (fun v i wr => ∃ (k : Nat) (q : List Sp), k ≤ l.length ∧ i = .int .i64 k ∧ Hid (∀ y ∈ q, y ∈ l) ∧ q.length ≤ k ∧ RdB wr (Btw (g + 1) w.heap.size) 2 A l.length (scells l) ∧ w.heap.size + 1 ≤ wr.heap.size ∧ Own wr (w.heap.size + 1) v q ∧ Blk wr w.heap.size 51 #[.slice none 0 0] ∧ DR wr B g ∧ w.grownBy wr (some g)) (fun _ i _ => l.length - (intOf i).toNat)
 case atStart => exact ⟨0, [], by omega, rfl, Lib.hid (by simp), by simp, hl, hsz1, own_nil _ _, k4, hD, hO⟩
 case round =>
  clear k4 hD hO hl hsz1
  obtain ⟨k, q, hk, rfl, HQ, hql, hl, hsz, ho, k4, hD, hO⟩ := hrel
  have hsl : Sps wr A l := hl.1
  by_cases hlt : k < l.length
  ·obtain ⟨ad, x, e1, had, hx, q0, q1⟩ := hsl.elem hlt
   subst e1
   have HX := Lib.hid (List.mem_of_getElem? hx)
   clear hx hsl
   have k7 := Blk.new wr 74 #[.int .i64 x.1, .int .i64 x.2]
   have hq := (Below.refl wr.heap.size wr).alloc (Nat.le_refl _) (Obj.cells #[.int .i64 x.1, .int .i64 x.2] 74)
   go_upto_region 5 with fail
   replace ho := ho.grows hq
   replace k4 := k4.grows hq
   replace hD := hD.grows hq
   replace hO := d_only_grows hO hq
   replace hl := RdB.grows hl hq
   have hsz5 := Nat.le_trans hsz hq.size
   have hG7 : g ≠ wr.heap.size := by omega
   clear hq q0 q1 hsz
   generalize World.alloc wr _ = w5 at *
   generalize wr.heap.size = G7 at *
   go_wp2_with fail
   refine (rolls_any B g 2 _ hD (by omega) (by omega)).mono ?_
   rintro e w6 ⟨⟨r, rfl, hr0, hr1⟩, hD6, hq⟩
   replace hD := hD6
   replace ho := own_kept ho hq (by omega)
   replace k4 := k4.grown hq (by intro e; injection e; omega)
   replace k7 := k7.grown hq (by intro e; injection e; omega)
   replace hO := only_trans hO hq
   replace hl := RdB.grown hl hq (fun q e => by injection e with e; unfold Btw; omega)
   have hsz6 := Nat.le_trans hsz5 hq.size
   clear hq hD6 hsz5
   by_cases h1 : r = 1
   case neg =>
    have d1 : (r == 1) = false := by simpa using h1
    clear h1
    go_wp2
    go_roundw
    case rel => exact ⟨k + 1, q, by omega, by go_num, HQ, by omega, hl, hsz6, ho, k4, hD, hO⟩
    case measure => simp [intOf]; omega
   have d1 : (r == 1) = true := by simpa using h1
   have x7 := k7.cell
   go_upto_region 6 with fail
   refine wp_region_lit ?_
   iterate 3
    refine wpList_plain rfl (fun K hK => ?_)
    go_simp
    refine hK _ _ ?_
    clear hK K
   have hr := sps_lit w6 x
   have hq := (Below.refl w6.heap.size w6).alloc (Nat.le_refl _) (Obj.cells (csS x) 74)
   have ho1 := ho.grows hq
   refine wpList_append_sp rfl (.tmp 19) (.tmp 21) rfl (l := q) (m := [x]) rfl rfl ho1 rfl hr (by simp only [List.length_cons, List.length_nil]; omega) (Nat.le_trans hsz6 hq.size) ?_
   intro v5 w12 ho2 hgr
   have hob := ho1.lt
   have hsz7 := hq.size
   replace k4 := (k4.grows hq).grown hgr (fun e => by have := (hob _ e.symm).1; omega)
   replace hD := (hD.grows hq).grown hgr (fun q e => by have := (hob q e).1; omega)
   replace hO := only_own (d_only_grows hO hq) hgr (fun q e => by have := (hob q e).1; omega)
   have hl2 := RdB.grown (RdB.grows hl hq) hgr (fun q e => by have := (hob q e).1; unfold Btw; omega)
   have hsz12 := Nat.le_trans hsz6 (Nat.le_trans hq.size hgr.size)
   have HQ2 : Hid (∀ y ∈ q ++ [x], y ∈ l) := Lib.hid (by
    intro y hy
    rcases List.mem_append.1 hy with hy | hy
    ·exact HQ.out y hy
    ·simp only [List.mem_singleton] at hy
     exact hy ▸ HX.out)
   have hql2 : (q ++ [x]).length ≤ k + 1 := by rw [List.length_append]; exact Nat.succ_le_succ hql
   clear hq hgr ho ho1 hr hob hsz7 hl HQ
   generalize q ++ [x] = q2 at *
   go_wp2
   go_roundw
   case rel => exact ⟨k + 1, q2, by omega, by go_num, HQ2, hql2, hl2, hsz12, ho2, k4, hD, hO⟩
   case measure => simp [intOf]; omega
  ·obtain rfl : k = l.length := by omega
   by_cases h0 : q.length = 0
   case neg =>
    have hq0 : 0 < q.length := by omega
    obtain ⟨A5, c5, e7, hc5, hs5, -⟩ := ho.read
    subst e7
    have d0 : ((q.length : Int) == 0) = false := by simp only [beq_eq_false_iff_ne, ne_eq]; omega
    clear h0 hl
    have hqL : q.length ≤ l.length := hql
    obtain ⟨hm, hwi, hl64⟩ := forms_within (lo := lo) (hi := hi) (q := q) hq0 (by omega) (fun x hx => HF.out x (HQ.out x hx))
    have HM := Lib.hid hm
    have HWI := Lib.hid hwi
    clear hm hwi ho
    have hw9 := hsz
    go_wp2_with fail
    refine (rmakeb_any A5 c5 q _ hs5 (by omega)).mono ?_
    rw [HM.out]
    generalize formS q = s at *
    rintro e w9 ⟨⟨v, rfl, A6, c6, rfl, hc6, hs6, hlo6⟩, hq⟩
    have hr6 : RdB w9 (Ge (w.heap.size + 1)) 2 A6 s.length (scells s) := ⟨hs6, fun _ ad e => Nat.le_trans hsz (hlo6 ad e)⟩
    replace k4 := k4.grows hq
    replace hD := hD.grows hq
    replace hO := d_only_grows hO hq
    have hsz9 := Nat.le_trans hsz hq.size
    clear hq hs6 hlo6 hsz hw9
    have k8 := Blk.new w9 51 #[.slice A6 s.length c6]
    have hq := (Below.refl w9.heap.size w9).alloc (Nat.le_refl _) (Obj.cells #[.slice A6 s.length c6] 51)
    go_upto_region 11 with fail
    replace k4 := k4.grows hq
    replace hD := hD.grows hq
    replace hO := d_only_grows hO hq
    replace hr6 := RdB.grows hr6 hq
    clear hq
    generalize World.alloc w9 _ = w10 at *
    generalize w9.heap.size = G8 at *
    have x8 := k8.cell 0
    have x4 := k4.cell 0
    have hf4 := k4.frozen
    have y4 := k4.set_ 0 (.slice A6 s.length c6)
    have yD := hD.put (p := ⟨w.heap.size, 0, none⟩) (Nat.le_trans hBg (Nat.le_of_lt hgl)) (Nat.ne_of_lt hgl) (.slice A6 s.length c6)
    have yO := only_set hO (p := ⟨w.heap.size, 0, none⟩) (Nat.le_refl _) (.slice A6 s.length c6)
    have yR := RdB.grown hr6 (d_only_set (World.grownBy.refl _ (some w.heap.size)) 0 (.slice A6 s.length c6)) (fun q e => by injection e with e; unfold Ge; omega)
    have y6 := y4.cell 0
    clear k4 k8 hD hO hr6
    go_wp2
    refine bodyPost_ret (v := .agg #[.slice A6 s.length c6]) (by simp [results, Try.results26, go_sem, y6]) rfl ⟨⟨s, A6, c6, rfl, hc6, Nat.le_trans hl64 hqL, RdB.mono yR (fun k hk => by unfold Ge at *; omega), HWI.out⟩, yD, yO⟩
   obtain rfl := List.eq_nil_of_length_eq_zero h0
   clear h0 HQ hql
   obtain ⟨A7, c7, e7, hc7, -, -⟩ := ho.read
   subst e7
   have d0 : ((([] : List Sp).length : Int) == 0) = true := rfl
   go_upto_region 9 with fail
   refine wp_region_lit ?_
   iterate 5
    refine BigFrame.wpList_want (by first | rfl | kernel_rfl) (fun K hK => ?_)
    go_simp
    refine hK _ _ ?_
    clear hK K
   refine BigFrame.wpList_want (by first | rfl | kernel_rfl) (fun K hK => ?_)
   go_simp
   refine (rolls_any B g (l.length : Int) _ hD (by omega) (by omega)).mono ?_
   rintro e w6 ⟨⟨r, rfl, hr0, hr1⟩, hD6, hq⟩
   refine hK _ _ ?_
   clear hK K
   replace hD := hD6
   replace ho := own_kept ho hq (by omega)
   replace k4 := k4.grown hq (by intro e; injection e; omega)
   replace hO := only_trans hO hq
   replace hl := RdB.grown hl hq (fun q e => by injection e with e; unfold Btw; omega)
   replace hsz := Nat.le_trans hsz hq.size
   clear hq hD6
   obtain ⟨j, rfl⟩ : ∃ j : Nat, r = (j : Int) := ⟨r.toNat, by omega⟩
   have hsl : Sps w6 A l := hl.1
   obtain ⟨ad, x, e1, had, hx, q0, q1⟩ := hsl.elem (show j < l.length by omega)
   subst e1
   have HX := Lib.hid (List.mem_of_getElem? hx)
   clear hx hsl
   iterate 3
    refine BigFrame.wpList_want (by first | rfl | kernel_rfl) (fun K hK => ?_)
    go_simp
    refine hK _ _ ?_
    clear hK K
   have hr := sps_lit w6 x
   have hq := (Below.refl w6.heap.size w6).alloc (Nat.le_refl _) (Obj.cells (csS x) 74)
   have ho1 := ho.grows hq
   refine wpList_append_sp rfl (.tmp 27) (.tmp 35) rfl (l := []) (m := [x]) rfl rfl ho1 rfl hr (by simp) (Nat.le_trans hsz hq.size) ?_
   intro v5 w12 ho2 hgr
   have hob := ho1.lt
   replace k4 := (k4.grows hq).grown hgr (fun e => by have := (hob _ e.symm).1; omega)
   have hsz7 := hq.size
   replace hD := (hD.grows hq).grown hgr (fun q e => by have := (hob q e).1; omega)
   replace hO := only_own (d_only_grows hO hq) hgr (fun q e => by have := (hob q e).1; omega)
   replace hsz := Nat.le_trans hsz (Nat.le_trans hq.size hgr.size)
   have HQ : Hid (∀ y ∈ [x], y ∈ l) := Lib.hid (by intro y hy; simp only [List.mem_singleton] at hy; exact hy ▸ HX.out)
   rw [List.nil_append] at ho2
   replace ho := ho2
   have hq0 : 0 < [x].length := by simp
   clear hq hgr ho1 hr hob hsz7 hl q0 q1 ho2
   have hqx : [x].length ≤ 50 := by simp
   have hqL : [x].length ≤ l.length := hn
   generalize [x] = qx at *
   skip
   obtain ⟨A5, c5, rfl, hc5, hs5, -⟩ := ho.read
   obtain ⟨hm, hwi, hl64⟩ := forms_within (lo := lo) (hi := hi) (q := qx) hq0 (by omega) (fun x hx => HF.out x (HQ.out x hx))
   have HM := Lib.hid hm
   have HWI := Lib.hid hwi
   clear hm hwi ho
   have hw9 := hsz
   go_wp2_with fail
   refine (rmakeb_any A5 c5 qx _ hs5 (by omega)).mono ?_
   rw [HM.out]
   generalize formS qx = s at *
   rintro e w9 ⟨⟨v, rfl, A6, c6, rfl, hc6, hs6, hlo6⟩, hq⟩
   have hr6 : RdB w9 (Ge (w.heap.size + 1)) 2 A6 s.length (scells s) := ⟨hs6, fun _ ad e => Nat.le_trans hsz (hlo6 ad e)⟩
   replace k4 := k4.grows hq
   replace hD := hD.grows hq
   replace hO := d_only_grows hO hq
   have hsz9 := Nat.le_trans hsz hq.size
   clear hq hs6 hlo6 hsz hw9
   have k8 := Blk.new w9 51 #[.slice A6 s.length c6]
   have hq := (Below.refl w9.heap.size w9).alloc (Nat.le_refl _) (Obj.cells #[.slice A6 s.length c6] 51)
   go_upto_region 11 with fail
   replace k4 := k4.grows hq
   replace hD := hD.grows hq
   replace hO := d_only_grows hO hq
   replace hr6 := RdB.grows hr6 hq
   clear hq
   generalize World.alloc w9 _ = w10 at *
   generalize w9.heap.size = G8 at *
   have x8 := k8.cell 0
   have x4 := k4.cell 0
   have hf4 := k4.frozen
   have y4 := k4.set_ 0 (.slice A6 s.length c6)
   have yD := hD.put (p := ⟨w.heap.size, 0, none⟩) (Nat.le_trans hBg (Nat.le_of_lt hgl)) (Nat.ne_of_lt hgl) (.slice A6 s.length c6)
   have yO := only_set hO (p := ⟨w.heap.size, 0, none⟩) (Nat.le_refl _) (.slice A6 s.length c6)
   have yR := RdB.grown hr6 (d_only_set (World.grownBy.refl _ (some w.heap.size)) 0 (.slice A6 s.length c6)) (fun q e => by injection e with e; unfold Ge; omega)
   have y6 := y4.cell 0
   clear k4 k8 hD hO hr6
   go_wp2
   refine bodyPost_ret (v := .agg #[.slice A6 s.length c6]) (by simp [results, Try.results26, go_sem, y6]) rfl ⟨⟨s, A6, c6, rfl, hc6, Nat.le_trans hl64 hqL, RdB.mono yR (fun k hk => by unfold Ge at *; omega), HWI.out⟩, yD, yO⟩
end Go.Proofs.Ytjbkjgmcfommgaa

namespace Go.Proofs.Ytjbkjgmcfommgaa
open Go.RowKit
def KP (k : Int) : Prop := 2 ≤ k ∧ k ≤ 254 ∧ k % 2 = 0
theorem kp_shl {r : Int} (h0 : 0 ≤ r) (h1 : r < 7) : KP (wrap64 (2 ^ (1 + r).toNat)) := by
 obtain ⟨n, rfl⟩ : ∃ n : Nat, r = (n : Int) := ⟨r.toNat, by omega⟩
 have hn : n < 7 := by omega
 unfold KP
 match n, hn with
 | 0, _ => decide +kernel
 | 1, _ => decide +kernel
 | 2, _ => decide +kernel
 | 3, _ => decide +kernel
 | 4, _ => decide +kernel
 | 5, _ => decide +kernel
 | 6, _ => decide +kernel
 | n + 7, h => exact absurd h (by omega)
theorem kp_or_ : ∀ a : Fin 256, ∀ b : Fin 256, a.val % 2 = 0 → b.val % 2 = 0 → 2 ≤ a.val → (2 ≤ a.val ||| b.val ∧ a.val ||| b.val ≤ 254 ∧ (a.val ||| b.val) % 2 = 0) := by
 intro a b ha hb h2
 have h3 : (a.val ||| b.val) < 2 ^ 8 := Nat.or_lt_two_pow a.isLt b.isLt
 have h4 := Nat.testBit_or a.val b.val 0
 rw [Nat.testBit_zero, Nat.testBit_zero, Nat.testBit_zero, decide_eq_false (show ¬ a.val % 2 = 1 by omega), decide_eq_false (show ¬ b.val % 2 = 1 by omega), Bool.or_false, decide_eq_false_iff_not] at h4
 have h5 : a.val ≤ a.val ||| b.val := Nat.left_le_or
 omega
theorem kp_or {a b : Int} (ha : KP a) (hb : KP b) : KP (bits .or .i64 a b) := by
 obtain ⟨n, rfl⟩ : ∃ n : Nat, a = (n : Int) := ⟨a.toNat, by unfold KP at ha; omega⟩
 obtain ⟨m, rfl⟩ : ∃ m : Nat, b = (m : Int) := ⟨b.toNat, by unfold KP at hb; omega⟩
 unfold KP at ha hb
 have h := kp_or_ ⟨n, by omega⟩ ⟨m, by omega⟩ (by simp only; omega) (by simp only; omega) (by simp only; omega)
 have e : bits .or .i64 (n : Int) (m : Int) = ((n ||| m : Nat) : Int) := by
  show IntKind.i64.wrap (((BitVec.ofInt 64 (n : Int)) ||| (BitVec.ofInt 64 (m : Int))).toNat : Int) = _
  have e1 : (BitVec.ofInt 64 (n : Int)).toNat = n := by rw [BitVec.toNat_ofInt]; omega
  have e2 : (BitVec.ofInt 64 (m : Int)).toNat = m := by rw [BitVec.toNat_ofInt]; omega
  rw [BitVec.toNat_or, e1, e2]
  exact IntWalk.i64_in _ (by simp only at h; omega)
 rw [e]
 unfold KP
 simp only at h
 omega
theorem kinds_of_ : ∀ n : Fin 256, n.val % 2 = 0 → 2 ≤ n.val → kindsOk (n.val : Int) = true := by decide +kernel
theorem kinds_of {k : Int} (h : KP k) : kindsOk k = true := by
 obtain ⟨n, rfl⟩ : ∃ n : Nat, k = (n : Int) := ⟨k.toNat, by unfold KP at h; omega⟩
 unfold KP at h
 exact kinds_of_ ⟨n, by omega⟩ (by simp only; omega) (by simp only; omega)
/-- A row of channel maps of one's own, apart from what its members take, which lies at or above lo. -/
def OwnM (w : World) (base lo : Nat) (v : Value) (ms : List (List Int)) : Prop :=
 ∃ vs, w.ownsRow base 42 1 v ms.length vs ∧ ∀ (i : Nat) (x : List Int), ms[i]? = some x → ∃ B c, vs[i]? = some (.slice B x.length c) ∧ x.length ≤ c ∧ InB w (Ge lo) B x ∧ (∀ ad, B = some ad → 0 < x.length → v.ownBlock ≠ some ad.block)
theorem InB.away {w w' : World} {ok : Nat → Prop} {B : Option Addr} {x : List Int} (h : InB w ok B x) {row : Option Nat} (hg : w.grownBy w' row) (hne : ∀ ad, B = some ad → 0 < x.length → row ≠ some ad.block) : InB w' ok B x := by
 refine ⟨⟨h.1.1, fun hn => ?_⟩, h.2⟩
 obtain ⟨ad, e, hb, hc⟩ := h.1.2 hn
 have hn2 : some ad.block ≠ row := fun e2 => hne ad e hn e2.symm
 exact ⟨ad, e, Nat.lt_of_lt_of_le hb hg.size, fun j u hu => (World.cell?_of_block (hg.block (ad.add j).block (by rw [block_of_add]; exact hb) (by rw [block_of_add]; exact hn2))).trans (hc j u hu)⟩
section
variable {w w' : World} {base lo g : Nat} {v : Value} {ms : List (List Int)}
theorem OwnM.nil : OwnM w base lo (.slice none 0 0) [] := ⟨[], World.ownsRow_nil w base _ 1, fun i x h => by simp at h⟩
theorem OwnM.grows (h : OwnM w base lo v ms) (hg : Grows w w') : OwnM w' base lo v ms := by
 obtain ⟨vs, h1, h2⟩ := h
 exact ⟨vs, own_grows h1 hg, fun i x hx => by obtain ⟨B, c, e, hc, hi, hn⟩ := h2 i x hx; exact ⟨B, c, e, hc, hi.grows hg, hn⟩⟩
theorem OwnM.only (h : OwnM w base lo v ms) (hg : w.grownBy w' (some g)) (hb : g < base) (hl : g < lo) : OwnM w' base lo v ms := by
 obtain ⟨vs, h1, h2⟩ := h
 refine ⟨vs, World.ownsRow.kept h1 hg ?_, fun i x hx => by obtain ⟨B, c, e, hc, hi, hn⟩ := h2 i x hx; exact ⟨B, c, e, hc, RdB.grown hi hg (fun q e => by injection e with e; unfold Ge; omega), hn⟩⟩
 cases e : v.ownBlock with
 | none => exact .inl rfl
 | some q =>
  refine .inr fun e2 => ?_
  have := (World.ownsRow.lt h1 q e).1
  injection e2 with e2
  omega
theorem OwnM.lt (h : OwnM w base lo v ms) : ∀ q, v.ownBlock = some q → base ≤ q ∧ q < w.heap.size := by
 obtain ⟨vs, h1, -⟩ := h
 exact World.ownsRow.lt h1
theorem OwnM.read (h : OwnM w base lo v ms) (hb : lo ≤ base) : ∃ A c, v = .slice A ms.length c ∧ ms.length ≤ c ∧ MapsR w (Ge lo) A ms := by
 obtain ⟨vs, h1, h2⟩ := h
 have hlt := World.ownsRow.lt h1
 rcases h1.2 with ⟨rfl, hn⟩ | ⟨q, cap, cur, rfl, hbq, hg, hnc, hm, hs, ht⟩
 ·have e := List.eq_nil_of_length_eq_zero hn
  subst e
  exact ⟨none, 0, rfl, Nat.le_refl _, MapsR.nil⟩
 ·refine ⟨_, cap, rfl, hnc, vs, ⟨Reads.of_own h1, fun _ ad e => ?_⟩, fun i x hx => by obtain ⟨B, c, e, hc, hi, _⟩ := h2 i x hx; exact ⟨B, c, e, hc, hi⟩⟩
  injection e with e
  subst e
  exact Nat.le_trans hb hbq
end
set_option maxRecDepth 100000 in
theorem ms_info : ∃ i : TypeInfo, Try.prog.info? 42 = some i ∧ i.size = 1 ∧ i.bytes = 24 ∧ i.zero = some (.slice none 0 0) ∧ (Value.slice none 0 0).cells.size = 1 := ⟨_, by first | exact Try.info42 | rfl, rfl, rfl, rfl, rfl⟩
theorem wpList_append_map {ops : Array Oper} {rest : List Oper} {o : Oper} {a : Act} {w : World} {Q : Exit → Act → World → Prop} (hgd : o.guard = none) (s x : Operand) (ho : o.op = .call { callee := .builtin .append, args := #[s, x], argTypes := #[52, 52] })
 {base lo : Nat} {v : Value} {ms : List (List Int)} {m : List Int} {A B : Option Addr} {c cm : Nat} (hs : a.eval s = v) (hown : OwnM w base lo v ms) (hx : a.eval x = .slice A 1 c) (hr : Reads w w.heap.size 1 A 1 [.slice B m.length cm]) (hlen : ms.length + 1 ≤ 1000000) (hbase : base ≤ w.heap.size)
 (hm : InB w (Ge lo) B m) (hcm : m.length ≤ cm) (hne : ∀ ad, B = some ad → 0 < m.length → v.ownBlock ≠ some ad.block)
 (h : ∀ v' w', OwnM w' base lo v' (ms ++ [m]) → w.grownBy w' v.ownBlock → wpList Try.prog ops Q rest (a.put o.dst v') w') : wpList Try.prog ops Q (o :: rest) a w := by
 obtain ⟨i0, hi0, hi1, hi2, hi3, hi4⟩ := ms_info
 obtain ⟨vs, h1, h2⟩ := hown
 refine wpList_append_any w hgd s x 52 ho base 42 i0 _ 1 24 Try.underlying52 hi0 hi3 hi1 hi2 hi4 (by omega) v ms.length vs hs h1 w.heap.size A 1 c [.slice B m.length cm] hx hr (by intro u hu; simp only [List.mem_singleton] at hu; subst hu; rfl) (by simp only [maxLen]; omega) (by omega) hbase fun v' w' h3 h4 h5 => h v' w' ⟨vs ++ [.slice B m.length cm], by rw [List.length_append]; exact h3, fun i y hy => ?_⟩ h4
 have hapart : ∀ (y : List Int) (C : Option Addr), InB w (Ge lo) C y → (∀ ad, C = some ad → 0 < y.length → v.ownBlock ≠ some ad.block) → ∀ ad, C = some ad → 0 < y.length → v'.ownBlock ≠ some ad.block := by
  intro y C hy hn ad e hl e2
  rcases h5 with h5 | h5
  ·exact hn ad e hl (h5 ▸ e2)
  ·rw [h5] at e2
   injection e2 with e2
   obtain ⟨ad0, e0, hb, _⟩ := hy.1.2 hl
   rw [e] at e0
   injection e0 with e0
   subst e0
   omega
 have hvl : vs.length = ms.length := by have := h1.1; omega
 by_cases hi : i < ms.length
 ·rw [List.getElem?_append_left hi] at hy
  obtain ⟨C, cy, e, hc, hi6, hn⟩ := h2 i y hy
  exact ⟨C, cy, by rw [List.getElem?_append_left (by omega)]; exact e, hc, hi6.away h4 hn, hapart y C hi6 hn⟩
 ·rw [List.getElem?_append_right (by omega)] at hy
  have hi0 : i - ms.length = 0 := by
   have := (List.getElem?_eq_some_iff.1 hy).1
   simp only [List.length_singleton] at this
   omega
  rw [hi0] at hy
  simp only [List.getElem?_cons_zero, Option.some.injEq] at hy
  subst hy
  exact ⟨B, cm, by rw [List.getElem?_append_right (by omega), show i - vs.length = 0 by omega]; rfl, hcm, hm.away h4 hne, hapart m B hm hne⟩
def simM (y m : List Int) : Bool := decide (y.length = m.length) && decide (y.headD 0 = m.headD 0)
theorem sim_self (m : List Int) : simM m m = true := by unfold simM; simp
theorem sim_next {ms : List (List Int)} {m y : List Int} {k : Nat} (h : ms[k]? = some y) : (ms.take (k + 1)).any (fun y => simM y m) = ((ms.take k).any (fun y => simM y m) || simM y m) := by
 rw [take_snoc h, List.any_append]
 simp
theorem sim_not {ms : List (List Int)} {m : List Int} (h : ms.any (fun y => simM y m) = false) : m ∉ ms := fun hm => by
 rw [List.any_eq_false] at h
 exact h m hm (sim_self m)
end Go.Proofs.Ytjbkjgmcfommgaa

namespace Go.Proofs.Ytjbkjgmcfommgaa
open Go.RowKit
theorem sps_lits (w : World) (l : List Sp) (cs : Array Value) (t : TypeId) (h : cs.toList = scells l) : Sps (w.alloc (.cells cs t)) (some ⟨w.heap.size, 0, none⟩) l := by
 have hb := Blk.new w t cs
 refine ⟨by rw [scells_len], fun _ => ⟨_, rfl, by simp, fun j u hu => ?_⟩⟩
 have := hb.cell j
 have e : (⟨w.heap.size, 0, none⟩ : Addr).add j = ⟨w.heap.size, j, none⟩ := by unfold Addr.add; split <;> simp_all
 rw [e, this, ← Array.getElem?_toList, h]
 exact hu
/-- Few spans. -/
def Few (b : Bx) : Prop := b.r.length ≤ 5 ∧ b.s.length ≤ 5
set_option maxHeartbeats 32000000 in
set_option maxRecDepth 10000 in
theorem box_any (B g : Nat) (w : World) (h : DR w B g) : Calls Try.prog 13 #[.pointer (some ⟨g, 0, none⟩)] w fun e w' => (∃ (b : Bx) (v : Value), e = .returned v ∧ BoxV w' (Ge w.heap.size) b v ∧ fineB b = true ∧ OKB b ∧ I64 b.k ∧ Few b) ∧ DR w' B g ∧ w.grownBy w' (some g) := by
 have hgl := h.lt
 have hBg := h.lo
 have k0 := Blk.new w 54 #[.int .i64 0, .slice none 0 0, .slice none 0 0, .slice none 0 0]
 have hB := (Below.refl w.heap.size w).alloc (Nat.le_refl _) (Obj.cells #[.int .i64 0, .slice none 0 0, .slice none 0 0, .slice none 0 0] 54)
 go_enter Try.func13, Try.ntmps13
 go_upto_region 1 with fail
 have hD := h.grows hB
 have hO := d_only_grows (World.grownBy.refl w (some g)) hB
 clear hB h
 generalize World.alloc w _ = w1 at *
 go_wp2_with fail
 refine (rolls_any B g 7 _ hD (by omega) (by omega)).mono ?_
 rintro e w2 ⟨⟨r, rfl, r0, r1⟩, hDn, hq⟩
 replace hD := hDn
 replace k0 := k0.grown hq (by intro e; injection e; omega)
 replace hO := only_trans hO hq
 clear hq hDn
 have hw : IntKind.i64.wrap (1 + r) = 1 + r := IntWalk.i64_in _ (by omega)
 have hK := kp_shl r0 r1
 have k3 := Blk.new w2 54 #[.int .i64 (wrap64 (2 ^ (1 + r).toNat)), .slice none 0 0, .slice none 0 0, .slice none 0 0]
 have hq := (Below.refl w2.heap.size w2).alloc (Nat.le_refl _) (Obj.cells #[.int .i64 (wrap64 (2 ^ (1 + r).toNat)), .slice none 0 0, .slice none 0 0, .slice none 0 0] 54)
 have l03 := k0.lt
 go_upto_region 2 with fail
 generalize wrap64 (2 ^ (1 + r).toNat) = K at *
 have HK := Lib.hid hK
 clear hK hw
 replace hD := hD.grows hq
 replace k0 := k0.grows hq
 replace hO := d_only_grows hO hq
 clear hq
 generalize World.alloc w2 _ = w3 at *
 generalize w2.heap.size = G3 at *
 go_wp2_with fail
 refine (rolls_any B g 3 _ hD (by omega) (by omega)).mono ?_
 rintro e w4 ⟨⟨n0, rfl, n00, n01⟩, hDn, hq⟩
 replace hD := hDn
 replace k0 := k0.grown hq (by intro e; injection e; omega)
 replace k3 := k3.grown hq (by intro e; injection e; omega)
 replace hO := only_trans hO hq
 clear hq hDn
 obtain ⟨m0, rfl⟩ : ∃ m0 : Nat, n0 = (m0 : Int) := ⟨n0.toNat, by omega⟩
 go_wp2_with fail
 go_loopw [4] (fun i wr => ∃ (n : Nat) (K : Int), n ≤ 2 ∧ i = .int .i64 n ∧ Hid (KP K) ∧ Blk wr w.heap.size 54 #[.int .i64 0, .slice none 0 0, .slice none 0 0, .slice none 0 0] ∧ Blk wr G3 54 #[.int .i64 K, .slice none 0 0, .slice none 0 0, .slice none 0 0] ∧ DR wr B g ∧ w.grownBy wr (some g)) (fun i _ => (intOf i).toNat)
 case atStart => exact ⟨m0, K, by omega, rfl, HK, k0, k3, hD, hO⟩
 case round =>
  clear k0 k3 hD hO HK
  obtain ⟨n, K, hn, rfl, HK, k0, k3, hD, hO⟩ := hrel
  by_cases hpos : 0 < n
  ·have d1 : decide ((0 : Int) < (n : Int)) = true := by simp only [decide_eq_true_eq]; omega
   have d2 : decide (0 < n) = true := by simp only [decide_eq_true_eq]; omega
   obtain ⟨l, hD⟩ := hD
   have hrb := rollV_bd l (n := 7) (by omega)
   have hw : IntKind.i64.wrap (1 + rollV l 7) = 1 + rollV l 7 := IntWalk.i64_in _ (by omega)
   have HK2 : Hid (KP (bits .or .i64 K (IntKind.i64.wrap (2 ^ (1 + rollV l 7).toNat)))) := Lib.hid (kp_or HK.out (by rw [IntWalk.i64_left]; exact kp_shl hrb.1 hrb.2))
   have hwn : IntKind.i64.wrap ((n : Int) - 1) = ((n - 1 : Nat) : Int) := by rw [IntWalk.i64_in _ (by omega)]; omega
   go_upto_region 5 with fail
   obtain ⟨S, HI, HO⟩ : ∃ S : Nat → World → Prop, Hid (∀ p w', (w.grownBy w' (some g) ∧ Blk w' w.heap.size 54 #[.int .i64 0, .slice none 0 0, .slice none 0 0, .slice none 0 0] ∧ (p ≤ 1 → Blk w' G3 54 #[.int .i64 K, .slice none 0 0, .slice none 0 0, .slice none 0 0]) ∧ (2 ≤ p → Blk w' G3 54 #[.int .i64 (bits .or .i64 K (IntKind.i64.wrap (2 ^ (1 + rollV l 7).toNat))), .slice none 0 0, .slice none 0 0, .slice none 0 0]) ∧ (p = 0 → Dice w' B g l) ∧ (1 ≤ p → Dice w' B g l.tail)) → S p w') ∧ Hid (∀ p w', S p w' → (w.grownBy w' (some g) ∧ Blk w' w.heap.size 54 #[.int .i64 0, .slice none 0 0, .slice none 0 0, .slice none 0 0] ∧ (p ≤ 1 → Blk w' G3 54 #[.int .i64 K, .slice none 0 0, .slice none 0 0, .slice none 0 0]) ∧ (2 ≤ p → Blk w' G3 54 #[.int .i64 (bits .or .i64 K (IntKind.i64.wrap (2 ^ (1 + rollV l 7).toNat))), .slice none 0 0, .slice none 0 0, .slice none 0 0]) ∧ (p = 0 → Dice w' B g l) ∧ (1 ≤ p → Dice w' B g l.tail))) := ⟨fun p w' => w.grownBy w' (some g) ∧ Blk w' w.heap.size 54 #[.int .i64 0, .slice none 0 0, .slice none 0 0, .slice none 0 0] ∧ (p ≤ 1 → Blk w' G3 54 #[.int .i64 K, .slice none 0 0, .slice none 0 0, .slice none 0 0]) ∧ (2 ≤ p → Blk w' G3 54 #[.int .i64 (bits .or .i64 K (IntKind.i64.wrap (2 ^ (1 + rollV l 7).toNat))), .slice none 0 0, .slice none 0 0, .slice none 0 0]) ∧ (p = 0 → Dice w' B g l) ∧ (1 ≤ p → Dice w' B g l.tail), Lib.hid fun _ _ h => h, Lib.hid fun _ _ h => h⟩
   refine wp_region_step S [3, 8] 9 89 (by kernel_rfl) (by kernel_rfl) rfl ?_ ?_ ?_
   ·exact fun p w1 w2 hs hg => HI.out _ _ (by obtain ⟨h0, h1, h2, h3, h4, h5⟩ := HO.out _ _ hs; exact ⟨d_only_grows h0 hg, h1.grows hg, fun e => (h2 e).grows hg, fun e => (h3 e).grows hg, fun e => (h4 e).grows hg, fun e => (h5 e).grows hg⟩)
   ·exact HI.out _ _ ⟨d_only_grows hO (Grows.drew' _), k0.grows (Grows.drew' _), fun _ => k3.grows (Grows.drew' _), fun e => by omega, fun _ => hD.grows (Grows.drew' _), fun e => by omega⟩
   simp only [List.take_succ_cons, List.take_zero, List.drop_succ_cons, List.drop_zero]
   refine st_plain rfl rfl (v := ?_) (a' := ?_) (fun w1 hw1 => ?_) ?_ ?_
   rotate_left 2
   ·obtain ⟨p, -⟩ := hw1
    go_simp
    exact calm_val
   ·simp only [Act.put, List.setIfInBounds_toArray, List.set_cons_succ, List.set_cons_zero]
    rfl
   refine st_upto (j := 1) (by kernel_rfl) rfl rfl (v := ?_) (a' := ?_) (fun w1 hw1 => ?_) ?_ ?_
   rotate_left 2
   ·obtain ⟨p, hp, hs⟩ := hw1
    obtain ⟨-, -, h2, -, -, -⟩ := HO.out _ _ hs
    have x3 := (h2 hp).cell
    go_simp
    exact calm_val
   ·simp only [Act.put, List.setIfInBounds_toArray, List.set_cons_succ, List.set_cons_zero]
    rfl
   refine st_plain rfl rfl (v := ?_) (a' := ?_) (fun w1 hw1 => ?_) ?_ ?_
   rotate_left 2
   ·obtain ⟨p, -⟩ := hw1
    go_simp
    exact calm_val
   ·simp only [Act.put, List.setIfInBounds_toArray, List.set_cons_succ, List.set_cons_zero]
    rfl
   refine st_step (j := 0) rfl rfl (v := ?_) (a' := ?_) (fun w1 hw1 => ?_) ?_ ?_
   rotate_left 2
   ·obtain ⟨h0, h1, h2, h3, h4, h5⟩ := HO.out _ _ hw1
    go_simp
    refine step_call ?_
    refine (roll_any B g l 7 _ (h4 rfl) (by omega) (by omega)).mono ?_
    rintro e w2 ⟨rfl, hd2, hq, -⟩
    refine ⟨?_, ?_⟩
    ·exact rfl
    ·exact HI.out _ _ ⟨only_trans h0 hq, h1.grown hq (by intro e; injection e; omega), fun _ => (h2 (by omega)).grown hq (by intro e; injection e; omega), fun e => by omega, fun e => by omega, fun _ => hd2⟩
   ·simp only [Act.put, List.setIfInBounds_toArray, List.set_cons_succ, List.set_cons_zero]
    rfl
   refine st_plain rfl rfl (v := ?_) (a' := ?_) (fun w1 hw1 => ?_) ?_ ?_
   rotate_left 2
   ·obtain ⟨p, -⟩ := hw1
    go_simp
    exact calm_val
   ·simp only [Act.put, List.setIfInBounds_toArray, List.set_cons_succ, List.set_cons_zero]
    rfl
   refine st_plain rfl rfl (v := ?_) (a' := ?_) (fun w1 hw1 => ?_) ?_ ?_
   rotate_left 2
   ·obtain ⟨p, -⟩ := hw1
    go_simp
    exact calm_val
   ·simp only [Act.put, List.setIfInBounds_toArray, List.set_cons_succ, List.set_cons_zero]
    rfl
   refine st_plain rfl rfl (v := ?_) (a' := ?_) (fun w1 hw1 => ?_) ?_ ?_
   rotate_left 2
   ·obtain ⟨p, -⟩ := hw1
    go_simp
    exact calm_val
   ·simp only [Act.put, List.setIfInBounds_toArray, List.set_cons_succ, List.set_cons_zero]
    rfl
   refine st_plain rfl rfl (v := ?_) (a' := ?_) (fun w1 hw1 => ?_) ?_ ?_
   rotate_left 2
   ·obtain ⟨p, -⟩ := hw1
    go_simp
    exact calm_val
   ·simp only [Act.put, List.setIfInBounds_toArray, List.set_cons_succ, List.set_cons_zero]
    rfl
   refine st_step (j := 1) rfl rfl (v := undef) (a' := ?_) (fun w1 hw1 => ?_) ?_ ?_
   rotate_left 1
   ·obtain ⟨h0, h1, h2, h3, h4, h5⟩ := HO.out _ _ hw1
    have kk := h2 (by omega)
    have x3 := kk.cell
    have hf3 := kk.frozen
    go_simp
    refine step_skip ?_
    exact HI.out _ _ ⟨only_set h0 (p := ⟨G3, 0, none⟩) (Nat.le_of_lt l03) _, h1.far (p := ⟨G3, 0, none⟩) (Nat.ne_of_lt l03) _, fun e => by omega, fun _ => kk.set_ 0 _, fun e => by omega, fun _ => (h5 (by omega)).put (p := ⟨G3, 0, none⟩) (Nat.le_trans hBg (Nat.le_of_lt (Nat.lt_trans hgl l03))) (Nat.ne_of_lt (Nat.lt_trans hgl l03)) _⟩
   ·rfl
   refine st_done ?_
   intro w7 hs
   obtain ⟨h0, h1, -, h3, -, h5⟩ := HO.out _ _ hs
   have k3b := h3 (Nat.le_refl 2)
   have hDb : DR w7 B g := ⟨_, h5 (by decide)⟩
   clear HI HO hs h3 h5
   generalize (bits .or .i64 K (IntKind.i64.wrap (2 ^ (1 + rollV l 7).toNat))) = K3 at *
   go_wp2
   go_roundw
   case rel => exact ⟨n - 1, K3, by omega, by go_num, HK2, h1, k3b, hDb, h0⟩
   case measure => simp [intOf]; omega
  ·obtain rfl : n = 0 := by omega
   have d2 : decide ((0 : Int) < ((0 : Nat) : Int)) = false := by decide
   generalize wr = wa at *
   go_upto_region 6 with fail
   have hgw := k3.lt
   have hL := sps_lits wa [(44100, 44100), (48000, 48000), (8000, 8000), (32000, 50000), (96000, 192000)] #[.int .i64 44100, .int .i64 44100, .int .i64 48000, .int .i64 48000, .int .i64 8000, .int .i64 8000, .int .i64 32000, .int .i64 50000, .int .i64 96000, .int .i64 192000] 74 rfl
   have hq := (Below.refl wa.heap.size wa).alloc (Nat.le_refl _) (Obj.cells #[.int .i64 44100, .int .i64 44100, .int .i64 48000, .int .i64 48000, .int .i64 8000, .int .i64 8000, .int .i64 32000, .int .i64 50000, .int .i64 96000, .int .i64 192000] 74)
   have hLb : SpB (wa.alloc (Obj.cells #[.int .i64 44100, .int .i64 44100, .int .i64 48000, .int .i64 48000, .int .i64 8000, .int .i64 8000, .int .i64 32000, .int .i64 50000, .int .i64 96000, .int .i64 192000] 74)) (Ge (g + 1)) (some ⟨wa.heap.size, 0, none⟩) ([(44100, 44100), (48000, 48000), (8000, 8000), (32000, 50000), (96000, 192000)] : List Sp) := ⟨hL, fun _ ad e => by injection e with e; subst e; show g + 1 ≤ wa.heap.size; omega⟩
   replace hD := hD.grows hq
   replace k0 := k0.grows hq
   replace k3 := k3.grows hq
   replace hO := d_only_grows hO hq
   have hsz := hq.size
   clear hq hL
   go_wp2_with fail
   refine (set_any B g _ 5 [(44100, 44100), (48000, 48000), (8000, 8000), (32000, 50000), (96000, 192000)] 1000 768000 _ hD hLb (by decide) (by decide) (by decide)).mono ?_
   rintro e wb ⟨⟨r, A1, c1, rfl, hcr, hlr, hr, hwr⟩, hDn, hq⟩
   have HWr := Lib.hid hwr
   replace hlr : r.length ≤ 5 := hlr
   replace hr : RdB wb (Ge (G3 + 1)) 2 A1 r.length (scells r) := RdB.mono hr (fun k hk => by unfold Ge at *; omega)
   clear hLb hwr
   replace hD := hDn
   replace k0 := k0.grown hq (by intro e; injection e; omega)
   replace k3 := k3.grown hq (by intro e; injection e; omega)
   replace hO := only_trans hO hq
   clear hq hDn
   have y3 := k3.cell
   have hf3 := k3.frozen
   replace k0 := k0.far (p := ⟨G3, 1, none⟩) (Nat.ne_of_lt l03) (.slice A1 r.length c1)
   replace k3 := k3.set_ 1 (.slice A1 r.length c1)
   replace hD := hD.put (p := ⟨G3, 1, none⟩) (Nat.le_trans hBg (Nat.le_of_lt (Nat.lt_trans hgl l03))) (Nat.ne_of_lt (Nat.lt_trans hgl l03)) (.slice A1 r.length c1)
   replace hO := only_set hO (p := ⟨G3, 1, none⟩) (Nat.le_of_lt l03) (.slice A1 r.length c1)
   replace hr := RdB.grown hr (d_only_set (World.grownBy.refl _ (some G3)) 1 (.slice A1 r.length c1)) (fun q e => by injection e with e; unfold Ge; omega)
   go_upto_region 7 with fail
   clear y3 hf3 hgw hsz
   generalize World.setCell wb _ _ = wc at *
   have hgw := k3.lt
   have hL := sps_lits wc [(16, 64), (64, 1024), (2048, 2048), (1, 65536)] #[.int .i64 16, .int .i64 64, .int .i64 64, .int .i64 1024, .int .i64 2048, .int .i64 2048, .int .i64 1, .int .i64 65536] 74 rfl
   have hq := (Below.refl wc.heap.size wc).alloc (Nat.le_refl _) (Obj.cells #[.int .i64 16, .int .i64 64, .int .i64 64, .int .i64 1024, .int .i64 2048, .int .i64 2048, .int .i64 1, .int .i64 65536] 74)
   have hLb : SpB (wc.alloc (Obj.cells #[.int .i64 16, .int .i64 64, .int .i64 64, .int .i64 1024, .int .i64 2048, .int .i64 2048, .int .i64 1, .int .i64 65536] 74)) (Ge (g + 1)) (some ⟨wc.heap.size, 0, none⟩) ([(16, 64), (64, 1024), (2048, 2048), (1, 65536)] : List Sp) := ⟨hL, fun _ ad e => by injection e with e; subst e; show g + 1 ≤ wc.heap.size; omega⟩
   replace hD := hD.grows hq
   replace k0 := k0.grows hq
   replace k3 := k3.grows hq
   replace hr := RdB.grows hr hq
   replace hO := d_only_grows hO hq
   have hsz := hq.size
   clear hq hL
   go_wp2_with fail
   refine (set_any B g _ 4 [(16, 64), (64, 1024), (2048, 2048), (1, 65536)] 1 65536 _ hD hLb (by decide) (by decide) (by decide)).mono ?_
   rintro e wb ⟨⟨s, A3, c3, rfl, hcs, hls, hs, hws⟩, hDn, hq⟩
   replace hls : s.length ≤ 4 := hls
   have HWs := Lib.hid hws
   replace hs : RdB wb (Ge (G3 + 1)) 2 A3 s.length (scells s) := RdB.mono hs (fun k hk => by unfold Ge at *; omega)
   replace hr := RdB.grown hr hq (fun q e => by injection e with e; unfold Ge; omega)
   clear hLb hws
   replace hD := hDn
   replace k0 := k0.grown hq (by intro e; injection e; omega)
   replace k3 := k3.grown hq (by intro e; injection e; omega)
   replace hO := only_trans hO hq
   clear hq hDn
   have y3 := k3.cell
   have hf3 := k3.frozen
   replace k0 := k0.far (p := ⟨G3, 3, none⟩) (Nat.ne_of_lt l03) (.slice A3 s.length c3)
   replace k3 := k3.set_ 3 (.slice A3 s.length c3)
   replace hD := hD.put (p := ⟨G3, 3, none⟩) (Nat.le_trans hBg (Nat.le_of_lt (Nat.lt_trans hgl l03))) (Nat.ne_of_lt (Nat.lt_trans hgl l03)) (.slice A3 s.length c3)
   replace hO := only_set hO (p := ⟨G3, 3, none⟩) (Nat.le_of_lt l03) (.slice A3 s.length c3)
   replace hr := RdB.grown hr (d_only_set (World.grownBy.refl _ (some G3)) 3 (.slice A3 s.length c3)) (fun q e => by injection e with e; unfold Ge; omega)
   replace hs := RdB.grown hs (d_only_set (World.grownBy.refl _ (some G3)) 3 (.slice A3 s.length c3)) (fun q e => by injection e with e; unfold Ge; omega)
   go_upto_region 8 with fail
   clear y3 hf3 hgw hsz
   generalize World.setCell wb _ _ = wd at *
   go_wp2_with fail
   refine (rolls_any B g 3 _ hD (by omega) (by omega)).mono ?_
   rintro e we ⟨⟨n1, rfl, n10, n11⟩, hDn, hq⟩
   replace hr := RdB.grown hr hq (fun q e => by injection e with e; unfold Ge; omega)
   replace hs := RdB.grown hs hq (fun q e => by injection e with e; unfold Ge; omega)
   replace hD := hDn
   replace k0 := k0.grown hq (by intro e; injection e; omega)
   replace k3 := k3.grown hq (by intro e; injection e; omega)
   replace hO := only_trans hO hq
   clear hq hDn
   obtain ⟨m1, rfl⟩ : ∃ m1 : Nat, n1 = (m1 : Int) := ⟨n1.toNat, by omega⟩
   have hw1 : IntKind.i64.wrap (1 + (m1 : Int)) = ((m1 + 1 : Nat) : Int) := by rw [IntWalk.i64_in _ (by omega)]; omega
   have k3b : Blk we G3 54 #[.int .i64 K, .slice A1 r.length c1, .slice none 0 0, .slice A3 s.length c3] := k3
   clear k3
   have hszG := k3b.lt
   replace hr : RdB we (Btw (G3 + 1) we.heap.size) 2 A1 r.length (scells r) := ⟨hr.1, fun hn ad e => ⟨hr.2 hn ad e, (RdB.under hr).2 hn ad e⟩⟩
   replace hs : RdB we (Btw (G3 + 1) we.heap.size) 2 A3 s.length (scells s) := ⟨hs.1, fun hn ad e => ⟨hs.2 hn ad e, (RdB.under hs).2 hn ad e⟩⟩
   obtain ⟨G9, hG9⟩ : ∃ G9, we.heap.size = G9 := ⟨_, rfl⟩
   have hsz9 : G9 ≤ we.heap.size := Nat.le_of_eq hG9.symm
   rw [hG9] at hszG hr hs
   clear hG9
   go_wp2_with fail
   go_loopw [5] (fun i wr => ∃ (n : Nat) (ms : List (List Int)) (v2 : Value), n ≤ m1 + 1 ∧ i = .int .i64 n ∧ Hid (∀ m ∈ ms, m ∈ mapsL) ∧ Hid ms.Nodup ∧ ms.length + n ≤ m1 + 1 ∧ (n < m1 + 1 → 0 < ms.length) ∧ G9 ≤ wr.heap.size ∧ OwnM wr G9 (G3 + 1) v2 ms ∧ RdB wr (Btw (G3 + 1) G9) 2 A1 r.length (scells r) ∧ RdB wr (Btw (G3 + 1) G9) 2 A3 s.length (scells s) ∧ Blk wr w.heap.size 54 #[.int .i64 0, .slice none 0 0, .slice none 0 0, .slice none 0 0] ∧ Blk wr G3 54 #[.int .i64 K, .slice A1 r.length c1, v2, .slice A3 s.length c3] ∧ DR wr B g ∧ w.grownBy wr (some g)) (fun i _ => (intOf i).toNat)
   case atStart => exact ⟨m1 + 1, [], .slice none 0 0, by omega, by first | rfl | go_num, Lib.hid (by simp), Lib.hid (by simp), by simp, fun h => by omega, hsz9, OwnM.nil, hr, hs, k0, k3b, hD, hO⟩
   case round =>
    clear k0 k3b hD hO hr hs hsz9
    obtain ⟨n, ms, v2, hn, rfl, HMS, HND, hlen, hne, hsz9, ho, hr, hs, k0, k3, hD, hO⟩ := hrel
    obtain ⟨A2, c2, e2, hc2, -⟩ := ho.read (by omega)
    subst e2
    have hgw := k3.lt
    by_cases hpos : 0 < n
    ·have d1 : decide ((0 : Int) < (n : Int)) = true := by simp only [decide_eq_true_eq]; omega
     have d2 : decide (0 < n) = true := by simp only [decide_eq_true_eq]; omega
     have hwn : IntKind.i64.wrap ((n : Int) - 1) = ((n - 1 : Nat) : Int) := by rw [IntWalk.i64_in _ (by omega)]; omega
     go_wp2_with fail
     refine (map_any B g _ hD).mono ?_
     rintro e wb ⟨⟨m, M, cm, rfl, hml, hcm, him⟩, hDn, hq⟩
     have hown := ho.lt
     have him0 := him
     replace him : InB wb (Ge (G3 + 1)) M m := RdB.mono him (fun k hk => by unfold Ge at *; omega)
     have hapart : Hid (∀ ad, M = some ad → 0 < m.length → (Value.slice A2 ms.length c2).ownBlock ≠ some ad.block) := Lib.hid (fun ad e hl e2 => by
      have h8 := (hown _ e2).2
      have h9 := him0.2 hl ad e
      unfold Ge at h9
      omega)
     clear him0 hown
     replace ho := ho.only hq (by omega) (by omega)
     replace hr := RdB.grown hr hq (fun q e => by injection e with e; unfold Btw; omega)
     replace hs := RdB.grown hs hq (fun q e => by injection e with e; unfold Btw; omega)
     replace hsz9 := Nat.le_trans hsz9 hq.size
     replace hD := hDn
     replace k0 := k0.grown hq (by intro e; injection e; omega)
     replace k3 := k3.grown hq (by intro e; injection e; omega)
     replace hO := only_trans hO hq
     clear hq hDn
     have HML := Lib.hid hml
     obtain ⟨hvm, hm0, hm8⟩ := mapsL_ok m hml
     have HVM := Lib.hid hvm
     clear hml hvm
     obtain ⟨A9, c9, e9, hc9, hmr⟩ := ho.read (by omega)
     injection e9 with e9 _ e10
     subst e9
     subst e10
     have x3 := k3.cell
     go_wp2_with fail
     go_loopw [7, 58] (fun t i wq => ∃ k : Nat, k ≤ ms.length ∧ i = .int .i64 k ∧ t = .bool ((ms.take k).any fun y => simM y m) ∧ Grows wb wq) (fun _ i _ => ms.length - (intOf i).toNat)
     case atStart => exact ⟨0, by omega, rfl, rfl, Below.refl _ _⟩
     case round =>
      obtain ⟨k, hk, rfl, rfl, hg⟩ := hrel
      by_cases hlt : k < ms.length
      ·obtain ⟨ad, y, C, cy, e1, had, hy, q0, hcy, hiy⟩ := (hmr.grows hg).elem hlt
       subst e1
       have hyl := mapsL_ok y (HMS.out y (List.mem_of_getElem? hy))
       obtain ⟨-, hy0, hy8⟩ := hyl
       have HS := Lib.hid (sim_next (m := m) hy)
       clear hy
       obtain ⟨ady, y0, e5, -, hyy, q5⟩ := hiy.ints.at_ hy0
       obtain ⟨adm, u0, e6, -, hmm, p0⟩ := (him.grows hg).ints.at_ hm0
       have hyh : y.headD 0 = y0 := by cases y with | nil => simp at hyy | cons a b => simpa using hyy
       have hmh : m.headD 0 = u0 := by cases m with | nil => simp at hmm | cons a b => simpa using hmm
       have ea : ady.add 0 = ady := by simp [Addr.add]
       have eb : adm.add 0 = adm := by simp [Addr.add]
       rw [ea] at q5
       rw [eb] at p0
       have HSV : Hid (simM y m = (decide (y.length = m.length) && decide (y0 = u0))) := Lib.hid (by unfold simM; rw [hyh, hmh])
       subst e5
       subst e6
       clear hyy hmm hyh hmh ea eb hiy
       go_upto_region 16 with fail
       cases hv : (ms.take k).any fun y => simM y m
       case true =>
        have HE : Hid ((ms.take (k + 1)).any (fun y => simM y m) = true) := Lib.hid (by rw [HS.out, hv]; rfl)
        clear hv HS HSV
        go_region
        have hq : Grows wr wr.drew := Grows.drew' _
        generalize wr.drew = w9 at *
        replace hg := below_grows hg (Nat.le_refl _) hq
        clear hq q0 p0 q5
        go_wp2
        go_roundw
        case rel => exact ⟨k + 1, by omega, by go_num, by rw [HE.out], hg⟩
        case measure => simp [intOf]; omega
       have HV := Lib.hid hv
       clear hv
       by_cases h1 : y.length = m.length
       case neg =>
        have HE : Hid ((ms.take (k + 1)).any (fun y => simM y m) = false) := Lib.hid (by rw [HS.out, HV.out, HSV.out, decide_eq_false h1]; rfl)
        have d5 : ((y.length : Int) == (m.length : Int)) = false := by simp only [beq_eq_false_iff_ne, ne_eq]; omega
        clear h1 HS HSV HV
        go_region
        have hq : Grows wr wr.drew := Grows.drew' _
        generalize wr.drew = w9 at *
        replace hg := below_grows hg (Nat.le_refl _) hq
        clear hq q0 p0 q5
        go_wp2
        go_roundw
        case rel => exact ⟨k + 1, by omega, by go_num, by rw [HE.out], hg⟩
        case measure => simp [intOf]; omega
       have d5 : ((y.length : Int) == (m.length : Int)) = true := by simp only [beq_iff_eq]; omega
       by_cases h2 : y0 = u0
       ·have HE : Hid ((ms.take (k + 1)).any (fun y => simM y m) = true) := Lib.hid (by rw [HS.out, HV.out, HSV.out, decide_eq_true h1, decide_eq_true h2]; rfl)
        have d6 : (y0 == u0) = true := by simpa using h2
        clear h1 h2 HS HSV HV
        go_region
        have hq : Grows wr wr.drew := Grows.drew' _
        generalize wr.drew = w9 at *
        replace hg := below_grows hg (Nat.le_refl _) hq
        clear hq q0 p0 q5
        go_wp2
        go_roundw
        case rel => exact ⟨k + 1, by omega, by go_num, by rw [HE.out], hg⟩
        case measure => simp [intOf]; omega
       ·have HE : Hid ((ms.take (k + 1)).any (fun y => simM y m) = false) := Lib.hid (by rw [HS.out, HV.out, HSV.out, decide_eq_true h1, decide_eq_false h2]; rfl)
        have d6 : (y0 == u0) = false := by simpa using h2
        clear h1 h2 HS HSV HV
        go_region
        have hq : Grows wr wr.drew := Grows.drew' _
        generalize wr.drew = w9 at *
        replace hg := below_grows hg (Nat.le_refl _) hq
        clear hq q0 p0 q5
        go_wp2
        go_roundw
        case rel => exact ⟨k + 1, by omega, by go_num, by rw [HE.out], hg⟩
        case measure => simp [intOf]; omega
      ·obtain rfl : k = ms.length := by omega
       rw [List.take_length]
       replace ho := ho.grows hg
       replace hr := RdB.grows hr hg
       replace hs := RdB.grows hs hg
       replace hD := hD.grows hg
       replace k0 := k0.grows hg
       replace k3 := k3.grows hg
       replace hO := d_only_grows hO hg
       replace hsz9 := Nat.le_trans hsz9 hg.size
       replace him := him.grows hg
       clear hg hmr
       cases hv : ms.any fun y => simM y m
       case true =>
        have hpl : 0 < ms.length := by
         obtain ⟨y, hy, -⟩ := List.any_eq_true.1 hv
         exact List.length_pos_of_mem hy
        clear hv
        go_wp2
        go_roundw
        case rel => exact ⟨n - 1, ms, _, by omega, by go_num, HMS, HND, by omega, fun _ => hpl, hsz9, ho, hr, hs, k0, k3, hD, hO⟩
        case measure => simp [intOf]; omega
       have hnm := sim_not hv
       have HMS2 : Hid (∀ y ∈ ms ++ [m], y ∈ mapsL) := Lib.hid (by
        intro y hy
        rcases List.mem_append.1 hy with hy | hy
        ·exact HMS.out y hy
        ·simp only [List.mem_singleton] at hy
         exact hy ▸ HML.out)
       have HND2 : Hid (ms ++ [m]).Nodup := Lib.hid (by
        rw [List.nodup_append]
        exact ⟨HND.out, by simp, fun a ha b hb e => by simp only [List.mem_singleton] at hb; subst hb; exact hnm (e ▸ ha)⟩)
       clear hv hnm
       have x3 := k3.cell
       go_upto_region 19 with fail
       refine wp_region_lit ?_
       iterate 4
        refine wpList_plain rfl (fun K hK => ?_)
        go_simp
        refine hK _ _ ?_
        clear hK K
       have hk9 := Blk.new wr 42 #[.slice M m.length cm]
       have hq := (Below.refl wr.heap.size wr).alloc (Nat.le_refl _) (Obj.cells #[.slice M m.length cm] 42)
       have hr9 : Reads (wr.alloc (Obj.cells #[.slice M m.length cm] 42)) (wr.alloc (Obj.cells #[.slice M m.length cm] 42)).heap.size 1 (some ⟨wr.heap.size, 0, none⟩) 1 [.slice M m.length cm] := ⟨rfl, fun _ => ⟨_, rfl, hk9.lt, fun j u hu => by rw [add_head, hk9.cell, ← Array.getElem?_toList]; exact hu⟩⟩
       replace ho := ho.grows hq
       replace hr := RdB.grows hr hq
       replace hs := RdB.grows hs hq
       replace hD := hD.grows hq
       replace k0 := k0.grows hq
       replace k3 := k3.grows hq
       replace hO := d_only_grows hO hq
       replace hsz9 := Nat.le_trans hsz9 hq.size
       replace him := him.grows hq
       clear hq hk9 x3
       refine wpList_append_map rfl (.tmp 83) (.tmp 85) rfl rfl ho rfl hr9 (by omega) hsz9 him hcm hapart.out ?_
       intro v5 w12 ho2 hgr
       have hob := ho.lt
       replace k0 := k0.grown hgr (fun e => by have := (hob _ e.symm).1; omega)
       replace k3 := k3.grown hgr (fun e => by have := (hob _ e.symm).1; omega)
       replace hD := hD.grown hgr (fun q e => by have := (hob q e).1; omega)
       replace hO := only_own hO hgr (fun q e => by have := (hob q e).1; omega)
       replace hr := RdB.grown hr hgr (fun q e => by have := (hob q e).1; unfold Btw; omega)
       replace hs := RdB.grown hs hgr (fun q e => by have := (hob q e).1; unfold Btw; omega)
       replace hsz9 := Nat.le_trans hsz9 hgr.size
       have hln : (ms ++ [m]).length = ms.length + 1 := by simp
       have hlen2 : (ms ++ [m]).length + (n - 1) ≤ m1 + 1 := by omega
       have hpl : 0 < (ms ++ [m]).length := by omega
       clear hob hgr hr9 ho him hln hlen
       generalize ms ++ [m] = ms2 at *
       obtain ⟨A7, c7, e7, hc7, -⟩ := ho2.read (by omega)
       subst e7
       have y3 := k3.cell
       have hf3 := k3.frozen
       have ho3 := ho2.only (d_only_set (World.grownBy.refl _ (some G3)) 2 (.slice A7 ms2.length c7)) (by omega) (by omega)
       have hsz10 : G9 ≤ (w12.setCell ⟨G3, 2, none⟩ (.slice A7 ms2.length c7)).heap.size := by simpa [World.setCell] using hsz9
       clear ho2
       replace k0 := k0.far (p := ⟨G3, 2, none⟩) (Nat.ne_of_lt l03) (.slice A7 ms2.length c7)
       replace k3 := k3.set_ 2 (.slice A7 ms2.length c7)
       replace hD := hD.put (p := ⟨G3, 2, none⟩) (Nat.le_trans hBg (Nat.le_of_lt (Nat.lt_trans hgl l03))) (Nat.ne_of_lt (Nat.lt_trans hgl l03)) (.slice A7 ms2.length c7)
       replace hO := only_set hO (p := ⟨G3, 2, none⟩) (Nat.le_of_lt l03) (.slice A7 ms2.length c7)
       replace hr := RdB.grown hr (d_only_set (World.grownBy.refl _ (some G3)) 2 (.slice A7 ms2.length c7)) (fun q e => by injection e with e; unfold Btw; omega)
       replace hs := RdB.grown hs (d_only_set (World.grownBy.refl _ (some G3)) 2 (.slice A7 ms2.length c7)) (fun q e => by injection e with e; unfold Btw; omega)
       go_wp2
       go_roundw
       case rel => exact ⟨n - 1, ms2, _, by omega, by go_num, HMS2, HND2, hlen2, fun _ => hpl, hsz10, ho3, hr, hs, k0, k3, hD, hO⟩
       case measure => simp [intOf]; omega
    ·obtain rfl : n = 0 := by omega
     obtain ⟨A9, c9, e9, hc9, hmr⟩ := ho.read (by omega)
     injection e9 with e9 _ e10
     subst e9
     subst e10
     have hml := hne (by omega)
     have d2 : decide ((0 : Int) < ((0 : Nat) : Int)) = false := by decide
     have x3 := k3.cell
     have x0 := k0.cell
     have hf0 := k0.frozen
     have y0 := ((((k0.set_ 0 (.int .i64 K)).set_ 1 (.slice A1 r.length c1)).set_ 2 (.slice A2 ms.length c2)).set_ 3 (.slice A3 s.length c3))
     have yD := ((((hD.put (p := ⟨w.heap.size, 0, none⟩) (Nat.le_trans hBg (Nat.le_of_lt hgl)) (Nat.ne_of_lt hgl) (.int .i64 K)).put (p := ⟨w.heap.size, 1, none⟩) (Nat.le_trans hBg (Nat.le_of_lt hgl)) (Nat.ne_of_lt hgl) (.slice A1 r.length c1)).put (p := ⟨w.heap.size, 2, none⟩) (Nat.le_trans hBg (Nat.le_of_lt hgl)) (Nat.ne_of_lt hgl) (.slice A2 ms.length c2)).put (p := ⟨w.heap.size, 3, none⟩) (Nat.le_trans hBg (Nat.le_of_lt hgl)) (Nat.ne_of_lt hgl) (.slice A3 s.length c3))
     have yO := (only_set (only_set (only_set (only_set hO (p := ⟨w.heap.size, 0, none⟩) (Nat.le_refl _) (.int .i64 K)) (p := ⟨w.heap.size, 1, none⟩) (Nat.le_refl _) (.slice A1 r.length c1)) (p := ⟨w.heap.size, 2, none⟩) (Nat.le_refl _) (.slice A2 ms.length c2)) (p := ⟨w.heap.size, 3, none⟩) (Nat.le_refl _) (.slice A3 s.length c3))
     have yR := RdB.mono (RdB.grown hr (d_only_set (d_only_set (d_only_set (d_only_set (World.grownBy.refl _ (some w.heap.size)) 0 (.int .i64 K)) 1 (.slice A1 r.length c1)) 2 (.slice A2 ms.length c2)) 3 (.slice A3 s.length c3)) (fun q e => by injection e with e; unfold Btw; omega)) (b2 := Ge w.heap.size) (fun k hk => by unfold Ge Btw at *; omega)
     have yS := RdB.mono (RdB.grown hs (d_only_set (d_only_set (d_only_set (d_only_set (World.grownBy.refl _ (some w.heap.size)) 0 (.int .i64 K)) 1 (.slice A1 r.length c1)) 2 (.slice A2 ms.length c2)) 3 (.slice A3 s.length c3)) (fun q e => by injection e with e; unfold Btw; omega)) (b2 := Ge w.heap.size) (fun k hk => by unfold Ge Btw at *; omega)
     have yM := MapsR.mono (MapsR.grown hmr (d_only_set (d_only_set (d_only_set (d_only_set (World.grownBy.refl _ (some w.heap.size)) 0 (.int .i64 K)) 1 (.slice A1 r.length c1)) 2 (.slice A2 ms.length c2)) 3 (.slice A3 s.length c3)) (fun q e => by injection e with e; unfold Ge; omega)) (b2 := Ge w.heap.size) (fun k hk => by unfold Ge at *; omega)
     have y6 := y0.cell
     have HFI : Hid (fineB ⟨K, r, ms, s⟩ = true) := Lib.hid (fineB_yes (kinds_of HK.out) HWr.out HWs.out (mapsOk_yes (by show 1 ≤ ms.length; omega) (by show ms.length ≤ 16; omega) (by unfold uniqOk; rw [decide_eq_true HND.out, Bool.and_true, List.all_eq_true]; exact fun m hm => (mapsL_ok m (HMS.out m hm)).1)))
     have HOK : Hid (OKB ⟨K, r, ms, s⟩) := Lib.hid ⟨by show r.length ≤ 1000000; omega, by show s.length ≤ 1000000; omega, by show ms.length ≤ 1000000; omega, fun x hx => by have := (mapsL_ok x (HMS.out x hx)).2.2; omega⟩
     have HFEW : Hid (Few ⟨K, r, ms, s⟩) := Lib.hid ⟨by show r.length ≤ 5; omega, by show s.length ≤ 5; omega⟩
     have HI64 : Hid (I64 K) := Lib.hid (by have := HK.out; unfold KP at this; unfold I64; omega)
     clear k0 k3 hD hO hr hs hmr ho
     go_wp2
     refine bodyPost_ret (v := .agg #[.int .i64 K, .slice A1 r.length c1, .slice A2 ms.length c2, .slice A3 s.length c3]) (by simp [results, Try.results13, go_sem, y6]) rfl ⟨⟨⟨K, r, ms, s⟩, _, rfl, ⟨A1, c1, A2, c2, A3, c3, rfl, yR, yM, yS, hcr, hc9, hcs⟩, HFI.out, HOK.out, HI64.out, HFEW.out⟩, yD, yO⟩
end Go.Proofs.Ytjbkjgmcfommgaa

namespace Go.Proofs.Ytjbkjgmcfommgaa
open Go.RowKit
def Ap (lo : Nat) (v : Value) : Nat → Prop := fun k => lo ≤ k ∧ v.ownBlock ≠ some k
section
variable {w w' : World} {ok : Nat → Prop} {size n : Nat} {A : Option Addr} {xs : List Value}
theorem RdB.band (h : RdB w ok size A n xs) : RdB w (fun k => ok k ∧ k < w.heap.size) size A n xs := ⟨h.1, fun hn ad e => ⟨h.2 hn ad e, h.under.2 hn ad e⟩⟩
theorem MapsR.band {m : List (List Int)} (h : MapsR w ok A m) : MapsR w (fun k => ok k ∧ k < w.heap.size) A m := by
 obtain ⟨vs, h1, h2⟩ := h
 exact ⟨vs, h1.band, fun i x hx => by obtain ⟨B, c, e, hc, hi⟩ := h2 i x hx; exact ⟨B, c, e, hc, RdB.band hi⟩⟩
end
section
variable {w w' : World} {ok : Nat → Prop} {b : Bx} {A1 A2 A3 : Option Addr} {c1 c2 c3 : Nat}
theorem BoxP.band (h : BoxP w ok b A1 c1 A2 c2 A3 c3) : BoxP w (fun k => ok k ∧ k < w.heap.size) b A1 c1 A2 c2 A3 c3 := ⟨RdB.band h.r, h.m.band, RdB.band h.s, h.cr, h.cm, h.cs⟩
end
theorem Bxs.band {w : World} {ok : Nat → Prop} {A : Option Addr} {l : List Bx} (h : Bxs w ok A l) : Bxs w (fun k => ok k ∧ k < w.heap.size) A l := by
 obtain ⟨vs, h1, h2⟩ := h
 exact ⟨vs, h1.band, fun i x hx => by obtain ⟨A1, c1, A2, c2, A3, c3, hp, hc⟩ := h2 i x hx; exact ⟨A1, c1, A2, c2, A3, c3, hp.band, hc⟩⟩
def OwnB (w : World) (base lo : Nat) (v : Value) (l : List Bx) : Prop :=
 ∃ vs, w.ownsRow base 54 4 v l.length vs ∧ ∀ (i : Nat) (b : Bx), l[i]? = some b → ∃ A1 c1 A2 c2 A3 c3, BoxP w (Ap lo v) b A1 c1 A2 c2 A3 c3 ∧ ∀ j < 4, vs[i * 4 + j]? = (b.cs A1 c1 A2 c2 A3 c3)[j]?
section
variable {w w' : World} {base lo g : Nat} {v : Value} {l : List Bx}
theorem OwnB.nil : OwnB w base lo (.slice none 0 0) [] := ⟨[], World.ownsRow_nil w base _ 4, fun i x h => by simp at h⟩
theorem OwnB.grows (h : OwnB w base lo v l) (hg : Grows w w') : OwnB w' base lo v l := by
 obtain ⟨vs, h1, h2⟩ := h
 exact ⟨vs, own_grows h1 hg, fun i x hx => by obtain ⟨A1, c1, A2, c2, A3, c3, hp, hc⟩ := h2 i x hx; exact ⟨A1, c1, A2, c2, A3, c3, hp.grows hg, hc⟩⟩
theorem OwnB.only (h : OwnB w base lo v l) (hg : w.grownBy w' (some g)) (hb : g < base) (hl : g < lo) : OwnB w' base lo v l := by
 obtain ⟨vs, h1, h2⟩ := h
 refine ⟨vs, World.ownsRow.kept h1 hg ?_, fun i x hx => by obtain ⟨A1, c1, A2, c2, A3, c3, hp, hc⟩ := h2 i x hx; exact ⟨A1, c1, A2, c2, A3, c3, hp.grown hg (fun q e hq => by injection e with e; unfold Ap at hq; omega), hc⟩⟩
 cases e : v.ownBlock with
 | none => exact .inl rfl
 | some q =>
  refine .inr fun e2 => ?_
  have := (World.ownsRow.lt h1 q e).1
  injection e2 with e2
  omega
theorem OwnB.lt (h : OwnB w base lo v l) : ∀ q, v.ownBlock = some q → base ≤ q ∧ q < w.heap.size := by
 obtain ⟨vs, h1, -⟩ := h
 exact World.ownsRow.lt h1
theorem OwnB.read (h : OwnB w base lo v l) (hb : lo ≤ base) : ∃ A c, v = .slice A l.length c ∧ l.length ≤ c ∧ Bxs w (Ge lo) A l := by
 obtain ⟨vs, h1, h2⟩ := h
 have h3 : ∀ (i : Nat) (b : Bx), l[i]? = some b → ∃ A1 c1 A2 c2 A3 c3, BoxP w (Ge lo) b A1 c1 A2 c2 A3 c3 ∧ ∀ j < 4, vs[i * 4 + j]? = (b.cs A1 c1 A2 c2 A3 c3)[j]? := fun i b hx => by
  obtain ⟨A1, c1, A2, c2, A3, c3, hp, hc⟩ := h2 i b hx
  exact ⟨A1, c1, A2, c2, A3, c3, hp.mono (fun k hk => hk.1), hc⟩
 rcases h1.2 with ⟨rfl, hn⟩ | ⟨q, cap, cur, rfl, hbq, hg, hnc, hm, hs, ht⟩
 ·have e := List.eq_nil_of_length_eq_zero hn
  subst e
  exact ⟨none, 0, rfl, Nat.le_refl _, Bxs.nil⟩
 ·refine ⟨_, cap, rfl, hnc, vs, ⟨Reads.of_own h1, fun _ ad e => ?_⟩, h3⟩
  injection e with e
  subst e
  exact Nat.le_trans hb hbq
end
set_option maxRecDepth 100000 in
theorem box_info : ∃ i : TypeInfo, Try.prog.info? 54 = some i ∧ i.size = 4 ∧ i.bytes = 80 ∧ i.zero = some (.agg #[.int .i64 0, .slice none 0 0, .slice none 0 0, .slice none 0 0]) ∧ (Value.agg #[.int .i64 0, .slice none 0 0, .slice none 0 0, .slice none 0 0]).cells.size = 4 := ⟨_, by first | exact Try.info54 | rfl, rfl, rfl, rfl, rfl⟩
theorem cs_one (b : Bx) (A1 : Option Addr) (c1 : Nat) (A2 : Option Addr) (c2 : Nat) (A3 : Option Addr) (c3 : Nat) : ∀ u ∈ b.cs A1 c1 A2 c2 A3 c3, u.oneCell' = true := by
 intro u hu
 simp only [Bx.cs, List.mem_cons, List.not_mem_nil, or_false] at hu
 rcases hu with rfl | rfl | rfl | rfl <;> rfl
theorem bxs_one {l : List Bx} {vs : List Value} (hl : vs.length = l.length * 4) (h : ∀ (i : Nat) (b : Bx), l[i]? = some b → ∃ A1 c1 A2 c2 A3 c3, ∀ j < 4, vs[i * 4 + j]? = (b.cs A1 c1 A2 c2 A3 c3)[j]?) : ∀ u ∈ vs, u.oneCell' = true := by
 intro u hu
 obtain ⟨k, hk, e⟩ := List.mem_iff_getElem.1 hu
 have hi : k / 4 < l.length := by omega
 obtain ⟨A1, c1, A2, c2, A3, c3, hc⟩ := h (k / 4) _ (List.getElem?_eq_getElem hi)
 have h2 := hc (k % 4) (Nat.mod_lt _ (by omega))
 rw [show k / 4 * 4 + k % 4 = k by omega, List.getElem?_eq_getElem hk, e] at h2
 exact cs_one _ A1 c1 A2 c2 A3 c3 u (List.mem_of_getElem? h2.symm)
theorem wpList_append_boxes {ops : Array Oper} {rest : List Oper} {o : Oper} {a : Act} {w : World} {Q : Exit → Act → World → Prop} (hgd : o.guard = none) (s x : Operand) (ho : o.op = .call { callee := .builtin .append, args := #[s, x], argTypes := #[34, 34] })
 {base lo : Nat} {v : Value} {l m : List Bx} {A : Option Addr} {c n : Nat} (hn : n = m.length) (hs : a.eval s = v) (hown : OwnB w base lo v l) (hx : a.eval x = .slice A n c) (hr : Bxs w (Ap lo v) A m) (hlen : l.length + m.length ≤ 1000000) (hbase : base ≤ w.heap.size)
 (h : ∀ v' w', OwnB w' base lo v' (l ++ m) → w.grownBy w' v.ownBlock → (v'.ownBlock = v.ownBlock ∨ v'.ownBlock = some w.heap.size) → wpList Try.prog ops Q rest (a.put o.dst v') w') : wpList Try.prog ops Q (o :: rest) a w := by
 obtain ⟨i0, hi0, hi1, hi2, hi3, hi4⟩ := box_info
 obtain ⟨vs, h1, h2⟩ := hown
 obtain ⟨us, r1, r2⟩ := hr
 subst hn
 have hul := r1.1.1
 have hvl := h1.1
 refine wpList_append_any w hgd s x 34 ho base 54 i0 _ 4 80 Try.underlying34 hi0 hi3 hi1 hi2 hi4 (by omega) v l.length vs hs h1 w.heap.size A m.length c us hx r1.1 (bxs_one hul fun i b hb => by obtain ⟨A1, c1, A2, c2, A3, c3, _, hc⟩ := r2 i b hb; exact ⟨A1, c1, A2, c2, A3, c3, hc⟩) (by simp only [maxLen]; omega) (by omega) hbase fun v' w' h3 h4 h5 => h v' w' ⟨vs ++ us, by rw [List.length_append]; exact h3, fun i b hb => ?_⟩ h4 h5
 have hto : ∀ (b : Bx) (A1 : Option Addr) (c1 : Nat) (A2 : Option Addr) (c2 : Nat) (A3 : Option Addr) (c3 : Nat), BoxP w (Ap lo v) b A1 c1 A2 c2 A3 c3 → BoxP w' (Ap lo v') b A1 c1 A2 c2 A3 c3 := by
  intro b A1 c1 A2 c2 A3 c3 hp
  refine (hp.band.grown h4 (fun q e hq => hq.1.2 e)).mono fun k hk => ⟨hk.1.1, fun e => ?_⟩
  rcases h5 with h5 | h5
  ·exact hk.1.2 (h5 ▸ e)
  ·rw [h5] at e
   injection e with e
   have := hk.2
   omega
 by_cases hi : i < l.length
 ·rw [List.getElem?_append_left hi] at hb
  obtain ⟨A1, c1, A2, c2, A3, c3, hp, hc⟩ := h2 i b hb
  exact ⟨A1, c1, A2, c2, A3, c3, hto _ _ _ _ _ _ _ hp, fun j hj => by rw [List.getElem?_append_left (by omega)]; exact hc j hj⟩
 ·rw [List.getElem?_append_right (by omega)] at hb
  obtain ⟨A1, c1, A2, c2, A3, c3, hp, hc⟩ := r2 _ b hb
  exact ⟨A1, c1, A2, c2, A3, c3, hto _ _ _ _ _ _ _ hp, fun j hj => by rw [List.getElem?_append_right (by omega), show i * 4 + j - vs.length = (i - l.length) * 4 + j by omega]; exact hc j hj⟩
/-- A list with one box, laid by a literal. -/
theorem bxs_lit {w : World} {ok : Nat → Prop} {b : Bx} {A1 A2 A3 : Option Addr} {c1 c2 c3 : Nat} (hp : BoxP w ok b A1 c1 A2 c2 A3 c3) (hw : ok w.heap.size) : Bxs (w.alloc (.cells #[.int .i64 b.k, .slice A1 b.r.length c1, .slice A2 b.m.length c2, .slice A3 b.s.length c3] 54)) ok (some ⟨w.heap.size, 0, none⟩) [b] := by
 have hk := Blk.new w 54 #[.int .i64 b.k, .slice A1 b.r.length c1, .slice A2 b.m.length c2, .slice A3 b.s.length c3]
 have hq := (Below.refl w.heap.size w).alloc (Nat.le_refl _) (Obj.cells #[.int .i64 b.k, .slice A1 b.r.length c1, .slice A2 b.m.length c2, .slice A3 b.s.length c3] 54)
 refine ⟨b.cs A1 c1 A2 c2 A3 c3, ⟨⟨rfl, fun _ => ⟨_, rfl, hk.lt, fun j u hu => ?_⟩⟩, fun _ ad e => by injection e with e; subst e; exact hw⟩, fun i x hx => ?_⟩
 ·rw [add_head, hk.cell, ← Array.getElem?_toList]
  exact hu
 ·have hi0 : i = 0 := by
   have := (List.getElem?_eq_some_iff.1 hx).1
   simp only [List.length_singleton] at this
   omega
  subst hi0
  simp only [List.getElem?_cons_zero, Option.some.injEq] at hx
  subst hx
  exact ⟨A1, c1, A2, c2, A3, c3, hp.grows hq, fun j hj => by rw [Nat.zero_mul, Nat.zero_add]⟩
/-- Boxes that the maker makes. -/
def Fine (l : List Bx) : Prop := ∀ b ∈ l, fineB b = true ∧ OKB b ∧ I64 b.k ∧ Few b
theorem fine_nil : Fine [] := fun b hb => by cases hb
theorem fine_app {l m : List Bx} (h : Fine l) (h2 : Fine m) : Fine (l ++ m) := fun b hb => (List.mem_append.1 hb).elim (h b) (h2 b)
set_option maxHeartbeats 8000000 in
theorem boxes_any (B g least most : Nat) (w : World) (h : DR w B g) (hlm : least ≤ most) (hm : most ≤ 100) : Calls Try.prog 19 #[.pointer (some ⟨g, 0, none⟩), .int .i64 (least : Int), .int .i64 (most : Int)] w fun e w' => (∃ l v, e = .returned v ∧ OwnB w' w.heap.size w.heap.size v l ∧ Fine l ∧ least ≤ l.length ∧ l.length ≤ most) ∧ DR w' B g ∧ w.grownBy w' (some g) := by
 have hgl := h.lt
 have hw1 : IntKind.i64.wrap ((most : Int) - (least : Int)) = (most : Int) - (least : Int) := IntWalk.i64_in _ (by omega)
 have hw2 : IntKind.i64.wrap ((most : Int) - (least : Int) + 1) = (most : Int) - (least : Int) + 1 := IntWalk.i64_in _ (by omega)
 go_enter Try.func19, Try.ntmps19
 go_wp2_with fail
 refine (rolls_any B g ((most : Int) - (least : Int) + 1) _ h (by omega) (by omega)).mono ?_
 rintro e w1 ⟨⟨r, rfl, r0, r1⟩, hD, hO⟩
 obtain ⟨n0, hn0⟩ : ∃ n0 : Nat, (least : Int) + r = (n0 : Int) := ⟨((least : Int) + r).toNat, by omega⟩
 have hw3 : IntKind.i64.wrap ((least : Int) + r) = (n0 : Int) := by rw [IntWalk.i64_in _ (by omega)]; exact hn0
 have hn1 : least ≤ n0 ∧ n0 ≤ most := by omega
 clear hn0 h hw1 hw2
 have hsz := hO.size
 go_wp2_with fail
 go_loopw [7, 8] (fun v i wr => ∃ (n : Nat) (l : List Bx), n ≤ n0 ∧ i = .int .i64 n ∧ l.length + n = n0 ∧ Hid (Fine l) ∧ OwnB wr w.heap.size w.heap.size v l ∧ DR wr B g ∧ w.grownBy wr (some g)) (fun _ i _ => (intOf i).toNat)
 case atStart => exact ⟨n0, [], by omega, rfl, by simp, Lib.hid fine_nil, OwnB.nil, hD, hO⟩
 case round =>
  clear hD hO hsz
  obtain ⟨n, l, hn, rfl, hln, HF, ho, hD, hO⟩ := hrel
  have hsz := hO.size
  by_cases hpos : 0 < n
  ·have d1 : decide ((0 : Int) < (n : Int)) = true := by simp only [decide_eq_true_eq]; omega
   have d2 : decide (0 < n) = true := by simp only [decide_eq_true_eq]; omega
   have hwn : IntKind.i64.wrap ((n : Int) - 1) = ((n - 1 : Nat) : Int) := by rw [IntWalk.i64_in _ (by omega)]; omega
   go_upto_region 5 with fail
   refine wp_region_lit ?_
   iterate 2
    refine wpList_plain rfl (fun K hK => ?_)
    go_simp
    refine hK _ _ ?_
    clear hK K
   refine wpList_plain rfl (fun K hK => ?_)
   go_simp
   have hown := ho.lt
   refine (box_any B g _ hD).mono ?_
   rintro e wb ⟨⟨b, v2, rfl, ⟨A1, c1, A2, c2, A3, c3, rfl, hp⟩, hfb, hob, hib⟩, hDn, hq⟩
   have HFB : Hid (Fine [b]) := Lib.hid fun x hx => by simp only [List.mem_singleton] at hx; subst hx; exact ⟨hfb, hob, hib⟩
   clear hfb hob hib
   refine hK _ _ ?_
   clear hK K
   replace hp : BoxP wb (Ap w.heap.size _) b A1 c1 A2 c2 A3 c3 := hp.mono fun k hk => ⟨by unfold Ge at hk; omega, fun e => by have := (hown _ e).2; unfold Ge at hk; omega⟩
   replace ho := ho.only hq (by omega) (by omega)
   replace hO := only_trans hO hq
   replace hsz := Nat.le_trans hsz hq.size
   replace hown : ∀ q, _ = some q → w.heap.size ≤ q ∧ q < wb.heap.size := ho.lt
   clear hD hq
   refine wpList_plain rfl (fun K hK => ?_)
   go_simp
   refine hK _ _ ?_
   clear hK K
   have hL := bxs_lit hp ⟨hsz, fun e => by have := (hown _ e).2; omega⟩
   have hq := (Below.refl wb.heap.size wb).alloc (Nat.le_refl _) (Obj.cells #[.int .i64 b.k, .slice A1 b.r.length c1, .slice A2 b.m.length c2, .slice A3 b.s.length c3] 54)
   replace ho := ho.grows hq
   replace hDn := hDn.grows hq
   replace hO := d_only_grows hO hq
   replace hsz := Nat.le_trans hsz hq.size
   replace hown := ho.lt
   clear hq hp
   refine wpList_append_boxes rfl (.tmp 21) (.tmp 24) rfl (m := [b]) rfl rfl ho rfl hL (by simp only [List.length_singleton]; omega) hsz ?_
   intro v5 w12 ho2 hgr _
   replace hDn := hDn.grown hgr (fun q e => by have := (hown q e).1; omega)
   replace hO := only_own hO hgr (fun q e => (hown q e).1)
   have HF2 := Lib.hid (fine_app HF.out HFB.out)
   have hl2 : (l ++ [b]).length + (n - 1) = n0 := by rw [List.length_append, List.length_singleton]; omega
   clear hown hgr ho hL hsz HFB HF
   generalize l ++ [b] = l2 at *
   go_wp2
   go_roundw
   case rel => exact ⟨n - 1, l2, by omega, by go_num, hl2, HF2, ho2, hDn, hO⟩
   case measure => simp [intOf]; omega
  ·obtain rfl : n = 0 := by omega
   have d2 : decide ((0 : Int) < ((0 : Nat) : Int)) = false := by decide
   go_wp2
   go_ret
   exact ⟨⟨l, _, rfl, ho, HF.out, by omega, by omega⟩, hD, hO⟩
end Go.Proofs.Ytjbkjgmcfommgaa

namespace Go.Proofs.Ytjbkjgmcfommgaa
open Go.RowKit
/-- A list of ints in a block of its own, behind g. -/
def IB (g : Nat) (w : World) (q : Nat) (l : List Int) : Prop := g < q ∧ Blk w q 3 (l.map (Value.int .i64)).toArray
theorem IB.ints {g : Nat} {w : World} {q : Nat} {l : List Int} (h : IB g w q l) : Ints w (some ⟨q, 0, none⟩) l := by
 refine ⟨by simp, fun _ => ⟨_, rfl, h.2.lt, fun j u hu => ?_⟩⟩
 rw [add_head, h.2.cell, ← Array.getElem?_toList]
 exact hu
/-- What leaves the blocks of ints alone, but for g. -/
def TrI (g : Nat) (w w' : World) : Prop := ∀ (q : Nat) (l : List Int), IB g w q l → IB g w' q l
structure GT (g : Nat) where
 P : World → Value → Prop
 cl : ∀ w w' v, P w v → TrI g w w' → P w' v
section
variable {g : Nat} {DS : List (Option (GT g))} {L : Ran} {vs : Nat → Value} {w w' : World} {k : Nat} {u : Value}
end
end Go.Proofs.Ytjbkjgmcfommgaa

namespace Go.Proofs.Ytjbkjgmcfommgaa
open Go.RowKit
theorem ChV.mono {w : World} {ok ok2 : Nat → Prop} {c : Ch} {v : Value} (h : ChV w ok c v) (hk : ∀ k, ok k → ok2 k) : ChV w ok2 c v := by
 obtain ⟨A, n, e, hn, hi⟩ := h
 exact ⟨A, n, e, hn, RdB.mono hi hk⟩
end Go.Proofs.Ytjbkjgmcfommgaa

namespace Go.Proofs.Ytjbkjgmcfommgaa
open Go.RowKit
theorem OwnB.lower {w : World} {base lo lo2 : Nat} {v : Value} {l : List Bx} (h : OwnB w base lo v l) (hl : lo2 ≤ lo) : OwnB w base lo2 v l := by
 obtain ⟨vs, h1, h2⟩ := h
 exact ⟨vs, h1, fun i x hx => by obtain ⟨A1, c1, A2, c2, A3, c3, hp, hc⟩ := h2 i x hx; exact ⟨A1, c1, A2, c2, A3, c3, hp.mono (fun k hk => ⟨Nat.le_trans hl hk.1, hk.2⟩), hc⟩⟩
theorem dice_low (B : Nat) (A : Option Addr) (c : Nat) (l : List Int) (w : World) (h : Reads w B 1 A l.length (l.map (Value.int .u8))) (hB : B ≤ w.heap.size) (hc : l.length ≤ c) (hl : l.length ≤ 9223372036854775807) (hwf : ∀ x ∈ l, 0 ≤ x ∧ x ≤ 255) :
 Calls Try.prog 9 #[.slice A l.length c] w fun e w' => e = .returned (.pointer (some ⟨w.heap.size, 0, none⟩)) ∧ DR w' B w.heap.size ∧ Grows w w' := by
 have key : ∀ (m : Nat) (w1 : World) (v : Value), m = min l.length 300 → w1 = w.alloc (.cells #[.slice A m c] DiceT) → v = .pointer (some ⟨w.heap.size, 0, none⟩) → Ending.returned v = .returned (.pointer (some ⟨w.heap.size, 0, none⟩)) ∧ DR w1 B w.heap.size ∧ Grows w w1 := by
  intro m w1 v hm hw hv
  subst hw hv
  have hlen : (l.take m).length = m := by simp; omega
  refine ⟨rfl, ⟨l.take m, A, c, ?_, ?_, by rw [hlen]; omega, hB, fun x hx => hwf x (List.mem_of_mem_take hx), by rw [hlen]; omega⟩, (Below.refl _ _).alloc (Nat.le_refl _) _⟩
  ·rw [hlen]; exact Blk.new _ _ _
  ·rw [hlen, List.map_take]; exact (h.take_ (by omega)).alloc hB _
 go_enter Try.func9, Try.ntmps9
 by_cases h3 : l.length ≤ 300
 ·have e1 : min (l.length : Int) 300 = l.length := by omega
  go_wp2
  go_ret
  exact key l.length _ _ (by omega) rfl rfl
 ·have e1 : min (l.length : Int) 300 = 300 := by omega
  go_wp2
  go_ret
  exact key 300 _ _ (by omega) rfl rfl
end Go.Proofs.Ytjbkjgmcfommgaa

namespace Go.Proofs.Ytjbkjgmcfommgaa
open Go.RowKit
def AnyB : Nat → Prop := fun _ => True
def ptB (r : Int) (m : List Int) : Bx := ⟨4, [(r, r)], [m], [(64, 64)]⟩
theorem rd_lit (w : World) {ok : Nat → Prop} (T : TypeId) (xs : Array Value) (size n : Nat) (hl : xs.toList.length = n * size) (hw : ok w.heap.size) : RdB (w.alloc (.cells xs T)) ok size (some ⟨w.heap.size, 0, none⟩) n xs.toList := by
 have hk := Blk.new w T xs
 refine ⟨⟨hl, fun _ => ⟨_, rfl, hk.lt, fun j u hu => ?_⟩⟩, fun _ ad e => by injection e with e; subst e; exact hw⟩
 rw [add_head, hk.cell, ← Array.getElem?_toList]
 exact hu
theorem maps_lit1 (w : World) {ok : Nat → Prop} {A : Option Addr} {c : Nat} {m : List Int} (h : InB w ok A m) (hc : m.length ≤ c) (hw : ok w.heap.size) : MapsR (w.alloc (.cells #[.slice A m.length c] 42)) ok (some ⟨w.heap.size, 0, none⟩) [m] := by
 have hq := (Below.refl w.heap.size w).alloc (Nat.le_refl _) (Obj.cells #[.slice A m.length c] 42)
 refine ⟨_, rd_lit w _ #[.slice A m.length c] 1 1 rfl hw, fun i x hx => ?_⟩
 have hi0 : i = 0 := by
  have := (List.getElem?_eq_some_iff.1 hx).1
  simp only [List.length_singleton] at this
  omega
 subst hi0
 simp only [List.getElem?_cons_zero, Option.some.injEq] at hx
 subst hx
 exact ⟨A, c, rfl, hc, h.grows hq⟩
end Go.Proofs.Ytjbkjgmcfommgaa

namespace Go.Proofs.Ytjbkjgmcfommgaa
open Go.RowKit
end Go.Proofs.Ytjbkjgmcfommgaa

namespace Go.Proofs.Ytjbkjgmcfommgaa
open Go.RowKit
end Go.Proofs.Ytjbkjgmcfommgaa

namespace Go.Proofs.Ytjbkjgmcfommgaa
open Go.RowKit
structure Tot {α : Type} (f : α → α → Int) : Prop where
 anti : ∀ a b, f a b = -f b a
 trans : ∀ a b c, f a b ≤ 0 → f b c ≤ 0 → f a c ≤ 0
 bd : ∀ a b, -1 ≤ f a b ∧ f a b ≤ 1
theorem Tot.tri {α : Type} {f : α → α → Int} (h : Tot f) (a b c : α) : 0 < f a b ∨ 0 < f b c ∨ f a c ≤ 0 := by
 have t := h.trans a b c
 by_cases h1 : f a b ≤ 0
 ·by_cases h2 : f b c ≤ 0
  ·exact .inr (.inr (t h1 h2))
  ·exact .inr (.inl (by omega))
 ·exact .inl (by omega)
theorem Tot.or {α : Type} {f g : α → α → Int} (hf : Tot f) (hg : Tot g) : Tot fun a b => if f a b = 0 then g a b else f a b := by
 refine ⟨fun a b => ?_, fun a b c h1 h2 => ?_, fun a b => ?_⟩
 ·show (if f a b = 0 then g a b else f a b) = -(if f b a = 0 then g b a else f b a)
  have h1 := hf.anti a b
  have h2 := hg.anti a b
  split <;> split <;> omega
 ·replace h1 : (if f a b = 0 then g a b else f a b) ≤ 0 := h1
  replace h2 : (if f b c = 0 then g b c else f b c) ≤ 0 := h2
  show (if f a c = 0 then g a c else f a c) ≤ 0
  have k1 := hf.anti a b
  have k2 := hf.anti b c
  have k3 := hf.anti a c
  have t1 := hf.tri a b c
  have t2 := hf.tri c a b
  have t3 := hf.tri b c a
  have t4 := hg.tri a b c
  split at h1 <;> split at h2 <;> split <;> omega
 ·show -1 ≤ (if f a b = 0 then g a b else f a b) ∧ (if f a b = 0 then g a b else f a b) ≤ 1
  have h1 := hf.bd a b
  have h2 := hg.bd a b
  split <;> omega
theorem Tot.comap {α β : Type} {f : β → β → Int} (h : Tot f) (u : α → β) : Tot fun a b => f (u a) (u b) := ⟨fun _a _b => h.anti _ _, fun _a _b _c => h.trans _ _ _, fun _a _b => h.bd _ _⟩
theorem Tot.flip {α : Type} {f : α → α → Int} (h : Tot f) : Tot fun a b => f b a := ⟨fun _a _b => h.anti _ _, fun _a _b _c h1 h2 => h.trans _ _ _ h2 h1, fun _a _b => h.bd _ _⟩
theorem Tot.self {α : Type} {f : α → α → Int} (h : Tot f) (a : α) : f a a = 0 := by have := h.anti a a; omega
theorem cmpZ_spec (a b : Int) : (a < b ∧ cmpZ a b = -1) ∨ (a = b ∧ cmpZ a b = 0) ∨ (b < a ∧ cmpZ a b = 1) := by
 unfold cmpZ
 by_cases h1 : a < b
 ·rw [if_pos h1]; omega
 ·rw [if_neg h1]
  by_cases h2 : b < a
  ·rw [if_pos h2]; omega
  ·rw [if_neg h2]; omega
theorem tot_cmpZ : Tot cmpZ := by
 refine ⟨fun a b => ?_, fun a b c h1 h2 => ?_, fun a b => ?_⟩
 ·have := cmpZ_spec a b; have := cmpZ_spec b a; omega
 ·have := cmpZ_spec a b; have := cmpZ_spec b c; have := cmpZ_spec a c; omega
 ·have := cmpZ_spec a b; omega
theorem cmpZ_eq0 {a b : Int} : cmpZ a b = 0 ↔ a = b := by
 have := cmpZ_spec a b
 omega
theorem kindZ_spec (w a b : Int) : (a = b ∧ kindZ w a b = 0) ∨ (a ≠ b ∧ (a = w ∨ (b ≠ w ∧ b < a)) ∧ kindZ w a b = -1) ∨ (a ≠ b ∧ a ≠ w ∧ (b = w ∨ a < b) ∧ kindZ w a b = 1) := by
 unfold kindZ
 by_cases h1 : a = b
 ·rw [if_pos h1]; omega
 ·rw [if_neg h1]
  by_cases h2 : a = w ∨ (b ≠ w ∧ b < a)
  ·rw [if_pos h2]; omega
  ·rw [if_neg h2]; omega
theorem tot_kindZ (want : Int) : Tot (kindZ want) := by
 refine ⟨fun a b => ?_, fun a b c h1 h2 => ?_, fun a b => ?_⟩
 ·have := kindZ_spec want a b; have := kindZ_spec want b a; omega
 ·have := kindZ_spec want a b; have := kindZ_spec want b c; have := kindZ_spec want a c; omega
 ·have := kindZ_spec want a b; omega
theorem kindZ_zero {want a b : Int} : kindZ want a b = 0 ↔ a = b := by
 have := kindZ_spec want a b
 omega
theorem tot_closer (want : Int) : Tot (closerF want) := by
 have e : closerF want = fun a b => if cmpZ (farD a want) (farD b want) = 0 then cmpZ a b else cmpZ (farD a want) (farD b want) := by
  funext a b
  exact closer_eq want a b
 rw [e]
 exact Tot.or (tot_cmpZ.comap fun a => farD a want) tot_cmpZ
theorem closer_zero {want a b : Int} : closerF want a b = 0 ↔ a = b := by
 constructor
 ·intro h
  rw [closer_eq] at h
  split at h
  ·exact cmpZ_eq0.1 h
  ·omega
 ·intro h
  subst h
  exact (tot_closer want).self a
theorem tot_lex : Tot lexZ := by
 refine ⟨?_, ?_, ?_⟩
 ·intro a
  induction a with
  | nil => intro b; cases b <;> rfl
  | cons x a ih =>
   intro b
   cases b with
   | nil => rfl
   | cons y b =>
    show (if cmpZ x y = 0 then lexZ a b else cmpZ x y) = -(if cmpZ y x = 0 then lexZ b a else cmpZ y x)
    have h1 := tot_cmpZ.anti x y
    have h2 := ih b
    split <;> split <;> omega
 ·intro a
  induction a with
  | nil => intro b c _ _; cases c <;> (unfold lexZ; omega)
  | cons x a ih =>
   intro b c h1 h2
   cases b with
   | nil => replace h1 : (1 : Int) ≤ 0 := h1; omega
   | cons y b =>
    cases c with
    | nil => replace h2 : (1 : Int) ≤ 0 := h2; omega
    | cons z c =>
     replace h1 : (if cmpZ x y = 0 then lexZ a b else cmpZ x y) ≤ 0 := h1
     replace h2 : (if cmpZ y z = 0 then lexZ b c else cmpZ y z) ≤ 0 := h2
     show (if cmpZ x z = 0 then lexZ a c else cmpZ x z) ≤ 0
     have k1 := tot_cmpZ.anti x y
     have k2 := tot_cmpZ.anti y z
     have k3 := tot_cmpZ.anti x z
     have t1 := tot_cmpZ.tri x y z
     have t2 := tot_cmpZ.tri z x y
     have t3 := tot_cmpZ.tri y z x
     have t4 : 0 < lexZ a b ∨ 0 < lexZ b c ∨ lexZ a c ≤ 0 := by
      by_cases e1 : lexZ a b ≤ 0
      ·by_cases e2 : lexZ b c ≤ 0
       ·exact .inr (.inr (ih b c e1 e2))
       ·exact .inr (.inl (by omega))
      ·exact .inl (by omega)
     split at h1 <;> split at h2 <;> split <;> omega
 ·intro a
  induction a with
  | nil => intro b; cases b <;> (unfold lexZ; omega)
  | cons x a ih =>
   intro b
   cases b with
   | nil => unfold lexZ; omega
   | cons y b =>
    show -1 ≤ (if cmpZ x y = 0 then lexZ a b else cmpZ x y) ∧ (if cmpZ x y = 0 then lexZ a b else cmpZ x y) ≤ 1
    have h1 := tot_cmpZ.bd x y
    have h2 := ih b
    split <;> omega
theorem lex_zero {a b : List Int} : lexZ a b = 0 ↔ a = b := by
 constructor
 ·induction a generalizing b with
  | nil => intro h; cases b with
   | nil => rfl
   | cons y b => replace h : (-1 : Int) = 0 := h; omega
  | cons x a ih =>
   intro h
   cases b with
   | nil => replace h : (1 : Int) = 0 := h; omega
   | cons y b =>
    replace h : (if cmpZ x y = 0 then lexZ a b else cmpZ x y) = 0 := h
    split at h
    ·rename_i e; rw [cmpZ_eq0.1 e, ih h]
    ·omega
 ·intro h
  subst h
  exact tot_lex.self a
def rankM (want a : List Int) : Int := if a = want then 0 else 1
def mapsG (want a b : List Int) : Int := if cmpZ ((commonL want b).length : Int) ((commonL want a).length : Int) = 0 then (if cmpZ (a.length : Int) (b.length : Int) = 0 then lexZ a b else cmpZ (a.length : Int) (b.length : Int)) else cmpZ ((commonL want b).length : Int) ((commonL want a).length : Int)
theorem orZ_one (x : Int) : orZ [x] = x := by
 rw [orZ_cons]
 split
 ·rename_i h; rw [h]; rfl
 ·rfl
theorem maps_eq (want a b : List Int) : mapsF want a b = if cmpZ (rankM want a) (rankM want b) = 0 then mapsG want a b else cmpZ (rankM want a) (rankM want b) := by
 have e : orZ [cmpZ ((commonL want b).length : Int) ((commonL want a).length : Int), cmpZ (a.length : Int) (b.length : Int), lexZ a b] = mapsG want a b := by
  rw [orZ_cons, orZ_cons, orZ_one]
  rfl
 unfold mapsF
 rw [e]
 unfold rankM
 by_cases h1 : a = want <;> by_cases h2 : b = want <;> simp [h1, h2, cmpZ]
theorem tot_maps (want : List Int) : Tot (mapsF want) := by
 have e : mapsF want = fun a b => if cmpZ (rankM want a) (rankM want b) = 0 then mapsG want a b else cmpZ (rankM want a) (rankM want b) := by
  funext a b
  exact maps_eq want a b
 have e2 : Tot (mapsG want) := Tot.or (tot_cmpZ.comap fun a : List Int => ((commonL want a).length : Int)).flip (Tot.or (tot_cmpZ.comap fun a : List Int => (a.length : Int)) tot_lex)
 rw [e]
 exact Tot.or (tot_cmpZ.comap fun a => rankM want a) e2
theorem maps_zero {want a b : List Int} : mapsF want a b = 0 ↔ a = b := by
 constructor
 ·intro h
  rw [maps_eq] at h
  split at h
  ·unfold mapsG at h
   split at h
   ·split at h
    ·exact lex_zero.1 h
    ·omega
   ·omega
  ·omega
 ·intro h
  subst h
  exact (tot_maps want).self a
theorem cmp_eq (w a b : Ch) : cmpF w a b = if kindZ w.k a.k b.k = 0 then (if closerF w.r a.r b.r = 0 then (if mapsF w.m a.m b.m = 0 then closerF w.s a.s b.s else mapsF w.m a.m b.m) else closerF w.r a.r b.r) else kindZ w.k a.k b.k := by
 unfold cmpF cmpL
 rw [orZ_cons, orZ_cons, orZ_cons, orZ_one]
theorem tot_cmp (w : Ch) : Tot (cmpF w) := by
 have e : cmpF w = fun a b => if kindZ w.k a.k b.k = 0 then (if closerF w.r a.r b.r = 0 then (if mapsF w.m a.m b.m = 0 then closerF w.s a.s b.s else mapsF w.m a.m b.m) else closerF w.r a.r b.r) else kindZ w.k a.k b.k := by
  funext a b
  exact cmp_eq w a b
 rw [e]
 exact Tot.or ((tot_kindZ w.k).comap Ch.k) (Tot.or ((tot_closer w.r).comap Ch.r) (Tot.or ((tot_maps w.m).comap Ch.m) ((tot_closer w.s).comap Ch.s)))
theorem cmp_zero {w a b : Ch} : cmpF w a b = 0 ↔ a = b := by
 constructor
 ·intro h
  rw [cmp_eq] at h
  split at h
  ·rename_i h1
   split at h
   ·rename_i h2
    split at h
    ·rename_i h3
     have e1 := kindZ_zero.1 h1
     have e2 := closer_zero.1 h2
     have e3 := maps_zero.1 h3
     have e4 := closer_zero.1 h
     cases a
     cases b
     simp only at e1 e2 e3 e4
     rw [e1, e2, e3, e4]
    ·omega
   ·omega
  ·omega
 ·intro h
  subst h
  exact (tot_cmp w).self a
theorem kind_least (w b : Int) : kindZ w w b ≤ 0 := by
 have := kindZ_spec w w b
 omega
theorem closer_least (w b : Int) : closerF w w b ≤ 0 := by
 rw [closer_eq]
 have h1 : cmpZ (farD w w) (farD b w) ≤ 0 := by
  have e1 : farD w w = 0 := by unfold farD; rw [if_neg (by omega)]; omega
  have e2 : 0 ≤ farD b w := by unfold farD; split <;> omega
  have := cmpZ_spec (farD w w) (farD b w)
  omega
 split
 ·rename_i h
  have h2 := cmpZ_eq0.1 h
  have h3 : w = b := by
   unfold farD at h2
   split at h2 <;> split at h2 <;> omega
  rw [cmpZ_eq0.2 h3]
  omega
 ·exact h1
theorem maps_least (w b : List Int) : mapsF w w b ≤ 0 := by
 by_cases h : b = w
 ·subst h
  rw [maps_zero.2 rfl]
  omega
 ·rw [maps_eq]
  unfold rankM
  rw [if_pos rfl, if_neg h]
  simp [cmpZ]
theorem cmp_least (w b : Ch) : cmpF w w b ≤ 0 := by
 have h1 := kind_least w.k b.k
 have h2 := closer_least w.r b.r
 have h3 := maps_least w.m b.m
 have h4 := closer_least w.s b.s
 rw [cmp_eq]
 split
 ·split
  ·split <;> omega
  ·omega
 ·omega
end Go.Proofs.Ytjbkjgmcfommgaa

namespace Go.Proofs.Ytjbkjgmcfommgaa
open Go.RowKit
theorem kind_fin : ∀ b : Fin 256, 2 ≤ b.val → b.val % 2 = 0 → kindB (b.val : Int) ((Lib.bitLen b.val : Int) - 1) = true ∧ ∀ y : Fin 8, kindB (b.val : Int) (y.val : Int) = true → (y.val : Int) ≤ (Lib.bitLen b.val : Int) - 1 := by decide +kernel
theorem kindB_rng {b k : Int} (h : kindB b k = true) : 1 ≤ k ∧ k ≤ 7 := by
 unfold kindB at h
 rw [Bool.and_eq_true, Bool.and_eq_true, decide_eq_true_eq, decide_eq_true_eq] at h
 exact h.1
theorem topK_in {b : Int} (hb : I64 b) (h : kindsOk b = true) (w : Int) : kindB b (topK w b) = true := by
 obtain ⟨h1, h2, h3⟩ := kinds_range hb h
 unfold topK
 split
 ·assumption
 ·obtain ⟨n, rfl⟩ : ∃ n : Nat, b = (n : Int) := ⟨b.toNat, by omega⟩
  have := (kind_fin ⟨n, by omega⟩ (by show 2 ≤ n; omega) (by show n % 2 = 0; omega)).1
  exact this
theorem topK_least {b : Int} (hb : I64 b) (h : kindsOk b = true) (w y : Int) (hy : kindB b y = true) : kindZ w (topK w b) y ≤ 0 := by
 obtain ⟨h1, h2, h3⟩ := kinds_range hb h
 unfold topK
 split
 ·exact kind_least w y
 ·rename_i hw
  obtain ⟨n, rfl⟩ : ∃ n : Nat, b = (n : Int) := ⟨b.toNat, by omega⟩
  obtain ⟨r1, r2⟩ := kindB_rng hy
  obtain ⟨j, rfl⟩ : ∃ j : Nat, y = (j : Int) := ⟨y.toNat, by omega⟩
  obtain ⟨k1, k2⟩ := kind_fin ⟨n, by omega⟩ (by show 2 ≤ n; omega) (by show n % 2 = 0; omega)
  have k3 := k2 ⟨j, by omega⟩ hy
  replace k3 : (j : Int) ≤ (Lib.bitLen n : Int) - 1 := k3
  replace k1 : kindB (n : Int) ((Lib.bitLen n : Int) - 1) = true := k1
  have e1 : (j : Int) ≠ w := fun e => hw (e ▸ hy)
  have e2 : (Lib.bitLen n : Int) - 1 ≠ w := fun e => hw (e ▸ k1)
  show kindZ w ((Lib.bitLen n : Int) - 1) (j : Int) ≤ 0
  have := kindZ_spec w ((Lib.bitLen n : Int) - 1) (j : Int)
  omega
theorem clamp_near (lo hi n m : Int) (h1 : lo ≤ m) (h2 : m ≤ hi) : farD (max lo (min hi n)) n ≤ farD m n ∧ (farD (max lo (min hi n)) n = farD m n → max lo (min hi n) ≤ m) := by
 unfold farD
 split <;> split <;> omega
theorem near_key (n : Int) : ∀ (l : List Sp) (p : Int) (E : Int → Prop), Canon l → E p → (∀ m, E m → farD p n ≤ farD m n ∧ (farD p n = farD m n → p ≤ m)) → (∀ m, ∀ x ∈ l, E m → m < x.1) →
 (E (l.foldl (nearS n) (p, true)).1 ∨ ∃ x ∈ l, x.1 ≤ (l.foldl (nearS n) (p, true)).1 ∧ (l.foldl (nearS n) (p, true)).1 ≤ x.2) ∧ ∀ m, (E m ∨ ∃ x ∈ l, x.1 ≤ m ∧ m ≤ x.2) → farD (l.foldl (nearS n) (p, true)).1 n ≤ farD m n ∧ (farD (l.foldl (nearS n) (p, true)).1 n = farD m n → (l.foldl (nearS n) (p, true)).1 ≤ m) := by
 intro l
 induction l with
 | nil => exact fun p E _ hp hm _ => ⟨.inl hp, fun m h => h.elim (hm m) (fun ⟨x, hx, _⟩ => by cases hx)⟩
 | cons x l ih =>
  intro p E hc hp hm hlt
  obtain ⟨hx, hgap, hcl⟩ := canon_cons.1 hc
  have hK1 : x.1 ≤ max x.1 (min x.2 n) := by omega
  have hK2 : max x.1 (min x.2 n) ≤ x.2 := by omega
  have hstep : ∃ q, nearS n (p, true) x = (q, true) ∧ ((q = max x.1 (min x.2 n) ∧ farD q n < farD p n) ∨ (q = p ∧ farD p n ≤ farD (max x.1 (min x.2 n)) n)) := by
   by_cases h : farD (max x.1 (min x.2 n)) n < farD p n
   ·exact ⟨_, if_pos (.inr h), .inl ⟨rfl, h⟩⟩
   ·exact ⟨p, if_neg (fun hh => hh.elim (fun e => by cases e) h), .inr ⟨rfl, by omega⟩⟩
  obtain ⟨q, hq, hcase⟩ := hstep
  have hpx := hlt p x (List.mem_cons_self ..) hp
  have e : (x :: l).foldl (nearS n) (p, true) = l.foldl (nearS n) (q, true) := by rw [List.foldl_cons, hq]
  rw [e]
  have hmain := ih q (fun m => E m ∨ (x.1 ≤ m ∧ m ≤ x.2)) hcl ?_ ?_ ?_
  ·refine ⟨?_, fun m h => hmain.2 m ?_⟩
   ·rcases hmain.1 with (h | h) | ⟨z, hz, h⟩
    ·exact .inl h
    ·exact .inr ⟨x, List.mem_cons_self .., h⟩
    ·exact .inr ⟨z, List.mem_cons_of_mem _ hz, h⟩
   ·rcases h with h | ⟨z, hz, h⟩
    ·exact .inl (.inl h)
    ·rcases List.mem_cons.1 hz with rfl | hz
     ·exact .inl (.inr h)
     ·exact .inr ⟨z, hz, h⟩
  ·rcases hcase with ⟨rfl, _⟩ | ⟨rfl, _⟩
   ·exact .inr ⟨hK1, hK2⟩
   ·exact .inl hp
  ·intro m h
   rcases h with h | ⟨h1, h2⟩
   ·have h9 := hm m h
    rcases hcase with ⟨e1, h3⟩ | ⟨e1, h3⟩
    ·omega
    ·rw [e1]; exact h9
   ·have h9 := clamp_near x.1 x.2 n m h1 h2
    rcases hcase with ⟨e1, h3⟩ | ⟨e1, h3⟩
    ·rw [e1]; exact h9
    ·rw [e1]; omega
  ·intro m z hz h
   have hg := hgap z hz
   rcases h with h | ⟨h1, h2⟩
   ·have := hlt m x (List.mem_cons_self ..) h; omega
   ·omega
theorem hasF_mem {l : List Sp} (h : okS l = true) {m : Int} : hasF l m = true ↔ ∃ x ∈ l, x.1 ≤ m ∧ m ≤ x.2 := by
 unfold hasF spansF
 rw [if_pos h, List.any_eq_true]
 constructor
 ·rintro ⟨x, hx, hp⟩
  unfold hasP at hp
  rw [Bool.and_eq_true, decide_eq_true_eq, decide_eq_true_eq] at hp
  exact ⟨x, hx, hp⟩
 ·rintro ⟨x, hx, hp⟩
  refine ⟨x, hx, ?_⟩
  unfold hasP
  rw [Bool.and_eq_true, decide_eq_true_eq, decide_eq_true_eq]
  exact hp
theorem near_is {l : List Sp} (h : okS l = true) (hl : 0 < l.length) (n : Int) : hasF l (nearF l n).1 = true ∧ ∀ m, hasF l m = true → closerF n (nearF l n).1 m ≤ 0 := by
 obtain ⟨-, hc, -⟩ := (okS_iff l).1 h
 have hs : spansF l = l := if_pos h
 cases l with
 | nil => simp at hl
 | cons x l =>
  obtain ⟨hx, hgap, hcl⟩ := canon_cons.1 hc
  have e : nearF (x :: l) n = l.foldl (nearS n) (max x.1 (min x.2 n), true) := by
   unfold nearF
   rw [hs, List.foldl_cons]
   congr 1
  obtain ⟨k1, k2⟩ := near_key n l (max x.1 (min x.2 n)) (fun m => x.1 ≤ m ∧ m ≤ x.2) hcl (by omega) (fun m hm => clamp_near x.1 x.2 n m hm.1 hm.2) (fun m z hz hm => by have := hgap z hz; omega)
  rw [e]
  refine ⟨(hasF_mem h).2 ?_, fun m hm => ?_⟩
  ·rcases k1 with k1 | ⟨z, hz, k1⟩
   ·exact ⟨x, List.mem_cons_self .., k1⟩
   ·exact ⟨z, List.mem_cons_of_mem _ hz, k1⟩
  ·obtain ⟨z, hz, hp⟩ := (hasF_mem h).1 hm
   have k3 := k2 m (by
    rcases List.mem_cons.1 hz with rfl | hz
    ·exact .inl hp
    ·exact .inr ⟨z, hz, hp⟩)
   generalize (l.foldl (nearS n) (max x.1 (min x.2 n), true)).1 = p at *
   rw [closer_eq]
   have s1 := cmpZ_spec (farD p n) (farD m n)
   have s2 := cmpZ_spec p m
   split <;> omega
theorem minUp_is (w : List Int) (ms : List (List Int)) : ∀ n, 1 ≤ n → n ≤ ms.length → minUp w ms n ∈ ms ∧ ∀ i, i < n → mapsF w (minUp w ms n) (ms.getD i []) ≤ 0 := by
 intro n
 induction n with
 | zero => intro h; omega
 | succ n ih =>
  intro _ hn
  have hmem : ms.getD n [] ∈ ms := by
   rw [List.getD_eq_getElem?_getD, List.getElem?_eq_getElem (by omega)]
   exact List.getElem_mem (by omega)
  have hself := (tot_maps w).self (ms.getD n [])
  by_cases h0 : n = 0
  ·have e : minUp w ms (n + 1) = ms.getD n [] := if_pos (.inl h0)
   rw [e]
   refine ⟨hmem, fun i hi => ?_⟩
   obtain rfl : i = n := by omega
   omega
  ·obtain ⟨k1, k2⟩ := ih (by omega) (by omega)
   by_cases h1 : mapsF w (ms.getD n []) (minUp w ms n) < 0
   ·have e : minUp w ms (n + 1) = ms.getD n [] := if_pos (.inr h1)
    rw [e]
    refine ⟨hmem, fun i hi => ?_⟩
    by_cases hi2 : i = n
    ·subst hi2; omega
    ·exact (tot_maps w).trans _ _ _ (by omega) (k2 i (by omega))
   ·have e : minUp w ms (n + 1) = minUp w ms n := if_neg (fun h => h.elim h0 h1)
    rw [e]
    refine ⟨k1, fun i hi => ?_⟩
    by_cases hi2 : i = n
    ·subst hi2
     have := (tot_maps w).anti (ms.getD i []) (minUp w ms i)
     omega
    ·exact k2 i (by omega)
theorem minUp_least {w : List Int} {ms : List (List Int)} (h : 1 ≤ ms.length) {y : List Int} (hy : y ∈ ms) : mapsF w (minUp w ms ms.length) y ≤ 0 := by
 obtain ⟨i, hi, rfl⟩ := List.getElem_of_mem hy
 have := (minUp_is w ms ms.length h (Nat.le_refl _)).2 i hi
 rw [List.getD_eq_getElem?_getD, List.getElem?_eq_getElem hi] at this
 exact this
theorem fineB_parts {b : Bx} (h : fineB b = true) : kindsOk b.k = true ∧ (okS b.r = true ∧ 0 < b.r.length) ∧ (okS b.s = true ∧ 0 < b.s.length) ∧ 1 ≤ b.m.length := by
 unfold fineB withinS mapsOk at h
 simp only [Bool.and_eq_true, decide_eq_true_eq] at h
 obtain ⟨⟨⟨h1, ⟨⟨h2, h3⟩, h4⟩, h5⟩, ⟨⟨h6, h7⟩, h8⟩, h9⟩, ⟨h10, h11⟩, h12⟩ := h
 exact ⟨h1, ⟨h2, h3⟩, ⟨h6, h7⟩, h10⟩
theorem top_in {b : Bx} (h : fineB b = true) (hk : I64 b.k) (w : Ch) : inB b (topP w b) = true := by
 obtain ⟨h1, ⟨h2, h3⟩, ⟨h4, h5⟩, h6⟩ := fineB_parts h
 exact inB_yes (topK_in hk h1 w.k) (near_is h2 h3 w.r).1 (minUp_is w.m b.m b.m.length h6 (Nat.le_refl _)).1 (near_is h4 h5 w.s).1
theorem top_least {b : Bx} (h : fineB b = true) (hk : I64 b.k) (w y : Ch) (hy : inB b y = true) : cmpF w (topP w b) y ≤ 0 := by
 obtain ⟨h1, ⟨h2, h3⟩, ⟨h4, h5⟩, h6⟩ := fineB_parts h
 unfold inB at hy
 simp only [Bool.and_eq_true, decide_eq_true_eq] at hy
 obtain ⟨⟨⟨y1, y2⟩, y3⟩, y4⟩ := hy
 have k1 : kindZ w.k (topP w b).k y.k ≤ 0 := topK_least hk h1 w.k y.k y1
 have k2 : closerF w.r (topP w b).r y.r ≤ 0 := (near_is h2 h3 w.r).2 y.r y2
 have k3 : mapsF w.m (topP w b).m y.m ≤ 0 := minUp_least h6 y3
 have k4 : closerF w.s (topP w b).s y.s ≤ 0 := (near_is h4 h5 w.s).2 y.s y4
 rw [cmp_eq]
 split
 ·split
  ·split <;> omega
  ·omega
 ·omega
theorem fold_best (w : Ch) (f : Bx → Ch) : ∀ (l : List Bx) (s : Ch × Bool), ((s.2 = true ∨ l ≠ []) → (l.foldl (bestStep f w) s).2 = true) ∧ (s.2 = true → cmpF w (l.foldl (bestStep f w) s).1 s.1 ≤ 0) ∧ (∀ b ∈ l, cmpF w (l.foldl (bestStep f w) s).1 (f b) ≤ 0) ∧ ((s.2 = true ∧ (l.foldl (bestStep f w) s).1 = s.1) ∨ l = [] ∨ ∃ b ∈ l, (l.foldl (bestStep f w) s).1 = f b) := by
 intro l
 induction l with
 | nil => exact fun s => ⟨fun h => h.elim id (fun h => absurd rfl h), fun _ => Int.le_of_eq ((tot_cmp w).self s.1), (fun b hb => by cases hb), Or.inr (Or.inl rfl)⟩
 | cons b l ih =>
  intro s
  obtain ⟨i1, i2, i3, i4⟩ := ih (bestStep f w s b)
  have i5 : l = [] → l.foldl (bestStep f w) (bestStep f w s b) = bestStep f w s b := fun e => by rw [e]; rfl
  rw [List.foldl_cons]
  generalize l.foldl (bestStep f w) (bestStep f w s b) = r at *
  have hstep : (bestStep f w s b).2 = true ∧ cmpF w (bestStep f w s b).1 (f b) ≤ 0 ∧ (s.2 = true → cmpF w (bestStep f w s b).1 s.1 ≤ 0) ∧ ((s.2 = true ∧ (bestStep f w s b).1 = s.1) ∨ (bestStep f w s b).1 = f b) := by
   unfold bestStep
   have hself := (tot_cmp w).self (f b)
   by_cases h : s.2 = false ∨ cmpF w (f b) s.1 < 0
   ·rw [if_pos h]
    refine ⟨rfl, by show cmpF w (f b) (f b) ≤ 0; omega, fun hs => ?_, .inr rfl⟩
    rcases h with h | h
    ·rw [hs] at h; cases h
    ·exact Int.le_of_lt h
   ·rw [if_neg h]
    have hs : s.2 = true := by
     cases e : s.2
     ·exact absurd (.inl e) h
     ·rfl
    refine ⟨hs, ?_, fun _ => ?_, .inl ⟨hs, rfl⟩⟩
    ·have h2 : ¬ cmpF w (f b) s.1 < 0 := fun hh => h (.inr hh)
     have := (tot_cmp w).anti (f b) s.1
     omega
    ·have := (tot_cmp w).self s.1
     omega
  obtain ⟨t1, t2, t3, t4⟩ := hstep
  have i2' := i2 t1
  refine ⟨fun _ => i1 (.inl t1), fun hs => (tot_cmp w).trans _ _ _ i2' (t3 hs), fun c hc => ?_, ?_⟩
  ·rcases List.mem_cons.1 hc with rfl | hc
   ·exact (tot_cmp w).trans _ _ _ i2' t2
   ·exact i3 c hc
  ·rcases i4 with ⟨_, i4⟩ | i4 | ⟨c, hc, i4⟩
   ·rcases t4 with ⟨hs, t4⟩ | t4
    ·exact .inl ⟨hs, i4.trans t4⟩
    ·exact .inr (.inr ⟨b, List.mem_cons_self .., i4.trans t4⟩)
   ·rcases t4 with ⟨hs, t4⟩ | t4
    ·exact .inl ⟨hs, by rw [i5 i4]; exact t4⟩
    ·exact .inr (.inr ⟨b, List.mem_cons_self .., by rw [i5 i4]; exact t4⟩)
   ·exact .inr (.inr ⟨c, List.mem_cons_of_mem _ hc, i4⟩)
end Go.Proofs.Ytjbkjgmcfommgaa

namespace Go.Proofs.Ytjbkjgmcfommgaa
open Go.RowKit
section
variable {P : Program} {ops : Array Oper} {S : Ran → (Nat → Value) → World → Prop} {md : Region.Mode} {n N : Nat} {a0 : Act}
end
end Go.Proofs.Ytjbkjgmcfommgaa

namespace Go.Proofs.Ytjbkjgmcfommgaa
open Go.RowKit
def cutsS (x : Sp) (b : List Sp) : List Sp := b.flatMap fun y => cutS x y
section
variable {ops : Array Oper} {rest : List Oper} {o : Oper} {a : Act} {w : World} {Q : Exit → Act → World → Prop}
end
/-- What spans gives, as a value. -/
def SpV (A : Option Addr) (c : Nat) (l : List Sp) : Value := if okS l = true then .slice A l.length c else .slice none 0 0
theorem spV_is (A : Option Addr) (c : Nat) (l : List Sp) : ∃ A2 c2, SpV A c l = .slice A2 (spansF l).length c2 ∧ (∀ w0, Sps w0 A l → Sps w0 A2 (spansF l)) := by
  cases hok : okS l
  · exact ⟨none, 0, by unfold SpV spansF; rw [if_neg (by rw [hok]; simp), if_neg (by rw [hok]; simp)]; rfl, fun _ _ => by unfold spansF; rw [if_neg (by rw [hok]; simp)]; exact sps_nil _⟩
  · exact ⟨A, c, by unfold SpV spansF; rw [if_pos hok, if_pos hok], fun _ h => by unfold spansF; rw [if_pos hok]; exact h⟩
theorem meas_i (n m i k : Nat) (h : i < n) : n - (intOf (.int .i64 ((i : Int) + 1))).toNat + (m - (intOf (.int .i64 (k : Int))).toNat) < n - (intOf (.int .i64 (i : Int))).toNat + (m - (intOf (.int .i64 (k : Int))).toNat) := by
  simp [intOf]
  omega
theorem meas_k (n m i k : Nat) (h : k < m) : n - (intOf (.int .i64 (i : Int))).toNat + (m - (intOf (.int .i64 ((k : Int) + 1))).toNat) < n - (intOf (.int .i64 (i : Int))).toNat + (m - (intOf (.int .i64 (k : Int))).toNat) := by
  simp [intOf]
  omega
theorem canon_drop {l : List Sp} (h : Canon l) (i : Nat) : Canon (l.drop i) := ⟨fun x hx => h.1 x (List.mem_of_mem_drop hx), h.2.sublist (List.drop_sublist _ _)⟩
set_option maxHeartbeats 4000000 in
theorem spans_val (A : Option Addr) (c : Nat) (l : List Sp) (w : World) (h : Sps w A l) (hl : l.length ≤ 9223372036854775807) :
    Calls Try.prog 75 #[.agg #[.slice A l.length c]] w fun e w' => e = .returned (SpV A c l) ∧ Grows w w' := by
  have k2 := Blk.new w 51 #[.slice A l.length c]
  have hB := (Below.refl w.heap.size w).alloc (Nat.le_refl _) (Obj.cells #[.slice A l.length c] 51)
  go_enter Try.func75, Try.ntmps75
  go_upto_region 1 with fail
  have h1 := h.grows hB
  generalize World.alloc w _ = w1 at *
  have x2 := k2.cell 0
  go_wp2_with fail
  refine (valid_any A c l _ h1 hl).mono ?_
  rintro e w2 ⟨rfl, hq⟩
  replace hB := below_grows hB (Nat.le_refl _) hq
  replace k2 := k2.grows hq
  clear x2 hq
  have x2 := k2.cell 0
  cases hok : okS l
  · have e : SpV A c l = .slice none 0 0 := if_neg (by rw [hok]; simp)
    have HE := Lib.hid e
    clear e
    go_wp2
    go_ret
    rw [HE.out]
    exact ⟨rfl, hB⟩
  · have e : SpV A c l = .slice A l.length c := if_pos hok
    have HE := Lib.hid e
    clear e
    go_wp2
    go_ret
    rw [HE.out]
    exact ⟨rfl, hB⟩
set_option maxRecDepth 100000 in
set_option maxHeartbeats 16000000 in
theorem inter_own (A : Option Addr) (c : Nat) (l : List Sp) (B : Option Addr) (cb : Nat) (m : List Sp) (w : World) (h : Sps w A l) (hl : l.length ≤ 9223372036854775807) (hm : Sps w B m) (hml : m.length ≤ 9223372036854775807) :
    Calls Try.prog 98 #[.agg #[.slice A l.length c], .agg #[.slice B m.length cb]] w fun e w' => (∃ A5 c5, e = .returned (.agg #[.slice A5 ((interF (spansF l) (spansF m)).take 64).length c5]) ∧ ((interF (spansF l) (spansF m)).take 64).length ≤ c5 ∧ SpB w' (Ge w.heap.size) A5 ((interF (spansF l) (spansF m)).take 64)) ∧ Grows w w' := by
  have k2 := ((Blk.new w 51 #[.slice A l.length c]).alloc (Obj.cells #[.slice B m.length cb] 51)).alloc (Obj.cells #[.slice none 0 0] 51)
  have k3 := (blk_new_at (X := w.alloc (Obj.cells #[.slice A l.length c] 51)) (n := w.heap.size + 1) (t := 51) (cs := #[.slice B m.length cb]) (by simp)).alloc (Obj.cells #[.slice none 0 0] 51)
  have k4 := blk_new_at (X := (w.alloc (Obj.cells #[.slice A l.length c] 51)).alloc (Obj.cells #[.slice B m.length cb] 51)) (n := w.heap.size + 2) (t := 51) (cs := #[.slice none 0 0]) (by simp)
  have hB := (((Below.refl w.heap.size w).alloc (Nat.le_refl _) (Obj.cells #[.slice A l.length c] 51)).alloc (by simp) (Obj.cells #[.slice B m.length cb] 51)).alloc (by simp; omega) (Obj.cells #[.slice none 0 0] 51)
  go_enter Try.func98, Try.ntmps98
  go_upto_region 1 with fail
  generalize World.alloc (World.alloc (World.alloc w _) _) _ = w1 at *
  obtain ⟨S, HI, HO⟩ := hideS fun (L : Ran) (vs : Nat → Value) (w' : World) => Grows w1 w' ∧ KnS [some (.agg #[.slice A l.length c]), some (SpV A c l), some (.agg #[.slice B m.length cb]), some (SpV B cb m), some (SpV A c l), some (SpV B cb m)] L vs
  refine wp_region_genW S 79 (by kernel_rfl) (by kernel_rfl) rfl ?_ ?_
  · exact HI.out _ _ _ ⟨Grows.drew' _, kn_none _ _⟩
  refine gen_consR (fun vs L w1 hL hw1 => ?_) ?_
  · obtain ⟨q0, q1⟩ := HO.out _ _ _ hw1
    refine gen_plain rfl ?_
    have x := (k2.grows q0).cell 0
    go_simp
    exact gr_val (HI.out _ _ _ ⟨q0, kn_known q1 rfl⟩)
  refine gen_consR (fun vs L w1 hL hw1 => ?_) ?_
  · obtain ⟨q0, q1⟩ := HO.out _ _ _ hw1
    refine gen_plain rfl ?_
    have l0 : L 0 = true := hL.need 0 (by kernel_rfl)
    have e0 := q1 0 _ rfl l0
    simp only [e0]
    go_simp
    refine gr_call ?_
    refine (spans_val A c l _ (h.grows (below_grows hB (Nat.le_refl _) q0)) hl).mono ?_
    rintro e w2 ⟨rfl, hg⟩
    exact ⟨_, rfl, HI.out _ _ _ ⟨below_grows q0 (Nat.le_refl _) hg, kn_known q1 rfl⟩⟩
  refine gen_consR (fun vs L w1 hL hw1 => ?_) ?_
  · obtain ⟨q0, q1⟩ := HO.out _ _ _ hw1
    refine gen_plain rfl ?_
    have x := (k3.grows q0).cell 0
    go_simp
    exact gr_val (HI.out _ _ _ ⟨q0, kn_known q1 rfl⟩)
  refine gen_consR (fun vs L w1 hL hw1 => ?_) ?_
  · obtain ⟨q0, q1⟩ := HO.out _ _ _ hw1
    refine gen_plain rfl ?_
    have l2 : L 2 = true := hL.need 2 (by kernel_rfl)
    have e2 := q1 2 _ rfl l2
    simp only [e2]
    go_simp
    refine gr_call ?_
    refine (spans_val B cb m _ (hm.grows (below_grows hB (Nat.le_refl _) q0)) hml).mono ?_
    rintro e w2 ⟨rfl, hg⟩
    exact ⟨_, rfl, HI.out _ _ _ ⟨below_grows q0 (Nat.le_refl _) hg, kn_known q1 rfl⟩⟩
  refine gen_consR (fun vs L w1 hL hw1 => ?_) ?_
  · obtain ⟨q0, q1⟩ := HO.out _ _ _ hw1
    refine gen_plain rfl ?_
    have l1 : L 1 = true := hL.need 1 (by kernel_rfl)
    have e1 := q1 1 _ rfl l1
    simp only [e1]
    go_simp
    exact gr_val (HI.out _ _ _ ⟨q0, kn_known q1 rfl⟩)
  refine gen_consR (fun vs L w1 hL hw1 => ?_) ?_
  · obtain ⟨q0, q1⟩ := HO.out _ _ _ hw1
    refine gen_plain rfl ?_
    have l3 : L 3 = true := hL.need 3 (by kernel_rfl)
    have e3 := q1 3 _ rfl l3
    simp only [e3]
    go_simp
    exact gr_val (HI.out _ _ _ ⟨q0, kn_known q1 rfl⟩)
  refine gen_nil ?_
  intro vs L W6 hall hS
  obtain ⟨hq, q1⟩ := HO.out _ _ _ hS
  have eL := q1 5 _ rfl (hall 5 (by simp))
  have eX4 := q1 4 _ rfl (hall 4 (by simp))
  clear hall hS HI HO q1
  simp only [eL, eX4]
  replace hB := below_grows hB (Nat.le_refl _) hq
  replace k4 := k4.grows hq
  clear hq
  obtain ⟨A2, c2, ev2, hat⟩ := spV_is A c l
  obtain ⟨A3, c3, ev3, hbt⟩ := spV_is B cb m
  rw [ev2, ev3]
  have h2 := hat w h
  have h3 := hbt w hm
  have hca := spansF_canon l
  have hcb := spansF_canon m
  have hla := spansF_len l
  have hlb := spansF_len m
  generalize hA : spansF l = a at *
  generalize hM : spansF m = b at *
  have HA := Lib.hid hA
  have HM := Lib.hid hM
  clear hA hM hat hbt ev2 ev3 eL eX4 h hm k2 k3
  generalize vs 0 = y0 at *
  generalize vs (0 + 1) = y1 at *
  generalize vs (0 + 1 + 1) = y2 at *
  generalize vs (0 + 1 + 1 + 1) = y3 at *
  clear vs
  have hz2 : w.heap.size + 2 < W6.heap.size := k4.lt
  go_upto_region 4 with fail
  go_loopw [7, 8, 9] (fun v x y wr => ∃ (i k : Nat) (p : List Sp), i ≤ a.length ∧ k ≤ b.length ∧ p.length ≤ 64 ∧ x = .int .i64 i ∧ y = .int .i64 k ∧ Own wr (w.heap.size + 3) v p ∧ p ++ interF (a.drop i) (b.drop k) = interF a b ∧ Below w.heap.size w wr ∧ Blk wr (w.heap.size + 2) 51 #[.slice none 0 0]) (fun _ x y _ => (a.length - (intOf x).toNat) + (b.length - (intOf y).toNat))
  case atStart => exact ⟨0, 0, [], by omega, by omega, by simp, rfl, rfl, own_nil _ _, by simp, hB, k4⟩
  case round =>
    clear hB k4
    obtain ⟨i, k, p, hi, hk, hp, rfl, rfl, hown, hpe, hB, k4⟩ := hrel
    have HPE := Lib.hid hpe
    clear hpe
    obtain ⟨A5, c5, rfl, hc5, hr5, hge5⟩ := hown.read
    by_cases hia : i < a.length
    rotate_left
    · as_aux_lemma =>
      have hfin : (interF a b).take 64 = p := by rw [← HPE.out, List.drop_of_length_le (by omega), show interF [] (b.drop k) = [] from rfl, List.append_nil, List.take_of_length_le hp]
      have HFN := Lib.hid hfin
      clear hfin HPE
      have x4 := k4.cell 0
      have f4 := k4.frozen 0
      go_wp2
      have k5 := k4.set_ 0 (.slice A5 p.length c5)
      have hB4 := hB.setCell (p := ⟨w.heap.size + 2, 0, none⟩) (by simp) (.slice A5 p.length c5)
      have hr6 := hr5.setOther k4 (.slice A5 p.length c5)
      generalize World.setCell _ _ _ = w5 at *
      have x5 : w5.cell? ⟨w.heap.size + 2, 0, none⟩ = some (.slice A5 p.length c5) := by rw [k5.cell]; rfl
      clear x4 f4 k4 k5
      exact bodyPost_ret (v := .agg #[.slice A5 p.length c5]) (by simp [results, Try.results98, go_sem, x5]) rfl ⟨⟨A5, c5, by rw [HA.out, HM.out, HFN.out], by rw [HA.out, HM.out, HFN.out]; exact hc5, by rw [HA.out, HM.out, HFN.out]; exact ⟨hr6, fun _ ad e => by have := hge5 ad e; unfold Ge; omega⟩⟩, hB4⟩
    by_cases hkb : k < b.length
    rotate_left
    · as_aux_lemma =>
      have hfin : (interF a b).take 64 = p := by rw [← HPE.out, List.drop_of_length_le (l := b) (by omega), inter_nil_right, List.append_nil, List.take_of_length_le hp]
      have HFN := Lib.hid hfin
      clear hfin HPE
      have x4 := k4.cell 0
      have f4 := k4.frozen 0
      go_wp2
      have k5 := k4.set_ 0 (.slice A5 p.length c5)
      have hB4 := hB.setCell (p := ⟨w.heap.size + 2, 0, none⟩) (by simp) (.slice A5 p.length c5)
      have hr6 := hr5.setOther k4 (.slice A5 p.length c5)
      generalize World.setCell _ _ _ = w5 at *
      have x5 : w5.cell? ⟨w.heap.size + 2, 0, none⟩ = some (.slice A5 p.length c5) := by rw [k5.cell]; rfl
      clear x4 f4 k4 k5
      exact bodyPost_ret (v := .agg #[.slice A5 p.length c5]) (by simp [results, Try.results98, go_sem, x5]) rfl ⟨⟨A5, c5, by rw [HA.out, HM.out, HFN.out], by rw [HA.out, HM.out, HFN.out]; exact hc5, by rw [HA.out, HM.out, HFN.out]; exact ⟨hr6, fun _ ad e => by have := hge5 ad e; unfold Ge; omega⟩⟩, hB4⟩
    by_cases hp64 : p.length < 64
    rotate_left
    · as_aux_lemma =>
      have hfin : (interF a b).take 64 = p := by rw [← HPE.out, List.take_left' (by omega)]
      have HFN := Lib.hid hfin
      clear hfin HPE
      have x4 := k4.cell 0
      have f4 := k4.frozen 0
      go_wp2
      have k5 := k4.set_ 0 (.slice A5 p.length c5)
      have hB4 := hB.setCell (p := ⟨w.heap.size + 2, 0, none⟩) (by simp) (.slice A5 p.length c5)
      have hr6 := hr5.setOther k4 (.slice A5 p.length c5)
      generalize World.setCell _ _ _ = w5 at *
      have x5 : w5.cell? ⟨w.heap.size + 2, 0, none⟩ = some (.slice A5 p.length c5) := by rw [k5.cell]; rfl
      clear x4 f4 k4 k5
      exact bodyPost_ret (v := .agg #[.slice A5 p.length c5]) (by simp [results, Try.results98, go_sem, x5]) rfl ⟨⟨A5, c5, by rw [HA.out, HM.out, HFN.out], by rw [HA.out, HM.out, HFN.out]; exact hc5, by rw [HA.out, HM.out, HFN.out]; exact ⟨hr6, fun _ ad e => by have := hge5 ad e; unfold Ge; omega⟩⟩, hB4⟩
    obtain ⟨ad, x, rfl, had, hx, c0, c1⟩ := h2.elem hia
    obtain ⟨ad2, y, rfl, had2, hy, d0, d1⟩ := h3.elem hkb
    have HDA : a.drop i = x :: a.drop (i + 1) := by
      obtain ⟨hj2, hyy⟩ := List.getElem?_eq_some_iff.1 hx
      rw [← hyy]
      exact List.drop_eq_getElem_cons hj2
    have HDB : b.drop k = y :: b.drop (k + 1) := by
      obtain ⟨hj2, hyy⟩ := List.getElem?_eq_some_iff.1 hy
      rw [← hyy]
      exact List.drop_eq_getElem_cons hj2
    have HIS : Hid (p ++ (cutS x y ++ if x.2 < y.2 then interF (a.drop (i + 1)) (b.drop k) else interF (a.drop i) (b.drop (k + 1))) = interF a b) := Lib.hid (by
      rw [← HPE.out, HDA, HDB, inter_step (by rw [← HDA]; exact canon_drop hca i) (by rw [← HDB]; exact canon_drop hcb k)])
    clear hx hy HDA HDB HPE
    have hcx0 : ∀ w', Below w.heap.size w w' → w'.cell? (ad.add (i * 2)) = some (.int .i64 x.1) := fun w' hb => (hb.cell (p := ad.add (i * 2)) (by rw [block_of_add]; exact had)).trans c0
    have hcx1 : ∀ w', Below w.heap.size w w' → w'.cell? ⟨(ad.add (i * 2)).block, (ad.add (i * 2)).off + 1, none⟩ = some (.int .i64 x.2) := fun w' hb => (hb.cell (p := ⟨(ad.add (i * 2)).block, (ad.add (i * 2)).off + 1, none⟩) (by simp only [block_of_add]; exact had)).trans c1
    have hcy0 : ∀ w', Below w.heap.size w w' → w'.cell? (ad2.add (k * 2)) = some (.int .i64 y.1) := fun w' hb => (hb.cell (p := ad2.add (k * 2)) (by rw [block_of_add]; exact had2)).trans d0
    have hcy1 : ∀ w', Below w.heap.size w w' → w'.cell? ⟨(ad2.add (k * 2)).block, (ad2.add (k * 2)).off + 1, none⟩ = some (.int .i64 y.2) := fun w' hb => (hb.cell (p := ⟨(ad2.add (k * 2)).block, (ad2.add (k * 2)).off + 1, none⟩) (by simp only [block_of_add]; exact had2)).trans d1
    clear c0 c1 d0 d1
    have c0 := hcx0 _ hB
    have c1 := hcx1 _ hB
    have d0 := hcy0 _ hB
    have d1 := hcy1 _ hB
    have hb1 : (ad.add (i * 2)).block < wr.heap.size := by rw [block_of_add]; have := hB.size; omega
    have hb2 : (ad2.add (k * 2)).block < wr.heap.size := by rw [block_of_add]; have := hB.size; omega
    go_upto_region 5 with fail
    go_region
    clear c0 c1 d0 d1 hb1 hb2 hcx0 hcy0
    have HC : Hid (cutS x y = if max x.1 y.1 ≤ min x.2 y.2 then [(max x.1 y.1, min x.2 y.2)] else []) := Lib.hid rfl
    generalize max x.1 y.1 = lo at *
    generalize min x.2 y.2 = hi' at *
    have k10 := (Blk.new wr 74 #[.int .i64 lo, .int .i64 hi']).drew
    have hq := below_grows ((Below.refl wr.heap.size wr).alloc (Nat.le_refl _) (Obj.cells #[.int .i64 lo, .int .i64 hi'] 74)) (Nat.le_refl _) (Grows.drew' _)
    replace hB := below_grows hB (Nat.le_refl _) hq
    replace hown := hown.grows hq
    replace k4 := k4.grows hq
    clear hq
    generalize World.drew _ = w7 at *
    generalize wr.heap.size = G10 at *
    have e0 := k10.cell 0
    have e1 := k10.cell 1
    clear hr5 hge5
    by_cases hlh : lo ≤ hi'
    · as_aux_lemma =>
      have HS : Hid ((p ++ [(lo, hi')]) ++ (if x.2 < y.2 then interF (a.drop (i + 1)) (b.drop k) else interF (a.drop i) (b.drop (k + 1))) = interF a b) := Lib.hid (by rw [← HIS.out, HC.out, if_pos hlh, List.append_assoc])
      clear HIS HC
      go_upto_region 7 with fail
      refine wp_region_lit ?_
      iterate 3
        refine wpList_plain rfl (fun K hK => ?_)
        go_simp
        refine hK _ _ ?_
        clear hK K
      have hq := (Below.refl w7.heap.size w7).alloc (Nat.le_refl _) (Obj.cells #[.int .i64 lo, .int .i64 hi'] 74)
      replace hB := below_grows hB (Nat.le_refl _) hq
      replace hown := hown.grows hq
      replace k4 := k4.grows hq
      have hz5 := k4.lt
      refine wpList_append_sp rfl (.tmp 58) (.tmp 60) rfl (m := [(lo, hi')]) rfl rfl hown rfl (sps_lit w7 (lo, hi')) (by simp; omega) (by omega) ?_
      intro v3 w8 hown3 hgr3
      have hB5 := (hown.mono (show w.heap.size ≤ w.heap.size + 3 by omega)).below hB hgr3 hB.size
      have k45 := k4.grown hgr3 (fun e => by have := (hown.lt _ e.symm).1; omega)
      have hp1 : (p ++ [(lo, hi')]).length ≤ 64 := by simp; omega
      clear hown hq hB hgr3 k4 hz5 e0 e1 k10 hp64 hp hlh hc5
      generalize p ++ [(lo, hi')] = p1 at *
      have c1 := hcx1 _ hB5
      have d1 := hcy1 _ hB5
      go_upto_region 8 with fail
      by_cases hxy : x.2 < y.2
      · go_region
        have hq := Grows.drew' w8
        have hB9 := below_grows hB5 (Nat.le_refl _) hq
        have k49 := k45.grows hq
        have hown9 := hown3.grows hq
        have HS9 : Hid (p1 ++ interF (a.drop (i + 1)) (b.drop k) = interF a b) := Lib.hid (by have := HS.out; rwa [if_pos hxy] at this)
        clear HS hq c1 d1
        generalize World.drew _ = w9 at *
        go_wp2
        go_roundw
        case rel => exact ⟨i + 1, k, p1, by omega, by omega, hp1, by go_num, rfl, hown9, HS9.out, hB9, k49⟩
        case measure => exact meas_i a.length b.length i k hia
      · go_region
        have hq := Grows.drew' w8
        have hB9 := below_grows hB5 (Nat.le_refl _) hq
        have k49 := k45.grows hq
        have hown9 := hown3.grows hq
        have HS9 : Hid (p1 ++ interF (a.drop i) (b.drop (k + 1)) = interF a b) := Lib.hid (by have := HS.out; rwa [if_neg hxy] at this)
        clear HS hq c1 d1
        generalize World.drew _ = w9 at *
        go_wp2
        go_roundw
        case rel => exact ⟨i, k + 1, p1, by omega, by omega, hp1, rfl, by go_num, hown9, HS9.out, hB9, k49⟩
        case measure => exact meas_k a.length b.length i k hkb
    · as_aux_lemma =>
      have HS : Hid (p ++ (if x.2 < y.2 then interF (a.drop (i + 1)) (b.drop k) else interF (a.drop i) (b.drop (k + 1))) = interF a b) := Lib.hid (by rw [← HIS.out, HC.out, if_neg hlh, List.nil_append])
      clear HIS HC k10
      go_upto_region 8 with fail
      clear e0 e1 hlh
      have c1 := hcx1 _ hB
      have d1 := hcy1 _ hB
      by_cases hxy : x.2 < y.2
      · go_region
        have hq := Grows.drew' w7
        have hB9 := below_grows hB (Nat.le_refl _) hq
        have k49 := k4.grows hq
        have hown9 := hown.grows hq
        have HS9 : Hid (p ++ interF (a.drop (i + 1)) (b.drop k) = interF a b) := Lib.hid (by have := HS.out; rwa [if_pos hxy] at this)
        clear HS hq c1 d1
        generalize World.drew _ = w9 at *
        go_wp2
        go_roundw
        case rel => exact ⟨i + 1, k, p, by omega, by omega, hp, by go_num, rfl, hown9, HS9.out, hB9, k49⟩
        case measure => exact meas_i a.length b.length i k hia
      · go_region
        have hq := Grows.drew' w7
        have hB9 := below_grows hB (Nat.le_refl _) hq
        have k49 := k4.grows hq
        have hown9 := hown.grows hq
        have HS9 : Hid (p ++ interF (a.drop i) (b.drop (k + 1)) = interF a b) := Lib.hid (by have := HS.out; rwa [if_neg hxy] at this)
        clear HS hq c1 d1
        generalize World.drew _ = w9 at *
        go_wp2
        go_roundw
        case rel => exact ⟨i, k + 1, p, by omega, by omega, hp, rfl, by go_num, hown9, HS9.out, hB9, k49⟩
        case measure => exact meas_k a.length b.length i k hkb
def insP (z x : Sp) : Bool := (decide (x.1 ≤ z.1) && decide (z.2 ≤ x.2))
/-- Each span of l lies in one of m. -/
def insideF (l m : List Sp) : Bool := (spansF l).all fun z => (spansF m).any fun x => insP z x
theorem ins_p (z : Sp) (x : Sp) (B : Nat) (w : World) (kn : Blk w B 74 #[.int .i64 z.1, .int .i64 z.2]) : Calls Try.prog 97 #[.agg #[.int .i64 x.1, .int .i64 x.2], .pointer (some ⟨B, 0, none⟩)] w fun e w' => e = .returned (.bool (insP z x)) ∧ Grows w w' := by
  have k2 := Blk.new w 74 #[.int .i64 x.1, .int .i64 x.2]
  have hB := (Below.refl w.heap.size w).alloc (Nat.le_refl _) (Obj.cells #[.int .i64 x.1, .int .i64 x.2] 74)
  replace kn := kn.grows hB
  go_enter Try.func97, Try.ntmps97
  go_upto_region 1 with fail
  have x0 := kn.cell 0
  have x1 := kn.cell 1
  have y0 := k2.cell 0
  have y1 := k2.cell 1
  have hgg : Grows w (w.alloc (Obj.cells #[.int .i64 x.1, .int .i64 x.2] 74)) := hB
  clear hB
  generalize World.alloc w _ = w1 at *
  generalize w.heap.size = G2 at *
  by_cases h1 : x.1 ≤ z.1
  · by_cases h2 : z.2 ≤ x.2
    · have HE : Hid (insP z x = true) := Lib.hid (by simp [insP, h1, h2])
      go_wp2
      go_ret
      exact ⟨ret_bool HE.out.symm, hgg⟩
    · have HE : Hid (insP z x = false) := Lib.hid (by simp [insP, h2])
      go_wp2
      go_ret
      exact ⟨ret_bool HE.out.symm, hgg⟩
  · have HE : Hid (insP z x = false) := Lib.hid (by simp [insP, h1])
    go_wp2
    go_ret
    exact ⟨ret_bool HE.out.symm, hgg⟩
def Found_ins (z : Sp) (l : List Sp) (r : Int) : Prop := (r = -1 ∧ ∀ x ∈ l, insP z x = false) ∨ (0 ≤ r ∧ ∃ x ∈ l, insP z x = true)
set_option maxHeartbeats 4000000 in
theorem index_ins (z : Sp) (A : Option Addr) (c : Nat) (l : List Sp) (w : World) (B : Nat) (kn : Blk w B 74 #[.int .i64 z.1, .int .i64 z.2]) (h : Sps w A l) (hl : l.length ≤ 9223372036854775807) (F : Value) (hF : F = .func (.func 97) #[] #[.pointer (some ⟨B, 0, none⟩)]) :
    Calls Try.prog 95 #[.slice A l.length c, F] w fun e w' => (∃ r, Found_ins z l r ∧ e = .returned (.int .i64 r)) ∧ Grows w w' := by
  subst hF
  go_enter Try.func95, Try.ntmps95
  go_wp2
  go_loopw [8] (fun i wr => ∃ k : Nat, k ≤ l.length ∧ i = .int .i64 k ∧ Grows w wr ∧ ∀ x ∈ l.take k, insP z x = false) (fun i _ => l.length - (intOf i).toNat)
  case atStart => exact ⟨0, by omega, rfl, Below.refl _ _, by simp⟩
  case round =>
    obtain ⟨k, hk, rfl, hB, hall⟩ := hrel
    by_cases hlt : k < l.length
    · obtain ⟨ad, x, rfl, had, hx, c0, c1⟩ := (h.grows hB).elem hlt
      have HX : Hid (l.take (k + 1) = l.take k ++ [x]) := take_snoc hx
      have HM : Hid (x ∈ l) := List.mem_of_getElem? hx
      clear hx
      go_wp2_with fail
      refine (ins_p z x B _ (kn.grows hB)).mono ?_
      rintro e w2 ⟨rfl, hq⟩
      replace hB := below_grows hB (Nat.le_refl _) hq
      clear c0 c1 hq
      cases ho : insP z x
      · go_wp2
        go_roundw
        case rel =>
          refine ⟨k + 1, by omega, by go_num, hB, ?_⟩
          rw [HX.out]
          intro y hy
          rcases List.mem_append.1 hy with hy | hy
          · exact hall y hy
          · simp at hy; subst hy; exact ho
        case measure => simp [intOf]; omega
      · go_wp2
        go_ret
        exact ⟨⟨_, .inr ⟨by omega, x, HM.out, ho⟩, rfl⟩, hB⟩
    · have e : l.take k = l := List.take_of_length_le (by omega)
      rw [e] at hall
      go_wp2
      go_ret
      exact ⟨⟨-1, .inl ⟨rfl, hall⟩, rfl⟩, hB⟩
set_option maxHeartbeats 4000000 in
theorem cont_ins (z : Sp) (A : Option Addr) (c : Nat) (l : List Sp) (w : World) (B : Nat) (kn : Blk w B 74 #[.int .i64 z.1, .int .i64 z.2]) (h : Sps w A l) (hl : l.length ≤ 9223372036854775807) :
    Calls Try.prog 74 #[.slice A l.length c, .func (.func 97) #[] #[.pointer (some ⟨B, 0, none⟩)]] w fun e w' => e = .returned (.bool (l.any fun x => insP z x)) ∧ Grows w w' := by
  go_enter Try.func74, Try.ntmps74
  go_wp2_with fail
  refine (index_ins z A c l _ B kn h hl _ rfl).mono ?_
  rintro e w2 ⟨⟨r, hr, rfl⟩, hB⟩
  have hd : decide (0 ≤ r) = l.any fun x => insP z x := by
    rcases hr with ⟨rfl, ha⟩ | ⟨h0, x, hx, ho⟩
    · rw [show decide ((0 : Int) ≤ -1) = false from rfl]
      symm
      rw [List.any_eq_false]
      intro x hx
      rw [ha x hx]
      simp
    · rw [show decide (0 ≤ r) = true from by simpa using h0]
      symm
      exact List.any_eq_true.2 ⟨x, hx, ho⟩
  go_wp2
  go_ret
  exact ⟨rfl, hB⟩
theorem inside_no {l m : List Sp} {z : Sp} (hz : z ∈ spansF l) (hc : ((spansF m).any fun x => insP z x) = false) : insideF l m = false := by
  unfold insideF
  rw [List.all_eq_false]
  exact ⟨z, hz, by rw [hc]; simp⟩
theorem all_snoc' {m : List Sp} {j : Nat} {y : Sp} (p : Sp → Bool) (h : m[j]? = some y) : ((m.take (j + 1)).all p) = ((m.take j).all p && p y) := by
  rw [take_snoc h]
  simp
set_option maxRecDepth 100000 in
set_option maxHeartbeats 16000000 in
theorem inside_any (A : Option Addr) (c : Nat) (l : List Sp) (B : Option Addr) (cb : Nat) (m : List Sp) (w : World) (h : Sps w A l) (hl : l.length ≤ 9223372036854775807) (hm : Sps w B m) (hml : m.length ≤ 9223372036854775807) :
    Calls Try.prog 80 #[.agg #[.slice A l.length c], .agg #[.slice B m.length cb]] w fun e w' => e = .returned (.bool (insideF l m)) ∧ Grows w w' := by
  have k2 := (Blk.new w 51 #[.slice A l.length c]).alloc (Obj.cells #[.slice B m.length cb] 51)
  have k3 := blk_new_at (X := w.alloc (Obj.cells #[.slice A l.length c] 51)) (n := w.heap.size + 1) (t := 51) (cs := #[.slice B m.length cb]) (by simp)
  have hB := ((Below.refl w.heap.size w).alloc (Nat.le_refl _) (Obj.cells #[.slice A l.length c] 51)).alloc (by simp) (Obj.cells #[.slice B m.length cb] 51)
  go_enter Try.func80, Try.ntmps80
  go_upto_region 1 with fail
  generalize World.alloc (World.alloc w _) _ = w1 at *
  have x3 := k3.cell 0
  obtain ⟨A2, c2, ev2, hat⟩ := spV_is A c l
  obtain ⟨A3, c3, ev3, hbt⟩ := spV_is B cb m
  go_wp2_with fail
  refine (spans_val B cb m _ (hm.grows hB) hml).mono ?_
  rw [ev3]
  rintro e w2 ⟨rfl, hq⟩
  replace hB := below_grows hB (Nat.le_refl _) hq
  replace k2 := k2.grows hq
  have h3 := hbt w hm
  clear x3 k3 hq hbt ev3
  have x2 := k2.cell 0
  go_wp2_with fail
  refine (spans_val A c l _ (h.grows hB) hl).mono ?_
  rw [ev2]
  rintro e w3 ⟨rfl, hq⟩
  replace hB := below_grows hB (Nat.le_refl _) hq
  have h2 := hat w h
  clear x2 k2 hq hat ev2
  have hla := spansF_len l
  have hlb := spansF_len m
  have HF : Hid (insideF l m = (spansF l).all fun z => (spansF m).any fun x => insP z x) := Lib.hid rfl
  have HN : Hid (∀ z ∈ spansF l, ((spansF m).any fun x => insP z x) = false → insideF l m = false) := Lib.hid fun z hz hc => inside_no hz hc
  generalize spansF l = a at *
  generalize spansF m = b at *
  go_wp2_with fail
  go_loopw [13] (fun i wr => ∃ k : Nat, k ≤ a.length ∧ i = .int .i64 k ∧ Hid (((a.take k).all fun z => b.any fun x => insP z x) = true) ∧ Below w.heap.size w wr) (fun i _ => a.length - (intOf i).toNat)
  case atStart => exact ⟨0, by omega, rfl, Lib.hid rfl, hB⟩
  case round =>
    clear hB
    obtain ⟨k, hk, rfl, hall, hB⟩ := hrel
    by_cases hlt : k < a.length
    · obtain ⟨ad, z, rfl, had, hx, c0, c1⟩ := (h2.grows hB).elem hlt
      have HX := Lib.hid (all_snoc' (fun z => b.any fun x => insP z x) hx)
      have HM : Hid (z ∈ a) := Lib.hid (List.mem_of_getElem? hx)
      clear hx
      have k7 := Blk.new wr 74 #[.int .i64 z.1, .int .i64 z.2]
      have hq := (Below.refl wr.heap.size wr).alloc (Nat.le_refl _) (Obj.cells #[.int .i64 z.1, .int .i64 z.2] 74)
      replace hB := below_grows hB (Nat.le_refl _) hq
      clear hq
      go_upto_region 5 with fail
      generalize World.alloc wr _ = w4 at *
      generalize wr.heap.size = G7 at *
      clear c0 c1
      go_wp2_with fail
      refine (cont_ins z A3 c3 b _ _ k7 (h3.grows hB) (by omega)).mono ?_
      rintro e w5 ⟨rfl, hq⟩
      replace hB := below_grows hB (Nat.le_refl _) hq
      clear hq k7
      cases hc : b.any fun x => insP z x
      · have HR : Hid (insideF l m = false) := Lib.hid (HN.out z HM.out hc)
        go_wp2
        go_ret
        exact ⟨ret_bool HR.out.symm, hB⟩
      · have HK : Hid (((a.take (k + 1)).all fun z => b.any fun x => insP z x) = true) := Lib.hid (by rw [HX.out, hall.out, hc]; rfl)
        go_wp2
        go_roundw
        case rel => exact ⟨k + 1, by omega, by go_num, HK, hB⟩
        case measure => simp [intOf]; omega
    · have e : a.take k = a := List.take_of_length_le (by omega)
      rw [e] at hall
      have HR : Hid (insideF l m = true) := Lib.hid (by rw [HF.out, hall.out])
      clear e
      go_wp2
      go_ret
      exact ⟨ret_bool HR.out.symm, hB⟩
end Go.Proofs.Ytjbkjgmcfommgaa


namespace Go.Proofs.Ytjbkjgmcfommgaa
open Go.RowKit
/-- A row of channel maps of one's own, apart from what its members take, which lies at or above lo. -/
def OwnMq (w : World) (base : Nat) (ok : Nat → Prop) (v : Value) (ms : List (List Int)) : Prop :=
  ∃ vs, w.ownsRow base 42 1 v ms.length vs ∧ ∀ (i : Nat) (x : List Int), ms[i]? = some x → ∃ B c, vs[i]? = some (.slice B x.length c) ∧ x.length ≤ c ∧ InB w ok B x ∧ (∀ ad, B = some ad → 0 < x.length → v.ownBlock ≠ some ad.block)
section
variable {w w' : World} {base g : Nat} {ok : Nat → Prop} {v : Value} {ms : List (List Int)}
theorem OwnMq.nil : OwnMq w base ok (.slice none 0 0) [] := ⟨[], World.ownsRow_nil w base _ 1, fun i x h => by simp at h⟩
theorem OwnMq.grows (h : OwnMq w base ok v ms) (hg : Grows w w') : OwnMq w' base ok v ms := by
  obtain ⟨vs, h1, h2⟩ := h
  exact ⟨vs, own_grows h1 hg, fun i x hx => by obtain ⟨B, c, e, hc, hi, hn⟩ := h2 i x hx; exact ⟨B, c, e, hc, hi.grows hg, hn⟩⟩
theorem OwnMq.only (h : OwnMq w base ok v ms) (hg : w.grownBy w' (some g)) (hb : g < base) (hl : ¬ ok g) : OwnMq w' base ok v ms := by
  obtain ⟨vs, h1, h2⟩ := h
  refine ⟨vs, World.ownsRow.kept h1 hg ?_, fun i x hx => by obtain ⟨B, c, e, hc, hi, hn⟩ := h2 i x hx; exact ⟨B, c, e, hc, RdB.grown hi hg (fun q e => by injection e with e; exact e ▸ hl), hn⟩⟩
  cases e : v.ownBlock with
  | none => exact .inl rfl
  | some q =>
    refine .inr fun e2 => ?_
    have := (World.ownsRow.lt h1 q e).1
    injection e2 with e2
    omega
theorem OwnMq.lt (h : OwnMq w base ok v ms) : ∀ q, v.ownBlock = some q → base ≤ q ∧ q < w.heap.size := by
  obtain ⟨vs, h1, -⟩ := h
  exact World.ownsRow.lt h1
theorem OwnMq.read (h : OwnMq w base ok v ms) : ∃ A c, v = .slice A ms.length c ∧ ms.length ≤ c ∧ MapsR w (fun k => ok k ∨ base ≤ k) A ms := by
  obtain ⟨vs, h1, h2⟩ := h
  have hlt := World.ownsRow.lt h1
  rcases h1.2 with ⟨rfl, hn⟩ | ⟨q, cap, cur, rfl, hbq, hg, hnc, hm, hs, ht⟩
  · have e := List.eq_nil_of_length_eq_zero hn
    subst e
    exact ⟨none, 0, rfl, Nat.le_refl _, MapsR.nil⟩
  · refine ⟨_, cap, rfl, hnc, vs, ⟨Reads.of_own h1, fun _ ad e => ?_⟩, fun i x hx => by obtain ⟨B, c, e, hc, hi, _⟩ := h2 i x hx; exact ⟨B, c, e, hc, hi.mono (fun k hk => Or.inl hk)⟩⟩
    injection e with e
    subst e
    exact Or.inr hbq
end
def Aq (ok : Nat → Prop) (v : Value) : Nat → Prop := fun k => ok k ∧ v.ownBlock ≠ some k
def OwnBq (w : World) (base : Nat) (ok : Nat → Prop) (v : Value) (l : List Bx) : Prop :=
  ∃ vs, w.ownsRow base 54 4 v l.length vs ∧ ∀ (i : Nat) (b : Bx), l[i]? = some b → ∃ A1 c1 A2 c2 A3 c3, BoxP w (Aq ok v) b A1 c1 A2 c2 A3 c3 ∧ ∀ j < 4, vs[i * 4 + j]? = (b.cs A1 c1 A2 c2 A3 c3)[j]?
section
variable {w w' : World} {base g : Nat} {ok : Nat → Prop} {v : Value} {l : List Bx}
theorem OwnBq.nil : OwnBq w base ok (.slice none 0 0) [] := ⟨[], World.ownsRow_nil w base _ 4, fun i x h => by simp at h⟩
theorem OwnBq.grows (h : OwnBq w base ok v l) (hg : Grows w w') : OwnBq w' base ok v l := by
  obtain ⟨vs, h1, h2⟩ := h
  exact ⟨vs, own_grows h1 hg, fun i x hx => by obtain ⟨A1, c1, A2, c2, A3, c3, hp, hc⟩ := h2 i x hx; exact ⟨A1, c1, A2, c2, A3, c3, hp.grows hg, hc⟩⟩
theorem OwnBq.only (h : OwnBq w base ok v l) (hg : w.grownBy w' (some g)) (hb : g < base) (hl : ¬ ok g) : OwnBq w' base ok v l := by
  obtain ⟨vs, h1, h2⟩ := h
  refine ⟨vs, World.ownsRow.kept h1 hg ?_, fun i x hx => by obtain ⟨A1, c1, A2, c2, A3, c3, hp, hc⟩ := h2 i x hx; exact ⟨A1, c1, A2, c2, A3, c3, hp.grown hg (fun q e hq => by injection e with e; exact hl (e ▸ hq.1)), hc⟩⟩
  cases e : v.ownBlock with
  | none => exact .inl rfl
  | some q =>
    refine .inr fun e2 => ?_
    have := (World.ownsRow.lt h1 q e).1
    injection e2 with e2
    omega
theorem OwnBq.lt (h : OwnBq w base ok v l) : ∀ q, v.ownBlock = some q → base ≤ q ∧ q < w.heap.size := by
  obtain ⟨vs, h1, -⟩ := h
  exact World.ownsRow.lt h1
theorem OwnBq.read (h : OwnBq w base ok v l) : ∃ A c, v = .slice A l.length c ∧ l.length ≤ c ∧ Bxs w (fun k => ok k ∨ base ≤ k) A l := by
  obtain ⟨vs, h1, h2⟩ := h
  have h3 : ∀ (i : Nat) (b : Bx), l[i]? = some b → ∃ A1 c1 A2 c2 A3 c3, BoxP w (fun k => ok k ∨ base ≤ k) b A1 c1 A2 c2 A3 c3 ∧ ∀ j < 4, vs[i * 4 + j]? = (b.cs A1 c1 A2 c2 A3 c3)[j]? := fun i b hx => by
    obtain ⟨A1, c1, A2, c2, A3, c3, hp, hc⟩ := h2 i b hx
    exact ⟨A1, c1, A2, c2, A3, c3, hp.mono (fun k hk => Or.inl hk.1), hc⟩
  rcases h1.2 with ⟨rfl, hn⟩ | ⟨q, cap, cur, rfl, hbq, hg, hnc, hm, hs, ht⟩
  · have e := List.eq_nil_of_length_eq_zero hn
    subst e
    exact ⟨none, 0, rfl, Nat.le_refl _, Bxs.nil⟩
  · refine ⟨_, cap, rfl, hnc, vs, ⟨Reads.of_own h1, fun _ ad e => ?_⟩, h3⟩
    injection e with e
    subst e
    exact Or.inr hbq
end
theorem wpList_append_boxesq {ops : Array Oper} {rest : List Oper} {o : Oper} {a : Act} {w : World} {Q : Exit → Act → World → Prop} (hgd : o.guard = none) (s x : Operand) (ho : o.op = .call { callee := .builtin .append, args := #[s, x], argTypes := #[34, 34] })
    {base : Nat} {ok : Nat → Prop} {v : Value} {l m : List Bx} {A : Option Addr} {c n : Nat} (hn : n = m.length) (hs : a.eval s = v) (hown : OwnBq w base ok v l) (hx : a.eval x = .slice A n c) (hr : Bxs w (Aq ok v) A m) (hlen : l.length + m.length ≤ 1000000) (hbase : base ≤ w.heap.size)
    (h : ∀ v' w', OwnBq w' base ok v' (l ++ m) → w.grownBy w' v.ownBlock → (v'.ownBlock = v.ownBlock ∨ v'.ownBlock = some w.heap.size) → wpList Try.prog ops Q rest (a.put o.dst v') w') : wpList Try.prog ops Q (o :: rest) a w := by
  obtain ⟨i0, hi0, hi1, hi2, hi3, hi4⟩ := box_info
  obtain ⟨vs, h1, h2⟩ := hown
  obtain ⟨us, r1, r2⟩ := hr
  subst hn
  have hul := r1.1.1
  have hvl := h1.1
  refine wpList_append_any w hgd s x 34 ho base 54 i0 _ 4 80 Try.underlying34 hi0 hi3 hi1 hi2 hi4 (by omega) v l.length vs hs h1 w.heap.size A m.length c us hx r1.1 (bxs_one hul fun i b hb => by obtain ⟨A1, c1, A2, c2, A3, c3, _, hc⟩ := r2 i b hb; exact ⟨A1, c1, A2, c2, A3, c3, hc⟩) (by simp only [maxLen]; omega) (by omega) hbase fun v' w' h3 h4 h5 => h v' w' ⟨vs ++ us, by rw [List.length_append]; exact h3, fun i b hb => ?_⟩ h4 h5
  have hto : ∀ (b : Bx) (A1 : Option Addr) (c1 : Nat) (A2 : Option Addr) (c2 : Nat) (A3 : Option Addr) (c3 : Nat), BoxP w (Aq ok v) b A1 c1 A2 c2 A3 c3 → BoxP w' (Aq ok v') b A1 c1 A2 c2 A3 c3 := by
    intro b A1 c1 A2 c2 A3 c3 hp
    refine (hp.band.grown h4 (fun q e hq => hq.1.2 e)).mono fun k hk => ⟨hk.1.1, fun e => ?_⟩
    rcases h5 with h5 | h5
    · exact hk.1.2 (h5 ▸ e)
    · rw [h5] at e
      injection e with e
      have := hk.2
      omega
  by_cases hi : i < l.length
  · rw [List.getElem?_append_left hi] at hb
    obtain ⟨A1, c1, A2, c2, A3, c3, hp, hc⟩ := h2 i b hb
    exact ⟨A1, c1, A2, c2, A3, c3, hto _ _ _ _ _ _ _ hp, fun j hj => by rw [List.getElem?_append_left (by omega)]; exact hc j hj⟩
  · rw [List.getElem?_append_right (by omega)] at hb
    obtain ⟨A1, c1, A2, c2, A3, c3, hp, hc⟩ := r2 _ b hb
    exact ⟨A1, c1, A2, c2, A3, c3, hto _ _ _ _ _ _ _ hp, fun j hj => by rw [List.getElem?_append_right (by omega), show i * 4 + j - vs.length = (i - l.length) * 4 + j by omega]; exact hc j hj⟩
end Go.Proofs.Ytjbkjgmcfommgaa


namespace Go.Proofs.Ytjbkjgmcfommgaa
open Go.RowKit
def insideB (a b : Bx) : Bool := (a.m.all fun x => decide (x ∈ b.m)) && ((bits .andNot .i64 a.k b.k == 0) && insideF a.r b.r && insideF a.s b.s)
theorem insB_m {a b : Bx} {x : List Int} (hx : x ∈ a.m) (h : x ∉ b.m) : insideB a b = false := by
  unfold insideB
  have : (a.m.all fun x => decide (x ∈ b.m)) = false := List.all_eq_false.2 ⟨x, hx, by simp [h]⟩
  rw [this, Bool.false_and]
theorem insB_k {a b : Bx} (h : bits .andNot .i64 a.k b.k ≠ 0) : insideB a b = false := by
  unfold insideB
  rw [beq_eq_false_iff_ne.2 h]
  simp
theorem insB_r {a b : Bx} (h : insideF a.r b.r = false) : insideB a b = false := by unfold insideB; rw [h]; simp
theorem insB_yes {a b : Bx} (hm : ∀ x ∈ a.m, x ∈ b.m) (hk : bits .andNot .i64 a.k b.k = 0) (hr : insideF a.r b.r = true) : insideB a b = insideF a.s b.s := by
  unfold insideB
  have : (a.m.all fun x => decide (x ∈ b.m)) = true := List.all_eq_true.2 fun x hx => decide_eq_true (hm x hx)
  rw [this, hk, hr]
  rfl
theorem mem_next {a b : List (List Int)} {x : List Int} {k : Nat} (h : ∀ y ∈ a.take k, y ∈ b) (hx : a[k]? = some x) (hb : x ∈ b) : ∀ y ∈ a.take (k + 1), y ∈ b := by
  rw [take_snoc hx]
  intro y hy
  rcases List.mem_append.1 hy with hy | hy
  · exact h y hy
  · simp only [List.mem_singleton] at hy
    exact hy ▸ hb
/-- Box c at k makes that box b at i falls away. -/
def dropAt (i : Nat) (b : Bx) (k : Nat) (c : Bx) : Bool := (decide (k ≠ i) && insideB b c) && (decide (k < i) || !insideB c b)
def dropUp (l : List Bx) (i : Nat) (b : Bx) : Nat → Bool
  | 0 => false
  | n + 1 => dropUp l i b n || (match l[n]? with | some c => dropAt i b n c | none => false)
theorem drop_next {l : List Bx} {i k : Nat} {b c : Bx} (h : l[k]? = some c) : dropUp l i b (k + 1) = (dropUp l i b k || dropAt i b k c) := by
  show (dropUp l i b k || (match l[k]? with | some c => dropAt i b k c | none => false)) = _
  rw [h]
theorem dropAt_self (i : Nat) (b c : Bx) : dropAt i b i c = false := by unfold dropAt; simp
theorem dropAt_not {i k : Nat} {b c : Bx} (h : insideB b c = false) : dropAt i b k c = false := by unfold dropAt; rw [h]; simp
theorem dropAt_lt {i k : Nat} {b c : Bx} (hi : k ≠ i) (h : insideB b c = true) (hk : k < i) : dropAt i b k c = true := by unfold dropAt; rw [h, decide_eq_true hi, decide_eq_true hk]; rfl
theorem dropAt_ge {i k : Nat} {b c : Bx} (hi : k ≠ i) (h : insideB b c = true) (hk : ¬ k < i) : dropAt i b k c = !insideB c b := by unfold dropAt; rw [h, decide_eq_true hi, decide_eq_false hk]; simp
def keepUp (l : List Bx) : Nat → List Bx
  | 0 => []
  | n + 1 => keepUp l n ++ (match l[n]? with | some b => if dropUp l n b l.length = true then [] else [b] | none => [])
theorem keep_next {l : List Bx} {k : Nat} {b : Bx} (h : l[k]? = some b) : keepUp l (k + 1) = keepUp l k ++ (if dropUp l k b l.length = true then [] else [b]) := by
  show keepUp l k ++ (match l[k]? with | some b => if dropUp l k b l.length = true then [] else [b] | none => []) = _
  rw [h]
theorem keep_len (l : List Bx) (n : Nat) : (keepUp l n).length ≤ n := by
  induction n with
  | zero => exact Nat.le_refl _
  | succ n ih =>
    show (keepUp l n ++ _).length ≤ n + 1
    rw [List.length_append]
    have : (match l[n]? with | some b => if dropUp l n b l.length = true then [] else [b] | none => []).length ≤ 1 := by
      split
      · split <;> simp
      · simp
    omega
def reduceL (l : List Bx) : List Bx := keepUp l l.length
theorem reduce_len (l : List Bx) : (reduceL l).length ≤ l.length := keep_len l l.length
theorem keep_mem {l : List Bx} {n : Nat} : ∀ b ∈ keepUp l n, b ∈ l := by
  induction n with
  | zero => exact fun b hb => by cases hb
  | succ n ih =>
    intro b hb
    have hb : b ∈ keepUp l n ++ (match l[n]? with | some b => if dropUp l n b l.length = true then [] else [b] | none => []) := hb
    rcases List.mem_append.1 hb with hb | hb
    · exact ih b hb
    · split at hb
      · rename_i x e
        split at hb
        · cases hb
        · simp only [List.mem_singleton] at hb
          exact hb ▸ List.mem_of_getElem? e
      · cases hb
theorem reduce_mem {l : List Bx} : ∀ b ∈ reduceL l, b ∈ l := keep_mem
/-- A list reduced, and the error. -/
def reduceF (l : List Bx) : List Bx × Int := if validL l = true then (reduceL l, 0) else ([], 1)
/-- Whether dimension j is one of d. -/
def bitZ (d j : Int) : Bool := bits .and .i64 d j != 0
/-- Two boxes intersected in some dimensions. -/
def dimsF (d : Int) (a b : Bx) : Bx := ⟨if bitZ d 1 = true then bits .and .i64 a.k b.k else a.k, if bitZ d 2 = true then interF (spansF a.r) (spansF b.r) else a.r, if bitZ d 4 = true then a.m.filter (fun x => decide (x ∈ b.m)) else a.m, if bitZ d 8 = true then interF (spansF a.s) (spansF b.s) else a.s⟩
def someB (z : Bx) : Bool := (z.k != 0) && decide (0 < z.m.length) && decide (0 < z.r.length) && decide (0 < z.s.length)
def manyB (d : Int) (z : Bx) : Bool := (bitZ d 2 && decide (64 < z.r.length)) || (bitZ d 8 && decide (64 < z.s.length))
def prodStep (d : Int) (x : Bx) (s : Option (List Bx)) (y : Bx) : Option (List Bx) := match s with
  | none => none
  | some out => if someB (dimsF d x y) = true then (if manyB d (dimsF d x y) = true ∨ 64 ≤ out.length then none else some (out ++ [dimsF d x y])) else some out
def prodRow (d : Int) (b : List Bx) (s : Option (List Bx)) (x : Bx) : Option (List Bx) := b.foldl (prodStep d x) s
def prodF (d : Int) (a b : List Bx) : Option (List Bx) := a.foldl (prodRow d b) (some [])
/-- The program's intersection of two boxes. -/
def bothF (a b : Bx) : Bx := ⟨bits .and .i64 a.k b.k, (interF (spansF a.r) (spansF b.r)).take 64, a.m.filter (fun x => decide (x ∈ b.m)), (interF (spansF a.s) (spansF b.s)).take 64⟩
def intStep (x : Bx) (s : Option (List Bx)) (y : Bx) : Option (List Bx) := match s with
  | none => none
  | some out => if someB (bothF x y) = true then (if 64 < piecesN x.r y.r ∨ 64 < piecesN x.s y.s ∨ out.length = 64 then none else some (out ++ [bothF x y])) else some out
def intRow (b : List Bx) (s : Option (List Bx)) (x : Bx) : Option (List Bx) := b.foldl (intStep x) s
def intF (a b : List Bx) : Option (List Bx) := a.foldl (intRow b) (some [])
def interP (a b : List Bx) : List Bx × Int := if validL a = true ∧ validL b = true then (match intF a b with | none => ([], 3) | some out => (reduceL out, 0)) else ([], 1)
def productF (d : Int) (a b : List Bx) : List Bx × Int := match prodF d a b with | none => ([], 3) | some out => reduceF out
def interR (a b : List Bx) : List Bx × Int := if validL a = true ∧ validL b = true then productF 15 a b else ([], 1)
section
variable {α β : Type} {f : Option β → α → Option β} {l : List α} {s : Option β} {k : Nat} {x : α}
theorem fold_next (hx : l[k]? = some x) : (l.take (k + 1)).foldl f s = f ((l.take k).foldl f s) x := by
  rw [take_snoc hx, List.foldl_append]
  rfl
theorem fold_none (h : ∀ x, f none x = none) (l : List α) : l.foldl f none = none := by
  induction l with
  | nil => rfl
  | cons x l ih => rw [List.foldl_cons, h, ih]
/-- Where a loop has stopped early. -/
theorem fold_stop (h : ∀ x, f none x = none) (hx : l[k]? = some x) (hn : f ((l.take k).foldl f s) x = none) : l.foldl f s = none := by
  have e : l = l.take (k + 1) ++ l.drop (k + 1) := (List.take_append_drop _ _).symm
  rw [e, List.foldl_append, fold_next hx, hn, fold_none h]
end
theorem prodStep_none (d : Int) (x y : Bx) : prodStep d x none y = none := rfl
theorem intStep_none (x y : Bx) : intStep x none y = none := rfl
theorem prodRow_none (d : Int) (b : List Bx) (x : Bx) : prodRow d b none x = none := fold_none (prodStep_none d x) b
theorem intRow_none (b : List Bx) (x : Bx) : intRow b none x = none := fold_none (intStep_none x) b
theorem prodStep_no {d : Int} {x y : Bx} {out : List Bx} (h : someB (dimsF d x y) = false) : prodStep d x (some out) y = some out := by
  show (if someB (dimsF d x y) = true then _ else _) = _
  rw [if_neg (by rw [h]; simp)]
theorem prodStep_stop {d : Int} {x y : Bx} {out : List Bx} (h : someB (dimsF d x y) = true) (h2 : manyB d (dimsF d x y) = true ∨ 64 ≤ out.length) : prodStep d x (some out) y = none := by
  show (if someB (dimsF d x y) = true then _ else _) = _
  rw [if_pos h, if_pos h2]
theorem prodStep_yes {d : Int} {x y : Bx} {out : List Bx} (h : someB (dimsF d x y) = true) (h2 : manyB d (dimsF d x y) = false) (h3 : out.length < 64) : prodStep d x (some out) y = some (out ++ [dimsF d x y]) := by
  show (if someB (dimsF d x y) = true then _ else _) = _
  rw [if_pos h, if_neg (fun h => h.elim (fun h => by rw [h2] at h; cases h) (fun h => by omega))]
theorem intStep_no {x y : Bx} {out : List Bx} (h : someB (bothF x y) = false) : intStep x (some out) y = some out := by
  show (if someB (bothF x y) = true then _ else _) = _
  rw [if_neg (by rw [h]; simp)]
theorem intStep_stop {x y : Bx} {out : List Bx} (h : someB (bothF x y) = true) (h2 : 64 < piecesN x.r y.r ∨ 64 < piecesN x.s y.s ∨ out.length = 64) : intStep x (some out) y = none := by
  show (if someB (bothF x y) = true then _ else _) = _
  rw [if_pos h, if_pos h2]
theorem intStep_yes {x y : Bx} {out : List Bx} (h : someB (bothF x y) = true) (h2 : ¬ 64 < piecesN x.r y.r) (h3 : ¬ 64 < piecesN x.s y.s) (h4 : out.length ≠ 64) : intStep x (some out) y = some (out ++ [bothF x y]) := by
  show (if someB (bothF x y) = true then _ else _) = _
  rw [if_pos h, if_neg (fun h => h.elim h2 fun h => h.elim h3 h4)]
/-- The list of the one box with one choice. -/
def oneB (c : Ch) : Bx := ⟨2 ^ c.k.toNat, [(c.r, c.r)], [c.m], [(c.s, c.s)]⟩
def singleF (c : Ch) : List Bx := if 1 ≤ c.k ∧ c.k ≤ 7 ∧ fineB (oneB c) = true then [oneB c] else []
theorem filter_next {a : List (List Int)} {p : List Int → Bool} {k : Nat} {x : List Int} (hx : a[k]? = some x) : (a.take (k + 1)).filter p = (a.take k).filter p ++ (if p x = true then [x] else []) := by
  rw [take_snoc hx, List.filter_append]
  by_cases h : p x = true
  · rw [if_pos h]
    simp [h]
  · rw [if_neg h]
    simp [h]
end Go.Proofs.Ytjbkjgmcfommgaa

