/-
  NegotiateChooses, for every input: the law returns true, and the arguments read behind the call as they read before. No condition.
-/
import Derived.Test.YtjbkjgmcfommgaaGreatNegotiateChoosesK5
namespace Go.Proofs.YtjbkjgmcfommgaaGreat
open Go.RowKit
set_option maxHeartbeats 4000000 in
theorem rhass_any (A : Option Addr) (c : Nat) (l : List Sp) (n : Int) (w : World) (h : Sps w A l) (hl : l.length ≤ 9223372036854775807) :
 Calls Tryz.prog 80 #[.agg #[.slice A l.length c], .int .i64 n] w fun e w' => e = .returned (.bool (hasF l n)) ∧ Grows w w' := by
 have k2 := Blk.new w 58 #[.slice A l.length c]
 have hB := (Below.refl w.heap.size w).alloc (Nat.le_refl _) (Obj.cells #[.slice A l.length c] 58)
 go_enter Tryz.func80, Tryz.ntmps80
 go_upto_region 1 with fail
 have h1 := h.grows hB
 generalize World.alloc w _ = w1 at *
 have x2 := k2.cell 0
 go_wp2_with fail
 refine (rspans_any A c l _ h1 hl).mono ?_
 rintro e w2 ⟨⟨A2, c2, rfl, h2, -⟩, hq⟩
 replace hB := below_grows hB (Nat.le_refl _) hq
 have hl2 := spansF_len l
 have HF : Hid (hasF l n = (spansF l).any fun x => hasP n x) := Lib.hid rfl
 generalize spansF l = o at *
 clear x2 hq
 go_wp2_with fail
 go_loopw [10] (fun i wr => ∃ k : Nat, k ≤ o.length ∧ i = .int .i64 k ∧ Grows w2 wr ∧ ∀ x ∈ o.take k, hasP n x = false) (fun i _ => o.length - (intOf i).toNat)
 case atStart => exact ⟨0, by omega, rfl, Below.refl _ _, by simp⟩
 case round =>
  obtain ⟨k, hk, rfl, hg, hall⟩ := hrel
  by_cases hlt : k < o.length
  ·obtain ⟨ad, x, rfl, had, hx, c0, c1⟩ := (h2.grows hg).elem hlt
   have HX : Hid (o.take (k + 1) = o.take k ++ [x]) := take_snoc hx
   have HM : Hid (x ∈ o) := List.mem_of_getElem? hx
   clear hx
   have hq := (Below.refl wr.heap.size wr).alloc (Nat.le_refl _) (Obj.cells #[.int .i64 x.1, .int .i64 x.2] 86)
   replace hg := below_grows hg (Nat.le_refl _) hq
   clear hq
   by_cases h1 : x.1 ≤ n
   ·by_cases h2 : n ≤ x.2
    ·have HE : Hid (o.any (fun x => hasP n x) = true) := Lib.hid (List.any_eq_true.2 ⟨x, HM.out, by simp [hasP, h1, h2]⟩)
     go_wp2
     go_ret
     exact ⟨ret_bool (HF.out.trans HE.out).symm, below_grows hB (Nat.le_refl _) hg⟩
    ·have HE : Hid (hasP n x = false) := Lib.hid (by simp [hasP, h2])
     go_wp2
     go_roundw
     case rel => exact ⟨k + 1, by omega, by go_num, hg, by rw [HX.out]; intro y hy; rcases List.mem_append.1 hy with hy | hy; exact hall y hy; rw [List.mem_singleton.1 hy]; exact HE.out⟩
     case measure => simp [intOf]; omega
   ·have HE : Hid (hasP n x = false) := Lib.hid (by simp [hasP, h1])
    go_wp2
    go_roundw
    case rel => exact ⟨k + 1, by omega, by go_num, hg, by rw [HX.out]; intro y hy; rcases List.mem_append.1 hy with hy | hy; exact hall y hy; rw [List.mem_singleton.1 hy]; exact HE.out⟩
    case measure => simp [intOf]; omega
  ·have e : o.take k = o := List.take_of_length_le (by omega)
   rw [e] at hall
   have HE : Hid (o.any (fun x => hasP n x) = false) := Lib.hid (by rw [List.any_eq_false]; intro x hx; rw [hall x hx]; simp)
   clear e hall
   go_wp2
   go_ret
   exact ⟨ret_bool (HF.out.trans HE.out).symm, below_grows hB (Nat.le_refl _) hg⟩
theorem kset_any (A : Option Addr) (c : Nat) (l : List Sp) (w : World) (hl : l.length ≤ 9223372036854775807) : Calls Tryz.prog 48 #[.agg #[.slice A l.length c]] w fun e w' => e = .returned (.bool (decide (l.length ≤ 70))) ∧ Grows w w' := by
 have k2 := Blk.new w 58 #[.slice A l.length c]
 have hB := (Below.refl w.heap.size w).alloc (Nat.le_refl _) (Obj.cells #[.slice A l.length c] 58)
 go_enter Tryz.func48, Tryz.ntmps48
 go_wp2
 go_ret
 exact ⟨ret_bool (by rw [decide_eq_decide]; omega), hB⟩
set_option maxHeartbeats 16000000 in
theorem rin_any {base : Nat → Prop} {I A1 A2 A3 : Option Addr} {ci c1 c2 c3 : Nat} {b : Bx} {x : Ch} {w : World} (hp : BoxP w base b A1 c1 A2 c2 A3 c3) (hl : OKB b) (ix : Ints w I x.m) (hxm : x.m.length ≤ 9223372036854775807) :
 Calls Tryz.prog 46 #[.agg #[.int .i64 b.k, .slice A1 b.r.length c1, .slice A2 b.m.length c2, .slice A3 b.s.length c3], .agg #[.int .i64 x.k, .int .i64 x.r, .slice I x.m.length ci, .int .i64 x.s]] w fun e w' => e = .returned (.bool (inB b x)) ∧ Grows w w' := by
 obtain ⟨hlr, hls, hlm, hlx⟩ := hl
 have HLM := Lib.hid hlx
 clear hlx
 have k2 := ((Blk.new w 61 #[.int .i64 b.k, .slice A1 b.r.length c1, .slice A2 b.m.length c2, .slice A3 b.s.length c3]).alloc (Obj.cells #[.int .i64 x.k, .int .i64 x.r, .slice I x.m.length ci, .int .i64 x.s] 42))
 have kc := (Blk.new (w.alloc (Obj.cells #[.int .i64 b.k, .slice A1 b.r.length c1, .slice A2 b.m.length c2, .slice A3 b.s.length c3] 61)) 42 #[.int .i64 x.k, .int .i64 x.r, .slice I x.m.length ci, .int .i64 x.s])
 have hB := (((Below.refl w.heap.size w).alloc (Nat.le_refl _) (Obj.cells #[.int .i64 b.k, .slice A1 b.r.length c1, .slice A2 b.m.length c2, .slice A3 b.s.length c3] 61)).alloc (by simp) (Obj.cells #[.int .i64 x.k, .int .i64 x.r, .slice I x.m.length ci, .int .i64 x.s] 42))
 go_enter Tryz.func46, Tryz.ntmps46
 go_upto_region 1 with fail
 have hs1 : (w.alloc (Obj.cells #[.int .i64 b.k, .slice A1 b.r.length c1, .slice A2 b.m.length c2, .slice A3 b.s.length c3] 61)).heap.size = w.heap.size + 1 := by simp
 rw [hs1] at kc
 clear hs1
 generalize World.alloc (World.alloc w _) _ = w1 at *
 generalize hG1 : w.heap.size + 1 = G1 at *
 clear hG1
 have x1 := kc.cell
 have x2 := k2.cell
 go_wp2_with fail
 refine (rkind_any b.k x.k _).mono ?_
 cases hv : kindB b.k x.k
 ·have HE : Hid (inB b x = false) := Lib.hid (inB_k hv)
  clear hv
  rintro e w2 ⟨rfl, hq⟩
  replace hB := below_grows hB (Nat.le_refl _) hq
  clear hq x1 x2
  go_wp2
  go_ret
  exact ⟨ret_bool HE.out.symm, hB⟩
 have H0 := Lib.hid hv
 clear hv
 rintro e w2 ⟨rfl, hq⟩
 replace hB := below_grows hB (Nat.le_refl _) hq
 replace kc := kc.grows hq
 replace k2 := k2.grows hq
 clear hq x1 x2
 have x1 := kc.cell
 have x2 := k2.cell
 go_wp2_with fail
 refine (rhass_any A1 c1 b.r x.r _ (hp.r.grows hB).sps (by omega)).mono ?_
 cases hv : hasF b.r x.r
 ·have HE : Hid (inB b x = false) := Lib.hid (inB_r hv)
  clear hv
  rintro e w2 ⟨rfl, hq⟩
  replace hB := below_grows hB (Nat.le_refl _) hq
  clear hq x1 x2
  go_wp2
  go_ret
  exact ⟨ret_bool HE.out.symm, hB⟩
 have H1 := Lib.hid hv
 clear hv
 rintro e w2 ⟨rfl, hq⟩
 replace hB := below_grows hB (Nat.le_refl _) hq
 replace kc := kc.grows hq
 replace k2 := k2.grows hq
 clear hq x1 x2
 have x1 := kc.cell
 have x2 := k2.cell
 go_wp2_with fail
 refine (rhasw_any A2 I c2 ci b.m x.m _ rfl (hp.m.grows hB) hlm HLM.out (ix.grows hB) hxm).mono ?_
 by_cases hv : x.m ∈ b.m
 case neg =>
  have HE : Hid (inB b x = false) := Lib.hid (inB_m hv)
  rw [decide_eq_false hv]
  clear hv
  rintro e w2 ⟨rfl, hq⟩
  replace hB := below_grows hB (Nat.le_refl _) hq
  clear hq x1 x2
  go_wp2
  go_ret
  exact ⟨ret_bool HE.out.symm, hB⟩
 have H2 := Lib.hid hv
 rw [decide_eq_true hv]
 clear hv
 rintro e w2 ⟨rfl, hq⟩
 replace hB := below_grows hB (Nat.le_refl _) hq
 replace kc := kc.grows hq
 replace k2 := k2.grows hq
 clear hq x1 x2
 have x1 := kc.cell
 have x2 := k2.cell
 go_wp2_with fail
 refine (rhass_any A3 c3 b.s x.s _ (hp.s.grows hB).sps (by omega)).mono ?_
 cases hv : hasF b.s x.s
 ·have HE : Hid (inB b x = false) := Lib.hid (inB_s hv)
  clear hv
  rintro e w2 ⟨rfl, hq⟩
  replace hB := below_grows hB (Nat.le_refl _) hq
  clear hq x1 x2
  go_wp2
  go_ret
  exact ⟨ret_bool HE.out.symm, hB⟩
 have HE : Hid (inB b x = true) := Lib.hid (inB_yes H0.out H1.out H2.out hv)
 clear hv
 rintro e w2 ⟨rfl, hq⟩
 replace hB := below_grows hB (Nat.le_refl _) hq
 clear hq x1 x2
 go_wp2
 go_ret
 exact ⟨ret_bool HE.out.symm, hB⟩
set_option maxHeartbeats 16000000 in
theorem rhaslw_any {base : Nat → Prop} {A I : Option Addr} {c ci : Nat} {l : List Bx} {x : Ch} {w : World} (h : Bxs w base A l) (hl : l.length ≤ 1000000) (hc : l.length ≤ c) (ho : ∀ b ∈ l, OKB b) (ix : Ints w I x.m) (hxm : x.m.length ≤ 9223372036854775807) :
 Calls Tryz.prog 21 #[.slice A l.length c, .agg #[.int .i64 x.k, .int .i64 x.r, .slice I x.m.length ci, .int .i64 x.s]] w fun e w' => e = .returned (.bool (hasL l x)) ∧ Grows w w' := by
 have HO := Lib.hid ho
 have HL : Hid (hasL l x = (boxesF l).any fun b => inB b x) := Lib.hid rfl
 clear ho
 have kc := Blk.new w 42 #[.int .i64 x.k, .int .i64 x.r, .slice I x.m.length ci, .int .i64 x.s]
 have hB := (Below.refl w.heap.size w).alloc (Nat.le_refl _) (Obj.cells #[.int .i64 x.k, .int .i64 x.r, .slice I x.m.length ci, .int .i64 x.s] 42)
 go_enter Tryz.func21, Tryz.ntmps21
 go_upto_region 1 with fail
 generalize World.alloc w _ = w1 at *
 go_wp2_with fail
 refine (rlist_any A c base l _ (h.grows hB) hl HO.out hc).mono ?_
 have HOB := Lib.hid (boxes_ok HO.out)
 have hbl := boxes_len l
 generalize boxesF l = bl at *
 rintro e w4 ⟨⟨A4, c4, rfl, hc4, hbx⟩, hq⟩
 replace hB := below_grows hB (Nat.le_refl _) hq
 replace hbx := hbx.grows hq
 replace kc := kc.grows hq
 clear hq
 have hB0 := hB
 clear hB
 go_wp2_with fail
 go_loopw [10] (fun i wr => ∃ k : Nat, k ≤ bl.length ∧ i = .int .i64 k ∧ Hid (∀ y ∈ bl.take k, inB y x = false) ∧ Blk wr w.heap.size 42 #[.int .i64 x.k, .int .i64 x.r, .slice I x.m.length ci, .int .i64 x.s] ∧ Grows w4 wr) (fun i _ => bl.length - (intOf i).toNat)
 case atStart => exact ⟨0, by omega, rfl, Lib.hid (by simp), kc, Below.refl _ _⟩
 case round =>
  clear kc
  obtain ⟨k, hk, rfl, HA, kc, hB⟩ := hrel
  by_cases hlt : k < bl.length
  ·obtain ⟨ad, y, A1, c1, A2, c2, A3, c3, ea, had, hy, hp, q0, q1, q2, q3⟩ := hbx.elemB hB hlt
   subst ea
   have HY := Lib.hid hy
   have hoy := HOB.out y (List.mem_of_getElem? hy)
   clear hy
   have k8 := Blk.new wr 61 #[.int .i64 y.k, .slice A1 y.r.length c1, .slice A2 y.m.length c2, .slice A3 y.s.length c3]
   have hq := (Below.refl wr.heap.size wr).alloc (Nat.le_refl _) (Obj.cells #[.int .i64 y.k, .slice A1 y.r.length c1, .slice A2 y.m.length c2, .slice A3 y.s.length c3] 61)
   go_upto_region 4 with fail
   replace hB := below_grows hB (Nat.le_refl _) hq
   replace kc := kc.grows hq
   clear hq q0 q1 q2 q3
   generalize World.alloc wr _ = w5 at *
   generalize wr.heap.size = G8 at *
   have x8 := k8.cell
   have xc := kc.cell
   go_wp2_with fail
   refine (rin_any (hp.grows hB) hoy (ix.grows (below_grows hB0 (Nat.le_refl _) hB)) hxm).mono ?_
   rintro e w6 ⟨rfl, hq⟩
   clear x8 xc
   replace hB := below_grows hB (Nat.le_refl _) hq
   replace kc := kc.grows hq
   clear hq k8
   cases hv : inB y x
   ·have HN : Hid (∀ z ∈ bl.take (k + 1), inB z x = false) := Lib.hid (by
     rw [take_snoc HY.out]
     intro z hz
     rcases List.mem_append.1 hz with hz | hz
     ·exact HA.out z hz
     ·simp only [List.mem_singleton] at hz
      exact hz ▸ hv)
    clear hv
    go_wp2
    go_roundw
    case rel => exact ⟨k + 1, by omega, by go_num, HN, kc, hB⟩
    case measure => simp [intOf]; omega
   ·have HE : Hid (bl.any (fun b => inB b x) = true) := Lib.hid (List.any_eq_true.2 ⟨y, List.mem_of_getElem? HY.out, hv⟩)
    clear hv
    go_wp2
    go_ret
    exact ⟨ret_bool (HL.out.trans HE.out).symm, below_grows hB0 (Nat.le_refl _) hB⟩
  ·have HE : Hid (bl.any (fun b => inB b x) = false) := Lib.hid (by
    rw [List.any_eq_false]
    intro y hy
    rw [HA.out y (by rwa [List.take_of_length_le (by omega)])]
    simp)
   go_wp2
   go_ret
   exact ⟨ret_bool (HL.out.trans HE.out).symm, below_grows hB0 (Nat.le_refl _) hB⟩
def KeptB (b : Bx) : Prop := b.r.length ≤ 70 ∧ b.s.length ≤ 70 ∧ b.m.length ≤ 20 ∧ ∀ x ∈ b.m, x.length ≤ 12
def LimB (b : Bx) : Prop := b.r.length ≤ 9223372036854775807 ∧ b.s.length ≤ 9223372036854775807 ∧ b.m.length ≤ 9223372036854775807 ∧ ∀ x ∈ b.m, x.length ≤ 9223372036854775807
theorem KeptB.okb {b : Bx} (h : KeptB b) : OKB b := by
 obtain ⟨h1, h2, h3, h4⟩ := h
 exact ⟨by omega, by omega, by omega, fun x hx => by have := h4 x hx; omega⟩
set_option maxHeartbeats 16000000 in
theorem kboxes_any {base : Nat → Prop} {A : Option Addr} {c : Nat} {l : List Bx} {w : World} (n : Nat) (hn : n ≤ 100) {z : Int} (hz : z = n) (h : Bxs w base A l) (hl : l.length ≤ 9223372036854775807) (ho : ∀ b ∈ l, LimB b) :
 Calls Tryz.prog 24 #[.slice A l.length c, .int .i64 z] w fun e w' => ((e = .returned (.bool true) ∧ l.length ≤ n ∧ ∀ b ∈ l, KeptB b) ∨ e = .returned (.bool false)) ∧ Grows w w' := by
 have HO := Lib.hid ho
 clear ho
 subst hz
 have hB := Below.refl w.heap.size w
 go_enter Tryz.func24, Tryz.ntmps24
 by_cases h1 : n < l.length
 ·have d1 : decide ((n : Int) < (l.length : Int)) = true := by simp only [decide_eq_true_eq]; omega
  have d2 : decide (n < l.length) = true := by simp only [decide_eq_true_eq]; omega
  clear h1
  go_wp2
  go_ret
  exact ⟨.inr rfl, hB⟩
 have d1 : decide ((n : Int) < (l.length : Int)) = false := by simp only [decide_eq_false_iff_not]; omega
 have d2 : decide (n < l.length) = false := by simp only [decide_eq_false_iff_not]; omega
 go_wp2_with fail
 clear d1 d2
 go_loopw [15] (fun i wr => ∃ k : Nat, k ≤ l.length ∧ i = .int .i64 k ∧ Hid (∀ y ∈ l.take k, KeptB y) ∧ Below w.heap.size w wr) (fun i _ => l.length - (intOf i).toNat)
 case atStart => exact ⟨0, by omega, rfl, Lib.hid (by simp), hB⟩
 case round =>
  clear hB
  obtain ⟨k, hk, rfl, HA, hB⟩ := hrel
  by_cases hlt : k < l.length
  ·obtain ⟨ad, y, A1, c1, A2, c2, A3, c3, ea, had, hy, hp, q0, q1, q2, q3⟩ := h.elemB hB hlt
   subst ea
   have HY := Lib.hid hy
   obtain ⟨o1, o2, o3, o4⟩ := HO.out y (List.mem_of_getElem? hy)
   have HO4 := Lib.hid o4
   clear hy o4
   have k8 := Blk.new wr 61 #[.int .i64 y.k, .slice A1 y.r.length c1, .slice A2 y.m.length c2, .slice A3 y.s.length c3]
   have hq := (Below.refl wr.heap.size wr).alloc (Nat.le_refl _) (Obj.cells #[.int .i64 y.k, .slice A1 y.r.length c1, .slice A2 y.m.length c2, .slice A3 y.s.length c3] 61)
   go_upto_region 6 with fail
   replace hB := below_grows hB (Nat.le_refl _) hq
   clear hq q0 q1 q2 q3
   generalize World.alloc wr _ = w5 at *
   generalize wr.heap.size = G8 at *
   have x8 := k8.cell
   go_wp2_with fail
   refine (kset_any A1 c1 y.r _ o1).mono ?_
   rintro e w6 ⟨rfl, hq⟩
   clear x8
   replace hB := below_grows hB (Nat.le_refl _) hq
   replace k8 := k8.grows hq
   clear hq
   have x8 := k8.cell
   by_cases p1 : y.r.length ≤ 70
   case neg =>
    rw [decide_eq_false p1]
    clear p1
    go_wp2
    go_ret
    exact ⟨.inr rfl, hB⟩
   rw [decide_eq_true p1]
   go_wp2_with fail
   refine (kset_any A3 c3 y.s _ o2).mono ?_
   rintro e w7 ⟨rfl, hq⟩
   clear x8
   replace hB := below_grows hB (Nat.le_refl _) hq
   replace k8 := k8.grows hq
   clear hq
   have x8 := k8.cell
   by_cases p2 : y.s.length ≤ 70
   case neg =>
    rw [decide_eq_false p2]
    clear p2
    go_wp2
    go_ret
    exact ⟨.inr rfl, hB⟩
   rw [decide_eq_true p2]
   by_cases p3 : y.m.length ≤ 20
   case neg =>
    have d1 : decide ((20 : Int) < (y.m.length : Int)) = true := by simp only [decide_eq_true_eq]; omega
    have d2 : decide (20 < y.m.length) = true := by simp only [decide_eq_true_eq]; omega
    clear p3
    go_wp2
    go_ret
    exact ⟨.inr rfl, hB⟩
   have d1 : decide ((20 : Int) < (y.m.length : Int)) = false := by simp only [decide_eq_false_iff_not]; omega
   have d2 : decide (20 < y.m.length) = false := by simp only [decide_eq_false_iff_not]; omega
   go_wp2_with fail
   clear d1 d2 x8 k8
   go_loopw [38] (fun i wq => ∃ j : Nat, j ≤ y.m.length ∧ i = .int .i64 j ∧ Hid (∀ z ∈ y.m.take j, z.length ≤ 12) ∧ Below w.heap.size w wq) (fun i _ => y.m.length - (intOf i).toNat)
   case atStart => exact ⟨0, by omega, rfl, Lib.hid (by simp), hB⟩
   case round =>
    clear hB
    obtain ⟨j, hj, rfl, HJ, hB⟩ := hrel
    by_cases hjt : j < y.m.length
    ·obtain ⟨ad2, z, B, cz, ez, had2, hz, z0, hcz, hiz⟩ := (hp.m.grows hB).elem hjt
     have HZ := Lib.hid hz
     have oz := HO4.out z (List.mem_of_getElem? hz)
     subst ez
     clear hz hiz
     by_cases p4 : z.length ≤ 12
     ·have d1 : decide ((12 : Int) < (z.length : Int)) = false := by simp only [decide_eq_false_iff_not]; omega
      have d2 : decide (12 < z.length) = false := by simp only [decide_eq_false_iff_not]; omega
      have HN : Hid (∀ q ∈ y.m.take (j + 1), q.length ≤ 12) := Lib.hid (by
       rw [take_snoc HZ.out]
       intro q hq
       rcases List.mem_append.1 hq with hq | hq
       ·exact HJ.out q hq
       ·simp only [List.mem_singleton] at hq
        exact hq ▸ p4)
      clear p4
      go_wp2
      go_roundw
      case rel => exact ⟨j + 1, by omega, by go_num, HN, hB⟩
      case measure => simp [intOf]; omega
     ·have d1 : decide ((12 : Int) < (z.length : Int)) = true := by simp only [decide_eq_true_eq]; omega
      have d2 : decide (12 < z.length) = true := by simp only [decide_eq_true_eq]; omega
      clear p4
      go_wp2
      go_ret
      exact ⟨.inr rfl, hB⟩
    ·have HN : Hid (∀ q ∈ l.take (k + 1), KeptB q) := Lib.hid (by
      rw [take_snoc HY.out]
      intro q hq
      rcases List.mem_append.1 hq with hq | hq
      ·exact HA.out q hq
      ·simp only [List.mem_singleton] at hq
       subst hq
       refine ⟨p1, p2, p3, fun x hx => HJ.out x (by rwa [List.take_of_length_le (by omega)])⟩)
     go_wp2
     go_roundw
     case rel => exact ⟨k + 1, by omega, by go_num, HN, hB⟩
     case measure => simp [intOf]; omega
  ·have HE : Hid (∀ b ∈ l, KeptB b) := Lib.hid (fun b hb => HA.out b (by rwa [List.take_of_length_le (by omega)]))
   go_wp2
   go_ret
   exact ⟨.inl ⟨rfl, by omega, HE.out⟩, hB⟩
end Go.Proofs.YtjbkjgmcfommgaaGreat

namespace Go.Proofs.YtjbkjgmcfommgaaGreat
open Go.ChangeShapes Go.WideShapes Go.RowKit Go.Deep
section
variable {H : Type} {enc : TypeId × Value → H} {P : Program} {w : World} {base : Nat} {spare : Nat → Bool} {held : Bool} {fs : Array Field} {cs : List Value} {xs : List (DataW H × List MemPlace)} {n : Nat}
set_option maxRecDepth 100000 in
theorem part_int (hg : ∀ (i : Nat) (f : Field), fs[i]? = some f → DataW.trod enc P w base spare held n f.type ((cs.drop f.offset).take (P.cellsOf f.type)) = xs[i]?) (hlen : xs.length = fs.size) (i o c : Nat) (k : IntKind)
 (hi : (fs[i]?).map (fun f => (f.offset, P.cellsOf f.type, P.underlying f.type)) = some (o, c, some (.int k))) : ∃ a : Int, (cs.drop o).take c = [.int k a] ∧ (Lit.int k a).wf = true := by
 obtain ⟨f, hf, he⟩ := Option.map_eq_some_iff.1 hi
 simp only [Prod.mk.injEq] at he
 obtain ⟨h1, h2, h3⟩ := he
 have hil : i < fs.size := (Array.getElem?_eq_some_iff.1 hf).1
 have hx := hg i f hf
 rw [List.getElem?_eq_getElem (by omega), h1, h2] at hx
 obtain ⟨a, ha, _, hw⟩ := DataW.trod_int h3 hx
 exact ⟨a, ha, hw⟩
set_option maxRecDepth 100000 in
theorem part_struct (hg : ∀ (i : Nat) (f : Field), fs[i]? = some f → DataW.trod enc P w base spare held n f.type ((cs.drop f.offset).take (P.cellsOf f.type)) = xs[i]?) (hlen : xs.length = fs.size) (i o c : Nat) (gs : Array Field)
 (hi : (fs[i]?).map (fun f => (f.offset, P.cellsOf f.type, P.underlying f.type)) = some (o, c, some (.struct gs))) :
 ∃ (ys : List (DataW H × List MemPlace)) (m : Nat), ys.length = gs.size ∧ ∀ (i : Nat) (f : Field), gs[i]? = some f → DataW.trod enc P w base spare held m f.type ((((cs.drop o).take c).drop f.offset).take (P.cellsOf f.type)) = ys[i]? := by
 obtain ⟨f, hf, he⟩ := Option.map_eq_some_iff.1 hi
 simp only [Prod.mk.injEq] at he
 obtain ⟨h1, h2, h3⟩ := he
 have hil : i < fs.size := (Array.getElem?_eq_some_iff.1 hf).1
 have hx := hg i f hf
 rw [List.getElem?_eq_getElem (by omega), h1, h2] at hx
 obtain ⟨ys, m, _, _, _, hl, h⟩ := DataW.trod_struct h3 hx
 exact ⟨ys, m, hl, h⟩
end
end Go.Proofs.YtjbkjgmcfommgaaGreat

namespace Go.Proofs.YtjbkjgmcfommgaaGreat
open Go.ChangeShapes Go.WideShapes Go.RowKit Go.Deep
set_option maxRecDepth 100000
theorem part_any {H : Type} {enc : TypeId × Value → H} {P : Program} {w : World} {base : Nat} {spare : Nat → Bool} {held : Bool} {fs : Array Field} {cs : List Value} {xs : List (DataW H × List MemPlace)} {n : Nat} (hg : ∀ (i : Nat) (f : Field), fs[i]? = some f → DataW.trod enc P w base spare held n f.type ((cs.drop f.offset).take (P.cellsOf f.type)) = xs[i]?) (hlen : xs.length = fs.size) (i o c : Nat) (t : TypeId)
 (hi : (fs[i]?).map (fun f => (f.offset, P.cellsOf f.type, f.type)) = some (o, c, t)) : ∃ y, DataW.trod enc P w base spare held n t ((cs.drop o).take c) = some y := by
 obtain ⟨f, hff, he⟩ := Option.map_eq_some_iff.1 hi
 simp only [Prod.mk.injEq] at he
 obtain ⟨h1, h2, h3⟩ := he
 have hil := (Array.getElem?_eq_some_iff.1 hff).1
 have hx := hg i f hff
 rw [List.getElem?_eq_getElem (by omega), h1, h2, h3] at hx
 exact ⟨_, hx⟩
section
variable {H : Type} {enc : TypeId × Value → H} {w : World} {base : Nat} {spare : Nat → Bool} {held : Bool}
theorem span_of {n : Nat} {cs : List Value} {y : DataW H × List MemPlace} (h : DataW.trod enc Tryz.prog w base spare held n 86 cs = some y) : ∃ g : Sp, cs = lsS g := by
 obtain ⟨xs, m, _, _, hl, hlen, hg⟩ := DataW.trod_struct Tryz.underlying86 h
 obtain ⟨k, e0, _⟩ := part_int hg hlen 0 0 1 .i64 (by kernel_rfl)
 obtain ⟨a, e1, _⟩ := part_int hg hlen 1 1 1 .i64 (by kernel_rfl)
 have hl2 : cs.length = 2 := hl.trans (by kernel_rfl)
 refine ⟨(k, a), ?_⟩
 match cs, hl2 with
 | [c0, c1], _ =>
  simp only [List.drop_zero, List.take_succ_cons, List.take_zero, List.drop_succ_cons, List.cons.injEq, and_true] at e0 e1
  rw [e0, e1]
  rfl
theorem spans_of {n : Nat} {cs : List Value} {y : DataW H × List MemPlace} (h : DataW.trod enc Tryz.prog w base spare held n 56 cs = some y) : ∃ (A : Option Addr) (cp : Nat) (l : List Sp), cs = [.slice A l.length cp] ∧ Sps w A l ∧ l.length ≤ maxLen ∧ l.length ≤ cp := by
 rcases DataW.trod_slice Tryz.underlying56 h with ⟨rfl, _⟩ | ⟨a, len, cap, elems, rest, m, _, rfl, _, hb, hl, hm, hlen, hel, _, _⟩
 ·exact ⟨none, 0, [], rfl, Reads.none_, by simp, by simp⟩
 ·have hc2 : Tryz.prog.cellsOf 86 = 2 := by kernel_rfl
  rw [hc2] at hel
  have each : ∀ i, i < len → ∃ g : Sp, w.cells? base (a.add (i * 2)) 2 = some (lsS g) := by
   intro i hi
   have h1 := hel i hi
   rw [List.getElem?_eq_getElem (by omega), Option.bind_eq_some_iff] at h1
   obtain ⟨cs', hcs, hy⟩ := h1
   obtain ⟨g, rfl⟩ := span_of hy
   exact ⟨g, hcs⟩
  have lst : ∀ j, j ≤ len → ∃ l : List Sp, l.length = j ∧ ∀ i (g : Sp), l[i]? = some g → w.cells? base (a.add (i * 2)) 2 = some (lsS g) := by
   intro j
   induction j with
   | zero => exact fun _ => ⟨[], rfl, by simp⟩
   | succ j ih =>
    intro hj
    obtain ⟨l, h1, h2⟩ := ih (by omega)
    obtain ⟨g, hg⟩ := each j (by omega)
    refine ⟨l ++ [g], by simp [h1], fun i x hx => ?_⟩
    by_cases hi : i < l.length
    ·exact h2 i x (by rwa [List.getElem?_append_left hi] at hx)
    ·have hij : i = j := by
      have := (List.getElem?_eq_some_iff.1 hx).1
      simp at this
      omega
     subst hij
     rw [List.getElem?_append_right (by omega)] at hx
     simp [h1] at hx
     subst hx
     exact hg
  obtain ⟨l, h1, h2⟩ := lst len (Nat.le_refl _)
  refine ⟨some a, cap, l, by rw [h1], ⟨scells_len l, fun hn => ?_⟩, by omega, by omega⟩
  refine ⟨a, rfl, ?_, fun j u hu => ?_⟩
  ·have h3 := h2 0 l[0] (List.getElem?_eq_getElem hn)
   have := World.cells?_block h3 (by omega)
   rwa [block_of_add] at this
  ·have hj : j < l.length * 2 := by rw [← scells_len]; exact (List.getElem?_eq_some_iff.1 hu).1
   have hi : j / 2 < l.length := by omega
   have hx := List.getElem?_eq_getElem hi
   have h3 := h2 (j / 2) l[j / 2] hx
   obtain ⟨_, _, h4⟩ := World.cells?_some h3
   have hjm : j = j / 2 * 2 + j % 2 := by omega
   rw [hjm, scells_at l (j / 2) _ hx (j % 2) (by omega)] at hu
   have := h4 (j % 2) (by omega)
   rw [add_of_add, ← hjm] at this
   rw [this]
   exact hu
theorem set_of {n : Nat} {cs : List Value} {y : DataW H × List MemPlace} (h : DataW.trod enc Tryz.prog w base spare held n 58 cs = some y) : ∃ (A : Option Addr) (cp : Nat) (l : List Sp), cs = [.slice A l.length cp] ∧ Sps w A l ∧ l.length ≤ maxLen ∧ l.length ≤ cp := by
 obtain ⟨xs, m, _, _, hl, hlen, hg⟩ := DataW.trod_struct Tryz.underlying58 h
 have hl1 : cs.length = 1 := hl.trans (by kernel_rfl)
 obtain ⟨y1, t1⟩ := part_any hg hlen 0 0 1 56 (by kernel_rfl)
 obtain ⟨A, cp, l, e1, hs, hm, hc⟩ := spans_of t1
 rw [List.drop_zero, List.take_of_length_le (by omega)] at e1
 exact ⟨A, cp, l, e1, hs, hm, hc⟩
theorem list_of {α : Type} {R : Nat → α → Prop} (len : Nat) (each : ∀ i, i < len → ∃ g, R i g) : ∃ l : List α, l.length = len ∧ ∀ (i : Nat) (x : α), l[i]? = some x → R i x := by
 induction len with
 | zero => exact ⟨[], rfl, by simp⟩
 | succ j ih =>
  obtain ⟨l, h1, h2⟩ := ih (fun i hi => each i (by omega))
  obtain ⟨g, hg⟩ := each j (by omega)
  refine ⟨l ++ [g], by simp [h1], fun i x hx => ?_⟩
  by_cases hi : i < l.length
  ·exact h2 i x (by rwa [List.getElem?_append_left hi] at hx)
  ·have hij : i = j := by
    have := (List.getElem?_eq_some_iff.1 hx).1
    simp at this
    omega
   subst hij
   rw [List.getElem?_append_right (by omega)] at hx
   simp [h1] at hx
   subst hx
   exact hg
theorem reads_of {a : Addr} {size len : Nat} {f : Nat → List Value} (hs : 0 < size) (hf : ∀ i, i < len → w.cells? base (a.add (i * size)) size = some (f i)) : ∃ vs : List Value, RdB w (fun _ => True) size (some a) len vs ∧ ∀ i, i < len → ∀ j, j < size → vs[i * size + j]? = (f i)[j]? := by
 have hlt : ∀ n, n < len * size → n / size < len := fun n hn => Nat.div_lt_of_lt_mul (by rw [Nat.mul_comm]; exact hn)
 have hlen : ∀ i, i < len → (f i).length = size := fun i hi => (World.cells?_some (hf i hi)).2.1
 refine ⟨(List.range (len * size)).map fun n => (f (n / size)).getD (n % size) undef, ⟨⟨by simp, fun hn => ⟨a, rfl, ?_, fun j u hu => ?_⟩⟩, fun _ _ _ => trivial⟩, fun i hi j hj => ?_⟩
 ·have h3 := hf 0 hn
  have := World.cells?_block h3 hs
  rwa [block_of_add] at this
 ·have hj : j < len * size := by simpa using (List.getElem?_eq_some_iff.1 hu).1
  rw [List.getElem?_map, List.getElem?_range hj] at hu
  have hu : (f (j / size)).getD (j % size) undef = u := by simpa using hu
  have h3 := hf (j / size) (hlt j hj)
  obtain ⟨_, h5, h4⟩ := World.cells?_some h3
  have hm := Nat.mod_lt j hs
  have hjm : j / size * size + j % size = j := by rw [Nat.mul_comm]; exact Nat.div_add_mod j size
  have := h4 (j % size) hm
  rw [add_of_add, hjm] at this
  rw [this, ← hu, List.getD_eq_getElem?_getD, List.getElem?_eq_getElem (by omega)]
  rfl
 ·have hn : i * size + j < len * size := by
   have := Nat.mul_le_mul_right size (show i + 1 ≤ len by omega)
   rw [Nat.add_mul, Nat.one_mul] at this
   omega
  have e1 : (i * size + j) / size = i := by rw [Nat.mul_comm, Nat.mul_add_div hs, Nat.div_eq_of_lt hj, Nat.add_zero]
  have e2 : (i * size + j) % size = j := by rw [Nat.mul_comm, Nat.mul_add_mod, Nat.mod_eq_of_lt hj]
  have hfl := hlen i hi
  rw [List.getElem?_map, List.getElem?_range hn]
  show some ((f ((i * size + j) / size)).getD ((i * size + j) % size) undef) = _
  rw [e1, e2, List.getD_eq_getElem?_getD, List.getElem?_eq_getElem (by omega)]
  rfl
theorem ints_of {n : Nat} {cs : List Value} {y : DataW H × List MemPlace} (h : DataW.trod enc Tryz.prog w base spare held n 38 cs = some y) : ∃ (A : Option Addr) (cp : Nat) (l : List Int), cs = [.slice A l.length cp] ∧ InB w (fun _ => True) A l ∧ l.length ≤ maxLen ∧ l.length ≤ cp := by
 rcases DataW.trod_slice Tryz.underlying38 h with ⟨rfl, _⟩ | ⟨a, len, cap, elems, rest, m, _, rfl, _, hb, hl, hm, hlen, hel, _, _⟩
 ·exact ⟨none, 0, [], rfl, RdB.nil, by simp, by simp⟩
 ·have hc : Tryz.prog.cellsOf 3 = 1 := by kernel_rfl
  rw [hc] at hel
  have each : ∀ i, i < len → ∃ g : Int, w.cells? base (a.add (i * 1)) 1 = some [.int .i64 g] := by
   intro i hi
   have h1 := hel i hi
   rw [List.getElem?_eq_getElem (by omega), Option.bind_eq_some_iff] at h1
   obtain ⟨cs', hcs, hy⟩ := h1
   obtain ⟨g, rfl, _⟩ := DataW.trod_int Tryz.underlying3 hy
   exact ⟨g, hcs⟩
  obtain ⟨l, h1, h2⟩ := list_of len each
  obtain ⟨vs, hr, hv⟩ := reads_of (f := fun i => [Value.int .i64 (l.getD i 0)]) (size := 1) (len := len) (a := a) (w := w) (base := base) (by omega) (fun i hi => by
   rw [List.getD_eq_getElem?_getD, List.getElem?_eq_getElem (by omega)]
   exact h2 i _ (List.getElem?_eq_getElem (by omega)))
  have hvl : vs.length = len := by have := hr.1.1; omega
  have e : vs = l.map (Value.int .i64) := by
   refine List.ext_getElem? fun i => ?_
   by_cases hi : i < len
   ·have := hv i hi 0 (by omega)
    rw [Nat.mul_one, Nat.add_zero] at this
    rw [this, List.getElem?_map, List.getElem?_eq_getElem (show i < l.length by omega), List.getD_eq_getElem?_getD, List.getElem?_eq_getElem (show i < l.length by omega)]
    rfl
   ·rw [List.getElem?_eq_none (by omega), List.getElem?_eq_none (by simp; omega)]
  refine ⟨some a, cap, l, by rw [h1], ?_, by omega, by omega⟩
  show RdB w (fun _ => True) 1 (some a) l.length (l.map (Value.int .i64))
  rw [← e, h1]
  exact hr
theorem maps_of {n : Nat} {cs : List Value} {y : DataW H × List MemPlace} (h : DataW.trod enc Tryz.prog w base spare held n 59 cs = some y) : ∃ (A : Option Addr) (cp : Nat) (l : List (List Int)), cs = [.slice A l.length cp] ∧ MapsR w (fun _ => True) A l ∧ l.length ≤ maxLen ∧ l.length ≤ cp ∧ ∀ x ∈ l, x.length ≤ maxLen := by
 rcases DataW.trod_slice Tryz.underlying59 h with ⟨rfl, _⟩ | ⟨a, len, cap, elems, rest, m, _, rfl, _, hb, hl, hm, hlen, hel, _, _⟩
 ·exact ⟨none, 0, [], rfl, MapsR.nil, by simp, by simp, by simp⟩
 ·have hc : Tryz.prog.cellsOf 38 = 1 := by kernel_rfl
  rw [hc] at hel
  have each : ∀ i, i < len → ∃ g : List Int × Value, w.cells? base (a.add (i * 1)) 1 = some [g.2] ∧ (∃ B c, g.2 = .slice B g.1.length c ∧ g.1.length ≤ c ∧ InB w (fun _ => True) B g.1) ∧ g.1.length ≤ maxLen := by
   intro i hi
   have h1 := hel i hi
   rw [List.getElem?_eq_getElem (by omega), Option.bind_eq_some_iff] at h1
   obtain ⟨cs', hcs, hy⟩ := h1
   obtain ⟨B, c, g, rfl, h3, h4, h5⟩ := ints_of hy
   exact ⟨(g, _), hcs, ⟨B, c, rfl, h5, h3⟩, h4⟩
  obtain ⟨l, h1, h2⟩ := list_of len each
  have hat : ∀ i, i < len → ∃ g, l[i]? = some g := fun i hi => ⟨_, List.getElem?_eq_getElem (show i < l.length by omega)⟩
  obtain ⟨vs, hr, hv⟩ := reads_of (f := fun i => [((l[i]?).getD ([], undef)).2]) (size := 1) (len := len) (a := a) (w := w) (base := base) (by omega) (fun i hi => by
   obtain ⟨g, hg⟩ := hat i hi
   rw [hg]
   exact (h2 i g hg).1)
  refine ⟨some a, cap, l.map (·.1), by simp [h1], ⟨vs, by rw [List.length_map, h1]; exact hr, fun i x hx => ?_⟩, by simp; omega, by simp; omega, fun x hx => ?_⟩
  ·rw [List.getElem?_map] at hx
   obtain ⟨g, hg, rfl⟩ := Option.map_eq_some_iff.1 hx
   have hi : i < len := by have := (List.getElem?_eq_some_iff.1 hg).1; omega
   obtain ⟨_, ⟨B, c, e, hc2, hi2⟩, _⟩ := h2 i g hg
   refine ⟨B, c, ?_, hc2, hi2⟩
   have := hv i hi 0 (by omega)
   rw [Nat.mul_one, Nat.add_zero, hg] at this
   rw [this, ← e]
   rfl
  ·obtain ⟨g, hg, rfl⟩ := List.mem_map.1 hx
   obtain ⟨i, hi⟩ := List.mem_iff_getElem?.1 hg
   exact (h2 i g hi).2.2
theorem box_of {n : Nat} {cs : List Value} {y : DataW H × List MemPlace} (h : DataW.trod enc Tryz.prog w base spare held n 61 cs = some y) : ∃ (b : Bx) (A1 : Option Addr) (c1 : Nat) (A2 : Option Addr) (c2 : Nat) (A3 : Option Addr) (c3 : Nat), cs = b.cs A1 c1 A2 c2 A3 c3 ∧ BoxP w (fun _ => True) b A1 c1 A2 c2 A3 c3 ∧ LimB b ∧ I64 b.k := by
 obtain ⟨xs, m, _, _, hl, hlen, hg⟩ := DataW.trod_struct Tryz.underlying61 h
 obtain ⟨k, e0, hk⟩ := part_int hg hlen 0 0 1 .i64 (by kernel_rfl)
 obtain ⟨y1, t1⟩ := part_any hg hlen 1 1 1 58 (by kernel_rfl)
 obtain ⟨y2, t2⟩ := part_any hg hlen 2 2 1 59 (by kernel_rfl)
 obtain ⟨y3, t3⟩ := part_any hg hlen 3 3 1 58 (by kernel_rfl)
 obtain ⟨A1, c1, r, e1, hr, mr, cr⟩ := set_of t1
 obtain ⟨A2, c2, ms, e2, hm, mm, cm, mx⟩ := maps_of t2
 obtain ⟨A3, c3, s, e3, hs, msx, csx⟩ := set_of t3
 have hl4 : cs.length = 4 := hl.trans (by kernel_rfl)
 refine ⟨⟨k, r, ms, s⟩, A1, c1, A2, c2, A3, c3, ?_, ⟨⟨hr, fun _ _ _ => trivial⟩, hm, ⟨hs, fun _ _ _ => trivial⟩, cr, cm, csx⟩, ⟨mr, msx, mm, mx⟩, i64_bd hk⟩
 match cs, hl4 with
 | [d0, d1, d2, d3], _ =>
  simp only [List.drop_zero, List.take_succ_cons, List.take_zero, List.drop_succ_cons, List.cons.injEq, and_true] at e0 e1 e2 e3
  rw [e0, e1, e2, e3]
  rfl
theorem boxes_of {n : Nat} {cs : List Value} {y : DataW H × List MemPlace} (h : DataW.trod enc Tryz.prog w base spare held n 45 cs = some y) : ∃ (A : Option Addr) (cp : Nat) (l : List Bx), cs = [.slice A l.length cp] ∧ Bxs w (fun _ => True) A l ∧ l.length ≤ maxLen ∧ l.length ≤ cp ∧ ∀ x ∈ l, LimB x ∧ I64 x.k := by
 rcases DataW.trod_slice Tryz.underlying45 h with ⟨rfl, _⟩ | ⟨a, len, cap, elems, rest, m, _, rfl, _, hb, hl, hm, hlen, hel, _, _⟩
 ·exact ⟨none, 0, [], rfl, Bxs.nil, by simp, by simp, by simp⟩
 ·have hc : Tryz.prog.cellsOf 61 = 4 := by kernel_rfl
  rw [hc] at hel
  have each : ∀ i, i < len → ∃ g : Bx × List Value, w.cells? base (a.add (i * 4)) 4 = some g.2 ∧ (∃ A1 c1 A2 c2 A3 c3, g.2 = g.1.cs A1 c1 A2 c2 A3 c3 ∧ BoxP w (fun _ => True) g.1 A1 c1 A2 c2 A3 c3) ∧ LimB g.1 ∧ I64 g.1.k := by
   intro i hi
   have h1 := hel i hi
   rw [List.getElem?_eq_getElem (by omega), Option.bind_eq_some_iff] at h1
   obtain ⟨cs', hcs, hy⟩ := h1
   obtain ⟨b, A1, c1, A2, c2, A3, c3, rfl, h3, h4, h5⟩ := box_of hy
   exact ⟨(b, _), hcs, ⟨A1, c1, A2, c2, A3, c3, rfl, h3⟩, h4, h5⟩
  obtain ⟨l, h1, h2⟩ := list_of len each
  have hat : ∀ i, i < len → ∃ g, l[i]? = some g := fun i hi => ⟨_, List.getElem?_eq_getElem (show i < l.length by omega)⟩
  obtain ⟨vs, hr, hv⟩ := reads_of (f := fun i => ((l[i]?).getD (⟨0, [], [], []⟩, [])).2) (size := 4) (len := len) (a := a) (w := w) (base := base) (by omega) (fun i hi => by
   obtain ⟨g, hg⟩ := hat i hi
   rw [hg]
   exact (h2 i g hg).1)
  refine ⟨some a, cap, l.map (·.1), by simp [h1], ⟨vs, by rw [List.length_map, h1]; exact hr, fun i x hx => ?_⟩, by simp; omega, by simp; omega, fun x hx => ?_⟩
  ·rw [List.getElem?_map] at hx
   obtain ⟨g, hg, rfl⟩ := Option.map_eq_some_iff.1 hx
   have hi : i < len := by have := (List.getElem?_eq_some_iff.1 hg).1; omega
   obtain ⟨_, ⟨A1, c1, A2, c2, A3, c3, e, hp⟩, _⟩ := h2 i g hg
   refine ⟨A1, c1, A2, c2, A3, c3, hp, fun j hj => ?_⟩
   rw [hv i hi j hj, hg, ← e]
   rfl
  ·obtain ⟨g, hg, rfl⟩ := List.mem_map.1 hx
   obtain ⟨i, hi⟩ := List.mem_iff_getElem?.1 hg
   exact (h2 i g hi).2.2
end
theorem four_of {L : List Value} (h : L.length = 4) : ∃ a b c d, L = [a, b, c, d] := by
 match L, h with
 | [a, b, c, d], _ => exact ⟨a, b, c, d, rfl⟩
theorem open_choice {H : Type} {enc : TypeId × Value → H} {w : World} {r : Reach} {b0 : Nat} {v : Value} {d : DataW H} {p : List MemPlace} (hv : Value.okWide Tryz.prog w r b0 42 v) (h : DataW.Trod enc Tryz.prog w 0 (fun _ => true) true 42 v d p) :
 ∃ (x : Ch) (A : Option Addr) (c : Nat), v = .agg #[.int .i64 x.k, .int .i64 x.r, .slice A x.m.length c, .int .i64 x.s] ∧ InB w (fun _ => True) A x.m ∧ x.m.length ≤ maxLen ∧ x.m.length ≤ c ∧ I64 x.r ∧ I64 x.s := by
 obtain ⟨cs, rfl, hsz⟩ := okWide_struct Tryz.underlying42 hv
 obtain ⟨fuel, hf⟩ := h
 obtain ⟨xs, n, _, _, hcl, hlen, hg⟩ := DataW.trod_struct Tryz.underlying42 hf
 have hcs : (Value.agg cs).cells.toList = cs.toList := rfl
 rw [hcs] at hg hcl
 have hs4 : cs.size = 4 := hsz.trans (by kernel_rfl)
 obtain ⟨ys, m, hyl, hy⟩ := part_struct hg hlen 0 0 3 _ ((show _ = some ((0 : Nat), (3 : Nat), Tryz.prog.underlying 40) by kernel_rfl).trans (congrArg (fun d => some ((0 : Nat), (3 : Nat), d)) Tryz.underlying40))
 obtain ⟨k, e0, _⟩ := part_int hy hyl 0 0 1 .i64 (by kernel_rfl)
 obtain ⟨rt, e1, h1⟩ := part_int hy hyl 1 1 1 .i64 (by kernel_rfl)
 obtain ⟨y2, t2⟩ := part_any hy hyl 2 2 1 38 (by kernel_rfl)
 obtain ⟨A, cp, ms, e2, hi, hm, hc⟩ := ints_of t2
 obtain ⟨s, e3, h3⟩ := part_int hg hlen 1 3 1 .i64 (by kernel_rfl)
 refine ⟨⟨k, rt, ms, s⟩, A, cp, congrArg Value.agg ?_, hi, hm, hc, i64_bd h1, i64_bd h3⟩
 apply Array.ext'
 obtain ⟨d0, d1, d2, d3, hL⟩ := four_of (L := cs.toList) (by rw [Array.length_toList]; exact hs4)
 simp only [hL, List.drop_zero, List.take_succ_cons, List.take_zero, List.drop_succ_cons, List.cons.injEq, and_true] at e0 e1 e2 e3
 rw [hL, e0, e1, e2, e3]
end Go.Proofs.YtjbkjgmcfommgaaGreat

namespace Go.Proofs.YtjbkjgmcfommgaaGreat
open Go.RowKit
def LimP (p : Pt) : Prop := p.b.length ≤ 9223372036854775807 ∧ ∀ b ∈ p.b, LimB b ∧ I64 b.k
def KeptP (p : Pt) : Prop := p.b.length ≤ 9 ∧ ∀ b ∈ p.b, KeptB b
set_option maxHeartbeats 16000000 in
theorem kports_any {base : Nat → Prop} {A : Option Addr} {c : Nat} {l : List Pt} {w : World} (h : Pts w base A l) (hl : l.length ≤ 9223372036854775807) (ho : ∀ p ∈ l, LimP p) :
 Calls Tryz.prog 7 #[.slice A l.length c] w fun e w' => ((e = .returned (.bool true) ∧ l.length ≤ 18 ∧ ∀ p ∈ l, KeptP p) ∨ e = .returned (.bool false)) ∧ Grows w w' := by
 have HO := Lib.hid ho
 clear ho
 have hB := Below.refl w.heap.size w
 go_enter Tryz.func7, Tryz.ntmps7
 go_wp2_with fail
 go_loopw [7] (fun i wr => ∃ k : Nat, k ≤ l.length ∧ i = .int .i64 k ∧ Hid (∀ y ∈ l.take k, KeptP y) ∧ Below w.heap.size w wr) (fun i _ => l.length - (intOf i).toNat)
 case atStart => exact ⟨0, by omega, rfl, Lib.hid (by simp), hB⟩
 case round =>
  clear hB
  obtain ⟨k, hk, rfl, HA, hB⟩ := hrel
  by_cases hlt : k < l.length
  ·obtain ⟨ad, p, B, cp, ea, had, hp, hbx, -, q0, q1⟩ := h.elem hB hlt
   subst ea
   have HP := Lib.hid hp
   have hlp := HO.out p (List.mem_of_getElem? hp)
   have HLP := Lib.hid hlp
   clear hp hlp
   have k8 := Blk.new wr 47 #[.slice B p.b.length cp, .int .i64 p.v]
   have hq := (Below.refl wr.heap.size wr).alloc (Nat.le_refl _) (Obj.cells #[.slice B p.b.length cp, .int .i64 p.v] 47)
   go_upto_region 4 with fail
   replace hB := below_grows hB (Nat.le_refl _) hq
   clear hq q0 q1
   generalize World.alloc wr _ = w5 at *
   generalize wr.heap.size = G8 at *
   have x8 := k8.cell
   go_wp2_with fail
   refine (kboxes_any (c := cp) 9 (by omega) (z := 9) rfl (hbx.grows hB) HLP.out.1 (fun b hb => (HLP.out.2 b hb).1)).mono ?_
   rintro e w6 ⟨hk9, hq⟩
   replace hB := below_grows hB (Nat.le_refl _) hq
   clear x8 k8 hq
   rcases hk9 with ⟨rfl, h9, hkb⟩ | rfl
   ·have HA2 : Hid (∀ y ∈ l.take (k + 1), KeptP y) := Lib.hid (by
     rw [take_snoc HP.out]
     intro y hy
     rcases List.mem_append.1 hy with hy | hy
     ·exact HA.out y hy
     ·simp only [List.mem_singleton] at hy
      subst hy
      exact ⟨h9, hkb⟩)
    clear h9 hkb
    go_wp2
    go_roundw
    case rel => exact ⟨k + 1, by omega, by go_num, HA2, hB⟩
    case measure => simp [intOf]; omega
   ·go_wp2
    go_ret
    exact ⟨.inr rfl, hB⟩
  ·have hall : ∀ p ∈ l, KeptP p := by have := HA.out; rwa [List.take_of_length_le (by omega)] at this
   by_cases h18 : l.length ≤ 18
   ·have d1 : decide ((l.length : Int) ≤ 18) = true := by simp only [decide_eq_true_eq]; omega
    have d2 : decide (l.length ≤ 18) = true := decide_eq_true h18
    go_wp2
    go_ret
    exact ⟨.inl ⟨by first | rfl | simp [d1, d2, h18], h18, hall⟩, hB⟩
   ·have d1 : decide ((l.length : Int) ≤ 18) = false := by simp only [decide_eq_false_iff_not]; omega
    have d2 : decide (l.length ≤ 18) = false := decide_eq_false h18
    go_wp2
    go_ret
    exact ⟨.inr (by first | rfl | simp [d1, d2, h18]), hB⟩
end Go.Proofs.YtjbkjgmcfommgaaGreat

namespace Go.Proofs.YtjbkjgmcfommgaaGreat
open Go.ChangeShapes Go.WideShapes Go.RowKit Go.Deep
set_option maxRecDepth 100000
section
variable {H : Type} {enc : TypeId × Value → H} {w : World} {base : Nat} {spare : Nat → Bool} {held : Bool}
theorem port_of {n : Nat} {cs : List Value} {y : DataW H × List MemPlace} (h : DataW.trod enc Tryz.prog w base spare held n 47 cs = some y) : ∃ (p : Pt) (B : Option Addr) (c : Nat), cs = ptC p B c ∧ Bxs w (fun _ => True) B p.b ∧ p.b.length ≤ c ∧ LimP p := by
 obtain ⟨xs, m, _, _, hl, hlen, hg⟩ := DataW.trod_struct Tryz.underlying47 h
 obtain ⟨y0, t0⟩ := part_any hg hlen 0 0 1 45 (by kernel_rfl)
 obtain ⟨v, e1, _⟩ := part_int hg hlen 1 1 1 .i64 (by kernel_rfl)
 obtain ⟨B, c, b, e0, hb, hm, hc, hx⟩ := boxes_of t0
 have hl2 : cs.length = 2 := hl.trans (by kernel_rfl)
 refine ⟨⟨b, v⟩, B, c, ?_, hb, hc, hm, hx⟩
 match cs, hl2 with
 | [d0, d1], _ =>
  simp only [List.drop_zero, List.take_succ_cons, List.take_zero, List.drop_succ_cons, List.cons.injEq, and_true] at e0 e1
  rw [e0, e1]
  rfl
theorem ports_of {n : Nat} {cs : List Value} {y : DataW H × List MemPlace} (h : DataW.trod enc Tryz.prog w base spare held n 22 cs = some y) : ∃ (A : Option Addr) (cp : Nat) (l : List Pt), cs = [.slice A l.length cp] ∧ Pts w (fun _ => True) A l ∧ l.length ≤ maxLen ∧ l.length ≤ cp ∧ ∀ p ∈ l, LimP p := by
 rcases DataW.trod_slice Tryz.underlying22 h with ⟨rfl, _⟩ | ⟨a, len, cap, elems, rest, m, _, rfl, _, hb, hl, hm, hlen, hel, _, _⟩
 ·exact ⟨none, 0, [], rfl, Pts.nil, by simp, by simp, by simp⟩
 ·have hc : Tryz.prog.cellsOf 47 = 2 := by kernel_rfl
  rw [hc] at hel
  have each : ∀ i, i < len → ∃ g : Pt × List Value, w.cells? base (a.add (i * 2)) 2 = some g.2 ∧ (∃ B c, g.2 = ptC g.1 B c ∧ Bxs w (fun _ => True) B g.1.b ∧ g.1.b.length ≤ c) ∧ LimP g.1 := by
   intro i hi
   have h1 := hel i hi
   rw [List.getElem?_eq_getElem (by omega), Option.bind_eq_some_iff] at h1
   obtain ⟨cs', hcs, hy⟩ := h1
   obtain ⟨p, B, c, rfl, h3, h4, h5⟩ := port_of hy
   exact ⟨(p, _), hcs, ⟨B, c, rfl, h3, h4⟩, h5⟩
  obtain ⟨l, h1, h2⟩ := list_of len each
  have hat : ∀ i, i < len → ∃ g, l[i]? = some g := fun i hi => ⟨_, List.getElem?_eq_getElem (show i < l.length by omega)⟩
  obtain ⟨vs, hr, hv⟩ := reads_of (f := fun i => ((l[i]?).getD (noPt, [])).2) (size := 2) (len := len) (a := a) (w := w) (base := base) (by omega) (fun i hi => by
   obtain ⟨g, hg⟩ := hat i hi
   rw [hg]
   exact (h2 i g hg).1)
  refine ⟨some a, cap, l.map (·.1), by simp [h1], ⟨vs, by rw [List.length_map, h1]; exact hr, fun i x hx => ?_⟩, by simp; omega, by simp; omega, fun x hx => ?_⟩
  ·rw [List.getElem?_map] at hx
   obtain ⟨g, hg, rfl⟩ := Option.map_eq_some_iff.1 hx
   have hi : i < len := by have := (List.getElem?_eq_some_iff.1 hg).1; omega
   obtain ⟨_, ⟨B, c, e, hb2, hc2⟩, _⟩ := h2 i g hg
   have k0 := hv i hi 0 (by omega)
   have k1 := hv i hi 1 (by omega)
   rw [hg] at k0 k1
   refine ⟨B, c, hb2, hc2, ?_, ?_⟩
   ·rw [Nat.add_zero] at k0
    rw [k0]
    show g.2[0]? = _
    rw [e]
    rfl
   ·rw [k1]
    show g.2[1]? = _
    rw [e]
    rfl
  ·obtain ⟨g, hg, rfl⟩ := List.mem_map.1 hx
   obtain ⟨i, hi⟩ := List.mem_iff_getElem?.1 hg
   exact (h2 i g hi).2.2
theorem choice_of {n : Nat} {cs : List Value} {y : DataW H × List MemPlace} (h : DataW.trod enc Tryz.prog w base spare held n 42 cs = some y) : ∃ (x : Ch) (A : Option Addr) (c : Nat), cs = chC x A c ∧ InB w (fun _ => True) A x.m ∧ x.m.length ≤ maxLen ∧ x.m.length ≤ c ∧ I64 x.r ∧ I64 x.s := by
 obtain ⟨xs, n, _, _, hcl, hlen, hg⟩ := DataW.trod_struct Tryz.underlying42 h
 have hs4 : cs.length = 4 := hcl.trans (by kernel_rfl)
 obtain ⟨ys, m, hyl, hy⟩ := part_struct hg hlen 0 0 3 _ ((show _ = some ((0 : Nat), (3 : Nat), Tryz.prog.underlying 40) by kernel_rfl).trans (congrArg (fun d => some ((0 : Nat), (3 : Nat), d)) Tryz.underlying40))
 obtain ⟨k, e0, _⟩ := part_int hy hyl 0 0 1 .i64 (by kernel_rfl)
 obtain ⟨rt, e1, h1⟩ := part_int hy hyl 1 1 1 .i64 (by kernel_rfl)
 obtain ⟨y2, t2⟩ := part_any hy hyl 2 2 1 38 (by kernel_rfl)
 obtain ⟨A, cp, ms, e2, hi, hm, hc⟩ := ints_of t2
 obtain ⟨s, e3, h3⟩ := part_int hg hlen 1 3 1 .i64 (by kernel_rfl)
 refine ⟨⟨k, rt, ms, s⟩, A, cp, ?_, hi, hm, hc, i64_bd h1, i64_bd h3⟩
 obtain ⟨d0, d1, d2, d3, rfl⟩ := four_of hs4
 simp only [List.drop_zero, List.take_succ_cons, List.take_zero, List.drop_succ_cons, List.cons.injEq, and_true] at e0 e1 e2 e3
 rw [e0, e1, e2, e3]
 rfl
def LimC (x : Ch) : Prop := x.m.length ≤ 9223372036854775807 ∧ I64 x.r ∧ I64 x.s
theorem choices_of {n : Nat} {cs : List Value} {y : DataW H × List MemPlace} (h : DataW.trod enc Tryz.prog w base spare held n 43 cs = some y) : ∃ (A : Option Addr) (cp : Nat) (l : List Ch), cs = [.slice A l.length cp] ∧ Chs w (fun _ => True) A l ∧ l.length ≤ maxLen ∧ l.length ≤ cp ∧ ∀ x ∈ l, LimC x := by
 rcases DataW.trod_slice Tryz.underlying43 h with ⟨rfl, _⟩ | ⟨a, len, cap, elems, rest, m, _, rfl, _, hb, hl, hm, hlen, hel, _, _⟩
 ·exact ⟨none, 0, [], rfl, Chs.nil, by simp, by simp, by simp⟩
 ·have hc : Tryz.prog.cellsOf 42 = 4 := by kernel_rfl
  rw [hc] at hel
  have each : ∀ i, i < len → ∃ g : Ch × List Value, w.cells? base (a.add (i * 4)) 4 = some g.2 ∧ (∃ B c, g.2 = chC g.1 B c ∧ InB w (fun _ => True) B g.1.m ∧ g.1.m.length ≤ c) ∧ LimC g.1 := by
   intro i hi
   have h1 := hel i hi
   rw [List.getElem?_eq_getElem (by omega), Option.bind_eq_some_iff] at h1
   obtain ⟨cs', hcs, hy⟩ := h1
   obtain ⟨p, B, c, rfl, h3, h4, h5, h6, h7⟩ := choice_of hy
   exact ⟨(p, _), hcs, ⟨B, c, rfl, h3, h5⟩, h4, h6, h7⟩
  obtain ⟨l, h1, h2⟩ := list_of len each
  have hat : ∀ i, i < len → ∃ g, l[i]? = some g := fun i hi => ⟨_, List.getElem?_eq_getElem (show i < l.length by omega)⟩
  obtain ⟨vs, hr, hv⟩ := reads_of (f := fun i => ((l[i]?).getD (zeroC, [])).2) (size := 4) (len := len) (a := a) (w := w) (base := base) (by omega) (fun i hi => by
   obtain ⟨g, hg⟩ := hat i hi
   rw [hg]
   exact (h2 i g hg).1)
  refine ⟨some a, cap, l.map (·.1), by simp [h1], ⟨vs, by rw [List.length_map, h1]; exact hr, fun i x hx => ?_⟩, by simp; omega, by simp; omega, fun x hx => ?_⟩
  ·rw [List.getElem?_map] at hx
   obtain ⟨g, hg, rfl⟩ := Option.map_eq_some_iff.1 hx
   have hi : i < len := by have := (List.getElem?_eq_some_iff.1 hg).1; omega
   obtain ⟨_, ⟨B, c, e, hb2, hc2⟩, _⟩ := h2 i g hg
   refine ⟨B, c, hb2, hc2, fun j hj => ?_⟩
   rw [hv i hi j hj, hg]
   show g.2[j]? = _
   rw [e]
  ·obtain ⟨g, hg, rfl⟩ := List.mem_map.1 hx
   obtain ⟨i, hi⟩ := List.mem_iff_getElem?.1 hg
   exact (h2 i g hi).2.2
end
theorem open_ports {H : Type} {enc : TypeId × Value → H} {w : World} {r : Reach} {b0 : Nat} {v : Value} {d : DataW H} {p : List MemPlace} (hv : Value.okWide Tryz.prog w r b0 22 v) (h : DataW.Trod enc Tryz.prog w 0 (fun _ => true) true 22 v d p) :
 ∃ (A : Option Addr) (c : Nat) (l : List Pt), v = .slice A l.length c ∧ Pts w (fun _ => True) A l ∧ l.length ≤ maxLen ∧ l.length ≤ c ∧ ∀ p ∈ l, LimP p := by
 obtain ⟨a0, len, cap, rfl⟩ := okWide_slice Tryz.underlying22 hv
 obtain ⟨fuel, hf⟩ := h
 obtain ⟨A, cp, l, e, hs, hm, hc, hx⟩ := ports_of hf
 have e2 : (Value.slice a0 len cap).cells.toList = [.slice a0 len cap] := rfl
 rw [e2] at e
 injection e with e
 exact ⟨A, cp, l, e, hs, hm, hc, hx⟩
theorem open_choices {H : Type} {enc : TypeId × Value → H} {w : World} {r : Reach} {b0 : Nat} {v : Value} {d : DataW H} {p : List MemPlace} (hv : Value.okWide Tryz.prog w r b0 43 v) (h : DataW.Trod enc Tryz.prog w 0 (fun _ => true) true 43 v d p) :
 ∃ (A : Option Addr) (c : Nat) (l : List Ch), v = .slice A l.length c ∧ Chs w (fun _ => True) A l ∧ l.length ≤ maxLen ∧ l.length ≤ c ∧ ∀ x ∈ l, LimC x := by
 obtain ⟨a0, len, cap, rfl⟩ := okWide_slice Tryz.underlying43 hv
 obtain ⟨fuel, hf⟩ := h
 obtain ⟨A, cp, l, e, hs, hm, hc, hx⟩ := choices_of hf
 have e2 : (Value.slice a0 len cap).cells.toList = [.slice a0 len cap] := rfl
 rw [e2] at e
 injection e with e
 exact ⟨A, cp, l, e, hs, hm, hc, hx⟩
theorem keptP_oks {p : Pt} (h : KeptP p) (hl : LimP p) : (∀ b ∈ p.b, OKB b ∧ I64 b.k) ∧ p.b.length ≤ 1000000 := ⟨fun b hb => ⟨(h.2 b hb).okb, (hl.2 b hb).2⟩, by have := h.1; omega⟩
end Go.Proofs.YtjbkjgmcfommgaaGreat

namespace Go.Proofs.YtjbkjgmcfommgaaGreat
open Go.RowKit
set_option maxHeartbeats 16000000 in
set_option maxRecDepth 10000 in
theorem samechs_eq {ba bb : Nat → Prop} {A B : Option Addr} {c d n m : Nat} {l : List Ch} {w : World} (hn : n = l.length) (hm : m = l.length) (ha : Chs w ba A l) (hb : Chs w bb B l) (hl : l.length ≤ 1000000) (ho : ∀ x ∈ l, x.m.length ≤ 1000000) :
 Calls Tryz.prog 18 #[.slice A n c, .slice B m d] w fun e w' => e = .returned (.bool true) ∧ Grows w w' := by
 subst hn hm
 have HO := Lib.hid ho
 clear ho
 have hB := Below.refl w.heap.size w
 go_enter Tryz.func18, Tryz.ntmps18
 go_wp2_with fail
 go_loopw [13] (fun i wr => ∃ k : Nat, k ≤ l.length ∧ i = .int .i64 k ∧ Below w.heap.size w wr) (fun i _ => l.length - (intOf i).toNat)
 case atStart => exact ⟨0, by omega, rfl, hB⟩
 case round =>
  clear hB
  obtain ⟨k, hk, rfl, hB⟩ := hrel
  by_cases hlt : k < l.length
  ·obtain ⟨ad, x, B1, d1, ea, had, hx, -, hi1, hcx⟩ := ha.elem hB hlt
   subst ea
   obtain ⟨ad2, y, B2, d2, eb, had2, hy, -, hi2, hcy⟩ := hb.elem hB hlt
   subst eb
   obtain rfl : x = y := Option.some.inj (hx.symm.trans hy)
   have c1_ : (0 : Int) ≤ (k : Int) := by omega
   have c2_ : (k : Int) < (l.length : Int) := by omega
   have hox := HO.out x (List.mem_of_getElem? hx)
   have HC : Hid (∀ w0, Grows wr w0 → Calls Tryz.prog 22 #[.agg #[.int .i64 x.k, .int .i64 x.r, .slice B1 x.m.length d1, .int .i64 x.s], .agg #[.int .i64 x.k, .int .i64 x.r, .slice B2 x.m.length d2, .int .i64 x.s]] w0 fun e w' => e = .returned (.bool true) ∧ Grows w0 w') := Lib.hid (fun w0 h => by
    have := samec_any (w := w0) (c := d1) (d := d2) (a := x) (b := x) (InB.ints ((hi1.grows hB).grows h)) (InB.ints ((hi2.grows hB).grows h)) hox hox
    rwa [decide_eq_true rfl] at this)
   have had3 : (ad.add (k * 4)).block < wr.heap.size := by rw [block_of_add]; exact had
   have had4 : (ad2.add (k * 4)).block < wr.heap.size := by rw [block_of_add]; exact had2
   clear hx hy
   go_upto_region 6 with fail
   refine wp_region_mix (fun w' => Grows wr w') [] 10 27 (by kernel_rfl) (by kernel_rfl) rfl ?_ float_none ?_ ?_
   ·exact fun w1 w2 h0 hg => below_grows h0 (Nat.le_refl _) hg
   ·exact Grows.drew' _
   ·skip
    simp only [List.take_succ_cons, List.take_zero, List.drop_succ_cons, List.drop_zero]
    iterate 10
     refine calm_plain rfl rfl (v := ?_) (a' := ?_) (fun w1 hw1 => ?_) ?_ ?_
     rotate_left 2
     ·have h0 := hw1
      obtain ⟨x0, x1, x2, x3⟩ := hcx.grows h0 had3
      obtain ⟨y0, y1, y2, y3⟩ := hcy.grows h0 had4
      go_simp
      first | exact calm_val | (refine calm_call ?_; with_reducible exact HC.out _ h0)
     ·simp only [Act.put, List.setIfInBounds_toArray, List.set_cons_succ, List.set_cons_zero]
      rfl
    refine calm_done (end_none ?_)
    intro wq hgw
    replace hB := below_grows hB (Nat.le_refl _) hgw
    go_wp2
    go_roundw
    case rel => exact ⟨k + 1, by omega, by go_num, hB⟩
    case measure => simp [intOf]; omega
  ·go_wp2
   go_ret
   exact ⟨rfl, hB⟩
end Go.Proofs.YtjbkjgmcfommgaaGreat

namespace Go.Proofs.YtjbkjgmcfommgaaGreat
open Go.RowKit
structure GQ where
 P : (Nat → Prop) → World → Value → Prop
 grows : ∀ {ok : Nat → Prop} {w w' : World} {v : Value}, P ok w v → Grows w w' → P ok w' v
 mono : ∀ {ok ok2 : Nat → Prop} {w : World} {v : Value}, P ok w v → (∀ k, ok k → ok2 k) → P ok2 w v
 bd : ∀ {ok : Nat → Prop} {w : World} {v : Value}, P ok w v → P (Bd ok w.heap.size) w v
/-- Not the block that operation al made. -/
def avoid (al : Nat) (L : Ran) (vs : Nat → Value) : Nat → Prop := fun k => L al = true → vs al ≠ .pointer (some ⟨k, 0, none⟩)
def DsQ (ok0 : Nat → Prop) (DS : List (Option GQ)) (al : Nat) (L : Ran) (vs : Nat → Value) (w : World) : Prop := ∀ j G, DS[j]? = some (some G) → L j = true → G.P (fun k => ok0 k ∧ avoid al L vs k) w (vs j)
section
variable {ok0 : Nat → Prop} {DS : List (Option GQ)} {al k : Nat} {L : Ran} {vs : Nat → Value} {w w' : World} {u : Value}
theorem dq_none (ok0 : Nat → Prop) (DS : List (Option GQ)) (al : Nat) (vs : Nat → Value) (w : World) : DsQ ok0 DS al (fun _ => false) vs w := fun _ _ _ h => by cases h
theorem DsQ.grows (h : DsQ ok0 DS al L vs w) (hg : Grows w w') : DsQ ok0 DS al L vs w' := fun j G hj hL => G.grows (h j G hj hL) hg
theorem avoid_keep (hne : k ≠ al) : avoid al (upd L k) (setV vs k u) = avoid al L vs := by
 funext q
 unfold avoid upd setV
 rw [if_neg (Ne.symm hne), if_neg (Ne.symm hne)]
theorem dq_free (h : DsQ ok0 DS al L vs w) (hk : DS[k]? = some none) (hne : k ≠ al) : DsQ ok0 DS al (upd L k) (setV vs k u) w := by
 intro j G hj hL
 rw [avoid_keep hne]
 by_cases e : j = k
 ·subst e
  rw [hk] at hj
  injection hj with hj
  cases hj
 ·unfold upd at hL
  rw [if_neg e] at hL
  unfold setV
  rw [if_neg e]
  exact h j G hj hL
theorem dq_put {G : GQ} (h : DsQ ok0 DS al L vs w) (hk : DS[k]? = some (some G)) (hne : k ≠ al) (hP : G.P (fun k => ok0 k ∧ avoid al L vs k) w u) : DsQ ok0 DS al (upd L k) (setV vs k u) w := by
 intro j G' hj hL
 rw [avoid_keep hne]
 by_cases e : j = k
 ·subst e
  rw [hk] at hj
  injection hj with hj
  injection hj with hj
  subst hj
  unfold setV
  rw [if_pos rfl]
  exact hP
 ·unfold upd at hL
  rw [if_neg e] at hL
  unfold setV
  rw [if_neg e]
  exact h j G' hj hL
theorem dq_alloc (h : DsQ ok0 DS al L vs w) (hk : DS[al]? = some none) (hg : Grows w w') : DsQ ok0 DS al (upd L al) (setV vs al (.pointer (some ⟨w.heap.size, 0, none⟩))) w' := by
 intro j G hj hL
 by_cases e : j = al
 ·subst e
  rw [hk] at hj
  injection hj with hj
  cases hj
 ·unfold upd at hL
  rw [if_neg e] at hL
  have e2 : setV vs al (.pointer (some ⟨w.heap.size, 0, none⟩)) j = vs j := by unfold setV; rw [if_neg e]
  rw [e2]
  refine G.grows (G.mono (G.bd (h j G hj hL)) fun q hq => ?_) hg
  refine ⟨hq.1.1, ?_⟩
  intro _ e3
  unfold setV at e3
  rw [if_pos rfl] at e3
  injection e3 with e3
  injection e3 with e3
  injection e3 with e3
  have := hq.2
  omega
/-- Something new keeps apart from a block that is there. -/
theorem avoid_new {b : World} (h : L al = true → ∃ q, vs al = .pointer (some ⟨q, 0, none⟩) ∧ q < b.heap.size) : ∀ k, b.heap.size ≤ k → avoid al L vs k := by
 intro k hk hl e
 obtain ⟨q, e2, hq⟩ := h hl
 rw [e] at e2
 injection e2 with e2
 injection e2 with e2
 injection e2 with e2
 omega
end
theorem At.all2 {md : Region.Mode} {ops : Array Oper} {i : Nat} {L : Ran} (h : At md ops i L) (n g g2 : Nat) (hk : (((List.range n).filter (fun j => j != g && j != g2)).all fun j => (needs md ops 4 i).contains j) = true) : ∀ j, j < n → j ≠ g → j ≠ g2 → L j = true := fun j h1 h2 h3 => h.need j (List.all_eq_true.1 hk j (List.mem_filter.2 ⟨List.mem_range.2 h1, by simp [h2, h3]⟩))
/-- The block of operation al, not yet filled. -/
def AlQ (al base : Nat) (t : TypeId) (zs : Array Value) (L : Ran) (vs : Nat → Value) (w : World) : Prop := L al = true → ∃ q, vs al = .pointer (some ⟨q, 0, none⟩) ∧ base ≤ q ∧ Blk w q t zs
section
variable {al base k : Nat} {t : TypeId} {zs : Array Value} {L : Ran} {vs : Nat → Value} {w w' : World} {u : Value}
theorem alq_none : AlQ al base t zs (fun _ => false) vs w := fun h => by cases h
theorem AlQ.grows (h : AlQ al base t zs L vs w) (hg : Grows w w') : AlQ al base t zs L vs w' := fun hl => by obtain ⟨q, e, hb, hk⟩ := h hl; exact ⟨q, e, hb, hk.grows hg⟩
theorem alq_keep (h : AlQ al base t zs L vs w) (hne : k ≠ al) : AlQ al base t zs (upd L k) (setV vs k u) w := by
 intro hl
 unfold upd at hl
 rw [if_neg (Ne.symm hne)] at hl
 unfold setV
 rw [if_neg (Ne.symm hne)]
 exact h hl
theorem alq_new (hb : base ≤ w.heap.size) : AlQ al base t zs (upd L al) (setV vs al (.pointer (some ⟨w.heap.size, 0, none⟩))) (w.alloc (.cells zs t)) := by
 intro _
 refine ⟨w.heap.size, ?_, hb, Blk.new _ _ _⟩
 unfold setV
 rw [if_pos rfl]
theorem AlQ.lt (h : AlQ al base t zs L vs w) : L al = true → ∃ q, vs al = .pointer (some ⟨q, 0, none⟩) ∧ q < w.heap.size := fun hl => by obtain ⟨q, e, _, hk⟩ := h hl; exact ⟨q, e, hk.lt⟩
end
/-- A cell that is written with what it holds. -/
theorem setCell_same {w : World} {g i : Nat} {t : TypeId} {cs : Array Value} {v : Value} (h : Blk w g t cs) (hi : cs[i]? = some v) : w.setCell ⟨g, i, none⟩ v = w := by
 have hc : cs.setIfInBounds i v = cs := by
  refine Array.ext_getElem? fun j => ?_
  rw [Array.getElem?_setIfInBounds]
  split
  ·rename_i e
   subst e
   rw [hi]
   split
   ·rfl
   ·rename_i hlt
    rw [Array.getElem?_eq_none (by omega)] at hi
    cases hi
  ·rfl
 have hh : (w.setCell ⟨g, i, none⟩ v).heap = w.heap := by
  refine Array.ext_getElem? fun j => ?_
  by_cases e : j = g
  ·subst e
   have h2 := h.set_ i v
   rw [hc] at h2
   exact h2.trans h.symm
  ·exact Below.heap_setCell w ⟨g, i, none⟩ v j e
 show { w with heap := (w.setCell ⟨g, i, none⟩ v).heap } = w
 rw [hh]
def QBox (z : Bx) : GQ := ⟨fun ok w v => BoxV w ok z v, fun h hg => h.grows hg, fun h hk => by obtain ⟨A1, c1, A2, c2, A3, c3, e, hp⟩ := h; exact ⟨A1, c1, A2, c2, A3, c3, e, hp.mono hk⟩, fun h => by obtain ⟨A1, c1, A2, c2, A3, c3, e, hp⟩ := h; exact ⟨A1, c1, A2, c2, A3, c3, e, hp.bd⟩⟩
def QSet (l : List Sp) : GQ := ⟨fun ok w v => ∃ A c, v = .agg #[.slice A l.length c] ∧ l.length ≤ c ∧ SpB w ok A l, fun h hg => by obtain ⟨A, c, e, hc, hx⟩ := h; exact ⟨A, c, e, hc, hx.grows hg⟩, fun h hk => by obtain ⟨A, c, e, hc, hx⟩ := h; exact ⟨A, c, e, hc, RdB.mono hx hk⟩, fun h => by obtain ⟨A, c, e, hc, hx⟩ := h; exact ⟨A, c, e, hc, RdB.bd hx⟩⟩
def QMaps (m : List (List Int)) : GQ := ⟨fun ok w v => ∃ A c, v = .slice A m.length c ∧ m.length ≤ c ∧ MapsR w ok A m, fun h hg => by obtain ⟨A, c, e, hc, hx⟩ := h; exact ⟨A, c, e, hc, hx.grows hg⟩, fun h hk => by obtain ⟨A, c, e, hc, hx⟩ := h; exact ⟨A, c, e, hc, hx.mono hk⟩, fun h => by obtain ⟨A, c, e, hc, hx⟩ := h; exact ⟨A, c, e, hc, hx.bd⟩⟩
def QDim (z : Bx) (s m : Bool) : GQ := ⟨fun ok w v => ∃ u, v = .tuple #[u, .bool s, .bool m] ∧ BoxV w ok z u, fun h hg => by obtain ⟨u, e, hx⟩ := h; exact ⟨u, e, hx.grows hg⟩, fun h hk => by obtain ⟨u, e, A1, c1, A2, c2, A3, c3, e2, hp⟩ := h; exact ⟨u, e, A1, c1, A2, c2, A3, c3, e2, hp.mono hk⟩, fun h => by obtain ⟨u, e, A1, c1, A2, c2, A3, c3, e2, hp⟩ := h; exact ⟨u, e, A1, c1, A2, c2, A3, c3, e2, hp.bd⟩⟩
/-- A best choice, whose map lies where ok allows. -/
def PsBestO (ok : Nat → Prop) (x : Ch) (o : Bool) : GP := ⟨fun w v => ∃ A c, v = .tuple #[.agg #[.int .i64 x.k, .int .i64 x.r, .slice A x.m.length c, .int .i64 x.s], .bool o] ∧ x.m.length ≤ c ∧ InB w ok A x.m, fun w w' v h hg => by obtain ⟨A, c, e, hc, hx⟩ := h; exact ⟨A, c, e, hc, hx.grows hg⟩⟩
def PsChO (ok : Nat → Prop) (x : Ch) : GP := ⟨fun w v => ∃ A c, v = .agg #[.int .i64 x.k, .int .i64 x.r, .slice A x.m.length c, .int .i64 x.s] ∧ x.m.length ≤ c ∧ InB w ok A x.m, fun w w' v h hg => by obtain ⟨A, c, e, hc, hx⟩ := h; exact ⟨A, c, e, hc, hx.grows hg⟩⟩
set_option maxHeartbeats 4000000 in
theorem rone_any (r : Int) (w : World) : Calls Tryz.prog 40 #[.int .i64 r] w fun e w' => (∃ A c, e = .returned (.agg #[.slice A 1 c]) ∧ 1 ≤ c ∧ SpB w' (Ge w.heap.size) A [(r, r)]) ∧ Grows w w' := by
 have k2 := Blk.new w 58 #[.slice none 0 0]
 have hB := (Below.refl w.heap.size w).alloc (Nat.le_refl _) (Obj.cells #[.slice none 0 0] 58)
 go_enter Tryz.func40, Tryz.ntmps40
 go_upto_region 1 with fail
 have hs1 : (World.alloc w (Obj.cells #[.slice none 0 0] 58)).heap.size = w.heap.size + 1 := by simp
 generalize World.alloc w _ = w1 at *
 refine wp_region_lit ?_
 iterate 4
  refine wpList_plain rfl (fun K hK => ?_)
  go_simp
  refine hK _ _ ?_
  clear hK K
 have hr := rd_lit w1 (ok := fun k => w.heap.size < k) 86 #[.int .i64 r, .int .i64 r] 2 1 rfl (by omega)
 have hq := (Below.refl w1.heap.size w1).alloc (Nat.le_refl _) (Obj.cells #[.int .i64 r, .int .i64 r] 86)
 replace k2 := k2.grows hq
 replace hB := below_grows hB (Nat.le_refl _) hq
 clear hq
 rw [hs1] at hr
 clear hs1
 generalize World.alloc w1 _ = w2 at *
 have x2 := k2.cell
 have f2 := k2.frozen
 have x3 := (k2.set_ 0 (.slice (some ⟨w.heap.size + 1, 0, none⟩) 1 1)).cell
 have hB3 := hB.setCell (p := ⟨w.heap.size, 0, none⟩) (Nat.le_refl _) (.slice (some ⟨w.heap.size + 1, 0, none⟩) 1 1)
 have hr3 := RdB.grown hr (d_only_set (World.grownBy.refl w2 (some w.heap.size)) 0 (.slice (some ⟨w.heap.size + 1, 0, none⟩) 1 1)) (fun g e hh => by injection e with e; omega)
 clear k2 hB hr
 go_wp2
 generalize World.setCell w2 _ _ = w3 at *
 refine bodyPost_ret (v := .agg #[.slice (some ⟨w.heap.size + 1, 0, none⟩) 1 1]) (by simp [results, Tryz.results40, go_sem, x3]) rfl ?_
 exact ⟨⟨_, 1, rfl, Nat.le_refl _, RdB.mono hr3 (fun k hk => by unfold Ge; omega)⟩, hB3⟩
end Go.Proofs.YtjbkjgmcfommgaaGreat

namespace Go.Proofs.YtjbkjgmcfommgaaGreat
open Go.RowKit
/-- A row of choices of one's own, apart from what its members take. -/
def OwnCq (w : World) (base : Nat) (ok : Nat → Prop) (v : Value) (l : List Ch) : Prop :=
 ∃ vs, w.ownsRow base 42 4 v l.length vs ∧ ∀ (i : Nat) (x : Ch), l[i]? = some x → ∃ B c, InB w (Aq ok v) B x.m ∧ x.m.length ≤ c ∧ ∀ j < 4, vs[i * 4 + j]? = (chC x B c)[j]?
section
variable {w w' : World} {base g : Nat} {ok : Nat → Prop} {v : Value} {l : List Ch}
theorem OwnCq.nil : OwnCq w base ok (.slice none 0 0) [] := ⟨[], World.ownsRow_nil w base _ 4, fun i x h => by simp at h⟩
theorem OwnCq.grows (h : OwnCq w base ok v l) (hg : Grows w w') : OwnCq w' base ok v l := by
 obtain ⟨vs, h1, h2⟩ := h
 exact ⟨vs, own_grows h1 hg, fun i x hx => by obtain ⟨B, c, hb, r⟩ := h2 i x hx; exact ⟨B, c, hb.grows hg, r⟩⟩
theorem OwnCq.only (h : OwnCq w base ok v l) (hg : w.grownBy w' (some g)) (hb : g < base) (hl : ¬ ok g) : OwnCq w' base ok v l := by
 obtain ⟨vs, h1, h2⟩ := h
 refine ⟨vs, World.ownsRow.kept h1 hg ?_, fun i x hx => by obtain ⟨B, c, hi, r⟩ := h2 i x hx; exact ⟨B, c, RdB.grown hi hg (fun q e hq => by injection e with e; exact hl (e ▸ hq.1)), r⟩⟩
 cases e : v.ownBlock with
 | none => exact .inl rfl
 | some q =>
  refine .inr fun e2 => ?_
  have := (World.ownsRow.lt h1 q e).1
  injection e2 with e2
  omega
theorem OwnCq.lt (h : OwnCq w base ok v l) : ∀ q, v.ownBlock = some q → base ≤ q ∧ q < w.heap.size := by
 obtain ⟨vs, h1, -⟩ := h
 exact World.ownsRow.lt h1
theorem OwnCq.read (h : OwnCq w base ok v l) : ∃ A c, v = .slice A l.length c ∧ l.length ≤ c ∧ Chs w (fun _ => True) A l := by
 obtain ⟨vs, h1, h2⟩ := h
 have h3 : ∀ (i : Nat) (x : Ch), l[i]? = some x → ∃ B c, InB w (fun _ => True) B x.m ∧ x.m.length ≤ c ∧ ∀ j < 4, vs[i * 4 + j]? = (chC x B c)[j]? := fun i p hx => by
  obtain ⟨B, c, hb, r⟩ := h2 i p hx
  exact ⟨B, c, RdB.mono hb (fun _ _ => trivial), r⟩
 rcases h1.2 with ⟨rfl, hn⟩ | ⟨q, cap, cur, rfl, hbq, hg, hnc, hm, hs, ht⟩
 ·have e := List.eq_nil_of_length_eq_zero hn
  subst e
  exact ⟨none, 0, rfl, Nat.le_refl _, Chs.nil⟩
 ·exact ⟨_, cap, rfl, hnc, vs, ⟨Reads.of_own h1, fun _ _ _ => trivial⟩, h3⟩
end
theorem InB.aq {w w' : World} {ok : Nat → Prop} {v v' : Value} {B : Option Addr} {x : List Int} (h : InB w (Aq ok v) B x) (hg : w.grownBy w' v.ownBlock) (hv : v'.ownBlock = v.ownBlock ∨ v'.ownBlock = some w.heap.size) : InB w' (Aq ok v') B x :=
 RdB.mono (RdB.grown (RdB.bd h) hg (fun g e hh => hh.1.2 e)) (fun k hk => ⟨hk.1.1, fun e => by
  rcases hv with e2 | e2
  ·exact hk.1.2 (e2 ▸ e)
  ·rw [e2] at e
   injection e with e
   have := hk.2
   omega⟩)
/-- The choices that are found, and what holds of them. -/
theorem choose_found {l : List Pt} (hk : ∀ p ∈ l, ∀ b ∈ p.b, I64 b.k) {want : Ch} {ls : List (List Bx)} {a b : Int} (h : forwardF l = (ls, (a, b), 0)) : ∃ C, chooseF l want = (C, (0, 0), 0) ∧ C.length = l.length ∧ ls.length = l.length ∧ 1 ≤ l.length ∧ fitsF l C = true ∧ (∀ x ∈ C, OKC x) ∧ ∀ x, ls[l.length - 1]? = some x → hasL x want = true → C[l.length - 1]? = some want := by
 obtain ⟨hv, hup, hll, hfl⟩ := forward_fl hk h
 have h1 := (valid_ports hv).2.1
 refine ⟨_, choose_yes h, by rw [List.length_map, List.length_range], hll, h1, ?_, fun x hx => ?_, fun x hx hw => ?_⟩
 ·have hs : ∀ i, i ≤ l.length - 1 → FL (ls.getD i []) ∧ ls.getD i [] ≠ [] ∧ ∀ c, hasL (ls.getD i []) c = true ↔ Rch l i c := fun i hi => by
   have := fw_ex (valid_ports hv).1 hk (Nat.le_refl l.length) (k := i) (by rw [hup]) (by omega)
   rw [hup] at this
   exact ⟨this.1, this.2.1, this.2.2.1⟩
  have hat : ∀ i, i < l.length → ((List.range l.length).map fun i => chUp l ls want (l.length - 1) (l.length - 1 - i)).getD i zeroC = chUp l ls want (l.length - 1) (l.length - 1 - i) := fun i hi => by
   rw [List.getD_eq_getElem?_getD, List.getElem?_map, List.getElem?_range hi]
   rfl
  have hc := fun i (hi : i < l.length) => ch_is (want := want) hs (l.length - 1 - i) (by omega)
  unfold fitsF
  rw [hv, List.length_map, List.length_range, decide_eq_true rfl, Bool.true_and, Bool.true_and, List.all_eq_true]
  intro i hi
  have hi := List.mem_range.1 hi
  obtain ⟨c1, c2⟩ := hc i hi
  rw [show l.length - 1 - (l.length - 1 - i) = i by omega] at c1
  have c1 := rch_has (((hs i (by omega)).2.2 _).1 c1)
  rw [hat i hi, c1, Bool.true_and]
  by_cases h0 : i = 0
  ·rw [decide_eq_true h0, Bool.true_or]
  ·obtain ⟨j, rfl⟩ : ∃ j, i = j + 1 := ⟨i - 1, by omega⟩
   have d2 := (hc j (by omega)).2 (l.length - 1 - (j + 1)) (by omega)
   rw [show l.length - 1 - (l.length - 1 - j) = j by omega] at d2
   rw [Nat.add_sub_cancel, hat j (by omega), d2, Bool.or_true]
 ·obtain ⟨i, hi, rfl⟩ := List.mem_map.1 hx
  have hi := List.mem_range.1 hi
  exact ch_okc (fun j hj => hfl j (by omega)) _ (by omega)
 ·rw [List.getElem?_map, List.getElem?_range (by omega)]
  show some (chUp l ls want (l.length - 1) (l.length - 1 - (l.length - 1))) = some want
  rw [Nat.sub_self]
  have e : ls.getD (l.length - 1) [] = x := by rw [List.getD_eq_getElem?_getD, hx]; rfl
  have := fw_ex (valid_ports hv).1 hk (Nat.le_refl l.length) (k := l.length - 1) (by rw [hup]) (by omega)
  rw [hup] at this
  show some (bestL (topP want) want (ls.getD (l.length - 1) [])).1 = some want
  obtain ⟨t1, t2, -⟩ := this
  have t1 : FL (ls.getD (l.length - 1) []) := t1
  have t2 : ls.getD (l.length - 1) [] ≠ [] := t2
  rw [e] at t1 t2 ⊢
  rw [best_wanted t1 t2 hw]
end Go.Proofs.YtjbkjgmcfommgaaGreat

namespace Go.Proofs.YtjbkjgmcfommgaaGreat
open Go.RowKit
theorem ch_reached {l : List Pt} (hk : ∀ p ∈ l, ∀ b ∈ p.b, I64 b.k) {want : Ch} {ls : List (List Bx)} {a b : Int} (h : forwardF l = (ls, (a, b), 0)) : ∀ i, i < l.length → hasL (ls.getD i []) (chUp l ls want (l.length - 1) (l.length - 1 - i)) = true := by
 obtain ⟨hv, hup, hll, hfl⟩ := forward_fl hk h
 have h1 := (valid_ports hv).2.1
 have hs : ∀ i, i ≤ l.length - 1 → FL (ls.getD i []) ∧ ls.getD i [] ≠ [] ∧ ∀ c, hasL (ls.getD i []) c = true ↔ Rch l i c := fun i hi => by
  have := fw_ex (valid_ports hv).1 hk (Nat.le_refl l.length) (k := i) (by rw [hup]) (by omega)
  rw [hup] at this
  exact ⟨this.1, this.2.1, this.2.2.1⟩
 intro i hi
 have := (ch_is (want := want) hs (l.length - 1 - i) (by omega)).1
 rwa [show l.length - 1 - (l.length - 1 - i) = i by omega] at this
theorem only_next {d : Int} {s : List Bx} {c : Ch} {k : Nat} {b : Bx} (h : s[k]? = some b) : onlyR d (s.take (k + 1)) c = onlyR d (s.take k) c ++ (if someB (dimsF d b (oneB c)) = true then [dimsF d b (oneB c)] else []) := by
 unfold onlyR
 rw [take_snoc h, List.map_append, List.filter_append]
 congr 1
 show [dimsF d b (oneB c)].filter someB = _
 cases hs : someB (dimsF d b (oneB c)) <;> simp [hs]
theorem only_len (d : Int) (s : List Bx) (c : Ch) : (onlyR d s c).length ≤ s.length := by
 unfold onlyR
 exact Nat.le_trans (List.length_filter_le _ _) (by rw [List.length_map]; exact Nat.le_refl _)
theorem only_okb {d : Int} {s : List Bx} {c : Ch} (h : ∀ b ∈ s, OKB b) : ∀ z ∈ onlyR d s c, OKB z := by
 intro z hz
 obtain ⟨hz, -⟩ := List.mem_filter.1 hz
 obtain ⟨b, hb, rfl⟩ := List.mem_map.1 hz
 exact okb_dims (h b hb)
set_option maxHeartbeats 64000000 in
set_option maxRecDepth 10000 in
theorem rchoose_any {ok ow : Nat → Prop} {A I : Option Addr} {c n ci : Nat} {l : List Pt} {want : Ch} {w : World} (hn : n = l.length) (h : Pts w ok A l) (hl : l.length ≤ 1000000) (ho : ∀ p ∈ l, (∀ b ∈ p.b, OKB b ∧ I64 b.k) ∧ p.b.length ≤ 1000000) (hi : InB w ow I want.m) (hok : OKC want) :
 Calls Tryz.prog 17 #[.slice A n c, .agg #[.int .i64 want.k, .int .i64 want.r, .slice I want.m.length ci, .int .i64 want.s]] w fun e w' => (∃ A' c', e = .returned (.tuple #[.slice A' (chooseF l want).1.length c', .agg #[.int .i64 (chooseF l want).2.1.1, .int .i64 (chooseF l want).2.1.2], .int .i64 (chooseF l want).2.2]) ∧ (chooseF l want).1.length ≤ c' ∧ Chs w' AnyB A' (chooseF l want).1) ∧ Grows w w' := by
 subst hn
 have HO := Lib.hid ho
 clear ho
 have kw := (Blk.new w 42 #[.int .i64 want.k, .int .i64 want.r, .slice I want.m.length ci, .int .i64 want.s]).alloc (Obj.cells #[.int .i64 0, .int .i64 0] 32)
 have k5 := blk_new_at (X := w.alloc (Obj.cells #[.int .i64 want.k, .int .i64 want.r, .slice I want.m.length ci, .int .i64 want.s] 42)) (n := w.heap.size + 1) (t := 32) (cs := #[.int .i64 0, .int .i64 0]) (by simp)
 have hB := ((Below.refl w.heap.size w).alloc (Nat.le_refl _) (Obj.cells #[.int .i64 want.k, .int .i64 want.r, .slice I want.m.length ci, .int .i64 want.s] 42)).alloc (by simp) (Obj.cells #[.int .i64 0, .int .i64 0] 32)
 have hcon := fun (w0 : World) (hg : Grows w w0) => rforward_any (w := w0) (c := c) rfl (h.grows hg) hl HO.out
 obtain ⟨⟨ls, ⟨fa, fb⟩, fe⟩, hf⟩ : ∃ f, forwardF l = f := ⟨_, rfl⟩
 simp only [hf] at hcon
 have HF := Lib.hid hf
 have HC := Lib.hid hcon
 clear hf hcon
 go_enter Tryz.func17, Tryz.ntmps17
 go_upto_region 1 with fail
 generalize World.alloc (World.alloc w _) _ = w1 at *
 go_wp2_with fail
 refine (HC.out _ hB).mono ?_
 rintro e w2 ⟨⟨v, rfl, hw⟩, hq⟩
 replace hB := below_grows hB (Nat.le_refl _) hq
 replace kw := kw.grows hq
 replace k5 := k5.grows hq
 obtain ⟨A7, c7, rfl, hc7, hlb⟩ := hw.lbx
 replace hlb := hlb.under
 clear hq hw HC
 have k8 := Blk.new w2 32 #[.int .i64 fa, .int .i64 fb]
 have hq := (Below.refl w2.heap.size w2).alloc (Nat.le_refl _) (Obj.cells #[.int .i64 fa, .int .i64 fb] 32)
 go_upto_region 2 with fail
 replace hB := below_grows hB (Nat.le_refl _) hq
 replace kw := kw.grows hq
 replace k5 := k5.grows hq
 replace hlb := hlb.grows hq
 clear hq
 generalize World.alloc w2 _ = w3 at *
 have hs2 := k8.lt
 have hs5 := k5.lt
 generalize w2.heap.size = q8 at *
 by_cases hfe : fe = 0
 ·subst hfe
  have e5 : ((0 : Int) != 0) = false := rfl
  have e6 : decide ((0 : Int) = 0) = true := rfl
  have HE := Lib.hid (choose_yes (want := want) HF.out)
  obtain ⟨hv, hup, hll, hfl⟩ := forward_fl (fun p hp b hb => ((HO.out p hp).1 b hb).2) HF.out
  have HFL := Lib.hid hfl
  have HLL := Lib.hid hll
  obtain ⟨h1l, h16⟩ := (valid_ports hv).2
  obtain ⟨N, hN⟩ : ∃ N, l.length = N + 1 := ⟨l.length - 1, by omega⟩
  have HN := Lib.hid hN
  have hwN : IntKind.i64.wrap ((l.length : Int) - 1) = (N : Int) := by rw [IntWalk.i64_in _ (by omega)]; omega
  have HOC : Hid (∀ i, i < l.length → OKC (chUp l ls want (l.length - 1) (l.length - 1 - i))) := Lib.hid (fun i hi => ch_okc (fun j hj => HFL.out j (by omega)) _ (by omega))
  have HLAST := Lib.hid (ch_last (l := l) (ls := ls) (want := want) hN)
  have HSTEP := Lib.hid (fun j hj => ch_step (l := l) (ls := ls) (want := want) (j := j) hN hj)
  generalize hfdef : (fun i => chUp l ls want (l.length - 1) (l.length - 1 - i)) = f at HE
  have HFD : Hid (∀ i, chUp l ls want (l.length - 1) (l.length - 1 - i) = f i) := Lib.hid (fun i => congrFun hfdef i)
  replace HOC := Lib.hid (fun i hi => HFD.out i ▸ HOC.out i hi)
  replace HLAST := Lib.hid ((HFD.out N).symm.trans HLAST.out)
  replace HSTEP := Lib.hid (fun j hj => ((HFD.out j).symm.trans (HSTEP.out j hj)).trans (by rw [HFD.out]))
  have HFI := Lib.hid (fun i hi => fl_one (HFL.out i hi) (HFD.out i ▸ ch_reached (want := want) (fun p hp b hb => ((HO.out p hp).1 b hb).2) HF.out i hi))
  clear hv hup hll hfl hfdef hN HFD
  have hle4 : w.heap.size ≤ w3.heap.size := hB.size
  have b0 : (0 : Int) ≤ (l.length : Int) := by omega
  go_upto_region 4 with fail
  clear e5 e6
  refine wp_region_lit ?_
  iterate 2
   refine wpList_plain rfl (fun K hK => ?_)
   go_simp
   refine hK _ _ ?_
   clear hK K
  obtain ⟨i0, hi0, hi1, hi2, hi3, hi4⟩ := ch_info
  refine wpList_make_full _ rfl (.tmp 31) (.tmp 31) 43 rfl 0 42 i0 _ 4 Tryz.underlying43 hi0 hi3 hi1 .i64 .i64 l.length l.length l.length rfl rfl rfl rfl (by rw [hi2]; omega) (by simp only [maxLen]; omega) (by omega) ?_
  intro w4 hown hgr
  have hch := ChG.made (f := f) hown
  have hg4 : Grows w3 w4 := Below.grown (Below.refl w3.heap.size w3) hgr (Nat.le_refl _) (fun q e => by cases e)
  have hsw := kw.lt
  have hGge : w3.heap.size ≤ w3.heap.size := Nat.le_refl _
  generalize hGd : w3.heap.size = G at hch hGge ⊢
  replace hGge : w3.heap.size ≤ G := by omega
  clear hown hgr hi0 hi1 hi2 hi3 hi4 i0 hGd
  replace hch := ChG.sub (W2 := fun k => N + 1 ≤ k) hch (fun k hk hw => by have := HN.out; omega)
  go_wp2_with fail
  go_loopw [11] (fun i wr => ∃ (j m : Nat) (z : Int), j + m = N + 1 ∧ i = .int .i64 z ∧ Hid (z = (j : Int) - 1) ∧ ChG wr 0 G l.length (fun k => j ≤ k) f ∧ Below w3.heap.size w3 wr) (fun i _ => (intOf i + 1).toNat)
  case atStart => exact ⟨N + 1, 0, _, by omega, rfl, Lib.hid (by omega), hch, hg4⟩
  case round =>
   clear hch hg4
   obtain ⟨j, m, z, hjm, rfl, HZ, hch, hg4⟩ := hrel
   have hB4 := below_grows hB (Nat.le_refl _) hg4
   have hGlt := hch.lt
   have hle6 : w3.heap.size ≤ wr.heap.size := hg4.size
   cases j with
   | zero =>
    have hz : z = -1 := HZ.out
    subst hz
    have d1 : decide ((0 : Int) ≤ -1) = false := by decide
    replace k5 := k5.below hg4 hs5
    have x5 := k5.cell
    have f5 := k5.frozen
    have hdone := ChG.done hch (fun i _ => Nat.zero_le i) (by omega)
    have hB3 := (hB4.setCell (p := ⟨w.heap.size + 1, 0, none⟩) (by simp) (.int .i64 0)).setCell (p := ⟨w.heap.size + 1, 1, none⟩) (by simp) (.int .i64 0)
    have x3z := ((k5.set_ 0 (.int .i64 0)).set_ 1 (.int .i64 0)).cell
    have hlen : ((List.range l.length).map f).length = l.length := by rw [List.length_map, List.length_range]
    go_wp2
    have hd2 : Chs ((wr.setCell ⟨w.heap.size + 1, 0, none⟩ (.int .i64 0)).setCell ⟨w.heap.size + 1, 1, none⟩ (.int .i64 0)) AnyB (some ⟨G, 0, none⟩) ((List.range l.length).map f) := by
     rw [setCell_same k5 (i := 0) (v := .int .i64 0) rfl, setCell_same k5 (i := 1) (v := .int .i64 0) rfl]
     exact hdone.mono (fun _ _ => trivial)
    generalize World.setCell (World.setCell wr _ _) _ _ = wz at *
    refine bodyPost_ret (v := .tuple #[.slice (some ⟨G, 0, none⟩) l.length l.length, .agg #[.int .i64 0, .int .i64 0], .int .i64 0]) (by simp [results, Tryz.results17, go_sem, x3z]) rfl ?_
    rw [HE.out]
    exact ⟨⟨some ⟨G, 0, none⟩, l.length, by rw [hlen], by rw [hlen]; exact Nat.le_refl _, hd2⟩, hB3⟩
   | succ j =>
    obtain rfl : z = (j : Int) := by have := HZ.out; omega
    have HJM := Lib.hid hjm
    clear hjm
    have d1 : decide ((0 : Int) ≤ (j : Int)) = true := by simp only [decide_eq_true_eq]; omega
    have d2 : decide (0 ≤ j) = true := by simp only [decide_eq_true_eq]; omega
    have hwm : IntKind.i64.wrap ((j : Int) - 1) = (j : Int) - 1 := IntWalk.i64_in _ (by have := HN.out; have := HJM.out; omega)
    have c1 : (0 : Int) ≤ (j : Int) := by omega
    have c2 : (j : Int) < (l.length : Int) := by have := HN.out; have := HJM.out; omega
    have c3 : (j : Int) < (ls.length : Int) := by have := HN.out; have := HLL.out; have := HJM.out; omega
    have c6 : j < l.length := by omega
    have c7_ : j < ls.length := by omega
    obtain ⟨ad7, xN, BN, dN, e7, had7, hxN, hdN, hcN, hbN⟩ := hlb.elem hg4 (k := j) c7_
    subst e7
    have hgj : ls.getD j [] = xN := by rw [List.getD_eq_getElem?_getD, hxN]; rfl
    have hfN : FL xN := hgj ▸ HFL.out j c6
    have HFN := Lib.hid hfN
    have hlN := hfN.2
    have had7c : (ad7.add j).block < wr.heap.size := by rw [block_of_add]; exact had7
    clear hxN hfN
    by_cases hjN : j = N
    ·subst hjN
     have e7_ : ((j : Int) == (j : Int)) = true := by simp
     have e8_ : decide ((j : Int) = (j : Int)) = true := by simp
     have kw := kw.below hg4 hsw
     have HBE := Lib.hid (fun (w0 : World) (hg : Grows wr w0) => rbestl_any (w := w0) (c := dN) (ci := ci) (want := want) (I := I) (hbN.grows (below_grows hg4 (Nat.le_refl _) hg)) (by omega) hdN HFN.out.okb (InB.ints (hi.grows (below_grows hB4 (Nat.le_refl _) hg))) hok)
     have HX0 := HLAST.out
     rw [hgj, best_same (fun b hb => (HFN.out.1 b hb).2)] at HX0
     generalize bestL (bestR want) want xN = XO at *
     obtain ⟨X, bo⟩ := XO
     have HX : Hid (f j = X) := Lib.hid HX0
     clear HX0 hgj
     go_upto_region 9 with fail
     obtain ⟨S, HI, HO⟩ := hideS fun (L : Ran) (vs : Nat → Value) (w' : World) => ((L 12 = false → Grows wr w' ∧ DsS [none, none, none, none, none, none, none, some (PsBestO (fun k => Under q8 k ∧ True) X bo), some (PsBestO (fun k => Under q8 k ∧ True) X bo), some (PsChO (fun k => Under q8 k ∧ True) X), none, none, none] L vs w') ∧ KnS [some (.slice (some ⟨G, 0, none⟩) l.length l.length), some (.int .i64 j), some (.slice (some ad7) ls.length c7), some (.int .i64 j), some (.pointer (some (ad7.add j))), some (.slice BN xN.length dN), some (.agg #[.int .i64 want.k, .int .i64 want.r, .slice I want.m.length ci, .int .i64 want.s]), none, none, none, none, some (.pointer (some ⟨G, j * 4, none⟩)), none] L vs ∧ (L 12 = true → (∀ j, j < 12 → j ≠ 10 → L j = true) ∧ (∃ t u, vs 8 = .tuple #[t, u]) ∧ wr.grownBy w' (some G) ∧ ChG w' 0 G l.length (fun k => j + 1 ≤ k ∨ k = j) f))
     refine wp_region_genT S 13 117 (by kernel_rfl) (by kernel_rfl) rfl ?_ ?_
     ·exact HI.out _ _ _ ⟨fun _ => ⟨Grows.drew' _, ds_none _ _ _⟩, kn_none _ _, fun h => by cases h⟩
     simp only [List.take_succ_cons, List.take_zero, List.drop_succ_cons, List.drop_zero]
     refine gent_consR (fun vs L w1 hL hw1 => ?_) ?_
     ·obtain ⟨p0, q1, p2⟩ := HO.out _ _ _ hw1
      refine gen_plain rfl ?_
      have ns : L 12 = false := by
       cases h : L 12
       ·rfl
       ·exact absurd ((p2 h).1 0 (by omega) (by omega)) (by rw [hL.1]; simp)
      obtain ⟨q0, q2⟩ := p0 ns
      go_simp
      exact gr_val (HI.out _ _ _ ⟨fun _ => ⟨q0, ds_free q2 rfl⟩, kn_known q1 rfl, fun h => absurd (show L 12 = true from h) (by rw [ns]; simp)⟩)
     refine gent_consR (fun vs L w1 hL hw1 => ?_) ?_
     ·obtain ⟨p0, q1, p2⟩ := HO.out _ _ _ hw1
      refine gen_plain rfl ?_
      have ns : L 12 = false := by
       cases h : L 12
       ·rfl
       ·exact absurd ((p2 h).1 1 (by omega) (by omega)) (by rw [hL.1]; simp)
      obtain ⟨q0, q2⟩ := p0 ns
      go_simp
      exact gr_val (HI.out _ _ _ ⟨fun _ => ⟨q0, ds_free q2 rfl⟩, kn_known q1 rfl, fun h => absurd (show L 12 = true from h) (by rw [ns]; simp)⟩)
     refine gent_consR (fun vs L w1 hL hw1 => ?_) ?_
     ·obtain ⟨p0, q1, p2⟩ := HO.out _ _ _ hw1
      refine gen_plain rfl ?_
      have ns : L 12 = false := by
       cases h : L 12
       ·rfl
       ·exact absurd ((p2 h).1 2 (by omega) (by omega)) (by rw [hL.1]; simp)
      obtain ⟨q0, q2⟩ := p0 ns
      go_simp
      exact gr_val (HI.out _ _ _ ⟨fun _ => ⟨q0, ds_free q2 rfl⟩, kn_known q1 rfl, fun h => absurd (show L 12 = true from h) (by rw [ns]; simp)⟩)
     refine gent_consR (fun vs L w1 hL hw1 => ?_) ?_
     ·obtain ⟨p0, q1, p2⟩ := HO.out _ _ _ hw1
      refine gen_plain rfl ?_
      have ns : L 12 = false := by
       cases h : L 12
       ·rfl
       ·exact absurd ((p2 h).1 3 (by omega) (by omega)) (by rw [hL.1]; simp)
      obtain ⟨q0, q2⟩ := p0 ns
      go_simp
      exact gr_val (HI.out _ _ _ ⟨fun _ => ⟨q0, ds_free q2 rfl⟩, kn_known q1 rfl, fun h => absurd (show L 12 = true from h) (by rw [ns]; simp)⟩)
     refine gent_consR (fun vs L w1 hL hw1 => ?_) ?_
     ·obtain ⟨p0, q1, p2⟩ := HO.out _ _ _ hw1
      refine gen_plain rfl ?_
      have ns : L 12 = false := by
       cases h : L 12
       ·rfl
       ·exact absurd ((p2 h).1 4 (by omega) (by omega)) (by rw [hL.1]; simp)
      obtain ⟨q0, q2⟩ := p0 ns
      have l2 : L 2 = true := hL.need 2 (by kernel_rfl)
      have e2 := q1 2 _ rfl l2
      have l3 : L 3 = true := hL.need 3 (by kernel_rfl)
      have e3 := q1 3 _ rfl l3
      simp only [e2, e3]
      go_simp
      exact gr_val (HI.out _ _ _ ⟨fun _ => ⟨q0, ds_free q2 rfl⟩, kn_known q1 rfl, fun h => absurd (show L 12 = true from h) (by rw [ns]; simp)⟩)
     refine gent_consR (fun vs L w1 hL hw1 => ?_) ?_
     ·obtain ⟨p0, q1, p2⟩ := HO.out _ _ _ hw1
      refine gen_plain rfl ?_
      have ns : L 12 = false := by
       cases h : L 12
       ·rfl
       ·exact absurd ((p2 h).1 5 (by omega) (by omega)) (by rw [hL.1]; simp)
      obtain ⟨q0, q2⟩ := p0 ns
      have l4 : L 4 = true := hL.need 4 (by kernel_rfl)
      have e4 := q1 4 _ rfl l4
      simp only [e4]
      have xb := (Below.cell q0 had7c).trans hcN
      go_simp
      exact gr_val (HI.out _ _ _ ⟨fun _ => ⟨q0, ds_free q2 rfl⟩, kn_known q1 rfl, fun h => absurd (show L 12 = true from h) (by rw [ns]; simp)⟩)
     refine gent_consR (fun vs L w1 hL hw1 => ?_) ?_
     ·obtain ⟨p0, q1, p2⟩ := HO.out _ _ _ hw1
      refine gen_plain rfl ?_
      have ns : L 12 = false := by
       cases h : L 12
       ·rfl
       ·exact absurd ((p2 h).1 6 (by omega) (by omega)) (by rw [hL.1]; simp)
      obtain ⟨q0, q2⟩ := p0 ns
      have xb := (kw.grows q0).cell
      go_simp
      exact gr_val (HI.out _ _ _ ⟨fun _ => ⟨q0, ds_free q2 rfl⟩, kn_known q1 rfl, fun h => absurd (show L 12 = true from h) (by rw [ns]; simp)⟩)
     refine gent_consR (fun vs L w1 hL hw1 => ?_) ?_
     ·obtain ⟨p0, q1, p2⟩ := HO.out _ _ _ hw1
      refine gen_plain rfl ?_
      have ns : L 12 = false := by
       cases h : L 12
       ·rfl
       ·exact absurd ((p2 h).1 7 (by omega) (by omega)) (by rw [hL.1]; simp)
      obtain ⟨q0, q2⟩ := p0 ns
      have l5 : L 5 = true := hL.need 5 (by kernel_rfl)
      have e5 := q1 5 _ rfl l5
      have l6 : L 6 = true := hL.need 6 (by kernel_rfl)
      have e6 := q1 6 _ rfl l6
      simp only [e5, e6]
      go_simp
      refine gr_call ?_
      refine (HBE.out _ q0).mono ?_
      rintro e w6 ⟨⟨v6, rfl, A9, c9, rfl, hc9, hx9⟩, hg⟩
      exact ⟨_, rfl, HI.out _ _ _ ⟨fun _ => ⟨below_grows q0 (Nat.le_refl _) hg, ds_put (q2.grows hg) rfl ⟨A9, c9, rfl, hc9, RdB.mono hx9 (fun k hk => ⟨hk.1, trivial⟩)⟩⟩, kn_free q1 rfl, fun h => absurd (show L 12 = true from h) (by rw [ns]; simp)⟩⟩
     refine gent_consR (fun vs L w1 hL hw1 => ?_) ?_
     ·obtain ⟨p0, q1, p2⟩ := HO.out _ _ _ hw1
      refine gen_plain rfl ?_
      have ns : L 12 = false := by
       cases h : L 12
       ·rfl
       ·exact absurd ((p2 h).1 8 (by omega) (by omega)) (by rw [hL.1]; simp)
      obtain ⟨q0, q2⟩ := p0 ns
      have l7 : L 7 = true := hL.need 7 (by kernel_rfl)
      have p7 := q2 7 _ rfl l7
      go_simp
      exact gr_val (HI.out _ _ _ ⟨fun _ => ⟨q0, ds_put q2 rfl p7⟩, kn_free q1 rfl, fun h => absurd (show L 12 = true from h) (by rw [ns]; simp)⟩)
     refine gent_consR (fun vs L w1 hL hw1 => ?_) ?_
     ·obtain ⟨p0, q1, p2⟩ := HO.out _ _ _ hw1
      refine gen_plain rfl ?_
      have ns : L 12 = false := by
       cases h : L 12
       ·rfl
       ·exact absurd ((p2 h).1 9 (by omega) (by omega)) (by rw [hL.1]; simp)
      obtain ⟨q0, q2⟩ := p0 ns
      have l8 : L 8 = true := hL.need 8 (by kernel_rfl)
      obtain ⟨A9, c9, e9, hc9, hx9⟩ := q2 8 _ rfl l8
      simp only [e9]
      go_simp
      exact gr_val (HI.out _ _ _ ⟨fun _ => ⟨q0, ds_put q2 rfl ⟨A9, c9, rfl, hc9, hx9⟩⟩, kn_free q1 rfl, fun h => absurd (show L 12 = true from h) (by rw [ns]; simp)⟩)
     refine gent_consR (fun vs L w1 hL hw1 => ?_) ?_
     ·obtain ⟨p0, q1, p2⟩ := HO.out _ _ _ hw1
      refine gen_plain rfl ?_
      have htup : ∃ t u, vs 8 = .tuple #[t, u] := by
       cases h : L 12
       ·obtain ⟨A9, c9, e9, -⟩ := (p0 h).2 8 _ rfl (hL.need 8 (by kernel_rfl))
        exact ⟨_, _, e9⟩
       ·exact (p2 h).2.1
      obtain ⟨t, u, e9⟩ := htup
      simp only [e9]
      go_simp
      exact gr_val (HI.out _ _ _ ⟨fun h => ⟨(p0 h).1, ds_free (p0 h).2 rfl⟩, kn_free q1 rfl, fun h => ⟨(fun j h1 h2 => by have := (p2 h).1 j h1 h2; unfold upd; rw [if_neg h2]; exact this), ⟨t, u, (show vs 8 = _ from e9)⟩, (p2 h).2.2⟩⟩)
     refine gent_consR (fun vs L w1 hL hw1 => ?_) ?_
     ·obtain ⟨p0, q1, p2⟩ := HO.out _ _ _ hw1
      refine gen_plain rfl ?_
      have ns : L 12 = false := by
       cases h : L 12
       ·rfl
       ·exact absurd ((p2 h).1 11 (by omega) (by omega)) (by rw [hL.1]; simp)
      obtain ⟨q0, q2⟩ := p0 ns
      have l0 : L 0 = true := hL.need 0 (by kernel_rfl)
      have e0 := q1 0 _ rfl l0
      have l1 : L 1 = true := hL.need 1 (by kernel_rfl)
      have e1 := q1 1 _ rfl l1
      simp only [e0, e1]
      go_simp
      exact gr_val (HI.out _ _ _ ⟨fun _ => ⟨q0, ds_free q2 rfl⟩, kn_known q1 rfl, fun h => absurd (show L 12 = true from h) (by rw [ns]; simp)⟩)
     refine gent_consR (fun vs L w1 hL hw1 => ?_) ?_
     ·obtain ⟨p0, q1, p2⟩ := HO.out _ _ _ hw1
      refine gen_plain rfl ?_
      have ns : L 12 = false := hL.1
      obtain ⟨q0, q2⟩ := p0 ns
      have l11 : L 11 = true := hL.need 11 (by kernel_rfl)
      have e11 := q1 11 _ rfl l11
      obtain ⟨A9, c9, e9, hc9, hx9⟩ := q2 9 _ rfl (hL.need 9 (by kernel_rfl))
      obtain ⟨A8, c8, e8, -, -⟩ := q2 8 _ rfl (hL.need 8 (by kernel_rfl))
      have hc0 := hch.grows q0
      obtain ⟨v0, v1, v2, v3, y0, y1, y2, y3, z0, z1, z2, z3⟩ := hc0.old (i := j) (by omega)
      have hcp := hc0.put (i := j) (A := A9) (c := c9) (by omega) (by rw [HX.out]; exact hc9) (by rw [HX.out]; exact hx9.mono (fun k hk => by have hk := hk.1; unfold Under at hk; omega))
      rw [HX.out] at hcp
      simp only [e11, e9, add_head]
      go_simp
      refine gr_skip ?_
      show S (upd L 12) (setV vs 12 undef) (putC w1 G (j * 4) X A9 c9)
      exact HI.out _ _ _ ⟨fun h => absurd (show true = false from h) (by simp), kn_free q1 rfl, fun _ => ⟨(fun j h1 h2 => by have := hL.all 12 10 (by kernel_rfl) j h1 h2; unfold upd; split <;> first | rfl | exact this), ⟨_, _, (show vs 8 = _ from e8)⟩, only_trans (d_only_grows (World.grownBy.refl wr (some G)) q0) (putC_only w1 G (j * 4) X A9 c9), hcp⟩⟩
     refine gent_nil ?_
     intro vs L W2 hall hS
     obtain ⟨-, q1, p2⟩ := HO.out _ _ _ hS
     obtain ⟨-, -, hgb, hch2⟩ := p2 (hall 12 (by omega))
     clear hall hS HI HO p2 q1 HX hch HBE had7c hcN hbN
     generalize vs 0 = yv
     generalize vs 1 = yv
     generalize vs 2 = yv
     generalize vs 3 = yv
     generalize vs 4 = yv
     generalize vs 5 = yv
     generalize vs 6 = yv
     generalize vs 7 = yv
     generalize vs 8 = yv
     generalize vs 9 = yv
     generalize vs 10 = yv
     generalize vs 11 = yv
     generalize vs 12 = yv
     have hg6 := Below.grown hg4 hgb hg4.size (fun q e => by injection e with e; omega)
     have hch3 := ChG.sub (W2 := fun k => j ≤ k) hch2 (fun k hk hw => by omega)
     clear hch2 hgb hg4 hB4
     go_wp2
     go_roundw
     case rel => exact ⟨j, m + 1, _, by have := HJM.out; omega, rfl, Lib.hid rfl, hch3, hg6⟩
     case measure => simp [intOf]
    ·have hjlt : j < N := by have := HJM.out; omega
     have e7_ : ((j : Int) == (N : Int)) = false := by simp only [beq_eq_false_iff_ne, ne_eq]; omega
     have e8_ : decide ((j : Int) = (N : Int)) = false := by simp only [decide_eq_false_iff_not]; omega
     have e9_ : decide (j = N) = false := decide_eq_false hjN
     obtain ⟨j1, hj1⟩ : ∃ j1, j + 1 = j1 := ⟨_, rfl⟩
     replace hch := ChG.sub (W2 := fun k => j1 ≤ k) hch (fun k _ hw => by omega)
     have HJ1 := Lib.hid hj1
     have hwj : IntKind.i64.wrap ((j : Int) + 1) = (j1 : Int) := by rw [IntWalk.i64_in _ (by have := HN.out; omega)]; omega
     have c4 : (j1 : Int) < (l.length : Int) := by have := HN.out; omega
     have c5 : (0 : Int) ≤ (j1 : Int) := by omega
     have c8 : j1 < l.length := by omega
     clear hj1 hjN
     obtain ⟨ad, p, B, cp, e1, had, hp, -, -, q20, q21⟩ := h.elem hB4 (k := j) c6
     subst e1
     obtain ⟨AY, cY, hcY, hiY, hcellY⟩ := hch.at_ (i := j1) c8 (Nat.le_refl _)
     have hOY := HOC.out j1 c8
     have hst := HSTEP.out j hjlt
     obtain ⟨o1, o2, o3⟩ := HFI.out j1 c8
     rw [hgj, show l.getD j noPt = p by rw [List.getD_eq_getElem?_getD, hp]; rfl, HJ1.out, back_same HFN.out o1 o2 o3] at hst
     generalize f j1 = Y at *
     have HX0 : Hid (f j = (bestL (bestR Y) Y (onlyR (bits .andNot .i64 15 p.v) xN Y)).1) := Lib.hid hst
     obtain ⟨dd, hdd⟩ : ∃ d, bits .andNot .i64 15 p.v = d := ⟨_, rfl⟩
     rw [hdd] at HX0
     have HDE := Lib.hid hdd
     have hk0 : 0 ≤ Y.k := by omega
     have hK0 := shl_small hk0 o2
     obtain ⟨K, hK⟩ : ∃ K, IntKind.i64.wrap (2 ^ Y.k.toNat) = K := ⟨_, rfl⟩
     have HPT : Hid (oneB Y = ⟨K, [(Y.r, Y.r)], [Y.m], [(Y.s, Y.s)]⟩) := Lib.hid (by unfold oneB; rw [← hK, hK0])
     have d3 : decide (Y.k < 0) = false := by simp only [decide_eq_false_iff_not]; omega
     have hadc : (ad.add (j * 2)).block < wr.heap.size := by rw [block_of_add]; exact had
     clear hst hgj hp hdd hK0 o3
     obtain ⟨y0, y1, y2, y3⟩ := hcellY
     have k12 := Blk.new wr 42 #[.int .i64 Y.k, .int .i64 Y.r, .slice AY Y.m.length cY, .int .i64 Y.s]
     have hq := (Below.refl wr.heap.size wr).alloc (Nat.le_refl _) (Obj.cells #[.int .i64 Y.k, .int .i64 Y.r, .slice AY Y.m.length cY, .int .i64 Y.s] 42)
     go_upto_region 11 with fail
     have hg5 := below_grows hg4 (Nat.le_refl _) hq
     have hch5 := hch.grows hq
     replace hiY := RdB.grows hiY hq
     have hszq := hq.size
     replace hcN := (Below.cell hq had7c).trans hcN
     replace q21 := (Below.cell (p := ⟨(ad.add (j * 2)).block, (ad.add (j * 2)).off + 1, none⟩) hq hadc).trans q21
     have had7d := Nat.lt_of_lt_of_le had7c hszq
     have hadd := Nat.lt_of_lt_of_le hadc hszq
     clear hq y0 y1 y2 y3 hch q20 had7c hadc
     generalize World.alloc wr _ = w5 at *
     have hGq : G < wr.heap.size := hGlt
     generalize wr.heap.size = q12 at *
     have hl12 := k12.lt
     obtain ⟨S, HI, HO⟩ := hideS fun (L : Ran) (vs : Nat → Value) (w' : World) => (Grows w5 w' ∧ KnS [some (.pointer (some ⟨q12, 0, none⟩)), some (.pointer (some ⟨q12, 0, none⟩)), some (.int .i64 Y.k), some (.int .i64 K), some (.pointer (some ⟨q12, 0, none⟩)), some (.pointer (some ⟨q12, 1, none⟩)), some (.int .i64 Y.r), none, some (.pointer (some ⟨q12, 0, none⟩)), some (.pointer (some ⟨q12, 2, none⟩)), some (.slice AY Y.m.length cY), none, some (.pointer (some ⟨q12, 3, none⟩)), some (.int .i64 Y.s), none, none, none] L vs ∧ DsQ (fun _ => True) [none, none, none, none, none, none, none, some (QSet [(Y.r, Y.r)]), none, none, none, some (QMaps [Y.m]), none, none, some (QSet [(Y.s, Y.s)]), some (QBox ⟨K, [(Y.r, Y.r)], [Y.m], [(Y.s, Y.s)]⟩), none] 16 L vs w' ∧ AlQ 16 w5.heap.size 61 #[.int .i64 0, .slice none 0 0, .slice none 0 0, .slice none 0 0] L vs w')
     refine wp_region_genT S 17 117 (by kernel_rfl) (by kernel_rfl) rfl ?_ ?_
     ·exact HI.out _ _ _ ⟨Grows.drew' _, kn_none _ _, dq_none _ _ _ _ _, alq_none⟩
     simp only [List.take_succ_cons, List.take_zero, List.drop_succ_cons, List.drop_zero]
     refine gent_consR (fun vs L w1 hL hw1 => ?_) ?_
     ·obtain ⟨q0, q1, q2, q3⟩ := HO.out _ _ _ hw1
      refine gen_plain rfl ?_
      go_simp
      exact gr_val (HI.out _ _ _ ⟨q0, kn_known q1 rfl, dq_free q2 rfl (by decide), alq_keep q3 (by decide)⟩)
     refine gent_consR (fun vs L w1 hL hw1 => ?_) ?_
     ·obtain ⟨q0, q1, q2, q3⟩ := HO.out _ _ _ hw1
      refine gen_plain rfl ?_
      have l0 : L 0 = true := hL.need 0 (by kernel_rfl)
      have e0 := q1 0 _ rfl l0
      simp only [e0]
      go_simp
      exact gr_val (HI.out _ _ _ ⟨q0, kn_known q1 rfl, dq_free q2 rfl (by decide), alq_keep q3 (by decide)⟩)
     refine gent_consR (fun vs L w1 hL hw1 => ?_) ?_
     ·obtain ⟨q0, q1, q2, q3⟩ := HO.out _ _ _ hw1
      refine gen_plain rfl ?_
      have l1 : L 1 = true := hL.need 1 (by kernel_rfl)
      have e1 := q1 1 _ rfl l1
      simp only [e1]
      have xb := (k12.grows q0).cell
      go_simp
      exact gr_val (HI.out _ _ _ ⟨q0, kn_known q1 rfl, dq_free q2 rfl (by decide), alq_keep q3 (by decide)⟩)
     refine gent_consR (fun vs L w1 hL hw1 => ?_) ?_
     ·obtain ⟨q0, q1, q2, q3⟩ := HO.out _ _ _ hw1
      refine gen_plain rfl ?_
      have l2 : L 2 = true := hL.need 2 (by kernel_rfl)
      have e2 := q1 2 _ rfl l2
      simp only [e2]
      go_simp
      exact gr_val (HI.out _ _ _ ⟨q0, kn_known q1 rfl, dq_free q2 rfl (by decide), alq_keep q3 (by decide)⟩)
     refine gent_consR (fun vs L w1 hL hw1 => ?_) ?_
     ·obtain ⟨q0, q1, q2, q3⟩ := HO.out _ _ _ hw1
      refine gen_plain rfl ?_
      go_simp
      exact gr_val (HI.out _ _ _ ⟨q0, kn_known q1 rfl, dq_free q2 rfl (by decide), alq_keep q3 (by decide)⟩)
     refine gent_consR (fun vs L w1 hL hw1 => ?_) ?_
     ·obtain ⟨q0, q1, q2, q3⟩ := HO.out _ _ _ hw1
      refine gen_plain rfl ?_
      have l4 : L 4 = true := hL.need 4 (by kernel_rfl)
      have e4 := q1 4 _ rfl l4
      simp only [e4]
      go_simp
      exact gr_val (HI.out _ _ _ ⟨q0, kn_known q1 rfl, dq_free q2 rfl (by decide), alq_keep q3 (by decide)⟩)
     refine gent_consR (fun vs L w1 hL hw1 => ?_) ?_
     ·obtain ⟨q0, q1, q2, q3⟩ := HO.out _ _ _ hw1
      refine gen_plain rfl ?_
      have l5 : L 5 = true := hL.need 5 (by kernel_rfl)
      have e5 := q1 5 _ rfl l5
      simp only [e5]
      have xb := (k12.grows q0).cell
      go_simp
      exact gr_val (HI.out _ _ _ ⟨q0, kn_known q1 rfl, dq_free q2 rfl (by decide), alq_keep q3 (by decide)⟩)
     refine gent_consR (fun vs L w1 hL hw1 => ?_) ?_
     ·obtain ⟨q0, q1, q2, q3⟩ := HO.out _ _ _ hw1
      refine gen_plain rfl ?_
      have l6 : L 6 = true := hL.need 6 (by kernel_rfl)
      have e6 := q1 6 _ rfl l6
      simp only [e6]
      go_simp
      refine gr_call ?_
      refine (rone_any _ w1).mono ?_
      rintro e w6 ⟨⟨A9, c9, rfl, hc9, hx9⟩, hg⟩
      exact ⟨_, rfl, HI.out _ _ _ ⟨below_grows q0 (Nat.le_refl _) hg, kn_free q1 rfl, dq_put (q2.grows hg) rfl (by decide) ⟨A9, c9, rfl, hc9, RdB.mono hx9 (fun k hk => ⟨trivial, avoid_new q3.lt k hk⟩)⟩, alq_keep (q3.grows hg) (by decide)⟩⟩
     refine gent_consR (fun vs L w1 hL hw1 => ?_) ?_
     ·obtain ⟨q0, q1, q2, q3⟩ := HO.out _ _ _ hw1
      refine gen_plain rfl ?_
      go_simp
      exact gr_val (HI.out _ _ _ ⟨q0, kn_known q1 rfl, dq_free q2 rfl (by decide), alq_keep q3 (by decide)⟩)
     refine gent_consR (fun vs L w1 hL hw1 => ?_) ?_
     ·obtain ⟨q0, q1, q2, q3⟩ := HO.out _ _ _ hw1
      refine gen_plain rfl ?_
      have l8 : L 8 = true := hL.need 8 (by kernel_rfl)
      have e8 := q1 8 _ rfl l8
      simp only [e8]
      go_simp
      exact gr_val (HI.out _ _ _ ⟨q0, kn_known q1 rfl, dq_free q2 rfl (by decide), alq_keep q3 (by decide)⟩)
     refine gent_consR (fun vs L w1 hL hw1 => ?_) ?_
     ·obtain ⟨q0, q1, q2, q3⟩ := HO.out _ _ _ hw1
      refine gen_plain rfl ?_
      have l9 : L 9 = true := hL.need 9 (by kernel_rfl)
      have e9 := q1 9 _ rfl l9
      simp only [e9]
      have xb := (k12.grows q0).cell
      go_simp
      exact gr_val (HI.out _ _ _ ⟨q0, kn_known q1 rfl, dq_free q2 rfl (by decide), alq_keep q3 (by decide)⟩)
     refine gent_consR (fun vs L w1 hL hw1 => ?_) ?_
     ·obtain ⟨q0, q1, q2, q3⟩ := HO.out _ _ _ hw1
      refine gen_plain rfl ?_
      have l10 : L 10 = true := hL.need 10 (by kernel_rfl)
      have e10 := q1 10 _ rfl l10
      simp only [e10]
      go_simp
      have hg := (Below.refl w1.heap.size w1).alloc (Nat.le_refl _) (Obj.cells #[.slice AY Y.m.length cY] 38)
      have hmi : InB w1 (fun k => True ∧ avoid 16 L vs k) AY Y.m := RdB.mono (RdB.under hiY |>.grows q0) (fun k hk => ⟨trivial, fun hl e => by obtain ⟨q, e2, hb, -⟩ := q3 hl; rw [e] at e2; injection e2 with e2; injection e2 with e2; injection e2 with e2; unfold Under at hk; omega⟩)
      exact gr_val (HI.out _ _ _ ⟨below_grows q0 (Nat.le_refl _) hg, kn_free q1 rfl, dq_put (q2.grows hg) rfl (by decide) ⟨_, 1, rfl, Nat.le_refl _, maps_lit1 w1 hmi hcY ⟨trivial, avoid_new q3.lt _ (Nat.le_refl _)⟩⟩, alq_keep (q3.grows hg) (by decide)⟩)
     refine gent_consR (fun vs L w1 hL hw1 => ?_) ?_
     ·obtain ⟨q0, q1, q2, q3⟩ := HO.out _ _ _ hw1
      refine gen_plain rfl ?_
      go_simp
      exact gr_val (HI.out _ _ _ ⟨q0, kn_known q1 rfl, dq_free q2 rfl (by decide), alq_keep q3 (by decide)⟩)
     refine gent_consR (fun vs L w1 hL hw1 => ?_) ?_
     ·obtain ⟨q0, q1, q2, q3⟩ := HO.out _ _ _ hw1
      refine gen_plain rfl ?_
      have l12 : L 12 = true := hL.need 12 (by kernel_rfl)
      have e12 := q1 12 _ rfl l12
      simp only [e12]
      have xb := (k12.grows q0).cell
      go_simp
      exact gr_val (HI.out _ _ _ ⟨q0, kn_known q1 rfl, dq_free q2 rfl (by decide), alq_keep q3 (by decide)⟩)
     refine gent_consR (fun vs L w1 hL hw1 => ?_) ?_
     ·obtain ⟨q0, q1, q2, q3⟩ := HO.out _ _ _ hw1
      refine gen_plain rfl ?_
      have l13 : L 13 = true := hL.need 13 (by kernel_rfl)
      have e13 := q1 13 _ rfl l13
      simp only [e13]
      go_simp
      refine gr_call ?_
      refine (rone_any _ w1).mono ?_
      rintro e w6 ⟨⟨A9, c9, rfl, hc9, hx9⟩, hg⟩
      exact ⟨_, rfl, HI.out _ _ _ ⟨below_grows q0 (Nat.le_refl _) hg, kn_free q1 rfl, dq_put (q2.grows hg) rfl (by decide) ⟨A9, c9, rfl, hc9, RdB.mono hx9 (fun k hk => ⟨trivial, avoid_new q3.lt k hk⟩)⟩, alq_keep (q3.grows hg) (by decide)⟩⟩
     refine gent_consR (fun vs L w1 hL hw1 => ?_) ?_
     ·obtain ⟨q0, q1, q2, q3⟩ := HO.out _ _ _ hw1
      refine gen_plain rfl ?_
      have l3 : L 3 = true := hL.need 3 (by kernel_rfl)
      have e3 := q1 3 _ rfl l3
      simp only [e3]
      obtain ⟨E1, g1, e7, hg1, hx1⟩ := q2 7 _ rfl (hL.need 7 (by kernel_rfl))
      obtain ⟨E2, g2, e11, hg2, hx2⟩ := q2 11 _ rfl (hL.need 11 (by kernel_rfl))
      obtain ⟨E3, g3, e14, hg3, hx3⟩ := q2 14 _ rfl (hL.need 14 (by kernel_rfl))
      simp only [e7, e11, e14]
      go_simp
      exact gr_val (HI.out _ _ _ ⟨q0, kn_free q1 rfl, dq_put q2 rfl (by decide) ⟨E1, g1, E2, g2, E3, g3, rfl, ⟨hx1, hx2, hx3, hg1, hg2, hg3⟩⟩, alq_keep q3 (by decide)⟩)
     refine gent_consR (fun vs L w1 hL hw1 => ?_) ?_
     ·obtain ⟨q0, q1, q2, q3⟩ := HO.out _ _ _ hw1
      refine gen_plain rfl ?_
      go_simp
      have hg := (Below.refl w1.heap.size w1).alloc (Nat.le_refl _) (Obj.cells #[.int .i64 0, .slice none 0 0, .slice none 0 0, .slice none 0 0] 61)
      exact gr_val (HI.out _ _ _ ⟨below_grows q0 (Nat.le_refl _) hg, kn_free q1 rfl, dq_alloc q2 rfl hg, alq_new q0.size⟩)
     refine gent_nil ?_
     intro vs L W2 hall hS
     obtain ⟨q0, q1, q2, q3⟩ := HO.out _ _ _ hS
     obtain ⟨q13, e16, hb13, k13⟩ := q3 (hall 16 (by omega))
     obtain ⟨E1, g1, E2, g2, E3, g3, e15, hpt⟩ := q2 15 _ rfl (hall 15 (by omega))
     have e15b : vs 15 = .agg #[.int .i64 K, .slice E1 1 g1, .slice E2 1 g2, .slice E3 1 g3] := e15
     have x13 := k13.cell
     have f13 := k13.frozen
     have k13z := (((k13.set_ 0 (.int .i64 K)).set_ 1 (.slice E1 1 g1)).set_ 2 (.slice E2 1 g2)).set_ 3 (.slice E3 1 g3)
     have hgq := d_only_set (d_only_set (d_only_set (d_only_set (World.grownBy.refl W2 (some q13)) 0 (.int .i64 K)) 1 (.slice E1 1 g1)) 2 (.slice E2 1 g2)) 3 (.slice E3 1 g3)
     have hpt6 := hpt.grown hgq (fun g e hh => by injection e with e; subst e; exact hh.2 (hall 16 (by omega)) e16)
     have hq56 := Below.grown q0 hgq q0.size (fun g e => by injection e with e; omega)
     clear hall hS HI HO q1 q2 q3 hpt e15
     simp only [e16, e15b]
     clear e16 e15b
     generalize vs 0 = yv
     generalize vs 1 = yv
     generalize vs 2 = yv
     generalize vs 3 = yv
     generalize vs 4 = yv
     generalize vs 5 = yv
     generalize vs 6 = yv
     generalize vs 7 = yv
     generalize vs 8 = yv
     generalize vs 9 = yv
     generalize vs 10 = yv
     generalize vs 11 = yv
     generalize vs 12 = yv
     generalize vs 13 = yv
     generalize vs 14 = yv
     generalize vs 15 = yv
     generalize vs 16 = yv
     go_upto_region 12 with fail
     clear x13 f13 k13 hgq q0
     generalize World.setCell (World.setCell (World.setCell (World.setCell W2 _ _) _ _) _ _) _ _ = w6 at *
     replace k13z : Blk w6 q13 61 #[.int .i64 K, .slice E1 1 g1, .slice E2 1 g2, .slice E3 1 g3] := k13z
     replace hcN := (Below.cell hq56 had7d).trans hcN
     replace q21 := (Below.cell (p := ⟨(ad.add (j * 2)).block, (ad.add (j * 2)).off + 1, none⟩) hq56 hadd).trans q21
     have hs56 := hq56.size
     have hadc := Nat.lt_of_lt_of_le hadd hs56
     replace k12 := k12.grows hq56
     replace hiY := RdB.grows hiY hq56
     have hch6 := hch5.grows hq56
     have hg6 := below_grows hg5 (Nat.le_refl _) hq56
     have hpt7 : BoxP w6 (fun _ => True) ⟨K, [(Y.r, Y.r)], [Y.m], [(Y.s, Y.s)]⟩ E1 g1 E2 g2 E3 g3 := hpt6.mono (fun _ _ => trivial)
     clear hpt6 hch5 hg5 hq56 had7d hadd
     have hs6a : q8 < w6.heap.size := by omega
     have hs6b : G < w6.heap.size := by omega
     go_wp2_with fail
     go_loopw [14, 83] (fun v i wq => ∃ k : Nat, k ≤ xN.length ∧ i = .int .i64 k ∧ OwnBq wq w6.heap.size (fun q => q ≠ G) v (onlyR dd (xN.take k) Y) ∧ Grows w6 wq) (fun _ i _ => xN.length - (intOf i).toNat)
     case atStart => exact ⟨0, by omega, rfl, OwnBq.nil, Below.refl _ _⟩
     case round =>
      obtain ⟨k, hk, rfl, hw, hg⟩ := hrel
      by_cases hlt : k < xN.length
      ·obtain ⟨ad9, b, B1, d1_, B2, d2_, B3, d3_, e2, had9, hb, hpb, r0, r1, r2, r3⟩ := hbN.elemB (below_grows hg6 (Nat.le_refl _) hg) hlt
       subst e2
       have hob := HFN.out.okb b (List.mem_of_getElem? hb)
       have HON := Lib.hid (only_next (d := dd) (c := Y) hb)
       have hOL : (onlyR dd (xN.take k) Y).length ≤ 64 := Nat.le_trans (only_len _ _ _) (by rw [List.length_take]; omega)
       rw [HPT.out] at HON
       clear hb
       have k16 := Blk.new wr 61 #[.int .i64 b.k, .slice B1 b.r.length d1_, .slice B2 b.m.length d2_, .slice B3 b.s.length d3_]
       have hq := (Below.refl wr.heap.size wr).alloc (Nat.le_refl _) (Obj.cells #[.int .i64 b.k, .slice B1 b.r.length d1_, .slice B2 b.m.length d2_, .slice B3 b.s.length d3_] 61)
       go_upto_region 16 with fail
       have hg8 := below_grows hg (Nat.le_refl _) hq
       replace hw := hw.grows hq
       clear hq r0 r1 r2 r3 hg
       generalize World.alloc wr _ = w8 at *
       generalize wr.heap.size = q16 at *
       have hs8 := hg8.size
       have k13w := k13z.grows hg8
       have q21w := (Below.cell (p := ⟨(ad.add (j * 2)).block, (ad.add (j * 2)).off + 1, none⟩) hg8 hadc).trans q21
       have hadw := Nat.lt_of_lt_of_le hadc hs8
       have HDM := Lib.hid (fun (w0 : World) (hg : Grows w8 w0) => rdims_any (w := w0) (hpb.grows (below_grows (below_grows hg6 (Nat.le_refl _) hg8) (Nat.le_refl _) hg)) (hpt7.grows (below_grows hg8 (Nat.le_refl _) hg)) hob (okb_one (x := Y) K hOY.2.2) dd)
       generalize dimsF dd b ⟨K, [(Y.r, Y.r)], [Y.m], [(Y.s, Y.s)]⟩ = z at *
       generalize hsz : someB z = sz at *
       generalize manyB dd z = mz at *
       obtain ⟨S, HI, HO⟩ := hideS fun (L : Ran) (vs : Nat → Value) (w' : World) => (Grows w8 w' ∧ KnS [some (.agg #[.int .i64 b.k, .slice B1 b.r.length d1_, .slice B2 b.m.length d2_, .slice B3 b.s.length d3_]), some (.agg #[.int .i64 K, .slice E1 [(Y.r, Y.r)].length g1, .slice E2 [Y.m].length g2, .slice E3 [(Y.s, Y.s)].length g3]), some (.slice (some ad) l.length c), some (.int .i64 j), some (.pointer (some (ad.add (j * 2)))), some (.pointer (some { block := (ad.add (j * 2)).block, off := (ad.add (j * 2)).off + 1 })), some (.int .i64 p.v), some (.int .i64 dd), none, none, none, some (.bool sz), some (.bool mz), none, none, some (.bool sz), some (.bool mz)] L vs ∧ (L 14 = false → DsQ (Nk w8.heap.size (Under q8)) [none, none, none, none, none, none, none, none, some (QDim z sz mz), some (QDim z sz mz), some (QBox z), none, none, none, none, none, none] 13 L vs w' ∧ AlQ 13 w8.heap.size 61 #[.int .i64 0, .slice none 0 0, .slice none 0 0, .slice none 0 0] L vs w') ∧ (L 14 = true → (∀ j, j < 14 → j ≠ 11 → j ≠ 12 → L j = true) ∧ (∃ u, vs 9 = .tuple #[u, .bool sz, .bool mz]) ∧ ∃ q F1 h1 F2 h2 F3 h3, vs 13 = .pointer (some ⟨q, 0, none⟩) ∧ w8.heap.size ≤ q ∧ Blk w' q 61 #[.int .i64 z.k, .slice F1 z.r.length h1, .slice F2 z.m.length h2, .slice F3 z.s.length h3] ∧ BoxP w' (Nk w8.heap.size (Under q8)) z F1 h1 F2 h2 F3 h3))
       refine wp_region_genT S 17 117 (by kernel_rfl) (by kernel_rfl) rfl ?_ ?_
       ·exact HI.out _ _ _ ⟨Grows.drew' _, kn_none _ _, fun _ => ⟨dq_none _ _ _ _ _, alq_none⟩, fun h => by cases h⟩
       simp only [List.take_succ_cons, List.take_zero, List.drop_succ_cons, List.drop_zero]
       refine gent_consR (fun vs L w1 hL hw1 => ?_) ?_
       ·obtain ⟨q0, q1, p0, p2⟩ := HO.out _ _ _ hw1
        refine gen_plain rfl ?_
        have ns : L 14 = false := by
         cases h : L 14
         ·rfl
         ·exact absurd ((p2 h).1 0 (by omega) (by decide) (by decide)) (by rw [hL.1]; simp)
        obtain ⟨q2, q3⟩ := p0 ns
        have xb := (k16.grows q0).cell
        go_simp
        exact gr_val (HI.out _ _ _ ⟨q0, kn_known q1 rfl, fun _ => ⟨dq_free q2 rfl (by decide), alq_keep q3 (by decide)⟩, fun h => absurd (show L 14 = true from h) (by rw [ns]; simp)⟩)
       refine gent_consR (fun vs L w1 hL hw1 => ?_) ?_
       ·obtain ⟨q0, q1, p0, p2⟩ := HO.out _ _ _ hw1
        refine gen_plain rfl ?_
        have ns : L 14 = false := by
         cases h : L 14
         ·rfl
         ·exact absurd ((p2 h).1 1 (by omega) (by decide) (by decide)) (by rw [hL.1]; simp)
        obtain ⟨q2, q3⟩ := p0 ns
        have xb := (k13w.grows q0).cell
        go_simp
        exact gr_val (HI.out _ _ _ ⟨q0, kn_known q1 rfl, fun _ => ⟨dq_free q2 rfl (by decide), alq_keep q3 (by decide)⟩, fun h => absurd (show L 14 = true from h) (by rw [ns]; simp)⟩)
       refine gent_consR (fun vs L w1 hL hw1 => ?_) ?_
       ·obtain ⟨q0, q1, p0, p2⟩ := HO.out _ _ _ hw1
        refine gen_plain rfl ?_
        have ns : L 14 = false := by
         cases h : L 14
         ·rfl
         ·exact absurd ((p2 h).1 2 (by omega) (by decide) (by decide)) (by rw [hL.1]; simp)
        obtain ⟨q2, q3⟩ := p0 ns
        go_simp
        exact gr_val (HI.out _ _ _ ⟨q0, kn_known q1 rfl, fun _ => ⟨dq_free q2 rfl (by decide), alq_keep q3 (by decide)⟩, fun h => absurd (show L 14 = true from h) (by rw [ns]; simp)⟩)
       refine gent_consR (fun vs L w1 hL hw1 => ?_) ?_
       ·obtain ⟨q0, q1, p0, p2⟩ := HO.out _ _ _ hw1
        refine gen_plain rfl ?_
        have ns : L 14 = false := by
         cases h : L 14
         ·rfl
         ·exact absurd ((p2 h).1 3 (by omega) (by decide) (by decide)) (by rw [hL.1]; simp)
        obtain ⟨q2, q3⟩ := p0 ns
        go_simp
        exact gr_val (HI.out _ _ _ ⟨q0, kn_known q1 rfl, fun _ => ⟨dq_free q2 rfl (by decide), alq_keep q3 (by decide)⟩, fun h => absurd (show L 14 = true from h) (by rw [ns]; simp)⟩)
       refine gent_consR (fun vs L w1 hL hw1 => ?_) ?_
       ·obtain ⟨q0, q1, p0, p2⟩ := HO.out _ _ _ hw1
        refine gen_plain rfl ?_
        have ns : L 14 = false := by
         cases h : L 14
         ·rfl
         ·exact absurd ((p2 h).1 4 (by omega) (by decide) (by decide)) (by rw [hL.1]; simp)
        obtain ⟨q2, q3⟩ := p0 ns
        have l2 : L 2 = true := hL.need 2 (by kernel_rfl)
        have e2 := q1 2 _ rfl l2
        have l3 : L 3 = true := hL.need 3 (by kernel_rfl)
        have e3 := q1 3 _ rfl l3
        simp only [e2, e3]
        go_simp
        exact gr_val (HI.out _ _ _ ⟨q0, kn_known q1 rfl, fun _ => ⟨dq_free q2 rfl (by decide), alq_keep q3 (by decide)⟩, fun h => absurd (show L 14 = true from h) (by rw [ns]; simp)⟩)
       refine gent_consR (fun vs L w1 hL hw1 => ?_) ?_
       ·obtain ⟨q0, q1, p0, p2⟩ := HO.out _ _ _ hw1
        refine gen_plain rfl ?_
        have ns : L 14 = false := by
         cases h : L 14
         ·rfl
         ·exact absurd ((p2 h).1 5 (by omega) (by decide) (by decide)) (by rw [hL.1]; simp)
        obtain ⟨q2, q3⟩ := p0 ns
        have l4 : L 4 = true := hL.need 4 (by kernel_rfl)
        have e4 := q1 4 _ rfl l4
        simp only [e4]
        go_simp
        exact gr_val (HI.out _ _ _ ⟨q0, kn_known q1 rfl, fun _ => ⟨dq_free q2 rfl (by decide), alq_keep q3 (by decide)⟩, fun h => absurd (show L 14 = true from h) (by rw [ns]; simp)⟩)
       refine gent_consR (fun vs L w1 hL hw1 => ?_) ?_
       ·obtain ⟨q0, q1, p0, p2⟩ := HO.out _ _ _ hw1
        refine gen_plain rfl ?_
        have ns : L 14 = false := by
         cases h : L 14
         ·rfl
         ·exact absurd ((p2 h).1 6 (by omega) (by decide) (by decide)) (by rw [hL.1]; simp)
        obtain ⟨q2, q3⟩ := p0 ns
        have l5 : L 5 = true := hL.need 5 (by kernel_rfl)
        have e5 := q1 5 _ rfl l5
        simp only [e5]
        have xb := (Below.cell (p := ⟨(ad.add (j * 2)).block, (ad.add (j * 2)).off + 1, none⟩) q0 hadw).trans q21w
        go_simp
        exact gr_val (HI.out _ _ _ ⟨q0, kn_known q1 rfl, fun _ => ⟨dq_free q2 rfl (by decide), alq_keep q3 (by decide)⟩, fun h => absurd (show L 14 = true from h) (by rw [ns]; simp)⟩)
       refine gent_consR (fun vs L w1 hL hw1 => ?_) ?_
       ·obtain ⟨q0, q1, p0, p2⟩ := HO.out _ _ _ hw1
        refine gen_plain rfl ?_
        have ns : L 14 = false := by
         cases h : L 14
         ·rfl
         ·exact absurd ((p2 h).1 7 (by omega) (by decide) (by decide)) (by rw [hL.1]; simp)
        obtain ⟨q2, q3⟩ := p0 ns
        have l6 : L 6 = true := hL.need 6 (by kernel_rfl)
        have e6 := q1 6 _ rfl l6
        simp only [e6]
        go_simp
        rw [HDE.out]
        exact gr_val (HI.out _ _ _ ⟨q0, kn_known q1 rfl, fun _ => ⟨dq_free q2 rfl (by decide), alq_keep q3 (by decide)⟩, fun h => absurd (show L 14 = true from h) (by rw [ns]; simp)⟩)
       refine gent_consR (fun vs L w1 hL hw1 => ?_) ?_
       ·obtain ⟨q0, q1, p0, p2⟩ := HO.out _ _ _ hw1
        refine gen_plain rfl ?_
        have ns : L 14 = false := by
         cases h : L 14
         ·rfl
         ·exact absurd ((p2 h).1 8 (by omega) (by decide) (by decide)) (by rw [hL.1]; simp)
        obtain ⟨q2, q3⟩ := p0 ns
        have l0 : L 0 = true := hL.need 0 (by kernel_rfl)
        have e0 := q1 0 _ rfl l0
        have l1 : L 1 = true := hL.need 1 (by kernel_rfl)
        have e1 := q1 1 _ rfl l1
        have l7 : L 7 = true := hL.need 7 (by kernel_rfl)
        have e7 := q1 7 _ rfl l7
        simp only [e0, e1, e7]
        go_simp
        refine gr_call ?_
        refine (HDM.out _ q0).mono ?_
        rintro e w6 ⟨⟨v6, rfl, hz⟩, hg⟩
        have hsz := q0.size
        refine ⟨_, rfl, HI.out _ _ _ ⟨below_grows q0 (Nat.le_refl _) hg, kn_free q1 rfl, fun _ => ⟨dq_put (q2.grows hg) rfl (by decide) ⟨v6, rfl, ?_⟩, alq_keep (q3.grows hg) (by decide)⟩, fun h => absurd (show L 14 = true from h) (by rw [ns]; simp)⟩⟩
        obtain ⟨F1, h1, F2, h2, F3, h3, rfl, hpz⟩ := hz
        exact ⟨F1, h1, F2, h2, F3, h3, rfl, hpz.mono (fun k hk => ⟨by unfold Dk Under at hk; unfold Nk Under; omega, fun hl e => by obtain ⟨q, e2, hb, hbk⟩ := q3 hl; rw [e] at e2; injection e2 with e2; injection e2 with e2; injection e2 with e2; have := hbk.lt; unfold Dk Under at hk; omega⟩)⟩
       refine gent_consR (fun vs L w1 hL hw1 => ?_) ?_
       ·obtain ⟨q0, q1, p0, p2⟩ := HO.out _ _ _ hw1
        refine gen_plain rfl ?_
        have ns : L 14 = false := by
         cases h : L 14
         ·rfl
         ·exact absurd ((p2 h).1 9 (by omega) (by decide) (by decide)) (by rw [hL.1]; simp)
        obtain ⟨q2, q3⟩ := p0 ns
        have p8 := q2 8 _ rfl (hL.need 8 (by kernel_rfl))
        go_simp
        exact gr_val (HI.out _ _ _ ⟨q0, kn_free q1 rfl, fun _ => ⟨dq_put q2 rfl (by decide) p8, alq_keep q3 (by decide)⟩, fun h => absurd (show L 14 = true from h) (by rw [ns]; simp)⟩)
       refine gent_consR (fun vs L w1 hL hw1 => ?_) ?_
       ·obtain ⟨q0, q1, p0, p2⟩ := HO.out _ _ _ hw1
        refine gen_plain rfl ?_
        have ns : L 14 = false := by
         cases h : L 14
         ·rfl
         ·exact absurd ((p2 h).1 10 (by omega) (by decide) (by decide)) (by rw [hL.1]; simp)
        obtain ⟨q2, q3⟩ := p0 ns
        obtain ⟨u, e9, hz⟩ := q2 9 _ rfl (hL.need 9 (by kernel_rfl))
        simp only [e9]
        go_simp
        exact gr_val (HI.out _ _ _ ⟨q0, kn_free q1 rfl, fun _ => ⟨dq_put q2 rfl (by decide) hz, alq_keep q3 (by decide)⟩, fun h => absurd (show L 14 = true from h) (by rw [ns]; simp)⟩)
       refine gent_consR (fun vs L w1 hL hw1 => ?_) ?_
       ·obtain ⟨q0, q1, p0, p2⟩ := HO.out _ _ _ hw1
        refine gen_plain rfl ?_
        have htup : ∃ u, vs 9 = .tuple #[u, .bool sz, .bool mz] := by
         cases h : L 14
         ·obtain ⟨u, e9, -⟩ := (p0 h).1 9 _ rfl (hL.need 9 (by kernel_rfl))
          exact ⟨u, e9⟩
         ·exact (p2 h).2.1
        obtain ⟨u, e9⟩ := htup
        simp only [e9]
        go_simp
        exact gr_val (HI.out _ _ _ ⟨q0, kn_known q1 rfl, fun h => ⟨dq_free (p0 h).1 rfl (by decide), alq_keep (p0 h).2 (by decide)⟩, fun h => ⟨(fun j h1 h2 h3 => by have := (p2 h).1 j h1 h2 h3; unfold upd; split <;> first | rfl | exact this), (p2 h).2.1, (p2 h).2.2⟩⟩)
       refine gent_consR (fun vs L w1 hL hw1 => ?_) ?_
       ·obtain ⟨q0, q1, p0, p2⟩ := HO.out _ _ _ hw1
        refine gen_plain rfl ?_
        have htup : ∃ u, vs 9 = .tuple #[u, .bool sz, .bool mz] := by
         cases h : L 14
         ·obtain ⟨u, e9, -⟩ := (p0 h).1 9 _ rfl (hL.need 9 (by kernel_rfl))
          exact ⟨u, e9⟩
         ·exact (p2 h).2.1
        obtain ⟨u, e9⟩ := htup
        simp only [e9]
        go_simp
        exact gr_val (HI.out _ _ _ ⟨q0, kn_known q1 rfl, fun h => ⟨dq_free (p0 h).1 rfl (by decide), alq_keep (p0 h).2 (by decide)⟩, fun h => ⟨(fun j h1 h2 h3 => by have := (p2 h).1 j h1 h2 h3; unfold upd; split <;> first | rfl | exact this), (p2 h).2.1, (p2 h).2.2⟩⟩)
       refine gent_consR (fun vs L w1 hL hw1 => ?_) ?_
       ·obtain ⟨q0, q1, p0, p2⟩ := HO.out _ _ _ hw1
        refine gen_plain rfl ?_
        have ns : L 14 = false := by
         cases h : L 14
         ·rfl
         ·exact absurd ((p2 h).1 13 (by omega) (by decide) (by decide)) (by rw [hL.1]; simp)
        obtain ⟨q2, q3⟩ := p0 ns
        go_simp
        have hg := (Below.refl w1.heap.size w1).alloc (Nat.le_refl _) (Obj.cells #[.int .i64 0, .slice none 0 0, .slice none 0 0, .slice none 0 0] 61)
        exact gr_val (HI.out _ _ _ ⟨below_grows q0 (Nat.le_refl _) hg, kn_free q1 rfl, fun _ => ⟨dq_alloc q2 rfl hg, alq_new q0.size⟩, fun h => absurd (show L 14 = true from h) (by rw [ns]; simp)⟩)
       refine gent_consR (fun vs L w1 hL hw1 => ?_) ?_
       ·obtain ⟨q0, q1, p0, p2⟩ := HO.out _ _ _ hw1
        refine gen_plain rfl ?_
        have ns : L 14 = false := hL.1
        obtain ⟨q2, q3⟩ := p0 ns
        obtain ⟨q, e13, hbq, hkq⟩ := q3 (hL.need 13 (by kernel_rfl))
        obtain ⟨F1, h1, F2, h2, F3, h3, e10, hpz⟩ := q2 10 _ rfl (hL.need 10 (by kernel_rfl))
        obtain ⟨u, e9, -⟩ := q2 9 _ rfl (hL.need 9 (by kernel_rfl))
        have xq := hkq.cell
        have fq := hkq.frozen
        have hk2 := (((hkq.set_ 0 (.int .i64 z.k)).set_ 1 (.slice F1 z.r.length h1)).set_ 2 (.slice F2 z.m.length h2)).set_ 3 (.slice F3 z.s.length h3)
        have hgq := d_only_set (d_only_set (d_only_set (d_only_set (World.grownBy.refl w1 (some q)) 0 (.int .i64 z.k)) 1 (.slice F1 z.r.length h1)) 2 (.slice F2 z.m.length h2)) 3 (.slice F3 z.s.length h3)
        have hpz2 := hpz.grown hgq (fun g e hh => by injection e with e; subst e; exact hh.2 (hL.need 13 (by kernel_rfl)) e13)
        have hB2 := Below.grown q0 hgq q0.size (fun g e => by injection e with e; omega)
        simp only [e13, e10]
        go_simp
        refine gr_skip ?_
        exact HI.out _ _ _ ⟨hB2, kn_free q1 rfl, fun h => absurd (show true = false from h) (by simp), fun _ => ⟨(fun j h1 h2 h3 => by have := hL.all2 14 11 12 (by kernel_rfl) j h1 h2 h3; unfold upd; split <;> first | rfl | exact this), ⟨u, (show vs 9 = _ from e9)⟩, q, F1, h1, F2, h2, F3, h3, (show vs 13 = _ from e13), hbq, hk2, hpz2.mono (fun k hk => hk.1)⟩⟩
       refine gent_consR (fun vs L w1 hL hw1 => ?_) ?_
       ·obtain ⟨q0, q1, p0, p2⟩ := HO.out _ _ _ hw1
        refine gen_plain rfl ?_
        have hs14 : L 14 = true := hL.need 14 (by kernel_rfl)
        have l11 : L 11 = true := hL.need 11 (by kernel_rfl)
        have e11 := q1 11 _ rfl l11
        simp only [e11]
        go_simp
        exact gr_val (HI.out _ _ _ ⟨q0, kn_known q1 rfl, fun h => absurd (show L 14 = false from h) (by rw [hs14]; simp), fun h => ⟨(fun j h1 h2 h3 => by have := (p2 h).1 j h1 h2 h3; unfold upd; split <;> first | rfl | exact this), (p2 h).2.1, (p2 h).2.2⟩⟩)
       refine gent_consR (fun vs L w1 hL hw1 => ?_) ?_
       ·obtain ⟨q0, q1, p0, p2⟩ := HO.out _ _ _ hw1
        refine gen_plain rfl ?_
        have hs14 : L 14 = true := hL.need 14 (by kernel_rfl)
        have l12 : L 12 = true := hL.need 12 (by kernel_rfl)
        have e12 := q1 12 _ rfl l12
        simp only [e12]
        go_simp
        exact gr_val (HI.out _ _ _ ⟨q0, kn_known q1 rfl, fun h => absurd (show L 14 = false from h) (by rw [hs14]; simp), fun h => ⟨(fun j h1 h2 h3 => by have := (p2 h).1 j h1 h2 h3; unfold upd; split <;> first | rfl | exact this), (p2 h).2.1, (p2 h).2.2⟩⟩)
       refine gent_nil ?_
       intro vs L W3 hall hS
       obtain ⟨q0, q1, -, p2⟩ := HO.out _ _ _ hS
       obtain ⟨-, -, q17, F1, h1, F2, h2, F3, h3, e13, hb17, k17, hpz⟩ := p2 (hall 14 (by omega))
       have e15 := q1 15 _ rfl (hall 15 (by omega))
       have e16 := q1 16 _ rfl (hall 16 (by omega))
       clear hall hS HI HO q1 p2 HDM k13w q21w hadw k16
       have hown := hw.lt
       simp only [e13, e15, e16]
       clear e13 e15 e16
       generalize vs 0 = yv
       generalize vs 1 = yv
       generalize vs 2 = yv
       generalize vs 3 = yv
       generalize vs 4 = yv
       generalize vs 5 = yv
       generalize vs 6 = yv
       generalize vs 7 = yv
       generalize vs 8 = yv
       generalize vs 9 = yv
       generalize vs 10 = yv
       generalize vs 11 = yv
       generalize vs 12 = yv
       generalize vs 13 = yv
       generalize vs 14 = yv
       generalize vs 15 = yv
       generalize vs 16 = yv
       have hg9 := below_grows hg8 (Nat.le_refl _) q0
       have hs9 := q0.size
       replace hw := hw.grows q0
       clear q0 hg8
       cases sz with
       | false =>
        have HN2 : Hid (onlyR dd (xN.take (k + 1)) Y = onlyR dd (xN.take k) Y) := Lib.hid (by rw [HON.out, if_neg (by simp), List.append_nil])
        rw [← HN2.out] at hw
        clear hsz hpz k17 hown
        go_wp2
        go_roundw
        case rel => exact ⟨k + 1, by omega, by go_num, hw, hg9⟩
        case measure => simp [intOf]; omega
       | true =>
        have HN2 : Hid (onlyR dd (xN.take (k + 1)) Y = onlyR dd (xN.take k) Y ++ [z]) := Lib.hid (by rw [HON.out, if_pos rfl])
        have x17 := k17.cell
        clear hsz
        generalize onlyR dd (xN.take k) Y = R at *
        go_upto_region 18 with fail
        refine wp_region_lit ?_
        iterate 2
         refine wpList_plain rfl (fun K hK => ?_)
         go_simp
         refine hK _ _ ?_
         clear hK K
        replace hpz : BoxP W3 (Aq (fun q => q ≠ G) _) z F1 h1 F2 h2 F3 h3 := hpz.mono (fun k hk => by
         unfold Nk Under at hk
         exact ⟨by omega, fun e => by have h9 := hown _ e; omega⟩)
        refine wpList_plain rfl (fun K hK => ?_)
        go_simp
        refine hK _ _ ?_
        clear hK K
        have hown2 := hw.lt
        have hL := bxs_lit hpz ⟨by omega, fun e => by have := (hown2 _ e).2; omega⟩
        have hq := (Below.refl W3.heap.size W3).alloc (Nat.le_refl _) (Obj.cells #[.int .i64 z.k, .slice F1 z.r.length h1, .slice F2 z.m.length h2, .slice F3 z.s.length h3] 61)
        replace hw := hw.grows hq
        replace hg9 := below_grows hg9 (Nat.le_refl _) hq
        have hown3 := hw.lt
        clear hq hpz hown hown2 x17 k17
        refine wpList_append_boxesq rfl (.tmp 101) (.tmp 103) rfl (m := [z]) rfl rfl hw rfl hL (by simp only [List.length_singleton]; omega) hg9.size ?_
        intro v5 w12 ho2 hgr hv5
        replace hg9 := hg9.grown hgr hg9.size (fun q e => (hown3 q e).1)
        rw [← HN2.out] at ho2
        clear hown3 hgr hw hL hv5
        go_wp2
        go_roundw
        case rel => exact ⟨k + 1, by omega, by go_num, ho2, hg9⟩
        case measure => simp [intOf]; omega
      ·have hR : xN.take k = xN := List.take_of_length_le (by omega)
       rw [hR] at hw
       obtain ⟨A9, c9, rfl, hc9, hxo⟩ := hw.read
       have hRl := only_len dd xN Y
       have HRO := Lib.hid (only_okb (d := dd) (c := Y) HFN.out.okb)
       have HBE := Lib.hid (fun (w0 : World) (hg2 : Grows wr w0) => rbestl_any (w := w0) (c := c9) (ci := cY) (want := Y) (I := AY) (hxo.grows hg2) (by omega) hc9 HRO.out (InB.ints ((RdB.grows hiY hg).grows hg2)) hOY)
       have HX1 := HX0.out
       generalize onlyR dd xN Y = R at *
       generalize bestL (bestR Y) Y R = XO at *
       obtain ⟨X, bo⟩ := XO
       have HX : Hid (f j = X) := Lib.hid HX1
       have x12 := (k12.grows hg).cell
       have hch7 := hch6.grows hg
       have hg7 := below_grows hg6 (Nat.le_refl _) hg
       clear HX1 hR hw
       go_wp2_with fail
       refine (HBE.out _ (Below.refl _ _)).mono ?_
       rintro e w9 ⟨⟨v9, rfl, A6, n6, rfl, hn6, hx6⟩, hq⟩
       replace hg7 := below_grows hg7 (Nat.le_refl _) hq
       have hch2 := hch7.grows hq
       have hs9 := hg.size
       clear hq HBE hch7 x12 hxo
       obtain ⟨v0, v1, v2, v3, y0, y1, y2, y3, z0, z1, z2, z3⟩ := hch2.old (i := j) c6
       have hcp := hch2.put (i := j) (A := A6) (c := n6) c6 (by rw [HX.out]; exact hn6) (by
        rw [HX.out]
        exact RdB.mono hx6 (fun k hk => by
         have hk := hk.1
         exact ⟨Nat.zero_le _, by rcases hk with h | h <;> omega⟩))
       rw [HX.out] at hcp
       have hgf := Below.grown hg7 (putC_only w9 G (j * 4) X A6 n6) hg7.size (fun q e => by injection e with e; omega)
       have hch3 := ChG.sub (W2 := fun k => j ≤ k) hcp (fun k hk hw => by have := HJ1.out; omega)
       clear hch2 hcp hg7 hx6 HX hg
       go_wp2
       go_roundw
       case rel => exact ⟨j, m + 1, _, by have := HJM.out; omega, rfl, Lib.hid rfl, hch3, hgf⟩
       case measure => simp [intOf]
 ·have HE := Lib.hid (choose_no (want := want) HF.out hfe)
  have e5 : (fe != 0) = true := bne_iff_ne.2 hfe
  have e6 : decide (fe = 0) = false := decide_eq_false hfe
  have x5 := k5.cell
  have f5 := k5.frozen
  have x8 := k8.cell
  clear hfe h hi
  go_upto_region 3 with fail
  have hB3 := ((hB.setCell (p := ⟨w.heap.size + 1, 0, none⟩) (by simp) (.int .i64 fa)).setCell (p := ⟨w.heap.size + 1, 1, none⟩) (by simp) (.int .i64 fb)).drew
  have x3z := ((k5.set_ 0 (.int .i64 fa)).set_ 1 (.int .i64 fb)).drew.cell
  go_region
  go_wp2
  generalize World.drew _ = wz at *
  refine bodyPost_ret (v := .tuple #[.slice none 0 0, .agg #[.int .i64 fa, .int .i64 fb], .int .i64 fe]) (by simp [results, Tryz.results17, go_sem, x3z]) rfl ?_
  rw [HE.out]
  exact ⟨⟨none, 0, rfl, Nat.le_refl _, Chs.nil⟩, hB3⟩
end Go.Proofs.YtjbkjgmcfommgaaGreat

namespace Go.Proofs.YtjbkjgmcfommgaaGreat
open Go.RowKit
set_option maxHeartbeats 64000000 in
set_option maxRecDepth 10000 in
theorem ragree_any {A B : Option Addr} {c d : Nat} {a b : Ch} {w : World} (dd : Int) (ia : Ints w A a.m) (ib : Ints w B b.m) (ha : a.m.length ≤ 9223372036854775807) (hb : b.m.length ≤ 9223372036854775807) :
 Calls Tryz.prog 44 #[.agg #[.int .i64 a.k, .int .i64 a.r, .slice A a.m.length c, .int .i64 a.s], .agg #[.int .i64 b.k, .int .i64 b.r, .slice B b.m.length d, .int .i64 b.s], .int .i64 dd] w fun e w' => e = .returned (.bool (agD dd a b)) ∧ Grows w w' := by
 have k3 := (Blk.new w 42 #[.int .i64 a.k, .int .i64 a.r, .slice A a.m.length c, .int .i64 a.s]).alloc (Obj.cells #[.int .i64 b.k, .int .i64 b.r, .slice B b.m.length d, .int .i64 b.s] 42)
 have k4 := blk_new_at (X := w.alloc (Obj.cells #[.int .i64 a.k, .int .i64 a.r, .slice A a.m.length c, .int .i64 a.s] 42)) (n := w.heap.size + 1) (t := 42) (cs := #[.int .i64 b.k, .int .i64 b.r, .slice B b.m.length d, .int .i64 b.s]) (by simp)
 have hB := ((Below.refl w.heap.size w).alloc (Nat.le_refl _) (Obj.cells #[.int .i64 a.k, .int .i64 a.r, .slice A a.m.length c, .int .i64 a.s] 42)).alloc (by simp) (Obj.cells #[.int .i64 b.k, .int .i64 b.r, .slice B b.m.length d, .int .i64 b.s] 42)
 go_enter Tryz.func44, Tryz.ntmps44
 go_upto_region 1 with fail
 have hs1 : (w.alloc (Obj.cells #[.int .i64 a.k, .int .i64 a.r, .slice A a.m.length c, .int .i64 a.s] 42)).heap.size = w.heap.size + 1 := by simp
 try rw [hs1] at k4
 clear hs1
 generalize World.alloc (World.alloc w _) _ = w2 at *
 have HG : Hid (agD dd a b = ((!bitZ dd 1 || decide (a.k = b.k)) && (!bitZ dd 2 || decide (a.r = b.r)) && (!bitZ dd 4 || decide (a.m = b.m)) && (!bitZ dd 8 || decide (a.s = b.s)))) := Lib.hid rfl
 have HC := Lib.hid (fun (w0 : World) (hg : Grows w2 w0) => rsame6_any A B c d a.m b.m w0 (Ints.grows (Ints.grows ia hB) hg) (Ints.grows (Ints.grows ib hB) hg) (by omega) (by omega))
 have x3 := k3.cell
 have x4 := k4.cell
 cases h1 : bitZ dd 1 with
 | false =>
  cases h2 : bitZ dd 2 with
  | false =>
   cases h3 : bitZ dd 4 with
   | false =>
    cases h4 : bitZ dd 8 with
    | false =>
     have HE : Hid (agD dd a b = true) := Lib.hid (HG.out.trans (by simp only [h1, h2, h3, h4, Bool.not_true, Bool.not_false, Bool.true_or, Bool.false_or, Bool.and_true, Bool.true_and, Bool.and_false, Bool.false_and]))
     have u1 : (bits .and .i64 dd 1 == 0) = true := by have := h1; unfold bitZ at this; simpa using this
     have t1 : decide (bits .and .i64 dd 1 = 0) = true := by have := u1; simpa using this
     have u2 : (bits .and .i64 dd 2 == 0) = true := by have := h2; unfold bitZ at this; simpa using this
     have t2 : decide (bits .and .i64 dd 2 = 0) = true := by have := u2; simpa using this
     have u3 : (bits .and .i64 dd 4 == 0) = true := by have := h3; unfold bitZ at this; simpa using this
     have t3 : decide (bits .and .i64 dd 4 = 0) = true := by have := u3; simpa using this
     have u4 : (bits .and .i64 dd 8 == 0) = true := by have := h4; unfold bitZ at this; simpa using this
     have t4 : decide (bits .and .i64 dd 8 = 0) = true := by have := u4; simpa using this
     clear HG h1 h2 h3 h4
     go_wp2
     go_ret
     exact ⟨ret_bool HE.out.symm, hB⟩
    | true =>
     cases g4 : decide (a.s = b.s) with
     | false =>
      have HE : Hid (agD dd a b = false) := Lib.hid (HG.out.trans (by simp only [h1, h2, h3, h4, g4, Bool.not_true, Bool.not_false, Bool.true_or, Bool.false_or, Bool.and_true, Bool.true_and, Bool.and_false, Bool.false_and]))
      have u1 : (bits .and .i64 dd 1 == 0) = true := by have := h1; unfold bitZ at this; simpa using this
      have t1 : decide (bits .and .i64 dd 1 = 0) = true := by have := u1; simpa using this
      have u2 : (bits .and .i64 dd 2 == 0) = true := by have := h2; unfold bitZ at this; simpa using this
      have t2 : decide (bits .and .i64 dd 2 = 0) = true := by have := u2; simpa using this
      have u3 : (bits .and .i64 dd 4 == 0) = true := by have := h3; unfold bitZ at this; simpa using this
      have t3 : decide (bits .and .i64 dd 4 = 0) = true := by have := u3; simpa using this
      have u4 : (bits .and .i64 dd 8 == 0) = false := by have := h4; unfold bitZ at this; simpa using this
      have t4 : decide (bits .and .i64 dd 8 = 0) = false := by have := u4; simpa using this
      have v4 : (a.s == b.s) = false := by have := g4; simpa using this
      clear HG h1 h2 h3 h4
      go_wp2
      go_ret
      exact ⟨ret_bool HE.out.symm, hB⟩
     | true =>
      have HE : Hid (agD dd a b = true) := Lib.hid (HG.out.trans (by simp only [h1, h2, h3, h4, g4, Bool.not_true, Bool.not_false, Bool.true_or, Bool.false_or, Bool.and_true, Bool.true_and, Bool.and_false, Bool.false_and]))
      have u1 : (bits .and .i64 dd 1 == 0) = true := by have := h1; unfold bitZ at this; simpa using this
      have t1 : decide (bits .and .i64 dd 1 = 0) = true := by have := u1; simpa using this
      have u2 : (bits .and .i64 dd 2 == 0) = true := by have := h2; unfold bitZ at this; simpa using this
      have t2 : decide (bits .and .i64 dd 2 = 0) = true := by have := u2; simpa using this
      have u3 : (bits .and .i64 dd 4 == 0) = true := by have := h3; unfold bitZ at this; simpa using this
      have t3 : decide (bits .and .i64 dd 4 = 0) = true := by have := u3; simpa using this
      have u4 : (bits .and .i64 dd 8 == 0) = false := by have := h4; unfold bitZ at this; simpa using this
      have t4 : decide (bits .and .i64 dd 8 = 0) = false := by have := u4; simpa using this
      have v4 : (a.s == b.s) = true := by have := g4; simpa using this
      clear HG h1 h2 h3 h4
      go_wp2
      go_ret
      exact ⟨ret_bool HE.out.symm, hB⟩
   | true =>
    cases g3 : decide (a.m = b.m) with
    | false =>
     have HE : Hid (agD dd a b = false) := Lib.hid (HG.out.trans (by simp only [h1, h2, h3, g3, Bool.not_true, Bool.not_false, Bool.true_or, Bool.false_or, Bool.and_true, Bool.true_and, Bool.and_false, Bool.false_and]))
     have u1 : (bits .and .i64 dd 1 == 0) = true := by have := h1; unfold bitZ at this; simpa using this
     have t1 : decide (bits .and .i64 dd 1 = 0) = true := by have := u1; simpa using this
     have u2 : (bits .and .i64 dd 2 == 0) = true := by have := h2; unfold bitZ at this; simpa using this
     have t2 : decide (bits .and .i64 dd 2 = 0) = true := by have := u2; simpa using this
     have u3 : (bits .and .i64 dd 4 == 0) = false := by have := h3; unfold bitZ at this; simpa using this
     have t3 : decide (bits .and .i64 dd 4 = 0) = false := by have := u3; simpa using this
     clear HG h1 h2 h3
     go_wp2_with fail
     refine (HC.out _ (Below.refl _ _)).mono ?_
     rw [g3]
     rintro e w3 ⟨rfl, hq⟩
     replace k3 := k3.grows hq
     replace k4 := k4.grows hq
     replace hB := below_grows hB (Nat.le_refl _) hq
     clear hq x3 x4
     have x3 := k3.cell
     have x4 := k4.cell
     go_wp2
     go_ret
     exact ⟨ret_bool HE.out.symm, hB⟩
    | true =>
     cases h4 : bitZ dd 8 with
     | false =>
      have HE : Hid (agD dd a b = true) := Lib.hid (HG.out.trans (by simp only [h1, h2, h3, g3, h4, Bool.not_true, Bool.not_false, Bool.true_or, Bool.false_or, Bool.and_true, Bool.true_and, Bool.and_false, Bool.false_and]))
      have u1 : (bits .and .i64 dd 1 == 0) = true := by have := h1; unfold bitZ at this; simpa using this
      have t1 : decide (bits .and .i64 dd 1 = 0) = true := by have := u1; simpa using this
      have u2 : (bits .and .i64 dd 2 == 0) = true := by have := h2; unfold bitZ at this; simpa using this
      have t2 : decide (bits .and .i64 dd 2 = 0) = true := by have := u2; simpa using this
      have u3 : (bits .and .i64 dd 4 == 0) = false := by have := h3; unfold bitZ at this; simpa using this
      have t3 : decide (bits .and .i64 dd 4 = 0) = false := by have := u3; simpa using this
      have u4 : (bits .and .i64 dd 8 == 0) = true := by have := h4; unfold bitZ at this; simpa using this
      have t4 : decide (bits .and .i64 dd 8 = 0) = true := by have := u4; simpa using this
      clear HG h1 h2 h3 h4
      go_wp2_with fail
      refine (HC.out _ (Below.refl _ _)).mono ?_
      rw [g3]
      rintro e w3 ⟨rfl, hq⟩
      replace k3 := k3.grows hq
      replace k4 := k4.grows hq
      replace hB := below_grows hB (Nat.le_refl _) hq
      clear hq x3 x4
      have x3 := k3.cell
      have x4 := k4.cell
      go_wp2
      go_ret
      exact ⟨ret_bool HE.out.symm, hB⟩
     | true =>
      cases g4 : decide (a.s = b.s) with
      | false =>
       have HE : Hid (agD dd a b = false) := Lib.hid (HG.out.trans (by simp only [h1, h2, h3, g3, h4, g4, Bool.not_true, Bool.not_false, Bool.true_or, Bool.false_or, Bool.and_true, Bool.true_and, Bool.and_false, Bool.false_and]))
       have u1 : (bits .and .i64 dd 1 == 0) = true := by have := h1; unfold bitZ at this; simpa using this
       have t1 : decide (bits .and .i64 dd 1 = 0) = true := by have := u1; simpa using this
       have u2 : (bits .and .i64 dd 2 == 0) = true := by have := h2; unfold bitZ at this; simpa using this
       have t2 : decide (bits .and .i64 dd 2 = 0) = true := by have := u2; simpa using this
       have u3 : (bits .and .i64 dd 4 == 0) = false := by have := h3; unfold bitZ at this; simpa using this
       have t3 : decide (bits .and .i64 dd 4 = 0) = false := by have := u3; simpa using this
       have u4 : (bits .and .i64 dd 8 == 0) = false := by have := h4; unfold bitZ at this; simpa using this
       have t4 : decide (bits .and .i64 dd 8 = 0) = false := by have := u4; simpa using this
       have v4 : (a.s == b.s) = false := by have := g4; simpa using this
       clear HG h1 h2 h3 h4
       go_wp2_with fail
       refine (HC.out _ (Below.refl _ _)).mono ?_
       rw [g3]
       rintro e w3 ⟨rfl, hq⟩
       replace k3 := k3.grows hq
       replace k4 := k4.grows hq
       replace hB := below_grows hB (Nat.le_refl _) hq
       clear hq x3 x4
       have x3 := k3.cell
       have x4 := k4.cell
       go_wp2
       go_ret
       exact ⟨ret_bool HE.out.symm, hB⟩
      | true =>
       have HE : Hid (agD dd a b = true) := Lib.hid (HG.out.trans (by simp only [h1, h2, h3, g3, h4, g4, Bool.not_true, Bool.not_false, Bool.true_or, Bool.false_or, Bool.and_true, Bool.true_and, Bool.and_false, Bool.false_and]))
       have u1 : (bits .and .i64 dd 1 == 0) = true := by have := h1; unfold bitZ at this; simpa using this
       have t1 : decide (bits .and .i64 dd 1 = 0) = true := by have := u1; simpa using this
       have u2 : (bits .and .i64 dd 2 == 0) = true := by have := h2; unfold bitZ at this; simpa using this
       have t2 : decide (bits .and .i64 dd 2 = 0) = true := by have := u2; simpa using this
       have u3 : (bits .and .i64 dd 4 == 0) = false := by have := h3; unfold bitZ at this; simpa using this
       have t3 : decide (bits .and .i64 dd 4 = 0) = false := by have := u3; simpa using this
       have u4 : (bits .and .i64 dd 8 == 0) = false := by have := h4; unfold bitZ at this; simpa using this
       have t4 : decide (bits .and .i64 dd 8 = 0) = false := by have := u4; simpa using this
       have v4 : (a.s == b.s) = true := by have := g4; simpa using this
       clear HG h1 h2 h3 h4
       go_wp2_with fail
       refine (HC.out _ (Below.refl _ _)).mono ?_
       rw [g3]
       rintro e w3 ⟨rfl, hq⟩
       replace k3 := k3.grows hq
       replace k4 := k4.grows hq
       replace hB := below_grows hB (Nat.le_refl _) hq
       clear hq x3 x4
       have x3 := k3.cell
       have x4 := k4.cell
       go_wp2
       go_ret
       exact ⟨ret_bool HE.out.symm, hB⟩
  | true =>
   cases g2 : decide (a.r = b.r) with
   | false =>
    have HE : Hid (agD dd a b = false) := Lib.hid (HG.out.trans (by simp only [h1, h2, g2, Bool.not_true, Bool.not_false, Bool.true_or, Bool.false_or, Bool.and_true, Bool.true_and, Bool.and_false, Bool.false_and]))
    have u1 : (bits .and .i64 dd 1 == 0) = true := by have := h1; unfold bitZ at this; simpa using this
    have t1 : decide (bits .and .i64 dd 1 = 0) = true := by have := u1; simpa using this
    have u2 : (bits .and .i64 dd 2 == 0) = false := by have := h2; unfold bitZ at this; simpa using this
    have t2 : decide (bits .and .i64 dd 2 = 0) = false := by have := u2; simpa using this
    have v2 : (a.r == b.r) = false := by have := g2; simpa using this
    clear HG h1 h2
    go_wp2
    go_ret
    exact ⟨ret_bool HE.out.symm, hB⟩
   | true =>
    cases h3 : bitZ dd 4 with
    | false =>
     cases h4 : bitZ dd 8 with
     | false =>
      have HE : Hid (agD dd a b = true) := Lib.hid (HG.out.trans (by simp only [h1, h2, g2, h3, h4, Bool.not_true, Bool.not_false, Bool.true_or, Bool.false_or, Bool.and_true, Bool.true_and, Bool.and_false, Bool.false_and]))
      have u1 : (bits .and .i64 dd 1 == 0) = true := by have := h1; unfold bitZ at this; simpa using this
      have t1 : decide (bits .and .i64 dd 1 = 0) = true := by have := u1; simpa using this
      have u2 : (bits .and .i64 dd 2 == 0) = false := by have := h2; unfold bitZ at this; simpa using this
      have t2 : decide (bits .and .i64 dd 2 = 0) = false := by have := u2; simpa using this
      have v2 : (a.r == b.r) = true := by have := g2; simpa using this
      have u3 : (bits .and .i64 dd 4 == 0) = true := by have := h3; unfold bitZ at this; simpa using this
      have t3 : decide (bits .and .i64 dd 4 = 0) = true := by have := u3; simpa using this
      have u4 : (bits .and .i64 dd 8 == 0) = true := by have := h4; unfold bitZ at this; simpa using this
      have t4 : decide (bits .and .i64 dd 8 = 0) = true := by have := u4; simpa using this
      clear HG h1 h2 h3 h4
      go_wp2
      go_ret
      exact ⟨ret_bool HE.out.symm, hB⟩
     | true =>
      cases g4 : decide (a.s = b.s) with
      | false =>
       have HE : Hid (agD dd a b = false) := Lib.hid (HG.out.trans (by simp only [h1, h2, g2, h3, h4, g4, Bool.not_true, Bool.not_false, Bool.true_or, Bool.false_or, Bool.and_true, Bool.true_and, Bool.and_false, Bool.false_and]))
       have u1 : (bits .and .i64 dd 1 == 0) = true := by have := h1; unfold bitZ at this; simpa using this
       have t1 : decide (bits .and .i64 dd 1 = 0) = true := by have := u1; simpa using this
       have u2 : (bits .and .i64 dd 2 == 0) = false := by have := h2; unfold bitZ at this; simpa using this
       have t2 : decide (bits .and .i64 dd 2 = 0) = false := by have := u2; simpa using this
       have v2 : (a.r == b.r) = true := by have := g2; simpa using this
       have u3 : (bits .and .i64 dd 4 == 0) = true := by have := h3; unfold bitZ at this; simpa using this
       have t3 : decide (bits .and .i64 dd 4 = 0) = true := by have := u3; simpa using this
       have u4 : (bits .and .i64 dd 8 == 0) = false := by have := h4; unfold bitZ at this; simpa using this
       have t4 : decide (bits .and .i64 dd 8 = 0) = false := by have := u4; simpa using this
       have v4 : (a.s == b.s) = false := by have := g4; simpa using this
       clear HG h1 h2 h3 h4
       go_wp2
       go_ret
       exact ⟨ret_bool HE.out.symm, hB⟩
      | true =>
       have HE : Hid (agD dd a b = true) := Lib.hid (HG.out.trans (by simp only [h1, h2, g2, h3, h4, g4, Bool.not_true, Bool.not_false, Bool.true_or, Bool.false_or, Bool.and_true, Bool.true_and, Bool.and_false, Bool.false_and]))
       have u1 : (bits .and .i64 dd 1 == 0) = true := by have := h1; unfold bitZ at this; simpa using this
       have t1 : decide (bits .and .i64 dd 1 = 0) = true := by have := u1; simpa using this
       have u2 : (bits .and .i64 dd 2 == 0) = false := by have := h2; unfold bitZ at this; simpa using this
       have t2 : decide (bits .and .i64 dd 2 = 0) = false := by have := u2; simpa using this
       have v2 : (a.r == b.r) = true := by have := g2; simpa using this
       have u3 : (bits .and .i64 dd 4 == 0) = true := by have := h3; unfold bitZ at this; simpa using this
       have t3 : decide (bits .and .i64 dd 4 = 0) = true := by have := u3; simpa using this
       have u4 : (bits .and .i64 dd 8 == 0) = false := by have := h4; unfold bitZ at this; simpa using this
       have t4 : decide (bits .and .i64 dd 8 = 0) = false := by have := u4; simpa using this
       have v4 : (a.s == b.s) = true := by have := g4; simpa using this
       clear HG h1 h2 h3 h4
       go_wp2
       go_ret
       exact ⟨ret_bool HE.out.symm, hB⟩
    | true =>
     cases g3 : decide (a.m = b.m) with
     | false =>
      have HE : Hid (agD dd a b = false) := Lib.hid (HG.out.trans (by simp only [h1, h2, g2, h3, g3, Bool.not_true, Bool.not_false, Bool.true_or, Bool.false_or, Bool.and_true, Bool.true_and, Bool.and_false, Bool.false_and]))
      have u1 : (bits .and .i64 dd 1 == 0) = true := by have := h1; unfold bitZ at this; simpa using this
      have t1 : decide (bits .and .i64 dd 1 = 0) = true := by have := u1; simpa using this
      have u2 : (bits .and .i64 dd 2 == 0) = false := by have := h2; unfold bitZ at this; simpa using this
      have t2 : decide (bits .and .i64 dd 2 = 0) = false := by have := u2; simpa using this
      have v2 : (a.r == b.r) = true := by have := g2; simpa using this
      have u3 : (bits .and .i64 dd 4 == 0) = false := by have := h3; unfold bitZ at this; simpa using this
      have t3 : decide (bits .and .i64 dd 4 = 0) = false := by have := u3; simpa using this
      clear HG h1 h2 h3
      go_wp2_with fail
      refine (HC.out _ (Below.refl _ _)).mono ?_
      rw [g3]
      rintro e w3 ⟨rfl, hq⟩
      replace k3 := k3.grows hq
      replace k4 := k4.grows hq
      replace hB := below_grows hB (Nat.le_refl _) hq
      clear hq x3 x4
      have x3 := k3.cell
      have x4 := k4.cell
      go_wp2
      go_ret
      exact ⟨ret_bool HE.out.symm, hB⟩
     | true =>
      cases h4 : bitZ dd 8 with
      | false =>
       have HE : Hid (agD dd a b = true) := Lib.hid (HG.out.trans (by simp only [h1, h2, g2, h3, g3, h4, Bool.not_true, Bool.not_false, Bool.true_or, Bool.false_or, Bool.and_true, Bool.true_and, Bool.and_false, Bool.false_and]))
       have u1 : (bits .and .i64 dd 1 == 0) = true := by have := h1; unfold bitZ at this; simpa using this
       have t1 : decide (bits .and .i64 dd 1 = 0) = true := by have := u1; simpa using this
       have u2 : (bits .and .i64 dd 2 == 0) = false := by have := h2; unfold bitZ at this; simpa using this
       have t2 : decide (bits .and .i64 dd 2 = 0) = false := by have := u2; simpa using this
       have v2 : (a.r == b.r) = true := by have := g2; simpa using this
       have u3 : (bits .and .i64 dd 4 == 0) = false := by have := h3; unfold bitZ at this; simpa using this
       have t3 : decide (bits .and .i64 dd 4 = 0) = false := by have := u3; simpa using this
       have u4 : (bits .and .i64 dd 8 == 0) = true := by have := h4; unfold bitZ at this; simpa using this
       have t4 : decide (bits .and .i64 dd 8 = 0) = true := by have := u4; simpa using this
       clear HG h1 h2 h3 h4
       go_wp2_with fail
       refine (HC.out _ (Below.refl _ _)).mono ?_
       rw [g3]
       rintro e w3 ⟨rfl, hq⟩
       replace k3 := k3.grows hq
       replace k4 := k4.grows hq
       replace hB := below_grows hB (Nat.le_refl _) hq
       clear hq x3 x4
       have x3 := k3.cell
       have x4 := k4.cell
       go_wp2
       go_ret
       exact ⟨ret_bool HE.out.symm, hB⟩
      | true =>
       cases g4 : decide (a.s = b.s) with
       | false =>
        have HE : Hid (agD dd a b = false) := Lib.hid (HG.out.trans (by simp only [h1, h2, g2, h3, g3, h4, g4, Bool.not_true, Bool.not_false, Bool.true_or, Bool.false_or, Bool.and_true, Bool.true_and, Bool.and_false, Bool.false_and]))
        have u1 : (bits .and .i64 dd 1 == 0) = true := by have := h1; unfold bitZ at this; simpa using this
        have t1 : decide (bits .and .i64 dd 1 = 0) = true := by have := u1; simpa using this
        have u2 : (bits .and .i64 dd 2 == 0) = false := by have := h2; unfold bitZ at this; simpa using this
        have t2 : decide (bits .and .i64 dd 2 = 0) = false := by have := u2; simpa using this
        have v2 : (a.r == b.r) = true := by have := g2; simpa using this
        have u3 : (bits .and .i64 dd 4 == 0) = false := by have := h3; unfold bitZ at this; simpa using this
        have t3 : decide (bits .and .i64 dd 4 = 0) = false := by have := u3; simpa using this
        have u4 : (bits .and .i64 dd 8 == 0) = false := by have := h4; unfold bitZ at this; simpa using this
        have t4 : decide (bits .and .i64 dd 8 = 0) = false := by have := u4; simpa using this
        have v4 : (a.s == b.s) = false := by have := g4; simpa using this
        clear HG h1 h2 h3 h4
        go_wp2_with fail
        refine (HC.out _ (Below.refl _ _)).mono ?_
        rw [g3]
        rintro e w3 ⟨rfl, hq⟩
        replace k3 := k3.grows hq
        replace k4 := k4.grows hq
        replace hB := below_grows hB (Nat.le_refl _) hq
        clear hq x3 x4
        have x3 := k3.cell
        have x4 := k4.cell
        go_wp2
        go_ret
        exact ⟨ret_bool HE.out.symm, hB⟩
       | true =>
        have HE : Hid (agD dd a b = true) := Lib.hid (HG.out.trans (by simp only [h1, h2, g2, h3, g3, h4, g4, Bool.not_true, Bool.not_false, Bool.true_or, Bool.false_or, Bool.and_true, Bool.true_and, Bool.and_false, Bool.false_and]))
        have u1 : (bits .and .i64 dd 1 == 0) = true := by have := h1; unfold bitZ at this; simpa using this
        have t1 : decide (bits .and .i64 dd 1 = 0) = true := by have := u1; simpa using this
        have u2 : (bits .and .i64 dd 2 == 0) = false := by have := h2; unfold bitZ at this; simpa using this
        have t2 : decide (bits .and .i64 dd 2 = 0) = false := by have := u2; simpa using this
        have v2 : (a.r == b.r) = true := by have := g2; simpa using this
        have u3 : (bits .and .i64 dd 4 == 0) = false := by have := h3; unfold bitZ at this; simpa using this
        have t3 : decide (bits .and .i64 dd 4 = 0) = false := by have := u3; simpa using this
        have u4 : (bits .and .i64 dd 8 == 0) = false := by have := h4; unfold bitZ at this; simpa using this
        have t4 : decide (bits .and .i64 dd 8 = 0) = false := by have := u4; simpa using this
        have v4 : (a.s == b.s) = true := by have := g4; simpa using this
        clear HG h1 h2 h3 h4
        go_wp2_with fail
        refine (HC.out _ (Below.refl _ _)).mono ?_
        rw [g3]
        rintro e w3 ⟨rfl, hq⟩
        replace k3 := k3.grows hq
        replace k4 := k4.grows hq
        replace hB := below_grows hB (Nat.le_refl _) hq
        clear hq x3 x4
        have x3 := k3.cell
        have x4 := k4.cell
        go_wp2
        go_ret
        exact ⟨ret_bool HE.out.symm, hB⟩
 | true =>
  cases g1 : decide (a.k = b.k) with
  | false =>
   have HE : Hid (agD dd a b = false) := Lib.hid (HG.out.trans (by simp only [h1, g1, Bool.not_true, Bool.not_false, Bool.true_or, Bool.false_or, Bool.and_true, Bool.true_and, Bool.and_false, Bool.false_and]))
   have u1 : (bits .and .i64 dd 1 == 0) = false := by have := h1; unfold bitZ at this; simpa using this
   have t1 : decide (bits .and .i64 dd 1 = 0) = false := by have := u1; simpa using this
   have v1 : (a.k == b.k) = false := by have := g1; simpa using this
   clear HG h1
   go_wp2
   go_ret
   exact ⟨ret_bool HE.out.symm, hB⟩
  | true =>
   cases h2 : bitZ dd 2 with
   | false =>
    cases h3 : bitZ dd 4 with
    | false =>
     cases h4 : bitZ dd 8 with
     | false =>
      have HE : Hid (agD dd a b = true) := Lib.hid (HG.out.trans (by simp only [h1, g1, h2, h3, h4, Bool.not_true, Bool.not_false, Bool.true_or, Bool.false_or, Bool.and_true, Bool.true_and, Bool.and_false, Bool.false_and]))
      have u1 : (bits .and .i64 dd 1 == 0) = false := by have := h1; unfold bitZ at this; simpa using this
      have t1 : decide (bits .and .i64 dd 1 = 0) = false := by have := u1; simpa using this
      have v1 : (a.k == b.k) = true := by have := g1; simpa using this
      have u2 : (bits .and .i64 dd 2 == 0) = true := by have := h2; unfold bitZ at this; simpa using this
      have t2 : decide (bits .and .i64 dd 2 = 0) = true := by have := u2; simpa using this
      have u3 : (bits .and .i64 dd 4 == 0) = true := by have := h3; unfold bitZ at this; simpa using this
      have t3 : decide (bits .and .i64 dd 4 = 0) = true := by have := u3; simpa using this
      have u4 : (bits .and .i64 dd 8 == 0) = true := by have := h4; unfold bitZ at this; simpa using this
      have t4 : decide (bits .and .i64 dd 8 = 0) = true := by have := u4; simpa using this
      clear HG h1 h2 h3 h4
      go_wp2
      go_ret
      exact ⟨ret_bool HE.out.symm, hB⟩
     | true =>
      cases g4 : decide (a.s = b.s) with
      | false =>
       have HE : Hid (agD dd a b = false) := Lib.hid (HG.out.trans (by simp only [h1, g1, h2, h3, h4, g4, Bool.not_true, Bool.not_false, Bool.true_or, Bool.false_or, Bool.and_true, Bool.true_and, Bool.and_false, Bool.false_and]))
       have u1 : (bits .and .i64 dd 1 == 0) = false := by have := h1; unfold bitZ at this; simpa using this
       have t1 : decide (bits .and .i64 dd 1 = 0) = false := by have := u1; simpa using this
       have v1 : (a.k == b.k) = true := by have := g1; simpa using this
       have u2 : (bits .and .i64 dd 2 == 0) = true := by have := h2; unfold bitZ at this; simpa using this
       have t2 : decide (bits .and .i64 dd 2 = 0) = true := by have := u2; simpa using this
       have u3 : (bits .and .i64 dd 4 == 0) = true := by have := h3; unfold bitZ at this; simpa using this
       have t3 : decide (bits .and .i64 dd 4 = 0) = true := by have := u3; simpa using this
       have u4 : (bits .and .i64 dd 8 == 0) = false := by have := h4; unfold bitZ at this; simpa using this
       have t4 : decide (bits .and .i64 dd 8 = 0) = false := by have := u4; simpa using this
       have v4 : (a.s == b.s) = false := by have := g4; simpa using this
       clear HG h1 h2 h3 h4
       go_wp2
       go_ret
       exact ⟨ret_bool HE.out.symm, hB⟩
      | true =>
       have HE : Hid (agD dd a b = true) := Lib.hid (HG.out.trans (by simp only [h1, g1, h2, h3, h4, g4, Bool.not_true, Bool.not_false, Bool.true_or, Bool.false_or, Bool.and_true, Bool.true_and, Bool.and_false, Bool.false_and]))
       have u1 : (bits .and .i64 dd 1 == 0) = false := by have := h1; unfold bitZ at this; simpa using this
       have t1 : decide (bits .and .i64 dd 1 = 0) = false := by have := u1; simpa using this
       have v1 : (a.k == b.k) = true := by have := g1; simpa using this
       have u2 : (bits .and .i64 dd 2 == 0) = true := by have := h2; unfold bitZ at this; simpa using this
       have t2 : decide (bits .and .i64 dd 2 = 0) = true := by have := u2; simpa using this
       have u3 : (bits .and .i64 dd 4 == 0) = true := by have := h3; unfold bitZ at this; simpa using this
       have t3 : decide (bits .and .i64 dd 4 = 0) = true := by have := u3; simpa using this
       have u4 : (bits .and .i64 dd 8 == 0) = false := by have := h4; unfold bitZ at this; simpa using this
       have t4 : decide (bits .and .i64 dd 8 = 0) = false := by have := u4; simpa using this
       have v4 : (a.s == b.s) = true := by have := g4; simpa using this
       clear HG h1 h2 h3 h4
       go_wp2
       go_ret
       exact ⟨ret_bool HE.out.symm, hB⟩
    | true =>
     cases g3 : decide (a.m = b.m) with
     | false =>
      have HE : Hid (agD dd a b = false) := Lib.hid (HG.out.trans (by simp only [h1, g1, h2, h3, g3, Bool.not_true, Bool.not_false, Bool.true_or, Bool.false_or, Bool.and_true, Bool.true_and, Bool.and_false, Bool.false_and]))
      have u1 : (bits .and .i64 dd 1 == 0) = false := by have := h1; unfold bitZ at this; simpa using this
      have t1 : decide (bits .and .i64 dd 1 = 0) = false := by have := u1; simpa using this
      have v1 : (a.k == b.k) = true := by have := g1; simpa using this
      have u2 : (bits .and .i64 dd 2 == 0) = true := by have := h2; unfold bitZ at this; simpa using this
      have t2 : decide (bits .and .i64 dd 2 = 0) = true := by have := u2; simpa using this
      have u3 : (bits .and .i64 dd 4 == 0) = false := by have := h3; unfold bitZ at this; simpa using this
      have t3 : decide (bits .and .i64 dd 4 = 0) = false := by have := u3; simpa using this
      clear HG h1 h2 h3
      go_wp2_with fail
      refine (HC.out _ (Below.refl _ _)).mono ?_
      rw [g3]
      rintro e w3 ⟨rfl, hq⟩
      replace k3 := k3.grows hq
      replace k4 := k4.grows hq
      replace hB := below_grows hB (Nat.le_refl _) hq
      clear hq x3 x4
      have x3 := k3.cell
      have x4 := k4.cell
      go_wp2
      go_ret
      exact ⟨ret_bool HE.out.symm, hB⟩
     | true =>
      cases h4 : bitZ dd 8 with
      | false =>
       have HE : Hid (agD dd a b = true) := Lib.hid (HG.out.trans (by simp only [h1, g1, h2, h3, g3, h4, Bool.not_true, Bool.not_false, Bool.true_or, Bool.false_or, Bool.and_true, Bool.true_and, Bool.and_false, Bool.false_and]))
       have u1 : (bits .and .i64 dd 1 == 0) = false := by have := h1; unfold bitZ at this; simpa using this
       have t1 : decide (bits .and .i64 dd 1 = 0) = false := by have := u1; simpa using this
       have v1 : (a.k == b.k) = true := by have := g1; simpa using this
       have u2 : (bits .and .i64 dd 2 == 0) = true := by have := h2; unfold bitZ at this; simpa using this
       have t2 : decide (bits .and .i64 dd 2 = 0) = true := by have := u2; simpa using this
       have u3 : (bits .and .i64 dd 4 == 0) = false := by have := h3; unfold bitZ at this; simpa using this
       have t3 : decide (bits .and .i64 dd 4 = 0) = false := by have := u3; simpa using this
       have u4 : (bits .and .i64 dd 8 == 0) = true := by have := h4; unfold bitZ at this; simpa using this
       have t4 : decide (bits .and .i64 dd 8 = 0) = true := by have := u4; simpa using this
       clear HG h1 h2 h3 h4
       go_wp2_with fail
       refine (HC.out _ (Below.refl _ _)).mono ?_
       rw [g3]
       rintro e w3 ⟨rfl, hq⟩
       replace k3 := k3.grows hq
       replace k4 := k4.grows hq
       replace hB := below_grows hB (Nat.le_refl _) hq
       clear hq x3 x4
       have x3 := k3.cell
       have x4 := k4.cell
       go_wp2
       go_ret
       exact ⟨ret_bool HE.out.symm, hB⟩
      | true =>
       cases g4 : decide (a.s = b.s) with
       | false =>
        have HE : Hid (agD dd a b = false) := Lib.hid (HG.out.trans (by simp only [h1, g1, h2, h3, g3, h4, g4, Bool.not_true, Bool.not_false, Bool.true_or, Bool.false_or, Bool.and_true, Bool.true_and, Bool.and_false, Bool.false_and]))
        have u1 : (bits .and .i64 dd 1 == 0) = false := by have := h1; unfold bitZ at this; simpa using this
        have t1 : decide (bits .and .i64 dd 1 = 0) = false := by have := u1; simpa using this
        have v1 : (a.k == b.k) = true := by have := g1; simpa using this
        have u2 : (bits .and .i64 dd 2 == 0) = true := by have := h2; unfold bitZ at this; simpa using this
        have t2 : decide (bits .and .i64 dd 2 = 0) = true := by have := u2; simpa using this
        have u3 : (bits .and .i64 dd 4 == 0) = false := by have := h3; unfold bitZ at this; simpa using this
        have t3 : decide (bits .and .i64 dd 4 = 0) = false := by have := u3; simpa using this
        have u4 : (bits .and .i64 dd 8 == 0) = false := by have := h4; unfold bitZ at this; simpa using this
        have t4 : decide (bits .and .i64 dd 8 = 0) = false := by have := u4; simpa using this
        have v4 : (a.s == b.s) = false := by have := g4; simpa using this
        clear HG h1 h2 h3 h4
        go_wp2_with fail
        refine (HC.out _ (Below.refl _ _)).mono ?_
        rw [g3]
        rintro e w3 ⟨rfl, hq⟩
        replace k3 := k3.grows hq
        replace k4 := k4.grows hq
        replace hB := below_grows hB (Nat.le_refl _) hq
        clear hq x3 x4
        have x3 := k3.cell
        have x4 := k4.cell
        go_wp2
        go_ret
        exact ⟨ret_bool HE.out.symm, hB⟩
       | true =>
        have HE : Hid (agD dd a b = true) := Lib.hid (HG.out.trans (by simp only [h1, g1, h2, h3, g3, h4, g4, Bool.not_true, Bool.not_false, Bool.true_or, Bool.false_or, Bool.and_true, Bool.true_and, Bool.and_false, Bool.false_and]))
        have u1 : (bits .and .i64 dd 1 == 0) = false := by have := h1; unfold bitZ at this; simpa using this
        have t1 : decide (bits .and .i64 dd 1 = 0) = false := by have := u1; simpa using this
        have v1 : (a.k == b.k) = true := by have := g1; simpa using this
        have u2 : (bits .and .i64 dd 2 == 0) = true := by have := h2; unfold bitZ at this; simpa using this
        have t2 : decide (bits .and .i64 dd 2 = 0) = true := by have := u2; simpa using this
        have u3 : (bits .and .i64 dd 4 == 0) = false := by have := h3; unfold bitZ at this; simpa using this
        have t3 : decide (bits .and .i64 dd 4 = 0) = false := by have := u3; simpa using this
        have u4 : (bits .and .i64 dd 8 == 0) = false := by have := h4; unfold bitZ at this; simpa using this
        have t4 : decide (bits .and .i64 dd 8 = 0) = false := by have := u4; simpa using this
        have v4 : (a.s == b.s) = true := by have := g4; simpa using this
        clear HG h1 h2 h3 h4
        go_wp2_with fail
        refine (HC.out _ (Below.refl _ _)).mono ?_
        rw [g3]
        rintro e w3 ⟨rfl, hq⟩
        replace k3 := k3.grows hq
        replace k4 := k4.grows hq
        replace hB := below_grows hB (Nat.le_refl _) hq
        clear hq x3 x4
        have x3 := k3.cell
        have x4 := k4.cell
        go_wp2
        go_ret
        exact ⟨ret_bool HE.out.symm, hB⟩
   | true =>
    cases g2 : decide (a.r = b.r) with
    | false =>
     have HE : Hid (agD dd a b = false) := Lib.hid (HG.out.trans (by simp only [h1, g1, h2, g2, Bool.not_true, Bool.not_false, Bool.true_or, Bool.false_or, Bool.and_true, Bool.true_and, Bool.and_false, Bool.false_and]))
     have u1 : (bits .and .i64 dd 1 == 0) = false := by have := h1; unfold bitZ at this; simpa using this
     have t1 : decide (bits .and .i64 dd 1 = 0) = false := by have := u1; simpa using this
     have v1 : (a.k == b.k) = true := by have := g1; simpa using this
     have u2 : (bits .and .i64 dd 2 == 0) = false := by have := h2; unfold bitZ at this; simpa using this
     have t2 : decide (bits .and .i64 dd 2 = 0) = false := by have := u2; simpa using this
     have v2 : (a.r == b.r) = false := by have := g2; simpa using this
     clear HG h1 h2
     go_wp2
     go_ret
     exact ⟨ret_bool HE.out.symm, hB⟩
    | true =>
     cases h3 : bitZ dd 4 with
     | false =>
      cases h4 : bitZ dd 8 with
      | false =>
       have HE : Hid (agD dd a b = true) := Lib.hid (HG.out.trans (by simp only [h1, g1, h2, g2, h3, h4, Bool.not_true, Bool.not_false, Bool.true_or, Bool.false_or, Bool.and_true, Bool.true_and, Bool.and_false, Bool.false_and]))
       have u1 : (bits .and .i64 dd 1 == 0) = false := by have := h1; unfold bitZ at this; simpa using this
       have t1 : decide (bits .and .i64 dd 1 = 0) = false := by have := u1; simpa using this
       have v1 : (a.k == b.k) = true := by have := g1; simpa using this
       have u2 : (bits .and .i64 dd 2 == 0) = false := by have := h2; unfold bitZ at this; simpa using this
       have t2 : decide (bits .and .i64 dd 2 = 0) = false := by have := u2; simpa using this
       have v2 : (a.r == b.r) = true := by have := g2; simpa using this
       have u3 : (bits .and .i64 dd 4 == 0) = true := by have := h3; unfold bitZ at this; simpa using this
       have t3 : decide (bits .and .i64 dd 4 = 0) = true := by have := u3; simpa using this
       have u4 : (bits .and .i64 dd 8 == 0) = true := by have := h4; unfold bitZ at this; simpa using this
       have t4 : decide (bits .and .i64 dd 8 = 0) = true := by have := u4; simpa using this
       clear HG h1 h2 h3 h4
       go_wp2
       go_ret
       exact ⟨ret_bool HE.out.symm, hB⟩
      | true =>
       cases g4 : decide (a.s = b.s) with
       | false =>
        have HE : Hid (agD dd a b = false) := Lib.hid (HG.out.trans (by simp only [h1, g1, h2, g2, h3, h4, g4, Bool.not_true, Bool.not_false, Bool.true_or, Bool.false_or, Bool.and_true, Bool.true_and, Bool.and_false, Bool.false_and]))
        have u1 : (bits .and .i64 dd 1 == 0) = false := by have := h1; unfold bitZ at this; simpa using this
        have t1 : decide (bits .and .i64 dd 1 = 0) = false := by have := u1; simpa using this
        have v1 : (a.k == b.k) = true := by have := g1; simpa using this
        have u2 : (bits .and .i64 dd 2 == 0) = false := by have := h2; unfold bitZ at this; simpa using this
        have t2 : decide (bits .and .i64 dd 2 = 0) = false := by have := u2; simpa using this
        have v2 : (a.r == b.r) = true := by have := g2; simpa using this
        have u3 : (bits .and .i64 dd 4 == 0) = true := by have := h3; unfold bitZ at this; simpa using this
        have t3 : decide (bits .and .i64 dd 4 = 0) = true := by have := u3; simpa using this
        have u4 : (bits .and .i64 dd 8 == 0) = false := by have := h4; unfold bitZ at this; simpa using this
        have t4 : decide (bits .and .i64 dd 8 = 0) = false := by have := u4; simpa using this
        have v4 : (a.s == b.s) = false := by have := g4; simpa using this
        clear HG h1 h2 h3 h4
        go_wp2
        go_ret
        exact ⟨ret_bool HE.out.symm, hB⟩
       | true =>
        have HE : Hid (agD dd a b = true) := Lib.hid (HG.out.trans (by simp only [h1, g1, h2, g2, h3, h4, g4, Bool.not_true, Bool.not_false, Bool.true_or, Bool.false_or, Bool.and_true, Bool.true_and, Bool.and_false, Bool.false_and]))
        have u1 : (bits .and .i64 dd 1 == 0) = false := by have := h1; unfold bitZ at this; simpa using this
        have t1 : decide (bits .and .i64 dd 1 = 0) = false := by have := u1; simpa using this
        have v1 : (a.k == b.k) = true := by have := g1; simpa using this
        have u2 : (bits .and .i64 dd 2 == 0) = false := by have := h2; unfold bitZ at this; simpa using this
        have t2 : decide (bits .and .i64 dd 2 = 0) = false := by have := u2; simpa using this
        have v2 : (a.r == b.r) = true := by have := g2; simpa using this
        have u3 : (bits .and .i64 dd 4 == 0) = true := by have := h3; unfold bitZ at this; simpa using this
        have t3 : decide (bits .and .i64 dd 4 = 0) = true := by have := u3; simpa using this
        have u4 : (bits .and .i64 dd 8 == 0) = false := by have := h4; unfold bitZ at this; simpa using this
        have t4 : decide (bits .and .i64 dd 8 = 0) = false := by have := u4; simpa using this
        have v4 : (a.s == b.s) = true := by have := g4; simpa using this
        clear HG h1 h2 h3 h4
        go_wp2
        go_ret
        exact ⟨ret_bool HE.out.symm, hB⟩
     | true =>
      cases g3 : decide (a.m = b.m) with
      | false =>
       have HE : Hid (agD dd a b = false) := Lib.hid (HG.out.trans (by simp only [h1, g1, h2, g2, h3, g3, Bool.not_true, Bool.not_false, Bool.true_or, Bool.false_or, Bool.and_true, Bool.true_and, Bool.and_false, Bool.false_and]))
       have u1 : (bits .and .i64 dd 1 == 0) = false := by have := h1; unfold bitZ at this; simpa using this
       have t1 : decide (bits .and .i64 dd 1 = 0) = false := by have := u1; simpa using this
       have v1 : (a.k == b.k) = true := by have := g1; simpa using this
       have u2 : (bits .and .i64 dd 2 == 0) = false := by have := h2; unfold bitZ at this; simpa using this
       have t2 : decide (bits .and .i64 dd 2 = 0) = false := by have := u2; simpa using this
       have v2 : (a.r == b.r) = true := by have := g2; simpa using this
       have u3 : (bits .and .i64 dd 4 == 0) = false := by have := h3; unfold bitZ at this; simpa using this
       have t3 : decide (bits .and .i64 dd 4 = 0) = false := by have := u3; simpa using this
       clear HG h1 h2 h3
       go_wp2_with fail
       refine (HC.out _ (Below.refl _ _)).mono ?_
       rw [g3]
       rintro e w3 ⟨rfl, hq⟩
       replace k3 := k3.grows hq
       replace k4 := k4.grows hq
       replace hB := below_grows hB (Nat.le_refl _) hq
       clear hq x3 x4
       have x3 := k3.cell
       have x4 := k4.cell
       go_wp2
       go_ret
       exact ⟨ret_bool HE.out.symm, hB⟩
      | true =>
       cases h4 : bitZ dd 8 with
       | false =>
        have HE : Hid (agD dd a b = true) := Lib.hid (HG.out.trans (by simp only [h1, g1, h2, g2, h3, g3, h4, Bool.not_true, Bool.not_false, Bool.true_or, Bool.false_or, Bool.and_true, Bool.true_and, Bool.and_false, Bool.false_and]))
        have u1 : (bits .and .i64 dd 1 == 0) = false := by have := h1; unfold bitZ at this; simpa using this
        have t1 : decide (bits .and .i64 dd 1 = 0) = false := by have := u1; simpa using this
        have v1 : (a.k == b.k) = true := by have := g1; simpa using this
        have u2 : (bits .and .i64 dd 2 == 0) = false := by have := h2; unfold bitZ at this; simpa using this
        have t2 : decide (bits .and .i64 dd 2 = 0) = false := by have := u2; simpa using this
        have v2 : (a.r == b.r) = true := by have := g2; simpa using this
        have u3 : (bits .and .i64 dd 4 == 0) = false := by have := h3; unfold bitZ at this; simpa using this
        have t3 : decide (bits .and .i64 dd 4 = 0) = false := by have := u3; simpa using this
        have u4 : (bits .and .i64 dd 8 == 0) = true := by have := h4; unfold bitZ at this; simpa using this
        have t4 : decide (bits .and .i64 dd 8 = 0) = true := by have := u4; simpa using this
        clear HG h1 h2 h3 h4
        go_wp2_with fail
        refine (HC.out _ (Below.refl _ _)).mono ?_
        rw [g3]
        rintro e w3 ⟨rfl, hq⟩
        replace k3 := k3.grows hq
        replace k4 := k4.grows hq
        replace hB := below_grows hB (Nat.le_refl _) hq
        clear hq x3 x4
        have x3 := k3.cell
        have x4 := k4.cell
        go_wp2
        go_ret
        exact ⟨ret_bool HE.out.symm, hB⟩
       | true =>
        cases g4 : decide (a.s = b.s) with
        | false =>
         have HE : Hid (agD dd a b = false) := Lib.hid (HG.out.trans (by simp only [h1, g1, h2, g2, h3, g3, h4, g4, Bool.not_true, Bool.not_false, Bool.true_or, Bool.false_or, Bool.and_true, Bool.true_and, Bool.and_false, Bool.false_and]))
         have u1 : (bits .and .i64 dd 1 == 0) = false := by have := h1; unfold bitZ at this; simpa using this
         have t1 : decide (bits .and .i64 dd 1 = 0) = false := by have := u1; simpa using this
         have v1 : (a.k == b.k) = true := by have := g1; simpa using this
         have u2 : (bits .and .i64 dd 2 == 0) = false := by have := h2; unfold bitZ at this; simpa using this
         have t2 : decide (bits .and .i64 dd 2 = 0) = false := by have := u2; simpa using this
         have v2 : (a.r == b.r) = true := by have := g2; simpa using this
         have u3 : (bits .and .i64 dd 4 == 0) = false := by have := h3; unfold bitZ at this; simpa using this
         have t3 : decide (bits .and .i64 dd 4 = 0) = false := by have := u3; simpa using this
         have u4 : (bits .and .i64 dd 8 == 0) = false := by have := h4; unfold bitZ at this; simpa using this
         have t4 : decide (bits .and .i64 dd 8 = 0) = false := by have := u4; simpa using this
         have v4 : (a.s == b.s) = false := by have := g4; simpa using this
         clear HG h1 h2 h3 h4
         go_wp2_with fail
         refine (HC.out _ (Below.refl _ _)).mono ?_
         rw [g3]
         rintro e w3 ⟨rfl, hq⟩
         replace k3 := k3.grows hq
         replace k4 := k4.grows hq
         replace hB := below_grows hB (Nat.le_refl _) hq
         clear hq x3 x4
         have x3 := k3.cell
         have x4 := k4.cell
         go_wp2
         go_ret
         exact ⟨ret_bool HE.out.symm, hB⟩
        | true =>
         have HE : Hid (agD dd a b = true) := Lib.hid (HG.out.trans (by simp only [h1, g1, h2, g2, h3, g3, h4, g4, Bool.not_true, Bool.not_false, Bool.true_or, Bool.false_or, Bool.and_true, Bool.true_and, Bool.and_false, Bool.false_and]))
         have u1 : (bits .and .i64 dd 1 == 0) = false := by have := h1; unfold bitZ at this; simpa using this
         have t1 : decide (bits .and .i64 dd 1 = 0) = false := by have := u1; simpa using this
         have v1 : (a.k == b.k) = true := by have := g1; simpa using this
         have u2 : (bits .and .i64 dd 2 == 0) = false := by have := h2; unfold bitZ at this; simpa using this
         have t2 : decide (bits .and .i64 dd 2 = 0) = false := by have := u2; simpa using this
         have v2 : (a.r == b.r) = true := by have := g2; simpa using this
         have u3 : (bits .and .i64 dd 4 == 0) = false := by have := h3; unfold bitZ at this; simpa using this
         have t3 : decide (bits .and .i64 dd 4 = 0) = false := by have := u3; simpa using this
         have u4 : (bits .and .i64 dd 8 == 0) = false := by have := h4; unfold bitZ at this; simpa using this
         have t4 : decide (bits .and .i64 dd 8 = 0) = false := by have := u4; simpa using this
         have v4 : (a.s == b.s) = true := by have := g4; simpa using this
         clear HG h1 h2 h3 h4
         go_wp2_with fail
         refine (HC.out _ (Below.refl _ _)).mono ?_
         rw [g3]
         rintro e w3 ⟨rfl, hq⟩
         replace k3 := k3.grows hq
         replace k4 := k4.grows hq
         replace hB := below_grows hB (Nat.le_refl _) hq
         clear hq x3 x4
         have x3 := k3.cell
         have x4 := k4.cell
         go_wp2
         go_ret
         exact ⟨ret_bool HE.out.symm, hB⟩
end Go.Proofs.YtjbkjgmcfommgaaGreat

namespace Go.Proofs.YtjbkjgmcfommgaaGreat
open Go.RowKit
set_option maxHeartbeats 64000000 in
set_option maxRecDepth 10000 in
theorem rfitsw_any {ok ow : Nat → Prop} {A B : Option Addr} {c d n m : Nat} {l : List Pt} {cs : List Ch} {w : World} (hn : n = l.length) (hm : m = cs.length) (h : Pts w ok A l) (hc : Chs w ow B cs) (hl : l.length ≤ 1000000) (hcl : cs.length ≤ 9223372036854775807) (ho : ∀ p ∈ l, (∀ b ∈ p.b, OKB b) ∧ p.b.length ≤ 1000000) (hco : ∀ x ∈ cs, x.m.length ≤ 9223372036854775807) :
 Calls Tryz.prog 20 #[.slice A n c, .slice B m d] w fun e w' => e = .returned (.bool (fitsF l cs)) ∧ Grows w w' := by
 subst hn hm
 have HO := Lib.hid ho
 have HCO := Lib.hid hco
 clear ho hco
 have hB := Below.refl w.heap.size w
 go_enter Tryz.func20, Tryz.ntmps20
 go_wp2_with fail
 refine (rnvalid_any rfl (h.grows hB) hl (fun p hp => HO.out p hp)).mono ?_
 rintro e w2 ⟨rfl, hq⟩
 replace hB := below_grows hB (Nat.le_refl _) hq
 clear hq
 cases hv : validC l with
 | false =>
  have HE := Lib.hid (fits_bad (cs := cs) hv)
  clear hv
  go_wp2
  go_ret
  exact ⟨ret_bool HE.out.symm, hB⟩
 | true =>
 have HV := Lib.hid hv
 have hl16 := (valid_ports hv).2.2
 clear hv
 by_cases hcn : cs.length = l.length
 case neg =>
  have HE := Lib.hid (fits_len hcn)
  have e1 : ((cs.length : Int) != (l.length : Int)) = true := by rw [bne_iff_ne]; omega
  have e2 : decide ((cs.length : Int) = (l.length : Int)) = false := by simp only [decide_eq_false_iff_not]; omega
  have e3 : decide (cs.length = l.length) = false := by simp only [decide_eq_false_iff_not]; omega
  clear hcn
  go_wp2
  go_ret
  exact ⟨ret_bool HE.out.symm, hB⟩
 have HCN := Lib.hid hcn
 have e1 : ((cs.length : Int) != (l.length : Int)) = false := by rw [hcn]; simp
 have e2 : decide ((cs.length : Int) = (l.length : Int)) = true := by simp only [decide_eq_true_eq]; omega
 have e3 : decide (cs.length = l.length) = true := by simp only [decide_eq_true_eq]; omega
 clear hcn
 go_upto_region 3 with fail
 clear e1 e2 e3
 go_wp2_with fail
 go_loopw [18] (fun i wr => ∃ k : Nat, k ≤ l.length ∧ i = .int .i64 k ∧ Hid (∀ i, i < k → fitAt l cs i = true) ∧ Below w.heap.size w wr) (fun i _ => l.length - (intOf i).toNat)
 case atStart => exact ⟨0, by omega, rfl, Lib.hid (fun i hi => absurd hi (by omega)), hB⟩
 case round =>
  clear hB
  obtain ⟨k, hk, rfl, HK, hB⟩ := hrel
  by_cases hlt : k < l.length
  ·obtain ⟨ad, p, BP, cp, ea, had, hp, hbx, hcp, q0, q1⟩ := h.elem hB hlt
   subst ea
   obtain ⟨ad2, x, BX, dX, eb, had2, hx, hdX, hix, hcx⟩ := hc.elem hB (show k < cs.length by have := HCN.out; omega)
   subst eb
   have HP := Lib.hid hp
   have HX := Lib.hid hx
   have HPO := Lib.hid (HO.out p (List.mem_of_getElem? hp))
   have HXO := Lib.hid (HCO.out x (List.mem_of_getElem? hx))
   have HAT := Lib.hid (fit_at (l := l) (cs := cs) hp hx)
   have HNO := Lib.hid (fun h => fits_no (l := l) (cs := cs) (i := k) hlt h)
   clear hp hx
   go_upto_region 6 with fail
   replace hbx := hbx.grows hB
   replace hix := RdB.grows hix hB
   have had3 : ad.block < wr.heap.size := had
   have had4 : ad2.block < wr.heap.size := had2
   have hadk : (ad.add (k * 2)).block < wr.heap.size := by rw [block_of_add]; exact had
   have c1 : (0 : Int) ≤ (k : Int) := by omega
   have c2 : (k : Int) < (l.length : Int) := by omega
   have c3 : (k : Int) < (cs.length : Int) := by have := HCN.out; omega
   have c4 : k < cs.length := by have := HCN.out; omega
   have had5 : (ad2.add (k * 4)).block < wr.heap.size := by rw [block_of_add]; exact had4
   have HH := Lib.hid (fun (w0 : World) (hg : Grows wr w0) => rhaslw_any (x := x) (ci := dX) (w := w0) (hbx.grows hg) HPO.out.2 hcp HPO.out.1 (ge_of (RdB.grows hix hg)) HXO.out)
   cases hh : hasL p.b x with
   | false =>
    have HE := Lib.hid (HNO.out (by rw [HAT.out, hh]; rfl))
    rw [hh] at HH
    clear hh
    refine wp_region_mix (fun w' => Grows wr w') [] 35 57 (by kernel_rfl) (by kernel_rfl) rfl ?_ float_none ?_ ?_
    ·exact fun w1 w2 h0 hg => below_grows h0 (Nat.le_refl _) hg
    ·exact Grows.drew' _
    ·skip
     simp only [List.take_succ_cons, List.take_zero, List.drop_succ_cons, List.drop_zero]
     iterate 35
      first
       | (refine calm_no rfl rfl (a' := ?_) ?_ ?_
          rotate_left 1
          ·simp only [Act.put, List.setIfInBounds_toArray, List.set_cons_succ, List.set_cons_zero]
           rfl)
       | (first | refine calm_plain rfl rfl (v := ?_) (a' := ?_) (fun w1 hw1 => ?_) ?_ ?_ | refine calm_yes rfl rfl (v := ?_) (a' := ?_) (fun w1 hw1 => ?_) ?_ ?_
          rotate_left 2
          ·have h0 := hw1
           have x6 := (Below.cell h0 hadk).trans q0
           obtain ⟨y0, y1, y2, y3⟩ := hcx.grows h0 had5
           go_simp
           first | exact calm_val | (refine calm_call ?_; with_reducible exact HH.out _ h0)
          ·simp only [Act.put, List.setIfInBounds_toArray, List.set_cons_succ, List.set_cons_zero]
           rfl)
     refine calm_done (end_none ?_)
     rintro W2 h0
     replace hB := below_grows hB (Nat.le_refl _) h0
     go_wp2
     go_ret
     exact ⟨ret_bool HE.out.symm, hB⟩
   | true =>
   rw [hh] at HH
   by_cases hk0 : k = 0
   ·have HE : Hid (fitAt l cs k = true) := Lib.hid (by rw [HAT.out, hh, decide_eq_true hk0]; rfl)
    have d1 : decide ((0 : Int) < (k : Int)) = false := by simp only [decide_eq_false_iff_not]; omega
    have d2 : decide (0 < k) = false := by simp only [decide_eq_false_iff_not]; omega
    clear hh hk0
    refine wp_region_mix (fun w' => Grows wr w') [] 35 57 (by kernel_rfl) (by kernel_rfl) rfl ?_ float_none ?_ ?_
    ·exact fun w1 w2 h0 hg => below_grows h0 (Nat.le_refl _) hg
    ·exact Grows.drew' _
    ·skip
     simp only [List.take_succ_cons, List.take_zero, List.drop_succ_cons, List.drop_zero]
     iterate 35
      first
       | (refine calm_no rfl rfl (a' := ?_) ?_ ?_
          rotate_left 1
          ·simp only [Act.put, List.setIfInBounds_toArray, List.set_cons_succ, List.set_cons_zero]
           rfl)
       | (first | refine calm_plain rfl rfl (v := ?_) (a' := ?_) (fun w1 hw1 => ?_) ?_ ?_ | refine calm_yes rfl rfl (v := ?_) (a' := ?_) (fun w1 hw1 => ?_) ?_ ?_
          rotate_left 2
          ·have h0 := hw1
           have x6 := (Below.cell h0 hadk).trans q0
           obtain ⟨y0, y1, y2, y3⟩ := hcx.grows h0 had5
           go_simp
           first | exact calm_val | (refine calm_call ?_; with_reducible exact HH.out _ h0)
          ·simp only [Act.put, List.setIfInBounds_toArray, List.set_cons_succ, List.set_cons_zero]
           rfl)
     refine calm_done (end_none ?_)
     rintro W2 h0
     replace hB := below_grows hB (Nat.le_refl _) h0
     go_wp2
     go_roundw
     case rel => exact ⟨k + 1, by omega, by go_num, Lib.hid (fun i hi => by
      rcases Nat.lt_or_ge i k with h | h
      ·exact HK.out i h
      ·obtain rfl : i = k := by omega
       exact HE.out), hB⟩
     case measure => simp [intOf]; omega
   ·have d1 : decide ((0 : Int) < (k : Int)) = true := by simp only [decide_eq_true_eq]; omega
    have d2 : decide (0 < k) = true := by simp only [decide_eq_true_eq]; omega
    obtain ⟨j, hj⟩ : ∃ j, k = j + 1 := ⟨k - 1, by omega⟩
    have HJ := Lib.hid hj
    have hwj : IntKind.i64.wrap ((k : Int) - 1) = (j : Int) := by rw [IntWalk.i64_in _ (by omega)]; omega
    have c5 : (0 : Int) ≤ (j : Int) := by omega
    have c6 : (j : Int) < (l.length : Int) := by omega
    have c7 : (j : Int) < (cs.length : Int) := by have := HCN.out; omega
    have c8 : j < l.length := by omega
    have c9 : j < cs.length := by have := HCN.out; omega
    obtain ⟨ad9, p2, BP2, cp2, ea, -, hp2, -, -, q20, q21⟩ := h.elem hB c8
    injection ea with ea
    subst ea
    obtain ⟨ad9, y, BY, dY, eb, -, hy, hdY, hiy, hcy⟩ := hc.elem hB c9
    injection eb with eb
    subst eb
    have hyo := HCO.out y (List.mem_of_getElem? hy)
    have HAG : Hid (fitAt l cs k = agD (bits .andNot .i64 15 p2.v) y x) := Lib.hid (by
     rw [HAT.out, hh, decide_eq_false hk0, hj, Nat.add_sub_cancel, fit_ag hp2 hy]
     rfl)
    have HA := Lib.hid (fun (w0 : World) (hg : Grows wr w0) => ragree_any (a := y) (b := x) (c := dY) (d := dX) (w := w0) (bits .andNot .i64 15 p2.v) (ge_of (RdB.grows hiy (below_grows hB (Nat.le_refl _) hg))) (ge_of (RdB.grows hix hg)) hyo HXO.out)
    have had7 : (ad2.add (j * 4)).block < wr.heap.size := by rw [block_of_add]; exact had4
    have had8 : (ad.add (j * 2)).block < wr.heap.size := by rw [block_of_add]; exact had3
    clear hh hk0 hj hp2 hy
    cases ha : agD (bits .andNot .i64 15 p2.v) y x with
    | false =>
     have HE := Lib.hid (HNO.out (HAG.out.trans ha))
     rw [ha] at HA
     clear ha
     refine wp_region_mix (fun w' => Grows wr w') [] 35 57 (by kernel_rfl) (by kernel_rfl) rfl ?_ float_none ?_ ?_
     ·exact fun w1 w2 h0 hg => below_grows h0 (Nat.le_refl _) hg
     ·exact Grows.drew' _
     ·skip
      simp only [List.take_succ_cons, List.take_zero, List.drop_succ_cons, List.drop_zero]
      iterate 35
       first
        | (refine calm_no rfl rfl (a' := ?_) ?_ ?_
           rotate_left 1
           ·simp only [Act.put, List.setIfInBounds_toArray, List.set_cons_succ, List.set_cons_zero]
            rfl)
        | (first | refine calm_plain rfl rfl (v := ?_) (a' := ?_) (fun w1 hw1 => ?_) ?_ ?_ | refine calm_yes rfl rfl (v := ?_) (a' := ?_) (fun w1 hw1 => ?_) ?_ ?_
           rotate_left 2
           ·have h0 := hw1
            have x6 := (Below.cell h0 hadk).trans q0
            obtain ⟨y0, y1, y2, y3⟩ := hcx.grows h0 had5
            obtain ⟨z0, z1, z2, z3⟩ := hcy.grows h0 had7
            have zz := (Below.cell (p := ⟨(ad.add (j * 2)).block, (ad.add (j * 2)).off + 1, none⟩) h0 had8).trans q21
            go_simp
            first | exact calm_val | (refine calm_call ?_; with_reducible exact HH.out _ h0) | (refine calm_call ?_; with_reducible exact HA.out _ h0)
           ·simp only [Act.put, List.setIfInBounds_toArray, List.set_cons_succ, List.set_cons_zero]
            rfl)
      refine calm_done (end_none ?_)
      rintro W2 h0
      replace hB := below_grows hB (Nat.le_refl _) h0
      go_wp2
      go_ret
      exact ⟨ret_bool HE.out.symm, hB⟩
    | true =>
     have HE : Hid (fitAt l cs k = true) := Lib.hid (HAG.out.trans ha)
     rw [ha] at HA
     clear ha
     refine wp_region_mix (fun w' => Grows wr w') [] 35 57 (by kernel_rfl) (by kernel_rfl) rfl ?_ float_none ?_ ?_
     ·exact fun w1 w2 h0 hg => below_grows h0 (Nat.le_refl _) hg
     ·exact Grows.drew' _
     ·skip
      simp only [List.take_succ_cons, List.take_zero, List.drop_succ_cons, List.drop_zero]
      iterate 35
       first
        | (refine calm_no rfl rfl (a' := ?_) ?_ ?_
           rotate_left 1
           ·simp only [Act.put, List.setIfInBounds_toArray, List.set_cons_succ, List.set_cons_zero]
            rfl)
        | (first | refine calm_plain rfl rfl (v := ?_) (a' := ?_) (fun w1 hw1 => ?_) ?_ ?_ | refine calm_yes rfl rfl (v := ?_) (a' := ?_) (fun w1 hw1 => ?_) ?_ ?_
           rotate_left 2
           ·have h0 := hw1
            have x6 := (Below.cell h0 hadk).trans q0
            obtain ⟨y0, y1, y2, y3⟩ := hcx.grows h0 had5
            obtain ⟨z0, z1, z2, z3⟩ := hcy.grows h0 had7
            have zz := (Below.cell (p := ⟨(ad.add (j * 2)).block, (ad.add (j * 2)).off + 1, none⟩) h0 had8).trans q21
            go_simp
            first | exact calm_val | (refine calm_call ?_; with_reducible exact HH.out _ h0) | (refine calm_call ?_; with_reducible exact HA.out _ h0)
           ·simp only [Act.put, List.setIfInBounds_toArray, List.set_cons_succ, List.set_cons_zero]
            rfl)
      refine calm_done (end_none ?_)
      rintro W2 h0
      replace hB := below_grows hB (Nat.le_refl _) h0
      go_wp2
      go_roundw
      case rel => exact ⟨k + 1, by omega, by go_num, Lib.hid (fun i hi => by
       rcases Nat.lt_or_ge i k with h | h
       ·exact HK.out i h
       ·obtain rfl : i = k := by omega
        exact HE.out), hB⟩
      case measure => simp [intOf]; omega
  ·have HE := Lib.hid (fits_yes HV.out HCN.out (fun i hi => HK.out i (by omega)))
   go_wp2
   go_ret
   exact ⟨ret_bool HE.out.symm, hB⟩
theorem rfits_any {ok ow : Nat → Prop} {A B : Option Addr} {c d n m : Nat} {l : List Pt} {cs : List Ch} {w : World} (hn : n = l.length) (hm : m = cs.length) (h : Pts w ok A l) (hc : Chs w ow B cs) (hl : l.length ≤ 1000000) (hcl : cs.length ≤ 9223372036854775807) (ho : ∀ p ∈ l, (∀ b ∈ p.b, OKB b) ∧ p.b.length ≤ 1000000) (hco : ∀ x ∈ cs, x.m.length ≤ 1000000) :
 Calls Tryz.prog 20 #[.slice A n c, .slice B m d] w fun e w' => e = .returned (.bool (fitsF l cs)) ∧ Grows w w' := rfitsw_any hn hm h hc hl hcl ho (fun x hx => by have := hco x hx; omega)
end Go.Proofs.YtjbkjgmcfommgaaGreat

namespace Go.Proofs.YtjbkjgmcfommgaaGreat
open Go.ChangeShapes Go.WideShapes Go.ChangeAt Go.RowKit
theorem Pts.under_and {w : World} {n : Nat} {A : Option Addr} {l : List Pt} (h : Pts w (fun k => n < k) A l) : Pts w (fun k => n < k ∧ k < w.heap.size) A l := h.bd
theorem Chs.under {w : World} {ok : Nat → Prop} {A : Option Addr} {L : List Ch} (h : Chs w ok A L) : Chs w (Under w.heap.size) A L := by
  obtain ⟨vs, h1, h2⟩ := h
  exact ⟨vs, RdB.under h1, fun i x hx => by obtain ⟨B, c, h3, h4, h5⟩ := h2 i x hx; exact ⟨B, c, RdB.under h3, h4, h5⟩⟩
theorem choose_lists {l : List Pt} (hk : ∀ p ∈ l, ∀ b ∈ p.b, I64 b.k) {want : Ch} : (chooseF l want).1.length ≤ l.length ∧ ∀ x ∈ (chooseF l want).1, x.m.length ≤ 1000000 := by
  obtain ⟨⟨ls, ⟨a, b⟩, fe⟩, hf⟩ : ∃ f, forwardF l = f := ⟨_, rfl⟩
  by_cases h : fe = 0
  · subst h
    obtain ⟨C, hc, hl, -, -, -, ho, -⟩ := choose_found hk (want := want) hf
    rw [hc]
    exact ⟨by show C.length ≤ _; omega, fun x hx => (ho x hx).2.2⟩
  · rw [choose_no hf h]
    exact ⟨Nat.zero_le _, fun x hx => by cases hx⟩
theorem rchoose_at {ok ow : Nat → Prop} {A I : Option Addr} {c n ci : Nat} {l : List Pt} {want : Ch} {w : World} {L : List Ch} {a b e0 : Int} (hf : chooseF l want = (L, (a, b), e0)) (hn : n = l.length) (h : Pts w ok A l) (hl : l.length ≤ 1000000) (ho : ∀ p ∈ l, (∀ b ∈ p.b, OKB b ∧ I64 b.k) ∧ p.b.length ≤ 1000000) (hi : InB w ow I want.m) (hok : OKC want) :
    Calls Tryz.prog 17 #[.slice A n c, .agg #[.int .i64 want.k, .int .i64 want.r, .slice I want.m.length ci, .int .i64 want.s]] w fun e w' => (∃ A' c', e = .returned (.tuple #[.slice A' L.length c', .agg #[.int .i64 a, .int .i64 b], .int .i64 e0]) ∧ L.length ≤ c' ∧ Chs w' AnyB A' L) ∧ Grows w w' := by
  have := rchoose_any (c := c) (ci := ci) hn h hl ho hi hok
  rw [hf] at this
  exact this
theorem chs_lit2 {w : World} {X Y : Ch} {I J : Option Addr} {ci cj : Nat} (hX : InB w AnyB I X.m) (hci : X.m.length ≤ ci) (hY : InB w AnyB J Y.m) (hcj : Y.m.length ≤ cj) : Chs (w.alloc (.cells #[.int .i64 X.k, .int .i64 X.r, .slice I X.m.length ci, .int .i64 X.s, .int .i64 Y.k, .int .i64 Y.r, .slice J Y.m.length cj, .int .i64 Y.s] 42)) AnyB (some ⟨w.heap.size, 0, none⟩) [X, Y] := by
  have hq := (Below.refl w.heap.size w).alloc (Nat.le_refl _) (Obj.cells #[.int .i64 X.k, .int .i64 X.r, .slice I X.m.length ci, .int .i64 X.s, .int .i64 Y.k, .int .i64 Y.r, .slice J Y.m.length cj, .int .i64 Y.s] 42)
  refine ⟨_, rd_lit w 42 #[.int .i64 X.k, .int .i64 X.r, .slice I X.m.length ci, .int .i64 X.s, .int .i64 Y.k, .int .i64 Y.r, .slice J Y.m.length cj, .int .i64 Y.s] 4 2 rfl trivial, fun i x hx => ?_⟩
  have hi := (List.getElem?_eq_some_iff.1 hx).1
  simp only [List.length_cons, List.length_nil] at hi
  have hi2 : i = 0 ∨ i = 1 := by omega
  rcases hi2 with h0 | h0
  · subst h0
    simp only [List.getElem?_cons_zero, Option.some.injEq] at hx
    subst hx
    exact ⟨I, ci, hX.grows hq, hci, fun j hj => by rw [Nat.zero_mul, Nat.zero_add]; match j, hj with | 0, _ => rfl | 1, _ => rfl | 2, _ => rfl | 3, _ => rfl⟩
  · subst h0
    simp only [List.getElem?_cons_succ, List.getElem?_cons_zero, Option.some.injEq] at hx
    subst hx
    exact ⟨J, cj, hY.grows hq, hcj, fun j hj => by match j, hj with | 0, _ => rfl | 1, _ => rfl | 2, _ => rfl | 3, _ => rfl⟩
namespace NegotiateChooses
set_option maxHeartbeats 64000000 in
set_option maxRecDepth 10000 in
theorem walk (A0 : Option Addr) (c0 : Nat) (l0 : List Pt) (X : Ch) (I0 : Option Addr) (ci0 : Nat) (A : Option Addr) (c9 : Nat) (sd : List Int) (A2 : Option Addr) (c2 : Nat) (od : List Ch) (w : World) (hr : Pts w (fun _ => True) A0 l0) (hrl : l0.length ≤ 9223372036854775807) (hrc : l0.length ≤ c0) (hrp : ∀ p ∈ l0, LimP p) (hX : InB w (fun _ => True) I0 X.m) (hXl : X.m.length ≤ 9223372036854775807) (hXc : X.m.length ≤ ci0) (hXr : I64 X.r) (hXs : I64 X.s) (h0 : Reads w w.heap.size 1 A sd.length (sd.map (Value.int .u8))) (hc : sd.length ≤ c9) (hl : sd.length ≤ 9223372036854775807) (hwf : ∀ x ∈ sd, 0 ≤ x ∧ x ≤ 255) (hO : Chs w (fun _ => True) A2 od) (hol : od.length ≤ 9223372036854775807) (hoc : od.length ≤ c2) (hoL : ∀ x ∈ od, LimC x) :
    Calls Tryz.prog 4 #[.slice A0 l0.length c0, .agg #[.int .i64 X.k, .int .i64 X.r, .slice I0 X.m.length ci0, .int .i64 X.s], .slice A sd.length c9, .slice A2 od.length c2] w fun e w' => e = .returned (.bool true) ∧ Grows w w' := by
  have hB := Below.refl w.heap.size w
  have HRP := Lib.hid hrp
  have HOL := Lib.hid (fun x hx => (hoL x hx).1)
  clear hrp hoL
  have k5 := Blk.new w 42 #[.int .i64 X.k, .int .i64 X.r, .slice I0 X.m.length ci0, .int .i64 X.s]
  have hq := (Below.refl w.heap.size w).alloc (Nat.le_refl _) (Obj.cells #[.int .i64 X.k, .int .i64 X.r, .slice I0 X.m.length ci0, .int .i64 X.s] 42)
  go_enter Tryz.func4, Tryz.ntmps4
  go_upto_region 1 with fail
  replace hB := below_grows hB (Nat.le_refl _) hq
  replace hr := hr.grows hq
  replace hX := hX.grows hq
  replace hO := hO.grows hq
  replace h0 := Reads.grows h0 hq
  clear hq
  generalize World.alloc w _ = w0 at *
  obtain ⟨q5, hq5⟩ : ∃ q, w.heap.size = q := ⟨_, rfl⟩
  have HQ5 := Lib.hid hq5
  rw [hq5] at k5 ⊢
  clear hq5
  go_wp2_with fail
  refine (nsane_any _).mono ?_
  rintro e w1 ⟨rfl, hq⟩
  replace hB := below_grows hB (Nat.le_refl _) hq
  replace hr := hr.grows hq
  replace hX := hX.grows hq
  replace hO := hO.grows hq
  replace k5 := k5.grows hq
  replace h0 := Reads.grows h0 hq
  clear hq
  go_wp2_with fail
  refine (kports_any hr hrl HRP.out).mono ?_
  rintro e w2 ⟨hk, hq⟩
  replace hB := below_grows hB (Nat.le_refl _) hq
  replace hr := hr.grows hq
  replace hX := hX.grows hq
  replace hO := hO.grows hq
  replace k5 := k5.grows hq
  replace h0 := Reads.grows h0 hq
  clear hq
  have hend : ∀ w' : World, Below w.heap.size w w' → Grows w w' := fun w' h => h
  have HE := Lib.hid hend
  clear hend
  rcases hk with ⟨rfl, h18, hkp⟩ | rfl
  case inr =>
    go_wp2
    go_ret
    exact ⟨rfl, HE.out _ hB⟩
  have HR0 := Lib.hid (fun p hp => keptP_oks (hkp p hp) (HRP.out p hp))
  have HRK : Hid (∀ p ∈ l0, ∀ b ∈ p.b, I64 b.k) := Lib.hid (fun p hp b hb => ((HR0.out p hp).1 b hb).2)
  clear hkp HRP
  have x5 := k5.cell
  by_cases h12 : X.m.length ≤ 12
  case neg =>
    have d1 : decide ((12 : Int) < (X.m.length : Int)) = true := by simp only [decide_eq_true_eq]; omega
    have d2 : decide (12 < X.m.length) = true := by simp only [decide_eq_true_eq]; omega
    go_wp2
    go_ret
    exact ⟨rfl, HE.out _ hB⟩
  have d1 : decide ((12 : Int) < (X.m.length : Int)) = false := by simp only [decide_eq_false_iff_not]; omega
  have d2 : decide (12 < X.m.length) = false := by simp only [decide_eq_false_iff_not]; omega
  by_cases h20 : od.length ≤ 20
  case neg =>
    have d3 : decide ((20 : Int) < (od.length : Int)) = true := by simp only [decide_eq_true_eq]; omega
    have d4 : decide (20 < od.length) = true := by simp only [decide_eq_true_eq]; omega
    go_wp2
    go_ret
    exact ⟨rfl, HE.out _ hB⟩
  have d3 : decide ((20 : Int) < (od.length : Int)) = false := by simp only [decide_eq_false_iff_not]; omega
  have d4 : decide (20 < od.length) = false := by simp only [decide_eq_false_iff_not]; omega
  have HX12 := Lib.hid h12
  have hk5 := k5.lt
  have hs1 := hB.size
  go_wp2_with fail
  refine (dice_low w2.heap.size A c9 sd w2 h0 (Nat.le_refl _) hc hl hwf).mono ?_
  rintro e w3 ⟨rfl, hD, hq⟩
  replace hr := hr.under
  replace hX : InB w2 (Under w2.heap.size) I0 X.m := RdB.under hX
  replace hO := hO.under
  replace hB := below_grows hB (Nat.le_refl _) hq
  replace hr := hr.grows hq
  replace hX := hX.grows hq
  replace hO := hO.grows hq
  replace k5 := k5.grows hq
  have hs2 := hD.lt
  clear hq h0 x5 d1 d2 d3 d4
  generalize w2.heap.size = g at *
  go_wp2_with fail
  refine (ports_any _ g _ hD).mono ?_
  rintro e w4 ⟨⟨l, v, rfl, ho, hm⟩, hD3, hq⟩
  obtain ⟨A1, c1, rfl, hc1, hp⟩ := ho.read
  replace hp : Pts w4 (fun k => g < k) A1 l := hp.mono (fun k hk => by unfold Ge at hk; omega)
  replace hp : Pts w4 (fun k => g < k ∧ k < w4.heap.size) A1 l := hp.under_and
  replace hr := hr.grown hq (fun q e hh => by injection e with e; unfold Under at hh; omega)
  replace hX := RdB.grown hX hq (fun q e hh => by injection e with e; unfold Under at hh; omega)
  replace hO := hO.grown hq (fun q e hh => by injection e with e; unfold Under at hh; omega)
  replace k5 := k5.grown hq (fun e => by injection e with e; omega)
  replace hB := hB.grown hq hB.size (fun q e => by injection e with e; omega)
  have hl5 := hm.2.1
  have hl1 := hm.1
  have HM1 := Lib.hid hm.oks
  have HM2 : Hid (∀ p ∈ l, ∀ b ∈ p.b, I64 b.k) := Lib.hid hm.k
  have HFI : Hid (∀ p ∈ l, Fine p.b ∧ 1 ≤ p.b.length ∧ p.b.length ≤ 2) := Lib.hid (fun p hp => ⟨(hm.2.2 p hp).1, (hm.2.2 p hp).2.1, (hm.2.2 p hp).2.2.1⟩)
  clear ho hq hD hm
  obtain ⟨N, hN⟩ : ∃ N, l.length = N + 1 := ⟨l.length - 1, by omega⟩
  have HN := Lib.hid hN
  have hNl : N < l.length := by omega
  clear hN
  obtain ⟨ad, pN, BN, cN, ea, had, hpN, hbN, hcN, q0, q1⟩ := hp.elem (Grows.rfl' w4) hNl
  subst ea
  have hpf := HFI.out pN (List.mem_of_getElem? hpN)
  have hwN : IntKind.i64.wrap ((l.length : Int) - 1) = (N : Int) := by have := HN.out; rw [IntWalk.i64_in _ (by omega)]; omega
  have b0 : (0 : Int) ≤ (N : Int) := by omega
  have b1 : (N : Int) < (l.length : Int) := by omega
  go_wp2_with fail
  refine (choice_anyq g g _ hD3 hbN (by have := hpf.2.2; omega) hcN hpf.1 (fun k hk => hk.1)).mono ?_
  rintro e w5 ⟨⟨x, v, rfl, ⟨I, ci, rfl, hci, hix⟩, hokx⟩, -, hq⟩
  have hg3 := hD3.lt
  replace hix : InB w5 AnyB I x.m := RdB.mono hix (fun _ _ => trivial)
  replace hp : Pts w5 AnyB (some ad) l := (hp.grown hq (fun q e hh => by injection e with e; have := hh.1; omega)).mono (fun _ _ => trivial)
  replace hr : Pts w5 AnyB A0 l0 := (hr.grown hq (fun q e hh => by injection e with e; unfold Under at hh; omega)).mono (fun _ _ => trivial)
  replace hX : InB w5 AnyB I0 X.m := RdB.mono (RdB.grown hX hq (fun q e hh => by injection e with e; unfold Under at hh; omega)) (fun _ _ => trivial)
  replace hO : Chs w5 AnyB A2 od := (hO.grown hq (fun q e hh => by injection e with e; unfold Under at hh; omega)).mono (fun _ _ => trivial)
  replace k5 := k5.grown hq (fun e => by injection e with e; omega)
  replace hB := hB.grown hq hB.size (fun q e => by injection e with e; omega)
  clear hq hD3 q0 q1 had hbN hcN hpf b0 b1 hwN hpN
  have k11 := Blk.new w5 42 #[.int .i64 x.k, .int .i64 x.r, .slice I x.m.length ci, .int .i64 x.s]
  have hq := (Below.refl w5.heap.size w5).alloc (Nat.le_refl _) (Obj.cells #[.int .i64 x.k, .int .i64 x.r, .slice I x.m.length ci, .int .i64 x.s] 42)
  go_upto_region 8 with fail
  replace hB := below_grows hB (Nat.le_refl _) hq
  replace hr := hr.grows hq
  replace hX := hX.grows hq
  replace hO := hO.grows hq
  replace k5 := k5.grows hq
  replace hp := hp.grows hq
  replace hix := hix.grows hq
  clear hq
  generalize w5.heap.size = q11 at *
  generalize World.alloc w5 _ = w6 at *
  go_wp2_with fail
  have k22 := Blk.new w6 22 #[.slice A0 l0.length c0, .slice (some ad) l.length c1]
  have hq := (Below.refl w6.heap.size w6).alloc (Nat.le_refl _) (Obj.cells #[.slice A0 l0.length c0, .slice (some ad) l.length c1] 22)
  replace hB := below_grows hB (Nat.le_refl _) hq
  replace hr := hr.grows hq
  replace hX := hX.grows hq
  replace hO := hO.grows hq
  replace k5 := k5.grows hq
  replace hp := hp.grows hq
  replace hix := hix.grows hq
  replace k11 := k11.grows hq
  clear hq
  generalize World.alloc w6 _ = w7 at *
  generalize w6.heap.size = q22 at *
  have hrd : Reads w7 w7.heap.size 1 (some ⟨q22, 0, none⟩) 2 [.slice A0 l0.length c0, .slice (some ad) l.length c1] := ⟨rfl, fun _ => ⟨_, rfl, k22.lt, fun j u hu => by rw [add_head, k22.cell, ← Array.getElem?_toList]; exact hu⟩⟩
  obtain ⟨ade, hade⟩ : ∃ ad : Addr, (⟨q22, 0, none⟩ : Addr) = ad := ⟨_, rfl⟩
  rw [hade] at hrd ⊢
  clear hade k22
  have HZ : Hid (∀ k, k < 2 → ∃ (Az : Option Addr) (cz : Nat) (z : List Pt), ([.slice A0 l0.length c0, .slice (some ad) l.length c1] : List Value)[k]? = some (.slice Az z.length cz) ∧ z.length ≤ 18 ∧ (∀ p ∈ z, (∀ b ∈ p.b, OKB b ∧ I64 b.k) ∧ p.b.length ≤ 1000000) ∧ (∀ p ∈ z, ∀ b ∈ p.b, I64 b.k) ∧ Pts w7 AnyB Az z) := Lib.hid (fun k hk => by
    have : k = 0 ∨ k = 1 := by omega
    rcases this with rfl | rfl
    · exact ⟨A0, c0, l0, rfl, h18, HR0.out, HRK.out, hr⟩
    · exact ⟨some ad, c1, l, rfl, by omega, HM1.out, HM2.out, hp⟩)
  have HOY : Hid (∀ y ∈ [X, x], OKC y) := Lib.hid (fun y hy => by
    simp only [List.mem_cons, List.not_mem_nil, or_false] at hy
    rcases hy with rfl | rfl
    · exact ⟨hXr, hXs, by have := HX12.out; omega⟩
    · exact hokx)
  clear hr hp HR0 HRK HM1 HM2 HFI hokx hXr hXs HX12 h12 hXl
  go_loopw [56] (fun i wr => ∃ k : Nat, k ≤ 2 ∧ i = .int .i64 k ∧ Grows w7 wr) (fun i _ => 2 - (intOf i).toNat)
  case atStart => exact ⟨0, by omega, rfl, Below.refl _ _⟩
  case round =>
    obtain ⟨k, hk, rfl, hg⟩ := hrel
    by_cases hlt : k < 2
    · have dk : decide ((k : Int) < 2) = true := by simp only [decide_eq_true_eq]; omega
      obtain ⟨Az, cz, z, hzv, hz18, hzo, hzk, hpz⟩ := HZ.out k hlt
      obtain ⟨ad2, u, ea, had, hu, hcell⟩ := (Reads.grows hrd hg).at_ hlt
      rw [hzv] at hu
      injection hu with hu
      injection ea with ea
      subst hu ea
      have hpz := hpz.grows hg
      have HZO := Lib.hid hzo
      have HZK := Lib.hid hzk
      clear hzv hzo hzk
      have hB := below_grows hB (Nat.le_refl _) hg
      have x5 := (k5.grows hg).cell
      have x11 := (k11.grows hg).cell
      have hO := hO.grows hg
      have hcs := chs_lit2 (w := wr) (hX.grows hg) hXc (hix.grows hg) hci
      have hq := (Below.refl wr.heap.size wr).alloc (Nat.le_refl _) (Obj.cells #[.int .i64 X.k, .int .i64 X.r, .slice I0 X.m.length ci0, .int .i64 X.s, .int .i64 x.k, .int .i64 x.r, .slice I x.m.length ci, .int .i64 x.s] 42)
      go_wp2_with fail
      have hg2 := below_grows hg (Nat.le_refl _) hq
      replace hB := below_grows hB (Nat.le_refl _) hq
      replace hpz := hpz.grows hq
      replace hO := hO.grows hq
      clear hq hcell x5 x11 hg
      generalize World.alloc wr _ = w8 at *
      generalize wr.heap.size = q62 at *
      obtain ⟨adf, hadf⟩ : ∃ ad : Addr, (⟨q62, 0, none⟩ : Addr) = ad := ⟨_, rfl⟩
      rw [hadf] at hcs ⊢
      clear hadf
      go_loopw [64] (fun i wr => ∃ j : Nat, j ≤ 2 ∧ i = .int .i64 j ∧ Grows w8 wr) (fun i _ => 2 - (intOf i).toNat)
      case atStart => exact ⟨0, by omega, rfl, Below.refl _ _⟩
      case round =>
        obtain ⟨j, hj, rfl, hg8⟩ := hrel
        by_cases hjt : j < 2
        · have dj : decide ((j : Int) < 2) = true := by simp only [decide_eq_true_eq]; omega
          obtain ⟨ad9, y, Iy, cy, ea, had9, hy, hcy, hiy, hcl⟩ := hcs.elem hg8 (k := j) hjt
          injection ea with ea
          subst ea
          have hoky := HOY.out y (List.mem_of_getElem? hy)
          clear hy
          obtain ⟨y0, y1, y2, y3⟩ := hcl
          have hpz := hpz.grows hg8
          have hO := hO.grows hg8
          have hiy := hiy.grows hg8
          have hB := below_grows hB (Nat.le_refl _) hg8
          have hl16 := choose_lists HZK.out (want := y)
          obtain ⟨⟨C, ⟨fa, fb⟩, fe⟩, hcf⟩ : ∃ f, chooseF z y = f := ⟨_, rfl⟩
          rw [hcf] at hl16
          have HCL : Hid (C.length ≤ z.length) := Lib.hid hl16.1
          have HCO : Hid (∀ x ∈ C, x.m.length ≤ 1000000) := Lib.hid hl16.2
          have HCF := Lib.hid hcf
          clear hl16 hcf
          have k15 := Blk.new wr 42 #[.int .i64 y.k, .int .i64 y.r, .slice Iy y.m.length cy, .int .i64 y.s]
          have hq := (Below.refl wr.heap.size wr).alloc (Nat.le_refl _) (Obj.cells #[.int .i64 y.k, .int .i64 y.r, .slice Iy y.m.length cy, .int .i64 y.s] 42)
          go_upto_region 14 with fail
          have hg9 := below_grows hg8 (Nat.le_refl _) hq
          replace hB := below_grows hB (Nat.le_refl _) hq
          replace hpz := hpz.grows hq
          replace hO := hO.grows hq
          replace hiy := hiy.grows hq
          clear hq hg8 y0 y1 y2 y3
          generalize World.alloc wr _ = w9 at *
          generalize wr.heap.size = q15 at *
          have x15 := k15.cell
          go_wp2_with fail
          refine (choose_at (c := cz) (ci := cy) HCF.out rfl hpz (by omega) HZO.out hiy hoky).mono ?_
          rintro e w10 ⟨⟨A17, c17, rfl, hc17, hr17⟩, hq⟩
          replace hB := below_grows hB (Nat.le_refl _) hq
          replace hg9 := below_grows hg9 (Nat.le_refl _) hq
          replace hpz := hpz.grows hq
          replace hO := hO.grows hq
          replace hiy := hiy.grows hq
          replace k15 := k15.grows hq
          clear hq
          have k17 := Blk.new w10 32 #[.int .i64 fa, .int .i64 fb]
          have hq := (Below.refl w10.heap.size w10).alloc (Nat.le_refl _) (Obj.cells #[.int .i64 fa, .int .i64 fb] 32)
          try clear x15
          go_upto_region 15 with fail
          replace hB := below_grows hB (Nat.le_refl _) hq
          replace hg9 := below_grows hg9 (Nat.le_refl _) hq
          replace hpz := hpz.grows hq
          replace hO := hO.grows hq
          replace hiy := hiy.grows hq
          replace k15 := k15.grows hq
          replace hr17 := hr17.grows hq
          clear hq
          generalize w10.heap.size = q17 at *
          generalize World.alloc w10 _ = w10b at *
          have x15 := k15.cell
          go_wp2_with fail
          refine (rchoose_at (c := cz) (ci := cy) HCF.out rfl hpz (by omega) HZO.out hiy hoky).mono ?_
          rintro e w11 ⟨⟨A20, c20, rfl, hc20, hr20⟩, hq⟩
          replace hB := below_grows hB (Nat.le_refl _) hq
          replace hg9 := below_grows hg9 (Nat.le_refl _) hq
          replace hpz := hpz.grows hq
          replace hO := hO.grows hq
          replace hiy := hiy.grows hq
          replace hr17 := hr17.grows hq
          replace k17 := k17.grows hq
          clear hq
          have k20 := Blk.new w11 32 #[.int .i64 fa, .int .i64 fb]
          have hq := (Below.refl w11.heap.size w11).alloc (Nat.le_refl _) (Obj.cells #[.int .i64 fa, .int .i64 fb] 32)
          try clear x15
          go_upto_region 16 with fail
          replace hB := below_grows hB (Nat.le_refl _) hq
          replace hg9 := below_grows hg9 (Nat.le_refl _) hq
          replace hpz := hpz.grows hq
          replace hO := hO.grows hq
          replace hiy := hiy.grows hq
          replace hr17 := hr17.grows hq
          replace k17 := k17.grows hq
          replace hr20 := hr20.grows hq
          clear hq
          generalize w11.heap.size = q20 at *
          generalize World.alloc w11 _ = w11b at *
          have HCS := Lib.hid (fun (w0 : World) (h : Grows w11b w0) => samechs_eq (w := w0) (c := c17) (d := c20) rfl rfl (hr17.grows h) (hr20.grows h) (by have := HCL.out; omega) HCO.out)
          have hf1 := fun (w0 : World) (h : Grows w11b w0) => fits_any (w := w0) (c := cz) (d := c20) rfl rfl (hpz.grows h) (hr20.grows h) (by omega) (by have := HCL.out; omega) (fun p hp => ⟨fun b hb => ((HZO.out p hp).1 b hb).1, (HZO.out p hp).2⟩) HCO.out
          have hf2 := fun (w0 : World) (h : Grows w11b w0) => rfits_any (w := w0) (c := cz) (d := c20) rfl rfl (hpz.grows h) (hr20.grows h) (by omega) (by have := HCL.out; omega) (fun p hp => ⟨fun b hb => ((HZO.out p hp).1 b hb).1, (HZO.out p hp).2⟩) HCO.out
          have hf3 := fun (w0 : World) (h : Grows w11b w0) => fitsw_any (w := w0) (c := cz) (d := c2) rfl rfl (hpz.grows h) (hO.grows h) (by omega) hol (fun p hp => ⟨fun b hb => ((HZO.out p hp).1 b hb).1, (HZO.out p hp).2⟩) HOL.out
          have hf4 := fun (w0 : World) (h : Grows w11b w0) => rfitsw_any (w := w0) (c := cz) (d := c2) rfl rfl (hpz.grows h) (hO.grows h) (by omega) hol (fun p hp => ⟨fun b hb => ((HZO.out p hp).1 b hb).1, (HZO.out p hp).2⟩) HOL.out
          generalize fitsF z C = f1 at *
          generalize fitsF z od = f2 at *
          have HF1 := Lib.hid hf1
          have HF2 := Lib.hid hf2
          have HF3 := Lib.hid hf3
          have HF4 := Lib.hid hf4
          clear hf1 hf2 hf3 hf4
          have x17 := k17.cell
          have x20 := k20.cell
          have n1 : (f1 != f1) = false := by simp
          have n4 : (f2 != f2) = false := by simp
          have n2 : (fe != fe) = false := by simp
          have n3 : decide (fe = fe) = true := by simp
          go_wp2_with fail
          refine (HCS.out _ (Below.refl _ _)).mono ?_
          rintro e v0 ⟨rfl, hq⟩
          have hgq := hq
          clear hq
          clear x17 x20
          go_wp2_with fail
          refine (HF1.out _ hgq).mono ?_
          rintro e v1 ⟨rfl, hq⟩
          replace hgq := below_grows hgq (Nat.le_refl _) hq
          clear hq
          go_wp2_with fail
          refine (HF2.out _ hgq).mono ?_
          rintro e v2 ⟨rfl, hq⟩
          replace hgq := below_grows hgq (Nat.le_refl _) hq
          clear hq
          go_wp2_with fail
          refine (HF3.out _ hgq).mono ?_
          rintro e v3 ⟨rfl, hq⟩
          replace hgq := below_grows hgq (Nat.le_refl _) hq
          clear hq
          go_wp2_with fail
          refine (HF4.out _ hgq).mono ?_
          rintro e v4 ⟨rfl, hq⟩
          replace hgq := below_grows hgq (Nat.le_refl _) hq
          clear hq
          replace hg9 := below_grows hg9 (Nat.le_refl _) hgq
          clear hgq hr17 hr20 hpz hO hiy
          go_wp2
          go_roundw
          case rel => exact ⟨j + 1, by omega, by go_num, hg9⟩
          case measure => simp [intOf]; omega
        · obtain rfl : j = 2 := by omega
          have hgo := below_grows hg2 (Nat.le_refl _) hg8
          go_wp2
          go_roundw
          case rel => exact ⟨k + 1, by omega, by go_num, hgo⟩
          case measure => simp [intOf]; omega
    · obtain rfl : k = 2 := by omega
      have hB := below_grows hB (Nat.le_refl _) hg
      go_wp2
      go_ret
      exact ⟨rfl, HE.out _ hB⟩
end NegotiateChooses
namespace NegotiateChooses
set_option maxRecDepth 100000 in
theorem contract (H : Type) (enc : TypeId × Value → H) (W : World) (base : Nat) (args : Array Value) (ds gs : List (DataW H)) (before : List MemPlace)
    (hval0 : ∀ (j : Nat) t v, Tryz.f4.params[j]? = some t → args[j]? = some v → Value.okWide Tryz.prog W .any base t v)
    (hW : DataW.Whole enc Tryz.prog Tryz.f4.params.toList Rows.negotiateChoosesSpec.vars false W args.toList ds gs before)
    (hsz0 : (DataW.weightsEach Tryz.prog (Tryz.f4.params.toList ++ Rows.negotiateChoosesSpec.plain.varTypes Tryz.prog) (ds ++ gs)).all (· ≤ reachBytes) = true) :
    Calls Tryz.prog 4 args W fun e W' => ∃ v, e = .returned v ∧ Rows.negotiateChoosesSpec.post enc Tryz.prog Tryz.f4 false true false false W args v W' := by
  have key : Calls Tryz.prog 4 args W fun e W' => e = .returned (.bool true) ∧ Below W.heap.size W W' := by
    have hval : ∀ (j : Nat) t v, Tryz.f4.params[j]? = some t → args[j]? = some v → Value.okWide Tryz.prog W .any base t v := hval0
    obtain ⟨p, q, hA0, hV, hbe, hfz, hnd⟩ := hW
    have hA : DataW.TrodAll enc Tryz.prog W 0 (fun _ => true) true Tryz.f4.params.toList args.toList ds p := hA0
    rw [Tryz.params4] at hA hval
    clear hA0 hval0
    obtain ⟨v0, vs0, d0, ds0, p0, q0, hargs, rfl, rfl, h0, r0⟩ := trodAll_cons hA
    obtain ⟨v1, vs1, d1, ds1, p1, q1, rfl, rfl, rfl, h1, r1⟩ := trodAll_cons r0
    obtain ⟨v2, vs2, d2, ds2, p2, q2, rfl, rfl, rfl, h2, r2⟩ := trodAll_cons r1
    obtain ⟨v3, vs3, d3, ds3, p3, q3, rfl, rfl, rfl, h3, r3⟩ := trodAll_cons r2
    obtain ⟨rfl, rfl, rfl⟩ := trodAll_nil r3
    obtain rfl : args = #[v0, v1, v2, v3] := by cases args; simp_all
    obtain ⟨rfl, rfl⟩ := trodVars_none hV
    have hsz : (DataW.weightsEach Tryz.prog (Tryz.f4.params.toList ++ Rows.negotiateChoosesSpec.plain.varTypes Tryz.prog) ([d0, d1, d2, d3] ++ [])).all (· ≤ reachBytes) = true := hsz0
    rw [Tryz.params4] at hsz
    clear hsz0
    obtain ⟨A0, c0, l0, rfl, hp0, hl0, hc0, hx0⟩ := open_ports (hval 0 22 v0 rfl rfl) h0
    obtain ⟨X, I, ci, rfl, hix, hxm, hci, hxr, hxs⟩ := open_choice (hval 1 42 v1 rfl rfl) h1
    obtain ⟨A, c, l, rfl, hI2, hl2, hlen2, hw2⟩ := open_slice_kind Tryz.underlying23 Tryz.underlying5 (by kernel_rfl) (hval 2 23 v2 rfl rfl) h2
    obtain ⟨A3, c3, od, rfl, hp3, hl3, hc3, hx3⟩ := open_choices (hval 3 43 v3 rfl rfl) h3
    exact NegotiateChooses.walk A0 c0 l0 X I ci A c l A3 c3 od W hp0 hl0 hc0 hx0 hix hxm hci hxr hxs hI2 hlen2 hl2 (fun x hx => u8_bd (hw2 x hx)) hp3 hl3 hc3 hx3
  refine key.mono fun e W' ⟨he, hb⟩ => ⟨_, he, law_post laid_out hW ?_ rfl (by kernel_rfl) Tryz.underlying4 ?_ hb⟩
  · rw [Tryz.params4]
    intro t ht
    simp only [List.mem_cons, List.not_mem_nil, or_false] at ht
    rcases ht with rfl | rfl | rfl | rfl <;> exact ⟨by kernel_rfl, of_decide_eq_true (by kernel_rfl)⟩
  · rw [Tryz.params4]
    intro ds hl
    match ds, hl with
    | [_, _, _, _], _ => rfl

set_option maxRecDepth 100000 in
theorem lifted (os : Os) (started : os.Started) (H : Type) (enc : TypeId × Value → H) :
    ReturnsInHanded {} Tryz.checked os 4 .any (Rows.negotiateChoosesSpec.pre6 enc Tryz.prog Tryz.f4 Rows.negotiateChoosesRow.domain false) (Rows.negotiateChoosesSpec.post enc Tryz.prog Tryz.f4 false true false false) := by
  refine returnsInHanded_of_change_sized (C := Tryz.checked) own_knob started (by kernel_rfl) Tryz.func4
    (ChangeSpec.witness6 (enc := enc) (C := Tryz.checked) false ⟨#[], #[.slice none 0 0, .agg #[.int .i64 0, .int .i64 0, .slice none 0 0, .int .i64 0], .slice none 0 0, .slice none 0 0], []⟩ 8 (by kernel_rfl) (by kernel_rfl) (by kernel_rfl) (by kernel_rfl)) ?_
  intro W base args ds gs before hval0 hW _ hsz0 _
  exact contract H enc W base args ds gs before hval0 hW hsz0

theorem over : Rows.negotiateChoosesRow.holds Tryz.pinned (OpenSpec.ofChange Rows.negotiateChoosesSpec) :=
  OpenClaim.holds_of_wide 4 Tryz.f4 rfl rfl rfl rfl rfl rfl rfl ⟨rfl, rfl, rfl, rfl, rfl⟩ rfl rfl rfl rfl rfl (by kernel_rfl) Tryz.func4 (by kernel_rfl)
    (of_decide_eq_true (by kernel_rfl)) (by unfold Func.isWrapper; first | (rw [if_pos (by decide +kernel)]; kernel_rfl) | (rw [if_neg (by decide +kernel)]; exact ⟨rfl, rfl⟩))
    (fun os started H enc _ => lifted os started H enc)

/-- The given statement. -/
theorem proved : Rows.NegotiateChoosesSaid := over
end NegotiateChooses
#print axioms NegotiateChooses.proved
end Go.Proofs.YtjbkjgmcfommgaaGreat

