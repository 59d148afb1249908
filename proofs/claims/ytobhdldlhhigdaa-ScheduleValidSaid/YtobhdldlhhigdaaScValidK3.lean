/-
  YtobhdldlhhigdaaScValid: shared parts, 3. Plain theorems.
-/
import Derived.Test.YtobhdldlhhigdaaScValidK2
import Derived.StillTailTactics
import Derived.Deep.QuietTactic
import Derived.BigQuiet
namespace Go.Proofs.Ytobhdldlhhigdaa
open Go.RowKit Go.Maps
set_option maxRecDepth 100000 in
theorem fine_is (x : Q4) (b : Bool) (w : World) (h : fineN x = b) : Calls Try.prog 63 #[.agg #[.int .i64 x.a, .int .i64 x.b, .int .i64 x.c, .int .i64 x.d]] w fun e w' => e = .returned (.bool b) ∧ Grows w w' := by
 subst h
 exact fine_any x w
set_option maxRecDepth 100000 in
theorem ends_is (bm n : Nat) (ns : List Q4) (l : Q4) (b : Bool) (w : World) (hm : MapT TI w bm n (nodeM ns)) (ha : In64 l.a) (hc : In64 l.c) (hN : okN ns = true) (hb : endsL ns l = b) :
 Calls Try.prog 65 #[.map (some bm), .agg #[.int .i64 l.a, .int .i64 l.b, .int .i64 l.c, .int .i64 l.d]] w fun e w' => e = .returned (.bool b) ∧ Grows w w' := by
 subst hb
 unfold endsL
 rw [← lastD_node hN, ← lastD_node hN]
 exact ends_any bm n ns l w hm ha hc
set_option maxRecDepth 100000 in
theorem compare_is (x l : Q4) (z : Int) (w : World) (h : cmpL x l = z) : Calls Try.prog 66 #[.agg #[.int .i64 x.a, .int .i64 x.b, .int .i64 x.c, .int .i64 x.d], .agg #[.int .i64 l.a, .int .i64 l.b, .int .i64 l.c, .int .i64 l.d]] w fun e w' => e = .returned (.int .i64 z) ∧ Grows w w' := by
 subst h
 exact compare_any x l w
set_option maxRecDepth 100000 in
theorem clash_is (bm n : Nat) (ns : List Q4) (x l : Q4) (b : Bool) (w : World) (hm : MapT TI w bm n (nodeM ns)) (ha : In64 x.a) (hc : In64 x.c) (hN : okN ns = true) (hb : clashL ns x l = b) :
 Calls Try.prog 67 #[.map (some bm), .agg #[.int .i64 x.a, .int .i64 x.b, .int .i64 x.c, .int .i64 x.d], .agg #[.int .i64 l.a, .int .i64 l.b, .int .i64 l.c, .int .i64 l.d]] w fun e w' => e = .returned (.bool b) ∧ Grows w w' := by
 subst hb
 have e : clashL ns x l = ((x.c == l.c && x.d == l.d && (lastD ns x.c).b != 3) || (x.a == l.a && x.b == l.b && (lastD ns x.a).b != 5 && (lastD ns x.a).b != 1)) := by
  unfold clashL
  rw [lastD_node hN, lastD_node hN]
  by_cases e1 : x.c = l.c
  ·rw [e1]
   by_cases e2 : x.a = l.a
   ·rw [e2]
   ·have : (x.a == l.a) = false := by simpa using e2
    rw [this]
    rfl
  ·have : (x.c == l.c) = false := by simpa using e1
   rw [this]
   by_cases e2 : x.a = l.a
   ·rw [e2]
    rfl
   ·have : (x.a == l.a) = false := by simpa using e2
    rw [this]
    rfl
 rw [e]
 exact clash_any bm n ns x l w hm ha hc
set_option maxRecDepth 100000 in
theorem porder_len (A A2 : Option Addr) (c c2 m : Nat) (ns ls : List Q4) (w : World) (h : Qs w A ns) (hl : ns.length ≤ 100000) (h2 : Qs w A2 ls) (hl2 : ls.length ≤ 100000) (hr : ∀ n ∈ ns, In64 n.a) (hr2 : ∀ l ∈ ls, In64 l.a ∧ In64 l.c) (hm : (orderL ns ls).length = m) :
 Calls Try.prog 68 #[.agg #[.slice A ns.length c, .slice A2 ls.length c2]] w fun e w' => (∃ v, e = .returned v ∧ ∃ A c, v = .slice A m c) ∧ Grows w w' := by
 subst hm
 refine (order_any A A2 c c2 ns ls w h hl h2 hl2 hr (fun l hl => (hr2 l hl).2)).mono ?_
 rintro e w' ⟨⟨v, rfl, ho⟩, hg⟩
 obtain ⟨A3, c3, rfl, -, -⟩ := ho.read
 exact ⟨⟨_, rfl, A3, c3, rfl⟩, hg⟩
set_option maxRecDepth 100000 in
set_option maxHeartbeats 16000000 in
theorem pvalidg_any (A A2 : Option Addr) (c c2 : Nat) (ns ls : List Q4) (w : World) (h : Qs w A ns) (hl : ns.length ≤ 9223372036854775807) (h2 : Qs w A2 ls) (hl2 : ls.length ≤ 9223372036854775807) (hc2 : ls.length ≤ c2) (hr : ∀ n ∈ ns, In64 n.a) (hr2 : ∀ l ∈ ls, In64 l.a ∧ In64 l.c) :
 Calls Try.prog 54 #[.agg #[.slice A ns.length c, .slice A2 ls.length c2]] w fun e w' => e = .returned (.bool (validG ns ls)) ∧ Grows w w' := by
 have HRn := Lib.hid hr
 have HRl := Lib.hid hr2
 clear hr hr2
 have k1 := Blk.new w 26 #[.slice A ns.length c, .slice A2 ls.length c2]
 have hB := (Below.refl w.heap.size w).alloc (Nat.le_refl _) (Obj.cells #[.slice A ns.length c, .slice A2 ls.length c2] 26)
 go_enter Try.func54, Try.ntmps54
 go_upto_region 1 with fail
 generalize World.alloc w _ = w1 at *
 have x1 := k1.cell
 by_cases b1 : 64 < ns.length
 ·go_wp2
  go_ret
  refine ⟨ret_bool ?_, hB⟩
  simp only [validG, Bool.false_eq, Bool.and_eq_false_iff, decide_eq_false_iff_not]
  omega
 by_cases b2 : 256 < ls.length
 ·go_wp2
  go_ret
  refine ⟨ret_bool ?_, hB⟩
  simp only [validG, Bool.false_eq, Bool.and_eq_false_iff, decide_eq_false_iff_not]
  omega
 have n1 : ns.length ≤ 64 := by omega
 have n2 : ls.length ≤ 256 := by omega
 go_wp2_with fail
 clear x1
 go_loopw [23] (fun i wr => ∃ k : Nat, k ≤ ns.length ∧ i = .int .i64 k ∧ Hid ((List.range k).all (stepN ns) = true) ∧ Below w.heap.size w wr ∧ Blk wr w.heap.size 26 #[.slice A ns.length c, .slice A2 ls.length c2]) (fun i _ => ns.length - (intOf i).toNat)
 case atStart => exact ⟨0, by omega, rfl, Lib.hid rfl, hB, k1⟩
 case round =>
  clear hB k1
  obtain ⟨k, hk, rfl, HA, hB, k1⟩ := hrel
  by_cases hlt : k < ns.length
  ·obtain ⟨ad, x, rfl, had, hx, q0, q1, q2, q3⟩ := (h.grows hB).elem hlt
   have HX := Lib.hid hx
   clear hx
   have k4 := Blk.new wr 46 #[.int .i64 x.a, .int .i64 x.b, .int .i64 x.c, .int .i64 x.d]
   have hq := (Below.refl wr.heap.size wr).alloc (Nat.le_refl _) (Obj.cells #[.int .i64 x.a, .int .i64 x.b, .int .i64 x.c, .int .i64 x.d] 46)
   go_upto_region 6 with fail
   clear q0 q1 q2 q3
   replace hB := below_grows hB (Nat.le_refl _) hq
   replace k1 := k1.grows hq
   clear hq
   generalize World.alloc wr _ = w4 at *
   generalize wr.heap.size = G4 at *
   cases hfn : fineN x
   ·have HF := Lib.hid hfn
    clear hfn
    obtain ⟨S, HI, HO⟩ := hideS fun (L : Ran) (vs : Nat → Value) (w' : World) => Grows w4 w' ∧ KnS [some (.agg #[.int .i64 x.a, .int .i64 x.b, .int .i64 x.c, .int .i64 x.d]), some (.bool false), some (.bool true), some (.bool true), none, none, some (undef), none, none, none, none, none, none, none, none, none, none, none, some (.bool true)] L vs
    refine wp_region_genW S 99 (by kernel_rfl) (by kernel_rfl) rfl ?_ ?_
    ·exact HI.out _ _ _ ⟨Grows.drew' _, kn_none _ _⟩
    refine gen_consR (fun vs L w1 hL hw1 => ?_) ?_
    ·obtain ⟨q0, q1⟩ := HO.out _ _ _ hw1
     refine gen_plain rfl ?_
     have x := (k4.grows q0).cell 
     go_simp
     exact gr_val (HI.out _ _ _ ⟨q0, kn_known q1 rfl⟩)
    refine gen_consR (fun vs L w1 hL hw1 => ?_) ?_
    ·obtain ⟨q0, q1⟩ := HO.out _ _ _ hw1
     refine gen_plain rfl ?_
     have l0 : L 0 = true := hL.need 0 (by kernel_rfl)
     have e0 := q1 0 _ rfl l0
     simp only [e0]
     go_simp
     refine gr_call ?_
     refine (fine_is x false w1 HF.out).mono ?_
     rintro e w2 ⟨rfl, hg⟩
     exact ⟨_, rfl, HI.out _ _ _ ⟨below_grows q0 (Nat.le_refl _) hg, kn_known q1 rfl⟩⟩
    refine gen_consR (fun vs L w1 hL hw1 => ?_) ?_
    ·obtain ⟨q0, q1⟩ := HO.out _ _ _ hw1
     refine gen_plain rfl ?_
     have l1 : L 1 = true := hL.need 1 (by kernel_rfl)
     have e1 := q1 1 _ rfl l1
     simp only [e1]
     go_simp
     exact gr_val (HI.out _ _ _ ⟨q0, kn_known q1 rfl⟩)
    refine gen_consR (fun vs L w1 hL hw1 => ?_) ?_
    ·obtain ⟨q0, q1⟩ := HO.out _ _ _ hw1
     refine gen_plain rfl ?_
     have l2 : L 2 = true := hL.need 2 (by kernel_rfl)
     have e2 := q1 2 _ rfl l2
     simp only [e2]
     go_simp
     exact gr_val (HI.out _ _ _ ⟨q0, kn_known q1 rfl⟩)
    refine gen_consR (fun vs L w1 hL hw1 => ?_) ?_
    ·obtain ⟨q0, q1⟩ := HO.out _ _ _ hw1
     have l3 : L 3 = true := hL.need 3 (by kernel_rfl)
     have e3 := q1 3 _ rfl l3
     refine gen_no ?_ ?_
     ·simp only [e3]
      rfl
     ·exact HI.out _ _ _ ⟨q0, kn_free q1 rfl⟩
    refine gen_consR (fun vs L w1 hL hw1 => ?_) ?_
    ·obtain ⟨q0, q1⟩ := HO.out _ _ _ hw1
     have l3 : L 3 = true := hL.need 3 (by kernel_rfl)
     have e3 := q1 3 _ rfl l3
     refine gen_no ?_ ?_
     ·simp only [e3]
      rfl
     ·exact HI.out _ _ _ ⟨q0, kn_free q1 rfl⟩
    refine gen_consR (fun vs L w1 hL hw1 => ?_) ?_
    ·obtain ⟨q0, q1⟩ := HO.out _ _ _ hw1
     have l3 : L 3 = true := hL.need 3 (by kernel_rfl)
     have e3 := q1 3 _ rfl l3
     refine gen_no ?_ ?_
     ·simp only [e3]
      rfl
     ·exact HI.out _ _ _ ⟨q0, kn_known q1 rfl⟩
    refine gen_consR (fun vs L w1 hL hw1 => ?_) ?_
    ·obtain ⟨q0, q1⟩ := HO.out _ _ _ hw1
     have l6 : L 6 = true := hL.need 6 (by kernel_rfl)
     have e6 := q1 6 _ rfl l6
     refine gen_no ?_ ?_
     ·simp only [e6]
      rfl
     ·exact HI.out _ _ _ ⟨q0, kn_free q1 rfl⟩
    refine gen_consR (fun vs L w1 hL hw1 => ?_) ?_
    ·obtain ⟨q0, q1⟩ := HO.out _ _ _ hw1
     have l6 : L 6 = true := hL.need 6 (by kernel_rfl)
     have e6 := q1 6 _ rfl l6
     refine gen_no ?_ ?_
     ·simp only [e6]
      rfl
     ·exact HI.out _ _ _ ⟨q0, kn_free q1 rfl⟩
    refine gen_consR (fun vs L w1 hL hw1 => ?_) ?_
    ·obtain ⟨q0, q1⟩ := HO.out _ _ _ hw1
     have l6 : L 6 = true := hL.need 6 (by kernel_rfl)
     have e6 := q1 6 _ rfl l6
     refine gen_no ?_ ?_
     ·simp only [e6]
      rfl
     ·exact HI.out _ _ _ ⟨q0, kn_free q1 rfl⟩
    refine gen_consR (fun vs L w1 hL hw1 => ?_) ?_
    ·obtain ⟨q0, q1⟩ := HO.out _ _ _ hw1
     have l6 : L 6 = true := hL.need 6 (by kernel_rfl)
     have e6 := q1 6 _ rfl l6
     refine gen_no ?_ ?_
     ·simp only [e6]
      rfl
     ·exact HI.out _ _ _ ⟨q0, kn_free q1 rfl⟩
    refine gen_consR (fun vs L w1 hL hw1 => ?_) ?_
    ·obtain ⟨q0, q1⟩ := HO.out _ _ _ hw1
     have l6 : L 6 = true := hL.need 6 (by kernel_rfl)
     have e6 := q1 6 _ rfl l6
     refine gen_no ?_ ?_
     ·simp only [e6]
      rfl
     ·exact HI.out _ _ _ ⟨q0, kn_free q1 rfl⟩
    refine gen_consR (fun vs L w1 hL hw1 => ?_) ?_
    ·obtain ⟨q0, q1⟩ := HO.out _ _ _ hw1
     have l6 : L 6 = true := hL.need 6 (by kernel_rfl)
     have e6 := q1 6 _ rfl l6
     refine gen_no ?_ ?_
     ·simp only [e6]
      rfl
     ·exact HI.out _ _ _ ⟨q0, kn_free q1 rfl⟩
    refine gen_consR (fun vs L w1 hL hw1 => ?_) ?_
    ·obtain ⟨q0, q1⟩ := HO.out _ _ _ hw1
     have l6 : L 6 = true := hL.need 6 (by kernel_rfl)
     have e6 := q1 6 _ rfl l6
     refine gen_no ?_ ?_
     ·simp only [e6]
      rfl
     ·exact HI.out _ _ _ ⟨q0, kn_free q1 rfl⟩
    refine gen_consR (fun vs L w1 hL hw1 => ?_) ?_
    ·obtain ⟨q0, q1⟩ := HO.out _ _ _ hw1
     have l6 : L 6 = true := hL.need 6 (by kernel_rfl)
     have e6 := q1 6 _ rfl l6
     refine gen_no ?_ ?_
     ·simp only [e6]
      rfl
     ·exact HI.out _ _ _ ⟨q0, kn_free q1 rfl⟩
    refine gen_consR (fun vs L w1 hL hw1 => ?_) ?_
    ·obtain ⟨q0, q1⟩ := HO.out _ _ _ hw1
     have l6 : L 6 = true := hL.need 6 (by kernel_rfl)
     have e6 := q1 6 _ rfl l6
     refine gen_no ?_ ?_
     ·simp only [e6]
      rfl
     ·exact HI.out _ _ _ ⟨q0, kn_free q1 rfl⟩
    refine gen_consR (fun vs L w1 hL hw1 => ?_) ?_
    ·obtain ⟨q0, q1⟩ := HO.out _ _ _ hw1
     have l6 : L 6 = true := hL.need 6 (by kernel_rfl)
     have e6 := q1 6 _ rfl l6
     refine gen_no ?_ ?_
     ·simp only [e6]
      rfl
     ·exact HI.out _ _ _ ⟨q0, kn_free q1 rfl⟩
    refine gen_consR (fun vs L w1 hL hw1 => ?_) ?_
    ·obtain ⟨q0, q1⟩ := HO.out _ _ _ hw1
     have l3 : L 3 = true := hL.need 3 (by kernel_rfl)
     have e3 := q1 3 _ rfl l3
     refine gen_no ?_ ?_
     ·simp only [e3]
      rfl
     ·exact HI.out _ _ _ ⟨q0, kn_free q1 rfl⟩
    refine gen_consR (fun vs L w1 hL hw1 => ?_) ?_
    ·obtain ⟨q0, q1⟩ := HO.out _ _ _ hw1
     refine gen_plain rfl ?_
     have l3 : L 3 = true := hL.need 3 (by kernel_rfl)
     have e3 := q1 3 _ rfl l3
     simp only [e3]
     go_simp
     exact gr_val (HI.out _ _ _ ⟨q0, kn_known q1 rfl⟩)
    refine gen_nil ?_
    intro vs L W6 hall hS
    obtain ⟨hq, q1⟩ := HO.out _ _ _ hS
    have eX18 := q1 18 _ rfl (hall 18 (by simp))
    clear hall hS HI HO q1
    simp only [eX18]
    go_wp2
    go_ret
    refine ⟨ret_bool ?_, below_grows hB (Nat.le_refl _) hq⟩
    exact (valid_no1 hlt (by rw [stepN_at HX.out, HF.out]; rfl)).symm
   ·have HF := Lib.hid hfn
    clear hfn
    by_cases hk0 : k = 0
    ·have hk9 : decide (0 < k) = false := by simp [hk0]
     have HK0 := Lib.hid hk0
     clear hk0
     have HA2 := Lib.hid (range_all_up HA.out (by rw [stepN_at HX.out, HF.out, HK0.out]; rfl))
     obtain ⟨S, HI, HO⟩ := hideS fun (L : Ran) (vs : Nat → Value) (w' : World) => Grows w4 w' ∧ KnS [some (.agg #[.int .i64 x.a, .int .i64 x.b, .int .i64 x.c, .int .i64 x.d]), some (.bool true), some (.bool false), some (.bool false), some (.int .i64 (k : Int)), some (.bool false), some (.bool false), none, none, none, none, none, none, none, none, none, none, some (.bool false), some (.bool false)] L vs
     refine wp_region_genW S 99 (by kernel_rfl) (by kernel_rfl) rfl ?_ ?_
     ·exact HI.out _ _ _ ⟨Grows.drew' _, kn_none _ _⟩
     refine gen_consR (fun vs L w1 hL hw1 => ?_) ?_
     ·obtain ⟨q0, q1⟩ := HO.out _ _ _ hw1
      refine gen_plain rfl ?_
      have x := (k4.grows q0).cell 
      go_simp
      exact gr_val (HI.out _ _ _ ⟨q0, kn_known q1 rfl⟩)
     refine gen_consR (fun vs L w1 hL hw1 => ?_) ?_
     ·obtain ⟨q0, q1⟩ := HO.out _ _ _ hw1
      refine gen_plain rfl ?_
      have l0 : L 0 = true := hL.need 0 (by kernel_rfl)
      have e0 := q1 0 _ rfl l0
      simp only [e0]
      go_simp
      refine gr_call ?_
      refine (fine_is x true w1 HF.out).mono ?_
      rintro e w2 ⟨rfl, hg⟩
      exact ⟨_, rfl, HI.out _ _ _ ⟨below_grows q0 (Nat.le_refl _) hg, kn_known q1 rfl⟩⟩
     refine gen_consR (fun vs L w1 hL hw1 => ?_) ?_
     ·obtain ⟨q0, q1⟩ := HO.out _ _ _ hw1
      refine gen_plain rfl ?_
      have l1 : L 1 = true := hL.need 1 (by kernel_rfl)
      have e1 := q1 1 _ rfl l1
      simp only [e1]
      go_simp
      exact gr_val (HI.out _ _ _ ⟨q0, kn_known q1 rfl⟩)
     refine gen_consR (fun vs L w1 hL hw1 => ?_) ?_
     ·obtain ⟨q0, q1⟩ := HO.out _ _ _ hw1
      refine gen_plain rfl ?_
      have l2 : L 2 = true := hL.need 2 (by kernel_rfl)
      have e2 := q1 2 _ rfl l2
      simp only [e2]
      go_simp
      exact gr_val (HI.out _ _ _ ⟨q0, kn_known q1 rfl⟩)
     refine gen_consR (fun vs L w1 hL hw1 => ?_) ?_
     ·obtain ⟨q0, q1⟩ := HO.out _ _ _ hw1
      have l3 : L 3 = true := hL.need 3 (by kernel_rfl)
      have e3 := q1 3 _ rfl l3
      refine gen_yes ?_ ?_
      ·simp only [e3]
       rfl
      go_simp
      exact gr_val (HI.out _ _ _ ⟨q0, kn_known q1 rfl⟩)
     refine gen_consR (fun vs L w1 hL hw1 => ?_) ?_
     ·obtain ⟨q0, q1⟩ := HO.out _ _ _ hw1
      have l3 : L 3 = true := hL.need 3 (by kernel_rfl)
      have e3 := q1 3 _ rfl l3
      refine gen_yes ?_ ?_
      ·simp only [e3]
       rfl
      have l4 : L 4 = true := hL.need 4 (by kernel_rfl)
      have e4 := q1 4 _ rfl l4
      simp only [e4]
      go_simp
      exact gr_val (HI.out _ _ _ ⟨q0, kn_known q1 rfl⟩)
     refine gen_consR (fun vs L w1 hL hw1 => ?_) ?_
     ·obtain ⟨q0, q1⟩ := HO.out _ _ _ hw1
      have l3 : L 3 = true := hL.need 3 (by kernel_rfl)
      have e3 := q1 3 _ rfl l3
      refine gen_yes ?_ ?_
      ·simp only [e3]
       rfl
      have l5 : L 5 = true := hL.need 5 (by kernel_rfl)
      have e5 := q1 5 _ rfl l5
      simp only [e5]
      go_simp
      exact gr_val (HI.out _ _ _ ⟨q0, kn_known q1 rfl⟩)
     refine gen_consR (fun vs L w1 hL hw1 => ?_) ?_
     ·obtain ⟨q0, q1⟩ := HO.out _ _ _ hw1
      have l6 : L 6 = true := hL.need 6 (by kernel_rfl)
      have e6 := q1 6 _ rfl l6
      refine gen_no ?_ ?_
      ·simp only [e6]
       rfl
      ·exact HI.out _ _ _ ⟨q0, kn_free q1 rfl⟩
     refine gen_consR (fun vs L w1 hL hw1 => ?_) ?_
     ·obtain ⟨q0, q1⟩ := HO.out _ _ _ hw1
      have l6 : L 6 = true := hL.need 6 (by kernel_rfl)
      have e6 := q1 6 _ rfl l6
      refine gen_no ?_ ?_
      ·simp only [e6]
       rfl
      ·exact HI.out _ _ _ ⟨q0, kn_free q1 rfl⟩
     refine gen_consR (fun vs L w1 hL hw1 => ?_) ?_
     ·obtain ⟨q0, q1⟩ := HO.out _ _ _ hw1
      have l6 : L 6 = true := hL.need 6 (by kernel_rfl)
      have e6 := q1 6 _ rfl l6
      refine gen_no ?_ ?_
      ·simp only [e6]
       rfl
      ·exact HI.out _ _ _ ⟨q0, kn_free q1 rfl⟩
     refine gen_consR (fun vs L w1 hL hw1 => ?_) ?_
     ·obtain ⟨q0, q1⟩ := HO.out _ _ _ hw1
      have l6 : L 6 = true := hL.need 6 (by kernel_rfl)
      have e6 := q1 6 _ rfl l6
      refine gen_no ?_ ?_
      ·simp only [e6]
       rfl
      ·exact HI.out _ _ _ ⟨q0, kn_free q1 rfl⟩
     refine gen_consR (fun vs L w1 hL hw1 => ?_) ?_
     ·obtain ⟨q0, q1⟩ := HO.out _ _ _ hw1
      have l6 : L 6 = true := hL.need 6 (by kernel_rfl)
      have e6 := q1 6 _ rfl l6
      refine gen_no ?_ ?_
      ·simp only [e6]
       rfl
      ·exact HI.out _ _ _ ⟨q0, kn_free q1 rfl⟩
     refine gen_consR (fun vs L w1 hL hw1 => ?_) ?_
     ·obtain ⟨q0, q1⟩ := HO.out _ _ _ hw1
      have l6 : L 6 = true := hL.need 6 (by kernel_rfl)
      have e6 := q1 6 _ rfl l6
      refine gen_no ?_ ?_
      ·simp only [e6]
       rfl
      ·exact HI.out _ _ _ ⟨q0, kn_free q1 rfl⟩
     refine gen_consR (fun vs L w1 hL hw1 => ?_) ?_
     ·obtain ⟨q0, q1⟩ := HO.out _ _ _ hw1
      have l6 : L 6 = true := hL.need 6 (by kernel_rfl)
      have e6 := q1 6 _ rfl l6
      refine gen_no ?_ ?_
      ·simp only [e6]
       rfl
      ·exact HI.out _ _ _ ⟨q0, kn_free q1 rfl⟩
     refine gen_consR (fun vs L w1 hL hw1 => ?_) ?_
     ·obtain ⟨q0, q1⟩ := HO.out _ _ _ hw1
      have l6 : L 6 = true := hL.need 6 (by kernel_rfl)
      have e6 := q1 6 _ rfl l6
      refine gen_no ?_ ?_
      ·simp only [e6]
       rfl
      ·exact HI.out _ _ _ ⟨q0, kn_free q1 rfl⟩
     refine gen_consR (fun vs L w1 hL hw1 => ?_) ?_
     ·obtain ⟨q0, q1⟩ := HO.out _ _ _ hw1
      have l6 : L 6 = true := hL.need 6 (by kernel_rfl)
      have e6 := q1 6 _ rfl l6
      refine gen_no ?_ ?_
      ·simp only [e6]
       rfl
      ·exact HI.out _ _ _ ⟨q0, kn_free q1 rfl⟩
     refine gen_consR (fun vs L w1 hL hw1 => ?_) ?_
     ·obtain ⟨q0, q1⟩ := HO.out _ _ _ hw1
      have l6 : L 6 = true := hL.need 6 (by kernel_rfl)
      have e6 := q1 6 _ rfl l6
      refine gen_no ?_ ?_
      ·simp only [e6]
       rfl
      ·exact HI.out _ _ _ ⟨q0, kn_free q1 rfl⟩
     refine gen_consR (fun vs L w1 hL hw1 => ?_) ?_
     ·obtain ⟨q0, q1⟩ := HO.out _ _ _ hw1
      have l3 : L 3 = true := hL.need 3 (by kernel_rfl)
      have e3 := q1 3 _ rfl l3
      refine gen_yes ?_ ?_
      ·simp only [e3]
       rfl
      have l6 : L 6 = true := hL.need 6 (by kernel_rfl)
      have e6 := q1 6 _ rfl l6
      simp only [e6]
      go_simp
      exact gr_val (HI.out _ _ _ ⟨q0, kn_known q1 rfl⟩)
     refine gen_consR (fun vs L w1 hL hw1 => ?_) ?_
     ·obtain ⟨q0, q1⟩ := HO.out _ _ _ hw1
      refine gen_plain rfl ?_
      have l3 : L 3 = true := hL.need 3 (by kernel_rfl)
      have e3 := q1 3 _ rfl l3
      have l17 : L 17 = true := hL.need 17 (by kernel_rfl)
      have e17 := q1 17 _ rfl l17
      simp only [e3, e17]
      go_simp
      exact gr_val (HI.out _ _ _ ⟨q0, kn_known q1 rfl⟩)
     refine gen_nil ?_
     intro vs L W6 hall hS
     obtain ⟨hq, q1⟩ := HO.out _ _ _ hS
     have eX18 := q1 18 _ rfl (hall 18 (by simp))
     clear hall hS HI HO q1
     simp only [eX18]
     go_wp2
     go_roundw
     case rel => exact ⟨k + 1, by omega, by go_num, HA2, below_grows hB (Nat.le_refl _) hq, k1.grows hq⟩
     case measure => simp [intOf]; omega
    ·obtain ⟨kp, rfl⟩ : ∃ kp, k = kp + 1 := ⟨k - 1, by omega⟩
     have hkl : kp < ns.length := by omega
     have hw : Hid (IntKind.i64.wrap (kp : Int) = (kp : Int)) := Lib.hid (IntWalk.i64_in _ (by omega))
     have hkp : Hid ((((kp + 1 : Nat) : Int)) - 1 = (kp : Int)) := Lib.hid (by omega)
     obtain ⟨ad', p, e, -, hp0, hp⟩ := h.addr (k := kp) (by omega)
     injection e with e
     subst e
     have HP := Lib.hid hp0
     clear hp0
     by_cases hge : x.a ≤ p.a
     ·have HF2 : Hid (stepN ns (kp + 1) = false) := Lib.hid (by rw [stepN_at HX.out, show kp + 1 - 1 = kp from rfl, getD_at HP.out]; simp; omega)
      obtain ⟨S, HI, HO⟩ := hideS fun (L : Ran) (vs : Nat → Value) (w' : World) => Grows w4 w' ∧ KnS [some (.agg #[.int .i64 x.a, .int .i64 x.b, .int .i64 x.c, .int .i64 x.d]), some (.bool true), some (.bool false), some (.bool false), some (.int .i64 ((kp + 1 : Nat) : Int)), some (.bool true), some (.bool true), some (.pointer (some ⟨G4, 0, none⟩)), some (.int .i64 x.a), some (.pointer (some ⟨w.heap.size, 0, none⟩)), some (.slice (some ad) ns.length c), some (.int .i64 ((kp + 1 : Nat) : Int)), some (.int .i64 (kp : Int)), some (.pointer (some (ad.add (kp * 4)))), some (.pointer (some (ad.add (kp * 4)))), some (.int .i64 p.a), some (.bool true), some (.bool true), some (.bool true)] L vs
      refine wp_region_genW S 99 (by kernel_rfl) (by kernel_rfl) rfl ?_ ?_
      ·exact HI.out _ _ _ ⟨Grows.drew' _, kn_none _ _⟩
      refine gen_consR (fun vs L w1 hL hw1 => ?_) ?_
      ·obtain ⟨q0, q1⟩ := HO.out _ _ _ hw1
       refine gen_plain rfl ?_
       have x := (k4.grows q0).cell 
       go_simp
       exact gr_val (HI.out _ _ _ ⟨q0, kn_known q1 rfl⟩)
      refine gen_consR (fun vs L w1 hL hw1 => ?_) ?_
      ·obtain ⟨q0, q1⟩ := HO.out _ _ _ hw1
       refine gen_plain rfl ?_
       have l0 : L 0 = true := hL.need 0 (by kernel_rfl)
       have e0 := q1 0 _ rfl l0
       simp only [e0]
       go_simp
       refine gr_call ?_
       refine (fine_is x true w1 HF.out).mono ?_
       rintro e w2 ⟨rfl, hg⟩
       exact ⟨_, rfl, HI.out _ _ _ ⟨below_grows q0 (Nat.le_refl _) hg, kn_known q1 rfl⟩⟩
      refine gen_consR (fun vs L w1 hL hw1 => ?_) ?_
      ·obtain ⟨q0, q1⟩ := HO.out _ _ _ hw1
       refine gen_plain rfl ?_
       have l1 : L 1 = true := hL.need 1 (by kernel_rfl)
       have e1 := q1 1 _ rfl l1
       simp only [e1]
       go_simp
       exact gr_val (HI.out _ _ _ ⟨q0, kn_known q1 rfl⟩)
      refine gen_consR (fun vs L w1 hL hw1 => ?_) ?_
      ·obtain ⟨q0, q1⟩ := HO.out _ _ _ hw1
       refine gen_plain rfl ?_
       have l2 : L 2 = true := hL.need 2 (by kernel_rfl)
       have e2 := q1 2 _ rfl l2
       simp only [e2]
       go_simp
       exact gr_val (HI.out _ _ _ ⟨q0, kn_known q1 rfl⟩)
      refine gen_consR (fun vs L w1 hL hw1 => ?_) ?_
      ·obtain ⟨q0, q1⟩ := HO.out _ _ _ hw1
       have l3 : L 3 = true := hL.need 3 (by kernel_rfl)
       have e3 := q1 3 _ rfl l3
       refine gen_yes ?_ ?_
       ·simp only [e3]
        rfl
       go_simp
       exact gr_val (HI.out _ _ _ ⟨q0, kn_known q1 rfl⟩)
      refine gen_consR (fun vs L w1 hL hw1 => ?_) ?_
      ·obtain ⟨q0, q1⟩ := HO.out _ _ _ hw1
       have l3 : L 3 = true := hL.need 3 (by kernel_rfl)
       have e3 := q1 3 _ rfl l3
       refine gen_yes ?_ ?_
       ·simp only [e3]
        rfl
       have l4 : L 4 = true := hL.need 4 (by kernel_rfl)
       have e4 := q1 4 _ rfl l4
       simp only [e4]
       go_simp
       exact gr_val (HI.out _ _ _ ⟨q0, kn_known q1 rfl⟩)
      refine gen_consR (fun vs L w1 hL hw1 => ?_) ?_
      ·obtain ⟨q0, q1⟩ := HO.out _ _ _ hw1
       have l3 : L 3 = true := hL.need 3 (by kernel_rfl)
       have e3 := q1 3 _ rfl l3
       refine gen_yes ?_ ?_
       ·simp only [e3]
        rfl
       have l5 : L 5 = true := hL.need 5 (by kernel_rfl)
       have e5 := q1 5 _ rfl l5
       simp only [e5]
       go_simp
       exact gr_val (HI.out _ _ _ ⟨q0, kn_known q1 rfl⟩)
      refine gen_consR (fun vs L w1 hL hw1 => ?_) ?_
      ·obtain ⟨q0, q1⟩ := HO.out _ _ _ hw1
       have l6 : L 6 = true := hL.need 6 (by kernel_rfl)
       have e6 := q1 6 _ rfl l6
       refine gen_yes ?_ ?_
       ·simp only [e6]
        rfl
       go_simp
       exact gr_val (HI.out _ _ _ ⟨q0, kn_known q1 rfl⟩)
      refine gen_consR (fun vs L w1 hL hw1 => ?_) ?_
      ·obtain ⟨q0, q1⟩ := HO.out _ _ _ hw1
       have l6 : L 6 = true := hL.need 6 (by kernel_rfl)
       have e6 := q1 6 _ rfl l6
       refine gen_yes ?_ ?_
       ·simp only [e6]
        rfl
       have l7 : L 7 = true := hL.need 7 (by kernel_rfl)
       have e7 := q1 7 _ rfl l7
       have x := (k4.grows q0).cell 0
       simp only [e7]
       go_simp
       exact gr_val (HI.out _ _ _ ⟨q0, kn_known q1 rfl⟩)
      refine gen_consR (fun vs L w1 hL hw1 => ?_) ?_
      ·obtain ⟨q0, q1⟩ := HO.out _ _ _ hw1
       have l6 : L 6 = true := hL.need 6 (by kernel_rfl)
       have e6 := q1 6 _ rfl l6
       refine gen_yes ?_ ?_
       ·simp only [e6]
        rfl
       go_simp
       exact gr_val (HI.out _ _ _ ⟨q0, kn_known q1 rfl⟩)
      refine gen_consR (fun vs L w1 hL hw1 => ?_) ?_
      ·obtain ⟨q0, q1⟩ := HO.out _ _ _ hw1
       have l6 : L 6 = true := hL.need 6 (by kernel_rfl)
       have e6 := q1 6 _ rfl l6
       refine gen_yes ?_ ?_
       ·simp only [e6]
        rfl
       have l9 : L 9 = true := hL.need 9 (by kernel_rfl)
       have e9 := q1 9 _ rfl l9
       have x := (k1.grows q0).cell 0
       simp only [e9]
       go_simp
       exact gr_val (HI.out _ _ _ ⟨q0, kn_known q1 rfl⟩)
      refine gen_consR (fun vs L w1 hL hw1 => ?_) ?_
      ·obtain ⟨q0, q1⟩ := HO.out _ _ _ hw1
       have l6 : L 6 = true := hL.need 6 (by kernel_rfl)
       have e6 := q1 6 _ rfl l6
       refine gen_yes ?_ ?_
       ·simp only [e6]
        rfl
       go_simp
       exact gr_val (HI.out _ _ _ ⟨q0, kn_known q1 rfl⟩)
      refine gen_consR (fun vs L w1 hL hw1 => ?_) ?_
      ·obtain ⟨q0, q1⟩ := HO.out _ _ _ hw1
       have l6 : L 6 = true := hL.need 6 (by kernel_rfl)
       have e6 := q1 6 _ rfl l6
       refine gen_yes ?_ ?_
       ·simp only [e6]
        rfl
       have l11 : L 11 = true := hL.need 11 (by kernel_rfl)
       have e11 := q1 11 _ rfl l11
       simp only [e11]
       go_simp
       try simp only [hw.out]
       exact gr_val (HI.out _ _ _ ⟨q0, kn_known q1 rfl⟩)
      refine gen_consR (fun vs L w1 hL hw1 => ?_) ?_
      ·obtain ⟨q0, q1⟩ := HO.out _ _ _ hw1
       have l6 : L 6 = true := hL.need 6 (by kernel_rfl)
       have e6 := q1 6 _ rfl l6
       refine gen_yes ?_ ?_
       ·simp only [e6]
        rfl
       have l10 : L 10 = true := hL.need 10 (by kernel_rfl)
       have e10 := q1 10 _ rfl l10
       have l12 : L 12 = true := hL.need 12 (by kernel_rfl)
       have e12 := q1 12 _ rfl l12
       simp only [e10, e12]
       go_simp
       exact gr_val (HI.out _ _ _ ⟨q0, kn_known q1 rfl⟩)
      refine gen_consR (fun vs L w1 hL hw1 => ?_) ?_
      ·obtain ⟨q0, q1⟩ := HO.out _ _ _ hw1
       have l6 : L 6 = true := hL.need 6 (by kernel_rfl)
       have e6 := q1 6 _ rfl l6
       refine gen_yes ?_ ?_
       ·simp only [e6]
        rfl
       have l13 : L 13 = true := hL.need 13 (by kernel_rfl)
       have e13 := q1 13 _ rfl l13
       simp only [e13]
       go_simp
       exact gr_val (HI.out _ _ _ ⟨q0, kn_known q1 rfl⟩)
      refine gen_consR (fun vs L w1 hL hw1 => ?_) ?_
      ·obtain ⟨q0, q1⟩ := HO.out _ _ _ hw1
       have l6 : L 6 = true := hL.need 6 (by kernel_rfl)
       have e6 := q1 6 _ rfl l6
       refine gen_yes ?_ ?_
       ·simp only [e6]
        rfl
       have l14 : L 14 = true := hL.need 14 (by kernel_rfl)
       have e14 := q1 14 _ rfl l14
       simp only [e14]
       obtain ⟨y0, y1, y2, y3⟩ := hp _ (below_grows hB (Nat.le_refl _) q0)
       go_simp
       exact gr_val (HI.out _ _ _ ⟨q0, kn_known q1 rfl⟩)
      refine gen_consR (fun vs L w1 hL hw1 => ?_) ?_
      ·obtain ⟨q0, q1⟩ := HO.out _ _ _ hw1
       have l6 : L 6 = true := hL.need 6 (by kernel_rfl)
       have e6 := q1 6 _ rfl l6
       refine gen_yes ?_ ?_
       ·simp only [e6]
        rfl
       have l8 : L 8 = true := hL.need 8 (by kernel_rfl)
       have e8 := q1 8 _ rfl l8
       have l15 : L 15 = true := hL.need 15 (by kernel_rfl)
       have e15 := q1 15 _ rfl l15
       simp only [e8, e15]
       go_simp
       exact gr_val (HI.out _ _ _ ⟨q0, kn_known q1 rfl⟩)
      refine gen_consR (fun vs L w1 hL hw1 => ?_) ?_
      ·obtain ⟨q0, q1⟩ := HO.out _ _ _ hw1
       have l3 : L 3 = true := hL.need 3 (by kernel_rfl)
       have e3 := q1 3 _ rfl l3
       refine gen_yes ?_ ?_
       ·simp only [e3]
        rfl
       have l6 : L 6 = true := hL.need 6 (by kernel_rfl)
       have e6 := q1 6 _ rfl l6
       have l16 : L 16 = true := hL.need 16 (by kernel_rfl)
       have e16 := q1 16 _ rfl l16
       simp only [e6, e16]
       go_simp
       exact gr_val (HI.out _ _ _ ⟨q0, kn_known q1 rfl⟩)
      refine gen_consR (fun vs L w1 hL hw1 => ?_) ?_
      ·obtain ⟨q0, q1⟩ := HO.out _ _ _ hw1
       refine gen_plain rfl ?_
       have l3 : L 3 = true := hL.need 3 (by kernel_rfl)
       have e3 := q1 3 _ rfl l3
       have l17 : L 17 = true := hL.need 17 (by kernel_rfl)
       have e17 := q1 17 _ rfl l17
       simp only [e3, e17]
       go_simp
       exact gr_val (HI.out _ _ _ ⟨q0, kn_known q1 rfl⟩)
      refine gen_nil ?_
      intro vs L W6 hall hS
      obtain ⟨hq, q1⟩ := HO.out _ _ _ hS
      have eX18 := q1 18 _ rfl (hall 18 (by simp))
      clear hall hS HI HO q1
      simp only [eX18]
      go_wp2
      go_ret
      refine ⟨ret_bool ?_, below_grows hB (Nat.le_refl _) hq⟩
      exact (valid_no1 hlt HF2.out).symm
     ·have HA2 := Lib.hid (range_all_up HA.out (by rw [stepN_at HX.out, HF.out, show kp + 1 - 1 = kp from rfl, getD_at HP.out]; simp; omega))
      clear HP
      obtain ⟨S, HI, HO⟩ := hideS fun (L : Ran) (vs : Nat → Value) (w' : World) => Grows w4 w' ∧ KnS [some (.agg #[.int .i64 x.a, .int .i64 x.b, .int .i64 x.c, .int .i64 x.d]), some (.bool true), some (.bool false), some (.bool false), some (.int .i64 ((kp + 1 : Nat) : Int)), some (.bool true), some (.bool true), some (.pointer (some ⟨G4, 0, none⟩)), some (.int .i64 x.a), some (.pointer (some ⟨w.heap.size, 0, none⟩)), some (.slice (some ad) ns.length c), some (.int .i64 ((kp + 1 : Nat) : Int)), some (.int .i64 (kp : Int)), some (.pointer (some (ad.add (kp * 4)))), some (.pointer (some (ad.add (kp * 4)))), some (.int .i64 p.a), some (.bool false), some (.bool false), some (.bool false)] L vs
      refine wp_region_genW S 99 (by kernel_rfl) (by kernel_rfl) rfl ?_ ?_
      ·exact HI.out _ _ _ ⟨Grows.drew' _, kn_none _ _⟩
      refine gen_consR (fun vs L w1 hL hw1 => ?_) ?_
      ·obtain ⟨q0, q1⟩ := HO.out _ _ _ hw1
       refine gen_plain rfl ?_
       have x := (k4.grows q0).cell 
       go_simp
       exact gr_val (HI.out _ _ _ ⟨q0, kn_known q1 rfl⟩)
      refine gen_consR (fun vs L w1 hL hw1 => ?_) ?_
      ·obtain ⟨q0, q1⟩ := HO.out _ _ _ hw1
       refine gen_plain rfl ?_
       have l0 : L 0 = true := hL.need 0 (by kernel_rfl)
       have e0 := q1 0 _ rfl l0
       simp only [e0]
       go_simp
       refine gr_call ?_
       refine (fine_is x true w1 HF.out).mono ?_
       rintro e w2 ⟨rfl, hg⟩
       exact ⟨_, rfl, HI.out _ _ _ ⟨below_grows q0 (Nat.le_refl _) hg, kn_known q1 rfl⟩⟩
      refine gen_consR (fun vs L w1 hL hw1 => ?_) ?_
      ·obtain ⟨q0, q1⟩ := HO.out _ _ _ hw1
       refine gen_plain rfl ?_
       have l1 : L 1 = true := hL.need 1 (by kernel_rfl)
       have e1 := q1 1 _ rfl l1
       simp only [e1]
       go_simp
       exact gr_val (HI.out _ _ _ ⟨q0, kn_known q1 rfl⟩)
      refine gen_consR (fun vs L w1 hL hw1 => ?_) ?_
      ·obtain ⟨q0, q1⟩ := HO.out _ _ _ hw1
       refine gen_plain rfl ?_
       have l2 : L 2 = true := hL.need 2 (by kernel_rfl)
       have e2 := q1 2 _ rfl l2
       simp only [e2]
       go_simp
       exact gr_val (HI.out _ _ _ ⟨q0, kn_known q1 rfl⟩)
      refine gen_consR (fun vs L w1 hL hw1 => ?_) ?_
      ·obtain ⟨q0, q1⟩ := HO.out _ _ _ hw1
       have l3 : L 3 = true := hL.need 3 (by kernel_rfl)
       have e3 := q1 3 _ rfl l3
       refine gen_yes ?_ ?_
       ·simp only [e3]
        rfl
       go_simp
       exact gr_val (HI.out _ _ _ ⟨q0, kn_known q1 rfl⟩)
      refine gen_consR (fun vs L w1 hL hw1 => ?_) ?_
      ·obtain ⟨q0, q1⟩ := HO.out _ _ _ hw1
       have l3 : L 3 = true := hL.need 3 (by kernel_rfl)
       have e3 := q1 3 _ rfl l3
       refine gen_yes ?_ ?_
       ·simp only [e3]
        rfl
       have l4 : L 4 = true := hL.need 4 (by kernel_rfl)
       have e4 := q1 4 _ rfl l4
       simp only [e4]
       go_simp
       exact gr_val (HI.out _ _ _ ⟨q0, kn_known q1 rfl⟩)
      refine gen_consR (fun vs L w1 hL hw1 => ?_) ?_
      ·obtain ⟨q0, q1⟩ := HO.out _ _ _ hw1
       have l3 : L 3 = true := hL.need 3 (by kernel_rfl)
       have e3 := q1 3 _ rfl l3
       refine gen_yes ?_ ?_
       ·simp only [e3]
        rfl
       have l5 : L 5 = true := hL.need 5 (by kernel_rfl)
       have e5 := q1 5 _ rfl l5
       simp only [e5]
       go_simp
       exact gr_val (HI.out _ _ _ ⟨q0, kn_known q1 rfl⟩)
      refine gen_consR (fun vs L w1 hL hw1 => ?_) ?_
      ·obtain ⟨q0, q1⟩ := HO.out _ _ _ hw1
       have l6 : L 6 = true := hL.need 6 (by kernel_rfl)
       have e6 := q1 6 _ rfl l6
       refine gen_yes ?_ ?_
       ·simp only [e6]
        rfl
       go_simp
       exact gr_val (HI.out _ _ _ ⟨q0, kn_known q1 rfl⟩)
      refine gen_consR (fun vs L w1 hL hw1 => ?_) ?_
      ·obtain ⟨q0, q1⟩ := HO.out _ _ _ hw1
       have l6 : L 6 = true := hL.need 6 (by kernel_rfl)
       have e6 := q1 6 _ rfl l6
       refine gen_yes ?_ ?_
       ·simp only [e6]
        rfl
       have l7 : L 7 = true := hL.need 7 (by kernel_rfl)
       have e7 := q1 7 _ rfl l7
       have x := (k4.grows q0).cell 0
       simp only [e7]
       go_simp
       exact gr_val (HI.out _ _ _ ⟨q0, kn_known q1 rfl⟩)
      refine gen_consR (fun vs L w1 hL hw1 => ?_) ?_
      ·obtain ⟨q0, q1⟩ := HO.out _ _ _ hw1
       have l6 : L 6 = true := hL.need 6 (by kernel_rfl)
       have e6 := q1 6 _ rfl l6
       refine gen_yes ?_ ?_
       ·simp only [e6]
        rfl
       go_simp
       exact gr_val (HI.out _ _ _ ⟨q0, kn_known q1 rfl⟩)
      refine gen_consR (fun vs L w1 hL hw1 => ?_) ?_
      ·obtain ⟨q0, q1⟩ := HO.out _ _ _ hw1
       have l6 : L 6 = true := hL.need 6 (by kernel_rfl)
       have e6 := q1 6 _ rfl l6
       refine gen_yes ?_ ?_
       ·simp only [e6]
        rfl
       have l9 : L 9 = true := hL.need 9 (by kernel_rfl)
       have e9 := q1 9 _ rfl l9
       have x := (k1.grows q0).cell 0
       simp only [e9]
       go_simp
       exact gr_val (HI.out _ _ _ ⟨q0, kn_known q1 rfl⟩)
      refine gen_consR (fun vs L w1 hL hw1 => ?_) ?_
      ·obtain ⟨q0, q1⟩ := HO.out _ _ _ hw1
       have l6 : L 6 = true := hL.need 6 (by kernel_rfl)
       have e6 := q1 6 _ rfl l6
       refine gen_yes ?_ ?_
       ·simp only [e6]
        rfl
       go_simp
       exact gr_val (HI.out _ _ _ ⟨q0, kn_known q1 rfl⟩)
      refine gen_consR (fun vs L w1 hL hw1 => ?_) ?_
      ·obtain ⟨q0, q1⟩ := HO.out _ _ _ hw1
       have l6 : L 6 = true := hL.need 6 (by kernel_rfl)
       have e6 := q1 6 _ rfl l6
       refine gen_yes ?_ ?_
       ·simp only [e6]
        rfl
       have l11 : L 11 = true := hL.need 11 (by kernel_rfl)
       have e11 := q1 11 _ rfl l11
       simp only [e11]
       go_simp
       try simp only [hw.out]
       exact gr_val (HI.out _ _ _ ⟨q0, kn_known q1 rfl⟩)
      refine gen_consR (fun vs L w1 hL hw1 => ?_) ?_
      ·obtain ⟨q0, q1⟩ := HO.out _ _ _ hw1
       have l6 : L 6 = true := hL.need 6 (by kernel_rfl)
       have e6 := q1 6 _ rfl l6
       refine gen_yes ?_ ?_
       ·simp only [e6]
        rfl
       have l10 : L 10 = true := hL.need 10 (by kernel_rfl)
       have e10 := q1 10 _ rfl l10
       have l12 : L 12 = true := hL.need 12 (by kernel_rfl)
       have e12 := q1 12 _ rfl l12
       simp only [e10, e12]
       go_simp
       exact gr_val (HI.out _ _ _ ⟨q0, kn_known q1 rfl⟩)
      refine gen_consR (fun vs L w1 hL hw1 => ?_) ?_
      ·obtain ⟨q0, q1⟩ := HO.out _ _ _ hw1
       have l6 : L 6 = true := hL.need 6 (by kernel_rfl)
       have e6 := q1 6 _ rfl l6
       refine gen_yes ?_ ?_
       ·simp only [e6]
        rfl
       have l13 : L 13 = true := hL.need 13 (by kernel_rfl)
       have e13 := q1 13 _ rfl l13
       simp only [e13]
       go_simp
       exact gr_val (HI.out _ _ _ ⟨q0, kn_known q1 rfl⟩)
      refine gen_consR (fun vs L w1 hL hw1 => ?_) ?_
      ·obtain ⟨q0, q1⟩ := HO.out _ _ _ hw1
       have l6 : L 6 = true := hL.need 6 (by kernel_rfl)
       have e6 := q1 6 _ rfl l6
       refine gen_yes ?_ ?_
       ·simp only [e6]
        rfl
       have l14 : L 14 = true := hL.need 14 (by kernel_rfl)
       have e14 := q1 14 _ rfl l14
       simp only [e14]
       obtain ⟨y0, y1, y2, y3⟩ := hp _ (below_grows hB (Nat.le_refl _) q0)
       go_simp
       exact gr_val (HI.out _ _ _ ⟨q0, kn_known q1 rfl⟩)
      refine gen_consR (fun vs L w1 hL hw1 => ?_) ?_
      ·obtain ⟨q0, q1⟩ := HO.out _ _ _ hw1
       have l6 : L 6 = true := hL.need 6 (by kernel_rfl)
       have e6 := q1 6 _ rfl l6
       refine gen_yes ?_ ?_
       ·simp only [e6]
        rfl
       have l8 : L 8 = true := hL.need 8 (by kernel_rfl)
       have e8 := q1 8 _ rfl l8
       have l15 : L 15 = true := hL.need 15 (by kernel_rfl)
       have e15 := q1 15 _ rfl l15
       simp only [e8, e15]
       go_simp
       exact gr_val (HI.out _ _ _ ⟨q0, kn_known q1 rfl⟩)
      refine gen_consR (fun vs L w1 hL hw1 => ?_) ?_
      ·obtain ⟨q0, q1⟩ := HO.out _ _ _ hw1
       have l3 : L 3 = true := hL.need 3 (by kernel_rfl)
       have e3 := q1 3 _ rfl l3
       refine gen_yes ?_ ?_
       ·simp only [e3]
        rfl
       have l6 : L 6 = true := hL.need 6 (by kernel_rfl)
       have e6 := q1 6 _ rfl l6
       have l16 : L 16 = true := hL.need 16 (by kernel_rfl)
       have e16 := q1 16 _ rfl l16
       simp only [e6, e16]
       go_simp
       exact gr_val (HI.out _ _ _ ⟨q0, kn_known q1 rfl⟩)
      refine gen_consR (fun vs L w1 hL hw1 => ?_) ?_
      ·obtain ⟨q0, q1⟩ := HO.out _ _ _ hw1
       refine gen_plain rfl ?_
       have l3 : L 3 = true := hL.need 3 (by kernel_rfl)
       have e3 := q1 3 _ rfl l3
       have l17 : L 17 = true := hL.need 17 (by kernel_rfl)
       have e17 := q1 17 _ rfl l17
       simp only [e3, e17]
       go_simp
       exact gr_val (HI.out _ _ _ ⟨q0, kn_known q1 rfl⟩)
      refine gen_nil ?_
      intro vs L W6 hall hS
      obtain ⟨hq, q1⟩ := HO.out _ _ _ hS
      have eX18 := q1 18 _ rfl (hall 18 (by simp))
      clear hall hS HI HO q1
      simp only [eX18]
      go_wp2
      go_roundw
      case rel => exact ⟨kp + 1 + 1, by omega, by go_num, HA2, below_grows hB (Nat.le_refl _) hq, k1.grows hq⟩
      case measure => simp [intOf]; omega
  ·have HN : Hid (okN ns = true) := Lib.hid (by have := HA.out; rwa [show k = ns.length by omega] at this)
   clear HA
   have x1 := k1.cell
   go_wp2_with fail
   refine (find_any A A2 c c2 ls.length ns _ (h.grows hB) (by omega) HRn.out).mono ?_
   rintro e w5 ⟨⟨Bm, nm, rfl, hm⟩, hq⟩
   replace hB := below_grows hB (Nat.le_refl _) hq
   replace k1 := k1.grows hq
   clear hq x1
   have x1 := k1.cell
   go_wp2_with fail
   clear x1
   generalize w5 = w2 at *
   go_loopw [53] (fun i wr => ∃ k : Nat, k ≤ ls.length ∧ i = .int .i64 k ∧ Hid ((List.range k).all (stepK ns ls) = true) ∧ Below w.heap.size w wr ∧ Blk wr w.heap.size 26 #[.slice A ns.length c, .slice A2 ls.length c2] ∧ MapT TI wr Bm nm (nodeM ns)) (fun i _ => ls.length - (intOf i).toNat)
   case atStart => exact ⟨0, by omega, rfl, Lib.hid rfl, hB, k1, hm⟩
   case round =>
    clear hB k1 hk hlt hm
    obtain ⟨k, hk, rfl, HA, hB, k1, hm⟩ := hrel
    by_cases hlt : k < ls.length
    ·obtain ⟨ad, l, rfl, had, hx, q0, q1, q2, q3⟩ := (h2.grows hB).elem hlt
     have HX := Lib.hid hx
     clear hx
     have HIl : Hid (In64 l.a ∧ In64 l.c) := Lib.hid (HRl.out l (List.mem_of_getElem? HX.out))
     have k6 := Blk.new wr 49 #[.int .i64 l.a, .int .i64 l.b, .int .i64 l.c, .int .i64 l.d]
     have hq := (Below.refl wr.heap.size wr).alloc (Nat.le_refl _) (Obj.cells #[.int .i64 l.a, .int .i64 l.b, .int .i64 l.c, .int .i64 l.d] 49)
     go_upto_region 13 with fail
     clear q0 q1 q2 q3
     replace hB := below_grows hB (Nat.le_refl _) hq
     replace k1 := k1.grows hq
     replace hm := hm.grows hq
     clear hq
     generalize World.alloc wr _ = w7 at *
     generalize wr.heap.size = G6 at *
     have hkc : k ≤ c2 := by omega
     cases hen : endsL ns l
     ·have HE := Lib.hid hen
      clear hen
      obtain ⟨S, HI, HO⟩ := hideS fun (L : Ran) (vs : Nat → Value) (w' : World) => Grows w7 w' ∧ KnS [some (.map (some Bm)), some (.agg #[.int .i64 l.a, .int .i64 l.b, .int .i64 l.c, .int .i64 l.d]), some (.bool false), some (.bool true), some (.bool true), none, none, some (undef), none, none, none, none, none, none, none, none, none, none, some (.bool true)] L vs
      refine wp_region_genW S 99 (by kernel_rfl) (by kernel_rfl) rfl ?_ ?_
      ·exact HI.out _ _ _ ⟨Grows.drew' _, kn_none _ _⟩
      refine gen_consR (fun vs L w1 hL hw1 => ?_) ?_
      ·obtain ⟨q0, q1⟩ := HO.out _ _ _ hw1
       refine gen_plain rfl ?_
       go_simp
       exact gr_val (HI.out _ _ _ ⟨q0, kn_known q1 rfl⟩)
      refine gen_consR (fun vs L w1 hL hw1 => ?_) ?_
      ·obtain ⟨q0, q1⟩ := HO.out _ _ _ hw1
       refine gen_plain rfl ?_
       have x := (k6.grows q0).cell 
       go_simp
       exact gr_val (HI.out _ _ _ ⟨q0, kn_known q1 rfl⟩)
      refine gen_consR (fun vs L w1 hL hw1 => ?_) ?_
      ·obtain ⟨q0, q1⟩ := HO.out _ _ _ hw1
       refine gen_plain rfl ?_
       have l0 : L 0 = true := hL.need 0 (by kernel_rfl)
       have e0 := q1 0 _ rfl l0
       have l1 : L 1 = true := hL.need 1 (by kernel_rfl)
       have e1 := q1 1 _ rfl l1
       simp only [e0, e1]
       go_simp
       refine gr_call ?_
       refine (ends_is Bm nm ns l false w1 (hm.grows q0) HIl.out.1 HIl.out.2 HN.out HE.out).mono ?_
       rintro e w2 ⟨rfl, hg⟩
       exact ⟨_, rfl, HI.out _ _ _ ⟨below_grows q0 (Nat.le_refl _) hg, kn_known q1 rfl⟩⟩
      refine gen_consR (fun vs L w1 hL hw1 => ?_) ?_
      ·obtain ⟨q0, q1⟩ := HO.out _ _ _ hw1
       refine gen_plain rfl ?_
       have l2 : L 2 = true := hL.need 2 (by kernel_rfl)
       have e2 := q1 2 _ rfl l2
       simp only [e2]
       go_simp
       exact gr_val (HI.out _ _ _ ⟨q0, kn_known q1 rfl⟩)
      refine gen_consR (fun vs L w1 hL hw1 => ?_) ?_
      ·obtain ⟨q0, q1⟩ := HO.out _ _ _ hw1
       refine gen_plain rfl ?_
       have l3 : L 3 = true := hL.need 3 (by kernel_rfl)
       have e3 := q1 3 _ rfl l3
       simp only [e3]
       go_simp
       exact gr_val (HI.out _ _ _ ⟨q0, kn_known q1 rfl⟩)
      refine gen_consR (fun vs L w1 hL hw1 => ?_) ?_
      ·obtain ⟨q0, q1⟩ := HO.out _ _ _ hw1
       have l4 : L 4 = true := hL.need 4 (by kernel_rfl)
       have e4 := q1 4 _ rfl l4
       refine gen_no ?_ ?_
       ·simp only [e4]
        rfl
       ·exact HI.out _ _ _ ⟨q0, kn_free q1 rfl⟩
      refine gen_consR (fun vs L w1 hL hw1 => ?_) ?_
      ·obtain ⟨q0, q1⟩ := HO.out _ _ _ hw1
       have l4 : L 4 = true := hL.need 4 (by kernel_rfl)
       have e4 := q1 4 _ rfl l4
       refine gen_no ?_ ?_
       ·simp only [e4]
        rfl
       ·exact HI.out _ _ _ ⟨q0, kn_free q1 rfl⟩
      refine gen_consR (fun vs L w1 hL hw1 => ?_) ?_
      ·obtain ⟨q0, q1⟩ := HO.out _ _ _ hw1
       have l4 : L 4 = true := hL.need 4 (by kernel_rfl)
       have e4 := q1 4 _ rfl l4
       refine gen_no ?_ ?_
       ·simp only [e4]
        rfl
       ·exact HI.out _ _ _ ⟨q0, kn_known q1 rfl⟩
      refine gen_consR (fun vs L w1 hL hw1 => ?_) ?_
      ·obtain ⟨q0, q1⟩ := HO.out _ _ _ hw1
       have l7 : L 7 = true := hL.need 7 (by kernel_rfl)
       have e7 := q1 7 _ rfl l7
       refine gen_no ?_ ?_
       ·simp only [e7]
        rfl
       ·exact HI.out _ _ _ ⟨q0, kn_free q1 rfl⟩
      refine gen_consR (fun vs L w1 hL hw1 => ?_) ?_
      ·obtain ⟨q0, q1⟩ := HO.out _ _ _ hw1
       have l7 : L 7 = true := hL.need 7 (by kernel_rfl)
       have e7 := q1 7 _ rfl l7
       refine gen_no ?_ ?_
       ·simp only [e7]
        rfl
       ·exact HI.out _ _ _ ⟨q0, kn_free q1 rfl⟩
      refine gen_consR (fun vs L w1 hL hw1 => ?_) ?_
      ·obtain ⟨q0, q1⟩ := HO.out _ _ _ hw1
       have l7 : L 7 = true := hL.need 7 (by kernel_rfl)
       have e7 := q1 7 _ rfl l7
       refine gen_no ?_ ?_
       ·simp only [e7]
        rfl
       ·exact HI.out _ _ _ ⟨q0, kn_free q1 rfl⟩
      refine gen_consR (fun vs L w1 hL hw1 => ?_) ?_
      ·obtain ⟨q0, q1⟩ := HO.out _ _ _ hw1
       have l7 : L 7 = true := hL.need 7 (by kernel_rfl)
       have e7 := q1 7 _ rfl l7
       refine gen_no ?_ ?_
       ·simp only [e7]
        rfl
       ·exact HI.out _ _ _ ⟨q0, kn_free q1 rfl⟩
      refine gen_consR (fun vs L w1 hL hw1 => ?_) ?_
      ·obtain ⟨q0, q1⟩ := HO.out _ _ _ hw1
       have l7 : L 7 = true := hL.need 7 (by kernel_rfl)
       have e7 := q1 7 _ rfl l7
       refine gen_no ?_ ?_
       ·simp only [e7]
        rfl
       ·exact HI.out _ _ _ ⟨q0, kn_free q1 rfl⟩
      refine gen_consR (fun vs L w1 hL hw1 => ?_) ?_
      ·obtain ⟨q0, q1⟩ := HO.out _ _ _ hw1
       have l7 : L 7 = true := hL.need 7 (by kernel_rfl)
       have e7 := q1 7 _ rfl l7
       refine gen_no ?_ ?_
       ·simp only [e7]
        rfl
       ·exact HI.out _ _ _ ⟨q0, kn_free q1 rfl⟩
      refine gen_consR (fun vs L w1 hL hw1 => ?_) ?_
      ·obtain ⟨q0, q1⟩ := HO.out _ _ _ hw1
       have l7 : L 7 = true := hL.need 7 (by kernel_rfl)
       have e7 := q1 7 _ rfl l7
       refine gen_no ?_ ?_
       ·simp only [e7]
        rfl
       ·exact HI.out _ _ _ ⟨q0, kn_free q1 rfl⟩
      refine gen_consR (fun vs L w1 hL hw1 => ?_) ?_
      ·obtain ⟨q0, q1⟩ := HO.out _ _ _ hw1
       have l7 : L 7 = true := hL.need 7 (by kernel_rfl)
       have e7 := q1 7 _ rfl l7
       refine gen_no ?_ ?_
       ·simp only [e7]
        rfl
       ·exact HI.out _ _ _ ⟨q0, kn_free q1 rfl⟩
      refine gen_consR (fun vs L w1 hL hw1 => ?_) ?_
      ·obtain ⟨q0, q1⟩ := HO.out _ _ _ hw1
       have l7 : L 7 = true := hL.need 7 (by kernel_rfl)
       have e7 := q1 7 _ rfl l7
       refine gen_no ?_ ?_
       ·simp only [e7]
        rfl
       ·exact HI.out _ _ _ ⟨q0, kn_free q1 rfl⟩
      refine gen_consR (fun vs L w1 hL hw1 => ?_) ?_
      ·obtain ⟨q0, q1⟩ := HO.out _ _ _ hw1
       have l4 : L 4 = true := hL.need 4 (by kernel_rfl)
       have e4 := q1 4 _ rfl l4
       refine gen_no ?_ ?_
       ·simp only [e4]
        rfl
       ·exact HI.out _ _ _ ⟨q0, kn_free q1 rfl⟩
      refine gen_consR (fun vs L w1 hL hw1 => ?_) ?_
      ·obtain ⟨q0, q1⟩ := HO.out _ _ _ hw1
       refine gen_plain rfl ?_
       have l4 : L 4 = true := hL.need 4 (by kernel_rfl)
       have e4 := q1 4 _ rfl l4
       simp only [e4]
       go_simp
       exact gr_val (HI.out _ _ _ ⟨q0, kn_known q1 rfl⟩)
      refine gen_nil ?_
      intro vs L W6 hall hS
      obtain ⟨hq, q1⟩ := HO.out _ _ _ hS
      have eX18 := q1 18 _ rfl (hall 18 (by simp))
      clear hall hS HI HO q1
      simp only [eX18]
      go_wp2
      go_ret
      refine ⟨ret_bool ?_, below_grows hB (Nat.le_refl _) hq⟩
      exact (valid_no2 hlt (by rw [stepK_at HX.out, HE.out]; rfl)).symm
     ·have HE := Lib.hid hen
      clear hen
      by_cases hk0 : k = 0
      ·have hk9 : decide (0 < k) = false := by simp [hk0]
       have HK0 := Lib.hid hk0
       clear hk0
       obtain ⟨S, HI, HO⟩ := hideS fun (L : Ran) (vs : Nat → Value) (w' : World) => Grows w7 w' ∧ KnS [some (.map (some Bm)), some (.agg #[.int .i64 l.a, .int .i64 l.b, .int .i64 l.c, .int .i64 l.d]), some (.bool true), some (.bool false), some (.bool false), some (.int .i64 (k : Int)), some (.bool false), some (.bool false), none, none, none, none, none, none, none, none, none, some (.bool false), some (.bool false)] L vs
       refine wp_region_genW S 99 (by kernel_rfl) (by kernel_rfl) rfl ?_ ?_
       ·exact HI.out _ _ _ ⟨Grows.drew' _, kn_none _ _⟩
       refine gen_consR (fun vs L w1 hL hw1 => ?_) ?_
       ·obtain ⟨q0, q1⟩ := HO.out _ _ _ hw1
        refine gen_plain rfl ?_
        go_simp
        exact gr_val (HI.out _ _ _ ⟨q0, kn_known q1 rfl⟩)
       refine gen_consR (fun vs L w1 hL hw1 => ?_) ?_
       ·obtain ⟨q0, q1⟩ := HO.out _ _ _ hw1
        refine gen_plain rfl ?_
        have x := (k6.grows q0).cell 
        go_simp
        exact gr_val (HI.out _ _ _ ⟨q0, kn_known q1 rfl⟩)
       refine gen_consR (fun vs L w1 hL hw1 => ?_) ?_
       ·obtain ⟨q0, q1⟩ := HO.out _ _ _ hw1
        refine gen_plain rfl ?_
        have l0 : L 0 = true := hL.need 0 (by kernel_rfl)
        have e0 := q1 0 _ rfl l0
        have l1 : L 1 = true := hL.need 1 (by kernel_rfl)
        have e1 := q1 1 _ rfl l1
        simp only [e0, e1]
        go_simp
        refine gr_call ?_
        refine (ends_is Bm nm ns l true w1 (hm.grows q0) HIl.out.1 HIl.out.2 HN.out HE.out).mono ?_
        rintro e w2 ⟨rfl, hg⟩
        exact ⟨_, rfl, HI.out _ _ _ ⟨below_grows q0 (Nat.le_refl _) hg, kn_known q1 rfl⟩⟩
       refine gen_consR (fun vs L w1 hL hw1 => ?_) ?_
       ·obtain ⟨q0, q1⟩ := HO.out _ _ _ hw1
        refine gen_plain rfl ?_
        have l2 : L 2 = true := hL.need 2 (by kernel_rfl)
        have e2 := q1 2 _ rfl l2
        simp only [e2]
        go_simp
        exact gr_val (HI.out _ _ _ ⟨q0, kn_known q1 rfl⟩)
       refine gen_consR (fun vs L w1 hL hw1 => ?_) ?_
       ·obtain ⟨q0, q1⟩ := HO.out _ _ _ hw1
        refine gen_plain rfl ?_
        have l3 : L 3 = true := hL.need 3 (by kernel_rfl)
        have e3 := q1 3 _ rfl l3
        simp only [e3]
        go_simp
        exact gr_val (HI.out _ _ _ ⟨q0, kn_known q1 rfl⟩)
       refine gen_consR (fun vs L w1 hL hw1 => ?_) ?_
       ·obtain ⟨q0, q1⟩ := HO.out _ _ _ hw1
        have l4 : L 4 = true := hL.need 4 (by kernel_rfl)
        have e4 := q1 4 _ rfl l4
        refine gen_yes ?_ ?_
        ·simp only [e4]
         rfl
        go_simp
        exact gr_val (HI.out _ _ _ ⟨q0, kn_known q1 rfl⟩)
       refine gen_consR (fun vs L w1 hL hw1 => ?_) ?_
       ·obtain ⟨q0, q1⟩ := HO.out _ _ _ hw1
        have l4 : L 4 = true := hL.need 4 (by kernel_rfl)
        have e4 := q1 4 _ rfl l4
        refine gen_yes ?_ ?_
        ·simp only [e4]
         rfl
        have l5 : L 5 = true := hL.need 5 (by kernel_rfl)
        have e5 := q1 5 _ rfl l5
        simp only [e5]
        go_simp
        exact gr_val (HI.out _ _ _ ⟨q0, kn_known q1 rfl⟩)
       refine gen_consR (fun vs L w1 hL hw1 => ?_) ?_
       ·obtain ⟨q0, q1⟩ := HO.out _ _ _ hw1
        have l4 : L 4 = true := hL.need 4 (by kernel_rfl)
        have e4 := q1 4 _ rfl l4
        refine gen_yes ?_ ?_
        ·simp only [e4]
         rfl
        have l6 : L 6 = true := hL.need 6 (by kernel_rfl)
        have e6 := q1 6 _ rfl l6
        simp only [e6]
        go_simp
        exact gr_val (HI.out _ _ _ ⟨q0, kn_known q1 rfl⟩)
       refine gen_consR (fun vs L w1 hL hw1 => ?_) ?_
       ·obtain ⟨q0, q1⟩ := HO.out _ _ _ hw1
        have l7 : L 7 = true := hL.need 7 (by kernel_rfl)
        have e7 := q1 7 _ rfl l7
        refine gen_no ?_ ?_
        ·simp only [e7]
         rfl
        ·exact HI.out _ _ _ ⟨q0, kn_free q1 rfl⟩
       refine gen_consR (fun vs L w1 hL hw1 => ?_) ?_
       ·obtain ⟨q0, q1⟩ := HO.out _ _ _ hw1
        have l7 : L 7 = true := hL.need 7 (by kernel_rfl)
        have e7 := q1 7 _ rfl l7
        refine gen_no ?_ ?_
        ·simp only [e7]
         rfl
        ·exact HI.out _ _ _ ⟨q0, kn_free q1 rfl⟩
       refine gen_consR (fun vs L w1 hL hw1 => ?_) ?_
       ·obtain ⟨q0, q1⟩ := HO.out _ _ _ hw1
        have l7 : L 7 = true := hL.need 7 (by kernel_rfl)
        have e7 := q1 7 _ rfl l7
        refine gen_no ?_ ?_
        ·simp only [e7]
         rfl
        ·exact HI.out _ _ _ ⟨q0, kn_free q1 rfl⟩
       refine gen_consR (fun vs L w1 hL hw1 => ?_) ?_
       ·obtain ⟨q0, q1⟩ := HO.out _ _ _ hw1
        have l7 : L 7 = true := hL.need 7 (by kernel_rfl)
        have e7 := q1 7 _ rfl l7
        refine gen_no ?_ ?_
        ·simp only [e7]
         rfl
        ·exact HI.out _ _ _ ⟨q0, kn_free q1 rfl⟩
       refine gen_consR (fun vs L w1 hL hw1 => ?_) ?_
       ·obtain ⟨q0, q1⟩ := HO.out _ _ _ hw1
        have l7 : L 7 = true := hL.need 7 (by kernel_rfl)
        have e7 := q1 7 _ rfl l7
        refine gen_no ?_ ?_
        ·simp only [e7]
         rfl
        ·exact HI.out _ _ _ ⟨q0, kn_free q1 rfl⟩
       refine gen_consR (fun vs L w1 hL hw1 => ?_) ?_
       ·obtain ⟨q0, q1⟩ := HO.out _ _ _ hw1
        have l7 : L 7 = true := hL.need 7 (by kernel_rfl)
        have e7 := q1 7 _ rfl l7
        refine gen_no ?_ ?_
        ·simp only [e7]
         rfl
        ·exact HI.out _ _ _ ⟨q0, kn_free q1 rfl⟩
       refine gen_consR (fun vs L w1 hL hw1 => ?_) ?_
       ·obtain ⟨q0, q1⟩ := HO.out _ _ _ hw1
        have l7 : L 7 = true := hL.need 7 (by kernel_rfl)
        have e7 := q1 7 _ rfl l7
        refine gen_no ?_ ?_
        ·simp only [e7]
         rfl
        ·exact HI.out _ _ _ ⟨q0, kn_free q1 rfl⟩
       refine gen_consR (fun vs L w1 hL hw1 => ?_) ?_
       ·obtain ⟨q0, q1⟩ := HO.out _ _ _ hw1
        have l7 : L 7 = true := hL.need 7 (by kernel_rfl)
        have e7 := q1 7 _ rfl l7
        refine gen_no ?_ ?_
        ·simp only [e7]
         rfl
        ·exact HI.out _ _ _ ⟨q0, kn_free q1 rfl⟩
       refine gen_consR (fun vs L w1 hL hw1 => ?_) ?_
       ·obtain ⟨q0, q1⟩ := HO.out _ _ _ hw1
        have l7 : L 7 = true := hL.need 7 (by kernel_rfl)
        have e7 := q1 7 _ rfl l7
        refine gen_no ?_ ?_
        ·simp only [e7]
         rfl
        ·exact HI.out _ _ _ ⟨q0, kn_free q1 rfl⟩
       refine gen_consR (fun vs L w1 hL hw1 => ?_) ?_
       ·obtain ⟨q0, q1⟩ := HO.out _ _ _ hw1
        have l4 : L 4 = true := hL.need 4 (by kernel_rfl)
        have e4 := q1 4 _ rfl l4
        refine gen_yes ?_ ?_
        ·simp only [e4]
         rfl
        have l7 : L 7 = true := hL.need 7 (by kernel_rfl)
        have e7 := q1 7 _ rfl l7
        simp only [e7]
        go_simp
        exact gr_val (HI.out _ _ _ ⟨q0, kn_known q1 rfl⟩)
       refine gen_consR (fun vs L w1 hL hw1 => ?_) ?_
       ·obtain ⟨q0, q1⟩ := HO.out _ _ _ hw1
        refine gen_plain rfl ?_
        have l4 : L 4 = true := hL.need 4 (by kernel_rfl)
        have e4 := q1 4 _ rfl l4
        have l17 : L 17 = true := hL.need 17 (by kernel_rfl)
        have e17 := q1 17 _ rfl l17
        simp only [e4, e17]
        go_simp
        exact gr_val (HI.out _ _ _ ⟨q0, kn_known q1 rfl⟩)
       refine gen_nil ?_
       intro vs L W6 hall hS
       obtain ⟨hq, q1⟩ := HO.out _ _ _ hS
       have eX18 := q1 18 _ rfl (hall 18 (by simp))
       clear hall hS HI HO q1
       simp only [eX18]
       simp only [Nat.zero_add, Nat.reduceAdd]
       have k1' := k1.grows hq
       have x1 := k1'.cell
       go_wp2_with fail
       clear x1
       replace hB := below_grows hB (Nat.le_refl _) hq
       replace hm := hm.grows hq
       replace k6 := k6.grows hq
       clear hq k1
       generalize W6 = w9 at *
       go_loopw [82] (fun i wr => ∃ j : Nat, j ≤ k ∧ i = .int .i64 j ∧ Hid (crowdL ns l (ls.take j) = false) ∧ Below w.heap.size w wr ∧ Blk wr w.heap.size 26 #[.slice A ns.length c, .slice (some ad) ls.length c2] ∧ Blk wr G6 49 #[.int .i64 l.a, .int .i64 l.b, .int .i64 l.c, .int .i64 l.d] ∧ MapT TI wr Bm nm (nodeM ns)) (fun i _ => k - (intOf i).toNat)
       case atStart => exact ⟨0, by omega, rfl, Lib.hid rfl, hB, k1', k6, hm⟩
       case round =>
        clear hB k1' k6 hm
        obtain ⟨j, hj, rfl, HC, hB, k1, k6, hm⟩ := hrel
        by_cases hjlt : j < k
        ·obtain ⟨ad2, x, e2, -, hx2, q0, q1, q2, q3⟩ := (h2.grows hB).elem (k := j) (by omega)
         injection e2 with e2
         subst e2
         have HX2 := Lib.hid hx2
         clear hx2
         have HIx : Hid (In64 x.a ∧ In64 x.c) := Lib.hid (HRl.out x (List.mem_of_getElem? HX2.out))
         have k9 := Blk.new wr 49 #[.int .i64 x.a, .int .i64 x.b, .int .i64 x.c, .int .i64 x.d]
         have hq := (Below.refl wr.heap.size wr).alloc (Nat.le_refl _) (Obj.cells #[.int .i64 x.a, .int .i64 x.b, .int .i64 x.c, .int .i64 x.d] 49)
         go_upto_region 18 with fail
         clear q0 q1 q2 q3
         replace hB := below_grows hB (Nat.le_refl _) hq
         replace k1 := k1.grows hq
         replace k6 := k6.grows hq
         replace hm := hm.grows hq
         clear hq
         generalize World.alloc wr _ = w10 at *
         generalize wr.heap.size = G9 at *
         have x6 := k6.cell
         have x9 := k9.cell
         go_wp2_with fail
         cases hcl : clashL ns x l
         ·have HCL := Lib.hid hcl
          clear hcl
          refine (clash_is Bm nm ns x l false _ hm HIx.out.1 HIx.out.2 HN.out HCL.out).mono ?_
          rintro e w11 ⟨rfl, hq⟩
          have HC2 : Hid (crowdL ns l (ls.take (j + 1)) = false) := Lib.hid (by rw [take_snoc HX2.out]; unfold crowdL; rw [List.any_append]; simp only [List.any_cons, List.any_nil, Bool.or_false, HCL.out]; exact HC.out)
          replace hB := below_grows hB (Nat.le_refl _) hq
          replace k1 := k1.grows hq
          replace k6 := k6.grows hq
          replace hm := hm.grows hq
          clear hq x6 x9 k9
          go_wp2
          go_roundw
          case rel => exact ⟨j + 1, by omega, by go_num, HC2, hB, k1, k6, hm⟩
          case measure => simp [intOf]; omega
         ·have HCL := Lib.hid hcl
          clear hcl
          refine (clash_is Bm nm ns x l true _ hm HIx.out.1 HIx.out.2 HN.out HCL.out).mono ?_
          rintro e w11 ⟨rfl, hq⟩
          replace hB := below_grows hB (Nat.le_refl _) hq
          clear hq x6 x9 k9
          go_wp2
          go_ret
          refine ⟨ret_bool ?_, hB⟩
          refine (valid_no2 hlt ?_).symm
          have : crowdL ns l (ls.take k) = true := by
           unfold crowdL
           rw [List.any_eq_true]
           refine ⟨x, ?_, HCL.out⟩
           rw [List.mem_take_iff_getElem]
           obtain ⟨hj3, hj4⟩ := List.getElem?_eq_some_iff.1 HX2.out
           exact ⟨j, by omega, hj4⟩
          rw [stepK_at HX.out, this]
          simp
        ·have HC2 : Hid (crowdL ns l (ls.take k) = false) := Lib.hid (by have := HC.out; rwa [show j = k by omega] at this)
         have HA2 := Lib.hid (range_all_up HA.out (by rw [stepK_at HX.out, HE.out, HC2.out]; rw [HK0.out]; rfl))
         go_wp2
         go_roundw
         case rel => exact ⟨k + 1, by omega, by go_num, HA2, hB, k1, hm⟩
         case measure => simp [intOf]; omega
      ·obtain ⟨kp, hkp⟩ : ∃ kp, k = kp + 1 := ⟨k - 1, by omega⟩
       have hkl : kp < ls.length := by omega
       have hk9 : decide (0 < k) = true := by simp; omega
       have hw : Hid ((k : Int) - 1 = (kp : Int)) := Lib.hid (by omega)
       have hw2 : Hid (IntKind.i64.wrap (kp : Int) = (kp : Int)) := Lib.hid (IntWalk.i64_in _ (by omega))
       have hw3 : Hid (k - 1 = kp) := Lib.hid (by omega)
       have hw4 : Hid ((k == 0) = false) := Lib.hid (by simp; omega)
       obtain ⟨ad', p, e, -, hp0, hp⟩ := h2.addr (k := kp) (by omega)
       injection e with e
       subst e
       have HKP := Lib.hid hkp
       clear hkp hk0
       have HP := Lib.hid hp0
       clear hp0
       obtain ⟨z, hz⟩ : ∃ z, cmpL p l = z := ⟨_, rfl⟩
       have HZ := Lib.hid hz
       clear hz
       by_cases hge : 0 ≤ z
       ·have HF2 : Hid (stepK ns ls k = false) := Lib.hid (by
         have h1 : lessL p l = false := by
          rw [← Bool.not_eq_true, ← cmpL_less, HZ.out]
          omega
         rw [stepK_at HX.out, hw3.out, getD_at HP.out, h1, hw4.out]
         simp)
        obtain ⟨S, HI, HO⟩ := hideS fun (L : Ran) (vs : Nat → Value) (w' : World) => Grows w7 w' ∧ KnS [some (.map (some Bm)), some (.agg #[.int .i64 l.a, .int .i64 l.b, .int .i64 l.c, .int .i64 l.d]), some (.bool true), some (.bool false), some (.bool false), some (.int .i64 (k : Int)), some (.bool true), some (.bool true), some (.pointer (some ⟨w.heap.size, 1, none⟩)), some (.slice (some ad) ls.length c2), some (.int .i64 (k : Int)), some (.int .i64 (kp : Int)), some (.pointer (some (ad.add (kp * 4)))), some (.agg #[.int .i64 p.a, .int .i64 p.b, .int .i64 p.c, .int .i64 p.d]), some (.agg #[.int .i64 l.a, .int .i64 l.b, .int .i64 l.c, .int .i64 l.d]), some (.int .i64 z), some (.bool true), some (.bool true), some (.bool true)] L vs
        refine wp_region_genW S 99 (by kernel_rfl) (by kernel_rfl) rfl ?_ ?_
        ·exact HI.out _ _ _ ⟨Grows.drew' _, kn_none _ _⟩
        refine gen_consR (fun vs L w1 hL hw1 => ?_) ?_
        ·obtain ⟨q0, q1⟩ := HO.out _ _ _ hw1
         refine gen_plain rfl ?_
         go_simp
         exact gr_val (HI.out _ _ _ ⟨q0, kn_known q1 rfl⟩)
        refine gen_consR (fun vs L w1 hL hw1 => ?_) ?_
        ·obtain ⟨q0, q1⟩ := HO.out _ _ _ hw1
         refine gen_plain rfl ?_
         have x := (k6.grows q0).cell 
         go_simp
         exact gr_val (HI.out _ _ _ ⟨q0, kn_known q1 rfl⟩)
        refine gen_consR (fun vs L w1 hL hw1 => ?_) ?_
        ·obtain ⟨q0, q1⟩ := HO.out _ _ _ hw1
         refine gen_plain rfl ?_
         have l0 : L 0 = true := hL.need 0 (by kernel_rfl)
         have e0 := q1 0 _ rfl l0
         have l1 : L 1 = true := hL.need 1 (by kernel_rfl)
         have e1 := q1 1 _ rfl l1
         simp only [e0, e1]
         go_simp
         refine gr_call ?_
         refine (ends_is Bm nm ns l true w1 (hm.grows q0) HIl.out.1 HIl.out.2 HN.out HE.out).mono ?_
         rintro e w2 ⟨rfl, hg⟩
         exact ⟨_, rfl, HI.out _ _ _ ⟨below_grows q0 (Nat.le_refl _) hg, kn_known q1 rfl⟩⟩
        refine gen_consR (fun vs L w1 hL hw1 => ?_) ?_
        ·obtain ⟨q0, q1⟩ := HO.out _ _ _ hw1
         refine gen_plain rfl ?_
         have l2 : L 2 = true := hL.need 2 (by kernel_rfl)
         have e2 := q1 2 _ rfl l2
         simp only [e2]
         go_simp
         exact gr_val (HI.out _ _ _ ⟨q0, kn_known q1 rfl⟩)
        refine gen_consR (fun vs L w1 hL hw1 => ?_) ?_
        ·obtain ⟨q0, q1⟩ := HO.out _ _ _ hw1
         refine gen_plain rfl ?_
         have l3 : L 3 = true := hL.need 3 (by kernel_rfl)
         have e3 := q1 3 _ rfl l3
         simp only [e3]
         go_simp
         exact gr_val (HI.out _ _ _ ⟨q0, kn_known q1 rfl⟩)
        refine gen_consR (fun vs L w1 hL hw1 => ?_) ?_
        ·obtain ⟨q0, q1⟩ := HO.out _ _ _ hw1
         have l4 : L 4 = true := hL.need 4 (by kernel_rfl)
         have e4 := q1 4 _ rfl l4
         refine gen_yes ?_ ?_
         ·simp only [e4]
          rfl
         go_simp
         exact gr_val (HI.out _ _ _ ⟨q0, kn_known q1 rfl⟩)
        refine gen_consR (fun vs L w1 hL hw1 => ?_) ?_
        ·obtain ⟨q0, q1⟩ := HO.out _ _ _ hw1
         have l4 : L 4 = true := hL.need 4 (by kernel_rfl)
         have e4 := q1 4 _ rfl l4
         refine gen_yes ?_ ?_
         ·simp only [e4]
          rfl
         have l5 : L 5 = true := hL.need 5 (by kernel_rfl)
         have e5 := q1 5 _ rfl l5
         simp only [e5]
         go_simp
         exact gr_val (HI.out _ _ _ ⟨q0, kn_known q1 rfl⟩)
        refine gen_consR (fun vs L w1 hL hw1 => ?_) ?_
        ·obtain ⟨q0, q1⟩ := HO.out _ _ _ hw1
         have l4 : L 4 = true := hL.need 4 (by kernel_rfl)
         have e4 := q1 4 _ rfl l4
         refine gen_yes ?_ ?_
         ·simp only [e4]
          rfl
         have l6 : L 6 = true := hL.need 6 (by kernel_rfl)
         have e6 := q1 6 _ rfl l6
         simp only [e6]
         go_simp
         exact gr_val (HI.out _ _ _ ⟨q0, kn_known q1 rfl⟩)
        refine gen_consR (fun vs L w1 hL hw1 => ?_) ?_
        ·obtain ⟨q0, q1⟩ := HO.out _ _ _ hw1
         have l7 : L 7 = true := hL.need 7 (by kernel_rfl)
         have e7 := q1 7 _ rfl l7
         refine gen_yes ?_ ?_
         ·simp only [e7]
          rfl
         go_simp
         exact gr_val (HI.out _ _ _ ⟨q0, kn_known q1 rfl⟩)
        refine gen_consR (fun vs L w1 hL hw1 => ?_) ?_
        ·obtain ⟨q0, q1⟩ := HO.out _ _ _ hw1
         have l7 : L 7 = true := hL.need 7 (by kernel_rfl)
         have e7 := q1 7 _ rfl l7
         refine gen_yes ?_ ?_
         ·simp only [e7]
          rfl
         have l8 : L 8 = true := hL.need 8 (by kernel_rfl)
         have e8 := q1 8 _ rfl l8
         have x := (k1.grows q0).cell 1
         simp only [e8]
         go_simp
         exact gr_val (HI.out _ _ _ ⟨q0, kn_known q1 rfl⟩)
        refine gen_consR (fun vs L w1 hL hw1 => ?_) ?_
        ·obtain ⟨q0, q1⟩ := HO.out _ _ _ hw1
         have l7 : L 7 = true := hL.need 7 (by kernel_rfl)
         have e7 := q1 7 _ rfl l7
         refine gen_yes ?_ ?_
         ·simp only [e7]
          rfl
         go_simp
         exact gr_val (HI.out _ _ _ ⟨q0, kn_known q1 rfl⟩)
        refine gen_consR (fun vs L w1 hL hw1 => ?_) ?_
        ·obtain ⟨q0, q1⟩ := HO.out _ _ _ hw1
         have l7 : L 7 = true := hL.need 7 (by kernel_rfl)
         have e7 := q1 7 _ rfl l7
         refine gen_yes ?_ ?_
         ·simp only [e7]
          rfl
         have l10 : L 10 = true := hL.need 10 (by kernel_rfl)
         have e10 := q1 10 _ rfl l10
         simp only [e10]
         go_simp
         try simp only [hw.out]
         try simp only [hw2.out]
         exact gr_val (HI.out _ _ _ ⟨q0, kn_known q1 rfl⟩)
        refine gen_consR (fun vs L w1 hL hw1 => ?_) ?_
        ·obtain ⟨q0, q1⟩ := HO.out _ _ _ hw1
         have l7 : L 7 = true := hL.need 7 (by kernel_rfl)
         have e7 := q1 7 _ rfl l7
         refine gen_yes ?_ ?_
         ·simp only [e7]
          rfl
         have l9 : L 9 = true := hL.need 9 (by kernel_rfl)
         have e9 := q1 9 _ rfl l9
         have l11 : L 11 = true := hL.need 11 (by kernel_rfl)
         have e11 := q1 11 _ rfl l11
         simp only [e9, e11]
         go_simp
         exact gr_val (HI.out _ _ _ ⟨q0, kn_known q1 rfl⟩)
        refine gen_consR (fun vs L w1 hL hw1 => ?_) ?_
        ·obtain ⟨q0, q1⟩ := HO.out _ _ _ hw1
         have l7 : L 7 = true := hL.need 7 (by kernel_rfl)
         have e7 := q1 7 _ rfl l7
         refine gen_yes ?_ ?_
         ·simp only [e7]
          rfl
         have l12 : L 12 = true := hL.need 12 (by kernel_rfl)
         have e12 := q1 12 _ rfl l12
         simp only [e12]
         obtain ⟨y0, y1, y2, y3⟩ := hp _ (below_grows hB (Nat.le_refl _) q0)
         go_simp
         exact gr_val (HI.out _ _ _ ⟨q0, kn_known q1 rfl⟩)
        refine gen_consR (fun vs L w1 hL hw1 => ?_) ?_
        ·obtain ⟨q0, q1⟩ := HO.out _ _ _ hw1
         have l7 : L 7 = true := hL.need 7 (by kernel_rfl)
         have e7 := q1 7 _ rfl l7
         refine gen_yes ?_ ?_
         ·simp only [e7]
          rfl
         have x := (k6.grows q0).cell 
         go_simp
         exact gr_val (HI.out _ _ _ ⟨q0, kn_known q1 rfl⟩)
        refine gen_consR (fun vs L w1 hL hw1 => ?_) ?_
        ·obtain ⟨q0, q1⟩ := HO.out _ _ _ hw1
         have l7 : L 7 = true := hL.need 7 (by kernel_rfl)
         have e7 := q1 7 _ rfl l7
         refine gen_yes ?_ ?_
         ·simp only [e7]
          rfl
         have l13 : L 13 = true := hL.need 13 (by kernel_rfl)
         have e13 := q1 13 _ rfl l13
         have l14 : L 14 = true := hL.need 14 (by kernel_rfl)
         have e14 := q1 14 _ rfl l14
         simp only [e13, e14]
         go_simp
         refine gr_call ?_
         refine (compare_is p l z w1 HZ.out).mono ?_
         rintro e w2 ⟨rfl, hg⟩
         exact ⟨_, rfl, HI.out _ _ _ ⟨below_grows q0 (Nat.le_refl _) hg, kn_known q1 rfl⟩⟩
        refine gen_consR (fun vs L w1 hL hw1 => ?_) ?_
        ·obtain ⟨q0, q1⟩ := HO.out _ _ _ hw1
         have l7 : L 7 = true := hL.need 7 (by kernel_rfl)
         have e7 := q1 7 _ rfl l7
         refine gen_yes ?_ ?_
         ·simp only [e7]
          rfl
         have l15 : L 15 = true := hL.need 15 (by kernel_rfl)
         have e15 := q1 15 _ rfl l15
         simp only [e15]
         go_simp
         exact gr_val (HI.out _ _ _ ⟨q0, kn_known q1 rfl⟩)
        refine gen_consR (fun vs L w1 hL hw1 => ?_) ?_
        ·obtain ⟨q0, q1⟩ := HO.out _ _ _ hw1
         have l4 : L 4 = true := hL.need 4 (by kernel_rfl)
         have e4 := q1 4 _ rfl l4
         refine gen_yes ?_ ?_
         ·simp only [e4]
          rfl
         have l7 : L 7 = true := hL.need 7 (by kernel_rfl)
         have e7 := q1 7 _ rfl l7
         have l16 : L 16 = true := hL.need 16 (by kernel_rfl)
         have e16 := q1 16 _ rfl l16
         simp only [e7, e16]
         go_simp
         exact gr_val (HI.out _ _ _ ⟨q0, kn_known q1 rfl⟩)
        refine gen_consR (fun vs L w1 hL hw1 => ?_) ?_
        ·obtain ⟨q0, q1⟩ := HO.out _ _ _ hw1
         refine gen_plain rfl ?_
         have l4 : L 4 = true := hL.need 4 (by kernel_rfl)
         have e4 := q1 4 _ rfl l4
         have l17 : L 17 = true := hL.need 17 (by kernel_rfl)
         have e17 := q1 17 _ rfl l17
         simp only [e4, e17]
         go_simp
         exact gr_val (HI.out _ _ _ ⟨q0, kn_known q1 rfl⟩)
        refine gen_nil ?_
        intro vs L W6 hall hS
        obtain ⟨hq, q1⟩ := HO.out _ _ _ hS
        have eX18 := q1 18 _ rfl (hall 18 (by simp))
        clear hall hS HI HO q1
        simp only [eX18]
        go_wp2
        go_ret
        refine ⟨ret_bool ?_, below_grows hB (Nat.le_refl _) hq⟩
        exact (valid_no2 hlt HF2.out).symm
       ·have HS : Hid (lessL p l = true) := Lib.hid (by
         rw [← cmpL_less, HZ.out]
         omega)
        obtain ⟨S, HI, HO⟩ := hideS fun (L : Ran) (vs : Nat → Value) (w' : World) => Grows w7 w' ∧ KnS [some (.map (some Bm)), some (.agg #[.int .i64 l.a, .int .i64 l.b, .int .i64 l.c, .int .i64 l.d]), some (.bool true), some (.bool false), some (.bool false), some (.int .i64 (k : Int)), some (.bool true), some (.bool true), some (.pointer (some ⟨w.heap.size, 1, none⟩)), some (.slice (some ad) ls.length c2), some (.int .i64 (k : Int)), some (.int .i64 (kp : Int)), some (.pointer (some (ad.add (kp * 4)))), some (.agg #[.int .i64 p.a, .int .i64 p.b, .int .i64 p.c, .int .i64 p.d]), some (.agg #[.int .i64 l.a, .int .i64 l.b, .int .i64 l.c, .int .i64 l.d]), some (.int .i64 z), some (.bool false), some (.bool false), some (.bool false)] L vs
        refine wp_region_genW S 99 (by kernel_rfl) (by kernel_rfl) rfl ?_ ?_
        ·exact HI.out _ _ _ ⟨Grows.drew' _, kn_none _ _⟩
        refine gen_consR (fun vs L w1 hL hw1 => ?_) ?_
        ·obtain ⟨q0, q1⟩ := HO.out _ _ _ hw1
         refine gen_plain rfl ?_
         go_simp
         exact gr_val (HI.out _ _ _ ⟨q0, kn_known q1 rfl⟩)
        refine gen_consR (fun vs L w1 hL hw1 => ?_) ?_
        ·obtain ⟨q0, q1⟩ := HO.out _ _ _ hw1
         refine gen_plain rfl ?_
         have x := (k6.grows q0).cell 
         go_simp
         exact gr_val (HI.out _ _ _ ⟨q0, kn_known q1 rfl⟩)
        refine gen_consR (fun vs L w1 hL hw1 => ?_) ?_
        ·obtain ⟨q0, q1⟩ := HO.out _ _ _ hw1
         refine gen_plain rfl ?_
         have l0 : L 0 = true := hL.need 0 (by kernel_rfl)
         have e0 := q1 0 _ rfl l0
         have l1 : L 1 = true := hL.need 1 (by kernel_rfl)
         have e1 := q1 1 _ rfl l1
         simp only [e0, e1]
         go_simp
         refine gr_call ?_
         refine (ends_is Bm nm ns l true w1 (hm.grows q0) HIl.out.1 HIl.out.2 HN.out HE.out).mono ?_
         rintro e w2 ⟨rfl, hg⟩
         exact ⟨_, rfl, HI.out _ _ _ ⟨below_grows q0 (Nat.le_refl _) hg, kn_known q1 rfl⟩⟩
        refine gen_consR (fun vs L w1 hL hw1 => ?_) ?_
        ·obtain ⟨q0, q1⟩ := HO.out _ _ _ hw1
         refine gen_plain rfl ?_
         have l2 : L 2 = true := hL.need 2 (by kernel_rfl)
         have e2 := q1 2 _ rfl l2
         simp only [e2]
         go_simp
         exact gr_val (HI.out _ _ _ ⟨q0, kn_known q1 rfl⟩)
        refine gen_consR (fun vs L w1 hL hw1 => ?_) ?_
        ·obtain ⟨q0, q1⟩ := HO.out _ _ _ hw1
         refine gen_plain rfl ?_
         have l3 : L 3 = true := hL.need 3 (by kernel_rfl)
         have e3 := q1 3 _ rfl l3
         simp only [e3]
         go_simp
         exact gr_val (HI.out _ _ _ ⟨q0, kn_known q1 rfl⟩)
        refine gen_consR (fun vs L w1 hL hw1 => ?_) ?_
        ·obtain ⟨q0, q1⟩ := HO.out _ _ _ hw1
         have l4 : L 4 = true := hL.need 4 (by kernel_rfl)
         have e4 := q1 4 _ rfl l4
         refine gen_yes ?_ ?_
         ·simp only [e4]
          rfl
         go_simp
         exact gr_val (HI.out _ _ _ ⟨q0, kn_known q1 rfl⟩)
        refine gen_consR (fun vs L w1 hL hw1 => ?_) ?_
        ·obtain ⟨q0, q1⟩ := HO.out _ _ _ hw1
         have l4 : L 4 = true := hL.need 4 (by kernel_rfl)
         have e4 := q1 4 _ rfl l4
         refine gen_yes ?_ ?_
         ·simp only [e4]
          rfl
         have l5 : L 5 = true := hL.need 5 (by kernel_rfl)
         have e5 := q1 5 _ rfl l5
         simp only [e5]
         go_simp
         exact gr_val (HI.out _ _ _ ⟨q0, kn_known q1 rfl⟩)
        refine gen_consR (fun vs L w1 hL hw1 => ?_) ?_
        ·obtain ⟨q0, q1⟩ := HO.out _ _ _ hw1
         have l4 : L 4 = true := hL.need 4 (by kernel_rfl)
         have e4 := q1 4 _ rfl l4
         refine gen_yes ?_ ?_
         ·simp only [e4]
          rfl
         have l6 : L 6 = true := hL.need 6 (by kernel_rfl)
         have e6 := q1 6 _ rfl l6
         simp only [e6]
         go_simp
         exact gr_val (HI.out _ _ _ ⟨q0, kn_known q1 rfl⟩)
        refine gen_consR (fun vs L w1 hL hw1 => ?_) ?_
        ·obtain ⟨q0, q1⟩ := HO.out _ _ _ hw1
         have l7 : L 7 = true := hL.need 7 (by kernel_rfl)
         have e7 := q1 7 _ rfl l7
         refine gen_yes ?_ ?_
         ·simp only [e7]
          rfl
         go_simp
         exact gr_val (HI.out _ _ _ ⟨q0, kn_known q1 rfl⟩)
        refine gen_consR (fun vs L w1 hL hw1 => ?_) ?_
        ·obtain ⟨q0, q1⟩ := HO.out _ _ _ hw1
         have l7 : L 7 = true := hL.need 7 (by kernel_rfl)
         have e7 := q1 7 _ rfl l7
         refine gen_yes ?_ ?_
         ·simp only [e7]
          rfl
         have l8 : L 8 = true := hL.need 8 (by kernel_rfl)
         have e8 := q1 8 _ rfl l8
         have x := (k1.grows q0).cell 1
         simp only [e8]
         go_simp
         exact gr_val (HI.out _ _ _ ⟨q0, kn_known q1 rfl⟩)
        refine gen_consR (fun vs L w1 hL hw1 => ?_) ?_
        ·obtain ⟨q0, q1⟩ := HO.out _ _ _ hw1
         have l7 : L 7 = true := hL.need 7 (by kernel_rfl)
         have e7 := q1 7 _ rfl l7
         refine gen_yes ?_ ?_
         ·simp only [e7]
          rfl
         go_simp
         exact gr_val (HI.out _ _ _ ⟨q0, kn_known q1 rfl⟩)
        refine gen_consR (fun vs L w1 hL hw1 => ?_) ?_
        ·obtain ⟨q0, q1⟩ := HO.out _ _ _ hw1
         have l7 : L 7 = true := hL.need 7 (by kernel_rfl)
         have e7 := q1 7 _ rfl l7
         refine gen_yes ?_ ?_
         ·simp only [e7]
          rfl
         have l10 : L 10 = true := hL.need 10 (by kernel_rfl)
         have e10 := q1 10 _ rfl l10
         simp only [e10]
         go_simp
         try simp only [hw.out]
         try simp only [hw2.out]
         exact gr_val (HI.out _ _ _ ⟨q0, kn_known q1 rfl⟩)
        refine gen_consR (fun vs L w1 hL hw1 => ?_) ?_
        ·obtain ⟨q0, q1⟩ := HO.out _ _ _ hw1
         have l7 : L 7 = true := hL.need 7 (by kernel_rfl)
         have e7 := q1 7 _ rfl l7
         refine gen_yes ?_ ?_
         ·simp only [e7]
          rfl
         have l9 : L 9 = true := hL.need 9 (by kernel_rfl)
         have e9 := q1 9 _ rfl l9
         have l11 : L 11 = true := hL.need 11 (by kernel_rfl)
         have e11 := q1 11 _ rfl l11
         simp only [e9, e11]
         go_simp
         exact gr_val (HI.out _ _ _ ⟨q0, kn_known q1 rfl⟩)
        refine gen_consR (fun vs L w1 hL hw1 => ?_) ?_
        ·obtain ⟨q0, q1⟩ := HO.out _ _ _ hw1
         have l7 : L 7 = true := hL.need 7 (by kernel_rfl)
         have e7 := q1 7 _ rfl l7
         refine gen_yes ?_ ?_
         ·simp only [e7]
          rfl
         have l12 : L 12 = true := hL.need 12 (by kernel_rfl)
         have e12 := q1 12 _ rfl l12
         simp only [e12]
         obtain ⟨y0, y1, y2, y3⟩ := hp _ (below_grows hB (Nat.le_refl _) q0)
         go_simp
         exact gr_val (HI.out _ _ _ ⟨q0, kn_known q1 rfl⟩)
        refine gen_consR (fun vs L w1 hL hw1 => ?_) ?_
        ·obtain ⟨q0, q1⟩ := HO.out _ _ _ hw1
         have l7 : L 7 = true := hL.need 7 (by kernel_rfl)
         have e7 := q1 7 _ rfl l7
         refine gen_yes ?_ ?_
         ·simp only [e7]
          rfl
         have x := (k6.grows q0).cell 
         go_simp
         exact gr_val (HI.out _ _ _ ⟨q0, kn_known q1 rfl⟩)
        refine gen_consR (fun vs L w1 hL hw1 => ?_) ?_
        ·obtain ⟨q0, q1⟩ := HO.out _ _ _ hw1
         have l7 : L 7 = true := hL.need 7 (by kernel_rfl)
         have e7 := q1 7 _ rfl l7
         refine gen_yes ?_ ?_
         ·simp only [e7]
          rfl
         have l13 : L 13 = true := hL.need 13 (by kernel_rfl)
         have e13 := q1 13 _ rfl l13
         have l14 : L 14 = true := hL.need 14 (by kernel_rfl)
         have e14 := q1 14 _ rfl l14
         simp only [e13, e14]
         go_simp
         refine gr_call ?_
         refine (compare_is p l z w1 HZ.out).mono ?_
         rintro e w2 ⟨rfl, hg⟩
         exact ⟨_, rfl, HI.out _ _ _ ⟨below_grows q0 (Nat.le_refl _) hg, kn_known q1 rfl⟩⟩
        refine gen_consR (fun vs L w1 hL hw1 => ?_) ?_
        ·obtain ⟨q0, q1⟩ := HO.out _ _ _ hw1
         have l7 : L 7 = true := hL.need 7 (by kernel_rfl)
         have e7 := q1 7 _ rfl l7
         refine gen_yes ?_ ?_
         ·simp only [e7]
          rfl
         have l15 : L 15 = true := hL.need 15 (by kernel_rfl)
         have e15 := q1 15 _ rfl l15
         simp only [e15]
         go_simp
         exact gr_val (HI.out _ _ _ ⟨q0, kn_known q1 rfl⟩)
        refine gen_consR (fun vs L w1 hL hw1 => ?_) ?_
        ·obtain ⟨q0, q1⟩ := HO.out _ _ _ hw1
         have l4 : L 4 = true := hL.need 4 (by kernel_rfl)
         have e4 := q1 4 _ rfl l4
         refine gen_yes ?_ ?_
         ·simp only [e4]
          rfl
         have l7 : L 7 = true := hL.need 7 (by kernel_rfl)
         have e7 := q1 7 _ rfl l7
         have l16 : L 16 = true := hL.need 16 (by kernel_rfl)
         have e16 := q1 16 _ rfl l16
         simp only [e7, e16]
         go_simp
         exact gr_val (HI.out _ _ _ ⟨q0, kn_known q1 rfl⟩)
        refine gen_consR (fun vs L w1 hL hw1 => ?_) ?_
        ·obtain ⟨q0, q1⟩ := HO.out _ _ _ hw1
         refine gen_plain rfl ?_
         have l4 : L 4 = true := hL.need 4 (by kernel_rfl)
         have e4 := q1 4 _ rfl l4
         have l17 : L 17 = true := hL.need 17 (by kernel_rfl)
         have e17 := q1 17 _ rfl l17
         simp only [e4, e17]
         go_simp
         exact gr_val (HI.out _ _ _ ⟨q0, kn_known q1 rfl⟩)
        refine gen_nil ?_
        intro vs L W6 hall hS
        obtain ⟨hq, q1⟩ := HO.out _ _ _ hS
        have eX18 := q1 18 _ rfl (hall 18 (by simp))
        clear hall hS HI HO q1
        simp only [eX18]
        simp only [Nat.zero_add, Nat.reduceAdd]
        have k1' := k1.grows hq
        have x1 := k1'.cell
        go_wp2_with fail
        clear x1
        replace hB := below_grows hB (Nat.le_refl _) hq
        replace hm := hm.grows hq
        replace k6 := k6.grows hq
        clear hq k1
        generalize W6 = w9 at *
        go_loopw [82] (fun i wr => ∃ j : Nat, j ≤ k ∧ i = .int .i64 j ∧ Hid (crowdL ns l (ls.take j) = false) ∧ Below w.heap.size w wr ∧ Blk wr w.heap.size 26 #[.slice A ns.length c, .slice (some ad) ls.length c2] ∧ Blk wr G6 49 #[.int .i64 l.a, .int .i64 l.b, .int .i64 l.c, .int .i64 l.d] ∧ MapT TI wr Bm nm (nodeM ns)) (fun i _ => k - (intOf i).toNat)
        case atStart => exact ⟨0, by omega, rfl, Lib.hid rfl, hB, k1', k6, hm⟩
        case round =>
         clear hB k1' k6 hm
         obtain ⟨j, hj, rfl, HC, hB, k1, k6, hm⟩ := hrel
         by_cases hjlt : j < k
         ·obtain ⟨ad2, x, e2, -, hx2, q0, q1, q2, q3⟩ := (h2.grows hB).elem (k := j) (by omega)
          injection e2 with e2
          subst e2
          have HX2 := Lib.hid hx2
          clear hx2
          have HIx : Hid (In64 x.a ∧ In64 x.c) := Lib.hid (HRl.out x (List.mem_of_getElem? HX2.out))
          have k9 := Blk.new wr 49 #[.int .i64 x.a, .int .i64 x.b, .int .i64 x.c, .int .i64 x.d]
          have hq := (Below.refl wr.heap.size wr).alloc (Nat.le_refl _) (Obj.cells #[.int .i64 x.a, .int .i64 x.b, .int .i64 x.c, .int .i64 x.d] 49)
          go_upto_region 18 with fail
          clear q0 q1 q2 q3
          replace hB := below_grows hB (Nat.le_refl _) hq
          replace k1 := k1.grows hq
          replace k6 := k6.grows hq
          replace hm := hm.grows hq
          clear hq
          generalize World.alloc wr _ = w10 at *
          generalize wr.heap.size = G9 at *
          have x6 := k6.cell
          have x9 := k9.cell
          go_wp2_with fail
          cases hcl : clashL ns x l
          ·have HCL := Lib.hid hcl
           clear hcl
           refine (clash_is Bm nm ns x l false _ hm HIx.out.1 HIx.out.2 HN.out HCL.out).mono ?_
           rintro e w11 ⟨rfl, hq⟩
           have HC2 : Hid (crowdL ns l (ls.take (j + 1)) = false) := Lib.hid (by rw [take_snoc HX2.out]; unfold crowdL; rw [List.any_append]; simp only [List.any_cons, List.any_nil, Bool.or_false, HCL.out]; exact HC.out)
           replace hB := below_grows hB (Nat.le_refl _) hq
           replace k1 := k1.grows hq
           replace k6 := k6.grows hq
           replace hm := hm.grows hq
           clear hq x6 x9 k9
           go_wp2
           go_roundw
           case rel => exact ⟨j + 1, by omega, by go_num, HC2, hB, k1, k6, hm⟩
           case measure => simp [intOf]; omega
          ·have HCL := Lib.hid hcl
           clear hcl
           refine (clash_is Bm nm ns x l true _ hm HIx.out.1 HIx.out.2 HN.out HCL.out).mono ?_
           rintro e w11 ⟨rfl, hq⟩
           replace hB := below_grows hB (Nat.le_refl _) hq
           clear hq x6 x9 k9
           go_wp2
           go_ret
           refine ⟨ret_bool ?_, hB⟩
           refine (valid_no2 hlt ?_).symm
           have : crowdL ns l (ls.take k) = true := by
            unfold crowdL
            rw [List.any_eq_true]
            refine ⟨x, ?_, HCL.out⟩
            rw [List.mem_take_iff_getElem]
            obtain ⟨hj3, hj4⟩ := List.getElem?_eq_some_iff.1 HX2.out
            exact ⟨j, by omega, hj4⟩
           rw [stepK_at HX.out, this]
           simp
         ·have HC2 : Hid (crowdL ns l (ls.take k) = false) := Lib.hid (by have := HC.out; rwa [show j = k by omega] at this)
          have HA2 := Lib.hid (range_all_up HA.out (by rw [stepK_at HX.out, HE.out, HC2.out]; rw [hw3.out, getD_at HP.out, HS.out]; simp))
          go_wp2
          go_roundw
          case rel => exact ⟨k + 1, by omega, by go_num, HA2, hB, k1, hm⟩
          case measure => simp [intOf]; omega
    ·have HK : Hid (okK ns ls = true) := Lib.hid (by have := HA.out; rwa [show k = ls.length by omega] at this)
     obtain ⟨m, hm⟩ : ∃ m, (orderL ns ls).length = m := ⟨_, rfl⟩
     have HM := Lib.hid hm
     clear hm HA
     have hl3 : ns.length ≤ 100000 := by omega
     have hl4 : ls.length ≤ 100000 := by omega
     go_upto_region 22 with fail
     generalize wr = w8 at *
     cases hb : (m == ns.length)
     ·have HV : Hid (validG ns ls = false) := Lib.hid (by unfold validG; rw [HM.out]; simp only [Bool.and_eq_false_iff, decide_eq_false_iff_not]; exact .inr (by simpa using hb))
      have hb2 : decide (m = ns.length) = false := by simpa using hb
      have hb3 : ¬ m = ns.length := by simpa using hb
      have hb4 : ((m : Int) == (ns.length : Int)) = false := by
       simp only [beq_eq_false_iff_ne, ne_eq]
       omega
      obtain ⟨S, HI, HO⟩ := hideS fun (L : Ran) (vs : Nat → Value) (w' : World) => Grows w8 w' ∧ KnS [some (.agg #[.slice A ns.length c, .slice A2 ls.length c2]), none, some (.int .i64 (m : Int)), some (.pointer (some ⟨w.heap.size, 0, none⟩)), some (.slice A ns.length c), some (.int .i64 (ns.length : Int)), some (.bool false), some (.bool false)] L vs ∧ DsS [none, some (gLen m), none, none, none, none, none, none] L vs w'
      refine wp_region_genW S 99 (by kernel_rfl) (by kernel_rfl) rfl ?_ ?_
      ·exact HI.out _ _ _ ⟨Grows.drew' _, kn_none _ _, ds_none _ _ _⟩
      refine gen_consR (fun vs L w1 hL hw1 => ?_) ?_
      ·obtain ⟨q0, q1, q2⟩ := HO.out _ _ _ hw1
       refine gen_plain rfl ?_
       have x := (k1.grows q0).cell 
       go_simp
       exact gr_val (HI.out _ _ _ ⟨q0, kn_known q1 rfl, ds_free q2 rfl⟩)
      refine gen_consR (fun vs L w1 hL hw1 => ?_) ?_
      ·obtain ⟨q0, q1, q2⟩ := HO.out _ _ _ hw1
       refine gen_plain rfl ?_
       have l0 : L 0 = true := hL.need 0 (by kernel_rfl)
       have e0 := q1 0 _ rfl l0
       simp only [e0]
       go_simp
       refine gr_call ?_
       refine (porder_len A A2 c c2 m ns ls w1 (h.grows (below_grows hB (Nat.le_refl _) q0)) hl3 (h2.grows (below_grows hB (Nat.le_refl _) q0)) hl4 HRn.out HRl.out HM.out).mono ?_
       rintro e w2 ⟨⟨v, rfl, hv⟩, hg⟩
       exact ⟨_, rfl, HI.out _ _ _ ⟨below_grows q0 (Nat.le_refl _) hg, kn_free q1 rfl, ds_put (q2.grows hg) rfl (hv)⟩⟩
      refine gen_consR (fun vs L w1 hL hw1 => ?_) ?_
      ·obtain ⟨q0, q1, q2⟩ := HO.out _ _ _ hw1
       refine gen_plain rfl ?_
       have l1 : L 1 = true := hL.need 1 (by kernel_rfl)
       obtain ⟨A1, c1, e1⟩ := q2 1 _ rfl l1
       simp only [e1]
       go_simp
       exact gr_val (HI.out _ _ _ ⟨q0, kn_known q1 rfl, ds_free q2 rfl⟩)
      refine gen_consR (fun vs L w1 hL hw1 => ?_) ?_
      ·obtain ⟨q0, q1, q2⟩ := HO.out _ _ _ hw1
       refine gen_plain rfl ?_
       go_simp
       exact gr_val (HI.out _ _ _ ⟨q0, kn_known q1 rfl, ds_free q2 rfl⟩)
      refine gen_consR (fun vs L w1 hL hw1 => ?_) ?_
      ·obtain ⟨q0, q1, q2⟩ := HO.out _ _ _ hw1
       refine gen_plain rfl ?_
       have l3 : L 3 = true := hL.need 3 (by kernel_rfl)
       have e3 := q1 3 _ rfl l3
       have x := (k1.grows q0).cell 0
       simp only [e3]
       go_simp
       exact gr_val (HI.out _ _ _ ⟨q0, kn_known q1 rfl, ds_free q2 rfl⟩)
      refine gen_consR (fun vs L w1 hL hw1 => ?_) ?_
      ·obtain ⟨q0, q1, q2⟩ := HO.out _ _ _ hw1
       refine gen_plain rfl ?_
       have l4 : L 4 = true := hL.need 4 (by kernel_rfl)
       have e4 := q1 4 _ rfl l4
       simp only [e4]
       go_simp
       exact gr_val (HI.out _ _ _ ⟨q0, kn_known q1 rfl, ds_free q2 rfl⟩)
      refine gen_consR (fun vs L w1 hL hw1 => ?_) ?_
      ·obtain ⟨q0, q1, q2⟩ := HO.out _ _ _ hw1
       refine gen_plain rfl ?_
       have l2 : L 2 = true := hL.need 2 (by kernel_rfl)
       have e2 := q1 2 _ rfl l2
       have l5 : L 5 = true := hL.need 5 (by kernel_rfl)
       have e5 := q1 5 _ rfl l5
       simp only [e2, e5]
       go_simp
       exact gr_val (HI.out _ _ _ ⟨q0, kn_known q1 rfl, ds_free q2 rfl⟩)
      refine gen_consR (fun vs L w1 hL hw1 => ?_) ?_
      ·obtain ⟨q0, q1, q2⟩ := HO.out _ _ _ hw1
       refine gen_plain rfl ?_
       have l6 : L 6 = true := hL.need 6 (by kernel_rfl)
       have e6 := q1 6 _ rfl l6
       simp only [e6]
       go_simp
       exact gr_val (HI.out _ _ _ ⟨q0, kn_known q1 rfl, ds_free q2 rfl⟩)
      refine gen_nil ?_
      intro vs L W6 hall hS
      obtain ⟨hq, q1, q2⟩ := HO.out _ _ _ hS
      have eX7 := q1 7 _ rfl (hall 7 (by simp))
      clear hall hS HI HO q1 q2
      simp only [eX7]
      go_wp2
      go_ret
      refine ⟨ret_bool ?_, below_grows hB (Nat.le_refl _) hq⟩
      exact HV.out.symm
     ·have HV : Hid (validG ns ls = true) := Lib.hid (by unfold validG; rw [HM.out, HN.out, HK.out]; simp only [Bool.and_eq_true, decide_eq_true_eq, and_true]; exact ⟨⟨n1, n2⟩, by simpa using hb⟩)
      have hb3 : m = ns.length := by simpa using hb
      subst hb3
      clear hb
      obtain ⟨S, HI, HO⟩ := hideS fun (L : Ran) (vs : Nat → Value) (w' : World) => Grows w8 w' ∧ KnS [some (.agg #[.slice A ns.length c, .slice A2 ls.length c2]), none, some (.int .i64 (ns.length : Int)), some (.pointer (some ⟨w.heap.size, 0, none⟩)), some (.slice A ns.length c), some (.int .i64 (ns.length : Int)), some (.bool true), some (.bool true)] L vs ∧ DsS [none, some (gLen ns.length), none, none, none, none, none, none] L vs w'
      refine wp_region_genW S 99 (by kernel_rfl) (by kernel_rfl) rfl ?_ ?_
      ·exact HI.out _ _ _ ⟨Grows.drew' _, kn_none _ _, ds_none _ _ _⟩
      refine gen_consR (fun vs L w1 hL hw1 => ?_) ?_
      ·obtain ⟨q0, q1, q2⟩ := HO.out _ _ _ hw1
       refine gen_plain rfl ?_
       have x := (k1.grows q0).cell 
       go_simp
       exact gr_val (HI.out _ _ _ ⟨q0, kn_known q1 rfl, ds_free q2 rfl⟩)
      refine gen_consR (fun vs L w1 hL hw1 => ?_) ?_
      ·obtain ⟨q0, q1, q2⟩ := HO.out _ _ _ hw1
       refine gen_plain rfl ?_
       have l0 : L 0 = true := hL.need 0 (by kernel_rfl)
       have e0 := q1 0 _ rfl l0
       simp only [e0]
       go_simp
       refine gr_call ?_
       refine (porder_len A A2 c c2 ns.length ns ls w1 (h.grows (below_grows hB (Nat.le_refl _) q0)) hl3 (h2.grows (below_grows hB (Nat.le_refl _) q0)) hl4 HRn.out HRl.out HM.out).mono ?_
       rintro e w2 ⟨⟨v, rfl, hv⟩, hg⟩
       exact ⟨_, rfl, HI.out _ _ _ ⟨below_grows q0 (Nat.le_refl _) hg, kn_free q1 rfl, ds_put (q2.grows hg) rfl (hv)⟩⟩
      refine gen_consR (fun vs L w1 hL hw1 => ?_) ?_
      ·obtain ⟨q0, q1, q2⟩ := HO.out _ _ _ hw1
       refine gen_plain rfl ?_
       have l1 : L 1 = true := hL.need 1 (by kernel_rfl)
       obtain ⟨A1, c1, e1⟩ := q2 1 _ rfl l1
       simp only [e1]
       go_simp
       exact gr_val (HI.out _ _ _ ⟨q0, kn_known q1 rfl, ds_free q2 rfl⟩)
      refine gen_consR (fun vs L w1 hL hw1 => ?_) ?_
      ·obtain ⟨q0, q1, q2⟩ := HO.out _ _ _ hw1
       refine gen_plain rfl ?_
       go_simp
       exact gr_val (HI.out _ _ _ ⟨q0, kn_known q1 rfl, ds_free q2 rfl⟩)
      refine gen_consR (fun vs L w1 hL hw1 => ?_) ?_
      ·obtain ⟨q0, q1, q2⟩ := HO.out _ _ _ hw1
       refine gen_plain rfl ?_
       have l3 : L 3 = true := hL.need 3 (by kernel_rfl)
       have e3 := q1 3 _ rfl l3
       have x := (k1.grows q0).cell 0
       simp only [e3]
       go_simp
       exact gr_val (HI.out _ _ _ ⟨q0, kn_known q1 rfl, ds_free q2 rfl⟩)
      refine gen_consR (fun vs L w1 hL hw1 => ?_) ?_
      ·obtain ⟨q0, q1, q2⟩ := HO.out _ _ _ hw1
       refine gen_plain rfl ?_
       have l4 : L 4 = true := hL.need 4 (by kernel_rfl)
       have e4 := q1 4 _ rfl l4
       simp only [e4]
       go_simp
       exact gr_val (HI.out _ _ _ ⟨q0, kn_known q1 rfl, ds_free q2 rfl⟩)
      refine gen_consR (fun vs L w1 hL hw1 => ?_) ?_
      ·obtain ⟨q0, q1, q2⟩ := HO.out _ _ _ hw1
       refine gen_plain rfl ?_
       have l2 : L 2 = true := hL.need 2 (by kernel_rfl)
       have e2 := q1 2 _ rfl l2
       have l5 : L 5 = true := hL.need 5 (by kernel_rfl)
       have e5 := q1 5 _ rfl l5
       simp only [e2, e5]
       go_simp
       exact gr_val (HI.out _ _ _ ⟨q0, kn_known q1 rfl, ds_free q2 rfl⟩)
      refine gen_consR (fun vs L w1 hL hw1 => ?_) ?_
      ·obtain ⟨q0, q1, q2⟩ := HO.out _ _ _ hw1
       refine gen_plain rfl ?_
       have l6 : L 6 = true := hL.need 6 (by kernel_rfl)
       have e6 := q1 6 _ rfl l6
       simp only [e6]
       go_simp
       exact gr_val (HI.out _ _ _ ⟨q0, kn_known q1 rfl, ds_free q2 rfl⟩)
      refine gen_nil ?_
      intro vs L W6 hall hS
      obtain ⟨hq, q1, q2⟩ := HO.out _ _ _ hS
      have eX7 := q1 7 _ rfl (hall 7 (by simp))
      clear hall hS HI HO q1 q2
      simp only [eX7]
      go_wp2
      go_ret
      refine ⟨ret_bool ?_, below_grows hB (Nat.le_refl _) hq⟩
      exact HV.out.symm
end Go.Proofs.Ytobhdldlhhigdaa

namespace Go.Proofs.Ytobhdldlhhigdaa
open Go.RowKit Go.Maps
/-- A graph as it comes: two rows, and numbers that slots can hold. -/
structure GOK (w : World) (A A2 : Option Addr) (c2 : Nat) (ns ls : List Q4) : Prop where
 n : Qs w A ns
 l : Qs w A2 ls
 nl : ns.length ≤ 9223372036854775807
 ll : ls.length ≤ 9223372036854775807
 lc : ls.length ≤ c2
 ni : ∀ n ∈ ns, In64 n.a
 li : ∀ l ∈ ls, In64 l.a ∧ In64 l.c
set_option maxRecDepth 100000 in
theorem GOK.grows {w w' : World} {A A2 : Option Addr} {c2 : Nat} {ns ls : List Q4} (h : GOK w A A2 c2 ns ls) (hg : Grows w w') : GOK w' A A2 c2 ns ls :=
 ⟨h.n.grows hg, h.l.grows hg, h.nl, h.ll, h.lc, h.ni, h.li⟩
set_option maxRecDepth 100000 in
theorem GOK.below {w w' : World} {A A2 : Option Addr} {c2 : Nat} {ns ls : List Q4} (h : GOK w A A2 c2 ns ls) (hB : Below w.heap.size w w') : GOK w' A A2 c2 ns ls := h.grows hB
set_option maxRecDepth 100000 in
theorem valid_len {ns ls : List Q4} (h : validG ns ls = true) : ns.length ≤ 64 ∧ ls.length ≤ 256 := ⟨(valid_parts.1 h).1, (valid_parts.1 h).2.1⟩
set_option maxRecDepth 100000 in
theorem valid_ids {ns ls : List Q4} (h : validG ns ls = true) : ∀ n ∈ ns, n.a ≠ 0 := okN_ids (valid_parts.1 h).2.2.1
set_option maxRecDepth 100000 in
theorem pvalid_is {A A2 : Option Addr} {c c2 : Nat} {ns ls : List Q4} {w : World} (h : GOK w A A2 c2 ns ls) :
 Calls Try.prog 54 #[.agg #[.slice A ns.length c, .slice A2 ls.length c2]] w fun e w' => e = .returned (.bool (validG ns ls)) ∧ Grows w w' := pvalidg_any A A2 c c2 ns ls w h.n h.nl h.l h.ll h.lc h.ni h.li
set_option maxRecDepth 100000 in
theorem rvalid_is {A A2 : Option Addr} {c c2 : Nat} {ns ls : List Q4} {w : World} (h : GOK w A A2 c2 ns ls) :
 Calls Try.prog 42 #[.agg #[.slice A ns.length c, .slice A2 ls.length c2]] w fun e w' => e = .returned (.bool (validG ns ls)) ∧ Grows w w' := rvalidg_any A A2 c c2 ns ls w h.n h.nl h.l h.ll h.lc
set_option maxRecDepth 100000 in
set_option maxHeartbeats 4000000 in
theorem porder_no {A A2 : Option Addr} {c c2 : Nat} {ns ls : List Q4} {w : World} (h : GOK w A A2 c2 ns ls) (hv : validG ns ls = false) :
 Calls Try.prog 56 #[.agg #[.slice A ns.length c, .slice A2 ls.length c2]] w fun e w' => e = .returned (.tuple #[.slice none 0 0, .int .i64 1]) ∧ Grows w w' := by
 have HV := Lib.hid hv
 clear hv
 have k1 := Blk.new w 26 #[.slice A ns.length c, .slice A2 ls.length c2]
 have hB := (Below.refl w.heap.size w).alloc (Nat.le_refl _) (Obj.cells #[.slice A ns.length c, .slice A2 ls.length c2] 26)
 go_enter Try.func56, Try.ntmps56
 go_upto_region 1 with fail
 generalize World.alloc w _ = w1 at *
 have x1 := k1.cell
 go_wp2_with fail
 refine (pvalid_is (h.grows hB)).mono ?_
 rw [HV.out]
 rintro e w2 ⟨rfl, hq⟩
 replace hB := below_grows hB (Nat.le_refl _) hq
 replace k1 := k1.grows hq
 clear hq x1
 go_wp2
 go_ret2
 exact ⟨rfl, hB⟩
set_option maxRecDepth 100000 in
set_option maxHeartbeats 4000000 in
theorem porder_yes {A A2 : Option Addr} {c c2 : Nat} {ns ls : List Q4} {w : World} (h : GOK w A A2 c2 ns ls) (hv : validG ns ls = true) :
 Calls Try.prog 56 #[.agg #[.slice A ns.length c, .slice A2 ls.length c2]] w fun e w' => (∃ v, e = .returned (.tuple #[v, .int .i64 0]) ∧ OwnI w' w.heap.size v (orderL ns ls)) ∧ Grows w w' := by
 have HV := Lib.hid hv
 clear hv
 have k1 := Blk.new w 26 #[.slice A ns.length c, .slice A2 ls.length c2]
 have hB := (Below.refl w.heap.size w).alloc (Nat.le_refl _) (Obj.cells #[.slice A ns.length c, .slice A2 ls.length c2] 26)
 go_enter Try.func56, Try.ntmps56
 go_upto_region 1 with fail
 generalize World.alloc w _ = w1 at *
 have x1 := k1.cell
 go_wp2_with fail
 refine (pvalid_is (h.grows hB)).mono ?_
 rw [HV.out]
 rintro e w2 ⟨rfl, hq⟩
 replace hB := below_grows hB (Nat.le_refl _) hq
 replace k1 := k1.grows hq
 clear hq x1
 have hL := valid_len HV.out
 have x1 := k1.cell
 have h' := h.grows hB
 go_wp2_with fail
 refine (order_any A A2 c c2 ns ls _ h'.n (by omega) h'.l (by omega) h'.ni (fun l hl => (h'.li l hl).2)).mono ?_
 rintro e w3 ⟨⟨v, rfl, ho⟩, hq⟩
 replace ho := ho.mono hB.size
 replace hB := below_grows hB (Nat.le_refl _) hq
 go_wp2
 go_ret2
 exact ⟨⟨_, rfl, ho⟩, hB⟩
set_option maxRecDepth 100000 in
set_option maxHeartbeats 4000000 in
theorem rorder_no {A A2 : Option Addr} {c c2 : Nat} {ns ls : List Q4} {w : World} (h : GOK w A A2 c2 ns ls) (hv : validG ns ls = false) :
 Calls Try.prog 33 #[.agg #[.slice A ns.length c, .slice A2 ls.length c2]] w fun e w' => e = .returned (.tuple #[.slice none 0 0, .int .i64 1]) ∧ Grows w w' := by
 have HV := Lib.hid hv
 clear hv
 have k1 := Blk.new w 26 #[.slice A ns.length c, .slice A2 ls.length c2]
 have hB := (Below.refl w.heap.size w).alloc (Nat.le_refl _) (Obj.cells #[.slice A ns.length c, .slice A2 ls.length c2] 26)
 go_enter Try.func33, Try.ntmps33
 go_upto_region 1 with fail
 generalize World.alloc w _ = w1 at *
 have x1 := k1.cell
 go_wp2_with fail
 refine (rvalid_is (h.grows hB)).mono ?_
 rw [HV.out]
 rintro e w2 ⟨rfl, hq⟩
 replace hB := below_grows hB (Nat.le_refl _) hq
 replace k1 := k1.grows hq
 clear hq x1
 go_wp2
 go_ret2
 exact ⟨rfl, hB⟩
set_option maxRecDepth 100000 in
set_option maxHeartbeats 4000000 in
theorem rorder_yes {A A2 : Option Addr} {c c2 : Nat} {ns ls : List Q4} {w : World} (h : GOK w A A2 c2 ns ls) (hv : validG ns ls = true) :
 Calls Try.prog 33 #[.agg #[.slice A ns.length c, .slice A2 ls.length c2]] w fun e w' => (∃ v, e = .returned (.tuple #[v, .int .i64 0]) ∧ OwnI w' w.heap.size v (orderL ns ls)) ∧ Grows w w' := by
 have HV := Lib.hid hv
 clear hv
 have k1 := Blk.new w 26 #[.slice A ns.length c, .slice A2 ls.length c2]
 have hB := (Below.refl w.heap.size w).alloc (Nat.le_refl _) (Obj.cells #[.slice A ns.length c, .slice A2 ls.length c2] 26)
 go_enter Try.func33, Try.ntmps33
 go_upto_region 1 with fail
 generalize World.alloc w _ = w1 at *
 have x1 := k1.cell
 go_wp2_with fail
 refine (rvalid_is (h.grows hB)).mono ?_
 rw [HV.out]
 rintro e w2 ⟨rfl, hq⟩
 replace hB := below_grows hB (Nat.le_refl _) hq
 replace k1 := k1.grows hq
 clear hq x1
 have hL := valid_len HV.out
 have x1 := k1.cell
 have h' := h.grows hB
 go_wp2_with fail
 refine (rorder_any A A2 c c2 ns ls _ h'.n (by omega) h'.l h'.ll (valid_ids HV.out)).mono ?_
 rintro e w3 ⟨⟨v, rfl, ho⟩, hq⟩
 replace ho := ho.mono hB.size
 replace hB := below_grows hB (Nat.le_refl _) hq
 go_wp2
 go_ret2
 exact ⟨⟨_, rfl, ho⟩, hB⟩
set_option maxRecDepth 100000 in
theorem in_snoc {ls : List Q4} {k : Nat} {l : Q4} (h : ls[k]? = some l) (id : Int) : inL (ls.take (k + 1)) id = inL (ls.take k) id ++ (if l.c = id then [l] else []) := by
 rw [take_snoc h]
 unfold inL
 rw [List.filter_append]
 by_cases e : l.c = id
 ·simp [e]
 ·simp [e]
set_option maxRecDepth 100000 in
theorem in_len (ls : List Q4) (id : Int) : (inL ls id).length ≤ ls.length := List.length_filter_le _ _
end Go.Proofs.Ytobhdldlhhigdaa

namespace Go.Proofs.Ytobhdldlhhigdaa
open Go.RowKit Go.Maps
/-- The weight of a node, 0 if it is none. -/
def wOf (ns : List Q4) (ws : List Int) (x : Int) : Int := match placeN ns x with | some k => ws.getD k 0 | none => 0
def badW (x : Int) : Bool := decide (x < 0) || decide (1099511627776 < x)
def okW (ns : List Q4) (ws : List Int) : Bool := ws.length == ns.length && !ws.any badW
def longG (ns ls : List Q4) (ws : List Int) (a b : Int) : Int × Int :=
 if validG ns ls = true ∧ okW ns ws = true then
  (if (placeN ns a).isSome = true ∧ (placeN ns b).isSome = true then (match longS (wOf ns ws) ls (orderL ns ls) a b with | none => (0, 13) | some v => (v, 0)) else (0, 7))
 else (0, 1)
set_option maxRecDepth 100000 in
theorem long_no1 {ns ls : List Q4} {ws : List Int} {a b : Int} (h : validG ns ls = false) : longG ns ls ws a b = (0, 1) := by simp [longG, h]
set_option maxRecDepth 100000 in
theorem long_no2 {ns ls : List Q4} {ws : List Int} {a b : Int} (h : okW ns ws = false) : longG ns ls ws a b = (0, 1) := by simp [longG, h]
set_option maxRecDepth 100000 in
theorem long_no3 {ns ls : List Q4} {ws : List Int} {a b : Int} (h : validG ns ls = true) (h2 : okW ns ws = true) (h3 : (placeN ns a).isSome = false ∨ (placeN ns b).isSome = false) : longG ns ls ws a b = (0, 7) := by
 unfold longG
 rw [if_pos ⟨h, h2⟩, if_neg]
 rintro ⟨h4, h5⟩
 rcases h3 with h3 | h3
 ·rw [h3] at h4; cases h4
 ·rw [h3] at h5; cases h5
set_option maxRecDepth 100000 in
theorem long_yes {ns ls : List Q4} {ws : List Int} {a b : Int} (h : validG ns ls = true) (h2 : okW ns ws = true) (h3 : (placeN ns a).isSome = true) (h4 : (placeN ns b).isSome = true) : longG ns ls ws a b = match longS (wOf ns ws) ls (orderL ns ls) a b with | none => (0, 13) | some v => (v, 0) := by
 unfold longG
 rw [if_pos ⟨h, h2⟩, if_pos ⟨h3, h4⟩]
set_option maxRecDepth 100000 in
theorem okW_at {ns : List Q4} {ws : List Int} (h : okW ns ws = true) (k : Nat) : 0 ≤ ws.getD k 0 ∧ ws.getD k 0 ≤ 1099511627776 := by
 unfold okW at h
 simp only [Bool.and_eq_true, Bool.not_eq_true', List.any_eq_false, badW, Bool.or_eq_true, decide_eq_true_eq] at h
 rw [List.getD_eq_getElem?_getD]
 cases e : ws[k]? with
 | none => simp
 | some x =>
  have := h.2 x (List.mem_of_getElem? e)
  simp only [Option.getD_some]
  omega
set_option maxRecDepth 100000 in
theorem wb_of {ns : List Q4} {ws : List Int} (h : okW ns ws = true) : WB (wOf ns ws) := by
 intro y
 unfold wOf
 cases placeN ns y with
 | none => simp
 | some k => exact okW_at h k
set_option maxRecDepth 100000 in
theorem placeN_some {ns : List Q4} {x : Int} {k : Nat} (h : placeN ns x = some k) : ∃ n, ns[k]? = some n ∧ n.a = x := by
 unfold placeN at h
 obtain ⟨hk, h1, _⟩ := List.findIdx?_eq_some_iff_getElem.1 h
 exact ⟨ns[k], List.getElem?_eq_getElem hk, by simpa using h1⟩
set_option maxRecDepth 100000 in
theorem place_none {ns : List Q4} {x : Int} (h : ∀ n ∈ ns, n.a ≠ x) : placeN ns x = none := by
 unfold placeN
 rw [List.findIdx?_eq_none_iff]
 exact fun n hn => by simpa using h n hn
set_option maxRecDepth 100000 in
theorem place_in {ns : List Q4} {n : Q4} (hn : n ∈ ns) : (placeN ns n.a).isSome = true := by
 cases e : placeN ns n.a with
 | some k => rfl
 | none =>
  unfold placeN at e
  rw [List.findIdx?_eq_none_iff] at e
  have := e n hn
  simp at this
set_option maxRecDepth 100000 in
theorem place_snoc {ns : List Q4} (h : ns.Pairwise fun x y => x.a < y.a) {k : Nat} {n : Q4} (hx : ns[k]? = some n) (y : Int) : placeN (ns.take (k + 1)) y = if y = n.a then some k else placeN (ns.take k) y := by
 obtain ⟨hk, hx2⟩ := List.getElem?_eq_some_iff.1 hx
 have hl : (ns.take k).length = k := by rw [List.length_take]; omega
 rw [take_snoc hx]
 unfold placeN
 rw [List.findIdx?_append]
 by_cases e : y = n.a
 ·subst e
  have h0 : (ns.take k).findIdx? (fun m => m.a == n.a) = none := by
   rw [List.findIdx?_eq_none_iff]
   intro m hm
   obtain ⟨i, hi, rfl⟩ := List.mem_take_iff_getElem.1 hm
   have := List.pairwise_iff_getElem.1 h i k (by omega) hk (by omega)
   rw [hx2] at this
   simp only [beq_eq_false_iff_ne, ne_eq]
   omega
  rw [h0, if_pos rfl]
  simp [hl]
 ·rw [if_neg e]
  have : (n.a == y) = false := by simpa using fun h => e h.symm
  cases (ns.take k).findIdx? (fun m => m.a == y) <;> simp [List.findIdx?_cons, this]
/-- The map of the weights, as far as the nodes are gone through. -/
def wMap (ns : List Q4) (ws : List Int) (k : Nat) : Int → Option Value := fun y => (placeN (ns.take k) y).map fun i => Value.int .i64 (ws.getD i 0)
set_option maxRecDepth 100000 in
theorem wMap_snoc {ns : List Q4} (h : ns.Pairwise fun x y => x.a < y.a) {ws : List Int} {k : Nat} {n : Q4} (hx : ns[k]? = some n) (y : Int) : (if y = n.a then some (Value.int .i64 (ws.getD k 0)) else wMap ns ws k y) = wMap ns ws (k + 1) y := by
 unfold wMap
 rw [place_snoc h hx]
 by_cases e : y = n.a <;> simp [e]
set_option maxRecDepth 100000 in
theorem wMap_end (ns : List Q4) (ws : List Int) (k : Nat) (hk : ns.length ≤ k) (y : Int) : (wMap ns ws k y).getD (.int .i64 0) = .int .i64 (wOf ns ws y) ∧ (wMap ns ws k y).isSome = (placeN ns y).isSome := by
 unfold wMap wOf
 rw [List.take_of_length_le hk]
 cases placeN ns y <;> exact ⟨rfl, rfl⟩
def sMap (S : Int → Option Int) : Int → Option Value := fun y => (S y).map (Value.int .i64)
set_option maxRecDepth 100000 in
theorem sMap_start (W : Int → Int) (a : Int) (y : Int) : (if y = a then some (Value.int .i64 (W a)) else none) = sMap (startL W a) y := by
 unfold sMap startL
 by_cases e : y = a <;> simp [e]
set_option maxRecDepth 100000 in
theorem sMap_step {W : Int → Int} {id : Int} {S : Int → Option Int} {l : Q4} {s : Int} (hc : l.c = id) (hs : S l.a = some s) (y : Int) : (if y = id then some (Value.int .i64 (max ((S id).getD 0) (s + W id))) else sMap S y) = sMap (relaxL W id S l) y := by
 unfold sMap
 rw [relax_of _ _ _ _ hc, hs]
 by_cases e : y = id <;> simp [e]
set_option maxRecDepth 100000 in
theorem in_mem {ls : List Q4} {id : Int} {l : Q4} (h : l ∈ inL ls id) : l ∈ ls ∧ l.c = id := by
 unfold inL at h
 rw [List.mem_filter] at h
 exact ⟨h.1, by simpa using h.2⟩
set_option maxRecDepth 100000 in
theorem fold_snoc {α β : Type} {f : β → α → β} {b : β} {l : List α} {k : Nat} {x : α} (h : l[k]? = some x) : (l.take (k + 1)).foldl f b = f ((l.take k).foldl f b) x := by
 rw [take_snoc h, List.foldl_append]
 rfl
set_option maxRecDepth 100000 in
theorem order_mem {ns ls : List Q4} {i : Int} (h : i ∈ orderL ns ls) : ∃ n ∈ ns, n.a = i := (order_run ns ls).2.1 i h
set_option maxRecDepth 100000 in
theorem order_len64 {ns ls : List Q4} (h : validG ns ls = true) : (orderL ns ls).length ≤ 64 := by
 have := valid_parts.1 h
 omega
set_option maxRecDepth 100000 in
theorem sb_at {W : Int → Int} (hW : WB W) {ls : List Q4} (hl : ls.length ≤ 256) {a : Int} : ∀ (o : List Int), SB (o.foldl (passL W ls) (startL W a)) (1099511627776 + o.length * 281474976710656) := by
 intro o
 have key : ∀ (o : List Int) (S : Int → Option Int) (k : Nat), SB S (1099511627776 + k * 281474976710656) → SB (o.foldl (passL W ls) S) (1099511627776 + (k + o.length : Nat) * 281474976710656) := by
  intro o
  induction o with
  | nil => intro S k h; simpa using h
  | cons i o ih =>
   intro S k h
   rw [List.foldl_cons]
   have := ih _ (k + 1) (sb_pass hW ls hl h i)
   rw [List.length_cons, show k + (o.length + 1) = k + 1 + o.length by omega]
   exact this
 have := key o (startL W a) 0 (by simpa using sb_start hW a)
 rw [Nat.zero_add] at this
 exact this
set_option maxRecDepth 100000 in
/-- On the way within one node: no sum is near the end of what a slot holds. -/
theorem sb_mid {W : Int → Int} (hW : WB W) {ls : List Q4} (hl : ls.length ≤ 256) {a id : Int} {o : List Int} (ho : o.length ≤ 64) {m : List Q4} (hm : m.length ≤ 256) : SB (m.foldl (relaxL W id) (o.foldl (passL W ls) (startL W a))) 100000000000000000 := by
 have h := sb_fold hW id m (sb_at hW hl (a := a) o) (by omega)
 refine h.mono ?_
 omega
section
variable {P : Program} {k : TypeId} {α : Type} {T : KeyT P k α} {w : World} {b n : Nat} {M : α → Option Value} {ops : Array Oper} {rest : List Oper} {o : Oper} {a : Act} {Q : Exit → Act → World → Prop}
set_option maxRecDepth 100000 in
theorem wpList_insertT [DecidableEq α] (hgd : o.guard = none) (m x v : Operand) (t : TypeId) (hop : o.op = Op.insert t m x v) (hm : a.eval m = .map (some b)) (h : MapT T w b n M) (K : Keyed P k) {e : TypeId} (ht : P.underlying t = some (.map k e)) (hn : n < maxLen)
 (y : α) (ha : T.ok y) (val : Value) (hx : a.eval x = T.enc y) (hv : a.eval v = val)
 (hK : ∀ w', MapT T w' b (n + 1) (fun x => if x = y then some val else M x) → w.grownBy w' (some b) → wpList P ops Q rest (a.put o.dst undef) w') : wpList P ops Q (o :: rest) a w := by
 refine wpList_plain hgd fun K' hK' => ?_
 obtain ⟨w', hrun, h1, h2⟩ := h.store K ht hn ha val
 unfold Oper.wp
 simp [execOp, hop, hm, hx, hv, hrun, Result.andThen]
 exact hK' _ _ (hK w' h1 h2)
end
set_option maxRecDepth 100000 in
theorem OwnI.ints {w : World} {base : Nat} {A : Option Addr} {n c : Nat} {l : List Int} (h : OwnI w base (.slice A n c) l) : Ints w A l := by
 obtain ⟨A', c', e, _, hi⟩ := h.read
 injection e with e1 e2 e3
 rw [e1]
 exact hi
set_option maxRecDepth 100000 in
theorem OwnL.mono {w : World} {base base' : Nat} {v : Value} {l : List Q4} (h : OwnL w base v l) (hb : base' ≤ base) : OwnL w base' v l := ⟨h.1, h.2.imp id fun ⟨g, cap, cur, e, hg, r⟩ => ⟨g, cap, cur, e, by omega, r⟩⟩
set_option maxRecDepth 100000 in
theorem OwnL.qs {w : World} {base : Nat} {A : Option Addr} {n c : Nat} {l : List Q4} (h : OwnL w base (.slice A n c) l) : Qs w A l := by
 obtain ⟨A', c', e, _, hi⟩ := h.read
 injection e with e1 e2 e3
 rw [e1]
 exact hi
/-- The sums as an array, by the places of the nodes: -1 where there is none. -/
def arrL (ns : List Q4) (S : Int → Option Int) : List Int := ns.map fun n => (S n.a).getD (-1)
set_option maxRecDepth 100000 in
theorem arr_len (ns : List Q4) (S : Int → Option Int) : (arrL ns S).length = ns.length := by simp [arrL]
set_option maxRecDepth 100000 in
theorem arr_at {ns : List Q4} (S : Int → Option Int) {k : Nat} {n : Q4} (hx : ns[k]? = some n) : (arrL ns S)[k]? = some ((S n.a).getD (-1)) := by
 unfold arrL
 rw [List.getElem?_map, hx]
 rfl
set_option maxRecDepth 100000 in
theorem arr_set {ns : List Q4} (h : ns.Pairwise fun x y => x.a < y.a) (S : Int → Option Int) {k : Nat} {n : Q4} (hx : ns[k]? = some n) (v : Int) : (arrL ns S).set k v = arrL ns (fun y => if y = n.a then some v else S y) := by
 obtain ⟨hk, hx2⟩ := List.getElem?_eq_some_iff.1 hx
 apply List.ext_getElem?
 intro i
 rw [List.getElem?_set, arr_len]
 by_cases hi : i < ns.length
 ·obtain ⟨m, hm⟩ : ∃ m, ns[i]? = some m := ⟨_, List.getElem?_eq_getElem hi⟩
  rw [arr_at _ hm, arr_at _ hm]
  obtain ⟨_, hm2⟩ := List.getElem?_eq_some_iff.1 hm
  by_cases e : k = i
  ·subst e
   rw [hx] at hm
   injection hm with hm
   subst hm
   simp [hk]
  ·rw [if_neg e]
   have : m.a ≠ n.a := by
    rw [← hm2, ← hx2]
    rcases Nat.lt_or_gt_of_ne e with h1 | h1
    ·have := List.pairwise_iff_getElem.1 h k i hk hi h1
     omega
    ·have := List.pairwise_iff_getElem.1 h i k hi hk h1
     omega
   rw [if_neg this]
 ·have h1 : (arrL ns S)[i]? = none := List.getElem?_eq_none (by rw [arr_len]; omega)
  have h2 : (arrL ns (fun y => if y = n.a then some v else S y))[i]? = none := List.getElem?_eq_none (by rw [arr_len]; omega)
  rw [h1, h2]
  split
  ·rename_i e
   omega
  ·rfl
def fillL (n k : Nat) : List Int := List.replicate k (-1) ++ List.replicate (n - k) 0
set_option maxRecDepth 100000 in
theorem fill_len {n k : Nat} (h : k ≤ n) : (fillL n k).length = n := by simp [fillL]; omega
set_option maxRecDepth 100000 in
theorem fill_set {n k : Nat} (h : k < n) : (fillL n k).set k (-1) = fillL n (k + 1) := by
 unfold fillL
 rw [List.set_append_right _ _ (by simp), List.length_replicate, Nat.sub_self, show n - k = (n - (k + 1)) + 1 by omega, List.replicate_succ, List.set_cons_zero, List.replicate_succ', List.append_assoc]
 rfl
set_option maxRecDepth 100000 in
theorem fill_end (ns : List Q4) (k : Nat) (h : ns.length ≤ k) (h2 : k ≤ ns.length) : fillL ns.length k = arrL ns (fun _ => none) := by
 unfold fillL arrL
 rw [show ns.length - k = 0 by omega, show k = ns.length by omega]
 simp [List.map_const']
set_option maxRecDepth 100000 in
theorem max_neg {o : Option Int} {v : Int} (h : 0 ≤ v) : max (o.getD (-1)) v = max (o.getD 0) v := by
 cases o with
 | none => simp only [Option.getD_none]; omega
 | some t => rfl
set_option maxRecDepth 100000 in
theorem placeV_some {ns : List Q4} {x : Int} (h : (placeN ns x).isSome = true) : ∃ k n, placeN ns x = some k ∧ placeV (placeN ns x) = (k : Int) ∧ ns[k]? = some n ∧ n.a = x ∧ k < ns.length := by
 obtain ⟨k, hk⟩ := Option.isSome_iff_exists.1 h
 obtain ⟨n, h1, h2⟩ := placeN_some hk
 exact ⟨k, n, hk, by rw [hk]; rfl, h1, h2, (List.getElem?_eq_some_iff.1 h1).1⟩
set_option maxRecDepth 100000 in
theorem placeV_none {ns : List Q4} {x : Int} (h : (placeN ns x).isSome = false) : placeV (placeN ns x) = -1 := by
 cases e : placeN ns x with
 | none => rfl
 | some k => rw [e] at h; cases h
set_option maxRecDepth 100000 in
theorem wOf_at {ns : List Q4} {ws : List Int} {x : Int} {k : Nat} (h : placeN ns x = some k) : wOf ns ws x = ws.getD k 0 := by
 unfold wOf
 rw [h]
/-- An array of integers in a block of its own. -/
def ArrI (w : World) (base g : Nat) (n : Nat) (l : List Int) : Prop := l.length = n ∧ OwnI w base (.slice (some ⟨g, 0, none⟩) n n) l
section
variable {w w' : World} {base g n : Nat} {l : List Int}
set_option maxRecDepth 100000 in
theorem ArrI.own (h : ArrI w base g n l) : w.ownsRow base 3 1 (.slice (some ⟨g, 0, none⟩) n n) n (l.map (Value.int .i64)) := by
 have := h.2
 unfold OwnI at this
 rwa [h.1] at this
set_option maxRecDepth 100000 in
theorem ArrI.of (hl : l.length = n) (h : w.ownsRow base 3 1 (.slice (some ⟨g, 0, none⟩) n n) n (l.map (Value.int .i64))) : ArrI w base g n l := by
 refine ⟨hl, ?_⟩
 unfold OwnI
 rw [hl]
 exact h
set_option maxRecDepth 100000 in
theorem ArrI.cell (h : ArrI w base g n l) {k : Nat} {x : Int} (hx : l[k]? = some x) : w.cell? ⟨g, k, none⟩ = some (.int .i64 x) := by
 have hk := (List.getElem?_eq_some_iff.1 hx).1
 rw [h.own.cellAt k (by have := h.1; omega), List.getElem?_map, hx]
 rfl
set_option maxRecDepth 100000 in
theorem ArrI.frozen (h : ArrI w base g n l) (k : Nat) : w.frozen? ⟨g, k, none⟩ = false := h.own.frozenAt k
set_option maxRecDepth 100000 in
theorem ArrI.put (h : ArrI w base g n l) (k : Nat) (v : Int) : ArrI (w.setCell ⟨g, k, none⟩ (.int .i64 v)) base g n (l.set k v) ∧ w.grownBy (w.setCell ⟨g, k, none⟩ (.int .i64 v)) (some g) := by
 obtain ⟨h1, h2⟩ := h.own.stored k (.int .i64 v)
 refine ⟨ArrI.of (by rw [List.length_set]; exact h.1) ?_, h2⟩
 rw [← List.map_set] at h1
 exact h1
set_option maxRecDepth 100000 in
theorem ArrI.grows (h : ArrI w base g n l) (hg : Grows w w') : ArrI w' base g n l := ⟨h.1, h.2.grows hg⟩
set_option maxRecDepth 100000 in
theorem ArrI.lt (h : ArrI w base g n l) : base ≤ g ∧ g < w.heap.size := World.ownsRow.lt h.own g rfl
set_option maxRecDepth 100000 in
theorem ArrI.mono (h : ArrI w base g n l) {base' : Nat} (hb : base' ≤ base) : ArrI w base' g n l := ⟨h.1, h.2.mono hb⟩
set_option maxRecDepth 100000 in
theorem ArrI.kept (h : ArrI w base g n l) {row : Option Nat} (hg : w.grownBy w' row) (hne : some g ≠ row) : ArrI w' base g n l := ⟨h.1, World.ownsRow.kept h.2 hg (.inr hne)⟩
set_option maxRecDepth 100000 in
theorem ArrI.ne_blk (h : ArrI w base g n l) {g' : Nat} {t : TypeId} {cs : Array Value} (hb : Blk w g' t cs) (hne : 3 ≠ t) : some g' ≠ some g := fun e => own_blk_ne h.own hb hne e.symm
end
set_option maxRecDepth 100000 in
theorem made_zero (w : World) (base g n : Nat) (h : w.ownsRow base 3 1 (.slice (some ⟨g, 0, none⟩) n n) n (madeCells (Value.int .i64 0).cells (n * 1)).toList) : ArrI w base g n (List.replicate n 0) := by
 refine ArrI.of (by simp) ?_
 have e : (madeCells (Value.int .i64 0).cells (n * 1)).toList = (List.replicate n (0 : Int)).map (Value.int .i64) := by
  simp [madeCells, Value.cells, Nat.mod_one, List.map_const']
 rw [← e]
 exact h
set_option maxRecDepth 100000 in
theorem grows_drewN (w : World) (n : Nat) : Grows w (w.drewN n) := ⟨rfl, rfl, rfl, Nat.le_refl _, fun _ _ => rfl⟩
end Go.Proofs.Ytobhdldlhhigdaa

namespace Go.Proofs.Ytobhdldlhhigdaa
def sumL : List Int → Int
 | [] => 0
 | x :: l => x + sumL l
theorem sum_same (W : Int → Int) : ∀ {o o' : List Int}, o.Nodup → o'.Nodup → (∀ x ∈ o, x ∈ o') → o'.length ≤ o.length → sumI W o = sumI W o'
 | [], o', _, _, _, h => by
  have : o' = [] := List.eq_nil_of_length_eq_zero (by simpa using h)
  subst this
  rfl
 | x :: o, o', hn, hn', h1, h2 => by
  rw [List.nodup_cons] at hn
  have hx := h1 x (by simp)
  rw [sum_erase W hx]
  simp only [sumI]
  congr 1
  refine sum_same W hn.2 (hn'.erase _) (fun y hy => ?_) ?_
  ·have hne : y ≠ x := fun e => hn.1 (e ▸ hy)
   exact (List.mem_erase_of_ne hne).2 (h1 y (by simp [hy]))
  ·rw [List.length_erase_of_mem hx]
   simp only [List.length_cons] at h2
   omega
theorem sum_ids {ns : List Q4} (h : ns.Pairwise fun x y => x.a < y.a) {cs : List Int} (hl : cs.length = ns.length) : sumI (wOf ns cs) (ns.map Q4.a) = sumL cs := by
 have key : ∀ (k : Nat) (ms : List Q4) (ds : List Int), ns.drop k = ms → cs.drop k = ds → ms.length = ds.length → sumI (wOf ns cs) (ms.map Q4.a) = sumL ds := by
  intro k ms
  induction ms generalizing k with
  | nil =>
   intro ds _ _ he
   have : ds = [] := List.eq_nil_of_length_eq_zero (by simpa using he.symm)
   subst this
   rfl
  | cons n ms ih =>
   intro ds h1 h2 he
   cases ds with
   | nil => simp at he
   | cons d ds =>
    have hn : ns[k]? = some n := by rw [← List.head?_drop, h1]; rfl
    have hd : cs[k]? = some d := by rw [← List.head?_drop, h2]; rfl
    have hpl : placeN ns n.a = some k := by
     obtain ⟨hk, hx⟩ := List.getElem?_eq_some_iff.1 hn
     unfold placeN
     rw [List.findIdx?_eq_some_iff_getElem]
     refine ⟨hk, by rw [hx]; simp, fun j hj => ?_⟩
     have := List.pairwise_iff_getElem.1 h j k (by omega) hk hj
     rw [hx] at this
     simp only [beq_iff_eq]
     omega
    simp only [List.map_cons, sumI, sumL]
    rw [ih (k + 1) ds (by rw [← List.tail_drop, h1]; rfl) (by rw [← List.tail_drop, h2]; rfl) (by simpa using he)]
    congr 1
    unfold wOf
    rw [hpl]
    show cs.getD k 0 = d
    rw [List.getD_eq_getElem?_getD, hd]
    rfl
 exact key 0 ns cs (by simp) (by simp) hl.symm
/-- A problem: a valid graph, a cost for each node, some workers. -/
def probB (ns ls : List Q4) (cs : List Int) (wk : Int) : Bool := validG ns ls && okW ns cs && decide (1 ≤ wk) && decide (wk ≤ 8)
theorem prob_iff {ns ls : List Q4} {cs : List Int} {wk : Int} : probB ns ls cs wk = true ↔ validG ns ls = true ∧ okW ns cs = true ∧ 1 ≤ wk ∧ wk ≤ 8 := by
 unfold probB
 simp only [Bool.and_eq_true, decide_eq_true_eq, and_assoc]
theorem okW_len {ns : List Q4} {cs : List Int} (h : okW ns cs = true) : cs.length = ns.length := by
 unfold okW at h
 simp only [Bool.and_eq_true, beq_iff_eq] at h
 exact h.1
theorem order_nodup (ns ls : List Q4) : (orderL ns ls).Nodup := (order_run ns ls).1
theorem order_pre (ns ls : List Q4) : ∀ p i q, orderL ns ls = p ++ i :: q → ∀ k ∈ ls, k.c = i → k.a ∈ p := (order_run ns ls).2.2
theorem valid_asc {ns ls : List Q4} (h : validG ns ls = true) : ns.Pairwise fun x y => x.a < y.a := ((okN_iff ns).1 (valid_parts.1 h).2.2.1).2
theorem order_has {ns ls : List Q4} (h : validG ns ls = true) {n : Q4} (hn : n ∈ ns) : n.a ∈ orderL ns ls := (order_full (valid_asc h)).1 (valid_parts.1 h).2.2.2.2 n hn
theorem ord_len {ns ls : List Q4} (h : validG ns ls = true) : (orderL ns ls).length = ns.length := (valid_parts.1 h).2.2.2.2
theorem link_in {ns ls : List Q4} (h : validG ns ls = true) {k : Q4} (hk : k ∈ ls) : k.c ∈ orderL ns ls ∧ k.a ∈ orderL ns ls := by
 obtain ⟨⟨n, f1⟩, ⟨m, f2⟩⟩ := ends_node (((okK_iff ns ls).1 (valid_parts.1 h).2.2.2.1).1 k hk)
 have g1 := find_some f1
 have g2 := find_some f2
 exact ⟨g2.2 ▸ order_has h g2.1, g1.2 ▸ order_has h g1.1⟩
theorem pr_of {ns ls : List Q4} {cs : List Int} {wk : Nat} (h : probB ns ls cs wk = true) : Pr (wOf ns cs) (orderL ns ls) ls wk := by
 obtain ⟨_, h2, h3, _⟩ := prob_iff.1 h
 exact ⟨fun x => (wb_of h2 x).1, order_nodup ns ls, order_pre ns ls, by omega⟩
theorem dp_G {ns ls : List Q4} {cs : List Int} {wk : Int} (h : probB ns ls cs wk = true) : Dp (wOf ns cs) ls (fun x => bestS (sumsS (wOf ns cs) ls (orderL ns ls)) ls x) :=
 dp_of (order_nodup ns ls) (order_pre ns ls) fun _ hk => (link_in (prob_iff.1 h).1 hk).1
def critG (ns ls : List Q4) (cs : List Int) : Int := if probB ns ls cs 1 = true then critS (wOf ns cs) ls (orderL ns ls) else 0
def boundG (ns ls : List Q4) (cs : List Int) (wk : Int) : Int := if probB ns ls cs wk = true then (sumL cs + (wk - 1) * critS (wOf ns cs) ls (orderL ns ls)) / wk else 0
/-- The schedule. -/
def compG (ns ls : List Q4) (cs : List Int) (wk : Nat) : List Q4 := (runS (wOf ns cs) (orderL ns ls) ls ns.length (2 * ns.length) (startS wk)).l
def validS (ns ls : List Q4) (cs : List Int) (wk : Int) (l : List Q4) : Bool := probB ns ls cs wk && l.length == ns.length && allOk ns ls (wOf ns cs) wk l
theorem prob_one {ns ls : List Q4} {cs : List Int} {wk : Int} (h : probB ns ls cs wk = true) : probB ns ls cs 1 = true := by
 rw [prob_iff] at *
 exact ⟨h.1, h.2.1, by omega, by omega⟩
theorem sum_order {ns ls : List Q4} {cs : List Int} (h : validG ns ls = true) (hw : okW ns cs = true) : sumI (wOf ns cs) (orderL ns ls) = sumL cs := by
 rw [← sum_ids (valid_asc h) (okW_len hw)]
 refine sum_same _ (order_nodup ns ls) (ids_nodup (valid_asc h)) (fun x hx => ?_) (by rw [List.length_map, ord_len h]; exact Nat.le_refl _)
 obtain ⟨n, hn, e⟩ := (order_run ns ls).2.1 x hx
 exact List.mem_map.2 ⟨n, hn, e⟩
theorem comp_inv {ns ls : List Q4} {cs : List Int} {wk : Nat} (h : probB ns ls cs wk = true) :
 SInv (wOf ns cs) (orderL ns ls) ls wk (fun x => bestS (sumsS (wOf ns cs) ls (orderL ns ls)) ls x) (runS (wOf ns cs) (orderL ns ls) ls ns.length (2 * ns.length) (startS wk)) ∧ ns.length ≤ (compG ns ls cs wk).length := by
 have hl := ord_len (prob_iff.1 h).1
 have := run_inv (pr_of h) (dp_G h) (2 * ns.length) (startS wk) inv_start (by unfold muS; simp [startS, hl])
 rw [hl] at this
 exact this
theorem comp_len {ns ls : List Q4} {cs : List Int} {wk : Nat} (h : probB ns ls cs wk = true) : (compG ns ls cs wk).length = ns.length := by
 obtain ⟨h1, h2⟩ := comp_inv h
 refine Nat.le_antisymm ?_ h2
 have := nodup_len (m := orderL ns ls) h1.nd (fun x hx => by
  obtain ⟨u, hu, rfl⟩ := List.mem_map.1 hx
  exact (h1.sl u hu).2.2.2.2)
 rw [List.length_map, ord_len (prob_iff.1 h).1] at this
 exact this
/-- What is made is a schedule. -/
theorem comp_valid {ns ls : List Q4} {cs : List Int} {wk : Nat} (h : probB ns ls cs wk = true) : validS ns ls cs wk (compG ns ls cs wk) = true := by
 unfold validS
 have h2 : allOk ns ls (wOf ns cs) wk (compG ns ls cs wk) = true := inv_ok (pr_of h) (comp_inv h).1 (fun x hx => (order_run ns ls).2.1 x hx)
 rw [h, comp_len h, h2]
 simp
theorem comp_graham {ns ls : List Q4} {cs : List Int} {wk : Nat} (h : probB ns ls cs wk = true) :
 critG ns ls cs ≤ spanL (compG ns ls cs wk) ∧ spanL (compG ns ls cs wk) ≤ boundG ns ls cs wk ∧ (wk = 1 → spanL (compG ns ls cs wk) = sumL cs) := by
 obtain ⟨h1, h2⟩ := comp_inv h
 have hp := prob_iff.1 h
 obtain ⟨g1, g2, g3⟩ := graham (pr_of h) h1 (by rw [ord_len hp.1]; exact h2)
 rw [sum_order hp.1 hp.2.1] at g2 g3
 refine ⟨?_, ?_, g3⟩
 ·unfold critG
  rw [if_pos (prob_one h)]
  exact g1
 ·unfold boundG
  rw [if_pos h]
  rw [Int.le_ediv_iff_mul_le (by omega), Int.mul_comm]
  exact g2
theorem bound_one {ns ls : List Q4} {cs : List Int} (h : probB ns ls cs 1 = true) : boundG ns ls cs 1 = sumL cs := by
 unfold boundG
 rw [if_pos h]
 simp
theorem sumL_nonneg {ns : List Q4} {cs : List Int} (h : okW ns cs = true) : 0 ≤ sumL cs := by
 have hall : ∀ x ∈ cs, 0 ≤ x := by
  unfold okW at h
  simp only [Bool.and_eq_true, Bool.not_eq_true', List.any_eq_false, badW, Bool.or_eq_true, decide_eq_true_eq] at h
  intro x hx
  have := h.2 x hx
  omega
 clear h
 induction cs with
 | nil => simp [sumL]
 | cons x cs ih =>
  have h1 := hall x (by simp)
  have h2 := ih fun y hy => hall y (by simp [hy])
  simp only [sumL]
  omega
theorem bound_nonneg (ns ls : List Q4) (cs : List Int) (wk : Int) : 0 ≤ boundG ns ls cs wk := by
 unfold boundG
 split
 ·rename_i h
  obtain ⟨_, h2, h3, _⟩ := prob_iff.1 h
  have h4 := sumL_nonneg h2
  have h5 : 0 ≤ critS (wOf ns cs) ls (orderL ns ls) := max_nonneg _ _
  have h6 := Int.mul_nonneg (show (0 : Int) ≤ wk - 1 by omega) h5
  exact Int.ediv_nonneg (by omega) (by omega)
 ·exact Int.le_refl _
/-- The bound of a graph with less in it is no greater. -/
theorem bound_le {ns ls ns' ls' : List Q4} {cs cs' : List Int} {wk : Int} (h : probB ns ls cs wk = true) (hn : ∀ n ∈ ns', n ∈ ns) (hl : ∀ k ∈ ls', k ∈ ls) (hW : ∀ n ∈ ns', wOf ns' cs' n.a ≤ wOf ns cs n.a) (hs : sumL cs' ≤ sumL cs) :
 boundG ns' ls' cs' wk ≤ boundG ns ls cs wk := by
 by_cases h' : probB ns' ls' cs' wk = true
 ·obtain ⟨v, _, h3, _⟩ := prob_iff.1 h
  have hc : critS (wOf ns' cs') ls' (orderL ns' ls') ≤ critS (wOf ns cs) ls (orderL ns ls) := by
   refine crit_le (order_nodup ns ls) (order_pre ns ls) (order_nodup ns' ls') (order_pre ns' ls') (fun x hx => ?_) hl (fun x hx => ?_)
   ·obtain ⟨n, hn', e⟩ := (order_run ns' ls').2.1 x hx
    exact e ▸ order_has v (hn n hn')
   ·obtain ⟨n, hn', e⟩ := (order_run ns' ls').2.1 x hx
    exact e ▸ hW n hn'
  unfold boundG
  rw [if_pos h, if_pos h']
  refine Int.ediv_le_ediv (by omega) ?_
  have := Int.mul_le_mul_of_nonneg_left hc (show (0 : Int) ≤ wk - 1 by omega)
  omega
 ·have : boundG ns' ls' cs' wk = 0 := by unfold boundG; rw [if_neg h']
  rw [this]
  exact bound_nonneg _ _ _ _
end Go.Proofs.Ytobhdldlhhigdaa

namespace Go.Proofs.Ytobhdldlhhigdaa
structure CSt (ns ls : List Q4) (cs : List Int) (wk : Nat) (s : St) : Prop where
 si : SInv (wOf ns cs) (orderL ns ls) ls wk (fun x => bestS (sumsS (wOf ns cs) ls (orderL ns ls)) ls x) s
 tb : TB 1099511627776 s
 run : ∃ k, muS ns.length s ≤ k ∧ (runS (wOf ns cs) (orderL ns ls) ls ns.length k s).l = compG ns ls cs wk
theorem cst_start {ns ls : List Q4} {cs : List Int} {wk : Nat} : CSt ns ls cs wk (startS wk) :=
 ⟨inv_start, tb_start _ _, 2 * ns.length, by unfold muS; simp [startS], rfl⟩
theorem cst_len {ns ls : List Q4} {cs : List Int} {wk : Nat} {s : St} (h : probB ns ls cs wk = true) (hs : CSt ns ls cs wk s) : s.l.length ≤ ns.length ∧ ns.length ≤ 64 := by
 have := nodup_len (m := orderL ns ls) hs.si.nd (fun x hx => by
  obtain ⟨u, hu, rfl⟩ := List.mem_map.1 hx
  exact (hs.si.sl u hu).2.2.2.2)
 rw [List.length_map, ord_len (prob_iff.1 h).1] at this
 exact ⟨this, (valid_parts.1 (prob_iff.1 h).1).1⟩
theorem step_yes {W : Int → Int} {order : List Int} {ls : List Q4} {s : St} {id : Int} {w : Nat} (hn : nextS order ls s.l s.t = some id) (hf : freeS s.busy s.t = some w) : stepS W order ls s = ⟨s.l ++ [⟨id, w, s.t, s.t + W id⟩], s.busy.set w (s.t + W id), s.t⟩ := by
 unfold stepS
 rw [hn, hf]
theorem step_no {W : Int → Int} {order : List Int} {ls : List Q4} {s : St} (h : nextS order ls s.l s.t = none ∨ freeS s.busy s.t = none) : stepS W order ls s = ⟨s.l, s.busy, laterS s.l s.t⟩ := by
 unfold stepS
 cases hn : nextS order ls s.l s.t with
 | none => rfl
 | some id =>
  rcases h with h | h
  ·rw [hn] at h; cases h
  ·rw [h]
theorem cst_step {ns ls : List Q4} {cs : List Int} {wk : Nat} {s : St} (h : probB ns ls cs wk = true) (hs : CSt ns ls cs wk s) (hl : s.l.length < ns.length) :
 CSt ns ls cs wk (stepS (wOf ns cs) (orderL ns ls) ls s) ∧ muS ns.length (stepS (wOf ns cs) (orderL ns ls) ls s) < muS ns.length s := by
 have ho := ord_len (prob_iff.1 h).1
 obtain ⟨h1, h2⟩ := step_inv (pr_of h) (dp_G h) hs.si (by omega)
 rw [ho] at h2
 refine ⟨⟨h1, ?_, ?_⟩, h2⟩
 ·have hW : ∀ x, 0 ≤ wOf ns cs x ∧ wOf ns cs x ≤ 1099511627776 := fun x => wb_of (prob_iff.1 h).2.1 x
  cases hn : nextS (orderL ns ls) ls s.l s.t with
  | none =>
   rw [step_no (.inl hn)]
   obtain ⟨_, _, u, hu, _, e⟩ := inv_wait (pr_of h) hs.si (by omega) (.inl hn)
   exact tb_wait hs.tb ⟨u, hu, e⟩
  | some id =>
   cases hf : freeS s.busy s.t with
   | none =>
    rw [step_no (.inr hf)]
    obtain ⟨_, _, u, hu, _, e⟩ := inv_wait (pr_of h) hs.si (by omega) (.inr hf)
    exact tb_wait hs.tb ⟨u, hu, e⟩
   | some w =>
    rw [step_yes hn hf]
    exact tb_add hW hs.tb id w
 ·obtain ⟨k, hk, e⟩ := hs.run
  cases k with
  | zero => omega
  | succ k =>
   refine ⟨k, by omega, ?_⟩
   rw [← e]
   show _ = (runS _ _ _ _ (k + 1) s).l
   rw [runS, if_pos hl]
theorem cst_end {ns ls : List Q4} {cs : List Int} {wk : Nat} {s : St} (hs : CSt ns ls cs wk s) (hl : ns.length ≤ s.l.length) : s.l = compG ns ls cs wk := by
 obtain ⟨k, _, e⟩ := hs.run
 rw [← e]
 cases k with
 | zero => rfl
 | succ k => rw [runS, if_neg (by omega)]
theorem cst_time {ns ls : List Q4} {cs : List Int} {wk : Nat} {s : St} (h : probB ns ls cs wk = true) (hs : CSt ns ls cs wk s) : 0 ≤ s.t ∧ s.t ≤ 70368744177664 := by
 obtain ⟨h1, h2⟩ := cst_len h hs
 obtain ⟨h3, h4, _⟩ := hs.tb
 refine ⟨h3, ?_⟩
 have : (s.l.length : Int) * 1099511627776 ≤ 64 * 1099511627776 := Int.mul_le_mul_of_nonneg_right (by omega) (by omega)
 omega
theorem cst_wait {ns ls : List Q4} {cs : List Int} {wk : Nat} {s : St} (h : probB ns ls cs wk = true) (hs : CSt ns ls cs wk s) (hl : s.l.length < ns.length) (hno : nextS (orderL ns ls) ls s.l s.t = none ∨ freeS s.busy s.t = none) :
 CSt ns ls cs wk ⟨s.l, s.busy, laterS s.l s.t⟩ ∧ s.t < laterS s.l s.t := by
 have h1 := (cst_step h hs hl).1
 rw [step_no hno] at h1
 have ho := ord_len (prob_iff.1 h).1
 exact ⟨h1, (inv_wait (pr_of h) hs.si (by omega) hno).2.1⟩
theorem cst_add {ns ls : List Q4} {cs : List Int} {wk : Nat} {s : St} (h : probB ns ls cs wk = true) (hs : CSt ns ls cs wk s) (hl : s.l.length < ns.length) {id : Int} {w : Nat} (hn : nextS (orderL ns ls) ls s.l s.t = some id) (hf : freeS s.busy s.t = some w) :
 CSt ns ls cs wk ⟨s.l ++ [⟨id, w, s.t, s.t + wOf ns cs id⟩], s.busy.set w (s.t + wOf ns cs id), s.t⟩ := by
 have h1 := (cst_step h hs hl).1
 rw [step_yes hn hf] at h1
 exact h1
/-- What a round of the loop meets. -/
theorem cst_pick {ns ls : List Q4} {cs : List Int} {wk : Nat} {s : St} (h : probB ns ls cs wk = true) {id : Int} (hn : nextS (orderL ns ls) ls s.l s.t = some id) : ∃ k n, placeN ns id = some k ∧ ns[k]? = some n ∧ n.a = id ∧ k < ns.length ∧ 1 ≤ id ∧ cs[k]? = some (wOf ns cs id) ∧ 0 ≤ wOf ns cs id ∧ wOf ns cs id ≤ 1099511627776 := by
 obtain ⟨hm, _⟩ := next_at hn
 obtain ⟨n, hn1, e⟩ := (order_run ns ls).2.1 id hm
 have hp := prob_iff.1 h
 have hpl := place_in hn1
 rw [e] at hpl
 obtain ⟨k, h1⟩ := Option.isSome_iff_exists.1 hpl
 obtain ⟨m, h3, h4⟩ := placeN_some h1
 have h5 : k < ns.length := (List.getElem?_eq_some_iff.1 h3).1
 have hl := okW_len hp.2.1
 have hw := wb_of hp.2.1 id
 refine ⟨k, m, h1, h3, h4, h5, ?_, ?_, hw⟩
 ·have h9 := ((okN_iff ns).1 (valid_parts.1 hp.1).2.2.1).1 m (List.mem_of_getElem? h3)
  unfold fineN at h9
  simp only [Bool.and_eq_true, decide_eq_true_eq] at h9
  omega
 ·unfold wOf
  rw [h1]
  show cs[k]? = some (cs.getD k 0)
  rw [List.getD_eq_getElem?_getD, List.getElem?_eq_getElem (by omega)]
  rfl
end Go.Proofs.Ytobhdldlhhigdaa

namespace Go.Proofs.Ytobhdldlhhigdaa
open Go.RowKit
section
variable {P : Program} {ops : Array Oper} {S : Ran → (Nat → Value) → World → Prop} {md : Region.Mode} {n N : Nat} {a0 : Act}
set_option maxRecDepth 100000 in
theorem listed_lt {listed : Array Bool} (hinv : HeadInv md ops n listed) {k : Nat} {o : Oper} (ho : ops[k]? = some o) (hl : listed.getD k false = true) : k < n := by
 rcases Nat.lt_or_ge k n with h | h
 ·exact h
 ·have := getD_both (hinv.tail k h (lt_of_get ho))
  rw [hl] at this
  cases this
set_option maxRecDepth 100000 in
theorem gent_agree (ok : MixOk md ops n N []) (hN : a0.tmps.size = N) {vs : Nat → Value} {listed : Array Bool} {a : Act} {w : World} (hinv : HeadInv md ops n listed) (inv : InvG S ops vs a0 listed a w) {i : Nat} {o : Oper} (hi : i < n) (ho : ops[i]? = some o) (hr : i ∈ Region.ready md ops listed) :
 ∀ t ∈ o.looksAt ops, (fin [] vs (ops.toList.take i) 0 a0).tmps[t]? = a.tmps[t]? := by
 intro t ht
 by_cases hex : ∃ (k : Nat) (o' : Oper), k < n ∧ ops[k]? = some o' ∧ o'.dst = some t
 ·obtain ⟨k, o', hk, ho', hd⟩ := hex
  obtain ⟨h1, _, h3⟩ := ok.look i o k o' t hi hk ho ho' hd ht
  have hlisted : listed.getD k false = true := by
   obtain ⟨oj, hoj, e, he, hb, hon⟩ := Region.waitsFor_spec h3
   obtain ⟨_, oi, hoi, hall⟩ := mem_ready.1 hr
   have : oj = oi := Option.some.inj (hoj.symm.trans hoi)
   subst this
   have := hall e he hb
   rwa [hon] at this
  have e1 := inv.calm k o' t ho' hd hlisted
  have hlt : t < a0.tmps.size := by rw [hN]; exact ok.bd k o' t hk ho' hd
  have e2 := fin_at (fl := []) (val := vs) (ops.toList.take i) 0 a0 k o' (take_get h1 ho') hd rfl hlt (by
   intro j oj hj hne hdj
   obtain ⟨hji, hoj⟩ := of_take_get hj
   exact ok.ne j oj k o' t (by omega) hk hoj ho' (Ne.symm hne) hdj hd)
  rw [Nat.zero_add] at e2
  rw [e1, e2]
 ·have e1 := inv.other t fun k o' ho' hl hd => hex ⟨k, o', listed_lt hinv ho' hl, ho', hd⟩
  have e2 := fin_other (fl := []) (val := vs) (ops.toList.take i) 0 a0 fun j oj hj _ hd => by
   obtain ⟨hji, hoj⟩ := of_take_get hj
   exact hex ⟨j, oj, by omega, hoj, hd⟩
  rw [e1, e2]
set_option maxRecDepth 100000 in
theorem inv_stepT (ok : MixOk md ops n N []) (hN : a0.tmps.size = N) {vs : Nat → Value} {listed : Array Bool} {a : Act} {w w' : World} (hinv : HeadInv md ops n listed) (inv : InvG S ops vs a0 listed a w) {i : Nat} {o : Oper} (hi : i < n) (ho : ops[i]? = some o) (hl : i < listed.size) {u : Value}
 (hs : S (ranOf (listed.setIfInBounds i true)) (setV vs i u) w') : InvG S ops (setV vs i u) a0 (listed.setIfInBounds i true) (a.put o.dst u) w' := by
 have key : ∀ k o' t, k < n → ops[k]? = some o' → o'.dst = some t → k ≠ i → (a.put o.dst u).tmps[t]? = a.tmps[t]? := by
  intro k o' t hk ho' hd hne
  exact put_get_ne fun e => ok.ne i o k o' t hi hk ho ho' hne e hd
 refine ⟨hs, (put_defers' _ _ _).trans inv.defers, (put_size _ _ _).trans inv.size, ?_, ?_⟩
 ·intro k o' t ho' hd hlk
  by_cases hki : k = i
  ·subst hki
   have : o' = o := Option.some.inj (ho'.symm.trans ho)
   subst this
   rw [hd, put_get_eq (by rw [inv.size, hN]; exact ok.bd k o' t hi ho' hd)]
   simp [setV]
  ·have hlk' : listed.getD k false = true := by rwa [getD_set_ne false (Ne.symm hki)] at hlk
   rw [key k o' t (listed_lt hinv ho' hlk') ho' hd hki, inv.calm k o' t ho' hd hlk']
   simp [setV, hki]
 ·intro t ht
  have h1 : o.dst ≠ some t := ht i o ho (by simp [hl])
  rw [put_get_ne h1]
  exact inv.other t fun k o' ho' hlk => ht k o' ho' (getD_set_true hlk)
set_option maxRecDepth 100000 in
theorem gent_run {Q : Exit → Act → World → Prop} (ok : MixOk md ops n N []) (hN : a0.tmps.size = N)
 (good : ∀ k o, k < n → ops[k]? = some o → ∀ vs L w, At md ops k L → S L vs w → GenOp P ops S k o (fin [] vs (ops.toList.take k) 0 a0) vs L w) (g : Nat)
 (H : ∀ listed a w vs, HeadInv md ops n listed → (∀ i, i < n → listed.getD i false = true) → InvG S ops vs a0 listed a w → wpAny P md ops Q g listed a w) :
 ∀ (f : Nat) (listed : Array Bool) (a : Act) (w : World) (vs : Nat → Value), ((List.range n).countP fun i => !listed.getD i false) ≤ f → HeadInv md ops n listed → InvG S ops vs a0 listed a w →
  wpAny P md ops Q (f + g) listed a w := by
 intro f
 induction f with
 | zero =>
  intro listed a w vs hc hinv inv
  rw [Nat.zero_add]
  refine H listed a w vs hinv (fun i hi => ?_) inv
  have h0 : ((List.range n).countP fun i => !listed.getD i false) = 0 := by omega
  rw [List.countP_eq_zero] at h0
  have := h0 i (List.mem_range.2 hi)
  simpa using this
 | succ f ih =>
  intro listed a w vs hc hinv inv
  by_cases hall : ∀ i, i < n → listed.getD i false = true
  ·exact wpAny_fuel g listed a w (H listed a w vs hinv hall inv) (f + 1)
  ·have hex : ∃ i, i < n ∧ listed.getD i false = false := by
    apply Classical.byContradiction
    intro hno
    exact hall fun i hi => by
     cases h : listed.getD i false
     ·exact absurd ⟨i, hi, h⟩ hno
     ·rfl
   obtain ⟨i0, hi0, hl0⟩ := hex
   have hsz : ∀ i, i < n → i < listed.size := fun i hi => by rw [hinv.size]; have := ok.le; omega
   have hready : Region.ready md ops listed ≠ [] := by
    have : ∀ d i, i ≤ d → i < n → listed.getD i false = false → ∃ j, j ∈ Region.ready md ops listed := by
     intro d
     induction d with
     | zero =>
      intro i hid hi hl
      obtain ⟨o, ho⟩ : ∃ o, ops[i]? = some o := ⟨ops[i]'(by have := ok.le; omega), by simp [show i < ops.size by have := ok.le; omega]⟩
      refine ⟨i, mem_ready.2 ⟨getD_in (hsz i hi) hl, o, ho, fun e he hb => ?_⟩⟩
      have := ok.back i o hi ho e he hb
      omega
     | succ d ihd =>
      intro i hid hi hl
      obtain ⟨o, ho⟩ : ∃ o, ops[i]? = some o := ⟨ops[i]'(by have := ok.le; omega), by simp [show i < ops.size by have := ok.le; omega]⟩
      by_cases hw : ∀ e ∈ o.after, Region.binds md e = true → listed.getD e.on false = true
      ·exact ⟨i, mem_ready.2 ⟨getD_in (hsz i hi) hl, o, ho, hw⟩⟩
      ·have : ∃ e ∈ o.after, Region.binds md e = true ∧ listed.getD e.on false = false := by
        apply Classical.byContradiction
        intro hno
        exact hw fun e he hb => by
         cases h : listed.getD e.on false
         ·exact absurd ⟨e, he, hb, h⟩ hno
         ·rfl
       obtain ⟨e, he, hb, hle⟩ := this
       have hlt := ok.back i o hi ho e he hb
       exact ihd e.on (by omega) (by omega) hle
    obtain ⟨j, hj⟩ := this i0 i0 (Nat.le_refl _) hi0 hl0
    intro h0
    rw [h0] at hj
    cases hj
   rw [show f + 1 + g = (f + g) + 1 by omega]
   refine ⟨fun h0 => absurd h0 hready, fun i hir => ?_⟩
   have hin : i < n := by
    rcases Nat.lt_or_ge i n with h | h
    ·exact h
    ·exfalso
     obtain ⟨_, oi, hoi, _⟩ := mem_ready.1 hir
     have hlt : i < ops.size := (Array.getElem?_eq_some_iff.1 hoi).1
     rcases ok.tail with ht | ⟨ht, hs, hch⟩
     ·omega
     ·exact tail_waits hs hch ht hinv _ i0 rfl hi0 (getD_in (hsz i0 hi0) hl0) i h hir
   obtain ⟨hun, o, ho, hwaits⟩ := mem_ready.1 hir
   have hunf : listed.getD i false = false := getD_both hun
   have hcnt : ((List.range n).countP fun j => !(listed.setIfInBounds i true).getD j false) ≤ f := by
    have := countP_lt (p := fun j => !listed.getD j false) (q := fun j => !(listed.setIfInBounds i true).getD j false) (List.range n) (List.mem_range.2 hin)
     (fun j _ hj => by
       simp only [Bool.not_eq_true'] at hj ⊢
       cases h : listed.getD j false
       ·rfl
       ·rw [getD_set_true h] at hj; cases hj) (by simp only [hunf, Bool.not_false]) (by simp [hsz i hin])
    omega
   have hinv' := hinv.set hir hin
   have hat : At md ops i (ranOf listed) := ⟨hunf, needs_ran hinv _ i o ho hwaits⟩
   have hag := gent_agree ok hN hinv inv hin ho hir
   have hg := good i o hin ho vs (ranOf listed) w hat inv.s
   have hs : ∀ cs b, o.op ≠ .select cs b := fun cs b => Region.noSelect_spec ok.sel i o cs b ho
   unfold GenOp at hg
   rw [run_agree (ops := ops) hs hag, wanted_agree hag] at hg
   refine gen_wpOp ho hg fun u w' hs' => ih _ _ _ _ hcnt hinv' (inv_stepT ok hN hinv inv hin ho (hsz i hin) ?_)
   rw [ranOf_set (hsz i hin)]
   exact hs'
end
def GenT (P : Program) (full : List Oper) (n : Nat) (S : Ran → (Nat → Value) → World → Prop) (E : Act → World → Prop) : List Oper → Nat → ((Nat → Value) → Act) → Prop
 | [], _, A => ∀ vs L w', (∀ k, k < n → L k = true) → S L vs w' → E (A vs) w'
 | o :: l, k, A => (∀ vs L w, At .any full.toArray k L → S L vs w → GenOp P full.toArray S k o (A vs) vs L w) ∧ GenT P full n S E l (k + 1) (fun vs => (A vs).put o.dst (vs k))
set_option maxRecDepth 100000 in
theorem genT_out {P : Program} {full : List Oper} {n : Nat} {S : Ran → (Nat → Value) → World → Prop} {E : Act → World → Prop} : ∀ (l : List Oper) (k : Nat) (A : (Nat → Value) → Act), GenT P full n S E l k A →
 (∀ j o, l[j]? = some o → ∀ vs L w, At .any full.toArray (k + j) L → S L vs w → GenOp P full.toArray S (k + j) o (fin [] vs (l.take j) k (A vs)) vs L w) ∧ ∀ vs L w', (∀ k, k < n → L k = true) → S L vs w' → E (fin [] vs l k (A vs)) w'
 | [], _, _, h => ⟨fun j o hj => by simp at hj, h⟩
 | o :: l, k, A, h => by
  obtain ⟨h1, h2⟩ := genT_out l (k + 1) _ h.2
  refine ⟨fun j o' hj => ?_, h2⟩
  cases j with
  | zero =>
   simp only [List.getElem?_cons_zero, Option.some.injEq] at hj
   subst hj
   exact h.1
  | succ j =>
   have := h1 j o' (by simpa using hj)
   rw [show k + 1 + j = k + (j + 1) by omega] at this
   exact this
set_option maxRecDepth 100000 in
theorem wp_region_genT {P : Program} {id : Nat} {Q : Exit → Act → World → Prop} {a : Act} {w : World} {l : List Oper} (S : Ran → (Nat → Value) → World → Prop) (n N : Nat) (hm : P.follows .mixedOrders = true) (hB : mixB .any l.toArray n N [] = true)
 (hN : a.tmps.size = N) (h0 : S (fun _ => false) (fun _ => undef) w.drew)
 (h : GenT P l n S (fun a' w' => wpList P l.toArray Q (l.drop n) a' w') (l.take n) 0 (fun _ => a)) : (Code.region id l.toArray true).wp P Q a w := by
 have ok := mixOk_of hB
 have hle : n ≤ l.length := by simpa using ok.le
 obtain ⟨h1, h2⟩ := genT_out (l.take n) 0 _ h
 refine wp_region_any hm ?_
 have inv0 : HeadInv .any l.toArray n (Array.replicate l.toArray.size false) :=
  ⟨by simp, fun j oj _ hl => (by rw [getD_replicate_false] at hl; cases hl), fun t _ ht => getD_in (by simpa using ht) (getD_replicate_false _ _)⟩
 have key := gent_run (md := .any) (Q := Q) (ops := l.toArray) (S := S) (a0 := a) ok hN (fun k o hk ho vs L w' hL hS => by
  have := h1 k o (by rw [List.getElem?_take, if_pos hk]; simpa using ho) vs L w'
  rw [Nat.zero_add, List.take_take, Nat.min_eq_left (by omega)] at this
  exact this hL hS) (l.length - n) (by
  intro listed b w' vs hinv hall inv
  refine (show l.length - n = (l.drop n).length by simp) ▸ wpAny_of_seq (l.drop n) n listed b w' (fun j => by simp [List.getElem?_drop]) ?_ ?_
  ·have hls : listed = (Array.replicate n true) ++ (Array.replicate (l.length - n) false) := by
    refine Array.ext (by simp [hinv.size]; omega) fun i h1 h2 => ?_
    have hsz : i < l.length := by have := hinv.size; simp at this; omega
    by_cases hin : i < n
    ·have := hall i hin
     rw [Array.getElem_append_left (by simpa using hin)]
     simpa [h1] using this
    ·have := hinv.tail i (by omega) (by simpa using hsz)
     rw [Array.getElem_append_right (by simp; omega)]
     simpa [h1] using this
   have := ok.seq
   rw [hls]
   simpa using this
  ·have he : b = fin [] vs (l.take n) 0 a := by
    refine act_ext (inv.defers.trans (fin_defers _ _ _).symm) (inv.size.trans (fin_size _ _ _).symm) fun t => ?_
    by_cases hex : ∃ (k : Nat) (o' : Oper), k < n ∧ l.toArray[k]? = some o' ∧ o'.dst = some t
    ·obtain ⟨k, o', hk, ho', hd⟩ := hex
     have e1 := inv.calm k o' t ho' hd (hall k hk)
     have e2 := fin_at (fl := []) (val := vs) (l.take n) 0 a k o' (by rw [List.getElem?_take, if_pos hk]; simpa using ho') hd rfl (by rw [hN]; exact ok.bd k o' t hk ho' hd) (by
      intro j oj hj hne hdj
      rw [List.getElem?_take] at hj
      split at hj
      ·rename_i hjn
       exact ok.ne j oj k o' t hjn hk (by simpa using hj) ho' (Ne.symm hne) hdj hd
      ·cases hj)
     rw [Nat.zero_add] at e2
     rw [e1, e2]
    ·have e1 := inv.other t fun k o' ho' hl hd => hex ⟨k, o', listed_lt hinv ho' hl, ho', hd⟩
     have e2 := fin_other (fl := []) (val := vs) (t := t) (l.take n) 0 a fun j oj hj _ hd => by
      rw [List.getElem?_take] at hj
      split at hj
      ·rename_i hjn
       exact hex ⟨j, oj, hjn, by simpa using hj, hd⟩
      ·cases hj
     rw [e1, e2]
   rw [he]
   exact h2 vs (ranOf listed) w' hall inv.s)
 have := key n (Array.replicate l.toArray.size false) a w.drew (fun _ => undef) (by
  have := List.countP_le_length (p := fun i => !(Array.replicate l.toArray.size false).getD i false) (l := List.range n)
  simpa using this) inv0 ⟨by rw [show ranOf (Array.replicate l.toArray.size false) = fun _ => false from funext fun k => getD_replicate_false _ _]; exact h0, rfl, rfl, fun k o t _ _ hl => (by rw [getD_replicate_false] at hl; cases hl), fun t _ => rfl⟩
 rw [show n + (l.length - n) = l.toArray.size by simp; omega] at this
 exact this
section
variable {P : Program} {full l : List Oper} {S : Ran → (Nat → Value) → World → Prop} {E : Act → World → Prop} {o : Oper} {k n : Nat} {A A' : (Nat → Value) → Act}
set_option maxRecDepth 100000 in
theorem gent_cons (hc : ∀ vs L w, At .any full.toArray k L → S L vs w → GenOp P full.toArray S k o (A vs) vs L w) (hA : ∀ vs, (A vs).put o.dst (vs k) = A' vs) (h : GenT P full n S E l (k + 1) A') : GenT P full n S E (o :: l) k A := by
 obtain rfl : (fun vs => (A vs).put o.dst (vs k)) = A' := funext hA
 exact ⟨hc, h⟩
set_option maxRecDepth 100000 in
theorem gent_consR (hc : ∀ vs L w, At .any full.toArray k L → S L vs w → GenOp P full.toArray S k o (A vs) vs L w) (h : GenT P full n S E l (k + 1) A') (hA : ∀ vs, (A vs).put o.dst (vs k) = A' vs := by intro vs; simp only [Act.put, List.setIfInBounds_toArray, List.set_cons_succ, List.set_cons_zero]; rfl) : GenT P full n S E (o :: l) k A := gent_cons hc hA h
set_option maxRecDepth 100000 in
theorem gent_nil (h : ∀ vs L w', (∀ k, k < n → L k = true) → S L vs w' → E (A vs) w') : GenT P full n S E [] k A := h
end
end Go.Proofs.Ytobhdldlhhigdaa

namespace Go.Proofs.Ytobhdldlhhigdaa
open Go.RowKit Go.Maps
set_option maxRecDepth 100000 in
theorem qcells_drop (l : List Q4) (k : Nat) : qcells (l.drop k) = (qcells l).drop (k * 4) := by
 induction k generalizing l with
 | zero => simp
 | succ k ih =>
  cases l with
  | nil => simp [qcells]
  | cons x l =>
   rw [List.drop_succ_cons, ih, show (k + 1) * 4 = 4 + k * 4 by omega, ← List.drop_drop]
   rfl
set_option maxRecDepth 100000 in
theorem qs_drop {w : World} {A : Option Addr} {l : List Q4} (h : Qs w A l) {k cap : Nat} (hk : k ≤ l.length) (hc : l.length ≤ cap) : Qs w (if cap = k then A else A.map (fun x => x.add (k * 4))) (l.drop k) := by
 have := Reads.cut h hk hc
 unfold Qs
 rw [List.length_drop, qcells_drop]
 exact this
section
variable {o : Oper} {ev : Operand → Value} {w : World} {T : Value → World → Prop}
set_option maxRecDepth 100000 in
theorem gr_append_q {e t : TypeId} (ht : Try.prog.underlying t = some (.slice e)) (hi : ∃ i : TypeInfo, Try.prog.info? e = some i ∧ i.size = 4 ∧ i.bytes = 32 ∧ i.zero = some (.agg #[.int .i64 0, .int .i64 0, .int .i64 0, .int .i64 0]) ∧ (Value.agg #[.int .i64 0, .int .i64 0, .int .i64 0, .int .i64 0]).cells.size = 4)
 (s x : Operand) (ho : o.op = .call { callee := .builtin .append, args := #[s, x], argTypes := #[t, t] })
 {base : Nat} {v : Value} {l m : List Q4} {A : Option Addr} {c n : Nat} (hn : n = m.length) (hs : ev s = v) (hown : w.ownsRow base e 4 v l.length (qcells l)) (hx : ev x = .slice A n c) (hr : Qs w A m) (hlen : l.length + m.length ≤ 1000000) (hbase : base ≤ w.heap.size)
 (h : ∀ v' w', w'.ownsRow base e 4 v' (l ++ m).length (qcells (l ++ m)) → w.grownBy w' v.ownBlock → T v' w') : genR Try.prog T ((execOp ev o).run Try.prog w) := by
 obtain ⟨i0, hi0, hi1, hi2, hi3, hi4⟩ := hi
 subst hn
 obtain ⟨v', w', hrun, h2, h3, h4⟩ := run_append_any (P := Try.prog) w base t o.type e i0 _ 4 32 ht hi0 hi3 hi1 hi2 hi4 (by omega) v l.length (qcells l) hown w.heap.size A m.length c (qcells m) hr (qcells_one m) (by simp only [maxLen]; omega) (by omega) hbase
 unfold execOp
 simp only [ho, resolve, invoke, builtin, Sem.run_bind, Sem.run_pure, Result.andThen_ok, List.map_toArray, List.map_cons, List.map_nil, hs, hx, hrun]
 refine h v' w' ?_ h3
 rw [qcells_append, List.length_append]
 exact h2
set_option maxRecDepth 100000 in
theorem gr_append_node (s x : Operand) (ho : o.op = .call { callee := .builtin .append, args := #[s, x], argTypes := #[23, 23] })
 {base : Nat} {v : Value} {l m : List Q4} {A : Option Addr} {c n : Nat} (hn : n = m.length) (hs : ev s = v) (hown : OwnN w base v l) (hx : ev x = .slice A n c) (hr : Qs w A m) (hlen : l.length + m.length ≤ 1000000) (hbase : base ≤ w.heap.size)
 (h : ∀ v' w', OwnN w' base v' (l ++ m) → w.grownBy w' v.ownBlock → T v' w') : genR Try.prog T ((execOp ev o).run Try.prog w) := gr_append_q Try.underlying23 qinfo_n s x ho hn hs hown hx hr hlen hbase h
set_option maxRecDepth 100000 in
theorem gr_append_link (s x : Operand) (ho : o.op = .call { callee := .builtin .append, args := #[s, x], argTypes := #[24, 24] })
 {base : Nat} {v : Value} {l m : List Q4} {A : Option Addr} {c n : Nat} (hn : n = m.length) (hs : ev s = v) (hown : OwnL w base v l) (hx : ev x = .slice A n c) (hr : Qs w A m) (hlen : l.length + m.length ≤ 1000000) (hbase : base ≤ w.heap.size)
 (h : ∀ v' w', OwnL w' base v' (l ++ m) → w.grownBy w' v.ownBlock → T v' w') : genR Try.prog T ((execOp ev o).run Try.prog w) := gr_append_q Try.underlying24 qinfo_l s x ho hn hs hown hx hr hlen hbase h
end
set_option maxRecDepth 100000 in
theorem wpList_append_node {ops : Array Oper} {rest : List Oper} {o : Oper} {a : Act} {w : World} {Q : Exit → Act → World → Prop} (hgd : o.guard = none) (s x : Operand) (ho : o.op = .call { callee := .builtin .append, args := #[s, x], argTypes := #[23, 23] })
 {base : Nat} {v : Value} {l m : List Q4} {A : Option Addr} {c n : Nat} (hn : n = m.length) (hs : a.eval s = v) (hown : OwnN w base v l) (hx : a.eval x = .slice A n c) (hr : Qs w A m) (hlen : l.length + m.length ≤ 1000000) (hbase : base ≤ w.heap.size)
 (h : ∀ v' w', OwnN w' base v' (l ++ m) → w.grownBy w' v.ownBlock → (v'.ownBlock = v.ownBlock ∨ v'.ownBlock = some w.heap.size) → wpList Try.prog ops Q rest (a.put o.dst v') w') : wpList Try.prog ops Q (o :: rest) a w := by
 obtain ⟨i0, hi0, hi1, hi2, hi3, hi4⟩ := qinfo_n
 subst hn
 refine wpList_append_any w hgd s x 23 ho base 46 i0 _ 4 32 Try.underlying23 hi0 hi3 hi1 hi2 hi4 (by omega) v l.length (qcells l) hs hown w.heap.size A m.length c (qcells m) hx hr (qcells_one m) (by simp only [maxLen]; omega) (by omega) hbase fun v' w' h1 h2 h3 => h v' w' ?_ h2 h3
 unfold OwnN
 rw [qcells_append, List.length_append]
 exact h1
set_option maxRecDepth 100000 in
theorem OwnN.mono {w : World} {base base' : Nat} {v : Value} {l : List Q4} (h : OwnN w base v l) (hb : base' ≤ base) : OwnN w base' v l := ⟨h.1, h.2.imp id fun ⟨g, cap, cur, e, hg, r⟩ => ⟨g, cap, cur, e, by omega, r⟩⟩
set_option maxRecDepth 100000 in
theorem OwnN.put {w : World} {base g : Nat} {v : Value} {l : List Q4} {t : TypeId} {cs : Array Value} (h : OwnN w base v l) (k : Blk w g t cs) (i : Nat) (u : Value) (hne : 46 ≠ t := by decide) : OwnN (w.setCell ⟨g, i, none⟩ u) base v l := by
 have hgr : w.grownBy (w.setCell ⟨g, i, none⟩ u) (some g) := ⟨rfl, rfl, rfl, by simp [World.setCell], fun j _ hn => Below.heap_setCell w ⟨g, i, none⟩ u j (fun e => hn (by rw [e]))⟩
 exact World.ownsRow.kept h hgr (.inr (own_blk_ne h k hne))
set_option maxRecDepth 100000 in
theorem OwnL.put {w : World} {base g : Nat} {v : Value} {l : List Q4} {t : TypeId} {cs : Array Value} (h : OwnL w base v l) (k : Blk w g t cs) (i : Nat) (u : Value) (hne : 49 ≠ t := by decide) : OwnL (w.setCell ⟨g, i, none⟩ u) base v l := by
 have hgr : w.grownBy (w.setCell ⟨g, i, none⟩ u) (some g) := ⟨rfl, rfl, rfl, by simp [World.setCell], fun j _ hn => Below.heap_setCell w ⟨g, i, none⟩ u j (fun e => hn (by rw [e]))⟩
 exact World.ownsRow.kept h hgr (.inr (own_blk_ne h k hne))
set_option maxRecDepth 100000 in
theorem OwnN.slc {w : World} {base : Nat} {v : Value} {l : List Q4} (h : OwnN w base v l) : ∃ A n c, v = .slice A n c := by
 obtain ⟨A, c, e, _⟩ := h.read
 exact ⟨_, _, _, e⟩
set_option maxRecDepth 100000 in
theorem OwnL.slc {w : World} {base : Nat} {v : Value} {l : List Q4} (h : OwnL w base v l) : ∃ A n c, v = .slice A n c := by
 obtain ⟨A, c, e, _⟩ := h.read
 exact ⟨_, _, _, e⟩
/-- A graph that is handed back, and an error. -/
def GrRes (P : List Q4 → List Q4 → Prop) (base : Nat) (e : Ending) (w' : World) : Prop :=
 ∃ v1 v2 ns' ls' er, e = .returned (.tuple #[.agg #[v1, v2], .int .i64 er]) ∧ OwnN w' base v1 ns' ∧ OwnL w' base v2 ls' ∧ (er = 0 → P ns' ls')
set_option maxRecDepth 100000 in
theorem grRes_no {P : List Q4 → List Q4 → Prop} {base : Nat} {w' : World} {er : Int} (h : er ≠ 0) : GrRes P base (.returned (.tuple #[.agg #[.slice none 0 0, .slice none 0 0], .int .i64 er])) w' :=
 ⟨_, _, [], [], er, rfl, ownN_nil _ _, ownL_nil _ _, fun e => absurd e h⟩
set_option maxRecDepth 100000 in
theorem grRes_yes {P : List Q4 → List Q4 → Prop} {base : Nat} {w' : World} {v1 v2 : Value} {ns' ls' : List Q4} (h1 : OwnN w' base v1 ns') (h2 : OwnL w' base v2 ls') (h : P ns' ls') : GrRes P base (.returned (.tuple #[.agg #[v1, v2], .int .i64 0])) w' :=
 ⟨_, _, _, _, 0, rfl, h1, h2, fun _ => h⟩
set_option maxRecDepth 100000 in
set_option maxHeartbeats 16000000 in
theorem radd_any {A A2 : Option Addr} {c c2 : Nat} {ns ls : List Q4} {w : World} (n : Q4) (h : GOK w A A2 c2 ns ls) (hcn : ns.length ≤ c) (hv : validG ns ls = true) (hf : fineN n = true) :
 Calls Try.prog 27 #[.agg #[.slice A ns.length c, .slice A2 ls.length c2], .agg #[.int .i64 n.a, .int .i64 n.b, .int .i64 n.c, .int .i64 n.d]] w fun e w' => GrRes (fun ns' ls' => validG ns' ls' = true ∧ ns'.length ≤ ns.length + 1 ∧ ls'.length = ls.length) w.heap.size e w' ∧ Grows w w' := by
 have HV := Lib.hid hv
 have HF := Lib.hid hf
 have hln := (valid_len hv).1
 have hLs := (valid_len hv).2
 clear hv hf
 have k1 := ((Blk.new w 26 #[.slice A ns.length c, .slice A2 ls.length c2]).alloc (Obj.cells #[.int .i64 n.a, .int .i64 n.b, .int .i64 n.c, .int .i64 n.d] 46)).alloc (Obj.cells #[.slice none 0 0, .slice none 0 0] 26)
 have k3 := (blk_new_at (X := w.alloc (Obj.cells #[.slice A ns.length c, .slice A2 ls.length c2] 26)) (n := w.heap.size + 1) (t := 46) (cs := #[.int .i64 n.a, .int .i64 n.b, .int .i64 n.c, .int .i64 n.d]) (by simp)).alloc (Obj.cells #[.slice none 0 0, .slice none 0 0] 26)
 have k4 := blk_new_at (X := (w.alloc (Obj.cells #[.slice A ns.length c, .slice A2 ls.length c2] 26)).alloc (Obj.cells #[.int .i64 n.a, .int .i64 n.b, .int .i64 n.c, .int .i64 n.d] 46)) (n := w.heap.size + 1 + 1) (t := 26) (cs := #[.slice none 0 0, .slice none 0 0]) (by simp)
 have hB := (((Below.refl w.heap.size w).alloc (Nat.le_refl _) (Obj.cells #[.slice A ns.length c, .slice A2 ls.length c2] 26)).alloc (by simp) (Obj.cells #[.int .i64 n.a, .int .i64 n.b, .int .i64 n.c, .int .i64 n.d] 46)).alloc (by simp; omega) (Obj.cells #[.slice none 0 0, .slice none 0 0] 26)
 go_enter Try.func27, Try.ntmps27
 go_upto_region 1 with fail
 generalize World.alloc (World.alloc (World.alloc w _) _) _ = w1 at *
 have x1 := k1.cell
 go_wp2_with fail
 refine (rvalid_is (h.grows hB)).mono ?_
 rw [HV.out]
 rintro e w2 ⟨rfl, hq⟩
 replace hB := below_grows hB (Nat.le_refl _) hq
 replace k1 := k1.grows hq
 replace k3 := k3.grows hq
 replace k4 := k4.grows hq
 clear hq x1
 have x3 := k3.cell
 go_wp2_with fail
 refine (fits_is n true _ HF.out).mono ?_
 rintro e w3 ⟨rfl, hq⟩
 replace hB := below_grows hB (Nat.le_refl _) hq
 replace k1 := k1.grows hq
 replace k3 := k3.grows hq
 replace k4 := k4.grows hq
 clear hq x3
 have x1 := k1.cell
 have x3 := k3.cell
 go_wp2_with fail
 refine (node_any A A2 c c2 ls.length ns n.a _ (h.grows hB).n h.nl).mono ?_
 rintro e w4 ⟨rfl, hq⟩
 replace hB := below_grows hB (Nat.le_refl _) hq
 replace k1 := k1.grows hq
 replace k3 := k3.grows hq
 replace k4 := k4.grows hq
 clear hq x1 x3
 generalize nodeN ns n.a = nd at *
 obtain ⟨y0, y1, y2, y3⟩ := nd
 simp only [Q4.cs]
 generalize hfd : findN ns n.a = fd
 have k6 := Blk.new w4 46 #[.int .i64 y0, .int .i64 y1, .int .i64 y2, .int .i64 y3]
 have hq := (Below.refl w4.heap.size w4).alloc (Nat.le_refl _) (Obj.cells #[.int .i64 y0, .int .i64 y1, .int .i64 y2, .int .i64 y3] 46)
 go_upto_region 4 with fail
 replace hB := below_grows hB (Nat.le_refl _) hq
 replace k1 := k1.grows hq
 replace k3 := k3.grows hq
 replace k4 := k4.grows hq
 clear hq k6
 generalize World.alloc w4 _ = w5 at *
 generalize w4.heap.size = G6 at *
 cases fd with
 | some y =>
  clear hfd
  have x4 := k4.cell
  have f4 := k4.frozen
  go_wp2
  have k5 := (k4.set_ 0 (.slice none 0 0)).set_ 1 (.slice none 0 0)
  have hB5 := (hB.setCell (p := ⟨w.heap.size + 1 + 1, 0, none⟩) (by simp; omega) (.slice none 0 0)).setCell (p := ⟨w.heap.size + 1 + 1, 1, none⟩) (by simp; omega) (.slice none 0 0)
  clear x4 f4
  generalize World.setCell (World.setCell w5 _ _) _ _ = w8 at *
  have x4 := k5.cell
  refine bodyPost_ret (v := .tuple #[.agg #[.slice none 0 0, .slice none 0 0], .int .i64 8]) (by simp [results, Try.results27, go_sem, x4]) rfl ⟨grRes_no (by decide), hB5⟩
 | none =>
  have HFD := Lib.hid hfd
  clear hfd
  have x1 := k1.cell
  by_cases hful : 64 ≤ ns.length
  ·clear x1
   have x1 := k1.cell
   have x4 := k4.cell
   have f4 := k4.frozen
   go_wp2
   have k5 := (k4.set_ 0 (.slice none 0 0)).set_ 1 (.slice none 0 0)
   have hB5 := (hB.setCell (p := ⟨w.heap.size + 1 + 1, 0, none⟩) (by simp; omega) (.slice none 0 0)).setCell (p := ⟨w.heap.size + 1 + 1, 1, none⟩) (by simp; omega) (.slice none 0 0)
   clear x4 f4
   generalize World.setCell (World.setCell w5 _ _) _ _ = w8 at *
   have x4 := k5.cell
   refine bodyPost_ret (v := .tuple #[.agg #[.slice none 0 0, .slice none 0 0], .int .i64 3]) (by simp [results, Try.results27, go_sem, x4]) rfl ⟨grRes_no (by decide), hB5⟩
  go_wp2_with fail
  clear x1
  go_loopw [8] (fun i wr => ∃ m : Nat, m ≤ ns.length ∧ i = .int .i64 m ∧ Hid (∀ x ∈ ns.take m, decide (x.a < n.a) = true) ∧ Blk wr w.heap.size 26 #[.slice A ns.length c, .slice A2 ls.length c2] ∧ Blk wr (w.heap.size + 1) 46 #[.int .i64 n.a, .int .i64 n.b, .int .i64 n.c, .int .i64 n.d] ∧ Blk wr (w.heap.size + 1 + 1) 26 #[.slice none 0 0, .slice none 0 0] ∧ Below w.heap.size w wr) (fun i _ => ns.length - (intOf i).toNat)
  case atStart => exact ⟨0, by omega, rfl, Lib.hid (by simp), k1, k3, k4, hB⟩
  case round =>
   clear k1 k3 k4 hB
   obtain ⟨m, hmd, rfl, HA, k1, k3, k4, hB⟩ := hrel
   have x1 := k1.cell
   have x3 := k3.cell
   by_cases hlt : m < ns.length
   ·obtain ⟨ad, x, e1, had, hx, q0, q1, q2, q3⟩ := (h.grows hB).n.elem hlt
    subst e1
    have HX := Lib.hid hx
    clear hx
    by_cases hgo : x.a < n.a
    ·have HA2 : Hid (∀ x ∈ ns.take (m + 1), decide (x.a < n.a) = true) := Lib.hid (by
      rw [take_snoc HX.out]
      intro y hy
      rcases List.mem_append.1 hy with hy | hy
      ·exact HA.out y hy
      ·simp only [List.mem_singleton] at hy
       subst hy
       simpa using hgo)
     go_upto_region 9 with fail
     go_quiet (fail)
     generalize hY : World.drewN wr _ = w6 at *
     have hq : Grows wr w6 := hY ▸ grows_drewN wr _
     clear hY
     replace hB := below_grows hB (Nat.le_refl _) hq
     replace k1 := k1.grows hq
     replace k3 := k3.grows hq
     replace k4 := k4.grows hq
     clear hq x1 x3
     clear q0 q1 q2 q3
     go_wp2
     go_roundw
     case rel => exact ⟨m + 1, by omega, by go_num, HA2, k1, k3, k4, hB⟩
     case measure => simp [intOf]; omega
    ·have HC : Hid (cutAt ns (fun x => decide (x.a < n.a)) m) := Lib.hid ⟨hmd, HA.out, fun y hy => by
      rw [HX.out] at hy
      injection hy with hy
      subst hy
      simpa using hgo⟩
     go_upto_region 9 with fail
     go_quiet (fail)
     generalize hY : World.drewN wr _ = w6 at *
     have hq : Grows wr w6 := hY ▸ grows_drewN wr _
     clear hY
     replace hB := below_grows hB (Nat.le_refl _) hq
     replace k1 := k1.grows hq
     replace k3 := k3.grows hq
     replace k4 := k4.grows hq
     clear hq x1 x3
     clear q0 q1 q2 q3
     go_upto_region 11 with fail
     have hQ := (h.grows hB).n
     have hc := hcn
     have hmc : m ≤ c := by omega
     obtain ⟨S, HI, HO⟩ := hideS fun (L : Ran) (vs : Nat → Value) (w' : World) => Grows w6 w' ∧ KnS [some (.pointer (some ⟨w.heap.size, 0, none⟩)), some (.slice (some ad) ns.length c), some (.int .i64 (m : Int)), some (.slice (some ad) m c), none, some (.agg #[.int .i64 n.a, .int .i64 n.b, .int .i64 n.c, .int .i64 n.d]), none, none, some (.pointer (some ⟨w.heap.size, 0, none⟩)), some (.slice (some ad) ns.length c), some (.int .i64 (m : Int)), some (.slice (if c = m then (some ad) else (some ad).map (fun x => x.add (m * 4))) (ns.length - m) (c - m)), none] L vs ∧ (L 4 = true → L 7 = false → OwnN w' w6.heap.size (vs 4) (ns.take m)) ∧ (L 6 = true → L 7 = false → ∃ gb, vs 6 = .slice (some ⟨gb, 0, none⟩) 1 1 ∧ Qs w' (some ⟨gb, 0, none⟩) [n]) ∧ (L 7 = true → L 12 = false → OwnN w' w6.heap.size (vs 7) (ns.take m ++ [n])) ∧ (L 12 = true → OwnN w' w6.heap.size (vs 12) (ns.take m ++ [n] ++ ns.drop m)) ∧ (L 7 = true → L 4 = true ∧ L 6 = true) ∧ (L 12 = true → L 7 = true)
     refine wp_region_genT S 13 69 (by kernel_rfl) (by kernel_rfl) rfl ?_ ?_
     ·exact HI.out _ _ _ ⟨Grows.drew' _, kn_none _ _, (fun h => by cases h), (fun h => by cases h), (fun h => by cases h), (fun h => by cases h), (fun h => by cases h), (fun h => by cases h)⟩
     simp only [List.take_succ_cons, List.take_zero, List.drop_succ_cons, List.drop_zero]
     refine gent_consR (fun vs L w1 hL hw1 => ?_) ?_
     ·obtain ⟨q0, q1, q3, q5, q6, qa, h6, ha⟩ := HO.out _ _ _ hw1
      refine gen_plain rfl ?_
      go_simp
      exact gr_val (HI.out _ _ _ ⟨q0, kn_known q1 rfl, q3, q5, q6, qa, h6, ha⟩)
     refine gent_consR (fun vs L w1 hL hw1 => ?_) ?_
     ·obtain ⟨q0, q1, q3, q5, q6, qa, h6, ha⟩ := HO.out _ _ _ hw1
      have l0 : L 0 = true := hL.need 0 (by kernel_rfl)
      have e0 := q1 0 _ rfl l0
      have x := (k1.grows q0).cell 0
      refine gen_plain rfl ?_
      simp only [e0]
      go_simp
      exact gr_val (HI.out _ _ _ ⟨q0, kn_known q1 rfl, q3, q5, q6, qa, h6, ha⟩)
     refine gent_consR (fun vs L w1 hL hw1 => ?_) ?_
     ·obtain ⟨q0, q1, q3, q5, q6, qa, h6, ha⟩ := HO.out _ _ _ hw1
      refine gen_plain rfl ?_
      go_simp
      exact gr_val (HI.out _ _ _ ⟨q0, kn_known q1 rfl, q3, q5, q6, qa, h6, ha⟩)
     refine gent_consR (fun vs L w1 hL hw1 => ?_) ?_
     ·obtain ⟨q0, q1, q3, q5, q6, qa, h6, ha⟩ := HO.out _ _ _ hw1
      have l1 : L 1 = true := hL.need 1 (by kernel_rfl)
      have e1 := q1 1 _ rfl l1
      have l2 : L 2 = true := hL.need 2 (by kernel_rfl)
      have e2 := q1 2 _ rfl l2
      refine gen_plain rfl ?_
      simp only [e1, e2]
      go_simp
      exact gr_val (HI.out _ _ _ ⟨q0, kn_known q1 rfl, q3, q5, q6, qa, h6, ha⟩)
     refine gent_consR (fun vs L w1 hL hw1 => ?_) ?_
     ·obtain ⟨q0, q1, q3, q5, q6, qa, h6, ha⟩ := HO.out _ _ _ hw1
      have n4 : L 4 = false := hL.1
      have n7 : L 7 = false := by
       cases h : L 7
       ·rfl
       ·rw [(h6 h).1] at n4; cases n4
      have n12 : L 12 = false := by
       cases h : L 12
       ·rfl
       ·rw [ha h] at n7; cases n7
      have l3 : L 3 = true := hL.need 3 (by kernel_rfl)
      have e3 := q1 3 _ rfl l3
      refine gen_plain rfl ?_
      refine gr_append_node (.const (.slice none 0 0)) (.tmp 54) rfl (l := []) (m := ns.take m) (by rw [List.length_take]; omega) rfl (ownN_nil w1 w6.heap.size) e3 (qs_take (hQ.grows q0) m hmd) (by simp only [List.length_nil, List.length_take]; omega) q0.size ?_
      intro v3 w3 o3 g3
      have hg : Grows w1 w3 := (Below.refl _ _).grown g3 (Nat.le_refl _) (fun q hq => by cases hq)
      exact HI.out _ _ _ ⟨below_grows q0 (Nat.le_refl _) hg, kn_free q1 rfl, fun _ _ => o3, (fun h h0 => by obtain ⟨gb, e, s⟩ := q5 h h0; exact ⟨gb, e, s.grows hg⟩), (fun h _ => by rw [show L 7 = true from h] at n7; cases n7), (fun h => by rw [show L 12 = true from h] at n12; cases n12), (fun h => by rw [show L 7 = true from h] at n7; cases n7), (fun h => by rw [show L 12 = true from h] at n12; cases n12)⟩
     refine gent_consR (fun vs L w1 hL hw1 => ?_) ?_
     ·obtain ⟨q0, q1, q3, q5, q6, qa, h6, ha⟩ := HO.out _ _ _ hw1
      have x := (k3.grows q0).cell
      refine gen_plain rfl ?_
      go_simp
      exact gr_val (HI.out _ _ _ ⟨q0, kn_known q1 rfl, q3, q5, q6, qa, h6, ha⟩)
     refine gent_consR (fun vs L w1 hL hw1 => ?_) ?_
     ·obtain ⟨q0, q1, q3, q5, q6, qa, h6, ha⟩ := HO.out _ _ _ hw1
      have n6 : L 6 = false := hL.1
      have n7 : L 7 = false := by
       cases h : L 7
       ·rfl
       ·rw [(h6 h).2] at n6; cases n6
      have n12 : L 12 = false := by
       cases h : L 12
       ·rfl
       ·rw [ha h] at n7; cases n7
      have l5 : L 5 = true := hL.need 5 (by kernel_rfl)
      have e5 := q1 5 _ rfl l5
      refine gen_plain rfl ?_
      simp only [e5]
      go_simp
      have hg := (Below.refl w1.heap.size w1).alloc (Nat.le_refl _) (Obj.cells #[.int .i64 n.a, .int .i64 n.b, .int .i64 n.c, .int .i64 n.d] 46)
      exact gr_val (HI.out _ _ _ ⟨below_grows q0 (Nat.le_refl _) hg, kn_free q1 rfl, (fun h h0 => (q3 h h0).grows hg), (fun _ _ => ⟨_, rfl, qs_lit w1 n _⟩), (fun h _ => by rw [show L 7 = true from h] at n7; cases n7), (fun h => by rw [show L 12 = true from h] at n12; cases n12), (fun h => by rw [show L 7 = true from h] at n7; cases n7), (fun h => by rw [show L 12 = true from h] at n12; cases n12)⟩)
     refine gent_consR (fun vs L w1 hL hw1 => ?_) ?_
     ·obtain ⟨q0, q1, q3, q5, q6, qa, h6, ha⟩ := HO.out _ _ _ hw1
      have n7 : L 7 = false := hL.1
      have n12 : L 12 = false := by
       cases h : L 12
       ·rfl
       ·rw [ha h] at n7; cases n7
      have l4 : L 4 = true := hL.need 4 (by kernel_rfl)
      have l6 : L 6 = true := hL.need 6 (by kernel_rfl)
      have o3 := q3 l4 n7
      obtain ⟨gb, e5, s5⟩ := q5 l6 n7
      refine gen_plain rfl ?_
      refine gr_append_node (.tmp 55) (.tmp 57) rfl (m := [n]) rfl rfl o3 e5 s5 (by simp only [List.length_take, List.length_cons, List.length_nil]; omega) q0.size ?_
      intro v3 w3 o6 g3
      have hg := o3.below q0 g3 q0.size
      exact HI.out _ _ _ ⟨hg, kn_free q1 rfl, (fun _ h => by cases h), (fun _ h => by cases h), fun _ _ => o6, (fun h => by rw [show L 12 = true from h] at n12; cases n12), fun _ => ⟨l4, l6⟩, (fun h => by rw [show L 12 = true from h] at n12; cases n12)⟩
     refine gent_consR (fun vs L w1 hL hw1 => ?_) ?_
     ·obtain ⟨q0, q1, q3, q5, q6, qa, h6, ha⟩ := HO.out _ _ _ hw1
      refine gen_plain rfl ?_
      go_simp
      exact gr_val (HI.out _ _ _ ⟨q0, kn_known q1 rfl, q3, q5, q6, qa, h6, ha⟩)
     refine gent_consR (fun vs L w1 hL hw1 => ?_) ?_
     ·obtain ⟨q0, q1, q3, q5, q6, qa, h6, ha⟩ := HO.out _ _ _ hw1
      have l8 : L 8 = true := hL.need 8 (by kernel_rfl)
      have e8 := q1 8 _ rfl l8
      have x := (k1.grows q0).cell 0
      refine gen_plain rfl ?_
      simp only [e8]
      go_simp
      exact gr_val (HI.out _ _ _ ⟨q0, kn_known q1 rfl, q3, q5, q6, qa, h6, ha⟩)
     refine gent_consR (fun vs L w1 hL hw1 => ?_) ?_
     ·obtain ⟨q0, q1, q3, q5, q6, qa, h6, ha⟩ := HO.out _ _ _ hw1
      refine gen_plain rfl ?_
      go_simp
      exact gr_val (HI.out _ _ _ ⟨q0, kn_known q1 rfl, q3, q5, q6, qa, h6, ha⟩)
     refine gent_consR (fun vs L w1 hL hw1 => ?_) ?_
     ·obtain ⟨q0, q1, q3, q5, q6, qa, h6, ha⟩ := HO.out _ _ _ hw1
      have l9 : L 9 = true := hL.need 9 (by kernel_rfl)
      have e9 := q1 9 _ rfl l9
      have l10 : L 10 = true := hL.need 10 (by kernel_rfl)
      have e10 := q1 10 _ rfl l10
      refine gen_plain rfl ?_
      simp only [e9, e10]
      go_simp
      exact gr_val (HI.out _ _ _ ⟨q0, kn_known q1 rfl, q3, q5, q6, qa, h6, ha⟩)
     refine gent_consR (fun vs L w1 hL hw1 => ?_) ?_
     ·obtain ⟨q0, q1, q3, q5, q6, qa, h6, ha⟩ := HO.out _ _ _ hw1
      have n12 : L 12 = false := hL.1
      have l7 : L 7 = true := hL.need 7 (by kernel_rfl)
      have o6 := q6 l7 n12
      have l11 : L 11 = true := hL.need 11 (by kernel_rfl)
      have e11 := q1 11 _ rfl l11
      refine gen_plain rfl ?_
      refine gr_append_node (.tmp 58) (.tmp 62) rfl (m := ns.drop m) (by simp) rfl o6 e11 (qs_drop (hQ.grows q0) hmd hc) (by simp only [List.length_append, List.length_take, List.length_drop, List.length_cons, List.length_nil]; omega) q0.size ?_
      intro v3 w3 o7 g3
      have hg := o6.below q0 g3 q0.size
      exact HI.out _ _ _ ⟨hg, kn_free q1 rfl, (fun h h0 => by rw [show L 7 = false from h0] at l7; cases l7), (fun h h0 => by rw [show L 7 = false from h0] at l7; cases l7), (fun _ h => by cases h), fun _ => o7, h6, fun _ => l7⟩
     refine gent_nil ?_
     intro vs L W2 hall hS
     obtain ⟨hq, -, -, -, -, qa, -, -⟩ := HO.out _ _ _ hS
     have hown2 := qa (hall 12 (by omega))
     clear hall hS HI HO qa
     have hown3 := hown2.mono hB.size
     replace hB := below_grows hB (Nat.le_refl _) hq
     replace k1 := k1.grows hq
     replace k4 := k4.grows hq
     clear hown2 hq k3 hQ
     generalize vs 12 = v12 at *
     have x1 := k1.cell
     go_upto_region 12 with fail
     refine wp_region_lit ?_
     iterate 3
      refine wpList_plain rfl (fun K hK => ?_)
      go_simp
      refine hK _ _ ?_
      clear hK K
     refine wpList_append_link rfl (.const (.slice none 0 0)) (.tmp 66) rfl (l := []) (m := ls) rfl rfl (ownL_nil _ w.heap.size) rfl (h.grows hB).l (by simp only [List.length_nil]; omega) hB.size ?_
     intro v13 w13 hown13 hgr13 _
     have hq : Grows W2 w13 := (Below.refl _ _).grown hgr13 (Nat.le_refl _) (fun q hq => by cases hq)
     replace hB := below_grows hB (Nat.le_refl _) hq
     replace k4 := k4.grows hq
     replace hown3 := hown3.grows hq
     clear hq hgr13 x1 k1
     have x4 := k4.cell
     have f4 := k4.frozen
     obtain ⟨A7, n7, c7, hv7⟩ := hown3.slc
     obtain ⟨A8, n8, c8, hv8⟩ := hown13.slc
     subst hv7
     subst hv8
     go_wp2
     have k5 := (k4.set_ 0 (.slice A7 n7 c7)).set_ 1 (.slice A8 n8 c8)
     have hB5 := (hB.setCell (p := ⟨w.heap.size + 1 + 1, 0, none⟩) (by simp; omega) (.slice A7 n7 c7)).setCell (p := ⟨w.heap.size + 1 + 1, 1, none⟩) (by simp; omega) (.slice A8 n8 c8)
     have hn1 := OwnN.put hown3 k4 0 (.slice A7 n7 c7)
     have hn2 := OwnN.put hn1 (k4.set_ 0 (.slice A7 n7 c7)) 1 (.slice A8 n8 c8)
     have hl1 := OwnL.put (hown13.mono (Nat.le_refl _)) k4 0 (.slice A7 n7 c7)
     have hl2 := OwnL.put hl1 (k4.set_ 0 (.slice A7 n7 c7)) 1 (.slice A8 n8 c8)
     clear x4 f4 hn1 hl1 hown3 hown13 k4 hB
     generalize World.setCell (World.setCell w13 _ _) _ _ = w8 at *
     have x4 := k5.cell
     refine bodyPost_ret (v := .tuple #[.agg #[(.slice A7 n7 c7), (.slice A8 n8 c8)], .int .i64 0]) (by simp [results, Try.results27, go_sem, x4]) rfl ⟨grRes_yes hn2 hl2 ⟨valid_add HV.out HF.out HFD.out (by omega) HC.out, Nat.le_of_eq (ins_length hmd), rfl⟩, hB5⟩
   ·have HC : Hid (cutAt ns (fun x => decide (x.a < n.a)) m) := Lib.hid ⟨hmd, HA.out, fun y hy => by
     have := (List.getElem?_eq_some_iff.1 hy).1
     omega⟩
    have hno : decide (m < ns.length) = false := by simpa using hlt
    go_upto_region 9 with fail
    go_quiet (fail)
    generalize hY : World.drewN wr _ = w6 at *
    have hq : Grows wr w6 := hY ▸ grows_drewN wr _
    clear hY
    replace hB := below_grows hB (Nat.le_refl _) hq
    replace k1 := k1.grows hq
    replace k3 := k3.grows hq
    replace k4 := k4.grows hq
    clear hq x1 x3
    go_upto_region 11 with fail
    have hQ := (h.grows hB).n
    have hc := hcn
    have hmc : m ≤ c := by omega
    obtain ⟨S, HI, HO⟩ := hideS fun (L : Ran) (vs : Nat → Value) (w' : World) => Grows w6 w' ∧ KnS [some (.pointer (some ⟨w.heap.size, 0, none⟩)), some (.slice A ns.length c), some (.int .i64 (m : Int)), some (.slice A m c), none, some (.agg #[.int .i64 n.a, .int .i64 n.b, .int .i64 n.c, .int .i64 n.d]), none, none, some (.pointer (some ⟨w.heap.size, 0, none⟩)), some (.slice A ns.length c), some (.int .i64 (m : Int)), some (.slice (if c = m then A else A.map (fun x => x.add (m * 4))) (ns.length - m) (c - m)), none] L vs ∧ (L 4 = true → L 7 = false → OwnN w' w6.heap.size (vs 4) (ns.take m)) ∧ (L 6 = true → L 7 = false → ∃ gb, vs 6 = .slice (some ⟨gb, 0, none⟩) 1 1 ∧ Qs w' (some ⟨gb, 0, none⟩) [n]) ∧ (L 7 = true → L 12 = false → OwnN w' w6.heap.size (vs 7) (ns.take m ++ [n])) ∧ (L 12 = true → OwnN w' w6.heap.size (vs 12) (ns.take m ++ [n] ++ ns.drop m)) ∧ (L 7 = true → L 4 = true ∧ L 6 = true) ∧ (L 12 = true → L 7 = true)
    refine wp_region_genT S 13 69 (by kernel_rfl) (by kernel_rfl) rfl ?_ ?_
    ·exact HI.out _ _ _ ⟨Grows.drew' _, kn_none _ _, (fun h => by cases h), (fun h => by cases h), (fun h => by cases h), (fun h => by cases h), (fun h => by cases h), (fun h => by cases h)⟩
    simp only [List.take_succ_cons, List.take_zero, List.drop_succ_cons, List.drop_zero]
    refine gent_consR (fun vs L w1 hL hw1 => ?_) ?_
    ·obtain ⟨q0, q1, q3, q5, q6, qa, h6, ha⟩ := HO.out _ _ _ hw1
     refine gen_plain rfl ?_
     go_simp
     exact gr_val (HI.out _ _ _ ⟨q0, kn_known q1 rfl, q3, q5, q6, qa, h6, ha⟩)
    refine gent_consR (fun vs L w1 hL hw1 => ?_) ?_
    ·obtain ⟨q0, q1, q3, q5, q6, qa, h6, ha⟩ := HO.out _ _ _ hw1
     have l0 : L 0 = true := hL.need 0 (by kernel_rfl)
     have e0 := q1 0 _ rfl l0
     have x := (k1.grows q0).cell 0
     refine gen_plain rfl ?_
     simp only [e0]
     go_simp
     exact gr_val (HI.out _ _ _ ⟨q0, kn_known q1 rfl, q3, q5, q6, qa, h6, ha⟩)
    refine gent_consR (fun vs L w1 hL hw1 => ?_) ?_
    ·obtain ⟨q0, q1, q3, q5, q6, qa, h6, ha⟩ := HO.out _ _ _ hw1
     refine gen_plain rfl ?_
     go_simp
     exact gr_val (HI.out _ _ _ ⟨q0, kn_known q1 rfl, q3, q5, q6, qa, h6, ha⟩)
    refine gent_consR (fun vs L w1 hL hw1 => ?_) ?_
    ·obtain ⟨q0, q1, q3, q5, q6, qa, h6, ha⟩ := HO.out _ _ _ hw1
     have l1 : L 1 = true := hL.need 1 (by kernel_rfl)
     have e1 := q1 1 _ rfl l1
     have l2 : L 2 = true := hL.need 2 (by kernel_rfl)
     have e2 := q1 2 _ rfl l2
     refine gen_plain rfl ?_
     simp only [e1, e2]
     go_simp
     exact gr_val (HI.out _ _ _ ⟨q0, kn_known q1 rfl, q3, q5, q6, qa, h6, ha⟩)
    refine gent_consR (fun vs L w1 hL hw1 => ?_) ?_
    ·obtain ⟨q0, q1, q3, q5, q6, qa, h6, ha⟩ := HO.out _ _ _ hw1
     have n4 : L 4 = false := hL.1
     have n7 : L 7 = false := by
      cases h : L 7
      ·rfl
      ·rw [(h6 h).1] at n4; cases n4
     have n12 : L 12 = false := by
      cases h : L 12
      ·rfl
      ·rw [ha h] at n7; cases n7
     have l3 : L 3 = true := hL.need 3 (by kernel_rfl)
     have e3 := q1 3 _ rfl l3
     refine gen_plain rfl ?_
     refine gr_append_node (.const (.slice none 0 0)) (.tmp 54) rfl (l := []) (m := ns.take m) (by rw [List.length_take]; omega) rfl (ownN_nil w1 w6.heap.size) e3 (qs_take (hQ.grows q0) m hmd) (by simp only [List.length_nil, List.length_take]; omega) q0.size ?_
     intro v3 w3 o3 g3
     have hg : Grows w1 w3 := (Below.refl _ _).grown g3 (Nat.le_refl _) (fun q hq => by cases hq)
     exact HI.out _ _ _ ⟨below_grows q0 (Nat.le_refl _) hg, kn_free q1 rfl, fun _ _ => o3, (fun h h0 => by obtain ⟨gb, e, s⟩ := q5 h h0; exact ⟨gb, e, s.grows hg⟩), (fun h _ => by rw [show L 7 = true from h] at n7; cases n7), (fun h => by rw [show L 12 = true from h] at n12; cases n12), (fun h => by rw [show L 7 = true from h] at n7; cases n7), (fun h => by rw [show L 12 = true from h] at n12; cases n12)⟩
    refine gent_consR (fun vs L w1 hL hw1 => ?_) ?_
    ·obtain ⟨q0, q1, q3, q5, q6, qa, h6, ha⟩ := HO.out _ _ _ hw1
     have x := (k3.grows q0).cell
     refine gen_plain rfl ?_
     go_simp
     exact gr_val (HI.out _ _ _ ⟨q0, kn_known q1 rfl, q3, q5, q6, qa, h6, ha⟩)
    refine gent_consR (fun vs L w1 hL hw1 => ?_) ?_
    ·obtain ⟨q0, q1, q3, q5, q6, qa, h6, ha⟩ := HO.out _ _ _ hw1
     have n6 : L 6 = false := hL.1
     have n7 : L 7 = false := by
      cases h : L 7
      ·rfl
      ·rw [(h6 h).2] at n6; cases n6
     have n12 : L 12 = false := by
      cases h : L 12
      ·rfl
      ·rw [ha h] at n7; cases n7
     have l5 : L 5 = true := hL.need 5 (by kernel_rfl)
     have e5 := q1 5 _ rfl l5
     refine gen_plain rfl ?_
     simp only [e5]
     go_simp
     have hg := (Below.refl w1.heap.size w1).alloc (Nat.le_refl _) (Obj.cells #[.int .i64 n.a, .int .i64 n.b, .int .i64 n.c, .int .i64 n.d] 46)
     exact gr_val (HI.out _ _ _ ⟨below_grows q0 (Nat.le_refl _) hg, kn_free q1 rfl, (fun h h0 => (q3 h h0).grows hg), (fun _ _ => ⟨_, rfl, qs_lit w1 n _⟩), (fun h _ => by rw [show L 7 = true from h] at n7; cases n7), (fun h => by rw [show L 12 = true from h] at n12; cases n12), (fun h => by rw [show L 7 = true from h] at n7; cases n7), (fun h => by rw [show L 12 = true from h] at n12; cases n12)⟩)
    refine gent_consR (fun vs L w1 hL hw1 => ?_) ?_
    ·obtain ⟨q0, q1, q3, q5, q6, qa, h6, ha⟩ := HO.out _ _ _ hw1
     have n7 : L 7 = false := hL.1
     have n12 : L 12 = false := by
      cases h : L 12
      ·rfl
      ·rw [ha h] at n7; cases n7
     have l4 : L 4 = true := hL.need 4 (by kernel_rfl)
     have l6 : L 6 = true := hL.need 6 (by kernel_rfl)
     have o3 := q3 l4 n7
     obtain ⟨gb, e5, s5⟩ := q5 l6 n7
     refine gen_plain rfl ?_
     refine gr_append_node (.tmp 55) (.tmp 57) rfl (m := [n]) rfl rfl o3 e5 s5 (by simp only [List.length_take, List.length_cons, List.length_nil]; omega) q0.size ?_
     intro v3 w3 o6 g3
     have hg := o3.below q0 g3 q0.size
     exact HI.out _ _ _ ⟨hg, kn_free q1 rfl, (fun _ h => by cases h), (fun _ h => by cases h), fun _ _ => o6, (fun h => by rw [show L 12 = true from h] at n12; cases n12), fun _ => ⟨l4, l6⟩, (fun h => by rw [show L 12 = true from h] at n12; cases n12)⟩
    refine gent_consR (fun vs L w1 hL hw1 => ?_) ?_
    ·obtain ⟨q0, q1, q3, q5, q6, qa, h6, ha⟩ := HO.out _ _ _ hw1
     refine gen_plain rfl ?_
     go_simp
     exact gr_val (HI.out _ _ _ ⟨q0, kn_known q1 rfl, q3, q5, q6, qa, h6, ha⟩)
    refine gent_consR (fun vs L w1 hL hw1 => ?_) ?_
    ·obtain ⟨q0, q1, q3, q5, q6, qa, h6, ha⟩ := HO.out _ _ _ hw1
     have l8 : L 8 = true := hL.need 8 (by kernel_rfl)
     have e8 := q1 8 _ rfl l8
     have x := (k1.grows q0).cell 0
     refine gen_plain rfl ?_
     simp only [e8]
     go_simp
     exact gr_val (HI.out _ _ _ ⟨q0, kn_known q1 rfl, q3, q5, q6, qa, h6, ha⟩)
    refine gent_consR (fun vs L w1 hL hw1 => ?_) ?_
    ·obtain ⟨q0, q1, q3, q5, q6, qa, h6, ha⟩ := HO.out _ _ _ hw1
     refine gen_plain rfl ?_
     go_simp
     exact gr_val (HI.out _ _ _ ⟨q0, kn_known q1 rfl, q3, q5, q6, qa, h6, ha⟩)
    refine gent_consR (fun vs L w1 hL hw1 => ?_) ?_
    ·obtain ⟨q0, q1, q3, q5, q6, qa, h6, ha⟩ := HO.out _ _ _ hw1
     have l9 : L 9 = true := hL.need 9 (by kernel_rfl)
     have e9 := q1 9 _ rfl l9
     have l10 : L 10 = true := hL.need 10 (by kernel_rfl)
     have e10 := q1 10 _ rfl l10
     refine gen_plain rfl ?_
     simp only [e9, e10]
     go_simp
     exact gr_val (HI.out _ _ _ ⟨q0, kn_known q1 rfl, q3, q5, q6, qa, h6, ha⟩)
    refine gent_consR (fun vs L w1 hL hw1 => ?_) ?_
    ·obtain ⟨q0, q1, q3, q5, q6, qa, h6, ha⟩ := HO.out _ _ _ hw1
     have n12 : L 12 = false := hL.1
     have l7 : L 7 = true := hL.need 7 (by kernel_rfl)
     have o6 := q6 l7 n12
     have l11 : L 11 = true := hL.need 11 (by kernel_rfl)
     have e11 := q1 11 _ rfl l11
     refine gen_plain rfl ?_
     refine gr_append_node (.tmp 58) (.tmp 62) rfl (m := ns.drop m) (by simp) rfl o6 e11 (qs_drop (hQ.grows q0) hmd hc) (by simp only [List.length_append, List.length_take, List.length_drop, List.length_cons, List.length_nil]; omega) q0.size ?_
     intro v3 w3 o7 g3
     have hg := o6.below q0 g3 q0.size
     exact HI.out _ _ _ ⟨hg, kn_free q1 rfl, (fun h h0 => by rw [show L 7 = false from h0] at l7; cases l7), (fun h h0 => by rw [show L 7 = false from h0] at l7; cases l7), (fun _ h => by cases h), fun _ => o7, h6, fun _ => l7⟩
    refine gent_nil ?_
    intro vs L W2 hall hS
    obtain ⟨hq, -, -, -, -, qa, -, -⟩ := HO.out _ _ _ hS
    have hown2 := qa (hall 12 (by omega))
    clear hall hS HI HO qa
    have hown3 := hown2.mono hB.size
    replace hB := below_grows hB (Nat.le_refl _) hq
    replace k1 := k1.grows hq
    replace k4 := k4.grows hq
    clear hown2 hq k3 hQ
    generalize vs 12 = v12 at *
    have x1 := k1.cell
    go_upto_region 12 with fail
    refine wp_region_lit ?_
    iterate 3
     refine wpList_plain rfl (fun K hK => ?_)
     go_simp
     refine hK _ _ ?_
     clear hK K
    refine wpList_append_link rfl (.const (.slice none 0 0)) (.tmp 66) rfl (l := []) (m := ls) rfl rfl (ownL_nil _ w.heap.size) rfl (h.grows hB).l (by simp only [List.length_nil]; omega) hB.size ?_
    intro v13 w13 hown13 hgr13 _
    have hq : Grows W2 w13 := (Below.refl _ _).grown hgr13 (Nat.le_refl _) (fun q hq => by cases hq)
    replace hB := below_grows hB (Nat.le_refl _) hq
    replace k4 := k4.grows hq
    replace hown3 := hown3.grows hq
    clear hq hgr13 x1 k1
    have x4 := k4.cell
    have f4 := k4.frozen
    obtain ⟨A7, n7, c7, hv7⟩ := hown3.slc
    obtain ⟨A8, n8, c8, hv8⟩ := hown13.slc
    subst hv7
    subst hv8
    go_wp2
    have k5 := (k4.set_ 0 (.slice A7 n7 c7)).set_ 1 (.slice A8 n8 c8)
    have hB5 := (hB.setCell (p := ⟨w.heap.size + 1 + 1, 0, none⟩) (by simp; omega) (.slice A7 n7 c7)).setCell (p := ⟨w.heap.size + 1 + 1, 1, none⟩) (by simp; omega) (.slice A8 n8 c8)
    have hn1 := OwnN.put hown3 k4 0 (.slice A7 n7 c7)
    have hn2 := OwnN.put hn1 (k4.set_ 0 (.slice A7 n7 c7)) 1 (.slice A8 n8 c8)
    have hl1 := OwnL.put (hown13.mono (Nat.le_refl _)) k4 0 (.slice A7 n7 c7)
    have hl2 := OwnL.put hl1 (k4.set_ 0 (.slice A7 n7 c7)) 1 (.slice A8 n8 c8)
    clear x4 f4 hn1 hl1 hown3 hown13 k4 hB
    generalize World.setCell (World.setCell w13 _ _) _ _ = w8 at *
    have x4 := k5.cell
    refine bodyPost_ret (v := .tuple #[.agg #[(.slice A7 n7 c7), (.slice A8 n8 c8)], .int .i64 0]) (by simp [results, Try.results27, go_sem, x4]) rfl ⟨grRes_yes hn2 hl2 ⟨valid_add HV.out HF.out HFD.out (by omega) HC.out, Nat.le_of_eq (ins_length hmd), rfl⟩, hB5⟩
end Go.Proofs.Ytobhdldlhhigdaa

namespace Go.Proofs.Ytobhdldlhhigdaa
open Go.RowKit Go.Maps
set_option maxRecDepth 100000 in
theorem has_any (A A2 : Option Addr) (c c2 m : Nat) (ls : List Q4) (n : Q4) (w : World) (h : Qs w A2 ls) (hl : ls.length ≤ 9223372036854775807) :
 Calls Try.prog 45 #[.agg #[.slice A m c, .slice A2 ls.length c2], .agg #[.int .i64 n.a, .int .i64 n.b, .int .i64 n.c, .int .i64 n.d]] w fun e w' => e = .returned (.bool (decide (n ∈ ls))) ∧ Grows w w' := by
 have k1 := (Blk.new w 26 #[.slice A m c, .slice A2 ls.length c2]).alloc (Obj.cells #[.int .i64 n.a, .int .i64 n.b, .int .i64 n.c, .int .i64 n.d] 49)
 have k3 := blk_new_at (X := w.alloc (Obj.cells #[.slice A m c, .slice A2 ls.length c2] 26)) (n := w.heap.size + 1) (t := 49) (cs := #[.int .i64 n.a, .int .i64 n.b, .int .i64 n.c, .int .i64 n.d]) (by simp)
 have hB := ((Below.refl w.heap.size w).alloc (Nat.le_refl _) (Obj.cells #[.slice A m c, .slice A2 ls.length c2] 26)).alloc (by simp) (Obj.cells #[.int .i64 n.a, .int .i64 n.b, .int .i64 n.c, .int .i64 n.d] 49)
 go_enter Try.func45, Try.ntmps45
 go_upto_region 1 with fail
 generalize World.alloc (World.alloc w _) _ = w1 at *
 have x1 := k1.cell
 go_wp2_with fail
 clear x1 k1
 go_loopw [10] (fun i wr => ∃ k : Nat, k ≤ ls.length ∧ i = .int .i64 k ∧ Hid (n ∉ ls.take k) ∧ Blk wr (w.heap.size + 1) 49 #[.int .i64 n.a, .int .i64 n.b, .int .i64 n.c, .int .i64 n.d] ∧ Below w.heap.size w wr) (fun i _ => ls.length - (intOf i).toNat)
 case atStart => exact ⟨0, by omega, rfl, Lib.hid (by simp), k3, hB⟩
 case round =>
  clear k3 hB
  obtain ⟨k, hk, rfl, HN, k3, hB⟩ := hrel
  by_cases hlt : k < ls.length
  ·obtain ⟨ad, x, e1, had, hx, q0, q1, q2, q3⟩ := (h.grows hB).elem hlt
   subst e1
   have HX := Lib.hid hx
   clear hx
   have k6 := Blk.new wr 49 #[.int .i64 x.a, .int .i64 x.b, .int .i64 x.c, .int .i64 x.d]
   have hq := (Below.refl wr.heap.size wr).alloc (Nat.le_refl _) (Obj.cells #[.int .i64 x.a, .int .i64 x.b, .int .i64 x.c, .int .i64 x.d] 49)
   go_upto_region 4 with fail
   clear q0 q1 q2 q3
   replace hB := below_grows hB (Nat.le_refl _) hq
   replace k3 := k3.grows hq
   clear hq
   generalize World.alloc wr _ = w4 at *
   generalize wr.heap.size = G6 at *
   have x6 := k6.cell
   have x3 := k3.cell
   by_cases he : x = n
   ·subst he
    go_wp2
    go_ret
    refine ⟨ret_bool ?_, hB⟩
    have : x ∈ ls := List.mem_of_getElem? HX.out
    simp [this]
   ·have HN2 : Hid (n ∉ ls.take (k + 1)) := Lib.hid (by
     rw [take_snoc HX.out]
     intro hy
     rcases List.mem_append.1 hy with hy | hy
     ·exact HN.out hy
     ·simp only [List.mem_singleton] at hy
      exact he hy.symm)
    have HE := Lib.hid he
    clear he
    go_wp2
    all_goals first
     | (exfalso; apply HE.out; cases x; cases n; simp_all; done)
     | (go_roundw
        case rel => exact ⟨k + 1, by omega, by go_num, HN2, k3, hB⟩
        case measure => simp [intOf]; omega)
  ·have HN2 : Hid (n ∉ ls) := Lib.hid (by have := HN.out; rwa [List.take_of_length_le (by omega)] at this)
   go_wp2
   go_ret
   refine ⟨ret_bool ?_, hB⟩
   simp [HN2.out]
set_option maxRecDepth 100000 in
theorem OwnL.slq {w : World} {base : Nat} {v : Value} {l : List Q4} (h : OwnL w base v l) : ∃ A n c, v = .slice A n c ∧ l.length = n ∧ Qs w A l := by
 obtain ⟨A, c, e, _, hq⟩ := h.read
 exact ⟨_, _, _, e, rfl, hq⟩
set_option maxRecDepth 100000 in
theorem OwnN.slq {w : World} {base : Nat} {v : Value} {l : List Q4} (h : OwnN w base v l) : ∃ A n c, v = .slice A n c ∧ l.length = n ∧ Qs w A l := by
 obtain ⟨A, c, e, _, hq⟩ := h.read
 exact ⟨_, _, _, e, rfl, hq⟩
set_option maxRecDepth 100000 in
theorem order_is (A A2 : Option Addr) (c c2 n1 n2 m : Nat) (ns ls : List Q4) (w : World) (h : Qs w A ns) (e1 : ns.length = n1) (h2 : Qs w A2 ls) (e2 : ls.length = n2) (hl : n1 ≤ 100000) (hl2 : n2 ≤ 9223372036854775807) (h0 : ∀ n ∈ ns, n.a ≠ 0) (hm : (orderL ns ls).length = m) :
 Calls Try.prog 52 #[.agg #[.slice A n1 c, .slice A2 n2 c2]] w fun e w' => (∃ v, e = .returned v ∧ ∃ A c, v = .slice A m c) ∧ Grows w w' := by
 subst e1 e2
 exact order_len A A2 c c2 m ns ls w h hl h2 hl2 h0 hm
set_option maxRecDepth 100000 in
set_option maxHeartbeats 16000000 in
theorem rconnect_any {A A2 : Option Addr} {c c2 : Nat} {ns ls : List Q4} {w : World} (n : Q4) (h : GOK w A A2 c2 ns ls) (hv : validG ns ls = true) :
 Calls Try.prog 28 #[.agg #[.slice A ns.length c, .slice A2 ls.length c2], .agg #[.int .i64 n.a, .int .i64 n.b, .int .i64 n.c, .int .i64 n.d]] w fun e w' => GrRes (fun ns' ls' => validG ns' ls' = true ∧ ns' = ns ∧ ls'.length ≤ ls.length + 1) w.heap.size e w' ∧ Grows w w' := by
 have HV := Lib.hid hv
 have hln := (valid_len hv).1
 have hLs := (valid_len hv).2
 clear hv
 have k1 := ((Blk.new w 26 #[.slice A ns.length c, .slice A2 ls.length c2]).alloc (Obj.cells #[.int .i64 n.a, .int .i64 n.b, .int .i64 n.c, .int .i64 n.d] 49)).alloc (Obj.cells #[.slice none 0 0, .slice none 0 0] 26)
 have k3 := (blk_new_at (X := w.alloc (Obj.cells #[.slice A ns.length c, .slice A2 ls.length c2] 26)) (n := w.heap.size + 1) (t := 49) (cs := #[.int .i64 n.a, .int .i64 n.b, .int .i64 n.c, .int .i64 n.d]) (by simp)).alloc (Obj.cells #[.slice none 0 0, .slice none 0 0] 26)
 have k4 := blk_new_at (X := (w.alloc (Obj.cells #[.slice A ns.length c, .slice A2 ls.length c2] 26)).alloc (Obj.cells #[.int .i64 n.a, .int .i64 n.b, .int .i64 n.c, .int .i64 n.d] 49)) (n := w.heap.size + 1 + 1) (t := 26) (cs := #[.slice none 0 0, .slice none 0 0]) (by simp)
 have hB := (((Below.refl w.heap.size w).alloc (Nat.le_refl _) (Obj.cells #[.slice A ns.length c, .slice A2 ls.length c2] 26)).alloc (by simp) (Obj.cells #[.int .i64 n.a, .int .i64 n.b, .int .i64 n.c, .int .i64 n.d] 49)).alloc (by simp; omega) (Obj.cells #[.slice none 0 0, .slice none 0 0] 26)
 go_enter Try.func28, Try.ntmps28
 go_upto_region 1 with fail
 generalize World.alloc (World.alloc (World.alloc w _) _) _ = w1 at *
 have x1 := k1.cell
 have x3 := k3.cell
 go_wp2_with fail
 refine (rvalid_is (h.grows hB)).mono ?_
 rw [HV.out]
 rintro e w2 ⟨rfl, hq⟩
 replace hB := below_grows hB (Nat.le_refl _) hq
 replace k1 := k1.grows hq
 replace k3 := k3.grows hq
 replace k4 := k4.grows hq
 clear hq x1 x3
 have x1 := k1.cell
 have x3 := k3.cell
 go_wp2_with fail
 cases hpo : endsL ns n
 ·have HPO := Lib.hid hpo
  clear hpo
  refine (ports_is A A2 c c2 ls.length ns n false _ (h.grows hB).n h.nl HPO.out).mono ?_
  rintro e w3 ⟨rfl, hq⟩
  replace hB := below_grows hB (Nat.le_refl _) hq
  replace k1 := k1.grows hq
  replace k3 := k3.grows hq
  replace k4 := k4.grows hq
  clear hq x1 x3
  have x1 := k1.cell
  have x3 := k3.cell
  have x4 := k4.cell
  have f4 := k4.frozen
  go_wp2
  have k5 := (k4.set_ 0 (.slice none 0 0)).set_ 1 (.slice none 0 0)
  have hB5 := (hB.setCell (p := ⟨w.heap.size + 1 + 1, 0, none⟩) (by simp; omega) (.slice none 0 0)).setCell (p := ⟨w.heap.size + 1 + 1, 1, none⟩) (by simp; omega) (.slice none 0 0)
  clear x4 f4
  generalize World.setCell (World.setCell w3 _ _) _ _ = w8 at *
  have x4 := k5.cell
  refine bodyPost_ret (v := .tuple #[.agg #[.slice none 0 0, .slice none 0 0], .int .i64 7]) (by simp [results, Try.results28, go_sem, x4]) rfl ⟨grRes_no (by decide), hB5⟩
 have HPO := Lib.hid hpo
 clear hpo
 refine (ports_is A A2 c c2 ls.length ns n true _ (h.grows hB).n h.nl HPO.out).mono ?_
 rintro e w3 ⟨rfl, hq⟩
 replace hB := below_grows hB (Nat.le_refl _) hq
 replace k1 := k1.grows hq
 replace k3 := k3.grows hq
 replace k4 := k4.grows hq
 clear hq x1 x3
 have x1 := k1.cell
 have x3 := k3.cell
 go_wp2_with fail
 refine (has_any A A2 c c2 ns.length ls n _ (h.grows hB).l h.ll).mono ?_
 cases hhs : decide (n ∈ ls)
 case true =>
  clear hhs
  rintro e w4 ⟨rfl, hq⟩
  replace hB := below_grows hB (Nat.le_refl _) hq
  replace k1 := k1.grows hq
  replace k3 := k3.grows hq
  replace k4 := k4.grows hq
  clear hq x1 x3
  have x4 := k4.cell
  have f4 := k4.frozen
  go_wp2
  have k5 := (k4.set_ 0 (.slice none 0 0)).set_ 1 (.slice none 0 0)
  have hB5 := (hB.setCell (p := ⟨w.heap.size + 1 + 1, 0, none⟩) (by simp; omega) (.slice none 0 0)).setCell (p := ⟨w.heap.size + 1 + 1, 1, none⟩) (by simp; omega) (.slice none 0 0)
  clear x4 f4
  generalize World.setCell (World.setCell w4 _ _) _ _ = w8 at *
  have x4 := k5.cell
  refine bodyPost_ret (v := .tuple #[.agg #[.slice none 0 0, .slice none 0 0], .int .i64 8]) (by simp [results, Try.results28, go_sem, x4]) rfl ⟨grRes_no (by decide), hB5⟩
 have HHS : Hid (n ∉ ls) := Lib.hid (by simpa using hhs)
 clear hhs
 rintro e w4 ⟨rfl, hq⟩
 replace hB := below_grows hB (Nat.le_refl _) hq
 replace k1 := k1.grows hq
 replace k3 := k3.grows hq
 replace k4 := k4.grows hq
 clear hq x1 x3
 have x1 := k1.cell
 have x3 := k3.cell
 by_cases hful : 256 ≤ ls.length
 ·skip
  have x4 := k4.cell
  have f4 := k4.frozen
  go_wp2
  have k5 := (k4.set_ 0 (.slice none 0 0)).set_ 1 (.slice none 0 0)
  have hB5 := (hB.setCell (p := ⟨w.heap.size + 1 + 1, 0, none⟩) (by simp; omega) (.slice none 0 0)).setCell (p := ⟨w.heap.size + 1 + 1, 1, none⟩) (by simp; omega) (.slice none 0 0)
  clear x4 f4
  generalize World.setCell (World.setCell w4 _ _) _ _ = w8 at *
  have x4 := k5.cell
  refine bodyPost_ret (v := .tuple #[.agg #[.slice none 0 0, .slice none 0 0], .int .i64 3]) (by simp [results, Try.results28, go_sem, x4]) rfl ⟨grRes_no (by decide), hB5⟩
 go_wp2_with fail
 cases hcr : crowdL ns n ls
 case true =>
  have HCR := Lib.hid hcr
  clear hcr
  refine (crowd_is A A2 A2 c c2 c2 ls.length ls.length ns ls n true _ (h.grows hB).n h.nl (h.grows hB).l h.ll rfl HCR.out).mono ?_
  rintro e w5 ⟨rfl, hq⟩
  replace hB := below_grows hB (Nat.le_refl _) hq
  replace k1 := k1.grows hq
  replace k3 := k3.grows hq
  replace k4 := k4.grows hq
  clear hq x1 x3
  have x1 := k1.cell
  have x3 := k3.cell
  have x4 := k4.cell
  have f4 := k4.frozen
  go_wp2
  have k5 := (k4.set_ 0 (.slice none 0 0)).set_ 1 (.slice none 0 0)
  have hB5 := (hB.setCell (p := ⟨w.heap.size + 1 + 1, 0, none⟩) (by simp; omega) (.slice none 0 0)).setCell (p := ⟨w.heap.size + 1 + 1, 1, none⟩) (by simp; omega) (.slice none 0 0)
  clear x4 f4
  generalize World.setCell (World.setCell w5 _ _) _ _ = w8 at *
  have x4 := k5.cell
  refine bodyPost_ret (v := .tuple #[.agg #[.slice none 0 0, .slice none 0 0], .int .i64 10]) (by simp [results, Try.results28, go_sem, x4]) rfl ⟨grRes_no (by decide), hB5⟩
 have HCR := Lib.hid hcr
 clear hcr
 refine (crowd_is A A2 A2 c c2 c2 ls.length ls.length ns ls n false _ (h.grows hB).n h.nl (h.grows hB).l h.ll rfl HCR.out).mono ?_
 rintro e w5 ⟨rfl, hq⟩
 replace hB := below_grows hB (Nat.le_refl _) hq
 replace k1 := k1.grows hq
 replace k3 := k3.grows hq
 replace k4 := k4.grows hq
 clear hq x1 x3
 have x1 := k1.cell
 have x3 := k3.cell
 go_upto_region 12 with fail
 clear x1 x3
 go_loopw [6] (fun i wr => ∃ m : Nat, m ≤ ls.length ∧ i = .int .i64 m ∧ Hid (∀ x ∈ ls.take m, lessL x n = true) ∧ Blk wr w.heap.size 26 #[.slice A ns.length c, .slice A2 ls.length c2] ∧ Blk wr (w.heap.size + 1) 49 #[.int .i64 n.a, .int .i64 n.b, .int .i64 n.c, .int .i64 n.d] ∧ Blk wr (w.heap.size + 1 + 1) 26 #[.slice none 0 0, .slice none 0 0] ∧ Below w.heap.size w wr) (fun i _ => ls.length - (intOf i).toNat)
 case atStart => exact ⟨0, by omega, rfl, Lib.hid (by simp), k1, k3, k4, hB⟩
 case round =>
  clear k1 k3 k4 hB
  obtain ⟨m, hmd, rfl, HA, k1, k3, k4, hB⟩ := hrel
  have x1 := k1.cell
  have x3 := k3.cell
  by_cases hlt : m < ls.length
  ·obtain ⟨ad, x, e1, had, hx, hp⟩ := h.l.addr hlt
   subst e1
   have HX := Lib.hid hx
   clear hx
   cases hls : lessL x n
   ·have HLS := Lib.hid hls
    clear hls
    have HC : Hid (cutAt ls (fun x => lessL x n) m) := Lib.hid ⟨hmd, HA.out, fun y hy => by
     rw [HX.out] at hy
     injection hy with hy
     subst hy
     exact HLS.out⟩
    go_upto_region 12 with fail
    obtain ⟨S, HI, HO⟩ := hideS fun (L : Ran) (vs : Nat → Value) (w' : World) => Grows wr w' ∧ KnS [some (.int .i64 (m : Int)), some (.pointer (some ⟨w.heap.size, 1, none⟩)), some (.slice (some ad) ls.length c2), some (.int .i64 (ls.length : Int)), some (.bool true), some (.bool true), some (.pointer (some ⟨w.heap.size, 1, none⟩)), some (.slice (some ad) ls.length c2), some (.int .i64 (m : Int)), some (.pointer (some (ad.add (m * 4)))), some (.agg #[.int .i64 x.a, .int .i64 x.b, .int .i64 x.c, .int .i64 x.d]), some (.agg #[.int .i64 n.a, .int .i64 n.b, .int .i64 n.c, .int .i64 n.d]), some (.bool false), some (.bool false)] L vs
    refine wp_region_genW S 81 (by kernel_rfl) (by kernel_rfl) rfl ?_ ?_
    ·exact HI.out _ _ _ ⟨Grows.drew' _, kn_none _ _⟩
    refine gen_consR (fun vs L w1 hL hw1 => ?_) ?_
    ·obtain ⟨q0, q1⟩ := HO.out _ _ _ hw1
     refine gen_plain rfl ?_
     go_simp
     exact gr_val (HI.out _ _ _ ⟨q0, kn_known q1 rfl⟩)
    refine gen_consR (fun vs L w1 hL hw1 => ?_) ?_
    ·obtain ⟨q0, q1⟩ := HO.out _ _ _ hw1
     refine gen_plain rfl ?_
     go_simp
     exact gr_val (HI.out _ _ _ ⟨q0, kn_known q1 rfl⟩)
    refine gen_consR (fun vs L w1 hL hw1 => ?_) ?_
    ·obtain ⟨q0, q1⟩ := HO.out _ _ _ hw1
     refine gen_plain rfl ?_
     have l1 : L 1 = true := hL.need 1 (by kernel_rfl)
     have e1 := q1 1 _ rfl l1
     have x := (k1.grows q0).cell 1
     simp only [e1]
     go_simp
     exact gr_val (HI.out _ _ _ ⟨q0, kn_known q1 rfl⟩)
    refine gen_consR (fun vs L w1 hL hw1 => ?_) ?_
    ·obtain ⟨q0, q1⟩ := HO.out _ _ _ hw1
     refine gen_plain rfl ?_
     have l2 : L 2 = true := hL.need 2 (by kernel_rfl)
     have e2 := q1 2 _ rfl l2
     simp only [e2]
     go_simp
     exact gr_val (HI.out _ _ _ ⟨q0, kn_known q1 rfl⟩)
    refine gen_consR (fun vs L w1 hL hw1 => ?_) ?_
    ·obtain ⟨q0, q1⟩ := HO.out _ _ _ hw1
     refine gen_plain rfl ?_
     have l0 : L 0 = true := hL.need 0 (by kernel_rfl)
     have e0 := q1 0 _ rfl l0
     have l3 : L 3 = true := hL.need 3 (by kernel_rfl)
     have e3 := q1 3 _ rfl l3
     simp only [e0, e3]
     go_simp
     exact gr_val (HI.out _ _ _ ⟨q0, kn_known q1 rfl⟩)
    refine gen_consR (fun vs L w1 hL hw1 => ?_) ?_
    ·obtain ⟨q0, q1⟩ := HO.out _ _ _ hw1
     refine gen_plain rfl ?_
     have l4 : L 4 = true := hL.need 4 (by kernel_rfl)
     have e4 := q1 4 _ rfl l4
     simp only [e4]
     go_simp
     exact gr_val (HI.out _ _ _ ⟨q0, kn_known q1 rfl⟩)
    refine gen_consR (fun vs L w1 hL hw1 => ?_) ?_
    ·obtain ⟨q0, q1⟩ := HO.out _ _ _ hw1
     have l5 : L 5 = true := hL.need 5 (by kernel_rfl)
     have e5 := q1 5 _ rfl l5
     refine gen_yes ?_ ?_
     ·simp only [e5]
      rfl
     go_simp
     exact gr_val (HI.out _ _ _ ⟨q0, kn_known q1 rfl⟩)
    refine gen_consR (fun vs L w1 hL hw1 => ?_) ?_
    ·obtain ⟨q0, q1⟩ := HO.out _ _ _ hw1
     have l5 : L 5 = true := hL.need 5 (by kernel_rfl)
     have e5 := q1 5 _ rfl l5
     refine gen_yes ?_ ?_
     ·simp only [e5]
      rfl
     have l6 : L 6 = true := hL.need 6 (by kernel_rfl)
     have e6 := q1 6 _ rfl l6
     have x := (k1.grows q0).cell 1
     simp only [e6]
     go_simp
     exact gr_val (HI.out _ _ _ ⟨q0, kn_known q1 rfl⟩)
    refine gen_consR (fun vs L w1 hL hw1 => ?_) ?_
    ·obtain ⟨q0, q1⟩ := HO.out _ _ _ hw1
     have l5 : L 5 = true := hL.need 5 (by kernel_rfl)
     have e5 := q1 5 _ rfl l5
     refine gen_yes ?_ ?_
     ·simp only [e5]
      rfl
     go_simp
     exact gr_val (HI.out _ _ _ ⟨q0, kn_known q1 rfl⟩)
    refine gen_consR (fun vs L w1 hL hw1 => ?_) ?_
    ·obtain ⟨q0, q1⟩ := HO.out _ _ _ hw1
     have l5 : L 5 = true := hL.need 5 (by kernel_rfl)
     have e5 := q1 5 _ rfl l5
     refine gen_yes ?_ ?_
     ·simp only [e5]
      rfl
     have l7 : L 7 = true := hL.need 7 (by kernel_rfl)
     have e7 := q1 7 _ rfl l7
     have l8 : L 8 = true := hL.need 8 (by kernel_rfl)
     have e8 := q1 8 _ rfl l8
     simp only [e7, e8]
     go_simp
     exact gr_val (HI.out _ _ _ ⟨q0, kn_known q1 rfl⟩)
    refine gen_consR (fun vs L w1 hL hw1 => ?_) ?_
    ·obtain ⟨q0, q1⟩ := HO.out _ _ _ hw1
     have l5 : L 5 = true := hL.need 5 (by kernel_rfl)
     have e5 := q1 5 _ rfl l5
     refine gen_yes ?_ ?_
     ·simp only [e5]
      rfl
     have l9 : L 9 = true := hL.need 9 (by kernel_rfl)
     have e9 := q1 9 _ rfl l9
     simp only [e9]
     obtain ⟨y0, y1, y2, y3⟩ := hp _ (below_grows hB (Nat.le_refl _) q0)
     go_simp
     exact gr_val (HI.out _ _ _ ⟨q0, kn_known q1 rfl⟩)
    refine gen_consR (fun vs L w1 hL hw1 => ?_) ?_
    ·obtain ⟨q0, q1⟩ := HO.out _ _ _ hw1
     have l5 : L 5 = true := hL.need 5 (by kernel_rfl)
     have e5 := q1 5 _ rfl l5
     refine gen_yes ?_ ?_
     ·simp only [e5]
      rfl
     have x := (k3.grows q0).cell 
     go_simp
     exact gr_val (HI.out _ _ _ ⟨q0, kn_known q1 rfl⟩)
    refine gen_consR (fun vs L w1 hL hw1 => ?_) ?_
    ·obtain ⟨q0, q1⟩ := HO.out _ _ _ hw1
     have l5 : L 5 = true := hL.need 5 (by kernel_rfl)
     have e5 := q1 5 _ rfl l5
     refine gen_yes ?_ ?_
     ·simp only [e5]
      rfl
     have l10 : L 10 = true := hL.need 10 (by kernel_rfl)
     have e10 := q1 10 _ rfl l10
     have l11 : L 11 = true := hL.need 11 (by kernel_rfl)
     have e11 := q1 11 _ rfl l11
     simp only [e10, e11]
     go_simp
     refine gr_call ?_
     refine (less_is x n false w1 HLS.out).mono ?_
     rintro e w2 ⟨rfl, hg⟩
     exact ⟨_, rfl, HI.out _ _ _ ⟨below_grows q0 (Nat.le_refl _) hg, kn_known q1 rfl⟩⟩
    refine gen_consR (fun vs L w1 hL hw1 => ?_) ?_
    ·obtain ⟨q0, q1⟩ := HO.out _ _ _ hw1
     refine gen_plain rfl ?_
     have l5 : L 5 = true := hL.need 5 (by kernel_rfl)
     have e5 := q1 5 _ rfl l5
     have l12 : L 12 = true := hL.need 12 (by kernel_rfl)
     have e12 := q1 12 _ rfl l12
     simp only [e5, e12]
     go_simp
     exact gr_val (HI.out _ _ _ ⟨q0, kn_known q1 rfl⟩)
    refine gen_nil ?_
    intro vs L W6 hall hS
    obtain ⟨hq, q1⟩ := HO.out _ _ _ hS
    have eX13 := q1 13 _ rfl (hall 13 (by simp))
    clear hall hS HI HO q1
    simp only [eX13]
    clear eX13
    simp only [Nat.zero_add, Nat.reduceAdd]
    replace hB := below_grows hB (Nat.le_refl _) hq
    replace k1 := k1.grows hq
    replace k3 := k3.grows hq
    replace k4 := k4.grows hq
    clear hq x1 x3
    generalize W6 = w6 at *
    go_upto_region 14 with fail
    have hQ := (h.grows hB).l
    have hc := h.lc
    have hmc : m ≤ c2 := by omega
    obtain ⟨S, HI, HO⟩ := hideS fun (L : Ran) (vs : Nat → Value) (w' : World) => Grows w6 w' ∧ KnS [some (.pointer (some ⟨w.heap.size, 1, none⟩)), some (.slice (some ad) ls.length c2), some (.int .i64 (m : Int)), some (.slice (some ad) m c2), none, some (.agg #[.int .i64 n.a, .int .i64 n.b, .int .i64 n.c, .int .i64 n.d]), none, none, some (.pointer (some ⟨w.heap.size, 1, none⟩)), some (.slice (some ad) ls.length c2), some (.int .i64 (m : Int)), some (.slice (if c2 = m then (some ad) else (some ad).map (fun x => x.add (m * 4))) (ls.length - m) (c2 - m)), none] L vs ∧ (L 4 = true → L 7 = false → OwnL w' w6.heap.size (vs 4) (ls.take m)) ∧ (L 6 = true → L 7 = false → ∃ gb, vs 6 = .slice (some ⟨gb, 0, none⟩) 1 1 ∧ Qs w' (some ⟨gb, 0, none⟩) [n]) ∧ (L 7 = true → L 12 = false → OwnL w' w6.heap.size (vs 7) (ls.take m ++ [n])) ∧ (L 12 = true → OwnL w' w6.heap.size (vs 12) (ls.take m ++ [n] ++ ls.drop m)) ∧ (L 7 = true → L 4 = true ∧ L 6 = true) ∧ (L 12 = true → L 7 = true)
    refine wp_region_genT S 13 81 (by kernel_rfl) (by kernel_rfl) rfl ?_ ?_
    ·exact HI.out _ _ _ ⟨Grows.drew' _, kn_none _ _, (fun h => by cases h), (fun h => by cases h), (fun h => by cases h), (fun h => by cases h), (fun h => by cases h), (fun h => by cases h)⟩
    simp only [List.take_succ_cons, List.take_zero, List.drop_succ_cons, List.drop_zero]
    refine gent_consR (fun vs L w1 hL hw1 => ?_) ?_
    ·obtain ⟨q0, q1, q3, q5, q6, qa, h6, ha⟩ := HO.out _ _ _ hw1
     refine gen_plain rfl ?_
     go_simp
     exact gr_val (HI.out _ _ _ ⟨q0, kn_known q1 rfl, q3, q5, q6, qa, h6, ha⟩)
    refine gent_consR (fun vs L w1 hL hw1 => ?_) ?_
    ·obtain ⟨q0, q1, q3, q5, q6, qa, h6, ha⟩ := HO.out _ _ _ hw1
     have l0 : L 0 = true := hL.need 0 (by kernel_rfl)
     have e0 := q1 0 _ rfl l0
     have x := (k1.grows q0).cell 1
     refine gen_plain rfl ?_
     simp only [e0]
     go_simp
     exact gr_val (HI.out _ _ _ ⟨q0, kn_known q1 rfl, q3, q5, q6, qa, h6, ha⟩)
    refine gent_consR (fun vs L w1 hL hw1 => ?_) ?_
    ·obtain ⟨q0, q1, q3, q5, q6, qa, h6, ha⟩ := HO.out _ _ _ hw1
     refine gen_plain rfl ?_
     go_simp
     exact gr_val (HI.out _ _ _ ⟨q0, kn_known q1 rfl, q3, q5, q6, qa, h6, ha⟩)
    refine gent_consR (fun vs L w1 hL hw1 => ?_) ?_
    ·obtain ⟨q0, q1, q3, q5, q6, qa, h6, ha⟩ := HO.out _ _ _ hw1
     have l1 : L 1 = true := hL.need 1 (by kernel_rfl)
     have e1 := q1 1 _ rfl l1
     have l2 : L 2 = true := hL.need 2 (by kernel_rfl)
     have e2 := q1 2 _ rfl l2
     refine gen_plain rfl ?_
     simp only [e1, e2]
     go_simp
     exact gr_val (HI.out _ _ _ ⟨q0, kn_known q1 rfl, q3, q5, q6, qa, h6, ha⟩)
    refine gent_consR (fun vs L w1 hL hw1 => ?_) ?_
    ·obtain ⟨q0, q1, q3, q5, q6, qa, h6, ha⟩ := HO.out _ _ _ hw1
     have n4 : L 4 = false := hL.1
     have n7 : L 7 = false := by
      cases h : L 7
      ·rfl
      ·rw [(h6 h).1] at n4; cases n4
     have n12 : L 12 = false := by
      cases h : L 12
      ·rfl
      ·rw [ha h] at n7; cases n7
     have l3 : L 3 = true := hL.need 3 (by kernel_rfl)
     have e3 := q1 3 _ rfl l3
     refine gen_plain rfl ?_
     refine gr_append_link (.const (.slice none 0 0)) (.tmp 57) rfl (l := []) (m := ls.take m) (by rw [List.length_take]; omega) rfl (ownL_nil w1 w6.heap.size) e3 (qs_take (hQ.grows q0) m hmd) (by simp only [List.length_nil, List.length_take]; omega) q0.size ?_
     intro v3 w3 o3 g3
     have hg : Grows w1 w3 := (Below.refl _ _).grown g3 (Nat.le_refl _) (fun q hq => by cases hq)
     exact HI.out _ _ _ ⟨below_grows q0 (Nat.le_refl _) hg, kn_free q1 rfl, fun _ _ => o3, (fun h h0 => by obtain ⟨gb, e, s⟩ := q5 h h0; exact ⟨gb, e, s.grows hg⟩), (fun h _ => by rw [show L 7 = true from h] at n7; cases n7), (fun h => by rw [show L 12 = true from h] at n12; cases n12), (fun h => by rw [show L 7 = true from h] at n7; cases n7), (fun h => by rw [show L 12 = true from h] at n12; cases n12)⟩
    refine gent_consR (fun vs L w1 hL hw1 => ?_) ?_
    ·obtain ⟨q0, q1, q3, q5, q6, qa, h6, ha⟩ := HO.out _ _ _ hw1
     have x := (k3.grows q0).cell
     refine gen_plain rfl ?_
     go_simp
     exact gr_val (HI.out _ _ _ ⟨q0, kn_known q1 rfl, q3, q5, q6, qa, h6, ha⟩)
    refine gent_consR (fun vs L w1 hL hw1 => ?_) ?_
    ·obtain ⟨q0, q1, q3, q5, q6, qa, h6, ha⟩ := HO.out _ _ _ hw1
     have n6 : L 6 = false := hL.1
     have n7 : L 7 = false := by
      cases h : L 7
      ·rfl
      ·rw [(h6 h).2] at n6; cases n6
     have n12 : L 12 = false := by
      cases h : L 12
      ·rfl
      ·rw [ha h] at n7; cases n7
     have l5 : L 5 = true := hL.need 5 (by kernel_rfl)
     have e5 := q1 5 _ rfl l5
     refine gen_plain rfl ?_
     simp only [e5]
     go_simp
     have hg := (Below.refl w1.heap.size w1).alloc (Nat.le_refl _) (Obj.cells #[.int .i64 n.a, .int .i64 n.b, .int .i64 n.c, .int .i64 n.d] 49)
     exact gr_val (HI.out _ _ _ ⟨below_grows q0 (Nat.le_refl _) hg, kn_free q1 rfl, (fun h h0 => (q3 h h0).grows hg), (fun _ _ => ⟨_, rfl, qs_lit w1 n _⟩), (fun h _ => by rw [show L 7 = true from h] at n7; cases n7), (fun h => by rw [show L 12 = true from h] at n12; cases n12), (fun h => by rw [show L 7 = true from h] at n7; cases n7), (fun h => by rw [show L 12 = true from h] at n12; cases n12)⟩)
    refine gent_consR (fun vs L w1 hL hw1 => ?_) ?_
    ·obtain ⟨q0, q1, q3, q5, q6, qa, h6, ha⟩ := HO.out _ _ _ hw1
     have n7 : L 7 = false := hL.1
     have n12 : L 12 = false := by
      cases h : L 12
      ·rfl
      ·rw [ha h] at n7; cases n7
     have l4 : L 4 = true := hL.need 4 (by kernel_rfl)
     have l6 : L 6 = true := hL.need 6 (by kernel_rfl)
     have o3 := q3 l4 n7
     obtain ⟨gb, e5, s5⟩ := q5 l6 n7
     refine gen_plain rfl ?_
     refine gr_append_link (.tmp 58) (.tmp 60) rfl (m := [n]) rfl rfl o3 e5 s5 (by simp only [List.length_take, List.length_cons, List.length_nil]; omega) q0.size ?_
     intro v3 w3 o6 g3
     have hg := o3.below q0 g3 q0.size
     exact HI.out _ _ _ ⟨hg, kn_free q1 rfl, (fun _ h => by cases h), (fun _ h => by cases h), fun _ _ => o6, (fun h => by rw [show L 12 = true from h] at n12; cases n12), fun _ => ⟨l4, l6⟩, (fun h => by rw [show L 12 = true from h] at n12; cases n12)⟩
    refine gent_consR (fun vs L w1 hL hw1 => ?_) ?_
    ·obtain ⟨q0, q1, q3, q5, q6, qa, h6, ha⟩ := HO.out _ _ _ hw1
     refine gen_plain rfl ?_
     go_simp
     exact gr_val (HI.out _ _ _ ⟨q0, kn_known q1 rfl, q3, q5, q6, qa, h6, ha⟩)
    refine gent_consR (fun vs L w1 hL hw1 => ?_) ?_
    ·obtain ⟨q0, q1, q3, q5, q6, qa, h6, ha⟩ := HO.out _ _ _ hw1
     have l8 : L 8 = true := hL.need 8 (by kernel_rfl)
     have e8 := q1 8 _ rfl l8
     have x := (k1.grows q0).cell 1
     refine gen_plain rfl ?_
     simp only [e8]
     go_simp
     exact gr_val (HI.out _ _ _ ⟨q0, kn_known q1 rfl, q3, q5, q6, qa, h6, ha⟩)
    refine gent_consR (fun vs L w1 hL hw1 => ?_) ?_
    ·obtain ⟨q0, q1, q3, q5, q6, qa, h6, ha⟩ := HO.out _ _ _ hw1
     refine gen_plain rfl ?_
     go_simp
     exact gr_val (HI.out _ _ _ ⟨q0, kn_known q1 rfl, q3, q5, q6, qa, h6, ha⟩)
    refine gent_consR (fun vs L w1 hL hw1 => ?_) ?_
    ·obtain ⟨q0, q1, q3, q5, q6, qa, h6, ha⟩ := HO.out _ _ _ hw1
     have l9 : L 9 = true := hL.need 9 (by kernel_rfl)
     have e9 := q1 9 _ rfl l9
     have l10 : L 10 = true := hL.need 10 (by kernel_rfl)
     have e10 := q1 10 _ rfl l10
     refine gen_plain rfl ?_
     simp only [e9, e10]
     go_simp
     exact gr_val (HI.out _ _ _ ⟨q0, kn_known q1 rfl, q3, q5, q6, qa, h6, ha⟩)
    refine gent_consR (fun vs L w1 hL hw1 => ?_) ?_
    ·obtain ⟨q0, q1, q3, q5, q6, qa, h6, ha⟩ := HO.out _ _ _ hw1
     have n12 : L 12 = false := hL.1
     have l7 : L 7 = true := hL.need 7 (by kernel_rfl)
     have o6 := q6 l7 n12
     have l11 : L 11 = true := hL.need 11 (by kernel_rfl)
     have e11 := q1 11 _ rfl l11
     refine gen_plain rfl ?_
     refine gr_append_link (.tmp 61) (.tmp 65) rfl (m := ls.drop m) (by simp) rfl o6 e11 (qs_drop (hQ.grows q0) hmd hc) (by simp only [List.length_append, List.length_take, List.length_drop, List.length_cons, List.length_nil]; omega) q0.size ?_
     intro v3 w3 o7 g3
     have hg := o6.below q0 g3 q0.size
     exact HI.out _ _ _ ⟨hg, kn_free q1 rfl, (fun h h0 => by rw [show L 7 = false from h0] at l7; cases l7), (fun h h0 => by rw [show L 7 = false from h0] at l7; cases l7), (fun _ h => by cases h), fun _ => o7, h6, fun _ => l7⟩
    refine gent_nil ?_
    intro vs L W2 hall hS
    obtain ⟨hq, -, -, -, -, qa, -, -⟩ := HO.out _ _ _ hS
    have hown2 := qa (hall 12 (by omega))
    clear hall hS HI HO qa
    have hown3 := hown2.mono hB.size
    replace hB := below_grows hB (Nat.le_refl _) hq
    replace k1 := k1.grows hq
    replace k4 := k4.grows hq
    clear hown2 hq k3 hQ
    generalize vs 12 = v12 at *
    have x1 := k1.cell
    go_upto_region 15 with fail
    refine wp_region_lit ?_
    iterate 2
     refine wpList_plain rfl (fun K hK => ?_)
     go_simp
     refine hK _ _ ?_
     clear hK K
    refine wpList_append_node rfl (.const (.slice none 0 0)) (.tmp 68) rfl (l := []) (m := ns) rfl rfl (ownN_nil _ w.heap.size) rfl (h.grows hB).n (by simp only [List.length_nil]; omega) hB.size ?_
    intro v13 w13 hown13 hgr13 _
    have hq : Grows W2 w13 := (Below.refl _ _).grown hgr13 (Nat.le_refl _) (fun q hq => by cases hq)
    replace hB := below_grows hB (Nat.le_refl _) hq
    replace k4 := k4.grows hq
    replace hown3 := hown3.grows hq
    clear hq hgr13 x1 k1
    rw [List.nil_append] at hown13
    obtain ⟨A7, n7, c7, hv7, e7, hq7⟩ := OwnL.slq (l := insN ls m n) hown3
    obtain ⟨A9, n9, c9, hv9, e9, hq9⟩ := OwnN.slq hown13
    have hl9 : n9 ≤ 64 := by omega
    have hl7 : n7 ≤ 9223372036854775807 := by rw [← e7, ins_length hmd]; omega
    have hn7 := Lib.hid e7
    have hn9 := Lib.hid e9
    subst hv7
    subst hv9
    clear e7 e9
    have k8 := Blk.new w13 26 #[.slice A9 n9 c9, .slice A7 n7 c7]
    have hq := (Below.refl w13.heap.size w13).alloc (Nat.le_refl _) (Obj.cells #[.slice A9 n9 c9, .slice A7 n7 c7] 26)
    go_upto_region 16 with fail
    replace hB := below_grows hB (Nat.le_refl _) hq
    replace k4 := k4.grows hq
    replace hown3 := hown3.grows hq
    replace hown13 := hown13.grows hq
    replace hq7 := hq7.grows hq
    replace hq9 := hq9.grows hq
    clear hq
    generalize World.alloc w13 _ = w9 at *
    generalize w13.heap.size = G8 at *
    obtain ⟨mm, hmm⟩ : ∃ mm, (orderL ns (insN ls m n)).length = mm := ⟨_, rfl⟩
    have HMM := Lib.hid hmm
    clear hmm
    by_cases hlo : mm < n9
    ·skip
     obtain ⟨S, HI, HO⟩ := hideS fun (L : Ran) (vs : Nat → Value) (w' : World) => Grows w9 w' ∧ KnS [some (.agg #[.slice A9 n9 c9, .slice A7 n7 c7]), none, some (.int .i64 (mm : Int)), some (.pointer (some ⟨G8, 0, none⟩)), some (.slice A9 n9 c9), some (.int .i64 (n9 : Int)), some (.bool true)] L vs ∧ DsS [none, some (gLen mm), none, none, none, none, none] L vs w'
     refine wp_region_genW S 81 (by kernel_rfl) (by kernel_rfl) rfl ?_ ?_
     ·exact HI.out _ _ _ ⟨Grows.drew' _, kn_none _ _, ds_none _ _ _⟩
     refine gen_consR (fun vs L w1 hL hw1 => ?_) ?_
     ·obtain ⟨q0, q1, q2⟩ := HO.out _ _ _ hw1
      refine gen_plain rfl ?_
      have x := (k8.grows q0).cell 
      go_simp
      exact gr_val (HI.out _ _ _ ⟨q0, kn_known q1 rfl, ds_free q2 rfl⟩)
     refine gen_consR (fun vs L w1 hL hw1 => ?_) ?_
     ·obtain ⟨q0, q1, q2⟩ := HO.out _ _ _ hw1
      refine gen_plain rfl ?_
      have l0 : L 0 = true := hL.need 0 (by kernel_rfl)
      have e0 := q1 0 _ rfl l0
      simp only [e0]
      go_simp
      refine gr_call ?_
      refine (order_is A9 A7 c9 c7 n9 n7 mm ns (insN ls m n) w1 (hq9.grows q0) hn9.out (hq7.grows q0) hn7.out (by omega) (by omega) (valid_ids HV.out) HMM.out).mono ?_
      rintro e w2 ⟨⟨v, rfl, hv⟩, hg⟩
      exact ⟨_, rfl, HI.out _ _ _ ⟨below_grows q0 (Nat.le_refl _) hg, kn_free q1 rfl, ds_put (q2.grows hg) rfl (hv)⟩⟩
     refine gen_consR (fun vs L w1 hL hw1 => ?_) ?_
     ·obtain ⟨q0, q1, q2⟩ := HO.out _ _ _ hw1
      refine gen_plain rfl ?_
      have l1 : L 1 = true := hL.need 1 (by kernel_rfl)
      obtain ⟨A1, c1, e1⟩ := q2 1 _ rfl l1
      simp only [e1]
      go_simp
      exact gr_val (HI.out _ _ _ ⟨q0, kn_known q1 rfl, ds_free q2 rfl⟩)
     refine gen_consR (fun vs L w1 hL hw1 => ?_) ?_
     ·obtain ⟨q0, q1, q2⟩ := HO.out _ _ _ hw1
      refine gen_plain rfl ?_
      go_simp
      exact gr_val (HI.out _ _ _ ⟨q0, kn_known q1 rfl, ds_free q2 rfl⟩)
     refine gen_consR (fun vs L w1 hL hw1 => ?_) ?_
     ·obtain ⟨q0, q1, q2⟩ := HO.out _ _ _ hw1
      refine gen_plain rfl ?_
      have l3 : L 3 = true := hL.need 3 (by kernel_rfl)
      have e3 := q1 3 _ rfl l3
      have x := (k8.grows q0).cell 0
      simp only [e3]
      go_simp
      exact gr_val (HI.out _ _ _ ⟨q0, kn_known q1 rfl, ds_free q2 rfl⟩)
     refine gen_consR (fun vs L w1 hL hw1 => ?_) ?_
     ·obtain ⟨q0, q1, q2⟩ := HO.out _ _ _ hw1
      refine gen_plain rfl ?_
      have l4 : L 4 = true := hL.need 4 (by kernel_rfl)
      have e4 := q1 4 _ rfl l4
      simp only [e4]
      go_simp
      exact gr_val (HI.out _ _ _ ⟨q0, kn_known q1 rfl, ds_free q2 rfl⟩)
     refine gen_consR (fun vs L w1 hL hw1 => ?_) ?_
     ·obtain ⟨q0, q1, q2⟩ := HO.out _ _ _ hw1
      refine gen_plain rfl ?_
      have l2 : L 2 = true := hL.need 2 (by kernel_rfl)
      have e2 := q1 2 _ rfl l2
      have l5 : L 5 = true := hL.need 5 (by kernel_rfl)
      have e5 := q1 5 _ rfl l5
      simp only [e2, e5]
      go_simp
      exact gr_val (HI.out _ _ _ ⟨q0, kn_known q1 rfl, ds_free q2 rfl⟩)
     refine gen_nil ?_
     intro vs L W6 hall hS
     obtain ⟨hq, q1, q2⟩ := HO.out _ _ _ hS
     have eX6 := q1 6 _ rfl (hall 6 (by simp))
     clear hall hS HI HO q1 q2
     simp only [eX6]
     clear eX6
     simp only [Nat.zero_add, Nat.reduceAdd]
     replace hB := below_grows hB (Nat.le_refl _) hq
     replace k4 := k4.grows hq
     replace k8 := k8.grows hq
     replace hown3 := hown3.grows hq
     replace hown13 := hown13.grows hq
     clear hq hq7 hq9
     generalize W6 = w10 at *
     have x4 := k4.cell
     have f4 := k4.frozen
     go_wp2
     have k5 := (k4.set_ 0 (.slice none 0 0)).set_ 1 (.slice none 0 0)
     have hB5 := (hB.setCell (p := ⟨w.heap.size + 1 + 1, 0, none⟩) (by simp; omega) (.slice none 0 0)).setCell (p := ⟨w.heap.size + 1 + 1, 1, none⟩) (by simp; omega) (.slice none 0 0)
     clear x4 f4
     generalize World.setCell (World.setCell w10 _ _) _ _ = w8 at *
     have x4 := k5.cell
     refine bodyPost_ret (v := .tuple #[.agg #[.slice none 0 0, .slice none 0 0], .int .i64 12]) (by simp [results, Try.results28, go_sem, x4]) rfl ⟨grRes_no (by decide), hB5⟩
    ·skip
     obtain ⟨S, HI, HO⟩ := hideS fun (L : Ran) (vs : Nat → Value) (w' : World) => Grows w9 w' ∧ KnS [some (.agg #[.slice A9 n9 c9, .slice A7 n7 c7]), none, some (.int .i64 (mm : Int)), some (.pointer (some ⟨G8, 0, none⟩)), some (.slice A9 n9 c9), some (.int .i64 (n9 : Int)), some (.bool false)] L vs ∧ DsS [none, some (gLen mm), none, none, none, none, none] L vs w'
     refine wp_region_genW S 81 (by kernel_rfl) (by kernel_rfl) rfl ?_ ?_
     ·exact HI.out _ _ _ ⟨Grows.drew' _, kn_none _ _, ds_none _ _ _⟩
     refine gen_consR (fun vs L w1 hL hw1 => ?_) ?_
     ·obtain ⟨q0, q1, q2⟩ := HO.out _ _ _ hw1
      refine gen_plain rfl ?_
      have x := (k8.grows q0).cell 
      go_simp
      exact gr_val (HI.out _ _ _ ⟨q0, kn_known q1 rfl, ds_free q2 rfl⟩)
     refine gen_consR (fun vs L w1 hL hw1 => ?_) ?_
     ·obtain ⟨q0, q1, q2⟩ := HO.out _ _ _ hw1
      refine gen_plain rfl ?_
      have l0 : L 0 = true := hL.need 0 (by kernel_rfl)
      have e0 := q1 0 _ rfl l0
      simp only [e0]
      go_simp
      refine gr_call ?_
      refine (order_is A9 A7 c9 c7 n9 n7 mm ns (insN ls m n) w1 (hq9.grows q0) hn9.out (hq7.grows q0) hn7.out (by omega) (by omega) (valid_ids HV.out) HMM.out).mono ?_
      rintro e w2 ⟨⟨v, rfl, hv⟩, hg⟩
      exact ⟨_, rfl, HI.out _ _ _ ⟨below_grows q0 (Nat.le_refl _) hg, kn_free q1 rfl, ds_put (q2.grows hg) rfl (hv)⟩⟩
     refine gen_consR (fun vs L w1 hL hw1 => ?_) ?_
     ·obtain ⟨q0, q1, q2⟩ := HO.out _ _ _ hw1
      refine gen_plain rfl ?_
      have l1 : L 1 = true := hL.need 1 (by kernel_rfl)
      obtain ⟨A1, c1, e1⟩ := q2 1 _ rfl l1
      simp only [e1]
      go_simp
      exact gr_val (HI.out _ _ _ ⟨q0, kn_known q1 rfl, ds_free q2 rfl⟩)
     refine gen_consR (fun vs L w1 hL hw1 => ?_) ?_
     ·obtain ⟨q0, q1, q2⟩ := HO.out _ _ _ hw1
      refine gen_plain rfl ?_
      go_simp
      exact gr_val (HI.out _ _ _ ⟨q0, kn_known q1 rfl, ds_free q2 rfl⟩)
     refine gen_consR (fun vs L w1 hL hw1 => ?_) ?_
     ·obtain ⟨q0, q1, q2⟩ := HO.out _ _ _ hw1
      refine gen_plain rfl ?_
      have l3 : L 3 = true := hL.need 3 (by kernel_rfl)
      have e3 := q1 3 _ rfl l3
      have x := (k8.grows q0).cell 0
      simp only [e3]
      go_simp
      exact gr_val (HI.out _ _ _ ⟨q0, kn_known q1 rfl, ds_free q2 rfl⟩)
     refine gen_consR (fun vs L w1 hL hw1 => ?_) ?_
     ·obtain ⟨q0, q1, q2⟩ := HO.out _ _ _ hw1
      refine gen_plain rfl ?_
      have l4 : L 4 = true := hL.need 4 (by kernel_rfl)
      have e4 := q1 4 _ rfl l4
      simp only [e4]
      go_simp
      exact gr_val (HI.out _ _ _ ⟨q0, kn_known q1 rfl, ds_free q2 rfl⟩)
     refine gen_consR (fun vs L w1 hL hw1 => ?_) ?_
     ·obtain ⟨q0, q1, q2⟩ := HO.out _ _ _ hw1
      refine gen_plain rfl ?_
      have l2 : L 2 = true := hL.need 2 (by kernel_rfl)
      have e2 := q1 2 _ rfl l2
      have l5 : L 5 = true := hL.need 5 (by kernel_rfl)
      have e5 := q1 5 _ rfl l5
      simp only [e2, e5]
      go_simp
      exact gr_val (HI.out _ _ _ ⟨q0, kn_known q1 rfl, ds_free q2 rfl⟩)
     refine gen_nil ?_
     intro vs L W6 hall hS
     obtain ⟨hq, q1, q2⟩ := HO.out _ _ _ hS
     have eX6 := q1 6 _ rfl (hall 6 (by simp))
     clear hall hS HI HO q1 q2
     simp only [eX6]
     clear eX6
     simp only [Nat.zero_add, Nat.reduceAdd]
     replace hB := below_grows hB (Nat.le_refl _) hq
     replace k4 := k4.grows hq
     replace k8 := k8.grows hq
     replace hown3 := hown3.grows hq
     replace hown13 := hown13.grows hq
     clear hq hq7 hq9
     generalize W6 = w10 at *
     have x8 := k8.cell
     have x4 := k4.cell
     have f4 := k4.frozen
     go_wp2
     have k5 := (k4.set_ 0 (.slice A9 n9 c9)).set_ 1 (.slice A7 n7 c7)
     have hB5 := (hB.setCell (p := ⟨w.heap.size + 1 + 1, 0, none⟩) (by simp; omega) (.slice A9 n9 c9)).setCell (p := ⟨w.heap.size + 1 + 1, 1, none⟩) (by simp; omega) (.slice A7 n7 c7)
     have hn1 := OwnN.put hown13 k4 0 (.slice A9 n9 c9)
     have hn2 := OwnN.put hn1 (k4.set_ 0 (.slice A9 n9 c9)) 1 (.slice A7 n7 c7)
     have hl1 := OwnL.put hown3 k4 0 (.slice A9 n9 c9)
     have hl2 := OwnL.put hl1 (k4.set_ 0 (.slice A9 n9 c9)) 1 (.slice A7 n7 c7)
     clear x4 f4 x8 hn1 hl1 hown3 hown13 k4 hB
     generalize World.setCell (World.setCell w10 _ _) _ _ = w8 at *
     have x4 := k5.cell
     refine bodyPost_ret (v := .tuple #[.agg #[.slice A9 n9 c9, .slice A7 n7 c7], .int .i64 0]) (by simp [results, Try.results28, go_sem, x4]) rfl ⟨grRes_yes hn2 hl2 ⟨valid_connect HV.out HPO.out HHS.out (by omega) HCR.out HC.out (by have h1 := HMM.out; have h2 := hn9.out; omega), rfl, Nat.le_of_eq (ins_length hmd)⟩, hB5⟩
   ·have HLS := Lib.hid hls
    clear hls
    have HA2 : Hid (∀ x ∈ ls.take (m + 1), lessL x n = true) := Lib.hid (by
     rw [take_snoc HX.out]
     intro y hy
     rcases List.mem_append.1 hy with hy | hy
     ·exact HA.out y hy
     ·simp only [List.mem_singleton] at hy
      subst hy
      exact HLS.out)
    go_upto_region 12 with fail
    obtain ⟨S, HI, HO⟩ := hideS fun (L : Ran) (vs : Nat → Value) (w' : World) => Grows wr w' ∧ KnS [some (.int .i64 (m : Int)), some (.pointer (some ⟨w.heap.size, 1, none⟩)), some (.slice (some ad) ls.length c2), some (.int .i64 (ls.length : Int)), some (.bool true), some (.bool true), some (.pointer (some ⟨w.heap.size, 1, none⟩)), some (.slice (some ad) ls.length c2), some (.int .i64 (m : Int)), some (.pointer (some (ad.add (m * 4)))), some (.agg #[.int .i64 x.a, .int .i64 x.b, .int .i64 x.c, .int .i64 x.d]), some (.agg #[.int .i64 n.a, .int .i64 n.b, .int .i64 n.c, .int .i64 n.d]), some (.bool true), some (.bool true)] L vs
    refine wp_region_genW S 81 (by kernel_rfl) (by kernel_rfl) rfl ?_ ?_
    ·exact HI.out _ _ _ ⟨Grows.drew' _, kn_none _ _⟩
    refine gen_consR (fun vs L w1 hL hw1 => ?_) ?_
    ·obtain ⟨q0, q1⟩ := HO.out _ _ _ hw1
     refine gen_plain rfl ?_
     go_simp
     exact gr_val (HI.out _ _ _ ⟨q0, kn_known q1 rfl⟩)
    refine gen_consR (fun vs L w1 hL hw1 => ?_) ?_
    ·obtain ⟨q0, q1⟩ := HO.out _ _ _ hw1
     refine gen_plain rfl ?_
     go_simp
     exact gr_val (HI.out _ _ _ ⟨q0, kn_known q1 rfl⟩)
    refine gen_consR (fun vs L w1 hL hw1 => ?_) ?_
    ·obtain ⟨q0, q1⟩ := HO.out _ _ _ hw1
     refine gen_plain rfl ?_
     have l1 : L 1 = true := hL.need 1 (by kernel_rfl)
     have e1 := q1 1 _ rfl l1
     have x := (k1.grows q0).cell 1
     simp only [e1]
     go_simp
     exact gr_val (HI.out _ _ _ ⟨q0, kn_known q1 rfl⟩)
    refine gen_consR (fun vs L w1 hL hw1 => ?_) ?_
    ·obtain ⟨q0, q1⟩ := HO.out _ _ _ hw1
     refine gen_plain rfl ?_
     have l2 : L 2 = true := hL.need 2 (by kernel_rfl)
     have e2 := q1 2 _ rfl l2
     simp only [e2]
     go_simp
     exact gr_val (HI.out _ _ _ ⟨q0, kn_known q1 rfl⟩)
    refine gen_consR (fun vs L w1 hL hw1 => ?_) ?_
    ·obtain ⟨q0, q1⟩ := HO.out _ _ _ hw1
     refine gen_plain rfl ?_
     have l0 : L 0 = true := hL.need 0 (by kernel_rfl)
     have e0 := q1 0 _ rfl l0
     have l3 : L 3 = true := hL.need 3 (by kernel_rfl)
     have e3 := q1 3 _ rfl l3
     simp only [e0, e3]
     go_simp
     exact gr_val (HI.out _ _ _ ⟨q0, kn_known q1 rfl⟩)
    refine gen_consR (fun vs L w1 hL hw1 => ?_) ?_
    ·obtain ⟨q0, q1⟩ := HO.out _ _ _ hw1
     refine gen_plain rfl ?_
     have l4 : L 4 = true := hL.need 4 (by kernel_rfl)
     have e4 := q1 4 _ rfl l4
     simp only [e4]
     go_simp
     exact gr_val (HI.out _ _ _ ⟨q0, kn_known q1 rfl⟩)
    refine gen_consR (fun vs L w1 hL hw1 => ?_) ?_
    ·obtain ⟨q0, q1⟩ := HO.out _ _ _ hw1
     have l5 : L 5 = true := hL.need 5 (by kernel_rfl)
     have e5 := q1 5 _ rfl l5
     refine gen_yes ?_ ?_
     ·simp only [e5]
      rfl
     go_simp
     exact gr_val (HI.out _ _ _ ⟨q0, kn_known q1 rfl⟩)
    refine gen_consR (fun vs L w1 hL hw1 => ?_) ?_
    ·obtain ⟨q0, q1⟩ := HO.out _ _ _ hw1
     have l5 : L 5 = true := hL.need 5 (by kernel_rfl)
     have e5 := q1 5 _ rfl l5
     refine gen_yes ?_ ?_
     ·simp only [e5]
      rfl
     have l6 : L 6 = true := hL.need 6 (by kernel_rfl)
     have e6 := q1 6 _ rfl l6
     have x := (k1.grows q0).cell 1
     simp only [e6]
     go_simp
     exact gr_val (HI.out _ _ _ ⟨q0, kn_known q1 rfl⟩)
    refine gen_consR (fun vs L w1 hL hw1 => ?_) ?_
    ·obtain ⟨q0, q1⟩ := HO.out _ _ _ hw1
     have l5 : L 5 = true := hL.need 5 (by kernel_rfl)
     have e5 := q1 5 _ rfl l5
     refine gen_yes ?_ ?_
     ·simp only [e5]
      rfl
     go_simp
     exact gr_val (HI.out _ _ _ ⟨q0, kn_known q1 rfl⟩)
    refine gen_consR (fun vs L w1 hL hw1 => ?_) ?_
    ·obtain ⟨q0, q1⟩ := HO.out _ _ _ hw1
     have l5 : L 5 = true := hL.need 5 (by kernel_rfl)
     have e5 := q1 5 _ rfl l5
     refine gen_yes ?_ ?_
     ·simp only [e5]
      rfl
     have l7 : L 7 = true := hL.need 7 (by kernel_rfl)
     have e7 := q1 7 _ rfl l7
     have l8 : L 8 = true := hL.need 8 (by kernel_rfl)
     have e8 := q1 8 _ rfl l8
     simp only [e7, e8]
     go_simp
     exact gr_val (HI.out _ _ _ ⟨q0, kn_known q1 rfl⟩)
    refine gen_consR (fun vs L w1 hL hw1 => ?_) ?_
    ·obtain ⟨q0, q1⟩ := HO.out _ _ _ hw1
     have l5 : L 5 = true := hL.need 5 (by kernel_rfl)
     have e5 := q1 5 _ rfl l5
     refine gen_yes ?_ ?_
     ·simp only [e5]
      rfl
     have l9 : L 9 = true := hL.need 9 (by kernel_rfl)
     have e9 := q1 9 _ rfl l9
     simp only [e9]
     obtain ⟨y0, y1, y2, y3⟩ := hp _ (below_grows hB (Nat.le_refl _) q0)
     go_simp
     exact gr_val (HI.out _ _ _ ⟨q0, kn_known q1 rfl⟩)
    refine gen_consR (fun vs L w1 hL hw1 => ?_) ?_
    ·obtain ⟨q0, q1⟩ := HO.out _ _ _ hw1
     have l5 : L 5 = true := hL.need 5 (by kernel_rfl)
     have e5 := q1 5 _ rfl l5
     refine gen_yes ?_ ?_
     ·simp only [e5]
      rfl
     have x := (k3.grows q0).cell 
     go_simp
     exact gr_val (HI.out _ _ _ ⟨q0, kn_known q1 rfl⟩)
    refine gen_consR (fun vs L w1 hL hw1 => ?_) ?_
    ·obtain ⟨q0, q1⟩ := HO.out _ _ _ hw1
     have l5 : L 5 = true := hL.need 5 (by kernel_rfl)
     have e5 := q1 5 _ rfl l5
     refine gen_yes ?_ ?_
     ·simp only [e5]
      rfl
     have l10 : L 10 = true := hL.need 10 (by kernel_rfl)
     have e10 := q1 10 _ rfl l10
     have l11 : L 11 = true := hL.need 11 (by kernel_rfl)
     have e11 := q1 11 _ rfl l11
     simp only [e10, e11]
     go_simp
     refine gr_call ?_
     refine (less_is x n true w1 HLS.out).mono ?_
     rintro e w2 ⟨rfl, hg⟩
     exact ⟨_, rfl, HI.out _ _ _ ⟨below_grows q0 (Nat.le_refl _) hg, kn_known q1 rfl⟩⟩
    refine gen_consR (fun vs L w1 hL hw1 => ?_) ?_
    ·obtain ⟨q0, q1⟩ := HO.out _ _ _ hw1
     refine gen_plain rfl ?_
     have l5 : L 5 = true := hL.need 5 (by kernel_rfl)
     have e5 := q1 5 _ rfl l5
     have l12 : L 12 = true := hL.need 12 (by kernel_rfl)
     have e12 := q1 12 _ rfl l12
     simp only [e5, e12]
     go_simp
     exact gr_val (HI.out _ _ _ ⟨q0, kn_known q1 rfl⟩)
    refine gen_nil ?_
    intro vs L W6 hall hS
    obtain ⟨hq, q1⟩ := HO.out _ _ _ hS
    have eX13 := q1 13 _ rfl (hall 13 (by simp))
    clear hall hS HI HO q1
    simp only [eX13]
    clear eX13
    simp only [Nat.zero_add, Nat.reduceAdd]
    replace hB := below_grows hB (Nat.le_refl _) hq
    replace k1 := k1.grows hq
    replace k3 := k3.grows hq
    replace k4 := k4.grows hq
    clear hq x1 x3
    generalize W6 = w6 at *
    go_wp2
    go_roundw
    case rel => exact ⟨m + 1, by omega, by go_num, HA2, k1, k3, k4, hB⟩
    case measure => simp [intOf]; omega
  ·have HC : Hid (cutAt ls (fun x => lessL x n) m) := Lib.hid ⟨hmd, HA.out, fun y hy => by
    have := (List.getElem?_eq_some_iff.1 hy).1
    omega⟩
   have hno : decide (m < ls.length) = false := by simpa using hlt
   go_upto_region 12 with fail
   go_quiet (fail)
   generalize hY : World.drewN wr _ = w6 at *
   have hq : Grows wr w6 := hY ▸ grows_drewN wr _
   clear hY
   replace hB := below_grows hB (Nat.le_refl _) hq
   replace k1 := k1.grows hq
   replace k3 := k3.grows hq
   replace k4 := k4.grows hq
   clear hq x1 x3
   go_upto_region 14 with fail
   have hQ := (h.grows hB).l
   have hc := h.lc
   have hmc : m ≤ c2 := by omega
   obtain ⟨S, HI, HO⟩ := hideS fun (L : Ran) (vs : Nat → Value) (w' : World) => Grows w6 w' ∧ KnS [some (.pointer (some ⟨w.heap.size, 1, none⟩)), some (.slice A2 ls.length c2), some (.int .i64 (m : Int)), some (.slice A2 m c2), none, some (.agg #[.int .i64 n.a, .int .i64 n.b, .int .i64 n.c, .int .i64 n.d]), none, none, some (.pointer (some ⟨w.heap.size, 1, none⟩)), some (.slice A2 ls.length c2), some (.int .i64 (m : Int)), some (.slice (if c2 = m then A2 else A2.map (fun x => x.add (m * 4))) (ls.length - m) (c2 - m)), none] L vs ∧ (L 4 = true → L 7 = false → OwnL w' w6.heap.size (vs 4) (ls.take m)) ∧ (L 6 = true → L 7 = false → ∃ gb, vs 6 = .slice (some ⟨gb, 0, none⟩) 1 1 ∧ Qs w' (some ⟨gb, 0, none⟩) [n]) ∧ (L 7 = true → L 12 = false → OwnL w' w6.heap.size (vs 7) (ls.take m ++ [n])) ∧ (L 12 = true → OwnL w' w6.heap.size (vs 12) (ls.take m ++ [n] ++ ls.drop m)) ∧ (L 7 = true → L 4 = true ∧ L 6 = true) ∧ (L 12 = true → L 7 = true)
   refine wp_region_genT S 13 81 (by kernel_rfl) (by kernel_rfl) rfl ?_ ?_
   ·exact HI.out _ _ _ ⟨Grows.drew' _, kn_none _ _, (fun h => by cases h), (fun h => by cases h), (fun h => by cases h), (fun h => by cases h), (fun h => by cases h), (fun h => by cases h)⟩
   simp only [List.take_succ_cons, List.take_zero, List.drop_succ_cons, List.drop_zero]
   refine gent_consR (fun vs L w1 hL hw1 => ?_) ?_
   ·obtain ⟨q0, q1, q3, q5, q6, qa, h6, ha⟩ := HO.out _ _ _ hw1
    refine gen_plain rfl ?_
    go_simp
    exact gr_val (HI.out _ _ _ ⟨q0, kn_known q1 rfl, q3, q5, q6, qa, h6, ha⟩)
   refine gent_consR (fun vs L w1 hL hw1 => ?_) ?_
   ·obtain ⟨q0, q1, q3, q5, q6, qa, h6, ha⟩ := HO.out _ _ _ hw1
    have l0 : L 0 = true := hL.need 0 (by kernel_rfl)
    have e0 := q1 0 _ rfl l0
    have x := (k1.grows q0).cell 1
    refine gen_plain rfl ?_
    simp only [e0]
    go_simp
    exact gr_val (HI.out _ _ _ ⟨q0, kn_known q1 rfl, q3, q5, q6, qa, h6, ha⟩)
   refine gent_consR (fun vs L w1 hL hw1 => ?_) ?_
   ·obtain ⟨q0, q1, q3, q5, q6, qa, h6, ha⟩ := HO.out _ _ _ hw1
    refine gen_plain rfl ?_
    go_simp
    exact gr_val (HI.out _ _ _ ⟨q0, kn_known q1 rfl, q3, q5, q6, qa, h6, ha⟩)
   refine gent_consR (fun vs L w1 hL hw1 => ?_) ?_
   ·obtain ⟨q0, q1, q3, q5, q6, qa, h6, ha⟩ := HO.out _ _ _ hw1
    have l1 : L 1 = true := hL.need 1 (by kernel_rfl)
    have e1 := q1 1 _ rfl l1
    have l2 : L 2 = true := hL.need 2 (by kernel_rfl)
    have e2 := q1 2 _ rfl l2
    refine gen_plain rfl ?_
    simp only [e1, e2]
    go_simp
    exact gr_val (HI.out _ _ _ ⟨q0, kn_known q1 rfl, q3, q5, q6, qa, h6, ha⟩)
   refine gent_consR (fun vs L w1 hL hw1 => ?_) ?_
   ·obtain ⟨q0, q1, q3, q5, q6, qa, h6, ha⟩ := HO.out _ _ _ hw1
    have n4 : L 4 = false := hL.1
    have n7 : L 7 = false := by
     cases h : L 7
     ·rfl
     ·rw [(h6 h).1] at n4; cases n4
    have n12 : L 12 = false := by
     cases h : L 12
     ·rfl
     ·rw [ha h] at n7; cases n7
    have l3 : L 3 = true := hL.need 3 (by kernel_rfl)
    have e3 := q1 3 _ rfl l3
    refine gen_plain rfl ?_
    refine gr_append_link (.const (.slice none 0 0)) (.tmp 57) rfl (l := []) (m := ls.take m) (by rw [List.length_take]; omega) rfl (ownL_nil w1 w6.heap.size) e3 (qs_take (hQ.grows q0) m hmd) (by simp only [List.length_nil, List.length_take]; omega) q0.size ?_
    intro v3 w3 o3 g3
    have hg : Grows w1 w3 := (Below.refl _ _).grown g3 (Nat.le_refl _) (fun q hq => by cases hq)
    exact HI.out _ _ _ ⟨below_grows q0 (Nat.le_refl _) hg, kn_free q1 rfl, fun _ _ => o3, (fun h h0 => by obtain ⟨gb, e, s⟩ := q5 h h0; exact ⟨gb, e, s.grows hg⟩), (fun h _ => by rw [show L 7 = true from h] at n7; cases n7), (fun h => by rw [show L 12 = true from h] at n12; cases n12), (fun h => by rw [show L 7 = true from h] at n7; cases n7), (fun h => by rw [show L 12 = true from h] at n12; cases n12)⟩
   refine gent_consR (fun vs L w1 hL hw1 => ?_) ?_
   ·obtain ⟨q0, q1, q3, q5, q6, qa, h6, ha⟩ := HO.out _ _ _ hw1
    have x := (k3.grows q0).cell
    refine gen_plain rfl ?_
    go_simp
    exact gr_val (HI.out _ _ _ ⟨q0, kn_known q1 rfl, q3, q5, q6, qa, h6, ha⟩)
   refine gent_consR (fun vs L w1 hL hw1 => ?_) ?_
   ·obtain ⟨q0, q1, q3, q5, q6, qa, h6, ha⟩ := HO.out _ _ _ hw1
    have n6 : L 6 = false := hL.1
    have n7 : L 7 = false := by
     cases h : L 7
     ·rfl
     ·rw [(h6 h).2] at n6; cases n6
    have n12 : L 12 = false := by
     cases h : L 12
     ·rfl
     ·rw [ha h] at n7; cases n7
    have l5 : L 5 = true := hL.need 5 (by kernel_rfl)
    have e5 := q1 5 _ rfl l5
    refine gen_plain rfl ?_
    simp only [e5]
    go_simp
    have hg := (Below.refl w1.heap.size w1).alloc (Nat.le_refl _) (Obj.cells #[.int .i64 n.a, .int .i64 n.b, .int .i64 n.c, .int .i64 n.d] 49)
    exact gr_val (HI.out _ _ _ ⟨below_grows q0 (Nat.le_refl _) hg, kn_free q1 rfl, (fun h h0 => (q3 h h0).grows hg), (fun _ _ => ⟨_, rfl, qs_lit w1 n _⟩), (fun h _ => by rw [show L 7 = true from h] at n7; cases n7), (fun h => by rw [show L 12 = true from h] at n12; cases n12), (fun h => by rw [show L 7 = true from h] at n7; cases n7), (fun h => by rw [show L 12 = true from h] at n12; cases n12)⟩)
   refine gent_consR (fun vs L w1 hL hw1 => ?_) ?_
   ·obtain ⟨q0, q1, q3, q5, q6, qa, h6, ha⟩ := HO.out _ _ _ hw1
    have n7 : L 7 = false := hL.1
    have n12 : L 12 = false := by
     cases h : L 12
     ·rfl
     ·rw [ha h] at n7; cases n7
    have l4 : L 4 = true := hL.need 4 (by kernel_rfl)
    have l6 : L 6 = true := hL.need 6 (by kernel_rfl)
    have o3 := q3 l4 n7
    obtain ⟨gb, e5, s5⟩ := q5 l6 n7
    refine gen_plain rfl ?_
    refine gr_append_link (.tmp 58) (.tmp 60) rfl (m := [n]) rfl rfl o3 e5 s5 (by simp only [List.length_take, List.length_cons, List.length_nil]; omega) q0.size ?_
    intro v3 w3 o6 g3
    have hg := o3.below q0 g3 q0.size
    exact HI.out _ _ _ ⟨hg, kn_free q1 rfl, (fun _ h => by cases h), (fun _ h => by cases h), fun _ _ => o6, (fun h => by rw [show L 12 = true from h] at n12; cases n12), fun _ => ⟨l4, l6⟩, (fun h => by rw [show L 12 = true from h] at n12; cases n12)⟩
   refine gent_consR (fun vs L w1 hL hw1 => ?_) ?_
   ·obtain ⟨q0, q1, q3, q5, q6, qa, h6, ha⟩ := HO.out _ _ _ hw1
    refine gen_plain rfl ?_
    go_simp
    exact gr_val (HI.out _ _ _ ⟨q0, kn_known q1 rfl, q3, q5, q6, qa, h6, ha⟩)
   refine gent_consR (fun vs L w1 hL hw1 => ?_) ?_
   ·obtain ⟨q0, q1, q3, q5, q6, qa, h6, ha⟩ := HO.out _ _ _ hw1
    have l8 : L 8 = true := hL.need 8 (by kernel_rfl)
    have e8 := q1 8 _ rfl l8
    have x := (k1.grows q0).cell 1
    refine gen_plain rfl ?_
    simp only [e8]
    go_simp
    exact gr_val (HI.out _ _ _ ⟨q0, kn_known q1 rfl, q3, q5, q6, qa, h6, ha⟩)
   refine gent_consR (fun vs L w1 hL hw1 => ?_) ?_
   ·obtain ⟨q0, q1, q3, q5, q6, qa, h6, ha⟩ := HO.out _ _ _ hw1
    refine gen_plain rfl ?_
    go_simp
    exact gr_val (HI.out _ _ _ ⟨q0, kn_known q1 rfl, q3, q5, q6, qa, h6, ha⟩)
   refine gent_consR (fun vs L w1 hL hw1 => ?_) ?_
   ·obtain ⟨q0, q1, q3, q5, q6, qa, h6, ha⟩ := HO.out _ _ _ hw1
    have l9 : L 9 = true := hL.need 9 (by kernel_rfl)
    have e9 := q1 9 _ rfl l9
    have l10 : L 10 = true := hL.need 10 (by kernel_rfl)
    have e10 := q1 10 _ rfl l10
    refine gen_plain rfl ?_
    simp only [e9, e10]
    go_simp
    exact gr_val (HI.out _ _ _ ⟨q0, kn_known q1 rfl, q3, q5, q6, qa, h6, ha⟩)
   refine gent_consR (fun vs L w1 hL hw1 => ?_) ?_
   ·obtain ⟨q0, q1, q3, q5, q6, qa, h6, ha⟩ := HO.out _ _ _ hw1
    have n12 : L 12 = false := hL.1
    have l7 : L 7 = true := hL.need 7 (by kernel_rfl)
    have o6 := q6 l7 n12
    have l11 : L 11 = true := hL.need 11 (by kernel_rfl)
    have e11 := q1 11 _ rfl l11
    refine gen_plain rfl ?_
    refine gr_append_link (.tmp 61) (.tmp 65) rfl (m := ls.drop m) (by simp) rfl o6 e11 (qs_drop (hQ.grows q0) hmd hc) (by simp only [List.length_append, List.length_take, List.length_drop, List.length_cons, List.length_nil]; omega) q0.size ?_
    intro v3 w3 o7 g3
    have hg := o6.below q0 g3 q0.size
    exact HI.out _ _ _ ⟨hg, kn_free q1 rfl, (fun h h0 => by rw [show L 7 = false from h0] at l7; cases l7), (fun h h0 => by rw [show L 7 = false from h0] at l7; cases l7), (fun _ h => by cases h), fun _ => o7, h6, fun _ => l7⟩
   refine gent_nil ?_
   intro vs L W2 hall hS
   obtain ⟨hq, -, -, -, -, qa, -, -⟩ := HO.out _ _ _ hS
   have hown2 := qa (hall 12 (by omega))
   clear hall hS HI HO qa
   have hown3 := hown2.mono hB.size
   replace hB := below_grows hB (Nat.le_refl _) hq
   replace k1 := k1.grows hq
   replace k4 := k4.grows hq
   clear hown2 hq k3 hQ
   generalize vs 12 = v12 at *
   have x1 := k1.cell
   go_upto_region 15 with fail
   refine wp_region_lit ?_
   iterate 2
    refine wpList_plain rfl (fun K hK => ?_)
    go_simp
    refine hK _ _ ?_
    clear hK K
   refine wpList_append_node rfl (.const (.slice none 0 0)) (.tmp 68) rfl (l := []) (m := ns) rfl rfl (ownN_nil _ w.heap.size) rfl (h.grows hB).n (by simp only [List.length_nil]; omega) hB.size ?_
   intro v13 w13 hown13 hgr13 _
   have hq : Grows W2 w13 := (Below.refl _ _).grown hgr13 (Nat.le_refl _) (fun q hq => by cases hq)
   replace hB := below_grows hB (Nat.le_refl _) hq
   replace k4 := k4.grows hq
   replace hown3 := hown3.grows hq
   clear hq hgr13 x1 k1
   rw [List.nil_append] at hown13
   obtain ⟨A7, n7, c7, hv7, e7, hq7⟩ := OwnL.slq (l := insN ls m n) hown3
   obtain ⟨A9, n9, c9, hv9, e9, hq9⟩ := OwnN.slq hown13
   have hl9 : n9 ≤ 64 := by omega
   have hl7 : n7 ≤ 9223372036854775807 := by rw [← e7, ins_length hmd]; omega
   have hn7 := Lib.hid e7
   have hn9 := Lib.hid e9
   subst hv7
   subst hv9
   clear e7 e9
   have k8 := Blk.new w13 26 #[.slice A9 n9 c9, .slice A7 n7 c7]
   have hq := (Below.refl w13.heap.size w13).alloc (Nat.le_refl _) (Obj.cells #[.slice A9 n9 c9, .slice A7 n7 c7] 26)
   go_upto_region 16 with fail
   replace hB := below_grows hB (Nat.le_refl _) hq
   replace k4 := k4.grows hq
   replace hown3 := hown3.grows hq
   replace hown13 := hown13.grows hq
   replace hq7 := hq7.grows hq
   replace hq9 := hq9.grows hq
   clear hq
   generalize World.alloc w13 _ = w9 at *
   generalize w13.heap.size = G8 at *
   obtain ⟨mm, hmm⟩ : ∃ mm, (orderL ns (insN ls m n)).length = mm := ⟨_, rfl⟩
   have HMM := Lib.hid hmm
   clear hmm
   by_cases hlo : mm < n9
   ·skip
    obtain ⟨S, HI, HO⟩ := hideS fun (L : Ran) (vs : Nat → Value) (w' : World) => Grows w9 w' ∧ KnS [some (.agg #[.slice A9 n9 c9, .slice A7 n7 c7]), none, some (.int .i64 (mm : Int)), some (.pointer (some ⟨G8, 0, none⟩)), some (.slice A9 n9 c9), some (.int .i64 (n9 : Int)), some (.bool true)] L vs ∧ DsS [none, some (gLen mm), none, none, none, none, none] L vs w'
    refine wp_region_genW S 81 (by kernel_rfl) (by kernel_rfl) rfl ?_ ?_
    ·exact HI.out _ _ _ ⟨Grows.drew' _, kn_none _ _, ds_none _ _ _⟩
    refine gen_consR (fun vs L w1 hL hw1 => ?_) ?_
    ·obtain ⟨q0, q1, q2⟩ := HO.out _ _ _ hw1
     refine gen_plain rfl ?_
     have x := (k8.grows q0).cell 
     go_simp
     exact gr_val (HI.out _ _ _ ⟨q0, kn_known q1 rfl, ds_free q2 rfl⟩)
    refine gen_consR (fun vs L w1 hL hw1 => ?_) ?_
    ·obtain ⟨q0, q1, q2⟩ := HO.out _ _ _ hw1
     refine gen_plain rfl ?_
     have l0 : L 0 = true := hL.need 0 (by kernel_rfl)
     have e0 := q1 0 _ rfl l0
     simp only [e0]
     go_simp
     refine gr_call ?_
     refine (order_is A9 A7 c9 c7 n9 n7 mm ns (insN ls m n) w1 (hq9.grows q0) hn9.out (hq7.grows q0) hn7.out (by omega) (by omega) (valid_ids HV.out) HMM.out).mono ?_
     rintro e w2 ⟨⟨v, rfl, hv⟩, hg⟩
     exact ⟨_, rfl, HI.out _ _ _ ⟨below_grows q0 (Nat.le_refl _) hg, kn_free q1 rfl, ds_put (q2.grows hg) rfl (hv)⟩⟩
    refine gen_consR (fun vs L w1 hL hw1 => ?_) ?_
    ·obtain ⟨q0, q1, q2⟩ := HO.out _ _ _ hw1
     refine gen_plain rfl ?_
     have l1 : L 1 = true := hL.need 1 (by kernel_rfl)
     obtain ⟨A1, c1, e1⟩ := q2 1 _ rfl l1
     simp only [e1]
     go_simp
     exact gr_val (HI.out _ _ _ ⟨q0, kn_known q1 rfl, ds_free q2 rfl⟩)
    refine gen_consR (fun vs L w1 hL hw1 => ?_) ?_
    ·obtain ⟨q0, q1, q2⟩ := HO.out _ _ _ hw1
     refine gen_plain rfl ?_
     go_simp
     exact gr_val (HI.out _ _ _ ⟨q0, kn_known q1 rfl, ds_free q2 rfl⟩)
    refine gen_consR (fun vs L w1 hL hw1 => ?_) ?_
    ·obtain ⟨q0, q1, q2⟩ := HO.out _ _ _ hw1
     refine gen_plain rfl ?_
     have l3 : L 3 = true := hL.need 3 (by kernel_rfl)
     have e3 := q1 3 _ rfl l3
     have x := (k8.grows q0).cell 0
     simp only [e3]
     go_simp
     exact gr_val (HI.out _ _ _ ⟨q0, kn_known q1 rfl, ds_free q2 rfl⟩)
    refine gen_consR (fun vs L w1 hL hw1 => ?_) ?_
    ·obtain ⟨q0, q1, q2⟩ := HO.out _ _ _ hw1
     refine gen_plain rfl ?_
     have l4 : L 4 = true := hL.need 4 (by kernel_rfl)
     have e4 := q1 4 _ rfl l4
     simp only [e4]
     go_simp
     exact gr_val (HI.out _ _ _ ⟨q0, kn_known q1 rfl, ds_free q2 rfl⟩)
    refine gen_consR (fun vs L w1 hL hw1 => ?_) ?_
    ·obtain ⟨q0, q1, q2⟩ := HO.out _ _ _ hw1
     refine gen_plain rfl ?_
     have l2 : L 2 = true := hL.need 2 (by kernel_rfl)
     have e2 := q1 2 _ rfl l2
     have l5 : L 5 = true := hL.need 5 (by kernel_rfl)
     have e5 := q1 5 _ rfl l5
     simp only [e2, e5]
     go_simp
     exact gr_val (HI.out _ _ _ ⟨q0, kn_known q1 rfl, ds_free q2 rfl⟩)
    refine gen_nil ?_
    intro vs L W6 hall hS
    obtain ⟨hq, q1, q2⟩ := HO.out _ _ _ hS
    have eX6 := q1 6 _ rfl (hall 6 (by simp))
    clear hall hS HI HO q1 q2
    simp only [eX6]
    clear eX6
    simp only [Nat.zero_add, Nat.reduceAdd]
    replace hB := below_grows hB (Nat.le_refl _) hq
    replace k4 := k4.grows hq
    replace k8 := k8.grows hq
    replace hown3 := hown3.grows hq
    replace hown13 := hown13.grows hq
    clear hq hq7 hq9
    generalize W6 = w10 at *
    have x4 := k4.cell
    have f4 := k4.frozen
    go_wp2
    have k5 := (k4.set_ 0 (.slice none 0 0)).set_ 1 (.slice none 0 0)
    have hB5 := (hB.setCell (p := ⟨w.heap.size + 1 + 1, 0, none⟩) (by simp; omega) (.slice none 0 0)).setCell (p := ⟨w.heap.size + 1 + 1, 1, none⟩) (by simp; omega) (.slice none 0 0)
    clear x4 f4
    generalize World.setCell (World.setCell w10 _ _) _ _ = w8 at *
    have x4 := k5.cell
    refine bodyPost_ret (v := .tuple #[.agg #[.slice none 0 0, .slice none 0 0], .int .i64 12]) (by simp [results, Try.results28, go_sem, x4]) rfl ⟨grRes_no (by decide), hB5⟩
   ·skip
    obtain ⟨S, HI, HO⟩ := hideS fun (L : Ran) (vs : Nat → Value) (w' : World) => Grows w9 w' ∧ KnS [some (.agg #[.slice A9 n9 c9, .slice A7 n7 c7]), none, some (.int .i64 (mm : Int)), some (.pointer (some ⟨G8, 0, none⟩)), some (.slice A9 n9 c9), some (.int .i64 (n9 : Int)), some (.bool false)] L vs ∧ DsS [none, some (gLen mm), none, none, none, none, none] L vs w'
    refine wp_region_genW S 81 (by kernel_rfl) (by kernel_rfl) rfl ?_ ?_
    ·exact HI.out _ _ _ ⟨Grows.drew' _, kn_none _ _, ds_none _ _ _⟩
    refine gen_consR (fun vs L w1 hL hw1 => ?_) ?_
    ·obtain ⟨q0, q1, q2⟩ := HO.out _ _ _ hw1
     refine gen_plain rfl ?_
     have x := (k8.grows q0).cell 
     go_simp
     exact gr_val (HI.out _ _ _ ⟨q0, kn_known q1 rfl, ds_free q2 rfl⟩)
    refine gen_consR (fun vs L w1 hL hw1 => ?_) ?_
    ·obtain ⟨q0, q1, q2⟩ := HO.out _ _ _ hw1
     refine gen_plain rfl ?_
     have l0 : L 0 = true := hL.need 0 (by kernel_rfl)
     have e0 := q1 0 _ rfl l0
     simp only [e0]
     go_simp
     refine gr_call ?_
     refine (order_is A9 A7 c9 c7 n9 n7 mm ns (insN ls m n) w1 (hq9.grows q0) hn9.out (hq7.grows q0) hn7.out (by omega) (by omega) (valid_ids HV.out) HMM.out).mono ?_
     rintro e w2 ⟨⟨v, rfl, hv⟩, hg⟩
     exact ⟨_, rfl, HI.out _ _ _ ⟨below_grows q0 (Nat.le_refl _) hg, kn_free q1 rfl, ds_put (q2.grows hg) rfl (hv)⟩⟩
    refine gen_consR (fun vs L w1 hL hw1 => ?_) ?_
    ·obtain ⟨q0, q1, q2⟩ := HO.out _ _ _ hw1
     refine gen_plain rfl ?_
     have l1 : L 1 = true := hL.need 1 (by kernel_rfl)
     obtain ⟨A1, c1, e1⟩ := q2 1 _ rfl l1
     simp only [e1]
     go_simp
     exact gr_val (HI.out _ _ _ ⟨q0, kn_known q1 rfl, ds_free q2 rfl⟩)
    refine gen_consR (fun vs L w1 hL hw1 => ?_) ?_
    ·obtain ⟨q0, q1, q2⟩ := HO.out _ _ _ hw1
     refine gen_plain rfl ?_
     go_simp
     exact gr_val (HI.out _ _ _ ⟨q0, kn_known q1 rfl, ds_free q2 rfl⟩)
    refine gen_consR (fun vs L w1 hL hw1 => ?_) ?_
    ·obtain ⟨q0, q1, q2⟩ := HO.out _ _ _ hw1
     refine gen_plain rfl ?_
     have l3 : L 3 = true := hL.need 3 (by kernel_rfl)
     have e3 := q1 3 _ rfl l3
     have x := (k8.grows q0).cell 0
     simp only [e3]
     go_simp
     exact gr_val (HI.out _ _ _ ⟨q0, kn_known q1 rfl, ds_free q2 rfl⟩)
    refine gen_consR (fun vs L w1 hL hw1 => ?_) ?_
    ·obtain ⟨q0, q1, q2⟩ := HO.out _ _ _ hw1
     refine gen_plain rfl ?_
     have l4 : L 4 = true := hL.need 4 (by kernel_rfl)
     have e4 := q1 4 _ rfl l4
     simp only [e4]
     go_simp
     exact gr_val (HI.out _ _ _ ⟨q0, kn_known q1 rfl, ds_free q2 rfl⟩)
    refine gen_consR (fun vs L w1 hL hw1 => ?_) ?_
    ·obtain ⟨q0, q1, q2⟩ := HO.out _ _ _ hw1
     refine gen_plain rfl ?_
     have l2 : L 2 = true := hL.need 2 (by kernel_rfl)
     have e2 := q1 2 _ rfl l2
     have l5 : L 5 = true := hL.need 5 (by kernel_rfl)
     have e5 := q1 5 _ rfl l5
     simp only [e2, e5]
     go_simp
     exact gr_val (HI.out _ _ _ ⟨q0, kn_known q1 rfl, ds_free q2 rfl⟩)
    refine gen_nil ?_
    intro vs L W6 hall hS
    obtain ⟨hq, q1, q2⟩ := HO.out _ _ _ hS
    have eX6 := q1 6 _ rfl (hall 6 (by simp))
    clear hall hS HI HO q1 q2
    simp only [eX6]
    clear eX6
    simp only [Nat.zero_add, Nat.reduceAdd]
    replace hB := below_grows hB (Nat.le_refl _) hq
    replace k4 := k4.grows hq
    replace k8 := k8.grows hq
    replace hown3 := hown3.grows hq
    replace hown13 := hown13.grows hq
    clear hq hq7 hq9
    generalize W6 = w10 at *
    have x8 := k8.cell
    have x4 := k4.cell
    have f4 := k4.frozen
    go_wp2
    have k5 := (k4.set_ 0 (.slice A9 n9 c9)).set_ 1 (.slice A7 n7 c7)
    have hB5 := (hB.setCell (p := ⟨w.heap.size + 1 + 1, 0, none⟩) (by simp; omega) (.slice A9 n9 c9)).setCell (p := ⟨w.heap.size + 1 + 1, 1, none⟩) (by simp; omega) (.slice A7 n7 c7)
    have hn1 := OwnN.put hown13 k4 0 (.slice A9 n9 c9)
    have hn2 := OwnN.put hn1 (k4.set_ 0 (.slice A9 n9 c9)) 1 (.slice A7 n7 c7)
    have hl1 := OwnL.put hown3 k4 0 (.slice A9 n9 c9)
    have hl2 := OwnL.put hl1 (k4.set_ 0 (.slice A9 n9 c9)) 1 (.slice A7 n7 c7)
    clear x4 f4 x8 hn1 hl1 hown3 hown13 k4 hB
    generalize World.setCell (World.setCell w10 _ _) _ _ = w8 at *
    have x4 := k5.cell
    refine bodyPost_ret (v := .tuple #[.agg #[.slice A9 n9 c9, .slice A7 n7 c7], .int .i64 0]) (by simp [results, Try.results28, go_sem, x4]) rfl ⟨grRes_yes hn2 hl2 ⟨valid_connect HV.out HPO.out HHS.out (by omega) HCR.out HC.out (by have h1 := HMM.out; have h2 := hn9.out; omega), rfl, Nat.le_of_eq (ins_length hmd)⟩, hB5⟩
end Go.Proofs.Ytobhdldlhhigdaa

namespace Go.Proofs.Ytobhdldlhhigdaa
open Go.RowKit
set_option maxRecDepth 100000 in
/-- Only block g has turned, and what is new. -/
theorem only_grows {a w w' : World} {row : Option Nat} (h : a.grownBy w row) (hg : Grows w w') : a.grownBy w' row :=
 ⟨hg.os.trans h.os, hg.tape.trans h.tape, hg.output.trans h.output, Nat.le_trans h.size hg.size, fun k hk hn => (hg.block k (Nat.lt_of_lt_of_le hk h.size)).trans (h.block k hk hn)⟩
set_option maxRecDepth 100000 in
theorem only_of_grows {w w' : World} (hg : Grows w w') (row : Option Nat) : w.grownBy w' row := only_grows (World.grownBy.refl w row) hg
set_option maxRecDepth 100000 in
theorem only_set {a w : World} {g : Nat} (h : a.grownBy w (some g)) (i : Nat) (u : Value) : a.grownBy (w.setCell ⟨g, i, none⟩ u) (some g) :=
 ⟨h.os, h.tape, h.output, by simpa [World.setCell] using h.size, fun k hk hn => (Below.heap_setCell w ⟨g, i, none⟩ u k (fun e => hn (by rw [e]))).trans (h.block k hk hn)⟩
set_option maxRecDepth 100000 in
theorem reads_cell {w : World} {B n : Nat} {ad : Addr} {xs : List Value} {j : Nat} {u : Value} (h : Reads w B 1 (some ad) n xs) (hj : xs[j]? = some u) : w.cell? (ad.add j) = some u := by
 have hl := (List.getElem?_eq_some_iff.1 hj).1
 have h1 := h.1
 obtain ⟨ad', e, _, hc⟩ := h.2 (by omega)
 injection e with e
 subst e
 exact hc j u hj
abbrev DeckT : TypeId := 61
structure Deck (w : World) (g : Nat) (A : Option Addr) (c : Nat) (l : List Int) (k : Nat) : Prop where
 blk : Blk w g DeckT #[.slice A l.length c, .int .i64 k]
 ints : Reads w g 1 A l.length (l.map (Value.int .i64))
 le : k ≤ l.length
 len : l.length ≤ 9223372036854775807
set_option maxRecDepth 100000 in
theorem Deck.grows {w w' : World} {g : Nat} {A : Option Addr} {c : Nat} {l : List Int} {k : Nat} (h : Deck w g A c l k) (hg : Grows w w') : Deck w' g A c l k :=
 ⟨h.blk.grows hg, h.ints.below (hg.mono (Nat.le_of_lt h.blk.lt)), h.le, h.len⟩
set_option maxRecDepth 100000 in
set_option maxHeartbeats 2000000 in
theorem left_any (g : Nat) (A : Option Addr) (c : Nat) (l : List Int) (k : Nat) (w : World) (h : Deck w g A c l k) :
 Calls Try.prog 48 #[.pointer (some ⟨g, 0, none⟩)] w fun e w' => e = .returned (.bool (decide (k < l.length))) ∧ Grows w w' := by
 go_enter Try.func48, Try.ntmps48
 go_wp2
 refine wp_region_mix (fun w' => Grows w w' ∧ Deck w' g A c l k) [] 11 13 (by kernel_rfl) (by kernel_rfl) rfl ?_ float_none ?_ ?_
 ·exact fun w1 w2 ⟨h1, h2⟩ hg => ⟨Grows.trans' h1 hg, h2.grows hg⟩
 ·exact ⟨Grows.drew' w, h.grows (Grows.drew' w)⟩
 ·simp only [List.take_succ_cons, List.take_zero, List.drop_succ_cons, List.drop_zero]
  iterate 11
   refine calm_plain rfl rfl (v := ?_) (a' := ?_) (fun w1 hw1 => ?_) ?_ ?_
   rotate_left 2
   ·obtain ⟨_, hd⟩ := hw1
    have c1 := hd.blk.cell
    go_simp
    first | exact calm_val
   ·simp only [Act.put, List.setIfInBounds_toArray, List.set_cons_succ, List.set_cons_zero]
    rfl
  refine calm_done (end_none ?_)
  rintro w7 ⟨hb7, -⟩
  go_wp2
  go_ret
  exact ⟨rfl, hb7⟩
set_option maxRecDepth 100000 in
set_option maxHeartbeats 4000000 in
theorem next_more (g : Nat) (A : Option Addr) (c : Nat) (l : List Int) (k : Nat) (n x : Int) (w : World) (h : Deck w g A c l k) (hx : l[k]? = some x) (hn : 1 ≤ n) (hn2 : n ≤ 9223372036854775807) :
 Calls Try.prog 26 #[.pointer (some ⟨g, 0, none⟩), .int .i64 n] w fun e w' => e = .returned (.int .i64 (x % n)) ∧ Deck w' g A c l (k + 1) ∧ w.grownBy w' (some g) := by
 have hk : k < l.length := (List.getElem?_eq_some_iff.1 hx).1
 have hk2 := h.len
 have hdec : decide (k < l.length) = true := by simp; omega
 have hwr : IntKind.i64.wrap (k : Int) = (k : Int) := IntWalk.i64_in _ (by omega)
 obtain ⟨ad, _, rfl, _, _, _⟩ := h.ints.at_ hk
 have HX : Hid ((l.map (Value.int .i64))[k]? = some (.int .i64 x)) := by show _ = _; rw [List.getElem?_map, hx]; rfl
 clear hx
 go_enter Try.func26, Try.ntmps26
 go_wp2_with (go_at_call 48; refine (left_any g (some ad) c l k _ h).mono ?_; rintro e w1 ⟨rfl, hq⟩; have h1 := h.grows hq; have c1 := h1.blk.cell; have f1 := h1.blk.frozen)
 have h2 : Deck (w1.setCell ⟨g, 1, none⟩ (.int .i64 ((k : Int) + 1))) g (some ad) c l (k + 1) :=
  ⟨by have := h1.blk.set_ 1 (.int .i64 ((k : Int) + 1)); simpa using this, h1.ints.setCell (Nat.le_refl _) _, hk, h1.len⟩
 have q2 := only_set (g := g) (only_of_grows hq (some g)) 1 (.int .i64 ((k : Int) + 1))
 generalize w1.setCell ⟨g, 1, none⟩ (.int .i64 ((k : Int) + 1)) = w2 at *
 clear h1 c1 f1 hq h
 refine wp_region_mix (fun w' => w.grownBy w' (some g) ∧ Deck w' g (some ad) c l (k + 1)) [] 14 28 (by kernel_rfl) (by kernel_rfl) rfl ?_ float_none ?_ ?_
 ·exact fun w1 w2 ⟨h1, h2⟩ hg => ⟨only_grows h1 hg, h2.grows hg⟩
 ·exact ⟨only_grows q2 (Grows.drew' w2), h2.grows (Grows.drew' w2)⟩
 ·clear h2 q2
  simp only [List.take_succ_cons, List.take_zero, List.drop_succ_cons, List.drop_zero]
  iterate 14
   refine calm_plain rfl rfl (v := ?_) (a' := ?_) (fun w1 hw1 => ?_) ?_ ?_
   rotate_left 2
   ·obtain ⟨_, hd⟩ := hw1
    have c1 := hd.blk.cell
    have hcell := reads_cell hd.ints HX.out
    go_simp
    first | exact calm_val | (refine calm_quiet ?_; refine mod_any _ _ _ ?_ ?_ <;> assumption)
   ·simp only [Act.put, List.setIfInBounds_toArray, List.set_cons_succ, List.set_cons_zero]
    rfl
  refine calm_done (end_none ?_)
  rintro w7 ⟨hb7, hd7⟩
  go_wp2
  go_ret
  exact ⟨rfl, hd7, hb7⟩
set_option maxRecDepth 100000 in
theorem next_none (g : Nat) (A : Option Addr) (c : Nat) (l : List Int) (k : Nat) (n : Int) (w : World) (h : Deck w g A c l k) (hx : ¬ k < l.length) :
 Calls Try.prog 26 #[.pointer (some ⟨g, 0, none⟩), .int .i64 n] w fun e w' => e = .returned (.int .i64 0) ∧ Deck w' g A c l k ∧ w.grownBy w' (some g) := by
 have hdec : decide (k < l.length) = false := by simp; omega
 go_enter Try.func26, Try.ntmps26
 go_wp2_with (go_at_call 48; refine (left_any g A c l k _ h).mono ?_; rintro e w1 ⟨rfl, hq⟩)
 go_ret
 exact ⟨rfl, h.grows hq, only_of_grows hq _⟩
/-- The number that the deck gives, and where it then stands. -/
def nextV (l : List Int) (k : Nat) (n : Int) : Int := (l[k]?.getD 0) % n
def nextK (l : List Int) (k : Nat) : Nat := if k < l.length then k + 1 else k
set_option maxRecDepth 100000 in
theorem next_any (g : Nat) (A : Option Addr) (c : Nat) (l : List Int) (k : Nat) (n : Int) (w : World) (h : Deck w g A c l k) (hn : 1 ≤ n) (hn2 : n ≤ 9223372036854775807) :
 Calls Try.prog 26 #[.pointer (some ⟨g, 0, none⟩), .int .i64 n] w fun e w' => e = .returned (.int .i64 (nextV l k n)) ∧ Deck w' g A c l (nextK l k) ∧ w.grownBy w' (some g) := by
 by_cases hk : k < l.length
 ·have hx : l[k]? = some l[k] := List.getElem?_eq_getElem hk
  rw [show nextV l k n = l[k] % n from by simp [nextV, hx], show nextK l k = k + 1 from by simp [nextK, hk]]
  exact next_more g A c l k n _ w h hx hn hn2
 ·rw [show nextV l k n = 0 from by simp [nextV, List.getElem?_eq_none (by omega : l.length ≤ k)], show nextK l k = k from by simp [nextK, hk]]
  exact next_none g A c l k n w h hk
set_option maxRecDepth 100000 in
theorem new_deck (A : Option Addr) (c : Nat) (l : List Int) (w : World) (h : Ints w A l) (hl : l.length ≤ 9223372036854775807) :
 Calls Try.prog 10 #[.slice A l.length c] w fun e w' => e = .returned (.pointer (some ⟨w.heap.size, 0, none⟩)) ∧ Deck w' w.heap.size A c l 0 ∧ Grows w w' := by
 go_enter Try.func10, Try.ntmps10
 go_wp2
 go_ret
 exact ⟨rfl, ⟨Blk.new _ _ _, Reads.alloc h (Nat.le_refl _) _, Nat.zero_le _, hl⟩, (Below.refl _ _).alloc (Nat.le_refl _) _⟩
end Go.Proofs.Ytobhdldlhhigdaa

namespace Go.Proofs.Ytobhdldlhhigdaa
open Go.RowKit
set_option maxRecDepth 100000 in
theorem nextV_bd (l : List Int) (k : Nat) {n : Int} (h : 1 ≤ n) : 0 ≤ nextV l k n ∧ nextV l k n < n :=
 ⟨Int.emod_nonneg _ (by omega), Int.emod_lt_of_pos _ (by omega)⟩
set_option maxRecDepth 100000 in
theorem grown_trans {a b c : World} {row : Option Nat} (h : a.grownBy b row) (k : b.grownBy c row) : a.grownBy c row :=
 ⟨k.os.trans h.os, k.tape.trans h.tape, k.output.trans h.output, Nat.le_trans h.size k.size, fun j hj hn => (k.block j (Nat.lt_of_lt_of_le hj h.size) hn).trans (h.block j hj hn)⟩
set_option maxRecDepth 100000 in
theorem Deck.far {w : World} {g : Nat} {A : Option Addr} {c : Nat} {l : List Int} {k : Nat} (h : Deck w g A c l k) {p : Addr} (hp : g < p.block) (u : Value) : Deck (w.setCell p u) g A c l k :=
 ⟨h.blk.far (by omega) u, h.ints.setCell (by omega) u, h.le, h.len⟩
set_option maxRecDepth 100000 in
/-- A store into a block that is neither the deck's nor below the arguments' end. -/
theorem Deck.put {w w0 : World} {B g : Nat} {A : Option Addr} {c : Nat} {l : List Int} {k : Nat} (h : Deck w g A c l k) (hI : Reads w0 B 1 A l.length (l.map (Value.int .i64))) {p : Addr} (hp : B ≤ p.block) (hg : g ≠ p.block) (u : Value) : Deck (w.setCell p u) g A c l k := by
 refine ⟨h.blk.far hg u, ⟨h.ints.1, fun hn => ?_⟩, h.le, h.len⟩
 obtain ⟨ad, hA, hb, hc⟩ := h.ints.2 hn
 obtain ⟨ad', hA', hb', _⟩ := hI.2 hn
 have e : ad' = ad := by rw [hA] at hA'; exact (Option.some.inj hA').symm
 subst e
 refine ⟨ad', hA, hb, fun j u hu => ?_⟩
 rw [← hc j u hu]
 refine World.cell?_of_block (Below.heap_setCell w p _ _ ?_)
 rw [block_of_add]
 omega
def nextKs (l : List Int) (k : Nat) : Nat → Nat
 | 0 => k
 | p + 1 => nextK l (nextKs l k p)
end Go.Proofs.Ytobhdldlhhigdaa

namespace Go.Proofs.Ytobhdldlhhigdaa
open Go.RowKit
set_option maxRecDepth 100000 in
theorem range_any (g : Nat) (A : Option Addr) (c : Nat) (l : List Int) (k : Nat) (lo hi : Int) (w : World) (h : Deck w g A c l k) (h1 : lo ≤ hi) (h0 : 0 ≤ lo) (h2 : hi ≤ 4611686018427387904) :
 Calls Try.prog 25 #[.pointer (some ⟨g, 0, none⟩), .int .i64 lo, .int .i64 hi] w fun e w' => e = .returned (.int .i64 (lo + nextV l k (hi - lo + 1))) ∧ Deck w' g A c l (nextK l k) ∧ w.grownBy w' (some g) := by
 have hb := nextV_bd l k (n := hi - lo + 1) (by omega)
 have wa : IntKind.i64.wrap (hi - lo) = hi - lo := IntWalk.i64_in _ (by omega)
 have wb : IntKind.i64.wrap (hi - lo + 1) = hi - lo + 1 := IntWalk.i64_in _ (by omega)
 have wc : IntKind.i64.wrap (lo + nextV l k (hi - lo + 1)) = lo + nextV l k (hi - lo + 1) := IntWalk.i64_in _ (by omega)
 go_enter Try.func25, Try.ntmps25
 go_wp2_with (go_at_call 26; refine (next_any g A c l k _ _ h (by omega) (by omega)).mono ?_; rintro e w1 ⟨rfl, hD, hq⟩)
 go_ret
 exact ⟨rfl, hD, hq⟩
end Go.Proofs.Ytobhdldlhhigdaa

namespace Go.Proofs.Ytobhdldlhhigdaa
open Go.RowKit Go.Maps
set_option maxRecDepth 100000 in
theorem next_is (g : Nat) (A : Option Addr) (c : Nat) (l : List Int) (k k' : Nat) (n d : Int) (w : World) (h : Deck w g A c l k) (hn : 1 ≤ n) (hn2 : n ≤ 9223372036854775807) (hd : nextV l k n = d) (hk : nextK l k = k') :
 Calls Try.prog 26 #[.pointer (some ⟨g, 0, none⟩), .int .i64 n] w fun e w' => e = .returned (.int .i64 d) ∧ Deck w' g A c l k' ∧ w.grownBy w' (some g) := by
 subst hd hk
 exact next_any g A c l k n w h hn hn2
set_option maxRecDepth 100000 in
theorem range_is (g : Nat) (A : Option Addr) (c : Nat) (l : List Int) (k k' : Nat) (lo hi d : Int) (w : World) (h : Deck w g A c l k) (h1 : lo ≤ hi) (h0 : 0 ≤ lo) (h2 : hi ≤ 4611686018427387904) (hd : lo + nextV l k (hi - lo + 1) = d) (hk : nextK l k = k') :
 Calls Try.prog 25 #[.pointer (some ⟨g, 0, none⟩), .int .i64 lo, .int .i64 hi] w fun e w' => e = .returned (.int .i64 d) ∧ Deck w' g A c l k' ∧ w.grownBy w' (some g) := by
 subst hd hk
 exact range_any g A c l k lo hi w h h1 h0 h2
set_option maxRecDepth 100000 in
theorem next_ex (l : List Int) (k : Nat) {n : Int} (h : 1 ≤ n) : ∃ (d : Nat) (k' : Nat), nextV l k n = (d : Int) ∧ nextK l k = k' ∧ (d : Int) < n := by
 obtain ⟨h1, h2⟩ := nextV_bd l k h
 obtain ⟨d, hd⟩ := Int.eq_ofNat_of_zero_le h1
 exact ⟨d, _, hd, rfl, by omega⟩
set_option maxRecDepth 100000 in
theorem grown_alloc {a b : World} {row : Option Nat} (h : a.grownBy b row) (o : Obj) : a.grownBy (b.alloc o) row := only_grows h ((Below.refl _ _).alloc (Nat.le_refl _) o)
set_option maxRecDepth 100000 in
theorem grown_set {a b : World} {row : Option Nat} (h : a.grownBy b row) {p : Addr} (hp : a.heap.size ≤ p.block) (u : Value) : a.grownBy (b.setCell p u) row :=
 ⟨h.os, h.tape, h.output, by simpa [World.setCell] using h.size, fun k hk hn => (Below.heap_setCell b p u k (by omega)).trans (h.block k hk hn)⟩
set_option maxRecDepth 100000 in
theorem gok_of {w : World} {base : Nat} {v1 v2 : Value} {ns ls : List Q4} (h1 : OwnN w base v1 ns) (h2 : OwnL w base v2 ls) (hv : validG ns ls = true) :
 ∃ A c A2 c2, v1 = .slice A ns.length c ∧ v2 = .slice A2 ls.length c2 ∧ ns.length ≤ c ∧ GOK w A A2 c2 ns ls := by
 obtain ⟨A, c, e1, hc1, q1⟩ := h1.read
 obtain ⟨A2, c2, e2, hc2, q2⟩ := h2.read
 have hp := valid_parts.1 hv
 have hn := (okN_iff ns).1 hp.2.2.1
 have hk := (okK_iff ns ls).1 hp.2.2.2.1
 have hi : ∀ n ∈ ns, In64 n.a := fun n h => by
  have := hn.1 n h
  simp only [fineN, Bool.and_eq_true, decide_eq_true_eq] at this
  unfold In64
  omega
 refine ⟨A, c, A2, c2, e1, e2, hc1, q1, q2, by omega, by omega, hc2, hi, fun l hl => ?_⟩
 obtain ⟨⟨n, f1⟩, ⟨m, f2⟩⟩ := ends_node (hk.1 l hl)
 obtain ⟨m1, m2⟩ := find_some f1
 obtain ⟨m3, m4⟩ := find_some f2
 exact ⟨m2 ▸ hi n m1, m4 ▸ hi m m3⟩
set_option maxRecDepth 100000 in
theorem valid_nil : validG [] [] = true := by decide
/-- The maker's graph under way: the result's block g2, the graph's block g4, both of the call's own, as are its rows. -/
structure GS (w0 w : World) (gd g2 g4 : Nat) (v1 v2 : Value) (ns ls : List Q4) : Prop where
 rel : w0.grownBy w (some gd)
 b2 : Blk w g2 26 #[.slice none 0 0, .slice none 0 0]
 b4 : Blk w g4 26 #[v1, v2]
 n : OwnN w w0.heap.size v1 ns
 l : OwnL w w0.heap.size v2 ls
 v : validG ns ls = true
 d : gd < w0.heap.size
 g2d : w0.heap.size ≤ g2
 g4d : w0.heap.size ≤ g4
section
variable {w0 w w' : World} {gd g2 g4 : Nat} {v1 v2 : Value} {ns ls : List Q4}
set_option maxRecDepth 100000 in
theorem GS.grows (h : GS w0 w gd g2 g4 v1 v2 ns ls) (hg : Grows w w') : GS w0 w' gd g2 g4 v1 v2 ns ls :=
 ⟨only_grows h.rel hg, h.b2.grows hg, h.b4.grows hg, h.n.grows hg, h.l.grows hg, h.v, h.d, h.g2d, h.g4d⟩
set_option maxRecDepth 100000 in
theorem GS.next (h : GS w0 w gd g2 g4 v1 v2 ns ls) (hg : w.grownBy w' (some gd)) : GS w0 w' gd g2 g4 v1 v2 ns ls :=
 ⟨grown_trans h.rel hg, h.b2.grown hg (fun e => by have := h.d; have := h.g2d; injection e; omega), h.b4.grown hg (fun e => by have := h.d; have := h.g4d; injection e; omega),
  World.ownsRow.kept h.n hg (.inr (fun e => by have := h.d; have := (h.n.lt gd e).1; omega)), World.ownsRow.kept h.l hg (.inr (fun e => by have := h.d; have := (h.l.lt gd e).1; omega)), h.v, h.d, h.g2d, h.g4d⟩
set_option maxRecDepth 100000 in
theorem GS.size (h : GS w0 w gd g2 g4 v1 v2 ns ls) : w0.heap.size ≤ w.heap.size := h.rel.size
set_option maxRecDepth 100000 in
/-- A graph stored into the graph's block. -/
theorem GS.put {u1 u2 : Value} {ns' ls' : List Q4} (h : GS w0 w gd g2 g4 v1 v2 ns ls) (hne : g2 ≠ g4) (h1 : OwnN w w0.heap.size u1 ns') (h2 : OwnL w w0.heap.size u2 ls') (hv : validG ns' ls' = true) : GS w0 ((w.setCell ⟨g4, 0, none⟩ u1).setCell ⟨g4, 1, none⟩ u2) gd g2 g4 u1 u2 ns' ls' := by
 have k := (h.b4.set_ 0 u1).set_ 1 u2
 refine ⟨grown_set (grown_set h.rel h.g4d u1) h.g4d u2, (h.b2.far hne u1).far hne u2, by simpa using k, ?_, ?_, hv, h.d, h.g2d, h.g4d⟩
 ·exact OwnN.put (OwnN.put h1 h.b4 0 u1) (h.b4.set_ 0 u1) 1 u2
 ·exact OwnL.put (OwnL.put h2 h.b4 0 u1) (h.b4.set_ 0 u1) 1 u2
end
set_option maxRecDepth 100000 in
theorem Deck.put2 {w : World} {g p : Nat} {A : Option Addr} {c : Nat} {l : List Int} {k : Nat} (h : Deck w g A c l k) (hp : g < p) (u1 u2 : Value) : Deck ((w.setCell ⟨p, 0, none⟩ u1).setCell ⟨p, 1, none⟩ u2) g A c l k := (h.far hp u1).far hp u2
set_option maxRecDepth 100000 in
theorem fine_mk {i : Nat} (hi : i ≤ 8) {x : Nat} (hx : (x : Int) < 3) {b c d : Int} (h : (b == 1 && c == 0 && d == 1) || (b == 2 && c == 1 && d == 0) || (b == 3 && decide (1 ≤ c) && decide (c ≤ 8) && d == 1) || (b == 4 && c == 1 && d == 1) || (b == 5 && c == 1 && decide (1 ≤ d) && decide (d ≤ 8))) : fineN ⟨(i : Int) * 3 + 1 + x, b, c, d⟩ = true := by
 unfold fineN
 dsimp only
 rw [h]
 simp only [Bool.and_true, Bool.and_eq_true, decide_eq_true_eq]
 omega
/-- Where the deck stands, by what has run. -/
def dkK (k k1 k2 k3 k4 : Nat) (a b c d : Bool) : Nat := if d then k4 else if c then k3 else if b then k2 else if a then k1 else k
end Go.Proofs.Ytobhdldlhhigdaa
