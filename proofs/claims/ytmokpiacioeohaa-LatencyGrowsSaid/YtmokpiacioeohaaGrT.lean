/-
  Graphs: Valid of the program. Plain contract.
-/
import Derived.Test.YtmokpiacioeohaaGrR
namespace Go.Proofs.Ytmokpiacioeohaa
open Go.RowKit Go.Maps
theorem fine_is (x : Q4) (b : Bool) (w : World) (h : fineN x = b) : Calls Try.prog 44 #[.agg #[.int .i64 x.a, .int .i64 x.b, .int .i64 x.c, .int .i64 x.d]] w fun e w' => e = .returned (.bool b) ∧ Grows w w' := by
  subst h
  exact fine_any x w
theorem ends_is (bm n : Nat) (ns : List Q4) (l : Q4) (b : Bool) (w : World) (hm : MapT TI w bm n (nodeM ns)) (ha : In64 l.a) (hc : In64 l.c) (hN : okN ns = true) (hb : endsL ns l = b) :
    Calls Try.prog 46 #[.map (some bm), .agg #[.int .i64 l.a, .int .i64 l.b, .int .i64 l.c, .int .i64 l.d]] w fun e w' => e = .returned (.bool b) ∧ Grows w w' := by
  subst hb
  unfold endsL
  rw [← lastD_node hN, ← lastD_node hN]
  exact ends_any bm n ns l w hm ha hc
theorem compare_is (x l : Q4) (z : Int) (w : World) (h : cmpL x l = z) : Calls Try.prog 47 #[.agg #[.int .i64 x.a, .int .i64 x.b, .int .i64 x.c, .int .i64 x.d], .agg #[.int .i64 l.a, .int .i64 l.b, .int .i64 l.c, .int .i64 l.d]] w fun e w' => e = .returned (.int .i64 z) ∧ Grows w w' := by
  subst h
  exact compare_any x l w
theorem clash_is (bm n : Nat) (ns : List Q4) (x l : Q4) (b : Bool) (w : World) (hm : MapT TI w bm n (nodeM ns)) (ha : In64 x.a) (hc : In64 x.c) (hN : okN ns = true) (hb : clashL ns x l = b) :
    Calls Try.prog 48 #[.map (some bm), .agg #[.int .i64 x.a, .int .i64 x.b, .int .i64 x.c, .int .i64 x.d], .agg #[.int .i64 l.a, .int .i64 l.b, .int .i64 l.c, .int .i64 l.d]] w fun e w' => e = .returned (.bool b) ∧ Grows w w' := by
  subst hb
  have e : clashL ns x l = ((x.c == l.c && x.d == l.d && (lastD ns x.c).b != 3) || (x.a == l.a && x.b == l.b && (lastD ns x.a).b != 5 && (lastD ns x.a).b != 1)) := by
    unfold clashL
    rw [lastD_node hN, lastD_node hN]
    by_cases e1 : x.c = l.c
    · rw [e1]
      by_cases e2 : x.a = l.a
      · rw [e2]
      · have : (x.a == l.a) = false := by simpa using e2
        rw [this]
        rfl
    · have : (x.c == l.c) = false := by simpa using e1
      rw [this]
      by_cases e2 : x.a = l.a
      · rw [e2]
        rfl
      · have : (x.a == l.a) = false := by simpa using e2
        rw [this]
        rfl
  rw [e]
  exact clash_any bm n ns x l w hm ha hc
theorem porder_len (A A2 : Option Addr) (c c2 m : Nat) (ns ls : List Q4) (w : World) (h : Qs w A ns) (hl : ns.length ≤ 100000) (h2 : Qs w A2 ls) (hl2 : ls.length ≤ 100000) (hr : ∀ n ∈ ns, In64 n.a) (hr2 : ∀ l ∈ ls, In64 l.a ∧ In64 l.c) (hm : (orderL ns ls).length = m) :
    Calls Try.prog 49 #[.agg #[.slice A ns.length c, .slice A2 ls.length c2]] w fun e w' => (∃ v, e = .returned v ∧ ∃ A c, v = .slice A m c) ∧ Grows w w' := by
  subst hm
  refine (order_any A A2 c c2 ns ls w h hl h2 hl2 hr (fun l hl => (hr2 l hl).2)).mono ?_
  rintro e w' ⟨⟨v, rfl, ho⟩, hg⟩
  obtain ⟨A3, c3, rfl, -, -⟩ := ho.read
  exact ⟨⟨_, rfl, A3, c3, rfl⟩, hg⟩
set_option maxHeartbeats 16000000 in
theorem pvalidg_any (A A2 : Option Addr) (c c2 : Nat) (ns ls : List Q4) (w : World) (h : Qs w A ns) (hl : ns.length ≤ 9223372036854775807) (h2 : Qs w A2 ls) (hl2 : ls.length ≤ 9223372036854775807) (hc2 : ls.length ≤ c2) (hr : ∀ n ∈ ns, In64 n.a) (hr2 : ∀ l ∈ ls, In64 l.a ∧ In64 l.c) :
    Calls Try.prog 29 #[.agg #[.slice A ns.length c, .slice A2 ls.length c2]] w fun e w' => e = .returned (.bool (validG ns ls)) ∧ Grows w w' := by
  have HRn := Lib.hid hr
  have HRl := Lib.hid hr2
  clear hr hr2
  have k1 := Blk.new w 40 #[.slice A ns.length c, .slice A2 ls.length c2]
  have hB := (Below.refl w.heap.size w).alloc (Nat.le_refl _) (Obj.cells #[.slice A ns.length c, .slice A2 ls.length c2] 40)
  go_enter Try.func29, Try.ntmps29
  go_upto_region 1 with fail
  generalize World.alloc w _ = w1 at *
  have x1 := k1.cell
  by_cases b1 : 64 < ns.length
  · go_wp2
    go_ret
    refine ⟨ret_bool ?_, hB⟩
    simp only [validG, Bool.false_eq, Bool.and_eq_false_iff, decide_eq_false_iff_not]
    omega
  by_cases b2 : 256 < ls.length
  · go_wp2
    go_ret
    refine ⟨ret_bool ?_, hB⟩
    simp only [validG, Bool.false_eq, Bool.and_eq_false_iff, decide_eq_false_iff_not]
    omega
  have n1 : ns.length ≤ 64 := by omega
  have n2 : ls.length ≤ 256 := by omega
  go_wp2_with fail
  clear x1
  go_loopw [23] (fun i wr => ∃ k : Nat, k ≤ ns.length ∧ i = .int .i64 k ∧ Hid ((List.range k).all (stepN ns) = true) ∧ Below w.heap.size w wr ∧ Blk wr w.heap.size 40 #[.slice A ns.length c, .slice A2 ls.length c2]) (fun i _ => ns.length - (intOf i).toNat)
  case atStart => exact ⟨0, by omega, rfl, Lib.hid rfl, hB, k1⟩
  case round =>
    clear hB k1
    obtain ⟨k, hk, rfl, HA, hB, k1⟩ := hrel
    by_cases hlt : k < ns.length
    · obtain ⟨ad, x, rfl, had, hx, q0, q1, q2, q3⟩ := (h.grows hB).elem hlt
      have HX := Lib.hid hx
      clear hx
      have k4 := Blk.new wr 59 #[.int .i64 x.a, .int .i64 x.b, .int .i64 x.c, .int .i64 x.d]
      have hq := (Below.refl wr.heap.size wr).alloc (Nat.le_refl _) (Obj.cells #[.int .i64 x.a, .int .i64 x.b, .int .i64 x.c, .int .i64 x.d] 59)
      go_upto_region 6 with fail
      clear q0 q1 q2 q3
      replace hB := below_grows hB (Nat.le_refl _) hq
      replace k1 := k1.grows hq
      clear hq
      generalize World.alloc wr _ = w4 at *
      generalize wr.heap.size = G4 at *
      cases hfn : fineN x
      · have HF := Lib.hid hfn
        clear hfn
        obtain ⟨S, HI, HO⟩ : ∃ S : Ran → (Nat → Value) → World → Prop, Hid (∀ L vs w', (Grows w4 w' ∧ KnS [some (.agg #[.int .i64 x.a, .int .i64 x.b, .int .i64 x.c, .int .i64 x.d]), some (.bool false), some (.bool true), some (.bool true), none, none, some (undef), none, none, none, none, none, none, none, none, none, none, none, some (.bool true)] L vs) → S L vs w') ∧ Hid (∀ L vs w', S L vs w' → (Grows w4 w' ∧ KnS [some (.agg #[.int .i64 x.a, .int .i64 x.b, .int .i64 x.c, .int .i64 x.d]), some (.bool false), some (.bool true), some (.bool true), none, none, some (undef), none, none, none, none, none, none, none, none, none, none, none, some (.bool true)] L vs)) := ⟨fun L vs w' => Grows w4 w' ∧ KnS [some (.agg #[.int .i64 x.a, .int .i64 x.b, .int .i64 x.c, .int .i64 x.d]), some (.bool false), some (.bool true), some (.bool true), none, none, some (undef), none, none, none, none, none, none, none, none, none, none, none, some (.bool true)] L vs, fun _ _ _ h => h, fun _ _ _ h => h⟩
        refine wp_region_genW S 99 (by kernel_rfl) (by kernel_rfl) rfl ?_ ?_
        · exact HI.out _ _ _ ⟨Grows.drew' _, kn_none _ _⟩
        refine gen_cons (A' := ?_) (fun vs L w1 hL hw1 => ?_) ?_ ?_
        rotate_left 1
        · obtain ⟨q0, q1⟩ := HO.out _ _ _ hw1
          refine gen_plain rfl ?_
          have x := (k4.grows q0).cell 
          go_simp
          exact gr_val (HI.out _ _ _ ⟨q0, kn_known q1 rfl⟩)
        · intro vs
          simp only [Act.put, List.setIfInBounds_toArray, List.set_cons_succ, List.set_cons_zero]
          rfl
        refine gen_cons (A' := ?_) (fun vs L w1 hL hw1 => ?_) ?_ ?_
        rotate_left 1
        · obtain ⟨q0, q1⟩ := HO.out _ _ _ hw1
          refine gen_plain rfl ?_
          have l0 : L 0 = true := hL.need 0 (by kernel_rfl)
          have e0 := q1 0 _ rfl l0
          simp only [e0]
          go_simp
          refine gr_call ?_
          refine (fine_is x false w1 HF.out).mono ?_
          rintro e w2 ⟨rfl, hg⟩
          exact ⟨_, rfl, HI.out _ _ _ ⟨below_grows q0 (Nat.le_refl _) hg, kn_known q1 rfl⟩⟩
        · intro vs
          simp only [Act.put, List.setIfInBounds_toArray, List.set_cons_succ, List.set_cons_zero]
          rfl
        refine gen_cons (A' := ?_) (fun vs L w1 hL hw1 => ?_) ?_ ?_
        rotate_left 1
        · obtain ⟨q0, q1⟩ := HO.out _ _ _ hw1
          refine gen_plain rfl ?_
          have l1 : L 1 = true := hL.need 1 (by kernel_rfl)
          have e1 := q1 1 _ rfl l1
          simp only [e1]
          go_simp
          exact gr_val (HI.out _ _ _ ⟨q0, kn_known q1 rfl⟩)
        · intro vs
          simp only [Act.put, List.setIfInBounds_toArray, List.set_cons_succ, List.set_cons_zero]
          rfl
        refine gen_cons (A' := ?_) (fun vs L w1 hL hw1 => ?_) ?_ ?_
        rotate_left 1
        · obtain ⟨q0, q1⟩ := HO.out _ _ _ hw1
          refine gen_plain rfl ?_
          have l2 : L 2 = true := hL.need 2 (by kernel_rfl)
          have e2 := q1 2 _ rfl l2
          simp only [e2]
          go_simp
          exact gr_val (HI.out _ _ _ ⟨q0, kn_known q1 rfl⟩)
        · intro vs
          simp only [Act.put, List.setIfInBounds_toArray, List.set_cons_succ, List.set_cons_zero]
          rfl
        refine gen_cons (A' := ?_) (fun vs L w1 hL hw1 => ?_) ?_ ?_
        rotate_left 1
        · obtain ⟨q0, q1⟩ := HO.out _ _ _ hw1
          have l3 : L 3 = true := hL.need 3 (by kernel_rfl)
          have e3 := q1 3 _ rfl l3
          refine gen_no ?_ ?_
          · simp only [e3]
            rfl
          · exact HI.out _ _ _ ⟨q0, kn_free q1 rfl⟩
        · intro vs
          simp only [Act.put, List.setIfInBounds_toArray, List.set_cons_succ, List.set_cons_zero]
          rfl
        refine gen_cons (A' := ?_) (fun vs L w1 hL hw1 => ?_) ?_ ?_
        rotate_left 1
        · obtain ⟨q0, q1⟩ := HO.out _ _ _ hw1
          have l3 : L 3 = true := hL.need 3 (by kernel_rfl)
          have e3 := q1 3 _ rfl l3
          refine gen_no ?_ ?_
          · simp only [e3]
            rfl
          · exact HI.out _ _ _ ⟨q0, kn_free q1 rfl⟩
        · intro vs
          simp only [Act.put, List.setIfInBounds_toArray, List.set_cons_succ, List.set_cons_zero]
          rfl
        refine gen_cons (A' := ?_) (fun vs L w1 hL hw1 => ?_) ?_ ?_
        rotate_left 1
        · obtain ⟨q0, q1⟩ := HO.out _ _ _ hw1
          have l3 : L 3 = true := hL.need 3 (by kernel_rfl)
          have e3 := q1 3 _ rfl l3
          refine gen_no ?_ ?_
          · simp only [e3]
            rfl
          · exact HI.out _ _ _ ⟨q0, kn_known q1 rfl⟩
        · intro vs
          simp only [Act.put, List.setIfInBounds_toArray, List.set_cons_succ, List.set_cons_zero]
          rfl
        refine gen_cons (A' := ?_) (fun vs L w1 hL hw1 => ?_) ?_ ?_
        rotate_left 1
        · obtain ⟨q0, q1⟩ := HO.out _ _ _ hw1
          have l6 : L 6 = true := hL.need 6 (by kernel_rfl)
          have e6 := q1 6 _ rfl l6
          refine gen_no ?_ ?_
          · simp only [e6]
            rfl
          · exact HI.out _ _ _ ⟨q0, kn_free q1 rfl⟩
        · intro vs
          simp only [Act.put, List.setIfInBounds_toArray, List.set_cons_succ, List.set_cons_zero]
          rfl
        refine gen_cons (A' := ?_) (fun vs L w1 hL hw1 => ?_) ?_ ?_
        rotate_left 1
        · obtain ⟨q0, q1⟩ := HO.out _ _ _ hw1
          have l6 : L 6 = true := hL.need 6 (by kernel_rfl)
          have e6 := q1 6 _ rfl l6
          refine gen_no ?_ ?_
          · simp only [e6]
            rfl
          · exact HI.out _ _ _ ⟨q0, kn_free q1 rfl⟩
        · intro vs
          simp only [Act.put, List.setIfInBounds_toArray, List.set_cons_succ, List.set_cons_zero]
          rfl
        refine gen_cons (A' := ?_) (fun vs L w1 hL hw1 => ?_) ?_ ?_
        rotate_left 1
        · obtain ⟨q0, q1⟩ := HO.out _ _ _ hw1
          have l6 : L 6 = true := hL.need 6 (by kernel_rfl)
          have e6 := q1 6 _ rfl l6
          refine gen_no ?_ ?_
          · simp only [e6]
            rfl
          · exact HI.out _ _ _ ⟨q0, kn_free q1 rfl⟩
        · intro vs
          simp only [Act.put, List.setIfInBounds_toArray, List.set_cons_succ, List.set_cons_zero]
          rfl
        refine gen_cons (A' := ?_) (fun vs L w1 hL hw1 => ?_) ?_ ?_
        rotate_left 1
        · obtain ⟨q0, q1⟩ := HO.out _ _ _ hw1
          have l6 : L 6 = true := hL.need 6 (by kernel_rfl)
          have e6 := q1 6 _ rfl l6
          refine gen_no ?_ ?_
          · simp only [e6]
            rfl
          · exact HI.out _ _ _ ⟨q0, kn_free q1 rfl⟩
        · intro vs
          simp only [Act.put, List.setIfInBounds_toArray, List.set_cons_succ, List.set_cons_zero]
          rfl
        refine gen_cons (A' := ?_) (fun vs L w1 hL hw1 => ?_) ?_ ?_
        rotate_left 1
        · obtain ⟨q0, q1⟩ := HO.out _ _ _ hw1
          have l6 : L 6 = true := hL.need 6 (by kernel_rfl)
          have e6 := q1 6 _ rfl l6
          refine gen_no ?_ ?_
          · simp only [e6]
            rfl
          · exact HI.out _ _ _ ⟨q0, kn_free q1 rfl⟩
        · intro vs
          simp only [Act.put, List.setIfInBounds_toArray, List.set_cons_succ, List.set_cons_zero]
          rfl
        refine gen_cons (A' := ?_) (fun vs L w1 hL hw1 => ?_) ?_ ?_
        rotate_left 1
        · obtain ⟨q0, q1⟩ := HO.out _ _ _ hw1
          have l6 : L 6 = true := hL.need 6 (by kernel_rfl)
          have e6 := q1 6 _ rfl l6
          refine gen_no ?_ ?_
          · simp only [e6]
            rfl
          · exact HI.out _ _ _ ⟨q0, kn_free q1 rfl⟩
        · intro vs
          simp only [Act.put, List.setIfInBounds_toArray, List.set_cons_succ, List.set_cons_zero]
          rfl
        refine gen_cons (A' := ?_) (fun vs L w1 hL hw1 => ?_) ?_ ?_
        rotate_left 1
        · obtain ⟨q0, q1⟩ := HO.out _ _ _ hw1
          have l6 : L 6 = true := hL.need 6 (by kernel_rfl)
          have e6 := q1 6 _ rfl l6
          refine gen_no ?_ ?_
          · simp only [e6]
            rfl
          · exact HI.out _ _ _ ⟨q0, kn_free q1 rfl⟩
        · intro vs
          simp only [Act.put, List.setIfInBounds_toArray, List.set_cons_succ, List.set_cons_zero]
          rfl
        refine gen_cons (A' := ?_) (fun vs L w1 hL hw1 => ?_) ?_ ?_
        rotate_left 1
        · obtain ⟨q0, q1⟩ := HO.out _ _ _ hw1
          have l6 : L 6 = true := hL.need 6 (by kernel_rfl)
          have e6 := q1 6 _ rfl l6
          refine gen_no ?_ ?_
          · simp only [e6]
            rfl
          · exact HI.out _ _ _ ⟨q0, kn_free q1 rfl⟩
        · intro vs
          simp only [Act.put, List.setIfInBounds_toArray, List.set_cons_succ, List.set_cons_zero]
          rfl
        refine gen_cons (A' := ?_) (fun vs L w1 hL hw1 => ?_) ?_ ?_
        rotate_left 1
        · obtain ⟨q0, q1⟩ := HO.out _ _ _ hw1
          have l6 : L 6 = true := hL.need 6 (by kernel_rfl)
          have e6 := q1 6 _ rfl l6
          refine gen_no ?_ ?_
          · simp only [e6]
            rfl
          · exact HI.out _ _ _ ⟨q0, kn_free q1 rfl⟩
        · intro vs
          simp only [Act.put, List.setIfInBounds_toArray, List.set_cons_succ, List.set_cons_zero]
          rfl
        refine gen_cons (A' := ?_) (fun vs L w1 hL hw1 => ?_) ?_ ?_
        rotate_left 1
        · obtain ⟨q0, q1⟩ := HO.out _ _ _ hw1
          have l6 : L 6 = true := hL.need 6 (by kernel_rfl)
          have e6 := q1 6 _ rfl l6
          refine gen_no ?_ ?_
          · simp only [e6]
            rfl
          · exact HI.out _ _ _ ⟨q0, kn_free q1 rfl⟩
        · intro vs
          simp only [Act.put, List.setIfInBounds_toArray, List.set_cons_succ, List.set_cons_zero]
          rfl
        refine gen_cons (A' := ?_) (fun vs L w1 hL hw1 => ?_) ?_ ?_
        rotate_left 1
        · obtain ⟨q0, q1⟩ := HO.out _ _ _ hw1
          have l3 : L 3 = true := hL.need 3 (by kernel_rfl)
          have e3 := q1 3 _ rfl l3
          refine gen_no ?_ ?_
          · simp only [e3]
            rfl
          · exact HI.out _ _ _ ⟨q0, kn_free q1 rfl⟩
        · intro vs
          simp only [Act.put, List.setIfInBounds_toArray, List.set_cons_succ, List.set_cons_zero]
          rfl
        refine gen_cons (A' := ?_) (fun vs L w1 hL hw1 => ?_) ?_ ?_
        rotate_left 1
        · obtain ⟨q0, q1⟩ := HO.out _ _ _ hw1
          refine gen_plain rfl ?_
          have l3 : L 3 = true := hL.need 3 (by kernel_rfl)
          have e3 := q1 3 _ rfl l3
          simp only [e3]
          go_simp
          exact gr_val (HI.out _ _ _ ⟨q0, kn_known q1 rfl⟩)
        · intro vs
          simp only [Act.put, List.setIfInBounds_toArray, List.set_cons_succ, List.set_cons_zero]
          rfl
        refine gen_nil ?_
        intro vs L W6 hall hS
        obtain ⟨hq, q1⟩ := HO.out _ _ _ hS
        have eX18 := q1 18 _ rfl (hall 18 (by simp))
        clear hall hS HI HO q1
        simp only [eX18]
        go_wp2
        go_ret
        refine ⟨ret_bool ?_, below_grows hB (Nat.le_refl _) hq⟩
        exact (valid_no1 hlt (by rw [stepN_at HX.out, HF.out]; rfl)).symm
      · have HF := Lib.hid hfn
        clear hfn
        by_cases hk0 : k = 0
        · have hk9 : decide (0 < k) = false := by simp [hk0]
          have HK0 := Lib.hid hk0
          clear hk0
          have HA2 := Lib.hid (range_all_up HA.out (by rw [stepN_at HX.out, HF.out, HK0.out]; rfl))
          obtain ⟨S, HI, HO⟩ : ∃ S : Ran → (Nat → Value) → World → Prop, Hid (∀ L vs w', (Grows w4 w' ∧ KnS [some (.agg #[.int .i64 x.a, .int .i64 x.b, .int .i64 x.c, .int .i64 x.d]), some (.bool true), some (.bool false), some (.bool false), some (.int .i64 (k : Int)), some (.bool false), some (.bool false), none, none, none, none, none, none, none, none, none, none, some (.bool false), some (.bool false)] L vs) → S L vs w') ∧ Hid (∀ L vs w', S L vs w' → (Grows w4 w' ∧ KnS [some (.agg #[.int .i64 x.a, .int .i64 x.b, .int .i64 x.c, .int .i64 x.d]), some (.bool true), some (.bool false), some (.bool false), some (.int .i64 (k : Int)), some (.bool false), some (.bool false), none, none, none, none, none, none, none, none, none, none, some (.bool false), some (.bool false)] L vs)) := ⟨fun L vs w' => Grows w4 w' ∧ KnS [some (.agg #[.int .i64 x.a, .int .i64 x.b, .int .i64 x.c, .int .i64 x.d]), some (.bool true), some (.bool false), some (.bool false), some (.int .i64 (k : Int)), some (.bool false), some (.bool false), none, none, none, none, none, none, none, none, none, none, some (.bool false), some (.bool false)] L vs, fun _ _ _ h => h, fun _ _ _ h => h⟩
          refine wp_region_genW S 99 (by kernel_rfl) (by kernel_rfl) rfl ?_ ?_
          · exact HI.out _ _ _ ⟨Grows.drew' _, kn_none _ _⟩
          refine gen_cons (A' := ?_) (fun vs L w1 hL hw1 => ?_) ?_ ?_
          rotate_left 1
          · obtain ⟨q0, q1⟩ := HO.out _ _ _ hw1
            refine gen_plain rfl ?_
            have x := (k4.grows q0).cell 
            go_simp
            exact gr_val (HI.out _ _ _ ⟨q0, kn_known q1 rfl⟩)
          · intro vs
            simp only [Act.put, List.setIfInBounds_toArray, List.set_cons_succ, List.set_cons_zero]
            rfl
          refine gen_cons (A' := ?_) (fun vs L w1 hL hw1 => ?_) ?_ ?_
          rotate_left 1
          · obtain ⟨q0, q1⟩ := HO.out _ _ _ hw1
            refine gen_plain rfl ?_
            have l0 : L 0 = true := hL.need 0 (by kernel_rfl)
            have e0 := q1 0 _ rfl l0
            simp only [e0]
            go_simp
            refine gr_call ?_
            refine (fine_is x true w1 HF.out).mono ?_
            rintro e w2 ⟨rfl, hg⟩
            exact ⟨_, rfl, HI.out _ _ _ ⟨below_grows q0 (Nat.le_refl _) hg, kn_known q1 rfl⟩⟩
          · intro vs
            simp only [Act.put, List.setIfInBounds_toArray, List.set_cons_succ, List.set_cons_zero]
            rfl
          refine gen_cons (A' := ?_) (fun vs L w1 hL hw1 => ?_) ?_ ?_
          rotate_left 1
          · obtain ⟨q0, q1⟩ := HO.out _ _ _ hw1
            refine gen_plain rfl ?_
            have l1 : L 1 = true := hL.need 1 (by kernel_rfl)
            have e1 := q1 1 _ rfl l1
            simp only [e1]
            go_simp
            exact gr_val (HI.out _ _ _ ⟨q0, kn_known q1 rfl⟩)
          · intro vs
            simp only [Act.put, List.setIfInBounds_toArray, List.set_cons_succ, List.set_cons_zero]
            rfl
          refine gen_cons (A' := ?_) (fun vs L w1 hL hw1 => ?_) ?_ ?_
          rotate_left 1
          · obtain ⟨q0, q1⟩ := HO.out _ _ _ hw1
            refine gen_plain rfl ?_
            have l2 : L 2 = true := hL.need 2 (by kernel_rfl)
            have e2 := q1 2 _ rfl l2
            simp only [e2]
            go_simp
            exact gr_val (HI.out _ _ _ ⟨q0, kn_known q1 rfl⟩)
          · intro vs
            simp only [Act.put, List.setIfInBounds_toArray, List.set_cons_succ, List.set_cons_zero]
            rfl
          refine gen_cons (A' := ?_) (fun vs L w1 hL hw1 => ?_) ?_ ?_
          rotate_left 1
          · obtain ⟨q0, q1⟩ := HO.out _ _ _ hw1
            have l3 : L 3 = true := hL.need 3 (by kernel_rfl)
            have e3 := q1 3 _ rfl l3
            refine gen_yes ?_ ?_
            · simp only [e3]
              rfl
            go_simp
            exact gr_val (HI.out _ _ _ ⟨q0, kn_known q1 rfl⟩)
          · intro vs
            simp only [Act.put, List.setIfInBounds_toArray, List.set_cons_succ, List.set_cons_zero]
            rfl
          refine gen_cons (A' := ?_) (fun vs L w1 hL hw1 => ?_) ?_ ?_
          rotate_left 1
          · obtain ⟨q0, q1⟩ := HO.out _ _ _ hw1
            have l3 : L 3 = true := hL.need 3 (by kernel_rfl)
            have e3 := q1 3 _ rfl l3
            refine gen_yes ?_ ?_
            · simp only [e3]
              rfl
            have l4 : L 4 = true := hL.need 4 (by kernel_rfl)
            have e4 := q1 4 _ rfl l4
            simp only [e4]
            go_simp
            exact gr_val (HI.out _ _ _ ⟨q0, kn_known q1 rfl⟩)
          · intro vs
            simp only [Act.put, List.setIfInBounds_toArray, List.set_cons_succ, List.set_cons_zero]
            rfl
          refine gen_cons (A' := ?_) (fun vs L w1 hL hw1 => ?_) ?_ ?_
          rotate_left 1
          · obtain ⟨q0, q1⟩ := HO.out _ _ _ hw1
            have l3 : L 3 = true := hL.need 3 (by kernel_rfl)
            have e3 := q1 3 _ rfl l3
            refine gen_yes ?_ ?_
            · simp only [e3]
              rfl
            have l5 : L 5 = true := hL.need 5 (by kernel_rfl)
            have e5 := q1 5 _ rfl l5
            simp only [e5]
            go_simp
            exact gr_val (HI.out _ _ _ ⟨q0, kn_known q1 rfl⟩)
          · intro vs
            simp only [Act.put, List.setIfInBounds_toArray, List.set_cons_succ, List.set_cons_zero]
            rfl
          refine gen_cons (A' := ?_) (fun vs L w1 hL hw1 => ?_) ?_ ?_
          rotate_left 1
          · obtain ⟨q0, q1⟩ := HO.out _ _ _ hw1
            have l6 : L 6 = true := hL.need 6 (by kernel_rfl)
            have e6 := q1 6 _ rfl l6
            refine gen_no ?_ ?_
            · simp only [e6]
              rfl
            · exact HI.out _ _ _ ⟨q0, kn_free q1 rfl⟩
          · intro vs
            simp only [Act.put, List.setIfInBounds_toArray, List.set_cons_succ, List.set_cons_zero]
            rfl
          refine gen_cons (A' := ?_) (fun vs L w1 hL hw1 => ?_) ?_ ?_
          rotate_left 1
          · obtain ⟨q0, q1⟩ := HO.out _ _ _ hw1
            have l6 : L 6 = true := hL.need 6 (by kernel_rfl)
            have e6 := q1 6 _ rfl l6
            refine gen_no ?_ ?_
            · simp only [e6]
              rfl
            · exact HI.out _ _ _ ⟨q0, kn_free q1 rfl⟩
          · intro vs
            simp only [Act.put, List.setIfInBounds_toArray, List.set_cons_succ, List.set_cons_zero]
            rfl
          refine gen_cons (A' := ?_) (fun vs L w1 hL hw1 => ?_) ?_ ?_
          rotate_left 1
          · obtain ⟨q0, q1⟩ := HO.out _ _ _ hw1
            have l6 : L 6 = true := hL.need 6 (by kernel_rfl)
            have e6 := q1 6 _ rfl l6
            refine gen_no ?_ ?_
            · simp only [e6]
              rfl
            · exact HI.out _ _ _ ⟨q0, kn_free q1 rfl⟩
          · intro vs
            simp only [Act.put, List.setIfInBounds_toArray, List.set_cons_succ, List.set_cons_zero]
            rfl
          refine gen_cons (A' := ?_) (fun vs L w1 hL hw1 => ?_) ?_ ?_
          rotate_left 1
          · obtain ⟨q0, q1⟩ := HO.out _ _ _ hw1
            have l6 : L 6 = true := hL.need 6 (by kernel_rfl)
            have e6 := q1 6 _ rfl l6
            refine gen_no ?_ ?_
            · simp only [e6]
              rfl
            · exact HI.out _ _ _ ⟨q0, kn_free q1 rfl⟩
          · intro vs
            simp only [Act.put, List.setIfInBounds_toArray, List.set_cons_succ, List.set_cons_zero]
            rfl
          refine gen_cons (A' := ?_) (fun vs L w1 hL hw1 => ?_) ?_ ?_
          rotate_left 1
          · obtain ⟨q0, q1⟩ := HO.out _ _ _ hw1
            have l6 : L 6 = true := hL.need 6 (by kernel_rfl)
            have e6 := q1 6 _ rfl l6
            refine gen_no ?_ ?_
            · simp only [e6]
              rfl
            · exact HI.out _ _ _ ⟨q0, kn_free q1 rfl⟩
          · intro vs
            simp only [Act.put, List.setIfInBounds_toArray, List.set_cons_succ, List.set_cons_zero]
            rfl
          refine gen_cons (A' := ?_) (fun vs L w1 hL hw1 => ?_) ?_ ?_
          rotate_left 1
          · obtain ⟨q0, q1⟩ := HO.out _ _ _ hw1
            have l6 : L 6 = true := hL.need 6 (by kernel_rfl)
            have e6 := q1 6 _ rfl l6
            refine gen_no ?_ ?_
            · simp only [e6]
              rfl
            · exact HI.out _ _ _ ⟨q0, kn_free q1 rfl⟩
          · intro vs
            simp only [Act.put, List.setIfInBounds_toArray, List.set_cons_succ, List.set_cons_zero]
            rfl
          refine gen_cons (A' := ?_) (fun vs L w1 hL hw1 => ?_) ?_ ?_
          rotate_left 1
          · obtain ⟨q0, q1⟩ := HO.out _ _ _ hw1
            have l6 : L 6 = true := hL.need 6 (by kernel_rfl)
            have e6 := q1 6 _ rfl l6
            refine gen_no ?_ ?_
            · simp only [e6]
              rfl
            · exact HI.out _ _ _ ⟨q0, kn_free q1 rfl⟩
          · intro vs
            simp only [Act.put, List.setIfInBounds_toArray, List.set_cons_succ, List.set_cons_zero]
            rfl
          refine gen_cons (A' := ?_) (fun vs L w1 hL hw1 => ?_) ?_ ?_
          rotate_left 1
          · obtain ⟨q0, q1⟩ := HO.out _ _ _ hw1
            have l6 : L 6 = true := hL.need 6 (by kernel_rfl)
            have e6 := q1 6 _ rfl l6
            refine gen_no ?_ ?_
            · simp only [e6]
              rfl
            · exact HI.out _ _ _ ⟨q0, kn_free q1 rfl⟩
          · intro vs
            simp only [Act.put, List.setIfInBounds_toArray, List.set_cons_succ, List.set_cons_zero]
            rfl
          refine gen_cons (A' := ?_) (fun vs L w1 hL hw1 => ?_) ?_ ?_
          rotate_left 1
          · obtain ⟨q0, q1⟩ := HO.out _ _ _ hw1
            have l6 : L 6 = true := hL.need 6 (by kernel_rfl)
            have e6 := q1 6 _ rfl l6
            refine gen_no ?_ ?_
            · simp only [e6]
              rfl
            · exact HI.out _ _ _ ⟨q0, kn_free q1 rfl⟩
          · intro vs
            simp only [Act.put, List.setIfInBounds_toArray, List.set_cons_succ, List.set_cons_zero]
            rfl
          refine gen_cons (A' := ?_) (fun vs L w1 hL hw1 => ?_) ?_ ?_
          rotate_left 1
          · obtain ⟨q0, q1⟩ := HO.out _ _ _ hw1
            have l6 : L 6 = true := hL.need 6 (by kernel_rfl)
            have e6 := q1 6 _ rfl l6
            refine gen_no ?_ ?_
            · simp only [e6]
              rfl
            · exact HI.out _ _ _ ⟨q0, kn_free q1 rfl⟩
          · intro vs
            simp only [Act.put, List.setIfInBounds_toArray, List.set_cons_succ, List.set_cons_zero]
            rfl
          refine gen_cons (A' := ?_) (fun vs L w1 hL hw1 => ?_) ?_ ?_
          rotate_left 1
          · obtain ⟨q0, q1⟩ := HO.out _ _ _ hw1
            have l3 : L 3 = true := hL.need 3 (by kernel_rfl)
            have e3 := q1 3 _ rfl l3
            refine gen_yes ?_ ?_
            · simp only [e3]
              rfl
            have l6 : L 6 = true := hL.need 6 (by kernel_rfl)
            have e6 := q1 6 _ rfl l6
            simp only [e6]
            go_simp
            exact gr_val (HI.out _ _ _ ⟨q0, kn_known q1 rfl⟩)
          · intro vs
            simp only [Act.put, List.setIfInBounds_toArray, List.set_cons_succ, List.set_cons_zero]
            rfl
          refine gen_cons (A' := ?_) (fun vs L w1 hL hw1 => ?_) ?_ ?_
          rotate_left 1
          · obtain ⟨q0, q1⟩ := HO.out _ _ _ hw1
            refine gen_plain rfl ?_
            have l3 : L 3 = true := hL.need 3 (by kernel_rfl)
            have e3 := q1 3 _ rfl l3
            have l17 : L 17 = true := hL.need 17 (by kernel_rfl)
            have e17 := q1 17 _ rfl l17
            simp only [e3, e17]
            go_simp
            exact gr_val (HI.out _ _ _ ⟨q0, kn_known q1 rfl⟩)
          · intro vs
            simp only [Act.put, List.setIfInBounds_toArray, List.set_cons_succ, List.set_cons_zero]
            rfl
          refine gen_nil ?_
          intro vs L W6 hall hS
          obtain ⟨hq, q1⟩ := HO.out _ _ _ hS
          have eX18 := q1 18 _ rfl (hall 18 (by simp))
          clear hall hS HI HO q1
          simp only [eX18]
          go_wp2
          go_roundw
          case rel => exact ⟨k + 1, by omega, by go_num, HA2, below_grows hB (Nat.le_refl _) hq, k1.grows hq⟩
          case measure => simp [intOf]; omega
        · obtain ⟨kp, rfl⟩ : ∃ kp, k = kp + 1 := ⟨k - 1, by omega⟩
          have hkl : kp < ns.length := by omega
          have hw : Hid (IntKind.i64.wrap (kp : Int) = (kp : Int)) := Lib.hid (IntWalk.i64_in _ (by omega))
          have hkp : Hid ((((kp + 1 : Nat) : Int)) - 1 = (kp : Int)) := Lib.hid (by omega)
          obtain ⟨ad', p, e, -, hp0, hp⟩ := h.addr (k := kp) (by omega)
          injection e with e
          subst e
          have HP := Lib.hid hp0
          clear hp0
          by_cases hge : x.a ≤ p.a
          · have HF2 : Hid (stepN ns (kp + 1) = false) := Lib.hid (by rw [stepN_at HX.out, show kp + 1 - 1 = kp from rfl, getD_at HP.out]; simp; omega)
            obtain ⟨S, HI, HO⟩ : ∃ S : Ran → (Nat → Value) → World → Prop, Hid (∀ L vs w', (Grows w4 w' ∧ KnS [some (.agg #[.int .i64 x.a, .int .i64 x.b, .int .i64 x.c, .int .i64 x.d]), some (.bool true), some (.bool false), some (.bool false), some (.int .i64 ((kp + 1 : Nat) : Int)), some (.bool true), some (.bool true), some (.pointer (some ⟨G4, 0, none⟩)), some (.int .i64 x.a), some (.pointer (some ⟨w.heap.size, 0, none⟩)), some (.slice (some ad) ns.length c), some (.int .i64 ((kp + 1 : Nat) : Int)), some (.int .i64 (kp : Int)), some (.pointer (some (ad.add (kp * 4)))), some (.pointer (some (ad.add (kp * 4)))), some (.int .i64 p.a), some (.bool true), some (.bool true), some (.bool true)] L vs) → S L vs w') ∧ Hid (∀ L vs w', S L vs w' → (Grows w4 w' ∧ KnS [some (.agg #[.int .i64 x.a, .int .i64 x.b, .int .i64 x.c, .int .i64 x.d]), some (.bool true), some (.bool false), some (.bool false), some (.int .i64 ((kp + 1 : Nat) : Int)), some (.bool true), some (.bool true), some (.pointer (some ⟨G4, 0, none⟩)), some (.int .i64 x.a), some (.pointer (some ⟨w.heap.size, 0, none⟩)), some (.slice (some ad) ns.length c), some (.int .i64 ((kp + 1 : Nat) : Int)), some (.int .i64 (kp : Int)), some (.pointer (some (ad.add (kp * 4)))), some (.pointer (some (ad.add (kp * 4)))), some (.int .i64 p.a), some (.bool true), some (.bool true), some (.bool true)] L vs)) := ⟨fun L vs w' => Grows w4 w' ∧ KnS [some (.agg #[.int .i64 x.a, .int .i64 x.b, .int .i64 x.c, .int .i64 x.d]), some (.bool true), some (.bool false), some (.bool false), some (.int .i64 ((kp + 1 : Nat) : Int)), some (.bool true), some (.bool true), some (.pointer (some ⟨G4, 0, none⟩)), some (.int .i64 x.a), some (.pointer (some ⟨w.heap.size, 0, none⟩)), some (.slice (some ad) ns.length c), some (.int .i64 ((kp + 1 : Nat) : Int)), some (.int .i64 (kp : Int)), some (.pointer (some (ad.add (kp * 4)))), some (.pointer (some (ad.add (kp * 4)))), some (.int .i64 p.a), some (.bool true), some (.bool true), some (.bool true)] L vs, fun _ _ _ h => h, fun _ _ _ h => h⟩
            refine wp_region_genW S 99 (by kernel_rfl) (by kernel_rfl) rfl ?_ ?_
            · exact HI.out _ _ _ ⟨Grows.drew' _, kn_none _ _⟩
            refine gen_cons (A' := ?_) (fun vs L w1 hL hw1 => ?_) ?_ ?_
            rotate_left 1
            · obtain ⟨q0, q1⟩ := HO.out _ _ _ hw1
              refine gen_plain rfl ?_
              have x := (k4.grows q0).cell 
              go_simp
              exact gr_val (HI.out _ _ _ ⟨q0, kn_known q1 rfl⟩)
            · intro vs
              simp only [Act.put, List.setIfInBounds_toArray, List.set_cons_succ, List.set_cons_zero]
              rfl
            refine gen_cons (A' := ?_) (fun vs L w1 hL hw1 => ?_) ?_ ?_
            rotate_left 1
            · obtain ⟨q0, q1⟩ := HO.out _ _ _ hw1
              refine gen_plain rfl ?_
              have l0 : L 0 = true := hL.need 0 (by kernel_rfl)
              have e0 := q1 0 _ rfl l0
              simp only [e0]
              go_simp
              refine gr_call ?_
              refine (fine_is x true w1 HF.out).mono ?_
              rintro e w2 ⟨rfl, hg⟩
              exact ⟨_, rfl, HI.out _ _ _ ⟨below_grows q0 (Nat.le_refl _) hg, kn_known q1 rfl⟩⟩
            · intro vs
              simp only [Act.put, List.setIfInBounds_toArray, List.set_cons_succ, List.set_cons_zero]
              rfl
            refine gen_cons (A' := ?_) (fun vs L w1 hL hw1 => ?_) ?_ ?_
            rotate_left 1
            · obtain ⟨q0, q1⟩ := HO.out _ _ _ hw1
              refine gen_plain rfl ?_
              have l1 : L 1 = true := hL.need 1 (by kernel_rfl)
              have e1 := q1 1 _ rfl l1
              simp only [e1]
              go_simp
              exact gr_val (HI.out _ _ _ ⟨q0, kn_known q1 rfl⟩)
            · intro vs
              simp only [Act.put, List.setIfInBounds_toArray, List.set_cons_succ, List.set_cons_zero]
              rfl
            refine gen_cons (A' := ?_) (fun vs L w1 hL hw1 => ?_) ?_ ?_
            rotate_left 1
            · obtain ⟨q0, q1⟩ := HO.out _ _ _ hw1
              refine gen_plain rfl ?_
              have l2 : L 2 = true := hL.need 2 (by kernel_rfl)
              have e2 := q1 2 _ rfl l2
              simp only [e2]
              go_simp
              exact gr_val (HI.out _ _ _ ⟨q0, kn_known q1 rfl⟩)
            · intro vs
              simp only [Act.put, List.setIfInBounds_toArray, List.set_cons_succ, List.set_cons_zero]
              rfl
            refine gen_cons (A' := ?_) (fun vs L w1 hL hw1 => ?_) ?_ ?_
            rotate_left 1
            · obtain ⟨q0, q1⟩ := HO.out _ _ _ hw1
              have l3 : L 3 = true := hL.need 3 (by kernel_rfl)
              have e3 := q1 3 _ rfl l3
              refine gen_yes ?_ ?_
              · simp only [e3]
                rfl
              go_simp
              exact gr_val (HI.out _ _ _ ⟨q0, kn_known q1 rfl⟩)
            · intro vs
              simp only [Act.put, List.setIfInBounds_toArray, List.set_cons_succ, List.set_cons_zero]
              rfl
            refine gen_cons (A' := ?_) (fun vs L w1 hL hw1 => ?_) ?_ ?_
            rotate_left 1
            · obtain ⟨q0, q1⟩ := HO.out _ _ _ hw1
              have l3 : L 3 = true := hL.need 3 (by kernel_rfl)
              have e3 := q1 3 _ rfl l3
              refine gen_yes ?_ ?_
              · simp only [e3]
                rfl
              have l4 : L 4 = true := hL.need 4 (by kernel_rfl)
              have e4 := q1 4 _ rfl l4
              simp only [e4]
              go_simp
              exact gr_val (HI.out _ _ _ ⟨q0, kn_known q1 rfl⟩)
            · intro vs
              simp only [Act.put, List.setIfInBounds_toArray, List.set_cons_succ, List.set_cons_zero]
              rfl
            refine gen_cons (A' := ?_) (fun vs L w1 hL hw1 => ?_) ?_ ?_
            rotate_left 1
            · obtain ⟨q0, q1⟩ := HO.out _ _ _ hw1
              have l3 : L 3 = true := hL.need 3 (by kernel_rfl)
              have e3 := q1 3 _ rfl l3
              refine gen_yes ?_ ?_
              · simp only [e3]
                rfl
              have l5 : L 5 = true := hL.need 5 (by kernel_rfl)
              have e5 := q1 5 _ rfl l5
              simp only [e5]
              go_simp
              exact gr_val (HI.out _ _ _ ⟨q0, kn_known q1 rfl⟩)
            · intro vs
              simp only [Act.put, List.setIfInBounds_toArray, List.set_cons_succ, List.set_cons_zero]
              rfl
            refine gen_cons (A' := ?_) (fun vs L w1 hL hw1 => ?_) ?_ ?_
            rotate_left 1
            · obtain ⟨q0, q1⟩ := HO.out _ _ _ hw1
              have l6 : L 6 = true := hL.need 6 (by kernel_rfl)
              have e6 := q1 6 _ rfl l6
              refine gen_yes ?_ ?_
              · simp only [e6]
                rfl
              go_simp
              exact gr_val (HI.out _ _ _ ⟨q0, kn_known q1 rfl⟩)
            · intro vs
              simp only [Act.put, List.setIfInBounds_toArray, List.set_cons_succ, List.set_cons_zero]
              rfl
            refine gen_cons (A' := ?_) (fun vs L w1 hL hw1 => ?_) ?_ ?_
            rotate_left 1
            · obtain ⟨q0, q1⟩ := HO.out _ _ _ hw1
              have l6 : L 6 = true := hL.need 6 (by kernel_rfl)
              have e6 := q1 6 _ rfl l6
              refine gen_yes ?_ ?_
              · simp only [e6]
                rfl
              have l7 : L 7 = true := hL.need 7 (by kernel_rfl)
              have e7 := q1 7 _ rfl l7
              have x := (k4.grows q0).cell 0
              simp only [e7]
              go_simp
              exact gr_val (HI.out _ _ _ ⟨q0, kn_known q1 rfl⟩)
            · intro vs
              simp only [Act.put, List.setIfInBounds_toArray, List.set_cons_succ, List.set_cons_zero]
              rfl
            refine gen_cons (A' := ?_) (fun vs L w1 hL hw1 => ?_) ?_ ?_
            rotate_left 1
            · obtain ⟨q0, q1⟩ := HO.out _ _ _ hw1
              have l6 : L 6 = true := hL.need 6 (by kernel_rfl)
              have e6 := q1 6 _ rfl l6
              refine gen_yes ?_ ?_
              · simp only [e6]
                rfl
              go_simp
              exact gr_val (HI.out _ _ _ ⟨q0, kn_known q1 rfl⟩)
            · intro vs
              simp only [Act.put, List.setIfInBounds_toArray, List.set_cons_succ, List.set_cons_zero]
              rfl
            refine gen_cons (A' := ?_) (fun vs L w1 hL hw1 => ?_) ?_ ?_
            rotate_left 1
            · obtain ⟨q0, q1⟩ := HO.out _ _ _ hw1
              have l6 : L 6 = true := hL.need 6 (by kernel_rfl)
              have e6 := q1 6 _ rfl l6
              refine gen_yes ?_ ?_
              · simp only [e6]
                rfl
              have l9 : L 9 = true := hL.need 9 (by kernel_rfl)
              have e9 := q1 9 _ rfl l9
              have x := (k1.grows q0).cell 0
              simp only [e9]
              go_simp
              exact gr_val (HI.out _ _ _ ⟨q0, kn_known q1 rfl⟩)
            · intro vs
              simp only [Act.put, List.setIfInBounds_toArray, List.set_cons_succ, List.set_cons_zero]
              rfl
            refine gen_cons (A' := ?_) (fun vs L w1 hL hw1 => ?_) ?_ ?_
            rotate_left 1
            · obtain ⟨q0, q1⟩ := HO.out _ _ _ hw1
              have l6 : L 6 = true := hL.need 6 (by kernel_rfl)
              have e6 := q1 6 _ rfl l6
              refine gen_yes ?_ ?_
              · simp only [e6]
                rfl
              go_simp
              exact gr_val (HI.out _ _ _ ⟨q0, kn_known q1 rfl⟩)
            · intro vs
              simp only [Act.put, List.setIfInBounds_toArray, List.set_cons_succ, List.set_cons_zero]
              rfl
            refine gen_cons (A' := ?_) (fun vs L w1 hL hw1 => ?_) ?_ ?_
            rotate_left 1
            · obtain ⟨q0, q1⟩ := HO.out _ _ _ hw1
              have l6 : L 6 = true := hL.need 6 (by kernel_rfl)
              have e6 := q1 6 _ rfl l6
              refine gen_yes ?_ ?_
              · simp only [e6]
                rfl
              have l11 : L 11 = true := hL.need 11 (by kernel_rfl)
              have e11 := q1 11 _ rfl l11
              simp only [e11]
              go_simp
              try simp only [hw.out]
              exact gr_val (HI.out _ _ _ ⟨q0, kn_known q1 rfl⟩)
            · intro vs
              simp only [Act.put, List.setIfInBounds_toArray, List.set_cons_succ, List.set_cons_zero]
              rfl
            refine gen_cons (A' := ?_) (fun vs L w1 hL hw1 => ?_) ?_ ?_
            rotate_left 1
            · obtain ⟨q0, q1⟩ := HO.out _ _ _ hw1
              have l6 : L 6 = true := hL.need 6 (by kernel_rfl)
              have e6 := q1 6 _ rfl l6
              refine gen_yes ?_ ?_
              · simp only [e6]
                rfl
              have l10 : L 10 = true := hL.need 10 (by kernel_rfl)
              have e10 := q1 10 _ rfl l10
              have l12 : L 12 = true := hL.need 12 (by kernel_rfl)
              have e12 := q1 12 _ rfl l12
              simp only [e10, e12]
              go_simp
              exact gr_val (HI.out _ _ _ ⟨q0, kn_known q1 rfl⟩)
            · intro vs
              simp only [Act.put, List.setIfInBounds_toArray, List.set_cons_succ, List.set_cons_zero]
              rfl
            refine gen_cons (A' := ?_) (fun vs L w1 hL hw1 => ?_) ?_ ?_
            rotate_left 1
            · obtain ⟨q0, q1⟩ := HO.out _ _ _ hw1
              have l6 : L 6 = true := hL.need 6 (by kernel_rfl)
              have e6 := q1 6 _ rfl l6
              refine gen_yes ?_ ?_
              · simp only [e6]
                rfl
              have l13 : L 13 = true := hL.need 13 (by kernel_rfl)
              have e13 := q1 13 _ rfl l13
              simp only [e13]
              go_simp
              exact gr_val (HI.out _ _ _ ⟨q0, kn_known q1 rfl⟩)
            · intro vs
              simp only [Act.put, List.setIfInBounds_toArray, List.set_cons_succ, List.set_cons_zero]
              rfl
            refine gen_cons (A' := ?_) (fun vs L w1 hL hw1 => ?_) ?_ ?_
            rotate_left 1
            · obtain ⟨q0, q1⟩ := HO.out _ _ _ hw1
              have l6 : L 6 = true := hL.need 6 (by kernel_rfl)
              have e6 := q1 6 _ rfl l6
              refine gen_yes ?_ ?_
              · simp only [e6]
                rfl
              have l14 : L 14 = true := hL.need 14 (by kernel_rfl)
              have e14 := q1 14 _ rfl l14
              simp only [e14]
              obtain ⟨y0, y1, y2, y3⟩ := hp _ (below_grows hB (Nat.le_refl _) q0)
              go_simp
              exact gr_val (HI.out _ _ _ ⟨q0, kn_known q1 rfl⟩)
            · intro vs
              simp only [Act.put, List.setIfInBounds_toArray, List.set_cons_succ, List.set_cons_zero]
              rfl
            refine gen_cons (A' := ?_) (fun vs L w1 hL hw1 => ?_) ?_ ?_
            rotate_left 1
            · obtain ⟨q0, q1⟩ := HO.out _ _ _ hw1
              have l6 : L 6 = true := hL.need 6 (by kernel_rfl)
              have e6 := q1 6 _ rfl l6
              refine gen_yes ?_ ?_
              · simp only [e6]
                rfl
              have l8 : L 8 = true := hL.need 8 (by kernel_rfl)
              have e8 := q1 8 _ rfl l8
              have l15 : L 15 = true := hL.need 15 (by kernel_rfl)
              have e15 := q1 15 _ rfl l15
              simp only [e8, e15]
              go_simp
              exact gr_val (HI.out _ _ _ ⟨q0, kn_known q1 rfl⟩)
            · intro vs
              simp only [Act.put, List.setIfInBounds_toArray, List.set_cons_succ, List.set_cons_zero]
              rfl
            refine gen_cons (A' := ?_) (fun vs L w1 hL hw1 => ?_) ?_ ?_
            rotate_left 1
            · obtain ⟨q0, q1⟩ := HO.out _ _ _ hw1
              have l3 : L 3 = true := hL.need 3 (by kernel_rfl)
              have e3 := q1 3 _ rfl l3
              refine gen_yes ?_ ?_
              · simp only [e3]
                rfl
              have l6 : L 6 = true := hL.need 6 (by kernel_rfl)
              have e6 := q1 6 _ rfl l6
              have l16 : L 16 = true := hL.need 16 (by kernel_rfl)
              have e16 := q1 16 _ rfl l16
              simp only [e6, e16]
              go_simp
              exact gr_val (HI.out _ _ _ ⟨q0, kn_known q1 rfl⟩)
            · intro vs
              simp only [Act.put, List.setIfInBounds_toArray, List.set_cons_succ, List.set_cons_zero]
              rfl
            refine gen_cons (A' := ?_) (fun vs L w1 hL hw1 => ?_) ?_ ?_
            rotate_left 1
            · obtain ⟨q0, q1⟩ := HO.out _ _ _ hw1
              refine gen_plain rfl ?_
              have l3 : L 3 = true := hL.need 3 (by kernel_rfl)
              have e3 := q1 3 _ rfl l3
              have l17 : L 17 = true := hL.need 17 (by kernel_rfl)
              have e17 := q1 17 _ rfl l17
              simp only [e3, e17]
              go_simp
              exact gr_val (HI.out _ _ _ ⟨q0, kn_known q1 rfl⟩)
            · intro vs
              simp only [Act.put, List.setIfInBounds_toArray, List.set_cons_succ, List.set_cons_zero]
              rfl
            refine gen_nil ?_
            intro vs L W6 hall hS
            obtain ⟨hq, q1⟩ := HO.out _ _ _ hS
            have eX18 := q1 18 _ rfl (hall 18 (by simp))
            clear hall hS HI HO q1
            simp only [eX18]
            go_wp2
            go_ret
            refine ⟨ret_bool ?_, below_grows hB (Nat.le_refl _) hq⟩
            exact (valid_no1 hlt HF2.out).symm
          · have HA2 := Lib.hid (range_all_up HA.out (by rw [stepN_at HX.out, HF.out, show kp + 1 - 1 = kp from rfl, getD_at HP.out]; simp; omega))
            clear HP
            obtain ⟨S, HI, HO⟩ : ∃ S : Ran → (Nat → Value) → World → Prop, Hid (∀ L vs w', (Grows w4 w' ∧ KnS [some (.agg #[.int .i64 x.a, .int .i64 x.b, .int .i64 x.c, .int .i64 x.d]), some (.bool true), some (.bool false), some (.bool false), some (.int .i64 ((kp + 1 : Nat) : Int)), some (.bool true), some (.bool true), some (.pointer (some ⟨G4, 0, none⟩)), some (.int .i64 x.a), some (.pointer (some ⟨w.heap.size, 0, none⟩)), some (.slice (some ad) ns.length c), some (.int .i64 ((kp + 1 : Nat) : Int)), some (.int .i64 (kp : Int)), some (.pointer (some (ad.add (kp * 4)))), some (.pointer (some (ad.add (kp * 4)))), some (.int .i64 p.a), some (.bool false), some (.bool false), some (.bool false)] L vs) → S L vs w') ∧ Hid (∀ L vs w', S L vs w' → (Grows w4 w' ∧ KnS [some (.agg #[.int .i64 x.a, .int .i64 x.b, .int .i64 x.c, .int .i64 x.d]), some (.bool true), some (.bool false), some (.bool false), some (.int .i64 ((kp + 1 : Nat) : Int)), some (.bool true), some (.bool true), some (.pointer (some ⟨G4, 0, none⟩)), some (.int .i64 x.a), some (.pointer (some ⟨w.heap.size, 0, none⟩)), some (.slice (some ad) ns.length c), some (.int .i64 ((kp + 1 : Nat) : Int)), some (.int .i64 (kp : Int)), some (.pointer (some (ad.add (kp * 4)))), some (.pointer (some (ad.add (kp * 4)))), some (.int .i64 p.a), some (.bool false), some (.bool false), some (.bool false)] L vs)) := ⟨fun L vs w' => Grows w4 w' ∧ KnS [some (.agg #[.int .i64 x.a, .int .i64 x.b, .int .i64 x.c, .int .i64 x.d]), some (.bool true), some (.bool false), some (.bool false), some (.int .i64 ((kp + 1 : Nat) : Int)), some (.bool true), some (.bool true), some (.pointer (some ⟨G4, 0, none⟩)), some (.int .i64 x.a), some (.pointer (some ⟨w.heap.size, 0, none⟩)), some (.slice (some ad) ns.length c), some (.int .i64 ((kp + 1 : Nat) : Int)), some (.int .i64 (kp : Int)), some (.pointer (some (ad.add (kp * 4)))), some (.pointer (some (ad.add (kp * 4)))), some (.int .i64 p.a), some (.bool false), some (.bool false), some (.bool false)] L vs, fun _ _ _ h => h, fun _ _ _ h => h⟩
            refine wp_region_genW S 99 (by kernel_rfl) (by kernel_rfl) rfl ?_ ?_
            · exact HI.out _ _ _ ⟨Grows.drew' _, kn_none _ _⟩
            refine gen_cons (A' := ?_) (fun vs L w1 hL hw1 => ?_) ?_ ?_
            rotate_left 1
            · obtain ⟨q0, q1⟩ := HO.out _ _ _ hw1
              refine gen_plain rfl ?_
              have x := (k4.grows q0).cell 
              go_simp
              exact gr_val (HI.out _ _ _ ⟨q0, kn_known q1 rfl⟩)
            · intro vs
              simp only [Act.put, List.setIfInBounds_toArray, List.set_cons_succ, List.set_cons_zero]
              rfl
            refine gen_cons (A' := ?_) (fun vs L w1 hL hw1 => ?_) ?_ ?_
            rotate_left 1
            · obtain ⟨q0, q1⟩ := HO.out _ _ _ hw1
              refine gen_plain rfl ?_
              have l0 : L 0 = true := hL.need 0 (by kernel_rfl)
              have e0 := q1 0 _ rfl l0
              simp only [e0]
              go_simp
              refine gr_call ?_
              refine (fine_is x true w1 HF.out).mono ?_
              rintro e w2 ⟨rfl, hg⟩
              exact ⟨_, rfl, HI.out _ _ _ ⟨below_grows q0 (Nat.le_refl _) hg, kn_known q1 rfl⟩⟩
            · intro vs
              simp only [Act.put, List.setIfInBounds_toArray, List.set_cons_succ, List.set_cons_zero]
              rfl
            refine gen_cons (A' := ?_) (fun vs L w1 hL hw1 => ?_) ?_ ?_
            rotate_left 1
            · obtain ⟨q0, q1⟩ := HO.out _ _ _ hw1
              refine gen_plain rfl ?_
              have l1 : L 1 = true := hL.need 1 (by kernel_rfl)
              have e1 := q1 1 _ rfl l1
              simp only [e1]
              go_simp
              exact gr_val (HI.out _ _ _ ⟨q0, kn_known q1 rfl⟩)
            · intro vs
              simp only [Act.put, List.setIfInBounds_toArray, List.set_cons_succ, List.set_cons_zero]
              rfl
            refine gen_cons (A' := ?_) (fun vs L w1 hL hw1 => ?_) ?_ ?_
            rotate_left 1
            · obtain ⟨q0, q1⟩ := HO.out _ _ _ hw1
              refine gen_plain rfl ?_
              have l2 : L 2 = true := hL.need 2 (by kernel_rfl)
              have e2 := q1 2 _ rfl l2
              simp only [e2]
              go_simp
              exact gr_val (HI.out _ _ _ ⟨q0, kn_known q1 rfl⟩)
            · intro vs
              simp only [Act.put, List.setIfInBounds_toArray, List.set_cons_succ, List.set_cons_zero]
              rfl
            refine gen_cons (A' := ?_) (fun vs L w1 hL hw1 => ?_) ?_ ?_
            rotate_left 1
            · obtain ⟨q0, q1⟩ := HO.out _ _ _ hw1
              have l3 : L 3 = true := hL.need 3 (by kernel_rfl)
              have e3 := q1 3 _ rfl l3
              refine gen_yes ?_ ?_
              · simp only [e3]
                rfl
              go_simp
              exact gr_val (HI.out _ _ _ ⟨q0, kn_known q1 rfl⟩)
            · intro vs
              simp only [Act.put, List.setIfInBounds_toArray, List.set_cons_succ, List.set_cons_zero]
              rfl
            refine gen_cons (A' := ?_) (fun vs L w1 hL hw1 => ?_) ?_ ?_
            rotate_left 1
            · obtain ⟨q0, q1⟩ := HO.out _ _ _ hw1
              have l3 : L 3 = true := hL.need 3 (by kernel_rfl)
              have e3 := q1 3 _ rfl l3
              refine gen_yes ?_ ?_
              · simp only [e3]
                rfl
              have l4 : L 4 = true := hL.need 4 (by kernel_rfl)
              have e4 := q1 4 _ rfl l4
              simp only [e4]
              go_simp
              exact gr_val (HI.out _ _ _ ⟨q0, kn_known q1 rfl⟩)
            · intro vs
              simp only [Act.put, List.setIfInBounds_toArray, List.set_cons_succ, List.set_cons_zero]
              rfl
            refine gen_cons (A' := ?_) (fun vs L w1 hL hw1 => ?_) ?_ ?_
            rotate_left 1
            · obtain ⟨q0, q1⟩ := HO.out _ _ _ hw1
              have l3 : L 3 = true := hL.need 3 (by kernel_rfl)
              have e3 := q1 3 _ rfl l3
              refine gen_yes ?_ ?_
              · simp only [e3]
                rfl
              have l5 : L 5 = true := hL.need 5 (by kernel_rfl)
              have e5 := q1 5 _ rfl l5
              simp only [e5]
              go_simp
              exact gr_val (HI.out _ _ _ ⟨q0, kn_known q1 rfl⟩)
            · intro vs
              simp only [Act.put, List.setIfInBounds_toArray, List.set_cons_succ, List.set_cons_zero]
              rfl
            refine gen_cons (A' := ?_) (fun vs L w1 hL hw1 => ?_) ?_ ?_
            rotate_left 1
            · obtain ⟨q0, q1⟩ := HO.out _ _ _ hw1
              have l6 : L 6 = true := hL.need 6 (by kernel_rfl)
              have e6 := q1 6 _ rfl l6
              refine gen_yes ?_ ?_
              · simp only [e6]
                rfl
              go_simp
              exact gr_val (HI.out _ _ _ ⟨q0, kn_known q1 rfl⟩)
            · intro vs
              simp only [Act.put, List.setIfInBounds_toArray, List.set_cons_succ, List.set_cons_zero]
              rfl
            refine gen_cons (A' := ?_) (fun vs L w1 hL hw1 => ?_) ?_ ?_
            rotate_left 1
            · obtain ⟨q0, q1⟩ := HO.out _ _ _ hw1
              have l6 : L 6 = true := hL.need 6 (by kernel_rfl)
              have e6 := q1 6 _ rfl l6
              refine gen_yes ?_ ?_
              · simp only [e6]
                rfl
              have l7 : L 7 = true := hL.need 7 (by kernel_rfl)
              have e7 := q1 7 _ rfl l7
              have x := (k4.grows q0).cell 0
              simp only [e7]
              go_simp
              exact gr_val (HI.out _ _ _ ⟨q0, kn_known q1 rfl⟩)
            · intro vs
              simp only [Act.put, List.setIfInBounds_toArray, List.set_cons_succ, List.set_cons_zero]
              rfl
            refine gen_cons (A' := ?_) (fun vs L w1 hL hw1 => ?_) ?_ ?_
            rotate_left 1
            · obtain ⟨q0, q1⟩ := HO.out _ _ _ hw1
              have l6 : L 6 = true := hL.need 6 (by kernel_rfl)
              have e6 := q1 6 _ rfl l6
              refine gen_yes ?_ ?_
              · simp only [e6]
                rfl
              go_simp
              exact gr_val (HI.out _ _ _ ⟨q0, kn_known q1 rfl⟩)
            · intro vs
              simp only [Act.put, List.setIfInBounds_toArray, List.set_cons_succ, List.set_cons_zero]
              rfl
            refine gen_cons (A' := ?_) (fun vs L w1 hL hw1 => ?_) ?_ ?_
            rotate_left 1
            · obtain ⟨q0, q1⟩ := HO.out _ _ _ hw1
              have l6 : L 6 = true := hL.need 6 (by kernel_rfl)
              have e6 := q1 6 _ rfl l6
              refine gen_yes ?_ ?_
              · simp only [e6]
                rfl
              have l9 : L 9 = true := hL.need 9 (by kernel_rfl)
              have e9 := q1 9 _ rfl l9
              have x := (k1.grows q0).cell 0
              simp only [e9]
              go_simp
              exact gr_val (HI.out _ _ _ ⟨q0, kn_known q1 rfl⟩)
            · intro vs
              simp only [Act.put, List.setIfInBounds_toArray, List.set_cons_succ, List.set_cons_zero]
              rfl
            refine gen_cons (A' := ?_) (fun vs L w1 hL hw1 => ?_) ?_ ?_
            rotate_left 1
            · obtain ⟨q0, q1⟩ := HO.out _ _ _ hw1
              have l6 : L 6 = true := hL.need 6 (by kernel_rfl)
              have e6 := q1 6 _ rfl l6
              refine gen_yes ?_ ?_
              · simp only [e6]
                rfl
              go_simp
              exact gr_val (HI.out _ _ _ ⟨q0, kn_known q1 rfl⟩)
            · intro vs
              simp only [Act.put, List.setIfInBounds_toArray, List.set_cons_succ, List.set_cons_zero]
              rfl
            refine gen_cons (A' := ?_) (fun vs L w1 hL hw1 => ?_) ?_ ?_
            rotate_left 1
            · obtain ⟨q0, q1⟩ := HO.out _ _ _ hw1
              have l6 : L 6 = true := hL.need 6 (by kernel_rfl)
              have e6 := q1 6 _ rfl l6
              refine gen_yes ?_ ?_
              · simp only [e6]
                rfl
              have l11 : L 11 = true := hL.need 11 (by kernel_rfl)
              have e11 := q1 11 _ rfl l11
              simp only [e11]
              go_simp
              try simp only [hw.out]
              exact gr_val (HI.out _ _ _ ⟨q0, kn_known q1 rfl⟩)
            · intro vs
              simp only [Act.put, List.setIfInBounds_toArray, List.set_cons_succ, List.set_cons_zero]
              rfl
            refine gen_cons (A' := ?_) (fun vs L w1 hL hw1 => ?_) ?_ ?_
            rotate_left 1
            · obtain ⟨q0, q1⟩ := HO.out _ _ _ hw1
              have l6 : L 6 = true := hL.need 6 (by kernel_rfl)
              have e6 := q1 6 _ rfl l6
              refine gen_yes ?_ ?_
              · simp only [e6]
                rfl
              have l10 : L 10 = true := hL.need 10 (by kernel_rfl)
              have e10 := q1 10 _ rfl l10
              have l12 : L 12 = true := hL.need 12 (by kernel_rfl)
              have e12 := q1 12 _ rfl l12
              simp only [e10, e12]
              go_simp
              exact gr_val (HI.out _ _ _ ⟨q0, kn_known q1 rfl⟩)
            · intro vs
              simp only [Act.put, List.setIfInBounds_toArray, List.set_cons_succ, List.set_cons_zero]
              rfl
            refine gen_cons (A' := ?_) (fun vs L w1 hL hw1 => ?_) ?_ ?_
            rotate_left 1
            · obtain ⟨q0, q1⟩ := HO.out _ _ _ hw1
              have l6 : L 6 = true := hL.need 6 (by kernel_rfl)
              have e6 := q1 6 _ rfl l6
              refine gen_yes ?_ ?_
              · simp only [e6]
                rfl
              have l13 : L 13 = true := hL.need 13 (by kernel_rfl)
              have e13 := q1 13 _ rfl l13
              simp only [e13]
              go_simp
              exact gr_val (HI.out _ _ _ ⟨q0, kn_known q1 rfl⟩)
            · intro vs
              simp only [Act.put, List.setIfInBounds_toArray, List.set_cons_succ, List.set_cons_zero]
              rfl
            refine gen_cons (A' := ?_) (fun vs L w1 hL hw1 => ?_) ?_ ?_
            rotate_left 1
            · obtain ⟨q0, q1⟩ := HO.out _ _ _ hw1
              have l6 : L 6 = true := hL.need 6 (by kernel_rfl)
              have e6 := q1 6 _ rfl l6
              refine gen_yes ?_ ?_
              · simp only [e6]
                rfl
              have l14 : L 14 = true := hL.need 14 (by kernel_rfl)
              have e14 := q1 14 _ rfl l14
              simp only [e14]
              obtain ⟨y0, y1, y2, y3⟩ := hp _ (below_grows hB (Nat.le_refl _) q0)
              go_simp
              exact gr_val (HI.out _ _ _ ⟨q0, kn_known q1 rfl⟩)
            · intro vs
              simp only [Act.put, List.setIfInBounds_toArray, List.set_cons_succ, List.set_cons_zero]
              rfl
            refine gen_cons (A' := ?_) (fun vs L w1 hL hw1 => ?_) ?_ ?_
            rotate_left 1
            · obtain ⟨q0, q1⟩ := HO.out _ _ _ hw1
              have l6 : L 6 = true := hL.need 6 (by kernel_rfl)
              have e6 := q1 6 _ rfl l6
              refine gen_yes ?_ ?_
              · simp only [e6]
                rfl
              have l8 : L 8 = true := hL.need 8 (by kernel_rfl)
              have e8 := q1 8 _ rfl l8
              have l15 : L 15 = true := hL.need 15 (by kernel_rfl)
              have e15 := q1 15 _ rfl l15
              simp only [e8, e15]
              go_simp
              exact gr_val (HI.out _ _ _ ⟨q0, kn_known q1 rfl⟩)
            · intro vs
              simp only [Act.put, List.setIfInBounds_toArray, List.set_cons_succ, List.set_cons_zero]
              rfl
            refine gen_cons (A' := ?_) (fun vs L w1 hL hw1 => ?_) ?_ ?_
            rotate_left 1
            · obtain ⟨q0, q1⟩ := HO.out _ _ _ hw1
              have l3 : L 3 = true := hL.need 3 (by kernel_rfl)
              have e3 := q1 3 _ rfl l3
              refine gen_yes ?_ ?_
              · simp only [e3]
                rfl
              have l6 : L 6 = true := hL.need 6 (by kernel_rfl)
              have e6 := q1 6 _ rfl l6
              have l16 : L 16 = true := hL.need 16 (by kernel_rfl)
              have e16 := q1 16 _ rfl l16
              simp only [e6, e16]
              go_simp
              exact gr_val (HI.out _ _ _ ⟨q0, kn_known q1 rfl⟩)
            · intro vs
              simp only [Act.put, List.setIfInBounds_toArray, List.set_cons_succ, List.set_cons_zero]
              rfl
            refine gen_cons (A' := ?_) (fun vs L w1 hL hw1 => ?_) ?_ ?_
            rotate_left 1
            · obtain ⟨q0, q1⟩ := HO.out _ _ _ hw1
              refine gen_plain rfl ?_
              have l3 : L 3 = true := hL.need 3 (by kernel_rfl)
              have e3 := q1 3 _ rfl l3
              have l17 : L 17 = true := hL.need 17 (by kernel_rfl)
              have e17 := q1 17 _ rfl l17
              simp only [e3, e17]
              go_simp
              exact gr_val (HI.out _ _ _ ⟨q0, kn_known q1 rfl⟩)
            · intro vs
              simp only [Act.put, List.setIfInBounds_toArray, List.set_cons_succ, List.set_cons_zero]
              rfl
            refine gen_nil ?_
            intro vs L W6 hall hS
            obtain ⟨hq, q1⟩ := HO.out _ _ _ hS
            have eX18 := q1 18 _ rfl (hall 18 (by simp))
            clear hall hS HI HO q1
            simp only [eX18]
            go_wp2
            go_roundw
            case rel => exact ⟨kp + 1 + 1, by omega, by go_num, HA2, below_grows hB (Nat.le_refl _) hq, k1.grows hq⟩
            case measure => simp [intOf]; omega
    · have HN : Hid (okN ns = true) := Lib.hid (by have := HA.out; rwa [show k = ns.length by omega] at this)
      clear HA
      have x1 := k1.cell
      go_wp2_with fail
      refine (find_any A A2 c c2 ls.length ns _ (h.grows hB) (by omega) HRn.out).mono ?_
      rintro e w5 ⟨⟨Bm, nm, rfl, hm⟩, hq⟩
      replace hB := below_grows hB (Nat.le_refl _) hq
      replace k1 := k1.grows hq
      clear hq x1
      have x1 := k1.cell
      go_wp2_with fail
      clear x1
      generalize w5 = w2 at *
      go_loopw [53] (fun i wr => ∃ k : Nat, k ≤ ls.length ∧ i = .int .i64 k ∧ Hid ((List.range k).all (stepK ns ls) = true) ∧ Below w.heap.size w wr ∧ Blk wr w.heap.size 40 #[.slice A ns.length c, .slice A2 ls.length c2] ∧ MapT TI wr Bm nm (nodeM ns)) (fun i _ => ls.length - (intOf i).toNat)
      case atStart => exact ⟨0, by omega, rfl, Lib.hid rfl, hB, k1, hm⟩
      case round =>
        clear hB k1 hk hlt hm
        obtain ⟨k, hk, rfl, HA, hB, k1, hm⟩ := hrel
        by_cases hlt : k < ls.length
        · obtain ⟨ad, l, rfl, had, hx, q0, q1, q2, q3⟩ := (h2.grows hB).elem hlt
          have HX := Lib.hid hx
          clear hx
          have HIl : Hid (In64 l.a ∧ In64 l.c) := Lib.hid (HRl.out l (List.mem_of_getElem? HX.out))
          have k6 := Blk.new wr 52 #[.int .i64 l.a, .int .i64 l.b, .int .i64 l.c, .int .i64 l.d]
          have hq := (Below.refl wr.heap.size wr).alloc (Nat.le_refl _) (Obj.cells #[.int .i64 l.a, .int .i64 l.b, .int .i64 l.c, .int .i64 l.d] 52)
          go_upto_region 13 with fail
          clear q0 q1 q2 q3
          replace hB := below_grows hB (Nat.le_refl _) hq
          replace k1 := k1.grows hq
          replace hm := hm.grows hq
          clear hq
          generalize World.alloc wr _ = w7 at *
          generalize wr.heap.size = G6 at *
          have hkc : k ≤ c2 := by omega
          cases hen : endsL ns l
          · have HE := Lib.hid hen
            clear hen
            obtain ⟨S, HI, HO⟩ : ∃ S : Ran → (Nat → Value) → World → Prop, Hid (∀ L vs w', (Grows w7 w' ∧ KnS [some (.map (some Bm)), some (.agg #[.int .i64 l.a, .int .i64 l.b, .int .i64 l.c, .int .i64 l.d]), some (.bool false), some (.bool true), some (.bool true), none, none, some (undef), none, none, none, none, none, none, none, none, none, none, some (.bool true)] L vs) → S L vs w') ∧ Hid (∀ L vs w', S L vs w' → (Grows w7 w' ∧ KnS [some (.map (some Bm)), some (.agg #[.int .i64 l.a, .int .i64 l.b, .int .i64 l.c, .int .i64 l.d]), some (.bool false), some (.bool true), some (.bool true), none, none, some (undef), none, none, none, none, none, none, none, none, none, none, some (.bool true)] L vs)) := ⟨fun L vs w' => Grows w7 w' ∧ KnS [some (.map (some Bm)), some (.agg #[.int .i64 l.a, .int .i64 l.b, .int .i64 l.c, .int .i64 l.d]), some (.bool false), some (.bool true), some (.bool true), none, none, some (undef), none, none, none, none, none, none, none, none, none, none, some (.bool true)] L vs, fun _ _ _ h => h, fun _ _ _ h => h⟩
            refine wp_region_genW S 99 (by kernel_rfl) (by kernel_rfl) rfl ?_ ?_
            · exact HI.out _ _ _ ⟨Grows.drew' _, kn_none _ _⟩
            refine gen_cons (A' := ?_) (fun vs L w1 hL hw1 => ?_) ?_ ?_
            rotate_left 1
            · obtain ⟨q0, q1⟩ := HO.out _ _ _ hw1
              refine gen_plain rfl ?_
              go_simp
              exact gr_val (HI.out _ _ _ ⟨q0, kn_known q1 rfl⟩)
            · intro vs
              simp only [Act.put, List.setIfInBounds_toArray, List.set_cons_succ, List.set_cons_zero]
              rfl
            refine gen_cons (A' := ?_) (fun vs L w1 hL hw1 => ?_) ?_ ?_
            rotate_left 1
            · obtain ⟨q0, q1⟩ := HO.out _ _ _ hw1
              refine gen_plain rfl ?_
              have x := (k6.grows q0).cell 
              go_simp
              exact gr_val (HI.out _ _ _ ⟨q0, kn_known q1 rfl⟩)
            · intro vs
              simp only [Act.put, List.setIfInBounds_toArray, List.set_cons_succ, List.set_cons_zero]
              rfl
            refine gen_cons (A' := ?_) (fun vs L w1 hL hw1 => ?_) ?_ ?_
            rotate_left 1
            · obtain ⟨q0, q1⟩ := HO.out _ _ _ hw1
              refine gen_plain rfl ?_
              have l0 : L 0 = true := hL.need 0 (by kernel_rfl)
              have e0 := q1 0 _ rfl l0
              have l1 : L 1 = true := hL.need 1 (by kernel_rfl)
              have e1 := q1 1 _ rfl l1
              simp only [e0, e1]
              go_simp
              refine gr_call ?_
              refine (ends_is Bm nm ns l false w1 (hm.grows q0) HIl.out.1 HIl.out.2 HN.out HE.out).mono ?_
              rintro e w2 ⟨rfl, hg⟩
              exact ⟨_, rfl, HI.out _ _ _ ⟨below_grows q0 (Nat.le_refl _) hg, kn_known q1 rfl⟩⟩
            · intro vs
              simp only [Act.put, List.setIfInBounds_toArray, List.set_cons_succ, List.set_cons_zero]
              rfl
            refine gen_cons (A' := ?_) (fun vs L w1 hL hw1 => ?_) ?_ ?_
            rotate_left 1
            · obtain ⟨q0, q1⟩ := HO.out _ _ _ hw1
              refine gen_plain rfl ?_
              have l2 : L 2 = true := hL.need 2 (by kernel_rfl)
              have e2 := q1 2 _ rfl l2
              simp only [e2]
              go_simp
              exact gr_val (HI.out _ _ _ ⟨q0, kn_known q1 rfl⟩)
            · intro vs
              simp only [Act.put, List.setIfInBounds_toArray, List.set_cons_succ, List.set_cons_zero]
              rfl
            refine gen_cons (A' := ?_) (fun vs L w1 hL hw1 => ?_) ?_ ?_
            rotate_left 1
            · obtain ⟨q0, q1⟩ := HO.out _ _ _ hw1
              refine gen_plain rfl ?_
              have l3 : L 3 = true := hL.need 3 (by kernel_rfl)
              have e3 := q1 3 _ rfl l3
              simp only [e3]
              go_simp
              exact gr_val (HI.out _ _ _ ⟨q0, kn_known q1 rfl⟩)
            · intro vs
              simp only [Act.put, List.setIfInBounds_toArray, List.set_cons_succ, List.set_cons_zero]
              rfl
            refine gen_cons (A' := ?_) (fun vs L w1 hL hw1 => ?_) ?_ ?_
            rotate_left 1
            · obtain ⟨q0, q1⟩ := HO.out _ _ _ hw1
              have l4 : L 4 = true := hL.need 4 (by kernel_rfl)
              have e4 := q1 4 _ rfl l4
              refine gen_no ?_ ?_
              · simp only [e4]
                rfl
              · exact HI.out _ _ _ ⟨q0, kn_free q1 rfl⟩
            · intro vs
              simp only [Act.put, List.setIfInBounds_toArray, List.set_cons_succ, List.set_cons_zero]
              rfl
            refine gen_cons (A' := ?_) (fun vs L w1 hL hw1 => ?_) ?_ ?_
            rotate_left 1
            · obtain ⟨q0, q1⟩ := HO.out _ _ _ hw1
              have l4 : L 4 = true := hL.need 4 (by kernel_rfl)
              have e4 := q1 4 _ rfl l4
              refine gen_no ?_ ?_
              · simp only [e4]
                rfl
              · exact HI.out _ _ _ ⟨q0, kn_free q1 rfl⟩
            · intro vs
              simp only [Act.put, List.setIfInBounds_toArray, List.set_cons_succ, List.set_cons_zero]
              rfl
            refine gen_cons (A' := ?_) (fun vs L w1 hL hw1 => ?_) ?_ ?_
            rotate_left 1
            · obtain ⟨q0, q1⟩ := HO.out _ _ _ hw1
              have l4 : L 4 = true := hL.need 4 (by kernel_rfl)
              have e4 := q1 4 _ rfl l4
              refine gen_no ?_ ?_
              · simp only [e4]
                rfl
              · exact HI.out _ _ _ ⟨q0, kn_known q1 rfl⟩
            · intro vs
              simp only [Act.put, List.setIfInBounds_toArray, List.set_cons_succ, List.set_cons_zero]
              rfl
            refine gen_cons (A' := ?_) (fun vs L w1 hL hw1 => ?_) ?_ ?_
            rotate_left 1
            · obtain ⟨q0, q1⟩ := HO.out _ _ _ hw1
              have l7 : L 7 = true := hL.need 7 (by kernel_rfl)
              have e7 := q1 7 _ rfl l7
              refine gen_no ?_ ?_
              · simp only [e7]
                rfl
              · exact HI.out _ _ _ ⟨q0, kn_free q1 rfl⟩
            · intro vs
              simp only [Act.put, List.setIfInBounds_toArray, List.set_cons_succ, List.set_cons_zero]
              rfl
            refine gen_cons (A' := ?_) (fun vs L w1 hL hw1 => ?_) ?_ ?_
            rotate_left 1
            · obtain ⟨q0, q1⟩ := HO.out _ _ _ hw1
              have l7 : L 7 = true := hL.need 7 (by kernel_rfl)
              have e7 := q1 7 _ rfl l7
              refine gen_no ?_ ?_
              · simp only [e7]
                rfl
              · exact HI.out _ _ _ ⟨q0, kn_free q1 rfl⟩
            · intro vs
              simp only [Act.put, List.setIfInBounds_toArray, List.set_cons_succ, List.set_cons_zero]
              rfl
            refine gen_cons (A' := ?_) (fun vs L w1 hL hw1 => ?_) ?_ ?_
            rotate_left 1
            · obtain ⟨q0, q1⟩ := HO.out _ _ _ hw1
              have l7 : L 7 = true := hL.need 7 (by kernel_rfl)
              have e7 := q1 7 _ rfl l7
              refine gen_no ?_ ?_
              · simp only [e7]
                rfl
              · exact HI.out _ _ _ ⟨q0, kn_free q1 rfl⟩
            · intro vs
              simp only [Act.put, List.setIfInBounds_toArray, List.set_cons_succ, List.set_cons_zero]
              rfl
            refine gen_cons (A' := ?_) (fun vs L w1 hL hw1 => ?_) ?_ ?_
            rotate_left 1
            · obtain ⟨q0, q1⟩ := HO.out _ _ _ hw1
              have l7 : L 7 = true := hL.need 7 (by kernel_rfl)
              have e7 := q1 7 _ rfl l7
              refine gen_no ?_ ?_
              · simp only [e7]
                rfl
              · exact HI.out _ _ _ ⟨q0, kn_free q1 rfl⟩
            · intro vs
              simp only [Act.put, List.setIfInBounds_toArray, List.set_cons_succ, List.set_cons_zero]
              rfl
            refine gen_cons (A' := ?_) (fun vs L w1 hL hw1 => ?_) ?_ ?_
            rotate_left 1
            · obtain ⟨q0, q1⟩ := HO.out _ _ _ hw1
              have l7 : L 7 = true := hL.need 7 (by kernel_rfl)
              have e7 := q1 7 _ rfl l7
              refine gen_no ?_ ?_
              · simp only [e7]
                rfl
              · exact HI.out _ _ _ ⟨q0, kn_free q1 rfl⟩
            · intro vs
              simp only [Act.put, List.setIfInBounds_toArray, List.set_cons_succ, List.set_cons_zero]
              rfl
            refine gen_cons (A' := ?_) (fun vs L w1 hL hw1 => ?_) ?_ ?_
            rotate_left 1
            · obtain ⟨q0, q1⟩ := HO.out _ _ _ hw1
              have l7 : L 7 = true := hL.need 7 (by kernel_rfl)
              have e7 := q1 7 _ rfl l7
              refine gen_no ?_ ?_
              · simp only [e7]
                rfl
              · exact HI.out _ _ _ ⟨q0, kn_free q1 rfl⟩
            · intro vs
              simp only [Act.put, List.setIfInBounds_toArray, List.set_cons_succ, List.set_cons_zero]
              rfl
            refine gen_cons (A' := ?_) (fun vs L w1 hL hw1 => ?_) ?_ ?_
            rotate_left 1
            · obtain ⟨q0, q1⟩ := HO.out _ _ _ hw1
              have l7 : L 7 = true := hL.need 7 (by kernel_rfl)
              have e7 := q1 7 _ rfl l7
              refine gen_no ?_ ?_
              · simp only [e7]
                rfl
              · exact HI.out _ _ _ ⟨q0, kn_free q1 rfl⟩
            · intro vs
              simp only [Act.put, List.setIfInBounds_toArray, List.set_cons_succ, List.set_cons_zero]
              rfl
            refine gen_cons (A' := ?_) (fun vs L w1 hL hw1 => ?_) ?_ ?_
            rotate_left 1
            · obtain ⟨q0, q1⟩ := HO.out _ _ _ hw1
              have l7 : L 7 = true := hL.need 7 (by kernel_rfl)
              have e7 := q1 7 _ rfl l7
              refine gen_no ?_ ?_
              · simp only [e7]
                rfl
              · exact HI.out _ _ _ ⟨q0, kn_free q1 rfl⟩
            · intro vs
              simp only [Act.put, List.setIfInBounds_toArray, List.set_cons_succ, List.set_cons_zero]
              rfl
            refine gen_cons (A' := ?_) (fun vs L w1 hL hw1 => ?_) ?_ ?_
            rotate_left 1
            · obtain ⟨q0, q1⟩ := HO.out _ _ _ hw1
              have l7 : L 7 = true := hL.need 7 (by kernel_rfl)
              have e7 := q1 7 _ rfl l7
              refine gen_no ?_ ?_
              · simp only [e7]
                rfl
              · exact HI.out _ _ _ ⟨q0, kn_free q1 rfl⟩
            · intro vs
              simp only [Act.put, List.setIfInBounds_toArray, List.set_cons_succ, List.set_cons_zero]
              rfl
            refine gen_cons (A' := ?_) (fun vs L w1 hL hw1 => ?_) ?_ ?_
            rotate_left 1
            · obtain ⟨q0, q1⟩ := HO.out _ _ _ hw1
              have l4 : L 4 = true := hL.need 4 (by kernel_rfl)
              have e4 := q1 4 _ rfl l4
              refine gen_no ?_ ?_
              · simp only [e4]
                rfl
              · exact HI.out _ _ _ ⟨q0, kn_free q1 rfl⟩
            · intro vs
              simp only [Act.put, List.setIfInBounds_toArray, List.set_cons_succ, List.set_cons_zero]
              rfl
            refine gen_cons (A' := ?_) (fun vs L w1 hL hw1 => ?_) ?_ ?_
            rotate_left 1
            · obtain ⟨q0, q1⟩ := HO.out _ _ _ hw1
              refine gen_plain rfl ?_
              have l4 : L 4 = true := hL.need 4 (by kernel_rfl)
              have e4 := q1 4 _ rfl l4
              simp only [e4]
              go_simp
              exact gr_val (HI.out _ _ _ ⟨q0, kn_known q1 rfl⟩)
            · intro vs
              simp only [Act.put, List.setIfInBounds_toArray, List.set_cons_succ, List.set_cons_zero]
              rfl
            refine gen_nil ?_
            intro vs L W6 hall hS
            obtain ⟨hq, q1⟩ := HO.out _ _ _ hS
            have eX18 := q1 18 _ rfl (hall 18 (by simp))
            clear hall hS HI HO q1
            simp only [eX18]
            go_wp2
            go_ret
            refine ⟨ret_bool ?_, below_grows hB (Nat.le_refl _) hq⟩
            exact (valid_no2 hlt (by rw [stepK_at HX.out, HE.out]; rfl)).symm
          · have HE := Lib.hid hen
            clear hen
            by_cases hk0 : k = 0
            · have hk9 : decide (0 < k) = false := by simp [hk0]
              have HK0 := Lib.hid hk0
              clear hk0
              obtain ⟨S, HI, HO⟩ : ∃ S : Ran → (Nat → Value) → World → Prop, Hid (∀ L vs w', (Grows w7 w' ∧ KnS [some (.map (some Bm)), some (.agg #[.int .i64 l.a, .int .i64 l.b, .int .i64 l.c, .int .i64 l.d]), some (.bool true), some (.bool false), some (.bool false), some (.int .i64 (k : Int)), some (.bool false), some (.bool false), none, none, none, none, none, none, none, none, none, some (.bool false), some (.bool false)] L vs) → S L vs w') ∧ Hid (∀ L vs w', S L vs w' → (Grows w7 w' ∧ KnS [some (.map (some Bm)), some (.agg #[.int .i64 l.a, .int .i64 l.b, .int .i64 l.c, .int .i64 l.d]), some (.bool true), some (.bool false), some (.bool false), some (.int .i64 (k : Int)), some (.bool false), some (.bool false), none, none, none, none, none, none, none, none, none, some (.bool false), some (.bool false)] L vs)) := ⟨fun L vs w' => Grows w7 w' ∧ KnS [some (.map (some Bm)), some (.agg #[.int .i64 l.a, .int .i64 l.b, .int .i64 l.c, .int .i64 l.d]), some (.bool true), some (.bool false), some (.bool false), some (.int .i64 (k : Int)), some (.bool false), some (.bool false), none, none, none, none, none, none, none, none, none, some (.bool false), some (.bool false)] L vs, fun _ _ _ h => h, fun _ _ _ h => h⟩
              refine wp_region_genW S 99 (by kernel_rfl) (by kernel_rfl) rfl ?_ ?_
              · exact HI.out _ _ _ ⟨Grows.drew' _, kn_none _ _⟩
              refine gen_cons (A' := ?_) (fun vs L w1 hL hw1 => ?_) ?_ ?_
              rotate_left 1
              · obtain ⟨q0, q1⟩ := HO.out _ _ _ hw1
                refine gen_plain rfl ?_
                go_simp
                exact gr_val (HI.out _ _ _ ⟨q0, kn_known q1 rfl⟩)
              · intro vs
                simp only [Act.put, List.setIfInBounds_toArray, List.set_cons_succ, List.set_cons_zero]
                rfl
              refine gen_cons (A' := ?_) (fun vs L w1 hL hw1 => ?_) ?_ ?_
              rotate_left 1
              · obtain ⟨q0, q1⟩ := HO.out _ _ _ hw1
                refine gen_plain rfl ?_
                have x := (k6.grows q0).cell 
                go_simp
                exact gr_val (HI.out _ _ _ ⟨q0, kn_known q1 rfl⟩)
              · intro vs
                simp only [Act.put, List.setIfInBounds_toArray, List.set_cons_succ, List.set_cons_zero]
                rfl
              refine gen_cons (A' := ?_) (fun vs L w1 hL hw1 => ?_) ?_ ?_
              rotate_left 1
              · obtain ⟨q0, q1⟩ := HO.out _ _ _ hw1
                refine gen_plain rfl ?_
                have l0 : L 0 = true := hL.need 0 (by kernel_rfl)
                have e0 := q1 0 _ rfl l0
                have l1 : L 1 = true := hL.need 1 (by kernel_rfl)
                have e1 := q1 1 _ rfl l1
                simp only [e0, e1]
                go_simp
                refine gr_call ?_
                refine (ends_is Bm nm ns l true w1 (hm.grows q0) HIl.out.1 HIl.out.2 HN.out HE.out).mono ?_
                rintro e w2 ⟨rfl, hg⟩
                exact ⟨_, rfl, HI.out _ _ _ ⟨below_grows q0 (Nat.le_refl _) hg, kn_known q1 rfl⟩⟩
              · intro vs
                simp only [Act.put, List.setIfInBounds_toArray, List.set_cons_succ, List.set_cons_zero]
                rfl
              refine gen_cons (A' := ?_) (fun vs L w1 hL hw1 => ?_) ?_ ?_
              rotate_left 1
              · obtain ⟨q0, q1⟩ := HO.out _ _ _ hw1
                refine gen_plain rfl ?_
                have l2 : L 2 = true := hL.need 2 (by kernel_rfl)
                have e2 := q1 2 _ rfl l2
                simp only [e2]
                go_simp
                exact gr_val (HI.out _ _ _ ⟨q0, kn_known q1 rfl⟩)
              · intro vs
                simp only [Act.put, List.setIfInBounds_toArray, List.set_cons_succ, List.set_cons_zero]
                rfl
              refine gen_cons (A' := ?_) (fun vs L w1 hL hw1 => ?_) ?_ ?_
              rotate_left 1
              · obtain ⟨q0, q1⟩ := HO.out _ _ _ hw1
                refine gen_plain rfl ?_
                have l3 : L 3 = true := hL.need 3 (by kernel_rfl)
                have e3 := q1 3 _ rfl l3
                simp only [e3]
                go_simp
                exact gr_val (HI.out _ _ _ ⟨q0, kn_known q1 rfl⟩)
              · intro vs
                simp only [Act.put, List.setIfInBounds_toArray, List.set_cons_succ, List.set_cons_zero]
                rfl
              refine gen_cons (A' := ?_) (fun vs L w1 hL hw1 => ?_) ?_ ?_
              rotate_left 1
              · obtain ⟨q0, q1⟩ := HO.out _ _ _ hw1
                have l4 : L 4 = true := hL.need 4 (by kernel_rfl)
                have e4 := q1 4 _ rfl l4
                refine gen_yes ?_ ?_
                · simp only [e4]
                  rfl
                go_simp
                exact gr_val (HI.out _ _ _ ⟨q0, kn_known q1 rfl⟩)
              · intro vs
                simp only [Act.put, List.setIfInBounds_toArray, List.set_cons_succ, List.set_cons_zero]
                rfl
              refine gen_cons (A' := ?_) (fun vs L w1 hL hw1 => ?_) ?_ ?_
              rotate_left 1
              · obtain ⟨q0, q1⟩ := HO.out _ _ _ hw1
                have l4 : L 4 = true := hL.need 4 (by kernel_rfl)
                have e4 := q1 4 _ rfl l4
                refine gen_yes ?_ ?_
                · simp only [e4]
                  rfl
                have l5 : L 5 = true := hL.need 5 (by kernel_rfl)
                have e5 := q1 5 _ rfl l5
                simp only [e5]
                go_simp
                exact gr_val (HI.out _ _ _ ⟨q0, kn_known q1 rfl⟩)
              · intro vs
                simp only [Act.put, List.setIfInBounds_toArray, List.set_cons_succ, List.set_cons_zero]
                rfl
              refine gen_cons (A' := ?_) (fun vs L w1 hL hw1 => ?_) ?_ ?_
              rotate_left 1
              · obtain ⟨q0, q1⟩ := HO.out _ _ _ hw1
                have l4 : L 4 = true := hL.need 4 (by kernel_rfl)
                have e4 := q1 4 _ rfl l4
                refine gen_yes ?_ ?_
                · simp only [e4]
                  rfl
                have l6 : L 6 = true := hL.need 6 (by kernel_rfl)
                have e6 := q1 6 _ rfl l6
                simp only [e6]
                go_simp
                exact gr_val (HI.out _ _ _ ⟨q0, kn_known q1 rfl⟩)
              · intro vs
                simp only [Act.put, List.setIfInBounds_toArray, List.set_cons_succ, List.set_cons_zero]
                rfl
              refine gen_cons (A' := ?_) (fun vs L w1 hL hw1 => ?_) ?_ ?_
              rotate_left 1
              · obtain ⟨q0, q1⟩ := HO.out _ _ _ hw1
                have l7 : L 7 = true := hL.need 7 (by kernel_rfl)
                have e7 := q1 7 _ rfl l7
                refine gen_no ?_ ?_
                · simp only [e7]
                  rfl
                · exact HI.out _ _ _ ⟨q0, kn_free q1 rfl⟩
              · intro vs
                simp only [Act.put, List.setIfInBounds_toArray, List.set_cons_succ, List.set_cons_zero]
                rfl
              refine gen_cons (A' := ?_) (fun vs L w1 hL hw1 => ?_) ?_ ?_
              rotate_left 1
              · obtain ⟨q0, q1⟩ := HO.out _ _ _ hw1
                have l7 : L 7 = true := hL.need 7 (by kernel_rfl)
                have e7 := q1 7 _ rfl l7
                refine gen_no ?_ ?_
                · simp only [e7]
                  rfl
                · exact HI.out _ _ _ ⟨q0, kn_free q1 rfl⟩
              · intro vs
                simp only [Act.put, List.setIfInBounds_toArray, List.set_cons_succ, List.set_cons_zero]
                rfl
              refine gen_cons (A' := ?_) (fun vs L w1 hL hw1 => ?_) ?_ ?_
              rotate_left 1
              · obtain ⟨q0, q1⟩ := HO.out _ _ _ hw1
                have l7 : L 7 = true := hL.need 7 (by kernel_rfl)
                have e7 := q1 7 _ rfl l7
                refine gen_no ?_ ?_
                · simp only [e7]
                  rfl
                · exact HI.out _ _ _ ⟨q0, kn_free q1 rfl⟩
              · intro vs
                simp only [Act.put, List.setIfInBounds_toArray, List.set_cons_succ, List.set_cons_zero]
                rfl
              refine gen_cons (A' := ?_) (fun vs L w1 hL hw1 => ?_) ?_ ?_
              rotate_left 1
              · obtain ⟨q0, q1⟩ := HO.out _ _ _ hw1
                have l7 : L 7 = true := hL.need 7 (by kernel_rfl)
                have e7 := q1 7 _ rfl l7
                refine gen_no ?_ ?_
                · simp only [e7]
                  rfl
                · exact HI.out _ _ _ ⟨q0, kn_free q1 rfl⟩
              · intro vs
                simp only [Act.put, List.setIfInBounds_toArray, List.set_cons_succ, List.set_cons_zero]
                rfl
              refine gen_cons (A' := ?_) (fun vs L w1 hL hw1 => ?_) ?_ ?_
              rotate_left 1
              · obtain ⟨q0, q1⟩ := HO.out _ _ _ hw1
                have l7 : L 7 = true := hL.need 7 (by kernel_rfl)
                have e7 := q1 7 _ rfl l7
                refine gen_no ?_ ?_
                · simp only [e7]
                  rfl
                · exact HI.out _ _ _ ⟨q0, kn_free q1 rfl⟩
              · intro vs
                simp only [Act.put, List.setIfInBounds_toArray, List.set_cons_succ, List.set_cons_zero]
                rfl
              refine gen_cons (A' := ?_) (fun vs L w1 hL hw1 => ?_) ?_ ?_
              rotate_left 1
              · obtain ⟨q0, q1⟩ := HO.out _ _ _ hw1
                have l7 : L 7 = true := hL.need 7 (by kernel_rfl)
                have e7 := q1 7 _ rfl l7
                refine gen_no ?_ ?_
                · simp only [e7]
                  rfl
                · exact HI.out _ _ _ ⟨q0, kn_free q1 rfl⟩
              · intro vs
                simp only [Act.put, List.setIfInBounds_toArray, List.set_cons_succ, List.set_cons_zero]
                rfl
              refine gen_cons (A' := ?_) (fun vs L w1 hL hw1 => ?_) ?_ ?_
              rotate_left 1
              · obtain ⟨q0, q1⟩ := HO.out _ _ _ hw1
                have l7 : L 7 = true := hL.need 7 (by kernel_rfl)
                have e7 := q1 7 _ rfl l7
                refine gen_no ?_ ?_
                · simp only [e7]
                  rfl
                · exact HI.out _ _ _ ⟨q0, kn_free q1 rfl⟩
              · intro vs
                simp only [Act.put, List.setIfInBounds_toArray, List.set_cons_succ, List.set_cons_zero]
                rfl
              refine gen_cons (A' := ?_) (fun vs L w1 hL hw1 => ?_) ?_ ?_
              rotate_left 1
              · obtain ⟨q0, q1⟩ := HO.out _ _ _ hw1
                have l7 : L 7 = true := hL.need 7 (by kernel_rfl)
                have e7 := q1 7 _ rfl l7
                refine gen_no ?_ ?_
                · simp only [e7]
                  rfl
                · exact HI.out _ _ _ ⟨q0, kn_free q1 rfl⟩
              · intro vs
                simp only [Act.put, List.setIfInBounds_toArray, List.set_cons_succ, List.set_cons_zero]
                rfl
              refine gen_cons (A' := ?_) (fun vs L w1 hL hw1 => ?_) ?_ ?_
              rotate_left 1
              · obtain ⟨q0, q1⟩ := HO.out _ _ _ hw1
                have l7 : L 7 = true := hL.need 7 (by kernel_rfl)
                have e7 := q1 7 _ rfl l7
                refine gen_no ?_ ?_
                · simp only [e7]
                  rfl
                · exact HI.out _ _ _ ⟨q0, kn_free q1 rfl⟩
              · intro vs
                simp only [Act.put, List.setIfInBounds_toArray, List.set_cons_succ, List.set_cons_zero]
                rfl
              refine gen_cons (A' := ?_) (fun vs L w1 hL hw1 => ?_) ?_ ?_
              rotate_left 1
              · obtain ⟨q0, q1⟩ := HO.out _ _ _ hw1
                have l4 : L 4 = true := hL.need 4 (by kernel_rfl)
                have e4 := q1 4 _ rfl l4
                refine gen_yes ?_ ?_
                · simp only [e4]
                  rfl
                have l7 : L 7 = true := hL.need 7 (by kernel_rfl)
                have e7 := q1 7 _ rfl l7
                simp only [e7]
                go_simp
                exact gr_val (HI.out _ _ _ ⟨q0, kn_known q1 rfl⟩)
              · intro vs
                simp only [Act.put, List.setIfInBounds_toArray, List.set_cons_succ, List.set_cons_zero]
                rfl
              refine gen_cons (A' := ?_) (fun vs L w1 hL hw1 => ?_) ?_ ?_
              rotate_left 1
              · obtain ⟨q0, q1⟩ := HO.out _ _ _ hw1
                refine gen_plain rfl ?_
                have l4 : L 4 = true := hL.need 4 (by kernel_rfl)
                have e4 := q1 4 _ rfl l4
                have l17 : L 17 = true := hL.need 17 (by kernel_rfl)
                have e17 := q1 17 _ rfl l17
                simp only [e4, e17]
                go_simp
                exact gr_val (HI.out _ _ _ ⟨q0, kn_known q1 rfl⟩)
              · intro vs
                simp only [Act.put, List.setIfInBounds_toArray, List.set_cons_succ, List.set_cons_zero]
                rfl
              refine gen_nil ?_
              intro vs L W6 hall hS
              obtain ⟨hq, q1⟩ := HO.out _ _ _ hS
              have eX18 := q1 18 _ rfl (hall 18 (by simp))
              clear hall hS HI HO q1
              simp only [eX18]
              simp only [Nat.zero_add, Nat.reduceAdd]
              have k1' := k1.grows hq
              have x1 := k1'.cell
              go_wp2_with fail
              clear x1
              replace hB := below_grows hB (Nat.le_refl _) hq
              replace hm := hm.grows hq
              replace k6 := k6.grows hq
              clear hq k1
              generalize W6 = w9 at *
              go_loopw [82] (fun i wr => ∃ j : Nat, j ≤ k ∧ i = .int .i64 j ∧ Hid (crowdL ns l (ls.take j) = false) ∧ Below w.heap.size w wr ∧ Blk wr w.heap.size 40 #[.slice A ns.length c, .slice (some ad) ls.length c2] ∧ Blk wr G6 52 #[.int .i64 l.a, .int .i64 l.b, .int .i64 l.c, .int .i64 l.d] ∧ MapT TI wr Bm nm (nodeM ns)) (fun i _ => k - (intOf i).toNat)
              case atStart => exact ⟨0, by omega, rfl, Lib.hid rfl, hB, k1', k6, hm⟩
              case round =>
                clear hB k1' k6 hm
                obtain ⟨j, hj, rfl, HC, hB, k1, k6, hm⟩ := hrel
                by_cases hjlt : j < k
                · obtain ⟨ad2, x, e2, -, hx2, q0, q1, q2, q3⟩ := (h2.grows hB).elem (k := j) (by omega)
                  injection e2 with e2
                  subst e2
                  have HX2 := Lib.hid hx2
                  clear hx2
                  have HIx : Hid (In64 x.a ∧ In64 x.c) := Lib.hid (HRl.out x (List.mem_of_getElem? HX2.out))
                  have k9 := Blk.new wr 52 #[.int .i64 x.a, .int .i64 x.b, .int .i64 x.c, .int .i64 x.d]
                  have hq := (Below.refl wr.heap.size wr).alloc (Nat.le_refl _) (Obj.cells #[.int .i64 x.a, .int .i64 x.b, .int .i64 x.c, .int .i64 x.d] 52)
                  go_upto_region 18 with fail
                  clear q0 q1 q2 q3
                  replace hB := below_grows hB (Nat.le_refl _) hq
                  replace k1 := k1.grows hq
                  replace k6 := k6.grows hq
                  replace hm := hm.grows hq
                  clear hq
                  generalize World.alloc wr _ = w10 at *
                  generalize wr.heap.size = G9 at *
                  have x6 := k6.cell
                  have x9 := k9.cell
                  go_wp2_with fail
                  cases hcl : clashL ns x l
                  · have HCL := Lib.hid hcl
                    clear hcl
                    refine (clash_is Bm nm ns x l false _ hm HIx.out.1 HIx.out.2 HN.out HCL.out).mono ?_
                    rintro e w11 ⟨rfl, hq⟩
                    have HC2 : Hid (crowdL ns l (ls.take (j + 1)) = false) := Lib.hid (by rw [take_snoc HX2.out]; unfold crowdL; rw [List.any_append]; simp only [List.any_cons, List.any_nil, Bool.or_false, HCL.out]; exact HC.out)
                    replace hB := below_grows hB (Nat.le_refl _) hq
                    replace k1 := k1.grows hq
                    replace k6 := k6.grows hq
                    replace hm := hm.grows hq
                    clear hq x6 x9 k9
                    go_wp2
                    go_roundw
                    case rel => exact ⟨j + 1, by omega, by go_num, HC2, hB, k1, k6, hm⟩
                    case measure => simp [intOf]; omega
                  · have HCL := Lib.hid hcl
                    clear hcl
                    refine (clash_is Bm nm ns x l true _ hm HIx.out.1 HIx.out.2 HN.out HCL.out).mono ?_
                    rintro e w11 ⟨rfl, hq⟩
                    replace hB := below_grows hB (Nat.le_refl _) hq
                    clear hq x6 x9 k9
                    go_wp2
                    go_ret
                    refine ⟨ret_bool ?_, hB⟩
                    refine (valid_no2 hlt ?_).symm
                    have : crowdL ns l (ls.take k) = true := by
                      unfold crowdL
                      rw [List.any_eq_true]
                      refine ⟨x, ?_, HCL.out⟩
                      rw [List.mem_take_iff_getElem]
                      obtain ⟨hj3, hj4⟩ := List.getElem?_eq_some_iff.1 HX2.out
                      exact ⟨j, by omega, hj4⟩
                    rw [stepK_at HX.out, this]
                    simp
                · have HC2 : Hid (crowdL ns l (ls.take k) = false) := Lib.hid (by have := HC.out; rwa [show j = k by omega] at this)
                  have HA2 := Lib.hid (range_all_up HA.out (by rw [stepK_at HX.out, HE.out, HC2.out]; rw [HK0.out]; rfl))
                  go_wp2
                  go_roundw
                  case rel => exact ⟨k + 1, by omega, by go_num, HA2, hB, k1, hm⟩
                  case measure => simp [intOf]; omega
            · obtain ⟨kp, hkp⟩ : ∃ kp, k = kp + 1 := ⟨k - 1, by omega⟩
              have hkl : kp < ls.length := by omega
              have hk9 : decide (0 < k) = true := by simp; omega
              have hw : Hid ((k : Int) - 1 = (kp : Int)) := Lib.hid (by omega)
              have hw2 : Hid (IntKind.i64.wrap (kp : Int) = (kp : Int)) := Lib.hid (IntWalk.i64_in _ (by omega))
              have hw3 : Hid (k - 1 = kp) := Lib.hid (by omega)
              have hw4 : Hid ((k == 0) = false) := Lib.hid (by simp; omega)
              obtain ⟨ad', p, e, -, hp0, hp⟩ := h2.addr (k := kp) (by omega)
              injection e with e
              subst e
              have HKP := Lib.hid hkp
              clear hkp hk0
              have HP := Lib.hid hp0
              clear hp0
              obtain ⟨z, hz⟩ : ∃ z, cmpL p l = z := ⟨_, rfl⟩
              have HZ := Lib.hid hz
              clear hz
              by_cases hge : 0 ≤ z
              · have HF2 : Hid (stepK ns ls k = false) := Lib.hid (by
                  have h1 : lessL p l = false := by
                    rw [← Bool.not_eq_true, ← cmpL_less, HZ.out]
                    omega
                  rw [stepK_at HX.out, hw3.out, getD_at HP.out, h1, hw4.out]
                  simp)
                obtain ⟨S, HI, HO⟩ : ∃ S : Ran → (Nat → Value) → World → Prop, Hid (∀ L vs w', (Grows w7 w' ∧ KnS [some (.map (some Bm)), some (.agg #[.int .i64 l.a, .int .i64 l.b, .int .i64 l.c, .int .i64 l.d]), some (.bool true), some (.bool false), some (.bool false), some (.int .i64 (k : Int)), some (.bool true), some (.bool true), some (.pointer (some ⟨w.heap.size, 1, none⟩)), some (.slice (some ad) ls.length c2), some (.int .i64 (k : Int)), some (.int .i64 (kp : Int)), some (.pointer (some (ad.add (kp * 4)))), some (.agg #[.int .i64 p.a, .int .i64 p.b, .int .i64 p.c, .int .i64 p.d]), some (.agg #[.int .i64 l.a, .int .i64 l.b, .int .i64 l.c, .int .i64 l.d]), some (.int .i64 z), some (.bool true), some (.bool true), some (.bool true)] L vs) → S L vs w') ∧ Hid (∀ L vs w', S L vs w' → (Grows w7 w' ∧ KnS [some (.map (some Bm)), some (.agg #[.int .i64 l.a, .int .i64 l.b, .int .i64 l.c, .int .i64 l.d]), some (.bool true), some (.bool false), some (.bool false), some (.int .i64 (k : Int)), some (.bool true), some (.bool true), some (.pointer (some ⟨w.heap.size, 1, none⟩)), some (.slice (some ad) ls.length c2), some (.int .i64 (k : Int)), some (.int .i64 (kp : Int)), some (.pointer (some (ad.add (kp * 4)))), some (.agg #[.int .i64 p.a, .int .i64 p.b, .int .i64 p.c, .int .i64 p.d]), some (.agg #[.int .i64 l.a, .int .i64 l.b, .int .i64 l.c, .int .i64 l.d]), some (.int .i64 z), some (.bool true), some (.bool true), some (.bool true)] L vs)) := ⟨fun L vs w' => Grows w7 w' ∧ KnS [some (.map (some Bm)), some (.agg #[.int .i64 l.a, .int .i64 l.b, .int .i64 l.c, .int .i64 l.d]), some (.bool true), some (.bool false), some (.bool false), some (.int .i64 (k : Int)), some (.bool true), some (.bool true), some (.pointer (some ⟨w.heap.size, 1, none⟩)), some (.slice (some ad) ls.length c2), some (.int .i64 (k : Int)), some (.int .i64 (kp : Int)), some (.pointer (some (ad.add (kp * 4)))), some (.agg #[.int .i64 p.a, .int .i64 p.b, .int .i64 p.c, .int .i64 p.d]), some (.agg #[.int .i64 l.a, .int .i64 l.b, .int .i64 l.c, .int .i64 l.d]), some (.int .i64 z), some (.bool true), some (.bool true), some (.bool true)] L vs, fun _ _ _ h => h, fun _ _ _ h => h⟩
                refine wp_region_genW S 99 (by kernel_rfl) (by kernel_rfl) rfl ?_ ?_
                · exact HI.out _ _ _ ⟨Grows.drew' _, kn_none _ _⟩
                refine gen_cons (A' := ?_) (fun vs L w1 hL hw1 => ?_) ?_ ?_
                rotate_left 1
                · obtain ⟨q0, q1⟩ := HO.out _ _ _ hw1
                  refine gen_plain rfl ?_
                  go_simp
                  exact gr_val (HI.out _ _ _ ⟨q0, kn_known q1 rfl⟩)
                · intro vs
                  simp only [Act.put, List.setIfInBounds_toArray, List.set_cons_succ, List.set_cons_zero]
                  rfl
                refine gen_cons (A' := ?_) (fun vs L w1 hL hw1 => ?_) ?_ ?_
                rotate_left 1
                · obtain ⟨q0, q1⟩ := HO.out _ _ _ hw1
                  refine gen_plain rfl ?_
                  have x := (k6.grows q0).cell 
                  go_simp
                  exact gr_val (HI.out _ _ _ ⟨q0, kn_known q1 rfl⟩)
                · intro vs
                  simp only [Act.put, List.setIfInBounds_toArray, List.set_cons_succ, List.set_cons_zero]
                  rfl
                refine gen_cons (A' := ?_) (fun vs L w1 hL hw1 => ?_) ?_ ?_
                rotate_left 1
                · obtain ⟨q0, q1⟩ := HO.out _ _ _ hw1
                  refine gen_plain rfl ?_
                  have l0 : L 0 = true := hL.need 0 (by kernel_rfl)
                  have e0 := q1 0 _ rfl l0
                  have l1 : L 1 = true := hL.need 1 (by kernel_rfl)
                  have e1 := q1 1 _ rfl l1
                  simp only [e0, e1]
                  go_simp
                  refine gr_call ?_
                  refine (ends_is Bm nm ns l true w1 (hm.grows q0) HIl.out.1 HIl.out.2 HN.out HE.out).mono ?_
                  rintro e w2 ⟨rfl, hg⟩
                  exact ⟨_, rfl, HI.out _ _ _ ⟨below_grows q0 (Nat.le_refl _) hg, kn_known q1 rfl⟩⟩
                · intro vs
                  simp only [Act.put, List.setIfInBounds_toArray, List.set_cons_succ, List.set_cons_zero]
                  rfl
                refine gen_cons (A' := ?_) (fun vs L w1 hL hw1 => ?_) ?_ ?_
                rotate_left 1
                · obtain ⟨q0, q1⟩ := HO.out _ _ _ hw1
                  refine gen_plain rfl ?_
                  have l2 : L 2 = true := hL.need 2 (by kernel_rfl)
                  have e2 := q1 2 _ rfl l2
                  simp only [e2]
                  go_simp
                  exact gr_val (HI.out _ _ _ ⟨q0, kn_known q1 rfl⟩)
                · intro vs
                  simp only [Act.put, List.setIfInBounds_toArray, List.set_cons_succ, List.set_cons_zero]
                  rfl
                refine gen_cons (A' := ?_) (fun vs L w1 hL hw1 => ?_) ?_ ?_
                rotate_left 1
                · obtain ⟨q0, q1⟩ := HO.out _ _ _ hw1
                  refine gen_plain rfl ?_
                  have l3 : L 3 = true := hL.need 3 (by kernel_rfl)
                  have e3 := q1 3 _ rfl l3
                  simp only [e3]
                  go_simp
                  exact gr_val (HI.out _ _ _ ⟨q0, kn_known q1 rfl⟩)
                · intro vs
                  simp only [Act.put, List.setIfInBounds_toArray, List.set_cons_succ, List.set_cons_zero]
                  rfl
                refine gen_cons (A' := ?_) (fun vs L w1 hL hw1 => ?_) ?_ ?_
                rotate_left 1
                · obtain ⟨q0, q1⟩ := HO.out _ _ _ hw1
                  have l4 : L 4 = true := hL.need 4 (by kernel_rfl)
                  have e4 := q1 4 _ rfl l4
                  refine gen_yes ?_ ?_
                  · simp only [e4]
                    rfl
                  go_simp
                  exact gr_val (HI.out _ _ _ ⟨q0, kn_known q1 rfl⟩)
                · intro vs
                  simp only [Act.put, List.setIfInBounds_toArray, List.set_cons_succ, List.set_cons_zero]
                  rfl
                refine gen_cons (A' := ?_) (fun vs L w1 hL hw1 => ?_) ?_ ?_
                rotate_left 1
                · obtain ⟨q0, q1⟩ := HO.out _ _ _ hw1
                  have l4 : L 4 = true := hL.need 4 (by kernel_rfl)
                  have e4 := q1 4 _ rfl l4
                  refine gen_yes ?_ ?_
                  · simp only [e4]
                    rfl
                  have l5 : L 5 = true := hL.need 5 (by kernel_rfl)
                  have e5 := q1 5 _ rfl l5
                  simp only [e5]
                  go_simp
                  exact gr_val (HI.out _ _ _ ⟨q0, kn_known q1 rfl⟩)
                · intro vs
                  simp only [Act.put, List.setIfInBounds_toArray, List.set_cons_succ, List.set_cons_zero]
                  rfl
                refine gen_cons (A' := ?_) (fun vs L w1 hL hw1 => ?_) ?_ ?_
                rotate_left 1
                · obtain ⟨q0, q1⟩ := HO.out _ _ _ hw1
                  have l4 : L 4 = true := hL.need 4 (by kernel_rfl)
                  have e4 := q1 4 _ rfl l4
                  refine gen_yes ?_ ?_
                  · simp only [e4]
                    rfl
                  have l6 : L 6 = true := hL.need 6 (by kernel_rfl)
                  have e6 := q1 6 _ rfl l6
                  simp only [e6]
                  go_simp
                  exact gr_val (HI.out _ _ _ ⟨q0, kn_known q1 rfl⟩)
                · intro vs
                  simp only [Act.put, List.setIfInBounds_toArray, List.set_cons_succ, List.set_cons_zero]
                  rfl
                refine gen_cons (A' := ?_) (fun vs L w1 hL hw1 => ?_) ?_ ?_
                rotate_left 1
                · obtain ⟨q0, q1⟩ := HO.out _ _ _ hw1
                  have l7 : L 7 = true := hL.need 7 (by kernel_rfl)
                  have e7 := q1 7 _ rfl l7
                  refine gen_yes ?_ ?_
                  · simp only [e7]
                    rfl
                  go_simp
                  exact gr_val (HI.out _ _ _ ⟨q0, kn_known q1 rfl⟩)
                · intro vs
                  simp only [Act.put, List.setIfInBounds_toArray, List.set_cons_succ, List.set_cons_zero]
                  rfl
                refine gen_cons (A' := ?_) (fun vs L w1 hL hw1 => ?_) ?_ ?_
                rotate_left 1
                · obtain ⟨q0, q1⟩ := HO.out _ _ _ hw1
                  have l7 : L 7 = true := hL.need 7 (by kernel_rfl)
                  have e7 := q1 7 _ rfl l7
                  refine gen_yes ?_ ?_
                  · simp only [e7]
                    rfl
                  have l8 : L 8 = true := hL.need 8 (by kernel_rfl)
                  have e8 := q1 8 _ rfl l8
                  have x := (k1.grows q0).cell 1
                  simp only [e8]
                  go_simp
                  exact gr_val (HI.out _ _ _ ⟨q0, kn_known q1 rfl⟩)
                · intro vs
                  simp only [Act.put, List.setIfInBounds_toArray, List.set_cons_succ, List.set_cons_zero]
                  rfl
                refine gen_cons (A' := ?_) (fun vs L w1 hL hw1 => ?_) ?_ ?_
                rotate_left 1
                · obtain ⟨q0, q1⟩ := HO.out _ _ _ hw1
                  have l7 : L 7 = true := hL.need 7 (by kernel_rfl)
                  have e7 := q1 7 _ rfl l7
                  refine gen_yes ?_ ?_
                  · simp only [e7]
                    rfl
                  go_simp
                  exact gr_val (HI.out _ _ _ ⟨q0, kn_known q1 rfl⟩)
                · intro vs
                  simp only [Act.put, List.setIfInBounds_toArray, List.set_cons_succ, List.set_cons_zero]
                  rfl
                refine gen_cons (A' := ?_) (fun vs L w1 hL hw1 => ?_) ?_ ?_
                rotate_left 1
                · obtain ⟨q0, q1⟩ := HO.out _ _ _ hw1
                  have l7 : L 7 = true := hL.need 7 (by kernel_rfl)
                  have e7 := q1 7 _ rfl l7
                  refine gen_yes ?_ ?_
                  · simp only [e7]
                    rfl
                  have l10 : L 10 = true := hL.need 10 (by kernel_rfl)
                  have e10 := q1 10 _ rfl l10
                  simp only [e10]
                  go_simp
                  try simp only [hw.out]
                  try simp only [hw2.out]
                  exact gr_val (HI.out _ _ _ ⟨q0, kn_known q1 rfl⟩)
                · intro vs
                  simp only [Act.put, List.setIfInBounds_toArray, List.set_cons_succ, List.set_cons_zero]
                  rfl
                refine gen_cons (A' := ?_) (fun vs L w1 hL hw1 => ?_) ?_ ?_
                rotate_left 1
                · obtain ⟨q0, q1⟩ := HO.out _ _ _ hw1
                  have l7 : L 7 = true := hL.need 7 (by kernel_rfl)
                  have e7 := q1 7 _ rfl l7
                  refine gen_yes ?_ ?_
                  · simp only [e7]
                    rfl
                  have l9 : L 9 = true := hL.need 9 (by kernel_rfl)
                  have e9 := q1 9 _ rfl l9
                  have l11 : L 11 = true := hL.need 11 (by kernel_rfl)
                  have e11 := q1 11 _ rfl l11
                  simp only [e9, e11]
                  go_simp
                  exact gr_val (HI.out _ _ _ ⟨q0, kn_known q1 rfl⟩)
                · intro vs
                  simp only [Act.put, List.setIfInBounds_toArray, List.set_cons_succ, List.set_cons_zero]
                  rfl
                refine gen_cons (A' := ?_) (fun vs L w1 hL hw1 => ?_) ?_ ?_
                rotate_left 1
                · obtain ⟨q0, q1⟩ := HO.out _ _ _ hw1
                  have l7 : L 7 = true := hL.need 7 (by kernel_rfl)
                  have e7 := q1 7 _ rfl l7
                  refine gen_yes ?_ ?_
                  · simp only [e7]
                    rfl
                  have l12 : L 12 = true := hL.need 12 (by kernel_rfl)
                  have e12 := q1 12 _ rfl l12
                  simp only [e12]
                  obtain ⟨y0, y1, y2, y3⟩ := hp _ (below_grows hB (Nat.le_refl _) q0)
                  go_simp
                  exact gr_val (HI.out _ _ _ ⟨q0, kn_known q1 rfl⟩)
                · intro vs
                  simp only [Act.put, List.setIfInBounds_toArray, List.set_cons_succ, List.set_cons_zero]
                  rfl
                refine gen_cons (A' := ?_) (fun vs L w1 hL hw1 => ?_) ?_ ?_
                rotate_left 1
                · obtain ⟨q0, q1⟩ := HO.out _ _ _ hw1
                  have l7 : L 7 = true := hL.need 7 (by kernel_rfl)
                  have e7 := q1 7 _ rfl l7
                  refine gen_yes ?_ ?_
                  · simp only [e7]
                    rfl
                  have x := (k6.grows q0).cell 
                  go_simp
                  exact gr_val (HI.out _ _ _ ⟨q0, kn_known q1 rfl⟩)
                · intro vs
                  simp only [Act.put, List.setIfInBounds_toArray, List.set_cons_succ, List.set_cons_zero]
                  rfl
                refine gen_cons (A' := ?_) (fun vs L w1 hL hw1 => ?_) ?_ ?_
                rotate_left 1
                · obtain ⟨q0, q1⟩ := HO.out _ _ _ hw1
                  have l7 : L 7 = true := hL.need 7 (by kernel_rfl)
                  have e7 := q1 7 _ rfl l7
                  refine gen_yes ?_ ?_
                  · simp only [e7]
                    rfl
                  have l13 : L 13 = true := hL.need 13 (by kernel_rfl)
                  have e13 := q1 13 _ rfl l13
                  have l14 : L 14 = true := hL.need 14 (by kernel_rfl)
                  have e14 := q1 14 _ rfl l14
                  simp only [e13, e14]
                  go_simp
                  refine gr_call ?_
                  refine (compare_is p l z w1 HZ.out).mono ?_
                  rintro e w2 ⟨rfl, hg⟩
                  exact ⟨_, rfl, HI.out _ _ _ ⟨below_grows q0 (Nat.le_refl _) hg, kn_known q1 rfl⟩⟩
                · intro vs
                  simp only [Act.put, List.setIfInBounds_toArray, List.set_cons_succ, List.set_cons_zero]
                  rfl
                refine gen_cons (A' := ?_) (fun vs L w1 hL hw1 => ?_) ?_ ?_
                rotate_left 1
                · obtain ⟨q0, q1⟩ := HO.out _ _ _ hw1
                  have l7 : L 7 = true := hL.need 7 (by kernel_rfl)
                  have e7 := q1 7 _ rfl l7
                  refine gen_yes ?_ ?_
                  · simp only [e7]
                    rfl
                  have l15 : L 15 = true := hL.need 15 (by kernel_rfl)
                  have e15 := q1 15 _ rfl l15
                  simp only [e15]
                  go_simp
                  exact gr_val (HI.out _ _ _ ⟨q0, kn_known q1 rfl⟩)
                · intro vs
                  simp only [Act.put, List.setIfInBounds_toArray, List.set_cons_succ, List.set_cons_zero]
                  rfl
                refine gen_cons (A' := ?_) (fun vs L w1 hL hw1 => ?_) ?_ ?_
                rotate_left 1
                · obtain ⟨q0, q1⟩ := HO.out _ _ _ hw1
                  have l4 : L 4 = true := hL.need 4 (by kernel_rfl)
                  have e4 := q1 4 _ rfl l4
                  refine gen_yes ?_ ?_
                  · simp only [e4]
                    rfl
                  have l7 : L 7 = true := hL.need 7 (by kernel_rfl)
                  have e7 := q1 7 _ rfl l7
                  have l16 : L 16 = true := hL.need 16 (by kernel_rfl)
                  have e16 := q1 16 _ rfl l16
                  simp only [e7, e16]
                  go_simp
                  exact gr_val (HI.out _ _ _ ⟨q0, kn_known q1 rfl⟩)
                · intro vs
                  simp only [Act.put, List.setIfInBounds_toArray, List.set_cons_succ, List.set_cons_zero]
                  rfl
                refine gen_cons (A' := ?_) (fun vs L w1 hL hw1 => ?_) ?_ ?_
                rotate_left 1
                · obtain ⟨q0, q1⟩ := HO.out _ _ _ hw1
                  refine gen_plain rfl ?_
                  have l4 : L 4 = true := hL.need 4 (by kernel_rfl)
                  have e4 := q1 4 _ rfl l4
                  have l17 : L 17 = true := hL.need 17 (by kernel_rfl)
                  have e17 := q1 17 _ rfl l17
                  simp only [e4, e17]
                  go_simp
                  exact gr_val (HI.out _ _ _ ⟨q0, kn_known q1 rfl⟩)
                · intro vs
                  simp only [Act.put, List.setIfInBounds_toArray, List.set_cons_succ, List.set_cons_zero]
                  rfl
                refine gen_nil ?_
                intro vs L W6 hall hS
                obtain ⟨hq, q1⟩ := HO.out _ _ _ hS
                have eX18 := q1 18 _ rfl (hall 18 (by simp))
                clear hall hS HI HO q1
                simp only [eX18]
                go_wp2
                go_ret
                refine ⟨ret_bool ?_, below_grows hB (Nat.le_refl _) hq⟩
                exact (valid_no2 hlt HF2.out).symm
              · have HS : Hid (lessL p l = true) := Lib.hid (by
                  rw [← cmpL_less, HZ.out]
                  omega)
                obtain ⟨S, HI, HO⟩ : ∃ S : Ran → (Nat → Value) → World → Prop, Hid (∀ L vs w', (Grows w7 w' ∧ KnS [some (.map (some Bm)), some (.agg #[.int .i64 l.a, .int .i64 l.b, .int .i64 l.c, .int .i64 l.d]), some (.bool true), some (.bool false), some (.bool false), some (.int .i64 (k : Int)), some (.bool true), some (.bool true), some (.pointer (some ⟨w.heap.size, 1, none⟩)), some (.slice (some ad) ls.length c2), some (.int .i64 (k : Int)), some (.int .i64 (kp : Int)), some (.pointer (some (ad.add (kp * 4)))), some (.agg #[.int .i64 p.a, .int .i64 p.b, .int .i64 p.c, .int .i64 p.d]), some (.agg #[.int .i64 l.a, .int .i64 l.b, .int .i64 l.c, .int .i64 l.d]), some (.int .i64 z), some (.bool false), some (.bool false), some (.bool false)] L vs) → S L vs w') ∧ Hid (∀ L vs w', S L vs w' → (Grows w7 w' ∧ KnS [some (.map (some Bm)), some (.agg #[.int .i64 l.a, .int .i64 l.b, .int .i64 l.c, .int .i64 l.d]), some (.bool true), some (.bool false), some (.bool false), some (.int .i64 (k : Int)), some (.bool true), some (.bool true), some (.pointer (some ⟨w.heap.size, 1, none⟩)), some (.slice (some ad) ls.length c2), some (.int .i64 (k : Int)), some (.int .i64 (kp : Int)), some (.pointer (some (ad.add (kp * 4)))), some (.agg #[.int .i64 p.a, .int .i64 p.b, .int .i64 p.c, .int .i64 p.d]), some (.agg #[.int .i64 l.a, .int .i64 l.b, .int .i64 l.c, .int .i64 l.d]), some (.int .i64 z), some (.bool false), some (.bool false), some (.bool false)] L vs)) := ⟨fun L vs w' => Grows w7 w' ∧ KnS [some (.map (some Bm)), some (.agg #[.int .i64 l.a, .int .i64 l.b, .int .i64 l.c, .int .i64 l.d]), some (.bool true), some (.bool false), some (.bool false), some (.int .i64 (k : Int)), some (.bool true), some (.bool true), some (.pointer (some ⟨w.heap.size, 1, none⟩)), some (.slice (some ad) ls.length c2), some (.int .i64 (k : Int)), some (.int .i64 (kp : Int)), some (.pointer (some (ad.add (kp * 4)))), some (.agg #[.int .i64 p.a, .int .i64 p.b, .int .i64 p.c, .int .i64 p.d]), some (.agg #[.int .i64 l.a, .int .i64 l.b, .int .i64 l.c, .int .i64 l.d]), some (.int .i64 z), some (.bool false), some (.bool false), some (.bool false)] L vs, fun _ _ _ h => h, fun _ _ _ h => h⟩
                refine wp_region_genW S 99 (by kernel_rfl) (by kernel_rfl) rfl ?_ ?_
                · exact HI.out _ _ _ ⟨Grows.drew' _, kn_none _ _⟩
                refine gen_cons (A' := ?_) (fun vs L w1 hL hw1 => ?_) ?_ ?_
                rotate_left 1
                · obtain ⟨q0, q1⟩ := HO.out _ _ _ hw1
                  refine gen_plain rfl ?_
                  go_simp
                  exact gr_val (HI.out _ _ _ ⟨q0, kn_known q1 rfl⟩)
                · intro vs
                  simp only [Act.put, List.setIfInBounds_toArray, List.set_cons_succ, List.set_cons_zero]
                  rfl
                refine gen_cons (A' := ?_) (fun vs L w1 hL hw1 => ?_) ?_ ?_
                rotate_left 1
                · obtain ⟨q0, q1⟩ := HO.out _ _ _ hw1
                  refine gen_plain rfl ?_
                  have x := (k6.grows q0).cell 
                  go_simp
                  exact gr_val (HI.out _ _ _ ⟨q0, kn_known q1 rfl⟩)
                · intro vs
                  simp only [Act.put, List.setIfInBounds_toArray, List.set_cons_succ, List.set_cons_zero]
                  rfl
                refine gen_cons (A' := ?_) (fun vs L w1 hL hw1 => ?_) ?_ ?_
                rotate_left 1
                · obtain ⟨q0, q1⟩ := HO.out _ _ _ hw1
                  refine gen_plain rfl ?_
                  have l0 : L 0 = true := hL.need 0 (by kernel_rfl)
                  have e0 := q1 0 _ rfl l0
                  have l1 : L 1 = true := hL.need 1 (by kernel_rfl)
                  have e1 := q1 1 _ rfl l1
                  simp only [e0, e1]
                  go_simp
                  refine gr_call ?_
                  refine (ends_is Bm nm ns l true w1 (hm.grows q0) HIl.out.1 HIl.out.2 HN.out HE.out).mono ?_
                  rintro e w2 ⟨rfl, hg⟩
                  exact ⟨_, rfl, HI.out _ _ _ ⟨below_grows q0 (Nat.le_refl _) hg, kn_known q1 rfl⟩⟩
                · intro vs
                  simp only [Act.put, List.setIfInBounds_toArray, List.set_cons_succ, List.set_cons_zero]
                  rfl
                refine gen_cons (A' := ?_) (fun vs L w1 hL hw1 => ?_) ?_ ?_
                rotate_left 1
                · obtain ⟨q0, q1⟩ := HO.out _ _ _ hw1
                  refine gen_plain rfl ?_
                  have l2 : L 2 = true := hL.need 2 (by kernel_rfl)
                  have e2 := q1 2 _ rfl l2
                  simp only [e2]
                  go_simp
                  exact gr_val (HI.out _ _ _ ⟨q0, kn_known q1 rfl⟩)
                · intro vs
                  simp only [Act.put, List.setIfInBounds_toArray, List.set_cons_succ, List.set_cons_zero]
                  rfl
                refine gen_cons (A' := ?_) (fun vs L w1 hL hw1 => ?_) ?_ ?_
                rotate_left 1
                · obtain ⟨q0, q1⟩ := HO.out _ _ _ hw1
                  refine gen_plain rfl ?_
                  have l3 : L 3 = true := hL.need 3 (by kernel_rfl)
                  have e3 := q1 3 _ rfl l3
                  simp only [e3]
                  go_simp
                  exact gr_val (HI.out _ _ _ ⟨q0, kn_known q1 rfl⟩)
                · intro vs
                  simp only [Act.put, List.setIfInBounds_toArray, List.set_cons_succ, List.set_cons_zero]
                  rfl
                refine gen_cons (A' := ?_) (fun vs L w1 hL hw1 => ?_) ?_ ?_
                rotate_left 1
                · obtain ⟨q0, q1⟩ := HO.out _ _ _ hw1
                  have l4 : L 4 = true := hL.need 4 (by kernel_rfl)
                  have e4 := q1 4 _ rfl l4
                  refine gen_yes ?_ ?_
                  · simp only [e4]
                    rfl
                  go_simp
                  exact gr_val (HI.out _ _ _ ⟨q0, kn_known q1 rfl⟩)
                · intro vs
                  simp only [Act.put, List.setIfInBounds_toArray, List.set_cons_succ, List.set_cons_zero]
                  rfl
                refine gen_cons (A' := ?_) (fun vs L w1 hL hw1 => ?_) ?_ ?_
                rotate_left 1
                · obtain ⟨q0, q1⟩ := HO.out _ _ _ hw1
                  have l4 : L 4 = true := hL.need 4 (by kernel_rfl)
                  have e4 := q1 4 _ rfl l4
                  refine gen_yes ?_ ?_
                  · simp only [e4]
                    rfl
                  have l5 : L 5 = true := hL.need 5 (by kernel_rfl)
                  have e5 := q1 5 _ rfl l5
                  simp only [e5]
                  go_simp
                  exact gr_val (HI.out _ _ _ ⟨q0, kn_known q1 rfl⟩)
                · intro vs
                  simp only [Act.put, List.setIfInBounds_toArray, List.set_cons_succ, List.set_cons_zero]
                  rfl
                refine gen_cons (A' := ?_) (fun vs L w1 hL hw1 => ?_) ?_ ?_
                rotate_left 1
                · obtain ⟨q0, q1⟩ := HO.out _ _ _ hw1
                  have l4 : L 4 = true := hL.need 4 (by kernel_rfl)
                  have e4 := q1 4 _ rfl l4
                  refine gen_yes ?_ ?_
                  · simp only [e4]
                    rfl
                  have l6 : L 6 = true := hL.need 6 (by kernel_rfl)
                  have e6 := q1 6 _ rfl l6
                  simp only [e6]
                  go_simp
                  exact gr_val (HI.out _ _ _ ⟨q0, kn_known q1 rfl⟩)
                · intro vs
                  simp only [Act.put, List.setIfInBounds_toArray, List.set_cons_succ, List.set_cons_zero]
                  rfl
                refine gen_cons (A' := ?_) (fun vs L w1 hL hw1 => ?_) ?_ ?_
                rotate_left 1
                · obtain ⟨q0, q1⟩ := HO.out _ _ _ hw1
                  have l7 : L 7 = true := hL.need 7 (by kernel_rfl)
                  have e7 := q1 7 _ rfl l7
                  refine gen_yes ?_ ?_
                  · simp only [e7]
                    rfl
                  go_simp
                  exact gr_val (HI.out _ _ _ ⟨q0, kn_known q1 rfl⟩)
                · intro vs
                  simp only [Act.put, List.setIfInBounds_toArray, List.set_cons_succ, List.set_cons_zero]
                  rfl
                refine gen_cons (A' := ?_) (fun vs L w1 hL hw1 => ?_) ?_ ?_
                rotate_left 1
                · obtain ⟨q0, q1⟩ := HO.out _ _ _ hw1
                  have l7 : L 7 = true := hL.need 7 (by kernel_rfl)
                  have e7 := q1 7 _ rfl l7
                  refine gen_yes ?_ ?_
                  · simp only [e7]
                    rfl
                  have l8 : L 8 = true := hL.need 8 (by kernel_rfl)
                  have e8 := q1 8 _ rfl l8
                  have x := (k1.grows q0).cell 1
                  simp only [e8]
                  go_simp
                  exact gr_val (HI.out _ _ _ ⟨q0, kn_known q1 rfl⟩)
                · intro vs
                  simp only [Act.put, List.setIfInBounds_toArray, List.set_cons_succ, List.set_cons_zero]
                  rfl
                refine gen_cons (A' := ?_) (fun vs L w1 hL hw1 => ?_) ?_ ?_
                rotate_left 1
                · obtain ⟨q0, q1⟩ := HO.out _ _ _ hw1
                  have l7 : L 7 = true := hL.need 7 (by kernel_rfl)
                  have e7 := q1 7 _ rfl l7
                  refine gen_yes ?_ ?_
                  · simp only [e7]
                    rfl
                  go_simp
                  exact gr_val (HI.out _ _ _ ⟨q0, kn_known q1 rfl⟩)
                · intro vs
                  simp only [Act.put, List.setIfInBounds_toArray, List.set_cons_succ, List.set_cons_zero]
                  rfl
                refine gen_cons (A' := ?_) (fun vs L w1 hL hw1 => ?_) ?_ ?_
                rotate_left 1
                · obtain ⟨q0, q1⟩ := HO.out _ _ _ hw1
                  have l7 : L 7 = true := hL.need 7 (by kernel_rfl)
                  have e7 := q1 7 _ rfl l7
                  refine gen_yes ?_ ?_
                  · simp only [e7]
                    rfl
                  have l10 : L 10 = true := hL.need 10 (by kernel_rfl)
                  have e10 := q1 10 _ rfl l10
                  simp only [e10]
                  go_simp
                  try simp only [hw.out]
                  try simp only [hw2.out]
                  exact gr_val (HI.out _ _ _ ⟨q0, kn_known q1 rfl⟩)
                · intro vs
                  simp only [Act.put, List.setIfInBounds_toArray, List.set_cons_succ, List.set_cons_zero]
                  rfl
                refine gen_cons (A' := ?_) (fun vs L w1 hL hw1 => ?_) ?_ ?_
                rotate_left 1
                · obtain ⟨q0, q1⟩ := HO.out _ _ _ hw1
                  have l7 : L 7 = true := hL.need 7 (by kernel_rfl)
                  have e7 := q1 7 _ rfl l7
                  refine gen_yes ?_ ?_
                  · simp only [e7]
                    rfl
                  have l9 : L 9 = true := hL.need 9 (by kernel_rfl)
                  have e9 := q1 9 _ rfl l9
                  have l11 : L 11 = true := hL.need 11 (by kernel_rfl)
                  have e11 := q1 11 _ rfl l11
                  simp only [e9, e11]
                  go_simp
                  exact gr_val (HI.out _ _ _ ⟨q0, kn_known q1 rfl⟩)
                · intro vs
                  simp only [Act.put, List.setIfInBounds_toArray, List.set_cons_succ, List.set_cons_zero]
                  rfl
                refine gen_cons (A' := ?_) (fun vs L w1 hL hw1 => ?_) ?_ ?_
                rotate_left 1
                · obtain ⟨q0, q1⟩ := HO.out _ _ _ hw1
                  have l7 : L 7 = true := hL.need 7 (by kernel_rfl)
                  have e7 := q1 7 _ rfl l7
                  refine gen_yes ?_ ?_
                  · simp only [e7]
                    rfl
                  have l12 : L 12 = true := hL.need 12 (by kernel_rfl)
                  have e12 := q1 12 _ rfl l12
                  simp only [e12]
                  obtain ⟨y0, y1, y2, y3⟩ := hp _ (below_grows hB (Nat.le_refl _) q0)
                  go_simp
                  exact gr_val (HI.out _ _ _ ⟨q0, kn_known q1 rfl⟩)
                · intro vs
                  simp only [Act.put, List.setIfInBounds_toArray, List.set_cons_succ, List.set_cons_zero]
                  rfl
                refine gen_cons (A' := ?_) (fun vs L w1 hL hw1 => ?_) ?_ ?_
                rotate_left 1
                · obtain ⟨q0, q1⟩ := HO.out _ _ _ hw1
                  have l7 : L 7 = true := hL.need 7 (by kernel_rfl)
                  have e7 := q1 7 _ rfl l7
                  refine gen_yes ?_ ?_
                  · simp only [e7]
                    rfl
                  have x := (k6.grows q0).cell 
                  go_simp
                  exact gr_val (HI.out _ _ _ ⟨q0, kn_known q1 rfl⟩)
                · intro vs
                  simp only [Act.put, List.setIfInBounds_toArray, List.set_cons_succ, List.set_cons_zero]
                  rfl
                refine gen_cons (A' := ?_) (fun vs L w1 hL hw1 => ?_) ?_ ?_
                rotate_left 1
                · obtain ⟨q0, q1⟩ := HO.out _ _ _ hw1
                  have l7 : L 7 = true := hL.need 7 (by kernel_rfl)
                  have e7 := q1 7 _ rfl l7
                  refine gen_yes ?_ ?_
                  · simp only [e7]
                    rfl
                  have l13 : L 13 = true := hL.need 13 (by kernel_rfl)
                  have e13 := q1 13 _ rfl l13
                  have l14 : L 14 = true := hL.need 14 (by kernel_rfl)
                  have e14 := q1 14 _ rfl l14
                  simp only [e13, e14]
                  go_simp
                  refine gr_call ?_
                  refine (compare_is p l z w1 HZ.out).mono ?_
                  rintro e w2 ⟨rfl, hg⟩
                  exact ⟨_, rfl, HI.out _ _ _ ⟨below_grows q0 (Nat.le_refl _) hg, kn_known q1 rfl⟩⟩
                · intro vs
                  simp only [Act.put, List.setIfInBounds_toArray, List.set_cons_succ, List.set_cons_zero]
                  rfl
                refine gen_cons (A' := ?_) (fun vs L w1 hL hw1 => ?_) ?_ ?_
                rotate_left 1
                · obtain ⟨q0, q1⟩ := HO.out _ _ _ hw1
                  have l7 : L 7 = true := hL.need 7 (by kernel_rfl)
                  have e7 := q1 7 _ rfl l7
                  refine gen_yes ?_ ?_
                  · simp only [e7]
                    rfl
                  have l15 : L 15 = true := hL.need 15 (by kernel_rfl)
                  have e15 := q1 15 _ rfl l15
                  simp only [e15]
                  go_simp
                  exact gr_val (HI.out _ _ _ ⟨q0, kn_known q1 rfl⟩)
                · intro vs
                  simp only [Act.put, List.setIfInBounds_toArray, List.set_cons_succ, List.set_cons_zero]
                  rfl
                refine gen_cons (A' := ?_) (fun vs L w1 hL hw1 => ?_) ?_ ?_
                rotate_left 1
                · obtain ⟨q0, q1⟩ := HO.out _ _ _ hw1
                  have l4 : L 4 = true := hL.need 4 (by kernel_rfl)
                  have e4 := q1 4 _ rfl l4
                  refine gen_yes ?_ ?_
                  · simp only [e4]
                    rfl
                  have l7 : L 7 = true := hL.need 7 (by kernel_rfl)
                  have e7 := q1 7 _ rfl l7
                  have l16 : L 16 = true := hL.need 16 (by kernel_rfl)
                  have e16 := q1 16 _ rfl l16
                  simp only [e7, e16]
                  go_simp
                  exact gr_val (HI.out _ _ _ ⟨q0, kn_known q1 rfl⟩)
                · intro vs
                  simp only [Act.put, List.setIfInBounds_toArray, List.set_cons_succ, List.set_cons_zero]
                  rfl
                refine gen_cons (A' := ?_) (fun vs L w1 hL hw1 => ?_) ?_ ?_
                rotate_left 1
                · obtain ⟨q0, q1⟩ := HO.out _ _ _ hw1
                  refine gen_plain rfl ?_
                  have l4 : L 4 = true := hL.need 4 (by kernel_rfl)
                  have e4 := q1 4 _ rfl l4
                  have l17 : L 17 = true := hL.need 17 (by kernel_rfl)
                  have e17 := q1 17 _ rfl l17
                  simp only [e4, e17]
                  go_simp
                  exact gr_val (HI.out _ _ _ ⟨q0, kn_known q1 rfl⟩)
                · intro vs
                  simp only [Act.put, List.setIfInBounds_toArray, List.set_cons_succ, List.set_cons_zero]
                  rfl
                refine gen_nil ?_
                intro vs L W6 hall hS
                obtain ⟨hq, q1⟩ := HO.out _ _ _ hS
                have eX18 := q1 18 _ rfl (hall 18 (by simp))
                clear hall hS HI HO q1
                simp only [eX18]
                simp only [Nat.zero_add, Nat.reduceAdd]
                have k1' := k1.grows hq
                have x1 := k1'.cell
                go_wp2_with fail
                clear x1
                replace hB := below_grows hB (Nat.le_refl _) hq
                replace hm := hm.grows hq
                replace k6 := k6.grows hq
                clear hq k1
                generalize W6 = w9 at *
                go_loopw [82] (fun i wr => ∃ j : Nat, j ≤ k ∧ i = .int .i64 j ∧ Hid (crowdL ns l (ls.take j) = false) ∧ Below w.heap.size w wr ∧ Blk wr w.heap.size 40 #[.slice A ns.length c, .slice (some ad) ls.length c2] ∧ Blk wr G6 52 #[.int .i64 l.a, .int .i64 l.b, .int .i64 l.c, .int .i64 l.d] ∧ MapT TI wr Bm nm (nodeM ns)) (fun i _ => k - (intOf i).toNat)
                case atStart => exact ⟨0, by omega, rfl, Lib.hid rfl, hB, k1', k6, hm⟩
                case round =>
                  clear hB k1' k6 hm
                  obtain ⟨j, hj, rfl, HC, hB, k1, k6, hm⟩ := hrel
                  by_cases hjlt : j < k
                  · obtain ⟨ad2, x, e2, -, hx2, q0, q1, q2, q3⟩ := (h2.grows hB).elem (k := j) (by omega)
                    injection e2 with e2
                    subst e2
                    have HX2 := Lib.hid hx2
                    clear hx2
                    have HIx : Hid (In64 x.a ∧ In64 x.c) := Lib.hid (HRl.out x (List.mem_of_getElem? HX2.out))
                    have k9 := Blk.new wr 52 #[.int .i64 x.a, .int .i64 x.b, .int .i64 x.c, .int .i64 x.d]
                    have hq := (Below.refl wr.heap.size wr).alloc (Nat.le_refl _) (Obj.cells #[.int .i64 x.a, .int .i64 x.b, .int .i64 x.c, .int .i64 x.d] 52)
                    go_upto_region 18 with fail
                    clear q0 q1 q2 q3
                    replace hB := below_grows hB (Nat.le_refl _) hq
                    replace k1 := k1.grows hq
                    replace k6 := k6.grows hq
                    replace hm := hm.grows hq
                    clear hq
                    generalize World.alloc wr _ = w10 at *
                    generalize wr.heap.size = G9 at *
                    have x6 := k6.cell
                    have x9 := k9.cell
                    go_wp2_with fail
                    cases hcl : clashL ns x l
                    · have HCL := Lib.hid hcl
                      clear hcl
                      refine (clash_is Bm nm ns x l false _ hm HIx.out.1 HIx.out.2 HN.out HCL.out).mono ?_
                      rintro e w11 ⟨rfl, hq⟩
                      have HC2 : Hid (crowdL ns l (ls.take (j + 1)) = false) := Lib.hid (by rw [take_snoc HX2.out]; unfold crowdL; rw [List.any_append]; simp only [List.any_cons, List.any_nil, Bool.or_false, HCL.out]; exact HC.out)
                      replace hB := below_grows hB (Nat.le_refl _) hq
                      replace k1 := k1.grows hq
                      replace k6 := k6.grows hq
                      replace hm := hm.grows hq
                      clear hq x6 x9 k9
                      go_wp2
                      go_roundw
                      case rel => exact ⟨j + 1, by omega, by go_num, HC2, hB, k1, k6, hm⟩
                      case measure => simp [intOf]; omega
                    · have HCL := Lib.hid hcl
                      clear hcl
                      refine (clash_is Bm nm ns x l true _ hm HIx.out.1 HIx.out.2 HN.out HCL.out).mono ?_
                      rintro e w11 ⟨rfl, hq⟩
                      replace hB := below_grows hB (Nat.le_refl _) hq
                      clear hq x6 x9 k9
                      go_wp2
                      go_ret
                      refine ⟨ret_bool ?_, hB⟩
                      refine (valid_no2 hlt ?_).symm
                      have : crowdL ns l (ls.take k) = true := by
                        unfold crowdL
                        rw [List.any_eq_true]
                        refine ⟨x, ?_, HCL.out⟩
                        rw [List.mem_take_iff_getElem]
                        obtain ⟨hj3, hj4⟩ := List.getElem?_eq_some_iff.1 HX2.out
                        exact ⟨j, by omega, hj4⟩
                      rw [stepK_at HX.out, this]
                      simp
                  · have HC2 : Hid (crowdL ns l (ls.take k) = false) := Lib.hid (by have := HC.out; rwa [show j = k by omega] at this)
                    have HA2 := Lib.hid (range_all_up HA.out (by rw [stepK_at HX.out, HE.out, HC2.out]; rw [hw3.out, getD_at HP.out, HS.out]; simp))
                    go_wp2
                    go_roundw
                    case rel => exact ⟨k + 1, by omega, by go_num, HA2, hB, k1, hm⟩
                    case measure => simp [intOf]; omega
        · have HK : Hid (okK ns ls = true) := Lib.hid (by have := HA.out; rwa [show k = ls.length by omega] at this)
          obtain ⟨m, hm⟩ : ∃ m, (orderL ns ls).length = m := ⟨_, rfl⟩
          have HM := Lib.hid hm
          clear hm HA
          have hl3 : ns.length ≤ 100000 := by omega
          have hl4 : ls.length ≤ 100000 := by omega
          go_upto_region 22 with fail
          generalize wr = w8 at *
          cases hb : (m == ns.length)
          · have HV : Hid (validG ns ls = false) := Lib.hid (by unfold validG; rw [HM.out]; simp only [Bool.and_eq_false_iff, decide_eq_false_iff_not]; exact .inr (by simpa using hb))
            have hb2 : decide (m = ns.length) = false := by simpa using hb
            have hb3 : ¬ m = ns.length := by simpa using hb
            have hb4 : ((m : Int) == (ns.length : Int)) = false := by
              simp only [beq_eq_false_iff_ne, ne_eq]
              omega
            obtain ⟨S, HI, HO⟩ : ∃ S : Ran → (Nat → Value) → World → Prop, Hid (∀ L vs w', (Grows w8 w' ∧ KnS [some (.agg #[.slice A ns.length c, .slice A2 ls.length c2]), none, some (.int .i64 (m : Int)), some (.pointer (some ⟨w.heap.size, 0, none⟩)), some (.slice A ns.length c), some (.int .i64 (ns.length : Int)), some (.bool false), some (.bool false)] L vs ∧ DsS [none, some (gLen m), none, none, none, none, none, none] L vs w') → S L vs w') ∧ Hid (∀ L vs w', S L vs w' → (Grows w8 w' ∧ KnS [some (.agg #[.slice A ns.length c, .slice A2 ls.length c2]), none, some (.int .i64 (m : Int)), some (.pointer (some ⟨w.heap.size, 0, none⟩)), some (.slice A ns.length c), some (.int .i64 (ns.length : Int)), some (.bool false), some (.bool false)] L vs ∧ DsS [none, some (gLen m), none, none, none, none, none, none] L vs w')) := ⟨fun L vs w' => Grows w8 w' ∧ KnS [some (.agg #[.slice A ns.length c, .slice A2 ls.length c2]), none, some (.int .i64 (m : Int)), some (.pointer (some ⟨w.heap.size, 0, none⟩)), some (.slice A ns.length c), some (.int .i64 (ns.length : Int)), some (.bool false), some (.bool false)] L vs ∧ DsS [none, some (gLen m), none, none, none, none, none, none] L vs w', fun _ _ _ h => h, fun _ _ _ h => h⟩
            refine wp_region_genW S 99 (by kernel_rfl) (by kernel_rfl) rfl ?_ ?_
            · exact HI.out _ _ _ ⟨Grows.drew' _, kn_none _ _, ds_none _ _ _⟩
            refine gen_cons (A' := ?_) (fun vs L w1 hL hw1 => ?_) ?_ ?_
            rotate_left 1
            · obtain ⟨q0, q1, q2⟩ := HO.out _ _ _ hw1
              refine gen_plain rfl ?_
              have x := (k1.grows q0).cell 
              go_simp
              exact gr_val (HI.out _ _ _ ⟨q0, kn_known q1 rfl, ds_free q2 rfl⟩)
            · intro vs
              simp only [Act.put, List.setIfInBounds_toArray, List.set_cons_succ, List.set_cons_zero]
              rfl
            refine gen_cons (A' := ?_) (fun vs L w1 hL hw1 => ?_) ?_ ?_
            rotate_left 1
            · obtain ⟨q0, q1, q2⟩ := HO.out _ _ _ hw1
              refine gen_plain rfl ?_
              have l0 : L 0 = true := hL.need 0 (by kernel_rfl)
              have e0 := q1 0 _ rfl l0
              simp only [e0]
              go_simp
              refine gr_call ?_
              refine (porder_len A A2 c c2 m ns ls w1 (h.grows (below_grows hB (Nat.le_refl _) q0)) hl3 (h2.grows (below_grows hB (Nat.le_refl _) q0)) hl4 HRn.out HRl.out HM.out).mono ?_
              rintro e w2 ⟨⟨v, rfl, hv⟩, hg⟩
              exact ⟨_, rfl, HI.out _ _ _ ⟨below_grows q0 (Nat.le_refl _) hg, kn_free q1 rfl, ds_put (q2.grows hg) rfl (hv)⟩⟩
            · intro vs
              simp only [Act.put, List.setIfInBounds_toArray, List.set_cons_succ, List.set_cons_zero]
              rfl
            refine gen_cons (A' := ?_) (fun vs L w1 hL hw1 => ?_) ?_ ?_
            rotate_left 1
            · obtain ⟨q0, q1, q2⟩ := HO.out _ _ _ hw1
              refine gen_plain rfl ?_
              have l1 : L 1 = true := hL.need 1 (by kernel_rfl)
              obtain ⟨A1, c1, e1⟩ := q2 1 _ rfl l1
              simp only [e1]
              go_simp
              exact gr_val (HI.out _ _ _ ⟨q0, kn_known q1 rfl, ds_free q2 rfl⟩)
            · intro vs
              simp only [Act.put, List.setIfInBounds_toArray, List.set_cons_succ, List.set_cons_zero]
              rfl
            refine gen_cons (A' := ?_) (fun vs L w1 hL hw1 => ?_) ?_ ?_
            rotate_left 1
            · obtain ⟨q0, q1, q2⟩ := HO.out _ _ _ hw1
              refine gen_plain rfl ?_
              go_simp
              exact gr_val (HI.out _ _ _ ⟨q0, kn_known q1 rfl, ds_free q2 rfl⟩)
            · intro vs
              simp only [Act.put, List.setIfInBounds_toArray, List.set_cons_succ, List.set_cons_zero]
              rfl
            refine gen_cons (A' := ?_) (fun vs L w1 hL hw1 => ?_) ?_ ?_
            rotate_left 1
            · obtain ⟨q0, q1, q2⟩ := HO.out _ _ _ hw1
              refine gen_plain rfl ?_
              have l3 : L 3 = true := hL.need 3 (by kernel_rfl)
              have e3 := q1 3 _ rfl l3
              have x := (k1.grows q0).cell 0
              simp only [e3]
              go_simp
              exact gr_val (HI.out _ _ _ ⟨q0, kn_known q1 rfl, ds_free q2 rfl⟩)
            · intro vs
              simp only [Act.put, List.setIfInBounds_toArray, List.set_cons_succ, List.set_cons_zero]
              rfl
            refine gen_cons (A' := ?_) (fun vs L w1 hL hw1 => ?_) ?_ ?_
            rotate_left 1
            · obtain ⟨q0, q1, q2⟩ := HO.out _ _ _ hw1
              refine gen_plain rfl ?_
              have l4 : L 4 = true := hL.need 4 (by kernel_rfl)
              have e4 := q1 4 _ rfl l4
              simp only [e4]
              go_simp
              exact gr_val (HI.out _ _ _ ⟨q0, kn_known q1 rfl, ds_free q2 rfl⟩)
            · intro vs
              simp only [Act.put, List.setIfInBounds_toArray, List.set_cons_succ, List.set_cons_zero]
              rfl
            refine gen_cons (A' := ?_) (fun vs L w1 hL hw1 => ?_) ?_ ?_
            rotate_left 1
            · obtain ⟨q0, q1, q2⟩ := HO.out _ _ _ hw1
              refine gen_plain rfl ?_
              have l2 : L 2 = true := hL.need 2 (by kernel_rfl)
              have e2 := q1 2 _ rfl l2
              have l5 : L 5 = true := hL.need 5 (by kernel_rfl)
              have e5 := q1 5 _ rfl l5
              simp only [e2, e5]
              go_simp
              exact gr_val (HI.out _ _ _ ⟨q0, kn_known q1 rfl, ds_free q2 rfl⟩)
            · intro vs
              simp only [Act.put, List.setIfInBounds_toArray, List.set_cons_succ, List.set_cons_zero]
              rfl
            refine gen_cons (A' := ?_) (fun vs L w1 hL hw1 => ?_) ?_ ?_
            rotate_left 1
            · obtain ⟨q0, q1, q2⟩ := HO.out _ _ _ hw1
              refine gen_plain rfl ?_
              have l6 : L 6 = true := hL.need 6 (by kernel_rfl)
              have e6 := q1 6 _ rfl l6
              simp only [e6]
              go_simp
              exact gr_val (HI.out _ _ _ ⟨q0, kn_known q1 rfl, ds_free q2 rfl⟩)
            · intro vs
              simp only [Act.put, List.setIfInBounds_toArray, List.set_cons_succ, List.set_cons_zero]
              rfl
            refine gen_nil ?_
            intro vs L W6 hall hS
            obtain ⟨hq, q1, q2⟩ := HO.out _ _ _ hS
            have eX7 := q1 7 _ rfl (hall 7 (by simp))
            clear hall hS HI HO q1 q2
            simp only [eX7]
            go_wp2
            go_ret
            refine ⟨ret_bool ?_, below_grows hB (Nat.le_refl _) hq⟩
            exact HV.out.symm
          · have HV : Hid (validG ns ls = true) := Lib.hid (by unfold validG; rw [HM.out, HN.out, HK.out]; simp only [Bool.and_eq_true, decide_eq_true_eq, and_true]; exact ⟨⟨n1, n2⟩, by simpa using hb⟩)
            have hb3 : m = ns.length := by simpa using hb
            subst hb3
            clear hb
            obtain ⟨S, HI, HO⟩ : ∃ S : Ran → (Nat → Value) → World → Prop, Hid (∀ L vs w', (Grows w8 w' ∧ KnS [some (.agg #[.slice A ns.length c, .slice A2 ls.length c2]), none, some (.int .i64 (ns.length : Int)), some (.pointer (some ⟨w.heap.size, 0, none⟩)), some (.slice A ns.length c), some (.int .i64 (ns.length : Int)), some (.bool true), some (.bool true)] L vs ∧ DsS [none, some (gLen ns.length), none, none, none, none, none, none] L vs w') → S L vs w') ∧ Hid (∀ L vs w', S L vs w' → (Grows w8 w' ∧ KnS [some (.agg #[.slice A ns.length c, .slice A2 ls.length c2]), none, some (.int .i64 (ns.length : Int)), some (.pointer (some ⟨w.heap.size, 0, none⟩)), some (.slice A ns.length c), some (.int .i64 (ns.length : Int)), some (.bool true), some (.bool true)] L vs ∧ DsS [none, some (gLen ns.length), none, none, none, none, none, none] L vs w')) := ⟨fun L vs w' => Grows w8 w' ∧ KnS [some (.agg #[.slice A ns.length c, .slice A2 ls.length c2]), none, some (.int .i64 (ns.length : Int)), some (.pointer (some ⟨w.heap.size, 0, none⟩)), some (.slice A ns.length c), some (.int .i64 (ns.length : Int)), some (.bool true), some (.bool true)] L vs ∧ DsS [none, some (gLen ns.length), none, none, none, none, none, none] L vs w', fun _ _ _ h => h, fun _ _ _ h => h⟩
            refine wp_region_genW S 99 (by kernel_rfl) (by kernel_rfl) rfl ?_ ?_
            · exact HI.out _ _ _ ⟨Grows.drew' _, kn_none _ _, ds_none _ _ _⟩
            refine gen_cons (A' := ?_) (fun vs L w1 hL hw1 => ?_) ?_ ?_
            rotate_left 1
            · obtain ⟨q0, q1, q2⟩ := HO.out _ _ _ hw1
              refine gen_plain rfl ?_
              have x := (k1.grows q0).cell 
              go_simp
              exact gr_val (HI.out _ _ _ ⟨q0, kn_known q1 rfl, ds_free q2 rfl⟩)
            · intro vs
              simp only [Act.put, List.setIfInBounds_toArray, List.set_cons_succ, List.set_cons_zero]
              rfl
            refine gen_cons (A' := ?_) (fun vs L w1 hL hw1 => ?_) ?_ ?_
            rotate_left 1
            · obtain ⟨q0, q1, q2⟩ := HO.out _ _ _ hw1
              refine gen_plain rfl ?_
              have l0 : L 0 = true := hL.need 0 (by kernel_rfl)
              have e0 := q1 0 _ rfl l0
              simp only [e0]
              go_simp
              refine gr_call ?_
              refine (porder_len A A2 c c2 ns.length ns ls w1 (h.grows (below_grows hB (Nat.le_refl _) q0)) hl3 (h2.grows (below_grows hB (Nat.le_refl _) q0)) hl4 HRn.out HRl.out HM.out).mono ?_
              rintro e w2 ⟨⟨v, rfl, hv⟩, hg⟩
              exact ⟨_, rfl, HI.out _ _ _ ⟨below_grows q0 (Nat.le_refl _) hg, kn_free q1 rfl, ds_put (q2.grows hg) rfl (hv)⟩⟩
            · intro vs
              simp only [Act.put, List.setIfInBounds_toArray, List.set_cons_succ, List.set_cons_zero]
              rfl
            refine gen_cons (A' := ?_) (fun vs L w1 hL hw1 => ?_) ?_ ?_
            rotate_left 1
            · obtain ⟨q0, q1, q2⟩ := HO.out _ _ _ hw1
              refine gen_plain rfl ?_
              have l1 : L 1 = true := hL.need 1 (by kernel_rfl)
              obtain ⟨A1, c1, e1⟩ := q2 1 _ rfl l1
              simp only [e1]
              go_simp
              exact gr_val (HI.out _ _ _ ⟨q0, kn_known q1 rfl, ds_free q2 rfl⟩)
            · intro vs
              simp only [Act.put, List.setIfInBounds_toArray, List.set_cons_succ, List.set_cons_zero]
              rfl
            refine gen_cons (A' := ?_) (fun vs L w1 hL hw1 => ?_) ?_ ?_
            rotate_left 1
            · obtain ⟨q0, q1, q2⟩ := HO.out _ _ _ hw1
              refine gen_plain rfl ?_
              go_simp
              exact gr_val (HI.out _ _ _ ⟨q0, kn_known q1 rfl, ds_free q2 rfl⟩)
            · intro vs
              simp only [Act.put, List.setIfInBounds_toArray, List.set_cons_succ, List.set_cons_zero]
              rfl
            refine gen_cons (A' := ?_) (fun vs L w1 hL hw1 => ?_) ?_ ?_
            rotate_left 1
            · obtain ⟨q0, q1, q2⟩ := HO.out _ _ _ hw1
              refine gen_plain rfl ?_
              have l3 : L 3 = true := hL.need 3 (by kernel_rfl)
              have e3 := q1 3 _ rfl l3
              have x := (k1.grows q0).cell 0
              simp only [e3]
              go_simp
              exact gr_val (HI.out _ _ _ ⟨q0, kn_known q1 rfl, ds_free q2 rfl⟩)
            · intro vs
              simp only [Act.put, List.setIfInBounds_toArray, List.set_cons_succ, List.set_cons_zero]
              rfl
            refine gen_cons (A' := ?_) (fun vs L w1 hL hw1 => ?_) ?_ ?_
            rotate_left 1
            · obtain ⟨q0, q1, q2⟩ := HO.out _ _ _ hw1
              refine gen_plain rfl ?_
              have l4 : L 4 = true := hL.need 4 (by kernel_rfl)
              have e4 := q1 4 _ rfl l4
              simp only [e4]
              go_simp
              exact gr_val (HI.out _ _ _ ⟨q0, kn_known q1 rfl, ds_free q2 rfl⟩)
            · intro vs
              simp only [Act.put, List.setIfInBounds_toArray, List.set_cons_succ, List.set_cons_zero]
              rfl
            refine gen_cons (A' := ?_) (fun vs L w1 hL hw1 => ?_) ?_ ?_
            rotate_left 1
            · obtain ⟨q0, q1, q2⟩ := HO.out _ _ _ hw1
              refine gen_plain rfl ?_
              have l2 : L 2 = true := hL.need 2 (by kernel_rfl)
              have e2 := q1 2 _ rfl l2
              have l5 : L 5 = true := hL.need 5 (by kernel_rfl)
              have e5 := q1 5 _ rfl l5
              simp only [e2, e5]
              go_simp
              exact gr_val (HI.out _ _ _ ⟨q0, kn_known q1 rfl, ds_free q2 rfl⟩)
            · intro vs
              simp only [Act.put, List.setIfInBounds_toArray, List.set_cons_succ, List.set_cons_zero]
              rfl
            refine gen_cons (A' := ?_) (fun vs L w1 hL hw1 => ?_) ?_ ?_
            rotate_left 1
            · obtain ⟨q0, q1, q2⟩ := HO.out _ _ _ hw1
              refine gen_plain rfl ?_
              have l6 : L 6 = true := hL.need 6 (by kernel_rfl)
              have e6 := q1 6 _ rfl l6
              simp only [e6]
              go_simp
              exact gr_val (HI.out _ _ _ ⟨q0, kn_known q1 rfl, ds_free q2 rfl⟩)
            · intro vs
              simp only [Act.put, List.setIfInBounds_toArray, List.set_cons_succ, List.set_cons_zero]
              rfl
            refine gen_nil ?_
            intro vs L W6 hall hS
            obtain ⟨hq, q1, q2⟩ := HO.out _ _ _ hS
            have eX7 := q1 7 _ rfl (hall 7 (by simp))
            clear hall hS HI HO q1 q2
            simp only [eX7]
            go_wp2
            go_ret
            refine ⟨ret_bool ?_, below_grows hB (Nat.le_refl _) hq⟩
            exact HV.out.symm
end Go.Proofs.Ytmokpiacioeohaa
