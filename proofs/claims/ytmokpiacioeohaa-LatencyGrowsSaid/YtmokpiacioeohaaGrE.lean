/-
  Graphs: Valid of the reference. Plain contract.
-/
import Derived.Test.YtmokpiacioeohaaGrD
import Derived.Test.YtmokpiacioeohaaGenD
namespace Go.Proofs.Ytmokpiacioeohaa
open Go.RowKit
theorem fits_is (x : Q4) (b : Bool) (w : World) (h : fineN x = b) : Calls Try.prog 37 #[.agg #[.int .i64 x.a, .int .i64 x.b, .int .i64 x.c, .int .i64 x.d]] w fun e w' => e = .returned (.bool b) ∧ Grows w w' := by
  subst h
  exact fits_any x w
theorem ports_is (A A2 : Option Addr) (c c2 m : Nat) (ns : List Q4) (l : Q4) (b : Bool) (w : World) (h : Qs w A ns) (hl : ns.length ≤ 9223372036854775807) (he : endsL ns l = b) :
    Calls Try.prog 39 #[.agg #[.slice A ns.length c, .slice A2 m c2], .agg #[.int .i64 l.a, .int .i64 l.b, .int .i64 l.c, .int .i64 l.d]] w fun e w' => e = .returned (.bool b) ∧ Grows w w' := by
  subst he
  rw [← portsL_eq]
  exact ports_any A A2 c c2 m ns l w h hl
theorem less_is (x l : Q4) (b : Bool) (w : World) (h : lessL x l = b) : Calls Try.prog 42 #[.agg #[.int .i64 x.a, .int .i64 x.b, .int .i64 x.c, .int .i64 x.d], .agg #[.int .i64 l.a, .int .i64 l.b, .int .i64 l.c, .int .i64 l.d]] w fun e w' => e = .returned (.bool b) ∧ Grows w w' := by
  subst h
  exact less_any x l w
theorem crowd_is (A A2 A3 : Option Addr) (c c2 c3 m n : Nat) (ns ot : List Q4) (l : Q4) (b : Bool) (w : World) (h : Qs w A ns) (hl : ns.length ≤ 9223372036854775807) (ho : Qs w A3 ot) (hol : ot.length ≤ 9223372036854775807) (hn : n = ot.length) (hb : crowdL ns l ot = b) :
    Calls Try.prog 41 #[.agg #[.slice A ns.length c, .slice A2 m c2], .agg #[.int .i64 l.a, .int .i64 l.b, .int .i64 l.c, .int .i64 l.d], .slice A3 n c3] w fun e w' => e = .returned (.bool b) ∧ Grows w w' := by
  subst hb hn
  exact crowd_any A A2 A3 c c2 c3 m ns ot l w h hl ho hol
/-- A slice of so many. -/
def gLen (n : Nat) : GP := ⟨fun _ v => ∃ A c, v = .slice A n c, fun _ _ _ h _ => h⟩
theorem order_len (A A2 : Option Addr) (c c2 m : Nat) (ns ls : List Q4) (w : World) (h : Qs w A ns) (hl : ns.length ≤ 100000) (h2 : Qs w A2 ls) (hl2 : ls.length ≤ 9223372036854775807) (h0 : ∀ n ∈ ns, n.a ≠ 0) (hm : (orderL ns ls).length = m) :
    Calls Try.prog 43 #[.agg #[.slice A ns.length c, .slice A2 ls.length c2]] w fun e w' => (∃ v, e = .returned v ∧ ∃ A c, v = .slice A m c) ∧ Grows w w' := by
  subst hm
  refine (rorder_any A A2 c c2 ns ls w h hl h2 hl2 h0).mono ?_
  rintro e w' ⟨⟨v, rfl, ho⟩, hg⟩
  obtain ⟨A3, c3, rfl, -, -⟩ := ho.read
  exact ⟨⟨_, rfl, A3, c3, rfl⟩, hg⟩
theorem stepN_at {ns : List Q4} {k : Nat} {x : Q4} (hx : ns[k]? = some x) : stepN ns k = (fineN x && (k == 0 || decide ((ns.getD (k - 1) q0).a < x.a))) := by
  unfold stepN
  rw [show ns.getD k q0 = x by rw [List.getD_eq_getElem?_getD, hx]; rfl]
theorem okN_ids {ns : List Q4} (h : okN ns = true) : ∀ n ∈ ns, n.a ≠ 0 := by
  intro n hn
  obtain ⟨k, hk, rfl⟩ := List.getElem_of_mem hn
  have := range_all_at h hk
  rw [stepN_at (List.getElem?_eq_getElem hk)] at this
  simp only [Bool.and_eq_true, fineN, decide_eq_true_eq] at this
  omega
theorem stepK_at {ns ls : List Q4} {k : Nat} {x : Q4} (hx : ls[k]? = some x) : stepK ns ls k = (endsL ns x && (k == 0 || lessL (ls.getD (k - 1) q0) x) && !crowdL ns x (ls.take k)) := by
  unfold stepK
  rw [show ls.getD k q0 = x by rw [List.getD_eq_getElem?_getD, hx]; rfl]
theorem getD_at {l : List Q4} {k : Nat} {x : Q4} (hx : l[k]? = some x) : l.getD k q0 = x := by rw [List.getD_eq_getElem?_getD, hx]; rfl
theorem valid_no1 {ns ls : List Q4} {k : Nat} (hk : k < ns.length) (h : stepN ns k = false) : validG ns ls = false := by
  unfold validG okN
  rw [range_all_no hk h]
  simp
theorem valid_no2 {ns ls : List Q4} {k : Nat} (hk : k < ls.length) (h : stepK ns ls k = false) : validG ns ls = false := by
  unfold validG okK
  rw [range_all_no hk h]
  simp
set_option maxHeartbeats 8000000 in
theorem rvalidg_any (A A2 : Option Addr) (c c2 : Nat) (ns ls : List Q4) (w : World) (h : Qs w A ns) (hl : ns.length ≤ 9223372036854775807) (h2 : Qs w A2 ls) (hl2 : ls.length ≤ 9223372036854775807) (hc2 : ls.length ≤ c2) :
    Calls Try.prog 33 #[.agg #[.slice A ns.length c, .slice A2 ls.length c2]] w fun e w' => e = .returned (.bool (validG ns ls)) ∧ Grows w w' := by
  have k1 := Blk.new w 40 #[.slice A ns.length c, .slice A2 ls.length c2]
  have hB := (Below.refl w.heap.size w).alloc (Nat.le_refl _) (Obj.cells #[.slice A ns.length c, .slice A2 ls.length c2] 40)
  go_enter Try.func33, Try.ntmps33
  go_upto_region 1 with fail
  generalize World.alloc w _ = w1 at *
  have x1 := k1.cell
  by_cases b1 : 64 < ns.length
  · go_wp2
    go_ret
    refine ⟨ret_bool ?_, hB⟩
    simp only [validG, Bool.false_eq, Bool.and_eq_false_iff, decide_eq_false_iff_not]
    omega
  by_cases b2 : 256 < ls.length
  · go_wp2
    go_ret
    refine ⟨ret_bool ?_, hB⟩
    simp only [validG, Bool.false_eq, Bool.and_eq_false_iff, decide_eq_false_iff_not]
    omega
  have n1 : ns.length ≤ 64 := by omega
  have n2 : ls.length ≤ 256 := by omega
  go_wp2_with fail
  clear x1
  go_loopw [20] (fun i wr => ∃ k : Nat, k ≤ ns.length ∧ i = .int .i64 k ∧ Hid ((List.range k).all (stepN ns) = true) ∧ Below w.heap.size w wr ∧ Blk wr w.heap.size 40 #[.slice A ns.length c, .slice A2 ls.length c2]) (fun i _ => ns.length - (intOf i).toNat)
  case atStart => exact ⟨0, by omega, rfl, Lib.hid rfl, hB, k1⟩
  case round =>
    clear hB k1
    obtain ⟨k, hk, rfl, HA, hB, k1⟩ := hrel
    by_cases hlt : k < ns.length
    · obtain ⟨ad, x, rfl, had, hx, q0, q1, q2, q3⟩ := (h.grows hB).elem hlt
      have HX := Lib.hid hx
      clear hx
      have k4 := Blk.new wr 59 #[.int .i64 x.a, .int .i64 x.b, .int .i64 x.c, .int .i64 x.d]
      have hq := (Below.refl wr.heap.size wr).alloc (Nat.le_refl _) (Obj.cells #[.int .i64 x.a, .int .i64 x.b, .int .i64 x.c, .int .i64 x.d] 59)
      go_upto_region 6 with fail
      clear q0 q1 q2 q3
      replace hB := below_grows hB (Nat.le_refl _) hq
      replace k1 := k1.grows hq
      clear hq
      generalize World.alloc wr _ = w4 at *
      generalize wr.heap.size = G4 at *
      cases hfn : fineN x
      · have HF := Lib.hid hfn
        clear hfn
        obtain ⟨S, HI, HO⟩ : ∃ S : Ran → (Nat → Value) → World → Prop, Hid (∀ L vs w', (Grows w4 w' ∧ KnS [some (.agg #[.int .i64 x.a, .int .i64 x.b, .int .i64 x.c, .int .i64 x.d]), some (.bool false), some (.bool true), some (.bool true), none, none, some (undef), none, none, none, none, none, none, none, none, none, none, none, some (.bool true)] L vs) → S L vs w') ∧ Hid (∀ L vs w', S L vs w' → (Grows w4 w' ∧ KnS [some (.agg #[.int .i64 x.a, .int .i64 x.b, .int .i64 x.c, .int .i64 x.d]), some (.bool false), some (.bool true), some (.bool true), none, none, some (undef), none, none, none, none, none, none, none, none, none, none, none, some (.bool true)] L vs)) := ⟨fun L vs w' => Grows w4 w' ∧ KnS [some (.agg #[.int .i64 x.a, .int .i64 x.b, .int .i64 x.c, .int .i64 x.d]), some (.bool false), some (.bool true), some (.bool true), none, none, some (undef), none, none, none, none, none, none, none, none, none, none, none, some (.bool true)] L vs, fun _ _ _ h => h, fun _ _ _ h => h⟩
        refine wp_region_genW S 89 (by kernel_rfl) (by kernel_rfl) rfl ?_ ?_
        · exact HI.out _ _ _ ⟨Grows.drew' _, kn_none _ _⟩
        refine gen_cons (A' := ?_) (fun vs L w1 hL hw1 => ?_) ?_ ?_
        rotate_left 1
        · obtain ⟨q0, q1⟩ := HO.out _ _ _ hw1
          refine gen_plain rfl ?_
          have x := (k4.grows q0).cell 
          go_simp
          exact gr_val (HI.out _ _ _ ⟨q0, kn_known q1 rfl⟩)
        · intro vs
          simp only [Act.put, List.setIfInBounds_toArray, List.set_cons_succ, List.set_cons_zero]
          rfl
        refine gen_cons (A' := ?_) (fun vs L w1 hL hw1 => ?_) ?_ ?_
        rotate_left 1
        · obtain ⟨q0, q1⟩ := HO.out _ _ _ hw1
          refine gen_plain rfl ?_
          have l0 : L 0 = true := hL.need 0 (by kernel_rfl)
          have e0 := q1 0 _ rfl l0
          simp only [e0]
          go_simp
          refine gr_call ?_
          refine (fits_is x false w1 HF.out).mono ?_
          rintro e w2 ⟨rfl, hg⟩
          exact ⟨_, rfl, HI.out _ _ _ ⟨below_grows q0 (Nat.le_refl _) hg, kn_known q1 rfl⟩⟩
        · intro vs
          simp only [Act.put, List.setIfInBounds_toArray, List.set_cons_succ, List.set_cons_zero]
          rfl
        refine gen_cons (A' := ?_) (fun vs L w1 hL hw1 => ?_) ?_ ?_
        rotate_left 1
        · obtain ⟨q0, q1⟩ := HO.out _ _ _ hw1
          refine gen_plain rfl ?_
          have l1 : L 1 = true := hL.need 1 (by kernel_rfl)
          have e1 := q1 1 _ rfl l1
          simp only [e1]
          go_simp
          exact gr_val (HI.out _ _ _ ⟨q0, kn_known q1 rfl⟩)
        · intro vs
          simp only [Act.put, List.setIfInBounds_toArray, List.set_cons_succ, List.set_cons_zero]
          rfl
        refine gen_cons (A' := ?_) (fun vs L w1 hL hw1 => ?_) ?_ ?_
        rotate_left 1
        · obtain ⟨q0, q1⟩ := HO.out _ _ _ hw1
          refine gen_plain rfl ?_
          have l2 : L 2 = true := hL.need 2 (by kernel_rfl)
          have e2 := q1 2 _ rfl l2
          simp only [e2]
          go_simp
          exact gr_val (HI.out _ _ _ ⟨q0, kn_known q1 rfl⟩)
        · intro vs
          simp only [Act.put, List.setIfInBounds_toArray, List.set_cons_succ, List.set_cons_zero]
          rfl
        refine gen_cons (A' := ?_) (fun vs L w1 hL hw1 => ?_) ?_ ?_
        rotate_left 1
        · obtain ⟨q0, q1⟩ := HO.out _ _ _ hw1
          have l3 : L 3 = true := hL.need 3 (by kernel_rfl)
          have e3 := q1 3 _ rfl l3
          refine gen_no ?_ ?_
          · simp only [e3]
            rfl
          · exact HI.out _ _ _ ⟨q0, kn_free q1 rfl⟩
        · intro vs
          simp only [Act.put, List.setIfInBounds_toArray, List.set_cons_succ, List.set_cons_zero]
          rfl
        refine gen_cons (A' := ?_) (fun vs L w1 hL hw1 => ?_) ?_ ?_
        rotate_left 1
        · obtain ⟨q0, q1⟩ := HO.out _ _ _ hw1
          have l3 : L 3 = true := hL.need 3 (by kernel_rfl)
          have e3 := q1 3 _ rfl l3
          refine gen_no ?_ ?_
          · simp only [e3]
            rfl
          · exact HI.out _ _ _ ⟨q0, kn_free q1 rfl⟩
        · intro vs
          simp only [Act.put, List.setIfInBounds_toArray, List.set_cons_succ, List.set_cons_zero]
          rfl
        refine gen_cons (A' := ?_) (fun vs L w1 hL hw1 => ?_) ?_ ?_
        rotate_left 1
        · obtain ⟨q0, q1⟩ := HO.out _ _ _ hw1
          have l3 : L 3 = true := hL.need 3 (by kernel_rfl)
          have e3 := q1 3 _ rfl l3
          refine gen_no ?_ ?_
          · simp only [e3]
            rfl
          · exact HI.out _ _ _ ⟨q0, kn_known q1 rfl⟩
        · intro vs
          simp only [Act.put, List.setIfInBounds_toArray, List.set_cons_succ, List.set_cons_zero]
          rfl
        refine gen_cons (A' := ?_) (fun vs L w1 hL hw1 => ?_) ?_ ?_
        rotate_left 1
        · obtain ⟨q0, q1⟩ := HO.out _ _ _ hw1
          have l6 : L 6 = true := hL.need 6 (by kernel_rfl)
          have e6 := q1 6 _ rfl l6
          refine gen_no ?_ ?_
          · simp only [e6]
            rfl
          · exact HI.out _ _ _ ⟨q0, kn_free q1 rfl⟩
        · intro vs
          simp only [Act.put, List.setIfInBounds_toArray, List.set_cons_succ, List.set_cons_zero]
          rfl
        refine gen_cons (A' := ?_) (fun vs L w1 hL hw1 => ?_) ?_ ?_
        rotate_left 1
        · obtain ⟨q0, q1⟩ := HO.out _ _ _ hw1
          have l6 : L 6 = true := hL.need 6 (by kernel_rfl)
          have e6 := q1 6 _ rfl l6
          refine gen_no ?_ ?_
          · simp only [e6]
            rfl
          · exact HI.out _ _ _ ⟨q0, kn_free q1 rfl⟩
        · intro vs
          simp only [Act.put, List.setIfInBounds_toArray, List.set_cons_succ, List.set_cons_zero]
          rfl
        refine gen_cons (A' := ?_) (fun vs L w1 hL hw1 => ?_) ?_ ?_
        rotate_left 1
        · obtain ⟨q0, q1⟩ := HO.out _ _ _ hw1
          have l6 : L 6 = true := hL.need 6 (by kernel_rfl)
          have e6 := q1 6 _ rfl l6
          refine gen_no ?_ ?_
          · simp only [e6]
            rfl
          · exact HI.out _ _ _ ⟨q0, kn_free q1 rfl⟩
        · intro vs
          simp only [Act.put, List.setIfInBounds_toArray, List.set_cons_succ, List.set_cons_zero]
          rfl
        refine gen_cons (A' := ?_) (fun vs L w1 hL hw1 => ?_) ?_ ?_
        rotate_left 1
        · obtain ⟨q0, q1⟩ := HO.out _ _ _ hw1
          have l6 : L 6 = true := hL.need 6 (by kernel_rfl)
          have e6 := q1 6 _ rfl l6
          refine gen_no ?_ ?_
          · simp only [e6]
            rfl
          · exact HI.out _ _ _ ⟨q0, kn_free q1 rfl⟩
        · intro vs
          simp only [Act.put, List.setIfInBounds_toArray, List.set_cons_succ, List.set_cons_zero]
          rfl
        refine gen_cons (A' := ?_) (fun vs L w1 hL hw1 => ?_) ?_ ?_
        rotate_left 1
        · obtain ⟨q0, q1⟩ := HO.out _ _ _ hw1
          have l6 : L 6 = true := hL.need 6 (by kernel_rfl)
          have e6 := q1 6 _ rfl l6
          refine gen_no ?_ ?_
          · simp only [e6]
            rfl
          · exact HI.out _ _ _ ⟨q0, kn_free q1 rfl⟩
        · intro vs
          simp only [Act.put, List.setIfInBounds_toArray, List.set_cons_succ, List.set_cons_zero]
          rfl
        refine gen_cons (A' := ?_) (fun vs L w1 hL hw1 => ?_) ?_ ?_
        rotate_left 1
        · obtain ⟨q0, q1⟩ := HO.out _ _ _ hw1
          have l6 : L 6 = true := hL.need 6 (by kernel_rfl)
          have e6 := q1 6 _ rfl l6
          refine gen_no ?_ ?_
          · simp only [e6]
            rfl
          · exact HI.out _ _ _ ⟨q0, kn_free q1 rfl⟩
        · intro vs
          simp only [Act.put, List.setIfInBounds_toArray, List.set_cons_succ, List.set_cons_zero]
          rfl
        refine gen_cons (A' := ?_) (fun vs L w1 hL hw1 => ?_) ?_ ?_
        rotate_left 1
        · obtain ⟨q0, q1⟩ := HO.out _ _ _ hw1
          have l6 : L 6 = true := hL.need 6 (by kernel_rfl)
          have e6 := q1 6 _ rfl l6
          refine gen_no ?_ ?_
          · simp only [e6]
            rfl
          · exact HI.out _ _ _ ⟨q0, kn_free q1 rfl⟩
        · intro vs
          simp only [Act.put, List.setIfInBounds_toArray, List.set_cons_succ, List.set_cons_zero]
          rfl
        refine gen_cons (A' := ?_) (fun vs L w1 hL hw1 => ?_) ?_ ?_
        rotate_left 1
        · obtain ⟨q0, q1⟩ := HO.out _ _ _ hw1
          have l6 : L 6 = true := hL.need 6 (by kernel_rfl)
          have e6 := q1 6 _ rfl l6
          refine gen_no ?_ ?_
          · simp only [e6]
            rfl
          · exact HI.out _ _ _ ⟨q0, kn_free q1 rfl⟩
        · intro vs
          simp only [Act.put, List.setIfInBounds_toArray, List.set_cons_succ, List.set_cons_zero]
          rfl
        refine gen_cons (A' := ?_) (fun vs L w1 hL hw1 => ?_) ?_ ?_
        rotate_left 1
        · obtain ⟨q0, q1⟩ := HO.out _ _ _ hw1
          have l6 : L 6 = true := hL.need 6 (by kernel_rfl)
          have e6 := q1 6 _ rfl l6
          refine gen_no ?_ ?_
          · simp only [e6]
            rfl
          · exact HI.out _ _ _ ⟨q0, kn_free q1 rfl⟩
        · intro vs
          simp only [Act.put, List.setIfInBounds_toArray, List.set_cons_succ, List.set_cons_zero]
          rfl
        refine gen_cons (A' := ?_) (fun vs L w1 hL hw1 => ?_) ?_ ?_
        rotate_left 1
        · obtain ⟨q0, q1⟩ := HO.out _ _ _ hw1
          have l6 : L 6 = true := hL.need 6 (by kernel_rfl)
          have e6 := q1 6 _ rfl l6
          refine gen_no ?_ ?_
          · simp only [e6]
            rfl
          · exact HI.out _ _ _ ⟨q0, kn_free q1 rfl⟩
        · intro vs
          simp only [Act.put, List.setIfInBounds_toArray, List.set_cons_succ, List.set_cons_zero]
          rfl
        refine gen_cons (A' := ?_) (fun vs L w1 hL hw1 => ?_) ?_ ?_
        rotate_left 1
        · obtain ⟨q0, q1⟩ := HO.out _ _ _ hw1
          have l3 : L 3 = true := hL.need 3 (by kernel_rfl)
          have e3 := q1 3 _ rfl l3
          refine gen_no ?_ ?_
          · simp only [e3]
            rfl
          · exact HI.out _ _ _ ⟨q0, kn_free q1 rfl⟩
        · intro vs
          simp only [Act.put, List.setIfInBounds_toArray, List.set_cons_succ, List.set_cons_zero]
          rfl
        refine gen_cons (A' := ?_) (fun vs L w1 hL hw1 => ?_) ?_ ?_
        rotate_left 1
        · obtain ⟨q0, q1⟩ := HO.out _ _ _ hw1
          refine gen_plain rfl ?_
          have l3 : L 3 = true := hL.need 3 (by kernel_rfl)
          have e3 := q1 3 _ rfl l3
          simp only [e3]
          go_simp
          exact gr_val (HI.out _ _ _ ⟨q0, kn_known q1 rfl⟩)
        · intro vs
          simp only [Act.put, List.setIfInBounds_toArray, List.set_cons_succ, List.set_cons_zero]
          rfl
        refine gen_nil ?_
        intro vs L W6 hall hS
        obtain ⟨hq, q1⟩ := HO.out _ _ _ hS
        have eX18 := q1 18 _ rfl (hall 18 (by simp))
        clear hall hS HI HO q1
        simp only [eX18]
        go_wp2
        go_ret
        refine ⟨ret_bool ?_, below_grows hB (Nat.le_refl _) hq⟩
        exact (valid_no1 hlt (by rw [stepN_at HX.out, HF.out]; rfl)).symm
      · have HF := Lib.hid hfn
        clear hfn
        by_cases hk0 : k = 0
        · have hk9 : decide (0 < k) = false := by simp [hk0]
          have HK0 := Lib.hid hk0
          clear hk0
          have HA2 := Lib.hid (range_all_up HA.out (by rw [stepN_at HX.out, HF.out, HK0.out]; rfl))
          obtain ⟨S, HI, HO⟩ : ∃ S : Ran → (Nat → Value) → World → Prop, Hid (∀ L vs w', (Grows w4 w' ∧ KnS [some (.agg #[.int .i64 x.a, .int .i64 x.b, .int .i64 x.c, .int .i64 x.d]), some (.bool true), some (.bool false), some (.bool false), some (.int .i64 (k : Int)), some (.bool false), some (.bool false), none, none, none, none, none, none, none, none, none, none, some (.bool false), some (.bool false)] L vs) → S L vs w') ∧ Hid (∀ L vs w', S L vs w' → (Grows w4 w' ∧ KnS [some (.agg #[.int .i64 x.a, .int .i64 x.b, .int .i64 x.c, .int .i64 x.d]), some (.bool true), some (.bool false), some (.bool false), some (.int .i64 (k : Int)), some (.bool false), some (.bool false), none, none, none, none, none, none, none, none, none, none, some (.bool false), some (.bool false)] L vs)) := ⟨fun L vs w' => Grows w4 w' ∧ KnS [some (.agg #[.int .i64 x.a, .int .i64 x.b, .int .i64 x.c, .int .i64 x.d]), some (.bool true), some (.bool false), some (.bool false), some (.int .i64 (k : Int)), some (.bool false), some (.bool false), none, none, none, none, none, none, none, none, none, none, some (.bool false), some (.bool false)] L vs, fun _ _ _ h => h, fun _ _ _ h => h⟩
          refine wp_region_genW S 89 (by kernel_rfl) (by kernel_rfl) rfl ?_ ?_
          · exact HI.out _ _ _ ⟨Grows.drew' _, kn_none _ _⟩
          refine gen_cons (A' := ?_) (fun vs L w1 hL hw1 => ?_) ?_ ?_
          rotate_left 1
          · obtain ⟨q0, q1⟩ := HO.out _ _ _ hw1
            refine gen_plain rfl ?_
            have x := (k4.grows q0).cell 
            go_simp
            exact gr_val (HI.out _ _ _ ⟨q0, kn_known q1 rfl⟩)
          · intro vs
            simp only [Act.put, List.setIfInBounds_toArray, List.set_cons_succ, List.set_cons_zero]
            rfl
          refine gen_cons (A' := ?_) (fun vs L w1 hL hw1 => ?_) ?_ ?_
          rotate_left 1
          · obtain ⟨q0, q1⟩ := HO.out _ _ _ hw1
            refine gen_plain rfl ?_
            have l0 : L 0 = true := hL.need 0 (by kernel_rfl)
            have e0 := q1 0 _ rfl l0
            simp only [e0]
            go_simp
            refine gr_call ?_
            refine (fits_is x true w1 HF.out).mono ?_
            rintro e w2 ⟨rfl, hg⟩
            exact ⟨_, rfl, HI.out _ _ _ ⟨below_grows q0 (Nat.le_refl _) hg, kn_known q1 rfl⟩⟩
          · intro vs
            simp only [Act.put, List.setIfInBounds_toArray, List.set_cons_succ, List.set_cons_zero]
            rfl
          refine gen_cons (A' := ?_) (fun vs L w1 hL hw1 => ?_) ?_ ?_
          rotate_left 1
          · obtain ⟨q0, q1⟩ := HO.out _ _ _ hw1
            refine gen_plain rfl ?_
            have l1 : L 1 = true := hL.need 1 (by kernel_rfl)
            have e1 := q1 1 _ rfl l1
            simp only [e1]
            go_simp
            exact gr_val (HI.out _ _ _ ⟨q0, kn_known q1 rfl⟩)
          · intro vs
            simp only [Act.put, List.setIfInBounds_toArray, List.set_cons_succ, List.set_cons_zero]
            rfl
          refine gen_cons (A' := ?_) (fun vs L w1 hL hw1 => ?_) ?_ ?_
          rotate_left 1
          · obtain ⟨q0, q1⟩ := HO.out _ _ _ hw1
            refine gen_plain rfl ?_
            have l2 : L 2 = true := hL.need 2 (by kernel_rfl)
            have e2 := q1 2 _ rfl l2
            simp only [e2]
            go_simp
            exact gr_val (HI.out _ _ _ ⟨q0, kn_known q1 rfl⟩)
          · intro vs
            simp only [Act.put, List.setIfInBounds_toArray, List.set_cons_succ, List.set_cons_zero]
            rfl
          refine gen_cons (A' := ?_) (fun vs L w1 hL hw1 => ?_) ?_ ?_
          rotate_left 1
          · obtain ⟨q0, q1⟩ := HO.out _ _ _ hw1
            have l3 : L 3 = true := hL.need 3 (by kernel_rfl)
            have e3 := q1 3 _ rfl l3
            refine gen_yes ?_ ?_
            · simp only [e3]
              rfl
            go_simp
            exact gr_val (HI.out _ _ _ ⟨q0, kn_known q1 rfl⟩)
          · intro vs
            simp only [Act.put, List.setIfInBounds_toArray, List.set_cons_succ, List.set_cons_zero]
            rfl
          refine gen_cons (A' := ?_) (fun vs L w1 hL hw1 => ?_) ?_ ?_
          rotate_left 1
          · obtain ⟨q0, q1⟩ := HO.out _ _ _ hw1
            have l3 : L 3 = true := hL.need 3 (by kernel_rfl)
            have e3 := q1 3 _ rfl l3
            refine gen_yes ?_ ?_
            · simp only [e3]
              rfl
            have l4 : L 4 = true := hL.need 4 (by kernel_rfl)
            have e4 := q1 4 _ rfl l4
            simp only [e4]
            go_simp
            exact gr_val (HI.out _ _ _ ⟨q0, kn_known q1 rfl⟩)
          · intro vs
            simp only [Act.put, List.setIfInBounds_toArray, List.set_cons_succ, List.set_cons_zero]
            rfl
          refine gen_cons (A' := ?_) (fun vs L w1 hL hw1 => ?_) ?_ ?_
          rotate_left 1
          · obtain ⟨q0, q1⟩ := HO.out _ _ _ hw1
            have l3 : L 3 = true := hL.need 3 (by kernel_rfl)
            have e3 := q1 3 _ rfl l3
            refine gen_yes ?_ ?_
            · simp only [e3]
              rfl
            have l5 : L 5 = true := hL.need 5 (by kernel_rfl)
            have e5 := q1 5 _ rfl l5
            simp only [e5]
            go_simp
            exact gr_val (HI.out _ _ _ ⟨q0, kn_known q1 rfl⟩)
          · intro vs
            simp only [Act.put, List.setIfInBounds_toArray, List.set_cons_succ, List.set_cons_zero]
            rfl
          refine gen_cons (A' := ?_) (fun vs L w1 hL hw1 => ?_) ?_ ?_
          rotate_left 1
          · obtain ⟨q0, q1⟩ := HO.out _ _ _ hw1
            have l6 : L 6 = true := hL.need 6 (by kernel_rfl)
            have e6 := q1 6 _ rfl l6
            refine gen_no ?_ ?_
            · simp only [e6]
              rfl
            · exact HI.out _ _ _ ⟨q0, kn_free q1 rfl⟩
          · intro vs
            simp only [Act.put, List.setIfInBounds_toArray, List.set_cons_succ, List.set_cons_zero]
            rfl
          refine gen_cons (A' := ?_) (fun vs L w1 hL hw1 => ?_) ?_ ?_
          rotate_left 1
          · obtain ⟨q0, q1⟩ := HO.out _ _ _ hw1
            have l6 : L 6 = true := hL.need 6 (by kernel_rfl)
            have e6 := q1 6 _ rfl l6
            refine gen_no ?_ ?_
            · simp only [e6]
              rfl
            · exact HI.out _ _ _ ⟨q0, kn_free q1 rfl⟩
          · intro vs
            simp only [Act.put, List.setIfInBounds_toArray, List.set_cons_succ, List.set_cons_zero]
            rfl
          refine gen_cons (A' := ?_) (fun vs L w1 hL hw1 => ?_) ?_ ?_
          rotate_left 1
          · obtain ⟨q0, q1⟩ := HO.out _ _ _ hw1
            have l6 : L 6 = true := hL.need 6 (by kernel_rfl)
            have e6 := q1 6 _ rfl l6
            refine gen_no ?_ ?_
            · simp only [e6]
              rfl
            · exact HI.out _ _ _ ⟨q0, kn_free q1 rfl⟩
          · intro vs
            simp only [Act.put, List.setIfInBounds_toArray, List.set_cons_succ, List.set_cons_zero]
            rfl
          refine gen_cons (A' := ?_) (fun vs L w1 hL hw1 => ?_) ?_ ?_
          rotate_left 1
          · obtain ⟨q0, q1⟩ := HO.out _ _ _ hw1
            have l6 : L 6 = true := hL.need 6 (by kernel_rfl)
            have e6 := q1 6 _ rfl l6
            refine gen_no ?_ ?_
            · simp only [e6]
              rfl
            · exact HI.out _ _ _ ⟨q0, kn_free q1 rfl⟩
          · intro vs
            simp only [Act.put, List.setIfInBounds_toArray, List.set_cons_succ, List.set_cons_zero]
            rfl
          refine gen_cons (A' := ?_) (fun vs L w1 hL hw1 => ?_) ?_ ?_
          rotate_left 1
          · obtain ⟨q0, q1⟩ := HO.out _ _ _ hw1
            have l6 : L 6 = true := hL.need 6 (by kernel_rfl)
            have e6 := q1 6 _ rfl l6
            refine gen_no ?_ ?_
            · simp only [e6]
              rfl
            · exact HI.out _ _ _ ⟨q0, kn_free q1 rfl⟩
          · intro vs
            simp only [Act.put, List.setIfInBounds_toArray, List.set_cons_succ, List.set_cons_zero]
            rfl
          refine gen_cons (A' := ?_) (fun vs L w1 hL hw1 => ?_) ?_ ?_
          rotate_left 1
          · obtain ⟨q0, q1⟩ := HO.out _ _ _ hw1
            have l6 : L 6 = true := hL.need 6 (by kernel_rfl)
            have e6 := q1 6 _ rfl l6
            refine gen_no ?_ ?_
            · simp only [e6]
              rfl
            · exact HI.out _ _ _ ⟨q0, kn_free q1 rfl⟩
          · intro vs
            simp only [Act.put, List.setIfInBounds_toArray, List.set_cons_succ, List.set_cons_zero]
            rfl
          refine gen_cons (A' := ?_) (fun vs L w1 hL hw1 => ?_) ?_ ?_
          rotate_left 1
          · obtain ⟨q0, q1⟩ := HO.out _ _ _ hw1
            have l6 : L 6 = true := hL.need 6 (by kernel_rfl)
            have e6 := q1 6 _ rfl l6
            refine gen_no ?_ ?_
            · simp only [e6]
              rfl
            · exact HI.out _ _ _ ⟨q0, kn_free q1 rfl⟩
          · intro vs
            simp only [Act.put, List.setIfInBounds_toArray, List.set_cons_succ, List.set_cons_zero]
            rfl
          refine gen_cons (A' := ?_) (fun vs L w1 hL hw1 => ?_) ?_ ?_
          rotate_left 1
          · obtain ⟨q0, q1⟩ := HO.out _ _ _ hw1
            have l6 : L 6 = true := hL.need 6 (by kernel_rfl)
            have e6 := q1 6 _ rfl l6
            refine gen_no ?_ ?_
            · simp only [e6]
              rfl
            · exact HI.out _ _ _ ⟨q0, kn_free q1 rfl⟩
          · intro vs
            simp only [Act.put, List.setIfInBounds_toArray, List.set_cons_succ, List.set_cons_zero]
            rfl
          refine gen_cons (A' := ?_) (fun vs L w1 hL hw1 => ?_) ?_ ?_
          rotate_left 1
          · obtain ⟨q0, q1⟩ := HO.out _ _ _ hw1
            have l6 : L 6 = true := hL.need 6 (by kernel_rfl)
            have e6 := q1 6 _ rfl l6
            refine gen_no ?_ ?_
            · simp only [e6]
              rfl
            · exact HI.out _ _ _ ⟨q0, kn_free q1 rfl⟩
          · intro vs
            simp only [Act.put, List.setIfInBounds_toArray, List.set_cons_succ, List.set_cons_zero]
            rfl
          refine gen_cons (A' := ?_) (fun vs L w1 hL hw1 => ?_) ?_ ?_
          rotate_left 1
          · obtain ⟨q0, q1⟩ := HO.out _ _ _ hw1
            have l6 : L 6 = true := hL.need 6 (by kernel_rfl)
            have e6 := q1 6 _ rfl l6
            refine gen_no ?_ ?_
            · simp only [e6]
              rfl
            · exact HI.out _ _ _ ⟨q0, kn_free q1 rfl⟩
          · intro vs
            simp only [Act.put, List.setIfInBounds_toArray, List.set_cons_succ, List.set_cons_zero]
            rfl
          refine gen_cons (A' := ?_) (fun vs L w1 hL hw1 => ?_) ?_ ?_
          rotate_left 1
          · obtain ⟨q0, q1⟩ := HO.out _ _ _ hw1
            have l3 : L 3 = true := hL.need 3 (by kernel_rfl)
            have e3 := q1 3 _ rfl l3
            refine gen_yes ?_ ?_
            · simp only [e3]
              rfl
            have l6 : L 6 = true := hL.need 6 (by kernel_rfl)
            have e6 := q1 6 _ rfl l6
            simp only [e6]
            go_simp
            exact gr_val (HI.out _ _ _ ⟨q0, kn_known q1 rfl⟩)
          · intro vs
            simp only [Act.put, List.setIfInBounds_toArray, List.set_cons_succ, List.set_cons_zero]
            rfl
          refine gen_cons (A' := ?_) (fun vs L w1 hL hw1 => ?_) ?_ ?_
          rotate_left 1
          · obtain ⟨q0, q1⟩ := HO.out _ _ _ hw1
            refine gen_plain rfl ?_
            have l3 : L 3 = true := hL.need 3 (by kernel_rfl)
            have e3 := q1 3 _ rfl l3
            have l17 : L 17 = true := hL.need 17 (by kernel_rfl)
            have e17 := q1 17 _ rfl l17
            simp only [e3, e17]
            go_simp
            exact gr_val (HI.out _ _ _ ⟨q0, kn_known q1 rfl⟩)
          · intro vs
            simp only [Act.put, List.setIfInBounds_toArray, List.set_cons_succ, List.set_cons_zero]
            rfl
          refine gen_nil ?_
          intro vs L W6 hall hS
          obtain ⟨hq, q1⟩ := HO.out _ _ _ hS
          have eX18 := q1 18 _ rfl (hall 18 (by simp))
          clear hall hS HI HO q1
          simp only [eX18]
          go_wp2
          go_roundw
          case rel => exact ⟨k + 1, by omega, by go_num, HA2, below_grows hB (Nat.le_refl _) hq, k1.grows hq⟩
          case measure => simp [intOf]; omega
        · obtain ⟨kp, rfl⟩ : ∃ kp, k = kp + 1 := ⟨k - 1, by omega⟩
          have hkl : kp < ns.length := by omega
          have hw : Hid (IntKind.i64.wrap (kp : Int) = (kp : Int)) := Lib.hid (IntWalk.i64_in _ (by omega))
          have hkp : Hid ((((kp + 1 : Nat) : Int)) - 1 = (kp : Int)) := Lib.hid (by omega)
          obtain ⟨ad', p, e, -, hp0, hp⟩ := h.addr (k := kp) (by omega)
          injection e with e
          subst e
          have HP := Lib.hid hp0
          clear hp0
          by_cases hge : x.a ≤ p.a
          · have HF2 : Hid (stepN ns (kp + 1) = false) := Lib.hid (by rw [stepN_at HX.out, show kp + 1 - 1 = kp from rfl, getD_at HP.out]; simp; omega)
            obtain ⟨S, HI, HO⟩ : ∃ S : Ran → (Nat → Value) → World → Prop, Hid (∀ L vs w', (Grows w4 w' ∧ KnS [some (.agg #[.int .i64 x.a, .int .i64 x.b, .int .i64 x.c, .int .i64 x.d]), some (.bool true), some (.bool false), some (.bool false), some (.int .i64 ((kp + 1 : Nat) : Int)), some (.bool true), some (.bool true), some (.pointer (some ⟨w.heap.size, 0, none⟩)), some (.slice (some ad) ns.length c), some (.int .i64 ((kp + 1 : Nat) : Int)), some (.int .i64 (kp : Int)), some (.pointer (some (ad.add (kp * 4)))), some (.pointer (some (ad.add (kp * 4)))), some (.int .i64 p.a), some (.pointer (some ⟨G4, 0, none⟩)), some (.int .i64 x.a), some (.bool true), some (.bool true), some (.bool true)] L vs) → S L vs w') ∧ Hid (∀ L vs w', S L vs w' → (Grows w4 w' ∧ KnS [some (.agg #[.int .i64 x.a, .int .i64 x.b, .int .i64 x.c, .int .i64 x.d]), some (.bool true), some (.bool false), some (.bool false), some (.int .i64 ((kp + 1 : Nat) : Int)), some (.bool true), some (.bool true), some (.pointer (some ⟨w.heap.size, 0, none⟩)), some (.slice (some ad) ns.length c), some (.int .i64 ((kp + 1 : Nat) : Int)), some (.int .i64 (kp : Int)), some (.pointer (some (ad.add (kp * 4)))), some (.pointer (some (ad.add (kp * 4)))), some (.int .i64 p.a), some (.pointer (some ⟨G4, 0, none⟩)), some (.int .i64 x.a), some (.bool true), some (.bool true), some (.bool true)] L vs)) := ⟨fun L vs w' => Grows w4 w' ∧ KnS [some (.agg #[.int .i64 x.a, .int .i64 x.b, .int .i64 x.c, .int .i64 x.d]), some (.bool true), some (.bool false), some (.bool false), some (.int .i64 ((kp + 1 : Nat) : Int)), some (.bool true), some (.bool true), some (.pointer (some ⟨w.heap.size, 0, none⟩)), some (.slice (some ad) ns.length c), some (.int .i64 ((kp + 1 : Nat) : Int)), some (.int .i64 (kp : Int)), some (.pointer (some (ad.add (kp * 4)))), some (.pointer (some (ad.add (kp * 4)))), some (.int .i64 p.a), some (.pointer (some ⟨G4, 0, none⟩)), some (.int .i64 x.a), some (.bool true), some (.bool true), some (.bool true)] L vs, fun _ _ _ h => h, fun _ _ _ h => h⟩
            refine wp_region_genW S 89 (by kernel_rfl) (by kernel_rfl) rfl ?_ ?_
            · exact HI.out _ _ _ ⟨Grows.drew' _, kn_none _ _⟩
            refine gen_cons (A' := ?_) (fun vs L w1 hL hw1 => ?_) ?_ ?_
            rotate_left 1
            · obtain ⟨q0, q1⟩ := HO.out _ _ _ hw1
              refine gen_plain rfl ?_
              have x := (k4.grows q0).cell 
              go_simp
              exact gr_val (HI.out _ _ _ ⟨q0, kn_known q1 rfl⟩)
            · intro vs
              simp only [Act.put, List.setIfInBounds_toArray, List.set_cons_succ, List.set_cons_zero]
              rfl
            refine gen_cons (A' := ?_) (fun vs L w1 hL hw1 => ?_) ?_ ?_
            rotate_left 1
            · obtain ⟨q0, q1⟩ := HO.out _ _ _ hw1
              refine gen_plain rfl ?_
              have l0 : L 0 = true := hL.need 0 (by kernel_rfl)
              have e0 := q1 0 _ rfl l0
              simp only [e0]
              go_simp
              refine gr_call ?_
              refine (fits_is x true w1 HF.out).mono ?_
              rintro e w2 ⟨rfl, hg⟩
              exact ⟨_, rfl, HI.out _ _ _ ⟨below_grows q0 (Nat.le_refl _) hg, kn_known q1 rfl⟩⟩
            · intro vs
              simp only [Act.put, List.setIfInBounds_toArray, List.set_cons_succ, List.set_cons_zero]
              rfl
            refine gen_cons (A' := ?_) (fun vs L w1 hL hw1 => ?_) ?_ ?_
            rotate_left 1
            · obtain ⟨q0, q1⟩ := HO.out _ _ _ hw1
              refine gen_plain rfl ?_
              have l1 : L 1 = true := hL.need 1 (by kernel_rfl)
              have e1 := q1 1 _ rfl l1
              simp only [e1]
              go_simp
              exact gr_val (HI.out _ _ _ ⟨q0, kn_known q1 rfl⟩)
            · intro vs
              simp only [Act.put, List.setIfInBounds_toArray, List.set_cons_succ, List.set_cons_zero]
              rfl
            refine gen_cons (A' := ?_) (fun vs L w1 hL hw1 => ?_) ?_ ?_
            rotate_left 1
            · obtain ⟨q0, q1⟩ := HO.out _ _ _ hw1
              refine gen_plain rfl ?_
              have l2 : L 2 = true := hL.need 2 (by kernel_rfl)
              have e2 := q1 2 _ rfl l2
              simp only [e2]
              go_simp
              exact gr_val (HI.out _ _ _ ⟨q0, kn_known q1 rfl⟩)
            · intro vs
              simp only [Act.put, List.setIfInBounds_toArray, List.set_cons_succ, List.set_cons_zero]
              rfl
            refine gen_cons (A' := ?_) (fun vs L w1 hL hw1 => ?_) ?_ ?_
            rotate_left 1
            · obtain ⟨q0, q1⟩ := HO.out _ _ _ hw1
              have l3 : L 3 = true := hL.need 3 (by kernel_rfl)
              have e3 := q1 3 _ rfl l3
              refine gen_yes ?_ ?_
              · simp only [e3]
                rfl
              go_simp
              exact gr_val (HI.out _ _ _ ⟨q0, kn_known q1 rfl⟩)
            · intro vs
              simp only [Act.put, List.setIfInBounds_toArray, List.set_cons_succ, List.set_cons_zero]
              rfl
            refine gen_cons (A' := ?_) (fun vs L w1 hL hw1 => ?_) ?_ ?_
            rotate_left 1
            · obtain ⟨q0, q1⟩ := HO.out _ _ _ hw1
              have l3 : L 3 = true := hL.need 3 (by kernel_rfl)
              have e3 := q1 3 _ rfl l3
              refine gen_yes ?_ ?_
              · simp only [e3]
                rfl
              have l4 : L 4 = true := hL.need 4 (by kernel_rfl)
              have e4 := q1 4 _ rfl l4
              simp only [e4]
              go_simp
              exact gr_val (HI.out _ _ _ ⟨q0, kn_known q1 rfl⟩)
            · intro vs
              simp only [Act.put, List.setIfInBounds_toArray, List.set_cons_succ, List.set_cons_zero]
              rfl
            refine gen_cons (A' := ?_) (fun vs L w1 hL hw1 => ?_) ?_ ?_
            rotate_left 1
            · obtain ⟨q0, q1⟩ := HO.out _ _ _ hw1
              have l3 : L 3 = true := hL.need 3 (by kernel_rfl)
              have e3 := q1 3 _ rfl l3
              refine gen_yes ?_ ?_
              · simp only [e3]
                rfl
              have l5 : L 5 = true := hL.need 5 (by kernel_rfl)
              have e5 := q1 5 _ rfl l5
              simp only [e5]
              go_simp
              exact gr_val (HI.out _ _ _ ⟨q0, kn_known q1 rfl⟩)
            · intro vs
              simp only [Act.put, List.setIfInBounds_toArray, List.set_cons_succ, List.set_cons_zero]
              rfl
            refine gen_cons (A' := ?_) (fun vs L w1 hL hw1 => ?_) ?_ ?_
            rotate_left 1
            · obtain ⟨q0, q1⟩ := HO.out _ _ _ hw1
              have l6 : L 6 = true := hL.need 6 (by kernel_rfl)
              have e6 := q1 6 _ rfl l6
              refine gen_yes ?_ ?_
              · simp only [e6]
                rfl
              go_simp
              exact gr_val (HI.out _ _ _ ⟨q0, kn_known q1 rfl⟩)
            · intro vs
              simp only [Act.put, List.setIfInBounds_toArray, List.set_cons_succ, List.set_cons_zero]
              rfl
            refine gen_cons (A' := ?_) (fun vs L w1 hL hw1 => ?_) ?_ ?_
            rotate_left 1
            · obtain ⟨q0, q1⟩ := HO.out _ _ _ hw1
              have l6 : L 6 = true := hL.need 6 (by kernel_rfl)
              have e6 := q1 6 _ rfl l6
              refine gen_yes ?_ ?_
              · simp only [e6]
                rfl
              have l7 : L 7 = true := hL.need 7 (by kernel_rfl)
              have e7 := q1 7 _ rfl l7
              have x := (k1.grows q0).cell 0
              simp only [e7]
              go_simp
              exact gr_val (HI.out _ _ _ ⟨q0, kn_known q1 rfl⟩)
            · intro vs
              simp only [Act.put, List.setIfInBounds_toArray, List.set_cons_succ, List.set_cons_zero]
              rfl
            refine gen_cons (A' := ?_) (fun vs L w1 hL hw1 => ?_) ?_ ?_
            rotate_left 1
            · obtain ⟨q0, q1⟩ := HO.out _ _ _ hw1
              have l6 : L 6 = true := hL.need 6 (by kernel_rfl)
              have e6 := q1 6 _ rfl l6
              refine gen_yes ?_ ?_
              · simp only [e6]
                rfl
              go_simp
              exact gr_val (HI.out _ _ _ ⟨q0, kn_known q1 rfl⟩)
            · intro vs
              simp only [Act.put, List.setIfInBounds_toArray, List.set_cons_succ, List.set_cons_zero]
              rfl
            refine gen_cons (A' := ?_) (fun vs L w1 hL hw1 => ?_) ?_ ?_
            rotate_left 1
            · obtain ⟨q0, q1⟩ := HO.out _ _ _ hw1
              have l6 : L 6 = true := hL.need 6 (by kernel_rfl)
              have e6 := q1 6 _ rfl l6
              refine gen_yes ?_ ?_
              · simp only [e6]
                rfl
              have l9 : L 9 = true := hL.need 9 (by kernel_rfl)
              have e9 := q1 9 _ rfl l9
              simp only [e9]
              go_simp
              try simp only [hw.out]
              exact gr_val (HI.out _ _ _ ⟨q0, kn_known q1 rfl⟩)
            · intro vs
              simp only [Act.put, List.setIfInBounds_toArray, List.set_cons_succ, List.set_cons_zero]
              rfl
            refine gen_cons (A' := ?_) (fun vs L w1 hL hw1 => ?_) ?_ ?_
            rotate_left 1
            · obtain ⟨q0, q1⟩ := HO.out _ _ _ hw1
              have l6 : L 6 = true := hL.need 6 (by kernel_rfl)
              have e6 := q1 6 _ rfl l6
              refine gen_yes ?_ ?_
              · simp only [e6]
                rfl
              have l8 : L 8 = true := hL.need 8 (by kernel_rfl)
              have e8 := q1 8 _ rfl l8
              have l10 : L 10 = true := hL.need 10 (by kernel_rfl)
              have e10 := q1 10 _ rfl l10
              simp only [e8, e10]
              go_simp
              exact gr_val (HI.out _ _ _ ⟨q0, kn_known q1 rfl⟩)
            · intro vs
              simp only [Act.put, List.setIfInBounds_toArray, List.set_cons_succ, List.set_cons_zero]
              rfl
            refine gen_cons (A' := ?_) (fun vs L w1 hL hw1 => ?_) ?_ ?_
            rotate_left 1
            · obtain ⟨q0, q1⟩ := HO.out _ _ _ hw1
              have l6 : L 6 = true := hL.need 6 (by kernel_rfl)
              have e6 := q1 6 _ rfl l6
              refine gen_yes ?_ ?_
              · simp only [e6]
                rfl
              have l11 : L 11 = true := hL.need 11 (by kernel_rfl)
              have e11 := q1 11 _ rfl l11
              simp only [e11]
              go_simp
              exact gr_val (HI.out _ _ _ ⟨q0, kn_known q1 rfl⟩)
            · intro vs
              simp only [Act.put, List.setIfInBounds_toArray, List.set_cons_succ, List.set_cons_zero]
              rfl
            refine gen_cons (A' := ?_) (fun vs L w1 hL hw1 => ?_) ?_ ?_
            rotate_left 1
            · obtain ⟨q0, q1⟩ := HO.out _ _ _ hw1
              have l6 : L 6 = true := hL.need 6 (by kernel_rfl)
              have e6 := q1 6 _ rfl l6
              refine gen_yes ?_ ?_
              · simp only [e6]
                rfl
              have l12 : L 12 = true := hL.need 12 (by kernel_rfl)
              have e12 := q1 12 _ rfl l12
              simp only [e12]
              obtain ⟨y0, y1, y2, y3⟩ := hp _ (below_grows hB (Nat.le_refl _) q0)
              go_simp
              exact gr_val (HI.out _ _ _ ⟨q0, kn_known q1 rfl⟩)
            · intro vs
              simp only [Act.put, List.setIfInBounds_toArray, List.set_cons_succ, List.set_cons_zero]
              rfl
            refine gen_cons (A' := ?_) (fun vs L w1 hL hw1 => ?_) ?_ ?_
            rotate_left 1
            · obtain ⟨q0, q1⟩ := HO.out _ _ _ hw1
              have l6 : L 6 = true := hL.need 6 (by kernel_rfl)
              have e6 := q1 6 _ rfl l6
              refine gen_yes ?_ ?_
              · simp only [e6]
                rfl
              go_simp
              exact gr_val (HI.out _ _ _ ⟨q0, kn_known q1 rfl⟩)
            · intro vs
              simp only [Act.put, List.setIfInBounds_toArray, List.set_cons_succ, List.set_cons_zero]
              rfl
            refine gen_cons (A' := ?_) (fun vs L w1 hL hw1 => ?_) ?_ ?_
            rotate_left 1
            · obtain ⟨q0, q1⟩ := HO.out _ _ _ hw1
              have l6 : L 6 = true := hL.need 6 (by kernel_rfl)
              have e6 := q1 6 _ rfl l6
              refine gen_yes ?_ ?_
              · simp only [e6]
                rfl
              have l14 : L 14 = true := hL.need 14 (by kernel_rfl)
              have e14 := q1 14 _ rfl l14
              have x := (k4.grows q0).cell 0
              simp only [e14]
              go_simp
              exact gr_val (HI.out _ _ _ ⟨q0, kn_known q1 rfl⟩)
            · intro vs
              simp only [Act.put, List.setIfInBounds_toArray, List.set_cons_succ, List.set_cons_zero]
              rfl
            refine gen_cons (A' := ?_) (fun vs L w1 hL hw1 => ?_) ?_ ?_
            rotate_left 1
            · obtain ⟨q0, q1⟩ := HO.out _ _ _ hw1
              have l6 : L 6 = true := hL.need 6 (by kernel_rfl)
              have e6 := q1 6 _ rfl l6
              refine gen_yes ?_ ?_
              · simp only [e6]
                rfl
              have l13 : L 13 = true := hL.need 13 (by kernel_rfl)
              have e13 := q1 13 _ rfl l13
              have l15 : L 15 = true := hL.need 15 (by kernel_rfl)
              have e15 := q1 15 _ rfl l15
              simp only [e13, e15]
              go_simp
              exact gr_val (HI.out _ _ _ ⟨q0, kn_known q1 rfl⟩)
            · intro vs
              simp only [Act.put, List.setIfInBounds_toArray, List.set_cons_succ, List.set_cons_zero]
              rfl
            refine gen_cons (A' := ?_) (fun vs L w1 hL hw1 => ?_) ?_ ?_
            rotate_left 1
            · obtain ⟨q0, q1⟩ := HO.out _ _ _ hw1
              have l3 : L 3 = true := hL.need 3 (by kernel_rfl)
              have e3 := q1 3 _ rfl l3
              refine gen_yes ?_ ?_
              · simp only [e3]
                rfl
              have l6 : L 6 = true := hL.need 6 (by kernel_rfl)
              have e6 := q1 6 _ rfl l6
              have l16 : L 16 = true := hL.need 16 (by kernel_rfl)
              have e16 := q1 16 _ rfl l16
              simp only [e6, e16]
              go_simp
              exact gr_val (HI.out _ _ _ ⟨q0, kn_known q1 rfl⟩)
            · intro vs
              simp only [Act.put, List.setIfInBounds_toArray, List.set_cons_succ, List.set_cons_zero]
              rfl
            refine gen_cons (A' := ?_) (fun vs L w1 hL hw1 => ?_) ?_ ?_
            rotate_left 1
            · obtain ⟨q0, q1⟩ := HO.out _ _ _ hw1
              refine gen_plain rfl ?_
              have l3 : L 3 = true := hL.need 3 (by kernel_rfl)
              have e3 := q1 3 _ rfl l3
              have l17 : L 17 = true := hL.need 17 (by kernel_rfl)
              have e17 := q1 17 _ rfl l17
              simp only [e3, e17]
              go_simp
              exact gr_val (HI.out _ _ _ ⟨q0, kn_known q1 rfl⟩)
            · intro vs
              simp only [Act.put, List.setIfInBounds_toArray, List.set_cons_succ, List.set_cons_zero]
              rfl
            refine gen_nil ?_
            intro vs L W6 hall hS
            obtain ⟨hq, q1⟩ := HO.out _ _ _ hS
            have eX18 := q1 18 _ rfl (hall 18 (by simp))
            clear hall hS HI HO q1
            simp only [eX18]
            go_wp2
            go_ret
            refine ⟨ret_bool ?_, below_grows hB (Nat.le_refl _) hq⟩
            exact (valid_no1 hlt HF2.out).symm
          · have HA2 := Lib.hid (range_all_up HA.out (by rw [stepN_at HX.out, HF.out, show kp + 1 - 1 = kp from rfl, getD_at HP.out]; simp; omega))
            clear HP
            obtain ⟨S, HI, HO⟩ : ∃ S : Ran → (Nat → Value) → World → Prop, Hid (∀ L vs w', (Grows w4 w' ∧ KnS [some (.agg #[.int .i64 x.a, .int .i64 x.b, .int .i64 x.c, .int .i64 x.d]), some (.bool true), some (.bool false), some (.bool false), some (.int .i64 ((kp + 1 : Nat) : Int)), some (.bool true), some (.bool true), some (.pointer (some ⟨w.heap.size, 0, none⟩)), some (.slice (some ad) ns.length c), some (.int .i64 ((kp + 1 : Nat) : Int)), some (.int .i64 (kp : Int)), some (.pointer (some (ad.add (kp * 4)))), some (.pointer (some (ad.add (kp * 4)))), some (.int .i64 p.a), some (.pointer (some ⟨G4, 0, none⟩)), some (.int .i64 x.a), some (.bool false), some (.bool false), some (.bool false)] L vs) → S L vs w') ∧ Hid (∀ L vs w', S L vs w' → (Grows w4 w' ∧ KnS [some (.agg #[.int .i64 x.a, .int .i64 x.b, .int .i64 x.c, .int .i64 x.d]), some (.bool true), some (.bool false), some (.bool false), some (.int .i64 ((kp + 1 : Nat) : Int)), some (.bool true), some (.bool true), some (.pointer (some ⟨w.heap.size, 0, none⟩)), some (.slice (some ad) ns.length c), some (.int .i64 ((kp + 1 : Nat) : Int)), some (.int .i64 (kp : Int)), some (.pointer (some (ad.add (kp * 4)))), some (.pointer (some (ad.add (kp * 4)))), some (.int .i64 p.a), some (.pointer (some ⟨G4, 0, none⟩)), some (.int .i64 x.a), some (.bool false), some (.bool false), some (.bool false)] L vs)) := ⟨fun L vs w' => Grows w4 w' ∧ KnS [some (.agg #[.int .i64 x.a, .int .i64 x.b, .int .i64 x.c, .int .i64 x.d]), some (.bool true), some (.bool false), some (.bool false), some (.int .i64 ((kp + 1 : Nat) : Int)), some (.bool true), some (.bool true), some (.pointer (some ⟨w.heap.size, 0, none⟩)), some (.slice (some ad) ns.length c), some (.int .i64 ((kp + 1 : Nat) : Int)), some (.int .i64 (kp : Int)), some (.pointer (some (ad.add (kp * 4)))), some (.pointer (some (ad.add (kp * 4)))), some (.int .i64 p.a), some (.pointer (some ⟨G4, 0, none⟩)), some (.int .i64 x.a), some (.bool false), some (.bool false), some (.bool false)] L vs, fun _ _ _ h => h, fun _ _ _ h => h⟩
            refine wp_region_genW S 89 (by kernel_rfl) (by kernel_rfl) rfl ?_ ?_
            · exact HI.out _ _ _ ⟨Grows.drew' _, kn_none _ _⟩
            refine gen_cons (A' := ?_) (fun vs L w1 hL hw1 => ?_) ?_ ?_
            rotate_left 1
            · obtain ⟨q0, q1⟩ := HO.out _ _ _ hw1
              refine gen_plain rfl ?_
              have x := (k4.grows q0).cell 
              go_simp
              exact gr_val (HI.out _ _ _ ⟨q0, kn_known q1 rfl⟩)
            · intro vs
              simp only [Act.put, List.setIfInBounds_toArray, List.set_cons_succ, List.set_cons_zero]
              rfl
            refine gen_cons (A' := ?_) (fun vs L w1 hL hw1 => ?_) ?_ ?_
            rotate_left 1
            · obtain ⟨q0, q1⟩ := HO.out _ _ _ hw1
              refine gen_plain rfl ?_
              have l0 : L 0 = true := hL.need 0 (by kernel_rfl)
              have e0 := q1 0 _ rfl l0
              simp only [e0]
              go_simp
              refine gr_call ?_
              refine (fits_is x true w1 HF.out).mono ?_
              rintro e w2 ⟨rfl, hg⟩
              exact ⟨_, rfl, HI.out _ _ _ ⟨below_grows q0 (Nat.le_refl _) hg, kn_known q1 rfl⟩⟩
            · intro vs
              simp only [Act.put, List.setIfInBounds_toArray, List.set_cons_succ, List.set_cons_zero]
              rfl
            refine gen_cons (A' := ?_) (fun vs L w1 hL hw1 => ?_) ?_ ?_
            rotate_left 1
            · obtain ⟨q0, q1⟩ := HO.out _ _ _ hw1
              refine gen_plain rfl ?_
              have l1 : L 1 = true := hL.need 1 (by kernel_rfl)
              have e1 := q1 1 _ rfl l1
              simp only [e1]
              go_simp
              exact gr_val (HI.out _ _ _ ⟨q0, kn_known q1 rfl⟩)
            · intro vs
              simp only [Act.put, List.setIfInBounds_toArray, List.set_cons_succ, List.set_cons_zero]
              rfl
            refine gen_cons (A' := ?_) (fun vs L w1 hL hw1 => ?_) ?_ ?_
            rotate_left 1
            · obtain ⟨q0, q1⟩ := HO.out _ _ _ hw1
              refine gen_plain rfl ?_
              have l2 : L 2 = true := hL.need 2 (by kernel_rfl)
              have e2 := q1 2 _ rfl l2
              simp only [e2]
              go_simp
              exact gr_val (HI.out _ _ _ ⟨q0, kn_known q1 rfl⟩)
            · intro vs
              simp only [Act.put, List.setIfInBounds_toArray, List.set_cons_succ, List.set_cons_zero]
              rfl
            refine gen_cons (A' := ?_) (fun vs L w1 hL hw1 => ?_) ?_ ?_
            rotate_left 1
            · obtain ⟨q0, q1⟩ := HO.out _ _ _ hw1
              have l3 : L 3 = true := hL.need 3 (by kernel_rfl)
              have e3 := q1 3 _ rfl l3
              refine gen_yes ?_ ?_
              · simp only [e3]
                rfl
              go_simp
              exact gr_val (HI.out _ _ _ ⟨q0, kn_known q1 rfl⟩)
            · intro vs
              simp only [Act.put, List.setIfInBounds_toArray, List.set_cons_succ, List.set_cons_zero]
              rfl
            refine gen_cons (A' := ?_) (fun vs L w1 hL hw1 => ?_) ?_ ?_
            rotate_left 1
            · obtain ⟨q0, q1⟩ := HO.out _ _ _ hw1
              have l3 : L 3 = true := hL.need 3 (by kernel_rfl)
              have e3 := q1 3 _ rfl l3
              refine gen_yes ?_ ?_
              · simp only [e3]
                rfl
              have l4 : L 4 = true := hL.need 4 (by kernel_rfl)
              have e4 := q1 4 _ rfl l4
              simp only [e4]
              go_simp
              exact gr_val (HI.out _ _ _ ⟨q0, kn_known q1 rfl⟩)
            · intro vs
              simp only [Act.put, List.setIfInBounds_toArray, List.set_cons_succ, List.set_cons_zero]
              rfl
            refine gen_cons (A' := ?_) (fun vs L w1 hL hw1 => ?_) ?_ ?_
            rotate_left 1
            · obtain ⟨q0, q1⟩ := HO.out _ _ _ hw1
              have l3 : L 3 = true := hL.need 3 (by kernel_rfl)
              have e3 := q1 3 _ rfl l3
              refine gen_yes ?_ ?_
              · simp only [e3]
                rfl
              have l5 : L 5 = true := hL.need 5 (by kernel_rfl)
              have e5 := q1 5 _ rfl l5
              simp only [e5]
              go_simp
              exact gr_val (HI.out _ _ _ ⟨q0, kn_known q1 rfl⟩)
            · intro vs
              simp only [Act.put, List.setIfInBounds_toArray, List.set_cons_succ, List.set_cons_zero]
              rfl
            refine gen_cons (A' := ?_) (fun vs L w1 hL hw1 => ?_) ?_ ?_
            rotate_left 1
            · obtain ⟨q0, q1⟩ := HO.out _ _ _ hw1
              have l6 : L 6 = true := hL.need 6 (by kernel_rfl)
              have e6 := q1 6 _ rfl l6
              refine gen_yes ?_ ?_
              · simp only [e6]
                rfl
              go_simp
              exact gr_val (HI.out _ _ _ ⟨q0, kn_known q1 rfl⟩)
            · intro vs
              simp only [Act.put, List.setIfInBounds_toArray, List.set_cons_succ, List.set_cons_zero]
              rfl
            refine gen_cons (A' := ?_) (fun vs L w1 hL hw1 => ?_) ?_ ?_
            rotate_left 1
            · obtain ⟨q0, q1⟩ := HO.out _ _ _ hw1
              have l6 : L 6 = true := hL.need 6 (by kernel_rfl)
              have e6 := q1 6 _ rfl l6
              refine gen_yes ?_ ?_
              · simp only [e6]
                rfl
              have l7 : L 7 = true := hL.need 7 (by kernel_rfl)
              have e7 := q1 7 _ rfl l7
              have x := (k1.grows q0).cell 0
              simp only [e7]
              go_simp
              exact gr_val (HI.out _ _ _ ⟨q0, kn_known q1 rfl⟩)
            · intro vs
              simp only [Act.put, List.setIfInBounds_toArray, List.set_cons_succ, List.set_cons_zero]
              rfl
            refine gen_cons (A' := ?_) (fun vs L w1 hL hw1 => ?_) ?_ ?_
            rotate_left 1
            · obtain ⟨q0, q1⟩ := HO.out _ _ _ hw1
              have l6 : L 6 = true := hL.need 6 (by kernel_rfl)
              have e6 := q1 6 _ rfl l6
              refine gen_yes ?_ ?_
              · simp only [e6]
                rfl
              go_simp
              exact gr_val (HI.out _ _ _ ⟨q0, kn_known q1 rfl⟩)
            · intro vs
              simp only [Act.put, List.setIfInBounds_toArray, List.set_cons_succ, List.set_cons_zero]
              rfl
            refine gen_cons (A' := ?_) (fun vs L w1 hL hw1 => ?_) ?_ ?_
            rotate_left 1
            · obtain ⟨q0, q1⟩ := HO.out _ _ _ hw1
              have l6 : L 6 = true := hL.need 6 (by kernel_rfl)
              have e6 := q1 6 _ rfl l6
              refine gen_yes ?_ ?_
              · simp only [e6]
                rfl
              have l9 : L 9 = true := hL.need 9 (by kernel_rfl)
              have e9 := q1 9 _ rfl l9
              simp only [e9]
              go_simp
              try simp only [hw.out]
              exact gr_val (HI.out _ _ _ ⟨q0, kn_known q1 rfl⟩)
            · intro vs
              simp only [Act.put, List.setIfInBounds_toArray, List.set_cons_succ, List.set_cons_zero]
              rfl
            refine gen_cons (A' := ?_) (fun vs L w1 hL hw1 => ?_) ?_ ?_
            rotate_left 1
            · obtain ⟨q0, q1⟩ := HO.out _ _ _ hw1
              have l6 : L 6 = true := hL.need 6 (by kernel_rfl)
              have e6 := q1 6 _ rfl l6
              refine gen_yes ?_ ?_
              · simp only [e6]
                rfl
              have l8 : L 8 = true := hL.need 8 (by kernel_rfl)
              have e8 := q1 8 _ rfl l8
              have l10 : L 10 = true := hL.need 10 (by kernel_rfl)
              have e10 := q1 10 _ rfl l10
              simp only [e8, e10]
              go_simp
              exact gr_val (HI.out _ _ _ ⟨q0, kn_known q1 rfl⟩)
            · intro vs
              simp only [Act.put, List.setIfInBounds_toArray, List.set_cons_succ, List.set_cons_zero]
              rfl
            refine gen_cons (A' := ?_) (fun vs L w1 hL hw1 => ?_) ?_ ?_
            rotate_left 1
            · obtain ⟨q0, q1⟩ := HO.out _ _ _ hw1
              have l6 : L 6 = true := hL.need 6 (by kernel_rfl)
              have e6 := q1 6 _ rfl l6
              refine gen_yes ?_ ?_
              · simp only [e6]
                rfl
              have l11 : L 11 = true := hL.need 11 (by kernel_rfl)
              have e11 := q1 11 _ rfl l11
              simp only [e11]
              go_simp
              exact gr_val (HI.out _ _ _ ⟨q0, kn_known q1 rfl⟩)
            · intro vs
              simp only [Act.put, List.setIfInBounds_toArray, List.set_cons_succ, List.set_cons_zero]
              rfl
            refine gen_cons (A' := ?_) (fun vs L w1 hL hw1 => ?_) ?_ ?_
            rotate_left 1
            · obtain ⟨q0, q1⟩ := HO.out _ _ _ hw1
              have l6 : L 6 = true := hL.need 6 (by kernel_rfl)
              have e6 := q1 6 _ rfl l6
              refine gen_yes ?_ ?_
              · simp only [e6]
                rfl
              have l12 : L 12 = true := hL.need 12 (by kernel_rfl)
              have e12 := q1 12 _ rfl l12
              simp only [e12]
              obtain ⟨y0, y1, y2, y3⟩ := hp _ (below_grows hB (Nat.le_refl _) q0)
              go_simp
              exact gr_val (HI.out _ _ _ ⟨q0, kn_known q1 rfl⟩)
            · intro vs
              simp only [Act.put, List.setIfInBounds_toArray, List.set_cons_succ, List.set_cons_zero]
              rfl
            refine gen_cons (A' := ?_) (fun vs L w1 hL hw1 => ?_) ?_ ?_
            rotate_left 1
            · obtain ⟨q0, q1⟩ := HO.out _ _ _ hw1
              have l6 : L 6 = true := hL.need 6 (by kernel_rfl)
              have e6 := q1 6 _ rfl l6
              refine gen_yes ?_ ?_
              · simp only [e6]
                rfl
              go_simp
              exact gr_val (HI.out _ _ _ ⟨q0, kn_known q1 rfl⟩)
            · intro vs
              simp only [Act.put, List.setIfInBounds_toArray, List.set_cons_succ, List.set_cons_zero]
              rfl
            refine gen_cons (A' := ?_) (fun vs L w1 hL hw1 => ?_) ?_ ?_
            rotate_left 1
            · obtain ⟨q0, q1⟩ := HO.out _ _ _ hw1
              have l6 : L 6 = true := hL.need 6 (by kernel_rfl)
              have e6 := q1 6 _ rfl l6
              refine gen_yes ?_ ?_
              · simp only [e6]
                rfl
              have l14 : L 14 = true := hL.need 14 (by kernel_rfl)
              have e14 := q1 14 _ rfl l14
              have x := (k4.grows q0).cell 0
              simp only [e14]
              go_simp
              exact gr_val (HI.out _ _ _ ⟨q0, kn_known q1 rfl⟩)
            · intro vs
              simp only [Act.put, List.setIfInBounds_toArray, List.set_cons_succ, List.set_cons_zero]
              rfl
            refine gen_cons (A' := ?_) (fun vs L w1 hL hw1 => ?_) ?_ ?_
            rotate_left 1
            · obtain ⟨q0, q1⟩ := HO.out _ _ _ hw1
              have l6 : L 6 = true := hL.need 6 (by kernel_rfl)
              have e6 := q1 6 _ rfl l6
              refine gen_yes ?_ ?_
              · simp only [e6]
                rfl
              have l13 : L 13 = true := hL.need 13 (by kernel_rfl)
              have e13 := q1 13 _ rfl l13
              have l15 : L 15 = true := hL.need 15 (by kernel_rfl)
              have e15 := q1 15 _ rfl l15
              simp only [e13, e15]
              go_simp
              exact gr_val (HI.out _ _ _ ⟨q0, kn_known q1 rfl⟩)
            · intro vs
              simp only [Act.put, List.setIfInBounds_toArray, List.set_cons_succ, List.set_cons_zero]
              rfl
            refine gen_cons (A' := ?_) (fun vs L w1 hL hw1 => ?_) ?_ ?_
            rotate_left 1
            · obtain ⟨q0, q1⟩ := HO.out _ _ _ hw1
              have l3 : L 3 = true := hL.need 3 (by kernel_rfl)
              have e3 := q1 3 _ rfl l3
              refine gen_yes ?_ ?_
              · simp only [e3]
                rfl
              have l6 : L 6 = true := hL.need 6 (by kernel_rfl)
              have e6 := q1 6 _ rfl l6
              have l16 : L 16 = true := hL.need 16 (by kernel_rfl)
              have e16 := q1 16 _ rfl l16
              simp only [e6, e16]
              go_simp
              exact gr_val (HI.out _ _ _ ⟨q0, kn_known q1 rfl⟩)
            · intro vs
              simp only [Act.put, List.setIfInBounds_toArray, List.set_cons_succ, List.set_cons_zero]
              rfl
            refine gen_cons (A' := ?_) (fun vs L w1 hL hw1 => ?_) ?_ ?_
            rotate_left 1
            · obtain ⟨q0, q1⟩ := HO.out _ _ _ hw1
              refine gen_plain rfl ?_
              have l3 : L 3 = true := hL.need 3 (by kernel_rfl)
              have e3 := q1 3 _ rfl l3
              have l17 : L 17 = true := hL.need 17 (by kernel_rfl)
              have e17 := q1 17 _ rfl l17
              simp only [e3, e17]
              go_simp
              exact gr_val (HI.out _ _ _ ⟨q0, kn_known q1 rfl⟩)
            · intro vs
              simp only [Act.put, List.setIfInBounds_toArray, List.set_cons_succ, List.set_cons_zero]
              rfl
            refine gen_nil ?_
            intro vs L W6 hall hS
            obtain ⟨hq, q1⟩ := HO.out _ _ _ hS
            have eX18 := q1 18 _ rfl (hall 18 (by simp))
            clear hall hS HI HO q1
            simp only [eX18]
            go_wp2
            go_roundw
            case rel => exact ⟨kp + 1 + 1, by omega, by go_num, HA2, below_grows hB (Nat.le_refl _) hq, k1.grows hq⟩
            case measure => simp [intOf]; omega
    · have HN : Hid (okN ns = true) := Lib.hid (by have := HA.out; rwa [show k = ns.length by omega] at this)
      clear HA
      have x1 := k1.cell
      go_wp2_with fail
      clear x1
      generalize wr = w2 at *
      go_loopw [48] (fun i wr => ∃ k : Nat, k ≤ ls.length ∧ i = .int .i64 k ∧ Hid ((List.range k).all (stepK ns ls) = true) ∧ Below w.heap.size w wr ∧ Blk wr w.heap.size 40 #[.slice A ns.length c, .slice A2 ls.length c2]) (fun i _ => ls.length - (intOf i).toNat)
      case atStart => exact ⟨0, by omega, rfl, Lib.hid rfl, hB, k1⟩
      case round =>
        clear hB k1 hk hlt
        obtain ⟨k, hk, rfl, HA, hB, k1⟩ := hrel
        by_cases hlt : k < ls.length
        · obtain ⟨ad, l, rfl, had, hx, q0, q1, q2, q3⟩ := (h2.grows hB).elem hlt
          have HX := Lib.hid hx
          clear hx
          have k6 := Blk.new wr 52 #[.int .i64 l.a, .int .i64 l.b, .int .i64 l.c, .int .i64 l.d]
          have hq := (Below.refl wr.heap.size wr).alloc (Nat.le_refl _) (Obj.cells #[.int .i64 l.a, .int .i64 l.b, .int .i64 l.c, .int .i64 l.d] 52)
          go_upto_region 12 with fail
          clear q0 q1 q2 q3
          replace hB := below_grows hB (Nat.le_refl _) hq
          replace k1 := k1.grows hq
          clear hq
          generalize World.alloc wr _ = w7 at *
          generalize wr.heap.size = G6 at *
          generalize hcb : crowdL ns l (ls.take k) = cb
          have HC := Lib.hid hcb
          clear hcb
          have HT : Hid ((ls.take k).length ≤ 9223372036854775807 ∧ k = (ls.take k).length) := Lib.hid (by rw [List.length_take]; omega)
          cases hen : endsL ns l
          · have HE := Lib.hid hen
            clear hen
            obtain ⟨S, HI, HO⟩ : ∃ S : Ran → (Nat → Value) → World → Prop, Hid (∀ L vs w', (Grows w7 w' ∧ KnS [some (.agg #[.slice A ns.length c, .slice (some ad) ls.length c2]), some (.agg #[.int .i64 l.a, .int .i64 l.b, .int .i64 l.c, .int .i64 l.d]), some (.bool false), some (.bool true), some (.bool true), none, none, some (undef), none, none, none, none, none, none, none, none, none, none, some (.bool true), some (.bool true), none, none, none, none, none, none, none, some (.bool true)] L vs) → S L vs w') ∧ Hid (∀ L vs w', S L vs w' → (Grows w7 w' ∧ KnS [some (.agg #[.slice A ns.length c, .slice (some ad) ls.length c2]), some (.agg #[.int .i64 l.a, .int .i64 l.b, .int .i64 l.c, .int .i64 l.d]), some (.bool false), some (.bool true), some (.bool true), none, none, some (undef), none, none, none, none, none, none, none, none, none, none, some (.bool true), some (.bool true), none, none, none, none, none, none, none, some (.bool true)] L vs)) := ⟨fun L vs w' => Grows w7 w' ∧ KnS [some (.agg #[.slice A ns.length c, .slice (some ad) ls.length c2]), some (.agg #[.int .i64 l.a, .int .i64 l.b, .int .i64 l.c, .int .i64 l.d]), some (.bool false), some (.bool true), some (.bool true), none, none, some (undef), none, none, none, none, none, none, none, none, none, none, some (.bool true), some (.bool true), none, none, none, none, none, none, none, some (.bool true)] L vs, fun _ _ _ h => h, fun _ _ _ h => h⟩
            refine wp_region_genW S 89 (by kernel_rfl) (by kernel_rfl) rfl ?_ ?_
            · exact HI.out _ _ _ ⟨Grows.drew' _, kn_none _ _⟩
            refine gen_cons (A' := ?_) (fun vs L w1 hL hw1 => ?_) ?_ ?_
            rotate_left 1
            · obtain ⟨q0, q1⟩ := HO.out _ _ _ hw1
              refine gen_plain rfl ?_
              have x := (k1.grows q0).cell 
              go_simp
              exact gr_val (HI.out _ _ _ ⟨q0, kn_known q1 rfl⟩)
            · intro vs
              simp only [Act.put, List.setIfInBounds_toArray, List.set_cons_succ, List.set_cons_zero]
              rfl
            refine gen_cons (A' := ?_) (fun vs L w1 hL hw1 => ?_) ?_ ?_
            rotate_left 1
            · obtain ⟨q0, q1⟩ := HO.out _ _ _ hw1
              refine gen_plain rfl ?_
              have x := (k6.grows q0).cell 
              go_simp
              exact gr_val (HI.out _ _ _ ⟨q0, kn_known q1 rfl⟩)
            · intro vs
              simp only [Act.put, List.setIfInBounds_toArray, List.set_cons_succ, List.set_cons_zero]
              rfl
            refine gen_cons (A' := ?_) (fun vs L w1 hL hw1 => ?_) ?_ ?_
            rotate_left 1
            · obtain ⟨q0, q1⟩ := HO.out _ _ _ hw1
              refine gen_plain rfl ?_
              have l0 : L 0 = true := hL.need 0 (by kernel_rfl)
              have e0 := q1 0 _ rfl l0
              have l1 : L 1 = true := hL.need 1 (by kernel_rfl)
              have e1 := q1 1 _ rfl l1
              simp only [e0, e1]
              go_simp
              refine gr_call ?_
              refine (ports_is A (some ad) c c2 ls.length ns l false w1 (h.grows (below_grows hB (Nat.le_refl _) q0)) hl HE.out).mono ?_
              rintro e w2 ⟨rfl, hg⟩
              exact ⟨_, rfl, HI.out _ _ _ ⟨below_grows q0 (Nat.le_refl _) hg, kn_known q1 rfl⟩⟩
            · intro vs
              simp only [Act.put, List.setIfInBounds_toArray, List.set_cons_succ, List.set_cons_zero]
              rfl
            refine gen_cons (A' := ?_) (fun vs L w1 hL hw1 => ?_) ?_ ?_
            rotate_left 1
            · obtain ⟨q0, q1⟩ := HO.out _ _ _ hw1
              refine gen_plain rfl ?_
              have l2 : L 2 = true := hL.need 2 (by kernel_rfl)
              have e2 := q1 2 _ rfl l2
              simp only [e2]
              go_simp
              exact gr_val (HI.out _ _ _ ⟨q0, kn_known q1 rfl⟩)
            · intro vs
              simp only [Act.put, List.setIfInBounds_toArray, List.set_cons_succ, List.set_cons_zero]
              rfl
            refine gen_cons (A' := ?_) (fun vs L w1 hL hw1 => ?_) ?_ ?_
            rotate_left 1
            · obtain ⟨q0, q1⟩ := HO.out _ _ _ hw1
              refine gen_plain rfl ?_
              have l3 : L 3 = true := hL.need 3 (by kernel_rfl)
              have e3 := q1 3 _ rfl l3
              simp only [e3]
              go_simp
              exact gr_val (HI.out _ _ _ ⟨q0, kn_known q1 rfl⟩)
            · intro vs
              simp only [Act.put, List.setIfInBounds_toArray, List.set_cons_succ, List.set_cons_zero]
              rfl
            refine gen_cons (A' := ?_) (fun vs L w1 hL hw1 => ?_) ?_ ?_
            rotate_left 1
            · obtain ⟨q0, q1⟩ := HO.out _ _ _ hw1
              have l4 : L 4 = true := hL.need 4 (by kernel_rfl)
              have e4 := q1 4 _ rfl l4
              refine gen_no ?_ ?_
              · simp only [e4]
                rfl
              · exact HI.out _ _ _ ⟨q0, kn_free q1 rfl⟩
            · intro vs
              simp only [Act.put, List.setIfInBounds_toArray, List.set_cons_succ, List.set_cons_zero]
              rfl
            refine gen_cons (A' := ?_) (fun vs L w1 hL hw1 => ?_) ?_ ?_
            rotate_left 1
            · obtain ⟨q0, q1⟩ := HO.out _ _ _ hw1
              have l4 : L 4 = true := hL.need 4 (by kernel_rfl)
              have e4 := q1 4 _ rfl l4
              refine gen_no ?_ ?_
              · simp only [e4]
                rfl
              · exact HI.out _ _ _ ⟨q0, kn_free q1 rfl⟩
            · intro vs
              simp only [Act.put, List.setIfInBounds_toArray, List.set_cons_succ, List.set_cons_zero]
              rfl
            refine gen_cons (A' := ?_) (fun vs L w1 hL hw1 => ?_) ?_ ?_
            rotate_left 1
            · obtain ⟨q0, q1⟩ := HO.out _ _ _ hw1
              have l4 : L 4 = true := hL.need 4 (by kernel_rfl)
              have e4 := q1 4 _ rfl l4
              refine gen_no ?_ ?_
              · simp only [e4]
                rfl
              · exact HI.out _ _ _ ⟨q0, kn_known q1 rfl⟩
            · intro vs
              simp only [Act.put, List.setIfInBounds_toArray, List.set_cons_succ, List.set_cons_zero]
              rfl
            refine gen_cons (A' := ?_) (fun vs L w1 hL hw1 => ?_) ?_ ?_
            rotate_left 1
            · obtain ⟨q0, q1⟩ := HO.out _ _ _ hw1
              have l7 : L 7 = true := hL.need 7 (by kernel_rfl)
              have e7 := q1 7 _ rfl l7
              refine gen_no ?_ ?_
              · simp only [e7]
                rfl
              · exact HI.out _ _ _ ⟨q0, kn_free q1 rfl⟩
            · intro vs
              simp only [Act.put, List.setIfInBounds_toArray, List.set_cons_succ, List.set_cons_zero]
              rfl
            refine gen_cons (A' := ?_) (fun vs L w1 hL hw1 => ?_) ?_ ?_
            rotate_left 1
            · obtain ⟨q0, q1⟩ := HO.out _ _ _ hw1
              have l7 : L 7 = true := hL.need 7 (by kernel_rfl)
              have e7 := q1 7 _ rfl l7
              refine gen_no ?_ ?_
              · simp only [e7]
                rfl
              · exact HI.out _ _ _ ⟨q0, kn_free q1 rfl⟩
            · intro vs
              simp only [Act.put, List.setIfInBounds_toArray, List.set_cons_succ, List.set_cons_zero]
              rfl
            refine gen_cons (A' := ?_) (fun vs L w1 hL hw1 => ?_) ?_ ?_
            rotate_left 1
            · obtain ⟨q0, q1⟩ := HO.out _ _ _ hw1
              have l7 : L 7 = true := hL.need 7 (by kernel_rfl)
              have e7 := q1 7 _ rfl l7
              refine gen_no ?_ ?_
              · simp only [e7]
                rfl
              · exact HI.out _ _ _ ⟨q0, kn_free q1 rfl⟩
            · intro vs
              simp only [Act.put, List.setIfInBounds_toArray, List.set_cons_succ, List.set_cons_zero]
              rfl
            refine gen_cons (A' := ?_) (fun vs L w1 hL hw1 => ?_) ?_ ?_
            rotate_left 1
            · obtain ⟨q0, q1⟩ := HO.out _ _ _ hw1
              have l7 : L 7 = true := hL.need 7 (by kernel_rfl)
              have e7 := q1 7 _ rfl l7
              refine gen_no ?_ ?_
              · simp only [e7]
                rfl
              · exact HI.out _ _ _ ⟨q0, kn_free q1 rfl⟩
            · intro vs
              simp only [Act.put, List.setIfInBounds_toArray, List.set_cons_succ, List.set_cons_zero]
              rfl
            refine gen_cons (A' := ?_) (fun vs L w1 hL hw1 => ?_) ?_ ?_
            rotate_left 1
            · obtain ⟨q0, q1⟩ := HO.out _ _ _ hw1
              have l7 : L 7 = true := hL.need 7 (by kernel_rfl)
              have e7 := q1 7 _ rfl l7
              refine gen_no ?_ ?_
              · simp only [e7]
                rfl
              · exact HI.out _ _ _ ⟨q0, kn_free q1 rfl⟩
            · intro vs
              simp only [Act.put, List.setIfInBounds_toArray, List.set_cons_succ, List.set_cons_zero]
              rfl
            refine gen_cons (A' := ?_) (fun vs L w1 hL hw1 => ?_) ?_ ?_
            rotate_left 1
            · obtain ⟨q0, q1⟩ := HO.out _ _ _ hw1
              have l7 : L 7 = true := hL.need 7 (by kernel_rfl)
              have e7 := q1 7 _ rfl l7
              refine gen_no ?_ ?_
              · simp only [e7]
                rfl
              · exact HI.out _ _ _ ⟨q0, kn_free q1 rfl⟩
            · intro vs
              simp only [Act.put, List.setIfInBounds_toArray, List.set_cons_succ, List.set_cons_zero]
              rfl
            refine gen_cons (A' := ?_) (fun vs L w1 hL hw1 => ?_) ?_ ?_
            rotate_left 1
            · obtain ⟨q0, q1⟩ := HO.out _ _ _ hw1
              have l7 : L 7 = true := hL.need 7 (by kernel_rfl)
              have e7 := q1 7 _ rfl l7
              refine gen_no ?_ ?_
              · simp only [e7]
                rfl
              · exact HI.out _ _ _ ⟨q0, kn_free q1 rfl⟩
            · intro vs
              simp only [Act.put, List.setIfInBounds_toArray, List.set_cons_succ, List.set_cons_zero]
              rfl
            refine gen_cons (A' := ?_) (fun vs L w1 hL hw1 => ?_) ?_ ?_
            rotate_left 1
            · obtain ⟨q0, q1⟩ := HO.out _ _ _ hw1
              have l7 : L 7 = true := hL.need 7 (by kernel_rfl)
              have e7 := q1 7 _ rfl l7
              refine gen_no ?_ ?_
              · simp only [e7]
                rfl
              · exact HI.out _ _ _ ⟨q0, kn_free q1 rfl⟩
            · intro vs
              simp only [Act.put, List.setIfInBounds_toArray, List.set_cons_succ, List.set_cons_zero]
              rfl
            refine gen_cons (A' := ?_) (fun vs L w1 hL hw1 => ?_) ?_ ?_
            rotate_left 1
            · obtain ⟨q0, q1⟩ := HO.out _ _ _ hw1
              have l7 : L 7 = true := hL.need 7 (by kernel_rfl)
              have e7 := q1 7 _ rfl l7
              refine gen_no ?_ ?_
              · simp only [e7]
                rfl
              · exact HI.out _ _ _ ⟨q0, kn_free q1 rfl⟩
            · intro vs
              simp only [Act.put, List.setIfInBounds_toArray, List.set_cons_succ, List.set_cons_zero]
              rfl
            refine gen_cons (A' := ?_) (fun vs L w1 hL hw1 => ?_) ?_ ?_
            rotate_left 1
            · obtain ⟨q0, q1⟩ := HO.out _ _ _ hw1
              have l4 : L 4 = true := hL.need 4 (by kernel_rfl)
              have e4 := q1 4 _ rfl l4
              refine gen_no ?_ ?_
              · simp only [e4]
                rfl
              · exact HI.out _ _ _ ⟨q0, kn_free q1 rfl⟩
            · intro vs
              simp only [Act.put, List.setIfInBounds_toArray, List.set_cons_succ, List.set_cons_zero]
              rfl
            refine gen_cons (A' := ?_) (fun vs L w1 hL hw1 => ?_) ?_ ?_
            rotate_left 1
            · obtain ⟨q0, q1⟩ := HO.out _ _ _ hw1
              refine gen_plain rfl ?_
              have l4 : L 4 = true := hL.need 4 (by kernel_rfl)
              have e4 := q1 4 _ rfl l4
              simp only [e4]
              go_simp
              exact gr_val (HI.out _ _ _ ⟨q0, kn_known q1 rfl⟩)
            · intro vs
              simp only [Act.put, List.setIfInBounds_toArray, List.set_cons_succ, List.set_cons_zero]
              rfl
            refine gen_cons (A' := ?_) (fun vs L w1 hL hw1 => ?_) ?_ ?_
            rotate_left 1
            · obtain ⟨q0, q1⟩ := HO.out _ _ _ hw1
              refine gen_plain rfl ?_
              have l18 : L 18 = true := hL.need 18 (by kernel_rfl)
              have e18 := q1 18 _ rfl l18
              simp only [e18]
              go_simp
              exact gr_val (HI.out _ _ _ ⟨q0, kn_known q1 rfl⟩)
            · intro vs
              simp only [Act.put, List.setIfInBounds_toArray, List.set_cons_succ, List.set_cons_zero]
              rfl
            refine gen_cons (A' := ?_) (fun vs L w1 hL hw1 => ?_) ?_ ?_
            rotate_left 1
            · obtain ⟨q0, q1⟩ := HO.out _ _ _ hw1
              have l19 : L 19 = true := hL.need 19 (by kernel_rfl)
              have e19 := q1 19 _ rfl l19
              refine gen_no ?_ ?_
              · simp only [e19]
                rfl
              · exact HI.out _ _ _ ⟨q0, kn_free q1 rfl⟩
            · intro vs
              simp only [Act.put, List.setIfInBounds_toArray, List.set_cons_succ, List.set_cons_zero]
              rfl
            refine gen_cons (A' := ?_) (fun vs L w1 hL hw1 => ?_) ?_ ?_
            rotate_left 1
            · obtain ⟨q0, q1⟩ := HO.out _ _ _ hw1
              have l19 : L 19 = true := hL.need 19 (by kernel_rfl)
              have e19 := q1 19 _ rfl l19
              refine gen_no ?_ ?_
              · simp only [e19]
                rfl
              · exact HI.out _ _ _ ⟨q0, kn_free q1 rfl⟩
            · intro vs
              simp only [Act.put, List.setIfInBounds_toArray, List.set_cons_succ, List.set_cons_zero]
              rfl
            refine gen_cons (A' := ?_) (fun vs L w1 hL hw1 => ?_) ?_ ?_
            rotate_left 1
            · obtain ⟨q0, q1⟩ := HO.out _ _ _ hw1
              have l19 : L 19 = true := hL.need 19 (by kernel_rfl)
              have e19 := q1 19 _ rfl l19
              refine gen_no ?_ ?_
              · simp only [e19]
                rfl
              · exact HI.out _ _ _ ⟨q0, kn_free q1 rfl⟩
            · intro vs
              simp only [Act.put, List.setIfInBounds_toArray, List.set_cons_succ, List.set_cons_zero]
              rfl
            refine gen_cons (A' := ?_) (fun vs L w1 hL hw1 => ?_) ?_ ?_
            rotate_left 1
            · obtain ⟨q0, q1⟩ := HO.out _ _ _ hw1
              have l19 : L 19 = true := hL.need 19 (by kernel_rfl)
              have e19 := q1 19 _ rfl l19
              refine gen_no ?_ ?_
              · simp only [e19]
                rfl
              · exact HI.out _ _ _ ⟨q0, kn_free q1 rfl⟩
            · intro vs
              simp only [Act.put, List.setIfInBounds_toArray, List.set_cons_succ, List.set_cons_zero]
              rfl
            refine gen_cons (A' := ?_) (fun vs L w1 hL hw1 => ?_) ?_ ?_
            rotate_left 1
            · obtain ⟨q0, q1⟩ := HO.out _ _ _ hw1
              have l19 : L 19 = true := hL.need 19 (by kernel_rfl)
              have e19 := q1 19 _ rfl l19
              refine gen_no ?_ ?_
              · simp only [e19]
                rfl
              · exact HI.out _ _ _ ⟨q0, kn_free q1 rfl⟩
            · intro vs
              simp only [Act.put, List.setIfInBounds_toArray, List.set_cons_succ, List.set_cons_zero]
              rfl
            refine gen_cons (A' := ?_) (fun vs L w1 hL hw1 => ?_) ?_ ?_
            rotate_left 1
            · obtain ⟨q0, q1⟩ := HO.out _ _ _ hw1
              have l19 : L 19 = true := hL.need 19 (by kernel_rfl)
              have e19 := q1 19 _ rfl l19
              refine gen_no ?_ ?_
              · simp only [e19]
                rfl
              · exact HI.out _ _ _ ⟨q0, kn_free q1 rfl⟩
            · intro vs
              simp only [Act.put, List.setIfInBounds_toArray, List.set_cons_succ, List.set_cons_zero]
              rfl
            refine gen_cons (A' := ?_) (fun vs L w1 hL hw1 => ?_) ?_ ?_
            rotate_left 1
            · obtain ⟨q0, q1⟩ := HO.out _ _ _ hw1
              have l19 : L 19 = true := hL.need 19 (by kernel_rfl)
              have e19 := q1 19 _ rfl l19
              refine gen_no ?_ ?_
              · simp only [e19]
                rfl
              · exact HI.out _ _ _ ⟨q0, kn_free q1 rfl⟩
            · intro vs
              simp only [Act.put, List.setIfInBounds_toArray, List.set_cons_succ, List.set_cons_zero]
              rfl
            refine gen_cons (A' := ?_) (fun vs L w1 hL hw1 => ?_) ?_ ?_
            rotate_left 1
            · obtain ⟨q0, q1⟩ := HO.out _ _ _ hw1
              refine gen_plain rfl ?_
              have l19 : L 19 = true := hL.need 19 (by kernel_rfl)
              have e19 := q1 19 _ rfl l19
              simp only [e19]
              go_simp
              exact gr_val (HI.out _ _ _ ⟨q0, kn_known q1 rfl⟩)
            · intro vs
              simp only [Act.put, List.setIfInBounds_toArray, List.set_cons_succ, List.set_cons_zero]
              rfl
            refine gen_nil ?_
            intro vs L W6 hall hS
            obtain ⟨hq, q1⟩ := HO.out _ _ _ hS
            have eX27 := q1 27 _ rfl (hall 27 (by simp))
            clear hall hS HI HO q1
            simp only [eX27]
            go_wp2
            go_ret
            refine ⟨ret_bool ?_, below_grows hB (Nat.le_refl _) hq⟩
            exact (valid_no2 hlt (by rw [stepK_at HX.out, HE.out]; rfl)).symm
          · have HE := Lib.hid hen
            clear hen
            by_cases hk0 : k = 0
            · have hkc : k ≤ c2 := by omega
              have hk9 : decide (0 < k) = false := by simp [hk0]
              have HK0 := Lib.hid hk0
              clear hk0
              cases cb
              · have HA2 := Lib.hid (range_all_up HA.out (by rw [stepK_at HX.out, HE.out, HC.out, HK0.out]; rfl))
                obtain ⟨S, HI, HO⟩ : ∃ S : Ran → (Nat → Value) → World → Prop, Hid (∀ L vs w', (Grows w7 w' ∧ KnS [some (.agg #[.slice A ns.length c, .slice (some ad) ls.length c2]), some (.agg #[.int .i64 l.a, .int .i64 l.b, .int .i64 l.c, .int .i64 l.d]), some (.bool true), some (.bool false), some (.bool false), some (.int .i64 (k : Int)), some (.bool false), some (.bool false), none, none, none, none, none, none, none, none, none, some (.bool false), some (.bool false), some (.bool false), some (.agg #[.slice A ns.length c, .slice (some ad) ls.length c2]), some (.agg #[.int .i64 l.a, .int .i64 l.b, .int .i64 l.c, .int .i64 l.d]), some (.pointer (some ⟨w.heap.size, 1, none⟩)), some (.slice (some ad) ls.length c2), some (.int .i64 (k : Int)), some (.slice (some ad) k c2), some (.bool false), some (.bool false)] L vs) → S L vs w') ∧ Hid (∀ L vs w', S L vs w' → (Grows w7 w' ∧ KnS [some (.agg #[.slice A ns.length c, .slice (some ad) ls.length c2]), some (.agg #[.int .i64 l.a, .int .i64 l.b, .int .i64 l.c, .int .i64 l.d]), some (.bool true), some (.bool false), some (.bool false), some (.int .i64 (k : Int)), some (.bool false), some (.bool false), none, none, none, none, none, none, none, none, none, some (.bool false), some (.bool false), some (.bool false), some (.agg #[.slice A ns.length c, .slice (some ad) ls.length c2]), some (.agg #[.int .i64 l.a, .int .i64 l.b, .int .i64 l.c, .int .i64 l.d]), some (.pointer (some ⟨w.heap.size, 1, none⟩)), some (.slice (some ad) ls.length c2), some (.int .i64 (k : Int)), some (.slice (some ad) k c2), some (.bool false), some (.bool false)] L vs)) := ⟨fun L vs w' => Grows w7 w' ∧ KnS [some (.agg #[.slice A ns.length c, .slice (some ad) ls.length c2]), some (.agg #[.int .i64 l.a, .int .i64 l.b, .int .i64 l.c, .int .i64 l.d]), some (.bool true), some (.bool false), some (.bool false), some (.int .i64 (k : Int)), some (.bool false), some (.bool false), none, none, none, none, none, none, none, none, none, some (.bool false), some (.bool false), some (.bool false), some (.agg #[.slice A ns.length c, .slice (some ad) ls.length c2]), some (.agg #[.int .i64 l.a, .int .i64 l.b, .int .i64 l.c, .int .i64 l.d]), some (.pointer (some ⟨w.heap.size, 1, none⟩)), some (.slice (some ad) ls.length c2), some (.int .i64 (k : Int)), some (.slice (some ad) k c2), some (.bool false), some (.bool false)] L vs, fun _ _ _ h => h, fun _ _ _ h => h⟩
                refine wp_region_genW S 89 (by kernel_rfl) (by kernel_rfl) rfl ?_ ?_
                · exact HI.out _ _ _ ⟨Grows.drew' _, kn_none _ _⟩
                refine gen_cons (A' := ?_) (fun vs L w1 hL hw1 => ?_) ?_ ?_
                rotate_left 1
                · obtain ⟨q0, q1⟩ := HO.out _ _ _ hw1
                  refine gen_plain rfl ?_
                  have x := (k1.grows q0).cell 
                  go_simp
                  exact gr_val (HI.out _ _ _ ⟨q0, kn_known q1 rfl⟩)
                · intro vs
                  simp only [Act.put, List.setIfInBounds_toArray, List.set_cons_succ, List.set_cons_zero]
                  rfl
                refine gen_cons (A' := ?_) (fun vs L w1 hL hw1 => ?_) ?_ ?_
                rotate_left 1
                · obtain ⟨q0, q1⟩ := HO.out _ _ _ hw1
                  refine gen_plain rfl ?_
                  have x := (k6.grows q0).cell 
                  go_simp
                  exact gr_val (HI.out _ _ _ ⟨q0, kn_known q1 rfl⟩)
                · intro vs
                  simp only [Act.put, List.setIfInBounds_toArray, List.set_cons_succ, List.set_cons_zero]
                  rfl
                refine gen_cons (A' := ?_) (fun vs L w1 hL hw1 => ?_) ?_ ?_
                rotate_left 1
                · obtain ⟨q0, q1⟩ := HO.out _ _ _ hw1
                  refine gen_plain rfl ?_
                  have l0 : L 0 = true := hL.need 0 (by kernel_rfl)
                  have e0 := q1 0 _ rfl l0
                  have l1 : L 1 = true := hL.need 1 (by kernel_rfl)
                  have e1 := q1 1 _ rfl l1
                  simp only [e0, e1]
                  go_simp
                  refine gr_call ?_
                  refine (ports_is A (some ad) c c2 ls.length ns l true w1 (h.grows (below_grows hB (Nat.le_refl _) q0)) hl HE.out).mono ?_
                  rintro e w2 ⟨rfl, hg⟩
                  exact ⟨_, rfl, HI.out _ _ _ ⟨below_grows q0 (Nat.le_refl _) hg, kn_known q1 rfl⟩⟩
                · intro vs
                  simp only [Act.put, List.setIfInBounds_toArray, List.set_cons_succ, List.set_cons_zero]
                  rfl
                refine gen_cons (A' := ?_) (fun vs L w1 hL hw1 => ?_) ?_ ?_
                rotate_left 1
                · obtain ⟨q0, q1⟩ := HO.out _ _ _ hw1
                  refine gen_plain rfl ?_
                  have l2 : L 2 = true := hL.need 2 (by kernel_rfl)
                  have e2 := q1 2 _ rfl l2
                  simp only [e2]
                  go_simp
                  exact gr_val (HI.out _ _ _ ⟨q0, kn_known q1 rfl⟩)
                · intro vs
                  simp only [Act.put, List.setIfInBounds_toArray, List.set_cons_succ, List.set_cons_zero]
                  rfl
                refine gen_cons (A' := ?_) (fun vs L w1 hL hw1 => ?_) ?_ ?_
                rotate_left 1
                · obtain ⟨q0, q1⟩ := HO.out _ _ _ hw1
                  refine gen_plain rfl ?_
                  have l3 : L 3 = true := hL.need 3 (by kernel_rfl)
                  have e3 := q1 3 _ rfl l3
                  simp only [e3]
                  go_simp
                  exact gr_val (HI.out _ _ _ ⟨q0, kn_known q1 rfl⟩)
                · intro vs
                  simp only [Act.put, List.setIfInBounds_toArray, List.set_cons_succ, List.set_cons_zero]
                  rfl
                refine gen_cons (A' := ?_) (fun vs L w1 hL hw1 => ?_) ?_ ?_
                rotate_left 1
                · obtain ⟨q0, q1⟩ := HO.out _ _ _ hw1
                  have l4 : L 4 = true := hL.need 4 (by kernel_rfl)
                  have e4 := q1 4 _ rfl l4
                  refine gen_yes ?_ ?_
                  · simp only [e4]
                    rfl
                  go_simp
                  exact gr_val (HI.out _ _ _ ⟨q0, kn_known q1 rfl⟩)
                · intro vs
                  simp only [Act.put, List.setIfInBounds_toArray, List.set_cons_succ, List.set_cons_zero]
                  rfl
                refine gen_cons (A' := ?_) (fun vs L w1 hL hw1 => ?_) ?_ ?_
                rotate_left 1
                · obtain ⟨q0, q1⟩ := HO.out _ _ _ hw1
                  have l4 : L 4 = true := hL.need 4 (by kernel_rfl)
                  have e4 := q1 4 _ rfl l4
                  refine gen_yes ?_ ?_
                  · simp only [e4]
                    rfl
                  have l5 : L 5 = true := hL.need 5 (by kernel_rfl)
                  have e5 := q1 5 _ rfl l5
                  simp only [e5]
                  go_simp
                  exact gr_val (HI.out _ _ _ ⟨q0, kn_known q1 rfl⟩)
                · intro vs
                  simp only [Act.put, List.setIfInBounds_toArray, List.set_cons_succ, List.set_cons_zero]
                  rfl
                refine gen_cons (A' := ?_) (fun vs L w1 hL hw1 => ?_) ?_ ?_
                rotate_left 1
                · obtain ⟨q0, q1⟩ := HO.out _ _ _ hw1
                  have l4 : L 4 = true := hL.need 4 (by kernel_rfl)
                  have e4 := q1 4 _ rfl l4
                  refine gen_yes ?_ ?_
                  · simp only [e4]
                    rfl
                  have l6 : L 6 = true := hL.need 6 (by kernel_rfl)
                  have e6 := q1 6 _ rfl l6
                  simp only [e6]
                  go_simp
                  exact gr_val (HI.out _ _ _ ⟨q0, kn_known q1 rfl⟩)
                · intro vs
                  simp only [Act.put, List.setIfInBounds_toArray, List.set_cons_succ, List.set_cons_zero]
                  rfl
                refine gen_cons (A' := ?_) (fun vs L w1 hL hw1 => ?_) ?_ ?_
                rotate_left 1
                · obtain ⟨q0, q1⟩ := HO.out _ _ _ hw1
                  have l7 : L 7 = true := hL.need 7 (by kernel_rfl)
                  have e7 := q1 7 _ rfl l7
                  refine gen_no ?_ ?_
                  · simp only [e7]
                    rfl
                  · exact HI.out _ _ _ ⟨q0, kn_free q1 rfl⟩
                · intro vs
                  simp only [Act.put, List.setIfInBounds_toArray, List.set_cons_succ, List.set_cons_zero]
                  rfl
                refine gen_cons (A' := ?_) (fun vs L w1 hL hw1 => ?_) ?_ ?_
                rotate_left 1
                · obtain ⟨q0, q1⟩ := HO.out _ _ _ hw1
                  have l7 : L 7 = true := hL.need 7 (by kernel_rfl)
                  have e7 := q1 7 _ rfl l7
                  refine gen_no ?_ ?_
                  · simp only [e7]
                    rfl
                  · exact HI.out _ _ _ ⟨q0, kn_free q1 rfl⟩
                · intro vs
                  simp only [Act.put, List.setIfInBounds_toArray, List.set_cons_succ, List.set_cons_zero]
                  rfl
                refine gen_cons (A' := ?_) (fun vs L w1 hL hw1 => ?_) ?_ ?_
                rotate_left 1
                · obtain ⟨q0, q1⟩ := HO.out _ _ _ hw1
                  have l7 : L 7 = true := hL.need 7 (by kernel_rfl)
                  have e7 := q1 7 _ rfl l7
                  refine gen_no ?_ ?_
                  · simp only [e7]
                    rfl
                  · exact HI.out _ _ _ ⟨q0, kn_free q1 rfl⟩
                · intro vs
                  simp only [Act.put, List.setIfInBounds_toArray, List.set_cons_succ, List.set_cons_zero]
                  rfl
                refine gen_cons (A' := ?_) (fun vs L w1 hL hw1 => ?_) ?_ ?_
                rotate_left 1
                · obtain ⟨q0, q1⟩ := HO.out _ _ _ hw1
                  have l7 : L 7 = true := hL.need 7 (by kernel_rfl)
                  have e7 := q1 7 _ rfl l7
                  refine gen_no ?_ ?_
                  · simp only [e7]
                    rfl
                  · exact HI.out _ _ _ ⟨q0, kn_free q1 rfl⟩
                · intro vs
                  simp only [Act.put, List.setIfInBounds_toArray, List.set_cons_succ, List.set_cons_zero]
                  rfl
                refine gen_cons (A' := ?_) (fun vs L w1 hL hw1 => ?_) ?_ ?_
                rotate_left 1
                · obtain ⟨q0, q1⟩ := HO.out _ _ _ hw1
                  have l7 : L 7 = true := hL.need 7 (by kernel_rfl)
                  have e7 := q1 7 _ rfl l7
                  refine gen_no ?_ ?_
                  · simp only [e7]
                    rfl
                  · exact HI.out _ _ _ ⟨q0, kn_free q1 rfl⟩
                · intro vs
                  simp only [Act.put, List.setIfInBounds_toArray, List.set_cons_succ, List.set_cons_zero]
                  rfl
                refine gen_cons (A' := ?_) (fun vs L w1 hL hw1 => ?_) ?_ ?_
                rotate_left 1
                · obtain ⟨q0, q1⟩ := HO.out _ _ _ hw1
                  have l7 : L 7 = true := hL.need 7 (by kernel_rfl)
                  have e7 := q1 7 _ rfl l7
                  refine gen_no ?_ ?_
                  · simp only [e7]
                    rfl
                  · exact HI.out _ _ _ ⟨q0, kn_free q1 rfl⟩
                · intro vs
                  simp only [Act.put, List.setIfInBounds_toArray, List.set_cons_succ, List.set_cons_zero]
                  rfl
                refine gen_cons (A' := ?_) (fun vs L w1 hL hw1 => ?_) ?_ ?_
                rotate_left 1
                · obtain ⟨q0, q1⟩ := HO.out _ _ _ hw1
                  have l7 : L 7 = true := hL.need 7 (by kernel_rfl)
                  have e7 := q1 7 _ rfl l7
                  refine gen_no ?_ ?_
                  · simp only [e7]
                    rfl
                  · exact HI.out _ _ _ ⟨q0, kn_free q1 rfl⟩
                · intro vs
                  simp only [Act.put, List.setIfInBounds_toArray, List.set_cons_succ, List.set_cons_zero]
                  rfl
                refine gen_cons (A' := ?_) (fun vs L w1 hL hw1 => ?_) ?_ ?_
                rotate_left 1
                · obtain ⟨q0, q1⟩ := HO.out _ _ _ hw1
                  have l7 : L 7 = true := hL.need 7 (by kernel_rfl)
                  have e7 := q1 7 _ rfl l7
                  refine gen_no ?_ ?_
                  · simp only [e7]
                    rfl
                  · exact HI.out _ _ _ ⟨q0, kn_free q1 rfl⟩
                · intro vs
                  simp only [Act.put, List.setIfInBounds_toArray, List.set_cons_succ, List.set_cons_zero]
                  rfl
                refine gen_cons (A' := ?_) (fun vs L w1 hL hw1 => ?_) ?_ ?_
                rotate_left 1
                · obtain ⟨q0, q1⟩ := HO.out _ _ _ hw1
                  have l7 : L 7 = true := hL.need 7 (by kernel_rfl)
                  have e7 := q1 7 _ rfl l7
                  refine gen_no ?_ ?_
                  · simp only [e7]
                    rfl
                  · exact HI.out _ _ _ ⟨q0, kn_free q1 rfl⟩
                · intro vs
                  simp only [Act.put, List.setIfInBounds_toArray, List.set_cons_succ, List.set_cons_zero]
                  rfl
                refine gen_cons (A' := ?_) (fun vs L w1 hL hw1 => ?_) ?_ ?_
                rotate_left 1
                · obtain ⟨q0, q1⟩ := HO.out _ _ _ hw1
                  have l4 : L 4 = true := hL.need 4 (by kernel_rfl)
                  have e4 := q1 4 _ rfl l4
                  refine gen_yes ?_ ?_
                  · simp only [e4]
                    rfl
                  have l7 : L 7 = true := hL.need 7 (by kernel_rfl)
                  have e7 := q1 7 _ rfl l7
                  simp only [e7]
                  go_simp
                  exact gr_val (HI.out _ _ _ ⟨q0, kn_known q1 rfl⟩)
                · intro vs
                  simp only [Act.put, List.setIfInBounds_toArray, List.set_cons_succ, List.set_cons_zero]
                  rfl
                refine gen_cons (A' := ?_) (fun vs L w1 hL hw1 => ?_) ?_ ?_
                rotate_left 1
                · obtain ⟨q0, q1⟩ := HO.out _ _ _ hw1
                  refine gen_plain rfl ?_
                  have l4 : L 4 = true := hL.need 4 (by kernel_rfl)
                  have e4 := q1 4 _ rfl l4
                  have l17 : L 17 = true := hL.need 17 (by kernel_rfl)
                  have e17 := q1 17 _ rfl l17
                  simp only [e4, e17]
                  go_simp
                  exact gr_val (HI.out _ _ _ ⟨q0, kn_known q1 rfl⟩)
                · intro vs
                  simp only [Act.put, List.setIfInBounds_toArray, List.set_cons_succ, List.set_cons_zero]
                  rfl
                refine gen_cons (A' := ?_) (fun vs L w1 hL hw1 => ?_) ?_ ?_
                rotate_left 1
                · obtain ⟨q0, q1⟩ := HO.out _ _ _ hw1
                  refine gen_plain rfl ?_
                  have l18 : L 18 = true := hL.need 18 (by kernel_rfl)
                  have e18 := q1 18 _ rfl l18
                  simp only [e18]
                  go_simp
                  exact gr_val (HI.out _ _ _ ⟨q0, kn_known q1 rfl⟩)
                · intro vs
                  simp only [Act.put, List.setIfInBounds_toArray, List.set_cons_succ, List.set_cons_zero]
                  rfl
                refine gen_cons (A' := ?_) (fun vs L w1 hL hw1 => ?_) ?_ ?_
                rotate_left 1
                · obtain ⟨q0, q1⟩ := HO.out _ _ _ hw1
                  have l19 : L 19 = true := hL.need 19 (by kernel_rfl)
                  have e19 := q1 19 _ rfl l19
                  refine gen_yes ?_ ?_
                  · simp only [e19]
                    rfl
                  have x := (k1.grows q0).cell 
                  go_simp
                  exact gr_val (HI.out _ _ _ ⟨q0, kn_known q1 rfl⟩)
                · intro vs
                  simp only [Act.put, List.setIfInBounds_toArray, List.set_cons_succ, List.set_cons_zero]
                  rfl
                refine gen_cons (A' := ?_) (fun vs L w1 hL hw1 => ?_) ?_ ?_
                rotate_left 1
                · obtain ⟨q0, q1⟩ := HO.out _ _ _ hw1
                  have l19 : L 19 = true := hL.need 19 (by kernel_rfl)
                  have e19 := q1 19 _ rfl l19
                  refine gen_yes ?_ ?_
                  · simp only [e19]
                    rfl
                  have x := (k6.grows q0).cell 
                  go_simp
                  exact gr_val (HI.out _ _ _ ⟨q0, kn_known q1 rfl⟩)
                · intro vs
                  simp only [Act.put, List.setIfInBounds_toArray, List.set_cons_succ, List.set_cons_zero]
                  rfl
                refine gen_cons (A' := ?_) (fun vs L w1 hL hw1 => ?_) ?_ ?_
                rotate_left 1
                · obtain ⟨q0, q1⟩ := HO.out _ _ _ hw1
                  have l19 : L 19 = true := hL.need 19 (by kernel_rfl)
                  have e19 := q1 19 _ rfl l19
                  refine gen_yes ?_ ?_
                  · simp only [e19]
                    rfl
                  go_simp
                  exact gr_val (HI.out _ _ _ ⟨q0, kn_known q1 rfl⟩)
                · intro vs
                  simp only [Act.put, List.setIfInBounds_toArray, List.set_cons_succ, List.set_cons_zero]
                  rfl
                refine gen_cons (A' := ?_) (fun vs L w1 hL hw1 => ?_) ?_ ?_
                rotate_left 1
                · obtain ⟨q0, q1⟩ := HO.out _ _ _ hw1
                  have l19 : L 19 = true := hL.need 19 (by kernel_rfl)
                  have e19 := q1 19 _ rfl l19
                  refine gen_yes ?_ ?_
                  · simp only [e19]
                    rfl
                  have l22 : L 22 = true := hL.need 22 (by kernel_rfl)
                  have e22 := q1 22 _ rfl l22
                  have x := (k1.grows q0).cell 1
                  simp only [e22]
                  go_simp
                  exact gr_val (HI.out _ _ _ ⟨q0, kn_known q1 rfl⟩)
                · intro vs
                  simp only [Act.put, List.setIfInBounds_toArray, List.set_cons_succ, List.set_cons_zero]
                  rfl
                refine gen_cons (A' := ?_) (fun vs L w1 hL hw1 => ?_) ?_ ?_
                rotate_left 1
                · obtain ⟨q0, q1⟩ := HO.out _ _ _ hw1
                  have l19 : L 19 = true := hL.need 19 (by kernel_rfl)
                  have e19 := q1 19 _ rfl l19
                  refine gen_yes ?_ ?_
                  · simp only [e19]
                    rfl
                  go_simp
                  exact gr_val (HI.out _ _ _ ⟨q0, kn_known q1 rfl⟩)
                · intro vs
                  simp only [Act.put, List.setIfInBounds_toArray, List.set_cons_succ, List.set_cons_zero]
                  rfl
                refine gen_cons (A' := ?_) (fun vs L w1 hL hw1 => ?_) ?_ ?_
                rotate_left 1
                · obtain ⟨q0, q1⟩ := HO.out _ _ _ hw1
                  have l19 : L 19 = true := hL.need 19 (by kernel_rfl)
                  have e19 := q1 19 _ rfl l19
                  refine gen_yes ?_ ?_
                  · simp only [e19]
                    rfl
                  have l23 : L 23 = true := hL.need 23 (by kernel_rfl)
                  have e23 := q1 23 _ rfl l23
                  have l24 : L 24 = true := hL.need 24 (by kernel_rfl)
                  have e24 := q1 24 _ rfl l24
                  simp only [e23, e24]
                  go_simp
                  exact gr_val (HI.out _ _ _ ⟨q0, kn_known q1 rfl⟩)
                · intro vs
                  simp only [Act.put, List.setIfInBounds_toArray, List.set_cons_succ, List.set_cons_zero]
                  rfl
                refine gen_cons (A' := ?_) (fun vs L w1 hL hw1 => ?_) ?_ ?_
                rotate_left 1
                · obtain ⟨q0, q1⟩ := HO.out _ _ _ hw1
                  have l19 : L 19 = true := hL.need 19 (by kernel_rfl)
                  have e19 := q1 19 _ rfl l19
                  refine gen_yes ?_ ?_
                  · simp only [e19]
                    rfl
                  have l20 : L 20 = true := hL.need 20 (by kernel_rfl)
                  have e20 := q1 20 _ rfl l20
                  have l21 : L 21 = true := hL.need 21 (by kernel_rfl)
                  have e21 := q1 21 _ rfl l21
                  have l25 : L 25 = true := hL.need 25 (by kernel_rfl)
                  have e25 := q1 25 _ rfl l25
                  simp only [e20, e21, e25]
                  go_simp
                  refine gr_call ?_
                  refine (crowd_is A (some ad) (some ad) c c2 c2 ls.length k ns (ls.take k) l false w1 (h.grows (below_grows hB (Nat.le_refl _) q0)) hl (qs_take (h2.grows (below_grows hB (Nat.le_refl _) q0)) k hk) HT.out.1 HT.out.2 HC.out).mono ?_
                  rintro e w2 ⟨rfl, hg⟩
                  exact ⟨_, rfl, HI.out _ _ _ ⟨below_grows q0 (Nat.le_refl _) hg, kn_known q1 rfl⟩⟩
                · intro vs
                  simp only [Act.put, List.setIfInBounds_toArray, List.set_cons_succ, List.set_cons_zero]
                  rfl
                refine gen_cons (A' := ?_) (fun vs L w1 hL hw1 => ?_) ?_ ?_
                rotate_left 1
                · obtain ⟨q0, q1⟩ := HO.out _ _ _ hw1
                  refine gen_plain rfl ?_
                  have l19 : L 19 = true := hL.need 19 (by kernel_rfl)
                  have e19 := q1 19 _ rfl l19
                  have l26 : L 26 = true := hL.need 26 (by kernel_rfl)
                  have e26 := q1 26 _ rfl l26
                  simp only [e19, e26]
                  go_simp
                  exact gr_val (HI.out _ _ _ ⟨q0, kn_known q1 rfl⟩)
                · intro vs
                  simp only [Act.put, List.setIfInBounds_toArray, List.set_cons_succ, List.set_cons_zero]
                  rfl
                refine gen_nil ?_
                intro vs L W6 hall hS
                obtain ⟨hq, q1⟩ := HO.out _ _ _ hS
                have eX27 := q1 27 _ rfl (hall 27 (by simp))
                clear hall hS HI HO q1
                simp only [eX27]
                go_wp2
                go_roundw
                case rel => exact ⟨k + 1, by omega, by go_num, HA2, below_grows hB (Nat.le_refl _) hq, k1.grows hq⟩
                case measure => simp [intOf]; omega
              · have HF2 : Hid (stepK ns ls k = false) := Lib.hid (by rw [stepK_at HX.out, HC.out]; simp)
                obtain ⟨S, HI, HO⟩ : ∃ S : Ran → (Nat → Value) → World → Prop, Hid (∀ L vs w', (Grows w7 w' ∧ KnS [some (.agg #[.slice A ns.length c, .slice (some ad) ls.length c2]), some (.agg #[.int .i64 l.a, .int .i64 l.b, .int .i64 l.c, .int .i64 l.d]), some (.bool true), some (.bool false), some (.bool false), some (.int .i64 (k : Int)), some (.bool false), some (.bool false), none, none, none, none, none, none, none, none, none, some (.bool false), some (.bool false), some (.bool false), some (.agg #[.slice A ns.length c, .slice (some ad) ls.length c2]), some (.agg #[.int .i64 l.a, .int .i64 l.b, .int .i64 l.c, .int .i64 l.d]), some (.pointer (some ⟨w.heap.size, 1, none⟩)), some (.slice (some ad) ls.length c2), some (.int .i64 (k : Int)), some (.slice (some ad) k c2), some (.bool true), some (.bool true)] L vs) → S L vs w') ∧ Hid (∀ L vs w', S L vs w' → (Grows w7 w' ∧ KnS [some (.agg #[.slice A ns.length c, .slice (some ad) ls.length c2]), some (.agg #[.int .i64 l.a, .int .i64 l.b, .int .i64 l.c, .int .i64 l.d]), some (.bool true), some (.bool false), some (.bool false), some (.int .i64 (k : Int)), some (.bool false), some (.bool false), none, none, none, none, none, none, none, none, none, some (.bool false), some (.bool false), some (.bool false), some (.agg #[.slice A ns.length c, .slice (some ad) ls.length c2]), some (.agg #[.int .i64 l.a, .int .i64 l.b, .int .i64 l.c, .int .i64 l.d]), some (.pointer (some ⟨w.heap.size, 1, none⟩)), some (.slice (some ad) ls.length c2), some (.int .i64 (k : Int)), some (.slice (some ad) k c2), some (.bool true), some (.bool true)] L vs)) := ⟨fun L vs w' => Grows w7 w' ∧ KnS [some (.agg #[.slice A ns.length c, .slice (some ad) ls.length c2]), some (.agg #[.int .i64 l.a, .int .i64 l.b, .int .i64 l.c, .int .i64 l.d]), some (.bool true), some (.bool false), some (.bool false), some (.int .i64 (k : Int)), some (.bool false), some (.bool false), none, none, none, none, none, none, none, none, none, some (.bool false), some (.bool false), some (.bool false), some (.agg #[.slice A ns.length c, .slice (some ad) ls.length c2]), some (.agg #[.int .i64 l.a, .int .i64 l.b, .int .i64 l.c, .int .i64 l.d]), some (.pointer (some ⟨w.heap.size, 1, none⟩)), some (.slice (some ad) ls.length c2), some (.int .i64 (k : Int)), some (.slice (some ad) k c2), some (.bool true), some (.bool true)] L vs, fun _ _ _ h => h, fun _ _ _ h => h⟩
                refine wp_region_genW S 89 (by kernel_rfl) (by kernel_rfl) rfl ?_ ?_
                · exact HI.out _ _ _ ⟨Grows.drew' _, kn_none _ _⟩
                refine gen_cons (A' := ?_) (fun vs L w1 hL hw1 => ?_) ?_ ?_
                rotate_left 1
                · obtain ⟨q0, q1⟩ := HO.out _ _ _ hw1
                  refine gen_plain rfl ?_
                  have x := (k1.grows q0).cell 
                  go_simp
                  exact gr_val (HI.out _ _ _ ⟨q0, kn_known q1 rfl⟩)
                · intro vs
                  simp only [Act.put, List.setIfInBounds_toArray, List.set_cons_succ, List.set_cons_zero]
                  rfl
                refine gen_cons (A' := ?_) (fun vs L w1 hL hw1 => ?_) ?_ ?_
                rotate_left 1
                · obtain ⟨q0, q1⟩ := HO.out _ _ _ hw1
                  refine gen_plain rfl ?_
                  have x := (k6.grows q0).cell 
                  go_simp
                  exact gr_val (HI.out _ _ _ ⟨q0, kn_known q1 rfl⟩)
                · intro vs
                  simp only [Act.put, List.setIfInBounds_toArray, List.set_cons_succ, List.set_cons_zero]
                  rfl
                refine gen_cons (A' := ?_) (fun vs L w1 hL hw1 => ?_) ?_ ?_
                rotate_left 1
                · obtain ⟨q0, q1⟩ := HO.out _ _ _ hw1
                  refine gen_plain rfl ?_
                  have l0 : L 0 = true := hL.need 0 (by kernel_rfl)
                  have e0 := q1 0 _ rfl l0
                  have l1 : L 1 = true := hL.need 1 (by kernel_rfl)
                  have e1 := q1 1 _ rfl l1
                  simp only [e0, e1]
                  go_simp
                  refine gr_call ?_
                  refine (ports_is A (some ad) c c2 ls.length ns l true w1 (h.grows (below_grows hB (Nat.le_refl _) q0)) hl HE.out).mono ?_
                  rintro e w2 ⟨rfl, hg⟩
                  exact ⟨_, rfl, HI.out _ _ _ ⟨below_grows q0 (Nat.le_refl _) hg, kn_known q1 rfl⟩⟩
                · intro vs
                  simp only [Act.put, List.setIfInBounds_toArray, List.set_cons_succ, List.set_cons_zero]
                  rfl
                refine gen_cons (A' := ?_) (fun vs L w1 hL hw1 => ?_) ?_ ?_
                rotate_left 1
                · obtain ⟨q0, q1⟩ := HO.out _ _ _ hw1
                  refine gen_plain rfl ?_
                  have l2 : L 2 = true := hL.need 2 (by kernel_rfl)
                  have e2 := q1 2 _ rfl l2
                  simp only [e2]
                  go_simp
                  exact gr_val (HI.out _ _ _ ⟨q0, kn_known q1 rfl⟩)
                · intro vs
                  simp only [Act.put, List.setIfInBounds_toArray, List.set_cons_succ, List.set_cons_zero]
                  rfl
                refine gen_cons (A' := ?_) (fun vs L w1 hL hw1 => ?_) ?_ ?_
                rotate_left 1
                · obtain ⟨q0, q1⟩ := HO.out _ _ _ hw1
                  refine gen_plain rfl ?_
                  have l3 : L 3 = true := hL.need 3 (by kernel_rfl)
                  have e3 := q1 3 _ rfl l3
                  simp only [e3]
                  go_simp
                  exact gr_val (HI.out _ _ _ ⟨q0, kn_known q1 rfl⟩)
                · intro vs
                  simp only [Act.put, List.setIfInBounds_toArray, List.set_cons_succ, List.set_cons_zero]
                  rfl
                refine gen_cons (A' := ?_) (fun vs L w1 hL hw1 => ?_) ?_ ?_
                rotate_left 1
                · obtain ⟨q0, q1⟩ := HO.out _ _ _ hw1
                  have l4 : L 4 = true := hL.need 4 (by kernel_rfl)
                  have e4 := q1 4 _ rfl l4
                  refine gen_yes ?_ ?_
                  · simp only [e4]
                    rfl
                  go_simp
                  exact gr_val (HI.out _ _ _ ⟨q0, kn_known q1 rfl⟩)
                · intro vs
                  simp only [Act.put, List.setIfInBounds_toArray, List.set_cons_succ, List.set_cons_zero]
                  rfl
                refine gen_cons (A' := ?_) (fun vs L w1 hL hw1 => ?_) ?_ ?_
                rotate_left 1
                · obtain ⟨q0, q1⟩ := HO.out _ _ _ hw1
                  have l4 : L 4 = true := hL.need 4 (by kernel_rfl)
                  have e4 := q1 4 _ rfl l4
                  refine gen_yes ?_ ?_
                  · simp only [e4]
                    rfl
                  have l5 : L 5 = true := hL.need 5 (by kernel_rfl)
                  have e5 := q1 5 _ rfl l5
                  simp only [e5]
                  go_simp
                  exact gr_val (HI.out _ _ _ ⟨q0, kn_known q1 rfl⟩)
                · intro vs
                  simp only [Act.put, List.setIfInBounds_toArray, List.set_cons_succ, List.set_cons_zero]
                  rfl
                refine gen_cons (A' := ?_) (fun vs L w1 hL hw1 => ?_) ?_ ?_
                rotate_left 1
                · obtain ⟨q0, q1⟩ := HO.out _ _ _ hw1
                  have l4 : L 4 = true := hL.need 4 (by kernel_rfl)
                  have e4 := q1 4 _ rfl l4
                  refine gen_yes ?_ ?_
                  · simp only [e4]
                    rfl
                  have l6 : L 6 = true := hL.need 6 (by kernel_rfl)
                  have e6 := q1 6 _ rfl l6
                  simp only [e6]
                  go_simp
                  exact gr_val (HI.out _ _ _ ⟨q0, kn_known q1 rfl⟩)
                · intro vs
                  simp only [Act.put, List.setIfInBounds_toArray, List.set_cons_succ, List.set_cons_zero]
                  rfl
                refine gen_cons (A' := ?_) (fun vs L w1 hL hw1 => ?_) ?_ ?_
                rotate_left 1
                · obtain ⟨q0, q1⟩ := HO.out _ _ _ hw1
                  have l7 : L 7 = true := hL.need 7 (by kernel_rfl)
                  have e7 := q1 7 _ rfl l7
                  refine gen_no ?_ ?_
                  · simp only [e7]
                    rfl
                  · exact HI.out _ _ _ ⟨q0, kn_free q1 rfl⟩
                · intro vs
                  simp only [Act.put, List.setIfInBounds_toArray, List.set_cons_succ, List.set_cons_zero]
                  rfl
                refine gen_cons (A' := ?_) (fun vs L w1 hL hw1 => ?_) ?_ ?_
                rotate_left 1
                · obtain ⟨q0, q1⟩ := HO.out _ _ _ hw1
                  have l7 : L 7 = true := hL.need 7 (by kernel_rfl)
                  have e7 := q1 7 _ rfl l7
                  refine gen_no ?_ ?_
                  · simp only [e7]
                    rfl
                  · exact HI.out _ _ _ ⟨q0, kn_free q1 rfl⟩
                · intro vs
                  simp only [Act.put, List.setIfInBounds_toArray, List.set_cons_succ, List.set_cons_zero]
                  rfl
                refine gen_cons (A' := ?_) (fun vs L w1 hL hw1 => ?_) ?_ ?_
                rotate_left 1
                · obtain ⟨q0, q1⟩ := HO.out _ _ _ hw1
                  have l7 : L 7 = true := hL.need 7 (by kernel_rfl)
                  have e7 := q1 7 _ rfl l7
                  refine gen_no ?_ ?_
                  · simp only [e7]
                    rfl
                  · exact HI.out _ _ _ ⟨q0, kn_free q1 rfl⟩
                · intro vs
                  simp only [Act.put, List.setIfInBounds_toArray, List.set_cons_succ, List.set_cons_zero]
                  rfl
                refine gen_cons (A' := ?_) (fun vs L w1 hL hw1 => ?_) ?_ ?_
                rotate_left 1
                · obtain ⟨q0, q1⟩ := HO.out _ _ _ hw1
                  have l7 : L 7 = true := hL.need 7 (by kernel_rfl)
                  have e7 := q1 7 _ rfl l7
                  refine gen_no ?_ ?_
                  · simp only [e7]
                    rfl
                  · exact HI.out _ _ _ ⟨q0, kn_free q1 rfl⟩
                · intro vs
                  simp only [Act.put, List.setIfInBounds_toArray, List.set_cons_succ, List.set_cons_zero]
                  rfl
                refine gen_cons (A' := ?_) (fun vs L w1 hL hw1 => ?_) ?_ ?_
                rotate_left 1
                · obtain ⟨q0, q1⟩ := HO.out _ _ _ hw1
                  have l7 : L 7 = true := hL.need 7 (by kernel_rfl)
                  have e7 := q1 7 _ rfl l7
                  refine gen_no ?_ ?_
                  · simp only [e7]
                    rfl
                  · exact HI.out _ _ _ ⟨q0, kn_free q1 rfl⟩
                · intro vs
                  simp only [Act.put, List.setIfInBounds_toArray, List.set_cons_succ, List.set_cons_zero]
                  rfl
                refine gen_cons (A' := ?_) (fun vs L w1 hL hw1 => ?_) ?_ ?_
                rotate_left 1
                · obtain ⟨q0, q1⟩ := HO.out _ _ _ hw1
                  have l7 : L 7 = true := hL.need 7 (by kernel_rfl)
                  have e7 := q1 7 _ rfl l7
                  refine gen_no ?_ ?_
                  · simp only [e7]
                    rfl
                  · exact HI.out _ _ _ ⟨q0, kn_free q1 rfl⟩
                · intro vs
                  simp only [Act.put, List.setIfInBounds_toArray, List.set_cons_succ, List.set_cons_zero]
                  rfl
                refine gen_cons (A' := ?_) (fun vs L w1 hL hw1 => ?_) ?_ ?_
                rotate_left 1
                · obtain ⟨q0, q1⟩ := HO.out _ _ _ hw1
                  have l7 : L 7 = true := hL.need 7 (by kernel_rfl)
                  have e7 := q1 7 _ rfl l7
                  refine gen_no ?_ ?_
                  · simp only [e7]
                    rfl
                  · exact HI.out _ _ _ ⟨q0, kn_free q1 rfl⟩
                · intro vs
                  simp only [Act.put, List.setIfInBounds_toArray, List.set_cons_succ, List.set_cons_zero]
                  rfl
                refine gen_cons (A' := ?_) (fun vs L w1 hL hw1 => ?_) ?_ ?_
                rotate_left 1
                · obtain ⟨q0, q1⟩ := HO.out _ _ _ hw1
                  have l7 : L 7 = true := hL.need 7 (by kernel_rfl)
                  have e7 := q1 7 _ rfl l7
                  refine gen_no ?_ ?_
                  · simp only [e7]
                    rfl
                  · exact HI.out _ _ _ ⟨q0, kn_free q1 rfl⟩
                · intro vs
                  simp only [Act.put, List.setIfInBounds_toArray, List.set_cons_succ, List.set_cons_zero]
                  rfl
                refine gen_cons (A' := ?_) (fun vs L w1 hL hw1 => ?_) ?_ ?_
                rotate_left 1
                · obtain ⟨q0, q1⟩ := HO.out _ _ _ hw1
                  have l7 : L 7 = true := hL.need 7 (by kernel_rfl)
                  have e7 := q1 7 _ rfl l7
                  refine gen_no ?_ ?_
                  · simp only [e7]
                    rfl
                  · exact HI.out _ _ _ ⟨q0, kn_free q1 rfl⟩
                · intro vs
                  simp only [Act.put, List.setIfInBounds_toArray, List.set_cons_succ, List.set_cons_zero]
                  rfl
                refine gen_cons (A' := ?_) (fun vs L w1 hL hw1 => ?_) ?_ ?_
                rotate_left 1
                · obtain ⟨q0, q1⟩ := HO.out _ _ _ hw1
                  have l4 : L 4 = true := hL.need 4 (by kernel_rfl)
                  have e4 := q1 4 _ rfl l4
                  refine gen_yes ?_ ?_
                  · simp only [e4]
                    rfl
                  have l7 : L 7 = true := hL.need 7 (by kernel_rfl)
                  have e7 := q1 7 _ rfl l7
                  simp only [e7]
                  go_simp
                  exact gr_val (HI.out _ _ _ ⟨q0, kn_known q1 rfl⟩)
                · intro vs
                  simp only [Act.put, List.setIfInBounds_toArray, List.set_cons_succ, List.set_cons_zero]
                  rfl
                refine gen_cons (A' := ?_) (fun vs L w1 hL hw1 => ?_) ?_ ?_
                rotate_left 1
                · obtain ⟨q0, q1⟩ := HO.out _ _ _ hw1
                  refine gen_plain rfl ?_
                  have l4 : L 4 = true := hL.need 4 (by kernel_rfl)
                  have e4 := q1 4 _ rfl l4
                  have l17 : L 17 = true := hL.need 17 (by kernel_rfl)
                  have e17 := q1 17 _ rfl l17
                  simp only [e4, e17]
                  go_simp
                  exact gr_val (HI.out _ _ _ ⟨q0, kn_known q1 rfl⟩)
                · intro vs
                  simp only [Act.put, List.setIfInBounds_toArray, List.set_cons_succ, List.set_cons_zero]
                  rfl
                refine gen_cons (A' := ?_) (fun vs L w1 hL hw1 => ?_) ?_ ?_
                rotate_left 1
                · obtain ⟨q0, q1⟩ := HO.out _ _ _ hw1
                  refine gen_plain rfl ?_
                  have l18 : L 18 = true := hL.need 18 (by kernel_rfl)
                  have e18 := q1 18 _ rfl l18
                  simp only [e18]
                  go_simp
                  exact gr_val (HI.out _ _ _ ⟨q0, kn_known q1 rfl⟩)
                · intro vs
                  simp only [Act.put, List.setIfInBounds_toArray, List.set_cons_succ, List.set_cons_zero]
                  rfl
                refine gen_cons (A' := ?_) (fun vs L w1 hL hw1 => ?_) ?_ ?_
                rotate_left 1
                · obtain ⟨q0, q1⟩ := HO.out _ _ _ hw1
                  have l19 : L 19 = true := hL.need 19 (by kernel_rfl)
                  have e19 := q1 19 _ rfl l19
                  refine gen_yes ?_ ?_
                  · simp only [e19]
                    rfl
                  have x := (k1.grows q0).cell 
                  go_simp
                  exact gr_val (HI.out _ _ _ ⟨q0, kn_known q1 rfl⟩)
                · intro vs
                  simp only [Act.put, List.setIfInBounds_toArray, List.set_cons_succ, List.set_cons_zero]
                  rfl
                refine gen_cons (A' := ?_) (fun vs L w1 hL hw1 => ?_) ?_ ?_
                rotate_left 1
                · obtain ⟨q0, q1⟩ := HO.out _ _ _ hw1
                  have l19 : L 19 = true := hL.need 19 (by kernel_rfl)
                  have e19 := q1 19 _ rfl l19
                  refine gen_yes ?_ ?_
                  · simp only [e19]
                    rfl
                  have x := (k6.grows q0).cell 
                  go_simp
                  exact gr_val (HI.out _ _ _ ⟨q0, kn_known q1 rfl⟩)
                · intro vs
                  simp only [Act.put, List.setIfInBounds_toArray, List.set_cons_succ, List.set_cons_zero]
                  rfl
                refine gen_cons (A' := ?_) (fun vs L w1 hL hw1 => ?_) ?_ ?_
                rotate_left 1
                · obtain ⟨q0, q1⟩ := HO.out _ _ _ hw1
                  have l19 : L 19 = true := hL.need 19 (by kernel_rfl)
                  have e19 := q1 19 _ rfl l19
                  refine gen_yes ?_ ?_
                  · simp only [e19]
                    rfl
                  go_simp
                  exact gr_val (HI.out _ _ _ ⟨q0, kn_known q1 rfl⟩)
                · intro vs
                  simp only [Act.put, List.setIfInBounds_toArray, List.set_cons_succ, List.set_cons_zero]
                  rfl
                refine gen_cons (A' := ?_) (fun vs L w1 hL hw1 => ?_) ?_ ?_
                rotate_left 1
                · obtain ⟨q0, q1⟩ := HO.out _ _ _ hw1
                  have l19 : L 19 = true := hL.need 19 (by kernel_rfl)
                  have e19 := q1 19 _ rfl l19
                  refine gen_yes ?_ ?_
                  · simp only [e19]
                    rfl
                  have l22 : L 22 = true := hL.need 22 (by kernel_rfl)
                  have e22 := q1 22 _ rfl l22
                  have x := (k1.grows q0).cell 1
                  simp only [e22]
                  go_simp
                  exact gr_val (HI.out _ _ _ ⟨q0, kn_known q1 rfl⟩)
                · intro vs
                  simp only [Act.put, List.setIfInBounds_toArray, List.set_cons_succ, List.set_cons_zero]
                  rfl
                refine gen_cons (A' := ?_) (fun vs L w1 hL hw1 => ?_) ?_ ?_
                rotate_left 1
                · obtain ⟨q0, q1⟩ := HO.out _ _ _ hw1
                  have l19 : L 19 = true := hL.need 19 (by kernel_rfl)
                  have e19 := q1 19 _ rfl l19
                  refine gen_yes ?_ ?_
                  · simp only [e19]
                    rfl
                  go_simp
                  exact gr_val (HI.out _ _ _ ⟨q0, kn_known q1 rfl⟩)
                · intro vs
                  simp only [Act.put, List.setIfInBounds_toArray, List.set_cons_succ, List.set_cons_zero]
                  rfl
                refine gen_cons (A' := ?_) (fun vs L w1 hL hw1 => ?_) ?_ ?_
                rotate_left 1
                · obtain ⟨q0, q1⟩ := HO.out _ _ _ hw1
                  have l19 : L 19 = true := hL.need 19 (by kernel_rfl)
                  have e19 := q1 19 _ rfl l19
                  refine gen_yes ?_ ?_
                  · simp only [e19]
                    rfl
                  have l23 : L 23 = true := hL.need 23 (by kernel_rfl)
                  have e23 := q1 23 _ rfl l23
                  have l24 : L 24 = true := hL.need 24 (by kernel_rfl)
                  have e24 := q1 24 _ rfl l24
                  simp only [e23, e24]
                  go_simp
                  exact gr_val (HI.out _ _ _ ⟨q0, kn_known q1 rfl⟩)
                · intro vs
                  simp only [Act.put, List.setIfInBounds_toArray, List.set_cons_succ, List.set_cons_zero]
                  rfl
                refine gen_cons (A' := ?_) (fun vs L w1 hL hw1 => ?_) ?_ ?_
                rotate_left 1
                · obtain ⟨q0, q1⟩ := HO.out _ _ _ hw1
                  have l19 : L 19 = true := hL.need 19 (by kernel_rfl)
                  have e19 := q1 19 _ rfl l19
                  refine gen_yes ?_ ?_
                  · simp only [e19]
                    rfl
                  have l20 : L 20 = true := hL.need 20 (by kernel_rfl)
                  have e20 := q1 20 _ rfl l20
                  have l21 : L 21 = true := hL.need 21 (by kernel_rfl)
                  have e21 := q1 21 _ rfl l21
                  have l25 : L 25 = true := hL.need 25 (by kernel_rfl)
                  have e25 := q1 25 _ rfl l25
                  simp only [e20, e21, e25]
                  go_simp
                  refine gr_call ?_
                  refine (crowd_is A (some ad) (some ad) c c2 c2 ls.length k ns (ls.take k) l true w1 (h.grows (below_grows hB (Nat.le_refl _) q0)) hl (qs_take (h2.grows (below_grows hB (Nat.le_refl _) q0)) k hk) HT.out.1 HT.out.2 HC.out).mono ?_
                  rintro e w2 ⟨rfl, hg⟩
                  exact ⟨_, rfl, HI.out _ _ _ ⟨below_grows q0 (Nat.le_refl _) hg, kn_known q1 rfl⟩⟩
                · intro vs
                  simp only [Act.put, List.setIfInBounds_toArray, List.set_cons_succ, List.set_cons_zero]
                  rfl
                refine gen_cons (A' := ?_) (fun vs L w1 hL hw1 => ?_) ?_ ?_
                rotate_left 1
                · obtain ⟨q0, q1⟩ := HO.out _ _ _ hw1
                  refine gen_plain rfl ?_
                  have l19 : L 19 = true := hL.need 19 (by kernel_rfl)
                  have e19 := q1 19 _ rfl l19
                  have l26 : L 26 = true := hL.need 26 (by kernel_rfl)
                  have e26 := q1 26 _ rfl l26
                  simp only [e19, e26]
                  go_simp
                  exact gr_val (HI.out _ _ _ ⟨q0, kn_known q1 rfl⟩)
                · intro vs
                  simp only [Act.put, List.setIfInBounds_toArray, List.set_cons_succ, List.set_cons_zero]
                  rfl
                refine gen_nil ?_
                intro vs L W6 hall hS
                obtain ⟨hq, q1⟩ := HO.out _ _ _ hS
                have eX27 := q1 27 _ rfl (hall 27 (by simp))
                clear hall hS HI HO q1
                simp only [eX27]
                go_wp2
                go_ret
                refine ⟨ret_bool ?_, below_grows hB (Nat.le_refl _) hq⟩
                exact (valid_no2 hlt HF2.out).symm
            · obtain ⟨kp, hkp⟩ : ∃ kp, k = kp + 1 := ⟨k - 1, by omega⟩
              have hkl : kp < ls.length := by omega
              have hkc : k ≤ c2 := by omega
              have hk9 : decide (0 < k) = true := by simp; omega
              have hw : Hid ((k : Int) - 1 = (kp : Int)) := Lib.hid (by omega)
              have hw2 : Hid (IntKind.i64.wrap (kp : Int) = (kp : Int)) := Lib.hid (IntWalk.i64_in _ (by omega))
              have hw3 : Hid (k - 1 = kp) := Lib.hid (by omega)
              have hw4 : Hid ((k == 0) = false) := Lib.hid (by simp; omega)
              have HKP := Lib.hid hkp
              obtain ⟨ad', p, e, -, hp0, hp⟩ := h2.addr (k := kp) (by omega)
              injection e with e
              subst e
              clear hkp hk0
              have HP := Lib.hid hp0
              clear hp0
              cases hls : lessL p l
              · have HS := Lib.hid hls
                clear hls
                have HF2 : Hid (stepK ns ls k = false) := Lib.hid (by rw [stepK_at HX.out, hw3.out, getD_at HP.out, HS.out, hw4.out]; simp)
                obtain ⟨S, HI, HO⟩ : ∃ S : Ran → (Nat → Value) → World → Prop, Hid (∀ L vs w', (Grows w7 w' ∧ KnS [some (.agg #[.slice A ns.length c, .slice (some ad) ls.length c2]), some (.agg #[.int .i64 l.a, .int .i64 l.b, .int .i64 l.c, .int .i64 l.d]), some (.bool true), some (.bool false), some (.bool false), some (.int .i64 (k : Int)), some (.bool true), some (.bool true), some (.pointer (some ⟨w.heap.size, 1, none⟩)), some (.slice (some ad) ls.length c2), some (.int .i64 (k : Int)), some (.int .i64 (kp : Int)), some (.pointer (some (ad.add (kp * 4)))), some (.agg #[.int .i64 p.a, .int .i64 p.b, .int .i64 p.c, .int .i64 p.d]), some (.agg #[.int .i64 l.a, .int .i64 l.b, .int .i64 l.c, .int .i64 l.d]), some (.bool false), some (.bool true), some (.bool true), some (.bool true), some (.bool true), none, none, none, none, none, none, none, some (.bool true)] L vs) → S L vs w') ∧ Hid (∀ L vs w', S L vs w' → (Grows w7 w' ∧ KnS [some (.agg #[.slice A ns.length c, .slice (some ad) ls.length c2]), some (.agg #[.int .i64 l.a, .int .i64 l.b, .int .i64 l.c, .int .i64 l.d]), some (.bool true), some (.bool false), some (.bool false), some (.int .i64 (k : Int)), some (.bool true), some (.bool true), some (.pointer (some ⟨w.heap.size, 1, none⟩)), some (.slice (some ad) ls.length c2), some (.int .i64 (k : Int)), some (.int .i64 (kp : Int)), some (.pointer (some (ad.add (kp * 4)))), some (.agg #[.int .i64 p.a, .int .i64 p.b, .int .i64 p.c, .int .i64 p.d]), some (.agg #[.int .i64 l.a, .int .i64 l.b, .int .i64 l.c, .int .i64 l.d]), some (.bool false), some (.bool true), some (.bool true), some (.bool true), some (.bool true), none, none, none, none, none, none, none, some (.bool true)] L vs)) := ⟨fun L vs w' => Grows w7 w' ∧ KnS [some (.agg #[.slice A ns.length c, .slice (some ad) ls.length c2]), some (.agg #[.int .i64 l.a, .int .i64 l.b, .int .i64 l.c, .int .i64 l.d]), some (.bool true), some (.bool false), some (.bool false), some (.int .i64 (k : Int)), some (.bool true), some (.bool true), some (.pointer (some ⟨w.heap.size, 1, none⟩)), some (.slice (some ad) ls.length c2), some (.int .i64 (k : Int)), some (.int .i64 (kp : Int)), some (.pointer (some (ad.add (kp * 4)))), some (.agg #[.int .i64 p.a, .int .i64 p.b, .int .i64 p.c, .int .i64 p.d]), some (.agg #[.int .i64 l.a, .int .i64 l.b, .int .i64 l.c, .int .i64 l.d]), some (.bool false), some (.bool true), some (.bool true), some (.bool true), some (.bool true), none, none, none, none, none, none, none, some (.bool true)] L vs, fun _ _ _ h => h, fun _ _ _ h => h⟩
                refine wp_region_genW S 89 (by kernel_rfl) (by kernel_rfl) rfl ?_ ?_
                · exact HI.out _ _ _ ⟨Grows.drew' _, kn_none _ _⟩
                refine gen_cons (A' := ?_) (fun vs L w1 hL hw1 => ?_) ?_ ?_
                rotate_left 1
                · obtain ⟨q0, q1⟩ := HO.out _ _ _ hw1
                  refine gen_plain rfl ?_
                  have x := (k1.grows q0).cell 
                  go_simp
                  exact gr_val (HI.out _ _ _ ⟨q0, kn_known q1 rfl⟩)
                · intro vs
                  simp only [Act.put, List.setIfInBounds_toArray, List.set_cons_succ, List.set_cons_zero]
                  rfl
                refine gen_cons (A' := ?_) (fun vs L w1 hL hw1 => ?_) ?_ ?_
                rotate_left 1
                · obtain ⟨q0, q1⟩ := HO.out _ _ _ hw1
                  refine gen_plain rfl ?_
                  have x := (k6.grows q0).cell 
                  go_simp
                  exact gr_val (HI.out _ _ _ ⟨q0, kn_known q1 rfl⟩)
                · intro vs
                  simp only [Act.put, List.setIfInBounds_toArray, List.set_cons_succ, List.set_cons_zero]
                  rfl
                refine gen_cons (A' := ?_) (fun vs L w1 hL hw1 => ?_) ?_ ?_
                rotate_left 1
                · obtain ⟨q0, q1⟩ := HO.out _ _ _ hw1
                  refine gen_plain rfl ?_
                  have l0 : L 0 = true := hL.need 0 (by kernel_rfl)
                  have e0 := q1 0 _ rfl l0
                  have l1 : L 1 = true := hL.need 1 (by kernel_rfl)
                  have e1 := q1 1 _ rfl l1
                  simp only [e0, e1]
                  go_simp
                  refine gr_call ?_
                  refine (ports_is A (some ad) c c2 ls.length ns l true w1 (h.grows (below_grows hB (Nat.le_refl _) q0)) hl HE.out).mono ?_
                  rintro e w2 ⟨rfl, hg⟩
                  exact ⟨_, rfl, HI.out _ _ _ ⟨below_grows q0 (Nat.le_refl _) hg, kn_known q1 rfl⟩⟩
                · intro vs
                  simp only [Act.put, List.setIfInBounds_toArray, List.set_cons_succ, List.set_cons_zero]
                  rfl
                refine gen_cons (A' := ?_) (fun vs L w1 hL hw1 => ?_) ?_ ?_
                rotate_left 1
                · obtain ⟨q0, q1⟩ := HO.out _ _ _ hw1
                  refine gen_plain rfl ?_
                  have l2 : L 2 = true := hL.need 2 (by kernel_rfl)
                  have e2 := q1 2 _ rfl l2
                  simp only [e2]
                  go_simp
                  exact gr_val (HI.out _ _ _ ⟨q0, kn_known q1 rfl⟩)
                · intro vs
                  simp only [Act.put, List.setIfInBounds_toArray, List.set_cons_succ, List.set_cons_zero]
                  rfl
                refine gen_cons (A' := ?_) (fun vs L w1 hL hw1 => ?_) ?_ ?_
                rotate_left 1
                · obtain ⟨q0, q1⟩ := HO.out _ _ _ hw1
                  refine gen_plain rfl ?_
                  have l3 : L 3 = true := hL.need 3 (by kernel_rfl)
                  have e3 := q1 3 _ rfl l3
                  simp only [e3]
                  go_simp
                  exact gr_val (HI.out _ _ _ ⟨q0, kn_known q1 rfl⟩)
                · intro vs
                  simp only [Act.put, List.setIfInBounds_toArray, List.set_cons_succ, List.set_cons_zero]
                  rfl
                refine gen_cons (A' := ?_) (fun vs L w1 hL hw1 => ?_) ?_ ?_
                rotate_left 1
                · obtain ⟨q0, q1⟩ := HO.out _ _ _ hw1
                  have l4 : L 4 = true := hL.need 4 (by kernel_rfl)
                  have e4 := q1 4 _ rfl l4
                  refine gen_yes ?_ ?_
                  · simp only [e4]
                    rfl
                  go_simp
                  exact gr_val (HI.out _ _ _ ⟨q0, kn_known q1 rfl⟩)
                · intro vs
                  simp only [Act.put, List.setIfInBounds_toArray, List.set_cons_succ, List.set_cons_zero]
                  rfl
                refine gen_cons (A' := ?_) (fun vs L w1 hL hw1 => ?_) ?_ ?_
                rotate_left 1
                · obtain ⟨q0, q1⟩ := HO.out _ _ _ hw1
                  have l4 : L 4 = true := hL.need 4 (by kernel_rfl)
                  have e4 := q1 4 _ rfl l4
                  refine gen_yes ?_ ?_
                  · simp only [e4]
                    rfl
                  have l5 : L 5 = true := hL.need 5 (by kernel_rfl)
                  have e5 := q1 5 _ rfl l5
                  simp only [e5]
                  go_simp
                  exact gr_val (HI.out _ _ _ ⟨q0, kn_known q1 rfl⟩)
                · intro vs
                  simp only [Act.put, List.setIfInBounds_toArray, List.set_cons_succ, List.set_cons_zero]
                  rfl
                refine gen_cons (A' := ?_) (fun vs L w1 hL hw1 => ?_) ?_ ?_
                rotate_left 1
                · obtain ⟨q0, q1⟩ := HO.out _ _ _ hw1
                  have l4 : L 4 = true := hL.need 4 (by kernel_rfl)
                  have e4 := q1 4 _ rfl l4
                  refine gen_yes ?_ ?_
                  · simp only [e4]
                    rfl
                  have l6 : L 6 = true := hL.need 6 (by kernel_rfl)
                  have e6 := q1 6 _ rfl l6
                  simp only [e6]
                  go_simp
                  exact gr_val (HI.out _ _ _ ⟨q0, kn_known q1 rfl⟩)
                · intro vs
                  simp only [Act.put, List.setIfInBounds_toArray, List.set_cons_succ, List.set_cons_zero]
                  rfl
                refine gen_cons (A' := ?_) (fun vs L w1 hL hw1 => ?_) ?_ ?_
                rotate_left 1
                · obtain ⟨q0, q1⟩ := HO.out _ _ _ hw1
                  have l7 : L 7 = true := hL.need 7 (by kernel_rfl)
                  have e7 := q1 7 _ rfl l7
                  refine gen_yes ?_ ?_
                  · simp only [e7]
                    rfl
                  go_simp
                  exact gr_val (HI.out _ _ _ ⟨q0, kn_known q1 rfl⟩)
                · intro vs
                  simp only [Act.put, List.setIfInBounds_toArray, List.set_cons_succ, List.set_cons_zero]
                  rfl
                refine gen_cons (A' := ?_) (fun vs L w1 hL hw1 => ?_) ?_ ?_
                rotate_left 1
                · obtain ⟨q0, q1⟩ := HO.out _ _ _ hw1
                  have l7 : L 7 = true := hL.need 7 (by kernel_rfl)
                  have e7 := q1 7 _ rfl l7
                  refine gen_yes ?_ ?_
                  · simp only [e7]
                    rfl
                  have l8 : L 8 = true := hL.need 8 (by kernel_rfl)
                  have e8 := q1 8 _ rfl l8
                  have x := (k1.grows q0).cell 1
                  simp only [e8]
                  go_simp
                  exact gr_val (HI.out _ _ _ ⟨q0, kn_known q1 rfl⟩)
                · intro vs
                  simp only [Act.put, List.setIfInBounds_toArray, List.set_cons_succ, List.set_cons_zero]
                  rfl
                refine gen_cons (A' := ?_) (fun vs L w1 hL hw1 => ?_) ?_ ?_
                rotate_left 1
                · obtain ⟨q0, q1⟩ := HO.out _ _ _ hw1
                  have l7 : L 7 = true := hL.need 7 (by kernel_rfl)
                  have e7 := q1 7 _ rfl l7
                  refine gen_yes ?_ ?_
                  · simp only [e7]
                    rfl
                  go_simp
                  exact gr_val (HI.out _ _ _ ⟨q0, kn_known q1 rfl⟩)
                · intro vs
                  simp only [Act.put, List.setIfInBounds_toArray, List.set_cons_succ, List.set_cons_zero]
                  rfl
                refine gen_cons (A' := ?_) (fun vs L w1 hL hw1 => ?_) ?_ ?_
                rotate_left 1
                · obtain ⟨q0, q1⟩ := HO.out _ _ _ hw1
                  have l7 : L 7 = true := hL.need 7 (by kernel_rfl)
                  have e7 := q1 7 _ rfl l7
                  refine gen_yes ?_ ?_
                  · simp only [e7]
                    rfl
                  have l10 : L 10 = true := hL.need 10 (by kernel_rfl)
                  have e10 := q1 10 _ rfl l10
                  simp only [e10]
                  go_simp
                  try simp only [hw.out]
                  try simp only [hw2.out]
                  exact gr_val (HI.out _ _ _ ⟨q0, kn_known q1 rfl⟩)
                · intro vs
                  simp only [Act.put, List.setIfInBounds_toArray, List.set_cons_succ, List.set_cons_zero]
                  rfl
                refine gen_cons (A' := ?_) (fun vs L w1 hL hw1 => ?_) ?_ ?_
                rotate_left 1
                · obtain ⟨q0, q1⟩ := HO.out _ _ _ hw1
                  have l7 : L 7 = true := hL.need 7 (by kernel_rfl)
                  have e7 := q1 7 _ rfl l7
                  refine gen_yes ?_ ?_
                  · simp only [e7]
                    rfl
                  have l9 : L 9 = true := hL.need 9 (by kernel_rfl)
                  have e9 := q1 9 _ rfl l9
                  have l11 : L 11 = true := hL.need 11 (by kernel_rfl)
                  have e11 := q1 11 _ rfl l11
                  simp only [e9, e11]
                  go_simp
                  exact gr_val (HI.out _ _ _ ⟨q0, kn_known q1 rfl⟩)
                · intro vs
                  simp only [Act.put, List.setIfInBounds_toArray, List.set_cons_succ, List.set_cons_zero]
                  rfl
                refine gen_cons (A' := ?_) (fun vs L w1 hL hw1 => ?_) ?_ ?_
                rotate_left 1
                · obtain ⟨q0, q1⟩ := HO.out _ _ _ hw1
                  have l7 : L 7 = true := hL.need 7 (by kernel_rfl)
                  have e7 := q1 7 _ rfl l7
                  refine gen_yes ?_ ?_
                  · simp only [e7]
                    rfl
                  have l12 : L 12 = true := hL.need 12 (by kernel_rfl)
                  have e12 := q1 12 _ rfl l12
                  simp only [e12]
                  obtain ⟨y0, y1, y2, y3⟩ := hp _ (below_grows hB (Nat.le_refl _) q0)
                  go_simp
                  exact gr_val (HI.out _ _ _ ⟨q0, kn_known q1 rfl⟩)
                · intro vs
                  simp only [Act.put, List.setIfInBounds_toArray, List.set_cons_succ, List.set_cons_zero]
                  rfl
                refine gen_cons (A' := ?_) (fun vs L w1 hL hw1 => ?_) ?_ ?_
                rotate_left 1
                · obtain ⟨q0, q1⟩ := HO.out _ _ _ hw1
                  have l7 : L 7 = true := hL.need 7 (by kernel_rfl)
                  have e7 := q1 7 _ rfl l7
                  refine gen_yes ?_ ?_
                  · simp only [e7]
                    rfl
                  have x := (k6.grows q0).cell 
                  go_simp
                  exact gr_val (HI.out _ _ _ ⟨q0, kn_known q1 rfl⟩)
                · intro vs
                  simp only [Act.put, List.setIfInBounds_toArray, List.set_cons_succ, List.set_cons_zero]
                  rfl
                refine gen_cons (A' := ?_) (fun vs L w1 hL hw1 => ?_) ?_ ?_
                rotate_left 1
                · obtain ⟨q0, q1⟩ := HO.out _ _ _ hw1
                  have l7 : L 7 = true := hL.need 7 (by kernel_rfl)
                  have e7 := q1 7 _ rfl l7
                  refine gen_yes ?_ ?_
                  · simp only [e7]
                    rfl
                  have l13 : L 13 = true := hL.need 13 (by kernel_rfl)
                  have e13 := q1 13 _ rfl l13
                  have l14 : L 14 = true := hL.need 14 (by kernel_rfl)
                  have e14 := q1 14 _ rfl l14
                  simp only [e13, e14]
                  go_simp
                  refine gr_call ?_
                  refine (less_is p l false w1 HS.out).mono ?_
                  rintro e w2 ⟨rfl, hg⟩
                  exact ⟨_, rfl, HI.out _ _ _ ⟨below_grows q0 (Nat.le_refl _) hg, kn_known q1 rfl⟩⟩
                · intro vs
                  simp only [Act.put, List.setIfInBounds_toArray, List.set_cons_succ, List.set_cons_zero]
                  rfl
                refine gen_cons (A' := ?_) (fun vs L w1 hL hw1 => ?_) ?_ ?_
                rotate_left 1
                · obtain ⟨q0, q1⟩ := HO.out _ _ _ hw1
                  have l7 : L 7 = true := hL.need 7 (by kernel_rfl)
                  have e7 := q1 7 _ rfl l7
                  refine gen_yes ?_ ?_
                  · simp only [e7]
                    rfl
                  have l15 : L 15 = true := hL.need 15 (by kernel_rfl)
                  have e15 := q1 15 _ rfl l15
                  simp only [e15]
                  go_simp
                  exact gr_val (HI.out _ _ _ ⟨q0, kn_known q1 rfl⟩)
                · intro vs
                  simp only [Act.put, List.setIfInBounds_toArray, List.set_cons_succ, List.set_cons_zero]
                  rfl
                refine gen_cons (A' := ?_) (fun vs L w1 hL hw1 => ?_) ?_ ?_
                rotate_left 1
                · obtain ⟨q0, q1⟩ := HO.out _ _ _ hw1
                  have l4 : L 4 = true := hL.need 4 (by kernel_rfl)
                  have e4 := q1 4 _ rfl l4
                  refine gen_yes ?_ ?_
                  · simp only [e4]
                    rfl
                  have l7 : L 7 = true := hL.need 7 (by kernel_rfl)
                  have e7 := q1 7 _ rfl l7
                  have l16 : L 16 = true := hL.need 16 (by kernel_rfl)
                  have e16 := q1 16 _ rfl l16
                  simp only [e7, e16]
                  go_simp
                  exact gr_val (HI.out _ _ _ ⟨q0, kn_known q1 rfl⟩)
                · intro vs
                  simp only [Act.put, List.setIfInBounds_toArray, List.set_cons_succ, List.set_cons_zero]
                  rfl
                refine gen_cons (A' := ?_) (fun vs L w1 hL hw1 => ?_) ?_ ?_
                rotate_left 1
                · obtain ⟨q0, q1⟩ := HO.out _ _ _ hw1
                  refine gen_plain rfl ?_
                  have l4 : L 4 = true := hL.need 4 (by kernel_rfl)
                  have e4 := q1 4 _ rfl l4
                  have l17 : L 17 = true := hL.need 17 (by kernel_rfl)
                  have e17 := q1 17 _ rfl l17
                  simp only [e4, e17]
                  go_simp
                  exact gr_val (HI.out _ _ _ ⟨q0, kn_known q1 rfl⟩)
                · intro vs
                  simp only [Act.put, List.setIfInBounds_toArray, List.set_cons_succ, List.set_cons_zero]
                  rfl
                refine gen_cons (A' := ?_) (fun vs L w1 hL hw1 => ?_) ?_ ?_
                rotate_left 1
                · obtain ⟨q0, q1⟩ := HO.out _ _ _ hw1
                  refine gen_plain rfl ?_
                  have l18 : L 18 = true := hL.need 18 (by kernel_rfl)
                  have e18 := q1 18 _ rfl l18
                  simp only [e18]
                  go_simp
                  exact gr_val (HI.out _ _ _ ⟨q0, kn_known q1 rfl⟩)
                · intro vs
                  simp only [Act.put, List.setIfInBounds_toArray, List.set_cons_succ, List.set_cons_zero]
                  rfl
                refine gen_cons (A' := ?_) (fun vs L w1 hL hw1 => ?_) ?_ ?_
                rotate_left 1
                · obtain ⟨q0, q1⟩ := HO.out _ _ _ hw1
                  have l19 : L 19 = true := hL.need 19 (by kernel_rfl)
                  have e19 := q1 19 _ rfl l19
                  refine gen_no ?_ ?_
                  · simp only [e19]
                    rfl
                  · exact HI.out _ _ _ ⟨q0, kn_free q1 rfl⟩
                · intro vs
                  simp only [Act.put, List.setIfInBounds_toArray, List.set_cons_succ, List.set_cons_zero]
                  rfl
                refine gen_cons (A' := ?_) (fun vs L w1 hL hw1 => ?_) ?_ ?_
                rotate_left 1
                · obtain ⟨q0, q1⟩ := HO.out _ _ _ hw1
                  have l19 : L 19 = true := hL.need 19 (by kernel_rfl)
                  have e19 := q1 19 _ rfl l19
                  refine gen_no ?_ ?_
                  · simp only [e19]
                    rfl
                  · exact HI.out _ _ _ ⟨q0, kn_free q1 rfl⟩
                · intro vs
                  simp only [Act.put, List.setIfInBounds_toArray, List.set_cons_succ, List.set_cons_zero]
                  rfl
                refine gen_cons (A' := ?_) (fun vs L w1 hL hw1 => ?_) ?_ ?_
                rotate_left 1
                · obtain ⟨q0, q1⟩ := HO.out _ _ _ hw1
                  have l19 : L 19 = true := hL.need 19 (by kernel_rfl)
                  have e19 := q1 19 _ rfl l19
                  refine gen_no ?_ ?_
                  · simp only [e19]
                    rfl
                  · exact HI.out _ _ _ ⟨q0, kn_free q1 rfl⟩
                · intro vs
                  simp only [Act.put, List.setIfInBounds_toArray, List.set_cons_succ, List.set_cons_zero]
                  rfl
                refine gen_cons (A' := ?_) (fun vs L w1 hL hw1 => ?_) ?_ ?_
                rotate_left 1
                · obtain ⟨q0, q1⟩ := HO.out _ _ _ hw1
                  have l19 : L 19 = true := hL.need 19 (by kernel_rfl)
                  have e19 := q1 19 _ rfl l19
                  refine gen_no ?_ ?_
                  · simp only [e19]
                    rfl
                  · exact HI.out _ _ _ ⟨q0, kn_free q1 rfl⟩
                · intro vs
                  simp only [Act.put, List.setIfInBounds_toArray, List.set_cons_succ, List.set_cons_zero]
                  rfl
                refine gen_cons (A' := ?_) (fun vs L w1 hL hw1 => ?_) ?_ ?_
                rotate_left 1
                · obtain ⟨q0, q1⟩ := HO.out _ _ _ hw1
                  have l19 : L 19 = true := hL.need 19 (by kernel_rfl)
                  have e19 := q1 19 _ rfl l19
                  refine gen_no ?_ ?_
                  · simp only [e19]
                    rfl
                  · exact HI.out _ _ _ ⟨q0, kn_free q1 rfl⟩
                · intro vs
                  simp only [Act.put, List.setIfInBounds_toArray, List.set_cons_succ, List.set_cons_zero]
                  rfl
                refine gen_cons (A' := ?_) (fun vs L w1 hL hw1 => ?_) ?_ ?_
                rotate_left 1
                · obtain ⟨q0, q1⟩ := HO.out _ _ _ hw1
                  have l19 : L 19 = true := hL.need 19 (by kernel_rfl)
                  have e19 := q1 19 _ rfl l19
                  refine gen_no ?_ ?_
                  · simp only [e19]
                    rfl
                  · exact HI.out _ _ _ ⟨q0, kn_free q1 rfl⟩
                · intro vs
                  simp only [Act.put, List.setIfInBounds_toArray, List.set_cons_succ, List.set_cons_zero]
                  rfl
                refine gen_cons (A' := ?_) (fun vs L w1 hL hw1 => ?_) ?_ ?_
                rotate_left 1
                · obtain ⟨q0, q1⟩ := HO.out _ _ _ hw1
                  have l19 : L 19 = true := hL.need 19 (by kernel_rfl)
                  have e19 := q1 19 _ rfl l19
                  refine gen_no ?_ ?_
                  · simp only [e19]
                    rfl
                  · exact HI.out _ _ _ ⟨q0, kn_free q1 rfl⟩
                · intro vs
                  simp only [Act.put, List.setIfInBounds_toArray, List.set_cons_succ, List.set_cons_zero]
                  rfl
                refine gen_cons (A' := ?_) (fun vs L w1 hL hw1 => ?_) ?_ ?_
                rotate_left 1
                · obtain ⟨q0, q1⟩ := HO.out _ _ _ hw1
                  refine gen_plain rfl ?_
                  have l19 : L 19 = true := hL.need 19 (by kernel_rfl)
                  have e19 := q1 19 _ rfl l19
                  simp only [e19]
                  go_simp
                  exact gr_val (HI.out _ _ _ ⟨q0, kn_known q1 rfl⟩)
                · intro vs
                  simp only [Act.put, List.setIfInBounds_toArray, List.set_cons_succ, List.set_cons_zero]
                  rfl
                refine gen_nil ?_
                intro vs L W6 hall hS
                obtain ⟨hq, q1⟩ := HO.out _ _ _ hS
                have eX27 := q1 27 _ rfl (hall 27 (by simp))
                clear hall hS HI HO q1
                simp only [eX27]
                go_wp2
                go_ret
                refine ⟨ret_bool ?_, below_grows hB (Nat.le_refl _) hq⟩
                exact (valid_no2 hlt HF2.out).symm
              · have HS := Lib.hid hls
                clear hls
                cases cb
                · have HA2 := Lib.hid (range_all_up HA.out (by rw [stepK_at HX.out, HE.out, HC.out, hw3.out, getD_at HP.out, HS.out]; simp))
                  obtain ⟨S, HI, HO⟩ : ∃ S : Ran → (Nat → Value) → World → Prop, Hid (∀ L vs w', (Grows w7 w' ∧ KnS [some (.agg #[.slice A ns.length c, .slice (some ad) ls.length c2]), some (.agg #[.int .i64 l.a, .int .i64 l.b, .int .i64 l.c, .int .i64 l.d]), some (.bool true), some (.bool false), some (.bool false), some (.int .i64 (k : Int)), some (.bool true), some (.bool true), some (.pointer (some ⟨w.heap.size, 1, none⟩)), some (.slice (some ad) ls.length c2), some (.int .i64 (k : Int)), some (.int .i64 (kp : Int)), some (.pointer (some (ad.add (kp * 4)))), some (.agg #[.int .i64 p.a, .int .i64 p.b, .int .i64 p.c, .int .i64 p.d]), some (.agg #[.int .i64 l.a, .int .i64 l.b, .int .i64 l.c, .int .i64 l.d]), some (.bool true), some (.bool false), some (.bool false), some (.bool false), some (.bool false), some (.agg #[.slice A ns.length c, .slice (some ad) ls.length c2]), some (.agg #[.int .i64 l.a, .int .i64 l.b, .int .i64 l.c, .int .i64 l.d]), some (.pointer (some ⟨w.heap.size, 1, none⟩)), some (.slice (some ad) ls.length c2), some (.int .i64 (k : Int)), some (.slice (some ad) k c2), some (.bool false), some (.bool false)] L vs) → S L vs w') ∧ Hid (∀ L vs w', S L vs w' → (Grows w7 w' ∧ KnS [some (.agg #[.slice A ns.length c, .slice (some ad) ls.length c2]), some (.agg #[.int .i64 l.a, .int .i64 l.b, .int .i64 l.c, .int .i64 l.d]), some (.bool true), some (.bool false), some (.bool false), some (.int .i64 (k : Int)), some (.bool true), some (.bool true), some (.pointer (some ⟨w.heap.size, 1, none⟩)), some (.slice (some ad) ls.length c2), some (.int .i64 (k : Int)), some (.int .i64 (kp : Int)), some (.pointer (some (ad.add (kp * 4)))), some (.agg #[.int .i64 p.a, .int .i64 p.b, .int .i64 p.c, .int .i64 p.d]), some (.agg #[.int .i64 l.a, .int .i64 l.b, .int .i64 l.c, .int .i64 l.d]), some (.bool true), some (.bool false), some (.bool false), some (.bool false), some (.bool false), some (.agg #[.slice A ns.length c, .slice (some ad) ls.length c2]), some (.agg #[.int .i64 l.a, .int .i64 l.b, .int .i64 l.c, .int .i64 l.d]), some (.pointer (some ⟨w.heap.size, 1, none⟩)), some (.slice (some ad) ls.length c2), some (.int .i64 (k : Int)), some (.slice (some ad) k c2), some (.bool false), some (.bool false)] L vs)) := ⟨fun L vs w' => Grows w7 w' ∧ KnS [some (.agg #[.slice A ns.length c, .slice (some ad) ls.length c2]), some (.agg #[.int .i64 l.a, .int .i64 l.b, .int .i64 l.c, .int .i64 l.d]), some (.bool true), some (.bool false), some (.bool false), some (.int .i64 (k : Int)), some (.bool true), some (.bool true), some (.pointer (some ⟨w.heap.size, 1, none⟩)), some (.slice (some ad) ls.length c2), some (.int .i64 (k : Int)), some (.int .i64 (kp : Int)), some (.pointer (some (ad.add (kp * 4)))), some (.agg #[.int .i64 p.a, .int .i64 p.b, .int .i64 p.c, .int .i64 p.d]), some (.agg #[.int .i64 l.a, .int .i64 l.b, .int .i64 l.c, .int .i64 l.d]), some (.bool true), some (.bool false), some (.bool false), some (.bool false), some (.bool false), some (.agg #[.slice A ns.length c, .slice (some ad) ls.length c2]), some (.agg #[.int .i64 l.a, .int .i64 l.b, .int .i64 l.c, .int .i64 l.d]), some (.pointer (some ⟨w.heap.size, 1, none⟩)), some (.slice (some ad) ls.length c2), some (.int .i64 (k : Int)), some (.slice (some ad) k c2), some (.bool false), some (.bool false)] L vs, fun _ _ _ h => h, fun _ _ _ h => h⟩
                  refine wp_region_genW S 89 (by kernel_rfl) (by kernel_rfl) rfl ?_ ?_
                  · exact HI.out _ _ _ ⟨Grows.drew' _, kn_none _ _⟩
                  refine gen_cons (A' := ?_) (fun vs L w1 hL hw1 => ?_) ?_ ?_
                  rotate_left 1
                  · obtain ⟨q0, q1⟩ := HO.out _ _ _ hw1
                    refine gen_plain rfl ?_
                    have x := (k1.grows q0).cell 
                    go_simp
                    exact gr_val (HI.out _ _ _ ⟨q0, kn_known q1 rfl⟩)
                  · intro vs
                    simp only [Act.put, List.setIfInBounds_toArray, List.set_cons_succ, List.set_cons_zero]
                    rfl
                  refine gen_cons (A' := ?_) (fun vs L w1 hL hw1 => ?_) ?_ ?_
                  rotate_left 1
                  · obtain ⟨q0, q1⟩ := HO.out _ _ _ hw1
                    refine gen_plain rfl ?_
                    have x := (k6.grows q0).cell 
                    go_simp
                    exact gr_val (HI.out _ _ _ ⟨q0, kn_known q1 rfl⟩)
                  · intro vs
                    simp only [Act.put, List.setIfInBounds_toArray, List.set_cons_succ, List.set_cons_zero]
                    rfl
                  refine gen_cons (A' := ?_) (fun vs L w1 hL hw1 => ?_) ?_ ?_
                  rotate_left 1
                  · obtain ⟨q0, q1⟩ := HO.out _ _ _ hw1
                    refine gen_plain rfl ?_
                    have l0 : L 0 = true := hL.need 0 (by kernel_rfl)
                    have e0 := q1 0 _ rfl l0
                    have l1 : L 1 = true := hL.need 1 (by kernel_rfl)
                    have e1 := q1 1 _ rfl l1
                    simp only [e0, e1]
                    go_simp
                    refine gr_call ?_
                    refine (ports_is A (some ad) c c2 ls.length ns l true w1 (h.grows (below_grows hB (Nat.le_refl _) q0)) hl HE.out).mono ?_
                    rintro e w2 ⟨rfl, hg⟩
                    exact ⟨_, rfl, HI.out _ _ _ ⟨below_grows q0 (Nat.le_refl _) hg, kn_known q1 rfl⟩⟩
                  · intro vs
                    simp only [Act.put, List.setIfInBounds_toArray, List.set_cons_succ, List.set_cons_zero]
                    rfl
                  refine gen_cons (A' := ?_) (fun vs L w1 hL hw1 => ?_) ?_ ?_
                  rotate_left 1
                  · obtain ⟨q0, q1⟩ := HO.out _ _ _ hw1
                    refine gen_plain rfl ?_
                    have l2 : L 2 = true := hL.need 2 (by kernel_rfl)
                    have e2 := q1 2 _ rfl l2
                    simp only [e2]
                    go_simp
                    exact gr_val (HI.out _ _ _ ⟨q0, kn_known q1 rfl⟩)
                  · intro vs
                    simp only [Act.put, List.setIfInBounds_toArray, List.set_cons_succ, List.set_cons_zero]
                    rfl
                  refine gen_cons (A' := ?_) (fun vs L w1 hL hw1 => ?_) ?_ ?_
                  rotate_left 1
                  · obtain ⟨q0, q1⟩ := HO.out _ _ _ hw1
                    refine gen_plain rfl ?_
                    have l3 : L 3 = true := hL.need 3 (by kernel_rfl)
                    have e3 := q1 3 _ rfl l3
                    simp only [e3]
                    go_simp
                    exact gr_val (HI.out _ _ _ ⟨q0, kn_known q1 rfl⟩)
                  · intro vs
                    simp only [Act.put, List.setIfInBounds_toArray, List.set_cons_succ, List.set_cons_zero]
                    rfl
                  refine gen_cons (A' := ?_) (fun vs L w1 hL hw1 => ?_) ?_ ?_
                  rotate_left 1
                  · obtain ⟨q0, q1⟩ := HO.out _ _ _ hw1
                    have l4 : L 4 = true := hL.need 4 (by kernel_rfl)
                    have e4 := q1 4 _ rfl l4
                    refine gen_yes ?_ ?_
                    · simp only [e4]
                      rfl
                    go_simp
                    exact gr_val (HI.out _ _ _ ⟨q0, kn_known q1 rfl⟩)
                  · intro vs
                    simp only [Act.put, List.setIfInBounds_toArray, List.set_cons_succ, List.set_cons_zero]
                    rfl
                  refine gen_cons (A' := ?_) (fun vs L w1 hL hw1 => ?_) ?_ ?_
                  rotate_left 1
                  · obtain ⟨q0, q1⟩ := HO.out _ _ _ hw1
                    have l4 : L 4 = true := hL.need 4 (by kernel_rfl)
                    have e4 := q1 4 _ rfl l4
                    refine gen_yes ?_ ?_
                    · simp only [e4]
                      rfl
                    have l5 : L 5 = true := hL.need 5 (by kernel_rfl)
                    have e5 := q1 5 _ rfl l5
                    simp only [e5]
                    go_simp
                    exact gr_val (HI.out _ _ _ ⟨q0, kn_known q1 rfl⟩)
                  · intro vs
                    simp only [Act.put, List.setIfInBounds_toArray, List.set_cons_succ, List.set_cons_zero]
                    rfl
                  refine gen_cons (A' := ?_) (fun vs L w1 hL hw1 => ?_) ?_ ?_
                  rotate_left 1
                  · obtain ⟨q0, q1⟩ := HO.out _ _ _ hw1
                    have l4 : L 4 = true := hL.need 4 (by kernel_rfl)
                    have e4 := q1 4 _ rfl l4
                    refine gen_yes ?_ ?_
                    · simp only [e4]
                      rfl
                    have l6 : L 6 = true := hL.need 6 (by kernel_rfl)
                    have e6 := q1 6 _ rfl l6
                    simp only [e6]
                    go_simp
                    exact gr_val (HI.out _ _ _ ⟨q0, kn_known q1 rfl⟩)
                  · intro vs
                    simp only [Act.put, List.setIfInBounds_toArray, List.set_cons_succ, List.set_cons_zero]
                    rfl
                  refine gen_cons (A' := ?_) (fun vs L w1 hL hw1 => ?_) ?_ ?_
                  rotate_left 1
                  · obtain ⟨q0, q1⟩ := HO.out _ _ _ hw1
                    have l7 : L 7 = true := hL.need 7 (by kernel_rfl)
                    have e7 := q1 7 _ rfl l7
                    refine gen_yes ?_ ?_
                    · simp only [e7]
                      rfl
                    go_simp
                    exact gr_val (HI.out _ _ _ ⟨q0, kn_known q1 rfl⟩)
                  · intro vs
                    simp only [Act.put, List.setIfInBounds_toArray, List.set_cons_succ, List.set_cons_zero]
                    rfl
                  refine gen_cons (A' := ?_) (fun vs L w1 hL hw1 => ?_) ?_ ?_
                  rotate_left 1
                  · obtain ⟨q0, q1⟩ := HO.out _ _ _ hw1
                    have l7 : L 7 = true := hL.need 7 (by kernel_rfl)
                    have e7 := q1 7 _ rfl l7
                    refine gen_yes ?_ ?_
                    · simp only [e7]
                      rfl
                    have l8 : L 8 = true := hL.need 8 (by kernel_rfl)
                    have e8 := q1 8 _ rfl l8
                    have x := (k1.grows q0).cell 1
                    simp only [e8]
                    go_simp
                    exact gr_val (HI.out _ _ _ ⟨q0, kn_known q1 rfl⟩)
                  · intro vs
                    simp only [Act.put, List.setIfInBounds_toArray, List.set_cons_succ, List.set_cons_zero]
                    rfl
                  refine gen_cons (A' := ?_) (fun vs L w1 hL hw1 => ?_) ?_ ?_
                  rotate_left 1
                  · obtain ⟨q0, q1⟩ := HO.out _ _ _ hw1
                    have l7 : L 7 = true := hL.need 7 (by kernel_rfl)
                    have e7 := q1 7 _ rfl l7
                    refine gen_yes ?_ ?_
                    · simp only [e7]
                      rfl
                    go_simp
                    exact gr_val (HI.out _ _ _ ⟨q0, kn_known q1 rfl⟩)
                  · intro vs
                    simp only [Act.put, List.setIfInBounds_toArray, List.set_cons_succ, List.set_cons_zero]
                    rfl
                  refine gen_cons (A' := ?_) (fun vs L w1 hL hw1 => ?_) ?_ ?_
                  rotate_left 1
                  · obtain ⟨q0, q1⟩ := HO.out _ _ _ hw1
                    have l7 : L 7 = true := hL.need 7 (by kernel_rfl)
                    have e7 := q1 7 _ rfl l7
                    refine gen_yes ?_ ?_
                    · simp only [e7]
                      rfl
                    have l10 : L 10 = true := hL.need 10 (by kernel_rfl)
                    have e10 := q1 10 _ rfl l10
                    simp only [e10]
                    go_simp
                    try simp only [hw.out]
                    try simp only [hw2.out]
                    exact gr_val (HI.out _ _ _ ⟨q0, kn_known q1 rfl⟩)
                  · intro vs
                    simp only [Act.put, List.setIfInBounds_toArray, List.set_cons_succ, List.set_cons_zero]
                    rfl
                  refine gen_cons (A' := ?_) (fun vs L w1 hL hw1 => ?_) ?_ ?_
                  rotate_left 1
                  · obtain ⟨q0, q1⟩ := HO.out _ _ _ hw1
                    have l7 : L 7 = true := hL.need 7 (by kernel_rfl)
                    have e7 := q1 7 _ rfl l7
                    refine gen_yes ?_ ?_
                    · simp only [e7]
                      rfl
                    have l9 : L 9 = true := hL.need 9 (by kernel_rfl)
                    have e9 := q1 9 _ rfl l9
                    have l11 : L 11 = true := hL.need 11 (by kernel_rfl)
                    have e11 := q1 11 _ rfl l11
                    simp only [e9, e11]
                    go_simp
                    exact gr_val (HI.out _ _ _ ⟨q0, kn_known q1 rfl⟩)
                  · intro vs
                    simp only [Act.put, List.setIfInBounds_toArray, List.set_cons_succ, List.set_cons_zero]
                    rfl
                  refine gen_cons (A' := ?_) (fun vs L w1 hL hw1 => ?_) ?_ ?_
                  rotate_left 1
                  · obtain ⟨q0, q1⟩ := HO.out _ _ _ hw1
                    have l7 : L 7 = true := hL.need 7 (by kernel_rfl)
                    have e7 := q1 7 _ rfl l7
                    refine gen_yes ?_ ?_
                    · simp only [e7]
                      rfl
                    have l12 : L 12 = true := hL.need 12 (by kernel_rfl)
                    have e12 := q1 12 _ rfl l12
                    simp only [e12]
                    obtain ⟨y0, y1, y2, y3⟩ := hp _ (below_grows hB (Nat.le_refl _) q0)
                    go_simp
                    exact gr_val (HI.out _ _ _ ⟨q0, kn_known q1 rfl⟩)
                  · intro vs
                    simp only [Act.put, List.setIfInBounds_toArray, List.set_cons_succ, List.set_cons_zero]
                    rfl
                  refine gen_cons (A' := ?_) (fun vs L w1 hL hw1 => ?_) ?_ ?_
                  rotate_left 1
                  · obtain ⟨q0, q1⟩ := HO.out _ _ _ hw1
                    have l7 : L 7 = true := hL.need 7 (by kernel_rfl)
                    have e7 := q1 7 _ rfl l7
                    refine gen_yes ?_ ?_
                    · simp only [e7]
                      rfl
                    have x := (k6.grows q0).cell 
                    go_simp
                    exact gr_val (HI.out _ _ _ ⟨q0, kn_known q1 rfl⟩)
                  · intro vs
                    simp only [Act.put, List.setIfInBounds_toArray, List.set_cons_succ, List.set_cons_zero]
                    rfl
                  refine gen_cons (A' := ?_) (fun vs L w1 hL hw1 => ?_) ?_ ?_
                  rotate_left 1
                  · obtain ⟨q0, q1⟩ := HO.out _ _ _ hw1
                    have l7 : L 7 = true := hL.need 7 (by kernel_rfl)
                    have e7 := q1 7 _ rfl l7
                    refine gen_yes ?_ ?_
                    · simp only [e7]
                      rfl
                    have l13 : L 13 = true := hL.need 13 (by kernel_rfl)
                    have e13 := q1 13 _ rfl l13
                    have l14 : L 14 = true := hL.need 14 (by kernel_rfl)
                    have e14 := q1 14 _ rfl l14
                    simp only [e13, e14]
                    go_simp
                    refine gr_call ?_
                    refine (less_is p l true w1 HS.out).mono ?_
                    rintro e w2 ⟨rfl, hg⟩
                    exact ⟨_, rfl, HI.out _ _ _ ⟨below_grows q0 (Nat.le_refl _) hg, kn_known q1 rfl⟩⟩
                  · intro vs
                    simp only [Act.put, List.setIfInBounds_toArray, List.set_cons_succ, List.set_cons_zero]
                    rfl
                  refine gen_cons (A' := ?_) (fun vs L w1 hL hw1 => ?_) ?_ ?_
                  rotate_left 1
                  · obtain ⟨q0, q1⟩ := HO.out _ _ _ hw1
                    have l7 : L 7 = true := hL.need 7 (by kernel_rfl)
                    have e7 := q1 7 _ rfl l7
                    refine gen_yes ?_ ?_
                    · simp only [e7]
                      rfl
                    have l15 : L 15 = true := hL.need 15 (by kernel_rfl)
                    have e15 := q1 15 _ rfl l15
                    simp only [e15]
                    go_simp
                    exact gr_val (HI.out _ _ _ ⟨q0, kn_known q1 rfl⟩)
                  · intro vs
                    simp only [Act.put, List.setIfInBounds_toArray, List.set_cons_succ, List.set_cons_zero]
                    rfl
                  refine gen_cons (A' := ?_) (fun vs L w1 hL hw1 => ?_) ?_ ?_
                  rotate_left 1
                  · obtain ⟨q0, q1⟩ := HO.out _ _ _ hw1
                    have l4 : L 4 = true := hL.need 4 (by kernel_rfl)
                    have e4 := q1 4 _ rfl l4
                    refine gen_yes ?_ ?_
                    · simp only [e4]
                      rfl
                    have l7 : L 7 = true := hL.need 7 (by kernel_rfl)
                    have e7 := q1 7 _ rfl l7
                    have l16 : L 16 = true := hL.need 16 (by kernel_rfl)
                    have e16 := q1 16 _ rfl l16
                    simp only [e7, e16]
                    go_simp
                    exact gr_val (HI.out _ _ _ ⟨q0, kn_known q1 rfl⟩)
                  · intro vs
                    simp only [Act.put, List.setIfInBounds_toArray, List.set_cons_succ, List.set_cons_zero]
                    rfl
                  refine gen_cons (A' := ?_) (fun vs L w1 hL hw1 => ?_) ?_ ?_
                  rotate_left 1
                  · obtain ⟨q0, q1⟩ := HO.out _ _ _ hw1
                    refine gen_plain rfl ?_
                    have l4 : L 4 = true := hL.need 4 (by kernel_rfl)
                    have e4 := q1 4 _ rfl l4
                    have l17 : L 17 = true := hL.need 17 (by kernel_rfl)
                    have e17 := q1 17 _ rfl l17
                    simp only [e4, e17]
                    go_simp
                    exact gr_val (HI.out _ _ _ ⟨q0, kn_known q1 rfl⟩)
                  · intro vs
                    simp only [Act.put, List.setIfInBounds_toArray, List.set_cons_succ, List.set_cons_zero]
                    rfl
                  refine gen_cons (A' := ?_) (fun vs L w1 hL hw1 => ?_) ?_ ?_
                  rotate_left 1
                  · obtain ⟨q0, q1⟩ := HO.out _ _ _ hw1
                    refine gen_plain rfl ?_
                    have l18 : L 18 = true := hL.need 18 (by kernel_rfl)
                    have e18 := q1 18 _ rfl l18
                    simp only [e18]
                    go_simp
                    exact gr_val (HI.out _ _ _ ⟨q0, kn_known q1 rfl⟩)
                  · intro vs
                    simp only [Act.put, List.setIfInBounds_toArray, List.set_cons_succ, List.set_cons_zero]
                    rfl
                  refine gen_cons (A' := ?_) (fun vs L w1 hL hw1 => ?_) ?_ ?_
                  rotate_left 1
                  · obtain ⟨q0, q1⟩ := HO.out _ _ _ hw1
                    have l19 : L 19 = true := hL.need 19 (by kernel_rfl)
                    have e19 := q1 19 _ rfl l19
                    refine gen_yes ?_ ?_
                    · simp only [e19]
                      rfl
                    have x := (k1.grows q0).cell 
                    go_simp
                    exact gr_val (HI.out _ _ _ ⟨q0, kn_known q1 rfl⟩)
                  · intro vs
                    simp only [Act.put, List.setIfInBounds_toArray, List.set_cons_succ, List.set_cons_zero]
                    rfl
                  refine gen_cons (A' := ?_) (fun vs L w1 hL hw1 => ?_) ?_ ?_
                  rotate_left 1
                  · obtain ⟨q0, q1⟩ := HO.out _ _ _ hw1
                    have l19 : L 19 = true := hL.need 19 (by kernel_rfl)
                    have e19 := q1 19 _ rfl l19
                    refine gen_yes ?_ ?_
                    · simp only [e19]
                      rfl
                    have x := (k6.grows q0).cell 
                    go_simp
                    exact gr_val (HI.out _ _ _ ⟨q0, kn_known q1 rfl⟩)
                  · intro vs
                    simp only [Act.put, List.setIfInBounds_toArray, List.set_cons_succ, List.set_cons_zero]
                    rfl
                  refine gen_cons (A' := ?_) (fun vs L w1 hL hw1 => ?_) ?_ ?_
                  rotate_left 1
                  · obtain ⟨q0, q1⟩ := HO.out _ _ _ hw1
                    have l19 : L 19 = true := hL.need 19 (by kernel_rfl)
                    have e19 := q1 19 _ rfl l19
                    refine gen_yes ?_ ?_
                    · simp only [e19]
                      rfl
                    go_simp
                    exact gr_val (HI.out _ _ _ ⟨q0, kn_known q1 rfl⟩)
                  · intro vs
                    simp only [Act.put, List.setIfInBounds_toArray, List.set_cons_succ, List.set_cons_zero]
                    rfl
                  refine gen_cons (A' := ?_) (fun vs L w1 hL hw1 => ?_) ?_ ?_
                  rotate_left 1
                  · obtain ⟨q0, q1⟩ := HO.out _ _ _ hw1
                    have l19 : L 19 = true := hL.need 19 (by kernel_rfl)
                    have e19 := q1 19 _ rfl l19
                    refine gen_yes ?_ ?_
                    · simp only [e19]
                      rfl
                    have l22 : L 22 = true := hL.need 22 (by kernel_rfl)
                    have e22 := q1 22 _ rfl l22
                    have x := (k1.grows q0).cell 1
                    simp only [e22]
                    go_simp
                    exact gr_val (HI.out _ _ _ ⟨q0, kn_known q1 rfl⟩)
                  · intro vs
                    simp only [Act.put, List.setIfInBounds_toArray, List.set_cons_succ, List.set_cons_zero]
                    rfl
                  refine gen_cons (A' := ?_) (fun vs L w1 hL hw1 => ?_) ?_ ?_
                  rotate_left 1
                  · obtain ⟨q0, q1⟩ := HO.out _ _ _ hw1
                    have l19 : L 19 = true := hL.need 19 (by kernel_rfl)
                    have e19 := q1 19 _ rfl l19
                    refine gen_yes ?_ ?_
                    · simp only [e19]
                      rfl
                    go_simp
                    exact gr_val (HI.out _ _ _ ⟨q0, kn_known q1 rfl⟩)
                  · intro vs
                    simp only [Act.put, List.setIfInBounds_toArray, List.set_cons_succ, List.set_cons_zero]
                    rfl
                  refine gen_cons (A' := ?_) (fun vs L w1 hL hw1 => ?_) ?_ ?_
                  rotate_left 1
                  · obtain ⟨q0, q1⟩ := HO.out _ _ _ hw1
                    have l19 : L 19 = true := hL.need 19 (by kernel_rfl)
                    have e19 := q1 19 _ rfl l19
                    refine gen_yes ?_ ?_
                    · simp only [e19]
                      rfl
                    have l23 : L 23 = true := hL.need 23 (by kernel_rfl)
                    have e23 := q1 23 _ rfl l23
                    have l24 : L 24 = true := hL.need 24 (by kernel_rfl)
                    have e24 := q1 24 _ rfl l24
                    simp only [e23, e24]
                    go_simp
                    exact gr_val (HI.out _ _ _ ⟨q0, kn_known q1 rfl⟩)
                  · intro vs
                    simp only [Act.put, List.setIfInBounds_toArray, List.set_cons_succ, List.set_cons_zero]
                    rfl
                  refine gen_cons (A' := ?_) (fun vs L w1 hL hw1 => ?_) ?_ ?_
                  rotate_left 1
                  · obtain ⟨q0, q1⟩ := HO.out _ _ _ hw1
                    have l19 : L 19 = true := hL.need 19 (by kernel_rfl)
                    have e19 := q1 19 _ rfl l19
                    refine gen_yes ?_ ?_
                    · simp only [e19]
                      rfl
                    have l20 : L 20 = true := hL.need 20 (by kernel_rfl)
                    have e20 := q1 20 _ rfl l20
                    have l21 : L 21 = true := hL.need 21 (by kernel_rfl)
                    have e21 := q1 21 _ rfl l21
                    have l25 : L 25 = true := hL.need 25 (by kernel_rfl)
                    have e25 := q1 25 _ rfl l25
                    simp only [e20, e21, e25]
                    go_simp
                    refine gr_call ?_
                    refine (crowd_is A (some ad) (some ad) c c2 c2 ls.length k ns (ls.take k) l false w1 (h.grows (below_grows hB (Nat.le_refl _) q0)) hl (qs_take (h2.grows (below_grows hB (Nat.le_refl _) q0)) k hk) HT.out.1 HT.out.2 HC.out).mono ?_
                    rintro e w2 ⟨rfl, hg⟩
                    exact ⟨_, rfl, HI.out _ _ _ ⟨below_grows q0 (Nat.le_refl _) hg, kn_known q1 rfl⟩⟩
                  · intro vs
                    simp only [Act.put, List.setIfInBounds_toArray, List.set_cons_succ, List.set_cons_zero]
                    rfl
                  refine gen_cons (A' := ?_) (fun vs L w1 hL hw1 => ?_) ?_ ?_
                  rotate_left 1
                  · obtain ⟨q0, q1⟩ := HO.out _ _ _ hw1
                    refine gen_plain rfl ?_
                    have l19 : L 19 = true := hL.need 19 (by kernel_rfl)
                    have e19 := q1 19 _ rfl l19
                    have l26 : L 26 = true := hL.need 26 (by kernel_rfl)
                    have e26 := q1 26 _ rfl l26
                    simp only [e19, e26]
                    go_simp
                    exact gr_val (HI.out _ _ _ ⟨q0, kn_known q1 rfl⟩)
                  · intro vs
                    simp only [Act.put, List.setIfInBounds_toArray, List.set_cons_succ, List.set_cons_zero]
                    rfl
                  refine gen_nil ?_
                  intro vs L W6 hall hS
                  obtain ⟨hq, q1⟩ := HO.out _ _ _ hS
                  have eX27 := q1 27 _ rfl (hall 27 (by simp))
                  clear hall hS HI HO q1
                  simp only [eX27]
                  go_wp2
                  go_roundw
                  case rel => exact ⟨k + 1, by omega, by go_num, HA2, below_grows hB (Nat.le_refl _) hq, k1.grows hq⟩
                  case measure => simp [intOf]; omega
                · have HF2 : Hid (stepK ns ls k = false) := Lib.hid (by rw [stepK_at HX.out, HC.out]; simp)
                  obtain ⟨S, HI, HO⟩ : ∃ S : Ran → (Nat → Value) → World → Prop, Hid (∀ L vs w', (Grows w7 w' ∧ KnS [some (.agg #[.slice A ns.length c, .slice (some ad) ls.length c2]), some (.agg #[.int .i64 l.a, .int .i64 l.b, .int .i64 l.c, .int .i64 l.d]), some (.bool true), some (.bool false), some (.bool false), some (.int .i64 (k : Int)), some (.bool true), some (.bool true), some (.pointer (some ⟨w.heap.size, 1, none⟩)), some (.slice (some ad) ls.length c2), some (.int .i64 (k : Int)), some (.int .i64 (kp : Int)), some (.pointer (some (ad.add (kp * 4)))), some (.agg #[.int .i64 p.a, .int .i64 p.b, .int .i64 p.c, .int .i64 p.d]), some (.agg #[.int .i64 l.a, .int .i64 l.b, .int .i64 l.c, .int .i64 l.d]), some (.bool true), some (.bool false), some (.bool false), some (.bool false), some (.bool false), some (.agg #[.slice A ns.length c, .slice (some ad) ls.length c2]), some (.agg #[.int .i64 l.a, .int .i64 l.b, .int .i64 l.c, .int .i64 l.d]), some (.pointer (some ⟨w.heap.size, 1, none⟩)), some (.slice (some ad) ls.length c2), some (.int .i64 (k : Int)), some (.slice (some ad) k c2), some (.bool true), some (.bool true)] L vs) → S L vs w') ∧ Hid (∀ L vs w', S L vs w' → (Grows w7 w' ∧ KnS [some (.agg #[.slice A ns.length c, .slice (some ad) ls.length c2]), some (.agg #[.int .i64 l.a, .int .i64 l.b, .int .i64 l.c, .int .i64 l.d]), some (.bool true), some (.bool false), some (.bool false), some (.int .i64 (k : Int)), some (.bool true), some (.bool true), some (.pointer (some ⟨w.heap.size, 1, none⟩)), some (.slice (some ad) ls.length c2), some (.int .i64 (k : Int)), some (.int .i64 (kp : Int)), some (.pointer (some (ad.add (kp * 4)))), some (.agg #[.int .i64 p.a, .int .i64 p.b, .int .i64 p.c, .int .i64 p.d]), some (.agg #[.int .i64 l.a, .int .i64 l.b, .int .i64 l.c, .int .i64 l.d]), some (.bool true), some (.bool false), some (.bool false), some (.bool false), some (.bool false), some (.agg #[.slice A ns.length c, .slice (some ad) ls.length c2]), some (.agg #[.int .i64 l.a, .int .i64 l.b, .int .i64 l.c, .int .i64 l.d]), some (.pointer (some ⟨w.heap.size, 1, none⟩)), some (.slice (some ad) ls.length c2), some (.int .i64 (k : Int)), some (.slice (some ad) k c2), some (.bool true), some (.bool true)] L vs)) := ⟨fun L vs w' => Grows w7 w' ∧ KnS [some (.agg #[.slice A ns.length c, .slice (some ad) ls.length c2]), some (.agg #[.int .i64 l.a, .int .i64 l.b, .int .i64 l.c, .int .i64 l.d]), some (.bool true), some (.bool false), some (.bool false), some (.int .i64 (k : Int)), some (.bool true), some (.bool true), some (.pointer (some ⟨w.heap.size, 1, none⟩)), some (.slice (some ad) ls.length c2), some (.int .i64 (k : Int)), some (.int .i64 (kp : Int)), some (.pointer (some (ad.add (kp * 4)))), some (.agg #[.int .i64 p.a, .int .i64 p.b, .int .i64 p.c, .int .i64 p.d]), some (.agg #[.int .i64 l.a, .int .i64 l.b, .int .i64 l.c, .int .i64 l.d]), some (.bool true), some (.bool false), some (.bool false), some (.bool false), some (.bool false), some (.agg #[.slice A ns.length c, .slice (some ad) ls.length c2]), some (.agg #[.int .i64 l.a, .int .i64 l.b, .int .i64 l.c, .int .i64 l.d]), some (.pointer (some ⟨w.heap.size, 1, none⟩)), some (.slice (some ad) ls.length c2), some (.int .i64 (k : Int)), some (.slice (some ad) k c2), some (.bool true), some (.bool true)] L vs, fun _ _ _ h => h, fun _ _ _ h => h⟩
                  refine wp_region_genW S 89 (by kernel_rfl) (by kernel_rfl) rfl ?_ ?_
                  · exact HI.out _ _ _ ⟨Grows.drew' _, kn_none _ _⟩
                  refine gen_cons (A' := ?_) (fun vs L w1 hL hw1 => ?_) ?_ ?_
                  rotate_left 1
                  · obtain ⟨q0, q1⟩ := HO.out _ _ _ hw1
                    refine gen_plain rfl ?_
                    have x := (k1.grows q0).cell 
                    go_simp
                    exact gr_val (HI.out _ _ _ ⟨q0, kn_known q1 rfl⟩)
                  · intro vs
                    simp only [Act.put, List.setIfInBounds_toArray, List.set_cons_succ, List.set_cons_zero]
                    rfl
                  refine gen_cons (A' := ?_) (fun vs L w1 hL hw1 => ?_) ?_ ?_
                  rotate_left 1
                  · obtain ⟨q0, q1⟩ := HO.out _ _ _ hw1
                    refine gen_plain rfl ?_
                    have x := (k6.grows q0).cell 
                    go_simp
                    exact gr_val (HI.out _ _ _ ⟨q0, kn_known q1 rfl⟩)
                  · intro vs
                    simp only [Act.put, List.setIfInBounds_toArray, List.set_cons_succ, List.set_cons_zero]
                    rfl
                  refine gen_cons (A' := ?_) (fun vs L w1 hL hw1 => ?_) ?_ ?_
                  rotate_left 1
                  · obtain ⟨q0, q1⟩ := HO.out _ _ _ hw1
                    refine gen_plain rfl ?_
                    have l0 : L 0 = true := hL.need 0 (by kernel_rfl)
                    have e0 := q1 0 _ rfl l0
                    have l1 : L 1 = true := hL.need 1 (by kernel_rfl)
                    have e1 := q1 1 _ rfl l1
                    simp only [e0, e1]
                    go_simp
                    refine gr_call ?_
                    refine (ports_is A (some ad) c c2 ls.length ns l true w1 (h.grows (below_grows hB (Nat.le_refl _) q0)) hl HE.out).mono ?_
                    rintro e w2 ⟨rfl, hg⟩
                    exact ⟨_, rfl, HI.out _ _ _ ⟨below_grows q0 (Nat.le_refl _) hg, kn_known q1 rfl⟩⟩
                  · intro vs
                    simp only [Act.put, List.setIfInBounds_toArray, List.set_cons_succ, List.set_cons_zero]
                    rfl
                  refine gen_cons (A' := ?_) (fun vs L w1 hL hw1 => ?_) ?_ ?_
                  rotate_left 1
                  · obtain ⟨q0, q1⟩ := HO.out _ _ _ hw1
                    refine gen_plain rfl ?_
                    have l2 : L 2 = true := hL.need 2 (by kernel_rfl)
                    have e2 := q1 2 _ rfl l2
                    simp only [e2]
                    go_simp
                    exact gr_val (HI.out _ _ _ ⟨q0, kn_known q1 rfl⟩)
                  · intro vs
                    simp only [Act.put, List.setIfInBounds_toArray, List.set_cons_succ, List.set_cons_zero]
                    rfl
                  refine gen_cons (A' := ?_) (fun vs L w1 hL hw1 => ?_) ?_ ?_
                  rotate_left 1
                  · obtain ⟨q0, q1⟩ := HO.out _ _ _ hw1
                    refine gen_plain rfl ?_
                    have l3 : L 3 = true := hL.need 3 (by kernel_rfl)
                    have e3 := q1 3 _ rfl l3
                    simp only [e3]
                    go_simp
                    exact gr_val (HI.out _ _ _ ⟨q0, kn_known q1 rfl⟩)
                  · intro vs
                    simp only [Act.put, List.setIfInBounds_toArray, List.set_cons_succ, List.set_cons_zero]
                    rfl
                  refine gen_cons (A' := ?_) (fun vs L w1 hL hw1 => ?_) ?_ ?_
                  rotate_left 1
                  · obtain ⟨q0, q1⟩ := HO.out _ _ _ hw1
                    have l4 : L 4 = true := hL.need 4 (by kernel_rfl)
                    have e4 := q1 4 _ rfl l4
                    refine gen_yes ?_ ?_
                    · simp only [e4]
                      rfl
                    go_simp
                    exact gr_val (HI.out _ _ _ ⟨q0, kn_known q1 rfl⟩)
                  · intro vs
                    simp only [Act.put, List.setIfInBounds_toArray, List.set_cons_succ, List.set_cons_zero]
                    rfl
                  refine gen_cons (A' := ?_) (fun vs L w1 hL hw1 => ?_) ?_ ?_
                  rotate_left 1
                  · obtain ⟨q0, q1⟩ := HO.out _ _ _ hw1
                    have l4 : L 4 = true := hL.need 4 (by kernel_rfl)
                    have e4 := q1 4 _ rfl l4
                    refine gen_yes ?_ ?_
                    · simp only [e4]
                      rfl
                    have l5 : L 5 = true := hL.need 5 (by kernel_rfl)
                    have e5 := q1 5 _ rfl l5
                    simp only [e5]
                    go_simp
                    exact gr_val (HI.out _ _ _ ⟨q0, kn_known q1 rfl⟩)
                  · intro vs
                    simp only [Act.put, List.setIfInBounds_toArray, List.set_cons_succ, List.set_cons_zero]
                    rfl
                  refine gen_cons (A' := ?_) (fun vs L w1 hL hw1 => ?_) ?_ ?_
                  rotate_left 1
                  · obtain ⟨q0, q1⟩ := HO.out _ _ _ hw1
                    have l4 : L 4 = true := hL.need 4 (by kernel_rfl)
                    have e4 := q1 4 _ rfl l4
                    refine gen_yes ?_ ?_
                    · simp only [e4]
                      rfl
                    have l6 : L 6 = true := hL.need 6 (by kernel_rfl)
                    have e6 := q1 6 _ rfl l6
                    simp only [e6]
                    go_simp
                    exact gr_val (HI.out _ _ _ ⟨q0, kn_known q1 rfl⟩)
                  · intro vs
                    simp only [Act.put, List.setIfInBounds_toArray, List.set_cons_succ, List.set_cons_zero]
                    rfl
                  refine gen_cons (A' := ?_) (fun vs L w1 hL hw1 => ?_) ?_ ?_
                  rotate_left 1
                  · obtain ⟨q0, q1⟩ := HO.out _ _ _ hw1
                    have l7 : L 7 = true := hL.need 7 (by kernel_rfl)
                    have e7 := q1 7 _ rfl l7
                    refine gen_yes ?_ ?_
                    · simp only [e7]
                      rfl
                    go_simp
                    exact gr_val (HI.out _ _ _ ⟨q0, kn_known q1 rfl⟩)
                  · intro vs
                    simp only [Act.put, List.setIfInBounds_toArray, List.set_cons_succ, List.set_cons_zero]
                    rfl
                  refine gen_cons (A' := ?_) (fun vs L w1 hL hw1 => ?_) ?_ ?_
                  rotate_left 1
                  · obtain ⟨q0, q1⟩ := HO.out _ _ _ hw1
                    have l7 : L 7 = true := hL.need 7 (by kernel_rfl)
                    have e7 := q1 7 _ rfl l7
                    refine gen_yes ?_ ?_
                    · simp only [e7]
                      rfl
                    have l8 : L 8 = true := hL.need 8 (by kernel_rfl)
                    have e8 := q1 8 _ rfl l8
                    have x := (k1.grows q0).cell 1
                    simp only [e8]
                    go_simp
                    exact gr_val (HI.out _ _ _ ⟨q0, kn_known q1 rfl⟩)
                  · intro vs
                    simp only [Act.put, List.setIfInBounds_toArray, List.set_cons_succ, List.set_cons_zero]
                    rfl
                  refine gen_cons (A' := ?_) (fun vs L w1 hL hw1 => ?_) ?_ ?_
                  rotate_left 1
                  · obtain ⟨q0, q1⟩ := HO.out _ _ _ hw1
                    have l7 : L 7 = true := hL.need 7 (by kernel_rfl)
                    have e7 := q1 7 _ rfl l7
                    refine gen_yes ?_ ?_
                    · simp only [e7]
                      rfl
                    go_simp
                    exact gr_val (HI.out _ _ _ ⟨q0, kn_known q1 rfl⟩)
                  · intro vs
                    simp only [Act.put, List.setIfInBounds_toArray, List.set_cons_succ, List.set_cons_zero]
                    rfl
                  refine gen_cons (A' := ?_) (fun vs L w1 hL hw1 => ?_) ?_ ?_
                  rotate_left 1
                  · obtain ⟨q0, q1⟩ := HO.out _ _ _ hw1
                    have l7 : L 7 = true := hL.need 7 (by kernel_rfl)
                    have e7 := q1 7 _ rfl l7
                    refine gen_yes ?_ ?_
                    · simp only [e7]
                      rfl
                    have l10 : L 10 = true := hL.need 10 (by kernel_rfl)
                    have e10 := q1 10 _ rfl l10
                    simp only [e10]
                    go_simp
                    try simp only [hw.out]
                    try simp only [hw2.out]
                    exact gr_val (HI.out _ _ _ ⟨q0, kn_known q1 rfl⟩)
                  · intro vs
                    simp only [Act.put, List.setIfInBounds_toArray, List.set_cons_succ, List.set_cons_zero]
                    rfl
                  refine gen_cons (A' := ?_) (fun vs L w1 hL hw1 => ?_) ?_ ?_
                  rotate_left 1
                  · obtain ⟨q0, q1⟩ := HO.out _ _ _ hw1
                    have l7 : L 7 = true := hL.need 7 (by kernel_rfl)
                    have e7 := q1 7 _ rfl l7
                    refine gen_yes ?_ ?_
                    · simp only [e7]
                      rfl
                    have l9 : L 9 = true := hL.need 9 (by kernel_rfl)
                    have e9 := q1 9 _ rfl l9
                    have l11 : L 11 = true := hL.need 11 (by kernel_rfl)
                    have e11 := q1 11 _ rfl l11
                    simp only [e9, e11]
                    go_simp
                    exact gr_val (HI.out _ _ _ ⟨q0, kn_known q1 rfl⟩)
                  · intro vs
                    simp only [Act.put, List.setIfInBounds_toArray, List.set_cons_succ, List.set_cons_zero]
                    rfl
                  refine gen_cons (A' := ?_) (fun vs L w1 hL hw1 => ?_) ?_ ?_
                  rotate_left 1
                  · obtain ⟨q0, q1⟩ := HO.out _ _ _ hw1
                    have l7 : L 7 = true := hL.need 7 (by kernel_rfl)
                    have e7 := q1 7 _ rfl l7
                    refine gen_yes ?_ ?_
                    · simp only [e7]
                      rfl
                    have l12 : L 12 = true := hL.need 12 (by kernel_rfl)
                    have e12 := q1 12 _ rfl l12
                    simp only [e12]
                    obtain ⟨y0, y1, y2, y3⟩ := hp _ (below_grows hB (Nat.le_refl _) q0)
                    go_simp
                    exact gr_val (HI.out _ _ _ ⟨q0, kn_known q1 rfl⟩)
                  · intro vs
                    simp only [Act.put, List.setIfInBounds_toArray, List.set_cons_succ, List.set_cons_zero]
                    rfl
                  refine gen_cons (A' := ?_) (fun vs L w1 hL hw1 => ?_) ?_ ?_
                  rotate_left 1
                  · obtain ⟨q0, q1⟩ := HO.out _ _ _ hw1
                    have l7 : L 7 = true := hL.need 7 (by kernel_rfl)
                    have e7 := q1 7 _ rfl l7
                    refine gen_yes ?_ ?_
                    · simp only [e7]
                      rfl
                    have x := (k6.grows q0).cell 
                    go_simp
                    exact gr_val (HI.out _ _ _ ⟨q0, kn_known q1 rfl⟩)
                  · intro vs
                    simp only [Act.put, List.setIfInBounds_toArray, List.set_cons_succ, List.set_cons_zero]
                    rfl
                  refine gen_cons (A' := ?_) (fun vs L w1 hL hw1 => ?_) ?_ ?_
                  rotate_left 1
                  · obtain ⟨q0, q1⟩ := HO.out _ _ _ hw1
                    have l7 : L 7 = true := hL.need 7 (by kernel_rfl)
                    have e7 := q1 7 _ rfl l7
                    refine gen_yes ?_ ?_
                    · simp only [e7]
                      rfl
                    have l13 : L 13 = true := hL.need 13 (by kernel_rfl)
                    have e13 := q1 13 _ rfl l13
                    have l14 : L 14 = true := hL.need 14 (by kernel_rfl)
                    have e14 := q1 14 _ rfl l14
                    simp only [e13, e14]
                    go_simp
                    refine gr_call ?_
                    refine (less_is p l true w1 HS.out).mono ?_
                    rintro e w2 ⟨rfl, hg⟩
                    exact ⟨_, rfl, HI.out _ _ _ ⟨below_grows q0 (Nat.le_refl _) hg, kn_known q1 rfl⟩⟩
                  · intro vs
                    simp only [Act.put, List.setIfInBounds_toArray, List.set_cons_succ, List.set_cons_zero]
                    rfl
                  refine gen_cons (A' := ?_) (fun vs L w1 hL hw1 => ?_) ?_ ?_
                  rotate_left 1
                  · obtain ⟨q0, q1⟩ := HO.out _ _ _ hw1
                    have l7 : L 7 = true := hL.need 7 (by kernel_rfl)
                    have e7 := q1 7 _ rfl l7
                    refine gen_yes ?_ ?_
                    · simp only [e7]
                      rfl
                    have l15 : L 15 = true := hL.need 15 (by kernel_rfl)
                    have e15 := q1 15 _ rfl l15
                    simp only [e15]
                    go_simp
                    exact gr_val (HI.out _ _ _ ⟨q0, kn_known q1 rfl⟩)
                  · intro vs
                    simp only [Act.put, List.setIfInBounds_toArray, List.set_cons_succ, List.set_cons_zero]
                    rfl
                  refine gen_cons (A' := ?_) (fun vs L w1 hL hw1 => ?_) ?_ ?_
                  rotate_left 1
                  · obtain ⟨q0, q1⟩ := HO.out _ _ _ hw1
                    have l4 : L 4 = true := hL.need 4 (by kernel_rfl)
                    have e4 := q1 4 _ rfl l4
                    refine gen_yes ?_ ?_
                    · simp only [e4]
                      rfl
                    have l7 : L 7 = true := hL.need 7 (by kernel_rfl)
                    have e7 := q1 7 _ rfl l7
                    have l16 : L 16 = true := hL.need 16 (by kernel_rfl)
                    have e16 := q1 16 _ rfl l16
                    simp only [e7, e16]
                    go_simp
                    exact gr_val (HI.out _ _ _ ⟨q0, kn_known q1 rfl⟩)
                  · intro vs
                    simp only [Act.put, List.setIfInBounds_toArray, List.set_cons_succ, List.set_cons_zero]
                    rfl
                  refine gen_cons (A' := ?_) (fun vs L w1 hL hw1 => ?_) ?_ ?_
                  rotate_left 1
                  · obtain ⟨q0, q1⟩ := HO.out _ _ _ hw1
                    refine gen_plain rfl ?_
                    have l4 : L 4 = true := hL.need 4 (by kernel_rfl)
                    have e4 := q1 4 _ rfl l4
                    have l17 : L 17 = true := hL.need 17 (by kernel_rfl)
                    have e17 := q1 17 _ rfl l17
                    simp only [e4, e17]
                    go_simp
                    exact gr_val (HI.out _ _ _ ⟨q0, kn_known q1 rfl⟩)
                  · intro vs
                    simp only [Act.put, List.setIfInBounds_toArray, List.set_cons_succ, List.set_cons_zero]
                    rfl
                  refine gen_cons (A' := ?_) (fun vs L w1 hL hw1 => ?_) ?_ ?_
                  rotate_left 1
                  · obtain ⟨q0, q1⟩ := HO.out _ _ _ hw1
                    refine gen_plain rfl ?_
                    have l18 : L 18 = true := hL.need 18 (by kernel_rfl)
                    have e18 := q1 18 _ rfl l18
                    simp only [e18]
                    go_simp
                    exact gr_val (HI.out _ _ _ ⟨q0, kn_known q1 rfl⟩)
                  · intro vs
                    simp only [Act.put, List.setIfInBounds_toArray, List.set_cons_succ, List.set_cons_zero]
                    rfl
                  refine gen_cons (A' := ?_) (fun vs L w1 hL hw1 => ?_) ?_ ?_
                  rotate_left 1
                  · obtain ⟨q0, q1⟩ := HO.out _ _ _ hw1
                    have l19 : L 19 = true := hL.need 19 (by kernel_rfl)
                    have e19 := q1 19 _ rfl l19
                    refine gen_yes ?_ ?_
                    · simp only [e19]
                      rfl
                    have x := (k1.grows q0).cell 
                    go_simp
                    exact gr_val (HI.out _ _ _ ⟨q0, kn_known q1 rfl⟩)
                  · intro vs
                    simp only [Act.put, List.setIfInBounds_toArray, List.set_cons_succ, List.set_cons_zero]
                    rfl
                  refine gen_cons (A' := ?_) (fun vs L w1 hL hw1 => ?_) ?_ ?_
                  rotate_left 1
                  · obtain ⟨q0, q1⟩ := HO.out _ _ _ hw1
                    have l19 : L 19 = true := hL.need 19 (by kernel_rfl)
                    have e19 := q1 19 _ rfl l19
                    refine gen_yes ?_ ?_
                    · simp only [e19]
                      rfl
                    have x := (k6.grows q0).cell 
                    go_simp
                    exact gr_val (HI.out _ _ _ ⟨q0, kn_known q1 rfl⟩)
                  · intro vs
                    simp only [Act.put, List.setIfInBounds_toArray, List.set_cons_succ, List.set_cons_zero]
                    rfl
                  refine gen_cons (A' := ?_) (fun vs L w1 hL hw1 => ?_) ?_ ?_
                  rotate_left 1
                  · obtain ⟨q0, q1⟩ := HO.out _ _ _ hw1
                    have l19 : L 19 = true := hL.need 19 (by kernel_rfl)
                    have e19 := q1 19 _ rfl l19
                    refine gen_yes ?_ ?_
                    · simp only [e19]
                      rfl
                    go_simp
                    exact gr_val (HI.out _ _ _ ⟨q0, kn_known q1 rfl⟩)
                  · intro vs
                    simp only [Act.put, List.setIfInBounds_toArray, List.set_cons_succ, List.set_cons_zero]
                    rfl
                  refine gen_cons (A' := ?_) (fun vs L w1 hL hw1 => ?_) ?_ ?_
                  rotate_left 1
                  · obtain ⟨q0, q1⟩ := HO.out _ _ _ hw1
                    have l19 : L 19 = true := hL.need 19 (by kernel_rfl)
                    have e19 := q1 19 _ rfl l19
                    refine gen_yes ?_ ?_
                    · simp only [e19]
                      rfl
                    have l22 : L 22 = true := hL.need 22 (by kernel_rfl)
                    have e22 := q1 22 _ rfl l22
                    have x := (k1.grows q0).cell 1
                    simp only [e22]
                    go_simp
                    exact gr_val (HI.out _ _ _ ⟨q0, kn_known q1 rfl⟩)
                  · intro vs
                    simp only [Act.put, List.setIfInBounds_toArray, List.set_cons_succ, List.set_cons_zero]
                    rfl
                  refine gen_cons (A' := ?_) (fun vs L w1 hL hw1 => ?_) ?_ ?_
                  rotate_left 1
                  · obtain ⟨q0, q1⟩ := HO.out _ _ _ hw1
                    have l19 : L 19 = true := hL.need 19 (by kernel_rfl)
                    have e19 := q1 19 _ rfl l19
                    refine gen_yes ?_ ?_
                    · simp only [e19]
                      rfl
                    go_simp
                    exact gr_val (HI.out _ _ _ ⟨q0, kn_known q1 rfl⟩)
                  · intro vs
                    simp only [Act.put, List.setIfInBounds_toArray, List.set_cons_succ, List.set_cons_zero]
                    rfl
                  refine gen_cons (A' := ?_) (fun vs L w1 hL hw1 => ?_) ?_ ?_
                  rotate_left 1
                  · obtain ⟨q0, q1⟩ := HO.out _ _ _ hw1
                    have l19 : L 19 = true := hL.need 19 (by kernel_rfl)
                    have e19 := q1 19 _ rfl l19
                    refine gen_yes ?_ ?_
                    · simp only [e19]
                      rfl
                    have l23 : L 23 = true := hL.need 23 (by kernel_rfl)
                    have e23 := q1 23 _ rfl l23
                    have l24 : L 24 = true := hL.need 24 (by kernel_rfl)
                    have e24 := q1 24 _ rfl l24
                    simp only [e23, e24]
                    go_simp
                    exact gr_val (HI.out _ _ _ ⟨q0, kn_known q1 rfl⟩)
                  · intro vs
                    simp only [Act.put, List.setIfInBounds_toArray, List.set_cons_succ, List.set_cons_zero]
                    rfl
                  refine gen_cons (A' := ?_) (fun vs L w1 hL hw1 => ?_) ?_ ?_
                  rotate_left 1
                  · obtain ⟨q0, q1⟩ := HO.out _ _ _ hw1
                    have l19 : L 19 = true := hL.need 19 (by kernel_rfl)
                    have e19 := q1 19 _ rfl l19
                    refine gen_yes ?_ ?_
                    · simp only [e19]
                      rfl
                    have l20 : L 20 = true := hL.need 20 (by kernel_rfl)
                    have e20 := q1 20 _ rfl l20
                    have l21 : L 21 = true := hL.need 21 (by kernel_rfl)
                    have e21 := q1 21 _ rfl l21
                    have l25 : L 25 = true := hL.need 25 (by kernel_rfl)
                    have e25 := q1 25 _ rfl l25
                    simp only [e20, e21, e25]
                    go_simp
                    refine gr_call ?_
                    refine (crowd_is A (some ad) (some ad) c c2 c2 ls.length k ns (ls.take k) l true w1 (h.grows (below_grows hB (Nat.le_refl _) q0)) hl (qs_take (h2.grows (below_grows hB (Nat.le_refl _) q0)) k hk) HT.out.1 HT.out.2 HC.out).mono ?_
                    rintro e w2 ⟨rfl, hg⟩
                    exact ⟨_, rfl, HI.out _ _ _ ⟨below_grows q0 (Nat.le_refl _) hg, kn_known q1 rfl⟩⟩
                  · intro vs
                    simp only [Act.put, List.setIfInBounds_toArray, List.set_cons_succ, List.set_cons_zero]
                    rfl
                  refine gen_cons (A' := ?_) (fun vs L w1 hL hw1 => ?_) ?_ ?_
                  rotate_left 1
                  · obtain ⟨q0, q1⟩ := HO.out _ _ _ hw1
                    refine gen_plain rfl ?_
                    have l19 : L 19 = true := hL.need 19 (by kernel_rfl)
                    have e19 := q1 19 _ rfl l19
                    have l26 : L 26 = true := hL.need 26 (by kernel_rfl)
                    have e26 := q1 26 _ rfl l26
                    simp only [e19, e26]
                    go_simp
                    exact gr_val (HI.out _ _ _ ⟨q0, kn_known q1 rfl⟩)
                  · intro vs
                    simp only [Act.put, List.setIfInBounds_toArray, List.set_cons_succ, List.set_cons_zero]
                    rfl
                  refine gen_nil ?_
                  intro vs L W6 hall hS
                  obtain ⟨hq, q1⟩ := HO.out _ _ _ hS
                  have eX27 := q1 27 _ rfl (hall 27 (by simp))
                  clear hall hS HI HO q1
                  simp only [eX27]
                  go_wp2
                  go_ret
                  refine ⟨ret_bool ?_, below_grows hB (Nat.le_refl _) hq⟩
                  exact (valid_no2 hlt HF2.out).symm
        · have HK : Hid (okK ns ls = true) := Lib.hid (by have := HA.out; rwa [show k = ls.length by omega] at this)
          obtain ⟨m, hm⟩ : ∃ m, (orderL ns ls).length = m := ⟨_, rfl⟩
          have HM := Lib.hid hm
          clear hm HA
          have hl3 : ns.length ≤ 100000 := by omega
          go_upto_region 15 with fail
          generalize wr = w8 at *
          cases hb : (m == ns.length)
          · have HV : Hid (validG ns ls = false) := Lib.hid (by unfold validG; rw [HM.out]; simp only [Bool.and_eq_false_iff, decide_eq_false_iff_not]; exact .inr (by simpa using hb))
            have hb2 : decide (m = ns.length) = false := by simpa using hb
            have hb3 : ¬ m = ns.length := by simpa using hb
            have hb4 : ((m : Int) == (ns.length : Int)) = false := by
              simp only [beq_eq_false_iff_ne, ne_eq]
              omega
            obtain ⟨S, HI, HO⟩ : ∃ S : Ran → (Nat → Value) → World → Prop, Hid (∀ L vs w', (Grows w8 w' ∧ KnS [some (.agg #[.slice A ns.length c, .slice A2 ls.length c2]), none, some (.int .i64 (m : Int)), some (.pointer (some ⟨w.heap.size, 0, none⟩)), some (.slice A ns.length c), some (.int .i64 (ns.length : Int)), some (.bool false), some (.bool false)] L vs ∧ DsS [none, some (gLen m), none, none, none, none, none, none] L vs w') → S L vs w') ∧ Hid (∀ L vs w', S L vs w' → (Grows w8 w' ∧ KnS [some (.agg #[.slice A ns.length c, .slice A2 ls.length c2]), none, some (.int .i64 (m : Int)), some (.pointer (some ⟨w.heap.size, 0, none⟩)), some (.slice A ns.length c), some (.int .i64 (ns.length : Int)), some (.bool false), some (.bool false)] L vs ∧ DsS [none, some (gLen m), none, none, none, none, none, none] L vs w')) := ⟨fun L vs w' => Grows w8 w' ∧ KnS [some (.agg #[.slice A ns.length c, .slice A2 ls.length c2]), none, some (.int .i64 (m : Int)), some (.pointer (some ⟨w.heap.size, 0, none⟩)), some (.slice A ns.length c), some (.int .i64 (ns.length : Int)), some (.bool false), some (.bool false)] L vs ∧ DsS [none, some (gLen m), none, none, none, none, none, none] L vs w', fun _ _ _ h => h, fun _ _ _ h => h⟩
            refine wp_region_genW S 89 (by kernel_rfl) (by kernel_rfl) rfl ?_ ?_
            · exact HI.out _ _ _ ⟨Grows.drew' _, kn_none _ _, ds_none _ _ _⟩
            refine gen_cons (A' := ?_) (fun vs L w1 hL hw1 => ?_) ?_ ?_
            rotate_left 1
            · obtain ⟨q0, q1, q2⟩ := HO.out _ _ _ hw1
              refine gen_plain rfl ?_
              have x := (k1.grows q0).cell 
              go_simp
              exact gr_val (HI.out _ _ _ ⟨q0, kn_known q1 rfl, ds_free q2 rfl⟩)
            · intro vs
              simp only [Act.put, List.setIfInBounds_toArray, List.set_cons_succ, List.set_cons_zero]
              rfl
            refine gen_cons (A' := ?_) (fun vs L w1 hL hw1 => ?_) ?_ ?_
            rotate_left 1
            · obtain ⟨q0, q1, q2⟩ := HO.out _ _ _ hw1
              refine gen_plain rfl ?_
              have l0 : L 0 = true := hL.need 0 (by kernel_rfl)
              have e0 := q1 0 _ rfl l0
              simp only [e0]
              go_simp
              refine gr_call ?_
              refine (order_len A A2 c c2 m ns ls w1 (h.grows (below_grows hB (Nat.le_refl _) q0)) hl3 (h2.grows (below_grows hB (Nat.le_refl _) q0)) hl2 (okN_ids HN.out) HM.out).mono ?_
              rintro e w2 ⟨⟨v, rfl, hv⟩, hg⟩
              exact ⟨_, rfl, HI.out _ _ _ ⟨below_grows q0 (Nat.le_refl _) hg, kn_free q1 rfl, ds_put (q2.grows hg) rfl (hv)⟩⟩
            · intro vs
              simp only [Act.put, List.setIfInBounds_toArray, List.set_cons_succ, List.set_cons_zero]
              rfl
            refine gen_cons (A' := ?_) (fun vs L w1 hL hw1 => ?_) ?_ ?_
            rotate_left 1
            · obtain ⟨q0, q1, q2⟩ := HO.out _ _ _ hw1
              refine gen_plain rfl ?_
              have l1 : L 1 = true := hL.need 1 (by kernel_rfl)
              obtain ⟨A1, c1, e1⟩ := q2 1 _ rfl l1
              simp only [e1]
              go_simp
              exact gr_val (HI.out _ _ _ ⟨q0, kn_known q1 rfl, ds_free q2 rfl⟩)
            · intro vs
              simp only [Act.put, List.setIfInBounds_toArray, List.set_cons_succ, List.set_cons_zero]
              rfl
            refine gen_cons (A' := ?_) (fun vs L w1 hL hw1 => ?_) ?_ ?_
            rotate_left 1
            · obtain ⟨q0, q1, q2⟩ := HO.out _ _ _ hw1
              refine gen_plain rfl ?_
              go_simp
              exact gr_val (HI.out _ _ _ ⟨q0, kn_known q1 rfl, ds_free q2 rfl⟩)
            · intro vs
              simp only [Act.put, List.setIfInBounds_toArray, List.set_cons_succ, List.set_cons_zero]
              rfl
            refine gen_cons (A' := ?_) (fun vs L w1 hL hw1 => ?_) ?_ ?_
            rotate_left 1
            · obtain ⟨q0, q1, q2⟩ := HO.out _ _ _ hw1
              refine gen_plain rfl ?_
              have l3 : L 3 = true := hL.need 3 (by kernel_rfl)
              have e3 := q1 3 _ rfl l3
              have x := (k1.grows q0).cell 0
              simp only [e3]
              go_simp
              exact gr_val (HI.out _ _ _ ⟨q0, kn_known q1 rfl, ds_free q2 rfl⟩)
            · intro vs
              simp only [Act.put, List.setIfInBounds_toArray, List.set_cons_succ, List.set_cons_zero]
              rfl
            refine gen_cons (A' := ?_) (fun vs L w1 hL hw1 => ?_) ?_ ?_
            rotate_left 1
            · obtain ⟨q0, q1, q2⟩ := HO.out _ _ _ hw1
              refine gen_plain rfl ?_
              have l4 : L 4 = true := hL.need 4 (by kernel_rfl)
              have e4 := q1 4 _ rfl l4
              simp only [e4]
              go_simp
              exact gr_val (HI.out _ _ _ ⟨q0, kn_known q1 rfl, ds_free q2 rfl⟩)
            · intro vs
              simp only [Act.put, List.setIfInBounds_toArray, List.set_cons_succ, List.set_cons_zero]
              rfl
            refine gen_cons (A' := ?_) (fun vs L w1 hL hw1 => ?_) ?_ ?_
            rotate_left 1
            · obtain ⟨q0, q1, q2⟩ := HO.out _ _ _ hw1
              refine gen_plain rfl ?_
              have l2 : L 2 = true := hL.need 2 (by kernel_rfl)
              have e2 := q1 2 _ rfl l2
              have l5 : L 5 = true := hL.need 5 (by kernel_rfl)
              have e5 := q1 5 _ rfl l5
              simp only [e2, e5]
              go_simp
              exact gr_val (HI.out _ _ _ ⟨q0, kn_known q1 rfl, ds_free q2 rfl⟩)
            · intro vs
              simp only [Act.put, List.setIfInBounds_toArray, List.set_cons_succ, List.set_cons_zero]
              rfl
            refine gen_cons (A' := ?_) (fun vs L w1 hL hw1 => ?_) ?_ ?_
            rotate_left 1
            · obtain ⟨q0, q1, q2⟩ := HO.out _ _ _ hw1
              refine gen_plain rfl ?_
              have l6 : L 6 = true := hL.need 6 (by kernel_rfl)
              have e6 := q1 6 _ rfl l6
              simp only [e6]
              go_simp
              exact gr_val (HI.out _ _ _ ⟨q0, kn_known q1 rfl, ds_free q2 rfl⟩)
            · intro vs
              simp only [Act.put, List.setIfInBounds_toArray, List.set_cons_succ, List.set_cons_zero]
              rfl
            refine gen_nil ?_
            intro vs L W6 hall hS
            obtain ⟨hq, q1, q2⟩ := HO.out _ _ _ hS
            have eX7 := q1 7 _ rfl (hall 7 (by simp))
            clear hall hS HI HO q1 q2
            simp only [eX7]
            go_wp2
            go_ret
            refine ⟨ret_bool ?_, below_grows hB (Nat.le_refl _) hq⟩
            exact HV.out.symm
          · have HV : Hid (validG ns ls = true) := Lib.hid (by unfold validG; rw [HM.out, HN.out, HK.out]; simp only [Bool.and_eq_true, decide_eq_true_eq, and_true]; exact ⟨⟨n1, n2⟩, by simpa using hb⟩)
            have hb3 : m = ns.length := by simpa using hb
            subst hb3
            clear hb
            obtain ⟨S, HI, HO⟩ : ∃ S : Ran → (Nat → Value) → World → Prop, Hid (∀ L vs w', (Grows w8 w' ∧ KnS [some (.agg #[.slice A ns.length c, .slice A2 ls.length c2]), none, some (.int .i64 (ns.length : Int)), some (.pointer (some ⟨w.heap.size, 0, none⟩)), some (.slice A ns.length c), some (.int .i64 (ns.length : Int)), some (.bool true), some (.bool true)] L vs ∧ DsS [none, some (gLen ns.length), none, none, none, none, none, none] L vs w') → S L vs w') ∧ Hid (∀ L vs w', S L vs w' → (Grows w8 w' ∧ KnS [some (.agg #[.slice A ns.length c, .slice A2 ls.length c2]), none, some (.int .i64 (ns.length : Int)), some (.pointer (some ⟨w.heap.size, 0, none⟩)), some (.slice A ns.length c), some (.int .i64 (ns.length : Int)), some (.bool true), some (.bool true)] L vs ∧ DsS [none, some (gLen ns.length), none, none, none, none, none, none] L vs w')) := ⟨fun L vs w' => Grows w8 w' ∧ KnS [some (.agg #[.slice A ns.length c, .slice A2 ls.length c2]), none, some (.int .i64 (ns.length : Int)), some (.pointer (some ⟨w.heap.size, 0, none⟩)), some (.slice A ns.length c), some (.int .i64 (ns.length : Int)), some (.bool true), some (.bool true)] L vs ∧ DsS [none, some (gLen ns.length), none, none, none, none, none, none] L vs w', fun _ _ _ h => h, fun _ _ _ h => h⟩
            refine wp_region_genW S 89 (by kernel_rfl) (by kernel_rfl) rfl ?_ ?_
            · exact HI.out _ _ _ ⟨Grows.drew' _, kn_none _ _, ds_none _ _ _⟩
            refine gen_cons (A' := ?_) (fun vs L w1 hL hw1 => ?_) ?_ ?_
            rotate_left 1
            · obtain ⟨q0, q1, q2⟩ := HO.out _ _ _ hw1
              refine gen_plain rfl ?_
              have x := (k1.grows q0).cell 
              go_simp
              exact gr_val (HI.out _ _ _ ⟨q0, kn_known q1 rfl, ds_free q2 rfl⟩)
            · intro vs
              simp only [Act.put, List.setIfInBounds_toArray, List.set_cons_succ, List.set_cons_zero]
              rfl
            refine gen_cons (A' := ?_) (fun vs L w1 hL hw1 => ?_) ?_ ?_
            rotate_left 1
            · obtain ⟨q0, q1, q2⟩ := HO.out _ _ _ hw1
              refine gen_plain rfl ?_
              have l0 : L 0 = true := hL.need 0 (by kernel_rfl)
              have e0 := q1 0 _ rfl l0
              simp only [e0]
              go_simp
              refine gr_call ?_
              refine (order_len A A2 c c2 ns.length ns ls w1 (h.grows (below_grows hB (Nat.le_refl _) q0)) hl3 (h2.grows (below_grows hB (Nat.le_refl _) q0)) hl2 (okN_ids HN.out) HM.out).mono ?_
              rintro e w2 ⟨⟨v, rfl, hv⟩, hg⟩
              exact ⟨_, rfl, HI.out _ _ _ ⟨below_grows q0 (Nat.le_refl _) hg, kn_free q1 rfl, ds_put (q2.grows hg) rfl (hv)⟩⟩
            · intro vs
              simp only [Act.put, List.setIfInBounds_toArray, List.set_cons_succ, List.set_cons_zero]
              rfl
            refine gen_cons (A' := ?_) (fun vs L w1 hL hw1 => ?_) ?_ ?_
            rotate_left 1
            · obtain ⟨q0, q1, q2⟩ := HO.out _ _ _ hw1
              refine gen_plain rfl ?_
              have l1 : L 1 = true := hL.need 1 (by kernel_rfl)
              obtain ⟨A1, c1, e1⟩ := q2 1 _ rfl l1
              simp only [e1]
              go_simp
              exact gr_val (HI.out _ _ _ ⟨q0, kn_known q1 rfl, ds_free q2 rfl⟩)
            · intro vs
              simp only [Act.put, List.setIfInBounds_toArray, List.set_cons_succ, List.set_cons_zero]
              rfl
            refine gen_cons (A' := ?_) (fun vs L w1 hL hw1 => ?_) ?_ ?_
            rotate_left 1
            · obtain ⟨q0, q1, q2⟩ := HO.out _ _ _ hw1
              refine gen_plain rfl ?_
              go_simp
              exact gr_val (HI.out _ _ _ ⟨q0, kn_known q1 rfl, ds_free q2 rfl⟩)
            · intro vs
              simp only [Act.put, List.setIfInBounds_toArray, List.set_cons_succ, List.set_cons_zero]
              rfl
            refine gen_cons (A' := ?_) (fun vs L w1 hL hw1 => ?_) ?_ ?_
            rotate_left 1
            · obtain ⟨q0, q1, q2⟩ := HO.out _ _ _ hw1
              refine gen_plain rfl ?_
              have l3 : L 3 = true := hL.need 3 (by kernel_rfl)
              have e3 := q1 3 _ rfl l3
              have x := (k1.grows q0).cell 0
              simp only [e3]
              go_simp
              exact gr_val (HI.out _ _ _ ⟨q0, kn_known q1 rfl, ds_free q2 rfl⟩)
            · intro vs
              simp only [Act.put, List.setIfInBounds_toArray, List.set_cons_succ, List.set_cons_zero]
              rfl
            refine gen_cons (A' := ?_) (fun vs L w1 hL hw1 => ?_) ?_ ?_
            rotate_left 1
            · obtain ⟨q0, q1, q2⟩ := HO.out _ _ _ hw1
              refine gen_plain rfl ?_
              have l4 : L 4 = true := hL.need 4 (by kernel_rfl)
              have e4 := q1 4 _ rfl l4
              simp only [e4]
              go_simp
              exact gr_val (HI.out _ _ _ ⟨q0, kn_known q1 rfl, ds_free q2 rfl⟩)
            · intro vs
              simp only [Act.put, List.setIfInBounds_toArray, List.set_cons_succ, List.set_cons_zero]
              rfl
            refine gen_cons (A' := ?_) (fun vs L w1 hL hw1 => ?_) ?_ ?_
            rotate_left 1
            · obtain ⟨q0, q1, q2⟩ := HO.out _ _ _ hw1
              refine gen_plain rfl ?_
              have l2 : L 2 = true := hL.need 2 (by kernel_rfl)
              have e2 := q1 2 _ rfl l2
              have l5 : L 5 = true := hL.need 5 (by kernel_rfl)
              have e5 := q1 5 _ rfl l5
              simp only [e2, e5]
              go_simp
              exact gr_val (HI.out _ _ _ ⟨q0, kn_known q1 rfl, ds_free q2 rfl⟩)
            · intro vs
              simp only [Act.put, List.setIfInBounds_toArray, List.set_cons_succ, List.set_cons_zero]
              rfl
            refine gen_cons (A' := ?_) (fun vs L w1 hL hw1 => ?_) ?_ ?_
            rotate_left 1
            · obtain ⟨q0, q1, q2⟩ := HO.out _ _ _ hw1
              refine gen_plain rfl ?_
              have l6 : L 6 = true := hL.need 6 (by kernel_rfl)
              have e6 := q1 6 _ rfl l6
              simp only [e6]
              go_simp
              exact gr_val (HI.out _ _ _ ⟨q0, kn_known q1 rfl, ds_free q2 rfl⟩)
            · intro vs
              simp only [Act.put, List.setIfInBounds_toArray, List.set_cons_succ, List.set_cons_zero]
              rfl
            refine gen_nil ?_
            intro vs L W6 hall hS
            obtain ⟨hq, q1, q2⟩ := HO.out _ _ _ hS
            have eX7 := q1 7 _ rfl (hall 7 (by simp))
            clear hall hS HI HO q1 q2
            simp only [eX7]
            go_wp2
            go_ret
            refine ⟨ret_bool ?_, below_grows hB (Nat.le_refl _) hq⟩
            exact HV.out.symm
end Go.Proofs.Ytmokpiacioeohaa
