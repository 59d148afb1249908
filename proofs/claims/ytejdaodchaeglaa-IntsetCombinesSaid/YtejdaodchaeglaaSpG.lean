/-
  Layer 9: the reference's sort and merge. Plain contracts.
-/
import Derived.Test.YtejdaodchaeglaaSpF
import Derived.Test.YtejdaodchaeglaaGenT
namespace Go.Proofs.Ytejdaodchaeglaa
open Go.RowKit
/-- A span put into a row that is in order, behind those that begin no later. -/
theorem put_sorted {p q : List Sp} {x : Sp} (h : (p ++ q).Pairwise (fun x y => x.1 ≤ y.1)) (hp : ∀ y ∈ p, y.1 ≤ x.1) (hq : ∀ y ∈ q, x.1 ≤ y.1) : (p ++ [x] ++ q).Pairwise (fun x y => x.1 ≤ y.1) := by
  rw [List.append_assoc, List.pairwise_append]
  rw [List.pairwise_append] at h
  refine ⟨h.1, List.pairwise_cons.2 ⟨hq, h.2.1⟩, fun a ha b hb => ?_⟩
  rcases List.mem_cons.1 hb with rfl | hb
  · exact hp a ha
  · exact h.2.2 a ha b hb
theorem put_perm {p q t : List Sp} {x : Sp} (h : (p ++ q).Perm t) : (p ++ [x] ++ q).Perm (t ++ [x]) := by
  refine ((List.perm_append_comm (l₁ := p) (l₂ := [x])).append_right q).trans ?_
  rw [List.append_assoc]
  exact (List.perm_append_comm).trans (List.Perm.append_right _ h)
theorem gr_append_sp {o : Oper} {ev : Operand → Value} {w : World} {T : Value → World → Prop} (s x : Operand) (ho : o.op = .call { callee := .builtin .append, args := #[s, x], argTypes := #[22, 22] })
    {base : Nat} {v : Value} {l m : List Sp} {A : Option Addr} {c n : Nat} (hn : n = m.length) (hs : ev s = v) (hown : Own w base v l) (hx : ev x = .slice A n c) (hr : Sps w A m) (hlen : l.length + m.length ≤ 1000000) (hbase : base ≤ w.heap.size)
    (h : ∀ v' w', Own w' base v' (l ++ m) → w.grownBy w' v.ownBlock → T v' w') : genR Try.prog T ((execOp ev o).run Try.prog w) := by
  obtain ⟨i0, hi0, hi1, hi2, hi3, hi4⟩ := sinfo
  subst hn
  obtain ⟨v', w', hrun, h2, h3, h4⟩ := run_append_any (P := Try.prog) w base 22 o.type 40 i0 _ 2 16 Try.underlying22 hi0 hi3 hi1 hi2 hi4 (by omega) v l.length (scells l) hown w.heap.size A m.length c (scells m) hr (scells_one m) (by simp only [maxLen]; omega) (by omega) hbase
  unfold execOp
  simp only [ho, resolve, invoke, builtin, Sem.run_bind, Sem.run_pure, Result.andThen_ok, List.map_toArray, List.map_cons, List.map_nil, hs, hx, hrun]
  refine h v' w' ?_ h3
  unfold Own
  rw [scells_append, List.length_append]
  exact h2
set_option maxHeartbeats 16000000 in
theorem joined_any (A : Option Addr) (c : Nat) (l : List Sp) (w : World) (h : Sps w A l) (hl : l.length ≤ 10000) (hf : ∀ x ∈ l, fineS x = true) :
    Calls Try.prog 32 #[.slice A l.length c] w fun e w' => (∃ v, e = .returned v ∧ Own w' w.heap.size v (formS l)) ∧ Grows w w' := by
  go_enter Try.func32, Try.ntmps32
  go_wp2_with fail
  go_loopw [3, 13] (fun v i wr => ∃ (k : Nat) (d : List Sp), k ≤ l.length ∧ i = .int .i64 k ∧ d.Perm (l.take k) ∧ d.Pairwise (fun x y => x.1 ≤ y.1) ∧ Own wr w.heap.size v d ∧ Grows w wr) (fun _ i _ => l.length - (intOf i).toNat)
  case atStart => exact ⟨0, [], by omega, rfl, List.Perm.refl _, List.Pairwise.nil, own_nil _ _, Below.refl _ _⟩
  case round =>
    obtain ⟨k, d, hk, rfl, hp, hs, hown, hB⟩ := hrel
    have HPL := Lib.hid (show d.length = k by rw [hp.length_eq, List.length_take]; omega)
    by_cases hlt : k < l.length
    · obtain ⟨ad, x, rfl, had, hx, c0, c1⟩ := (h.grows hB).elem hlt
      have HT : Hid (l.take (k + 1) = l.take k ++ [x]) := take_snoc hx
      have hxf := (fineS_iff x).1 (hf x (List.mem_of_getElem? hx))
      clear hx
      obtain ⟨A3, c3, rfl, hc3, hin, -⟩ := hown.read
      have k6 := Blk.new wr 40 #[.int .i64 x.1, .int .i64 x.2]
      have hq := (Below.refl wr.heap.size wr).alloc (Nat.le_refl _) (Obj.cells #[.int .i64 x.1, .int .i64 x.2] 40)
      replace hB := below_grows hB (Nat.le_refl _) hq
      replace hin := hin.grows hq
      have hdl : d.length ≤ 10000 := by have := HPL.out; omega
      clear hown
      go_upto_region 6 with fail
      clear c0 c1 hq
      generalize World.alloc wr _ = W0 at *
      generalize wr.heap.size = G6 at *
      have e0 := k6.cell 0
      have e1 := k6.cell 1
      go_loopw [7] (fun i W => ∃ m : Nat, m ≤ d.length ∧ i = .int .i64 m ∧ (∀ y ∈ d.drop m, x.1 ≤ y.1) ∧ Grows W0 W) (fun i _ => (intOf i).toNat)
      case atStart => exact ⟨d.length, Nat.le_refl _, rfl, by simp, Below.refl _ _⟩
      case round =>
        obtain ⟨m, hmd, rfl, hgt, hg⟩ := hrel
        have hg0 := hg
        replace hB := below_grows hB (Nat.le_refl _) hg
        replace hin := hin.grows hg
        replace k6 := k6.grows hg
        clear e0 e1 hg
        have e0 := k6.cell 0
        have e1 := k6.cell 1
        by_cases h0 : m = 0
        · have hpos : decide ((0 : Int) < (m : Int)) = false := decide_eq_false (by omega)
          have hposN : ¬ 0 < m := by omega
          have HLE : Hid (∀ z ∈ d.take m, z.1 ≤ x.1) := Lib.hid (fun z hz => by rw [h0] at hz; simp at hz)
          clear h0
          go_upto_region 6 with fail
          go_region
          clear hpos hposN
          have hg := Grows.drew' wr
          generalize World.drew _ = W at *
          replace hB := below_grows hB (Nat.le_refl _) hg
          replace hin := hin.grows hg
          replace k6 := k6.grows hg
          clear e0 e1 hg
          have hdec : d.take m ++ d.drop m = d := List.take_append_drop _ _
          have HSO := Lib.hid (put_sorted (by rw [hdec]; exact hs) HLE.out hgt)
          have HPE := Lib.hid (put_perm (x := x) (t := l.take k) (by rw [hdec]; exact hp))
          clear HLE hdec hgt hs hp
          have hmc : m ≤ c3 := by omega
          go_upto_region 8 with fail
          obtain ⟨S, HI, HO⟩ : ∃ S : Ran → (Nat → Value) → World → Prop, Hid (∀ L vs w', (Grows W w' ∧ KnS [some (.slice A3 d.length c3), some (.int .i64 m), some (.slice A3 m c3), none, some (.agg #[.int .i64 x.1, .int .i64 x.2]), none, none, some (.slice A3 d.length c3), some (.int .i64 m), some (.slice (if c3 = m then A3 else A3.map (fun x => x.add (m * 2))) (d.length - m) (c3 - m)), none] L vs ∧ (L 3 = true → L 6 = false → Own w' W.heap.size (vs 3) (d.take m)) ∧ (L 5 = true → L 6 = false → ∃ gb, vs 5 = .slice (some ⟨gb, 0, none⟩) 1 1 ∧ Sps w' (some ⟨gb, 0, none⟩) [x]) ∧ (L 6 = true → L 10 = false → Own w' W.heap.size (vs 6) (d.take m ++ [x])) ∧ (L 10 = true → Own w' W.heap.size (vs 10) (d.take m ++ [x] ++ d.drop m)) ∧ (L 6 = true → L 3 = true ∧ L 5 = true) ∧ (L 10 = true → L 6 = true)) → S L vs w') ∧ Hid (∀ L vs w', S L vs w' → (Grows W w' ∧ KnS [some (.slice A3 d.length c3), some (.int .i64 m), some (.slice A3 m c3), none, some (.agg #[.int .i64 x.1, .int .i64 x.2]), none, none, some (.slice A3 d.length c3), some (.int .i64 m), some (.slice (if c3 = m then A3 else A3.map (fun x => x.add (m * 2))) (d.length - m) (c3 - m)), none] L vs ∧ (L 3 = true → L 6 = false → Own w' W.heap.size (vs 3) (d.take m)) ∧ (L 5 = true → L 6 = false → ∃ gb, vs 5 = .slice (some ⟨gb, 0, none⟩) 1 1 ∧ Sps w' (some ⟨gb, 0, none⟩) [x]) ∧ (L 6 = true → L 10 = false → Own w' W.heap.size (vs 6) (d.take m ++ [x])) ∧ (L 10 = true → Own w' W.heap.size (vs 10) (d.take m ++ [x] ++ d.drop m)) ∧ (L 6 = true → L 3 = true ∧ L 5 = true) ∧ (L 10 = true → L 6 = true))) := ⟨fun L vs w' => Grows W w' ∧ KnS [some (.slice A3 d.length c3), some (.int .i64 m), some (.slice A3 m c3), none, some (.agg #[.int .i64 x.1, .int .i64 x.2]), none, none, some (.slice A3 d.length c3), some (.int .i64 m), some (.slice (if c3 = m then A3 else A3.map (fun x => x.add (m * 2))) (d.length - m) (c3 - m)), none] L vs ∧ (L 3 = true → L 6 = false → Own w' W.heap.size (vs 3) (d.take m)) ∧ (L 5 = true → L 6 = false → ∃ gb, vs 5 = .slice (some ⟨gb, 0, none⟩) 1 1 ∧ Sps w' (some ⟨gb, 0, none⟩) [x]) ∧ (L 6 = true → L 10 = false → Own w' W.heap.size (vs 6) (d.take m ++ [x])) ∧ (L 10 = true → Own w' W.heap.size (vs 10) (d.take m ++ [x] ++ d.drop m)) ∧ (L 6 = true → L 3 = true ∧ L 5 = true) ∧ (L 10 = true → L 6 = true), fun _ _ _ h => h, fun _ _ _ h => h⟩
          refine wp_region_genT S 11 86 (by kernel_rfl) (by kernel_rfl) rfl ?_ ?_
          · exact HI.out _ _ _ ⟨Grows.drew' _, kn_none _ _, (fun h => by cases h), (fun h => by cases h), (fun h => by cases h), (fun h => by cases h), (fun h => by cases h), (fun h => by cases h)⟩
          simp only [List.take_succ_cons, List.take_zero, List.drop_succ_cons, List.drop_zero]
          refine gent_cons (A' := ?_) (fun vs L w1 hL hw1 => ?_) ?_ ?_
          rotate_left 1
          · obtain ⟨q0, q1, q3, q5, q6, qa, h6, ha⟩ := HO.out _ _ _ hw1
            refine gen_plain rfl ?_
            go_simp
            exact gr_val (HI.out _ _ _ ⟨q0, kn_known q1 rfl, q3, q5, q6, qa, h6, ha⟩)
          · intro vs
            simp only [Act.put, List.setIfInBounds_toArray, List.set_cons_succ, List.set_cons_zero]
            rfl
          refine gent_cons (A' := ?_) (fun vs L w1 hL hw1 => ?_) ?_ ?_
          rotate_left 1
          · obtain ⟨q0, q1, q3, q5, q6, qa, h6, ha⟩ := HO.out _ _ _ hw1
            refine gen_plain rfl ?_
            go_simp
            exact gr_val (HI.out _ _ _ ⟨q0, kn_known q1 rfl, q3, q5, q6, qa, h6, ha⟩)
          · intro vs
            simp only [Act.put, List.setIfInBounds_toArray, List.set_cons_succ, List.set_cons_zero]
            rfl
          refine gent_cons (A' := ?_) (fun vs L w1 hL hw1 => ?_) ?_ ?_
          rotate_left 1
          · obtain ⟨q0, q1, q3, q5, q6, qa, h6, ha⟩ := HO.out _ _ _ hw1
            have l0 : L 0 = true := hL.need 0 (by kernel_rfl)
            have e0 := q1 0 _ rfl l0
            have l1 : L 1 = true := hL.need 1 (by kernel_rfl)
            have e1 := q1 1 _ rfl l1
            refine gen_plain rfl ?_
            simp only [e0, e1]
            go_simp
            exact gr_val (HI.out _ _ _ ⟨q0, kn_known q1 rfl, q3, q5, q6, qa, h6, ha⟩)
          · intro vs
            simp only [Act.put, List.setIfInBounds_toArray, List.set_cons_succ, List.set_cons_zero]
            rfl
          refine gent_cons (A' := ?_) (fun vs L w1 hL hw1 => ?_) ?_ ?_
          rotate_left 1
          · obtain ⟨q0, q1, q3, q5, q6, qa, h6, ha⟩ := HO.out _ _ _ hw1
            have n3 : L 3 = false := hL.1
            have n6 : L 6 = false := by
              cases h : L 6
              · rfl
              · rw [(h6 h).1] at n3; cases n3
            have n10 : L 10 = false := by
              cases h : L 10
              · rfl
              · rw [ha h] at n6; cases n6
            have l2 : L 2 = true := hL.need 2 (by kernel_rfl)
            have e2 := q1 2 _ rfl l2
            refine gen_plain rfl ?_
            refine gr_append_sp (.const (.slice none 0 0)) (.tmp 36) rfl (m := d.take m) (by rw [List.length_take]; omega) rfl (own_nil w1 W.heap.size) e2 (sps_take (hin.grows q0) m) (by simp only [List.length_nil, List.length_take]; omega) q0.size ?_
            intro v3 w3 o3 g3
            have hg : Grows w1 w3 := (Below.refl _ _).grown g3 (Nat.le_refl _) (fun q hq => by cases hq)
            exact HI.out _ _ _ ⟨below_grows q0 (Nat.le_refl _) hg, kn_free q1 rfl, fun _ _ => o3, (fun h h0 => by obtain ⟨gb, e, s⟩ := q5 h h0; exact ⟨gb, e, s.grows hg⟩), (fun h _ => by rw [show L 6 = true from h] at n6; cases n6), (fun h => by rw [show L 10 = true from h] at n10; cases n10), (fun h => by rw [show L 6 = true from h] at n6; cases n6), (fun h => by rw [show L 10 = true from h] at n10; cases n10)⟩
          · intro vs
            simp only [Act.put, List.setIfInBounds_toArray, List.set_cons_succ, List.set_cons_zero]
            rfl
          refine gent_cons (A' := ?_) (fun vs L w1 hL hw1 => ?_) ?_ ?_
          rotate_left 1
          · obtain ⟨q0, q1, q3, q5, q6, qa, h6, ha⟩ := HO.out _ _ _ hw1
            have e0 := (k6.grows q0).cell 0
            have e1 := (k6.grows q0).cell 1
            refine gen_plain rfl ?_
            go_simp
            exact gr_val (HI.out _ _ _ ⟨q0, kn_known q1 rfl, q3, q5, q6, qa, h6, ha⟩)
          · intro vs
            simp only [Act.put, List.setIfInBounds_toArray, List.set_cons_succ, List.set_cons_zero]
            rfl
          refine gent_cons (A' := ?_) (fun vs L w1 hL hw1 => ?_) ?_ ?_
          rotate_left 1
          · obtain ⟨q0, q1, q3, q5, q6, qa, h6, ha⟩ := HO.out _ _ _ hw1
            have n5 : L 5 = false := hL.1
            have n6 : L 6 = false := by
              cases h : L 6
              · rfl
              · rw [(h6 h).2] at n5; cases n5
            have n10 : L 10 = false := by
              cases h : L 10
              · rfl
              · rw [ha h] at n6; cases n6
            have l4 : L 4 = true := hL.need 4 (by kernel_rfl)
            have e4 := q1 4 _ rfl l4
            refine gen_plain rfl ?_
            simp only [e4]
            go_simp
            have hg := (Below.refl w1.heap.size w1).alloc (Nat.le_refl _) (Obj.cells (csS x) 40)
            exact gr_val (HI.out _ _ _ ⟨below_grows q0 (Nat.le_refl _) hg, kn_free q1 rfl, (fun h h0 => (q3 h h0).grows hg), (fun _ _ => ⟨_, rfl, sps_lit w1 x⟩), (fun h _ => by rw [show L 6 = true from h] at n6; cases n6), (fun h => by rw [show L 10 = true from h] at n10; cases n10), (fun h => by rw [show L 6 = true from h] at n6; cases n6), (fun h => by rw [show L 10 = true from h] at n10; cases n10)⟩)
          · intro vs
            simp only [Act.put, List.setIfInBounds_toArray, List.set_cons_succ, List.set_cons_zero]
            rfl
          refine gent_cons (A' := ?_) (fun vs L w1 hL hw1 => ?_) ?_ ?_
          rotate_left 1
          · obtain ⟨q0, q1, q3, q5, q6, qa, h6, ha⟩ := HO.out _ _ _ hw1
            have n6 : L 6 = false := hL.1
            have n10 : L 10 = false := by
              cases h : L 10
              · rfl
              · rw [ha h] at n6; cases n6
            have l3 : L 3 = true := hL.need 3 (by kernel_rfl)
            have l5 : L 5 = true := hL.need 5 (by kernel_rfl)
            have o3 := q3 l3 n6
            obtain ⟨gb, e5, s5⟩ := q5 l5 n6
            refine gen_plain rfl ?_
            refine gr_append_sp (.tmp 37) (.tmp 39) rfl (m := [x]) rfl rfl o3 e5 s5 (by simp only [List.length_take, List.length_cons, List.length_nil]; omega) q0.size ?_
            intro v3 w3 o6 g3
            have hg := o3.below q0 g3 q0.size
            exact HI.out _ _ _ ⟨hg, kn_free q1 rfl, (fun _ h => by cases h), (fun _ h => by cases h), fun _ _ => o6, (fun h => by rw [show L 10 = true from h] at n10; cases n10), fun _ => ⟨l3, l5⟩, (fun h => by rw [show L 10 = true from h] at n10; cases n10)⟩
          · intro vs
            simp only [Act.put, List.setIfInBounds_toArray, List.set_cons_succ, List.set_cons_zero]
            rfl
          refine gent_cons (A' := ?_) (fun vs L w1 hL hw1 => ?_) ?_ ?_
          rotate_left 1
          · obtain ⟨q0, q1, q3, q5, q6, qa, h6, ha⟩ := HO.out _ _ _ hw1
            refine gen_plain rfl ?_
            go_simp
            exact gr_val (HI.out _ _ _ ⟨q0, kn_known q1 rfl, q3, q5, q6, qa, h6, ha⟩)
          · intro vs
            simp only [Act.put, List.setIfInBounds_toArray, List.set_cons_succ, List.set_cons_zero]
            rfl
          refine gent_cons (A' := ?_) (fun vs L w1 hL hw1 => ?_) ?_ ?_
          rotate_left 1
          · obtain ⟨q0, q1, q3, q5, q6, qa, h6, ha⟩ := HO.out _ _ _ hw1
            refine gen_plain rfl ?_
            go_simp
            exact gr_val (HI.out _ _ _ ⟨q0, kn_known q1 rfl, q3, q5, q6, qa, h6, ha⟩)
          · intro vs
            simp only [Act.put, List.setIfInBounds_toArray, List.set_cons_succ, List.set_cons_zero]
            rfl
          refine gent_cons (A' := ?_) (fun vs L w1 hL hw1 => ?_) ?_ ?_
          rotate_left 1
          · obtain ⟨q0, q1, q3, q5, q6, qa, h6, ha⟩ := HO.out _ _ _ hw1
            have l7 : L 7 = true := hL.need 7 (by kernel_rfl)
            have e7 := q1 7 _ rfl l7
            have l8 : L 8 = true := hL.need 8 (by kernel_rfl)
            have e8 := q1 8 _ rfl l8
            refine gen_plain rfl ?_
            simp only [e7, e8]
            go_simp
            exact gr_val (HI.out _ _ _ ⟨q0, kn_known q1 rfl, q3, q5, q6, qa, h6, ha⟩)
          · intro vs
            simp only [Act.put, List.setIfInBounds_toArray, List.set_cons_succ, List.set_cons_zero]
            rfl
          refine gent_cons (A' := ?_) (fun vs L w1 hL hw1 => ?_) ?_ ?_
          rotate_left 1
          · obtain ⟨q0, q1, q3, q5, q6, qa, h6, ha⟩ := HO.out _ _ _ hw1
            have n10 : L 10 = false := hL.1
            have l6 : L 6 = true := hL.need 6 (by kernel_rfl)
            have o6 := q6 l6 n10
            have l9 : L 9 = true := hL.need 9 (by kernel_rfl)
            have e9 := q1 9 _ rfl l9
            refine gen_plain rfl ?_
            refine gr_append_sp (.tmp 40) (.tmp 43) rfl (m := d.drop m) (by simp) rfl o6 e9 (sps_drop (hin.grows q0) hmd hc3) (by simp only [List.length_append, List.length_take, List.length_drop, List.length_cons, List.length_nil]; omega) q0.size ?_
            intro v3 w3 o7 g3
            have hg := o6.below q0 g3 q0.size
            exact HI.out _ _ _ ⟨hg, kn_free q1 rfl, (fun h h0 => by rw [show L 6 = false from h0] at l6; cases l6), (fun h h0 => by rw [show L 6 = false from h0] at l6; cases l6), (fun _ h => by cases h), fun _ => o7, h6, fun _ => l6⟩
          · intro vs
            simp only [Act.put, List.setIfInBounds_toArray, List.set_cons_succ, List.set_cons_zero]
            rfl
          refine gent_nil ?_
          intro vs L W2 hall hS
          obtain ⟨hq, -, -, -, -, qa, -, -⟩ := HO.out _ _ _ hS
          have hown2 := qa (hall 10 (by omega))
          clear hall hS HI HO qa
          have hown3 := hown2.mono hB.size
          have hB2 := below_grows hB (Nat.le_refl _) hq
          clear hown2 hq hin k6
          generalize vs 10 = v44 at *
          go_wp2
          go_roundw
          case rel => exact ⟨k + 1, d.take m ++ [x] ++ d.drop m, by omega, by go_num, by rw [HT.out]; exact HPE.out, HSO.out, hown3, hB2⟩
          case measure => simp [intOf]; omega
        obtain ⟨j, hj⟩ : ∃ j, m = j + 1 := ⟨m - 1, by omega⟩
        obtain ⟨ad3, y, rfl, had3, hy, d0, d1⟩ := hin.elem (k := j) (by omega)
        have HY : Hid (d.take m = d.take j ++ [y]) := Lib.hid (by rw [hj]; exact take_snoc hy)
        have HD : Hid (d.drop j = y :: d.drop m) := Lib.hid (by
          obtain ⟨hj2, hyy⟩ := List.getElem?_eq_some_iff.1 hy
          rw [← hyy, hj]
          exact List.drop_eq_getElem_cons hj2)
        clear hy
        have hidx : IntKind.i64.wrap ((m : Int) - 1) = (j : Int) := by rw [IntWalk.i64_in _ (by omega)]; omega
        have hjd : (j : Int) < (d.length : Int) := by omega
        have hpos : decide ((0 : Int) < (m : Int)) = true := decide_eq_true (by omega)
        have hposN : 0 < m := by omega
        have HJ := Lib.hid hj
        clear hj h0
        by_cases hxy : x.1 < y.1
        · go_upto_region 6 with fail
          go_region
          have hg := Grows.drew' wr
          generalize World.drew _ = W at *
          clear d0 d1 e0 e1
          go_wp2
          go_roundw
          case rel =>
            refine ⟨j, by omega, by go_num, fun z hz => ?_, below_grows hg0 (Nat.le_refl _) hg⟩
            rw [HD.out] at hz
            rcases List.mem_cons.1 hz with rfl | hz
            · omega
            · exact hgt z hz
          case measure =>
            have := HJ.out
            simp [intOf]
            omega
        · have HLE : Hid (∀ z ∈ d.take m, z.1 ≤ x.1) := Lib.hid (fun z hz => by
            rw [HY.out] at hz
            rcases List.mem_append.1 hz with hz | hz
            · have := (List.pairwise_append.1 (show (d.take j ++ y :: d.drop m).Pairwise (fun x y => x.1 ≤ y.1) by rw [← HD.out, List.take_append_drop]; exact hs)).2.2 z hz y (by simp)
              omega
            · rw [List.mem_singleton.1 hz]; omega)
          go_upto_region 6 with fail
          go_region
          clear hpos hposN hidx hjd HY HD HJ d0 d1
          have hg := Grows.drew' wr
          generalize World.drew _ = W at *
          replace hB := below_grows hB (Nat.le_refl _) hg
          replace hin := hin.grows hg
          replace k6 := k6.grows hg
          clear e0 e1 hg
          have hdec : d.take m ++ d.drop m = d := List.take_append_drop _ _
          have HSO := Lib.hid (put_sorted (by rw [hdec]; exact hs) HLE.out hgt)
          have HPE := Lib.hid (put_perm (x := x) (t := l.take k) (by rw [hdec]; exact hp))
          clear HLE hdec hgt hs hp
          have hmc : m ≤ c3 := by omega
          go_upto_region 8 with fail
          obtain ⟨S, HI, HO⟩ : ∃ S : Ran → (Nat → Value) → World → Prop, Hid (∀ L vs w', (Grows W w' ∧ KnS [some (.slice (some ad3) d.length c3), some (.int .i64 m), some (.slice (some ad3) m c3), none, some (.agg #[.int .i64 x.1, .int .i64 x.2]), none, none, some (.slice (some ad3) d.length c3), some (.int .i64 m), some (.slice (if c3 = m then (some ad3) else (some ad3).map (fun x => x.add (m * 2))) (d.length - m) (c3 - m)), none] L vs ∧ (L 3 = true → L 6 = false → Own w' W.heap.size (vs 3) (d.take m)) ∧ (L 5 = true → L 6 = false → ∃ gb, vs 5 = .slice (some ⟨gb, 0, none⟩) 1 1 ∧ Sps w' (some ⟨gb, 0, none⟩) [x]) ∧ (L 6 = true → L 10 = false → Own w' W.heap.size (vs 6) (d.take m ++ [x])) ∧ (L 10 = true → Own w' W.heap.size (vs 10) (d.take m ++ [x] ++ d.drop m)) ∧ (L 6 = true → L 3 = true ∧ L 5 = true) ∧ (L 10 = true → L 6 = true)) → S L vs w') ∧ Hid (∀ L vs w', S L vs w' → (Grows W w' ∧ KnS [some (.slice (some ad3) d.length c3), some (.int .i64 m), some (.slice (some ad3) m c3), none, some (.agg #[.int .i64 x.1, .int .i64 x.2]), none, none, some (.slice (some ad3) d.length c3), some (.int .i64 m), some (.slice (if c3 = m then (some ad3) else (some ad3).map (fun x => x.add (m * 2))) (d.length - m) (c3 - m)), none] L vs ∧ (L 3 = true → L 6 = false → Own w' W.heap.size (vs 3) (d.take m)) ∧ (L 5 = true → L 6 = false → ∃ gb, vs 5 = .slice (some ⟨gb, 0, none⟩) 1 1 ∧ Sps w' (some ⟨gb, 0, none⟩) [x]) ∧ (L 6 = true → L 10 = false → Own w' W.heap.size (vs 6) (d.take m ++ [x])) ∧ (L 10 = true → Own w' W.heap.size (vs 10) (d.take m ++ [x] ++ d.drop m)) ∧ (L 6 = true → L 3 = true ∧ L 5 = true) ∧ (L 10 = true → L 6 = true))) := ⟨fun L vs w' => Grows W w' ∧ KnS [some (.slice (some ad3) d.length c3), some (.int .i64 m), some (.slice (some ad3) m c3), none, some (.agg #[.int .i64 x.1, .int .i64 x.2]), none, none, some (.slice (some ad3) d.length c3), some (.int .i64 m), some (.slice (if c3 = m then (some ad3) else (some ad3).map (fun x => x.add (m * 2))) (d.length - m) (c3 - m)), none] L vs ∧ (L 3 = true → L 6 = false → Own w' W.heap.size (vs 3) (d.take m)) ∧ (L 5 = true → L 6 = false → ∃ gb, vs 5 = .slice (some ⟨gb, 0, none⟩) 1 1 ∧ Sps w' (some ⟨gb, 0, none⟩) [x]) ∧ (L 6 = true → L 10 = false → Own w' W.heap.size (vs 6) (d.take m ++ [x])) ∧ (L 10 = true → Own w' W.heap.size (vs 10) (d.take m ++ [x] ++ d.drop m)) ∧ (L 6 = true → L 3 = true ∧ L 5 = true) ∧ (L 10 = true → L 6 = true), fun _ _ _ h => h, fun _ _ _ h => h⟩
          refine wp_region_genT S 11 86 (by kernel_rfl) (by kernel_rfl) rfl ?_ ?_
          · exact HI.out _ _ _ ⟨Grows.drew' _, kn_none _ _, (fun h => by cases h), (fun h => by cases h), (fun h => by cases h), (fun h => by cases h), (fun h => by cases h), (fun h => by cases h)⟩
          simp only [List.take_succ_cons, List.take_zero, List.drop_succ_cons, List.drop_zero]
          refine gent_cons (A' := ?_) (fun vs L w1 hL hw1 => ?_) ?_ ?_
          rotate_left 1
          · obtain ⟨q0, q1, q3, q5, q6, qa, h6, ha⟩ := HO.out _ _ _ hw1
            refine gen_plain rfl ?_
            go_simp
            exact gr_val (HI.out _ _ _ ⟨q0, kn_known q1 rfl, q3, q5, q6, qa, h6, ha⟩)
          · intro vs
            simp only [Act.put, List.setIfInBounds_toArray, List.set_cons_succ, List.set_cons_zero]
            rfl
          refine gent_cons (A' := ?_) (fun vs L w1 hL hw1 => ?_) ?_ ?_
          rotate_left 1
          · obtain ⟨q0, q1, q3, q5, q6, qa, h6, ha⟩ := HO.out _ _ _ hw1
            refine gen_plain rfl ?_
            go_simp
            exact gr_val (HI.out _ _ _ ⟨q0, kn_known q1 rfl, q3, q5, q6, qa, h6, ha⟩)
          · intro vs
            simp only [Act.put, List.setIfInBounds_toArray, List.set_cons_succ, List.set_cons_zero]
            rfl
          refine gent_cons (A' := ?_) (fun vs L w1 hL hw1 => ?_) ?_ ?_
          rotate_left 1
          · obtain ⟨q0, q1, q3, q5, q6, qa, h6, ha⟩ := HO.out _ _ _ hw1
            have l0 : L 0 = true := hL.need 0 (by kernel_rfl)
            have e0 := q1 0 _ rfl l0
            have l1 : L 1 = true := hL.need 1 (by kernel_rfl)
            have e1 := q1 1 _ rfl l1
            refine gen_plain rfl ?_
            simp only [e0, e1]
            go_simp
            exact gr_val (HI.out _ _ _ ⟨q0, kn_known q1 rfl, q3, q5, q6, qa, h6, ha⟩)
          · intro vs
            simp only [Act.put, List.setIfInBounds_toArray, List.set_cons_succ, List.set_cons_zero]
            rfl
          refine gent_cons (A' := ?_) (fun vs L w1 hL hw1 => ?_) ?_ ?_
          rotate_left 1
          · obtain ⟨q0, q1, q3, q5, q6, qa, h6, ha⟩ := HO.out _ _ _ hw1
            have n3 : L 3 = false := hL.1
            have n6 : L 6 = false := by
              cases h : L 6
              · rfl
              · rw [(h6 h).1] at n3; cases n3
            have n10 : L 10 = false := by
              cases h : L 10
              · rfl
              · rw [ha h] at n6; cases n6
            have l2 : L 2 = true := hL.need 2 (by kernel_rfl)
            have e2 := q1 2 _ rfl l2
            refine gen_plain rfl ?_
            refine gr_append_sp (.const (.slice none 0 0)) (.tmp 36) rfl (m := d.take m) (by rw [List.length_take]; omega) rfl (own_nil w1 W.heap.size) e2 (sps_take (hin.grows q0) m) (by simp only [List.length_nil, List.length_take]; omega) q0.size ?_
            intro v3 w3 o3 g3
            have hg : Grows w1 w3 := (Below.refl _ _).grown g3 (Nat.le_refl _) (fun q hq => by cases hq)
            exact HI.out _ _ _ ⟨below_grows q0 (Nat.le_refl _) hg, kn_free q1 rfl, fun _ _ => o3, (fun h h0 => by obtain ⟨gb, e, s⟩ := q5 h h0; exact ⟨gb, e, s.grows hg⟩), (fun h _ => by rw [show L 6 = true from h] at n6; cases n6), (fun h => by rw [show L 10 = true from h] at n10; cases n10), (fun h => by rw [show L 6 = true from h] at n6; cases n6), (fun h => by rw [show L 10 = true from h] at n10; cases n10)⟩
          · intro vs
            simp only [Act.put, List.setIfInBounds_toArray, List.set_cons_succ, List.set_cons_zero]
            rfl
          refine gent_cons (A' := ?_) (fun vs L w1 hL hw1 => ?_) ?_ ?_
          rotate_left 1
          · obtain ⟨q0, q1, q3, q5, q6, qa, h6, ha⟩ := HO.out _ _ _ hw1
            have e0 := (k6.grows q0).cell 0
            have e1 := (k6.grows q0).cell 1
            refine gen_plain rfl ?_
            go_simp
            exact gr_val (HI.out _ _ _ ⟨q0, kn_known q1 rfl, q3, q5, q6, qa, h6, ha⟩)
          · intro vs
            simp only [Act.put, List.setIfInBounds_toArray, List.set_cons_succ, List.set_cons_zero]
            rfl
          refine gent_cons (A' := ?_) (fun vs L w1 hL hw1 => ?_) ?_ ?_
          rotate_left 1
          · obtain ⟨q0, q1, q3, q5, q6, qa, h6, ha⟩ := HO.out _ _ _ hw1
            have n5 : L 5 = false := hL.1
            have n6 : L 6 = false := by
              cases h : L 6
              · rfl
              · rw [(h6 h).2] at n5; cases n5
            have n10 : L 10 = false := by
              cases h : L 10
              · rfl
              · rw [ha h] at n6; cases n6
            have l4 : L 4 = true := hL.need 4 (by kernel_rfl)
            have e4 := q1 4 _ rfl l4
            refine gen_plain rfl ?_
            simp only [e4]
            go_simp
            have hg := (Below.refl w1.heap.size w1).alloc (Nat.le_refl _) (Obj.cells (csS x) 40)
            exact gr_val (HI.out _ _ _ ⟨below_grows q0 (Nat.le_refl _) hg, kn_free q1 rfl, (fun h h0 => (q3 h h0).grows hg), (fun _ _ => ⟨_, rfl, sps_lit w1 x⟩), (fun h _ => by rw [show L 6 = true from h] at n6; cases n6), (fun h => by rw [show L 10 = true from h] at n10; cases n10), (fun h => by rw [show L 6 = true from h] at n6; cases n6), (fun h => by rw [show L 10 = true from h] at n10; cases n10)⟩)
          · intro vs
            simp only [Act.put, List.setIfInBounds_toArray, List.set_cons_succ, List.set_cons_zero]
            rfl
          refine gent_cons (A' := ?_) (fun vs L w1 hL hw1 => ?_) ?_ ?_
          rotate_left 1
          · obtain ⟨q0, q1, q3, q5, q6, qa, h6, ha⟩ := HO.out _ _ _ hw1
            have n6 : L 6 = false := hL.1
            have n10 : L 10 = false := by
              cases h : L 10
              · rfl
              · rw [ha h] at n6; cases n6
            have l3 : L 3 = true := hL.need 3 (by kernel_rfl)
            have l5 : L 5 = true := hL.need 5 (by kernel_rfl)
            have o3 := q3 l3 n6
            obtain ⟨gb, e5, s5⟩ := q5 l5 n6
            refine gen_plain rfl ?_
            refine gr_append_sp (.tmp 37) (.tmp 39) rfl (m := [x]) rfl rfl o3 e5 s5 (by simp only [List.length_take, List.length_cons, List.length_nil]; omega) q0.size ?_
            intro v3 w3 o6 g3
            have hg := o3.below q0 g3 q0.size
            exact HI.out _ _ _ ⟨hg, kn_free q1 rfl, (fun _ h => by cases h), (fun _ h => by cases h), fun _ _ => o6, (fun h => by rw [show L 10 = true from h] at n10; cases n10), fun _ => ⟨l3, l5⟩, (fun h => by rw [show L 10 = true from h] at n10; cases n10)⟩
          · intro vs
            simp only [Act.put, List.setIfInBounds_toArray, List.set_cons_succ, List.set_cons_zero]
            rfl
          refine gent_cons (A' := ?_) (fun vs L w1 hL hw1 => ?_) ?_ ?_
          rotate_left 1
          · obtain ⟨q0, q1, q3, q5, q6, qa, h6, ha⟩ := HO.out _ _ _ hw1
            refine gen_plain rfl ?_
            go_simp
            exact gr_val (HI.out _ _ _ ⟨q0, kn_known q1 rfl, q3, q5, q6, qa, h6, ha⟩)
          · intro vs
            simp only [Act.put, List.setIfInBounds_toArray, List.set_cons_succ, List.set_cons_zero]
            rfl
          refine gent_cons (A' := ?_) (fun vs L w1 hL hw1 => ?_) ?_ ?_
          rotate_left 1
          · obtain ⟨q0, q1, q3, q5, q6, qa, h6, ha⟩ := HO.out _ _ _ hw1
            refine gen_plain rfl ?_
            go_simp
            exact gr_val (HI.out _ _ _ ⟨q0, kn_known q1 rfl, q3, q5, q6, qa, h6, ha⟩)
          · intro vs
            simp only [Act.put, List.setIfInBounds_toArray, List.set_cons_succ, List.set_cons_zero]
            rfl
          refine gent_cons (A' := ?_) (fun vs L w1 hL hw1 => ?_) ?_ ?_
          rotate_left 1
          · obtain ⟨q0, q1, q3, q5, q6, qa, h6, ha⟩ := HO.out _ _ _ hw1
            have l7 : L 7 = true := hL.need 7 (by kernel_rfl)
            have e7 := q1 7 _ rfl l7
            have l8 : L 8 = true := hL.need 8 (by kernel_rfl)
            have e8 := q1 8 _ rfl l8
            refine gen_plain rfl ?_
            simp only [e7, e8]
            go_simp
            exact gr_val (HI.out _ _ _ ⟨q0, kn_known q1 rfl, q3, q5, q6, qa, h6, ha⟩)
          · intro vs
            simp only [Act.put, List.setIfInBounds_toArray, List.set_cons_succ, List.set_cons_zero]
            rfl
          refine gent_cons (A' := ?_) (fun vs L w1 hL hw1 => ?_) ?_ ?_
          rotate_left 1
          · obtain ⟨q0, q1, q3, q5, q6, qa, h6, ha⟩ := HO.out _ _ _ hw1
            have n10 : L 10 = false := hL.1
            have l6 : L 6 = true := hL.need 6 (by kernel_rfl)
            have o6 := q6 l6 n10
            have l9 : L 9 = true := hL.need 9 (by kernel_rfl)
            have e9 := q1 9 _ rfl l9
            refine gen_plain rfl ?_
            refine gr_append_sp (.tmp 40) (.tmp 43) rfl (m := d.drop m) (by simp) rfl o6 e9 (sps_drop (hin.grows q0) hmd hc3) (by simp only [List.length_append, List.length_take, List.length_drop, List.length_cons, List.length_nil]; omega) q0.size ?_
            intro v3 w3 o7 g3
            have hg := o6.below q0 g3 q0.size
            exact HI.out _ _ _ ⟨hg, kn_free q1 rfl, (fun h h0 => by rw [show L 6 = false from h0] at l6; cases l6), (fun h h0 => by rw [show L 6 = false from h0] at l6; cases l6), (fun _ h => by cases h), fun _ => o7, h6, fun _ => l6⟩
          · intro vs
            simp only [Act.put, List.setIfInBounds_toArray, List.set_cons_succ, List.set_cons_zero]
            rfl
          refine gent_nil ?_
          intro vs L W2 hall hS
          obtain ⟨hq, -, -, -, -, qa, -, -⟩ := HO.out _ _ _ hS
          have hown2 := qa (hall 10 (by omega))
          clear hall hS HI HO qa
          have hown3 := hown2.mono hB.size
          have hB2 := below_grows hB (Nat.le_refl _) hq
          clear hown2 hq hin k6
          generalize vs 10 = v44 at *
          go_wp2
          go_roundw
          case rel => exact ⟨k + 1, d.take m ++ [x] ++ d.drop m, by omega, by go_num, by rw [HT.out]; exact HPE.out, HSO.out, hown3, hB2⟩
          case measure => simp [intOf]; omega
    · have e : l.take k = l := List.take_of_length_le (by omega)
      rw [e] at hp
      clear e HPL
      obtain ⟨A3, c3, rfl, hc3, hin, -⟩ := hown.read
      have HPL := Lib.hid (show d.length = l.length from hp.length_eq)
      have hdl : d.length ≤ 10000 := by have := HPL.out; omega
      have hfd : ∀ x ∈ d, fineS x = true := fun x hx => hf x (hp.mem_iff.1 hx)
      clear hown
      have hB1 := hB
      clear hB
      go_upto_region 11 with fail
      generalize wr = W1 at *
      go_loopw [4, 48] (fun v i wr => ∃ j : Nat, j ≤ d.length ∧ i = .int .i64 j ∧ Own wr W1.heap.size v (mergeL (d.take j)) ∧ Grows W1 wr) (fun _ i _ => d.length - (intOf i).toNat)
      case atStart => exact ⟨0, by omega, rfl, own_nil _ _, Below.refl _ _⟩
      case round =>
        obtain ⟨k, hk, rfl, hown, hB⟩ := hrel
        by_cases hlt : k < d.length
        · obtain ⟨ad, x, rfl, had, hx, c0, c1⟩ := (hin.grows hB).elem hlt
          have HX : Hid (mergeL (d.take (k + 1)) = mergeS (mergeL (d.take k)) x) := Lib.hid (by rw [take_snoc hx, mergeL_snoc])
          have hxf := (fineS_iff x).1 (hfd x (List.mem_of_getElem? hx))
          have hof := mergeL_fine (d.take k) fun z hz => hfd z (List.mem_of_mem_take hz)
          have hlen : (mergeL (d.take k)).length ≤ 100000 := Nat.le_trans (mergeL_len _) (by rw [List.length_take]; omega)
          generalize mergeL (d.take k) = out at *
          clear hx
          have hz := hB.size
          obtain ⟨A2, c2, rfl, hcap, hr, hge⟩ := hown.read
          have k5 := Blk.new wr 40 #[.int .i64 x.1, .int .i64 x.2]
          have hq := (Below.refl wr.heap.size wr).alloc (Nat.le_refl _) (Obj.cells #[.int .i64 x.1, .int .i64 x.2] 40)
          by_cases h0 : out.length = 0
          · obtain rfl : out = [] := List.length_eq_zero_iff.1 h0
            go_upto_region 14 with fail
            go_region
            have hq6 := below_grows hq (Nat.le_refl _) (Grows.drew' _)
            replace k5 := k5.drew
            have hown6 := hown.grows hq6
            have hB6 := below_grows hB (Nat.le_refl _) hq6
            have hz6 := hB6.size
            generalize World.drew _ = w6 at *
            clear hq hq6
            have e0 := k5.cell 0
            have e1 := k5.cell 1
            go_upto_region 16 with fail
            refine wp_region_lit ?_
            iterate 3
              refine wpList_plain rfl (fun K hK => ?_)
              go_simp
              refine hK _ _ ?_
              clear hK K
            have hq8 := (Below.refl w6.heap.size w6).alloc (Nat.le_refl _) (Obj.cells #[.int .i64 x.1, .int .i64 x.2] 40)
            have hown8 := hown6.grows hq8
            have hB8 := below_grows hB6 (Nat.le_refl _) hq8
            refine wpList_append_sp rfl (.tmp 80) (.tmp 82) rfl (m := [x]) rfl rfl hown8 rfl (sps_lit w6 x) (by simp <;> omega) hB8.size ?_
            intro v3 w3 hown3 hgr3
            have hB3 := hown8.below hB8 hgr3 hB8.size
            clear hown hown6 hown8 hgr3 hq8 hB6 hB8 e0 e1 k5
            have e : mergeL (d.take (k + 1)) = [] ++ [x] := HX.out
            rw [← e] at hown3
            go_wp2
            go_roundw
            case rel => exact ⟨k + 1, by omega, by go_num, hown3, hB3⟩
            case measure => simp [intOf]; omega
          · obtain ⟨q, y, rfl⟩ : ∃ q y, out = q ++ [y] := by
              cases hl : out.getLast? with
              | none => exact absurd (by rw [List.getLast?_eq_none_iff.1 hl]; rfl) h0
              | some y => exact ⟨out.dropLast, y, last_split hl⟩
            obtain ⟨ad2, y', rfl, had2, hy', d0, d1⟩ := hr.elem (k := q.length) (by simp)
            obtain rfl : y' = y := by simpa using hy'.symm
            have hyf := (fineS_iff y').1 (hof y' (by simp))
            have HM : Hid (mergeS (q ++ [y']) x = if x.1 ≤ y'.2 + 1 then q ++ [(y'.1, max y'.2 x.2)] else (q ++ [y']) ++ [x]) := Lib.hid (by unfold mergeS; rw [List.getLast?_concat]; simp only [List.dropLast_concat])
            clear hof hy' h0
            obtain ⟨g, rfl, hg1, hg2⟩ := hown.addr (by simp)
            have hn1 : (q ++ [y']).length = q.length + 1 := by simp
            rw [hn1] at hown hlen hcap ⊢
            have hpa : (⟨g, 0, none⟩ : Addr).add (q.length * 2) = ⟨g, q.length * 2, none⟩ := by
              unfold Addr.add
              split
              · simp_all
              · simp
            rw [hpa] at d0 d1
            simp only [] at d0 d1
            have hfz := (show Own wr W1.heap.size (.slice (some ⟨g, 0, none⟩) (q ++ [y']).length c2) (q ++ [y']) by rw [hn1]; exact hown).frozenAt (q.length * 2 + 1)
            have hidx : IntKind.i64.wrap (((q.length + 1 : Nat) : Int) - 1) = (q.length : Int) := by rw [IntWalk.i64_in _ (by omega)]; omega
            have hadd : IntKind.i64.wrap (x.1 - 1) = x.1 - 1 := IntWalk.i64_in _ (by omega)
            clear hr hge had2
            by_cases ht : x.1 ≤ y'.2 + 1
            · have ht2 : x.1 - 1 ≤ y'.2 := by omega
              go_upto_region 14 with fail
              go_region
              go_upto_region 15 with fail
              go_region
              have hown2 : Own wr W1.heap.size (.slice (some ⟨g, 0, none⟩) (q ++ [y']).length c2) (q ++ [y']) := by rw [hn1]; exact hown
              have e : mergeL (d.take (k + 1)) = q ++ [(y'.1, max y'.2 x.2)] := by rw [HX.out, HM.out, if_pos ht]
              have HE := Lib.hid e
              clear e HX HM
              generalize (max y'.2 x.2) = z at *
              have h3 := hown2.setHi z
              have hb3 := hB.setCell (p := ⟨g, q.length * 2 + 1, none⟩) hg1 (.int .i64 z)
              rw [hn1] at h3
              generalize World.setCell wr _ _ = w3 at *
              have hg3 : Grows w3 ((w3.alloc (Obj.cells #[.int .i64 x.1, .int .i64 x.2] 40)).drew.drew) := below_grows (below_grows ((Below.refl w3.heap.size w3).alloc (Nat.le_refl _) (Obj.cells #[.int .i64 x.1, .int .i64 x.2] 40)) (Nat.le_refl _) (Grows.drew' _)) (Nat.le_refl _) (Grows.drew' _)
              replace h3 := h3.grows hg3
              replace hb3 := below_grows hb3 (Nat.le_refl _) hg3
              rw [← HE.out] at h3
              clear hown hown2 k5 hq d0 d1 hfz hidx hadd hg3
              generalize World.drew _ = w4 at *
              go_wp2
              go_roundw
              case rel => exact ⟨k + 1, by omega, by go_num, h3, hb3⟩
              case measure => simp [intOf]; omega
            · have ht2 : ¬ x.1 - 1 ≤ y'.2 := by omega
              go_upto_region 14 with fail
              go_region
              have hq6 := below_grows hq (Nat.le_refl _) (Grows.drew' _)
              replace k5 := k5.drew
              have hown6 := hown.grows hq6
              have hB6 := below_grows hB (Nat.le_refl _) hq6
              have hz6 := hB6.size
              generalize World.drew _ = w6 at *
              clear hq hq6
              have e0 := k5.cell 0
              have e1 := k5.cell 1
              clear d0 d1 hfz hidx hadd
              go_upto_region 16 with fail
              refine wp_region_lit ?_
              iterate 3
                refine wpList_plain rfl (fun K hK => ?_)
                go_simp
                refine hK _ _ ?_
                clear hK K
              have hq8 := (Below.refl w6.heap.size w6).alloc (Nat.le_refl _) (Obj.cells #[.int .i64 x.1, .int .i64 x.2] 40)
              have hown8 := hown6.grows hq8
              have hB8 := below_grows hB6 (Nat.le_refl _) hq8
              refine wpList_append_sp rfl (.tmp 80) (.tmp 82) rfl (m := [x]) rfl rfl hown8 rfl (sps_lit w6 x) (by simp <;> omega) hB8.size ?_
              intro v3 w3 hown3 hgr3
              have hB3 := hown8.below hB8 hgr3 hB8.size
              clear hown hown6 hown8 hgr3 hq8 hB6 hB8 e0 e1 k5
              have e : mergeL (d.take (k + 1)) = (q ++ [y']) ++ [x] := by rw [HX.out, HM.out, if_neg ht]
              rw [← e] at hown3
              clear HX HM e
              go_wp2
              go_roundw
              case rel => exact ⟨k + 1, by omega, by go_num, hown3, hB3⟩
              case measure => simp [intOf]; omega
        · have e : d.take k = d := List.take_of_length_le (by omega)
          rw [e, form_eq hf hp hs] at hown
          replace hown := hown.mono hB1.size
          have hB2 := below_grows hB1 (Nat.le_refl _) hB
          clear e
          go_wp2
          go_ret
          exact ⟨⟨_, rfl, hown⟩, hB2⟩
end Go.Proofs.Ytejdaodchaeglaa
