/-
  YtnbdpnlepcjmmaaGreatOfferChooses: shared parts, 3. Plain theorems.
-/
import Derived.Test.YtnbdpnlepcjmmaaGreatOfferChoosesK2
import Derived.Lib.MinMax
namespace Go.Proofs.YtnbdpnlepcjmmaaGreat
open Go.RowKit
set_option maxRecDepth 100000
/-- A span put into a row that is in order, behind those that begin no later. -/
theorem put_sorted {p q : List Sp} {x : Sp} (h : (p ++ q).Pairwise (fun x y => x.1 ≤ y.1)) (hp : ∀ y ∈ p, y.1 ≤ x.1) (hq : ∀ y ∈ q, x.1 ≤ y.1) : (p ++ [x] ++ q).Pairwise (fun x y => x.1 ≤ y.1) := by
 rw [List.append_assoc, List.pairwise_append]
 rw [List.pairwise_append] at h
 refine ⟨h.1, List.pairwise_cons.2 ⟨hq, h.2.1⟩, fun a ha b hb => ?_⟩
 rcases List.mem_cons.1 hb with rfl | hb
 ·exact hp a ha
 ·exact h.2.2 a ha b hb
theorem put_perm {p q t : List Sp} {x : Sp} (h : (p ++ q).Perm t) : (p ++ [x] ++ q).Perm (t ++ [x]) := by
 refine ((List.perm_append_comm (l₁ := p) (l₂ := [x])).append_right q).trans ?_
 rw [List.append_assoc]
 exact (List.perm_append_comm).trans (List.Perm.append_right _ h)
theorem gr_append_sp {o : Oper} {ev : Operand → Value} {w : World} {T : Value → World → Prop} (s x : Operand) (ho : o.op = .call { callee := .builtin .append, args := #[s, x], argTypes := #[43, 43] })
 {base : Nat} {v : Value} {l m : List Sp} {A : Option Addr} {c n : Nat} (hn : n = m.length) (hs : ev s = v) (hown : Own w base v l) (hx : ev x = .slice A n c) (hr : Sps w A m) (hlen : l.length + m.length ≤ 1000000) (hbase : base ≤ w.heap.size)
 (h : ∀ v' w', Own w' base v' (l ++ m) → w.grownBy w' v.ownBlock → T v' w') : genR Tryz.prog T ((execOp ev o).run Tryz.prog w) := by
 obtain ⟨i0, hi0, hi1, hi2, hi3, hi4⟩ := sinfo
 subst hn
 obtain ⟨v', w', hrun, h2, h3, h4⟩ := run_append_any (P := Tryz.prog) w base 43 o.type 93 i0 _ 2 16 Tryz.underlying43 hi0 hi3 hi1 hi2 hi4 (by omega) v l.length (scells l) hown w.heap.size A m.length c (scells m) hr (scells_one m) (by simp only [maxLen]; omega) (by omega) hbase
 unfold execOp
 simp only [ho, resolve, invoke, builtin, Sem.run_bind, Sem.run_pure, Result.andThen_ok, List.map_toArray, List.map_cons, List.map_nil, hs, hx, hrun]
 refine h v' w' ?_ h3
 unfold Own
 rw [scells_append, List.length_append]
 exact h2
set_option maxHeartbeats 16000000 in
theorem joined_any (A : Option Addr) (c : Nat) (l : List Sp) (w : World) (h : Sps w A l) (hl : l.length ≤ 10000) (hf : ∀ x ∈ l, fineS x = true) :
 Calls Tryz.prog 137 #[.slice A l.length c] w fun e w' => (∃ v, e = .returned v ∧ Own w' w.heap.size v (formS l)) ∧ Grows w w' := by
 go_enter Tryz.func137, Tryz.ntmps137
 go_wp2_with fail
 go_loopw [3, 13] (fun v i wr => ∃ (k : Nat) (d : List Sp), k ≤ l.length ∧ i = .int .i64 k ∧ d.Perm (l.take k) ∧ d.Pairwise (fun x y => x.1 ≤ y.1) ∧ Own wr w.heap.size v d ∧ Grows w wr) (fun _ i _ => l.length - (intOf i).toNat)
 case atStart => exact ⟨0, [], by omega, rfl, List.Perm.refl _, List.Pairwise.nil, own_nil _ _, Below.refl _ _⟩
 case round =>
  obtain ⟨k, d, hk, rfl, hp, hs, hown, hB⟩ := hrel
  have HPL := Lib.hid (show d.length = k by rw [hp.length_eq, List.length_take]; omega)
  by_cases hlt : k < l.length
  ·obtain ⟨ad, x, rfl, had, hx, c0, c1⟩ := (h.grows hB).elem hlt
   have HT : Hid (l.take (k + 1) = l.take k ++ [x]) := take_snoc hx
   have hxf := (fineS_iff x).1 (hf x (List.mem_of_getElem? hx))
   clear hx
   obtain ⟨A3, c3, rfl, hc3, hin, -⟩ := hown.read
   have k6 := Blk.new wr 93 #[.int .i64 x.1, .int .i64 x.2]
   have hq := (Below.refl wr.heap.size wr).alloc (Nat.le_refl _) (Obj.cells #[.int .i64 x.1, .int .i64 x.2] 93)
   replace hB := below_grows hB (Nat.le_refl _) hq
   replace hin := hin.grows hq
   have hdl : d.length ≤ 10000 := by have := HPL.out; omega
   clear hown
   go_upto_region 6 with fail
   clear c0 c1 hq
   generalize World.alloc wr _ = W0 at *
   generalize wr.heap.size = G6 at *
   have e0 := k6.cell 0
   have e1 := k6.cell 1
   go_loopw [7] (fun i W => ∃ m : Nat, m ≤ d.length ∧ i = .int .i64 m ∧ (∀ y ∈ d.drop m, x.1 ≤ y.1) ∧ Grows W0 W) (fun i _ => (intOf i).toNat)
   case atStart => exact ⟨d.length, Nat.le_refl _, rfl, by simp, Below.refl _ _⟩
   case round =>
    obtain ⟨m, hmd, rfl, hgt, hg⟩ := hrel
    have hg0 := hg
    replace hB := below_grows hB (Nat.le_refl _) hg
    replace hin := hin.grows hg
    replace k6 := k6.grows hg
    clear e0 e1 hg
    have e0 := k6.cell 0
    have e1 := k6.cell 1
    by_cases h0 : m = 0
    ·have hpos : decide ((0 : Int) < (m : Int)) = false := decide_eq_false (by omega)
     have hposN : ¬ 0 < m := by omega
     have HLE : Hid (∀ z ∈ d.take m, z.1 ≤ x.1) := Lib.hid (fun z hz => by rw [h0] at hz; simp at hz)
     clear h0
     go_upto_region 6 with fail
     go_region
     clear hpos hposN
     have hg := Grows.drew' wr
     generalize World.drew _ = W at *
     replace hB := below_grows hB (Nat.le_refl _) hg
     replace hin := hin.grows hg
     replace k6 := k6.grows hg
     clear e0 e1 hg
     have hdec : d.take m ++ d.drop m = d := List.take_append_drop _ _
     have HSO := Lib.hid (put_sorted (by rw [hdec]; exact hs) HLE.out hgt)
     have HPE := Lib.hid (put_perm (x := x) (t := l.take k) (by rw [hdec]; exact hp))
     clear HLE hdec hgt hs hp
     have hmc : m ≤ c3 := by omega
     go_upto_region 8 with fail
     obtain ⟨S, HI, HO⟩ := hideS fun (L : Ran) (vs : Nat → Value) (w' : World) => Grows W w' ∧ KnS [some (.slice A3 d.length c3), some (.int .i64 m), some (.slice A3 m c3), none, some (.agg #[.int .i64 x.1, .int .i64 x.2]), none, none, some (.slice A3 d.length c3), some (.int .i64 m), some (.slice (if c3 = m then A3 else A3.map (fun x => x.add (m * 2))) (d.length - m) (c3 - m)), none] L vs ∧ (L 3 = true → L 6 = false → Own w' W.heap.size (vs 3) (d.take m)) ∧ (L 5 = true → L 6 = false → ∃ gb, vs 5 = .slice (some ⟨gb, 0, none⟩) 1 1 ∧ Sps w' (some ⟨gb, 0, none⟩) [x]) ∧ (L 6 = true → L 10 = false → Own w' W.heap.size (vs 6) (d.take m ++ [x])) ∧ (L 10 = true → Own w' W.heap.size (vs 10) (d.take m ++ [x] ++ d.drop m)) ∧ (L 6 = true → L 3 = true ∧ L 5 = true) ∧ (L 10 = true → L 6 = true)
     refine wp_region_genT S 11 86 (by kernel_rfl) (by kernel_rfl) rfl ?_ ?_
     ·exact HI.out _ _ _ ⟨Grows.drew' _, kn_none _ _, (fun h => by cases h), (fun h => by cases h), (fun h => by cases h), (fun h => by cases h), (fun h => by cases h), (fun h => by cases h)⟩
     simp only [List.take_succ_cons, List.take_zero, List.drop_succ_cons, List.drop_zero]
     refine gent_consR (fun vs L w1 hL hw1 => ?_) ?_
     ·obtain ⟨q0, q1, q3, q5, q6, qa, h6, ha⟩ := HO.out _ _ _ hw1
      refine gen_plain rfl ?_
      go_simp
      exact gr_val (HI.out _ _ _ ⟨q0, kn_known q1 rfl, q3, q5, q6, qa, h6, ha⟩)
     refine gent_consR (fun vs L w1 hL hw1 => ?_) ?_
     ·obtain ⟨q0, q1, q3, q5, q6, qa, h6, ha⟩ := HO.out _ _ _ hw1
      refine gen_plain rfl ?_
      go_simp
      exact gr_val (HI.out _ _ _ ⟨q0, kn_known q1 rfl, q3, q5, q6, qa, h6, ha⟩)
     refine gent_consR (fun vs L w1 hL hw1 => ?_) ?_
     ·obtain ⟨q0, q1, q3, q5, q6, qa, h6, ha⟩ := HO.out _ _ _ hw1
      have l0 : L 0 = true := hL.need 0 (by kernel_rfl)
      have e0 := q1 0 _ rfl l0
      have l1 : L 1 = true := hL.need 1 (by kernel_rfl)
      have e1 := q1 1 _ rfl l1
      refine gen_plain rfl ?_
      simp only [e0, e1]
      go_simp
      exact gr_val (HI.out _ _ _ ⟨q0, kn_known q1 rfl, q3, q5, q6, qa, h6, ha⟩)
     refine gent_consR (fun vs L w1 hL hw1 => ?_) ?_
     ·obtain ⟨q0, q1, q3, q5, q6, qa, h6, ha⟩ := HO.out _ _ _ hw1
      have n3 : L 3 = false := hL.1
      have n6 : L 6 = false := by
       cases h : L 6
       ·rfl
       ·rw [(h6 h).1] at n3; cases n3
      have n10 : L 10 = false := by
       cases h : L 10
       ·rfl
       ·rw [ha h] at n6; cases n6
      have l2 : L 2 = true := hL.need 2 (by kernel_rfl)
      have e2 := q1 2 _ rfl l2
      refine gen_plain rfl ?_
      refine gr_append_sp (.const (.slice none 0 0)) (.tmp 36) rfl (m := d.take m) (by rw [List.length_take]; omega) rfl (own_nil w1 W.heap.size) e2 (sps_take (hin.grows q0) m) (by simp only [List.length_nil, List.length_take]; omega) q0.size ?_
      intro v3 w3 o3 g3
      have hg : Grows w1 w3 := (Below.refl _ _).grown g3 (Nat.le_refl _) (fun q hq => by cases hq)
      exact HI.out _ _ _ ⟨below_grows q0 (Nat.le_refl _) hg, kn_free q1 rfl, fun _ _ => o3, (fun h h0 => by obtain ⟨gb, e, s⟩ := q5 h h0; exact ⟨gb, e, s.grows hg⟩), (fun h _ => by rw [show L 6 = true from h] at n6; cases n6), (fun h => by rw [show L 10 = true from h] at n10; cases n10), (fun h => by rw [show L 6 = true from h] at n6; cases n6), (fun h => by rw [show L 10 = true from h] at n10; cases n10)⟩
     refine gent_consR (fun vs L w1 hL hw1 => ?_) ?_
     ·obtain ⟨q0, q1, q3, q5, q6, qa, h6, ha⟩ := HO.out _ _ _ hw1
      have e0 := (k6.grows q0).cell 0
      have e1 := (k6.grows q0).cell 1
      refine gen_plain rfl ?_
      go_simp
      exact gr_val (HI.out _ _ _ ⟨q0, kn_known q1 rfl, q3, q5, q6, qa, h6, ha⟩)
     refine gent_consR (fun vs L w1 hL hw1 => ?_) ?_
     ·obtain ⟨q0, q1, q3, q5, q6, qa, h6, ha⟩ := HO.out _ _ _ hw1
      have n5 : L 5 = false := hL.1
      have n6 : L 6 = false := by
       cases h : L 6
       ·rfl
       ·rw [(h6 h).2] at n5; cases n5
      have n10 : L 10 = false := by
       cases h : L 10
       ·rfl
       ·rw [ha h] at n6; cases n6
      have l4 : L 4 = true := hL.need 4 (by kernel_rfl)
      have e4 := q1 4 _ rfl l4
      refine gen_plain rfl ?_
      simp only [e4]
      go_simp
      have hg := (Below.refl w1.heap.size w1).alloc (Nat.le_refl _) (Obj.cells (csS x) 93)
      exact gr_val (HI.out _ _ _ ⟨below_grows q0 (Nat.le_refl _) hg, kn_free q1 rfl, (fun h h0 => (q3 h h0).grows hg), (fun _ _ => ⟨_, rfl, sps_lit w1 x⟩), (fun h _ => by rw [show L 6 = true from h] at n6; cases n6), (fun h => by rw [show L 10 = true from h] at n10; cases n10), (fun h => by rw [show L 6 = true from h] at n6; cases n6), (fun h => by rw [show L 10 = true from h] at n10; cases n10)⟩)
     refine gent_consR (fun vs L w1 hL hw1 => ?_) ?_
     ·obtain ⟨q0, q1, q3, q5, q6, qa, h6, ha⟩ := HO.out _ _ _ hw1
      have n6 : L 6 = false := hL.1
      have n10 : L 10 = false := by
       cases h : L 10
       ·rfl
       ·rw [ha h] at n6; cases n6
      have l3 : L 3 = true := hL.need 3 (by kernel_rfl)
      have l5 : L 5 = true := hL.need 5 (by kernel_rfl)
      have o3 := q3 l3 n6
      obtain ⟨gb, e5, s5⟩ := q5 l5 n6
      refine gen_plain rfl ?_
      refine gr_append_sp (.tmp 37) (.tmp 39) rfl (m := [x]) rfl rfl o3 e5 s5 (by simp only [List.length_take, List.length_cons, List.length_nil]; omega) q0.size ?_
      intro v3 w3 o6 g3
      have hg := o3.below q0 g3 q0.size
      exact HI.out _ _ _ ⟨hg, kn_free q1 rfl, (fun _ h => by cases h), (fun _ h => by cases h), fun _ _ => o6, (fun h => by rw [show L 10 = true from h] at n10; cases n10), fun _ => ⟨l3, l5⟩, (fun h => by rw [show L 10 = true from h] at n10; cases n10)⟩
     refine gent_consR (fun vs L w1 hL hw1 => ?_) ?_
     ·obtain ⟨q0, q1, q3, q5, q6, qa, h6, ha⟩ := HO.out _ _ _ hw1
      refine gen_plain rfl ?_
      go_simp
      exact gr_val (HI.out _ _ _ ⟨q0, kn_known q1 rfl, q3, q5, q6, qa, h6, ha⟩)
     refine gent_consR (fun vs L w1 hL hw1 => ?_) ?_
     ·obtain ⟨q0, q1, q3, q5, q6, qa, h6, ha⟩ := HO.out _ _ _ hw1
      refine gen_plain rfl ?_
      go_simp
      exact gr_val (HI.out _ _ _ ⟨q0, kn_known q1 rfl, q3, q5, q6, qa, h6, ha⟩)
     refine gent_consR (fun vs L w1 hL hw1 => ?_) ?_
     ·obtain ⟨q0, q1, q3, q5, q6, qa, h6, ha⟩ := HO.out _ _ _ hw1
      have l7 : L 7 = true := hL.need 7 (by kernel_rfl)
      have e7 := q1 7 _ rfl l7
      have l8 : L 8 = true := hL.need 8 (by kernel_rfl)
      have e8 := q1 8 _ rfl l8
      refine gen_plain rfl ?_
      simp only [e7, e8]
      go_simp
      exact gr_val (HI.out _ _ _ ⟨q0, kn_known q1 rfl, q3, q5, q6, qa, h6, ha⟩)
     refine gent_consR (fun vs L w1 hL hw1 => ?_) ?_
     ·obtain ⟨q0, q1, q3, q5, q6, qa, h6, ha⟩ := HO.out _ _ _ hw1
      have n10 : L 10 = false := hL.1
      have l6 : L 6 = true := hL.need 6 (by kernel_rfl)
      have o6 := q6 l6 n10
      have l9 : L 9 = true := hL.need 9 (by kernel_rfl)
      have e9 := q1 9 _ rfl l9
      refine gen_plain rfl ?_
      refine gr_append_sp (.tmp 40) (.tmp 43) rfl (m := d.drop m) (by simp) rfl o6 e9 (sps_drop (hin.grows q0) hmd hc3) (by simp only [List.length_append, List.length_take, List.length_drop, List.length_cons, List.length_nil]; omega) q0.size ?_
      intro v3 w3 o7 g3
      have hg := o6.below q0 g3 q0.size
      exact HI.out _ _ _ ⟨hg, kn_free q1 rfl, (fun h h0 => by rw [show L 6 = false from h0] at l6; cases l6), (fun h h0 => by rw [show L 6 = false from h0] at l6; cases l6), (fun _ h => by cases h), fun _ => o7, h6, fun _ => l6⟩
     refine gent_nil ?_
     intro vs L W2 hall hS
     obtain ⟨hq, -, -, -, -, qa, -, -⟩ := HO.out _ _ _ hS
     have hown2 := qa (hall 10 (by omega))
     clear hall hS HI HO qa
     have hown3 := hown2.mono hB.size
     have hB2 := below_grows hB (Nat.le_refl _) hq
     clear hown2 hq hin k6
     generalize vs 10 = v44 at *
     go_wp2
     go_roundw
     case rel => exact ⟨k + 1, d.take m ++ [x] ++ d.drop m, by omega, by go_num, by rw [HT.out]; exact HPE.out, HSO.out, hown3, hB2⟩
     case measure => simp [intOf]; omega
    obtain ⟨j, hj⟩ : ∃ j, m = j + 1 := ⟨m - 1, by omega⟩
    obtain ⟨ad3, y, rfl, had3, hy, d0, d1⟩ := hin.elem (k := j) (by omega)
    have HY : Hid (d.take m = d.take j ++ [y]) := Lib.hid (by rw [hj]; exact take_snoc hy)
    have HD : Hid (d.drop j = y :: d.drop m) := Lib.hid (by
     obtain ⟨hj2, hyy⟩ := List.getElem?_eq_some_iff.1 hy
     rw [← hyy, hj]
     exact List.drop_eq_getElem_cons hj2)
    clear hy
    have hidx : IntKind.i64.wrap ((m : Int) - 1) = (j : Int) := by rw [IntWalk.i64_in _ (by omega)]; omega
    have hjd : (j : Int) < (d.length : Int) := by omega
    have hpos : decide ((0 : Int) < (m : Int)) = true := decide_eq_true (by omega)
    have hposN : 0 < m := by omega
    have HJ := Lib.hid hj
    clear hj h0
    by_cases hxy : x.1 < y.1
    ·go_upto_region 6 with fail
     go_region
     have hg := Grows.drew' wr
     generalize World.drew _ = W at *
     clear d0 d1 e0 e1
     go_wp2
     go_roundw
     case rel =>
      refine ⟨j, by omega, by go_num, fun z hz => ?_, below_grows hg0 (Nat.le_refl _) hg⟩
      rw [HD.out] at hz
      rcases List.mem_cons.1 hz with rfl | hz
      ·omega
      ·exact hgt z hz
     case measure =>
      have := HJ.out
      simp [intOf]
      omega
    ·have HLE : Hid (∀ z ∈ d.take m, z.1 ≤ x.1) := Lib.hid (fun z hz => by
      rw [HY.out] at hz
      rcases List.mem_append.1 hz with hz | hz
      ·have := (List.pairwise_append.1 (show (d.take j ++ y :: d.drop m).Pairwise (fun x y => x.1 ≤ y.1) by rw [← HD.out, List.take_append_drop]; exact hs)).2.2 z hz y (by simp)
       omega
      ·rw [List.mem_singleton.1 hz]; omega)
     go_upto_region 6 with fail
     go_region
     clear hpos hposN hidx hjd HY HD HJ d0 d1
     have hg := Grows.drew' wr
     generalize World.drew _ = W at *
     replace hB := below_grows hB (Nat.le_refl _) hg
     replace hin := hin.grows hg
     replace k6 := k6.grows hg
     clear e0 e1 hg
     have hdec : d.take m ++ d.drop m = d := List.take_append_drop _ _
     have HSO := Lib.hid (put_sorted (by rw [hdec]; exact hs) HLE.out hgt)
     have HPE := Lib.hid (put_perm (x := x) (t := l.take k) (by rw [hdec]; exact hp))
     clear HLE hdec hgt hs hp
     have hmc : m ≤ c3 := by omega
     go_upto_region 8 with fail
     obtain ⟨S, HI, HO⟩ := hideS fun (L : Ran) (vs : Nat → Value) (w' : World) => Grows W w' ∧ KnS [some (.slice (some ad3) d.length c3), some (.int .i64 m), some (.slice (some ad3) m c3), none, some (.agg #[.int .i64 x.1, .int .i64 x.2]), none, none, some (.slice (some ad3) d.length c3), some (.int .i64 m), some (.slice (if c3 = m then (some ad3) else (some ad3).map (fun x => x.add (m * 2))) (d.length - m) (c3 - m)), none] L vs ∧ (L 3 = true → L 6 = false → Own w' W.heap.size (vs 3) (d.take m)) ∧ (L 5 = true → L 6 = false → ∃ gb, vs 5 = .slice (some ⟨gb, 0, none⟩) 1 1 ∧ Sps w' (some ⟨gb, 0, none⟩) [x]) ∧ (L 6 = true → L 10 = false → Own w' W.heap.size (vs 6) (d.take m ++ [x])) ∧ (L 10 = true → Own w' W.heap.size (vs 10) (d.take m ++ [x] ++ d.drop m)) ∧ (L 6 = true → L 3 = true ∧ L 5 = true) ∧ (L 10 = true → L 6 = true)
     refine wp_region_genT S 11 86 (by kernel_rfl) (by kernel_rfl) rfl ?_ ?_
     ·exact HI.out _ _ _ ⟨Grows.drew' _, kn_none _ _, (fun h => by cases h), (fun h => by cases h), (fun h => by cases h), (fun h => by cases h), (fun h => by cases h), (fun h => by cases h)⟩
     simp only [List.take_succ_cons, List.take_zero, List.drop_succ_cons, List.drop_zero]
     refine gent_consR (fun vs L w1 hL hw1 => ?_) ?_
     ·obtain ⟨q0, q1, q3, q5, q6, qa, h6, ha⟩ := HO.out _ _ _ hw1
      refine gen_plain rfl ?_
      go_simp
      exact gr_val (HI.out _ _ _ ⟨q0, kn_known q1 rfl, q3, q5, q6, qa, h6, ha⟩)
     refine gent_consR (fun vs L w1 hL hw1 => ?_) ?_
     ·obtain ⟨q0, q1, q3, q5, q6, qa, h6, ha⟩ := HO.out _ _ _ hw1
      refine gen_plain rfl ?_
      go_simp
      exact gr_val (HI.out _ _ _ ⟨q0, kn_known q1 rfl, q3, q5, q6, qa, h6, ha⟩)
     refine gent_consR (fun vs L w1 hL hw1 => ?_) ?_
     ·obtain ⟨q0, q1, q3, q5, q6, qa, h6, ha⟩ := HO.out _ _ _ hw1
      have l0 : L 0 = true := hL.need 0 (by kernel_rfl)
      have e0 := q1 0 _ rfl l0
      have l1 : L 1 = true := hL.need 1 (by kernel_rfl)
      have e1 := q1 1 _ rfl l1
      refine gen_plain rfl ?_
      simp only [e0, e1]
      go_simp
      exact gr_val (HI.out _ _ _ ⟨q0, kn_known q1 rfl, q3, q5, q6, qa, h6, ha⟩)
     refine gent_consR (fun vs L w1 hL hw1 => ?_) ?_
     ·obtain ⟨q0, q1, q3, q5, q6, qa, h6, ha⟩ := HO.out _ _ _ hw1
      have n3 : L 3 = false := hL.1
      have n6 : L 6 = false := by
       cases h : L 6
       ·rfl
       ·rw [(h6 h).1] at n3; cases n3
      have n10 : L 10 = false := by
       cases h : L 10
       ·rfl
       ·rw [ha h] at n6; cases n6
      have l2 : L 2 = true := hL.need 2 (by kernel_rfl)
      have e2 := q1 2 _ rfl l2
      refine gen_plain rfl ?_
      refine gr_append_sp (.const (.slice none 0 0)) (.tmp 36) rfl (m := d.take m) (by rw [List.length_take]; omega) rfl (own_nil w1 W.heap.size) e2 (sps_take (hin.grows q0) m) (by simp only [List.length_nil, List.length_take]; omega) q0.size ?_
      intro v3 w3 o3 g3
      have hg : Grows w1 w3 := (Below.refl _ _).grown g3 (Nat.le_refl _) (fun q hq => by cases hq)
      exact HI.out _ _ _ ⟨below_grows q0 (Nat.le_refl _) hg, kn_free q1 rfl, fun _ _ => o3, (fun h h0 => by obtain ⟨gb, e, s⟩ := q5 h h0; exact ⟨gb, e, s.grows hg⟩), (fun h _ => by rw [show L 6 = true from h] at n6; cases n6), (fun h => by rw [show L 10 = true from h] at n10; cases n10), (fun h => by rw [show L 6 = true from h] at n6; cases n6), (fun h => by rw [show L 10 = true from h] at n10; cases n10)⟩
     refine gent_consR (fun vs L w1 hL hw1 => ?_) ?_
     ·obtain ⟨q0, q1, q3, q5, q6, qa, h6, ha⟩ := HO.out _ _ _ hw1
      have e0 := (k6.grows q0).cell 0
      have e1 := (k6.grows q0).cell 1
      refine gen_plain rfl ?_
      go_simp
      exact gr_val (HI.out _ _ _ ⟨q0, kn_known q1 rfl, q3, q5, q6, qa, h6, ha⟩)
     refine gent_consR (fun vs L w1 hL hw1 => ?_) ?_
     ·obtain ⟨q0, q1, q3, q5, q6, qa, h6, ha⟩ := HO.out _ _ _ hw1
      have n5 : L 5 = false := hL.1
      have n6 : L 6 = false := by
       cases h : L 6
       ·rfl
       ·rw [(h6 h).2] at n5; cases n5
      have n10 : L 10 = false := by
       cases h : L 10
       ·rfl
       ·rw [ha h] at n6; cases n6
      have l4 : L 4 = true := hL.need 4 (by kernel_rfl)
      have e4 := q1 4 _ rfl l4
      refine gen_plain rfl ?_
      simp only [e4]
      go_simp
      have hg := (Below.refl w1.heap.size w1).alloc (Nat.le_refl _) (Obj.cells (csS x) 93)
      exact gr_val (HI.out _ _ _ ⟨below_grows q0 (Nat.le_refl _) hg, kn_free q1 rfl, (fun h h0 => (q3 h h0).grows hg), (fun _ _ => ⟨_, rfl, sps_lit w1 x⟩), (fun h _ => by rw [show L 6 = true from h] at n6; cases n6), (fun h => by rw [show L 10 = true from h] at n10; cases n10), (fun h => by rw [show L 6 = true from h] at n6; cases n6), (fun h => by rw [show L 10 = true from h] at n10; cases n10)⟩)
     refine gent_consR (fun vs L w1 hL hw1 => ?_) ?_
     ·obtain ⟨q0, q1, q3, q5, q6, qa, h6, ha⟩ := HO.out _ _ _ hw1
      have n6 : L 6 = false := hL.1
      have n10 : L 10 = false := by
       cases h : L 10
       ·rfl
       ·rw [ha h] at n6; cases n6
      have l3 : L 3 = true := hL.need 3 (by kernel_rfl)
      have l5 : L 5 = true := hL.need 5 (by kernel_rfl)
      have o3 := q3 l3 n6
      obtain ⟨gb, e5, s5⟩ := q5 l5 n6
      refine gen_plain rfl ?_
      refine gr_append_sp (.tmp 37) (.tmp 39) rfl (m := [x]) rfl rfl o3 e5 s5 (by simp only [List.length_take, List.length_cons, List.length_nil]; omega) q0.size ?_
      intro v3 w3 o6 g3
      have hg := o3.below q0 g3 q0.size
      exact HI.out _ _ _ ⟨hg, kn_free q1 rfl, (fun _ h => by cases h), (fun _ h => by cases h), fun _ _ => o6, (fun h => by rw [show L 10 = true from h] at n10; cases n10), fun _ => ⟨l3, l5⟩, (fun h => by rw [show L 10 = true from h] at n10; cases n10)⟩
     refine gent_consR (fun vs L w1 hL hw1 => ?_) ?_
     ·obtain ⟨q0, q1, q3, q5, q6, qa, h6, ha⟩ := HO.out _ _ _ hw1
      refine gen_plain rfl ?_
      go_simp
      exact gr_val (HI.out _ _ _ ⟨q0, kn_known q1 rfl, q3, q5, q6, qa, h6, ha⟩)
     refine gent_consR (fun vs L w1 hL hw1 => ?_) ?_
     ·obtain ⟨q0, q1, q3, q5, q6, qa, h6, ha⟩ := HO.out _ _ _ hw1
      refine gen_plain rfl ?_
      go_simp
      exact gr_val (HI.out _ _ _ ⟨q0, kn_known q1 rfl, q3, q5, q6, qa, h6, ha⟩)
     refine gent_consR (fun vs L w1 hL hw1 => ?_) ?_
     ·obtain ⟨q0, q1, q3, q5, q6, qa, h6, ha⟩ := HO.out _ _ _ hw1
      have l7 : L 7 = true := hL.need 7 (by kernel_rfl)
      have e7 := q1 7 _ rfl l7
      have l8 : L 8 = true := hL.need 8 (by kernel_rfl)
      have e8 := q1 8 _ rfl l8
      refine gen_plain rfl ?_
      simp only [e7, e8]
      go_simp
      exact gr_val (HI.out _ _ _ ⟨q0, kn_known q1 rfl, q3, q5, q6, qa, h6, ha⟩)
     refine gent_consR (fun vs L w1 hL hw1 => ?_) ?_
     ·obtain ⟨q0, q1, q3, q5, q6, qa, h6, ha⟩ := HO.out _ _ _ hw1
      have n10 : L 10 = false := hL.1
      have l6 : L 6 = true := hL.need 6 (by kernel_rfl)
      have o6 := q6 l6 n10
      have l9 : L 9 = true := hL.need 9 (by kernel_rfl)
      have e9 := q1 9 _ rfl l9
      refine gen_plain rfl ?_
      refine gr_append_sp (.tmp 40) (.tmp 43) rfl (m := d.drop m) (by simp) rfl o6 e9 (sps_drop (hin.grows q0) hmd hc3) (by simp only [List.length_append, List.length_take, List.length_drop, List.length_cons, List.length_nil]; omega) q0.size ?_
      intro v3 w3 o7 g3
      have hg := o6.below q0 g3 q0.size
      exact HI.out _ _ _ ⟨hg, kn_free q1 rfl, (fun h h0 => by rw [show L 6 = false from h0] at l6; cases l6), (fun h h0 => by rw [show L 6 = false from h0] at l6; cases l6), (fun _ h => by cases h), fun _ => o7, h6, fun _ => l6⟩
     refine gent_nil ?_
     intro vs L W2 hall hS
     obtain ⟨hq, -, -, -, -, qa, -, -⟩ := HO.out _ _ _ hS
     have hown2 := qa (hall 10 (by omega))
     clear hall hS HI HO qa
     have hown3 := hown2.mono hB.size
     have hB2 := below_grows hB (Nat.le_refl _) hq
     clear hown2 hq hin k6
     generalize vs 10 = v44 at *
     go_wp2
     go_roundw
     case rel => exact ⟨k + 1, d.take m ++ [x] ++ d.drop m, by omega, by go_num, by rw [HT.out]; exact HPE.out, HSO.out, hown3, hB2⟩
     case measure => simp [intOf]; omega
  ·have e : l.take k = l := List.take_of_length_le (by omega)
   rw [e] at hp
   clear e HPL
   obtain ⟨A3, c3, rfl, hc3, hin, -⟩ := hown.read
   have HPL := Lib.hid (show d.length = l.length from hp.length_eq)
   have hdl : d.length ≤ 10000 := by have := HPL.out; omega
   have hfd : ∀ x ∈ d, fineS x = true := fun x hx => hf x (hp.mem_iff.1 hx)
   clear hown
   have hB1 := hB
   clear hB
   go_upto_region 11 with fail
   generalize wr = W1 at *
   go_loopw [4, 48] (fun v i wr => ∃ j : Nat, j ≤ d.length ∧ i = .int .i64 j ∧ Own wr W1.heap.size v (mergeL (d.take j)) ∧ Grows W1 wr) (fun _ i _ => d.length - (intOf i).toNat)
   case atStart => exact ⟨0, by omega, rfl, own_nil _ _, Below.refl _ _⟩
   case round =>
    obtain ⟨k, hk, rfl, hown, hB⟩ := hrel
    by_cases hlt : k < d.length
    ·obtain ⟨ad, x, rfl, had, hx, c0, c1⟩ := (hin.grows hB).elem hlt
     have HX : Hid (mergeL (d.take (k + 1)) = mergeS (mergeL (d.take k)) x) := Lib.hid (by rw [take_snoc hx, mergeL_snoc])
     have hxf := (fineS_iff x).1 (hfd x (List.mem_of_getElem? hx))
     have hof := mergeL_fine (d.take k) fun z hz => hfd z (List.mem_of_mem_take hz)
     have hlen : (mergeL (d.take k)).length ≤ 100000 := Nat.le_trans (mergeL_len _) (by rw [List.length_take]; omega)
     generalize mergeL (d.take k) = out at *
     clear hx
     have hz := hB.size
     obtain ⟨A2, c2, rfl, hcap, hr, hge⟩ := hown.read
     have k5 := Blk.new wr 93 #[.int .i64 x.1, .int .i64 x.2]
     have hq := (Below.refl wr.heap.size wr).alloc (Nat.le_refl _) (Obj.cells #[.int .i64 x.1, .int .i64 x.2] 93)
     by_cases h0 : out.length = 0
     ·obtain rfl : out = [] := List.length_eq_zero_iff.1 h0
      go_upto_region 14 with fail
      go_region
      have hq6 := below_grows hq (Nat.le_refl _) (Grows.drew' _)
      replace k5 := k5.drew
      have hown6 := hown.grows hq6
      have hB6 := below_grows hB (Nat.le_refl _) hq6
      have hz6 := hB6.size
      generalize World.drew _ = w6 at *
      clear hq hq6
      have e0 := k5.cell 0
      have e1 := k5.cell 1
      go_upto_region 16 with fail
      refine wp_region_lit ?_
      iterate 3
       refine wpList_plain rfl (fun K hK => ?_)
       go_simp
       refine hK _ _ ?_
       clear hK K
      have hq8 := (Below.refl w6.heap.size w6).alloc (Nat.le_refl _) (Obj.cells #[.int .i64 x.1, .int .i64 x.2] 93)
      have hown8 := hown6.grows hq8
      have hB8 := below_grows hB6 (Nat.le_refl _) hq8
      refine wpList_append_sp rfl (.tmp 80) (.tmp 82) rfl (m := [x]) rfl rfl hown8 rfl (sps_lit w6 x) (by simp <;> omega) hB8.size ?_
      intro v3 w3 hown3 hgr3
      have hB3 := hown8.below hB8 hgr3 hB8.size
      clear hown hown6 hown8 hgr3 hq8 hB6 hB8 e0 e1 k5
      have e : mergeL (d.take (k + 1)) = [] ++ [x] := HX.out
      rw [← e] at hown3
      go_wp2
      go_roundw
      case rel => exact ⟨k + 1, by omega, by go_num, hown3, hB3⟩
      case measure => simp [intOf]; omega
     ·obtain ⟨q, y, rfl⟩ : ∃ q y, out = q ++ [y] := by
       cases hl : out.getLast? with
       | none => exact absurd (by rw [List.getLast?_eq_none_iff.1 hl]; rfl) h0
       | some y => exact ⟨out.dropLast, y, last_split hl⟩
      obtain ⟨ad2, y', rfl, had2, hy', d0, d1⟩ := hr.elem (k := q.length) (by simp)
      obtain rfl : y' = y := by simpa using hy'.symm
      have hyf := (fineS_iff y').1 (hof y' (by simp))
      have HM : Hid (mergeS (q ++ [y']) x = if x.1 ≤ y'.2 + 1 then q ++ [(y'.1, max y'.2 x.2)] else (q ++ [y']) ++ [x]) := Lib.hid (by unfold mergeS; rw [List.getLast?_concat]; simp only [List.dropLast_concat])
      clear hof hy' h0
      obtain ⟨g, rfl, hg1, hg2⟩ := hown.addr (by simp)
      have hn1 : (q ++ [y']).length = q.length + 1 := by simp
      rw [hn1] at hown hlen hcap ⊢
      have hpa : (⟨g, 0, none⟩ : Addr).add (q.length * 2) = ⟨g, q.length * 2, none⟩ := by
       unfold Addr.add
       split
       ·simp_all
       ·simp
      rw [hpa] at d0 d1
      simp only [] at d0 d1
      have hfz := (show Own wr W1.heap.size (.slice (some ⟨g, 0, none⟩) (q ++ [y']).length c2) (q ++ [y']) by rw [hn1]; exact hown).frozenAt (q.length * 2 + 1)
      have hidx : IntKind.i64.wrap (((q.length + 1 : Nat) : Int) - 1) = (q.length : Int) := by rw [IntWalk.i64_in _ (by omega)]; omega
      have hadd : IntKind.i64.wrap (x.1 - 1) = x.1 - 1 := IntWalk.i64_in _ (by omega)
      clear hr hge had2
      by_cases ht : x.1 ≤ y'.2 + 1
      ·have ht2 : x.1 - 1 ≤ y'.2 := by omega
       go_upto_region 14 with fail
       go_region
       go_upto_region 15 with fail
       go_region
       have hown2 : Own wr W1.heap.size (.slice (some ⟨g, 0, none⟩) (q ++ [y']).length c2) (q ++ [y']) := by rw [hn1]; exact hown
       have e : mergeL (d.take (k + 1)) = q ++ [(y'.1, max y'.2 x.2)] := by rw [HX.out, HM.out, if_pos ht]
       have HE := Lib.hid e
       clear e HX HM
       generalize (max y'.2 x.2) = z at *
       have h3 := hown2.setHi z
       have hb3 := hB.setCell (p := ⟨g, q.length * 2 + 1, none⟩) hg1 (.int .i64 z)
       rw [hn1] at h3
       generalize World.setCell wr _ _ = w3 at *
       have hg3 : Grows w3 ((w3.alloc (Obj.cells #[.int .i64 x.1, .int .i64 x.2] 93)).drew.drew) := below_grows (below_grows ((Below.refl w3.heap.size w3).alloc (Nat.le_refl _) (Obj.cells #[.int .i64 x.1, .int .i64 x.2] 93)) (Nat.le_refl _) (Grows.drew' _)) (Nat.le_refl _) (Grows.drew' _)
       replace h3 := h3.grows hg3
       replace hb3 := below_grows hb3 (Nat.le_refl _) hg3
       rw [← HE.out] at h3
       clear hown hown2 k5 hq d0 d1 hfz hidx hadd hg3
       generalize World.drew _ = w4 at *
       go_wp2
       go_roundw
       case rel => exact ⟨k + 1, by omega, by go_num, h3, hb3⟩
       case measure => simp [intOf]; omega
      ·have ht2 : ¬ x.1 - 1 ≤ y'.2 := by omega
       go_upto_region 14 with fail
       go_region
       have hq6 := below_grows hq (Nat.le_refl _) (Grows.drew' _)
       replace k5 := k5.drew
       have hown6 := hown.grows hq6
       have hB6 := below_grows hB (Nat.le_refl _) hq6
       have hz6 := hB6.size
       generalize World.drew _ = w6 at *
       clear hq hq6
       have e0 := k5.cell 0
       have e1 := k5.cell 1
       clear d0 d1 hfz hidx hadd
       go_upto_region 16 with fail
       refine wp_region_lit ?_
       iterate 3
        refine wpList_plain rfl (fun K hK => ?_)
        go_simp
        refine hK _ _ ?_
        clear hK K
       have hq8 := (Below.refl w6.heap.size w6).alloc (Nat.le_refl _) (Obj.cells #[.int .i64 x.1, .int .i64 x.2] 93)
       have hown8 := hown6.grows hq8
       have hB8 := below_grows hB6 (Nat.le_refl _) hq8
       refine wpList_append_sp rfl (.tmp 80) (.tmp 82) rfl (m := [x]) rfl rfl hown8 rfl (sps_lit w6 x) (by simp <;> omega) hB8.size ?_
       intro v3 w3 hown3 hgr3
       have hB3 := hown8.below hB8 hgr3 hB8.size
       clear hown hown6 hown8 hgr3 hq8 hB6 hB8 e0 e1 k5
       have e : mergeL (d.take (k + 1)) = (q ++ [y']) ++ [x] := by rw [HX.out, HM.out, if_neg ht]
       rw [← e] at hown3
       clear HX HM e
       go_wp2
       go_roundw
       case rel => exact ⟨k + 1, by omega, by go_num, hown3, hB3⟩
       case measure => simp [intOf]; omega
    ·have e : d.take k = d := List.take_of_length_le (by omega)
     rw [e, form_eq hf hp hs] at hown
     replace hown := hown.mono hB1.size
     have hB2 := below_grows hB1 (Nat.le_refl _) hB
     clear e
     go_wp2
     go_ret
     exact ⟨⟨_, rfl, hown⟩, hB2⟩
set_option maxHeartbeats 8000000 in
theorem rmake_any (A : Option Addr) (c : Nat) (l : List Sp) (w : World) (h : Sps w A l) (hl : l.length ≤ 10000) :
 Calls Tryz.prog 133 #[.slice A l.length c] w fun e w' => (∃ v, e = .returned (.tuple #[v, .int .i64 (makeF l).2]) ∧ SetV w' (makeF l).1 v) ∧ Grows w w' := by
 have k2 := Blk.new w 45 #[.slice none 0 0]
 have hB := (Below.refl w.heap.size w).alloc (Nat.le_refl _) (Obj.cells #[.slice none 0 0] 45)
 have h1 := h.grows hB
 go_enter Tryz.func133, Tryz.ntmps133
 go_upto_region 1 with fail
 generalize World.alloc w _ = w1 at *
 go_wp2_with fail
 go_loopw [9] (fun i wr => ∃ k : Nat, k ≤ l.length ∧ i = .int .i64 k ∧ (l.take k).all fineS = true ∧ Grows w1 wr) (fun i _ => l.length - (intOf i).toNat)
 case atStart => exact ⟨0, by omega, rfl, rfl, Below.refl _ _⟩
 case round =>
  obtain ⟨k, hk, rfl, hall, hg⟩ := hrel
  by_cases hlt : k < l.length
  ·obtain ⟨ad, x, rfl, had, hx, c0, c1⟩ := (h1.grows hg).elem hlt
   have HX := Lib.hid (all_snoc hx)
   have HM : Hid (x ∈ l) := List.mem_of_getElem? hx
   clear hx
   have hq := (Below.refl wr.heap.size wr).alloc (Nat.le_refl _) (Obj.cells #[.int .i64 x.1, .int .i64 x.2] 93)
   replace hg := below_grows hg (Nat.le_refl _) hq
   clear hq
   have k5 := Blk.new wr 93 #[.int .i64 x.1, .int .i64 x.2]
   go_upto_region 4 with fail
   generalize World.alloc wr _ = w3 at *
   generalize wr.heap.size = G5 at *
   clear c0 c1
   have e0 := k5.cell 0
   have e1 := k5.cell 1
   by_cases h1 : x.1 < 0
   ·skip
    have hm : makeF l = ([], 2) := by
     unfold makeF
     rw [if_neg]
     intro ha
     have := List.all_eq_true.1 ha x HM.out
     rw [show fineS x = false by simp [fineS]; omega] at this
     cases this
    have k3 := k2.grows hg
    have x3 := k3.cell 0
    have f3 := k3.frozen 0
    have HE := Lib.hid hm
    clear hm
    go_wp2
    have k4 := k3.set_ 0 (.slice none 0 0)
    have hB4 := (below_grows hB (Nat.le_refl _) hg).setCell (p := ⟨w.heap.size, 0, none⟩) (Nat.le_refl _) (.slice none 0 0)
    generalize World.setCell _ _ _ = w5 at *
    have x4 : w5.cell? ⟨w.heap.size, 0, none⟩ = some (.slice none 0 0) := by rw [k4.cell]; rfl
    clear x3 f3 k3 k4
    refine bodyPost_ret (v := .tuple #[.agg #[.slice none 0 0], .int .i64 2]) (by simp [results, Tryz.results133, go_sem, x4]) rfl ⟨⟨_, by rw [HE.out], by rw [HE.out]; exact setV_nil _⟩, hB4⟩
   by_cases h2 : x.2 < x.1
   ·skip
    have hm : makeF l = ([], 2) := by
     unfold makeF
     rw [if_neg]
     intro ha
     have := List.all_eq_true.1 ha x HM.out
     rw [show fineS x = false by simp [fineS]; omega] at this
     cases this
    have k3 := k2.grows hg
    have x3 := k3.cell 0
    have f3 := k3.frozen 0
    have HE := Lib.hid hm
    clear hm
    go_wp2
    have k4 := k3.set_ 0 (.slice none 0 0)
    have hB4 := (below_grows hB (Nat.le_refl _) hg).setCell (p := ⟨w.heap.size, 0, none⟩) (Nat.le_refl _) (.slice none 0 0)
    generalize World.setCell _ _ _ = w5 at *
    have x4 : w5.cell? ⟨w.heap.size, 0, none⟩ = some (.slice none 0 0) := by rw [k4.cell]; rfl
    clear x3 f3 k3 k4
    refine bodyPost_ret (v := .tuple #[.agg #[.slice none 0 0], .int .i64 2]) (by simp [results, Tryz.results133, go_sem, x4]) rfl ⟨⟨_, by rw [HE.out], by rw [HE.out]; exact setV_nil _⟩, hB4⟩
   by_cases h3 : 2147483647 < x.2
   ·skip
    have hm : makeF l = ([], 2) := by
     unfold makeF
     rw [if_neg]
     intro ha
     have := List.all_eq_true.1 ha x HM.out
     rw [show fineS x = false by simp [fineS]; omega] at this
     cases this
    have k3 := k2.grows hg
    have x3 := k3.cell 0
    have f3 := k3.frozen 0
    have HE := Lib.hid hm
    clear hm
    go_wp2
    have k4 := k3.set_ 0 (.slice none 0 0)
    have hB4 := (below_grows hB (Nat.le_refl _) hg).setCell (p := ⟨w.heap.size, 0, none⟩) (Nat.le_refl _) (.slice none 0 0)
    generalize World.setCell _ _ _ = w5 at *
    have x4 : w5.cell? ⟨w.heap.size, 0, none⟩ = some (.slice none 0 0) := by rw [k4.cell]; rfl
    clear x3 f3 k3 k4
    refine bodyPost_ret (v := .tuple #[.agg #[.slice none 0 0], .int .i64 2]) (by simp [results, Tryz.results133, go_sem, x4]) rfl ⟨⟨_, by rw [HE.out], by rw [HE.out]; exact setV_nil _⟩, hB4⟩
   have HF : Hid (fineS x = true) := Lib.hid ((fineS_iff x).2 ⟨by omega, by omega, by omega⟩)
   go_wp2
   go_roundw
   case rel => exact ⟨k + 1, by omega, by go_num, by rw [HX.out, hall, HF.out]; rfl, hg⟩
   case measure => simp [intOf]; omega
  ·have e : l.take k = l := List.take_of_length_le (by omega)
   rw [e] at hall
   have hf : ∀ x ∈ l, fineS x = true := List.all_eq_true.1 hall
   have hm : makeF l = if 64 < (formS l).length then ([], 3) else (formS l, 0) := if_pos hall
   have HE := Lib.hid hm
   clear hm e hall
   go_wp2_with fail
   refine (joined_any A c l _ (h1.grows hg) (by omega) hf).mono ?_
   rintro e w2 ⟨⟨v, rfl, hown⟩, hq⟩
   have hg4 := below_grows hg (Nat.le_refl _) hq
   have hfl : (formS l).length ≤ 100000 := by have := (formS_forms hf).2.2; omega
   obtain ⟨A4, c4, rfl, hc4, hr4, -⟩ := hown.read
   clear hq hg hown
   generalize hfo : formS l = o at *
   clear hfo
   have k6 := Blk.new w2 45 #[.slice A4 o.length c4]
   have hq := (Below.refl w2.heap.size w2).alloc (Nat.le_refl _) (Obj.cells #[.slice A4 o.length c4] 45)
   replace hg4 := below_grows hg4 (Nat.le_refl _) hq
   replace hr4 := hr4.grows hq
   clear hq
   go_upto_region 8 with fail
   generalize World.alloc w2 _ = w3 at *
   generalize w2.heap.size = G6 at *
   have x6 := k6.cell 0
   have k3 := k2.grows hg4
   have x3 := k3.cell 0
   have f3 := k3.frozen 0
   by_cases h64 : 64 < o.length
   ·have hm : makeF l = ([], 3) := by rw [HE.out, if_pos h64]
    replace HE := Lib.hid hm
    clear hm
    go_wp2
    have k4 := k3.set_ 0 (.slice none 0 0)
    have hB4 := (below_grows hB (Nat.le_refl _) hg4).setCell (p := ⟨w.heap.size, 0, none⟩) (Nat.le_refl _) (.slice none 0 0)
    generalize World.setCell _ _ _ = w5 at *
    have x4 : w5.cell? ⟨w.heap.size, 0, none⟩ = some (.slice none 0 0) := by rw [k4.cell]; rfl
    clear x3 f3 k3 k4
    refine bodyPost_ret (v := .tuple #[.agg #[.slice none 0 0], .int .i64 3]) (by simp [results, Tryz.results133, go_sem, x4]) rfl ⟨⟨_, by rw [HE.out], by rw [HE.out]; exact setV_nil _⟩, hB4⟩
   ·have hm : makeF l = (o, 0) := by rw [HE.out, if_neg h64]
    replace HE := Lib.hid hm
    clear hm
    go_wp2
    have k4 := k3.set_ 0 (.slice A4 o.length c4)
    have hB4 := (below_grows hB (Nat.le_refl _) hg4).setCell (p := ⟨w.heap.size, 0, none⟩) (Nat.le_refl _) (.slice A4 o.length c4)
    have hr5 := hr4.setOther k3 (.slice A4 o.length c4)
    generalize World.setCell _ _ _ = w5 at *
    have x4 : w5.cell? ⟨w.heap.size, 0, none⟩ = some (.slice A4 o.length c4) := by rw [k4.cell]; rfl
    clear x3 f3 k3 k4
    refine bodyPost_ret (v := .tuple #[.agg #[.slice A4 o.length c4], .int .i64 0]) (by simp [results, Tryz.results133, go_sem, x4]) rfl ⟨⟨_, by rw [HE.out], by rw [HE.out]; exact ⟨A4, c4, rfl, hc4, hr5⟩⟩, hB4⟩
end Go.Proofs.YtnbdpnlepcjmmaaGreat

namespace Go.Proofs.YtnbdpnlepcjmmaaGreat
open Go.RowKit
/-- A property of a value that stays when the world grows. -/
abbrev GP := {P : World → Value → Prop // ∀ w w' v, P w v → Grows w w' → P w' v}
/-- The values that are described. -/
def DsS (DS : List (Option GP)) (L : Ran) (vs : Nat → Value) (w : World) : Prop := ∀ j P, DS[j]? = some (some P) → L j = true → P.1 w (vs j)
section
variable {DS : List (Option GP)} {L : Ran} {vs : Nat → Value} {w w' : World} {k : Nat} {u : Value}
set_option maxRecDepth 100000 in
theorem ds_none (DS : List (Option GP)) (vs : Nat → Value) (w : World) : DsS DS (fun _ => false) vs w := fun _ _ _ h => by cases h
set_option maxRecDepth 100000 in
theorem DsS.grows (h : DsS DS L vs w) (hg : Grows w w') : DsS DS L vs w' := fun j P hj hL => P.2 w w' (vs j) (h j P hj hL) hg
set_option maxRecDepth 100000 in
theorem ds_free (h : DsS DS L vs w) (hk : DS[k]? = some none) : DsS DS (upd L k) (setV vs k u) w := by
 intro j P hj hL
 unfold setV
 unfold upd at hL
 by_cases e : j = k
 ·subst e
  rw [hk] at hj
  cases hj
 ·rw [if_neg e] at hL ⊢
  exact h j P hj hL
set_option maxRecDepth 100000 in
theorem ds_put {P : GP} (h : DsS DS L vs w) (hk : DS[k]? = some (some P)) (hP : P.1 w u) : DsS DS (upd L k) (setV vs k u) w := by
 intro j P' hj hL
 unfold setV
 unfold upd at hL
 by_cases e : j = k
 ·subst e
  rw [hk] at hj
  injection hj with hj
  injection hj with hj
  subst hj
  rw [if_pos rfl]
  exact hP
 ·rw [if_neg e] at hL ⊢
  exact h j P' hj hL
end
end Go.Proofs.YtnbdpnlepcjmmaaGreat

namespace Go.Proofs.YtnbdpnlepcjmmaaGreat
open Go.RowKit
def DR (w : World) (B g : Nat) : Prop := ∃ l, Dice w B g l
theorem DR.grows {w w' : World} {B g : Nat} (h : DR w B g) (hg : Grows w w') : DR w' B g := by
 obtain ⟨l, h⟩ := h
 exact ⟨l, h.grows hg⟩
theorem DR.lt {w : World} {B g : Nat} (h : DR w B g) : g < w.heap.size := by
 obtain ⟨l, h⟩ := h
 exact h.lt
theorem DR.put {w : World} {B g : Nat} (h : DR w B g) {p : Addr} (hp : B ≤ p.block) (hg : g ≠ p.block) (u : Value) : DR (w.setCell p u) B g := by
 obtain ⟨l, h⟩ := h
 exact ⟨l, h.put hp hg u⟩
theorem DR.lo {w : World} {B g : Nat} (h : DR w B g) : B ≤ g := by
 obtain ⟨l, A, c, h⟩ := h
 exact h.lo
set_option maxHeartbeats 4000000 in
theorem rolls_any (B g : Nat) (n : Int) (w : World) (h : DR w B g) (hn : 1 ≤ n) (hn2 : n ≤ 9223372036854775807) :
 Calls Tryz.prog 36 #[.pointer (some ⟨g, 0, none⟩), .int .i64 n] w fun e w' => (∃ r, e = .returned (.int .i64 r) ∧ 0 ≤ r ∧ r < n) ∧ DR w' B g ∧ w.grownBy w' (some g) := by
 obtain ⟨l, h⟩ := h
 by_cases h2 : 2 ≤ n
 ·exact (roll_any B g l n w h h2 hn2).mono fun e w' ⟨he, hd, hg, _⟩ => ⟨⟨_, he, (rollV_bd l hn).1, (rollV_bd l hn).2⟩, ⟨_, hd⟩, hg⟩
 obtain rfl : n = 1 := by omega
 have h0 := h
 obtain ⟨A, c, h⟩ := h
 have x1 := h.blk.cell 0
 have d1 : decide ((1 : Int) ≤ 1) = true := by decide
 go_enter Tryz.func36, Tryz.ntmps36
 by_cases hl : l.length = 0
 ·have d2 : ((l.length : Int) == 0) = true := by simp only [beq_iff_eq]; omega
  clear hl h
  go_wp2
  go_ret
  exact ⟨⟨0, rfl, by omega, by omega⟩, ⟨l, h0⟩, World.grownBy.refl w _⟩
 ·have d2 : ((l.length : Int) == 0) = false := by simp only [beq_eq_false_iff_ne, ne_eq]; omega
  clear hl h
  go_wp2
  go_ret
  exact ⟨⟨0, rfl, by omega, by omega⟩, ⟨l, h0⟩, World.grownBy.refl w _⟩
set_option maxRecDepth 100000
theorem add_head (g k : Nat) : (⟨g, 0, none⟩ : Addr).add k = ⟨g, k, none⟩ := by unfold Addr.add; split <;> simp_all
def mapsL : List (List Int) := [[3], [1, 2], [1, 2, 3, 4, 5, 6], [2, 1], [1, 2, 7, 8], [4], [1, 3]]
theorem mapsL_ok : ∀ m ∈ mapsL, validM m = true ∧ 0 < m.length ∧ m.length ≤ 8 := by decide
theorem mapsL_len : mapsL.length = 7 := rfl
theorem inB_of {w : World} {A : Option Addr} {l : List Int} {n : Nat} (h : Ints w A l) (hA : ∀ ad, A = some ad → n ≤ ad.block) : InB w (Ge n) A l := ⟨h, fun _ ad e => hA ad e⟩
set_option maxHeartbeats 4000000 in
theorem maps_lit (w : World) : ∃ W A, Calls Tryz.prog 75 #[] w (fun e w' => e = .returned (.slice (some A) 7 7) ∧ w' = W) ∧ MapsR W (Ge w.heap.size) (some A) mapsL ∧ Grows w W := by
 have e0 : w.heap.size = w.heap.size + 0 := rfl
 obtain ⟨W1, hW1⟩ : ∃ W, W = w.alloc (Obj.cells #[.int .i64 3] 3) := ⟨_, rfl⟩
 have s1 : W1.heap.size = w.heap.size + 1 := by rw [hW1]; simp
 have i1 : Ints W1 (some ⟨w.heap.size, 0, none⟩) [3] := by rw [hW1]; exact ints_lits w [3] #[.int .i64 3] 3 rfl
 have g1 : Grows w W1 := by rw [hW1]; exact (Below.refl _ _).alloc (Nat.le_refl _) _
 obtain ⟨W2, hW2⟩ : ∃ W, W = W1.alloc (Obj.cells #[.int .i64 1, .int .i64 2] 3) := ⟨_, rfl⟩
 have s2 : W2.heap.size = w.heap.size + 2 := by rw [hW2]; simp [s1]
 have i2 : Ints W2 (some ⟨w.heap.size + 1, 0, none⟩) [1, 2] := by rw [← s1, hW2]; exact ints_lits W1 [1, 2] #[.int .i64 1, .int .i64 2] 3 rfl
 have g2 : Grows W1 W2 := by rw [hW2]; exact (Below.refl _ _).alloc (Nat.le_refl _) _
 obtain ⟨W3, hW3⟩ : ∃ W, W = W2.alloc (Obj.cells #[.int .i64 1, .int .i64 2, .int .i64 3, .int .i64 4, .int .i64 5, .int .i64 6] 3) := ⟨_, rfl⟩
 have s3 : W3.heap.size = w.heap.size + 3 := by rw [hW3]; simp [s2]
 have i3 : Ints W3 (some ⟨w.heap.size + 2, 0, none⟩) [1, 2, 3, 4, 5, 6] := by rw [← s2, hW3]; exact ints_lits W2 [1, 2, 3, 4, 5, 6] #[.int .i64 1, .int .i64 2, .int .i64 3, .int .i64 4, .int .i64 5, .int .i64 6] 3 rfl
 have g3 : Grows W2 W3 := by rw [hW3]; exact (Below.refl _ _).alloc (Nat.le_refl _) _
 obtain ⟨W4, hW4⟩ : ∃ W, W = W3.alloc (Obj.cells #[.int .i64 2, .int .i64 1] 3) := ⟨_, rfl⟩
 have s4 : W4.heap.size = w.heap.size + 4 := by rw [hW4]; simp [s3]
 have i4 : Ints W4 (some ⟨w.heap.size + 3, 0, none⟩) [2, 1] := by rw [← s3, hW4]; exact ints_lits W3 [2, 1] #[.int .i64 2, .int .i64 1] 3 rfl
 have g4 : Grows W3 W4 := by rw [hW4]; exact (Below.refl _ _).alloc (Nat.le_refl _) _
 obtain ⟨W5, hW5⟩ : ∃ W, W = W4.alloc (Obj.cells #[.int .i64 1, .int .i64 2, .int .i64 7, .int .i64 8] 3) := ⟨_, rfl⟩
 have s5 : W5.heap.size = w.heap.size + 5 := by rw [hW5]; simp [s4]
 have i5 : Ints W5 (some ⟨w.heap.size + 4, 0, none⟩) [1, 2, 7, 8] := by rw [← s4, hW5]; exact ints_lits W4 [1, 2, 7, 8] #[.int .i64 1, .int .i64 2, .int .i64 7, .int .i64 8] 3 rfl
 have g5 : Grows W4 W5 := by rw [hW5]; exact (Below.refl _ _).alloc (Nat.le_refl _) _
 obtain ⟨W6, hW6⟩ : ∃ W, W = W5.alloc (Obj.cells #[.int .i64 4] 3) := ⟨_, rfl⟩
 have s6 : W6.heap.size = w.heap.size + 6 := by rw [hW6]; simp [s5]
 have i6 : Ints W6 (some ⟨w.heap.size + 5, 0, none⟩) [4] := by rw [← s5, hW6]; exact ints_lits W5 [4] #[.int .i64 4] 3 rfl
 have g6 : Grows W5 W6 := by rw [hW6]; exact (Below.refl _ _).alloc (Nat.le_refl _) _
 obtain ⟨W7, hW7⟩ : ∃ W, W = W6.alloc (Obj.cells #[.int .i64 1, .int .i64 3] 3) := ⟨_, rfl⟩
 have s7 : W7.heap.size = w.heap.size + 7 := by rw [hW7]; simp [s6]
 have i7 : Ints W7 (some ⟨w.heap.size + 6, 0, none⟩) [1, 3] := by rw [← s6, hW7]; exact ints_lits W6 [1, 3] #[.int .i64 1, .int .i64 3] 3 rfl
 have g7 : Grows W6 W7 := by rw [hW7]; exact (Below.refl _ _).alloc (Nat.le_refl _) _
 obtain ⟨W8, hW8⟩ : ∃ W, W = W7.alloc (Obj.cells #[.slice (some ⟨w.heap.size, 0, none⟩) 1 1, .slice (some ⟨w.heap.size + 1, 0, none⟩) 2 2, .slice (some ⟨w.heap.size + 2, 0, none⟩) 6 6, .slice (some ⟨w.heap.size + 3, 0, none⟩) 2 2, .slice (some ⟨w.heap.size + 4, 0, none⟩) 4 4, .slice (some ⟨w.heap.size + 5, 0, none⟩) 1 1, .slice (some ⟨w.heap.size + 6, 0, none⟩) 2 2] 23) := ⟨_, rfl⟩
 have k8 : Blk W8 (w.heap.size + 7) 23 #[.slice (some ⟨w.heap.size, 0, none⟩) 1 1, .slice (some ⟨w.heap.size + 1, 0, none⟩) 2 2, .slice (some ⟨w.heap.size + 2, 0, none⟩) 6 6, .slice (some ⟨w.heap.size + 3, 0, none⟩) 2 2, .slice (some ⟨w.heap.size + 4, 0, none⟩) 4 4, .slice (some ⟨w.heap.size + 5, 0, none⟩) 1 1, .slice (some ⟨w.heap.size + 6, 0, none⟩) 2 2] := by rw [hW8, ← s7]; exact Blk.new _ _ _
 have g8 : Grows W7 W8 := by rw [hW8]; exact (Below.refl _ _).alloc (Nat.le_refl _) _
 have s8 : W8.heap.size = w.heap.size + 8 := by rw [hW8]; simp [s7]
 have j1 := (((((((i1.grows g2).grows g3).grows g4).grows g5).grows g6).grows g7).grows g8)
 have j2 := ((((((i2.grows g3).grows g4).grows g5).grows g6).grows g7).grows g8)
 have j3 := (((((i3.grows g4).grows g5).grows g6).grows g7).grows g8)
 have j4 := ((((i4.grows g5).grows g6).grows g7).grows g8)
 have j5 := (((i5.grows g6).grows g7).grows g8)
 have j6 := ((i6.grows g7).grows g8)
 have j7 := (i7.grows g8)
 have gA : Grows w W8 := (below_grows (below_grows (below_grows (below_grows (below_grows (below_grows (below_grows g1 (Nat.le_refl _) g2) (Nat.le_refl _) g3) (Nat.le_refl _) g4) (Nat.le_refl _) g5) (Nat.le_refl _) g6) (Nat.le_refl _) g7) (Nat.le_refl _) g8)
 refine ⟨W8, ⟨w.heap.size + 7, 0, none⟩, ?_, ?_, gA⟩
 ·clear gA k8 i1 i2 i3 i4 i5 i6 i7 j1 j2 j3 j4 j5 j6 j7 g1 g2 g3 g4 g5 g6 g7 g8 s1 s2 s3 s4 s5 s6 s7 s8 e0
  subst hW1 hW2 hW3 hW4 hW5 hW6 hW7 hW8
  go_enter Tryz.func75, Tryz.ntmps75
  go_wp2
  go_ret
  first
   | exact ⟨rfl, rfl⟩
   | (simp; done)
   | trace_state
 ·refine ⟨#[.slice (some ⟨w.heap.size, 0, none⟩) 1 1, .slice (some ⟨w.heap.size + 1, 0, none⟩) 2 2, .slice (some ⟨w.heap.size + 2, 0, none⟩) 6 6, .slice (some ⟨w.heap.size + 3, 0, none⟩) 2 2, .slice (some ⟨w.heap.size + 4, 0, none⟩) 4 4, .slice (some ⟨w.heap.size + 5, 0, none⟩) 1 1, .slice (some ⟨w.heap.size + 6, 0, none⟩) 2 2].toList, ⟨⟨rfl, fun _ => ⟨_, rfl, by rw [s8]; exact Nat.lt_of_lt_of_le (Nat.lt_succ_self _) (Nat.le_refl _), fun j u hu => ?_⟩⟩, fun _ ad e => by injection e with e; subst e; exact Nat.le_add_right _ 7⟩, fun i x hx => ?_⟩
  ·rw [add_head, k8.cell, ← Array.getElem?_toList]
   exact hu
  ·match i, hx with
   | 0, hx => (injection hx with hx; subst hx; exact ⟨_, _, rfl, Nat.le_refl _, inB_of j1 (fun ad e => by injection e with e; subst e; simp)⟩)
   | 1, hx => (injection hx with hx; subst hx; exact ⟨_, _, rfl, Nat.le_refl _, inB_of j2 (fun ad e => by injection e with e; subst e; simp)⟩)
   | 2, hx => (injection hx with hx; subst hx; exact ⟨_, _, rfl, Nat.le_refl _, inB_of j3 (fun ad e => by injection e with e; subst e; simp)⟩)
   | 3, hx => (injection hx with hx; subst hx; exact ⟨_, _, rfl, Nat.le_refl _, inB_of j4 (fun ad e => by injection e with e; subst e; simp)⟩)
   | 4, hx => (injection hx with hx; subst hx; exact ⟨_, _, rfl, Nat.le_refl _, inB_of j5 (fun ad e => by injection e with e; subst e; simp)⟩)
   | 5, hx => (injection hx with hx; subst hx; exact ⟨_, _, rfl, Nat.le_refl _, inB_of j6 (fun ad e => by injection e with e; subst e; simp)⟩)
   | 6, hx => (injection hx with hx; subst hx; exact ⟨_, _, rfl, Nat.le_refl _, inB_of j7 (fun ad e => by injection e with e; subst e; simp)⟩)
   | i + 7, hx => exact absurd (List.getElem?_eq_some_iff.1 hx).1 (by rw [mapsL_len]; omega)
end Go.Proofs.YtnbdpnlepcjmmaaGreat

namespace Go.Proofs.YtnbdpnlepcjmmaaGreat
open Go.RowKit
def Btw (a b : Nat) : Nat → Prop := fun k => a ≤ k ∧ k < b
def SetN (w : World) (n : Nat) (l : List Sp) (v : Value) : Prop := ∃ A c, v = .agg #[.slice A l.length c] ∧ l.length ≤ c ∧ Sps w A l ∧ ∀ ad, A = some ad → n ≤ ad.block
theorem setN_nil (w : World) (n : Nat) : SetN w n [] (.agg #[.slice none 0 0]) := ⟨none, 0, rfl, Nat.le_refl _, sps_nil w, fun ad e => by cases e⟩
set_option maxHeartbeats 8000000 in
theorem rmakeb_any (A : Option Addr) (c : Nat) (l : List Sp) (w : World) (h : Sps w A l) (hl : l.length ≤ 10000) :
 Calls Tryz.prog 133 #[.slice A l.length c] w fun e w' => (∃ v, e = .returned (.tuple #[v, .int .i64 (makeF l).2]) ∧ SetN w' w.heap.size (makeF l).1 v) ∧ Grows w w' := by
 have k2 := Blk.new w 45 #[.slice none 0 0]
 have hB := (Below.refl w.heap.size w).alloc (Nat.le_refl _) (Obj.cells #[.slice none 0 0] 45)
 have h1 := h.grows hB
 go_enter Tryz.func133, Tryz.ntmps133
 go_upto_region 1 with fail
 generalize World.alloc w _ = w1 at *
 go_wp2_with fail
 go_loopw [9] (fun i wr => ∃ k : Nat, k ≤ l.length ∧ i = .int .i64 k ∧ (l.take k).all fineS = true ∧ Grows w1 wr) (fun i _ => l.length - (intOf i).toNat)
 case atStart => exact ⟨0, by omega, rfl, rfl, Below.refl _ _⟩
 case round =>
  obtain ⟨k, hk, rfl, hall, hg⟩ := hrel
  by_cases hlt : k < l.length
  ·obtain ⟨ad, x, rfl, had, hx, c0, c1⟩ := (h1.grows hg).elem hlt
   have HX := Lib.hid (all_snoc hx)
   have HM : Hid (x ∈ l) := List.mem_of_getElem? hx
   clear hx
   have hq := (Below.refl wr.heap.size wr).alloc (Nat.le_refl _) (Obj.cells #[.int .i64 x.1, .int .i64 x.2] 93)
   replace hg := below_grows hg (Nat.le_refl _) hq
   clear hq
   have k5 := Blk.new wr 93 #[.int .i64 x.1, .int .i64 x.2]
   go_upto_region 4 with fail
   generalize World.alloc wr _ = w3 at *
   generalize wr.heap.size = G5 at *
   clear c0 c1
   have e0 := k5.cell 0
   have e1 := k5.cell 1
   by_cases h1 : x.1 < 0
   ·skip
    have hm : makeF l = ([], 2) := by
     unfold makeF
     rw [if_neg]
     intro ha
     have := List.all_eq_true.1 ha x HM.out
     rw [show fineS x = false by simp [fineS]; omega] at this
     cases this
    have k3 := k2.grows hg
    have x3 := k3.cell 0
    have f3 := k3.frozen 0
    have HE := Lib.hid hm
    clear hm
    go_wp2
    have k4 := k3.set_ 0 (.slice none 0 0)
    have hB4 := (below_grows hB (Nat.le_refl _) hg).setCell (p := ⟨w.heap.size, 0, none⟩) (Nat.le_refl _) (.slice none 0 0)
    generalize World.setCell _ _ _ = w5 at *
    have x4 : w5.cell? ⟨w.heap.size, 0, none⟩ = some (.slice none 0 0) := by rw [k4.cell]; rfl
    clear x3 f3 k3 k4
    refine bodyPost_ret (v := .tuple #[.agg #[.slice none 0 0], .int .i64 2]) (by simp [results, Tryz.results133, go_sem, x4]) rfl ⟨⟨_, by rw [HE.out], by rw [HE.out]; exact setN_nil _ _⟩, hB4⟩
   by_cases h2 : x.2 < x.1
   ·skip
    have hm : makeF l = ([], 2) := by
     unfold makeF
     rw [if_neg]
     intro ha
     have := List.all_eq_true.1 ha x HM.out
     rw [show fineS x = false by simp [fineS]; omega] at this
     cases this
    have k3 := k2.grows hg
    have x3 := k3.cell 0
    have f3 := k3.frozen 0
    have HE := Lib.hid hm
    clear hm
    go_wp2
    have k4 := k3.set_ 0 (.slice none 0 0)
    have hB4 := (below_grows hB (Nat.le_refl _) hg).setCell (p := ⟨w.heap.size, 0, none⟩) (Nat.le_refl _) (.slice none 0 0)
    generalize World.setCell _ _ _ = w5 at *
    have x4 : w5.cell? ⟨w.heap.size, 0, none⟩ = some (.slice none 0 0) := by rw [k4.cell]; rfl
    clear x3 f3 k3 k4
    refine bodyPost_ret (v := .tuple #[.agg #[.slice none 0 0], .int .i64 2]) (by simp [results, Tryz.results133, go_sem, x4]) rfl ⟨⟨_, by rw [HE.out], by rw [HE.out]; exact setN_nil _ _⟩, hB4⟩
   by_cases h3 : 2147483647 < x.2
   ·skip
    have hm : makeF l = ([], 2) := by
     unfold makeF
     rw [if_neg]
     intro ha
     have := List.all_eq_true.1 ha x HM.out
     rw [show fineS x = false by simp [fineS]; omega] at this
     cases this
    have k3 := k2.grows hg
    have x3 := k3.cell 0
    have f3 := k3.frozen 0
    have HE := Lib.hid hm
    clear hm
    go_wp2
    have k4 := k3.set_ 0 (.slice none 0 0)
    have hB4 := (below_grows hB (Nat.le_refl _) hg).setCell (p := ⟨w.heap.size, 0, none⟩) (Nat.le_refl _) (.slice none 0 0)
    generalize World.setCell _ _ _ = w5 at *
    have x4 : w5.cell? ⟨w.heap.size, 0, none⟩ = some (.slice none 0 0) := by rw [k4.cell]; rfl
    clear x3 f3 k3 k4
    refine bodyPost_ret (v := .tuple #[.agg #[.slice none 0 0], .int .i64 2]) (by simp [results, Tryz.results133, go_sem, x4]) rfl ⟨⟨_, by rw [HE.out], by rw [HE.out]; exact setN_nil _ _⟩, hB4⟩
   have HF : Hid (fineS x = true) := Lib.hid ((fineS_iff x).2 ⟨by omega, by omega, by omega⟩)
   go_wp2
   go_roundw
   case rel => exact ⟨k + 1, by omega, by go_num, by rw [HX.out, hall, HF.out]; rfl, hg⟩
   case measure => simp [intOf]; omega
  ·have e : l.take k = l := List.take_of_length_le (by omega)
   rw [e] at hall
   have hf : ∀ x ∈ l, fineS x = true := List.all_eq_true.1 hall
   have hm : makeF l = if 64 < (formS l).length then ([], 3) else (formS l, 0) := if_pos hall
   have HE := Lib.hid hm
   clear hm e hall
   go_wp2_with fail
   refine (joined_any A c l _ (h1.grows hg) (by omega) hf).mono ?_
   rintro e w2 ⟨⟨v, rfl, hown⟩, hq⟩
   have hg4 := below_grows hg (Nat.le_refl _) hq
   have hfl : (formS l).length ≤ 100000 := by have := (formS_forms hf).2.2; omega
   obtain ⟨A4, c4, rfl, hc4, hr4, hlo4⟩ := hown.read
   have HLO : Hid (∀ ad, A4 = some ad → w.heap.size ≤ ad.block) := Lib.hid fun ad e => Nat.le_trans (Nat.le_trans hB.size hg.size) (hlo4 ad e)
   clear hlo4
   clear hq hg hown
   generalize hfo : formS l = o at *
   clear hfo
   have k6 := Blk.new w2 45 #[.slice A4 o.length c4]
   have hq := (Below.refl w2.heap.size w2).alloc (Nat.le_refl _) (Obj.cells #[.slice A4 o.length c4] 45)
   replace hg4 := below_grows hg4 (Nat.le_refl _) hq
   replace hr4 := hr4.grows hq
   clear hq
   go_upto_region 8 with fail
   generalize World.alloc w2 _ = w3 at *
   generalize w2.heap.size = G6 at *
   have x6 := k6.cell 0
   have k3 := k2.grows hg4
   have x3 := k3.cell 0
   have f3 := k3.frozen 0
   by_cases h64 : 64 < o.length
   ·have hm : makeF l = ([], 3) := by rw [HE.out, if_pos h64]
    replace HE := Lib.hid hm
    clear hm
    go_wp2
    have k4 := k3.set_ 0 (.slice none 0 0)
    have hB4 := (below_grows hB (Nat.le_refl _) hg4).setCell (p := ⟨w.heap.size, 0, none⟩) (Nat.le_refl _) (.slice none 0 0)
    generalize World.setCell _ _ _ = w5 at *
    have x4 : w5.cell? ⟨w.heap.size, 0, none⟩ = some (.slice none 0 0) := by rw [k4.cell]; rfl
    clear x3 f3 k3 k4
    refine bodyPost_ret (v := .tuple #[.agg #[.slice none 0 0], .int .i64 3]) (by simp [results, Tryz.results133, go_sem, x4]) rfl ⟨⟨_, by rw [HE.out], by rw [HE.out]; exact setN_nil _ _⟩, hB4⟩
   ·have hm : makeF l = (o, 0) := by rw [HE.out, if_neg h64]
    replace HE := Lib.hid hm
    clear hm
    go_wp2
    have k4 := k3.set_ 0 (.slice A4 o.length c4)
    have hB4 := (below_grows hB (Nat.le_refl _) hg4).setCell (p := ⟨w.heap.size, 0, none⟩) (Nat.le_refl _) (.slice A4 o.length c4)
    have hr5 := hr4.setOther k3 (.slice A4 o.length c4)
    generalize World.setCell _ _ _ = w5 at *
    have x4 : w5.cell? ⟨w.heap.size, 0, none⟩ = some (.slice A4 o.length c4) := by rw [k4.cell]; rfl
    clear x3 f3 k3 k4
    refine bodyPost_ret (v := .tuple #[.agg #[.slice A4 o.length c4], .int .i64 0]) (by simp [results, Tryz.results133, go_sem, x4]) rfl ⟨⟨_, by rw [HE.out], by rw [HE.out]; exact ⟨A4, c4, rfl, hc4, hr5, HLO.out⟩⟩, hB4⟩
theorem only_own {a w w' : World} {g : Nat} {row : Option Nat} (h : a.grownBy w (some g)) (hg : w.grownBy w' row) (hr : ∀ q, row = some q → a.heap.size ≤ q) : a.grownBy w' (some g) :=
 ⟨hg.os.trans h.os, hg.tape.trans h.tape, hg.output.trans h.output, Nat.le_trans h.size hg.size, fun k hk hn => (hg.block k (Nat.lt_of_lt_of_le hk h.size) (fun e => by have := hr k e.symm; omega)).trans (h.block k hk hn)⟩
theorem only_trans {a w w' : World} {g : Nat} (h : a.grownBy w (some g)) (hg : w.grownBy w' (some g)) : a.grownBy w' (some g) :=
 ⟨hg.os.trans h.os, hg.tape.trans h.tape, hg.output.trans h.output, Nat.le_trans h.size hg.size, fun k hk hn => (hg.block k (Nat.lt_of_lt_of_le hk h.size) hn).trans (h.block k hk hn)⟩
theorem only_set {a w : World} {g : Nat} (h : a.grownBy w (some g)) {p : Addr} (hp : a.heap.size ≤ p.block) (u : Value) : a.grownBy (w.setCell p u) (some g) :=
 ⟨h.os, h.tape, h.output, by simpa [World.setCell] using h.size, fun k hk hn => (Below.heap_setCell w p u k (fun e => by omega)).trans (h.block k hk hn)⟩
theorem DR.grown {w w' : World} {B g : Nat} (h : DR w B g) {row : Option Nat} (hg : w.grownBy w' row) (hr : ∀ q, row = some q → g < q) : DR w' B g := by
 obtain ⟨l, A, c, h⟩ := h
 have hgl := h.blk.lt
 refine ⟨l, A, c, h.blk.grown hg (fun e => by have := hr g e.symm; omega), ?_, h.cap, h.lo, h.wf, h.len⟩
 refine Reads.keep h.bytes fun p hp => World.cell?_of_block (hg.block p.block (by have := h.lo; omega) (fun e => by have := hr _ e.symm; have := h.lo; omega))
theorem own_kept {w w' : World} {b : Nat} {v : Value} {l : List Sp} (h : Own w b v l) {g : Nat} (hg : w.grownBy w' (some g)) (hb : g < b) : Own w' b v l := by
 refine World.ownsRow.kept h hg ?_
 cases e : v.ownBlock with
 | none => exact .inl rfl
 | some q =>
  refine .inr fun e2 => ?_
  have := (World.ownsRow.lt h q e).1
  injection e2 with e2
  omega
set_option maxHeartbeats 4000000 in
theorem map_any (B g : Nat) (w : World) (h : DR w B g) : Calls Tryz.prog 37 #[.pointer (some ⟨g, 0, none⟩)] w fun e w' => (∃ m A c, e = .returned (.slice A (m : List Int).length c) ∧ m ∈ mapsL ∧ m.length ≤ c ∧ InB w' (Ge w.heap.size) A m) ∧ DR w' B g ∧ w.grownBy w' (some g) := by
 have hgl := h.lt
 obtain ⟨W, A, hcall, hm, hg⟩ := maps_lit w
 replace h := h.grows hg
 have hq := d_only_grows (World.grownBy.refl w (some g)) hg
 go_enter Tryz.func37, Tryz.ntmps37
 go_wp2_with fail
 refine hcall.mono ?_
 rintro e w1 ⟨rfl, rfl⟩
 clear hcall
 go_wp2_with fail
 refine (rolls_any B g 7 _ h (by omega) (by omega)).mono ?_
 rintro e w2 ⟨⟨r, rfl, hr0, hr1⟩, hD, hq2⟩
 replace hm := hm.grown hq2 (fun q e => by injection e with e; unfold Ge; omega)
 replace hq := only_trans hq hq2
 clear hq2 h hg
 obtain ⟨k, rfl⟩ : ∃ k : Nat, r = (k : Int) := ⟨r.toNat, by omega⟩
 obtain ⟨ad, x, C, cx, e1, had, hx, q0, hcx, hix⟩ := hm.elem (show k < mapsL.length by rw [mapsL_len]; omega)
 injection e1 with e1
 subst e1
 have HX := Lib.hid (List.mem_of_getElem? hx)
 clear hx
 go_wp2
 go_ret
 exact ⟨⟨x, C, cx, rfl, HX.out, hcx, hix⟩, hD, hq⟩
theorem forms_within {q : List Sp} {lo hi : Int} (hq : 0 < q.length) (hl : q.length ≤ 64) (hf : ∀ x ∈ q, fineS x = true ∧ lo ≤ x.1 ∧ x.2 ≤ hi) : makeF q = (formS q, 0) ∧ withinS (formS q) lo hi = true ∧ (formS q).length ≤ q.length := by
 have hf1 : ∀ x ∈ q, fineS x = true := fun x hx => (hf x hx).1
 have hF := formS_forms (l := q) hf1
 have hlen : (formS q).length ≤ 64 := Nat.le_trans hF.2.2 hl
 have hall : q.all fineS = true := List.all_eq_true.2 hf1
 have hok : okS (formS q) = true := by
  have hfine : ∀ x ∈ formS q, fineS x = true := mergeL_fine _ fun x hx => hf1 x ((sortS_perm q).mem_iff.1 hx)
  unfold okS
  rw [List.all_eq_true.2 hfine, (chainS_canon _ fun x hx => ((fineS_iff x).1 (hfine x hx)).2.1).2 hF.1, decide_eq_true hlen]
  rfl
 have hne : 0 < (formS q).length := by
  rcases Nat.eq_zero_or_pos (formS q).length with h0 | h0
  ·exfalso
   have e := List.eq_nil_of_length_eq_zero h0
   obtain ⟨x, hx⟩ : ∃ x, x ∈ q := ⟨q[0], List.getElem_mem hq⟩
   have hxf := (fineS_iff x).1 (hf1 x hx)
   have := (hF.2.1 x.1).2 ⟨x, hx, by omega, by omega⟩
   rw [e] at this
   exact mem_nil _ this
  ·exact h0
 have hin : ∀ x ∈ formS q, lo ≤ x.1 ∧ x.2 ≤ hi := by
  intro x hx
  have hxf := hF.1.1 x hx
  obtain ⟨y, hy, h1, h2⟩ := (hF.2.1 x.1).1 ⟨x, hx, by omega, by omega⟩
  obtain ⟨z, hz, h3, h4⟩ := (hF.2.1 x.2).1 ⟨x, hx, by omega, by omega⟩
  have := (hf y hy).2
  have := (hf z hz).2
  omega
 refine ⟨by unfold makeF; rw [if_pos hall, if_neg (by omega)], ?_, hF.2.2⟩
 unfold withinS
 rw [hok, decide_eq_true hne]
 have h1 : (formS q).headD (0, 0) ∈ formS q := by
  cases e : formS q with
  | nil => rw [e] at hne; simp at hne
  | cons x l => simp
 have h2 : (formS q).getLastD (0, 0) ∈ formS q := by
  cases e : formS q with
  | nil => rw [e] at hne; simp at hne
  | cons x l => rw [List.getLastD_cons]; exact List.getLastD_mem_cons
 simp only [Bool.true_and, Bool.and_eq_true, decide_eq_true_eq]
 exact ⟨(hin _ h1).1, (hin _ h2).2⟩
set_option maxHeartbeats 8000000 in
theorem set_any (B g : Nat) (A : Option Addr) (c : Nat) (l : List Sp) (lo hi : Int) (w : World) (h : DR w B g) (hl : SpB w (Ge (g + 1)) A l) (hn : 1 ≤ l.length) (hn2 : l.length ≤ 50) (hf : ∀ x ∈ l, fineS x = true ∧ lo ≤ x.1 ∧ x.2 ≤ hi) :
 Calls Tryz.prog 115 #[.pointer (some ⟨g, 0, none⟩), .slice A l.length c] w fun e w' => (∃ s A2 c2, e = .returned (.agg #[.slice A2 s.length c2]) ∧ (s : List Sp).length ≤ c2 ∧ s.length ≤ l.length ∧ SpB w' (Ge w.heap.size) A2 s ∧ withinS s lo hi = true) ∧ DR w' B g ∧ w.grownBy w' (some g) := by
 have HF := Lib.hid hf
 clear hf
 have hgl := h.lt
 have hBg := h.lo
 replace hl : RdB w (Btw (g + 1) w.heap.size) 2 A l.length (scells l) := ⟨hl.1, fun hn ad e => ⟨hl.2 hn ad e, (RdB.under hl).2 hn ad e⟩⟩
 have k4 := Blk.new w 45 #[.slice none 0 0]
 have hB := (Below.refl w.heap.size w).alloc (Nat.le_refl _) (Obj.cells #[.slice none 0 0] 45)
 go_enter Tryz.func115, Tryz.ntmps115
 go_upto_region 2 with fail
 have hD := h.grows hB
 have hO := d_only_grows (World.grownBy.refl w (some g)) hB
 replace hl := RdB.grows hl hB
 have hs1 : (w.alloc (Obj.cells #[.slice none 0 0] 45)).heap.size = w.heap.size + 1 := by simp
 have hsz1 := Nat.le_of_eq hs1.symm
 clear hs1
 clear hB h
 generalize World.alloc w _ = w1 at *
 go_wp2_with fail
 go_loopw [5, 12] (fun v i wr => ∃ (k : Nat) (q : List Sp), k ≤ l.length ∧ i = .int .i64 k ∧ Hid (∀ y ∈ q, y ∈ l) ∧ q.length ≤ k ∧ RdB wr (Btw (g + 1) w.heap.size) 2 A l.length (scells l) ∧ w.heap.size + 1 ≤ wr.heap.size ∧ Own wr (w.heap.size + 1) v q ∧ Blk wr w.heap.size 45 #[.slice none 0 0] ∧ DR wr B g ∧ w.grownBy wr (some g)) (fun _ i _ => l.length - (intOf i).toNat)
 case atStart => exact ⟨0, [], by omega, rfl, Lib.hid (by simp), by simp, hl, hsz1, own_nil _ _, k4, hD, hO⟩
 case round =>
  clear k4 hD hO hl hsz1
  obtain ⟨k, q, hk, rfl, HQ, hql, hl, hsz, ho, k4, hD, hO⟩ := hrel
  have hsl : Sps wr A l := hl.1
  by_cases hlt : k < l.length
  ·obtain ⟨ad, x, e1, had, hx, q0, q1⟩ := hsl.elem hlt
   subst e1
   have HX := Lib.hid (List.mem_of_getElem? hx)
   clear hx hsl
   have k7 := Blk.new wr 93 #[.int .i64 x.1, .int .i64 x.2]
   have hq := (Below.refl wr.heap.size wr).alloc (Nat.le_refl _) (Obj.cells #[.int .i64 x.1, .int .i64 x.2] 93)
   go_upto_region 5 with fail
   replace ho := ho.grows hq
   replace k4 := k4.grows hq
   replace hD := hD.grows hq
   replace hO := d_only_grows hO hq
   replace hl := RdB.grows hl hq
   have hsz5 := Nat.le_trans hsz hq.size
   have hG7 : g ≠ wr.heap.size := by omega
   clear hq q0 q1 hsz
   generalize World.alloc wr _ = w5 at *
   generalize wr.heap.size = G7 at *
   go_wp2_with fail
   refine (rolls_any B g 2 _ hD (by omega) (by omega)).mono ?_
   rintro e w6 ⟨⟨r, rfl, hr0, hr1⟩, hD6, hq⟩
   replace hD := hD6
   replace ho := own_kept ho hq (by omega)
   replace k4 := k4.grown hq (by intro e; injection e; omega)
   replace k7 := k7.grown hq (by intro e; injection e; omega)
   replace hO := only_trans hO hq
   replace hl := RdB.grown hl hq (fun q e => by injection e with e; unfold Btw; omega)
   have hsz6 := Nat.le_trans hsz5 hq.size
   clear hq hD6 hsz5
   by_cases h1 : r = 1
   case neg =>
    have d1 : (r == 1) = false := by simpa using h1
    clear h1
    go_wp2
    go_roundw
    case rel => exact ⟨k + 1, q, by omega, by go_num, HQ, by omega, hl, hsz6, ho, k4, hD, hO⟩
    case measure => simp [intOf]; omega
   have d1 : (r == 1) = true := by simpa using h1
   have x7 := k7.cell
   go_upto_region 6 with fail
   refine wp_region_lit ?_
   iterate 3
    refine wpList_plain rfl (fun K hK => ?_)
    go_simp
    refine hK _ _ ?_
    clear hK K
   have hr := sps_lit w6 x
   have hq := (Below.refl w6.heap.size w6).alloc (Nat.le_refl _) (Obj.cells (csS x) 93)
   have ho1 := ho.grows hq
   refine wpList_append_sp rfl (.tmp 19) (.tmp 21) rfl (l := q) (m := [x]) rfl rfl ho1 rfl hr (by simp only [List.length_cons, List.length_nil]; omega) (Nat.le_trans hsz6 hq.size) ?_
   intro v5 w12 ho2 hgr
   have hob := ho1.lt
   have hsz7 := hq.size
   replace k4 := (k4.grows hq).grown hgr (fun e => by have := (hob _ e.symm).1; omega)
   replace hD := (hD.grows hq).grown hgr (fun q e => by have := (hob q e).1; omega)
   replace hO := only_own (d_only_grows hO hq) hgr (fun q e => by have := (hob q e).1; omega)
   have hl2 := RdB.grown (RdB.grows hl hq) hgr (fun q e => by have := (hob q e).1; unfold Btw; omega)
   have hsz12 := Nat.le_trans hsz6 (Nat.le_trans hq.size hgr.size)
   have HQ2 : Hid (∀ y ∈ q ++ [x], y ∈ l) := Lib.hid (by
    intro y hy
    rcases List.mem_append.1 hy with hy | hy
    ·exact HQ.out y hy
    ·simp only [List.mem_singleton] at hy
     exact hy ▸ HX.out)
   have hql2 : (q ++ [x]).length ≤ k + 1 := by rw [List.length_append]; exact Nat.succ_le_succ hql
   clear hq hgr ho ho1 hr hob hsz7 hl HQ
   generalize q ++ [x] = q2 at *
   go_wp2
   go_roundw
   case rel => exact ⟨k + 1, q2, by omega, by go_num, HQ2, hql2, hl2, hsz12, ho2, k4, hD, hO⟩
   case measure => simp [intOf]; omega
  ·obtain rfl : k = l.length := by omega
   by_cases h0 : q.length = 0
   case neg =>
    have hq0 : 0 < q.length := by omega
    obtain ⟨A5, c5, e7, hc5, hs5, -⟩ := ho.read
    subst e7
    have d0 : ((q.length : Int) == 0) = false := by simp only [beq_eq_false_iff_ne, ne_eq]; omega
    clear h0 hl
    have hqL : q.length ≤ l.length := hql
    obtain ⟨hm, hwi, hl64⟩ := forms_within (lo := lo) (hi := hi) (q := q) hq0 (by omega) (fun x hx => HF.out x (HQ.out x hx))
    have HM := Lib.hid hm
    have HWI := Lib.hid hwi
    clear hm hwi ho
    have hw9 := hsz
    go_wp2_with fail
    refine (rmakeb_any A5 c5 q _ hs5 (by omega)).mono ?_
    rw [HM.out]
    generalize formS q = s at *
    rintro e w9 ⟨⟨v, rfl, A6, c6, rfl, hc6, hs6, hlo6⟩, hq⟩
    have hr6 : RdB w9 (Ge (w.heap.size + 1)) 2 A6 s.length (scells s) := ⟨hs6, fun _ ad e => Nat.le_trans hsz (hlo6 ad e)⟩
    replace k4 := k4.grows hq
    replace hD := hD.grows hq
    replace hO := d_only_grows hO hq
    have hsz9 := Nat.le_trans hsz hq.size
    clear hq hs6 hlo6 hsz hw9
    have k8 := Blk.new w9 45 #[.slice A6 s.length c6]
    have hq := (Below.refl w9.heap.size w9).alloc (Nat.le_refl _) (Obj.cells #[.slice A6 s.length c6] 45)
    go_upto_region 11 with fail
    replace k4 := k4.grows hq
    replace hD := hD.grows hq
    replace hO := d_only_grows hO hq
    replace hr6 := RdB.grows hr6 hq
    clear hq
    generalize World.alloc w9 _ = w10 at *
    generalize w9.heap.size = G8 at *
    have x8 := k8.cell 0
    have x4 := k4.cell 0
    have hf4 := k4.frozen
    have y4 := k4.set_ 0 (.slice A6 s.length c6)
    have yD := hD.put (p := ⟨w.heap.size, 0, none⟩) (Nat.le_trans hBg (Nat.le_of_lt hgl)) (Nat.ne_of_lt hgl) (.slice A6 s.length c6)
    have yO := only_set hO (p := ⟨w.heap.size, 0, none⟩) (Nat.le_refl _) (.slice A6 s.length c6)
    have yR := RdB.grown hr6 (d_only_set (World.grownBy.refl _ (some w.heap.size)) 0 (.slice A6 s.length c6)) (fun q e => by injection e with e; unfold Ge; omega)
    have y6 := y4.cell 0
    clear k4 k8 hD hO hr6
    go_wp2
    refine bodyPost_ret (v := .agg #[.slice A6 s.length c6]) (by simp [results, Tryz.results115, go_sem, y6]) rfl ⟨⟨s, A6, c6, rfl, hc6, Nat.le_trans hl64 hqL, RdB.mono yR (fun k hk => by unfold Ge at *; omega), HWI.out⟩, yD, yO⟩
   obtain rfl := List.eq_nil_of_length_eq_zero h0
   clear h0 HQ hql
   obtain ⟨A7, c7, e7, hc7, -, -⟩ := ho.read
   subst e7
   have d0 : ((([] : List Sp).length : Int) == 0) = true := rfl
   go_upto_region 9 with fail
   refine wp_region_lit ?_
   iterate 5
    refine BigFrame.wpList_want (by first | rfl | kernel_rfl) (fun K hK => ?_)
    go_simp
    refine hK _ _ ?_
    clear hK K
   refine BigFrame.wpList_want (by first | rfl | kernel_rfl) (fun K hK => ?_)
   go_simp
   refine (rolls_any B g (l.length : Int) _ hD (by omega) (by omega)).mono ?_
   rintro e w6 ⟨⟨r, rfl, hr0, hr1⟩, hD6, hq⟩
   refine hK _ _ ?_
   clear hK K
   replace hD := hD6
   replace ho := own_kept ho hq (by omega)
   replace k4 := k4.grown hq (by intro e; injection e; omega)
   replace hO := only_trans hO hq
   replace hl := RdB.grown hl hq (fun q e => by injection e with e; unfold Btw; omega)
   replace hsz := Nat.le_trans hsz hq.size
   clear hq hD6
   obtain ⟨j, rfl⟩ : ∃ j : Nat, r = (j : Int) := ⟨r.toNat, by omega⟩
   have hsl : Sps w6 A l := hl.1
   obtain ⟨ad, x, e1, had, hx, q0, q1⟩ := hsl.elem (show j < l.length by omega)
   subst e1
   have HX := Lib.hid (List.mem_of_getElem? hx)
   clear hx hsl
   iterate 3
    refine BigFrame.wpList_want (by first | rfl | kernel_rfl) (fun K hK => ?_)
    go_simp
    refine hK _ _ ?_
    clear hK K
   have hr := sps_lit w6 x
   have hq := (Below.refl w6.heap.size w6).alloc (Nat.le_refl _) (Obj.cells (csS x) 93)
   have ho1 := ho.grows hq
   refine wpList_append_sp rfl (.tmp 27) (.tmp 35) rfl (l := []) (m := [x]) rfl rfl ho1 rfl hr (by simp) (Nat.le_trans hsz hq.size) ?_
   intro v5 w12 ho2 hgr
   have hob := ho1.lt
   replace k4 := (k4.grows hq).grown hgr (fun e => by have := (hob _ e.symm).1; omega)
   have hsz7 := hq.size
   replace hD := (hD.grows hq).grown hgr (fun q e => by have := (hob q e).1; omega)
   replace hO := only_own (d_only_grows hO hq) hgr (fun q e => by have := (hob q e).1; omega)
   replace hsz := Nat.le_trans hsz (Nat.le_trans hq.size hgr.size)
   have HQ : Hid (∀ y ∈ [x], y ∈ l) := Lib.hid (by intro y hy; simp only [List.mem_singleton] at hy; exact hy ▸ HX.out)
   rw [List.nil_append] at ho2
   replace ho := ho2
   have hq0 : 0 < [x].length := by simp
   clear hq hgr ho1 hr hob hsz7 hl q0 q1 ho2
   have hqx : [x].length ≤ 50 := by simp
   have hqL : [x].length ≤ l.length := hn
   generalize [x] = qx at *
   skip
   obtain ⟨A5, c5, rfl, hc5, hs5, -⟩ := ho.read
   obtain ⟨hm, hwi, hl64⟩ := forms_within (lo := lo) (hi := hi) (q := qx) hq0 (by omega) (fun x hx => HF.out x (HQ.out x hx))
   have HM := Lib.hid hm
   have HWI := Lib.hid hwi
   clear hm hwi ho
   have hw9 := hsz
   go_wp2_with fail
   refine (rmakeb_any A5 c5 qx _ hs5 (by omega)).mono ?_
   rw [HM.out]
   generalize formS qx = s at *
   rintro e w9 ⟨⟨v, rfl, A6, c6, rfl, hc6, hs6, hlo6⟩, hq⟩
   have hr6 : RdB w9 (Ge (w.heap.size + 1)) 2 A6 s.length (scells s) := ⟨hs6, fun _ ad e => Nat.le_trans hsz (hlo6 ad e)⟩
   replace k4 := k4.grows hq
   replace hD := hD.grows hq
   replace hO := d_only_grows hO hq
   have hsz9 := Nat.le_trans hsz hq.size
   clear hq hs6 hlo6 hsz hw9
   have k8 := Blk.new w9 45 #[.slice A6 s.length c6]
   have hq := (Below.refl w9.heap.size w9).alloc (Nat.le_refl _) (Obj.cells #[.slice A6 s.length c6] 45)
   go_upto_region 11 with fail
   replace k4 := k4.grows hq
   replace hD := hD.grows hq
   replace hO := d_only_grows hO hq
   replace hr6 := RdB.grows hr6 hq
   clear hq
   generalize World.alloc w9 _ = w10 at *
   generalize w9.heap.size = G8 at *
   have x8 := k8.cell 0
   have x4 := k4.cell 0
   have hf4 := k4.frozen
   have y4 := k4.set_ 0 (.slice A6 s.length c6)
   have yD := hD.put (p := ⟨w.heap.size, 0, none⟩) (Nat.le_trans hBg (Nat.le_of_lt hgl)) (Nat.ne_of_lt hgl) (.slice A6 s.length c6)
   have yO := only_set hO (p := ⟨w.heap.size, 0, none⟩) (Nat.le_refl _) (.slice A6 s.length c6)
   have yR := RdB.grown hr6 (d_only_set (World.grownBy.refl _ (some w.heap.size)) 0 (.slice A6 s.length c6)) (fun q e => by injection e with e; unfold Ge; omega)
   have y6 := y4.cell 0
   clear k4 k8 hD hO hr6
   go_wp2
   refine bodyPost_ret (v := .agg #[.slice A6 s.length c6]) (by simp [results, Tryz.results115, go_sem, y6]) rfl ⟨⟨s, A6, c6, rfl, hc6, Nat.le_trans hl64 hqL, RdB.mono yR (fun k hk => by unfold Ge at *; omega), HWI.out⟩, yD, yO⟩
end Go.Proofs.YtnbdpnlepcjmmaaGreat

namespace Go.Proofs.YtnbdpnlepcjmmaaGreat
open Go.RowKit
def KP (k : Int) : Prop := 2 ≤ k ∧ k ≤ 254 ∧ k % 2 = 0
theorem kp_shl {r : Int} (h0 : 0 ≤ r) (h1 : r < 7) : KP (wrap64 (2 ^ (1 + r).toNat)) := by
 obtain ⟨n, rfl⟩ : ∃ n : Nat, r = (n : Int) := ⟨r.toNat, by omega⟩
 have hn : n < 7 := by omega
 unfold KP
 match n, hn with
 | 0, _ => decide +kernel
 | 1, _ => decide +kernel
 | 2, _ => decide +kernel
 | 3, _ => decide +kernel
 | 4, _ => decide +kernel
 | 5, _ => decide +kernel
 | 6, _ => decide +kernel
 | n + 7, h => exact absurd h (by omega)
theorem kp_or_ : ∀ a : Fin 256, ∀ b : Fin 256, a.val % 2 = 0 → b.val % 2 = 0 → 2 ≤ a.val → (2 ≤ a.val ||| b.val ∧ a.val ||| b.val ≤ 254 ∧ (a.val ||| b.val) % 2 = 0) := by
 intro a b ha hb h2
 have h3 : (a.val ||| b.val) < 2 ^ 8 := Nat.or_lt_two_pow a.isLt b.isLt
 have h4 := Nat.testBit_or a.val b.val 0
 rw [Nat.testBit_zero, Nat.testBit_zero, Nat.testBit_zero, decide_eq_false (show ¬ a.val % 2 = 1 by omega), decide_eq_false (show ¬ b.val % 2 = 1 by omega), Bool.or_false, decide_eq_false_iff_not] at h4
 have h5 : a.val ≤ a.val ||| b.val := Nat.left_le_or
 omega
theorem kp_or {a b : Int} (ha : KP a) (hb : KP b) : KP (bits .or .i64 a b) := by
 obtain ⟨n, rfl⟩ : ∃ n : Nat, a = (n : Int) := ⟨a.toNat, by unfold KP at ha; omega⟩
 obtain ⟨m, rfl⟩ : ∃ m : Nat, b = (m : Int) := ⟨b.toNat, by unfold KP at hb; omega⟩
 unfold KP at ha hb
 have h := kp_or_ ⟨n, by omega⟩ ⟨m, by omega⟩ (by simp only; omega) (by simp only; omega) (by simp only; omega)
 have e : bits .or .i64 (n : Int) (m : Int) = ((n ||| m : Nat) : Int) := by
  show IntKind.i64.wrap (((BitVec.ofInt 64 (n : Int)) ||| (BitVec.ofInt 64 (m : Int))).toNat : Int) = _
  have e1 : (BitVec.ofInt 64 (n : Int)).toNat = n := by rw [BitVec.toNat_ofInt]; omega
  have e2 : (BitVec.ofInt 64 (m : Int)).toNat = m := by rw [BitVec.toNat_ofInt]; omega
  rw [BitVec.toNat_or, e1, e2]
  exact IntWalk.i64_in _ (by simp only at h; omega)
 rw [e]
 unfold KP
 simp only at h
 omega
theorem kinds_of_ : ∀ n : Fin 256, n.val % 2 = 0 → 2 ≤ n.val → kindsOk (n.val : Int) = true := by decide +kernel
theorem kinds_of {k : Int} (h : KP k) : kindsOk k = true := by
 obtain ⟨n, rfl⟩ : ∃ n : Nat, k = (n : Int) := ⟨k.toNat, by unfold KP at h; omega⟩
 unfold KP at h
 exact kinds_of_ ⟨n, by omega⟩ (by simp only; omega) (by simp only; omega)
/-- A row of channel maps of one's own, apart from what its members take, which lies at or above lo. -/
def OwnM (w : World) (base lo : Nat) (v : Value) (ms : List (List Int)) : Prop :=
 ∃ vs, w.ownsRow base 23 1 v ms.length vs ∧ ∀ (i : Nat) (x : List Int), ms[i]? = some x → ∃ B c, vs[i]? = some (.slice B x.length c) ∧ x.length ≤ c ∧ InB w (Ge lo) B x ∧ (∀ ad, B = some ad → 0 < x.length → v.ownBlock ≠ some ad.block)
theorem InB.away {w w' : World} {ok : Nat → Prop} {B : Option Addr} {x : List Int} (h : InB w ok B x) {row : Option Nat} (hg : w.grownBy w' row) (hne : ∀ ad, B = some ad → 0 < x.length → row ≠ some ad.block) : InB w' ok B x := by
 refine ⟨⟨h.1.1, fun hn => ?_⟩, h.2⟩
 obtain ⟨ad, e, hb, hc⟩ := h.1.2 hn
 have hn2 : some ad.block ≠ row := fun e2 => hne ad e hn e2.symm
 exact ⟨ad, e, Nat.lt_of_lt_of_le hb hg.size, fun j u hu => (World.cell?_of_block (hg.block (ad.add j).block (by rw [block_of_add]; exact hb) (by rw [block_of_add]; exact hn2))).trans (hc j u hu)⟩
section
variable {w w' : World} {base lo g : Nat} {v : Value} {ms : List (List Int)}
theorem OwnM.nil : OwnM w base lo (.slice none 0 0) [] := ⟨[], World.ownsRow_nil w base _ 1, fun i x h => by simp at h⟩
theorem OwnM.grows (h : OwnM w base lo v ms) (hg : Grows w w') : OwnM w' base lo v ms := by
 obtain ⟨vs, h1, h2⟩ := h
 exact ⟨vs, own_grows h1 hg, fun i x hx => by obtain ⟨B, c, e, hc, hi, hn⟩ := h2 i x hx; exact ⟨B, c, e, hc, hi.grows hg, hn⟩⟩
theorem OwnM.only (h : OwnM w base lo v ms) (hg : w.grownBy w' (some g)) (hb : g < base) (hl : g < lo) : OwnM w' base lo v ms := by
 obtain ⟨vs, h1, h2⟩ := h
 refine ⟨vs, World.ownsRow.kept h1 hg ?_, fun i x hx => by obtain ⟨B, c, e, hc, hi, hn⟩ := h2 i x hx; exact ⟨B, c, e, hc, RdB.grown hi hg (fun q e => by injection e with e; unfold Ge; omega), hn⟩⟩
 cases e : v.ownBlock with
 | none => exact .inl rfl
 | some q =>
  refine .inr fun e2 => ?_
  have := (World.ownsRow.lt h1 q e).1
  injection e2 with e2
  omega
theorem OwnM.lt (h : OwnM w base lo v ms) : ∀ q, v.ownBlock = some q → base ≤ q ∧ q < w.heap.size := by
 obtain ⟨vs, h1, -⟩ := h
 exact World.ownsRow.lt h1
theorem OwnM.read (h : OwnM w base lo v ms) (hb : lo ≤ base) : ∃ A c, v = .slice A ms.length c ∧ ms.length ≤ c ∧ MapsR w (Ge lo) A ms := by
 obtain ⟨vs, h1, h2⟩ := h
 have hlt := World.ownsRow.lt h1
 rcases h1.2 with ⟨rfl, hn⟩ | ⟨q, cap, cur, rfl, hbq, hg, hnc, hm, hs, ht⟩
 ·have e := List.eq_nil_of_length_eq_zero hn
  subst e
  exact ⟨none, 0, rfl, Nat.le_refl _, MapsR.nil⟩
 ·refine ⟨_, cap, rfl, hnc, vs, ⟨Reads.of_own h1, fun _ ad e => ?_⟩, fun i x hx => by obtain ⟨B, c, e, hc, hi, _⟩ := h2 i x hx; exact ⟨B, c, e, hc, hi⟩⟩
  injection e with e
  subst e
  exact Nat.le_trans hb hbq
end
set_option maxRecDepth 100000 in
theorem ms_info : ∃ i : TypeInfo, Tryz.prog.info? 23 = some i ∧ i.size = 1 ∧ i.bytes = 24 ∧ i.zero = some (.slice none 0 0) ∧ (Value.slice none 0 0).cells.size = 1 := ⟨_, by first | exact Tryz.info23 | rfl, rfl, rfl, rfl, rfl⟩
theorem wpList_append_map {ops : Array Oper} {rest : List Oper} {o : Oper} {a : Act} {w : World} {Q : Exit → Act → World → Prop} (hgd : o.guard = none) (s x : Operand) (ho : o.op = .call { callee := .builtin .append, args := #[s, x], argTypes := #[46, 46] })
 {base lo : Nat} {v : Value} {ms : List (List Int)} {m : List Int} {A B : Option Addr} {c cm : Nat} (hs : a.eval s = v) (hown : OwnM w base lo v ms) (hx : a.eval x = .slice A 1 c) (hr : Reads w w.heap.size 1 A 1 [.slice B m.length cm]) (hlen : ms.length + 1 ≤ 1000000) (hbase : base ≤ w.heap.size)
 (hm : InB w (Ge lo) B m) (hcm : m.length ≤ cm) (hne : ∀ ad, B = some ad → 0 < m.length → v.ownBlock ≠ some ad.block)
 (h : ∀ v' w', OwnM w' base lo v' (ms ++ [m]) → w.grownBy w' v.ownBlock → wpList Tryz.prog ops Q rest (a.put o.dst v') w') : wpList Tryz.prog ops Q (o :: rest) a w := by
 obtain ⟨i0, hi0, hi1, hi2, hi3, hi4⟩ := ms_info
 obtain ⟨vs, h1, h2⟩ := hown
 refine wpList_append_any w hgd s x 46 ho base 23 i0 _ 1 24 Tryz.underlying46 hi0 hi3 hi1 hi2 hi4 (by omega) v ms.length vs hs h1 w.heap.size A 1 c [.slice B m.length cm] hx hr (by intro u hu; simp only [List.mem_singleton] at hu; subst hu; rfl) (by simp only [maxLen]; omega) (by omega) hbase fun v' w' h3 h4 h5 => h v' w' ⟨vs ++ [.slice B m.length cm], by rw [List.length_append]; exact h3, fun i y hy => ?_⟩ h4
 have hapart : ∀ (y : List Int) (C : Option Addr), InB w (Ge lo) C y → (∀ ad, C = some ad → 0 < y.length → v.ownBlock ≠ some ad.block) → ∀ ad, C = some ad → 0 < y.length → v'.ownBlock ≠ some ad.block := by
  intro y C hy hn ad e hl e2
  rcases h5 with h5 | h5
  ·exact hn ad e hl (h5 ▸ e2)
  ·rw [h5] at e2
   injection e2 with e2
   obtain ⟨ad0, e0, hb, _⟩ := hy.1.2 hl
   rw [e] at e0
   injection e0 with e0
   subst e0
   omega
 have hvl : vs.length = ms.length := by have := h1.1; omega
 by_cases hi : i < ms.length
 ·rw [List.getElem?_append_left hi] at hy
  obtain ⟨C, cy, e, hc, hi6, hn⟩ := h2 i y hy
  exact ⟨C, cy, by rw [List.getElem?_append_left (by omega)]; exact e, hc, hi6.away h4 hn, hapart y C hi6 hn⟩
 ·rw [List.getElem?_append_right (by omega)] at hy
  have hi0 : i - ms.length = 0 := by
   have := (List.getElem?_eq_some_iff.1 hy).1
   simp only [List.length_singleton] at this
   omega
  rw [hi0] at hy
  simp only [List.getElem?_cons_zero, Option.some.injEq] at hy
  subst hy
  exact ⟨B, cm, by rw [List.getElem?_append_right (by omega), show i - vs.length = 0 by omega]; rfl, hcm, hm.away h4 hne, hapart m B hm hne⟩
def simM (y m : List Int) : Bool := decide (y.length = m.length) && decide (y.headD 0 = m.headD 0)
theorem sim_self (m : List Int) : simM m m = true := by unfold simM; simp
theorem sim_next {ms : List (List Int)} {m y : List Int} {k : Nat} (h : ms[k]? = some y) : (ms.take (k + 1)).any (fun y => simM y m) = ((ms.take k).any (fun y => simM y m) || simM y m) := by
 rw [take_snoc h, List.any_append]
 simp
theorem sim_not {ms : List (List Int)} {m : List Int} (h : ms.any (fun y => simM y m) = false) : m ∉ ms := fun hm => by
 rw [List.any_eq_false] at h
 exact h m hm (sim_self m)
end Go.Proofs.YtnbdpnlepcjmmaaGreat

namespace Go.Proofs.YtnbdpnlepcjmmaaGreat
open Go.RowKit
theorem sps_lits (w : World) (l : List Sp) (cs : Array Value) (t : TypeId) (h : cs.toList = scells l) : Sps (w.alloc (.cells cs t)) (some ⟨w.heap.size, 0, none⟩) l := by
 have hb := Blk.new w t cs
 refine ⟨by rw [scells_len], fun _ => ⟨_, rfl, by simp, fun j u hu => ?_⟩⟩
 have := hb.cell j
 have e : (⟨w.heap.size, 0, none⟩ : Addr).add j = ⟨w.heap.size, j, none⟩ := by unfold Addr.add; split <;> simp_all
 rw [e, this, ← Array.getElem?_toList, h]
 exact hu
/-- Few spans. -/
def Few (b : Bx) : Prop := b.r.length ≤ 5 ∧ b.s.length ≤ 5
set_option maxHeartbeats 32000000 in
set_option maxRecDepth 10000 in
theorem box_any (B g : Nat) (w : World) (h : DR w B g) : Calls Tryz.prog 74 #[.pointer (some ⟨g, 0, none⟩)] w fun e w' => (∃ (b : Bx) (v : Value), e = .returned v ∧ BoxV w' (Ge w.heap.size) b v ∧ fineB b = true ∧ OKB b ∧ I64 b.k ∧ Few b) ∧ DR w' B g ∧ w.grownBy w' (some g) := by
 have hgl := h.lt
 have hBg := h.lo
 have k0 := Blk.new w 48 #[.int .i64 0, .slice none 0 0, .slice none 0 0, .slice none 0 0]
 have hB := (Below.refl w.heap.size w).alloc (Nat.le_refl _) (Obj.cells #[.int .i64 0, .slice none 0 0, .slice none 0 0, .slice none 0 0] 48)
 go_enter Tryz.func74, Tryz.ntmps74
 go_upto_region 1 with fail
 have hD := h.grows hB
 have hO := d_only_grows (World.grownBy.refl w (some g)) hB
 clear hB h
 generalize World.alloc w _ = w1 at *
 go_wp2_with fail
 refine (rolls_any B g 7 _ hD (by omega) (by omega)).mono ?_
 rintro e w2 ⟨⟨r, rfl, r0, r1⟩, hDn, hq⟩
 replace hD := hDn
 replace k0 := k0.grown hq (by intro e; injection e; omega)
 replace hO := only_trans hO hq
 clear hq hDn
 have hw : IntKind.i64.wrap (1 + r) = 1 + r := IntWalk.i64_in _ (by omega)
 have hK := kp_shl r0 r1
 have k3 := Blk.new w2 48 #[.int .i64 (wrap64 (2 ^ (1 + r).toNat)), .slice none 0 0, .slice none 0 0, .slice none 0 0]
 have hq := (Below.refl w2.heap.size w2).alloc (Nat.le_refl _) (Obj.cells #[.int .i64 (wrap64 (2 ^ (1 + r).toNat)), .slice none 0 0, .slice none 0 0, .slice none 0 0] 48)
 have l03 := k0.lt
 go_upto_region 2 with fail
 generalize wrap64 (2 ^ (1 + r).toNat) = K at *
 have HK := Lib.hid hK
 clear hK hw
 replace hD := hD.grows hq
 replace k0 := k0.grows hq
 replace hO := d_only_grows hO hq
 clear hq
 generalize World.alloc w2 _ = w3 at *
 generalize w2.heap.size = G3 at *
 go_wp2_with fail
 refine (rolls_any B g 3 _ hD (by omega) (by omega)).mono ?_
 rintro e w4 ⟨⟨n0, rfl, n00, n01⟩, hDn, hq⟩
 replace hD := hDn
 replace k0 := k0.grown hq (by intro e; injection e; omega)
 replace k3 := k3.grown hq (by intro e; injection e; omega)
 replace hO := only_trans hO hq
 clear hq hDn
 obtain ⟨m0, rfl⟩ : ∃ m0 : Nat, n0 = (m0 : Int) := ⟨n0.toNat, by omega⟩
 go_wp2_with fail
 go_loopw [4] (fun i wr => ∃ (n : Nat) (K : Int), n ≤ 2 ∧ i = .int .i64 n ∧ Hid (KP K) ∧ Blk wr w.heap.size 48 #[.int .i64 0, .slice none 0 0, .slice none 0 0, .slice none 0 0] ∧ Blk wr G3 48 #[.int .i64 K, .slice none 0 0, .slice none 0 0, .slice none 0 0] ∧ DR wr B g ∧ w.grownBy wr (some g)) (fun i _ => (intOf i).toNat)
 case atStart => exact ⟨m0, K, by omega, rfl, HK, k0, k3, hD, hO⟩
 case round =>
  clear k0 k3 hD hO HK
  obtain ⟨n, K, hn, rfl, HK, k0, k3, hD, hO⟩ := hrel
  by_cases hpos : 0 < n
  ·have d1 : decide ((0 : Int) < (n : Int)) = true := by simp only [decide_eq_true_eq]; omega
   have d2 : decide (0 < n) = true := by simp only [decide_eq_true_eq]; omega
   obtain ⟨l, hD⟩ := hD
   have hrb := rollV_bd l (n := 7) (by omega)
   have hw : IntKind.i64.wrap (1 + rollV l 7) = 1 + rollV l 7 := IntWalk.i64_in _ (by omega)
   have HK2 : Hid (KP (bits .or .i64 K (IntKind.i64.wrap (2 ^ (1 + rollV l 7).toNat)))) := Lib.hid (kp_or HK.out (by rw [IntWalk.i64_left]; exact kp_shl hrb.1 hrb.2))
   have hwn : IntKind.i64.wrap ((n : Int) - 1) = ((n - 1 : Nat) : Int) := by rw [IntWalk.i64_in _ (by omega)]; omega
   go_upto_region 5 with fail
   obtain ⟨S, HI, HO⟩ : ∃ S : Nat → World → Prop, Hid (∀ p w', (w.grownBy w' (some g) ∧ Blk w' w.heap.size 48 #[.int .i64 0, .slice none 0 0, .slice none 0 0, .slice none 0 0] ∧ (p ≤ 1 → Blk w' G3 48 #[.int .i64 K, .slice none 0 0, .slice none 0 0, .slice none 0 0]) ∧ (2 ≤ p → Blk w' G3 48 #[.int .i64 (bits .or .i64 K (IntKind.i64.wrap (2 ^ (1 + rollV l 7).toNat))), .slice none 0 0, .slice none 0 0, .slice none 0 0]) ∧ (p = 0 → Dice w' B g l) ∧ (1 ≤ p → Dice w' B g l.tail)) → S p w') ∧ Hid (∀ p w', S p w' → (w.grownBy w' (some g) ∧ Blk w' w.heap.size 48 #[.int .i64 0, .slice none 0 0, .slice none 0 0, .slice none 0 0] ∧ (p ≤ 1 → Blk w' G3 48 #[.int .i64 K, .slice none 0 0, .slice none 0 0, .slice none 0 0]) ∧ (2 ≤ p → Blk w' G3 48 #[.int .i64 (bits .or .i64 K (IntKind.i64.wrap (2 ^ (1 + rollV l 7).toNat))), .slice none 0 0, .slice none 0 0, .slice none 0 0]) ∧ (p = 0 → Dice w' B g l) ∧ (1 ≤ p → Dice w' B g l.tail))) := ⟨fun p w' => w.grownBy w' (some g) ∧ Blk w' w.heap.size 48 #[.int .i64 0, .slice none 0 0, .slice none 0 0, .slice none 0 0] ∧ (p ≤ 1 → Blk w' G3 48 #[.int .i64 K, .slice none 0 0, .slice none 0 0, .slice none 0 0]) ∧ (2 ≤ p → Blk w' G3 48 #[.int .i64 (bits .or .i64 K (IntKind.i64.wrap (2 ^ (1 + rollV l 7).toNat))), .slice none 0 0, .slice none 0 0, .slice none 0 0]) ∧ (p = 0 → Dice w' B g l) ∧ (1 ≤ p → Dice w' B g l.tail), Lib.hid fun _ _ h => h, Lib.hid fun _ _ h => h⟩
   refine wp_region_step S [3, 8] 9 89 (by kernel_rfl) (by kernel_rfl) rfl ?_ ?_ ?_
   ·exact fun p w1 w2 hs hg => HI.out _ _ (by obtain ⟨h0, h1, h2, h3, h4, h5⟩ := HO.out _ _ hs; exact ⟨d_only_grows h0 hg, h1.grows hg, fun e => (h2 e).grows hg, fun e => (h3 e).grows hg, fun e => (h4 e).grows hg, fun e => (h5 e).grows hg⟩)
   ·exact HI.out _ _ ⟨d_only_grows hO (Grows.drew' _), k0.grows (Grows.drew' _), fun _ => k3.grows (Grows.drew' _), fun e => by omega, fun _ => hD.grows (Grows.drew' _), fun e => by omega⟩
   simp only [List.take_succ_cons, List.take_zero, List.drop_succ_cons, List.drop_zero]
   refine st_plain rfl rfl (v := ?_) (a' := ?_) (fun w1 hw1 => ?_) ?_ ?_
   rotate_left 2
   ·obtain ⟨p, -⟩ := hw1
    go_simp
    exact calm_val
   ·simp only [Act.put, List.setIfInBounds_toArray, List.set_cons_succ, List.set_cons_zero]
    rfl
   refine st_upto (j := 1) (by kernel_rfl) rfl rfl (v := ?_) (a' := ?_) (fun w1 hw1 => ?_) ?_ ?_
   rotate_left 2
   ·obtain ⟨p, hp, hs⟩ := hw1
    obtain ⟨-, -, h2, -, -, -⟩ := HO.out _ _ hs
    have x3 := (h2 hp).cell
    go_simp
    exact calm_val
   ·simp only [Act.put, List.setIfInBounds_toArray, List.set_cons_succ, List.set_cons_zero]
    rfl
   refine st_plain rfl rfl (v := ?_) (a' := ?_) (fun w1 hw1 => ?_) ?_ ?_
   rotate_left 2
   ·obtain ⟨p, -⟩ := hw1
    go_simp
    exact calm_val
   ·simp only [Act.put, List.setIfInBounds_toArray, List.set_cons_succ, List.set_cons_zero]
    rfl
   refine st_step (j := 0) rfl rfl (v := ?_) (a' := ?_) (fun w1 hw1 => ?_) ?_ ?_
   rotate_left 2
   ·obtain ⟨h0, h1, h2, h3, h4, h5⟩ := HO.out _ _ hw1
    go_simp
    refine step_call ?_
    refine (roll_any B g l 7 _ (h4 rfl) (by omega) (by omega)).mono ?_
    rintro e w2 ⟨rfl, hd2, hq, -⟩
    refine ⟨?_, ?_⟩
    ·exact rfl
    ·exact HI.out _ _ ⟨only_trans h0 hq, h1.grown hq (by intro e; injection e; omega), fun _ => (h2 (by omega)).grown hq (by intro e; injection e; omega), fun e => by omega, fun e => by omega, fun _ => hd2⟩
   ·simp only [Act.put, List.setIfInBounds_toArray, List.set_cons_succ, List.set_cons_zero]
    rfl
   refine st_plain rfl rfl (v := ?_) (a' := ?_) (fun w1 hw1 => ?_) ?_ ?_
   rotate_left 2
   ·obtain ⟨p, -⟩ := hw1
    go_simp
    exact calm_val
   ·simp only [Act.put, List.setIfInBounds_toArray, List.set_cons_succ, List.set_cons_zero]
    rfl
   refine st_plain rfl rfl (v := ?_) (a' := ?_) (fun w1 hw1 => ?_) ?_ ?_
   rotate_left 2
   ·obtain ⟨p, -⟩ := hw1
    go_simp
    exact calm_val
   ·simp only [Act.put, List.setIfInBounds_toArray, List.set_cons_succ, List.set_cons_zero]
    rfl
   refine st_plain rfl rfl (v := ?_) (a' := ?_) (fun w1 hw1 => ?_) ?_ ?_
   rotate_left 2
   ·obtain ⟨p, -⟩ := hw1
    go_simp
    exact calm_val
   ·simp only [Act.put, List.setIfInBounds_toArray, List.set_cons_succ, List.set_cons_zero]
    rfl
   refine st_plain rfl rfl (v := ?_) (a' := ?_) (fun w1 hw1 => ?_) ?_ ?_
   rotate_left 2
   ·obtain ⟨p, -⟩ := hw1
    go_simp
    exact calm_val
   ·simp only [Act.put, List.setIfInBounds_toArray, List.set_cons_succ, List.set_cons_zero]
    rfl
   refine st_step (j := 1) rfl rfl (v := undef) (a' := ?_) (fun w1 hw1 => ?_) ?_ ?_
   rotate_left 1
   ·obtain ⟨h0, h1, h2, h3, h4, h5⟩ := HO.out _ _ hw1
    have kk := h2 (by omega)
    have x3 := kk.cell
    have hf3 := kk.frozen
    go_simp
    refine step_skip ?_
    exact HI.out _ _ ⟨only_set h0 (p := ⟨G3, 0, none⟩) (Nat.le_of_lt l03) _, h1.far (p := ⟨G3, 0, none⟩) (Nat.ne_of_lt l03) _, fun e => by omega, fun _ => kk.set_ 0 _, fun e => by omega, fun _ => (h5 (by omega)).put (p := ⟨G3, 0, none⟩) (Nat.le_trans hBg (Nat.le_of_lt (Nat.lt_trans hgl l03))) (Nat.ne_of_lt (Nat.lt_trans hgl l03)) _⟩
   ·rfl
   refine st_done ?_
   intro w7 hs
   obtain ⟨h0, h1, -, h3, -, h5⟩ := HO.out _ _ hs
   have k3b := h3 (Nat.le_refl 2)
   have hDb : DR w7 B g := ⟨_, h5 (by decide)⟩
   clear HI HO hs h3 h5
   generalize (bits .or .i64 K (IntKind.i64.wrap (2 ^ (1 + rollV l 7).toNat))) = K3 at *
   go_wp2
   go_roundw
   case rel => exact ⟨n - 1, K3, by omega, by go_num, HK2, h1, k3b, hDb, h0⟩
   case measure => simp [intOf]; omega
  ·obtain rfl : n = 0 := by omega
   have d2 : decide ((0 : Int) < ((0 : Nat) : Int)) = false := by decide
   generalize wr = wa at *
   go_upto_region 6 with fail
   have hgw := k3.lt
   have hL := sps_lits wa [(44100, 44100), (48000, 48000), (8000, 8000), (32000, 50000), (96000, 192000)] #[.int .i64 44100, .int .i64 44100, .int .i64 48000, .int .i64 48000, .int .i64 8000, .int .i64 8000, .int .i64 32000, .int .i64 50000, .int .i64 96000, .int .i64 192000] 93 rfl
   have hq := (Below.refl wa.heap.size wa).alloc (Nat.le_refl _) (Obj.cells #[.int .i64 44100, .int .i64 44100, .int .i64 48000, .int .i64 48000, .int .i64 8000, .int .i64 8000, .int .i64 32000, .int .i64 50000, .int .i64 96000, .int .i64 192000] 93)
   have hLb : SpB (wa.alloc (Obj.cells #[.int .i64 44100, .int .i64 44100, .int .i64 48000, .int .i64 48000, .int .i64 8000, .int .i64 8000, .int .i64 32000, .int .i64 50000, .int .i64 96000, .int .i64 192000] 93)) (Ge (g + 1)) (some ⟨wa.heap.size, 0, none⟩) ([(44100, 44100), (48000, 48000), (8000, 8000), (32000, 50000), (96000, 192000)] : List Sp) := ⟨hL, fun _ ad e => by injection e with e; subst e; show g + 1 ≤ wa.heap.size; omega⟩
   replace hD := hD.grows hq
   replace k0 := k0.grows hq
   replace k3 := k3.grows hq
   replace hO := d_only_grows hO hq
   have hsz := hq.size
   clear hq hL
   go_wp2_with fail
   refine (set_any B g _ 5 [(44100, 44100), (48000, 48000), (8000, 8000), (32000, 50000), (96000, 192000)] 1000 768000 _ hD hLb (by decide) (by decide) (by decide)).mono ?_
   rintro e wb ⟨⟨r, A1, c1, rfl, hcr, hlr, hr, hwr⟩, hDn, hq⟩
   have HWr := Lib.hid hwr
   replace hlr : r.length ≤ 5 := hlr
   replace hr : RdB wb (Ge (G3 + 1)) 2 A1 r.length (scells r) := RdB.mono hr (fun k hk => by unfold Ge at *; omega)
   clear hLb hwr
   replace hD := hDn
   replace k0 := k0.grown hq (by intro e; injection e; omega)
   replace k3 := k3.grown hq (by intro e; injection e; omega)
   replace hO := only_trans hO hq
   clear hq hDn
   have y3 := k3.cell
   have hf3 := k3.frozen
   replace k0 := k0.far (p := ⟨G3, 1, none⟩) (Nat.ne_of_lt l03) (.slice A1 r.length c1)
   replace k3 := k3.set_ 1 (.slice A1 r.length c1)
   replace hD := hD.put (p := ⟨G3, 1, none⟩) (Nat.le_trans hBg (Nat.le_of_lt (Nat.lt_trans hgl l03))) (Nat.ne_of_lt (Nat.lt_trans hgl l03)) (.slice A1 r.length c1)
   replace hO := only_set hO (p := ⟨G3, 1, none⟩) (Nat.le_of_lt l03) (.slice A1 r.length c1)
   replace hr := RdB.grown hr (d_only_set (World.grownBy.refl _ (some G3)) 1 (.slice A1 r.length c1)) (fun q e => by injection e with e; unfold Ge; omega)
   go_upto_region 7 with fail
   clear y3 hf3 hgw hsz
   generalize World.setCell wb _ _ = wc at *
   have hgw := k3.lt
   have hL := sps_lits wc [(16, 64), (64, 1024), (2048, 2048), (1, 65536)] #[.int .i64 16, .int .i64 64, .int .i64 64, .int .i64 1024, .int .i64 2048, .int .i64 2048, .int .i64 1, .int .i64 65536] 93 rfl
   have hq := (Below.refl wc.heap.size wc).alloc (Nat.le_refl _) (Obj.cells #[.int .i64 16, .int .i64 64, .int .i64 64, .int .i64 1024, .int .i64 2048, .int .i64 2048, .int .i64 1, .int .i64 65536] 93)
   have hLb : SpB (wc.alloc (Obj.cells #[.int .i64 16, .int .i64 64, .int .i64 64, .int .i64 1024, .int .i64 2048, .int .i64 2048, .int .i64 1, .int .i64 65536] 93)) (Ge (g + 1)) (some ⟨wc.heap.size, 0, none⟩) ([(16, 64), (64, 1024), (2048, 2048), (1, 65536)] : List Sp) := ⟨hL, fun _ ad e => by injection e with e; subst e; show g + 1 ≤ wc.heap.size; omega⟩
   replace hD := hD.grows hq
   replace k0 := k0.grows hq
   replace k3 := k3.grows hq
   replace hr := RdB.grows hr hq
   replace hO := d_only_grows hO hq
   have hsz := hq.size
   clear hq hL
   go_wp2_with fail
   refine (set_any B g _ 4 [(16, 64), (64, 1024), (2048, 2048), (1, 65536)] 1 65536 _ hD hLb (by decide) (by decide) (by decide)).mono ?_
   rintro e wb ⟨⟨s, A3, c3, rfl, hcs, hls, hs, hws⟩, hDn, hq⟩
   replace hls : s.length ≤ 4 := hls
   have HWs := Lib.hid hws
   replace hs : RdB wb (Ge (G3 + 1)) 2 A3 s.length (scells s) := RdB.mono hs (fun k hk => by unfold Ge at *; omega)
   replace hr := RdB.grown hr hq (fun q e => by injection e with e; unfold Ge; omega)
   clear hLb hws
   replace hD := hDn
   replace k0 := k0.grown hq (by intro e; injection e; omega)
   replace k3 := k3.grown hq (by intro e; injection e; omega)
   replace hO := only_trans hO hq
   clear hq hDn
   have y3 := k3.cell
   have hf3 := k3.frozen
   replace k0 := k0.far (p := ⟨G3, 3, none⟩) (Nat.ne_of_lt l03) (.slice A3 s.length c3)
   replace k3 := k3.set_ 3 (.slice A3 s.length c3)
   replace hD := hD.put (p := ⟨G3, 3, none⟩) (Nat.le_trans hBg (Nat.le_of_lt (Nat.lt_trans hgl l03))) (Nat.ne_of_lt (Nat.lt_trans hgl l03)) (.slice A3 s.length c3)
   replace hO := only_set hO (p := ⟨G3, 3, none⟩) (Nat.le_of_lt l03) (.slice A3 s.length c3)
   replace hr := RdB.grown hr (d_only_set (World.grownBy.refl _ (some G3)) 3 (.slice A3 s.length c3)) (fun q e => by injection e with e; unfold Ge; omega)
   replace hs := RdB.grown hs (d_only_set (World.grownBy.refl _ (some G3)) 3 (.slice A3 s.length c3)) (fun q e => by injection e with e; unfold Ge; omega)
   go_upto_region 8 with fail
   clear y3 hf3 hgw hsz
   generalize World.setCell wb _ _ = wd at *
   go_wp2_with fail
   refine (rolls_any B g 3 _ hD (by omega) (by omega)).mono ?_
   rintro e we ⟨⟨n1, rfl, n10, n11⟩, hDn, hq⟩
   replace hr := RdB.grown hr hq (fun q e => by injection e with e; unfold Ge; omega)
   replace hs := RdB.grown hs hq (fun q e => by injection e with e; unfold Ge; omega)
   replace hD := hDn
   replace k0 := k0.grown hq (by intro e; injection e; omega)
   replace k3 := k3.grown hq (by intro e; injection e; omega)
   replace hO := only_trans hO hq
   clear hq hDn
   obtain ⟨m1, rfl⟩ : ∃ m1 : Nat, n1 = (m1 : Int) := ⟨n1.toNat, by omega⟩
   have hw1 : IntKind.i64.wrap (1 + (m1 : Int)) = ((m1 + 1 : Nat) : Int) := by rw [IntWalk.i64_in _ (by omega)]; omega
   have k3b : Blk we G3 48 #[.int .i64 K, .slice A1 r.length c1, .slice none 0 0, .slice A3 s.length c3] := k3
   clear k3
   have hszG := k3b.lt
   replace hr : RdB we (Btw (G3 + 1) we.heap.size) 2 A1 r.length (scells r) := ⟨hr.1, fun hn ad e => ⟨hr.2 hn ad e, (RdB.under hr).2 hn ad e⟩⟩
   replace hs : RdB we (Btw (G3 + 1) we.heap.size) 2 A3 s.length (scells s) := ⟨hs.1, fun hn ad e => ⟨hs.2 hn ad e, (RdB.under hs).2 hn ad e⟩⟩
   obtain ⟨G9, hG9⟩ : ∃ G9, we.heap.size = G9 := ⟨_, rfl⟩
   have hsz9 : G9 ≤ we.heap.size := Nat.le_of_eq hG9.symm
   rw [hG9] at hszG hr hs
   clear hG9
   go_wp2_with fail
   go_loopw [5] (fun i wr => ∃ (n : Nat) (ms : List (List Int)) (v2 : Value), n ≤ m1 + 1 ∧ i = .int .i64 n ∧ Hid (∀ m ∈ ms, m ∈ mapsL) ∧ Hid ms.Nodup ∧ ms.length + n ≤ m1 + 1 ∧ (n < m1 + 1 → 0 < ms.length) ∧ G9 ≤ wr.heap.size ∧ OwnM wr G9 (G3 + 1) v2 ms ∧ RdB wr (Btw (G3 + 1) G9) 2 A1 r.length (scells r) ∧ RdB wr (Btw (G3 + 1) G9) 2 A3 s.length (scells s) ∧ Blk wr w.heap.size 48 #[.int .i64 0, .slice none 0 0, .slice none 0 0, .slice none 0 0] ∧ Blk wr G3 48 #[.int .i64 K, .slice A1 r.length c1, v2, .slice A3 s.length c3] ∧ DR wr B g ∧ w.grownBy wr (some g)) (fun i _ => (intOf i).toNat)
   case atStart => exact ⟨m1 + 1, [], .slice none 0 0, by omega, by first | rfl | go_num, Lib.hid (by simp), Lib.hid (by simp), by simp, fun h => by omega, hsz9, OwnM.nil, hr, hs, k0, k3b, hD, hO⟩
   case round =>
    clear k0 k3b hD hO hr hs hsz9
    obtain ⟨n, ms, v2, hn, rfl, HMS, HND, hlen, hne, hsz9, ho, hr, hs, k0, k3, hD, hO⟩ := hrel
    obtain ⟨A2, c2, e2, hc2, -⟩ := ho.read (by omega)
    subst e2
    have hgw := k3.lt
    by_cases hpos : 0 < n
    ·have d1 : decide ((0 : Int) < (n : Int)) = true := by simp only [decide_eq_true_eq]; omega
     have d2 : decide (0 < n) = true := by simp only [decide_eq_true_eq]; omega
     have hwn : IntKind.i64.wrap ((n : Int) - 1) = ((n - 1 : Nat) : Int) := by rw [IntWalk.i64_in _ (by omega)]; omega
     go_wp2_with fail
     refine (map_any B g _ hD).mono ?_
     rintro e wb ⟨⟨m, M, cm, rfl, hml, hcm, him⟩, hDn, hq⟩
     have hown := ho.lt
     have him0 := him
     replace him : InB wb (Ge (G3 + 1)) M m := RdB.mono him (fun k hk => by unfold Ge at *; omega)
     have hapart : Hid (∀ ad, M = some ad → 0 < m.length → (Value.slice A2 ms.length c2).ownBlock ≠ some ad.block) := Lib.hid (fun ad e hl e2 => by
      have h8 := (hown _ e2).2
      have h9 := him0.2 hl ad e
      unfold Ge at h9
      omega)
     clear him0 hown
     replace ho := ho.only hq (by omega) (by omega)
     replace hr := RdB.grown hr hq (fun q e => by injection e with e; unfold Btw; omega)
     replace hs := RdB.grown hs hq (fun q e => by injection e with e; unfold Btw; omega)
     replace hsz9 := Nat.le_trans hsz9 hq.size
     replace hD := hDn
     replace k0 := k0.grown hq (by intro e; injection e; omega)
     replace k3 := k3.grown hq (by intro e; injection e; omega)
     replace hO := only_trans hO hq
     clear hq hDn
     have HML := Lib.hid hml
     obtain ⟨hvm, hm0, hm8⟩ := mapsL_ok m hml
     have HVM := Lib.hid hvm
     clear hml hvm
     obtain ⟨A9, c9, e9, hc9, hmr⟩ := ho.read (by omega)
     injection e9 with e9 _ e10
     subst e9
     subst e10
     have x3 := k3.cell
     go_wp2_with fail
     go_loopw [7, 58] (fun t i wq => ∃ k : Nat, k ≤ ms.length ∧ i = .int .i64 k ∧ t = .bool ((ms.take k).any fun y => simM y m) ∧ Grows wb wq) (fun _ i _ => ms.length - (intOf i).toNat)
     case atStart => exact ⟨0, by omega, rfl, rfl, Below.refl _ _⟩
     case round =>
      obtain ⟨k, hk, rfl, rfl, hg⟩ := hrel
      by_cases hlt : k < ms.length
      ·obtain ⟨ad, y, C, cy, e1, had, hy, q0, hcy, hiy⟩ := (hmr.grows hg).elem hlt
       subst e1
       have hyl := mapsL_ok y (HMS.out y (List.mem_of_getElem? hy))
       obtain ⟨-, hy0, hy8⟩ := hyl
       have HS := Lib.hid (sim_next (m := m) hy)
       clear hy
       obtain ⟨ady, y0, e5, -, hyy, q5⟩ := hiy.ints.at_ hy0
       obtain ⟨adm, u0, e6, -, hmm, p0⟩ := (him.grows hg).ints.at_ hm0
       have hyh : y.headD 0 = y0 := by cases y with | nil => simp at hyy | cons a b => simpa using hyy
       have hmh : m.headD 0 = u0 := by cases m with | nil => simp at hmm | cons a b => simpa using hmm
       have ea : ady.add 0 = ady := by simp [Addr.add]
       have eb : adm.add 0 = adm := by simp [Addr.add]
       rw [ea] at q5
       rw [eb] at p0
       have HSV : Hid (simM y m = (decide (y.length = m.length) && decide (y0 = u0))) := Lib.hid (by unfold simM; rw [hyh, hmh])
       subst e5
       subst e6
       clear hyy hmm hyh hmh ea eb hiy
       go_upto_region 16 with fail
       cases hv : (ms.take k).any fun y => simM y m
       case true =>
        have HE : Hid ((ms.take (k + 1)).any (fun y => simM y m) = true) := Lib.hid (by rw [HS.out, hv]; rfl)
        clear hv HS HSV
        go_region
        have hq : Grows wr wr.drew := Grows.drew' _
        generalize wr.drew = w9 at *
        replace hg := below_grows hg (Nat.le_refl _) hq
        clear hq q0 p0 q5
        go_wp2
        go_roundw
        case rel => exact ⟨k + 1, by omega, by go_num, by rw [HE.out], hg⟩
        case measure => simp [intOf]; omega
       have HV := Lib.hid hv
       clear hv
       by_cases h1 : y.length = m.length
       case neg =>
        have HE : Hid ((ms.take (k + 1)).any (fun y => simM y m) = false) := Lib.hid (by rw [HS.out, HV.out, HSV.out, decide_eq_false h1]; rfl)
        have d5 : ((y.length : Int) == (m.length : Int)) = false := by simp only [beq_eq_false_iff_ne, ne_eq]; omega
        clear h1 HS HSV HV
        go_region
        have hq : Grows wr wr.drew := Grows.drew' _
        generalize wr.drew = w9 at *
        replace hg := below_grows hg (Nat.le_refl _) hq
        clear hq q0 p0 q5
        go_wp2
        go_roundw
        case rel => exact ⟨k + 1, by omega, by go_num, by rw [HE.out], hg⟩
        case measure => simp [intOf]; omega
       have d5 : ((y.length : Int) == (m.length : Int)) = true := by simp only [beq_iff_eq]; omega
       by_cases h2 : y0 = u0
       ·have HE : Hid ((ms.take (k + 1)).any (fun y => simM y m) = true) := Lib.hid (by rw [HS.out, HV.out, HSV.out, decide_eq_true h1, decide_eq_true h2]; rfl)
        have d6 : (y0 == u0) = true := by simpa using h2
        clear h1 h2 HS HSV HV
        go_region
        have hq : Grows wr wr.drew := Grows.drew' _
        generalize wr.drew = w9 at *
        replace hg := below_grows hg (Nat.le_refl _) hq
        clear hq q0 p0 q5
        go_wp2
        go_roundw
        case rel => exact ⟨k + 1, by omega, by go_num, by rw [HE.out], hg⟩
        case measure => simp [intOf]; omega
       ·have HE : Hid ((ms.take (k + 1)).any (fun y => simM y m) = false) := Lib.hid (by rw [HS.out, HV.out, HSV.out, decide_eq_true h1, decide_eq_false h2]; rfl)
        have d6 : (y0 == u0) = false := by simpa using h2
        clear h1 h2 HS HSV HV
        go_region
        have hq : Grows wr wr.drew := Grows.drew' _
        generalize wr.drew = w9 at *
        replace hg := below_grows hg (Nat.le_refl _) hq
        clear hq q0 p0 q5
        go_wp2
        go_roundw
        case rel => exact ⟨k + 1, by omega, by go_num, by rw [HE.out], hg⟩
        case measure => simp [intOf]; omega
      ·obtain rfl : k = ms.length := by omega
       rw [List.take_length]
       replace ho := ho.grows hg
       replace hr := RdB.grows hr hg
       replace hs := RdB.grows hs hg
       replace hD := hD.grows hg
       replace k0 := k0.grows hg
       replace k3 := k3.grows hg
       replace hO := d_only_grows hO hg
       replace hsz9 := Nat.le_trans hsz9 hg.size
       replace him := him.grows hg
       clear hg hmr
       cases hv : ms.any fun y => simM y m
       case true =>
        have hpl : 0 < ms.length := by
         obtain ⟨y, hy, -⟩ := List.any_eq_true.1 hv
         exact List.length_pos_of_mem hy
        clear hv
        go_wp2
        go_roundw
        case rel => exact ⟨n - 1, ms, _, by omega, by go_num, HMS, HND, by omega, fun _ => hpl, hsz9, ho, hr, hs, k0, k3, hD, hO⟩
        case measure => simp [intOf]; omega
       have hnm := sim_not hv
       have HMS2 : Hid (∀ y ∈ ms ++ [m], y ∈ mapsL) := Lib.hid (by
        intro y hy
        rcases List.mem_append.1 hy with hy | hy
        ·exact HMS.out y hy
        ·simp only [List.mem_singleton] at hy
         exact hy ▸ HML.out)
       have HND2 : Hid (ms ++ [m]).Nodup := Lib.hid (by
        rw [List.nodup_append]
        exact ⟨HND.out, by simp, fun a ha b hb e => by simp only [List.mem_singleton] at hb; subst hb; exact hnm (e ▸ ha)⟩)
       clear hv hnm
       have x3 := k3.cell
       go_upto_region 19 with fail
       refine wp_region_lit ?_
       iterate 4
        refine wpList_plain rfl (fun K hK => ?_)
        go_simp
        refine hK _ _ ?_
        clear hK K
       have hk9 := Blk.new wr 23 #[.slice M m.length cm]
       have hq := (Below.refl wr.heap.size wr).alloc (Nat.le_refl _) (Obj.cells #[.slice M m.length cm] 23)
       have hr9 : Reads (wr.alloc (Obj.cells #[.slice M m.length cm] 23)) (wr.alloc (Obj.cells #[.slice M m.length cm] 23)).heap.size 1 (some ⟨wr.heap.size, 0, none⟩) 1 [.slice M m.length cm] := ⟨rfl, fun _ => ⟨_, rfl, hk9.lt, fun j u hu => by rw [add_head, hk9.cell, ← Array.getElem?_toList]; exact hu⟩⟩
       replace ho := ho.grows hq
       replace hr := RdB.grows hr hq
       replace hs := RdB.grows hs hq
       replace hD := hD.grows hq
       replace k0 := k0.grows hq
       replace k3 := k3.grows hq
       replace hO := d_only_grows hO hq
       replace hsz9 := Nat.le_trans hsz9 hq.size
       replace him := him.grows hq
       clear hq hk9 x3
       refine wpList_append_map rfl (.tmp 83) (.tmp 85) rfl rfl ho rfl hr9 (by omega) hsz9 him hcm hapart.out ?_
       intro v5 w12 ho2 hgr
       have hob := ho.lt
       replace k0 := k0.grown hgr (fun e => by have := (hob _ e.symm).1; omega)
       replace k3 := k3.grown hgr (fun e => by have := (hob _ e.symm).1; omega)
       replace hD := hD.grown hgr (fun q e => by have := (hob q e).1; omega)
       replace hO := only_own hO hgr (fun q e => by have := (hob q e).1; omega)
       replace hr := RdB.grown hr hgr (fun q e => by have := (hob q e).1; unfold Btw; omega)
       replace hs := RdB.grown hs hgr (fun q e => by have := (hob q e).1; unfold Btw; omega)
       replace hsz9 := Nat.le_trans hsz9 hgr.size
       have hln : (ms ++ [m]).length = ms.length + 1 := by simp
       have hlen2 : (ms ++ [m]).length + (n - 1) ≤ m1 + 1 := by omega
       have hpl : 0 < (ms ++ [m]).length := by omega
       clear hob hgr hr9 ho him hln hlen
       generalize ms ++ [m] = ms2 at *
       obtain ⟨A7, c7, e7, hc7, -⟩ := ho2.read (by omega)
       subst e7
       have y3 := k3.cell
       have hf3 := k3.frozen
       have ho3 := ho2.only (d_only_set (World.grownBy.refl _ (some G3)) 2 (.slice A7 ms2.length c7)) (by omega) (by omega)
       have hsz10 : G9 ≤ (w12.setCell ⟨G3, 2, none⟩ (.slice A7 ms2.length c7)).heap.size := by simpa [World.setCell] using hsz9
       clear ho2
       replace k0 := k0.far (p := ⟨G3, 2, none⟩) (Nat.ne_of_lt l03) (.slice A7 ms2.length c7)
       replace k3 := k3.set_ 2 (.slice A7 ms2.length c7)
       replace hD := hD.put (p := ⟨G3, 2, none⟩) (Nat.le_trans hBg (Nat.le_of_lt (Nat.lt_trans hgl l03))) (Nat.ne_of_lt (Nat.lt_trans hgl l03)) (.slice A7 ms2.length c7)
       replace hO := only_set hO (p := ⟨G3, 2, none⟩) (Nat.le_of_lt l03) (.slice A7 ms2.length c7)
       replace hr := RdB.grown hr (d_only_set (World.grownBy.refl _ (some G3)) 2 (.slice A7 ms2.length c7)) (fun q e => by injection e with e; unfold Btw; omega)
       replace hs := RdB.grown hs (d_only_set (World.grownBy.refl _ (some G3)) 2 (.slice A7 ms2.length c7)) (fun q e => by injection e with e; unfold Btw; omega)
       go_wp2
       go_roundw
       case rel => exact ⟨n - 1, ms2, _, by omega, by go_num, HMS2, HND2, hlen2, fun _ => hpl, hsz10, ho3, hr, hs, k0, k3, hD, hO⟩
       case measure => simp [intOf]; omega
    ·obtain rfl : n = 0 := by omega
     obtain ⟨A9, c9, e9, hc9, hmr⟩ := ho.read (by omega)
     injection e9 with e9 _ e10
     subst e9
     subst e10
     have hml := hne (by omega)
     have d2 : decide ((0 : Int) < ((0 : Nat) : Int)) = false := by decide
     have x3 := k3.cell
     have x0 := k0.cell
     have hf0 := k0.frozen
     have y0 := ((((k0.set_ 0 (.int .i64 K)).set_ 1 (.slice A1 r.length c1)).set_ 2 (.slice A2 ms.length c2)).set_ 3 (.slice A3 s.length c3))
     have yD := ((((hD.put (p := ⟨w.heap.size, 0, none⟩) (Nat.le_trans hBg (Nat.le_of_lt hgl)) (Nat.ne_of_lt hgl) (.int .i64 K)).put (p := ⟨w.heap.size, 1, none⟩) (Nat.le_trans hBg (Nat.le_of_lt hgl)) (Nat.ne_of_lt hgl) (.slice A1 r.length c1)).put (p := ⟨w.heap.size, 2, none⟩) (Nat.le_trans hBg (Nat.le_of_lt hgl)) (Nat.ne_of_lt hgl) (.slice A2 ms.length c2)).put (p := ⟨w.heap.size, 3, none⟩) (Nat.le_trans hBg (Nat.le_of_lt hgl)) (Nat.ne_of_lt hgl) (.slice A3 s.length c3))
     have yO := (only_set (only_set (only_set (only_set hO (p := ⟨w.heap.size, 0, none⟩) (Nat.le_refl _) (.int .i64 K)) (p := ⟨w.heap.size, 1, none⟩) (Nat.le_refl _) (.slice A1 r.length c1)) (p := ⟨w.heap.size, 2, none⟩) (Nat.le_refl _) (.slice A2 ms.length c2)) (p := ⟨w.heap.size, 3, none⟩) (Nat.le_refl _) (.slice A3 s.length c3))
     have yR := RdB.mono (RdB.grown hr (d_only_set (d_only_set (d_only_set (d_only_set (World.grownBy.refl _ (some w.heap.size)) 0 (.int .i64 K)) 1 (.slice A1 r.length c1)) 2 (.slice A2 ms.length c2)) 3 (.slice A3 s.length c3)) (fun q e => by injection e with e; unfold Btw; omega)) (b2 := Ge w.heap.size) (fun k hk => by unfold Ge Btw at *; omega)
     have yS := RdB.mono (RdB.grown hs (d_only_set (d_only_set (d_only_set (d_only_set (World.grownBy.refl _ (some w.heap.size)) 0 (.int .i64 K)) 1 (.slice A1 r.length c1)) 2 (.slice A2 ms.length c2)) 3 (.slice A3 s.length c3)) (fun q e => by injection e with e; unfold Btw; omega)) (b2 := Ge w.heap.size) (fun k hk => by unfold Ge Btw at *; omega)
     have yM := MapsR.mono (MapsR.grown hmr (d_only_set (d_only_set (d_only_set (d_only_set (World.grownBy.refl _ (some w.heap.size)) 0 (.int .i64 K)) 1 (.slice A1 r.length c1)) 2 (.slice A2 ms.length c2)) 3 (.slice A3 s.length c3)) (fun q e => by injection e with e; unfold Ge; omega)) (b2 := Ge w.heap.size) (fun k hk => by unfold Ge at *; omega)
     have y6 := y0.cell
     have HFI : Hid (fineB ⟨K, r, ms, s⟩ = true) := Lib.hid (fineB_yes (kinds_of HK.out) HWr.out HWs.out (mapsOk_yes (by show 1 ≤ ms.length; omega) (by show ms.length ≤ 16; omega) (by unfold uniqOk; rw [decide_eq_true HND.out, Bool.and_true, List.all_eq_true]; exact fun m hm => (mapsL_ok m (HMS.out m hm)).1)))
     have HOK : Hid (OKB ⟨K, r, ms, s⟩) := Lib.hid ⟨by show r.length ≤ 1000000; omega, by show s.length ≤ 1000000; omega, by show ms.length ≤ 1000000; omega, fun x hx => by have := (mapsL_ok x (HMS.out x hx)).2.2; omega⟩
     have HFEW : Hid (Few ⟨K, r, ms, s⟩) := Lib.hid ⟨by show r.length ≤ 5; omega, by show s.length ≤ 5; omega⟩
     have HI64 : Hid (I64 K) := Lib.hid (by have := HK.out; unfold KP at this; unfold I64; omega)
     clear k0 k3 hD hO hr hs hmr ho
     go_wp2
     refine bodyPost_ret (v := .agg #[.int .i64 K, .slice A1 r.length c1, .slice A2 ms.length c2, .slice A3 s.length c3]) (by simp [results, Tryz.results74, go_sem, y6]) rfl ⟨⟨⟨K, r, ms, s⟩, _, rfl, ⟨A1, c1, A2, c2, A3, c3, rfl, yR, yM, yS, hcr, hc9, hcs⟩, HFI.out, HOK.out, HI64.out, HFEW.out⟩, yD, yO⟩
end Go.Proofs.YtnbdpnlepcjmmaaGreat

namespace Go.Proofs.YtnbdpnlepcjmmaaGreat
open Go.RowKit
def Ap (lo : Nat) (v : Value) : Nat → Prop := fun k => lo ≤ k ∧ v.ownBlock ≠ some k
section
variable {w w' : World} {ok : Nat → Prop} {size n : Nat} {A : Option Addr} {xs : List Value}
theorem RdB.band (h : RdB w ok size A n xs) : RdB w (fun k => ok k ∧ k < w.heap.size) size A n xs := ⟨h.1, fun hn ad e => ⟨h.2 hn ad e, h.under.2 hn ad e⟩⟩
theorem MapsR.band {m : List (List Int)} (h : MapsR w ok A m) : MapsR w (fun k => ok k ∧ k < w.heap.size) A m := by
 obtain ⟨vs, h1, h2⟩ := h
 exact ⟨vs, h1.band, fun i x hx => by obtain ⟨B, c, e, hc, hi⟩ := h2 i x hx; exact ⟨B, c, e, hc, RdB.band hi⟩⟩
end
section
variable {w w' : World} {ok : Nat → Prop} {b : Bx} {A1 A2 A3 : Option Addr} {c1 c2 c3 : Nat}
theorem BoxP.band (h : BoxP w ok b A1 c1 A2 c2 A3 c3) : BoxP w (fun k => ok k ∧ k < w.heap.size) b A1 c1 A2 c2 A3 c3 := ⟨RdB.band h.r, h.m.band, RdB.band h.s, h.cr, h.cm, h.cs⟩
end
theorem Bxs.band {w : World} {ok : Nat → Prop} {A : Option Addr} {l : List Bx} (h : Bxs w ok A l) : Bxs w (fun k => ok k ∧ k < w.heap.size) A l := by
 obtain ⟨vs, h1, h2⟩ := h
 exact ⟨vs, h1.band, fun i x hx => by obtain ⟨A1, c1, A2, c2, A3, c3, hp, hc⟩ := h2 i x hx; exact ⟨A1, c1, A2, c2, A3, c3, hp.band, hc⟩⟩
def OwnB (w : World) (base lo : Nat) (v : Value) (l : List Bx) : Prop :=
 ∃ vs, w.ownsRow base 48 4 v l.length vs ∧ ∀ (i : Nat) (b : Bx), l[i]? = some b → ∃ A1 c1 A2 c2 A3 c3, BoxP w (Ap lo v) b A1 c1 A2 c2 A3 c3 ∧ ∀ j < 4, vs[i * 4 + j]? = (b.cs A1 c1 A2 c2 A3 c3)[j]?
section
variable {w w' : World} {base lo g : Nat} {v : Value} {l : List Bx}
theorem OwnB.nil : OwnB w base lo (.slice none 0 0) [] := ⟨[], World.ownsRow_nil w base _ 4, fun i x h => by simp at h⟩
theorem OwnB.grows (h : OwnB w base lo v l) (hg : Grows w w') : OwnB w' base lo v l := by
 obtain ⟨vs, h1, h2⟩ := h
 exact ⟨vs, own_grows h1 hg, fun i x hx => by obtain ⟨A1, c1, A2, c2, A3, c3, hp, hc⟩ := h2 i x hx; exact ⟨A1, c1, A2, c2, A3, c3, hp.grows hg, hc⟩⟩
theorem OwnB.only (h : OwnB w base lo v l) (hg : w.grownBy w' (some g)) (hb : g < base) (hl : g < lo) : OwnB w' base lo v l := by
 obtain ⟨vs, h1, h2⟩ := h
 refine ⟨vs, World.ownsRow.kept h1 hg ?_, fun i x hx => by obtain ⟨A1, c1, A2, c2, A3, c3, hp, hc⟩ := h2 i x hx; exact ⟨A1, c1, A2, c2, A3, c3, hp.grown hg (fun q e hq => by injection e with e; unfold Ap at hq; omega), hc⟩⟩
 cases e : v.ownBlock with
 | none => exact .inl rfl
 | some q =>
  refine .inr fun e2 => ?_
  have := (World.ownsRow.lt h1 q e).1
  injection e2 with e2
  omega
theorem OwnB.lt (h : OwnB w base lo v l) : ∀ q, v.ownBlock = some q → base ≤ q ∧ q < w.heap.size := by
 obtain ⟨vs, h1, -⟩ := h
 exact World.ownsRow.lt h1
theorem OwnB.read (h : OwnB w base lo v l) (hb : lo ≤ base) : ∃ A c, v = .slice A l.length c ∧ l.length ≤ c ∧ Bxs w (Ge lo) A l := by
 obtain ⟨vs, h1, h2⟩ := h
 have h3 : ∀ (i : Nat) (b : Bx), l[i]? = some b → ∃ A1 c1 A2 c2 A3 c3, BoxP w (Ge lo) b A1 c1 A2 c2 A3 c3 ∧ ∀ j < 4, vs[i * 4 + j]? = (b.cs A1 c1 A2 c2 A3 c3)[j]? := fun i b hx => by
  obtain ⟨A1, c1, A2, c2, A3, c3, hp, hc⟩ := h2 i b hx
  exact ⟨A1, c1, A2, c2, A3, c3, hp.mono (fun k hk => hk.1), hc⟩
 rcases h1.2 with ⟨rfl, hn⟩ | ⟨q, cap, cur, rfl, hbq, hg, hnc, hm, hs, ht⟩
 ·have e := List.eq_nil_of_length_eq_zero hn
  subst e
  exact ⟨none, 0, rfl, Nat.le_refl _, Bxs.nil⟩
 ·refine ⟨_, cap, rfl, hnc, vs, ⟨Reads.of_own h1, fun _ ad e => ?_⟩, h3⟩
  injection e with e
  subst e
  exact Nat.le_trans hb hbq
end
set_option maxRecDepth 100000 in
theorem box_info : ∃ i : TypeInfo, Tryz.prog.info? 48 = some i ∧ i.size = 4 ∧ i.bytes = 80 ∧ i.zero = some (.agg #[.int .i64 0, .slice none 0 0, .slice none 0 0, .slice none 0 0]) ∧ (Value.agg #[.int .i64 0, .slice none 0 0, .slice none 0 0, .slice none 0 0]).cells.size = 4 := ⟨_, by first | exact Tryz.info48 | rfl, rfl, rfl, rfl, rfl⟩
theorem cs_one (b : Bx) (A1 : Option Addr) (c1 : Nat) (A2 : Option Addr) (c2 : Nat) (A3 : Option Addr) (c3 : Nat) : ∀ u ∈ b.cs A1 c1 A2 c2 A3 c3, u.oneCell' = true := by
 intro u hu
 simp only [Bx.cs, List.mem_cons, List.not_mem_nil, or_false] at hu
 rcases hu with rfl | rfl | rfl | rfl <;> rfl
theorem bxs_one {l : List Bx} {vs : List Value} (hl : vs.length = l.length * 4) (h : ∀ (i : Nat) (b : Bx), l[i]? = some b → ∃ A1 c1 A2 c2 A3 c3, ∀ j < 4, vs[i * 4 + j]? = (b.cs A1 c1 A2 c2 A3 c3)[j]?) : ∀ u ∈ vs, u.oneCell' = true := by
 intro u hu
 obtain ⟨k, hk, e⟩ := List.mem_iff_getElem.1 hu
 have hi : k / 4 < l.length := by omega
 obtain ⟨A1, c1, A2, c2, A3, c3, hc⟩ := h (k / 4) _ (List.getElem?_eq_getElem hi)
 have h2 := hc (k % 4) (Nat.mod_lt _ (by omega))
 rw [show k / 4 * 4 + k % 4 = k by omega, List.getElem?_eq_getElem hk, e] at h2
 exact cs_one _ A1 c1 A2 c2 A3 c3 u (List.mem_of_getElem? h2.symm)
theorem wpList_append_boxes {ops : Array Oper} {rest : List Oper} {o : Oper} {a : Act} {w : World} {Q : Exit → Act → World → Prop} (hgd : o.guard = none) (s x : Operand) (ho : o.op = .call { callee := .builtin .append, args := #[s, x], argTypes := #[22, 22] })
 {base lo : Nat} {v : Value} {l m : List Bx} {A : Option Addr} {c n : Nat} (hn : n = m.length) (hs : a.eval s = v) (hown : OwnB w base lo v l) (hx : a.eval x = .slice A n c) (hr : Bxs w (Ap lo v) A m) (hlen : l.length + m.length ≤ 1000000) (hbase : base ≤ w.heap.size)
 (h : ∀ v' w', OwnB w' base lo v' (l ++ m) → w.grownBy w' v.ownBlock → (v'.ownBlock = v.ownBlock ∨ v'.ownBlock = some w.heap.size) → wpList Tryz.prog ops Q rest (a.put o.dst v') w') : wpList Tryz.prog ops Q (o :: rest) a w := by
 obtain ⟨i0, hi0, hi1, hi2, hi3, hi4⟩ := box_info
 obtain ⟨vs, h1, h2⟩ := hown
 obtain ⟨us, r1, r2⟩ := hr
 subst hn
 have hul := r1.1.1
 have hvl := h1.1
 refine wpList_append_any w hgd s x 22 ho base 48 i0 _ 4 80 Tryz.underlying22 hi0 hi3 hi1 hi2 hi4 (by omega) v l.length vs hs h1 w.heap.size A m.length c us hx r1.1 (bxs_one hul fun i b hb => by obtain ⟨A1, c1, A2, c2, A3, c3, _, hc⟩ := r2 i b hb; exact ⟨A1, c1, A2, c2, A3, c3, hc⟩) (by simp only [maxLen]; omega) (by omega) hbase fun v' w' h3 h4 h5 => h v' w' ⟨vs ++ us, by rw [List.length_append]; exact h3, fun i b hb => ?_⟩ h4 h5
 have hto : ∀ (b : Bx) (A1 : Option Addr) (c1 : Nat) (A2 : Option Addr) (c2 : Nat) (A3 : Option Addr) (c3 : Nat), BoxP w (Ap lo v) b A1 c1 A2 c2 A3 c3 → BoxP w' (Ap lo v') b A1 c1 A2 c2 A3 c3 := by
  intro b A1 c1 A2 c2 A3 c3 hp
  refine (hp.band.grown h4 (fun q e hq => hq.1.2 e)).mono fun k hk => ⟨hk.1.1, fun e => ?_⟩
  rcases h5 with h5 | h5
  ·exact hk.1.2 (h5 ▸ e)
  ·rw [h5] at e
   injection e with e
   have := hk.2
   omega
 by_cases hi : i < l.length
 ·rw [List.getElem?_append_left hi] at hb
  obtain ⟨A1, c1, A2, c2, A3, c3, hp, hc⟩ := h2 i b hb
  exact ⟨A1, c1, A2, c2, A3, c3, hto _ _ _ _ _ _ _ hp, fun j hj => by rw [List.getElem?_append_left (by omega)]; exact hc j hj⟩
 ·rw [List.getElem?_append_right (by omega)] at hb
  obtain ⟨A1, c1, A2, c2, A3, c3, hp, hc⟩ := r2 _ b hb
  exact ⟨A1, c1, A2, c2, A3, c3, hto _ _ _ _ _ _ _ hp, fun j hj => by rw [List.getElem?_append_right (by omega), show i * 4 + j - vs.length = (i - l.length) * 4 + j by omega]; exact hc j hj⟩
/-- A list with one box, laid by a literal. -/
theorem bxs_lit {w : World} {ok : Nat → Prop} {b : Bx} {A1 A2 A3 : Option Addr} {c1 c2 c3 : Nat} (hp : BoxP w ok b A1 c1 A2 c2 A3 c3) (hw : ok w.heap.size) : Bxs (w.alloc (.cells #[.int .i64 b.k, .slice A1 b.r.length c1, .slice A2 b.m.length c2, .slice A3 b.s.length c3] 48)) ok (some ⟨w.heap.size, 0, none⟩) [b] := by
 have hk := Blk.new w 48 #[.int .i64 b.k, .slice A1 b.r.length c1, .slice A2 b.m.length c2, .slice A3 b.s.length c3]
 have hq := (Below.refl w.heap.size w).alloc (Nat.le_refl _) (Obj.cells #[.int .i64 b.k, .slice A1 b.r.length c1, .slice A2 b.m.length c2, .slice A3 b.s.length c3] 48)
 refine ⟨b.cs A1 c1 A2 c2 A3 c3, ⟨⟨rfl, fun _ => ⟨_, rfl, hk.lt, fun j u hu => ?_⟩⟩, fun _ ad e => by injection e with e; subst e; exact hw⟩, fun i x hx => ?_⟩
 ·rw [add_head, hk.cell, ← Array.getElem?_toList]
  exact hu
 ·have hi0 : i = 0 := by
   have := (List.getElem?_eq_some_iff.1 hx).1
   simp only [List.length_singleton] at this
   omega
  subst hi0
  simp only [List.getElem?_cons_zero, Option.some.injEq] at hx
  subst hx
  exact ⟨A1, c1, A2, c2, A3, c3, hp.grows hq, fun j hj => by rw [Nat.zero_mul, Nat.zero_add]⟩
/-- Boxes that the maker makes. -/
def Fine (l : List Bx) : Prop := ∀ b ∈ l, fineB b = true ∧ OKB b ∧ I64 b.k ∧ Few b
theorem fine_nil : Fine [] := fun b hb => by cases hb
theorem fine_app {l m : List Bx} (h : Fine l) (h2 : Fine m) : Fine (l ++ m) := fun b hb => (List.mem_append.1 hb).elim (h b) (h2 b)
set_option maxHeartbeats 8000000 in
theorem boxes_any (B g least most : Nat) (w : World) (h : DR w B g) (hlm : least ≤ most) (hm : most ≤ 100) : Calls Tryz.prog 35 #[.pointer (some ⟨g, 0, none⟩), .int .i64 (least : Int), .int .i64 (most : Int)] w fun e w' => (∃ l v, e = .returned v ∧ OwnB w' w.heap.size w.heap.size v l ∧ Fine l ∧ least ≤ l.length ∧ l.length ≤ most) ∧ DR w' B g ∧ w.grownBy w' (some g) := by
 have hgl := h.lt
 have hw1 : IntKind.i64.wrap ((most : Int) - (least : Int)) = (most : Int) - (least : Int) := IntWalk.i64_in _ (by omega)
 have hw2 : IntKind.i64.wrap ((most : Int) - (least : Int) + 1) = (most : Int) - (least : Int) + 1 := IntWalk.i64_in _ (by omega)
 go_enter Tryz.func35, Tryz.ntmps35
 go_wp2_with fail
 refine (rolls_any B g ((most : Int) - (least : Int) + 1) _ h (by omega) (by omega)).mono ?_
 rintro e w1 ⟨⟨r, rfl, r0, r1⟩, hD, hO⟩
 obtain ⟨n0, hn0⟩ : ∃ n0 : Nat, (least : Int) + r = (n0 : Int) := ⟨((least : Int) + r).toNat, by omega⟩
 have hw3 : IntKind.i64.wrap ((least : Int) + r) = (n0 : Int) := by rw [IntWalk.i64_in _ (by omega)]; exact hn0
 have hn1 : least ≤ n0 ∧ n0 ≤ most := by omega
 clear hn0 h hw1 hw2
 have hsz := hO.size
 go_wp2_with fail
 go_loopw [7, 8] (fun v i wr => ∃ (n : Nat) (l : List Bx), n ≤ n0 ∧ i = .int .i64 n ∧ l.length + n = n0 ∧ Hid (Fine l) ∧ OwnB wr w.heap.size w.heap.size v l ∧ DR wr B g ∧ w.grownBy wr (some g)) (fun _ i _ => (intOf i).toNat)
 case atStart => exact ⟨n0, [], by omega, rfl, by simp, Lib.hid fine_nil, OwnB.nil, hD, hO⟩
 case round =>
  clear hD hO hsz
  obtain ⟨n, l, hn, rfl, hln, HF, ho, hD, hO⟩ := hrel
  have hsz := hO.size
  by_cases hpos : 0 < n
  ·have d1 : decide ((0 : Int) < (n : Int)) = true := by simp only [decide_eq_true_eq]; omega
   have d2 : decide (0 < n) = true := by simp only [decide_eq_true_eq]; omega
   have hwn : IntKind.i64.wrap ((n : Int) - 1) = ((n - 1 : Nat) : Int) := by rw [IntWalk.i64_in _ (by omega)]; omega
   go_upto_region 5 with fail
   refine wp_region_lit ?_
   iterate 2
    refine wpList_plain rfl (fun K hK => ?_)
    go_simp
    refine hK _ _ ?_
    clear hK K
   refine wpList_plain rfl (fun K hK => ?_)
   go_simp
   have hown := ho.lt
   refine (box_any B g _ hD).mono ?_
   rintro e wb ⟨⟨b, v2, rfl, ⟨A1, c1, A2, c2, A3, c3, rfl, hp⟩, hfb, hob, hib⟩, hDn, hq⟩
   have HFB : Hid (Fine [b]) := Lib.hid fun x hx => by simp only [List.mem_singleton] at hx; subst hx; exact ⟨hfb, hob, hib⟩
   clear hfb hob hib
   refine hK _ _ ?_
   clear hK K
   replace hp : BoxP wb (Ap w.heap.size _) b A1 c1 A2 c2 A3 c3 := hp.mono fun k hk => ⟨by unfold Ge at hk; omega, fun e => by have := (hown _ e).2; unfold Ge at hk; omega⟩
   replace ho := ho.only hq (by omega) (by omega)
   replace hO := only_trans hO hq
   replace hsz := Nat.le_trans hsz hq.size
   replace hown : ∀ q, _ = some q → w.heap.size ≤ q ∧ q < wb.heap.size := ho.lt
   clear hD hq
   refine wpList_plain rfl (fun K hK => ?_)
   go_simp
   refine hK _ _ ?_
   clear hK K
   have hL := bxs_lit hp ⟨hsz, fun e => by have := (hown _ e).2; omega⟩
   have hq := (Below.refl wb.heap.size wb).alloc (Nat.le_refl _) (Obj.cells #[.int .i64 b.k, .slice A1 b.r.length c1, .slice A2 b.m.length c2, .slice A3 b.s.length c3] 48)
   replace ho := ho.grows hq
   replace hDn := hDn.grows hq
   replace hO := d_only_grows hO hq
   replace hsz := Nat.le_trans hsz hq.size
   replace hown := ho.lt
   clear hq hp
   refine wpList_append_boxes rfl (.tmp 21) (.tmp 24) rfl (m := [b]) rfl rfl ho rfl hL (by simp only [List.length_singleton]; omega) hsz ?_
   intro v5 w12 ho2 hgr _
   replace hDn := hDn.grown hgr (fun q e => by have := (hown q e).1; omega)
   replace hO := only_own hO hgr (fun q e => (hown q e).1)
   have HF2 := Lib.hid (fine_app HF.out HFB.out)
   have hl2 : (l ++ [b]).length + (n - 1) = n0 := by rw [List.length_append, List.length_singleton]; omega
   clear hown hgr ho hL hsz HFB HF
   generalize l ++ [b] = l2 at *
   go_wp2
   go_roundw
   case rel => exact ⟨n - 1, l2, by omega, by go_num, hl2, HF2, ho2, hDn, hO⟩
   case measure => simp [intOf]; omega
  ·obtain rfl : n = 0 := by omega
   have d2 : decide ((0 : Int) < ((0 : Nat) : Int)) = false := by decide
   go_wp2
   go_ret
   exact ⟨⟨l, _, rfl, ho, HF.out, by omega, by omega⟩, hD, hO⟩
end Go.Proofs.YtnbdpnlepcjmmaaGreat

namespace Go.Proofs.YtnbdpnlepcjmmaaGreat
open Go.RowKit
def mixBW (md : Region.Mode) (ops : Array Oper) (n N : Nat) (ks : List Nat) : Bool :=
 Region.noSelect ops && decide (n ≤ ops.size) && decide ks.Nodup && ks.all (fun k => decide (k < n) && ((ops[k]?).bind (·.dst)).isSome) &&
 (decide (n = ops.size) || (decide (n < ops.size) && Region.sinkB md ops n && Region.chainB md ops n)) &&
 Region.seqB md ops (ops.size - n) n ((Array.replicate n true) ++ (Array.replicate (ops.size - n) false)) &&
 (List.range n).all (fun i => match ops[i]? with
   | none => false
   | some o => (match o.dst with | none => true | some t => decide (t < N)) && o.after.all (fun e => !Region.binds md e || decide (e.on < i)) &&
    (List.range n).all (fun k => (k == i || match o.dst with | none => true | some t => !((ops[k]?).bind (·.dst) == some t)) &&
      (match (ops[k]?).bind (·.dst) with
       | none => true
       | some t => !(o.looksAt ops).contains t || (decide (k < i) && !ks.contains k && Region.waitsFor md ops i k) || (decide (i < k) && Region.waitsFor md ops k i))))
structure MixOkW (md : Region.Mode) (ops : Array Oper) (n N : Nat) (ks : List Nat) : Prop where
 sel : Region.noSelect ops = true
 le : n ≤ ops.size
 nd : ks.Nodup
 fl : ∀ k ∈ ks, k < n ∧ ∃ t, (ops[k]?).bind (·.dst) = some t
 tail : n = ops.size ∨ (n < ops.size ∧ Region.sinkB md ops n = true ∧ Region.chainB md ops n = true)
 seq : Region.seqB md ops (ops.size - n) n ((Array.replicate n true) ++ (Array.replicate (ops.size - n) false)) = true
 bd : ∀ i o t, i < n → ops[i]? = some o → o.dst = some t → t < N
 back : ∀ i o, i < n → ops[i]? = some o → ∀ e ∈ o.after, Region.binds md e = true → e.on < i
 ne : ∀ i o k o' t, i < n → k < n → ops[i]? = some o → ops[k]? = some o' → k ≠ i → o.dst = some t → o'.dst ≠ some t
 look : ∀ i o k o' t, i < n → k < n → ops[i]? = some o → ops[k]? = some o' → o'.dst = some t → t ∈ o.looksAt ops → (k < i ∧ k ∉ ks ∧ Region.waitsFor md ops i k = true) ∨ (i < k ∧ Region.waitsFor md ops k i = true)
set_option maxRecDepth 100000 in
theorem mixOkW_of {md : Region.Mode} {ops : Array Oper} {n N : Nat} {ks : List Nat} (h : mixBW md ops n N ks = true) : MixOkW md ops n N ks := by
 simp only [mixBW, Bool.and_eq_true, decide_eq_true_eq, List.all_eq_true, Bool.or_eq_true, List.mem_range] at h
 obtain ⟨⟨⟨⟨⟨⟨h1, h2⟩, h3⟩, h4⟩, h5⟩, h6⟩, h7⟩ := h
 have H : ∀ i o, i < n → ops[i]? = some o → _ := fun i o hi ho => by
  have := h7 i hi
  rw [ho] at this
  exact this
 refine ⟨h1, h2, h3, fun k hk => ⟨(h4 k hk).1, Option.isSome_iff_exists.1 (h4 k hk).2⟩, ?_, h6, ?_, ?_, ?_, ?_⟩
 ·rcases h5 with h5 | h5
  ·exact .inl h5
  ·exact .inr ⟨h5.1.1, h5.1.2, h5.2⟩
 ·intro i o t hi ho hd
  have := (H i o hi ho)
  simp only [Bool.and_eq_true, hd, decide_eq_true_eq] at this
  exact this.1.1
 ·intro i o hi ho e he hb
  have := (H i o hi ho)
  simp only [Bool.and_eq_true] at this
  have h8 := Array.all_eq_true_iff_forall_mem.1 this.1.2 e he
  simpa [hb] using h8
 ·intro i o k o' t hi hk ho ho' hne hd
  have := (H i o hi ho)
  simp only [Bool.and_eq_true, List.all_eq_true, List.mem_range] at this
  have h8 := (this.2 k hk).1
  simp only [ho', Option.bind_some, hd, Bool.or_eq_true, beq_iff_eq, hne, false_or, Bool.not_eq_true', beq_eq_false_iff_ne] at h8
  exact h8
 ·intro i o k o' t hi hk ho ho' hd ht
  have := (H i o hi ho)
  simp only [Bool.and_eq_true, List.all_eq_true, List.mem_range] at this
  have h8 := (this.2 k hk).2
  have hc : (o.looksAt ops).contains t = true := by simpa using ht
  simp only [ho', Option.bind_some, hd, hc, Bool.not_true, Bool.false_or, Bool.and_eq_true, decide_eq_true_eq, Bool.not_eq_true', List.contains_eq_mem, decide_eq_false_iff_not, Bool.or_eq_true] at h8
  exact h8.imp (fun h => ⟨h.1.1, h.1.2, h.2⟩) id
section
variable {P : Program} {ops : Array Oper} {S : Ran → (Nat → Value) → World → Prop} {md : Region.Mode} {n N : Nat} {a0 : Act}
set_option maxRecDepth 100000 in
theorem genw_agree (ok : MixOkW md ops n N []) (hN : a0.tmps.size = N) {vs : Nat → Value} {listed : Array Bool} {a : Act} {w : World} (hinv : HeadInv md ops n listed) (inv : InvG S ops vs a0 listed a w) {i : Nat} {o : Oper} (hi : i < n) (ho : ops[i]? = some o) (hr : i ∈ Region.ready md ops listed) :
 ∀ t ∈ o.looksAt ops, (fin [] vs (ops.toList.take i) 0 a0).tmps[t]? = a.tmps[t]? := by
 intro t ht
 by_cases hex : ∃ (k : Nat) (o' : Oper), k < n ∧ ops[k]? = some o' ∧ o'.dst = some t
 ·obtain ⟨k, o', hk, ho', hd⟩ := hex
  rcases ok.look i o k o' t hi hk ho ho' hd ht with ⟨h1, _, h3⟩ | ⟨h1, h3⟩
  case inr =>
   have hun : ∀ k2 o2, ops[k2]? = some o2 → listed.getD k2 false = true → o2.dst ≠ some t := by
    intro k2 o2 ho2 hl2 hd2
    by_cases e : k2 = k
    ·subst e
     obtain ⟨oj, hoj, e, he, hb, hon⟩ := Region.waitsFor_spec h3
     have hcl := hinv.closed k2 oj hoj hl2 e he hb
     rw [hon] at hcl
     have := getD_both (mem_ready.1 hr).1
     rw [hcl] at this
     cases this
    ·exact ok.ne k2 o2 k o' t (listed_lt hinv ho2 hl2) hk ho2 ho' (Ne.symm e) hd2 hd
   have e1 := inv.other t hun
   have e2 := fin_other (fl := []) (val := vs) (ops.toList.take i) 0 a0 fun j oj hj _ hd2 => by
    obtain ⟨hji, hoj⟩ := of_take_get hj
    exact ok.ne j oj k o' t (by omega) hk hoj ho' (by omega) hd2 hd
   rw [e1, e2]
  have hlisted : listed.getD k false = true := by
   obtain ⟨oj, hoj, e, he, hb, hon⟩ := Region.waitsFor_spec h3
   obtain ⟨_, oi, hoi, hall⟩ := mem_ready.1 hr
   have : oj = oi := Option.some.inj (hoj.symm.trans hoi)
   subst this
   have := hall e he hb
   rwa [hon] at this
  have e1 := inv.calm k o' t ho' hd hlisted
  have hlt : t < a0.tmps.size := by rw [hN]; exact ok.bd k o' t hk ho' hd
  have e2 := fin_at (fl := []) (val := vs) (ops.toList.take i) 0 a0 k o' (take_get h1 ho') hd rfl hlt (by
   intro j oj hj hne hdj
   obtain ⟨hji, hoj⟩ := of_take_get hj
   exact ok.ne j oj k o' t (by omega) hk hoj ho' (Ne.symm hne) hdj hd)
  rw [Nat.zero_add] at e2
  rw [e1, e2]
 ·have e1 := inv.other t fun k o' ho' hl hd => hex ⟨k, o', listed_lt hinv ho' hl, ho', hd⟩
  have e2 := fin_other (fl := []) (val := vs) (ops.toList.take i) 0 a0 fun j oj hj _ hd => by
   obtain ⟨hji, hoj⟩ := of_take_get hj
   exact hex ⟨j, oj, by omega, hoj, hd⟩
  rw [e1, e2]
set_option maxRecDepth 100000 in
theorem inv_stepW (ok : MixOkW md ops n N []) (hN : a0.tmps.size = N) {vs : Nat → Value} {listed : Array Bool} {a : Act} {w w' : World} (hinv : HeadInv md ops n listed) (inv : InvG S ops vs a0 listed a w) {i : Nat} {o : Oper} (hi : i < n) (ho : ops[i]? = some o) (hl : i < listed.size) {u : Value}
 (hs : S (ranOf (listed.setIfInBounds i true)) (setV vs i u) w') : InvG S ops (setV vs i u) a0 (listed.setIfInBounds i true) (a.put o.dst u) w' := by
 have key : ∀ k o' t, k < n → ops[k]? = some o' → o'.dst = some t → k ≠ i → (a.put o.dst u).tmps[t]? = a.tmps[t]? := by
  intro k o' t hk ho' hd hne
  exact put_get_ne fun e => ok.ne i o k o' t hi hk ho ho' hne e hd
 refine ⟨hs, (put_defers' _ _ _).trans inv.defers, (put_size _ _ _).trans inv.size, ?_, ?_⟩
 ·intro k o' t ho' hd hlk
  by_cases hki : k = i
  ·subst hki
   have : o' = o := Option.some.inj (ho'.symm.trans ho)
   subst this
   rw [hd, put_get_eq (by rw [inv.size, hN]; exact ok.bd k o' t hi ho' hd)]
   simp [setV]
  ·have hlk' : listed.getD k false = true := by rwa [getD_set_ne false (Ne.symm hki)] at hlk
   rw [key k o' t (listed_lt hinv ho' hlk') ho' hd hki, inv.calm k o' t ho' hd hlk']
   simp [setV, hki]
 ·intro t ht
  have h1 : o.dst ≠ some t := ht i o ho (by simp [hl])
  rw [put_get_ne h1]
  exact inv.other t fun k o' ho' hlk => ht k o' ho' (getD_set_true hlk)
set_option maxRecDepth 100000 in
theorem genw_run {Q : Exit → Act → World → Prop} (ok : MixOkW md ops n N []) (hN : a0.tmps.size = N)
 (good : ∀ k o, k < n → ops[k]? = some o → ∀ vs L w, At md ops k L → S L vs w → GenOp P ops S k o (fin [] vs (ops.toList.take k) 0 a0) vs L w) (g : Nat)
 (H : ∀ listed a w vs, HeadInv md ops n listed → (∀ i, i < n → listed.getD i false = true) → InvG S ops vs a0 listed a w → wpAny P md ops Q g listed a w) :
 ∀ (f : Nat) (listed : Array Bool) (a : Act) (w : World) (vs : Nat → Value), ((List.range n).countP fun i => !listed.getD i false) ≤ f → HeadInv md ops n listed → InvG S ops vs a0 listed a w →
  wpAny P md ops Q (f + g) listed a w := by
 intro f
 induction f with
 | zero =>
  intro listed a w vs hc hinv inv
  rw [Nat.zero_add]
  refine H listed a w vs hinv (fun i hi => ?_) inv
  have h0 : ((List.range n).countP fun i => !listed.getD i false) = 0 := by omega
  rw [List.countP_eq_zero] at h0
  have := h0 i (List.mem_range.2 hi)
  simpa using this
 | succ f ih =>
  intro listed a w vs hc hinv inv
  by_cases hall : ∀ i, i < n → listed.getD i false = true
  ·exact wpAny_fuel g listed a w (H listed a w vs hinv hall inv) (f + 1)
  ·have hex : ∃ i, i < n ∧ listed.getD i false = false := by
    apply Classical.byContradiction
    intro hno
    exact hall fun i hi => by
     cases h : listed.getD i false
     ·exact absurd ⟨i, hi, h⟩ hno
     ·rfl
   obtain ⟨i0, hi0, hl0⟩ := hex
   have hsz : ∀ i, i < n → i < listed.size := fun i hi => by rw [hinv.size]; have := ok.le; omega
   have hready : Region.ready md ops listed ≠ [] := by
    have : ∀ d i, i ≤ d → i < n → listed.getD i false = false → ∃ j, j ∈ Region.ready md ops listed := by
     intro d
     induction d with
     | zero =>
      intro i hid hi hl
      obtain ⟨o, ho⟩ : ∃ o, ops[i]? = some o := ⟨ops[i]'(by have := ok.le; omega), by simp [show i < ops.size by have := ok.le; omega]⟩
      refine ⟨i, mem_ready.2 ⟨getD_in (hsz i hi) hl, o, ho, fun e he hb => ?_⟩⟩
      have := ok.back i o hi ho e he hb
      omega
     | succ d ihd =>
      intro i hid hi hl
      obtain ⟨o, ho⟩ : ∃ o, ops[i]? = some o := ⟨ops[i]'(by have := ok.le; omega), by simp [show i < ops.size by have := ok.le; omega]⟩
      by_cases hw : ∀ e ∈ o.after, Region.binds md e = true → listed.getD e.on false = true
      ·exact ⟨i, mem_ready.2 ⟨getD_in (hsz i hi) hl, o, ho, hw⟩⟩
      ·have : ∃ e ∈ o.after, Region.binds md e = true ∧ listed.getD e.on false = false := by
        apply Classical.byContradiction
        intro hno
        exact hw fun e he hb => by
         cases h : listed.getD e.on false
         ·exact absurd ⟨e, he, hb, h⟩ hno
         ·rfl
       obtain ⟨e, he, hb, hle⟩ := this
       have hlt := ok.back i o hi ho e he hb
       exact ihd e.on (by omega) (by omega) hle
    obtain ⟨j, hj⟩ := this i0 i0 (Nat.le_refl _) hi0 hl0
    intro h0
    rw [h0] at hj
    cases hj
   rw [show f + 1 + g = (f + g) + 1 by omega]
   refine ⟨fun h0 => absurd h0 hready, fun i hir => ?_⟩
   have hin : i < n := by
    rcases Nat.lt_or_ge i n with h | h
    ·exact h
    ·exfalso
     obtain ⟨_, oi, hoi, _⟩ := mem_ready.1 hir
     have hlt : i < ops.size := (Array.getElem?_eq_some_iff.1 hoi).1
     rcases ok.tail with ht | ⟨ht, hs, hch⟩
     ·omega
     ·exact tail_waits hs hch ht hinv _ i0 rfl hi0 (getD_in (hsz i0 hi0) hl0) i h hir
   obtain ⟨hun, o, ho, hwaits⟩ := mem_ready.1 hir
   have hunf : listed.getD i false = false := getD_both hun
   have hcnt : ((List.range n).countP fun j => !(listed.setIfInBounds i true).getD j false) ≤ f := by
    have := countP_lt (p := fun j => !listed.getD j false) (q := fun j => !(listed.setIfInBounds i true).getD j false) (List.range n) (List.mem_range.2 hin)
     (fun j _ hj => by
       simp only [Bool.not_eq_true'] at hj ⊢
       cases h : listed.getD j false
       ·rfl
       ·rw [getD_set_true h] at hj; cases hj) (by simp only [hunf, Bool.not_false]) (by simp [hsz i hin])
    omega
   have hinv' := hinv.set hir hin
   have hat : At md ops i (ranOf listed) := ⟨hunf, needs_ran hinv _ i o ho hwaits⟩
   have hag := genw_agree ok hN hinv inv hin ho hir
   have hg := good i o hin ho vs (ranOf listed) w hat inv.s
   have hs : ∀ cs b, o.op ≠ .select cs b := fun cs b => Region.noSelect_spec ok.sel i o cs b ho
   unfold GenOp at hg
   rw [run_agree (ops := ops) hs hag, wanted_agree hag] at hg
   refine gen_wpOp ho hg fun u w' hs' => ih _ _ _ _ hcnt hinv' (inv_stepW ok hN hinv inv hin ho (hsz i hin) ?_)
   rw [ranOf_set (hsz i hin)]
   exact hs'
end
set_option maxRecDepth 100000 in
theorem wp_region_genV {P : Program} {id : Nat} {Q : Exit → Act → World → Prop} {a : Act} {w : World} {l : List Oper} (S : Ran → (Nat → Value) → World → Prop) (n N : Nat) (hm : P.follows .mixedOrders = true) (hB : mixBW .any l.toArray n N [] = true)
 (hN : a.tmps.size = N) (h0 : S (fun _ => false) (fun _ => undef) w.drew)
 (h : GenT P l n S (fun a' w' => wpList P l.toArray Q (l.drop n) a' w') (l.take n) 0 (fun _ => a)) : (Code.region id l.toArray true).wp P Q a w := by
 have ok := mixOkW_of hB
 have hle : n ≤ l.length := by simpa using ok.le
 obtain ⟨h1, h2⟩ := genT_out (l.take n) 0 _ h
 refine wp_region_any hm ?_
 have inv0 : HeadInv .any l.toArray n (Array.replicate l.toArray.size false) :=
  ⟨by simp, fun j oj _ hl => (by rw [getD_replicate_false] at hl; cases hl), fun t _ ht => getD_in (by simpa using ht) (getD_replicate_false _ _)⟩
 have key := genw_run (md := .any) (Q := Q) (ops := l.toArray) (S := S) (a0 := a) ok hN (fun k o hk ho vs L w' hL hS => by
  have := h1 k o (by rw [List.getElem?_take, if_pos hk]; simpa using ho) vs L w'
  rw [Nat.zero_add, List.take_take, Nat.min_eq_left (by omega)] at this
  exact this hL hS) (l.length - n) (by
  intro listed b w' vs hinv hall inv
  refine (show l.length - n = (l.drop n).length by simp) ▸ wpAny_of_seq (l.drop n) n listed b w' (fun j => by simp [List.getElem?_drop]) ?_ ?_
  ·have hls : listed = (Array.replicate n true) ++ (Array.replicate (l.length - n) false) := by
    refine Array.ext (by simp [hinv.size]; omega) fun i h1 h2 => ?_
    have hsz : i < l.length := by have := hinv.size; simp at this; omega
    by_cases hin : i < n
    ·have := hall i hin
     rw [Array.getElem_append_left (by simpa using hin)]
     simpa [h1] using this
    ·have := hinv.tail i (by omega) (by simpa using hsz)
     rw [Array.getElem_append_right (by simp; omega)]
     simpa [h1] using this
   have := ok.seq
   rw [hls]
   simpa using this
  ·have he : b = fin [] vs (l.take n) 0 a := by
    refine act_ext (inv.defers.trans (fin_defers _ _ _).symm) (inv.size.trans (fin_size _ _ _).symm) fun t => ?_
    by_cases hex : ∃ (k : Nat) (o' : Oper), k < n ∧ l.toArray[k]? = some o' ∧ o'.dst = some t
    ·obtain ⟨k, o', hk, ho', hd⟩ := hex
     have e1 := inv.calm k o' t ho' hd (hall k hk)
     have e2 := fin_at (fl := []) (val := vs) (l.take n) 0 a k o' (by rw [List.getElem?_take, if_pos hk]; simpa using ho') hd rfl (by rw [hN]; exact ok.bd k o' t hk ho' hd) (by
      intro j oj hj hne hdj
      rw [List.getElem?_take] at hj
      split at hj
      ·rename_i hjn
       exact ok.ne j oj k o' t hjn hk (by simpa using hj) ho' (Ne.symm hne) hdj hd
      ·cases hj)
     rw [Nat.zero_add] at e2
     rw [e1, e2]
    ·have e1 := inv.other t fun k o' ho' hl hd => hex ⟨k, o', listed_lt hinv ho' hl, ho', hd⟩
     have e2 := fin_other (fl := []) (val := vs) (t := t) (l.take n) 0 a fun j oj hj _ hd => by
      rw [List.getElem?_take] at hj
      split at hj
      ·rename_i hjn
       exact hex ⟨j, oj, hjn, by simpa using hj, hd⟩
      ·cases hj
     rw [e1, e2]
   rw [he]
   exact h2 vs (ranOf listed) w' hall inv.s)
 have := key n (Array.replicate l.toArray.size false) a w.drew (fun _ => undef) (by
  have := List.countP_le_length (p := fun i => !(Array.replicate l.toArray.size false).getD i false) (l := List.range n)
  simpa using this) inv0 ⟨by rw [show ranOf (Array.replicate l.toArray.size false) = fun _ => false from funext fun k => getD_replicate_false _ _]; exact h0, rfl, rfl, fun k o t _ _ hl => (by rw [getD_replicate_false] at hl; cases hl), fun t _ => rfl⟩
 rw [show n + (l.length - n) = l.toArray.size by simp; omega] at this
 exact this
end Go.Proofs.YtnbdpnlepcjmmaaGreat

namespace Go.Proofs.YtnbdpnlepcjmmaaGreat
open Go.RowKit
def cutsS (x : Sp) (b : List Sp) : List Sp := b.flatMap fun y => cutS x y
theorem cutsS_snoc (x y : Sp) (b : List Sp) : cutsS x (b ++ [y]) = cutsS x b ++ cutS x y := by simp [cutsS]
theorem interF_snoc (a b : List Sp) (x : Sp) : interF (a ++ [x]) b = interF a b ++ cutsS x b := by simp [interF, cutsS]
theorem cutsS_len (x : Sp) (b : List Sp) : (cutsS x b).length ≤ b.length := by
  induction b with
  | nil => simp [cutsS]
  | cons y b ih =>
    have : (cutS x y).length ≤ 1 := by unfold cutS; split <;> simp
    simp only [cutsS, List.flatMap_cons, List.length_append, List.length_cons] at *
    omega
theorem interF_len (a b : List Sp) : (interF a b).length ≤ a.length * b.length := by
  induction a with
  | nil => simp [interF]
  | cons x a ih =>
    have h1 := cutsS_len x b
    have : interF (x :: a) b = cutsS x b ++ interF a b := rfl
    rw [this, List.length_append, List.length_cons, Nat.succ_mul]
    omega
section
variable {ops : Array Oper} {rest : List Oper} {o : Oper} {a : Act} {w : World} {Q : Exit → Act → World → Prop}
theorem wpList_append_sp2 (hgd : o.guard = none) (s x : Operand) (ho : o.op = .call { callee := .builtin .append, args := #[s, x], argTypes := #[43, 43] })
    {base : Nat} {v : Value} {l m : List Sp} {A : Option Addr} {c n : Nat} (hn : n = m.length) (hs : a.eval s = v) (hown : Own w base v l) (hx : a.eval x = .slice A n c) (hr : Sps w A m) (hlen : l.length + m.length ≤ 1000000) (hbase : base ≤ w.heap.size)
    (h : ∀ v' w', Own w' base v' (l ++ m) → w.grownBy w' v.ownBlock → (v'.ownBlock = v.ownBlock ∨ v'.ownBlock = some w.heap.size) → wpList Tryz.prog ops Q rest (a.put o.dst v') w') : wpList Tryz.prog ops Q (o :: rest) a w := by
  obtain ⟨i0, hi0, hi1, hi2, hi3, hi4⟩ := sinfo
  subst hn
  refine wpList_append_any w hgd s x 43 ho base 93 i0 _ 2 16 Tryz.underlying43 hi0 hi3 hi1 hi2 hi4 (by omega) v l.length (scells l) hs hown w.heap.size A m.length c (scells m) hx hr (scells_one m) (by simp only [maxLen]; omega) (by omega) hbase fun v' w' h1 h2 h3 => h v' w' ?_ h2 h3
  unfold Own
  rw [scells_append, List.length_append]
  exact h1
end
set_option maxHeartbeats 4000000 in
theorem rspans_at (A : Option Addr) (c : Nat) (l : List Sp) (w : World) (h : Sps w A l) (hl : l.length ≤ 9223372036854775807) :
    Calls Tryz.prog 119 #[.agg #[.slice A l.length c]] w fun e w' => (∃ A2 c2, e = .returned (.slice A2 (spansF l).length c2) ∧ (∀ w0, Sps w0 A l → Sps w0 A2 (spansF l)) ∧ (l.length ≤ c → (spansF l).length ≤ c2)) ∧ Grows w w' := by
  have k2 := Blk.new w 45 #[.slice A l.length c]
  have hB := (Below.refl w.heap.size w).alloc (Nat.le_refl _) (Obj.cells #[.slice A l.length c] 45)
  go_enter Tryz.func119, Tryz.ntmps119
  go_upto_region 1 with fail
  have h1 := h.grows hB
  generalize World.alloc w _ = w1 at *
  have x2 := k2.cell 0
  go_wp2_with fail
  refine (rvalid_any A c l _ h1 hl).mono ?_
  rintro e w2 ⟨rfl, hq⟩
  replace hB := below_grows hB (Nat.le_refl _) hq
  replace k2 := k2.grows hq
  clear x2 hq
  have x2 := k2.cell 0
  cases hok : okS l
  · have e : spansF l = [] := if_neg (by rw [hok]; simp)
    have HE := Lib.hid e
    clear e
    go_wp2
    go_ret
    rw [HE.out]
    exact ⟨⟨none, 0, rfl, fun _ _ => sps_nil _, fun _ => Nat.le_refl _⟩, hB⟩
  · have e : spansF l = l := if_pos hok
    have HE := Lib.hid e
    clear e
    go_wp2
    go_ret
    rw [HE.out]
    exact ⟨⟨A, c, rfl, fun _ h => h, id⟩, hB⟩
set_option maxRecDepth 100000 in
set_option maxHeartbeats 16000000 in
theorem all_any (A : Option Addr) (c : Nat) (l : List Sp) (B : Option Addr) (cb : Nat) (m : List Sp) (w : World) (h : Sps w A l) (hl : l.length ≤ 9223372036854775807) (hm : Sps w B m) (hml : m.length ≤ 9223372036854775807) :
    Calls Tryz.prog 127 #[.agg #[.slice A l.length c], .agg #[.slice B m.length cb]] w fun e w' => (∃ v, e = .returned v ∧ Own w' w.heap.size v (interF (spansF l) (spansF m))) ∧ Grows w w' := by
  have k2 := (Blk.new w 45 #[.slice A l.length c]).alloc (Obj.cells #[.slice B m.length cb] 45)
  have k3 := blk_new_at (X := w.alloc (Obj.cells #[.slice A l.length c] 45)) (n := w.heap.size + 1) (t := 45) (cs := #[.slice B m.length cb]) (by simp)
  have hB := ((Below.refl w.heap.size w).alloc (Nat.le_refl _) (Obj.cells #[.slice A l.length c] 45)).alloc (by simp) (Obj.cells #[.slice B m.length cb] 45)
  go_enter Tryz.func127, Tryz.ntmps127
  go_upto_region 1 with fail
  generalize World.alloc (World.alloc w _) _ = w1 at *
  have x2 := k2.cell 0
  go_wp2_with fail
  refine (rspans_at A c l _ (h.grows hB) hl).mono ?_
  rintro e w2 ⟨⟨A2, c2, rfl, hat, -⟩, hq⟩
  replace hB := below_grows hB (Nat.le_refl _) hq
  replace k3 := k3.grows hq
  have h2 := hat w h
  have hl2 := spansF_len l
  have hm2 := spansF_len m
  generalize hA : spansF l = a at *
  have HA := Lib.hid hA
  clear x2 k2 hq h hat hA
  go_wp2_with fail
  go_loopw [5, 15] (fun v i wr => ∃ k : Nat, k ≤ a.length ∧ i = .int .i64 k ∧ Own wr w.heap.size v (interF (a.take k) (spansF m)) ∧ Below w.heap.size w wr ∧ Blk wr (w.heap.size + 1) 45 #[.slice B m.length cb]) (fun _ i _ => a.length - (intOf i).toNat)
  case atStart => exact ⟨0, by omega, rfl, own_nil _ _, hB, k3⟩
  case round =>
    clear hB k3
    obtain ⟨k, hk, rfl, hown, hB, k3⟩ := hrel
    by_cases hlt : k < a.length
    · obtain ⟨ad, x, rfl, had, hx, c0, c1⟩ := (h2.grows hB).elem hlt
      have HX : Hid (interF (a.take (k + 1)) (spansF m) = interF (a.take k) (spansF m) ++ cutsS x (spansF m)) := Lib.hid (by rw [take_snoc hx, interF_snoc])
      clear hx
      have hin : (interF (a.take k) (spansF m)).length ≤ 4096 := Nat.le_trans (interF_len _ _) (Nat.le_trans (Nat.mul_le_mul (by rw [List.length_take]; omega : (a.take k).length ≤ 64) hm2) (by omega))
      generalize interF (a.take k) (spansF m) = p at *
      have k7 := Blk.new wr 93 #[.int .i64 x.1, .int .i64 x.2]
      have hno : ∀ v : Value, Own wr w.heap.size v p → v.ownBlock ≠ some wr.heap.size := fun v ho e => by have := (ho.lt _ e).2; omega
      replace hno := hno _ hown
      have hq := (Below.refl wr.heap.size wr).alloc (Nat.le_refl _) (Obj.cells #[.int .i64 x.1, .int .i64 x.2] 93)
      replace hB := below_grows hB (Nat.le_refl _) hq
      replace k3 := k3.grows hq
      replace hown := hown.grows hq
      clear hq
      go_upto_region 5 with fail
      clear c0 c1
      generalize World.alloc wr _ = w4 at *
      generalize wr.heap.size = G7 at *
      have x3 := k3.cell 0
      go_wp2_with fail
      refine (rspans_at B cb m _ (hm.grows hB) hml).mono ?_
      rintro e w5 ⟨⟨B2, c5, rfl, hat, -⟩, hq⟩
      replace hown := hown.grows hq
      replace k7 := k7.grows hq
      replace k3 := k3.grows hq
      replace hB := below_grows hB (Nat.le_refl _) hq
      have h5 := hat w hm
      clear hq x3 hat
      generalize hMM : spansF m = mm at *
      have HMM := Lib.hid hMM
      clear hMM
      go_wp2_with fail
      go_loopw [5, 22] (fun v i wr => ∃ j : Nat, j ≤ mm.length ∧ i = .int .i64 j ∧ Own wr w.heap.size v (p ++ cutsS x (mm.take j)) ∧ v.ownBlock ≠ some G7 ∧ Below w.heap.size w wr ∧ Blk wr (w.heap.size + 1) 45 #[.slice B m.length cb] ∧ Blk wr G7 93 #[.int .i64 x.1, .int .i64 x.2]) (fun _ i _ => mm.length - (intOf i).toNat)
      case atStart => exact ⟨0, by omega, rfl, by simpa [cutsS] using hown, hno, hB, k3, k7⟩
      case round =>
        clear hown hB hno k3 k7
        obtain ⟨j, hj, rfl, hown, hno, hB, k3, k7⟩ := hrel
        by_cases hjt : j < mm.length
        · obtain ⟨ad2, y, rfl, had2, hy, d0, d1⟩ := (h5.grows hB).elem hjt
          have HY : Hid (cutsS x (mm.take (j + 1)) = cutsS x (mm.take j) ++ cutS x y) := Lib.hid (by rw [take_snoc hy, cutsS_snoc])
          clear hy
          have hcl : (cutsS x (mm.take j)).length ≤ 64 := Nat.le_trans (cutsS_len _ _) (by rw [List.length_take]; omega)
          generalize cutsS x (mm.take j) = r at *
          have k9 := Blk.new wr 93 #[.int .i64 y.1, .int .i64 y.2]
          have hq := (Below.refl wr.heap.size wr).alloc (Nat.le_refl _) (Obj.cells #[.int .i64 y.1, .int .i64 y.2] 93)
          replace hB := below_grows hB (Nat.le_refl _) hq
          replace hown := hown.grows hq
          replace k3 := k3.grows hq
          replace k7 := k7.grows hq
          clear hq
          go_upto_region 8 with fail
          clear d0 d1
          generalize World.alloc wr _ = w6 at *
          generalize wr.heap.size = G9 at *
          have e0 := k7.cell 0
          have e1 := k7.cell 1
          have f0 := k9.cell 0
          have f1 := k9.cell 1
          go_region
          have HC : Hid (cutS x y = if max x.1 y.1 ≤ min x.2 y.2 then [(max x.1 y.1, min x.2 y.2)] else []) := Lib.hid rfl
          generalize max x.1 y.1 = lo at *
          generalize min x.2 y.2 = hi at *
          have hq := Grows.drew' w6
          replace hB := below_grows hB (Nat.le_refl _) hq
          replace hown := hown.grows hq
          replace k3 := k3.grows hq
          replace k7 := k7.grows hq
          clear hq e0 e1 f0 f1 k9
          generalize World.drew _ = w7 at *
          by_cases hlh : lo ≤ hi
          · go_upto_region 10 with fail
            refine wp_region_lit ?_
            iterate 5
              refine wpList_plain rfl (fun K hK => ?_)
              go_simp
              refine hK _ _ ?_
              clear hK K
            have hq := (Below.refl w7.heap.size w7).alloc (Nat.le_refl _) (Obj.cells #[.int .i64 lo, .int .i64 hi] 93)
            replace hB := below_grows hB (Nat.le_refl _) hq
            replace hown := hown.grows hq
            replace k3 := k3.grows hq
            replace k7 := k7.grows hq
            refine wpList_append_sp2 rfl (.tmp 39) (.tmp 43) rfl (m := [(lo, hi)]) rfl rfl hown rfl (sps_lit w7 (lo, hi)) (by simp; omega) hB.size ?_
            intro v3 w8 hown3 hgr3 hv3
            have hB5 := hown.below hB hgr3 hB.size
            have k35 := k3.grown hgr3 (fun e => own_blk_ne hown k3 (by decide) e.symm)
            have k75 := k7.grown hgr3 (fun e => hno e.symm)
            have hno5 : v3.ownBlock ≠ some G7 := by
              rcases hv3 with e | e
              · rw [e]; exact hno
              · rw [e]; intro e2; injection e2 with e2; have := k7.lt; omega
            have e : p ++ cutsS x (mm.take (j + 1)) = p ++ r ++ [(lo, hi)] := by rw [HY.out, HC.out, if_pos hlh, List.append_assoc]
            rw [← e] at hown3
            clear e HY HC hown hq hB hgr3 k3 k7 hno hv3
            go_wp2
            go_roundw
            case rel => exact ⟨j + 1, by omega, by go_num, hown3, hno5, hB5, k35, k75⟩
            case measure => simp [intOf]; omega
          · have e : p ++ cutsS x (mm.take (j + 1)) = p ++ r := by rw [HY.out, HC.out, if_neg hlh, List.append_nil]
            rw [← e] at hown
            clear e HY HC
            go_wp2
            go_roundw
            case rel => exact ⟨j + 1, by omega, by go_num, hown, hno, hB, k3, k7⟩
            case measure => simp [intOf]; omega
        · have e : mm.take j = mm := List.take_of_length_le (by omega)
          rw [e, ← HX.out] at hown
          clear e HX hno k7
          go_wp2
          go_roundw
          case rel => exact ⟨k + 1, by omega, by go_num, by rw [HMM.out]; exact hown, hB, k3⟩
          case measure => simp [intOf]; omega
    · have e : a.take k = a := List.take_of_length_le (by omega)
      rw [e, ← HA.out] at hown
      clear e
      go_wp2
      go_ret
      exact ⟨⟨_, rfl, hown⟩, hB⟩
/-- What spans gives, as a value. -/
def SpV (A : Option Addr) (c : Nat) (l : List Sp) : Value := if okS l = true then .slice A l.length c else .slice none 0 0
theorem spV_is (A : Option Addr) (c : Nat) (l : List Sp) : ∃ A2 c2, SpV A c l = .slice A2 (spansF l).length c2 ∧ (∀ w0, Sps w0 A l → Sps w0 A2 (spansF l)) := by
  cases hok : okS l
  · exact ⟨none, 0, by unfold SpV spansF; rw [if_neg (by rw [hok]; simp), if_neg (by rw [hok]; simp)]; rfl, fun _ _ => by unfold spansF; rw [if_neg (by rw [hok]; simp)]; exact sps_nil _⟩
  · exact ⟨A, c, by unfold SpV spansF; rw [if_pos hok, if_pos hok], fun _ h => by unfold spansF; rw [if_pos hok]; exact h⟩
theorem meas_i (n m i k : Nat) (h : i < n) : n - (intOf (.int .i64 ((i : Int) + 1))).toNat + (m - (intOf (.int .i64 (k : Int))).toNat) < n - (intOf (.int .i64 (i : Int))).toNat + (m - (intOf (.int .i64 (k : Int))).toNat) := by
  simp [intOf]
  omega
theorem meas_k (n m i k : Nat) (h : k < m) : n - (intOf (.int .i64 (i : Int))).toNat + (m - (intOf (.int .i64 ((k : Int) + 1))).toNat) < n - (intOf (.int .i64 (i : Int))).toNat + (m - (intOf (.int .i64 (k : Int))).toNat) := by
  simp [intOf]
  omega
theorem canon_drop {l : List Sp} (h : Canon l) (i : Nat) : Canon (l.drop i) := ⟨fun x hx => h.1 x (List.mem_of_mem_drop hx), h.2.sublist (List.drop_sublist _ _)⟩
set_option maxHeartbeats 4000000 in
theorem spans_val (A : Option Addr) (c : Nat) (l : List Sp) (w : World) (h : Sps w A l) (hl : l.length ≤ 9223372036854775807) :
    Calls Tryz.prog 104 #[.agg #[.slice A l.length c]] w fun e w' => e = .returned (SpV A c l) ∧ Grows w w' := by
  have k2 := Blk.new w 45 #[.slice A l.length c]
  have hB := (Below.refl w.heap.size w).alloc (Nat.le_refl _) (Obj.cells #[.slice A l.length c] 45)
  go_enter Tryz.func104, Tryz.ntmps104
  go_upto_region 1 with fail
  have h1 := h.grows hB
  generalize World.alloc w _ = w1 at *
  have x2 := k2.cell 0
  go_wp2_with fail
  refine (valid_any A c l _ h1 hl).mono ?_
  rintro e w2 ⟨rfl, hq⟩
  replace hB := below_grows hB (Nat.le_refl _) hq
  replace k2 := k2.grows hq
  clear x2 hq
  have x2 := k2.cell 0
  cases hok : okS l
  · have e : SpV A c l = .slice none 0 0 := if_neg (by rw [hok]; simp)
    have HE := Lib.hid e
    clear e
    go_wp2
    go_ret
    rw [HE.out]
    exact ⟨rfl, hB⟩
  · have e : SpV A c l = .slice A l.length c := if_pos hok
    have HE := Lib.hid e
    clear e
    go_wp2
    go_ret
    rw [HE.out]
    exact ⟨rfl, hB⟩
set_option maxHeartbeats 4000000 in
theorem rspans_val (A : Option Addr) (c : Nat) (l : List Sp) (w : World) (h : Sps w A l) (hl : l.length ≤ 9223372036854775807) :
    Calls Tryz.prog 119 #[.agg #[.slice A l.length c]] w fun e w' => e = .returned (SpV A c l) ∧ Grows w w' := by
  have k2 := Blk.new w 45 #[.slice A l.length c]
  have hB := (Below.refl w.heap.size w).alloc (Nat.le_refl _) (Obj.cells #[.slice A l.length c] 45)
  go_enter Tryz.func119, Tryz.ntmps119
  go_upto_region 1 with fail
  have h1 := h.grows hB
  generalize World.alloc w _ = w1 at *
  have x2 := k2.cell 0
  go_wp2_with fail
  refine (rvalid_any A c l _ h1 hl).mono ?_
  rintro e w2 ⟨rfl, hq⟩
  replace hB := below_grows hB (Nat.le_refl _) hq
  replace k2 := k2.grows hq
  clear x2 hq
  have x2 := k2.cell 0
  cases hok : okS l
  · have e : SpV A c l = .slice none 0 0 := if_neg (by rw [hok]; simp)
    have HE := Lib.hid e
    clear e
    go_wp2
    go_ret
    rw [HE.out]
    exact ⟨rfl, hB⟩
  · have e : SpV A c l = .slice A l.length c := if_pos hok
    have HE := Lib.hid e
    clear e
    go_wp2
    go_ret
    rw [HE.out]
    exact ⟨rfl, hB⟩
set_option maxRecDepth 100000 in
set_option maxHeartbeats 16000000 in
theorem inter_own (A : Option Addr) (c : Nat) (l : List Sp) (B : Option Addr) (cb : Nat) (m : List Sp) (w : World) (h : Sps w A l) (hl : l.length ≤ 9223372036854775807) (hm : Sps w B m) (hml : m.length ≤ 9223372036854775807) :
    Calls Tryz.prog 107 #[.agg #[.slice A l.length c], .agg #[.slice B m.length cb]] w fun e w' => (∃ A5 c5, e = .returned (.agg #[.slice A5 ((interF (spansF l) (spansF m)).take 64).length c5]) ∧ ((interF (spansF l) (spansF m)).take 64).length ≤ c5 ∧ SpB w' (Ge w.heap.size) A5 ((interF (spansF l) (spansF m)).take 64)) ∧ Grows w w' := by
  have k2 := ((Blk.new w 45 #[.slice A l.length c]).alloc (Obj.cells #[.slice B m.length cb] 45)).alloc (Obj.cells #[.slice none 0 0] 45)
  have k3 := (blk_new_at (X := w.alloc (Obj.cells #[.slice A l.length c] 45)) (n := w.heap.size + 1) (t := 45) (cs := #[.slice B m.length cb]) (by simp)).alloc (Obj.cells #[.slice none 0 0] 45)
  have k4 := blk_new_at (X := (w.alloc (Obj.cells #[.slice A l.length c] 45)).alloc (Obj.cells #[.slice B m.length cb] 45)) (n := w.heap.size + 2) (t := 45) (cs := #[.slice none 0 0]) (by simp)
  have hB := (((Below.refl w.heap.size w).alloc (Nat.le_refl _) (Obj.cells #[.slice A l.length c] 45)).alloc (by simp) (Obj.cells #[.slice B m.length cb] 45)).alloc (by simp; omega) (Obj.cells #[.slice none 0 0] 45)
  go_enter Tryz.func107, Tryz.ntmps107
  go_upto_region 1 with fail
  generalize World.alloc (World.alloc (World.alloc w _) _) _ = w1 at *
  obtain ⟨S, HI, HO⟩ := hideS fun (L : Ran) (vs : Nat → Value) (w' : World) => Grows w1 w' ∧ KnS [some (.agg #[.slice A l.length c]), some (SpV A c l), some (.agg #[.slice B m.length cb]), some (SpV B cb m), some (SpV A c l), some (SpV B cb m)] L vs
  refine wp_region_genW S 79 (by kernel_rfl) (by kernel_rfl) rfl ?_ ?_
  · exact HI.out _ _ _ ⟨Grows.drew' _, kn_none _ _⟩
  refine gen_consR (fun vs L w1 hL hw1 => ?_) ?_
  · obtain ⟨q0, q1⟩ := HO.out _ _ _ hw1
    refine gen_plain rfl ?_
    have x := (k2.grows q0).cell 0
    go_simp
    exact gr_val (HI.out _ _ _ ⟨q0, kn_known q1 rfl⟩)
  refine gen_consR (fun vs L w1 hL hw1 => ?_) ?_
  · obtain ⟨q0, q1⟩ := HO.out _ _ _ hw1
    refine gen_plain rfl ?_
    have l0 : L 0 = true := hL.need 0 (by kernel_rfl)
    have e0 := q1 0 _ rfl l0
    simp only [e0]
    go_simp
    refine gr_call ?_
    refine (spans_val A c l _ (h.grows (below_grows hB (Nat.le_refl _) q0)) hl).mono ?_
    rintro e w2 ⟨rfl, hg⟩
    exact ⟨_, rfl, HI.out _ _ _ ⟨below_grows q0 (Nat.le_refl _) hg, kn_known q1 rfl⟩⟩
  refine gen_consR (fun vs L w1 hL hw1 => ?_) ?_
  · obtain ⟨q0, q1⟩ := HO.out _ _ _ hw1
    refine gen_plain rfl ?_
    have x := (k3.grows q0).cell 0
    go_simp
    exact gr_val (HI.out _ _ _ ⟨q0, kn_known q1 rfl⟩)
  refine gen_consR (fun vs L w1 hL hw1 => ?_) ?_
  · obtain ⟨q0, q1⟩ := HO.out _ _ _ hw1
    refine gen_plain rfl ?_
    have l2 : L 2 = true := hL.need 2 (by kernel_rfl)
    have e2 := q1 2 _ rfl l2
    simp only [e2]
    go_simp
    refine gr_call ?_
    refine (spans_val B cb m _ (hm.grows (below_grows hB (Nat.le_refl _) q0)) hml).mono ?_
    rintro e w2 ⟨rfl, hg⟩
    exact ⟨_, rfl, HI.out _ _ _ ⟨below_grows q0 (Nat.le_refl _) hg, kn_known q1 rfl⟩⟩
  refine gen_consR (fun vs L w1 hL hw1 => ?_) ?_
  · obtain ⟨q0, q1⟩ := HO.out _ _ _ hw1
    refine gen_plain rfl ?_
    have l1 : L 1 = true := hL.need 1 (by kernel_rfl)
    have e1 := q1 1 _ rfl l1
    simp only [e1]
    go_simp
    exact gr_val (HI.out _ _ _ ⟨q0, kn_known q1 rfl⟩)
  refine gen_consR (fun vs L w1 hL hw1 => ?_) ?_
  · obtain ⟨q0, q1⟩ := HO.out _ _ _ hw1
    refine gen_plain rfl ?_
    have l3 : L 3 = true := hL.need 3 (by kernel_rfl)
    have e3 := q1 3 _ rfl l3
    simp only [e3]
    go_simp
    exact gr_val (HI.out _ _ _ ⟨q0, kn_known q1 rfl⟩)
  refine gen_nil ?_
  intro vs L W6 hall hS
  obtain ⟨hq, q1⟩ := HO.out _ _ _ hS
  have eL := q1 5 _ rfl (hall 5 (by simp))
  have eX4 := q1 4 _ rfl (hall 4 (by simp))
  clear hall hS HI HO q1
  simp only [eL, eX4]
  replace hB := below_grows hB (Nat.le_refl _) hq
  replace k4 := k4.grows hq
  clear hq
  obtain ⟨A2, c2, ev2, hat⟩ := spV_is A c l
  obtain ⟨A3, c3, ev3, hbt⟩ := spV_is B cb m
  rw [ev2, ev3]
  have h2 := hat w h
  have h3 := hbt w hm
  have hca := spansF_canon l
  have hcb := spansF_canon m
  have hla := spansF_len l
  have hlb := spansF_len m
  generalize hA : spansF l = a at *
  generalize hM : spansF m = b at *
  have HA := Lib.hid hA
  have HM := Lib.hid hM
  clear hA hM hat hbt ev2 ev3 eL eX4 h hm k2 k3
  generalize vs 0 = y0 at *
  generalize vs (0 + 1) = y1 at *
  generalize vs (0 + 1 + 1) = y2 at *
  generalize vs (0 + 1 + 1 + 1) = y3 at *
  clear vs
  have hz2 : w.heap.size + 2 < W6.heap.size := k4.lt
  go_upto_region 4 with fail
  go_loopw [7, 8, 9] (fun v x y wr => ∃ (i k : Nat) (p : List Sp), i ≤ a.length ∧ k ≤ b.length ∧ p.length ≤ 64 ∧ x = .int .i64 i ∧ y = .int .i64 k ∧ Own wr (w.heap.size + 3) v p ∧ p ++ interF (a.drop i) (b.drop k) = interF a b ∧ Below w.heap.size w wr ∧ Blk wr (w.heap.size + 2) 45 #[.slice none 0 0]) (fun _ x y _ => (a.length - (intOf x).toNat) + (b.length - (intOf y).toNat))
  case atStart => exact ⟨0, 0, [], by omega, by omega, by simp, rfl, rfl, own_nil _ _, by simp, hB, k4⟩
  case round =>
    clear hB k4
    obtain ⟨i, k, p, hi, hk, hp, rfl, rfl, hown, hpe, hB, k4⟩ := hrel
    have HPE := Lib.hid hpe
    clear hpe
    obtain ⟨A5, c5, rfl, hc5, hr5, hge5⟩ := hown.read
    by_cases hia : i < a.length
    rotate_left
    · as_aux_lemma =>
      have hfin : (interF a b).take 64 = p := by rw [← HPE.out, List.drop_of_length_le (by omega), show interF [] (b.drop k) = [] from rfl, List.append_nil, List.take_of_length_le hp]
      have HFN := Lib.hid hfin
      clear hfin HPE
      have x4 := k4.cell 0
      have f4 := k4.frozen 0
      go_wp2
      have k5 := k4.set_ 0 (.slice A5 p.length c5)
      have hB4 := hB.setCell (p := ⟨w.heap.size + 2, 0, none⟩) (by simp) (.slice A5 p.length c5)
      have hr6 := hr5.setOther k4 (.slice A5 p.length c5)
      generalize World.setCell _ _ _ = w5 at *
      have x5 : w5.cell? ⟨w.heap.size + 2, 0, none⟩ = some (.slice A5 p.length c5) := by rw [k5.cell]; rfl
      clear x4 f4 k4 k5
      exact bodyPost_ret (v := .agg #[.slice A5 p.length c5]) (by simp [results, Tryz.results107, go_sem, x5]) rfl ⟨⟨A5, c5, by rw [HA.out, HM.out, HFN.out], by rw [HA.out, HM.out, HFN.out]; exact hc5, by rw [HA.out, HM.out, HFN.out]; exact ⟨hr6, fun _ ad e => by have := hge5 ad e; unfold Ge; omega⟩⟩, hB4⟩
    by_cases hkb : k < b.length
    rotate_left
    · as_aux_lemma =>
      have hfin : (interF a b).take 64 = p := by rw [← HPE.out, List.drop_of_length_le (l := b) (by omega), inter_nil_right, List.append_nil, List.take_of_length_le hp]
      have HFN := Lib.hid hfin
      clear hfin HPE
      have x4 := k4.cell 0
      have f4 := k4.frozen 0
      go_wp2
      have k5 := k4.set_ 0 (.slice A5 p.length c5)
      have hB4 := hB.setCell (p := ⟨w.heap.size + 2, 0, none⟩) (by simp) (.slice A5 p.length c5)
      have hr6 := hr5.setOther k4 (.slice A5 p.length c5)
      generalize World.setCell _ _ _ = w5 at *
      have x5 : w5.cell? ⟨w.heap.size + 2, 0, none⟩ = some (.slice A5 p.length c5) := by rw [k5.cell]; rfl
      clear x4 f4 k4 k5
      exact bodyPost_ret (v := .agg #[.slice A5 p.length c5]) (by simp [results, Tryz.results107, go_sem, x5]) rfl ⟨⟨A5, c5, by rw [HA.out, HM.out, HFN.out], by rw [HA.out, HM.out, HFN.out]; exact hc5, by rw [HA.out, HM.out, HFN.out]; exact ⟨hr6, fun _ ad e => by have := hge5 ad e; unfold Ge; omega⟩⟩, hB4⟩
    by_cases hp64 : p.length < 64
    rotate_left
    · as_aux_lemma =>
      have hfin : (interF a b).take 64 = p := by rw [← HPE.out, List.take_left' (by omega)]
      have HFN := Lib.hid hfin
      clear hfin HPE
      have x4 := k4.cell 0
      have f4 := k4.frozen 0
      go_wp2
      have k5 := k4.set_ 0 (.slice A5 p.length c5)
      have hB4 := hB.setCell (p := ⟨w.heap.size + 2, 0, none⟩) (by simp) (.slice A5 p.length c5)
      have hr6 := hr5.setOther k4 (.slice A5 p.length c5)
      generalize World.setCell _ _ _ = w5 at *
      have x5 : w5.cell? ⟨w.heap.size + 2, 0, none⟩ = some (.slice A5 p.length c5) := by rw [k5.cell]; rfl
      clear x4 f4 k4 k5
      exact bodyPost_ret (v := .agg #[.slice A5 p.length c5]) (by simp [results, Tryz.results107, go_sem, x5]) rfl ⟨⟨A5, c5, by rw [HA.out, HM.out, HFN.out], by rw [HA.out, HM.out, HFN.out]; exact hc5, by rw [HA.out, HM.out, HFN.out]; exact ⟨hr6, fun _ ad e => by have := hge5 ad e; unfold Ge; omega⟩⟩, hB4⟩
    obtain ⟨ad, x, rfl, had, hx, c0, c1⟩ := h2.elem hia
    obtain ⟨ad2, y, rfl, had2, hy, d0, d1⟩ := h3.elem hkb
    have HDA : a.drop i = x :: a.drop (i + 1) := by
      obtain ⟨hj2, hyy⟩ := List.getElem?_eq_some_iff.1 hx
      rw [← hyy]
      exact List.drop_eq_getElem_cons hj2
    have HDB : b.drop k = y :: b.drop (k + 1) := by
      obtain ⟨hj2, hyy⟩ := List.getElem?_eq_some_iff.1 hy
      rw [← hyy]
      exact List.drop_eq_getElem_cons hj2
    have HIS : Hid (p ++ (cutS x y ++ if x.2 < y.2 then interF (a.drop (i + 1)) (b.drop k) else interF (a.drop i) (b.drop (k + 1))) = interF a b) := Lib.hid (by
      rw [← HPE.out, HDA, HDB, inter_step (by rw [← HDA]; exact canon_drop hca i) (by rw [← HDB]; exact canon_drop hcb k)])
    clear hx hy HDA HDB HPE
    have hcx0 : ∀ w', Below w.heap.size w w' → w'.cell? (ad.add (i * 2)) = some (.int .i64 x.1) := fun w' hb => (hb.cell (p := ad.add (i * 2)) (by rw [block_of_add]; exact had)).trans c0
    have hcx1 : ∀ w', Below w.heap.size w w' → w'.cell? ⟨(ad.add (i * 2)).block, (ad.add (i * 2)).off + 1, none⟩ = some (.int .i64 x.2) := fun w' hb => (hb.cell (p := ⟨(ad.add (i * 2)).block, (ad.add (i * 2)).off + 1, none⟩) (by simp only [block_of_add]; exact had)).trans c1
    have hcy0 : ∀ w', Below w.heap.size w w' → w'.cell? (ad2.add (k * 2)) = some (.int .i64 y.1) := fun w' hb => (hb.cell (p := ad2.add (k * 2)) (by rw [block_of_add]; exact had2)).trans d0
    have hcy1 : ∀ w', Below w.heap.size w w' → w'.cell? ⟨(ad2.add (k * 2)).block, (ad2.add (k * 2)).off + 1, none⟩ = some (.int .i64 y.2) := fun w' hb => (hb.cell (p := ⟨(ad2.add (k * 2)).block, (ad2.add (k * 2)).off + 1, none⟩) (by simp only [block_of_add]; exact had2)).trans d1
    clear c0 c1 d0 d1
    have c0 := hcx0 _ hB
    have c1 := hcx1 _ hB
    have d0 := hcy0 _ hB
    have d1 := hcy1 _ hB
    have hb1 : (ad.add (i * 2)).block < wr.heap.size := by rw [block_of_add]; have := hB.size; omega
    have hb2 : (ad2.add (k * 2)).block < wr.heap.size := by rw [block_of_add]; have := hB.size; omega
    go_upto_region 5 with fail
    go_region
    clear c0 c1 d0 d1 hb1 hb2 hcx0 hcy0
    have HC : Hid (cutS x y = if max x.1 y.1 ≤ min x.2 y.2 then [(max x.1 y.1, min x.2 y.2)] else []) := Lib.hid rfl
    generalize max x.1 y.1 = lo at *
    generalize min x.2 y.2 = hi' at *
    have k10 := (Blk.new wr 93 #[.int .i64 lo, .int .i64 hi']).drew
    have hq := below_grows ((Below.refl wr.heap.size wr).alloc (Nat.le_refl _) (Obj.cells #[.int .i64 lo, .int .i64 hi'] 93)) (Nat.le_refl _) (Grows.drew' _)
    replace hB := below_grows hB (Nat.le_refl _) hq
    replace hown := hown.grows hq
    replace k4 := k4.grows hq
    clear hq
    generalize World.drew _ = w7 at *
    generalize wr.heap.size = G10 at *
    have e0 := k10.cell 0
    have e1 := k10.cell 1
    clear hr5 hge5
    by_cases hlh : lo ≤ hi'
    · as_aux_lemma =>
      have HS : Hid ((p ++ [(lo, hi')]) ++ (if x.2 < y.2 then interF (a.drop (i + 1)) (b.drop k) else interF (a.drop i) (b.drop (k + 1))) = interF a b) := Lib.hid (by rw [← HIS.out, HC.out, if_pos hlh, List.append_assoc])
      clear HIS HC
      go_upto_region 7 with fail
      refine wp_region_lit ?_
      iterate 3
        refine wpList_plain rfl (fun K hK => ?_)
        go_simp
        refine hK _ _ ?_
        clear hK K
      have hq := (Below.refl w7.heap.size w7).alloc (Nat.le_refl _) (Obj.cells #[.int .i64 lo, .int .i64 hi'] 93)
      replace hB := below_grows hB (Nat.le_refl _) hq
      replace hown := hown.grows hq
      replace k4 := k4.grows hq
      have hz5 := k4.lt
      refine wpList_append_sp rfl (.tmp 58) (.tmp 60) rfl (m := [(lo, hi')]) rfl rfl hown rfl (sps_lit w7 (lo, hi')) (by simp; omega) (by omega) ?_
      intro v3 w8 hown3 hgr3
      have hB5 := (hown.mono (show w.heap.size ≤ w.heap.size + 3 by omega)).below hB hgr3 hB.size
      have k45 := k4.grown hgr3 (fun e => by have := (hown.lt _ e.symm).1; omega)
      have hp1 : (p ++ [(lo, hi')]).length ≤ 64 := by simp; omega
      clear hown hq hB hgr3 k4 hz5 e0 e1 k10 hp64 hp hlh hc5
      generalize p ++ [(lo, hi')] = p1 at *
      have c1 := hcx1 _ hB5
      have d1 := hcy1 _ hB5
      go_upto_region 8 with fail
      by_cases hxy : x.2 < y.2
      · go_region
        have hq := Grows.drew' w8
        have hB9 := below_grows hB5 (Nat.le_refl _) hq
        have k49 := k45.grows hq
        have hown9 := hown3.grows hq
        have HS9 : Hid (p1 ++ interF (a.drop (i + 1)) (b.drop k) = interF a b) := Lib.hid (by have := HS.out; rwa [if_pos hxy] at this)
        clear HS hq c1 d1
        generalize World.drew _ = w9 at *
        go_wp2
        go_roundw
        case rel => exact ⟨i + 1, k, p1, by omega, by omega, hp1, by go_num, rfl, hown9, HS9.out, hB9, k49⟩
        case measure => exact meas_i a.length b.length i k hia
      · go_region
        have hq := Grows.drew' w8
        have hB9 := below_grows hB5 (Nat.le_refl _) hq
        have k49 := k45.grows hq
        have hown9 := hown3.grows hq
        have HS9 : Hid (p1 ++ interF (a.drop i) (b.drop (k + 1)) = interF a b) := Lib.hid (by have := HS.out; rwa [if_neg hxy] at this)
        clear HS hq c1 d1
        generalize World.drew _ = w9 at *
        go_wp2
        go_roundw
        case rel => exact ⟨i, k + 1, p1, by omega, by omega, hp1, rfl, by go_num, hown9, HS9.out, hB9, k49⟩
        case measure => exact meas_k a.length b.length i k hkb
    · as_aux_lemma =>
      have HS : Hid (p ++ (if x.2 < y.2 then interF (a.drop (i + 1)) (b.drop k) else interF (a.drop i) (b.drop (k + 1))) = interF a b) := Lib.hid (by rw [← HIS.out, HC.out, if_neg hlh, List.nil_append])
      clear HIS HC k10
      go_upto_region 8 with fail
      clear e0 e1 hlh
      have c1 := hcx1 _ hB
      have d1 := hcy1 _ hB
      by_cases hxy : x.2 < y.2
      · go_region
        have hq := Grows.drew' w7
        have hB9 := below_grows hB (Nat.le_refl _) hq
        have k49 := k4.grows hq
        have hown9 := hown.grows hq
        have HS9 : Hid (p ++ interF (a.drop (i + 1)) (b.drop k) = interF a b) := Lib.hid (by have := HS.out; rwa [if_pos hxy] at this)
        clear HS hq c1 d1
        generalize World.drew _ = w9 at *
        go_wp2
        go_roundw
        case rel => exact ⟨i + 1, k, p, by omega, by omega, hp, by go_num, rfl, hown9, HS9.out, hB9, k49⟩
        case measure => exact meas_i a.length b.length i k hia
      · go_region
        have hq := Grows.drew' w7
        have hB9 := below_grows hB (Nat.le_refl _) hq
        have k49 := k4.grows hq
        have hown9 := hown.grows hq
        have HS9 : Hid (p ++ interF (a.drop i) (b.drop (k + 1)) = interF a b) := Lib.hid (by have := HS.out; rwa [if_neg hxy] at this)
        clear HS hq c1 d1
        generalize World.drew _ = w9 at *
        go_wp2
        go_roundw
        case rel => exact ⟨i, k + 1, p, by omega, by omega, hp, rfl, by go_num, hown9, HS9.out, hB9, k49⟩
        case measure => exact meas_k a.length b.length i k hkb
def insP (z x : Sp) : Bool := (decide (x.1 ≤ z.1) && decide (z.2 ≤ x.2))
/-- Each span of l lies in one of m. -/
def insideF (l m : List Sp) : Bool := (spansF l).all fun z => (spansF m).any fun x => insP z x
theorem ins_p (z : Sp) (x : Sp) (B : Nat) (w : World) (kn : Blk w B 93 #[.int .i64 z.1, .int .i64 z.2]) : Calls Tryz.prog 135 #[.agg #[.int .i64 x.1, .int .i64 x.2], .pointer (some ⟨B, 0, none⟩)] w fun e w' => e = .returned (.bool (insP z x)) ∧ Grows w w' := by
  have k2 := Blk.new w 93 #[.int .i64 x.1, .int .i64 x.2]
  have hB := (Below.refl w.heap.size w).alloc (Nat.le_refl _) (Obj.cells #[.int .i64 x.1, .int .i64 x.2] 93)
  replace kn := kn.grows hB
  go_enter Tryz.func135, Tryz.ntmps135
  go_upto_region 1 with fail
  have x0 := kn.cell 0
  have x1 := kn.cell 1
  have y0 := k2.cell 0
  have y1 := k2.cell 1
  have hgg : Grows w (w.alloc (Obj.cells #[.int .i64 x.1, .int .i64 x.2] 93)) := hB
  clear hB
  generalize World.alloc w _ = w1 at *
  generalize w.heap.size = G2 at *
  by_cases h1 : x.1 ≤ z.1
  · by_cases h2 : z.2 ≤ x.2
    · have HE : Hid (insP z x = true) := Lib.hid (by simp [insP, h1, h2])
      go_wp2
      go_ret
      exact ⟨ret_bool HE.out.symm, hgg⟩
    · have HE : Hid (insP z x = false) := Lib.hid (by simp [insP, h2])
      go_wp2
      go_ret
      exact ⟨ret_bool HE.out.symm, hgg⟩
  · have HE : Hid (insP z x = false) := Lib.hid (by simp [insP, h1])
    go_wp2
    go_ret
    exact ⟨ret_bool HE.out.symm, hgg⟩
def Found_ins (z : Sp) (l : List Sp) (r : Int) : Prop := (r = -1 ∧ ∀ x ∈ l, insP z x = false) ∨ (0 ≤ r ∧ ∃ x ∈ l, insP z x = true)
set_option maxHeartbeats 4000000 in
theorem index_ins (z : Sp) (A : Option Addr) (c : Nat) (l : List Sp) (w : World) (B : Nat) (kn : Blk w B 93 #[.int .i64 z.1, .int .i64 z.2]) (h : Sps w A l) (hl : l.length ≤ 9223372036854775807) (F : Value) (hF : F = .func (.func 135) #[] #[.pointer (some ⟨B, 0, none⟩)]) :
    Calls Tryz.prog 130 #[.slice A l.length c, F] w fun e w' => (∃ r, Found_ins z l r ∧ e = .returned (.int .i64 r)) ∧ Grows w w' := by
  subst hF
  go_enter Tryz.func130, Tryz.ntmps130
  go_wp2
  go_loopw [8] (fun i wr => ∃ k : Nat, k ≤ l.length ∧ i = .int .i64 k ∧ Grows w wr ∧ ∀ x ∈ l.take k, insP z x = false) (fun i _ => l.length - (intOf i).toNat)
  case atStart => exact ⟨0, by omega, rfl, Below.refl _ _, by simp⟩
  case round =>
    obtain ⟨k, hk, rfl, hB, hall⟩ := hrel
    by_cases hlt : k < l.length
    · obtain ⟨ad, x, rfl, had, hx, c0, c1⟩ := (h.grows hB).elem hlt
      have HX : Hid (l.take (k + 1) = l.take k ++ [x]) := take_snoc hx
      have HM : Hid (x ∈ l) := List.mem_of_getElem? hx
      clear hx
      go_wp2_with fail
      refine (ins_p z x B _ (kn.grows hB)).mono ?_
      rintro e w2 ⟨rfl, hq⟩
      replace hB := below_grows hB (Nat.le_refl _) hq
      clear c0 c1 hq
      cases ho : insP z x
      · go_wp2
        go_roundw
        case rel =>
          refine ⟨k + 1, by omega, by go_num, hB, ?_⟩
          rw [HX.out]
          intro y hy
          rcases List.mem_append.1 hy with hy | hy
          · exact hall y hy
          · simp at hy; subst hy; exact ho
        case measure => simp [intOf]; omega
      · go_wp2
        go_ret
        exact ⟨⟨_, .inr ⟨by omega, x, HM.out, ho⟩, rfl⟩, hB⟩
    · have e : l.take k = l := List.take_of_length_le (by omega)
      rw [e] at hall
      go_wp2
      go_ret
      exact ⟨⟨-1, .inl ⟨rfl, hall⟩, rfl⟩, hB⟩
set_option maxHeartbeats 4000000 in
theorem cont_ins (z : Sp) (A : Option Addr) (c : Nat) (l : List Sp) (w : World) (B : Nat) (kn : Blk w B 93 #[.int .i64 z.1, .int .i64 z.2]) (h : Sps w A l) (hl : l.length ≤ 9223372036854775807) :
    Calls Tryz.prog 103 #[.slice A l.length c, .func (.func 135) #[] #[.pointer (some ⟨B, 0, none⟩)]] w fun e w' => e = .returned (.bool (l.any fun x => insP z x)) ∧ Grows w w' := by
  go_enter Tryz.func103, Tryz.ntmps103
  go_wp2_with fail
  refine (index_ins z A c l _ B kn h hl _ rfl).mono ?_
  rintro e w2 ⟨⟨r, hr, rfl⟩, hB⟩
  have hd : decide (0 ≤ r) = l.any fun x => insP z x := by
    rcases hr with ⟨rfl, ha⟩ | ⟨h0, x, hx, ho⟩
    · rw [show decide ((0 : Int) ≤ -1) = false from rfl]
      symm
      rw [List.any_eq_false]
      intro x hx
      rw [ha x hx]
      simp
    · rw [show decide (0 ≤ r) = true from by simpa using h0]
      symm
      exact List.any_eq_true.2 ⟨x, hx, ho⟩
  go_wp2
  go_ret
  exact ⟨rfl, hB⟩
theorem inside_no {l m : List Sp} {z : Sp} (hz : z ∈ spansF l) (hc : ((spansF m).any fun x => insP z x) = false) : insideF l m = false := by
  unfold insideF
  rw [List.all_eq_false]
  exact ⟨z, hz, by rw [hc]; simp⟩
theorem any_snoc {m : List Sp} {j : Nat} {y : Sp} (p : Sp → Bool) (h : m[j]? = some y) : ((m.take (j + 1)).any p) = ((m.take j).any p || p y) := by
  rw [take_snoc h]
  simp
theorem all_snoc' {m : List Sp} {j : Nat} {y : Sp} (p : Sp → Bool) (h : m[j]? = some y) : ((m.take (j + 1)).all p) = ((m.take j).all p && p y) := by
  rw [take_snoc h]
  simp
set_option maxRecDepth 100000 in
set_option maxHeartbeats 16000000 in
theorem inside_any (A : Option Addr) (c : Nat) (l : List Sp) (B : Option Addr) (cb : Nat) (m : List Sp) (w : World) (h : Sps w A l) (hl : l.length ≤ 9223372036854775807) (hm : Sps w B m) (hml : m.length ≤ 9223372036854775807) :
    Calls Tryz.prog 128 #[.agg #[.slice A l.length c], .agg #[.slice B m.length cb]] w fun e w' => e = .returned (.bool (insideF l m)) ∧ Grows w w' := by
  have k2 := (Blk.new w 45 #[.slice A l.length c]).alloc (Obj.cells #[.slice B m.length cb] 45)
  have k3 := blk_new_at (X := w.alloc (Obj.cells #[.slice A l.length c] 45)) (n := w.heap.size + 1) (t := 45) (cs := #[.slice B m.length cb]) (by simp)
  have hB := ((Below.refl w.heap.size w).alloc (Nat.le_refl _) (Obj.cells #[.slice A l.length c] 45)).alloc (by simp) (Obj.cells #[.slice B m.length cb] 45)
  go_enter Tryz.func128, Tryz.ntmps128
  go_upto_region 1 with fail
  generalize World.alloc (World.alloc w _) _ = w1 at *
  have x3 := k3.cell 0
  obtain ⟨A2, c2, ev2, hat⟩ := spV_is A c l
  obtain ⟨A3, c3, ev3, hbt⟩ := spV_is B cb m
  go_wp2_with fail
  refine (spans_val B cb m _ (hm.grows hB) hml).mono ?_
  rw [ev3]
  rintro e w2 ⟨rfl, hq⟩
  replace hB := below_grows hB (Nat.le_refl _) hq
  replace k2 := k2.grows hq
  have h3 := hbt w hm
  clear x3 k3 hq hbt ev3
  have x2 := k2.cell 0
  go_wp2_with fail
  refine (spans_val A c l _ (h.grows hB) hl).mono ?_
  rw [ev2]
  rintro e w3 ⟨rfl, hq⟩
  replace hB := below_grows hB (Nat.le_refl _) hq
  have h2 := hat w h
  clear x2 k2 hq hat ev2
  have hla := spansF_len l
  have hlb := spansF_len m
  have HF : Hid (insideF l m = (spansF l).all fun z => (spansF m).any fun x => insP z x) := Lib.hid rfl
  have HN : Hid (∀ z ∈ spansF l, ((spansF m).any fun x => insP z x) = false → insideF l m = false) := Lib.hid fun z hz hc => inside_no hz hc
  generalize spansF l = a at *
  generalize spansF m = b at *
  go_wp2_with fail
  go_loopw [13] (fun i wr => ∃ k : Nat, k ≤ a.length ∧ i = .int .i64 k ∧ Hid (((a.take k).all fun z => b.any fun x => insP z x) = true) ∧ Below w.heap.size w wr) (fun i _ => a.length - (intOf i).toNat)
  case atStart => exact ⟨0, by omega, rfl, Lib.hid rfl, hB⟩
  case round =>
    clear hB
    obtain ⟨k, hk, rfl, hall, hB⟩ := hrel
    by_cases hlt : k < a.length
    · obtain ⟨ad, z, rfl, had, hx, c0, c1⟩ := (h2.grows hB).elem hlt
      have HX := Lib.hid (all_snoc' (fun z => b.any fun x => insP z x) hx)
      have HM : Hid (z ∈ a) := Lib.hid (List.mem_of_getElem? hx)
      clear hx
      have k7 := Blk.new wr 93 #[.int .i64 z.1, .int .i64 z.2]
      have hq := (Below.refl wr.heap.size wr).alloc (Nat.le_refl _) (Obj.cells #[.int .i64 z.1, .int .i64 z.2] 93)
      replace hB := below_grows hB (Nat.le_refl _) hq
      clear hq
      go_upto_region 5 with fail
      generalize World.alloc wr _ = w4 at *
      generalize wr.heap.size = G7 at *
      clear c0 c1
      go_wp2_with fail
      refine (cont_ins z A3 c3 b _ _ k7 (h3.grows hB) (by omega)).mono ?_
      rintro e w5 ⟨rfl, hq⟩
      replace hB := below_grows hB (Nat.le_refl _) hq
      clear hq k7
      cases hc : b.any fun x => insP z x
      · have HR : Hid (insideF l m = false) := Lib.hid (HN.out z HM.out hc)
        go_wp2
        go_ret
        exact ⟨ret_bool HR.out.symm, hB⟩
      · have HK : Hid (((a.take (k + 1)).all fun z => b.any fun x => insP z x) = true) := Lib.hid (by rw [HX.out, hall.out, hc]; rfl)
        go_wp2
        go_roundw
        case rel => exact ⟨k + 1, by omega, by go_num, HK, hB⟩
        case measure => simp [intOf]; omega
    · have e : a.take k = a := List.take_of_length_le (by omega)
      rw [e] at hall
      have HR : Hid (insideF l m = true) := Lib.hid (by rw [HF.out, hall.out])
      clear e
      go_wp2
      go_ret
      exact ⟨ret_bool HR.out.symm, hB⟩
set_option maxRecDepth 100000 in
set_option maxHeartbeats 16000000 in
theorem rinside_any (A : Option Addr) (c : Nat) (l : List Sp) (B : Option Addr) (cb : Nat) (m : List Sp) (w : World) (h : Sps w A l) (hl : l.length ≤ 9223372036854775807) (hm : Sps w B m) (hml : m.length ≤ 9223372036854775807) :
    Calls Tryz.prog 111 #[.agg #[.slice A l.length c], .agg #[.slice B m.length cb]] w fun e w' => e = .returned (.bool (insideF l m)) ∧ Grows w w' := by
  have k2 := (Blk.new w 45 #[.slice A l.length c]).alloc (Obj.cells #[.slice B m.length cb] 45)
  have k3 := blk_new_at (X := w.alloc (Obj.cells #[.slice A l.length c] 45)) (n := w.heap.size + 1) (t := 45) (cs := #[.slice B m.length cb]) (by simp)
  have hB := ((Below.refl w.heap.size w).alloc (Nat.le_refl _) (Obj.cells #[.slice A l.length c] 45)).alloc (by simp) (Obj.cells #[.slice B m.length cb] 45)
  go_enter Tryz.func111, Tryz.ntmps111
  go_upto_region 1 with fail
  generalize World.alloc (World.alloc w _) _ = w1 at *
  have x2 := k2.cell 0
  obtain ⟨A2, c2, ev2, hat⟩ := spV_is A c l
  obtain ⟨A3, c3, ev3, hbt⟩ := spV_is B cb m
  go_wp2_with fail
  refine (rspans_val A c l _ (h.grows hB) hl).mono ?_
  rw [ev2]
  rintro e w2 ⟨rfl, hq⟩
  replace hB := below_grows hB (Nat.le_refl _) hq
  replace k3 := k3.grows hq
  have h2 := hat w h
  have h3 := hbt w hm
  clear x2 k2 hq hat ev2 hbt
  have hla := spansF_len l
  have hlb := spansF_len m
  have HF : Hid (insideF l m = (spansF l).all fun z => (spansF m).any fun x => insP z x) := Lib.hid rfl
  have HN : Hid (∀ z ∈ spansF l, ((spansF m).any fun x => insP z x) = false → insideF l m = false) := Lib.hid fun z hz hc => inside_no hz hc
  have CB : ∀ w0, Sps w0 B m → Calls Tryz.prog 119 #[.agg #[.slice B m.length cb]] w0 fun e w' => e = .returned (.slice A3 (spansF m).length c3) ∧ Grows w0 w' := fun w0 h0 => by
    rw [← ev3]
    exact rspans_val B cb m w0 h0 hml
  clear ev3
  generalize spansF l = a at *
  generalize spansF m = b at *
  go_wp2_with fail
  go_loopw [13] (fun i wr => ∃ k : Nat, k ≤ a.length ∧ i = .int .i64 k ∧ Hid (((a.take k).all fun z => b.any fun x => insP z x) = true) ∧ Below w.heap.size w wr ∧ Blk wr (w.heap.size + 1) 45 #[.slice B m.length cb]) (fun i _ => a.length - (intOf i).toNat)
  case atStart => exact ⟨0, by omega, rfl, Lib.hid rfl, hB, k3⟩
  case round =>
    clear hB k3
    obtain ⟨k, hk, rfl, hall, hB, k3⟩ := hrel
    by_cases hlt : k < a.length
    · obtain ⟨ad, z, rfl, had, hx, c0, c1⟩ := (h2.grows hB).elem hlt
      have HX := Lib.hid (all_snoc' (fun z => b.any fun x => insP z x) hx)
      have HM : Hid (z ∈ a) := Lib.hid (List.mem_of_getElem? hx)
      clear hx
      have k6 := Blk.new wr 93 #[.int .i64 z.1, .int .i64 z.2]
      have hq := (Below.refl wr.heap.size wr).alloc (Nat.le_refl _) (Obj.cells #[.int .i64 z.1, .int .i64 z.2] 93)
      replace hB := below_grows hB (Nat.le_refl _) hq
      replace k3 := k3.grows hq
      clear hq
      go_upto_region 5 with fail
      generalize World.alloc wr _ = w4 at *
      generalize wr.heap.size = G7 at *
      clear c0 c1
      have x3 := k3.cell 0
      go_wp2_with fail
      refine (CB _ (hm.grows hB)).mono ?_
      rintro e w5 ⟨rfl, hq⟩
      replace hB := below_grows hB (Nat.le_refl _) hq
      replace k3 := k3.grows hq
      replace k6 := k6.grows hq
      clear hq x3
      go_wp2_with fail
      go_loopw [7, 20] (fun t i wr => ∃ j : Nat, j ≤ b.length ∧ i = .int .i64 j ∧ t = .bool ((b.take j).any fun x => insP z x) ∧ Below w5.heap.size w5 wr) (fun _ i _ => b.length - (intOf i).toNat)
      case atStart => exact ⟨0, by omega, rfl, rfl, Below.refl _ _⟩
      case round =>
        obtain ⟨j, hj, rfl, rfl, hg⟩ := hrel
        by_cases hjt : j < b.length
        · obtain ⟨ad2, y, rfl, had2, hy, d0, d1⟩ := (h3.grows (below_grows hB (Nat.le_refl _) hg)).elem hjt
          have HY := Lib.hid (any_snoc (fun x => insP z x) hy)
          clear hy
          have k9 := Blk.new wr 93 #[.int .i64 y.1, .int .i64 y.2]
          have hq := (Below.refl wr.heap.size wr).alloc (Nat.le_refl _) (Obj.cells #[.int .i64 y.1, .int .i64 y.2] 93)
          replace hg := below_grows hg (Nat.le_refl _) hq
          clear hq
          go_upto_region 8 with fail
          clear d0 d1
          generalize World.alloc wr _ = w6 at *
          generalize wr.heap.size = G9 at *
          have k6' := k6.grows hg
          have e0 := k6'.cell 0
          have e1 := k6'.cell 1
          have f0 := k9.cell 0
          have f1 := k9.cell 1
          generalize hT : ((b.take j).any fun x => insP z x) = t at *
          cases t
          · by_cases h1 : y.1 ≤ z.1
            · by_cases h2 : z.2 ≤ y.2
              · have HV : Hid (((b.take (j + 1)).any fun x => insP z x) = true) := Lib.hid (by rw [HY.out]; simp [insP, h1, h2])
                clear HY hT
                go_wp2
                go_roundw
                case rel => exact ⟨j + 1, by omega, by go_num, by rw [HV.out], hg⟩
                case measure => simp [intOf]; omega
              · have HV : Hid (((b.take (j + 1)).any fun x => insP z x) = false) := Lib.hid (by rw [HY.out]; simp [insP, h2])
                clear HY hT
                go_wp2
                go_roundw
                case rel => exact ⟨j + 1, by omega, by go_num, by rw [HV.out], hg⟩
                case measure => simp [intOf]; omega
            · have HV : Hid (((b.take (j + 1)).any fun x => insP z x) = false) := Lib.hid (by rw [HY.out]; simp [insP, h1])
              clear HY hT
              go_wp2
              go_roundw
              case rel => exact ⟨j + 1, by omega, by go_num, by rw [HV.out], hg⟩
              case measure => simp [intOf]; omega
          · have HV : Hid (((b.take (j + 1)).any fun x => insP z x) = true) := Lib.hid (by rw [HY.out]; rfl)
            clear HY hT
            go_wp2
            go_roundw
            case rel => exact ⟨j + 1, by omega, by go_num, by rw [HV.out], hg⟩
            case measure => simp [intOf]; omega
        · have e : b.take j = b := List.take_of_length_le (by omega)
          rw [e]
          clear e
          replace hB := below_grows hB (Nat.le_refl _) hg
          replace k3 := k3.grows hg
          cases hc : b.any fun x => insP z x
          · have HR : Hid (insideF l m = false) := Lib.hid (HN.out z HM.out hc)
            go_wp2
            go_ret
            exact ⟨ret_bool HR.out.symm, hB⟩
          · have HK : Hid (((a.take (k + 1)).all fun z => b.any fun x => insP z x) = true) := Lib.hid (by rw [HX.out, hall.out, hc]; rfl)
            go_wp2
            go_roundw
            case rel => exact ⟨k + 1, by omega, by go_num, HK, hB, k3⟩
            case measure => simp [intOf]; omega
    · have e : a.take k = a := List.take_of_length_le (by omega)
      rw [e] at hall
      have HR : Hid (insideF l m = true) := Lib.hid (by rw [HF.out, hall.out])
      clear e
      go_wp2
      go_ret
      exact ⟨ret_bool HR.out.symm, hB⟩
end Go.Proofs.YtnbdpnlepcjmmaaGreat

namespace Go.Proofs.YtnbdpnlepcjmmaaGreat
open Go.RowKit
/-- A row of channel maps of one's own, apart from what its members take, which lies at or above lo. -/
def OwnMq (w : World) (base : Nat) (ok : Nat → Prop) (v : Value) (ms : List (List Int)) : Prop :=
  ∃ vs, w.ownsRow base 23 1 v ms.length vs ∧ ∀ (i : Nat) (x : List Int), ms[i]? = some x → ∃ B c, vs[i]? = some (.slice B x.length c) ∧ x.length ≤ c ∧ InB w ok B x ∧ (∀ ad, B = some ad → 0 < x.length → v.ownBlock ≠ some ad.block)
section
variable {w w' : World} {base g : Nat} {ok : Nat → Prop} {v : Value} {ms : List (List Int)}
theorem OwnMq.nil : OwnMq w base ok (.slice none 0 0) [] := ⟨[], World.ownsRow_nil w base _ 1, fun i x h => by simp at h⟩
theorem OwnMq.grows (h : OwnMq w base ok v ms) (hg : Grows w w') : OwnMq w' base ok v ms := by
  obtain ⟨vs, h1, h2⟩ := h
  exact ⟨vs, own_grows h1 hg, fun i x hx => by obtain ⟨B, c, e, hc, hi, hn⟩ := h2 i x hx; exact ⟨B, c, e, hc, hi.grows hg, hn⟩⟩
theorem OwnMq.only (h : OwnMq w base ok v ms) (hg : w.grownBy w' (some g)) (hb : g < base) (hl : ¬ ok g) : OwnMq w' base ok v ms := by
  obtain ⟨vs, h1, h2⟩ := h
  refine ⟨vs, World.ownsRow.kept h1 hg ?_, fun i x hx => by obtain ⟨B, c, e, hc, hi, hn⟩ := h2 i x hx; exact ⟨B, c, e, hc, RdB.grown hi hg (fun q e => by injection e with e; exact e ▸ hl), hn⟩⟩
  cases e : v.ownBlock with
  | none => exact .inl rfl
  | some q =>
    refine .inr fun e2 => ?_
    have := (World.ownsRow.lt h1 q e).1
    injection e2 with e2
    omega
theorem OwnMq.lt (h : OwnMq w base ok v ms) : ∀ q, v.ownBlock = some q → base ≤ q ∧ q < w.heap.size := by
  obtain ⟨vs, h1, -⟩ := h
  exact World.ownsRow.lt h1
theorem OwnMq.read (h : OwnMq w base ok v ms) : ∃ A c, v = .slice A ms.length c ∧ ms.length ≤ c ∧ MapsR w (fun k => ok k ∨ base ≤ k) A ms := by
  obtain ⟨vs, h1, h2⟩ := h
  have hlt := World.ownsRow.lt h1
  rcases h1.2 with ⟨rfl, hn⟩ | ⟨q, cap, cur, rfl, hbq, hg, hnc, hm, hs, ht⟩
  · have e := List.eq_nil_of_length_eq_zero hn
    subst e
    exact ⟨none, 0, rfl, Nat.le_refl _, MapsR.nil⟩
  · refine ⟨_, cap, rfl, hnc, vs, ⟨Reads.of_own h1, fun _ ad e => ?_⟩, fun i x hx => by obtain ⟨B, c, e, hc, hi, _⟩ := h2 i x hx; exact ⟨B, c, e, hc, hi.mono (fun k hk => Or.inl hk)⟩⟩
    injection e with e
    subst e
    exact Or.inr hbq
end
theorem wpList_append_mapq {ops : Array Oper} {rest : List Oper} {o : Oper} {a : Act} {w : World} {Q : Exit → Act → World → Prop} (hgd : o.guard = none) (s x : Operand) (ho : o.op = .call { callee := .builtin .append, args := #[s, x], argTypes := #[46, 46] })
    {base : Nat} {ok : Nat → Prop} {v : Value} {ms : List (List Int)} {m : List Int} {A B : Option Addr} {c cm : Nat} (hs : a.eval s = v) (hown : OwnMq w base ok v ms) (hx : a.eval x = .slice A 1 c) (hr : Reads w w.heap.size 1 A 1 [.slice B m.length cm]) (hlen : ms.length + 1 ≤ 1000000) (hbase : base ≤ w.heap.size)
    (hm : InB w ok B m) (hcm : m.length ≤ cm) (hne : ∀ ad, B = some ad → 0 < m.length → v.ownBlock ≠ some ad.block)
    (h : ∀ v' w', OwnMq w' base ok v' (ms ++ [m]) → w.grownBy w' v.ownBlock → wpList Tryz.prog ops Q rest (a.put o.dst v') w') : wpList Tryz.prog ops Q (o :: rest) a w := by
  obtain ⟨i0, hi0, hi1, hi2, hi3, hi4⟩ := ms_info
  obtain ⟨vs, h1, h2⟩ := hown
  refine wpList_append_any w hgd s x 46 ho base 23 i0 _ 1 24 Tryz.underlying46 hi0 hi3 hi1 hi2 hi4 (by omega) v ms.length vs hs h1 w.heap.size A 1 c [.slice B m.length cm] hx hr (by intro u hu; simp only [List.mem_singleton] at hu; subst hu; rfl) (by simp only [maxLen]; omega) (by omega) hbase fun v' w' h3 h4 h5 => h v' w' ⟨vs ++ [.slice B m.length cm], by rw [List.length_append]; exact h3, fun i y hy => ?_⟩ h4
  have hapart : ∀ (y : List Int) (C : Option Addr), InB w ok C y → (∀ ad, C = some ad → 0 < y.length → v.ownBlock ≠ some ad.block) → ∀ ad, C = some ad → 0 < y.length → v'.ownBlock ≠ some ad.block := by
    intro y C hy hn ad e hl e2
    rcases h5 with h5 | h5
    · exact hn ad e hl (h5 ▸ e2)
    · rw [h5] at e2
      injection e2 with e2
      obtain ⟨ad0, e0, hb, _⟩ := hy.1.2 hl
      rw [e] at e0
      injection e0 with e0
      subst e0
      omega
  have hvl : vs.length = ms.length := by have := h1.1; omega
  by_cases hi : i < ms.length
  · rw [List.getElem?_append_left hi] at hy
    obtain ⟨C, cy, e, hc, hi6, hn⟩ := h2 i y hy
    exact ⟨C, cy, by rw [List.getElem?_append_left (by omega)]; exact e, hc, hi6.away h4 hn, hapart y C hi6 hn⟩
  · rw [List.getElem?_append_right (by omega)] at hy
    have hi0 : i - ms.length = 0 := by
      have := (List.getElem?_eq_some_iff.1 hy).1
      simp only [List.length_singleton] at this
      omega
    rw [hi0] at hy
    simp only [List.getElem?_cons_zero, Option.some.injEq] at hy
    subst hy
    exact ⟨B, cm, by rw [List.getElem?_append_right (by omega), show i - vs.length = 0 by omega]; rfl, hcm, hm.away h4 hne, hapart m B hm hne⟩
def Aq (ok : Nat → Prop) (v : Value) : Nat → Prop := fun k => ok k ∧ v.ownBlock ≠ some k
def OwnBq (w : World) (base : Nat) (ok : Nat → Prop) (v : Value) (l : List Bx) : Prop :=
  ∃ vs, w.ownsRow base 48 4 v l.length vs ∧ ∀ (i : Nat) (b : Bx), l[i]? = some b → ∃ A1 c1 A2 c2 A3 c3, BoxP w (Aq ok v) b A1 c1 A2 c2 A3 c3 ∧ ∀ j < 4, vs[i * 4 + j]? = (b.cs A1 c1 A2 c2 A3 c3)[j]?
section
variable {w w' : World} {base g : Nat} {ok : Nat → Prop} {v : Value} {l : List Bx}
theorem OwnBq.nil : OwnBq w base ok (.slice none 0 0) [] := ⟨[], World.ownsRow_nil w base _ 4, fun i x h => by simp at h⟩
theorem OwnBq.grows (h : OwnBq w base ok v l) (hg : Grows w w') : OwnBq w' base ok v l := by
  obtain ⟨vs, h1, h2⟩ := h
  exact ⟨vs, own_grows h1 hg, fun i x hx => by obtain ⟨A1, c1, A2, c2, A3, c3, hp, hc⟩ := h2 i x hx; exact ⟨A1, c1, A2, c2, A3, c3, hp.grows hg, hc⟩⟩
theorem OwnBq.only (h : OwnBq w base ok v l) (hg : w.grownBy w' (some g)) (hb : g < base) (hl : ¬ ok g) : OwnBq w' base ok v l := by
  obtain ⟨vs, h1, h2⟩ := h
  refine ⟨vs, World.ownsRow.kept h1 hg ?_, fun i x hx => by obtain ⟨A1, c1, A2, c2, A3, c3, hp, hc⟩ := h2 i x hx; exact ⟨A1, c1, A2, c2, A3, c3, hp.grown hg (fun q e hq => by injection e with e; exact hl (e ▸ hq.1)), hc⟩⟩
  cases e : v.ownBlock with
  | none => exact .inl rfl
  | some q =>
    refine .inr fun e2 => ?_
    have := (World.ownsRow.lt h1 q e).1
    injection e2 with e2
    omega
theorem OwnBq.lt (h : OwnBq w base ok v l) : ∀ q, v.ownBlock = some q → base ≤ q ∧ q < w.heap.size := by
  obtain ⟨vs, h1, -⟩ := h
  exact World.ownsRow.lt h1
theorem OwnBq.read (h : OwnBq w base ok v l) : ∃ A c, v = .slice A l.length c ∧ l.length ≤ c ∧ Bxs w (fun k => ok k ∨ base ≤ k) A l := by
  obtain ⟨vs, h1, h2⟩ := h
  have h3 : ∀ (i : Nat) (b : Bx), l[i]? = some b → ∃ A1 c1 A2 c2 A3 c3, BoxP w (fun k => ok k ∨ base ≤ k) b A1 c1 A2 c2 A3 c3 ∧ ∀ j < 4, vs[i * 4 + j]? = (b.cs A1 c1 A2 c2 A3 c3)[j]? := fun i b hx => by
    obtain ⟨A1, c1, A2, c2, A3, c3, hp, hc⟩ := h2 i b hx
    exact ⟨A1, c1, A2, c2, A3, c3, hp.mono (fun k hk => Or.inl hk.1), hc⟩
  rcases h1.2 with ⟨rfl, hn⟩ | ⟨q, cap, cur, rfl, hbq, hg, hnc, hm, hs, ht⟩
  · have e := List.eq_nil_of_length_eq_zero hn
    subst e
    exact ⟨none, 0, rfl, Nat.le_refl _, Bxs.nil⟩
  · refine ⟨_, cap, rfl, hnc, vs, ⟨Reads.of_own h1, fun _ ad e => ?_⟩, h3⟩
    injection e with e
    subst e
    exact Or.inr hbq
end
theorem wpList_append_boxesq {ops : Array Oper} {rest : List Oper} {o : Oper} {a : Act} {w : World} {Q : Exit → Act → World → Prop} (hgd : o.guard = none) (s x : Operand) (ho : o.op = .call { callee := .builtin .append, args := #[s, x], argTypes := #[22, 22] })
    {base : Nat} {ok : Nat → Prop} {v : Value} {l m : List Bx} {A : Option Addr} {c n : Nat} (hn : n = m.length) (hs : a.eval s = v) (hown : OwnBq w base ok v l) (hx : a.eval x = .slice A n c) (hr : Bxs w (Aq ok v) A m) (hlen : l.length + m.length ≤ 1000000) (hbase : base ≤ w.heap.size)
    (h : ∀ v' w', OwnBq w' base ok v' (l ++ m) → w.grownBy w' v.ownBlock → (v'.ownBlock = v.ownBlock ∨ v'.ownBlock = some w.heap.size) → wpList Tryz.prog ops Q rest (a.put o.dst v') w') : wpList Tryz.prog ops Q (o :: rest) a w := by
  obtain ⟨i0, hi0, hi1, hi2, hi3, hi4⟩ := box_info
  obtain ⟨vs, h1, h2⟩ := hown
  obtain ⟨us, r1, r2⟩ := hr
  subst hn
  have hul := r1.1.1
  have hvl := h1.1
  refine wpList_append_any w hgd s x 22 ho base 48 i0 _ 4 80 Tryz.underlying22 hi0 hi3 hi1 hi2 hi4 (by omega) v l.length vs hs h1 w.heap.size A m.length c us hx r1.1 (bxs_one hul fun i b hb => by obtain ⟨A1, c1, A2, c2, A3, c3, _, hc⟩ := r2 i b hb; exact ⟨A1, c1, A2, c2, A3, c3, hc⟩) (by simp only [maxLen]; omega) (by omega) hbase fun v' w' h3 h4 h5 => h v' w' ⟨vs ++ us, by rw [List.length_append]; exact h3, fun i b hb => ?_⟩ h4 h5
  have hto : ∀ (b : Bx) (A1 : Option Addr) (c1 : Nat) (A2 : Option Addr) (c2 : Nat) (A3 : Option Addr) (c3 : Nat), BoxP w (Aq ok v) b A1 c1 A2 c2 A3 c3 → BoxP w' (Aq ok v') b A1 c1 A2 c2 A3 c3 := by
    intro b A1 c1 A2 c2 A3 c3 hp
    refine (hp.band.grown h4 (fun q e hq => hq.1.2 e)).mono fun k hk => ⟨hk.1.1, fun e => ?_⟩
    rcases h5 with h5 | h5
    · exact hk.1.2 (h5 ▸ e)
    · rw [h5] at e
      injection e with e
      have := hk.2
      omega
  by_cases hi : i < l.length
  · rw [List.getElem?_append_left hi] at hb
    obtain ⟨A1, c1, A2, c2, A3, c3, hp, hc⟩ := h2 i b hb
    exact ⟨A1, c1, A2, c2, A3, c3, hto _ _ _ _ _ _ _ hp, fun j hj => by rw [List.getElem?_append_left (by omega)]; exact hc j hj⟩
  · rw [List.getElem?_append_right (by omega)] at hb
    obtain ⟨A1, c1, A2, c2, A3, c3, hp, hc⟩ := r2 _ b hb
    exact ⟨A1, c1, A2, c2, A3, c3, hto _ _ _ _ _ _ _ hp, fun j hj => by rw [List.getElem?_append_right (by omega), show i * 4 + j - vs.length = (i - l.length) * 4 + j by omega]; exact hc j hj⟩
end Go.Proofs.YtnbdpnlepcjmmaaGreat

namespace Go.Proofs.YtnbdpnlepcjmmaaGreat
open Go.RowKit
/-- A list of ints in a block of its own, behind g. -/
def IB (g : Nat) (w : World) (q : Nat) (l : List Int) : Prop := g < q ∧ Blk w q 3 (l.map (Value.int .i64)).toArray
theorem IB.ints {g : Nat} {w : World} {q : Nat} {l : List Int} (h : IB g w q l) : Ints w (some ⟨q, 0, none⟩) l := by
 refine ⟨by simp, fun _ => ⟨_, rfl, h.2.lt, fun j u hu => ?_⟩⟩
 rw [add_head, h.2.cell, ← Array.getElem?_toList]
 exact hu
set_option maxHeartbeats 4000000 in
theorem maps_blk (w : World) : ∃ W A, Calls Tryz.prog 75 #[] w (fun e w' => e = .returned (.slice (some A) 7 7) ∧ w' = W) ∧ (∀ (k : Nat) (m : List Int), mapsL[k]? = some m → W.cell? (A.add k) = some (.slice (some ⟨w.heap.size + k, 0, none⟩) m.length m.length) ∧ Blk W (w.heap.size + k) 3 (m.map (Value.int .i64)).toArray) ∧ A.block < W.heap.size ∧ w.heap.size ≤ A.block ∧ Grows w W := by
 obtain ⟨W1, hW1⟩ : ∃ W, W = w.alloc (Obj.cells #[.int .i64 3] 3) := ⟨_, rfl⟩
 have s1 : W1.heap.size = w.heap.size + 1 := by rw [hW1]; simp
 have i1 : Blk W1 (w.heap.size + 0) 3 #[.int .i64 3] := by rw [hW1]; exact Blk.new _ _ _
 have g1 : Grows w W1 := by rw [hW1]; exact (Below.refl _ _).alloc (Nat.le_refl _) _
 obtain ⟨W2, hW2⟩ : ∃ W, W = W1.alloc (Obj.cells #[.int .i64 1, .int .i64 2] 3) := ⟨_, rfl⟩
 have s2 : W2.heap.size = w.heap.size + 2 := by rw [hW2]; simp [s1]
 have i2 : Blk W2 (w.heap.size + 1) 3 #[.int .i64 1, .int .i64 2] := by rw [← s1, hW2]; exact Blk.new _ _ _
 have g2 : Grows W1 W2 := by rw [hW2]; exact (Below.refl _ _).alloc (Nat.le_refl _) _
 obtain ⟨W3, hW3⟩ : ∃ W, W = W2.alloc (Obj.cells #[.int .i64 1, .int .i64 2, .int .i64 3, .int .i64 4, .int .i64 5, .int .i64 6] 3) := ⟨_, rfl⟩
 have s3 : W3.heap.size = w.heap.size + 3 := by rw [hW3]; simp [s2]
 have i3 : Blk W3 (w.heap.size + 2) 3 #[.int .i64 1, .int .i64 2, .int .i64 3, .int .i64 4, .int .i64 5, .int .i64 6] := by rw [← s2, hW3]; exact Blk.new _ _ _
 have g3 : Grows W2 W3 := by rw [hW3]; exact (Below.refl _ _).alloc (Nat.le_refl _) _
 obtain ⟨W4, hW4⟩ : ∃ W, W = W3.alloc (Obj.cells #[.int .i64 2, .int .i64 1] 3) := ⟨_, rfl⟩
 have s4 : W4.heap.size = w.heap.size + 4 := by rw [hW4]; simp [s3]
 have i4 : Blk W4 (w.heap.size + 3) 3 #[.int .i64 2, .int .i64 1] := by rw [← s3, hW4]; exact Blk.new _ _ _
 have g4 : Grows W3 W4 := by rw [hW4]; exact (Below.refl _ _).alloc (Nat.le_refl _) _
 obtain ⟨W5, hW5⟩ : ∃ W, W = W4.alloc (Obj.cells #[.int .i64 1, .int .i64 2, .int .i64 7, .int .i64 8] 3) := ⟨_, rfl⟩
 have s5 : W5.heap.size = w.heap.size + 5 := by rw [hW5]; simp [s4]
 have i5 : Blk W5 (w.heap.size + 4) 3 #[.int .i64 1, .int .i64 2, .int .i64 7, .int .i64 8] := by rw [← s4, hW5]; exact Blk.new _ _ _
 have g5 : Grows W4 W5 := by rw [hW5]; exact (Below.refl _ _).alloc (Nat.le_refl _) _
 obtain ⟨W6, hW6⟩ : ∃ W, W = W5.alloc (Obj.cells #[.int .i64 4] 3) := ⟨_, rfl⟩
 have s6 : W6.heap.size = w.heap.size + 6 := by rw [hW6]; simp [s5]
 have i6 : Blk W6 (w.heap.size + 5) 3 #[.int .i64 4] := by rw [← s5, hW6]; exact Blk.new _ _ _
 have g6 : Grows W5 W6 := by rw [hW6]; exact (Below.refl _ _).alloc (Nat.le_refl _) _
 obtain ⟨W7, hW7⟩ : ∃ W, W = W6.alloc (Obj.cells #[.int .i64 1, .int .i64 3] 3) := ⟨_, rfl⟩
 have s7 : W7.heap.size = w.heap.size + 7 := by rw [hW7]; simp [s6]
 have i7 : Blk W7 (w.heap.size + 6) 3 #[.int .i64 1, .int .i64 3] := by rw [← s6, hW7]; exact Blk.new _ _ _
 have g7 : Grows W6 W7 := by rw [hW7]; exact (Below.refl _ _).alloc (Nat.le_refl _) _
 obtain ⟨W8, hW8⟩ : ∃ W, W = W7.alloc (Obj.cells #[.slice (some ⟨w.heap.size, 0, none⟩) 1 1, .slice (some ⟨w.heap.size + 1, 0, none⟩) 2 2, .slice (some ⟨w.heap.size + 2, 0, none⟩) 6 6, .slice (some ⟨w.heap.size + 3, 0, none⟩) 2 2, .slice (some ⟨w.heap.size + 4, 0, none⟩) 4 4, .slice (some ⟨w.heap.size + 5, 0, none⟩) 1 1, .slice (some ⟨w.heap.size + 6, 0, none⟩) 2 2] 23) := ⟨_, rfl⟩
 have k8 : Blk W8 (w.heap.size + 7) 23 #[.slice (some ⟨w.heap.size, 0, none⟩) 1 1, .slice (some ⟨w.heap.size + 1, 0, none⟩) 2 2, .slice (some ⟨w.heap.size + 2, 0, none⟩) 6 6, .slice (some ⟨w.heap.size + 3, 0, none⟩) 2 2, .slice (some ⟨w.heap.size + 4, 0, none⟩) 4 4, .slice (some ⟨w.heap.size + 5, 0, none⟩) 1 1, .slice (some ⟨w.heap.size + 6, 0, none⟩) 2 2] := by rw [hW8, ← s7]; exact Blk.new _ _ _
 have g8 : Grows W7 W8 := by rw [hW8]; exact (Below.refl _ _).alloc (Nat.le_refl _) _
 have s8 : W8.heap.size = w.heap.size + 8 := by rw [hW8]; simp [s7]
 have j1 := (((((((i1.grows g2).grows g3).grows g4).grows g5).grows g6).grows g7).grows g8)
 have j2 := ((((((i2.grows g3).grows g4).grows g5).grows g6).grows g7).grows g8)
 have j3 := (((((i3.grows g4).grows g5).grows g6).grows g7).grows g8)
 have j4 := ((((i4.grows g5).grows g6).grows g7).grows g8)
 have j5 := (((i5.grows g6).grows g7).grows g8)
 have j6 := ((i6.grows g7).grows g8)
 have j7 := (i7.grows g8)
 have gA : Grows w W8 := (below_grows (below_grows (below_grows (below_grows (below_grows (below_grows (below_grows g1 (Nat.le_refl _) g2) (Nat.le_refl _) g3) (Nat.le_refl _) g4) (Nat.le_refl _) g5) (Nat.le_refl _) g6) (Nat.le_refl _) g7) (Nat.le_refl _) g8)
 refine ⟨W8, ⟨w.heap.size + 7, 0, none⟩, ?_, fun k m hm => ?_, by rw [s8]; exact Nat.lt_succ_self _, Nat.le_add_right _ _, gA⟩
 ·clear gA k8 i1 i2 i3 i4 i5 i6 i7 j1 j2 j3 j4 j5 j6 j7 g1 g2 g3 g4 g5 g6 g7 g8 s1 s2 s3 s4 s5 s6 s7 s8
  subst hW1 hW2 hW3 hW4 hW5 hW6 hW7 hW8
  go_enter Tryz.func75, Tryz.ntmps75
  go_wp2
  go_ret
  exact ⟨rfl, rfl⟩
 ·rw [add_head, k8.cell]
  match k, hm with
  | 0, hm => (injection hm with hm; subst hm; exact ⟨rfl, j1⟩)
  | 1, hm => (injection hm with hm; subst hm; exact ⟨rfl, j2⟩)
  | 2, hm => (injection hm with hm; subst hm; exact ⟨rfl, j3⟩)
  | 3, hm => (injection hm with hm; subst hm; exact ⟨rfl, j4⟩)
  | 4, hm => (injection hm with hm; subst hm; exact ⟨rfl, j5⟩)
  | 5, hm => (injection hm with hm; subst hm; exact ⟨rfl, j6⟩)
  | 6, hm => (injection hm with hm; subst hm; exact ⟨rfl, j7⟩)
  | i + 7, hm => exact absurd (List.getElem?_eq_some_iff.1 hm).1 (by rw [mapsL_len]; omega)
set_option maxHeartbeats 4000000 in
theorem mapb_any (B g : Nat) (w : World) (h : DR w B g) : Calls Tryz.prog 37 #[.pointer (some ⟨g, 0, none⟩)] w fun e w' => (∃ m q, e = .returned (.slice (some ⟨q, 0, none⟩) (m : List Int).length m.length) ∧ m ∈ mapsL ∧ w.heap.size ≤ q ∧ IB g w' q m) ∧ DR w' B g ∧ w.grownBy w' (some g) := by
 have hgl := h.lt
 obtain ⟨W, A, hcall, hm, hA, hA2, hg⟩ := maps_blk w
 replace h := h.grows hg
 have hq := d_only_grows (World.grownBy.refl w (some g)) hg
 go_enter Tryz.func37, Tryz.ntmps37
 go_wp2_with fail
 refine hcall.mono ?_
 rintro e w1 ⟨rfl, rfl⟩
 clear hcall
 go_wp2_with fail
 refine (rolls_any B g 7 _ h (by omega) (by omega)).mono ?_
 rintro e w2 ⟨⟨r, rfl, hr0, hr1⟩, hD, hq2⟩
 replace hq := only_trans hq hq2
 obtain ⟨k, rfl⟩ : ∃ k : Nat, r = (k : Int) := ⟨r.toNat, by omega⟩
 have hk7 : k < mapsL.length := by rw [mapsL_len]; omega
 obtain ⟨hc, hb⟩ := hm k _ (List.getElem?_eq_getElem hk7)
 have HX := Lib.hid (List.getElem_mem hk7)
 generalize mapsL[k] = m at *
 replace hb := hb.grown hq2 (by intro e; injection e; omega)
 have q0 : w2.cell? (A.add k) = some (.slice (some ⟨w.heap.size + k, 0, none⟩) m.length m.length) := by
  rw [← hc]
  exact World.cell?_of_block (hq2.block _ (by rw [block_of_add]; exact hA) (by rw [block_of_add]; intro e; injection e; omega))
 clear hq2 h hg hm hc
 go_wp2
 go_ret
 exact ⟨⟨m, _, rfl, HX.out, Nat.le_add_right _ _, by omega, hb⟩, hD, hq⟩
/-- What leaves the blocks of ints alone, but for g. -/
def TrI (g : Nat) (w w' : World) : Prop := ∀ (q : Nat) (l : List Int), IB g w q l → IB g w' q l
theorem tr_grows {g : Nat} {w w' : World} (h : Grows w w') : TrI g w w' := fun _ _ hb => ⟨hb.1, hb.2.grows h⟩
theorem tr_only {g : Nat} {w w' : World} (h : w.grownBy w' (some g)) : TrI g w w' := fun _ _ hb => ⟨hb.1, hb.2.grown h (by intro e; injection e with e; have := hb.1; omega)⟩
theorem tr_onlyq {g eb : Nat} {w w' : World} (hg : g ≤ eb) (h : w.grownBy w' (some g)) : TrI eb w w' := fun _ _ hb => ⟨hb.1, hb.2.grown h (by intro e; injection e with e; have := hb.1; omega)⟩
theorem tr_set {g q : Nat} {w : World} {t : TypeId} {cs : Array Value} (h : Blk w q t cs) (hne : 3 ≠ t) (i : Nat) (u : Value) : TrI g w (w.setCell ⟨q, i, none⟩ u) := fun _ _ hb => ⟨hb.1, hb.2.far (p := ⟨q, i, none⟩) (Blk.ne_ hb.2 h hne) u⟩
theorem tr_trans {g : Nat} {a b c : World} (h : TrI g a b) (h2 : TrI g b c) : TrI g a c := fun q l hb => h2 q l (h q l hb)
structure GT (g : Nat) where
 P : World → Value → Prop
 cl : ∀ w w' v, P w v → TrI g w w' → P w' v
def DtS {g : Nat} (DS : List (Option (GT g))) (L : Ran) (vs : Nat → Value) (w : World) : Prop := ∀ (j : Nat) (p : GT g), DS[j]? = some (some p) → L j = true → p.P w (vs j)
section
variable {g : Nat} {DS : List (Option (GT g))} {L : Ran} {vs : Nat → Value} {w w' : World} {k : Nat} {u : Value}
theorem dt_none (DS : List (Option (GT g))) (vs : Nat → Value) (w : World) : DtS DS (fun _ => false) vs w := fun _ _ _ h => by cases h
theorem DtS.tr (h : DtS DS L vs w) (hg : TrI g w w') : DtS DS L vs w' := fun j P hj hL => P.cl w w' (vs j) (h j P hj hL) hg
theorem dt_free (h : DtS DS L vs w) (hk : DS[k]? = some none) : DtS DS (upd L k) (setV vs k u) w := by
 intro j P hj hL
 unfold setV
 unfold upd at hL
 by_cases e : j = k
 ·subst e
  rw [hk] at hj
  cases hj
 ·rw [if_neg e] at hL ⊢
  exact h j P hj hL
theorem dt_put {p : GT g} (h : DtS DS L vs w) (hk : DS[k]? = some (some p)) (hP : p.P w u) : DtS DS (upd L k) (setV vs k u) w := by
 intro j P' hj hL
 unfold setV
 unfold upd at hL
 by_cases e : j = k
 ·subst e
  rw [hk] at hj
  injection hj with hj
  injection hj with hj
  subst hj
  rw [if_pos rfl]
  exact hP
 ·rw [if_neg e] at hL ⊢
  exact h j P' hj hL
end
def gInt (g : Nat) (lo hi : Int) : GT g := ⟨fun _ v => ∃ r, v = .int .i64 r ∧ lo ≤ r ∧ r ≤ hi, fun _ _ _ h _ => h⟩
def gIdx (g n : Nat) : GT g := ⟨fun _ v => ∃ k : Nat, v = .int .i64 (k : Int) ∧ k < n, fun _ _ _ h _ => h⟩
def gLit (g : Nat) (l : List Int) : GT g := ⟨fun w v => ∃ q, v = .slice (some ⟨q, 0, none⟩) 5 5 ∧ IB g w q l, fun _ _ _ ⟨q, e, h⟩ t => ⟨q, e, t q l h⟩⟩
def gPtr (g : Nat) (l : List Int) : GT g := ⟨fun w v => ∃ q k, v = .pointer (some ⟨q, k, none⟩) ∧ k < 5 ∧ IB g w q l, fun _ _ _ ⟨q, k, e, hk, h⟩ t => ⟨q, k, e, hk, t q l h⟩⟩
def gMap (g : Nat) : GT g := ⟨fun w v => ∃ (m : List Int) (q : Nat), v = .slice (some ⟨q, 0, none⟩) m.length m.length ∧ m ∈ mapsL ∧ IB g w q m, fun _ _ _ ⟨m, q, e, hm, h⟩ t => ⟨m, q, e, hm, t q m h⟩⟩
def gFmt (g : Nat) : GT g := ⟨fun w v => ∃ (a b : Int) (m : List Int) (q : Nat), v = .agg #[.int .i64 a, .int .i64 b, .slice (some ⟨q, 0, none⟩) m.length m.length] ∧ 0 ≤ b ∧ b ≤ 100000 ∧ m ∈ mapsL ∧ IB g w q m, fun _ _ _ ⟨a, b, m, q, e, h1, h2, hm, h⟩ t => ⟨a, b, m, q, e, h1, h2, hm, t q m h⟩⟩
def CQ (c : Ch) (q : Nat) : Array Value := #[.int .i64 c.k, .int .i64 c.r, .slice (some ⟨q, 0, none⟩) c.m.length c.m.length, .int .i64 c.s]
def gCho (g : Nat) : GT g := ⟨fun w v => ∃ (c : Ch) (q : Nat), v = .agg (CQ c q) ∧ OKC c ∧ c.m ∈ mapsL ∧ IB g w q c.m, fun _ _ _ ⟨c, q, e, h1, hm, h⟩ t => ⟨c, q, e, h1, hm, t q c.m h⟩⟩
end Go.Proofs.YtnbdpnlepcjmmaaGreat

namespace Go.Proofs.YtnbdpnlepcjmmaaGreat
open Go.RowKit
theorem bestL_okc {c : Ch} {l : List Bx} (h : ∀ b ∈ l, OKB b) : OKC (bestL (bestR c) c l).1 := by
 unfold bestL
 have key : ∀ (m : List Bx) (s : Ch × Bool), (∀ b ∈ m, OKB b) → OKC s.1 → OKC (m.foldl (bestStep (bestR c) c) s).1 := by
  intro m
  induction m with
  | nil => exact fun s _ hs => hs
  | cons b m ih =>
   intro s hm hs
   refine ih _ (fun b hb => hm b (List.mem_cons_of_mem _ hb)) ?_
   unfold bestStep
   split
   ·exact okc_bestR (hm b (List.mem_cons_self ..))
   ·exact hs
 exact key _ _ (boxes_ok h) okc_zero
set_option maxHeartbeats 32000000 in
set_option maxRecDepth 10000 in
theorem choice_anyq (B g : Nat) {ok : Nat → Prop} {A : Option Addr} {c0 : Nat} {l : List Bx} (w : World) (h : DR w B g) (hl : Bxs w ok A l) (hln : l.length ≤ 1000000) (hlc : l.length ≤ c0) (hf : Fine l) (hxg : ∀ k, ok k → g < k) : Calls Tryz.prog 12 #[.pointer (some ⟨g, 0, none⟩), .slice A l.length c0] w fun e w' => (∃ c v, e = .returned v ∧ ChV w' (fun k => ok k ∨ w.heap.size ≤ k) c v ∧ OKC c) ∧ DR w' B g ∧ w.grownBy w' (some g) := by
 have HF := Lib.hid hf
 clear hf
 have hgl := h.lt
 obtain ⟨eb, heb⟩ : ∃ eb, eb + 1 = w.heap.size := ⟨w.heap.size - 1, by omega⟩
 have hgeb : g ≤ eb := by omega
 have hBg := h.lo
 have k4 := Blk.new w 27 #[.int .i64 0, .int .i64 0, .slice none 0 0, .int .i64 0]
 have hB := (Below.refl w.heap.size w).alloc (Nat.le_refl _) (Obj.cells #[.int .i64 0, .int .i64 0, .slice none 0 0, .int .i64 0] 27)
 have hbw := hl.bd
 clear hl
 go_enter Tryz.func12, Tryz.ntmps12
 go_upto_region 1 with fail
 have hD := h.grows hB
 have hO := d_only_grows (World.grownBy.refl w (some g)) hB
 clear hB h
 generalize World.alloc w _ = w0 at *
 obtain ⟨S, HI, HO⟩ := hideS fun (L : Ran) (vs : Nat → Value) (w' : World) => Blk w' w.heap.size 27 #[.int .i64 0, .int .i64 0, .slice none 0 0, .int .i64 0] ∧ DR w' B g ∧ w.grownBy w' (some g) ∧ KnS [some (.pointer (some ⟨g, 0, none⟩)), none, none, none, some (.pointer (some ⟨g, 0, none⟩)), none, none, none, some (.pointer (some ⟨g, 0, none⟩)), none, none, none, some (.pointer (some ⟨g, 0, none⟩)), none, none, none, none, none, none] L vs ∧ DtS ([none, some (gInt eb 0 6), some (gInt eb 1 7), some (gLit eb [44100, 48000, 8000, 40000, 96000]), none, some (gIdx eb 5), some (gPtr eb [44100, 48000, 8000, 40000, 96000]), some (gInt eb 0 100000), none, some (gMap eb), some (gFmt eb), some (gLit eb [16, 64, 100, 1024, 2048]), none, some (gIdx eb 5), some (gPtr eb [16, 64, 100, 1024, 2048]), some (gInt eb 0 100000), some (gCho eb), none, none] : List (Option (GT eb))) L vs w' ∧ (L 17 = true → ∃ q5, vs 17 = .pointer (some ⟨q5, 0, none⟩) ∧ w.heap.size < q5 ∧ (L 18 = false → Blk w' q5 27 #[.int .i64 0, .int .i64 0, .slice none 0 0, .int .i64 0]) ∧ (L 18 = true → ∃ (c : Ch) (q : Nat), Blk w' q5 27 (CQ c q) ∧ OKC c ∧ c.m ∈ mapsL ∧ IB eb w' q c.m)) ∧ (L 18 = true → L 17 = true)
 refine wp_region_genW S 47 (by kernel_rfl) (by kernel_rfl) rfl ?_ ?_
 ·exact HI.out _ _ _ ⟨k4.grows (Grows.drew' _), hD.grows (Grows.drew' _), d_only_grows hO (Grows.drew' _), kn_none _ _, dt_none _ _ _, (fun h => by cases h), (fun h => by cases h)⟩
 refine gen_consR (fun vs L w1 hL hw1 => ?_) ?_
 ·obtain ⟨q0, qd, qo, q1, q2, qp, qs⟩ := HO.out _ _ _ hw1
  refine gen_plain rfl ?_
  go_simp
  exact gr_val (HI.out _ _ _ ⟨q0, qd, qo, kn_known q1 rfl, dt_free q2 rfl, qp, qs⟩)
 refine gen_consR (fun vs L w1 hL hw1 => ?_) ?_
 ·obtain ⟨q0, qd, qo, q1, q2, qp, qs⟩ := HO.out _ _ _ hw1
  refine gen_plain rfl ?_
  have l0 : L 0 = true := hL.need 0 (by kernel_rfl)
  have e0 := q1 0 _ rfl l0
  simp only [e0]
  go_simp
  refine gr_call ?_
  refine (rolls_any B g 7 _ qd (by omega) (by omega)).mono ?_
  rintro e w2 ⟨⟨r, rfl, hr0, hr1⟩, hd2, hq⟩
  exact ⟨_, rfl, HI.out _ _ _ ⟨q0.grown hq (by intro e; injection e; omega), hd2, only_trans qo hq, kn_free q1 rfl, dt_put (q2.tr (tr_onlyq hgeb hq)) rfl (⟨r, rfl, hr0, by omega⟩), (fun h => by obtain ⟨q5, e5, h5, hz, hc⟩ := qp h; exact ⟨q5, e5, h5, fun h0 => (hz h0).grown hq (by intro e; injection e; omega), fun h0 => by obtain ⟨c, q, hb, hok, hm, hi⟩ := hc h0; exact ⟨c, q, hb.grown hq (by intro e; injection e; omega), hok, hm, tr_onlyq hgeb hq _ _ hi⟩⟩), qs⟩⟩
 refine gen_consR (fun vs L w1 hL hw1 => ?_) ?_
 ·obtain ⟨q0, qd, qo, q1, q2, qp, qs⟩ := HO.out _ _ _ hw1
  refine gen_plain rfl ?_
  have l1 : L 1 = true := hL.need 1 (by kernel_rfl)
  obtain ⟨r, e1, hr0, hr1⟩ := q2 1 _ rfl l1
  have hwr : IntKind.i64.wrap (1 + r) = 1 + r := IntWalk.i64_in _ (by omega)
  simp only [e1]
  go_simp
  exact gr_val (HI.out _ _ _ ⟨q0, qd, qo, kn_free q1 rfl, dt_put q2 rfl (⟨1 + r, rfl, by omega, by omega⟩), qp, qs⟩)
 refine gen_consR (fun vs L w1 hL hw1 => ?_) ?_
 ·obtain ⟨q0, qd, qo, q1, q2, qp, qs⟩ := HO.out _ _ _ hw1
  refine gen_plain rfl ?_
  have hk := Blk.new w1 3 #[.int .i64 44100, .int .i64 48000, .int .i64 8000, .int .i64 40000, .int .i64 96000]
  have hg := (Below.refl w1.heap.size w1).alloc (Nat.le_refl _) (Obj.cells #[.int .i64 44100, .int .i64 48000, .int .i64 8000, .int .i64 40000, .int .i64 96000] 3)
  have hsz := qo.size
  have hgl1 : eb < w1.heap.size := by omega
  go_simp
  exact gr_val (HI.out _ _ _ ⟨q0.grows hg, qd.grows hg, d_only_grows qo hg, kn_free q1 rfl, dt_put (q2.tr (tr_grows hg)) rfl ⟨_, rfl, hgl1, hk⟩, (fun h => by obtain ⟨q5, e5, h5, hz, hc⟩ := qp h; exact ⟨q5, e5, h5, fun h0 => (hz h0).grows hg, fun h0 => by obtain ⟨c, q, hb, hok, hm, hi⟩ := hc h0; exact ⟨c, q, hb.grows hg, hok, hm, tr_grows hg _ _ hi⟩⟩), qs⟩)
 refine gen_consR (fun vs L w1 hL hw1 => ?_) ?_
 ·obtain ⟨q0, qd, qo, q1, q2, qp, qs⟩ := HO.out _ _ _ hw1
  refine gen_plain rfl ?_
  go_simp
  exact gr_val (HI.out _ _ _ ⟨q0, qd, qo, kn_known q1 rfl, dt_free q2 rfl, qp, qs⟩)
 refine gen_consR (fun vs L w1 hL hw1 => ?_) ?_
 ·obtain ⟨q0, qd, qo, q1, q2, qp, qs⟩ := HO.out _ _ _ hw1
  refine gen_plain rfl ?_
  have l4 : L 4 = true := hL.need 4 (by kernel_rfl)
  have e4 := q1 4 _ rfl l4
  simp only [e4]
  go_simp
  refine gr_call ?_
  refine (rolls_any B g 5 _ qd (by omega) (by omega)).mono ?_
  rintro e w2 ⟨⟨r, rfl, hr0, hr1⟩, hd2, hq⟩
  exact ⟨_, rfl, HI.out _ _ _ ⟨q0.grown hq (by intro e; injection e; omega), hd2, only_trans qo hq, kn_free q1 rfl, dt_put (q2.tr (tr_onlyq hgeb hq)) rfl (⟨r.toNat, by rw [Int.toNat_of_nonneg hr0], by omega⟩), (fun h => by obtain ⟨q5, e5, h5, hz, hc⟩ := qp h; exact ⟨q5, e5, h5, fun h0 => (hz h0).grown hq (by intro e; injection e; omega), fun h0 => by obtain ⟨c, q, hb, hok, hm, hi⟩ := hc h0; exact ⟨c, q, hb.grown hq (by intro e; injection e; omega), hok, hm, tr_onlyq hgeb hq _ _ hi⟩⟩), qs⟩⟩
 refine gen_consR (fun vs L w1 hL hw1 => ?_) ?_
 ·obtain ⟨q0, qd, qo, q1, q2, qp, qs⟩ := HO.out _ _ _ hw1
  refine gen_plain rfl ?_
  have l3 : L 3 = true := hL.need 3 (by kernel_rfl)
  obtain ⟨qa, e3, hib⟩ := q2 3 _ rfl l3
  have l5 : L 5 = true := hL.need 5 (by kernel_rfl)
  obtain ⟨kb, e5, hkb⟩ := q2 5 _ rfl l5
  have hkb2 : (kb : Int) < 5 := by omega
  simp only [e3, e5]
  go_simp
  exact gr_val (HI.out _ _ _ ⟨q0, qd, qo, kn_free q1 rfl, dt_put q2 rfl (⟨qa, kb, rfl, hkb, hib⟩), qp, qs⟩)
 refine gen_consR (fun vs L w1 hL hw1 => ?_) ?_
 ·obtain ⟨q0, qd, qo, q1, q2, qp, qs⟩ := HO.out _ _ _ hw1
  refine gen_plain rfl ?_
  have l6 : L 6 = true := hL.need 6 (by kernel_rfl)
  obtain ⟨qa, kb, e6, hkb, hib⟩ := q2 6 _ rfl l6
  have hx : w1.cell? ⟨qa, kb, none⟩ = some (.int .i64 (([44100, 48000, 8000, 40000, 96000] : List Int).getD kb 0)) := by
   rw [hib.2.cell]
   match kb, hkb with
   | 0, _ => rfl
   | 1, _ => rfl
   | 2, _ => rfl
   | 3, _ => rfl
   | 4, _ => rfl
  have hr : 0 ≤ ([44100, 48000, 8000, 40000, 96000] : List Int).getD kb 0 ∧ ([44100, 48000, 8000, 40000, 96000] : List Int).getD kb 0 ≤ 100000 := by
   match kb, hkb with
   | 0, _ => decide
   | 1, _ => decide
   | 2, _ => decide
   | 3, _ => decide
   | 4, _ => decide
  generalize ([44100, 48000, 8000, 40000, 96000] : List Int).getD kb 0 = rv at *
  simp only [e6]
  go_simp
  exact gr_val (HI.out _ _ _ ⟨q0, qd, qo, kn_free q1 rfl, dt_put q2 rfl (⟨rv, rfl, hr.1, hr.2⟩), qp, qs⟩)
 refine gen_consR (fun vs L w1 hL hw1 => ?_) ?_
 ·obtain ⟨q0, qd, qo, q1, q2, qp, qs⟩ := HO.out _ _ _ hw1
  refine gen_plain rfl ?_
  go_simp
  exact gr_val (HI.out _ _ _ ⟨q0, qd, qo, kn_known q1 rfl, dt_free q2 rfl, qp, qs⟩)
 refine gen_consR (fun vs L w1 hL hw1 => ?_) ?_
 ·obtain ⟨q0, qd, qo, q1, q2, qp, qs⟩ := HO.out _ _ _ hw1
  refine gen_plain rfl ?_
  have l8 : L 8 = true := hL.need 8 (by kernel_rfl)
  have e8 := q1 8 _ rfl l8
  simp only [e8]
  go_simp
  refine gr_call ?_
  refine (mapb_any B g _ qd).mono ?_
  rintro e w2 ⟨⟨m, q, rfl, hm, hq1, hib⟩, hd2, hq⟩
  replace hib : IB eb w2 q m := ⟨by have := qo.size; omega, hib.2⟩
  exact ⟨_, rfl, HI.out _ _ _ ⟨q0.grown hq (by intro e; injection e; omega), hd2, only_trans qo hq, kn_free q1 rfl, dt_put (q2.tr (tr_onlyq hgeb hq)) rfl (⟨m, q, rfl, hm, hib⟩), (fun h => by obtain ⟨q5, e5, h5, hz, hc⟩ := qp h; exact ⟨q5, e5, h5, fun h0 => (hz h0).grown hq (by intro e; injection e; omega), fun h0 => by obtain ⟨c, q, hb, hok, hm, hi⟩ := hc h0; exact ⟨c, q, hb.grown hq (by intro e; injection e; omega), hok, hm, tr_onlyq hgeb hq _ _ hi⟩⟩), qs⟩⟩
 refine gen_consR (fun vs L w1 hL hw1 => ?_) ?_
 ·obtain ⟨q0, qd, qo, q1, q2, qp, qs⟩ := HO.out _ _ _ hw1
  refine gen_plain rfl ?_
  have l2 : L 2 = true := hL.need 2 (by kernel_rfl)
  obtain ⟨r2, e2, h20, h21⟩ := q2 2 _ rfl l2
  have l7 : L 7 = true := hL.need 7 (by kernel_rfl)
  obtain ⟨r7, e7, h70, h71⟩ := q2 7 _ rfl l7
  have l9 : L 9 = true := hL.need 9 (by kernel_rfl)
  obtain ⟨m, q, e9, hm, hib⟩ := q2 9 _ rfl l9
  simp only [e2, e7, e9]
  go_simp
  exact gr_val (HI.out _ _ _ ⟨q0, qd, qo, kn_free q1 rfl, dt_put q2 rfl (⟨r2, r7, m, q, rfl, h70, h71, hm, hib⟩), qp, qs⟩)
 refine gen_consR (fun vs L w1 hL hw1 => ?_) ?_
 ·obtain ⟨q0, qd, qo, q1, q2, qp, qs⟩ := HO.out _ _ _ hw1
  refine gen_plain rfl ?_
  have hk := Blk.new w1 3 #[.int .i64 16, .int .i64 64, .int .i64 100, .int .i64 1024, .int .i64 2048]
  have hg := (Below.refl w1.heap.size w1).alloc (Nat.le_refl _) (Obj.cells #[.int .i64 16, .int .i64 64, .int .i64 100, .int .i64 1024, .int .i64 2048] 3)
  have hsz := qo.size
  have hgl1 : eb < w1.heap.size := by omega
  go_simp
  exact gr_val (HI.out _ _ _ ⟨q0.grows hg, qd.grows hg, d_only_grows qo hg, kn_free q1 rfl, dt_put (q2.tr (tr_grows hg)) rfl ⟨_, rfl, hgl1, hk⟩, (fun h => by obtain ⟨q5, e5, h5, hz, hc⟩ := qp h; exact ⟨q5, e5, h5, fun h0 => (hz h0).grows hg, fun h0 => by obtain ⟨c, q, hb, hok, hm, hi⟩ := hc h0; exact ⟨c, q, hb.grows hg, hok, hm, tr_grows hg _ _ hi⟩⟩), qs⟩)
 refine gen_consR (fun vs L w1 hL hw1 => ?_) ?_
 ·obtain ⟨q0, qd, qo, q1, q2, qp, qs⟩ := HO.out _ _ _ hw1
  refine gen_plain rfl ?_
  go_simp
  exact gr_val (HI.out _ _ _ ⟨q0, qd, qo, kn_known q1 rfl, dt_free q2 rfl, qp, qs⟩)
 refine gen_consR (fun vs L w1 hL hw1 => ?_) ?_
 ·obtain ⟨q0, qd, qo, q1, q2, qp, qs⟩ := HO.out _ _ _ hw1
  refine gen_plain rfl ?_
  have l12 : L 12 = true := hL.need 12 (by kernel_rfl)
  have e12 := q1 12 _ rfl l12
  simp only [e12]
  go_simp
  refine gr_call ?_
  refine (rolls_any B g 5 _ qd (by omega) (by omega)).mono ?_
  rintro e w2 ⟨⟨r, rfl, hr0, hr1⟩, hd2, hq⟩
  exact ⟨_, rfl, HI.out _ _ _ ⟨q0.grown hq (by intro e; injection e; omega), hd2, only_trans qo hq, kn_free q1 rfl, dt_put (q2.tr (tr_onlyq hgeb hq)) rfl (⟨r.toNat, by rw [Int.toNat_of_nonneg hr0], by omega⟩), (fun h => by obtain ⟨q5, e5, h5, hz, hc⟩ := qp h; exact ⟨q5, e5, h5, fun h0 => (hz h0).grown hq (by intro e; injection e; omega), fun h0 => by obtain ⟨c, q, hb, hok, hm, hi⟩ := hc h0; exact ⟨c, q, hb.grown hq (by intro e; injection e; omega), hok, hm, tr_onlyq hgeb hq _ _ hi⟩⟩), qs⟩⟩
 refine gen_consR (fun vs L w1 hL hw1 => ?_) ?_
 ·obtain ⟨q0, qd, qo, q1, q2, qp, qs⟩ := HO.out _ _ _ hw1
  refine gen_plain rfl ?_
  have l11 : L 11 = true := hL.need 11 (by kernel_rfl)
  obtain ⟨qa, e11, hib⟩ := q2 11 _ rfl l11
  have l13 : L 13 = true := hL.need 13 (by kernel_rfl)
  obtain ⟨kb, e13, hkb⟩ := q2 13 _ rfl l13
  have hkb2 : (kb : Int) < 5 := by omega
  simp only [e11, e13]
  go_simp
  exact gr_val (HI.out _ _ _ ⟨q0, qd, qo, kn_free q1 rfl, dt_put q2 rfl (⟨qa, kb, rfl, hkb, hib⟩), qp, qs⟩)
 refine gen_consR (fun vs L w1 hL hw1 => ?_) ?_
 ·obtain ⟨q0, qd, qo, q1, q2, qp, qs⟩ := HO.out _ _ _ hw1
  refine gen_plain rfl ?_
  have l14 : L 14 = true := hL.need 14 (by kernel_rfl)
  obtain ⟨qa, kb, e14, hkb, hib⟩ := q2 14 _ rfl l14
  have hx : w1.cell? ⟨qa, kb, none⟩ = some (.int .i64 (([16, 64, 100, 1024, 2048] : List Int).getD kb 0)) := by
   rw [hib.2.cell]
   match kb, hkb with
   | 0, _ => rfl
   | 1, _ => rfl
   | 2, _ => rfl
   | 3, _ => rfl
   | 4, _ => rfl
  have hr : 0 ≤ ([16, 64, 100, 1024, 2048] : List Int).getD kb 0 ∧ ([16, 64, 100, 1024, 2048] : List Int).getD kb 0 ≤ 100000 := by
   match kb, hkb with
   | 0, _ => decide
   | 1, _ => decide
   | 2, _ => decide
   | 3, _ => decide
   | 4, _ => decide
  generalize ([16, 64, 100, 1024, 2048] : List Int).getD kb 0 = rv at *
  simp only [e14]
  go_simp
  exact gr_val (HI.out _ _ _ ⟨q0, qd, qo, kn_free q1 rfl, dt_put q2 rfl (⟨rv, rfl, hr.1, hr.2⟩), qp, qs⟩)
 refine gen_consR (fun vs L w1 hL hw1 => ?_) ?_
 ·obtain ⟨q0, qd, qo, q1, q2, qp, qs⟩ := HO.out _ _ _ hw1
  refine gen_plain rfl ?_
  have l10 : L 10 = true := hL.need 10 (by kernel_rfl)
  obtain ⟨a, b, m, q, e10, hb0, hb1, hm, hib⟩ := q2 10 _ rfl l10
  have l15 : L 15 = true := hL.need 15 (by kernel_rfl)
  obtain ⟨r7, e15, h70, h71⟩ := q2 15 _ rfl l15
  simp only [e10, e15]
  go_simp
  exact gr_val (HI.out _ _ _ ⟨q0, qd, qo, kn_free q1 rfl, dt_put q2 rfl (⟨⟨a, b, m, r7⟩, q, rfl, ⟨by show I64 b; unfold I64; omega, by show I64 r7; unfold I64; omega, by have := (mapsL_ok m hm).2.2; show m.length ≤ 1000000; omega⟩, hm, hib⟩), qp, qs⟩)
 refine gen_consR (fun vs L w1 hL hw1 => ?_) ?_
 ·obtain ⟨q0, qd, qo, q1, q2, qp, qs⟩ := HO.out _ _ _ hw1
  refine gen_plain rfl ?_
  have n17 : L 17 = false := hL.1
  have n18 : L 18 = false := by
   cases h : L 18
   ·rfl
   ·rw [qs h] at n17; cases n17
  have hk := Blk.new w1 27 #[.int .i64 0, .int .i64 0, .slice none 0 0, .int .i64 0]
  have hg := (Below.refl w1.heap.size w1).alloc (Nat.le_refl _) (Obj.cells #[.int .i64 0, .int .i64 0, .slice none 0 0, .int .i64 0] 27)
  have hlt := q0.lt
  go_simp
  exact gr_val (HI.out _ _ _ ⟨q0.grows hg, qd.grows hg, d_only_grows qo hg, kn_free q1 rfl, dt_free (q2.tr (tr_grows hg)) rfl, (fun _ => ⟨_, rfl, hlt, fun _ => hk, fun h => by rw [show L 18 = true from h] at n18; cases n18⟩), (fun h => by rw [show L 18 = true from h] at n18; cases n18)⟩)
 refine gen_consR (fun vs L w1 hL hw1 => ?_) ?_
 ·obtain ⟨q0, qd, qo, q1, q2, qp, qs⟩ := HO.out _ _ _ hw1
  refine gen_plain rfl ?_
  have n18 : L 18 = false := hL.1
  have l17 : L 17 = true := hL.need 17 (by kernel_rfl)
  have l16 : L 16 = true := hL.need 16 (by kernel_rfl)
  obtain ⟨q5, e17, h5, hz, -⟩ := qp l17
  obtain ⟨c, q, e16, hok, hm, hib⟩ := q2 16 _ rfl l16
  have hk := hz n18
  have hcl := hk.cell
  have hfz := hk.frozen
  unfold CQ at e16
  simp only [e17, e16]
  go_simp
  refine gr_skip (show S (upd L 18) (setV vs 18 undef) _ from HI.out _ _ _ ?_)
  have hT : TrI eb w1 _ := (tr_trans (tr_trans (tr_trans (tr_set hk (by decide) 0 (.int .i64 c.k)) (tr_set (hk.set_ 0 (.int .i64 c.k)) (by decide) 1 (.int .i64 c.r))) (tr_set ((hk.set_ 0 (.int .i64 c.k)).set_ 1 (.int .i64 c.r)) (by decide) 2 (.slice (some ⟨q, 0, none⟩) c.m.length c.m.length))) (tr_set (((hk.set_ 0 (.int .i64 c.k)).set_ 1 (.int .i64 c.r)).set_ 2 (.slice (some ⟨q, 0, none⟩) c.m.length c.m.length)) (by decide) 3 (.int .i64 c.s)))
  exact ⟨((((q0.far (p := ⟨q5, 0, none⟩) (Nat.ne_of_lt h5) (.int .i64 c.k)).far (p := ⟨q5, 1, none⟩) (Nat.ne_of_lt h5) (.int .i64 c.r)).far (p := ⟨q5, 2, none⟩) (Nat.ne_of_lt h5) (.slice (some ⟨q, 0, none⟩) c.m.length c.m.length)).far (p := ⟨q5, 3, none⟩) (Nat.ne_of_lt h5) (.int .i64 c.s)), ((((qd.put (p := ⟨q5, 0, none⟩) (Nat.le_trans hBg (Nat.le_of_lt (Nat.lt_trans hgl h5))) (Nat.ne_of_lt (Nat.lt_trans hgl h5)) (.int .i64 c.k)).put (p := ⟨q5, 1, none⟩) (Nat.le_trans hBg (Nat.le_of_lt (Nat.lt_trans hgl h5))) (Nat.ne_of_lt (Nat.lt_trans hgl h5)) (.int .i64 c.r)).put (p := ⟨q5, 2, none⟩) (Nat.le_trans hBg (Nat.le_of_lt (Nat.lt_trans hgl h5))) (Nat.ne_of_lt (Nat.lt_trans hgl h5)) (.slice (some ⟨q, 0, none⟩) c.m.length c.m.length)).put (p := ⟨q5, 3, none⟩) (Nat.le_trans hBg (Nat.le_of_lt (Nat.lt_trans hgl h5))) (Nat.ne_of_lt (Nat.lt_trans hgl h5)) (.int .i64 c.s)), (only_set (only_set (only_set (only_set qo (p := ⟨q5, 0, none⟩) (Nat.le_of_lt h5) (.int .i64 c.k)) (p := ⟨q5, 1, none⟩) (Nat.le_of_lt h5) (.int .i64 c.r)) (p := ⟨q5, 2, none⟩) (Nat.le_of_lt h5) (.slice (some ⟨q, 0, none⟩) c.m.length c.m.length)) (p := ⟨q5, 3, none⟩) (Nat.le_of_lt h5) (.int .i64 c.s)), kn_free q1 rfl, dt_free (q2.tr hT) rfl, (fun _ => ⟨q5, e17, h5, (fun h => by cases h), fun _ => ⟨c, q, ((((hk.set_ 0 (.int .i64 c.k)).set_ 1 (.int .i64 c.r)).set_ 2 (.slice (some ⟨q, 0, none⟩) c.m.length c.m.length)).set_ 3 (.int .i64 c.s)), hok, hm, hT _ _ hib⟩⟩), (fun _ => l17)⟩
 refine gen_nil ?_
 intro vs L W2 hall hS
 obtain ⟨k4, hD, hO, -, -, qp, -⟩ := HO.out _ _ _ hS
 obtain ⟨q5, e17, h5, -, hc⟩ := qp (hall 17 (by simp))
 obtain ⟨c, q, k5, hokc, hm, hib⟩ := hc (hall 18 (by simp))
 clear hall hS HI HO qp hc
 simp only [e17]
 generalize vs 0 = y0 at *
 generalize vs 1 = y1 at *
 generalize vs 2 = y2 at *
 generalize vs 3 = y3 at *
 generalize vs 4 = y4 at *
 generalize vs 5 = y5 at *
 generalize vs 6 = y6 at *
 generalize vs 7 = y7 at *
 generalize vs 8 = y8 at *
 generalize vs 9 = y9 at *
 generalize vs 10 = y10 at *
 generalize vs 11 = y11 at *
 generalize vs 12 = y12 at *
 generalize vs 13 = y13 at *
 generalize vs 14 = y14 at *
 generalize vs 15 = y15 at *
 generalize vs 16 = y16 at *
 clear e17
 have hb2 : Below w.heap.size w W2 ∨ True := .inr trivial
 clear hb2
 by_cases h0 : l.length = 0
 ·have d1 : decide (0 < l.length) = false := by simp only [decide_eq_false_iff_not]; omega
  obtain rfl := List.eq_nil_of_length_eq_zero h0
  have xc := k5.cell
  unfold CQ at xc
  have x4 := k4.cell
  have hf4 := k4.frozen
  have y4 := ((((k4.set_ 0 (.int .i64 c.k)).set_ 1 (.int .i64 c.r)).set_ 2 (.slice (some ⟨q, 0, none⟩) c.m.length c.m.length)).set_ 3 (.int .i64 c.s))
  have yD := ((((hD.put (p := ⟨w.heap.size, 0, none⟩) (Nat.le_trans hBg (Nat.le_of_lt hgl)) (Nat.ne_of_lt hgl) (.int .i64 c.k)).put (p := ⟨w.heap.size, 1, none⟩) (Nat.le_trans hBg (Nat.le_of_lt hgl)) (Nat.ne_of_lt hgl) (.int .i64 c.r)).put (p := ⟨w.heap.size, 2, none⟩) (Nat.le_trans hBg (Nat.le_of_lt hgl)) (Nat.ne_of_lt hgl) (.slice (some ⟨q, 0, none⟩) c.m.length c.m.length)).put (p := ⟨w.heap.size, 3, none⟩) (Nat.le_trans hBg (Nat.le_of_lt hgl)) (Nat.ne_of_lt hgl) (.int .i64 c.s))
  have yO := (only_set (only_set (only_set (only_set hO (p := ⟨w.heap.size, 0, none⟩) (Nat.le_refl _) (.int .i64 c.k)) (p := ⟨w.heap.size, 1, none⟩) (Nat.le_refl _) (.int .i64 c.r)) (p := ⟨w.heap.size, 2, none⟩) (Nat.le_refl _) (.slice (some ⟨q, 0, none⟩) c.m.length c.m.length)) (p := ⟨w.heap.size, 3, none⟩) (Nat.le_refl _) (.int .i64 c.s))
  have hT : TrI eb _ _ := (tr_trans (tr_trans (tr_trans (tr_set k4 (by decide) 0 (.int .i64 c.k)) (tr_set (k4.set_ 0 (.int .i64 c.k)) (by decide) 1 (.int .i64 c.r))) (tr_set ((k4.set_ 0 (.int .i64 c.k)).set_ 1 (.int .i64 c.r)) (by decide) 2 (.slice (some ⟨q, 0, none⟩) c.m.length c.m.length))) (tr_set (((k4.set_ 0 (.int .i64 c.k)).set_ 1 (.int .i64 c.r)).set_ 2 (.slice (some ⟨q, 0, none⟩) c.m.length c.m.length)) (by decide) 3 (.int .i64 c.s)))
  have yI := hT _ _ hib
  have y6 := y4.cell
  clear k4 hD hO k5
  go_wp2
  refine bodyPost_ret (v := .agg #[.int .i64 c.k, .int .i64 c.r, .slice (some ⟨q, 0, none⟩) c.m.length c.m.length, .int .i64 c.s]) (by simp [results, Tryz.results12, go_sem, y6]) rfl ⟨⟨c, _, rfl, ⟨some ⟨q, 0, none⟩, c.m.length, rfl, Nat.le_refl _, ⟨yI.ints, fun _ ad e => by injection e with e; subst e; exact Or.inr (by have := yI.1; show w.heap.size ≤ q; omega)⟩⟩, hokc⟩, yD, yO⟩
 have d1 : decide (0 < l.length) = true := by simp only [decide_eq_true_eq]; omega
 have d1b : decide ((0 : Int) < (l.length : Int)) = true := by simp only [decide_eq_true_eq]; omega
 go_wp2_with fail
 refine (rolls_any B g 4 _ hD (by omega) (by omega)).mono ?_
 rintro e W3 ⟨⟨r4, rfl, hr40, hr41⟩, hDn, hq⟩
 replace hD := hDn
 replace k4 := k4.grown hq (by intro e; injection e; omega)
 replace k5 := k5.grown hq (by intro e; injection e; omega)
 replace hib := tr_onlyq hgeb hq _ _ hib
 replace hO := only_trans hO hq
 clear hq hDn
 by_cases h4 : 0 < r4
 case neg =>
  have d2 : decide (0 < r4) = false := by simpa using h4
  have xc := k5.cell
  unfold CQ at xc
  have x4 := k4.cell
  have hf4 := k4.frozen
  have y4 := ((((k4.set_ 0 (.int .i64 c.k)).set_ 1 (.int .i64 c.r)).set_ 2 (.slice (some ⟨q, 0, none⟩) c.m.length c.m.length)).set_ 3 (.int .i64 c.s))
  have yD := ((((hD.put (p := ⟨w.heap.size, 0, none⟩) (Nat.le_trans hBg (Nat.le_of_lt hgl)) (Nat.ne_of_lt hgl) (.int .i64 c.k)).put (p := ⟨w.heap.size, 1, none⟩) (Nat.le_trans hBg (Nat.le_of_lt hgl)) (Nat.ne_of_lt hgl) (.int .i64 c.r)).put (p := ⟨w.heap.size, 2, none⟩) (Nat.le_trans hBg (Nat.le_of_lt hgl)) (Nat.ne_of_lt hgl) (.slice (some ⟨q, 0, none⟩) c.m.length c.m.length)).put (p := ⟨w.heap.size, 3, none⟩) (Nat.le_trans hBg (Nat.le_of_lt hgl)) (Nat.ne_of_lt hgl) (.int .i64 c.s))
  have yO := (only_set (only_set (only_set (only_set hO (p := ⟨w.heap.size, 0, none⟩) (Nat.le_refl _) (.int .i64 c.k)) (p := ⟨w.heap.size, 1, none⟩) (Nat.le_refl _) (.int .i64 c.r)) (p := ⟨w.heap.size, 2, none⟩) (Nat.le_refl _) (.slice (some ⟨q, 0, none⟩) c.m.length c.m.length)) (p := ⟨w.heap.size, 3, none⟩) (Nat.le_refl _) (.int .i64 c.s))
  have hT : TrI eb _ _ := (tr_trans (tr_trans (tr_trans (tr_set k4 (by decide) 0 (.int .i64 c.k)) (tr_set (k4.set_ 0 (.int .i64 c.k)) (by decide) 1 (.int .i64 c.r))) (tr_set ((k4.set_ 0 (.int .i64 c.k)).set_ 1 (.int .i64 c.r)) (by decide) 2 (.slice (some ⟨q, 0, none⟩) c.m.length c.m.length))) (tr_set (((k4.set_ 0 (.int .i64 c.k)).set_ 1 (.int .i64 c.r)).set_ 2 (.slice (some ⟨q, 0, none⟩) c.m.length c.m.length)) (by decide) 3 (.int .i64 c.s)))
  have yI := hT _ _ hib
  have y6 := y4.cell
  clear k4 hD hO k5
  go_wp2
  refine bodyPost_ret (v := .agg #[.int .i64 c.k, .int .i64 c.r, .slice (some ⟨q, 0, none⟩) c.m.length c.m.length, .int .i64 c.s]) (by simp [results, Tryz.results12, go_sem, y6]) rfl ⟨⟨c, _, rfl, ⟨some ⟨q, 0, none⟩, c.m.length, rfl, Nat.le_refl _, ⟨yI.ints, fun _ ad e => by injection e with e; subst e; exact Or.inr (by have := yI.1; show w.heap.size ≤ q; omega)⟩⟩, hokc⟩, yD, yO⟩
 have d2 : decide (0 < r4) = true := by simpa using h4
 have hbx : Bxs W3 (Bd ok w.heap.size) A l := hbw.grown hO (fun q e => by injection e with e; intro hh; have := hxg _ hh.1; omega)
 obtain ⟨ad, -, -, -, -, -, -, -, e0, -⟩ := hbx.elem (show 0 < l.length by omega)
 subst e0
 clear hbw
 go_upto_region 3 with fail
 obtain ⟨S, HI, HO⟩ := hideS fun (L : Ran) (vs : Nat → Value) (w' : World) => Blk w' w.heap.size 27 #[.int .i64 0, .int .i64 0, .slice none 0 0, .int .i64 0] ∧ DR w' B g ∧ w.grownBy w' (some g) ∧ Blk w' q5 27 (CQ c q) ∧ IB eb w' q c.m ∧ KnS [some (.slice (some ad) l.length c0), some (.pointer (some ⟨g, 0, none⟩)), some (.slice (some ad) l.length c0), some (.int .i64 (l.length : Int)), none, none, some (.agg (CQ c q)), none, none, none, none, none, none, none] L vs ∧ Bxs w' (Bd ok w.heap.size) (some ad) l ∧ (L 4 = true → ∃ k : Nat, vs 4 = .int .i64 (k : Int) ∧ k < l.length) ∧ (L 5 = true → ∃ k : Nat, k < l.length ∧ vs 5 = .slice (some (ad.add (k * 4))) (l.length - k) (c0 - k)) ∧ (L 7 = true → ∃ (cb : Ch) (sb : Bool) (A' : Option Addr) (n : Nat), vs 7 = .tuple #[.agg #[.int .i64 cb.k, .int .i64 cb.r, .slice A' cb.m.length n, .int .i64 cb.s], .bool sb] ∧ OKC cb ∧ cb.m.length ≤ n ∧ InB w' (Bd ok w.heap.size) A' cb.m) ∧ (L 8 = true → ∃ (cb : Ch) (sb : Bool) (A' : Option Addr) (n : Nat), vs 8 = .tuple #[.agg #[.int .i64 cb.k, .int .i64 cb.r, .slice A' cb.m.length n, .int .i64 cb.s], .bool sb] ∧ OKC cb ∧ cb.m.length ≤ n ∧ InB w' (Bd ok w.heap.size) A' cb.m) ∧ (L 9 = true → ∃ (cb : Ch) (A' : Option Addr) (n : Nat), vs 9 = .agg #[.int .i64 cb.k, .int .i64 cb.r, .slice A' cb.m.length n, .int .i64 cb.s] ∧ OKC cb ∧ cb.m.length ≤ n ∧ InB w' (Bd ok w.heap.size) A' cb.m) ∧ (L 10 = true → ∃ sb, vs 10 = .bool sb) ∧ (L 11 = true → ∃ q6, vs 11 = .pointer (some ⟨q6, 0, none⟩) ∧ w.heap.size < q6 ∧ q5 < q6 ∧ (L 12 = false → Blk w' q6 27 #[.int .i64 0, .int .i64 0, .slice none 0 0, .int .i64 0]) ∧ (L 12 = true → ∃ (cb : Ch) (A' : Option Addr) (n : Nat), Blk w' q6 27 #[.int .i64 cb.k, .int .i64 cb.r, .slice A' cb.m.length n, .int .i64 cb.s] ∧ OKC cb ∧ cb.m.length ≤ n ∧ InB w' (Bd ok w.heap.size) A' cb.m)) ∧ (L 12 = true → L 11 = true)
 refine wp_region_genT S 13 47 (by kernel_rfl) (by kernel_rfl) rfl ?_ ?_
 ·exact HI.out _ _ _ ⟨k4.grows (Grows.drew' _), hD.grows (Grows.drew' _), d_only_grows hO (Grows.drew' _), k5.grows (Grows.drew' _), tr_grows (Grows.drew' _) _ _ hib, kn_none _ _, hbx.grows (Grows.drew' _), (fun h => by cases h), (fun h => by cases h), (fun h => by cases h), (fun h => by cases h), (fun h => by cases h), (fun h => by cases h), (fun h => by cases h), (fun h => by cases h)⟩
 simp only [List.take_succ_cons, List.take_zero, List.drop_succ_cons, List.drop_zero]
 refine gent_consR (fun vs L w1 hL hw1 => ?_) ?_
 ·obtain ⟨q0, qd, qo, qk, qi, q1, qx, p4, p5, p7, p8, p9, pt, p11, ps⟩ := HO.out _ _ _ hw1
  refine gen_plain rfl ?_
  go_simp
  exact gr_val (HI.out _ _ _ ⟨q0, qd, qo, qk, qi, kn_known q1 rfl, qx, p4, p5, p7, p8, p9, pt, p11, ps⟩)
 refine gent_consR (fun vs L w1 hL hw1 => ?_) ?_
 ·obtain ⟨q0, qd, qo, qk, qi, q1, qx, p4, p5, p7, p8, p9, pt, p11, ps⟩ := HO.out _ _ _ hw1
  refine gen_plain rfl ?_
  go_simp
  exact gr_val (HI.out _ _ _ ⟨q0, qd, qo, qk, qi, kn_known q1 rfl, qx, p4, p5, p7, p8, p9, pt, p11, ps⟩)
 refine gent_consR (fun vs L w1 hL hw1 => ?_) ?_
 ·obtain ⟨q0, qd, qo, qk, qi, q1, qx, p4, p5, p7, p8, p9, pt, p11, ps⟩ := HO.out _ _ _ hw1
  refine gen_plain rfl ?_
  go_simp
  exact gr_val (HI.out _ _ _ ⟨q0, qd, qo, qk, qi, kn_known q1 rfl, qx, p4, p5, p7, p8, p9, pt, p11, ps⟩)
 refine gent_consR (fun vs L w1 hL hw1 => ?_) ?_
 ·obtain ⟨q0, qd, qo, qk, qi, q1, qx, p4, p5, p7, p8, p9, pt, p11, ps⟩ := HO.out _ _ _ hw1
  refine gen_plain rfl ?_
  have l2 : L 2 = true := hL.need 2 (by kernel_rfl)
  have e2 := q1 2 _ rfl l2
  simp only [e2]
  go_simp
  exact gr_val (HI.out _ _ _ ⟨q0, qd, qo, qk, qi, kn_known q1 rfl, qx, p4, p5, p7, p8, p9, pt, p11, ps⟩)
 refine gent_consR (fun vs L w1 hL hw1 => ?_) ?_
 ·obtain ⟨q0, qd, qo, qk, qi, q1, qx, p4, p5, p7, p8, p9, pt, p11, ps⟩ := HO.out _ _ _ hw1
  refine gen_plain rfl ?_
  have l1 : L 1 = true := hL.need 1 (by kernel_rfl)
  have e1 := q1 1 _ rfl l1
  have l3 : L 3 = true := hL.need 3 (by kernel_rfl)
  have e3 := q1 3 _ rfl l3
  simp only [e1, e3]
  go_simp
  refine gr_call ?_
  refine (rolls_any B g (l.length : Int) _ qd (by omega) (by omega)).mono ?_
  rintro e w2 ⟨⟨r, rfl, hr0, hr1⟩, hd2, hq⟩
  exact ⟨_, rfl, HI.out _ _ _ ⟨q0.grown hq (by intro e; injection e; omega), hd2, only_trans qo hq, qk.grown hq (by intro e; injection e; omega), tr_onlyq hgeb hq _ _ qi, kn_free q1 rfl, qx.grown hq (fun q e => by injection e with e; intro hh; have := hxg _ hh.1; omega), (fun _ => ⟨r.toNat, by rw [Int.toNat_of_nonneg hr0]; rfl, by omega⟩), p5, (fun h => by obtain ⟨cb, sb, A', n, e, h1, h2, h3⟩ := p7 h; exact ⟨cb, sb, A', n, e, h1, h2, RdB.grown h3 hq (fun q e => by injection e with e; intro hh; have := hxg _ hh.1; omega)⟩), (fun h => by obtain ⟨cb, sb, A', n, e, h1, h2, h3⟩ := p8 h; exact ⟨cb, sb, A', n, e, h1, h2, RdB.grown h3 hq (fun q e => by injection e with e; intro hh; have := hxg _ hh.1; omega)⟩), (fun h => by obtain ⟨cb, A', n, e, h1, h2, h3⟩ := p9 h; exact ⟨cb, A', n, e, h1, h2, RdB.grown h3 hq (fun q e => by injection e with e; intro hh; have := hxg _ hh.1; omega)⟩), pt, (fun h => by obtain ⟨q6, e6, h6, h65, hz, hc⟩ := p11 h; exact ⟨q6, e6, h6, h65, fun h0 => (hz h0).grown hq (by intro e; injection e; omega), fun h0 => by obtain ⟨cb, A', n, hb, h1, h2, h3⟩ := hc h0; exact ⟨cb, A', n, hb.grown hq (by intro e; injection e; omega), h1, h2, RdB.grown h3 hq (fun q e => by injection e with e; intro hh; have := hxg _ hh.1; omega)⟩⟩), ps⟩⟩
 refine gent_consR (fun vs L w1 hL hw1 => ?_) ?_
 ·obtain ⟨q0, qd, qo, qk, qi, q1, qx, p4, p5, p7, p8, p9, pt, p11, ps⟩ := HO.out _ _ _ hw1
  refine gen_plain rfl ?_
  have l0 : L 0 = true := hL.need 0 (by kernel_rfl)
  have e0 := q1 0 _ rfl l0
  have l4 : L 4 = true := hL.need 4 (by kernel_rfl)
  obtain ⟨kx, e4, hkx⟩ := p4 l4
  have hb1 : (0 : Int) ≤ (kx : Int) ∧ (kx : Int) ≤ (l.length : Int) := by omega
  have hb2 : kx ≤ l.length := by omega
  have hne : ¬ c0 = kx := by omega
  simp only [e0, e4]
  go_simp
  exact gr_val (HI.out _ _ _ ⟨q0, qd, qo, qk, qi, kn_free q1 rfl, qx, p4, (fun _ => ⟨kx, hkx, rfl⟩), p7, p8, p9, pt, p11, ps⟩)
 refine gent_consR (fun vs L w1 hL hw1 => ?_) ?_
 ·obtain ⟨q0, qd, qo, qk, qi, q1, qx, p4, p5, p7, p8, p9, pt, p11, ps⟩ := HO.out _ _ _ hw1
  refine gen_plain rfl ?_
  have x5 := qk.cell
  unfold CQ at x5
  go_simp
  exact gr_val (HI.out _ _ _ ⟨q0, qd, qo, qk, qi, kn_known q1 rfl, qx, p4, p5, p7, p8, p9, pt, p11, ps⟩)
 refine gent_consR (fun vs L w1 hL hw1 => ?_) ?_
 ·obtain ⟨q0, qd, qo, qk, qi, q1, qx, p4, p5, p7, p8, p9, pt, p11, ps⟩ := HO.out _ _ _ hw1
  refine gen_plain rfl ?_
  have n7 : L 7 = false := hL.1
  have l5 : L 5 = true := hL.need 5 (by kernel_rfl)
  have l6 : L 6 = true := hL.need 6 (by kernel_rfl)
  have e6 := q1 6 _ rfl l6
  obtain ⟨kx, hkx, e5⟩ := p5 l5
  have hdr := Bxs.drop qx (Nat.le_of_lt hkx) hlc
  rw [if_neg (by omega : ¬ c0 = kx)] at hdr
  replace hdr : Bxs w1 _ (some (ad.add (kx * 4))) (l.drop kx) := hdr
  have hdl : (l.drop kx).length = l.length - kx := List.length_drop
  unfold CQ at e6
  simp only [e5, e6]
  go_simp
  refine gr_call ?_
  have hcon := rbestl_any (I := some ⟨q, 0, none⟩) (ci := c.m.length) (c := c0 - kx) (want := c) hdr (by rw [hdl]; omega) (by rw [hdl]; omega) (fun b hb => (HF.out b (List.mem_of_mem_drop hb)).2.1) qi.ints hokc
  rw [hdl] at hcon
  refine hcon.mono ?_
  rintro e w2 ⟨⟨v, rfl, A', n, rfl, hn, hi⟩, hg⟩
  have hcb : OKC (bestL (bestR c) c (l.drop kx)).1 := bestL_okc (fun b hb => (HF.out b (List.mem_of_mem_drop hb)).2.1)
  generalize bestL (bestR c) c (l.drop kx) = bs at *
  exact ⟨_, rfl, HI.out _ _ _ ⟨q0.grows hg, qd.grows hg, d_only_grows qo hg, qk.grows hg, tr_grows hg _ _ qi, kn_free q1 rfl, qx.grows hg, p4, p5, (fun _ => ⟨bs.1, bs.2, A', n, rfl, hcb, hn, RdB.mono hi (fun k hk => hk.1)⟩), (fun h => by obtain ⟨cb, sb, A', n, e, h1, h2, h3⟩ := p8 h; exact ⟨cb, sb, A', n, e, h1, h2, h3.grows hg⟩), (fun h => by obtain ⟨cb, A', n, e, h1, h2, h3⟩ := p9 h; exact ⟨cb, A', n, e, h1, h2, h3.grows hg⟩), pt, (fun h => by obtain ⟨q6, e6, h6, h65, hz, hc⟩ := p11 h; exact ⟨q6, e6, h6, h65, fun h0 => (hz h0).grows hg, fun h0 => by obtain ⟨cb, A', n, hb, h1, h2, h3⟩ := hc h0; exact ⟨cb, A', n, hb.grows hg, h1, h2, h3.grows hg⟩⟩), ps⟩⟩
 refine gent_consR (fun vs L w1 hL hw1 => ?_) ?_
 ·obtain ⟨q0, qd, qo, qk, qi, q1, qx, p4, p5, p7, p8, p9, pt, p11, ps⟩ := HO.out _ _ _ hw1
  refine gen_plain rfl ?_
  have l7 : L 7 = true := hL.need 7 (by kernel_rfl)
  go_simp
  obtain ⟨cb, sb, A', n, e7, h1, h2, h3⟩ := p7 l7
  exact gr_val (HI.out _ _ _ ⟨q0, qd, qo, qk, qi, kn_free q1 rfl, qx, p4, p5, p7, (fun _ => ⟨cb, sb, A', n, e7, h1, h2, h3⟩), p9, pt, p11, ps⟩)
 refine gent_consR (fun vs L w1 hL hw1 => ?_) ?_
 ·obtain ⟨q0, qd, qo, qk, qi, q1, qx, p4, p5, p7, p8, p9, pt, p11, ps⟩ := HO.out _ _ _ hw1
  refine gen_plain rfl ?_
  have l8 : L 8 = true := hL.need 8 (by kernel_rfl)
  obtain ⟨cb, sb, A', n, e8, h1, h2, h3⟩ := p8 l8
  simp only [e8]
  go_simp
  exact gr_val (HI.out _ _ _ ⟨q0, qd, qo, qk, qi, kn_free q1 rfl, qx, p4, p5, p7, p8, (fun _ => ⟨cb, A', n, rfl, h1, h2, h3⟩), pt, p11, ps⟩)
 refine gent_consR (fun vs L w1 hL hw1 => ?_) ?_
 ·obtain ⟨q0, qd, qo, qk, qi, q1, qx, p4, p5, p7, p8, p9, pt, p11, ps⟩ := HO.out _ _ _ hw1
  refine gen_plain rfl ?_
  have l8 : L 8 = true := hL.need 8 (by kernel_rfl)
  obtain ⟨cb, sb, A', n, e8, h1, h2, h3⟩ := p8 l8
  simp only [e8]
  go_simp
  exact gr_val (HI.out _ _ _ ⟨q0, qd, qo, qk, qi, kn_free q1 rfl, qx, p4, p5, p7, p8, p9, (fun _ => ⟨sb, rfl⟩), p11, ps⟩)
 refine gent_consR (fun vs L w1 hL hw1 => ?_) ?_
 ·obtain ⟨q0, qd, qo, qk, qi, q1, qx, p4, p5, p7, p8, p9, pt, p11, ps⟩ := HO.out _ _ _ hw1
  refine gen_plain rfl ?_
  have n11 : L 11 = false := hL.1
  have n12 : L 12 = false := by
   cases h : L 12
   ·rfl
   ·rw [ps h] at n11; cases n11
  have hk := Blk.new w1 27 #[.int .i64 0, .int .i64 0, .slice none 0 0, .int .i64 0]
  have hg := (Below.refl w1.heap.size w1).alloc (Nat.le_refl _) (Obj.cells #[.int .i64 0, .int .i64 0, .slice none 0 0, .int .i64 0] 27)
  have hlt := q0.lt
  have hlt5 := qk.lt
  go_simp
  exact gr_val (HI.out _ _ _ ⟨q0.grows hg, qd.grows hg, d_only_grows qo hg, qk.grows hg, tr_grows hg _ _ qi, kn_free q1 rfl, qx.grows hg, p4, p5, (fun h => by obtain ⟨cb, sb, A', n, e, h1, h2, h3⟩ := p7 h; exact ⟨cb, sb, A', n, e, h1, h2, h3.grows hg⟩), (fun h => by obtain ⟨cb, sb, A', n, e, h1, h2, h3⟩ := p8 h; exact ⟨cb, sb, A', n, e, h1, h2, h3.grows hg⟩), (fun h => by obtain ⟨cb, A', n, e, h1, h2, h3⟩ := p9 h; exact ⟨cb, A', n, e, h1, h2, h3.grows hg⟩), pt, (fun _ => ⟨_, rfl, hlt, hlt5, fun _ => hk, fun h => by rw [show L 12 = true from h] at n12; cases n12⟩), (fun h => by rw [show L 12 = true from h] at n12; cases n12)⟩)
 refine gent_consR (fun vs L w1 hL hw1 => ?_) ?_
 ·obtain ⟨q0, qd, qo, qk, qi, q1, qx, p4, p5, p7, p8, p9, pt, p11, ps⟩ := HO.out _ _ _ hw1
  refine gen_plain rfl ?_
  have n12 : L 12 = false := hL.1
  have l11 : L 11 = true := hL.need 11 (by kernel_rfl)
  have l9 : L 9 = true := hL.need 9 (by kernel_rfl)
  obtain ⟨q6, e11, h6, h65, hz, -⟩ := p11 l11
  obtain ⟨cb, A', n, e9, h1, h2, h3⟩ := p9 l9
  have hk := hz n12
  have hcl := hk.cell
  have hfz := hk.frozen
  simp only [e11, e9]
  go_simp
  refine gr_skip (show S (upd L 12) (setV vs 12 undef) _ from HI.out _ _ _ ?_)
  have hT : TrI eb w1 _ := (tr_trans (tr_trans (tr_trans (tr_set hk (by decide) 0 (.int .i64 cb.k)) (tr_set (hk.set_ 0 (.int .i64 cb.k)) (by decide) 1 (.int .i64 cb.r))) (tr_set ((hk.set_ 0 (.int .i64 cb.k)).set_ 1 (.int .i64 cb.r)) (by decide) 2 (.slice A' cb.m.length n))) (tr_set (((hk.set_ 0 (.int .i64 cb.k)).set_ 1 (.int .i64 cb.r)).set_ 2 (.slice A' cb.m.length n)) (by decide) 3 (.int .i64 cb.s)))
  have hgq := (d_only_set (d_only_set (d_only_set (d_only_set (World.grownBy.refl w1 (some q6)) 0 (.int .i64 cb.k)) 1 (.int .i64 cb.r)) 2 (.slice A' cb.m.length n)) 3 (.int .i64 cb.s))
  exact ⟨((((q0.far (p := ⟨q6, 0, none⟩) (Nat.ne_of_lt h6) (.int .i64 cb.k)).far (p := ⟨q6, 1, none⟩) (Nat.ne_of_lt h6) (.int .i64 cb.r)).far (p := ⟨q6, 2, none⟩) (Nat.ne_of_lt h6) (.slice A' cb.m.length n)).far (p := ⟨q6, 3, none⟩) (Nat.ne_of_lt h6) (.int .i64 cb.s)), ((((qd.put (p := ⟨q6, 0, none⟩) (Nat.le_trans hBg (Nat.le_of_lt (Nat.lt_trans hgl h6))) (Nat.ne_of_lt (Nat.lt_trans hgl h6)) (.int .i64 cb.k)).put (p := ⟨q6, 1, none⟩) (Nat.le_trans hBg (Nat.le_of_lt (Nat.lt_trans hgl h6))) (Nat.ne_of_lt (Nat.lt_trans hgl h6)) (.int .i64 cb.r)).put (p := ⟨q6, 2, none⟩) (Nat.le_trans hBg (Nat.le_of_lt (Nat.lt_trans hgl h6))) (Nat.ne_of_lt (Nat.lt_trans hgl h6)) (.slice A' cb.m.length n)).put (p := ⟨q6, 3, none⟩) (Nat.le_trans hBg (Nat.le_of_lt (Nat.lt_trans hgl h6))) (Nat.ne_of_lt (Nat.lt_trans hgl h6)) (.int .i64 cb.s)), (only_set (only_set (only_set (only_set qo (p := ⟨q6, 0, none⟩) (Nat.le_of_lt h6) (.int .i64 cb.k)) (p := ⟨q6, 1, none⟩) (Nat.le_of_lt h6) (.int .i64 cb.r)) (p := ⟨q6, 2, none⟩) (Nat.le_of_lt h6) (.slice A' cb.m.length n)) (p := ⟨q6, 3, none⟩) (Nat.le_of_lt h6) (.int .i64 cb.s)), ((((qk.far (p := ⟨q6, 0, none⟩) (Nat.ne_of_lt h65) (.int .i64 cb.k)).far (p := ⟨q6, 1, none⟩) (Nat.ne_of_lt h65) (.int .i64 cb.r)).far (p := ⟨q6, 2, none⟩) (Nat.ne_of_lt h65) (.slice A' cb.m.length n)).far (p := ⟨q6, 3, none⟩) (Nat.ne_of_lt h65) (.int .i64 cb.s)), hT _ _ qi, kn_free q1 rfl, qx.grown hgq (fun q e => by injection e with e; intro hh; have := hh.2; omega), p4, p5, (fun h => by obtain ⟨cb, sb, A', n, e, h1, h2, h3⟩ := p7 h; exact ⟨cb, sb, A', n, e, h1, h2, RdB.grown h3 hgq (fun q e => by injection e with e; intro hh; have := hh.2; omega)⟩), (fun h => by obtain ⟨cb, sb, A', n, e, h1, h2, h3⟩ := p8 h; exact ⟨cb, sb, A', n, e, h1, h2, RdB.grown h3 hgq (fun q e => by injection e with e; intro hh; have := hh.2; omega)⟩), (fun h => by obtain ⟨cb, A', n, e, h1, h2, h3⟩ := p9 h; exact ⟨cb, A', n, e, h1, h2, RdB.grown h3 hgq (fun q e => by injection e with e; intro hh; have := hh.2; omega)⟩), pt, (fun _ => ⟨q6, e11, h6, h65, (fun h => by cases h), fun _ => ⟨cb, A', n, ((((hk.set_ 0 (.int .i64 cb.k)).set_ 1 (.int .i64 cb.r)).set_ 2 (.slice A' cb.m.length n)).set_ 3 (.int .i64 cb.s)), h1, h2, RdB.grown h3 hgq (fun q e => by injection e with e; intro hh; have := hh.2; omega)⟩⟩), (fun _ => l11)⟩
 refine gent_nil ?_
 intro vs L W2 hall hS
 obtain ⟨k4, hD, hO, k5, hib, -, -, -, -, -, -, -, pt, p11, -⟩ := HO.out _ _ _ hS
 obtain ⟨q6, e11, h6, h65, -, hc⟩ := p11 (hall 11 (by simp))
 obtain ⟨cb, A', n, k6, hokb, hnb, hib6⟩ := hc (hall 12 (by simp))
 obtain ⟨sb, e10⟩ := pt (hall 10 (by simp))
 clear hall hS HI HO pt p11 hc
 simp only [e11, e10]
 generalize vs 0 = z0 at *
 generalize vs 1 = z1 at *
 generalize vs 2 = z2 at *
 generalize vs 3 = z3 at *
 generalize vs 4 = z4 at *
 generalize vs 5 = z5 at *
 generalize vs 6 = z6 at *
 generalize vs 7 = z7 at *
 generalize vs 8 = z8 at *
 generalize vs 9 = z9 at *
 generalize vs 12 = z12 at *
 clear e11 e10
 cases sb
 ·skip
  have xc := k5.cell
  unfold CQ at xc
  have x4 := k4.cell
  have hf4 := k4.frozen
  have y4 := ((((k4.set_ 0 (.int .i64 c.k)).set_ 1 (.int .i64 c.r)).set_ 2 (.slice (some ⟨q, 0, none⟩) c.m.length c.m.length)).set_ 3 (.int .i64 c.s))
  have yD := ((((hD.put (p := ⟨w.heap.size, 0, none⟩) (Nat.le_trans hBg (Nat.le_of_lt hgl)) (Nat.ne_of_lt hgl) (.int .i64 c.k)).put (p := ⟨w.heap.size, 1, none⟩) (Nat.le_trans hBg (Nat.le_of_lt hgl)) (Nat.ne_of_lt hgl) (.int .i64 c.r)).put (p := ⟨w.heap.size, 2, none⟩) (Nat.le_trans hBg (Nat.le_of_lt hgl)) (Nat.ne_of_lt hgl) (.slice (some ⟨q, 0, none⟩) c.m.length c.m.length)).put (p := ⟨w.heap.size, 3, none⟩) (Nat.le_trans hBg (Nat.le_of_lt hgl)) (Nat.ne_of_lt hgl) (.int .i64 c.s))
  have yO := (only_set (only_set (only_set (only_set hO (p := ⟨w.heap.size, 0, none⟩) (Nat.le_refl _) (.int .i64 c.k)) (p := ⟨w.heap.size, 1, none⟩) (Nat.le_refl _) (.int .i64 c.r)) (p := ⟨w.heap.size, 2, none⟩) (Nat.le_refl _) (.slice (some ⟨q, 0, none⟩) c.m.length c.m.length)) (p := ⟨w.heap.size, 3, none⟩) (Nat.le_refl _) (.int .i64 c.s))
  have hT : TrI eb _ _ := (tr_trans (tr_trans (tr_trans (tr_set k4 (by decide) 0 (.int .i64 c.k)) (tr_set (k4.set_ 0 (.int .i64 c.k)) (by decide) 1 (.int .i64 c.r))) (tr_set ((k4.set_ 0 (.int .i64 c.k)).set_ 1 (.int .i64 c.r)) (by decide) 2 (.slice (some ⟨q, 0, none⟩) c.m.length c.m.length))) (tr_set (((k4.set_ 0 (.int .i64 c.k)).set_ 1 (.int .i64 c.r)).set_ 2 (.slice (some ⟨q, 0, none⟩) c.m.length c.m.length)) (by decide) 3 (.int .i64 c.s)))
  have yI := hT _ _ hib
  have y6 := y4.cell
  clear k4 hD hO k5
  go_wp2
  refine bodyPost_ret (v := .agg #[.int .i64 c.k, .int .i64 c.r, .slice (some ⟨q, 0, none⟩) c.m.length c.m.length, .int .i64 c.s]) (by simp [results, Tryz.results12, go_sem, y6]) rfl ⟨⟨c, _, rfl, ⟨some ⟨q, 0, none⟩, c.m.length, rfl, Nat.le_refl _, ⟨yI.ints, fun _ ad e => by injection e with e; subst e; exact Or.inr (by have := yI.1; show w.heap.size ≤ q; omega)⟩⟩, hokc⟩, yD, yO⟩
 ·skip
  have xc := k6.cell
  have x4 := k4.cell
  have hf4 := k4.frozen
  have y4 := ((((k4.set_ 0 (.int .i64 cb.k)).set_ 1 (.int .i64 cb.r)).set_ 2 (.slice A' cb.m.length n)).set_ 3 (.int .i64 cb.s))
  have yD := ((((hD.put (p := ⟨w.heap.size, 0, none⟩) (Nat.le_trans hBg (Nat.le_of_lt hgl)) (Nat.ne_of_lt hgl) (.int .i64 cb.k)).put (p := ⟨w.heap.size, 1, none⟩) (Nat.le_trans hBg (Nat.le_of_lt hgl)) (Nat.ne_of_lt hgl) (.int .i64 cb.r)).put (p := ⟨w.heap.size, 2, none⟩) (Nat.le_trans hBg (Nat.le_of_lt hgl)) (Nat.ne_of_lt hgl) (.slice A' cb.m.length n)).put (p := ⟨w.heap.size, 3, none⟩) (Nat.le_trans hBg (Nat.le_of_lt hgl)) (Nat.ne_of_lt hgl) (.int .i64 cb.s))
  have yO := (only_set (only_set (only_set (only_set hO (p := ⟨w.heap.size, 0, none⟩) (Nat.le_refl _) (.int .i64 cb.k)) (p := ⟨w.heap.size, 1, none⟩) (Nat.le_refl _) (.int .i64 cb.r)) (p := ⟨w.heap.size, 2, none⟩) (Nat.le_refl _) (.slice A' cb.m.length n)) (p := ⟨w.heap.size, 3, none⟩) (Nat.le_refl _) (.int .i64 cb.s))
  have yI := RdB.grown hib6 (d_only_set (d_only_set (d_only_set (d_only_set (World.grownBy.refl _ (some w.heap.size)) 0 (.int .i64 cb.k)) 1 (.int .i64 cb.r)) 2 (.slice A' cb.m.length n)) 3 (.int .i64 cb.s)) (fun q e => by injection e with e; intro hh; have := hh.2; omega)
  have y6 := y4.cell
  clear k4 hD hO k5 k6
  go_wp2
  refine bodyPost_ret (v := .agg #[.int .i64 cb.k, .int .i64 cb.r, .slice A' cb.m.length n, .int .i64 cb.s]) (by simp [results, Tryz.results12, go_sem, y6]) rfl ⟨⟨cb, _, rfl, ⟨A', n, rfl, hnb, RdB.mono yI (fun k hk => Or.inl hk.1)⟩, hokb⟩, yD, yO⟩
theorem ChV.mono {w : World} {ok ok2 : Nat → Prop} {c : Ch} {v : Value} (h : ChV w ok c v) (hk : ∀ k, ok k → ok2 k) : ChV w ok2 c v := by
 obtain ⟨A, n, e, hn, hi⟩ := h
 exact ⟨A, n, e, hn, RdB.mono hi hk⟩
theorem choice_any (B g : Nat) {ok : Nat → Prop} {A : Option Addr} {c0 : Nat} {l : List Bx} (w : World) (h : DR w B g) (hl : Bxs w ok A l) (hln : l.length ≤ 1000000) (hlc : l.length ≤ c0) (hf : Fine l) (hxg : ∀ k, ok k → g < k) : Calls Tryz.prog 12 #[.pointer (some ⟨g, 0, none⟩), .slice A l.length c0] w fun e w' => (∃ c v, e = .returned v ∧ ChV w' (Ge (g + 1)) c v ∧ OKC c) ∧ DR w' B g ∧ w.grownBy w' (some g) :=
 (choice_anyq B g w h hl hln hlc hf hxg).mono fun e w' ⟨⟨c, v, h1, h2, h3⟩, hD, hg⟩ => ⟨⟨c, v, h1, h2.mono (fun k hk => hk.elim (fun hk => hxg k hk) fun hk => by have := h.lt; unfold Ge; omega), h3⟩, hD, hg⟩
end Go.Proofs.YtnbdpnlepcjmmaaGreat
