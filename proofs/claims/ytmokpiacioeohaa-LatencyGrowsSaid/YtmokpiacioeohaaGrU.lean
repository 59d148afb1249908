/-
  Graphs: the order, of the program and of the reference; the inputs of a node. Plain contracts.
-/
import Derived.Test.YtmokpiacioeohaaGrT
import Derived.Test.YtmokpiacioeohaaGrS
namespace Go.Proofs.Ytmokpiacioeohaa
open Go.RowKit Go.Maps
/-- A graph as it comes: two rows, and numbers that slots can hold. -/
structure GOK (w : World) (A A2 : Option Addr) (c2 : Nat) (ns ls : List Q4) : Prop where
  n : Qs w A ns
  l : Qs w A2 ls
  nl : ns.length ≤ 9223372036854775807
  ll : ls.length ≤ 9223372036854775807
  lc : ls.length ≤ c2
  ni : ∀ n ∈ ns, In64 n.a
  li : ∀ l ∈ ls, In64 l.a ∧ In64 l.c
theorem GOK.grows {w w' : World} {A A2 : Option Addr} {c2 : Nat} {ns ls : List Q4} (h : GOK w A A2 c2 ns ls) (hg : Grows w w') : GOK w' A A2 c2 ns ls :=
  ⟨h.n.grows hg, h.l.grows hg, h.nl, h.ll, h.lc, h.ni, h.li⟩
theorem GOK.below {w w' : World} {A A2 : Option Addr} {c2 : Nat} {ns ls : List Q4} (h : GOK w A A2 c2 ns ls) (hB : Below w.heap.size w w') : GOK w' A A2 c2 ns ls := h.grows hB
theorem valid_len {ns ls : List Q4} (h : validG ns ls = true) : ns.length ≤ 64 ∧ ls.length ≤ 256 := ⟨(valid_parts.1 h).1, (valid_parts.1 h).2.1⟩
theorem valid_ids {ns ls : List Q4} (h : validG ns ls = true) : ∀ n ∈ ns, n.a ≠ 0 := okN_ids (valid_parts.1 h).2.2.1
theorem pvalid_is {A A2 : Option Addr} {c c2 : Nat} {ns ls : List Q4} {w : World} (h : GOK w A A2 c2 ns ls) :
    Calls Try.prog 29 #[.agg #[.slice A ns.length c, .slice A2 ls.length c2]] w fun e w' => e = .returned (.bool (validG ns ls)) ∧ Grows w w' := pvalidg_any A A2 c c2 ns ls w h.n h.nl h.l h.ll h.lc h.ni h.li
theorem rvalid_is {A A2 : Option Addr} {c c2 : Nat} {ns ls : List Q4} {w : World} (h : GOK w A A2 c2 ns ls) :
    Calls Try.prog 33 #[.agg #[.slice A ns.length c, .slice A2 ls.length c2]] w fun e w' => e = .returned (.bool (validG ns ls)) ∧ Grows w w' := rvalidg_any A A2 c c2 ns ls w h.n h.nl h.l h.ll h.lc
set_option maxHeartbeats 4000000 in
theorem porder_no {A A2 : Option Addr} {c c2 : Nat} {ns ls : List Q4} {w : World} (h : GOK w A A2 c2 ns ls) (hv : validG ns ls = false) :
    Calls Try.prog 31 #[.agg #[.slice A ns.length c, .slice A2 ls.length c2]] w fun e w' => e = .returned (.tuple #[.slice none 0 0, .int .i64 1]) ∧ Grows w w' := by
  have HV := Lib.hid hv
  clear hv
  have k1 := Blk.new w 40 #[.slice A ns.length c, .slice A2 ls.length c2]
  have hB := (Below.refl w.heap.size w).alloc (Nat.le_refl _) (Obj.cells #[.slice A ns.length c, .slice A2 ls.length c2] 40)
  go_enter Try.func31, Try.ntmps31
  go_upto_region 1 with fail
  generalize World.alloc w _ = w1 at *
  have x1 := k1.cell
  go_wp2_with fail
  refine (pvalid_is (h.grows hB)).mono ?_
  rw [HV.out]
  rintro e w2 ⟨rfl, hq⟩
  replace hB := below_grows hB (Nat.le_refl _) hq
  replace k1 := k1.grows hq
  clear hq x1
  go_wp2
  go_ret2
  exact ⟨rfl, hB⟩
set_option maxHeartbeats 4000000 in
theorem porder_yes {A A2 : Option Addr} {c c2 : Nat} {ns ls : List Q4} {w : World} (h : GOK w A A2 c2 ns ls) (hv : validG ns ls = true) :
    Calls Try.prog 31 #[.agg #[.slice A ns.length c, .slice A2 ls.length c2]] w fun e w' => (∃ v, e = .returned (.tuple #[v, .int .i64 0]) ∧ OwnI w' w.heap.size v (orderL ns ls)) ∧ Grows w w' := by
  have HV := Lib.hid hv
  clear hv
  have k1 := Blk.new w 40 #[.slice A ns.length c, .slice A2 ls.length c2]
  have hB := (Below.refl w.heap.size w).alloc (Nat.le_refl _) (Obj.cells #[.slice A ns.length c, .slice A2 ls.length c2] 40)
  go_enter Try.func31, Try.ntmps31
  go_upto_region 1 with fail
  generalize World.alloc w _ = w1 at *
  have x1 := k1.cell
  go_wp2_with fail
  refine (pvalid_is (h.grows hB)).mono ?_
  rw [HV.out]
  rintro e w2 ⟨rfl, hq⟩
  replace hB := below_grows hB (Nat.le_refl _) hq
  replace k1 := k1.grows hq
  clear hq x1
  have hL := valid_len HV.out
  have x1 := k1.cell
  have h' := h.grows hB
  go_wp2_with fail
  refine (order_any A A2 c c2 ns ls _ h'.n (by omega) h'.l (by omega) h'.ni (fun l hl => (h'.li l hl).2)).mono ?_
  rintro e w3 ⟨⟨v, rfl, ho⟩, hq⟩
  replace ho := ho.mono hB.size
  replace hB := below_grows hB (Nat.le_refl _) hq
  go_wp2
  go_ret2
  exact ⟨⟨_, rfl, ho⟩, hB⟩
set_option maxHeartbeats 4000000 in
theorem rorder_no {A A2 : Option Addr} {c c2 : Nat} {ns ls : List Q4} {w : World} (h : GOK w A A2 c2 ns ls) (hv : validG ns ls = false) :
    Calls Try.prog 35 #[.agg #[.slice A ns.length c, .slice A2 ls.length c2]] w fun e w' => e = .returned (.tuple #[.slice none 0 0, .int .i64 1]) ∧ Grows w w' := by
  have HV := Lib.hid hv
  clear hv
  have k1 := Blk.new w 40 #[.slice A ns.length c, .slice A2 ls.length c2]
  have hB := (Below.refl w.heap.size w).alloc (Nat.le_refl _) (Obj.cells #[.slice A ns.length c, .slice A2 ls.length c2] 40)
  go_enter Try.func35, Try.ntmps35
  go_upto_region 1 with fail
  generalize World.alloc w _ = w1 at *
  have x1 := k1.cell
  go_wp2_with fail
  refine (rvalid_is (h.grows hB)).mono ?_
  rw [HV.out]
  rintro e w2 ⟨rfl, hq⟩
  replace hB := below_grows hB (Nat.le_refl _) hq
  replace k1 := k1.grows hq
  clear hq x1
  go_wp2
  go_ret2
  exact ⟨rfl, hB⟩
set_option maxHeartbeats 4000000 in
theorem rorder_yes {A A2 : Option Addr} {c c2 : Nat} {ns ls : List Q4} {w : World} (h : GOK w A A2 c2 ns ls) (hv : validG ns ls = true) :
    Calls Try.prog 35 #[.agg #[.slice A ns.length c, .slice A2 ls.length c2]] w fun e w' => (∃ v, e = .returned (.tuple #[v, .int .i64 0]) ∧ OwnI w' w.heap.size v (orderL ns ls)) ∧ Grows w w' := by
  have HV := Lib.hid hv
  clear hv
  have k1 := Blk.new w 40 #[.slice A ns.length c, .slice A2 ls.length c2]
  have hB := (Below.refl w.heap.size w).alloc (Nat.le_refl _) (Obj.cells #[.slice A ns.length c, .slice A2 ls.length c2] 40)
  go_enter Try.func35, Try.ntmps35
  go_upto_region 1 with fail
  generalize World.alloc w _ = w1 at *
  have x1 := k1.cell
  go_wp2_with fail
  refine (rvalid_is (h.grows hB)).mono ?_
  rw [HV.out]
  rintro e w2 ⟨rfl, hq⟩
  replace hB := below_grows hB (Nat.le_refl _) hq
  replace k1 := k1.grows hq
  clear hq x1
  have hL := valid_len HV.out
  have x1 := k1.cell
  have h' := h.grows hB
  go_wp2_with fail
  refine (rorder_any A A2 c c2 ns ls _ h'.n (by omega) h'.l h'.ll (valid_ids HV.out)).mono ?_
  rintro e w3 ⟨⟨v, rfl, ho⟩, hq⟩
  replace ho := ho.mono hB.size
  replace hB := below_grows hB (Nat.le_refl _) hq
  go_wp2
  go_ret2
  exact ⟨⟨_, rfl, ho⟩, hB⟩
theorem in_snoc {ls : List Q4} {k : Nat} {l : Q4} (h : ls[k]? = some l) (id : Int) : inL (ls.take (k + 1)) id = inL (ls.take k) id ++ (if l.c = id then [l] else []) := by
  rw [take_snoc h]
  unfold inL
  rw [List.filter_append]
  by_cases e : l.c = id
  · simp [e]
  · simp [e]
theorem in_len (ls : List Q4) (id : Int) : (inL ls id).length ≤ ls.length := List.length_filter_le _ _
set_option maxHeartbeats 8000000 in
theorem inputs_any {A A2 : Option Addr} {c c2 : Nat} {ns ls : List Q4} {w : World} (id : Int) (h : GOK w A A2 c2 ns ls) (hv : validG ns ls = true) :
    Calls Try.prog 32 #[.agg #[.slice A ns.length c, .slice A2 ls.length c2], .int .i64 id] w fun e w' => (∃ v, e = .returned v ∧ OwnL w' w.heap.size v (inL ls id)) ∧ Grows w w' := by
  have HV := Lib.hid hv
  have hL := (valid_len hv).2
  clear hv
  have k1 := Blk.new w 40 #[.slice A ns.length c, .slice A2 ls.length c2]
  have hB := (Below.refl w.heap.size w).alloc (Nat.le_refl _) (Obj.cells #[.slice A ns.length c, .slice A2 ls.length c2] 40)
  go_enter Try.func32, Try.ntmps32
  go_upto_region 2 with fail
  generalize World.alloc w _ = w1 at *
  have x1 := k1.cell
  go_wp2_with fail
  refine (pvalid_is (h.grows hB)).mono ?_
  rw [HV.out]
  rintro e w2 ⟨rfl, hq⟩
  replace hB := below_grows hB (Nat.le_refl _) hq
  replace k1 := k1.grows hq
  clear hq x1
  have x1 := k1.cell
  go_wp2_with fail
  clear x1
  go_loopw [5, 13] (fun v i wr => ∃ k : Nat, k ≤ ls.length ∧ i = .int .i64 k ∧ OwnL wr w.heap.size v (inL (ls.take k) id) ∧ Blk wr w.heap.size 40 #[.slice A ns.length c, .slice A2 ls.length c2] ∧ Below w.heap.size w wr) (fun _ i _ => ls.length - (intOf i).toNat)
  case atStart => exact ⟨0, by omega, rfl, ownL_nil _ _, k1, hB⟩
  case round =>
    clear k1 hB
    obtain ⟨k, hk, rfl, hown, k1, hB⟩ := hrel
    by_cases hlt : k < ls.length
    · obtain ⟨ad, l, e1, had, hx, q0, q1, q2, q3⟩ := (h.grows hB).l.elem hlt
      subst e1
      have HT := Lib.hid (in_snoc hx id)
      have HN := Lib.hid (in_len (ls.take k) id)
      clear hx
      have k7 := Blk.new wr 52 #[.int .i64 l.a, .int .i64 l.b, .int .i64 l.c, .int .i64 l.d]
      have hq := (Below.refl wr.heap.size wr).alloc (Nat.le_refl _) (Obj.cells #[.int .i64 l.a, .int .i64 l.b, .int .i64 l.c, .int .i64 l.d] 52)
      go_upto_region 6 with fail
      clear q0 q1 q2 q3
      replace hB := below_grows hB (Nat.le_refl _) hq
      replace hown := hown.grows hq
      replace k1 := k1.grows hq
      clear hq
      generalize World.alloc wr _ = w4 at *
      generalize wr.heap.size = G7 at *
      have x7 := k7.cell
      cases e2 : l.c == id
      · have HE : Hid (¬ l.c = id) := Lib.hid (by simpa using e2)
        rw [show inL (ls.take k) id = inL (ls.take (k + 1)) id by rw [HT.out, if_neg HE.out, List.append_nil]] at hown
        go_wp2
        go_roundw
        case rel => exact ⟨k + 1, by omega, by go_num, hown, k1, hB⟩
        case measure => simp [intOf]; omega
      · have HE : Hid (l.c = id) := Lib.hid (by simpa using e2)
        go_upto_region 7 with fail
        clear x7
        have x7 := k7.cell
        refine wp_region_lit ?_
        iterate 3
          refine wpList_plain rfl (fun K hK => ?_)
          go_simp
          refine hK _ _ ?_
          clear hK K
        have hq := (Below.refl w4.heap.size w4).alloc (Nat.le_refl _) (Obj.cells #[.int .i64 l.a, .int .i64 l.b, .int .i64 l.c, .int .i64 l.d] 52)
        replace hB := below_grows hB (Nat.le_refl _) hq
        replace hown := hown.grows hq
        replace k1 := k1.grows hq
        refine wpList_append_link rfl (.tmp 21) (.tmp 23) rfl (m := [l]) rfl rfl hown rfl (qs_lit w4 l _) (by have := HN.out; rw [List.length_take] at this; simp only [List.length_singleton]; omega) hB.size ?_
        intro v3 w9 hown3 hgr3 _
        have hB5 := hown.below hB hgr3 hB.size
        have k15 := k1.grown hgr3 (fun e => own_blk_ne hown k1 (by decide) e.symm)
        have hown4 : OwnL w9 w.heap.size v3 (inL (ls.take (k + 1)) id) := by
          rw [HT.out, if_pos HE.out]
          exact hown3
        clear hown hq hB hgr3 k1 hown3 x7 k7
        go_wp2
        go_roundw
        case rel => exact ⟨k + 1, by omega, by go_num, hown4, k15, hB5⟩
        case measure => simp [intOf]; omega
    · have HE : Hid (ls.take k = ls) := Lib.hid (List.take_of_length_le (by omega))
      rw [HE.out] at hown
      go_wp2
      go_ret
      exact ⟨⟨_, rfl, hown⟩, hB⟩
end Go.Proofs.Ytmokpiacioeohaa
