/-
  Graphs: the program's order. Plain contract.
-/
import Derived.Test.YtmokpiacioeohaaGrQ
namespace Go.Proofs.Ytmokpiacioeohaa
open Go.RowKit Go.Maps
/-- The map of the waits: what is read at each ID. -/
def WaitM (M : Int → Option Value) (f : Int → Int) : Prop := ∀ x, (M x).getD (.int .i64 0) = .int .i64 (f x)
theorem bd_step {n k j L c : Nat} (h : n ≤ (k + 1) * c + j) (hj : j ≤ L) (hL : L ≤ c) : n ≤ (k + 1 + 1) * c := by
  rw [Nat.add_mul (k + 1) 1, Nat.one_mul]
  omega
theorem midW_le (ls : List Q4) (out : List Int) (id : Int) (k : Nat) (x : Int) : midW ls out id k x ≤ ls.length := by
  unfold midW
  have h1 := cntW_le (ls.take k) (out ++ [id]) x
  have h2 := cntW_le (ls.drop k) out x
  rw [List.length_take] at h1
  rw [List.length_drop] at h2
  omega
/-- What the map of those that are done says. -/
def DoneM (D : Int → Option Value) (out : List Int) : Prop := ∀ x, (D x).getD (.bool false) = .bool (out.contains x)
theorem idx_find {ns : List Q4} {p : Q4 → Bool} {k : Nat} (h : ns.findIdx? p = some k) : ∃ x, ns[k]? = some x ∧ k < ns.length ∧ ns.find? p = some x := by
  obtain ⟨hk, h1, h2⟩ := List.findIdx?_eq_some_iff_getElem.1 h
  refine ⟨ns[k], List.getElem?_eq_getElem hk, hk, ?_⟩
  rw [List.find?_eq_some_iff_getElem]
  exact ⟨h1, k, hk, rfl, fun j hj => by simpa using h2 j hj⟩
theorem idx_none {ns : List Q4} {p : Q4 → Bool} (h : ns.findIdx? p = none) : ns.find? p = none := by
  rw [List.findIdx?_eq_none_iff] at h
  rw [List.find?_eq_none]
  exact fun x hx => by simpa using h x hx
theorem free_int (ls : List Q4) (out : List Int) (n : Q4) : (!out.contains n.a && ((cntW ls out n.a : Int) == 0)) = freeN ls out n := by
  rw [free_cnt]
  congr 1
  apply Bool.eq_iff_iff.2
  simp only [beq_iff_eq]
  omega
theorem left_none {ns ls : List Q4} {out : List Int} (h : runN ns ls (leftN ns out) out = orderL ns ls) (hn : out.length + leftN ns out ≤ ns.length) (hk : out.length = ns.length) : out = orderL ns ls := by
  have : leftN ns out = 0 := by omega
  rw [this] at h
  exact h
set_option maxHeartbeats 16000000 in
theorem order_any (A A2 : Option Addr) (c c2 : Nat) (ns ls : List Q4) (w : World) (h : Qs w A ns) (hl : ns.length ≤ 100000) (h2 : Qs w A2 ls) (hl2 : ls.length ≤ 100000) (hr : ∀ n ∈ ns, In64 n.a) (hr2 : ∀ l ∈ ls, In64 l.c) :
    Calls Try.prog 49 #[.agg #[.slice A ns.length c, .slice A2 ls.length c2]] w fun e w' => (∃ v, e = .returned v ∧ OwnI w' w.heap.size v (orderL ns ls)) ∧ Grows w w' := by
  have hmm := @run_makeMap Try.prog
  have HRn := Lib.hid hr
  have HRl := Lib.hid hr2
  clear hr hr2
  have k1 := Blk.new w 40 #[.slice A ns.length c, .slice A2 ls.length c2]
  have hB := (Below.refl w.heap.size w).alloc (Nat.le_refl _) (Obj.cells #[.slice A ns.length c, .slice A2 ls.length c2] 40)
  go_enter Try.func49, Try.ntmps49
  go_upto_region 1 with fail
  generalize World.alloc w _ = w1 at *
  have hm := mapT_made TI w1
  have hq := (Below.refl w1.heap.size w1).alloc (Nat.le_refl _) (Obj.map #[] 0)
  go_upto_region 2 with fail
  have hge : w.heap.size ≤ w1.heap.size := hB.size
  have hq1 := (Below.refl (w1.alloc (Obj.map #[] 0)).heap.size (w1.alloc (Obj.map #[] 0))).alloc (Nat.le_refl _) (Obj.cells #[.map (some w1.heap.size)] 67)
  have k3 := blk_new_at (X := w1.alloc (Obj.map #[] 0)) (n := w1.heap.size + 1) (t := 67) (cs := #[.map (some w1.heap.size)]) (by simp)
  replace hB := below_grows (below_grows hB (Nat.le_refl _) hq) (Nat.le_refl _) hq1
  replace k1 := (k1.grows hq).grows hq1
  replace hm := hm.grows hq1
  clear hq hq1
  generalize World.alloc (World.alloc w1 _) _ = w2 at *
  generalize hG3 : w1.heap.size + 1 = G3 at *
  have hge3 : w.heap.size ≤ G3 := by omega
  clear hG3
  generalize w1.heap.size = Bm at *
  have x1 := k1.cell
  go_wp2_with fail
  clear x1
  go_loopw [16] (fun i wr => ∃ k : Nat, k ≤ ls.length ∧ i = .int .i64 k ∧ (∃ M n, MapT TI wr Bm n M ∧ n ≤ k ∧ Hid (WaitM M fun x => (cntW (ls.take k) [] x : Int))) ∧ Blk wr G3 67 #[.map (some Bm)] ∧ Blk wr w.heap.size 40 #[.slice A ns.length c, .slice A2 ls.length c2] ∧ Below w.heap.size w wr) (fun i _ => ls.length - (intOf i).toNat)
  case atStart => exact ⟨0, by omega, rfl, ⟨_, 0, hm, Nat.le_refl _, Lib.hid (fun x => by simp [cntW])⟩, k3, k1, hB⟩
  case round =>
    clear hm hB k3 k1
    obtain ⟨k, hk, rfl, ⟨M, n, hm, hn, HW⟩, k3, k1, hB⟩ := hrel
    by_cases hlt : k < ls.length
    · obtain ⟨ad, l, rfl, had, hx, q0, q1, q2, q3⟩ := (h2.grows hB).elem hlt
      have HT := Lib.hid (take_snoc hx)
      have HX : Hid (In64 l.c) := Lib.hid (HRl.out l (List.mem_of_getElem? hx))
      clear hx
      have k5 := Blk.new wr 52 #[.int .i64 l.a, .int .i64 l.b, .int .i64 l.c, .int .i64 l.d]
      have hq := (Below.refl wr.heap.size wr).alloc (Nat.le_refl _) (Obj.cells #[.int .i64 l.a, .int .i64 l.b, .int .i64 l.c, .int .i64 l.d] 52)
      go_upto_region 5 with fail
      clear q0 q1 q2 q3
      replace hB := below_grows hB (Nat.le_refl _) hq
      replace hm := hm.grows hq
      replace k3 := k3.grows hq
      replace k1 := k1.grows hq
      clear hq
      generalize World.alloc wr _ = w4 at *
      generalize wr.heap.size = G5 at *
      have x5 := k5.cell
      have x3 := k3.cell 0
      obtain ⟨z, hz0⟩ : ∃ z : Int, (cntW (ls.take k) [] l.c : Int) = z := ⟨_, rfl⟩
      have hz1 : 0 ≤ z ∧ z ≤ 100000 := by
        have := cntW_le (ls.take k) [] l.c
        rw [List.length_take] at this
        omega
      have HZ := Lib.hid hz0
      have hwz : IntKind.i64.wrap (z + 1) = z + 1 := IntWalk.i64_in _ (by omega)
      clear hz0
      refine wp_region_lit ?_
      iterate 3
        refine wpList_plain rfl (fun K hK => ?_)
        go_simp
        refine hK _ _ ?_
        clear hK K
      refine wpList_lookT rfl (.tmp 20) (.tmp 22) 67 rfl rfl hm lawI Try.underlying67 (zeroI _) l.c (in64_ok HX.out) rfl ?_
      rw [show (M l.c).getD (.int .i64 0) = .int .i64 z from (HW.out l.c).trans (by dsimp only; rw [HZ.out])]
      iterate 1
        refine wpList_plain rfl (fun K hK => ?_)
        go_simp
        refine hK _ _ ?_
        clear hK K
      refine wpList_storeT rfl (.tmp 20) (.tmp 22) (.tmp 24) 67 rfl rfl hm lawI Try.underlying67 (by simp only [maxLen]; omega) l.c (in64_ok HX.out) (.int .i64 (z + 1)) rfl rfl ?_
      have hn3 := hm.ne_blk k3
      have hn1 := hm.ne_blk k1
      intro w9 hm9 hg9
      have HW2 : Hid (WaitM (fun y => if y = l.c then some (.int .i64 (z + 1)) else M y) fun y => (cntW (ls.take (k + 1)) [] y : Int)) := Lib.hid (fun y => by
        rw [HT.out]
        simp only [cntW_append]
        by_cases e : y = l.c
        · subst e
          simp [cntW, ← HZ.out]
        · have e2 : ¬ l.c = y := fun h => e h.symm
          have := HW.out y
          simp only [if_neg e, this]
          simp [cntW, e2])
      replace k3 := k3.grown hg9 (fun e => by injection e with e; exact hn3 e.symm)
      replace k1 := k1.grown hg9 (fun e => by injection e with e; exact hn1 e.symm)
      replace hB := hB.grown hg9 hB.size (fun q e => by injection e with e; subst e; exact hge)
      clear hm hg9 x5 x3 k5 hn3 hn1 HW
      go_wp2
      go_roundw
      case rel => exact ⟨k + 1, by omega, by go_num, ⟨_, n + 1, hm9, by omega, HW2⟩, k3, k1, hB⟩
      case measure => simp [intOf]; omega
    · have HW0 : Hid (WaitM M fun x => (cntW ls [] x : Int)) := Lib.hid (by
        have := HW.out
        rwa [List.take_of_length_le (by omega)] at this)
      clear HW
      go_upto_region 8 with fail
      generalize wr = w4 at *
      have hbd : Bm ≠ w4.heap.size := Nat.ne_of_lt hm.lt
      have hd := mapT_made TI w4
      have hq := (Below.refl w4.heap.size w4).alloc (Nat.le_refl _) (Obj.map #[] 0)
      go_upto_region 9 with fail
      have hge4 : w.heap.size ≤ w4.heap.size := hB.size
      have hq1 := (Below.refl (w4.alloc (Obj.map #[] 0)).heap.size (w4.alloc (Obj.map #[] 0))).alloc (Nat.le_refl _) (Obj.cells #[.map (some w4.heap.size)] 87)
      have k7 := blk_new_at (X := w4.alloc (Obj.map #[] 0)) (n := w4.heap.size + 1) (t := 87) (cs := #[.map (some w4.heap.size)]) (by simp)
      replace hB := below_grows (below_grows hB (Nat.le_refl _) hq) (Nat.le_refl _) hq1
      replace k1 := (k1.grows hq).grows hq1
      replace k3 := (k3.grows hq).grows hq1
      replace hm := (hm.grows hq).grows hq1
      replace hd := hd.grows hq1
      clear hq hq1
      generalize World.alloc (World.alloc w4 _) _ = w5 at *
      generalize hG7 : w4.heap.size + 1 = G7 at *
      have hge7 : w.heap.size ≤ G7 := by omega
      clear hG7
      generalize w4.heap.size = Bd at *
      have x1 := k1.cell
      go_wp2_with fail
      clear x1
      go_loopw [6, 30] (fun v i wr => ∃ (k : Nat) (out : List Int), k ≤ ns.length ∧ i = .int .i64 k ∧ OwnI wr w.heap.size v out ∧ Hid (runN ns ls (leftN ns out) out = orderL ns ls ∧ out.length + leftN ns out ≤ ns.length ∧ out.length = k) ∧ (∃ M n, MapT TI wr Bm n M ∧ n ≤ (k + 1) * 100000 ∧ Hid (WaitM M fun x => (cntW ls out x : Int))) ∧ (∃ D, MapT TI wr Bd k D ∧ Hid (DoneM D out)) ∧ Blk wr G3 67 #[.map (some Bm)] ∧ Blk wr G7 87 #[.map (some Bd)] ∧ Blk wr w.heap.size 40 #[.slice A ns.length c, .slice A2 ls.length c2] ∧ Below w.heap.size w wr) (fun _ i _ => ns.length - (intOf i).toNat)
      case atStart => exact ⟨0, [], by omega, rfl, ownI_nil _ _, Lib.hid ⟨order_nil ns ls, by have := left_nil ns; simp only [List.length_nil]; omega, rfl⟩, ⟨M, n, hm, by omega, HW0⟩, ⟨_, hd, Lib.hid (fun x => rfl)⟩, k3, k7, k1, hB⟩
      case round =>
        clear hB k1 k3 k7 hm hd HW0 hn
        obtain ⟨k, out, hk, rfl, hown, HR, ⟨M, n, hm, hn, HW⟩, ⟨D, hd, HD⟩, k3, k7, k1, hB⟩ := hrel
        obtain ⟨A3, c3, rfl, hc3, hi⟩ := hown.read
        by_cases hlt : k < ns.length
        · have x1 := k1.cell
          have x3 := k3.cell 0
          have x7 := k7.cell 0
          generalize wr = w0 at *
          go_wp2_with fail
          have hol : out.length ≤ 100000 := by have := HR.out.2.2; omega
          refine (index_any A c ns (freeN ls out) G7 G3 _ (h.grows hB) (by omega) ?_).mono ?_
          · intro x hx w1 hq
            have hc := order1_any x G7 G3 Bd Bm k n D M (out.contains x.a) (cntW ls out x.a) w1 (k7.grows hq) (k3.grows hq) (hd.grows hq) (hm.grows hq) (HRn.out x hx) (HD.out x.a) (HW.out x.a)
            rw [free_int] at hc
            exact hc
          rintro e w5 ⟨he, hq⟩
          replace hB := below_grows hB (Nat.le_refl _) hq
          replace k1 := k1.grows hq
          replace k3 := k3.grows hq
          replace k7 := k7.grows hq
          replace hm := hm.grows hq
          replace hd := hd.grows hq
          replace hown := hown.grows hq
          clear hq x1 x3 x7 hi
          cases hidx : ns.findIdx? (freeN ls out) with
          | none =>
            rw [hidx] at he
            simp only [placeV] at he
            subst he
            have HE : Hid (out = orderL ns ls) := Lib.hid (order_end (idx_none hidx) HR.out.1)
            clear hidx
            go_wp2
            go_ret
            refine ⟨⟨_, rfl, ?_⟩, hB⟩
            rw [← HE.out]
            exact hown
          | some k2 =>
            rw [hidx] at he
            simp only [placeV] at he
            subst he
            obtain ⟨x, hx, hk2, hnx⟩ := idx_find hidx
            clear hidx
            obtain ⟨ad, x', e1, had, hx', q0, q1, q2, q3⟩ := (h.grows hB).elem hk2
            rw [hx] at hx'
            injection hx' with hx'
            subst hx' e1
            have HIx : Hid (In64 x.a) := Lib.hid (HRn.out x (List.mem_of_getElem? hx))
            have HNX : Hid (nextN ns ls out = some x) := Lib.hid hnx
            have HNI : Hid (x.a ∉ out) := Lib.hid (free_new (next_some hnx).2)
            clear hx hnx
            have x1 := k1.cell
            have x7 := k7.cell 0
            have hk20 : ¬ ((k2 : Int) < 0) := by omega
            go_upto_region 14 with fail
            clear x1 q0 q1 q2 q3
            refine wp_region_lit ?_
            iterate 2
              refine wpList_plain rfl (fun K hK => ?_)
              go_simp
              refine hK _ _ ?_
              clear hK K
            have n1 := hd.ne_blk k1
            have n3 := hd.ne_blk k3
            have n7 := hd.ne_blk k7
            have no := hd.ne_own hown
            refine wpList_storeT rfl (.tmp 44) (.tmp 45) (.const (.bool true)) 87 rfl rfl hd lawI Try.underlying87 (by simp only [maxLen]; omega) x.a (in64_ok HIx.out) (.bool true) rfl rfl ?_
            intro w9 hd9 hg9
            have HD2 : Hid (DoneM (fun y => if y = x.a then some (.bool true) else D y) (out ++ [x.a])) := Lib.hid (fun y => by
              by_cases e : y = x.a
              · subst e
                simp
              · have h0 := HD.out y
                simp only [if_neg e, h0]
                simp [e])
            replace k1 := k1.grown hg9 (fun e => by injection e with e; exact n1 e.symm)
            replace k3 := k3.grown hg9 (fun e => by injection e with e; exact n3 e.symm)
            replace k7 := k7.grown hg9 (fun e => by injection e with e; exact n7 e.symm)
            replace hm := hm.kept hg9 (fun e => by injection e with e; exact hbd e)
            replace hown : OwnI w9 w.heap.size _ out := World.ownsRow.kept hown hg9 (.inr (fun e => no e.symm))
            replace hB := hB.grown hg9 hB.size (fun q e => by injection e with e; subst e; exact hge4)
            generalize hD2 : (fun y => if y = x.a then some (.bool true) else D y) = D2 at *
            clear hD2 hd hg9 n1 n3 n7 no HD x7
            go_upto_region 15 with fail
            refine wp_region_lit ?_
            iterate 3
              refine wpList_plain rfl (fun K hK => ?_)
              go_simp
              refine hK _ _ ?_
              clear hK K
            have hq := (Below.refl w9.heap.size w9).alloc (Nat.le_refl _) (Obj.cells #[.int .i64 x.a] 3)
            replace hB := below_grows hB (Nat.le_refl _) hq
            replace hown := hown.grows hq
            replace k1 := k1.grows hq
            replace k3 := k3.grows hq
            replace k7 := k7.grows hq
            replace hm := hm.grows hq
            replace hd9 := hd9.grows hq
            refine wpList_append_int rfl (.tmp 46) (.tmp 48) rfl (m := [x.a]) rfl rfl hown rfl (ints_lit w9 x.a) (by simp; omega) hB.size ?_
            intro v3 w10 hown3 hgr3 _
            have hB5 := hown.below hB hgr3 hB.size
            replace k1 := k1.grown hgr3 (fun e => own_blk_ne hown k1 (by decide) e.symm)
            replace k3 := k3.grown hgr3 (fun e => own_blk_ne hown k3 (by decide) e.symm)
            replace k7 := k7.grown hgr3 (fun e => own_blk_ne hown k7 (by decide) e.symm)
            replace hm := hm.kept hgr3 (hm.ne_own hown)
            replace hd9 := hd9.kept hgr3 (hd9.ne_own hown)
            clear hown hq hB hgr3
            have x1 := k1.cell
            go_wp2_with fail
            clear x1
            have hn0 : n ≤ (k + 1) * 100000 + 0 := Nat.le_add_right_of_le hn
            have HW0 : Hid (WaitM M fun y => (midW ls out x.a 0 y : Int)) := Lib.hid (fun y => by
              have h0 := HW.out y
              rw [h0]
              dsimp only
              rw [midW_zero])
            go_loopw [53] (fun i wr => ∃ j : Nat, j ≤ ls.length ∧ i = .int .i64 j ∧ OwnI wr w.heap.size v3 (out ++ [x.a]) ∧ (∃ M n, MapT TI wr Bm n M ∧ n ≤ (k + 1) * 100000 + j ∧ Hid (WaitM M fun y => (midW ls out x.a j y : Int))) ∧ MapT TI wr Bd (k + 1) D2 ∧ Blk wr G3 67 #[.map (some Bm)] ∧ Blk wr G7 87 #[.map (some Bd)] ∧ Blk wr w.heap.size 40 #[.slice (some ad) ns.length c, .slice A2 ls.length c2] ∧ Below w.heap.size w wr) (fun i _ => ls.length - (intOf i).toNat)
            case atStart => exact ⟨0, by omega, rfl, hown3, ⟨M, n, hm, hn0, HW0⟩, hd9, k3, k7, k1, hB5⟩
            case round =>
              clear hown3 hm hn hn0 HW HW0 hd9 k3 k7 k1 hB5
              obtain ⟨j, hj, rfl, hown, ⟨M, n, hm, hn, HW⟩, hd, k3, k7, k1, hB⟩ := hrel
              by_cases hlt2 : j < ls.length
              · obtain ⟨ad2, l, e2, had2, hx, q0, q1, q2, q3⟩ := (h2.grows hB).elem hlt2
                subst e2
                have HM : Hid (∀ y, midW ls out x.a j y = midW ls out x.a (j + 1) y + (if l.a = x.a ∧ l.c = y then 1 else 0)) := Lib.hid (fun y => midW_step hx HNI.out)
                have HX : Hid (In64 l.c) := Lib.hid (HRl.out l (List.mem_of_getElem? hx))
                clear hx
                have k11 := Blk.new wr 52 #[.int .i64 l.a, .int .i64 l.b, .int .i64 l.c, .int .i64 l.d]
                have hq := (Below.refl wr.heap.size wr).alloc (Nat.le_refl _) (Obj.cells #[.int .i64 l.a, .int .i64 l.b, .int .i64 l.c, .int .i64 l.d] 52)
                go_upto_region 19 with fail
                clear q0 q1 q2 q3
                replace hB := below_grows hB (Nat.le_refl _) hq
                replace hm := hm.grows hq
                replace hd := hd.grows hq
                replace hown := hown.grows hq
                replace k3 := k3.grows hq
                replace k7 := k7.grows hq
                replace k1 := k1.grows hq
                clear hq
                generalize World.alloc wr _ = w4 at *
                generalize wr.heap.size = G11 at *
                have x11 := k11.cell
                have x3 := k3.cell 0
                cases e2 : l.a == x.a
                · have e3 : ¬ l.a = x.a := by simpa using e2
                  have HW2 : Hid (WaitM M fun y => (midW ls out x.a (j + 1) y : Int)) := Lib.hid (fun y => by
                    have h0 := HW.out y
                    rw [h0]
                    dsimp only
                    rw [HM.out y, if_neg (fun h => e3 h.1)]
                    rfl)
                  clear e3
                  go_wp2
                  go_roundw
                  case rel => exact ⟨j + 1, by omega, by go_num, hown, ⟨M, n, hm, by omega, HW2⟩, hd, k3, k7, k1, hB⟩
                  case measure => simp [intOf]; omega
                · have e3 : l.a = x.a := by simpa using e2
                  obtain ⟨z, hz0⟩ : ∃ z : Int, (midW ls out x.a j l.c : Int) = z := ⟨_, rfl⟩
                  have HZ2 : Hid ((midW ls out x.a (j + 1) l.c : Int) = z - 1) := Lib.hid (by
                    have h0 := HM.out l.c
                    rw [if_pos ⟨e3, rfl⟩] at h0
                    omega)
                  have hz1 : 1 ≤ z ∧ z ≤ 100000 := by
                    have h0 := HZ2.out
                    have h1 := midW_le ls out x.a j l.c
                    omega
                  have HE3 := Lib.hid e3
                  have HZ := Lib.hid hz0
                  have hwz : IntKind.i64.wrap (z - 1) = z - 1 := IntWalk.i64_in _ (by omega)
                  clear hz0 e3
                  go_upto_region 20 with fail
                  refine wp_region_lit ?_
                  iterate 3
                    refine wpList_plain rfl (fun K hK => ?_)
                    go_simp
                    refine hK _ _ ?_
                    clear hK K
                  refine wpList_lookT rfl (.tmp 61) (.tmp 63) 67 rfl rfl hm lawI Try.underlying67 (zeroI _) l.c (in64_ok HX.out) rfl ?_
                  rw [show (M l.c).getD (.int .i64 0) = .int .i64 z from (HW.out l.c).trans (by dsimp only; rw [HZ.out])]
                  iterate 1
                    refine wpList_plain rfl (fun K hK => ?_)
                    go_simp
                    refine hK _ _ ?_
                    clear hK K
                  have n1 := hm.ne_blk k1
                  have n3 := hm.ne_blk k3
                  have n7 := hm.ne_blk k7
                  have no := hm.ne_own hown
                  refine wpList_storeT rfl (.tmp 61) (.tmp 63) (.tmp 65) 67 rfl rfl hm lawI Try.underlying67 (by simp only [maxLen]; omega) l.c (in64_ok HX.out) (.int .i64 (z - 1)) rfl rfl ?_
                  intro w9 hm9 hg9
                  have HW2 : Hid (WaitM (fun y => if y = l.c then some (.int .i64 (z - 1)) else M y) fun y => (midW ls out x.a (j + 1) y : Int)) := Lib.hid (fun y => by
                    by_cases e : y = l.c
                    · subst e
                      simp only [if_true, Option.getD_some]
                      rw [HZ2.out]
                    · have h0 := HW.out y
                      simp only [if_neg e, h0]
                      rw [HM.out y, if_neg (fun h => e h.2.symm)]
                      rfl)
                  replace k1 := k1.grown hg9 (fun e => by injection e with e; exact n1 e.symm)
                  replace k3 := k3.grown hg9 (fun e => by injection e with e; exact n3 e.symm)
                  replace k7 := k7.grown hg9 (fun e => by injection e with e; exact n7 e.symm)
                  replace hd := hd.kept hg9 (fun e => by injection e with e; exact hbd e.symm)
                  replace hown : OwnI w9 w.heap.size _ (out ++ [x.a]) := World.ownsRow.kept hown hg9 (.inr (fun e => no e.symm))
                  replace hB := hB.grown hg9 hB.size (fun q e => by injection e with e; subst e; exact hge)
                  clear hm hg9 x11 x3 k11 n1 n3 n7 no HW
                  go_wp2
                  go_roundw
                  case rel => exact ⟨j + 1, by omega, by go_num, hown, ⟨_, n + 1, hm9, by omega, HW2⟩, hd, k3, k7, k1, hB⟩
                  case measure => simp [intOf]; omega
              · have HW2 : Hid (WaitM M fun y => (cntW ls (out ++ [x.a]) y : Int)) := Lib.hid (fun y => by
                  have h0 := HW.out y
                  rw [h0]
                  dsimp only
                  rw [midW_end ls out x.a y (Nat.le_of_not_lt hlt2)])
                have HL := Lib.hid (left_lt HNX.out)
                have HS := Lib.hid (order_step HNX.out HR.out.1)
                have HR2 : Hid (runN ns ls (leftN ns (out ++ [x.a])) (out ++ [x.a]) = orderL ns ls ∧ (out ++ [x.a]).length + leftN ns (out ++ [x.a]) ≤ ns.length ∧ (out ++ [x.a]).length = k + 1) := Lib.hid (by
                  have h1 := HR.out.2
                  have h3 := HL.out
                  refine ⟨HS.out, ?_, ?_⟩
                  · rw [List.length_append]; simp only [List.length_singleton]; omega
                  · rw [List.length_append]; simp only [List.length_singleton]; omega)
                have HN2 : Hid (n ≤ (k + 1 + 1) * 100000) := Lib.hid (bd_step hn hj hl2)
                go_wp2
                go_roundw
                case rel => exact ⟨k + 1, out ++ [x.a], by omega, by go_num, hown, HR2, ⟨M, n, hm, HN2.out, HW2⟩, ⟨D2, hd, HD2⟩, k3, k7, k1, hB⟩
                case measure => simp [intOf]; omega
        · have HE : Hid (out = orderL ns ls) := Lib.hid (left_none HR.out.1 HR.out.2.1 (by have := HR.out.2.2; omega))
          go_wp2
          go_ret
          refine ⟨⟨_, rfl, ?_⟩, hB⟩
          rw [← HE.out]
          exact hown
end Go.Proofs.Ytmokpiacioeohaa
