/-
  Layer 9: intersections. Plain contracts.
-/
import Derived.Test.YtejdaodchaeglaaSpJ
namespace Go.Proofs.Ytejdaodchaeglaa
open Go.RowKit
def cutsS (x : Sp) (b : List Sp) : List Sp := b.flatMap fun y => cutS x y
theorem cutsS_snoc (x y : Sp) (b : List Sp) : cutsS x (b ++ [y]) = cutsS x b ++ cutS x y := by simp [cutsS]
theorem interF_snoc (a b : List Sp) (x : Sp) : interF (a ++ [x]) b = interF a b ++ cutsS x b := by simp [interF, cutsS]
theorem cutsS_len (x : Sp) (b : List Sp) : (cutsS x b).length ≤ b.length := by
  induction b with
  | nil => simp [cutsS]
  | cons y b ih =>
    have : (cutS x y).length ≤ 1 := by unfold cutS; split <;> simp
    simp only [cutsS, List.flatMap_cons, List.length_append, List.length_cons] at *
    omega
theorem interF_len (a b : List Sp) : (interF a b).length ≤ a.length * b.length := by
  induction a with
  | nil => simp [interF]
  | cons x a ih =>
    have h1 := cutsS_len x b
    have : interF (x :: a) b = cutsS x b ++ interF a b := rfl
    rw [this, List.length_append, List.length_cons, Nat.succ_mul]
    omega
section
variable {ops : Array Oper} {rest : List Oper} {o : Oper} {a : Act} {w : World} {Q : Exit → Act → World → Prop}
theorem wpList_append_sp2 (hgd : o.guard = none) (s x : Operand) (ho : o.op = .call { callee := .builtin .append, args := #[s, x], argTypes := #[22, 22] })
    {base : Nat} {v : Value} {l m : List Sp} {A : Option Addr} {c n : Nat} (hn : n = m.length) (hs : a.eval s = v) (hown : Own w base v l) (hx : a.eval x = .slice A n c) (hr : Sps w A m) (hlen : l.length + m.length ≤ 1000000) (hbase : base ≤ w.heap.size)
    (h : ∀ v' w', Own w' base v' (l ++ m) → w.grownBy w' v.ownBlock → (v'.ownBlock = v.ownBlock ∨ v'.ownBlock = some w.heap.size) → wpList Try.prog ops Q rest (a.put o.dst v') w') : wpList Try.prog ops Q (o :: rest) a w := by
  obtain ⟨i0, hi0, hi1, hi2, hi3, hi4⟩ := sinfo
  subst hn
  refine wpList_append_any w hgd s x 22 ho base 40 i0 _ 2 16 Try.underlying22 hi0 hi3 hi1 hi2 hi4 (by omega) v l.length (scells l) hs hown w.heap.size A m.length c (scells m) hx hr (scells_one m) (by simp only [maxLen]; omega) (by omega) hbase fun v' w' h1 h2 h3 => h v' w' ?_ h2 h3
  unfold Own
  rw [scells_append, List.length_append]
  exact h1
end
set_option maxHeartbeats 4000000 in
theorem spans_at (A : Option Addr) (c : Nat) (l : List Sp) (w : World) (h : Sps w A l) (hl : l.length ≤ 9223372036854775807) :
    Calls Try.prog 34 #[.agg #[.slice A l.length c]] w fun e w' => (∃ A2 c2, e = .returned (.slice A2 (spansF l).length c2) ∧ (∀ w0, Sps w0 A l → Sps w0 A2 (spansF l)) ∧ (l.length ≤ c → (spansF l).length ≤ c2)) ∧ Grows w w' := by
  have k2 := Blk.new w 24 #[.slice A l.length c]
  have hB := (Below.refl w.heap.size w).alloc (Nat.le_refl _) (Obj.cells #[.slice A l.length c] 24)
  go_enter Try.func34, Try.ntmps34
  go_upto_region 1 with fail
  have h1 := h.grows hB
  generalize World.alloc w _ = w1 at *
  have x2 := k2.cell 0
  go_wp2_with fail
  refine (valid_any A c l _ h1 hl).mono ?_
  rintro e w2 ⟨rfl, hq⟩
  replace hB := below_grows hB (Nat.le_refl _) hq
  replace k2 := k2.grows hq
  clear x2 hq
  have x2 := k2.cell 0
  cases hok : okS l
  · have e : spansF l = [] := if_neg (by rw [hok]; simp)
    have HE := Lib.hid e
    clear e
    go_wp2
    go_ret
    rw [HE.out]
    exact ⟨⟨none, 0, rfl, fun _ _ => sps_nil _, fun _ => Nat.le_refl _⟩, hB⟩
  · have e : spansF l = l := if_pos hok
    have HE := Lib.hid e
    clear e
    go_wp2
    go_ret
    rw [HE.out]
    exact ⟨⟨A, c, rfl, fun _ h => h, id⟩, hB⟩
set_option maxHeartbeats 4000000 in
theorem rspans_at (A : Option Addr) (c : Nat) (l : List Sp) (w : World) (h : Sps w A l) (hl : l.length ≤ 9223372036854775807) :
    Calls Try.prog 36 #[.agg #[.slice A l.length c]] w fun e w' => (∃ A2 c2, e = .returned (.slice A2 (spansF l).length c2) ∧ (∀ w0, Sps w0 A l → Sps w0 A2 (spansF l)) ∧ (l.length ≤ c → (spansF l).length ≤ c2)) ∧ Grows w w' := by
  have k2 := Blk.new w 24 #[.slice A l.length c]
  have hB := (Below.refl w.heap.size w).alloc (Nat.le_refl _) (Obj.cells #[.slice A l.length c] 24)
  go_enter Try.func36, Try.ntmps36
  go_upto_region 1 with fail
  have h1 := h.grows hB
  generalize World.alloc w _ = w1 at *
  have x2 := k2.cell 0
  go_wp2_with fail
  refine (rvalid_any A c l _ h1 hl).mono ?_
  rintro e w2 ⟨rfl, hq⟩
  replace hB := below_grows hB (Nat.le_refl _) hq
  replace k2 := k2.grows hq
  clear x2 hq
  have x2 := k2.cell 0
  cases hok : okS l
  · have e : spansF l = [] := if_neg (by rw [hok]; simp)
    have HE := Lib.hid e
    clear e
    go_wp2
    go_ret
    rw [HE.out]
    exact ⟨⟨none, 0, rfl, fun _ _ => sps_nil _, fun _ => Nat.le_refl _⟩, hB⟩
  · have e : spansF l = l := if_pos hok
    have HE := Lib.hid e
    clear e
    go_wp2
    go_ret
    rw [HE.out]
    exact ⟨⟨A, c, rfl, fun _ h => h, id⟩, hB⟩
set_option maxRecDepth 100000 in
set_option maxHeartbeats 16000000 in
theorem all_any (A : Option Addr) (c : Nat) (l : List Sp) (B : Option Addr) (cb : Nat) (m : List Sp) (w : World) (h : Sps w A l) (hl : l.length ≤ 9223372036854775807) (hm : Sps w B m) (hml : m.length ≤ 9223372036854775807) :
    Calls Try.prog 39 #[.agg #[.slice A l.length c], .agg #[.slice B m.length cb]] w fun e w' => (∃ v, e = .returned v ∧ Own w' w.heap.size v (interF (spansF l) (spansF m))) ∧ Grows w w' := by
  have k2 := (Blk.new w 24 #[.slice A l.length c]).alloc (Obj.cells #[.slice B m.length cb] 24)
  have k3 := blk_new_at (X := w.alloc (Obj.cells #[.slice A l.length c] 24)) (n := w.heap.size + 1) (t := 24) (cs := #[.slice B m.length cb]) (by simp)
  have hB := ((Below.refl w.heap.size w).alloc (Nat.le_refl _) (Obj.cells #[.slice A l.length c] 24)).alloc (by simp) (Obj.cells #[.slice B m.length cb] 24)
  go_enter Try.func39, Try.ntmps39
  go_upto_region 1 with fail
  generalize World.alloc (World.alloc w _) _ = w1 at *
  have x2 := k2.cell 0
  go_wp2_with fail
  refine (rspans_at A c l _ (h.grows hB) hl).mono ?_
  rintro e w2 ⟨⟨A2, c2, rfl, hat, -⟩, hq⟩
  replace hB := below_grows hB (Nat.le_refl _) hq
  replace k3 := k3.grows hq
  have h2 := hat w h
  have hl2 := spansF_len l
  have hm2 := spansF_len m
  generalize hA : spansF l = a at *
  have HA := Lib.hid hA
  clear x2 k2 hq h hat hA
  go_wp2_with fail
  go_loopw [5, 15] (fun v i wr => ∃ k : Nat, k ≤ a.length ∧ i = .int .i64 k ∧ Own wr w.heap.size v (interF (a.take k) (spansF m)) ∧ Below w.heap.size w wr ∧ Blk wr (w.heap.size + 1) 24 #[.slice B m.length cb]) (fun _ i _ => a.length - (intOf i).toNat)
  case atStart => exact ⟨0, by omega, rfl, own_nil _ _, hB, k3⟩
  case round =>
    clear hB k3
    obtain ⟨k, hk, rfl, hown, hB, k3⟩ := hrel
    by_cases hlt : k < a.length
    · obtain ⟨ad, x, rfl, had, hx, c0, c1⟩ := (h2.grows hB).elem hlt
      have HX : Hid (interF (a.take (k + 1)) (spansF m) = interF (a.take k) (spansF m) ++ cutsS x (spansF m)) := Lib.hid (by rw [take_snoc hx, interF_snoc])
      clear hx
      have hin : (interF (a.take k) (spansF m)).length ≤ 4096 := Nat.le_trans (interF_len _ _) (Nat.le_trans (Nat.mul_le_mul (by rw [List.length_take]; omega : (a.take k).length ≤ 64) hm2) (by omega))
      generalize interF (a.take k) (spansF m) = p at *
      have k7 := Blk.new wr 40 #[.int .i64 x.1, .int .i64 x.2]
      have hno : ∀ v : Value, Own wr w.heap.size v p → v.ownBlock ≠ some wr.heap.size := fun v ho e => by have := (ho.lt _ e).2; omega
      replace hno := hno _ hown
      have hq := (Below.refl wr.heap.size wr).alloc (Nat.le_refl _) (Obj.cells #[.int .i64 x.1, .int .i64 x.2] 40)
      replace hB := below_grows hB (Nat.le_refl _) hq
      replace k3 := k3.grows hq
      replace hown := hown.grows hq
      clear hq
      go_upto_region 5 with fail
      clear c0 c1
      generalize World.alloc wr _ = w4 at *
      generalize wr.heap.size = G7 at *
      have x3 := k3.cell 0
      go_wp2_with fail
      refine (rspans_at B cb m _ (hm.grows hB) hml).mono ?_
      rintro e w5 ⟨⟨B2, c5, rfl, hat, -⟩, hq⟩
      replace hown := hown.grows hq
      replace k7 := k7.grows hq
      replace k3 := k3.grows hq
      replace hB := below_grows hB (Nat.le_refl _) hq
      have h5 := hat w hm
      clear hq x3 hat
      generalize hMM : spansF m = mm at *
      have HMM := Lib.hid hMM
      clear hMM
      go_wp2_with fail
      go_loopw [5, 22] (fun v i wr => ∃ j : Nat, j ≤ mm.length ∧ i = .int .i64 j ∧ Own wr w.heap.size v (p ++ cutsS x (mm.take j)) ∧ v.ownBlock ≠ some G7 ∧ Below w.heap.size w wr ∧ Blk wr (w.heap.size + 1) 24 #[.slice B m.length cb] ∧ Blk wr G7 40 #[.int .i64 x.1, .int .i64 x.2]) (fun _ i _ => mm.length - (intOf i).toNat)
      case atStart => exact ⟨0, by omega, rfl, by simpa [cutsS] using hown, hno, hB, k3, k7⟩
      case round =>
        clear hown hB hno k3 k7
        obtain ⟨j, hj, rfl, hown, hno, hB, k3, k7⟩ := hrel
        by_cases hjt : j < mm.length
        · obtain ⟨ad2, y, rfl, had2, hy, d0, d1⟩ := (h5.grows hB).elem hjt
          have HY : Hid (cutsS x (mm.take (j + 1)) = cutsS x (mm.take j) ++ cutS x y) := Lib.hid (by rw [take_snoc hy, cutsS_snoc])
          clear hy
          have hcl : (cutsS x (mm.take j)).length ≤ 64 := Nat.le_trans (cutsS_len _ _) (by rw [List.length_take]; omega)
          generalize cutsS x (mm.take j) = r at *
          have k9 := Blk.new wr 40 #[.int .i64 y.1, .int .i64 y.2]
          have hq := (Below.refl wr.heap.size wr).alloc (Nat.le_refl _) (Obj.cells #[.int .i64 y.1, .int .i64 y.2] 40)
          replace hB := below_grows hB (Nat.le_refl _) hq
          replace hown := hown.grows hq
          replace k3 := k3.grows hq
          replace k7 := k7.grows hq
          clear hq
          go_upto_region 8 with fail
          clear d0 d1
          generalize World.alloc wr _ = w6 at *
          generalize wr.heap.size = G9 at *
          have e0 := k7.cell 0
          have e1 := k7.cell 1
          have f0 := k9.cell 0
          have f1 := k9.cell 1
          go_region
          have HC : Hid (cutS x y = if max x.1 y.1 ≤ min x.2 y.2 then [(max x.1 y.1, min x.2 y.2)] else []) := Lib.hid rfl
          generalize max x.1 y.1 = lo at *
          generalize min x.2 y.2 = hi at *
          have hq := Grows.drew' w6
          replace hB := below_grows hB (Nat.le_refl _) hq
          replace hown := hown.grows hq
          replace k3 := k3.grows hq
          replace k7 := k7.grows hq
          clear hq e0 e1 f0 f1 k9
          generalize World.drew _ = w7 at *
          by_cases hlh : lo ≤ hi
          · go_upto_region 10 with fail
            refine wp_region_lit ?_
            iterate 5
              refine wpList_plain rfl (fun K hK => ?_)
              go_simp
              refine hK _ _ ?_
              clear hK K
            have hq := (Below.refl w7.heap.size w7).alloc (Nat.le_refl _) (Obj.cells #[.int .i64 lo, .int .i64 hi] 40)
            replace hB := below_grows hB (Nat.le_refl _) hq
            replace hown := hown.grows hq
            replace k3 := k3.grows hq
            replace k7 := k7.grows hq
            refine wpList_append_sp2 rfl (.tmp 39) (.tmp 43) rfl (m := [(lo, hi)]) rfl rfl hown rfl (sps_lit w7 (lo, hi)) (by simp; omega) hB.size ?_
            intro v3 w8 hown3 hgr3 hv3
            have hB5 := hown.below hB hgr3 hB.size
            have k35 := k3.grown hgr3 (fun e => own_blk_ne hown k3 (by decide) e.symm)
            have k75 := k7.grown hgr3 (fun e => hno e.symm)
            have hno5 : v3.ownBlock ≠ some G7 := by
              rcases hv3 with e | e
              · rw [e]; exact hno
              · rw [e]; intro e2; injection e2 with e2; have := k7.lt; omega
            have e : p ++ cutsS x (mm.take (j + 1)) = p ++ r ++ [(lo, hi)] := by rw [HY.out, HC.out, if_pos hlh, List.append_assoc]
            rw [← e] at hown3
            clear e HY HC hown hq hB hgr3 k3 k7 hno hv3
            go_wp2
            go_roundw
            case rel => exact ⟨j + 1, by omega, by go_num, hown3, hno5, hB5, k35, k75⟩
            case measure => simp [intOf]; omega
          · have e : p ++ cutsS x (mm.take (j + 1)) = p ++ r := by rw [HY.out, HC.out, if_neg hlh, List.append_nil]
            rw [← e] at hown
            clear e HY HC
            go_wp2
            go_roundw
            case rel => exact ⟨j + 1, by omega, by go_num, hown, hno, hB, k3, k7⟩
            case measure => simp [intOf]; omega
        · have e : mm.take j = mm := List.take_of_length_le (by omega)
          rw [e, ← HX.out] at hown
          clear e HX hno k7
          go_wp2
          go_roundw
          case rel => exact ⟨k + 1, by omega, by go_num, by rw [HMM.out]; exact hown, hB, k3⟩
          case measure => simp [intOf]; omega
    · have e : a.take k = a := List.take_of_length_le (by omega)
      rw [e, ← HA.out] at hown
      clear e
      go_wp2
      go_ret
      exact ⟨⟨_, rfl, hown⟩, hB⟩
end Go.Proofs.Ytejdaodchaeglaa
