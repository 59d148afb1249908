/-
  Layer 9: Make and Same of the reference; Has. Plain contracts.
-/
import Derived.Test.YtejdaodchaeglaaSpG
namespace Go.Proofs.Ytejdaodchaeglaa
open Go.RowKit
set_option maxHeartbeats 8000000 in
theorem rmake_any (A : Option Addr) (c : Nat) (l : List Sp) (w : World) (h : Sps w A l) (hl : l.length ≤ 10000) :
    Calls Try.prog 12 #[.slice A l.length c] w fun e w' => (∃ v, e = .returned (.tuple #[v, .int .i64 (makeF l).2]) ∧ SetV w' (makeF l).1 v) ∧ Grows w w' := by
  have k2 := Blk.new w 24 #[.slice none 0 0]
  have hB := (Below.refl w.heap.size w).alloc (Nat.le_refl _) (Obj.cells #[.slice none 0 0] 24)
  have h1 := h.grows hB
  go_enter Try.func12, Try.ntmps12
  go_upto_region 1 with fail
  generalize World.alloc w _ = w1 at *
  go_wp2_with fail
  go_loopw [9] (fun i wr => ∃ k : Nat, k ≤ l.length ∧ i = .int .i64 k ∧ (l.take k).all fineS = true ∧ Grows w1 wr) (fun i _ => l.length - (intOf i).toNat)
  case atStart => exact ⟨0, by omega, rfl, rfl, Below.refl _ _⟩
  case round =>
    obtain ⟨k, hk, rfl, hall, hg⟩ := hrel
    by_cases hlt : k < l.length
    · obtain ⟨ad, x, rfl, had, hx, c0, c1⟩ := (h1.grows hg).elem hlt
      have HX := Lib.hid (all_snoc hx)
      have HM : Hid (x ∈ l) := List.mem_of_getElem? hx
      clear hx
      have hq := (Below.refl wr.heap.size wr).alloc (Nat.le_refl _) (Obj.cells #[.int .i64 x.1, .int .i64 x.2] 40)
      replace hg := below_grows hg (Nat.le_refl _) hq
      clear hq
      have k5 := Blk.new wr 40 #[.int .i64 x.1, .int .i64 x.2]
      go_upto_region 4 with fail
      generalize World.alloc wr _ = w3 at *
      generalize wr.heap.size = G5 at *
      clear c0 c1
      have e0 := k5.cell 0
      have e1 := k5.cell 1
      by_cases h1 : x.1 < 0
      · skip
        have hm : makeF l = ([], 2) := by
          unfold makeF
          rw [if_neg]
          intro ha
          have := List.all_eq_true.1 ha x HM.out
          rw [show fineS x = false by simp [fineS]; omega] at this
          cases this
        have k3 := k2.grows hg
        have x3 := k3.cell 0
        have f3 := k3.frozen 0
        have HE := Lib.hid hm
        clear hm
        go_wp2
        have k4 := k3.set_ 0 (.slice none 0 0)
        have hB4 := (below_grows hB (Nat.le_refl _) hg).setCell (p := ⟨w.heap.size, 0, none⟩) (Nat.le_refl _) (.slice none 0 0)
        generalize World.setCell _ _ _ = w5 at *
        have x4 : w5.cell? ⟨w.heap.size, 0, none⟩ = some (.slice none 0 0) := by rw [k4.cell]; rfl
        clear x3 f3 k3 k4
        refine bodyPost_ret (v := .tuple #[.agg #[.slice none 0 0], .int .i64 2]) (by simp [results, Try.results12, go_sem, x4]) rfl ⟨⟨_, by rw [HE.out], by rw [HE.out]; exact setV_nil _⟩, hB4⟩
      by_cases h2 : x.2 < x.1
      · skip
        have hm : makeF l = ([], 2) := by
          unfold makeF
          rw [if_neg]
          intro ha
          have := List.all_eq_true.1 ha x HM.out
          rw [show fineS x = false by simp [fineS]; omega] at this
          cases this
        have k3 := k2.grows hg
        have x3 := k3.cell 0
        have f3 := k3.frozen 0
        have HE := Lib.hid hm
        clear hm
        go_wp2
        have k4 := k3.set_ 0 (.slice none 0 0)
        have hB4 := (below_grows hB (Nat.le_refl _) hg).setCell (p := ⟨w.heap.size, 0, none⟩) (Nat.le_refl _) (.slice none 0 0)
        generalize World.setCell _ _ _ = w5 at *
        have x4 : w5.cell? ⟨w.heap.size, 0, none⟩ = some (.slice none 0 0) := by rw [k4.cell]; rfl
        clear x3 f3 k3 k4
        refine bodyPost_ret (v := .tuple #[.agg #[.slice none 0 0], .int .i64 2]) (by simp [results, Try.results12, go_sem, x4]) rfl ⟨⟨_, by rw [HE.out], by rw [HE.out]; exact setV_nil _⟩, hB4⟩
      by_cases h3 : 2147483647 < x.2
      · skip
        have hm : makeF l = ([], 2) := by
          unfold makeF
          rw [if_neg]
          intro ha
          have := List.all_eq_true.1 ha x HM.out
          rw [show fineS x = false by simp [fineS]; omega] at this
          cases this
        have k3 := k2.grows hg
        have x3 := k3.cell 0
        have f3 := k3.frozen 0
        have HE := Lib.hid hm
        clear hm
        go_wp2
        have k4 := k3.set_ 0 (.slice none 0 0)
        have hB4 := (below_grows hB (Nat.le_refl _) hg).setCell (p := ⟨w.heap.size, 0, none⟩) (Nat.le_refl _) (.slice none 0 0)
        generalize World.setCell _ _ _ = w5 at *
        have x4 : w5.cell? ⟨w.heap.size, 0, none⟩ = some (.slice none 0 0) := by rw [k4.cell]; rfl
        clear x3 f3 k3 k4
        refine bodyPost_ret (v := .tuple #[.agg #[.slice none 0 0], .int .i64 2]) (by simp [results, Try.results12, go_sem, x4]) rfl ⟨⟨_, by rw [HE.out], by rw [HE.out]; exact setV_nil _⟩, hB4⟩
      have HF : Hid (fineS x = true) := Lib.hid ((fineS_iff x).2 ⟨by omega, by omega, by omega⟩)
      go_wp2
      go_roundw
      case rel => exact ⟨k + 1, by omega, by go_num, by rw [HX.out, hall, HF.out]; rfl, hg⟩
      case measure => simp [intOf]; omega
    · have e : l.take k = l := List.take_of_length_le (by omega)
      rw [e] at hall
      have hf : ∀ x ∈ l, fineS x = true := List.all_eq_true.1 hall
      have hm : makeF l = if 64 < (formS l).length then ([], 3) else (formS l, 0) := if_pos hall
      have HE := Lib.hid hm
      clear hm e hall
      go_wp2_with fail
      refine (joined_any A c l _ (h1.grows hg) (by omega) hf).mono ?_
      rintro e w2 ⟨⟨v, rfl, hown⟩, hq⟩
      have hg4 := below_grows hg (Nat.le_refl _) hq
      have hfl : (formS l).length ≤ 100000 := by have := (formS_forms hf).2.2; omega
      obtain ⟨A4, c4, rfl, hc4, hr4, -⟩ := hown.read
      clear hq hg hown
      generalize hfo : formS l = o at *
      clear hfo
      have k6 := Blk.new w2 24 #[.slice A4 o.length c4]
      have hq := (Below.refl w2.heap.size w2).alloc (Nat.le_refl _) (Obj.cells #[.slice A4 o.length c4] 24)
      replace hg4 := below_grows hg4 (Nat.le_refl _) hq
      replace hr4 := hr4.grows hq
      clear hq
      go_upto_region 8 with fail
      generalize World.alloc w2 _ = w3 at *
      generalize w2.heap.size = G6 at *
      have x6 := k6.cell 0
      have k3 := k2.grows hg4
      have x3 := k3.cell 0
      have f3 := k3.frozen 0
      by_cases h64 : 64 < o.length
      · have hm : makeF l = ([], 3) := by rw [HE.out, if_pos h64]
        replace HE := Lib.hid hm
        clear hm
        go_wp2
        have k4 := k3.set_ 0 (.slice none 0 0)
        have hB4 := (below_grows hB (Nat.le_refl _) hg4).setCell (p := ⟨w.heap.size, 0, none⟩) (Nat.le_refl _) (.slice none 0 0)
        generalize World.setCell _ _ _ = w5 at *
        have x4 : w5.cell? ⟨w.heap.size, 0, none⟩ = some (.slice none 0 0) := by rw [k4.cell]; rfl
        clear x3 f3 k3 k4
        refine bodyPost_ret (v := .tuple #[.agg #[.slice none 0 0], .int .i64 3]) (by simp [results, Try.results12, go_sem, x4]) rfl ⟨⟨_, by rw [HE.out], by rw [HE.out]; exact setV_nil _⟩, hB4⟩
      · have hm : makeF l = (o, 0) := by rw [HE.out, if_neg h64]
        replace HE := Lib.hid hm
        clear hm
        go_wp2
        have k4 := k3.set_ 0 (.slice A4 o.length c4)
        have hB4 := (below_grows hB (Nat.le_refl _) hg4).setCell (p := ⟨w.heap.size, 0, none⟩) (Nat.le_refl _) (.slice A4 o.length c4)
        have hr5 := hr4.setOther k3 (.slice A4 o.length c4)
        generalize World.setCell _ _ _ = w5 at *
        have x4 : w5.cell? ⟨w.heap.size, 0, none⟩ = some (.slice A4 o.length c4) := by rw [k4.cell]; rfl
        clear x3 f3 k3 k4
        refine bodyPost_ret (v := .tuple #[.agg #[.slice A4 o.length c4], .int .i64 0]) (by simp [results, Try.results12, go_sem, x4]) rfl ⟨⟨_, by rw [HE.out], by rw [HE.out]; exact ⟨A4, c4, rfl, hc4, hr5⟩⟩, hB4⟩
set_option maxHeartbeats 4000000 in
theorem ssame_eq (A A2 : Option Addr) (c c2 : Nat) (l : List Sp) (w : World) (h : Sps w A l) (h2 : Sps w A2 l) (hl : l.length ≤ 9223372036854775807) :
    Calls Try.prog 13 #[.agg #[.slice A l.length c], .agg #[.slice A2 l.length c2]] w fun e w' => e = .returned (.bool true) ∧ Grows w w' := by
  have k1 := (Blk.new w 24 #[.slice A l.length c]).alloc (Obj.cells #[.slice A2 l.length c2] 24)
  have k2 := blk_new_at (X := w.alloc (Obj.cells #[.slice A l.length c] 24)) (n := w.heap.size + 1) (t := 24) (cs := #[.slice A2 l.length c2]) (by simp)
  have hB := ((Below.refl w.heap.size w).alloc (Nat.le_refl _) (Obj.cells #[.slice A l.length c] 24)).alloc (by simp) (Obj.cells #[.slice A2 l.length c2] 24)
  go_enter Try.func13, Try.ntmps13
  go_upto_region 1 with fail
  have h1 := h.grows hB
  have h3 := h2.grows hB
  generalize World.alloc (World.alloc w _) _ = w1 at *
  have x1 := k1.cell 0
  have x2 := k2.cell 0
  go_wp2_with fail
  clear x1 x2
  go_loopw [16] (fun i wr => ∃ k : Nat, k ≤ l.length ∧ i = .int .i64 k ∧ Grows w1 wr) (fun i _ => l.length - (intOf i).toNat)
  case atStart => exact ⟨0, by omega, rfl, Below.refl _ _⟩
  case round =>
    obtain ⟨k, hk, rfl, hg⟩ := hrel
    by_cases hlt : k < l.length
    · obtain ⟨ad, x, rfl, had, hx, c0, c1⟩ := (h1.grows hg).elem hlt
      obtain ⟨ad2, x2, rfl, had2, hx2, d0, d1⟩ := (h3.grows hg).elem hlt
      rw [hx] at hx2
      injection hx2 with hx2
      subst hx2
      clear hx
      have k3 := k1.grows hg
      have k4 := k2.grows hg
      have y1 := k3.cell 0
      have y2 := k4.cell 0
      go_upto_region 6 with fail
      go_region
      replace hg := below_grows hg (Nat.le_refl _) (Grows.drew' wr)
      go_wp2
      go_roundw
      case rel => exact ⟨k + 1, by omega, by go_num, hg⟩
      case measure => simp [intOf]; omega
    · go_wp2
      go_ret
      exact ⟨rfl, below_grows hB (Nat.le_refl _) hg⟩
def hasP (n : Int) (x : Sp) : Bool := (decide (x.1 ≤ n) && decide (n ≤ x.2))
def hasF (l : List Sp) (n : Int) : Bool := (spansF l).any fun x => hasP n x
theorem has_p (n : Int) (x : Sp) (B : Nat) (w : World) (kn : Blk w B 3 #[.int .i64 n]) : Calls Try.prog 35 #[.agg #[.int .i64 x.1, .int .i64 x.2], .pointer (some ⟨B, 0, none⟩)] w fun e w' => e = .returned (.bool (hasP n x)) ∧ Grows w w' := by
  have hB := (Below.refl w.heap.size w).alloc (Nat.le_refl _) (Obj.cells #[.int .i64 x.1, .int .i64 x.2] 40)
  have x1 := (kn.grows hB).cell 0
  by_cases h1 : x.1 ≤ n
  · by_cases h2 : n ≤ x.2
    · have HE : Hid (hasP n x = true) := Lib.hid (by simp [hasP, h1, h2])
      go_enter Try.func35, Try.ntmps35
      go_wp2
      go_ret
      exact ⟨ret_bool HE.out.symm, hB⟩
    · have HE : Hid (hasP n x = false) := Lib.hid (by simp [hasP, h2])
      go_enter Try.func35, Try.ntmps35
      go_wp2
      go_ret
      exact ⟨ret_bool HE.out.symm, hB⟩
  · have HE : Hid (hasP n x = false) := Lib.hid (by simp [hasP, h1])
    go_enter Try.func35, Try.ntmps35
    go_wp2
    go_ret
    exact ⟨ret_bool HE.out.symm, hB⟩
def Found_has (n : Int) (l : List Sp) (r : Int) : Prop := (r = -1 ∧ ∀ x ∈ l, hasP n x = false) ∨ (0 ≤ r ∧ ∃ x ∈ l, hasP n x = true)
set_option maxHeartbeats 4000000 in
theorem index_has (n : Int) (A : Option Addr) (c : Nat) (l : List Sp) (w : World) (B : Nat) (kn : Blk w B 3 #[.int .i64 n]) (h : Sps w A l) (hl : l.length ≤ 9223372036854775807) (F : Value) (hF : F = .func (.func 35) #[] #[.pointer (some ⟨B, 0, none⟩)]) :
    Calls Try.prog 44 #[.slice A l.length c, F] w fun e w' => (∃ r, Found_has n l r ∧ e = .returned (.int .i64 r)) ∧ Grows w w' := by
  subst hF
  go_enter Try.func44, Try.ntmps44
  go_wp2
  go_loopw [8] (fun i wr => ∃ k : Nat, k ≤ l.length ∧ i = .int .i64 k ∧ Grows w wr ∧ ∀ x ∈ l.take k, hasP n x = false) (fun i _ => l.length - (intOf i).toNat)
  case atStart => exact ⟨0, by omega, rfl, Below.refl _ _, by simp⟩
  case round =>
    obtain ⟨k, hk, rfl, hB, hall⟩ := hrel
    by_cases hlt : k < l.length
    · obtain ⟨ad, x, rfl, had, hx, c0, c1⟩ := (h.grows hB).elem hlt
      have HX : Hid (l.take (k + 1) = l.take k ++ [x]) := take_snoc hx
      have HM : Hid (x ∈ l) := List.mem_of_getElem? hx
      clear hx
      go_wp2_with fail
      refine (has_p n x B _ (kn.grows hB)).mono ?_
      rintro e w2 ⟨rfl, hq⟩
      replace hB := below_grows hB (Nat.le_refl _) hq
      clear c0 c1 hq
      cases ho : hasP n x
      · go_wp2
        go_roundw
        case rel =>
          refine ⟨k + 1, by omega, by go_num, hB, ?_⟩
          rw [HX.out]
          intro y hy
          rcases List.mem_append.1 hy with hy | hy
          · exact hall y hy
          · simp at hy; subst hy; exact ho
        case measure => simp [intOf]; omega
      · go_wp2
        go_ret
        exact ⟨⟨_, .inr ⟨by omega, x, HM.out, ho⟩, rfl⟩, hB⟩
    · have e : l.take k = l := List.take_of_length_le (by omega)
      rw [e] at hall
      go_wp2
      go_ret
      exact ⟨⟨-1, .inl ⟨rfl, hall⟩, rfl⟩, hB⟩
set_option maxHeartbeats 4000000 in
theorem cont_has (n : Int) (A : Option Addr) (c : Nat) (l : List Sp) (w : World) (B : Nat) (kn : Blk w B 3 #[.int .i64 n]) (h : Sps w A l) (hl : l.length ≤ 9223372036854775807) :
    Calls Try.prog 33 #[.slice A l.length c, .func (.func 35) #[] #[.pointer (some ⟨B, 0, none⟩)]] w fun e w' => e = .returned (.bool (l.any fun x => hasP n x)) ∧ Grows w w' := by
  go_enter Try.func33, Try.ntmps33
  go_wp2_with fail
  refine (index_has n A c l _ B kn h hl _ rfl).mono ?_
  rintro e w2 ⟨⟨r, hr, rfl⟩, hB⟩
  have hd : decide (0 ≤ r) = l.any fun x => hasP n x := by
    rcases hr with ⟨rfl, ha⟩ | ⟨h0, x, hx, ho⟩
    · rw [show decide ((0 : Int) ≤ -1) = false from rfl]
      symm
      rw [List.any_eq_false]
      intro x hx
      rw [ha x hx]
      simp
    · rw [show decide (0 ≤ r) = true from by simpa using h0]
      symm
      exact List.any_eq_true.2 ⟨x, hx, ho⟩
  go_wp2
  go_ret
  exact ⟨rfl, hB⟩
set_option maxHeartbeats 4000000 in
theorem has_any (A : Option Addr) (c : Nat) (l : List Sp) (n : Int) (w : World) (h : Sps w A l) (hl : l.length ≤ 9223372036854775807) :
    Calls Try.prog 16 #[.agg #[.slice A l.length c], .int .i64 n] w fun e w' => e = .returned (.bool (hasF l n)) ∧ Grows w w' := by
  have k2 := (Blk.new w 24 #[.slice A l.length c]).alloc (Obj.cells #[.int .i64 n] 3)
  have k3 := blk_new_at (X := w.alloc (Obj.cells #[.slice A l.length c] 24)) (n := w.heap.size + 1) (t := 3) (cs := #[.int .i64 n]) (by simp)
  have hB := ((Below.refl w.heap.size w).alloc (Nat.le_refl _) (Obj.cells #[.slice A l.length c] 24)).alloc (by simp) (Obj.cells #[.int .i64 n] 3)
  go_enter Try.func16, Try.ntmps16
  go_upto_region 1 with fail
  have h1 := h.grows hB
  generalize World.alloc (World.alloc w _) _ = w1 at *
  have x2 := k2.cell 0
  go_wp2_with fail
  refine (spans_any A c l _ h1 hl).mono ?_
  rintro e w2 ⟨⟨A2, c2, rfl, h2, -⟩, hq⟩
  replace hB := below_grows hB (Nat.le_refl _) hq
  have hl2 := spansF_len l
  have HF : Hid (hasF l n = (spansF l).any fun x => hasP n x) := Lib.hid rfl
  generalize spansF l = o at *
  go_wp2_with fail
  refine (cont_has n A2 c2 o _ _ (k3.grows hq) h2 (by omega)).mono ?_
  rintro e w3 ⟨rfl, hq2⟩
  replace hB := below_grows hB (Nat.le_refl _) hq2
  go_wp2
  go_ret
  exact ⟨ret_bool HF.out.symm, hB⟩
set_option maxHeartbeats 4000000 in
theorem rhas_any (A : Option Addr) (c : Nat) (l : List Sp) (n : Int) (w : World) (h : Sps w A l) (hl : l.length ≤ 9223372036854775807) :
    Calls Try.prog 17 #[.agg #[.slice A l.length c], .int .i64 n] w fun e w' => e = .returned (.bool (hasF l n)) ∧ Grows w w' := by
  have k2 := Blk.new w 24 #[.slice A l.length c]
  have hB := (Below.refl w.heap.size w).alloc (Nat.le_refl _) (Obj.cells #[.slice A l.length c] 24)
  go_enter Try.func17, Try.ntmps17
  go_upto_region 1 with fail
  have h1 := h.grows hB
  generalize World.alloc w _ = w1 at *
  have x2 := k2.cell 0
  go_wp2_with fail
  refine (rspans_any A c l _ h1 hl).mono ?_
  rintro e w2 ⟨⟨A2, c2, rfl, h2, -⟩, hq⟩
  replace hB := below_grows hB (Nat.le_refl _) hq
  have hl2 := spansF_len l
  have HF : Hid (hasF l n = (spansF l).any fun x => hasP n x) := Lib.hid rfl
  generalize spansF l = o at *
  clear x2 hq
  go_wp2_with fail
  go_loopw [10] (fun i wr => ∃ k : Nat, k ≤ o.length ∧ i = .int .i64 k ∧ Grows w2 wr ∧ ∀ x ∈ o.take k, hasP n x = false) (fun i _ => o.length - (intOf i).toNat)
  case atStart => exact ⟨0, by omega, rfl, Below.refl _ _, by simp⟩
  case round =>
    obtain ⟨k, hk, rfl, hg, hall⟩ := hrel
    by_cases hlt : k < o.length
    · obtain ⟨ad, x, rfl, had, hx, c0, c1⟩ := (h2.grows hg).elem hlt
      have HX : Hid (o.take (k + 1) = o.take k ++ [x]) := take_snoc hx
      have HM : Hid (x ∈ o) := List.mem_of_getElem? hx
      clear hx
      have hq := (Below.refl wr.heap.size wr).alloc (Nat.le_refl _) (Obj.cells #[.int .i64 x.1, .int .i64 x.2] 40)
      replace hg := below_grows hg (Nat.le_refl _) hq
      clear hq
      by_cases h1 : x.1 ≤ n
      · by_cases h2 : n ≤ x.2
        · have HE : Hid (o.any (fun x => hasP n x) = true) := Lib.hid (List.any_eq_true.2 ⟨x, HM.out, by simp [hasP, h1, h2]⟩)
          go_wp2
          go_ret
          exact ⟨ret_bool (HF.out.trans HE.out).symm, below_grows hB (Nat.le_refl _) hg⟩
        · have HE : Hid (hasP n x = false) := Lib.hid (by simp [hasP, h2])
          go_wp2
          go_roundw
          case rel => exact ⟨k + 1, by omega, by go_num, hg, by rw [HX.out]; intro y hy; rcases List.mem_append.1 hy with hy | hy; exact hall y hy; rw [List.mem_singleton.1 hy]; exact HE.out⟩
          case measure => simp [intOf]; omega
      · have HE : Hid (hasP n x = false) := Lib.hid (by simp [hasP, h1])
        go_wp2
        go_roundw
        case rel => exact ⟨k + 1, by omega, by go_num, hg, by rw [HX.out]; intro y hy; rcases List.mem_append.1 hy with hy | hy; exact hall y hy; rw [List.mem_singleton.1 hy]; exact HE.out⟩
        case measure => simp [intOf]; omega
    · have e : o.take k = o := List.take_of_length_le (by omega)
      rw [e] at hall
      have HE : Hid (o.any (fun x => hasP n x) = false) := Lib.hid (by rw [List.any_eq_false]; intro x hx; rw [hall x hx]; simp)
      clear e hall
      go_wp2
      go_ret
      exact ⟨ret_bool (HF.out.trans HE.out).symm, below_grows hB (Nat.le_refl _) hg⟩
theorem keep_any (A : Option Addr) (c : Nat) (l : List Sp) (w : World) (hl : l.length ≤ 9223372036854775807) : Calls Try.prog 10 #[.agg #[.slice A l.length c]] w fun e w' => e = .returned (.bool (decide (l.length ≤ 70))) ∧ Grows w w' := by
  have k2 := Blk.new w 24 #[.slice A l.length c]
  have hB := (Below.refl w.heap.size w).alloc (Nat.le_refl _) (Obj.cells #[.slice A l.length c] 24)
  go_enter Try.func10, Try.ntmps10
  go_wp2
  go_ret
  exact ⟨ret_bool (by rw [decide_eq_decide]; omega), hB⟩
end Go.Proofs.Ytejdaodchaeglaa
