/-
  Layer 9: distances; the nearest number of a set. Plain contracts.
-/
import Derived.Test.YtejdaodchaeglaaSpH
namespace Go.Proofs.Ytejdaodchaeglaa
open Go.RowKit
def farD (a b : Int) : Int := if a < b then b - a else a - b
theorem u64_sub (a b : Int) (h : 0 ≤ a - b ∧ a - b < 18446744073709551616) : IntKind.u64.wrap (IntKind.u64.wrap a - IntKind.u64.wrap b) = a - b := by
  simp only [IntKind.wrap, IntKind.bits, IntKind.signed] <;> simp <;> omega
def nearS (n : Int) (s : Int × Bool) (x : Sp) : Int × Bool :=
  if s.2 = false ∨ farD (max x.1 (min x.2 n)) n < farD s.1 n then (max x.1 (min x.2 n), true) else s
def nearF (l : List Sp) (n : Int) : Int × Bool := (spansF l).foldl (nearS n) (0, false)
theorem near_bd (n : Int) (l : List Sp) (hf : ∀ x ∈ l, fineS x = true) : 0 ≤ (l.foldl (nearS n) (0, false)).1 ∧ (l.foldl (nearS n) (0, false)).1 ≤ 2147483647 := by
  have key : ∀ (l : List Sp) (s : Int × Bool), (∀ x ∈ l, fineS x = true) → 0 ≤ s.1 ∧ s.1 ≤ 2147483647 → 0 ≤ (l.foldl (nearS n) s).1 ∧ (l.foldl (nearS n) s).1 ≤ 2147483647 := by
    intro l
    induction l with
    | nil => intro s _ h; exact h
    | cons x l ih =>
      intro s hl h
      refine ih _ (fun z hz => hl z (List.mem_cons_of_mem _ hz)) ?_
      have hx := (fineS_iff x).1 (hl x (by simp))
      unfold nearS
      split
      · simp only []; omega
      · exact h
  exact key l _ hf ⟨by simp, by simp⟩
theorem dist_any (a b : Int) (w : World) (ha : -9223372036854775808 ≤ a ∧ a ≤ 9223372036854775807) (hb : -9223372036854775808 ≤ b ∧ b ≤ 9223372036854775807) : Calls Try.prog 37 #[.int .i64 a, .int .i64 b] w fun e w' => e = .returned (.int .u64 (farD a b)) ∧ Grows w w' := by
  by_cases h1 : a < b
  · have hu := u64_sub b a (by omega)
    have HE : Hid (farD a b = b - a) := Lib.hid (if_pos h1)
    go_enter Try.func37, Try.ntmps37
    go_wp2
    go_ret
    exact ⟨ret_int HE.out.symm, Below.refl _ _⟩
  · have hu := u64_sub a b (by omega)
    have HE : Hid (farD a b = a - b) := Lib.hid (if_neg h1)
    go_enter Try.func37, Try.ntmps37
    go_wp2
    go_ret
    exact ⟨ret_int HE.out.symm, Below.refl _ _⟩
theorem away_any (a b : Int) (w : World) (ha : -9223372036854775808 ≤ a ∧ a ≤ 9223372036854775807) (hb : -9223372036854775808 ≤ b ∧ b ≤ 9223372036854775807) : Calls Try.prog 41 #[.int .i64 a, .int .i64 b] w fun e w' => e = .returned (.int .u64 (farD a b)) ∧ Grows w w' := by
  by_cases h1 : a < b
  · have hu := u64_sub b a (by omega)
    have HE : Hid (farD a b = b - a) := Lib.hid (if_pos h1)
    go_enter Try.func41, Try.ntmps41
    go_wp2
    go_ret
    exact ⟨ret_int HE.out.symm, Below.refl _ _⟩
  · have hu := u64_sub a b (by omega)
    have HE : Hid (farD a b = a - b) := Lib.hid (if_neg h1)
    go_enter Try.func41, Try.ntmps41
    go_wp2
    go_ret
    exact ⟨ret_int HE.out.symm, Below.refl _ _⟩
set_option maxHeartbeats 8000000 in
theorem near_any (A : Option Addr) (c : Nat) (l : List Sp) (n : Int) (w : World) (h : Sps w A l) (hl : l.length ≤ 9223372036854775807) (hn : -9223372036854775808 ≤ n ∧ n ≤ 9223372036854775807) :
    Calls Try.prog 19 #[.agg #[.slice A l.length c], .int .i64 n] w fun e w' => e = .returned (.tuple #[.int .i64 (nearF l n).1, .bool (nearF l n).2]) ∧ Grows w w' := by
  have k2 := Blk.new w 24 #[.slice A l.length c]
  have hB := (Below.refl w.heap.size w).alloc (Nat.le_refl _) (Obj.cells #[.slice A l.length c] 24)
  go_enter Try.func19, Try.ntmps19
  go_upto_region 1 with fail
  have h1 := h.grows hB
  generalize World.alloc w _ = w1 at *
  have x2 := k2.cell 0
  go_wp2_with fail
  refine (spans_any A c l _ h1 hl).mono ?_
  rintro e w2 ⟨⟨A2, c2, rfl, h2, -⟩, hq⟩
  replace hB := below_grows hB (Nat.le_refl _) hq
  have hl2 := spansF_len l
  have hfo := spansF_fine l
  have HF : Hid (nearF l n = (spansF l).foldl (nearS n) (0, false)) := Lib.hid rfl
  generalize spansF l = o at *
  clear x2 hq
  go_wp2_with fail
  go_loopw [6, 7, 14] (fun b q i wr => ∃ k : Nat, k ≤ o.length ∧ i = .int .i64 k ∧ Grows w2 wr ∧ b = .int .i64 ((o.take k).foldl (nearS n) (0, false)).1 ∧ q = .bool ((o.take k).foldl (nearS n) (0, false)).2) (fun _ _ i _ => o.length - (intOf i).toNat)
  case atStart => exact ⟨0, by omega, rfl, Below.refl _ _, rfl, rfl⟩
  case round =>
    obtain ⟨k, hk, rfl, hg, rfl, rfl⟩ := hrel
    by_cases hlt : k < o.length
    · obtain ⟨ad, x, rfl, had, hx, c0, c1⟩ := (h2.grows hg).elem hlt
      have HX : Hid ((o.take (k + 1)).foldl (nearS n) (0, false) = nearS n ((o.take k).foldl (nearS n) (0, false)) x) := Lib.hid (by rw [take_snoc hx, List.foldl_append]; rfl)
      have hxf := (fineS_iff x).1 (hfo x (List.mem_of_getElem? hx))
      have hbd := near_bd n (o.take k) (fun z hz => hfo z (List.mem_of_mem_take hz))
      generalize (o.take k).foldl (nearS n) (0, false) = s at *
      obtain ⟨best, ok⟩ := s
      simp only [] at hbd ⊢
      clear hx
      have hq := (Below.refl wr.heap.size wr).alloc (Nat.le_refl _) (Obj.cells #[.int .i64 x.1, .int .i64 x.2] 40)
      replace hg := below_grows hg (Nat.le_refl _) hq
      clear hq
      go_upto_region 6 with fail
      clear c0 c1
      have hK : 0 ≤ max x.1 (min x.2 n) ∧ max x.1 (min x.2 n) ≤ 2147483647 := by omega
      have HN : Hid (∀ q, nearS n (best, q) x = if q = false ∨ farD (max x.1 (min x.2 n)) n < farD best n then (max x.1 (min x.2 n), true) else (best, q)) := Lib.hid fun q => rfl
      generalize World.alloc wr _ = w4 at *
      generalize wr.heap.size = G9 at *
      generalize max x.1 (min x.2 n) = K at *
      cases ok
      · have HE : Hid ((o.take (k + 1)).foldl (nearS n) (0, false) = (K, true)) := Lib.hid (by rw [HX.out, HN.out, if_pos (.inl rfl)])
        clear HX HN
        go_wp2
        go_roundw
        case rel => exact ⟨k + 1, by omega, by go_num, hg, by rw [HE.out], by rw [HE.out]⟩
        case measure => simp [intOf]; omega
      · go_wp2_with fail
        refine (dist_any K n _ (by omega) hn).mono ?_
        rintro e w5 ⟨rfl, hq⟩
        replace hg := below_grows hg (Nat.le_refl _) hq
        go_wp2_with fail
        refine (dist_any best n _ (by omega) hn).mono ?_
        rintro e w6 ⟨rfl, hq2⟩
        replace hg := below_grows hg (Nat.le_refl _) hq2
        clear hq hq2
        by_cases hd : farD K n < farD best n
        · have HE : Hid ((o.take (k + 1)).foldl (nearS n) (0, false) = (K, true)) := Lib.hid (by rw [HX.out, HN.out, if_pos (.inr hd)])
          clear HX HN
          go_wp2
          go_roundw
          case rel => exact ⟨k + 1, by omega, by go_num, hg, by rw [HE.out], by rw [HE.out]⟩
          case measure => simp [intOf]; omega
        · have HE : Hid ((o.take (k + 1)).foldl (nearS n) (0, false) = (best, true)) := Lib.hid (by rw [HX.out, HN.out, if_neg (by simp; omega)])
          clear HX HN
          go_wp2
          go_roundw
          case rel => exact ⟨k + 1, by omega, by go_num, hg, by rw [HE.out], by rw [HE.out]⟩
          case measure => simp [intOf]; omega
    · have e : o.take k = o := List.take_of_length_le (by omega)
      rw [e, ← HF.out]
      clear e
      go_wp2
      exact bodyPost_ret (v := .tuple #[.int .i64 (nearF l n).1, .bool (nearF l n).2]) (by simp [results, Try.results19, go_sem]) rfl ⟨rfl, below_grows hB (Nat.le_refl _) hg⟩
set_option maxHeartbeats 8000000 in
theorem rnear_any (A : Option Addr) (c : Nat) (l : List Sp) (n : Int) (w : World) (h : Sps w A l) (hl : l.length ≤ 9223372036854775807) (hn : -9223372036854775808 ≤ n ∧ n ≤ 9223372036854775807) :
    Calls Try.prog 26 #[.agg #[.slice A l.length c], .int .i64 n] w fun e w' => e = .returned (.tuple #[.int .i64 (nearF l n).1, .bool (nearF l n).2]) ∧ Grows w w' := by
  have k2 := Blk.new w 24 #[.slice A l.length c]
  have hB := (Below.refl w.heap.size w).alloc (Nat.le_refl _) (Obj.cells #[.slice A l.length c] 24)
  go_enter Try.func26, Try.ntmps26
  go_upto_region 1 with fail
  have h1 := h.grows hB
  generalize World.alloc w _ = w1 at *
  have x2 := k2.cell 0
  go_wp2_with fail
  refine (rspans_any A c l _ h1 hl).mono ?_
  rintro e w2 ⟨⟨A2, c2, rfl, h2, -⟩, hq⟩
  replace hB := below_grows hB (Nat.le_refl _) hq
  have hl2 := spansF_len l
  have hfo := spansF_fine l
  have HF : Hid (nearF l n = (spansF l).foldl (nearS n) (0, false)) := Lib.hid rfl
  generalize spansF l = o at *
  clear x2 hq
  go_wp2_with fail
  go_loopw [6, 7, 14] (fun b q i wr => ∃ k : Nat, k ≤ o.length ∧ i = .int .i64 k ∧ Grows w2 wr ∧ b = .int .i64 ((o.take k).foldl (nearS n) (0, false)).1 ∧ q = .bool ((o.take k).foldl (nearS n) (0, false)).2) (fun _ _ i _ => o.length - (intOf i).toNat)
  case atStart => exact ⟨0, by omega, rfl, Below.refl _ _, rfl, rfl⟩
  case round =>
    obtain ⟨k, hk, rfl, hg, rfl, rfl⟩ := hrel
    by_cases hlt : k < o.length
    · obtain ⟨ad, x, rfl, had, hx, c0, c1⟩ := (h2.grows hg).elem hlt
      have HX : Hid ((o.take (k + 1)).foldl (nearS n) (0, false) = nearS n ((o.take k).foldl (nearS n) (0, false)) x) := Lib.hid (by rw [take_snoc hx, List.foldl_append]; rfl)
      have hxf := (fineS_iff x).1 (hfo x (List.mem_of_getElem? hx))
      have hbd := near_bd n (o.take k) (fun z hz => hfo z (List.mem_of_mem_take hz))
      generalize (o.take k).foldl (nearS n) (0, false) = s at *
      obtain ⟨best, ok⟩ := s
      simp only [] at hbd ⊢
      clear hx
      have hq := (Below.refl wr.heap.size wr).alloc (Nat.le_refl _) (Obj.cells #[.int .i64 x.1, .int .i64 x.2] 40)
      replace hg := below_grows hg (Nat.le_refl _) hq
      clear hq
      go_upto_region 6 with fail
      clear c0 c1
      have hK : 0 ≤ max x.1 (min x.2 n) ∧ max x.1 (min x.2 n) ≤ 2147483647 := by omega
      have HN : Hid (∀ q, nearS n (best, q) x = if q = false ∨ farD (max x.1 (min x.2 n)) n < farD best n then (max x.1 (min x.2 n), true) else (best, q)) := Lib.hid fun q => rfl
      generalize World.alloc wr _ = w4 at *
      generalize wr.heap.size = G9 at *
      generalize max x.1 (min x.2 n) = K at *
      cases ok
      · have HE : Hid ((o.take (k + 1)).foldl (nearS n) (0, false) = (K, true)) := Lib.hid (by rw [HX.out, HN.out, if_pos (.inl rfl)])
        clear HX HN
        go_wp2
        go_roundw
        case rel => exact ⟨k + 1, by omega, by go_num, hg, by rw [HE.out], by rw [HE.out]⟩
        case measure => simp [intOf]; omega
      · go_wp2_with fail
        refine (away_any K n _ (by omega) hn).mono ?_
        rintro e w5 ⟨rfl, hq⟩
        replace hg := below_grows hg (Nat.le_refl _) hq
        go_wp2_with fail
        refine (away_any best n _ (by omega) hn).mono ?_
        rintro e w6 ⟨rfl, hq2⟩
        replace hg := below_grows hg (Nat.le_refl _) hq2
        clear hq hq2
        by_cases hd : farD K n < farD best n
        · have HE : Hid ((o.take (k + 1)).foldl (nearS n) (0, false) = (K, true)) := Lib.hid (by rw [HX.out, HN.out, if_pos (.inr hd)])
          clear HX HN
          go_wp2
          go_roundw
          case rel => exact ⟨k + 1, by omega, by go_num, hg, by rw [HE.out], by rw [HE.out]⟩
          case measure => simp [intOf]; omega
        · have HE : Hid ((o.take (k + 1)).foldl (nearS n) (0, false) = (best, true)) := Lib.hid (by rw [HX.out, HN.out, if_neg (by simp; omega)])
          clear HX HN
          go_wp2
          go_roundw
          case rel => exact ⟨k + 1, by omega, by go_num, hg, by rw [HE.out], by rw [HE.out]⟩
          case measure => simp [intOf]; omega
    · have e : o.take k = o := List.take_of_length_le (by omega)
      rw [e, ← HF.out]
      clear e
      go_wp2
      exact bodyPost_ret (v := .tuple #[.int .i64 (nearF l n).1, .bool (nearF l n).2]) (by simp [results, Try.results26, go_sem]) rfl ⟨rfl, below_grows hB (Nat.le_refl _) hg⟩
end Go.Proofs.Ytejdaodchaeglaa
