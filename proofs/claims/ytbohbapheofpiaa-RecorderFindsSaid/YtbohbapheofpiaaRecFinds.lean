/-
  RecorderFinds, for every input: the law returns true, and each argument reads behind the call as it read before. No condition.
-/
import Derived.Test.YtbohbapheofpiaaRgH
import Derived.Test.YtbohbapheofpiaaGlO
import Derived.Test.YtbohbapheofpiaaSlice
namespace Go.Proofs.Ytbohbapheofpiaa
open Go.ChangeShapes Go.WideShapes Go.ChangeAt Go.RowKit
namespace RecorderFinds
set_option maxHeartbeats 16000000 in
theorem walk (A : Option Addr) (cp : Nat) (l : List Int) (R0 : Rec) (A0 : Option Addr) (cp0 : Nat) (x y p : Int) (w : World) (hI : Ints w A l) (hl : l.length ≤ 9223372036854775807) (hraw : Gls w A0 R0.l) (hl0 : R0.l.length ≤ 9223372036854775807)
    (hx : -9223372036854775808 ≤ x ∧ x ≤ 9223372036854775807) :
    Calls Try.prog 4 #[.slice A l.length cp, .agg (rcV R0.lim (.slice A0 R0.l.length cp0) R0.c R0.fr R0.b), .int .i64 x, .int .i64 y, .int .i64 p] w fun e w' => e = .returned (.bool true) ∧ Below w.heap.size w w' := by
  have k6 := Blk.new w 28 (rcV R0.lim (.slice A0 R0.l.length cp0) R0.c R0.fr R0.b)
  have hB := (Below.refl w.heap.size w).alloc (Nat.le_refl _) (Obj.cells (rcV R0.lim (.slice A0 R0.l.length cp0) R0.c R0.fr R0.b) 28)
  go_enter Try.func4, Try.ntmps4
  go_upto_region 1 with fail
  generalize World.alloc w _ = w1 at *
  go_wp2_with fail
  refine (sane_any _).mono ?_
  rintro e w2 ⟨rfl, hq⟩
  replace k6 := k6.grows hq
  replace hB := below_grows hB (Nat.le_refl _) hq
  clear hq
  have x1 := k6.cell 1
  rw [rcV_1] at x1
  by_cases h10 : 10 < R0.l.length
  · go_wp2
    go_ret
    exact ⟨rfl, hB⟩
  go_upto_region 5 with fail
  clear x1
  obtain ⟨S, HI, HO⟩ : ∃ S : Ran → (Nat → Value) → World → Prop, Hid (∀ L vs w', (Below w.heap.size w w' ∧ Blk w' w.heap.size 28 (rcV R0.lim (.slice A0 R0.l.length cp0) R0.c R0.fr R0.b) ∧ KnS [some (.slice A l.length cp), none, some (.agg (rcV R0.lim (.slice A0 R0.l.length cp0) R0.c R0.fr R0.b)), none, some (.int .i64 2), some (.int .i64 0)] L vs ∧ (L 3 = true → L 1 = true) ∧ (L 1 = true → ∃ (R : Rec) (A1 : Option Addr) (cp1 : Nat), R.l.length ≤ 14 ∧ vs 1 = .agg (rcV R.lim (.slice A1 R.l.length cp1) R.c R.fr R.b) ∧ Gls w' A1 R.l ∧ (L 3 = true → ∃ gb, vs 3 = .slice (some ⟨gb, 0, none⟩) 2 2 ∧ w.heap.size < gb ∧ Blk w' gb 28 (rc2 R.lim (.slice A1 R.l.length cp1) R.c R.fr R.b R0.lim (.slice A0 R0.l.length cp0) R0.c R0.fr R0.b)))) → S L vs w') ∧ Hid (∀ L vs w', S L vs w' → (Below w.heap.size w w' ∧ Blk w' w.heap.size 28 (rcV R0.lim (.slice A0 R0.l.length cp0) R0.c R0.fr R0.b) ∧ KnS [some (.slice A l.length cp), none, some (.agg (rcV R0.lim (.slice A0 R0.l.length cp0) R0.c R0.fr R0.b)), none, some (.int .i64 2), some (.int .i64 0)] L vs ∧ (L 3 = true → L 1 = true) ∧ (L 1 = true → ∃ (R : Rec) (A1 : Option Addr) (cp1 : Nat), R.l.length ≤ 14 ∧ vs 1 = .agg (rcV R.lim (.slice A1 R.l.length cp1) R.c R.fr R.b) ∧ Gls w' A1 R.l ∧ (L 3 = true → ∃ gb, vs 3 = .slice (some ⟨gb, 0, none⟩) 2 2 ∧ w.heap.size < gb ∧ Blk w' gb 28 (rc2 R.lim (.slice A1 R.l.length cp1) R.c R.fr R.b R0.lim (.slice A0 R0.l.length cp0) R0.c R0.fr R0.b))))) := ⟨fun L vs w' => Below w.heap.size w w' ∧ Blk w' w.heap.size 28 (rcV R0.lim (.slice A0 R0.l.length cp0) R0.c R0.fr R0.b) ∧ KnS [some (.slice A l.length cp), none, some (.agg (rcV R0.lim (.slice A0 R0.l.length cp0) R0.c R0.fr R0.b)), none, some (.int .i64 2), some (.int .i64 0)] L vs ∧ (L 3 = true → L 1 = true) ∧ (L 1 = true → ∃ (R : Rec) (A1 : Option Addr) (cp1 : Nat), R.l.length ≤ 14 ∧ vs 1 = .agg (rcV R.lim (.slice A1 R.l.length cp1) R.c R.fr R.b) ∧ Gls w' A1 R.l ∧ (L 3 = true → ∃ gb, vs 3 = .slice (some ⟨gb, 0, none⟩) 2 2 ∧ w.heap.size < gb ∧ Blk w' gb 28 (rc2 R.lim (.slice A1 R.l.length cp1) R.c R.fr R.b R0.lim (.slice A0 R0.l.length cp0) R0.c R0.fr R0.b))), fun _ _ _ h => h, fun _ _ _ h => h⟩
  refine wp_region_genW S 75 (by kernel_rfl) (by kernel_rfl) rfl ?_ ?_
  · exact HI.out _ _ _ ⟨below_grows hB (Nat.le_refl _) (Grows.drew' _), k6.drew, kn_none _ _, (fun h => by cases h), (fun h => by cases h)⟩
  refine gen_cons (A' := ?_) (fun vs L w1 hL hw1 => ?_) ?_ ?_
  rotate_left 1
  · obtain ⟨q0, q1, q2, q3, q4⟩ := HO.out _ _ _ hw1
    refine gen_plain rfl ?_
    go_simp
    exact gr_val (HI.out _ _ _ ⟨q0, q1, kn_known q2 rfl, q3, q4⟩)
  · intro vs
    simp only [Act.put, List.setIfInBounds_toArray, List.set_cons_succ, List.set_cons_zero]
    rfl
  refine gen_cons (A' := ?_) (fun vs L w1 hL hw1 => ?_) ?_ ?_
  rotate_left 1
  · obtain ⟨q0, q1, q2, q3, q4⟩ := HO.out _ _ _ hw1
    refine gen_plain rfl ?_
    have n1 : L 1 = false := hL.1
    have n3 : L 3 = false := by
      cases h : L 3
      · rfl
      · rw [q3 h] at n1; cases n1
    have l0 : L 0 = true := hL.need 0 (by kernel_rfl)
    have e0 := q2 0 _ rfl l0
    simp only [e0]
    go_simp
    refine gr_call ?_
    refine (made_any A cp l w1 (hI.grows q0) hl).mono ?_
    rintro e w2 ⟨⟨R, v, rfl, ⟨A1, cp1, rfl, hgl⟩, hlen⟩, hg⟩
    exact ⟨_, rfl, HI.out _ _ _ ⟨below_grows q0 (Nat.le_refl _) hg, q1.grows hg, kn_free q2 rfl, fun _ => rfl, fun _ => ⟨R, A1, cp1, hlen, rfl, hgl, fun h => by rw [show L 3 = true from h] at n3; cases n3⟩⟩⟩
  · intro vs
    simp only [Act.put, List.setIfInBounds_toArray, List.set_cons_succ, List.set_cons_zero]
    rfl
  refine gen_cons (A' := ?_) (fun vs L w1 hL hw1 => ?_) ?_ ?_
  rotate_left 1
  · obtain ⟨q0, q1, q2, q3, q4⟩ := HO.out _ _ _ hw1
    refine gen_plain rfl ?_
    refine gr_load_row _ rfl rfl q1 Try.underlying28 rfl (rcV_info _ _ _ _ _) ?_
    exact HI.out _ _ _ ⟨q0, q1, kn_known q2 rfl, q3, q4⟩
  · intro vs
    simp only [Act.put, List.setIfInBounds_toArray, List.set_cons_succ, List.set_cons_zero]
    rfl
  refine gen_cons (A' := ?_) (fun vs L w1 hL hw1 => ?_) ?_ ?_
  rotate_left 1
  · obtain ⟨q0, q1, q2, q3, q4⟩ := HO.out _ _ _ hw1
    refine gen_plain rfl ?_
    have l1 : L 1 = true := hL.need 1 (by kernel_rfl)
    have l2 : L 2 = true := hL.need 2 (by kernel_rfl)
    have e2 := q2 2 _ rfl l2
    obtain ⟨R, A1, cp1, r1, r2, r3, r4⟩ := q4 l1
    have hz := q0.size
    have hz2 := q1.lt
    simp only [r2, e2, rcV]
    go_simp
    exact gr_val (HI.out _ _ _ ⟨q0.alloc hz _, q1.alloc _, kn_free q2 rfl, fun _ => l1, fun _ => ⟨R, A1, cp1, r1, r2, r3.grows ((Below.refl _ _).alloc (Nat.le_refl _) _), fun _ => ⟨w1.heap.size, rfl, hz2, Blk.new _ _ _⟩⟩⟩)
  · intro vs
    simp only [Act.put, List.setIfInBounds_toArray, List.set_cons_succ, List.set_cons_zero]
    rfl
  refine gen_cons (A' := ?_) (fun vs L w1 hL hw1 => ?_) ?_ ?_
  rotate_left 1
  · obtain ⟨q0, q1, q2, q3, q4⟩ := HO.out _ _ _ hw1
    refine gen_plain rfl ?_
    have l1 : L 1 = true := hL.need 1 (by kernel_rfl)
    have l3 : L 3 = true := hL.need 3 (by kernel_rfl)
    obtain ⟨R, A1, cp1, r1, r2, r3, r4⟩ := q4 l1
    obtain ⟨gb, e3, r5, r6⟩ := r4 l3
    simp only [e3]
    go_simp
    exact gr_val (HI.out _ _ _ ⟨q0, q1, kn_known q2 rfl, q3, q4⟩)
  · intro vs
    simp only [Act.put, List.setIfInBounds_toArray, List.set_cons_succ, List.set_cons_zero]
    rfl
  refine gen_cons (A' := ?_) (fun vs L w1 hL hw1 => ?_) ?_ ?_
  rotate_left 1
  · obtain ⟨q0, q1, q2, q3, q4⟩ := HO.out _ _ _ hw1
    refine gen_plain rfl ?_
    go_simp
    exact gr_val (HI.out _ _ _ ⟨q0, q1, kn_known q2 rfl, q3, q4⟩)
  · intro vs
    simp only [Act.put, List.setIfInBounds_toArray, List.set_cons_succ, List.set_cons_zero]
    rfl
  refine gen_nil ?_
  intro vs L w7 hall hS
  obtain ⟨hB, k6, q2, -, q4⟩ := HO.out _ _ _ hS
  obtain ⟨Rm, Am, cm, hlen, -, hglm, r4⟩ := q4 (hall 1 (by simp))
  obtain ⟨gb, e3, hgb, kb⟩ := r4 (hall 3 (by simp))
  have e4 := q2 4 _ rfl (hall 4 (by simp))
  have e5 := q2 5 _ rfl (hall 5 (by simp))
  clear q4 r4 q2 hall hS HI HO
  simp only [e3, e4, e5]
  clear e3 e4 e5
  generalize vs 0 = v19
  generalize vs (0 + 1) = v20
  generalize vs (0 + 1 + 1) = v21
  clear vs
  have hgl0 := hraw.grows hB
  clear k6
  have hl10 : R0.l.length ≤ 10 := by omega
  go_upto_region 6 with fail
  go_loopw [24] (fun i wr => ∃ k : Nat, k ≤ 2 ∧ i = .int .i64 k ∧ Below w.heap.size w wr ∧ Blk wr gb 28 (rc2 Rm.lim (.slice Am Rm.l.length cm) Rm.c Rm.fr Rm.b R0.lim (.slice A0 R0.l.length cp0) R0.c R0.fr R0.b) ∧ Gls wr Am Rm.l ∧ Gls wr A0 R0.l) (fun i _ => 2 - (intOf i).toNat)
  case atStart => exact ⟨0, by omega, rfl, hB, kb, hglm, hgl0⟩
  case round =>
    clear hB kb hglm hgl0
    obtain ⟨k, hk, rfl, hB, kb, hglm, hgl0⟩ := hrel
    by_cases hlt : k < 2
    · obtain ⟨R, A1, cp1, hcl, hgl, hlR⟩ : ∃ (R : Rec) (A1 : Option Addr) (cp1 : Nat), (∀ j u, ((rcV R.lim (.slice A1 R.l.length cp1) R.c R.fr R.b) : Array Value)[j]? = some u → ((rc2 Rm.lim (.slice Am Rm.l.length cm) Rm.c Rm.fr Rm.b R0.lim (.slice A0 R0.l.length cp0) R0.c R0.fr R0.b) : Array Value)[k * 32 + j]? = some u) ∧ Gls wr A1 R.l ∧ R.l.length ≤ 14 := by
        match k, hlt with
        | 0, _ => exact ⟨Rm, Am, cm, fun j u h => by rw [Nat.zero_mul, Nat.zero_add]; exact rc2_lo _ _ _ _ _ _ _ _ _ _ j u h, hglm, hlen⟩
        | 1, _ => exact ⟨R0, A0, cp0, fun j u h => by rw [Nat.one_mul]; exact rc2_hi _ _ _ _ _ _ _ _ _ _ j u h, hgl0, by omega⟩
      have hpart : ∀ j u, ((rcV R.lim (.slice A1 R.l.length cp1) R.c R.fr R.b) : Array Value)[j]? = some u → wr.cell? ((⟨gb, k * 32, none⟩ : Addr).add j) = some u := by
        intro j u hj
        have ha : (⟨gb, k * 32, none⟩ : Addr).add j = ⟨gb, k * 32 + j, none⟩ := by
          unfold Addr.add
          split
          · simp_all
          · rfl
        rw [ha, kb.cell]
        exact hcl j u hj
      clear hcl
      obtain ⟨EX, HEX⟩ : ∃ EX : World → Prop, Hid (∀ w', EX w' ↔ Blk w' gb 28 (rc2 Rm.lim (.slice Am Rm.l.length cm) Rm.c Rm.fr Rm.b R0.lim (.slice A0 R0.l.length cp0) R0.c R0.fr R0.b) ∧ Gls w' Am Rm.l ∧ Gls w' A0 R0.l) := ⟨_, fun _ => Iff.rfl⟩
      have hEX : ∀ w1 w2, Grows w1 w2 → EX w1 → EX w2 := fun w1 w2 hg h => by
        obtain ⟨h1, h2, h3⟩ := (HEX.out w1).1 h
        exact (HEX.out w2).2 ⟨h1.grows hg, h2.grows hg, h3.grows hg⟩
      have hex : EX wr := (HEX.out wr).2 ⟨kb, hglm, hgl0⟩
      clear kb hglm hgl0
      go_upto_region 7 with fail
      refine wp_region_lit ?_
      iterate 1
        refine wpList_plain rfl (fun K hK => ?_)
        go_simp
        refine hK _ _ ?_
        clear hK K
      refine wpList_load_part rfl _ rfl rfl hpart Try.underlying28 rfl (rcV_info _ _ _ _ _) ?_
      have k12 := Blk.new wr 28 #[.int .i64 0, .slice none 0 0, .int .i64 0, .int .i64 0, .int .i64 0, .int .i64 0, .int .i64 0, .int .i64 0, .int .i64 0, .int .i64 0, .int .i64 0, .int .i64 0, .int .i64 0, .int .i64 0, .int .i64 0, .int .i64 0, .int .i64 0, .int .i64 0, .int .i64 0, .int .i64 0, .int .i64 0, .int .i64 0, .int .i64 0, .int .i64 0, .int .i64 0, .int .i64 0, .int .i64 0, .int .i64 0, .int .i64 0, .int .i64 0, .int .i64 0, .int .i64 0]
      have hgr : Grows wr ((wr.alloc (Obj.cells #[.int .i64 0, .slice none 0 0, .int .i64 0, .int .i64 0, .int .i64 0, .int .i64 0, .int .i64 0, .int .i64 0, .int .i64 0, .int .i64 0, .int .i64 0, .int .i64 0, .int .i64 0, .int .i64 0, .int .i64 0, .int .i64 0, .int .i64 0, .int .i64 0, .int .i64 0, .int .i64 0, .int .i64 0, .int .i64 0, .int .i64 0, .int .i64 0, .int .i64 0, .int .i64 0, .int .i64 0, .int .i64 0, .int .i64 0, .int .i64 0, .int .i64 0, .int .i64 0] 28)).setRow wr.heap.size (rcV R.lim (.slice A1 R.l.length cp1) R.c R.fr R.b)) := below_row ((Below.refl wr.heap.size wr).alloc (Nat.le_refl _) _) (Nat.le_refl _) _
      iterate 1
        refine wpList_plain rfl (fun K hK => ?_)
        go_simp
        refine hK _ _ ?_
        clear hK K
      refine wpList_store_row (cs := (rcV R.lim (.slice A1 R.l.length cp1) R.c R.fr R.b)) rfl _ _ rfl rfl rfl rfl k12 (rcV_info _ _ _ _ _) rfl (rcV_one _ _ _ _ _ _ _) ?_
      replace k12 := k12.row (cs := (rcV R.lim (.slice A1 R.l.length cp1) R.c R.fr R.b))
      replace hB := below_grows hB (Nat.le_refl _) hgr
      replace hgl := hgl.grows hgr
      replace hex := hEX _ _ hgr hex
      clear hgr hpart
      generalize World.setRow _ _ _ = w4 at *
      generalize wr.heap.size = G12 at *
      obtain ⟨r1, hr1⟩ := mostR_ex R p
      obtain ⟨r2, hr2⟩ := mostR_ex R (p % 101)
      have hM1 : ∀ w1, Gls w1 A1 R.l → Calls Try.prog 11 #[.agg (rcV R.lim (.slice A1 R.l.length cp1) R.c R.fr R.b), .int .i64 p] w1 fun e w' => e = .returned (.int .i64 r1) ∧ Grows w1 w' := fun w1 h => (mostR R _ p w1 ⟨A1, cp1, rfl, h⟩ (by omega)).mono fun e w' ⟨s, hs, he, hg⟩ => by rw [mostR_uniq hr1 hs]; exact ⟨he, hg⟩
      have rhM1 : ∀ w1, Gls w1 A1 R.l → Calls Try.prog 16 #[.agg (rcV R.lim (.slice A1 R.l.length cp1) R.c R.fr R.b), .int .i64 p] w1 fun e w' => e = .returned (.int .i64 r1) ∧ Grows w1 w' := fun w1 h => (rmostR R _ p w1 ⟨A1, cp1, rfl, h⟩ (by omega)).mono fun e w' ⟨s, hs, he, hg⟩ => by rw [mostR_uniq hr1 hs]; exact ⟨he, hg⟩
      have hM2 : ∀ w1, Gls w1 A1 R.l → Calls Try.prog 11 #[.agg (rcV R.lim (.slice A1 R.l.length cp1) R.c R.fr R.b), .int .i64 (p % 101)] w1 fun e w' => e = .returned (.int .i64 r2) ∧ Grows w1 w' := fun w1 h => (mostR R _ (p % 101) w1 ⟨A1, cp1, rfl, h⟩ (by omega)).mono fun e w' ⟨s, hs, he, hg⟩ => by rw [mostR_uniq hr2 hs]; exact ⟨he, hg⟩
      have rhM2 : ∀ w1, Gls w1 A1 R.l → Calls Try.prog 16 #[.agg (rcV R.lim (.slice A1 R.l.length cp1) R.c R.fr R.b), .int .i64 (p % 101)] w1 fun e w' => e = .returned (.int .i64 r2) ∧ Grows w1 w' := fun w1 h => (rmostR R _ (p % 101) w1 ⟨A1, cp1, rfl, h⟩ (by omega)).mono fun e w' ⟨s, hs, he, hg⟩ => by rw [mostR_uniq hr2 hs]; exact ⟨he, hg⟩
      clear hr1 hr2
      have t1 := Int.tmod_lt_of_pos x (show (0 : Int) < 20 by omega)
      have t2 := Int.lt_tmod_of_pos x (show (0 : Int) < 20 by omega)
      go_upto_region 8 with fail
      obtain ⟨S, HI, HO⟩ : ∃ S : Ran → (Nat → Value) → World → Prop, Hid (∀ L vs w', (Below w.heap.size w w' ∧ Blk w' G12 28 (rcV R.lim (.slice A1 R.l.length cp1) R.c R.fr R.b) ∧ Gls w' A1 R.l ∧ EX w' ∧ KnS [some (.agg (rcV R.lim (.slice A1 R.l.length cp1) R.c R.fr R.b)), some (.int .i64 x), some (.int .i64 y), none, some (.agg (rcV R.lim (.slice A1 R.l.length cp1) R.c R.fr R.b)), some (.int .i64 x), some (.int .i64 y), none, some (.bool true), some (.bool false), some (.bool false), some (.agg (rcV R.lim (.slice A1 R.l.length cp1) R.c R.fr R.b)), some (.int .i64 x), some (.int .i64 (Int.tmod x 20)), some (.int .i64 y), some (.int .i64 (Int.tmod y 20)), none, some (.agg (rcV R.lim (.slice A1 R.l.length cp1) R.c R.fr R.b)), some (.int .i64 x), some (.int .i64 (Int.tmod x 20)), some (.int .i64 y), some (.int .i64 (Int.tmod y 20)), none, some (.bool true), some (.bool false), some (.bool false), some (.bool false), some (.agg (rcV R.lim (.slice A1 R.l.length cp1) R.c R.fr R.b)), some (.int .i64 p), some (.int .i64 r1), some (.agg (rcV R.lim (.slice A1 R.l.length cp1) R.c R.fr R.b)), some (.int .i64 p), some (.int .i64 r1), some (.bool false), some (.bool false), some (.bool false), some (.agg (rcV R.lim (.slice A1 R.l.length cp1) R.c R.fr R.b)), some (.int .i64 p), some (.int .i64 (p % 101)), some (.int .i64 r2), some (.agg (rcV R.lim (.slice A1 R.l.length cp1) R.c R.fr R.b)), some (.int .i64 p), some (.int .i64 (p % 101)), some (.int .i64 r2), some (.bool false), some (.bool false)] L vs ∧ (L 3 = true → ∃ A2 c2, vs 3 = .slice A2 (betF R x y).length c2 ∧ Gls w' A2 (betF R x y)) ∧ (L 7 = true → ∃ A2 c2, vs 7 = .slice A2 (betF R x y).length c2 ∧ Gls w' A2 (betF R x y)) ∧ (L 16 = true → ∃ A2 c2, vs 16 = .slice A2 (betF R (Int.tmod x 20) (Int.tmod y 20)).length c2 ∧ Gls w' A2 (betF R (Int.tmod x 20) (Int.tmod y 20))) ∧ (L 22 = true → ∃ A2 c2, vs 22 = .slice A2 (betF R (Int.tmod x 20) (Int.tmod y 20)).length c2 ∧ Gls w' A2 (betF R (Int.tmod x 20) (Int.tmod y 20)))) → S L vs w') ∧ Hid (∀ L vs w', S L vs w' → (Below w.heap.size w w' ∧ Blk w' G12 28 (rcV R.lim (.slice A1 R.l.length cp1) R.c R.fr R.b) ∧ Gls w' A1 R.l ∧ EX w' ∧ KnS [some (.agg (rcV R.lim (.slice A1 R.l.length cp1) R.c R.fr R.b)), some (.int .i64 x), some (.int .i64 y), none, some (.agg (rcV R.lim (.slice A1 R.l.length cp1) R.c R.fr R.b)), some (.int .i64 x), some (.int .i64 y), none, some (.bool true), some (.bool false), some (.bool false), some (.agg (rcV R.lim (.slice A1 R.l.length cp1) R.c R.fr R.b)), some (.int .i64 x), some (.int .i64 (Int.tmod x 20)), some (.int .i64 y), some (.int .i64 (Int.tmod y 20)), none, some (.agg (rcV R.lim (.slice A1 R.l.length cp1) R.c R.fr R.b)), some (.int .i64 x), some (.int .i64 (Int.tmod x 20)), some (.int .i64 y), some (.int .i64 (Int.tmod y 20)), none, some (.bool true), some (.bool false), some (.bool false), some (.bool false), some (.agg (rcV R.lim (.slice A1 R.l.length cp1) R.c R.fr R.b)), some (.int .i64 p), some (.int .i64 r1), some (.agg (rcV R.lim (.slice A1 R.l.length cp1) R.c R.fr R.b)), some (.int .i64 p), some (.int .i64 r1), some (.bool false), some (.bool false), some (.bool false), some (.agg (rcV R.lim (.slice A1 R.l.length cp1) R.c R.fr R.b)), some (.int .i64 p), some (.int .i64 (p % 101)), some (.int .i64 r2), some (.agg (rcV R.lim (.slice A1 R.l.length cp1) R.c R.fr R.b)), some (.int .i64 p), some (.int .i64 (p % 101)), some (.int .i64 r2), some (.bool false), some (.bool false)] L vs ∧ (L 3 = true → ∃ A2 c2, vs 3 = .slice A2 (betF R x y).length c2 ∧ Gls w' A2 (betF R x y)) ∧ (L 7 = true → ∃ A2 c2, vs 7 = .slice A2 (betF R x y).length c2 ∧ Gls w' A2 (betF R x y)) ∧ (L 16 = true → ∃ A2 c2, vs 16 = .slice A2 (betF R (Int.tmod x 20) (Int.tmod y 20)).length c2 ∧ Gls w' A2 (betF R (Int.tmod x 20) (Int.tmod y 20))) ∧ (L 22 = true → ∃ A2 c2, vs 22 = .slice A2 (betF R (Int.tmod x 20) (Int.tmod y 20)).length c2 ∧ Gls w' A2 (betF R (Int.tmod x 20) (Int.tmod y 20))))) := ⟨fun L vs w' => Below w.heap.size w w' ∧ Blk w' G12 28 (rcV R.lim (.slice A1 R.l.length cp1) R.c R.fr R.b) ∧ Gls w' A1 R.l ∧ EX w' ∧ KnS [some (.agg (rcV R.lim (.slice A1 R.l.length cp1) R.c R.fr R.b)), some (.int .i64 x), some (.int .i64 y), none, some (.agg (rcV R.lim (.slice A1 R.l.length cp1) R.c R.fr R.b)), some (.int .i64 x), some (.int .i64 y), none, some (.bool true), some (.bool false), some (.bool false), some (.agg (rcV R.lim (.slice A1 R.l.length cp1) R.c R.fr R.b)), some (.int .i64 x), some (.int .i64 (Int.tmod x 20)), some (.int .i64 y), some (.int .i64 (Int.tmod y 20)), none, some (.agg (rcV R.lim (.slice A1 R.l.length cp1) R.c R.fr R.b)), some (.int .i64 x), some (.int .i64 (Int.tmod x 20)), some (.int .i64 y), some (.int .i64 (Int.tmod y 20)), none, some (.bool true), some (.bool false), some (.bool false), some (.bool false), some (.agg (rcV R.lim (.slice A1 R.l.length cp1) R.c R.fr R.b)), some (.int .i64 p), some (.int .i64 r1), some (.agg (rcV R.lim (.slice A1 R.l.length cp1) R.c R.fr R.b)), some (.int .i64 p), some (.int .i64 r1), some (.bool false), some (.bool false), some (.bool false), some (.agg (rcV R.lim (.slice A1 R.l.length cp1) R.c R.fr R.b)), some (.int .i64 p), some (.int .i64 (p % 101)), some (.int .i64 r2), some (.agg (rcV R.lim (.slice A1 R.l.length cp1) R.c R.fr R.b)), some (.int .i64 p), some (.int .i64 (p % 101)), some (.int .i64 r2), some (.bool false), some (.bool false)] L vs ∧ (L 3 = true → ∃ A2 c2, vs 3 = .slice A2 (betF R x y).length c2 ∧ Gls w' A2 (betF R x y)) ∧ (L 7 = true → ∃ A2 c2, vs 7 = .slice A2 (betF R x y).length c2 ∧ Gls w' A2 (betF R x y)) ∧ (L 16 = true → ∃ A2 c2, vs 16 = .slice A2 (betF R (Int.tmod x 20) (Int.tmod y 20)).length c2 ∧ Gls w' A2 (betF R (Int.tmod x 20) (Int.tmod y 20))) ∧ (L 22 = true → ∃ A2 c2, vs 22 = .slice A2 (betF R (Int.tmod x 20) (Int.tmod y 20)).length c2 ∧ Gls w' A2 (betF R (Int.tmod x 20) (Int.tmod y 20))), fun _ _ _ h => h, fun _ _ _ h => h⟩
      refine wp_region_genW S 75 (by kernel_rfl) (by kernel_rfl) rfl ?_ ?_
      · exact HI.out _ _ _ ⟨below_grows hB (Nat.le_refl _) (Grows.drew' _), k12.drew, hgl.grows (Grows.drew' _), hEX _ _ (Grows.drew' _) hex, kn_none _ _, (fun h => by cases h), (fun h => by cases h), (fun h => by cases h), (fun h => by cases h)⟩
      refine gen_cons (A' := ?_) (fun vs L w1 hL hw1 => ?_) ?_ ?_
      rotate_left 1
      · obtain ⟨q0, q1, q2, q3, q4, q5, q6, q7, q8⟩ := HO.out _ _ _ hw1
        refine gen_plain rfl ?_
        refine gr_load_row _ rfl rfl q1 Try.underlying28 rfl (rcV_info _ _ _ _ _) ?_
        exact HI.out _ _ _ ⟨q0, q1, q2, q3, kn_known q4 rfl, q5, q6, q7, q8⟩
      · intro vs
        simp only [Act.put, List.setIfInBounds_toArray, List.set_cons_succ, List.set_cons_zero]
        rfl
      refine gen_cons (A' := ?_) (fun vs L w1 hL hw1 => ?_) ?_ ?_
      rotate_left 1
      · obtain ⟨q0, q1, q2, q3, q4, q5, q6, q7, q8⟩ := HO.out _ _ _ hw1
        refine gen_plain rfl ?_
        go_simp
        exact gr_val (HI.out _ _ _ ⟨q0, q1, q2, q3, kn_known q4 rfl, q5, q6, q7, q8⟩)
      · intro vs
        simp only [Act.put, List.setIfInBounds_toArray, List.set_cons_succ, List.set_cons_zero]
        rfl
      refine gen_cons (A' := ?_) (fun vs L w1 hL hw1 => ?_) ?_ ?_
      rotate_left 1
      · obtain ⟨q0, q1, q2, q3, q4, q5, q6, q7, q8⟩ := HO.out _ _ _ hw1
        refine gen_plain rfl ?_
        go_simp
        exact gr_val (HI.out _ _ _ ⟨q0, q1, q2, q3, kn_known q4 rfl, q5, q6, q7, q8⟩)
      · intro vs
        simp only [Act.put, List.setIfInBounds_toArray, List.set_cons_succ, List.set_cons_zero]
        rfl
      refine gen_cons (A' := ?_) (fun vs L w1 hL hw1 => ?_) ?_ ?_
      rotate_left 1
      · obtain ⟨q0, q1, q2, q3, q4, q5, q6, q7, q8⟩ := HO.out _ _ _ hw1
        refine gen_plain rfl ?_
        have l0 : L 0 = true := hL.need 0 (by kernel_rfl)
        have e0 := q4 0 _ rfl l0
        have l1 : L 1 = true := hL.need 1 (by kernel_rfl)
        have e1 := q4 1 _ rfl l1
        have l2 : L 2 = true := hL.need 2 (by kernel_rfl)
        have e2 := q4 2 _ rfl l2
        simp only [e0, e1, e2]
        go_simp
        refine gr_call ?_
        refine (betR R _ x y w1 ⟨A1, cp1, rfl, q2⟩ (by omega) (by omega)).mono ?_
        rintro e w2 ⟨⟨A2, c2, rfl, hgl2⟩, hg⟩
        refine ⟨_, rfl, HI.out _ _ _ ⟨below_grows q0 (Nat.le_refl _) hg, q1.grows hg, q2.grows hg, hEX _ _ hg q3, kn_free q4 rfl, (fun _ => ⟨A2, c2, rfl, hgl2⟩), (fun h => by obtain ⟨A2, c2, e, gg⟩ := q6 h; exact ⟨A2, c2, e, gg.grows hg⟩), (fun h => by obtain ⟨A2, c2, e, gg⟩ := q7 h; exact ⟨A2, c2, e, gg.grows hg⟩), (fun h => by obtain ⟨A2, c2, e, gg⟩ := q8 h; exact ⟨A2, c2, e, gg.grows hg⟩)⟩⟩
      · intro vs
        simp only [Act.put, List.setIfInBounds_toArray, List.set_cons_succ, List.set_cons_zero]
        rfl
      refine gen_cons (A' := ?_) (fun vs L w1 hL hw1 => ?_) ?_ ?_
      rotate_left 1
      · obtain ⟨q0, q1, q2, q3, q4, q5, q6, q7, q8⟩ := HO.out _ _ _ hw1
        refine gen_plain rfl ?_
        refine gr_load_row _ rfl rfl q1 Try.underlying28 rfl (rcV_info _ _ _ _ _) ?_
        exact HI.out _ _ _ ⟨q0, q1, q2, q3, kn_known q4 rfl, q5, q6, q7, q8⟩
      · intro vs
        simp only [Act.put, List.setIfInBounds_toArray, List.set_cons_succ, List.set_cons_zero]
        rfl
      refine gen_cons (A' := ?_) (fun vs L w1 hL hw1 => ?_) ?_ ?_
      rotate_left 1
      · obtain ⟨q0, q1, q2, q3, q4, q5, q6, q7, q8⟩ := HO.out _ _ _ hw1
        refine gen_plain rfl ?_
        go_simp
        exact gr_val (HI.out _ _ _ ⟨q0, q1, q2, q3, kn_known q4 rfl, q5, q6, q7, q8⟩)
      · intro vs
        simp only [Act.put, List.setIfInBounds_toArray, List.set_cons_succ, List.set_cons_zero]
        rfl
      refine gen_cons (A' := ?_) (fun vs L w1 hL hw1 => ?_) ?_ ?_
      rotate_left 1
      · obtain ⟨q0, q1, q2, q3, q4, q5, q6, q7, q8⟩ := HO.out _ _ _ hw1
        refine gen_plain rfl ?_
        go_simp
        exact gr_val (HI.out _ _ _ ⟨q0, q1, q2, q3, kn_known q4 rfl, q5, q6, q7, q8⟩)
      · intro vs
        simp only [Act.put, List.setIfInBounds_toArray, List.set_cons_succ, List.set_cons_zero]
        rfl
      refine gen_cons (A' := ?_) (fun vs L w1 hL hw1 => ?_) ?_ ?_
      rotate_left 1
      · obtain ⟨q0, q1, q2, q3, q4, q5, q6, q7, q8⟩ := HO.out _ _ _ hw1
        refine gen_plain rfl ?_
        have l4 : L 4 = true := hL.need 4 (by kernel_rfl)
        have e4 := q4 4 _ rfl l4
        have l5 : L 5 = true := hL.need 5 (by kernel_rfl)
        have e5 := q4 5 _ rfl l5
        have l6 : L 6 = true := hL.need 6 (by kernel_rfl)
        have e6 := q4 6 _ rfl l6
        simp only [e4, e5, e6]
        go_simp
        refine gr_call ?_
        refine (rbetR R _ x y w1 ⟨A1, cp1, rfl, q2⟩ (by omega) (by omega)).mono ?_
        rintro e w2 ⟨⟨A2, c2, rfl, hgl2⟩, hg⟩
        refine ⟨_, rfl, HI.out _ _ _ ⟨below_grows q0 (Nat.le_refl _) hg, q1.grows hg, q2.grows hg, hEX _ _ hg q3, kn_free q4 rfl, (fun h => by obtain ⟨A2, c2, e, gg⟩ := q5 h; exact ⟨A2, c2, e, gg.grows hg⟩), (fun _ => ⟨A2, c2, rfl, hgl2⟩), (fun h => by obtain ⟨A2, c2, e, gg⟩ := q7 h; exact ⟨A2, c2, e, gg.grows hg⟩), (fun h => by obtain ⟨A2, c2, e, gg⟩ := q8 h; exact ⟨A2, c2, e, gg.grows hg⟩)⟩⟩
      · intro vs
        simp only [Act.put, List.setIfInBounds_toArray, List.set_cons_succ, List.set_cons_zero]
        rfl
      refine gen_cons (A' := ?_) (fun vs L w1 hL hw1 => ?_) ?_ ?_
      rotate_left 1
      · obtain ⟨q0, q1, q2, q3, q4, q5, q6, q7, q8⟩ := HO.out _ _ _ hw1
        refine gen_plain rfl ?_
        have l3 : L 3 = true := hL.need 3 (by kernel_rfl)
        have l7 : L 7 = true := hL.need 7 (by kernel_rfl)
        obtain ⟨A2, c2, ea, g2⟩ := q5 l3
        obtain ⟨A3, c3, eb, g3⟩ := q6 l7
        simp only [ea, eb]
        go_simp
        refine gr_call ?_
        refine (gsame_eq A2 A3 c2 c3 (betF R x y) w1 g2 g3 (by have := betF_len R x y; omega)).mono ?_
        rintro e w2 ⟨rfl, hg⟩
        exact ⟨_, rfl, HI.out _ _ _ ⟨below_grows q0 (Nat.le_refl _) hg, q1.grows hg, q2.grows hg, hEX _ _ hg q3, kn_known q4 rfl, (fun h => by obtain ⟨A2, c2, e, gg⟩ := q5 h; exact ⟨A2, c2, e, gg.grows hg⟩), (fun h => by obtain ⟨A2, c2, e, gg⟩ := q6 h; exact ⟨A2, c2, e, gg.grows hg⟩), (fun h => by obtain ⟨A2, c2, e, gg⟩ := q7 h; exact ⟨A2, c2, e, gg.grows hg⟩), (fun h => by obtain ⟨A2, c2, e, gg⟩ := q8 h; exact ⟨A2, c2, e, gg.grows hg⟩)⟩⟩
      · intro vs
        simp only [Act.put, List.setIfInBounds_toArray, List.set_cons_succ, List.set_cons_zero]
        rfl
      refine gen_cons (A' := ?_) (fun vs L w1 hL hw1 => ?_) ?_ ?_
      rotate_left 1
      · obtain ⟨q0, q1, q2, q3, q4, q5, q6, q7, q8⟩ := HO.out _ _ _ hw1
        refine gen_plain rfl ?_
        have l8 : L 8 = true := hL.need 8 (by kernel_rfl)
        have e8 := q4 8 _ rfl l8
        simp only [e8]
        go_simp
        exact gr_val (HI.out _ _ _ ⟨q0, q1, q2, q3, kn_known q4 rfl, q5, q6, q7, q8⟩)
      · intro vs
        simp only [Act.put, List.setIfInBounds_toArray, List.set_cons_succ, List.set_cons_zero]
        rfl
      refine gen_cons (A' := ?_) (fun vs L w1 hL hw1 => ?_) ?_ ?_
      rotate_left 1
      · obtain ⟨q0, q1, q2, q3, q4, q5, q6, q7, q8⟩ := HO.out _ _ _ hw1
        refine gen_plain rfl ?_
        have l9 : L 9 = true := hL.need 9 (by kernel_rfl)
        have e9 := q4 9 _ rfl l9
        simp only [e9]
        go_simp
        exact gr_val (HI.out _ _ _ ⟨q0, q1, q2, q3, kn_known q4 rfl, q5, q6, q7, q8⟩)
      · intro vs
        simp only [Act.put, List.setIfInBounds_toArray, List.set_cons_succ, List.set_cons_zero]
        rfl
      refine gen_cons (A' := ?_) (fun vs L w1 hL hw1 => ?_) ?_ ?_
      rotate_left 1
      · obtain ⟨q0, q1, q2, q3, q4, q5, q6, q7, q8⟩ := HO.out _ _ _ hw1
        have l10 : L 10 = true := hL.need 10 (by kernel_rfl)
        have e10 := q4 10 _ rfl l10
        refine gen_yes ?_ ?_
        · simp only [e10]
          rfl
        refine gr_load_row _ rfl rfl q1 Try.underlying28 rfl (rcV_info _ _ _ _ _) ?_
        exact HI.out _ _ _ ⟨q0, q1, q2, q3, kn_known q4 rfl, q5, q6, q7, q8⟩
      · intro vs
        simp only [Act.put, List.setIfInBounds_toArray, List.set_cons_succ, List.set_cons_zero]
        rfl
      refine gen_cons (A' := ?_) (fun vs L w1 hL hw1 => ?_) ?_ ?_
      rotate_left 1
      · obtain ⟨q0, q1, q2, q3, q4, q5, q6, q7, q8⟩ := HO.out _ _ _ hw1
        have l10 : L 10 = true := hL.need 10 (by kernel_rfl)
        have e10 := q4 10 _ rfl l10
        refine gen_yes ?_ ?_
        · simp only [e10]
          rfl
        go_simp
        exact gr_val (HI.out _ _ _ ⟨q0, q1, q2, q3, kn_known q4 rfl, q5, q6, q7, q8⟩)
      · intro vs
        simp only [Act.put, List.setIfInBounds_toArray, List.set_cons_succ, List.set_cons_zero]
        rfl
      refine gen_cons (A' := ?_) (fun vs L w1 hL hw1 => ?_) ?_ ?_
      rotate_left 1
      · obtain ⟨q0, q1, q2, q3, q4, q5, q6, q7, q8⟩ := HO.out _ _ _ hw1
        have l10 : L 10 = true := hL.need 10 (by kernel_rfl)
        have e10 := q4 10 _ rfl l10
        refine gen_yes ?_ ?_
        · simp only [e10]
          rfl
        have l12 : L 12 = true := hL.need 12 (by kernel_rfl)
        have e12 := q4 12 _ rfl l12
        simp only [e12]
        go_simp
        exact gr_val (HI.out _ _ _ ⟨q0, q1, q2, q3, kn_known q4 rfl, q5, q6, q7, q8⟩)
      · intro vs
        simp only [Act.put, List.setIfInBounds_toArray, List.set_cons_succ, List.set_cons_zero]
        rfl
      refine gen_cons (A' := ?_) (fun vs L w1 hL hw1 => ?_) ?_ ?_
      rotate_left 1
      · obtain ⟨q0, q1, q2, q3, q4, q5, q6, q7, q8⟩ := HO.out _ _ _ hw1
        have l10 : L 10 = true := hL.need 10 (by kernel_rfl)
        have e10 := q4 10 _ rfl l10
        refine gen_yes ?_ ?_
        · simp only [e10]
          rfl
        go_simp
        exact gr_val (HI.out _ _ _ ⟨q0, q1, q2, q3, kn_known q4 rfl, q5, q6, q7, q8⟩)
      · intro vs
        simp only [Act.put, List.setIfInBounds_toArray, List.set_cons_succ, List.set_cons_zero]
        rfl
      refine gen_cons (A' := ?_) (fun vs L w1 hL hw1 => ?_) ?_ ?_
      rotate_left 1
      · obtain ⟨q0, q1, q2, q3, q4, q5, q6, q7, q8⟩ := HO.out _ _ _ hw1
        have l10 : L 10 = true := hL.need 10 (by kernel_rfl)
        have e10 := q4 10 _ rfl l10
        refine gen_yes ?_ ?_
        · simp only [e10]
          rfl
        have l14 : L 14 = true := hL.need 14 (by kernel_rfl)
        have e14 := q4 14 _ rfl l14
        simp only [e14]
        go_simp
        exact gr_val (HI.out _ _ _ ⟨q0, q1, q2, q3, kn_known q4 rfl, q5, q6, q7, q8⟩)
      · intro vs
        simp only [Act.put, List.setIfInBounds_toArray, List.set_cons_succ, List.set_cons_zero]
        rfl
      refine gen_cons (A' := ?_) (fun vs L w1 hL hw1 => ?_) ?_ ?_
      rotate_left 1
      · obtain ⟨q0, q1, q2, q3, q4, q5, q6, q7, q8⟩ := HO.out _ _ _ hw1
        have l10 : L 10 = true := hL.need 10 (by kernel_rfl)
        have e10 := q4 10 _ rfl l10
        refine gen_yes ?_ ?_
        · simp only [e10]
          rfl
        have l11 : L 11 = true := hL.need 11 (by kernel_rfl)
        have e11 := q4 11 _ rfl l11
        have l13 : L 13 = true := hL.need 13 (by kernel_rfl)
        have e13 := q4 13 _ rfl l13
        have l15 : L 15 = true := hL.need 15 (by kernel_rfl)
        have e15 := q4 15 _ rfl l15
        simp only [e11, e13, e15]
        go_simp
        refine gr_call ?_
        refine (betR R _ (Int.tmod x 20) (Int.tmod y 20) w1 ⟨A1, cp1, rfl, q2⟩ (by omega) (by omega)).mono ?_
        rintro e w2 ⟨⟨A2, c2, rfl, hgl2⟩, hg⟩
        refine ⟨_, rfl, HI.out _ _ _ ⟨below_grows q0 (Nat.le_refl _) hg, q1.grows hg, q2.grows hg, hEX _ _ hg q3, kn_free q4 rfl, (fun h => by obtain ⟨A2, c2, e, gg⟩ := q5 h; exact ⟨A2, c2, e, gg.grows hg⟩), (fun h => by obtain ⟨A2, c2, e, gg⟩ := q6 h; exact ⟨A2, c2, e, gg.grows hg⟩), (fun _ => ⟨A2, c2, rfl, hgl2⟩), (fun h => by obtain ⟨A2, c2, e, gg⟩ := q8 h; exact ⟨A2, c2, e, gg.grows hg⟩)⟩⟩
      · intro vs
        simp only [Act.put, List.setIfInBounds_toArray, List.set_cons_succ, List.set_cons_zero]
        rfl
      refine gen_cons (A' := ?_) (fun vs L w1 hL hw1 => ?_) ?_ ?_
      rotate_left 1
      · obtain ⟨q0, q1, q2, q3, q4, q5, q6, q7, q8⟩ := HO.out _ _ _ hw1
        have l10 : L 10 = true := hL.need 10 (by kernel_rfl)
        have e10 := q4 10 _ rfl l10
        refine gen_yes ?_ ?_
        · simp only [e10]
          rfl
        refine gr_load_row _ rfl rfl q1 Try.underlying28 rfl (rcV_info _ _ _ _ _) ?_
        exact HI.out _ _ _ ⟨q0, q1, q2, q3, kn_known q4 rfl, q5, q6, q7, q8⟩
      · intro vs
        simp only [Act.put, List.setIfInBounds_toArray, List.set_cons_succ, List.set_cons_zero]
        rfl
      refine gen_cons (A' := ?_) (fun vs L w1 hL hw1 => ?_) ?_ ?_
      rotate_left 1
      · obtain ⟨q0, q1, q2, q3, q4, q5, q6, q7, q8⟩ := HO.out _ _ _ hw1
        have l10 : L 10 = true := hL.need 10 (by kernel_rfl)
        have e10 := q4 10 _ rfl l10
        refine gen_yes ?_ ?_
        · simp only [e10]
          rfl
        go_simp
        exact gr_val (HI.out _ _ _ ⟨q0, q1, q2, q3, kn_known q4 rfl, q5, q6, q7, q8⟩)
      · intro vs
        simp only [Act.put, List.setIfInBounds_toArray, List.set_cons_succ, List.set_cons_zero]
        rfl
      refine gen_cons (A' := ?_) (fun vs L w1 hL hw1 => ?_) ?_ ?_
      rotate_left 1
      · obtain ⟨q0, q1, q2, q3, q4, q5, q6, q7, q8⟩ := HO.out _ _ _ hw1
        have l10 : L 10 = true := hL.need 10 (by kernel_rfl)
        have e10 := q4 10 _ rfl l10
        refine gen_yes ?_ ?_
        · simp only [e10]
          rfl
        have l18 : L 18 = true := hL.need 18 (by kernel_rfl)
        have e18 := q4 18 _ rfl l18
        simp only [e18]
        go_simp
        exact gr_val (HI.out _ _ _ ⟨q0, q1, q2, q3, kn_known q4 rfl, q5, q6, q7, q8⟩)
      · intro vs
        simp only [Act.put, List.setIfInBounds_toArray, List.set_cons_succ, List.set_cons_zero]
        rfl
      refine gen_cons (A' := ?_) (fun vs L w1 hL hw1 => ?_) ?_ ?_
      rotate_left 1
      · obtain ⟨q0, q1, q2, q3, q4, q5, q6, q7, q8⟩ := HO.out _ _ _ hw1
        have l10 : L 10 = true := hL.need 10 (by kernel_rfl)
        have e10 := q4 10 _ rfl l10
        refine gen_yes ?_ ?_
        · simp only [e10]
          rfl
        go_simp
        exact gr_val (HI.out _ _ _ ⟨q0, q1, q2, q3, kn_known q4 rfl, q5, q6, q7, q8⟩)
      · intro vs
        simp only [Act.put, List.setIfInBounds_toArray, List.set_cons_succ, List.set_cons_zero]
        rfl
      refine gen_cons (A' := ?_) (fun vs L w1 hL hw1 => ?_) ?_ ?_
      rotate_left 1
      · obtain ⟨q0, q1, q2, q3, q4, q5, q6, q7, q8⟩ := HO.out _ _ _ hw1
        have l10 : L 10 = true := hL.need 10 (by kernel_rfl)
        have e10 := q4 10 _ rfl l10
        refine gen_yes ?_ ?_
        · simp only [e10]
          rfl
        have l20 : L 20 = true := hL.need 20 (by kernel_rfl)
        have e20 := q4 20 _ rfl l20
        simp only [e20]
        go_simp
        exact gr_val (HI.out _ _ _ ⟨q0, q1, q2, q3, kn_known q4 rfl, q5, q6, q7, q8⟩)
      · intro vs
        simp only [Act.put, List.setIfInBounds_toArray, List.set_cons_succ, List.set_cons_zero]
        rfl
      refine gen_cons (A' := ?_) (fun vs L w1 hL hw1 => ?_) ?_ ?_
      rotate_left 1
      · obtain ⟨q0, q1, q2, q3, q4, q5, q6, q7, q8⟩ := HO.out _ _ _ hw1
        have l10 : L 10 = true := hL.need 10 (by kernel_rfl)
        have e10 := q4 10 _ rfl l10
        refine gen_yes ?_ ?_
        · simp only [e10]
          rfl
        have l17 : L 17 = true := hL.need 17 (by kernel_rfl)
        have e17 := q4 17 _ rfl l17
        have l19 : L 19 = true := hL.need 19 (by kernel_rfl)
        have e19 := q4 19 _ rfl l19
        have l21 : L 21 = true := hL.need 21 (by kernel_rfl)
        have e21 := q4 21 _ rfl l21
        simp only [e17, e19, e21]
        go_simp
        refine gr_call ?_
        refine (rbetR R _ (Int.tmod x 20) (Int.tmod y 20) w1 ⟨A1, cp1, rfl, q2⟩ (by omega) (by omega)).mono ?_
        rintro e w2 ⟨⟨A2, c2, rfl, hgl2⟩, hg⟩
        refine ⟨_, rfl, HI.out _ _ _ ⟨below_grows q0 (Nat.le_refl _) hg, q1.grows hg, q2.grows hg, hEX _ _ hg q3, kn_free q4 rfl, (fun h => by obtain ⟨A2, c2, e, gg⟩ := q5 h; exact ⟨A2, c2, e, gg.grows hg⟩), (fun h => by obtain ⟨A2, c2, e, gg⟩ := q6 h; exact ⟨A2, c2, e, gg.grows hg⟩), (fun h => by obtain ⟨A2, c2, e, gg⟩ := q7 h; exact ⟨A2, c2, e, gg.grows hg⟩), (fun _ => ⟨A2, c2, rfl, hgl2⟩)⟩⟩
      · intro vs
        simp only [Act.put, List.setIfInBounds_toArray, List.set_cons_succ, List.set_cons_zero]
        rfl
      refine gen_cons (A' := ?_) (fun vs L w1 hL hw1 => ?_) ?_ ?_
      rotate_left 1
      · obtain ⟨q0, q1, q2, q3, q4, q5, q6, q7, q8⟩ := HO.out _ _ _ hw1
        have l10 : L 10 = true := hL.need 10 (by kernel_rfl)
        have e10 := q4 10 _ rfl l10
        refine gen_yes ?_ ?_
        · simp only [e10]
          rfl
        have l16 : L 16 = true := hL.need 16 (by kernel_rfl)
        have l22 : L 22 = true := hL.need 22 (by kernel_rfl)
        obtain ⟨A2, c2, ea, g2⟩ := q7 l16
        obtain ⟨A3, c3, eb, g3⟩ := q8 l22
        simp only [ea, eb]
        go_simp
        refine gr_call ?_
        refine (gsame_eq A2 A3 c2 c3 (betF R (Int.tmod x 20) (Int.tmod y 20)) w1 g2 g3 (by have := betF_len R (Int.tmod x 20) (Int.tmod y 20); omega)).mono ?_
        rintro e w2 ⟨rfl, hg⟩
        exact ⟨_, rfl, HI.out _ _ _ ⟨below_grows q0 (Nat.le_refl _) hg, q1.grows hg, q2.grows hg, hEX _ _ hg q3, kn_known q4 rfl, (fun h => by obtain ⟨A2, c2, e, gg⟩ := q5 h; exact ⟨A2, c2, e, gg.grows hg⟩), (fun h => by obtain ⟨A2, c2, e, gg⟩ := q6 h; exact ⟨A2, c2, e, gg.grows hg⟩), (fun h => by obtain ⟨A2, c2, e, gg⟩ := q7 h; exact ⟨A2, c2, e, gg.grows hg⟩), (fun h => by obtain ⟨A2, c2, e, gg⟩ := q8 h; exact ⟨A2, c2, e, gg.grows hg⟩)⟩⟩
      · intro vs
        simp only [Act.put, List.setIfInBounds_toArray, List.set_cons_succ, List.set_cons_zero]
        rfl
      refine gen_cons (A' := ?_) (fun vs L w1 hL hw1 => ?_) ?_ ?_
      rotate_left 1
      · obtain ⟨q0, q1, q2, q3, q4, q5, q6, q7, q8⟩ := HO.out _ _ _ hw1
        have l10 : L 10 = true := hL.need 10 (by kernel_rfl)
        have e10 := q4 10 _ rfl l10
        refine gen_yes ?_ ?_
        · simp only [e10]
          rfl
        have l23 : L 23 = true := hL.need 23 (by kernel_rfl)
        have e23 := q4 23 _ rfl l23
        simp only [e23]
        go_simp
        exact gr_val (HI.out _ _ _ ⟨q0, q1, q2, q3, kn_known q4 rfl, q5, q6, q7, q8⟩)
      · intro vs
        simp only [Act.put, List.setIfInBounds_toArray, List.set_cons_succ, List.set_cons_zero]
        rfl
      refine gen_cons (A' := ?_) (fun vs L w1 hL hw1 => ?_) ?_ ?_
      rotate_left 1
      · obtain ⟨q0, q1, q2, q3, q4, q5, q6, q7, q8⟩ := HO.out _ _ _ hw1
        refine gen_plain rfl ?_
        have l10 : L 10 = true := hL.need 10 (by kernel_rfl)
        have e10 := q4 10 _ rfl l10
        have l24 : L 24 = true := hL.need 24 (by kernel_rfl)
        have e24 := q4 24 _ rfl l24
        simp only [e10, e24]
        go_simp
        exact gr_val (HI.out _ _ _ ⟨q0, q1, q2, q3, kn_known q4 rfl, q5, q6, q7, q8⟩)
      · intro vs
        simp only [Act.put, List.setIfInBounds_toArray, List.set_cons_succ, List.set_cons_zero]
        rfl
      refine gen_cons (A' := ?_) (fun vs L w1 hL hw1 => ?_) ?_ ?_
      rotate_left 1
      · obtain ⟨q0, q1, q2, q3, q4, q5, q6, q7, q8⟩ := HO.out _ _ _ hw1
        refine gen_plain rfl ?_
        have l25 : L 25 = true := hL.need 25 (by kernel_rfl)
        have e25 := q4 25 _ rfl l25
        simp only [e25]
        go_simp
        exact gr_val (HI.out _ _ _ ⟨q0, q1, q2, q3, kn_known q4 rfl, q5, q6, q7, q8⟩)
      · intro vs
        simp only [Act.put, List.setIfInBounds_toArray, List.set_cons_succ, List.set_cons_zero]
        rfl
      refine gen_cons (A' := ?_) (fun vs L w1 hL hw1 => ?_) ?_ ?_
      rotate_left 1
      · obtain ⟨q0, q1, q2, q3, q4, q5, q6, q7, q8⟩ := HO.out _ _ _ hw1
        have l26 : L 26 = true := hL.need 26 (by kernel_rfl)
        have e26 := q4 26 _ rfl l26
        refine gen_yes ?_ ?_
        · simp only [e26]
          rfl
        refine gr_load_row _ rfl rfl q1 Try.underlying28 rfl (rcV_info _ _ _ _ _) ?_
        exact HI.out _ _ _ ⟨q0, q1, q2, q3, kn_known q4 rfl, q5, q6, q7, q8⟩
      · intro vs
        simp only [Act.put, List.setIfInBounds_toArray, List.set_cons_succ, List.set_cons_zero]
        rfl
      refine gen_cons (A' := ?_) (fun vs L w1 hL hw1 => ?_) ?_ ?_
      rotate_left 1
      · obtain ⟨q0, q1, q2, q3, q4, q5, q6, q7, q8⟩ := HO.out _ _ _ hw1
        have l26 : L 26 = true := hL.need 26 (by kernel_rfl)
        have e26 := q4 26 _ rfl l26
        refine gen_yes ?_ ?_
        · simp only [e26]
          rfl
        go_simp
        exact gr_val (HI.out _ _ _ ⟨q0, q1, q2, q3, kn_known q4 rfl, q5, q6, q7, q8⟩)
      · intro vs
        simp only [Act.put, List.setIfInBounds_toArray, List.set_cons_succ, List.set_cons_zero]
        rfl
      refine gen_cons (A' := ?_) (fun vs L w1 hL hw1 => ?_) ?_ ?_
      rotate_left 1
      · obtain ⟨q0, q1, q2, q3, q4, q5, q6, q7, q8⟩ := HO.out _ _ _ hw1
        have l26 : L 26 = true := hL.need 26 (by kernel_rfl)
        have e26 := q4 26 _ rfl l26
        refine gen_yes ?_ ?_
        · simp only [e26]
          rfl
        have l27 : L 27 = true := hL.need 27 (by kernel_rfl)
        have e27 := q4 27 _ rfl l27
        have l28 : L 28 = true := hL.need 28 (by kernel_rfl)
        have e28 := q4 28 _ rfl l28
        simp only [e27, e28]
        go_simp
        refine gr_call ?_
        refine (hM1 w1 q2).mono ?_
        rintro e w2 ⟨rfl, hg⟩
        exact ⟨_, rfl, HI.out _ _ _ ⟨below_grows q0 (Nat.le_refl _) hg, q1.grows hg, q2.grows hg, hEX _ _ hg q3, kn_known q4 rfl, (fun h => by obtain ⟨A2, c2, e, gg⟩ := q5 h; exact ⟨A2, c2, e, gg.grows hg⟩), (fun h => by obtain ⟨A2, c2, e, gg⟩ := q6 h; exact ⟨A2, c2, e, gg.grows hg⟩), (fun h => by obtain ⟨A2, c2, e, gg⟩ := q7 h; exact ⟨A2, c2, e, gg.grows hg⟩), (fun h => by obtain ⟨A2, c2, e, gg⟩ := q8 h; exact ⟨A2, c2, e, gg.grows hg⟩)⟩⟩
      · intro vs
        simp only [Act.put, List.setIfInBounds_toArray, List.set_cons_succ, List.set_cons_zero]
        rfl
      refine gen_cons (A' := ?_) (fun vs L w1 hL hw1 => ?_) ?_ ?_
      rotate_left 1
      · obtain ⟨q0, q1, q2, q3, q4, q5, q6, q7, q8⟩ := HO.out _ _ _ hw1
        have l26 : L 26 = true := hL.need 26 (by kernel_rfl)
        have e26 := q4 26 _ rfl l26
        refine gen_yes ?_ ?_
        · simp only [e26]
          rfl
        refine gr_load_row _ rfl rfl q1 Try.underlying28 rfl (rcV_info _ _ _ _ _) ?_
        exact HI.out _ _ _ ⟨q0, q1, q2, q3, kn_known q4 rfl, q5, q6, q7, q8⟩
      · intro vs
        simp only [Act.put, List.setIfInBounds_toArray, List.set_cons_succ, List.set_cons_zero]
        rfl
      refine gen_cons (A' := ?_) (fun vs L w1 hL hw1 => ?_) ?_ ?_
      rotate_left 1
      · obtain ⟨q0, q1, q2, q3, q4, q5, q6, q7, q8⟩ := HO.out _ _ _ hw1
        have l26 : L 26 = true := hL.need 26 (by kernel_rfl)
        have e26 := q4 26 _ rfl l26
        refine gen_yes ?_ ?_
        · simp only [e26]
          rfl
        go_simp
        exact gr_val (HI.out _ _ _ ⟨q0, q1, q2, q3, kn_known q4 rfl, q5, q6, q7, q8⟩)
      · intro vs
        simp only [Act.put, List.setIfInBounds_toArray, List.set_cons_succ, List.set_cons_zero]
        rfl
      refine gen_cons (A' := ?_) (fun vs L w1 hL hw1 => ?_) ?_ ?_
      rotate_left 1
      · obtain ⟨q0, q1, q2, q3, q4, q5, q6, q7, q8⟩ := HO.out _ _ _ hw1
        have l26 : L 26 = true := hL.need 26 (by kernel_rfl)
        have e26 := q4 26 _ rfl l26
        refine gen_yes ?_ ?_
        · simp only [e26]
          rfl
        have l30 : L 30 = true := hL.need 30 (by kernel_rfl)
        have e30 := q4 30 _ rfl l30
        have l31 : L 31 = true := hL.need 31 (by kernel_rfl)
        have e31 := q4 31 _ rfl l31
        simp only [e30, e31]
        go_simp
        refine gr_call ?_
        refine (rhM1 w1 q2).mono ?_
        rintro e w2 ⟨rfl, hg⟩
        exact ⟨_, rfl, HI.out _ _ _ ⟨below_grows q0 (Nat.le_refl _) hg, q1.grows hg, q2.grows hg, hEX _ _ hg q3, kn_known q4 rfl, (fun h => by obtain ⟨A2, c2, e, gg⟩ := q5 h; exact ⟨A2, c2, e, gg.grows hg⟩), (fun h => by obtain ⟨A2, c2, e, gg⟩ := q6 h; exact ⟨A2, c2, e, gg.grows hg⟩), (fun h => by obtain ⟨A2, c2, e, gg⟩ := q7 h; exact ⟨A2, c2, e, gg.grows hg⟩), (fun h => by obtain ⟨A2, c2, e, gg⟩ := q8 h; exact ⟨A2, c2, e, gg.grows hg⟩)⟩⟩
      · intro vs
        simp only [Act.put, List.setIfInBounds_toArray, List.set_cons_succ, List.set_cons_zero]
        rfl
      refine gen_cons (A' := ?_) (fun vs L w1 hL hw1 => ?_) ?_ ?_
      rotate_left 1
      · obtain ⟨q0, q1, q2, q3, q4, q5, q6, q7, q8⟩ := HO.out _ _ _ hw1
        have l26 : L 26 = true := hL.need 26 (by kernel_rfl)
        have e26 := q4 26 _ rfl l26
        refine gen_yes ?_ ?_
        · simp only [e26]
          rfl
        have l29 : L 29 = true := hL.need 29 (by kernel_rfl)
        have e29 := q4 29 _ rfl l29
        have l32 : L 32 = true := hL.need 32 (by kernel_rfl)
        have e32 := q4 32 _ rfl l32
        simp only [e29, e32]
        go_simp
        exact gr_val (HI.out _ _ _ ⟨q0, q1, q2, q3, kn_known q4 rfl, q5, q6, q7, q8⟩)
      · intro vs
        simp only [Act.put, List.setIfInBounds_toArray, List.set_cons_succ, List.set_cons_zero]
        rfl
      refine gen_cons (A' := ?_) (fun vs L w1 hL hw1 => ?_) ?_ ?_
      rotate_left 1
      · obtain ⟨q0, q1, q2, q3, q4, q5, q6, q7, q8⟩ := HO.out _ _ _ hw1
        refine gen_plain rfl ?_
        have l26 : L 26 = true := hL.need 26 (by kernel_rfl)
        have e26 := q4 26 _ rfl l26
        have l33 : L 33 = true := hL.need 33 (by kernel_rfl)
        have e33 := q4 33 _ rfl l33
        simp only [e26, e33]
        go_simp
        exact gr_val (HI.out _ _ _ ⟨q0, q1, q2, q3, kn_known q4 rfl, q5, q6, q7, q8⟩)
      · intro vs
        simp only [Act.put, List.setIfInBounds_toArray, List.set_cons_succ, List.set_cons_zero]
        rfl
      refine gen_cons (A' := ?_) (fun vs L w1 hL hw1 => ?_) ?_ ?_
      rotate_left 1
      · obtain ⟨q0, q1, q2, q3, q4, q5, q6, q7, q8⟩ := HO.out _ _ _ hw1
        refine gen_plain rfl ?_
        have l34 : L 34 = true := hL.need 34 (by kernel_rfl)
        have e34 := q4 34 _ rfl l34
        simp only [e34]
        go_simp
        exact gr_val (HI.out _ _ _ ⟨q0, q1, q2, q3, kn_known q4 rfl, q5, q6, q7, q8⟩)
      · intro vs
        simp only [Act.put, List.setIfInBounds_toArray, List.set_cons_succ, List.set_cons_zero]
        rfl
      refine gen_cons (A' := ?_) (fun vs L w1 hL hw1 => ?_) ?_ ?_
      rotate_left 1
      · obtain ⟨q0, q1, q2, q3, q4, q5, q6, q7, q8⟩ := HO.out _ _ _ hw1
        have l35 : L 35 = true := hL.need 35 (by kernel_rfl)
        have e35 := q4 35 _ rfl l35
        refine gen_yes ?_ ?_
        · simp only [e35]
          rfl
        refine gr_load_row _ rfl rfl q1 Try.underlying28 rfl (rcV_info _ _ _ _ _) ?_
        exact HI.out _ _ _ ⟨q0, q1, q2, q3, kn_known q4 rfl, q5, q6, q7, q8⟩
      · intro vs
        simp only [Act.put, List.setIfInBounds_toArray, List.set_cons_succ, List.set_cons_zero]
        rfl
      refine gen_cons (A' := ?_) (fun vs L w1 hL hw1 => ?_) ?_ ?_
      rotate_left 1
      · obtain ⟨q0, q1, q2, q3, q4, q5, q6, q7, q8⟩ := HO.out _ _ _ hw1
        have l35 : L 35 = true := hL.need 35 (by kernel_rfl)
        have e35 := q4 35 _ rfl l35
        refine gen_yes ?_ ?_
        · simp only [e35]
          rfl
        go_simp
        exact gr_val (HI.out _ _ _ ⟨q0, q1, q2, q3, kn_known q4 rfl, q5, q6, q7, q8⟩)
      · intro vs
        simp only [Act.put, List.setIfInBounds_toArray, List.set_cons_succ, List.set_cons_zero]
        rfl
      refine gen_cons (A' := ?_) (fun vs L w1 hL hw1 => ?_) ?_ ?_
      rotate_left 1
      · obtain ⟨q0, q1, q2, q3, q4, q5, q6, q7, q8⟩ := HO.out _ _ _ hw1
        have l35 : L 35 = true := hL.need 35 (by kernel_rfl)
        have e35 := q4 35 _ rfl l35
        refine gen_yes ?_ ?_
        · simp only [e35]
          rfl
        have l37 : L 37 = true := hL.need 37 (by kernel_rfl)
        have e37 := q4 37 _ rfl l37
        simp only [e37]
        go_simp
        refine gr_call ?_
        refine (mod_any p 101 _ (by omega) (by omega)).mono ?_
        rintro e w2 ⟨rfl, rfl⟩
        exact ⟨_, rfl, HI.out _ _ _ ⟨q0, q1, q2, q3, kn_known q4 rfl, q5, q6, q7, q8⟩⟩
      · intro vs
        simp only [Act.put, List.setIfInBounds_toArray, List.set_cons_succ, List.set_cons_zero]
        rfl
      refine gen_cons (A' := ?_) (fun vs L w1 hL hw1 => ?_) ?_ ?_
      rotate_left 1
      · obtain ⟨q0, q1, q2, q3, q4, q5, q6, q7, q8⟩ := HO.out _ _ _ hw1
        have l35 : L 35 = true := hL.need 35 (by kernel_rfl)
        have e35 := q4 35 _ rfl l35
        refine gen_yes ?_ ?_
        · simp only [e35]
          rfl
        have l36 : L 36 = true := hL.need 36 (by kernel_rfl)
        have e36 := q4 36 _ rfl l36
        have l38 : L 38 = true := hL.need 38 (by kernel_rfl)
        have e38 := q4 38 _ rfl l38
        simp only [e36, e38]
        go_simp
        refine gr_call ?_
        refine (hM2 w1 q2).mono ?_
        rintro e w2 ⟨rfl, hg⟩
        exact ⟨_, rfl, HI.out _ _ _ ⟨below_grows q0 (Nat.le_refl _) hg, q1.grows hg, q2.grows hg, hEX _ _ hg q3, kn_known q4 rfl, (fun h => by obtain ⟨A2, c2, e, gg⟩ := q5 h; exact ⟨A2, c2, e, gg.grows hg⟩), (fun h => by obtain ⟨A2, c2, e, gg⟩ := q6 h; exact ⟨A2, c2, e, gg.grows hg⟩), (fun h => by obtain ⟨A2, c2, e, gg⟩ := q7 h; exact ⟨A2, c2, e, gg.grows hg⟩), (fun h => by obtain ⟨A2, c2, e, gg⟩ := q8 h; exact ⟨A2, c2, e, gg.grows hg⟩)⟩⟩
      · intro vs
        simp only [Act.put, List.setIfInBounds_toArray, List.set_cons_succ, List.set_cons_zero]
        rfl
      refine gen_cons (A' := ?_) (fun vs L w1 hL hw1 => ?_) ?_ ?_
      rotate_left 1
      · obtain ⟨q0, q1, q2, q3, q4, q5, q6, q7, q8⟩ := HO.out _ _ _ hw1
        have l35 : L 35 = true := hL.need 35 (by kernel_rfl)
        have e35 := q4 35 _ rfl l35
        refine gen_yes ?_ ?_
        · simp only [e35]
          rfl
        refine gr_load_row _ rfl rfl q1 Try.underlying28 rfl (rcV_info _ _ _ _ _) ?_
        exact HI.out _ _ _ ⟨q0, q1, q2, q3, kn_known q4 rfl, q5, q6, q7, q8⟩
      · intro vs
        simp only [Act.put, List.setIfInBounds_toArray, List.set_cons_succ, List.set_cons_zero]
        rfl
      refine gen_cons (A' := ?_) (fun vs L w1 hL hw1 => ?_) ?_ ?_
      rotate_left 1
      · obtain ⟨q0, q1, q2, q3, q4, q5, q6, q7, q8⟩ := HO.out _ _ _ hw1
        have l35 : L 35 = true := hL.need 35 (by kernel_rfl)
        have e35 := q4 35 _ rfl l35
        refine gen_yes ?_ ?_
        · simp only [e35]
          rfl
        go_simp
        exact gr_val (HI.out _ _ _ ⟨q0, q1, q2, q3, kn_known q4 rfl, q5, q6, q7, q8⟩)
      · intro vs
        simp only [Act.put, List.setIfInBounds_toArray, List.set_cons_succ, List.set_cons_zero]
        rfl
      refine gen_cons (A' := ?_) (fun vs L w1 hL hw1 => ?_) ?_ ?_
      rotate_left 1
      · obtain ⟨q0, q1, q2, q3, q4, q5, q6, q7, q8⟩ := HO.out _ _ _ hw1
        have l35 : L 35 = true := hL.need 35 (by kernel_rfl)
        have e35 := q4 35 _ rfl l35
        refine gen_yes ?_ ?_
        · simp only [e35]
          rfl
        have l41 : L 41 = true := hL.need 41 (by kernel_rfl)
        have e41 := q4 41 _ rfl l41
        simp only [e41]
        go_simp
        refine gr_call ?_
        refine (mod_any p 101 _ (by omega) (by omega)).mono ?_
        rintro e w2 ⟨rfl, rfl⟩
        exact ⟨_, rfl, HI.out _ _ _ ⟨q0, q1, q2, q3, kn_known q4 rfl, q5, q6, q7, q8⟩⟩
      · intro vs
        simp only [Act.put, List.setIfInBounds_toArray, List.set_cons_succ, List.set_cons_zero]
        rfl
      refine gen_cons (A' := ?_) (fun vs L w1 hL hw1 => ?_) ?_ ?_
      rotate_left 1
      · obtain ⟨q0, q1, q2, q3, q4, q5, q6, q7, q8⟩ := HO.out _ _ _ hw1
        have l35 : L 35 = true := hL.need 35 (by kernel_rfl)
        have e35 := q4 35 _ rfl l35
        refine gen_yes ?_ ?_
        · simp only [e35]
          rfl
        have l40 : L 40 = true := hL.need 40 (by kernel_rfl)
        have e40 := q4 40 _ rfl l40
        have l42 : L 42 = true := hL.need 42 (by kernel_rfl)
        have e42 := q4 42 _ rfl l42
        simp only [e40, e42]
        go_simp
        refine gr_call ?_
        refine (rhM2 w1 q2).mono ?_
        rintro e w2 ⟨rfl, hg⟩
        exact ⟨_, rfl, HI.out _ _ _ ⟨below_grows q0 (Nat.le_refl _) hg, q1.grows hg, q2.grows hg, hEX _ _ hg q3, kn_known q4 rfl, (fun h => by obtain ⟨A2, c2, e, gg⟩ := q5 h; exact ⟨A2, c2, e, gg.grows hg⟩), (fun h => by obtain ⟨A2, c2, e, gg⟩ := q6 h; exact ⟨A2, c2, e, gg.grows hg⟩), (fun h => by obtain ⟨A2, c2, e, gg⟩ := q7 h; exact ⟨A2, c2, e, gg.grows hg⟩), (fun h => by obtain ⟨A2, c2, e, gg⟩ := q8 h; exact ⟨A2, c2, e, gg.grows hg⟩)⟩⟩
      · intro vs
        simp only [Act.put, List.setIfInBounds_toArray, List.set_cons_succ, List.set_cons_zero]
        rfl
      refine gen_cons (A' := ?_) (fun vs L w1 hL hw1 => ?_) ?_ ?_
      rotate_left 1
      · obtain ⟨q0, q1, q2, q3, q4, q5, q6, q7, q8⟩ := HO.out _ _ _ hw1
        have l35 : L 35 = true := hL.need 35 (by kernel_rfl)
        have e35 := q4 35 _ rfl l35
        refine gen_yes ?_ ?_
        · simp only [e35]
          rfl
        have l39 : L 39 = true := hL.need 39 (by kernel_rfl)
        have e39 := q4 39 _ rfl l39
        have l43 : L 43 = true := hL.need 43 (by kernel_rfl)
        have e43 := q4 43 _ rfl l43
        simp only [e39, e43]
        go_simp
        exact gr_val (HI.out _ _ _ ⟨q0, q1, q2, q3, kn_known q4 rfl, q5, q6, q7, q8⟩)
      · intro vs
        simp only [Act.put, List.setIfInBounds_toArray, List.set_cons_succ, List.set_cons_zero]
        rfl
      refine gen_cons (A' := ?_) (fun vs L w1 hL hw1 => ?_) ?_ ?_
      rotate_left 1
      · obtain ⟨q0, q1, q2, q3, q4, q5, q6, q7, q8⟩ := HO.out _ _ _ hw1
        refine gen_plain rfl ?_
        have l35 : L 35 = true := hL.need 35 (by kernel_rfl)
        have e35 := q4 35 _ rfl l35
        have l44 : L 44 = true := hL.need 44 (by kernel_rfl)
        have e44 := q4 44 _ rfl l44
        simp only [e35, e44]
        go_simp
        exact gr_val (HI.out _ _ _ ⟨q0, q1, q2, q3, kn_known q4 rfl, q5, q6, q7, q8⟩)
      · intro vs
        simp only [Act.put, List.setIfInBounds_toArray, List.set_cons_succ, List.set_cons_zero]
        rfl
      refine gen_nil ?_
      intro vs L w7 hall hS
      obtain ⟨hB, k12, hgl, hex, q4, -⟩ := HO.out _ _ _ hS
      have e45 := q4 45 _ rfl (hall 45 (by simp))
      clear hall hS HI HO q4
      simp only [e45]
      go_wp2
      go_roundw
      case rel =>
        obtain ⟨h1, h2, h3⟩ := (HEX.out _).1 hex
        exact ⟨k + 1, by omega, by go_num, hB, h1, h2, h3⟩
      case measure => simp [intOf]; omega
    · go_wp2
      go_ret
      exact ⟨rfl, hB⟩
end RecorderFinds
namespace RecorderFinds
theorem contract (H : Type) (enc : TypeId × Value → H) (W : World) (base : Nat) (args : Array Value) (ds gs : List (DataW H)) (before : List MemPlace)
    (hval0 : ∀ (j : Nat) t v, Try.f4.params[j]? = some t → args[j]? = some v → Value.okWide Try.prog W .any base t v)
    (hW : DataW.Whole enc Try.prog Try.f4.params.toList Rows.recorderFindsSpec.vars false W args.toList ds gs before)
    (hsz0 : (DataW.weightsEach Try.prog (Try.f4.params.toList ++ Rows.recorderFindsSpec.plain.varTypes Try.prog) (ds ++ gs)).all (· ≤ reachBytes) = true) :
    Calls Try.prog 4 args W fun e W' => ∃ v, e = .returned v ∧ Rows.recorderFindsSpec.post enc Try.prog Try.f4 false true false false W args v W' := by
  have key : Calls Try.prog 4 args W fun e W' => e = .returned (.bool true) ∧ Below W.heap.size W W' := by
    have hval : ∀ (j : Nat) t v, Try.f4.params[j]? = some t → args[j]? = some v → Value.okWide Try.prog W .any base t v := hval0
    obtain ⟨p, q, hA0, hV, hbe, hfz, hnd⟩ := hW
    have hA : DataW.TrodAll enc Try.prog W 0 (fun _ => true) true Try.f4.params.toList args.toList ds p := hA0
    rw [Try.params4] at hA hval
    clear hA0 hval0
    obtain ⟨v0, vs0, d0, ds0, p0, q0, hargs, rfl, rfl, h0, r0⟩ := trodAll_cons hA
    obtain ⟨v1, vs1, d1, ds1, p1, q1, rfl, rfl, rfl, h1, r1⟩ := trodAll_cons r0
    obtain ⟨v2, vs2, d2, ds2, p2, q2, rfl, rfl, rfl, h2, r2⟩ := trodAll_cons r1
    obtain ⟨v3, vs3, d3, ds3, p3, q3, rfl, rfl, rfl, h3, r3⟩ := trodAll_cons r2
    obtain ⟨v4, vs4, d4, ds4, p4, q4, rfl, rfl, rfl, h4, r4⟩ := trodAll_cons r3
    obtain ⟨rfl, rfl, rfl⟩ := trodAll_nil r4
    obtain rfl : args = #[v0, v1, v2, v3, v4] := by cases args; simp_all
    obtain ⟨rfl, rfl⟩ := trodVars_none hV
    have hsz : (DataW.weightsEach Try.prog (Try.f4.params.toList ++ Rows.recorderFindsSpec.plain.varTypes Try.prog) ([d0, d1, d2, d3, d4] ++ [])).all (· ≤ reachBytes) = true := hsz0
    rw [Try.params4] at hsz
    clear hsz0
    obtain ⟨A, cp, l, rfl, hI, hl, _⟩ := open_slice_ints Try.underlying22 Try.underlying3 (by kernel_rfl) (hval 0 22 v0 rfl rfl) h0
    obtain ⟨lim, fr, A2, cp2, l2, c, b, rfl, hgl, hl2⟩ := open_rec (hval 1 28 v1 rfl rfl) h1
    obtain ⟨a2, rfl, rfl, rfl, w2⟩ := open_int Try.underlying2 (hval 2 2 v2 rfl rfl) h2
    obtain ⟨a3, rfl, rfl, rfl, w3⟩ := open_int Try.underlying2 (hval 3 2 v3 rfl rfl) h3
    obtain ⟨a4, rfl, rfl, rfl, w4⟩ := open_int Try.underlying3 (hval 4 3 v4 rfl rfl) h4
    exact RecorderFinds.walk A cp l ⟨lim, l2, c, fr, b⟩ A2 cp2 a2 a3 a4 W hI hl hgl hl2 (i64_bd w2)
  refine key.mono fun e W' ⟨he, hb⟩ => ⟨_, he, law_post laid_out hW ?_ rfl (by kernel_rfl) Try.underlying4 ?_ hb⟩
  · rw [Try.params4]
    intro t ht
    simp only [List.mem_cons, List.not_mem_nil, or_false] at ht
    rcases ht with rfl | rfl | rfl | rfl | rfl <;> exact ⟨by kernel_rfl, of_decide_eq_true (by kernel_rfl)⟩
  · rw [Try.params4]
    intro ds hl
    match ds, hl with
    | [_, _, _, _, _], _ => rfl

set_option maxRecDepth 100000 in
theorem lifted (os : Os) (started : os.Started) (H : Type) (enc : TypeId × Value → H) :
    ReturnsInHanded {} Try.checked os 4 .any (Rows.recorderFindsSpec.pre6 enc Try.prog Try.f4 Rows.recorderFindsRow.domain false) (Rows.recorderFindsSpec.post enc Try.prog Try.f4 false true false false) := by
  refine returnsInHanded_of_change_sized (C := Try.checked) own_knob started (by kernel_rfl) Try.func4
    (ChangeSpec.witness6 (enc := enc) (C := Try.checked) false ⟨#[], #[.slice none 0 0, .agg #[.int .i64 0, .slice none 0 0, .int .i64 0, .int .i64 0, .int .i64 0, .int .i64 0, .int .i64 0, .int .i64 0, .int .i64 0, .int .i64 0, .int .i64 0, .int .i64 0, .int .i64 0, .int .i64 0, .int .i64 0, .int .i64 0, .int .i64 0, .int .i64 0, .int .i64 0, .int .i64 0, .int .i64 0, .int .i64 0, .int .i64 0, .int .i64 0, .int .i64 0, .int .i64 0, .int .i64 0, .int .i64 0, .int .i64 0, .int .i64 0, .int .i64 0, .int .i64 0], .int .i64 0, .int .i64 0, .int .i64 0], []⟩ 8 (by kernel_rfl) (by kernel_rfl) (by kernel_rfl) (by kernel_rfl)) ?_
  intro W base args ds gs before hval0 hW _ hsz0 _
  exact contract H enc W base args ds gs before hval0 hW hsz0

theorem over : Rows.recorderFindsRow.holds Try.pinned (OpenSpec.ofChange Rows.recorderFindsSpec) :=
  OpenClaim.holds_of_wide 4 Try.f4 rfl rfl rfl rfl rfl rfl rfl ⟨rfl, rfl, rfl, rfl, rfl⟩ rfl rfl rfl rfl rfl (by kernel_rfl) Try.func4 (by kernel_rfl)
    (of_decide_eq_true (by kernel_rfl)) (by unfold Func.isWrapper; first | (rw [if_pos (by decide +kernel)]; kernel_rfl) | (rw [if_neg (by decide +kernel)]; exact ⟨rfl, rfl⟩))
    (fun os started H enc _ => lifted os started H enc)

/-- The given statement. -/
theorem proved : Rows.RecorderFindsSaid := over
end RecorderFinds
#print axioms RecorderFinds.proved
end Go.Proofs.Ytbohbapheofpiaa
