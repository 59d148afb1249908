/-
  Graphs: Connect of the reference keeps a graph valid. Plain contract.
-/
import Derived.Test.YtmokpiacioeohaaGrX
namespace Go.Proofs.Ytmokpiacioeohaa
open Go.RowKit Go.Maps
theorem has_any (A A2 : Option Addr) (c c2 m : Nat) (ls : List Q4) (n : Q4) (w : World) (h : Qs w A2 ls) (hl : ls.length ≤ 9223372036854775807) :
    Calls Try.prog 40 #[.agg #[.slice A m c, .slice A2 ls.length c2], .agg #[.int .i64 n.a, .int .i64 n.b, .int .i64 n.c, .int .i64 n.d]] w fun e w' => e = .returned (.bool (decide (n ∈ ls))) ∧ Grows w w' := by
  have k1 := (Blk.new w 40 #[.slice A m c, .slice A2 ls.length c2]).alloc (Obj.cells #[.int .i64 n.a, .int .i64 n.b, .int .i64 n.c, .int .i64 n.d] 52)
  have k3 := blk_new_at (X := w.alloc (Obj.cells #[.slice A m c, .slice A2 ls.length c2] 40)) (n := w.heap.size + 1) (t := 52) (cs := #[.int .i64 n.a, .int .i64 n.b, .int .i64 n.c, .int .i64 n.d]) (by simp)
  have hB := ((Below.refl w.heap.size w).alloc (Nat.le_refl _) (Obj.cells #[.slice A m c, .slice A2 ls.length c2] 40)).alloc (by simp) (Obj.cells #[.int .i64 n.a, .int .i64 n.b, .int .i64 n.c, .int .i64 n.d] 52)
  go_enter Try.func40, Try.ntmps40
  go_upto_region 1 with fail
  generalize World.alloc (World.alloc w _) _ = w1 at *
  have x1 := k1.cell
  go_wp2_with fail
  clear x1 k1
  go_loopw [10] (fun i wr => ∃ k : Nat, k ≤ ls.length ∧ i = .int .i64 k ∧ Hid (n ∉ ls.take k) ∧ Blk wr (w.heap.size + 1) 52 #[.int .i64 n.a, .int .i64 n.b, .int .i64 n.c, .int .i64 n.d] ∧ Below w.heap.size w wr) (fun i _ => ls.length - (intOf i).toNat)
  case atStart => exact ⟨0, by omega, rfl, Lib.hid (by simp), k3, hB⟩
  case round =>
    clear k3 hB
    obtain ⟨k, hk, rfl, HN, k3, hB⟩ := hrel
    by_cases hlt : k < ls.length
    · obtain ⟨ad, x, e1, had, hx, q0, q1, q2, q3⟩ := (h.grows hB).elem hlt
      subst e1
      have HX := Lib.hid hx
      clear hx
      have k6 := Blk.new wr 52 #[.int .i64 x.a, .int .i64 x.b, .int .i64 x.c, .int .i64 x.d]
      have hq := (Below.refl wr.heap.size wr).alloc (Nat.le_refl _) (Obj.cells #[.int .i64 x.a, .int .i64 x.b, .int .i64 x.c, .int .i64 x.d] 52)
      go_upto_region 4 with fail
      clear q0 q1 q2 q3
      replace hB := below_grows hB (Nat.le_refl _) hq
      replace k3 := k3.grows hq
      clear hq
      generalize World.alloc wr _ = w4 at *
      generalize wr.heap.size = G6 at *
      have x6 := k6.cell
      have x3 := k3.cell
      by_cases he : x = n
      · subst he
        go_wp2
        go_ret
        refine ⟨ret_bool ?_, hB⟩
        have : x ∈ ls := List.mem_of_getElem? HX.out
        simp [this]
      · have HN2 : Hid (n ∉ ls.take (k + 1)) := Lib.hid (by
          rw [take_snoc HX.out]
          intro hy
          rcases List.mem_append.1 hy with hy | hy
          · exact HN.out hy
          · simp only [List.mem_singleton] at hy
            exact he hy.symm)
        have HE := Lib.hid he
        clear he
        go_wp2
        all_goals first
          | (exfalso; apply HE.out; cases x; cases n; simp_all; done)
          | (go_roundw
             case rel => exact ⟨k + 1, by omega, by go_num, HN2, k3, hB⟩
             case measure => simp [intOf]; omega)
    · have HN2 : Hid (n ∉ ls) := Lib.hid (by have := HN.out; rwa [List.take_of_length_le (by omega)] at this)
      go_wp2
      go_ret
      refine ⟨ret_bool ?_, hB⟩
      simp [HN2.out]
theorem OwnL.slq {w : World} {base : Nat} {v : Value} {l : List Q4} (h : OwnL w base v l) : ∃ A n c, v = .slice A n c ∧ l.length = n ∧ Qs w A l := by
  obtain ⟨A, c, e, _, hq⟩ := h.read
  exact ⟨_, _, _, e, rfl, hq⟩
theorem OwnN.slq {w : World} {base : Nat} {v : Value} {l : List Q4} (h : OwnN w base v l) : ∃ A n c, v = .slice A n c ∧ l.length = n ∧ Qs w A l := by
  obtain ⟨A, c, e, _, hq⟩ := h.read
  exact ⟨_, _, _, e, rfl, hq⟩
theorem order_is (A A2 : Option Addr) (c c2 n1 n2 m : Nat) (ns ls : List Q4) (w : World) (h : Qs w A ns) (e1 : ns.length = n1) (h2 : Qs w A2 ls) (e2 : ls.length = n2) (hl : n1 ≤ 100000) (hl2 : n2 ≤ 9223372036854775807) (h0 : ∀ n ∈ ns, n.a ≠ 0) (hm : (orderL ns ls).length = m) :
    Calls Try.prog 43 #[.agg #[.slice A n1 c, .slice A2 n2 c2]] w fun e w' => (∃ v, e = .returned v ∧ ∃ A c, v = .slice A m c) ∧ Grows w w' := by
  subst e1 e2
  exact order_len A A2 c c2 m ns ls w h hl h2 hl2 h0 hm
set_option maxRecDepth 100000 in
set_option maxHeartbeats 16000000 in
theorem rconnect_any {A A2 : Option Addr} {c c2 : Nat} {ns ls : List Q4} {w : World} (n : Q4) (h : GOK w A A2 c2 ns ls) (hv : validG ns ls = true) :
    Calls Try.prog 27 #[.agg #[.slice A ns.length c, .slice A2 ls.length c2], .agg #[.int .i64 n.a, .int .i64 n.b, .int .i64 n.c, .int .i64 n.d]] w fun e w' => GrRes (fun ns' ls' => validG ns' ls' = true ∧ ns' = ns ∧ ls'.length ≤ ls.length + 1) w.heap.size e w' ∧ Grows w w' := by
  have HV := Lib.hid hv
  have hln := (valid_len hv).1
  have hLs := (valid_len hv).2
  clear hv
  have k1 := ((Blk.new w 40 #[.slice A ns.length c, .slice A2 ls.length c2]).alloc (Obj.cells #[.int .i64 n.a, .int .i64 n.b, .int .i64 n.c, .int .i64 n.d] 52)).alloc (Obj.cells #[.slice none 0 0, .slice none 0 0] 40)
  have k3 := (blk_new_at (X := w.alloc (Obj.cells #[.slice A ns.length c, .slice A2 ls.length c2] 40)) (n := w.heap.size + 1) (t := 52) (cs := #[.int .i64 n.a, .int .i64 n.b, .int .i64 n.c, .int .i64 n.d]) (by simp)).alloc (Obj.cells #[.slice none 0 0, .slice none 0 0] 40)
  have k4 := blk_new_at (X := (w.alloc (Obj.cells #[.slice A ns.length c, .slice A2 ls.length c2] 40)).alloc (Obj.cells #[.int .i64 n.a, .int .i64 n.b, .int .i64 n.c, .int .i64 n.d] 52)) (n := w.heap.size + 1 + 1) (t := 40) (cs := #[.slice none 0 0, .slice none 0 0]) (by simp)
  have hB := (((Below.refl w.heap.size w).alloc (Nat.le_refl _) (Obj.cells #[.slice A ns.length c, .slice A2 ls.length c2] 40)).alloc (by simp) (Obj.cells #[.int .i64 n.a, .int .i64 n.b, .int .i64 n.c, .int .i64 n.d] 52)).alloc (by simp; omega) (Obj.cells #[.slice none 0 0, .slice none 0 0] 40)
  go_enter Try.func27, Try.ntmps27
  go_upto_region 1 with fail
  generalize World.alloc (World.alloc (World.alloc w _) _) _ = w1 at *
  have x1 := k1.cell
  have x3 := k3.cell
  go_wp2_with fail
  refine (rvalid_is (h.grows hB)).mono ?_
  rw [HV.out]
  rintro e w2 ⟨rfl, hq⟩
  replace hB := below_grows hB (Nat.le_refl _) hq
  replace k1 := k1.grows hq
  replace k3 := k3.grows hq
  replace k4 := k4.grows hq
  clear hq x1 x3
  have x1 := k1.cell
  have x3 := k3.cell
  go_wp2_with fail
  cases hpo : endsL ns n
  · have HPO := Lib.hid hpo
    clear hpo
    refine (ports_is A A2 c c2 ls.length ns n false _ (h.grows hB).n h.nl HPO.out).mono ?_
    rintro e w3 ⟨rfl, hq⟩
    replace hB := below_grows hB (Nat.le_refl _) hq
    replace k1 := k1.grows hq
    replace k3 := k3.grows hq
    replace k4 := k4.grows hq
    clear hq x1 x3
    have x1 := k1.cell
    have x3 := k3.cell
    have x4 := k4.cell
    have f4 := k4.frozen
    go_wp2
    have k5 := (k4.set_ 0 (.slice none 0 0)).set_ 1 (.slice none 0 0)
    have hB5 := (hB.setCell (p := ⟨w.heap.size + 1 + 1, 0, none⟩) (by simp; omega) (.slice none 0 0)).setCell (p := ⟨w.heap.size + 1 + 1, 1, none⟩) (by simp; omega) (.slice none 0 0)
    clear x4 f4
    generalize World.setCell (World.setCell w3 _ _) _ _ = w8 at *
    have x4 := k5.cell
    refine bodyPost_ret (v := .tuple #[.agg #[.slice none 0 0, .slice none 0 0], .int .i64 7]) (by simp [results, Try.results27, go_sem, x4]) rfl ⟨grRes_no (by decide), hB5⟩

  have HPO := Lib.hid hpo
  clear hpo
  refine (ports_is A A2 c c2 ls.length ns n true _ (h.grows hB).n h.nl HPO.out).mono ?_
  rintro e w3 ⟨rfl, hq⟩
  replace hB := below_grows hB (Nat.le_refl _) hq
  replace k1 := k1.grows hq
  replace k3 := k3.grows hq
  replace k4 := k4.grows hq
  clear hq x1 x3
  have x1 := k1.cell
  have x3 := k3.cell
  go_wp2_with fail
  refine (has_any A A2 c c2 ns.length ls n _ (h.grows hB).l h.ll).mono ?_
  cases hhs : decide (n ∈ ls)
  case true =>
    clear hhs
    rintro e w4 ⟨rfl, hq⟩
    replace hB := below_grows hB (Nat.le_refl _) hq
    replace k1 := k1.grows hq
    replace k3 := k3.grows hq
    replace k4 := k4.grows hq
    clear hq x1 x3
    have x4 := k4.cell
    have f4 := k4.frozen
    go_wp2
    have k5 := (k4.set_ 0 (.slice none 0 0)).set_ 1 (.slice none 0 0)
    have hB5 := (hB.setCell (p := ⟨w.heap.size + 1 + 1, 0, none⟩) (by simp; omega) (.slice none 0 0)).setCell (p := ⟨w.heap.size + 1 + 1, 1, none⟩) (by simp; omega) (.slice none 0 0)
    clear x4 f4
    generalize World.setCell (World.setCell w4 _ _) _ _ = w8 at *
    have x4 := k5.cell
    refine bodyPost_ret (v := .tuple #[.agg #[.slice none 0 0, .slice none 0 0], .int .i64 8]) (by simp [results, Try.results27, go_sem, x4]) rfl ⟨grRes_no (by decide), hB5⟩

  have HHS : Hid (n ∉ ls) := Lib.hid (by simpa using hhs)
  clear hhs
  rintro e w4 ⟨rfl, hq⟩
  replace hB := below_grows hB (Nat.le_refl _) hq
  replace k1 := k1.grows hq
  replace k3 := k3.grows hq
  replace k4 := k4.grows hq
  clear hq x1 x3
  have x1 := k1.cell
  have x3 := k3.cell
  by_cases hful : 256 ≤ ls.length
  · skip
    have x4 := k4.cell
    have f4 := k4.frozen
    go_wp2
    have k5 := (k4.set_ 0 (.slice none 0 0)).set_ 1 (.slice none 0 0)
    have hB5 := (hB.setCell (p := ⟨w.heap.size + 1 + 1, 0, none⟩) (by simp; omega) (.slice none 0 0)).setCell (p := ⟨w.heap.size + 1 + 1, 1, none⟩) (by simp; omega) (.slice none 0 0)
    clear x4 f4
    generalize World.setCell (World.setCell w4 _ _) _ _ = w8 at *
    have x4 := k5.cell
    refine bodyPost_ret (v := .tuple #[.agg #[.slice none 0 0, .slice none 0 0], .int .i64 3]) (by simp [results, Try.results27, go_sem, x4]) rfl ⟨grRes_no (by decide), hB5⟩

  go_wp2_with fail
  cases hcr : crowdL ns n ls
  case true =>
    have HCR := Lib.hid hcr
    clear hcr
    refine (crowd_is A A2 A2 c c2 c2 ls.length ls.length ns ls n true _ (h.grows hB).n h.nl (h.grows hB).l h.ll rfl HCR.out).mono ?_
    rintro e w5 ⟨rfl, hq⟩
    replace hB := below_grows hB (Nat.le_refl _) hq
    replace k1 := k1.grows hq
    replace k3 := k3.grows hq
    replace k4 := k4.grows hq
    clear hq x1 x3
    have x1 := k1.cell
    have x3 := k3.cell
    have x4 := k4.cell
    have f4 := k4.frozen
    go_wp2
    have k5 := (k4.set_ 0 (.slice none 0 0)).set_ 1 (.slice none 0 0)
    have hB5 := (hB.setCell (p := ⟨w.heap.size + 1 + 1, 0, none⟩) (by simp; omega) (.slice none 0 0)).setCell (p := ⟨w.heap.size + 1 + 1, 1, none⟩) (by simp; omega) (.slice none 0 0)
    clear x4 f4
    generalize World.setCell (World.setCell w5 _ _) _ _ = w8 at *
    have x4 := k5.cell
    refine bodyPost_ret (v := .tuple #[.agg #[.slice none 0 0, .slice none 0 0], .int .i64 10]) (by simp [results, Try.results27, go_sem, x4]) rfl ⟨grRes_no (by decide), hB5⟩

  have HCR := Lib.hid hcr
  clear hcr
  refine (crowd_is A A2 A2 c c2 c2 ls.length ls.length ns ls n false _ (h.grows hB).n h.nl (h.grows hB).l h.ll rfl HCR.out).mono ?_
  rintro e w5 ⟨rfl, hq⟩
  replace hB := below_grows hB (Nat.le_refl _) hq
  replace k1 := k1.grows hq
  replace k3 := k3.grows hq
  replace k4 := k4.grows hq
  clear hq x1 x3
  have x1 := k1.cell
  have x3 := k3.cell
  go_upto_region 12 with fail
  clear x1 x3
  go_loopw [6] (fun i wr => ∃ m : Nat, m ≤ ls.length ∧ i = .int .i64 m ∧ Hid (∀ x ∈ ls.take m, lessL x n = true) ∧ Blk wr w.heap.size 40 #[.slice A ns.length c, .slice A2 ls.length c2] ∧ Blk wr (w.heap.size + 1) 52 #[.int .i64 n.a, .int .i64 n.b, .int .i64 n.c, .int .i64 n.d] ∧ Blk wr (w.heap.size + 1 + 1) 40 #[.slice none 0 0, .slice none 0 0] ∧ Below w.heap.size w wr) (fun i _ => ls.length - (intOf i).toNat)
  case atStart => exact ⟨0, by omega, rfl, Lib.hid (by simp), k1, k3, k4, hB⟩
  case round =>
    clear k1 k3 k4 hB
    obtain ⟨m, hmd, rfl, HA, k1, k3, k4, hB⟩ := hrel
    have x1 := k1.cell
    have x3 := k3.cell
    by_cases hlt : m < ls.length
    · obtain ⟨ad, x, e1, had, hx, hp⟩ := h.l.addr hlt
      subst e1
      have HX := Lib.hid hx
      clear hx
      cases hls : lessL x n
      · have HLS := Lib.hid hls
        clear hls
        have HC : Hid (cutAt ls (fun x => lessL x n) m) := Lib.hid ⟨hmd, HA.out, fun y hy => by
          rw [HX.out] at hy
          injection hy with hy
          subst hy
          exact HLS.out⟩
        go_upto_region 12 with fail
        obtain ⟨S, HI, HO⟩ : ∃ S : Ran → (Nat → Value) → World → Prop, Hid (∀ L vs w', (Grows wr w' ∧ KnS [some (.int .i64 (m : Int)), some (.pointer (some ⟨w.heap.size, 1, none⟩)), some (.slice (some ad) ls.length c2), some (.int .i64 (ls.length : Int)), some (.bool true), some (.bool true), some (.pointer (some ⟨w.heap.size, 1, none⟩)), some (.slice (some ad) ls.length c2), some (.int .i64 (m : Int)), some (.pointer (some (ad.add (m * 4)))), some (.agg #[.int .i64 x.a, .int .i64 x.b, .int .i64 x.c, .int .i64 x.d]), some (.agg #[.int .i64 n.a, .int .i64 n.b, .int .i64 n.c, .int .i64 n.d]), some (.bool false), some (.bool false)] L vs) → S L vs w') ∧ Hid (∀ L vs w', S L vs w' → (Grows wr w' ∧ KnS [some (.int .i64 (m : Int)), some (.pointer (some ⟨w.heap.size, 1, none⟩)), some (.slice (some ad) ls.length c2), some (.int .i64 (ls.length : Int)), some (.bool true), some (.bool true), some (.pointer (some ⟨w.heap.size, 1, none⟩)), some (.slice (some ad) ls.length c2), some (.int .i64 (m : Int)), some (.pointer (some (ad.add (m * 4)))), some (.agg #[.int .i64 x.a, .int .i64 x.b, .int .i64 x.c, .int .i64 x.d]), some (.agg #[.int .i64 n.a, .int .i64 n.b, .int .i64 n.c, .int .i64 n.d]), some (.bool false), some (.bool false)] L vs)) := ⟨fun L vs w' => Grows wr w' ∧ KnS [some (.int .i64 (m : Int)), some (.pointer (some ⟨w.heap.size, 1, none⟩)), some (.slice (some ad) ls.length c2), some (.int .i64 (ls.length : Int)), some (.bool true), some (.bool true), some (.pointer (some ⟨w.heap.size, 1, none⟩)), some (.slice (some ad) ls.length c2), some (.int .i64 (m : Int)), some (.pointer (some (ad.add (m * 4)))), some (.agg #[.int .i64 x.a, .int .i64 x.b, .int .i64 x.c, .int .i64 x.d]), some (.agg #[.int .i64 n.a, .int .i64 n.b, .int .i64 n.c, .int .i64 n.d]), some (.bool false), some (.bool false)] L vs, fun _ _ _ h => h, fun _ _ _ h => h⟩
        refine wp_region_genW S 81 (by kernel_rfl) (by kernel_rfl) rfl ?_ ?_
        · exact HI.out _ _ _ ⟨Grows.drew' _, kn_none _ _⟩
        refine gen_cons (A' := ?_) (fun vs L w1 hL hw1 => ?_) ?_ ?_
        rotate_left 1
        · obtain ⟨q0, q1⟩ := HO.out _ _ _ hw1
          refine gen_plain rfl ?_
          go_simp
          exact gr_val (HI.out _ _ _ ⟨q0, kn_known q1 rfl⟩)
        · intro vs
          simp only [Act.put, List.setIfInBounds_toArray, List.set_cons_succ, List.set_cons_zero]
          rfl
        refine gen_cons (A' := ?_) (fun vs L w1 hL hw1 => ?_) ?_ ?_
        rotate_left 1
        · obtain ⟨q0, q1⟩ := HO.out _ _ _ hw1
          refine gen_plain rfl ?_
          go_simp
          exact gr_val (HI.out _ _ _ ⟨q0, kn_known q1 rfl⟩)
        · intro vs
          simp only [Act.put, List.setIfInBounds_toArray, List.set_cons_succ, List.set_cons_zero]
          rfl
        refine gen_cons (A' := ?_) (fun vs L w1 hL hw1 => ?_) ?_ ?_
        rotate_left 1
        · obtain ⟨q0, q1⟩ := HO.out _ _ _ hw1
          refine gen_plain rfl ?_
          have l1 : L 1 = true := hL.need 1 (by kernel_rfl)
          have e1 := q1 1 _ rfl l1
          have x := (k1.grows q0).cell 1
          simp only [e1]
          go_simp
          exact gr_val (HI.out _ _ _ ⟨q0, kn_known q1 rfl⟩)
        · intro vs
          simp only [Act.put, List.setIfInBounds_toArray, List.set_cons_succ, List.set_cons_zero]
          rfl
        refine gen_cons (A' := ?_) (fun vs L w1 hL hw1 => ?_) ?_ ?_
        rotate_left 1
        · obtain ⟨q0, q1⟩ := HO.out _ _ _ hw1
          refine gen_plain rfl ?_
          have l2 : L 2 = true := hL.need 2 (by kernel_rfl)
          have e2 := q1 2 _ rfl l2
          simp only [e2]
          go_simp
          exact gr_val (HI.out _ _ _ ⟨q0, kn_known q1 rfl⟩)
        · intro vs
          simp only [Act.put, List.setIfInBounds_toArray, List.set_cons_succ, List.set_cons_zero]
          rfl
        refine gen_cons (A' := ?_) (fun vs L w1 hL hw1 => ?_) ?_ ?_
        rotate_left 1
        · obtain ⟨q0, q1⟩ := HO.out _ _ _ hw1
          refine gen_plain rfl ?_
          have l0 : L 0 = true := hL.need 0 (by kernel_rfl)
          have e0 := q1 0 _ rfl l0
          have l3 : L 3 = true := hL.need 3 (by kernel_rfl)
          have e3 := q1 3 _ rfl l3
          simp only [e0, e3]
          go_simp
          exact gr_val (HI.out _ _ _ ⟨q0, kn_known q1 rfl⟩)
        · intro vs
          simp only [Act.put, List.setIfInBounds_toArray, List.set_cons_succ, List.set_cons_zero]
          rfl
        refine gen_cons (A' := ?_) (fun vs L w1 hL hw1 => ?_) ?_ ?_
        rotate_left 1
        · obtain ⟨q0, q1⟩ := HO.out _ _ _ hw1
          refine gen_plain rfl ?_
          have l4 : L 4 = true := hL.need 4 (by kernel_rfl)
          have e4 := q1 4 _ rfl l4
          simp only [e4]
          go_simp
          exact gr_val (HI.out _ _ _ ⟨q0, kn_known q1 rfl⟩)
        · intro vs
          simp only [Act.put, List.setIfInBounds_toArray, List.set_cons_succ, List.set_cons_zero]
          rfl
        refine gen_cons (A' := ?_) (fun vs L w1 hL hw1 => ?_) ?_ ?_
        rotate_left 1
        · obtain ⟨q0, q1⟩ := HO.out _ _ _ hw1
          have l5 : L 5 = true := hL.need 5 (by kernel_rfl)
          have e5 := q1 5 _ rfl l5
          refine gen_yes ?_ ?_
          · simp only [e5]
            rfl
          go_simp
          exact gr_val (HI.out _ _ _ ⟨q0, kn_known q1 rfl⟩)
        · intro vs
          simp only [Act.put, List.setIfInBounds_toArray, List.set_cons_succ, List.set_cons_zero]
          rfl
        refine gen_cons (A' := ?_) (fun vs L w1 hL hw1 => ?_) ?_ ?_
        rotate_left 1
        · obtain ⟨q0, q1⟩ := HO.out _ _ _ hw1
          have l5 : L 5 = true := hL.need 5 (by kernel_rfl)
          have e5 := q1 5 _ rfl l5
          refine gen_yes ?_ ?_
          · simp only [e5]
            rfl
          have l6 : L 6 = true := hL.need 6 (by kernel_rfl)
          have e6 := q1 6 _ rfl l6
          have x := (k1.grows q0).cell 1
          simp only [e6]
          go_simp
          exact gr_val (HI.out _ _ _ ⟨q0, kn_known q1 rfl⟩)
        · intro vs
          simp only [Act.put, List.setIfInBounds_toArray, List.set_cons_succ, List.set_cons_zero]
          rfl
        refine gen_cons (A' := ?_) (fun vs L w1 hL hw1 => ?_) ?_ ?_
        rotate_left 1
        · obtain ⟨q0, q1⟩ := HO.out _ _ _ hw1
          have l5 : L 5 = true := hL.need 5 (by kernel_rfl)
          have e5 := q1 5 _ rfl l5
          refine gen_yes ?_ ?_
          · simp only [e5]
            rfl
          go_simp
          exact gr_val (HI.out _ _ _ ⟨q0, kn_known q1 rfl⟩)
        · intro vs
          simp only [Act.put, List.setIfInBounds_toArray, List.set_cons_succ, List.set_cons_zero]
          rfl
        refine gen_cons (A' := ?_) (fun vs L w1 hL hw1 => ?_) ?_ ?_
        rotate_left 1
        · obtain ⟨q0, q1⟩ := HO.out _ _ _ hw1
          have l5 : L 5 = true := hL.need 5 (by kernel_rfl)
          have e5 := q1 5 _ rfl l5
          refine gen_yes ?_ ?_
          · simp only [e5]
            rfl
          have l7 : L 7 = true := hL.need 7 (by kernel_rfl)
          have e7 := q1 7 _ rfl l7
          have l8 : L 8 = true := hL.need 8 (by kernel_rfl)
          have e8 := q1 8 _ rfl l8
          simp only [e7, e8]
          go_simp
          exact gr_val (HI.out _ _ _ ⟨q0, kn_known q1 rfl⟩)
        · intro vs
          simp only [Act.put, List.setIfInBounds_toArray, List.set_cons_succ, List.set_cons_zero]
          rfl
        refine gen_cons (A' := ?_) (fun vs L w1 hL hw1 => ?_) ?_ ?_
        rotate_left 1
        · obtain ⟨q0, q1⟩ := HO.out _ _ _ hw1
          have l5 : L 5 = true := hL.need 5 (by kernel_rfl)
          have e5 := q1 5 _ rfl l5
          refine gen_yes ?_ ?_
          · simp only [e5]
            rfl
          have l9 : L 9 = true := hL.need 9 (by kernel_rfl)
          have e9 := q1 9 _ rfl l9
          simp only [e9]
          obtain ⟨y0, y1, y2, y3⟩ := hp _ (below_grows hB (Nat.le_refl _) q0)
          go_simp
          exact gr_val (HI.out _ _ _ ⟨q0, kn_known q1 rfl⟩)
        · intro vs
          simp only [Act.put, List.setIfInBounds_toArray, List.set_cons_succ, List.set_cons_zero]
          rfl
        refine gen_cons (A' := ?_) (fun vs L w1 hL hw1 => ?_) ?_ ?_
        rotate_left 1
        · obtain ⟨q0, q1⟩ := HO.out _ _ _ hw1
          have l5 : L 5 = true := hL.need 5 (by kernel_rfl)
          have e5 := q1 5 _ rfl l5
          refine gen_yes ?_ ?_
          · simp only [e5]
            rfl
          have x := (k3.grows q0).cell 
          go_simp
          exact gr_val (HI.out _ _ _ ⟨q0, kn_known q1 rfl⟩)
        · intro vs
          simp only [Act.put, List.setIfInBounds_toArray, List.set_cons_succ, List.set_cons_zero]
          rfl
        refine gen_cons (A' := ?_) (fun vs L w1 hL hw1 => ?_) ?_ ?_
        rotate_left 1
        · obtain ⟨q0, q1⟩ := HO.out _ _ _ hw1
          have l5 : L 5 = true := hL.need 5 (by kernel_rfl)
          have e5 := q1 5 _ rfl l5
          refine gen_yes ?_ ?_
          · simp only [e5]
            rfl
          have l10 : L 10 = true := hL.need 10 (by kernel_rfl)
          have e10 := q1 10 _ rfl l10
          have l11 : L 11 = true := hL.need 11 (by kernel_rfl)
          have e11 := q1 11 _ rfl l11
          simp only [e10, e11]
          go_simp
          refine gr_call ?_
          refine (less_is x n false w1 HLS.out).mono ?_
          rintro e w2 ⟨rfl, hg⟩
          exact ⟨_, rfl, HI.out _ _ _ ⟨below_grows q0 (Nat.le_refl _) hg, kn_known q1 rfl⟩⟩
        · intro vs
          simp only [Act.put, List.setIfInBounds_toArray, List.set_cons_succ, List.set_cons_zero]
          rfl
        refine gen_cons (A' := ?_) (fun vs L w1 hL hw1 => ?_) ?_ ?_
        rotate_left 1
        · obtain ⟨q0, q1⟩ := HO.out _ _ _ hw1
          refine gen_plain rfl ?_
          have l5 : L 5 = true := hL.need 5 (by kernel_rfl)
          have e5 := q1 5 _ rfl l5
          have l12 : L 12 = true := hL.need 12 (by kernel_rfl)
          have e12 := q1 12 _ rfl l12
          simp only [e5, e12]
          go_simp
          exact gr_val (HI.out _ _ _ ⟨q0, kn_known q1 rfl⟩)
        · intro vs
          simp only [Act.put, List.setIfInBounds_toArray, List.set_cons_succ, List.set_cons_zero]
          rfl
        refine gen_nil ?_
        intro vs L W6 hall hS
        obtain ⟨hq, q1⟩ := HO.out _ _ _ hS
        have eX13 := q1 13 _ rfl (hall 13 (by simp))
        clear hall hS HI HO q1
        simp only [eX13]
        clear eX13
        simp only [Nat.zero_add, Nat.reduceAdd]
        replace hB := below_grows hB (Nat.le_refl _) hq
        replace k1 := k1.grows hq
        replace k3 := k3.grows hq
        replace k4 := k4.grows hq
        clear hq x1 x3
        generalize W6 = w6 at *

        go_upto_region 14 with fail
        have hQ := (h.grows hB).l
        have hc := h.lc
        have hmc : m ≤ c2 := by omega
        obtain ⟨S, HI, HO⟩ : ∃ S : Ran → (Nat → Value) → World → Prop, Hid (∀ L vs w', (Grows w6 w' ∧ KnS [some (.pointer (some ⟨w.heap.size, 1, none⟩)), some (.slice (some ad) ls.length c2), some (.int .i64 (m : Int)), some (.slice (some ad) m c2), none, some (.agg #[.int .i64 n.a, .int .i64 n.b, .int .i64 n.c, .int .i64 n.d]), none, none, some (.pointer (some ⟨w.heap.size, 1, none⟩)), some (.slice (some ad) ls.length c2), some (.int .i64 (m : Int)), some (.slice (if c2 = m then (some ad) else (some ad).map (fun x => x.add (m * 4))) (ls.length - m) (c2 - m)), none] L vs ∧ (L 4 = true → L 7 = false → OwnL w' w6.heap.size (vs 4) (ls.take m)) ∧ (L 6 = true → L 7 = false → ∃ gb, vs 6 = .slice (some ⟨gb, 0, none⟩) 1 1 ∧ Qs w' (some ⟨gb, 0, none⟩) [n]) ∧ (L 7 = true → L 12 = false → OwnL w' w6.heap.size (vs 7) (ls.take m ++ [n])) ∧ (L 12 = true → OwnL w' w6.heap.size (vs 12) (ls.take m ++ [n] ++ ls.drop m)) ∧ (L 7 = true → L 4 = true ∧ L 6 = true) ∧ (L 12 = true → L 7 = true)) → S L vs w') ∧ Hid (∀ L vs w', S L vs w' → (Grows w6 w' ∧ KnS [some (.pointer (some ⟨w.heap.size, 1, none⟩)), some (.slice (some ad) ls.length c2), some (.int .i64 (m : Int)), some (.slice (some ad) m c2), none, some (.agg #[.int .i64 n.a, .int .i64 n.b, .int .i64 n.c, .int .i64 n.d]), none, none, some (.pointer (some ⟨w.heap.size, 1, none⟩)), some (.slice (some ad) ls.length c2), some (.int .i64 (m : Int)), some (.slice (if c2 = m then (some ad) else (some ad).map (fun x => x.add (m * 4))) (ls.length - m) (c2 - m)), none] L vs ∧ (L 4 = true → L 7 = false → OwnL w' w6.heap.size (vs 4) (ls.take m)) ∧ (L 6 = true → L 7 = false → ∃ gb, vs 6 = .slice (some ⟨gb, 0, none⟩) 1 1 ∧ Qs w' (some ⟨gb, 0, none⟩) [n]) ∧ (L 7 = true → L 12 = false → OwnL w' w6.heap.size (vs 7) (ls.take m ++ [n])) ∧ (L 12 = true → OwnL w' w6.heap.size (vs 12) (ls.take m ++ [n] ++ ls.drop m)) ∧ (L 7 = true → L 4 = true ∧ L 6 = true) ∧ (L 12 = true → L 7 = true))) := ⟨fun L vs w' => Grows w6 w' ∧ KnS [some (.pointer (some ⟨w.heap.size, 1, none⟩)), some (.slice (some ad) ls.length c2), some (.int .i64 (m : Int)), some (.slice (some ad) m c2), none, some (.agg #[.int .i64 n.a, .int .i64 n.b, .int .i64 n.c, .int .i64 n.d]), none, none, some (.pointer (some ⟨w.heap.size, 1, none⟩)), some (.slice (some ad) ls.length c2), some (.int .i64 (m : Int)), some (.slice (if c2 = m then (some ad) else (some ad).map (fun x => x.add (m * 4))) (ls.length - m) (c2 - m)), none] L vs ∧ (L 4 = true → L 7 = false → OwnL w' w6.heap.size (vs 4) (ls.take m)) ∧ (L 6 = true → L 7 = false → ∃ gb, vs 6 = .slice (some ⟨gb, 0, none⟩) 1 1 ∧ Qs w' (some ⟨gb, 0, none⟩) [n]) ∧ (L 7 = true → L 12 = false → OwnL w' w6.heap.size (vs 7) (ls.take m ++ [n])) ∧ (L 12 = true → OwnL w' w6.heap.size (vs 12) (ls.take m ++ [n] ++ ls.drop m)) ∧ (L 7 = true → L 4 = true ∧ L 6 = true) ∧ (L 12 = true → L 7 = true), fun _ _ _ h => h, fun _ _ _ h => h⟩
        refine wp_region_genT S 13 81 (by kernel_rfl) (by kernel_rfl) rfl ?_ ?_
        · exact HI.out _ _ _ ⟨Grows.drew' _, kn_none _ _, (fun h => by cases h), (fun h => by cases h), (fun h => by cases h), (fun h => by cases h), (fun h => by cases h), (fun h => by cases h)⟩
        simp only [List.take_succ_cons, List.take_zero, List.drop_succ_cons, List.drop_zero]
        refine gent_cons (A' := ?_) (fun vs L w1 hL hw1 => ?_) ?_ ?_
        rotate_left 1
        · obtain ⟨q0, q1, q3, q5, q6, qa, h6, ha⟩ := HO.out _ _ _ hw1
          refine gen_plain rfl ?_
          go_simp
          exact gr_val (HI.out _ _ _ ⟨q0, kn_known q1 rfl, q3, q5, q6, qa, h6, ha⟩)
        · intro vs
          simp only [Act.put, List.setIfInBounds_toArray, List.set_cons_succ, List.set_cons_zero]
          rfl
        refine gent_cons (A' := ?_) (fun vs L w1 hL hw1 => ?_) ?_ ?_
        rotate_left 1
        · obtain ⟨q0, q1, q3, q5, q6, qa, h6, ha⟩ := HO.out _ _ _ hw1
          have l0 : L 0 = true := hL.need 0 (by kernel_rfl)
          have e0 := q1 0 _ rfl l0
          have x := (k1.grows q0).cell 1
          refine gen_plain rfl ?_
          simp only [e0]
          go_simp
          exact gr_val (HI.out _ _ _ ⟨q0, kn_known q1 rfl, q3, q5, q6, qa, h6, ha⟩)
        · intro vs
          simp only [Act.put, List.setIfInBounds_toArray, List.set_cons_succ, List.set_cons_zero]
          rfl
        refine gent_cons (A' := ?_) (fun vs L w1 hL hw1 => ?_) ?_ ?_
        rotate_left 1
        · obtain ⟨q0, q1, q3, q5, q6, qa, h6, ha⟩ := HO.out _ _ _ hw1
          refine gen_plain rfl ?_
          go_simp
          exact gr_val (HI.out _ _ _ ⟨q0, kn_known q1 rfl, q3, q5, q6, qa, h6, ha⟩)
        · intro vs
          simp only [Act.put, List.setIfInBounds_toArray, List.set_cons_succ, List.set_cons_zero]
          rfl
        refine gent_cons (A' := ?_) (fun vs L w1 hL hw1 => ?_) ?_ ?_
        rotate_left 1
        · obtain ⟨q0, q1, q3, q5, q6, qa, h6, ha⟩ := HO.out _ _ _ hw1
          have l1 : L 1 = true := hL.need 1 (by kernel_rfl)
          have e1 := q1 1 _ rfl l1
          have l2 : L 2 = true := hL.need 2 (by kernel_rfl)
          have e2 := q1 2 _ rfl l2
          refine gen_plain rfl ?_
          simp only [e1, e2]
          go_simp
          exact gr_val (HI.out _ _ _ ⟨q0, kn_known q1 rfl, q3, q5, q6, qa, h6, ha⟩)
        · intro vs
          simp only [Act.put, List.setIfInBounds_toArray, List.set_cons_succ, List.set_cons_zero]
          rfl
        refine gent_cons (A' := ?_) (fun vs L w1 hL hw1 => ?_) ?_ ?_
        rotate_left 1
        · obtain ⟨q0, q1, q3, q5, q6, qa, h6, ha⟩ := HO.out _ _ _ hw1
          have n4 : L 4 = false := hL.1
          have n7 : L 7 = false := by
            cases h : L 7
            · rfl
            · rw [(h6 h).1] at n4; cases n4
          have n12 : L 12 = false := by
            cases h : L 12
            · rfl
            · rw [ha h] at n7; cases n7
          have l3 : L 3 = true := hL.need 3 (by kernel_rfl)
          have e3 := q1 3 _ rfl l3
          refine gen_plain rfl ?_
          refine gr_append_link (.const (.slice none 0 0)) (.tmp 57) rfl (l := []) (m := ls.take m) (by rw [List.length_take]; omega) rfl (ownL_nil w1 w6.heap.size) e3 (qs_take (hQ.grows q0) m hmd) (by simp only [List.length_nil, List.length_take]; omega) q0.size ?_
          intro v3 w3 o3 g3
          have hg : Grows w1 w3 := (Below.refl _ _).grown g3 (Nat.le_refl _) (fun q hq => by cases hq)
          exact HI.out _ _ _ ⟨below_grows q0 (Nat.le_refl _) hg, kn_free q1 rfl, fun _ _ => o3, (fun h h0 => by obtain ⟨gb, e, s⟩ := q5 h h0; exact ⟨gb, e, s.grows hg⟩), (fun h _ => by rw [show L 7 = true from h] at n7; cases n7), (fun h => by rw [show L 12 = true from h] at n12; cases n12), (fun h => by rw [show L 7 = true from h] at n7; cases n7), (fun h => by rw [show L 12 = true from h] at n12; cases n12)⟩
        · intro vs
          simp only [Act.put, List.setIfInBounds_toArray, List.set_cons_succ, List.set_cons_zero]
          rfl
        refine gent_cons (A' := ?_) (fun vs L w1 hL hw1 => ?_) ?_ ?_
        rotate_left 1
        · obtain ⟨q0, q1, q3, q5, q6, qa, h6, ha⟩ := HO.out _ _ _ hw1
          have x := (k3.grows q0).cell
          refine gen_plain rfl ?_
          go_simp
          exact gr_val (HI.out _ _ _ ⟨q0, kn_known q1 rfl, q3, q5, q6, qa, h6, ha⟩)
        · intro vs
          simp only [Act.put, List.setIfInBounds_toArray, List.set_cons_succ, List.set_cons_zero]
          rfl
        refine gent_cons (A' := ?_) (fun vs L w1 hL hw1 => ?_) ?_ ?_
        rotate_left 1
        · obtain ⟨q0, q1, q3, q5, q6, qa, h6, ha⟩ := HO.out _ _ _ hw1
          have n6 : L 6 = false := hL.1
          have n7 : L 7 = false := by
            cases h : L 7
            · rfl
            · rw [(h6 h).2] at n6; cases n6
          have n12 : L 12 = false := by
            cases h : L 12
            · rfl
            · rw [ha h] at n7; cases n7
          have l5 : L 5 = true := hL.need 5 (by kernel_rfl)
          have e5 := q1 5 _ rfl l5
          refine gen_plain rfl ?_
          simp only [e5]
          go_simp
          have hg := (Below.refl w1.heap.size w1).alloc (Nat.le_refl _) (Obj.cells #[.int .i64 n.a, .int .i64 n.b, .int .i64 n.c, .int .i64 n.d] 52)
          exact gr_val (HI.out _ _ _ ⟨below_grows q0 (Nat.le_refl _) hg, kn_free q1 rfl, (fun h h0 => (q3 h h0).grows hg), (fun _ _ => ⟨_, rfl, qs_lit w1 n _⟩), (fun h _ => by rw [show L 7 = true from h] at n7; cases n7), (fun h => by rw [show L 12 = true from h] at n12; cases n12), (fun h => by rw [show L 7 = true from h] at n7; cases n7), (fun h => by rw [show L 12 = true from h] at n12; cases n12)⟩)
        · intro vs
          simp only [Act.put, List.setIfInBounds_toArray, List.set_cons_succ, List.set_cons_zero]
          rfl
        refine gent_cons (A' := ?_) (fun vs L w1 hL hw1 => ?_) ?_ ?_
        rotate_left 1
        · obtain ⟨q0, q1, q3, q5, q6, qa, h6, ha⟩ := HO.out _ _ _ hw1
          have n7 : L 7 = false := hL.1
          have n12 : L 12 = false := by
            cases h : L 12
            · rfl
            · rw [ha h] at n7; cases n7
          have l4 : L 4 = true := hL.need 4 (by kernel_rfl)
          have l6 : L 6 = true := hL.need 6 (by kernel_rfl)
          have o3 := q3 l4 n7
          obtain ⟨gb, e5, s5⟩ := q5 l6 n7
          refine gen_plain rfl ?_
          refine gr_append_link (.tmp 58) (.tmp 60) rfl (m := [n]) rfl rfl o3 e5 s5 (by simp only [List.length_take, List.length_cons, List.length_nil]; omega) q0.size ?_
          intro v3 w3 o6 g3
          have hg := o3.below q0 g3 q0.size
          exact HI.out _ _ _ ⟨hg, kn_free q1 rfl, (fun _ h => by cases h), (fun _ h => by cases h), fun _ _ => o6, (fun h => by rw [show L 12 = true from h] at n12; cases n12), fun _ => ⟨l4, l6⟩, (fun h => by rw [show L 12 = true from h] at n12; cases n12)⟩
        · intro vs
          simp only [Act.put, List.setIfInBounds_toArray, List.set_cons_succ, List.set_cons_zero]
          rfl
        refine gent_cons (A' := ?_) (fun vs L w1 hL hw1 => ?_) ?_ ?_
        rotate_left 1
        · obtain ⟨q0, q1, q3, q5, q6, qa, h6, ha⟩ := HO.out _ _ _ hw1
          refine gen_plain rfl ?_
          go_simp
          exact gr_val (HI.out _ _ _ ⟨q0, kn_known q1 rfl, q3, q5, q6, qa, h6, ha⟩)
        · intro vs
          simp only [Act.put, List.setIfInBounds_toArray, List.set_cons_succ, List.set_cons_zero]
          rfl
        refine gent_cons (A' := ?_) (fun vs L w1 hL hw1 => ?_) ?_ ?_
        rotate_left 1
        · obtain ⟨q0, q1, q3, q5, q6, qa, h6, ha⟩ := HO.out _ _ _ hw1
          have l8 : L 8 = true := hL.need 8 (by kernel_rfl)
          have e8 := q1 8 _ rfl l8
          have x := (k1.grows q0).cell 1
          refine gen_plain rfl ?_
          simp only [e8]
          go_simp
          exact gr_val (HI.out _ _ _ ⟨q0, kn_known q1 rfl, q3, q5, q6, qa, h6, ha⟩)
        · intro vs
          simp only [Act.put, List.setIfInBounds_toArray, List.set_cons_succ, List.set_cons_zero]
          rfl
        refine gent_cons (A' := ?_) (fun vs L w1 hL hw1 => ?_) ?_ ?_
        rotate_left 1
        · obtain ⟨q0, q1, q3, q5, q6, qa, h6, ha⟩ := HO.out _ _ _ hw1
          refine gen_plain rfl ?_
          go_simp
          exact gr_val (HI.out _ _ _ ⟨q0, kn_known q1 rfl, q3, q5, q6, qa, h6, ha⟩)
        · intro vs
          simp only [Act.put, List.setIfInBounds_toArray, List.set_cons_succ, List.set_cons_zero]
          rfl
        refine gent_cons (A' := ?_) (fun vs L w1 hL hw1 => ?_) ?_ ?_
        rotate_left 1
        · obtain ⟨q0, q1, q3, q5, q6, qa, h6, ha⟩ := HO.out _ _ _ hw1
          have l9 : L 9 = true := hL.need 9 (by kernel_rfl)
          have e9 := q1 9 _ rfl l9
          have l10 : L 10 = true := hL.need 10 (by kernel_rfl)
          have e10 := q1 10 _ rfl l10
          refine gen_plain rfl ?_
          simp only [e9, e10]
          go_simp
          exact gr_val (HI.out _ _ _ ⟨q0, kn_known q1 rfl, q3, q5, q6, qa, h6, ha⟩)
        · intro vs
          simp only [Act.put, List.setIfInBounds_toArray, List.set_cons_succ, List.set_cons_zero]
          rfl
        refine gent_cons (A' := ?_) (fun vs L w1 hL hw1 => ?_) ?_ ?_
        rotate_left 1
        · obtain ⟨q0, q1, q3, q5, q6, qa, h6, ha⟩ := HO.out _ _ _ hw1
          have n12 : L 12 = false := hL.1
          have l7 : L 7 = true := hL.need 7 (by kernel_rfl)
          have o6 := q6 l7 n12
          have l11 : L 11 = true := hL.need 11 (by kernel_rfl)
          have e11 := q1 11 _ rfl l11
          refine gen_plain rfl ?_
          refine gr_append_link (.tmp 61) (.tmp 65) rfl (m := ls.drop m) (by simp) rfl o6 e11 (qs_drop (hQ.grows q0) hmd hc) (by simp only [List.length_append, List.length_take, List.length_drop, List.length_cons, List.length_nil]; omega) q0.size ?_
          intro v3 w3 o7 g3
          have hg := o6.below q0 g3 q0.size
          exact HI.out _ _ _ ⟨hg, kn_free q1 rfl, (fun h h0 => by rw [show L 7 = false from h0] at l7; cases l7), (fun h h0 => by rw [show L 7 = false from h0] at l7; cases l7), (fun _ h => by cases h), fun _ => o7, h6, fun _ => l7⟩
        · intro vs
          simp only [Act.put, List.setIfInBounds_toArray, List.set_cons_succ, List.set_cons_zero]
          rfl
        refine gent_nil ?_
        intro vs L W2 hall hS
        obtain ⟨hq, -, -, -, -, qa, -, -⟩ := HO.out _ _ _ hS
        have hown2 := qa (hall 12 (by omega))
        clear hall hS HI HO qa
        have hown3 := hown2.mono hB.size
        replace hB := below_grows hB (Nat.le_refl _) hq
        replace k1 := k1.grows hq
        replace k4 := k4.grows hq
        clear hown2 hq k3 hQ
        generalize vs 12 = v12 at *
        have x1 := k1.cell
        go_upto_region 15 with fail
        refine wp_region_lit ?_
        iterate 2
          refine wpList_plain rfl (fun K hK => ?_)
          go_simp
          refine hK _ _ ?_
          clear hK K
        refine wpList_append_node rfl (.const (.slice none 0 0)) (.tmp 68) rfl (l := []) (m := ns) rfl rfl (ownN_nil _ w.heap.size) rfl (h.grows hB).n (by simp only [List.length_nil]; omega) hB.size ?_
        intro v13 w13 hown13 hgr13 _
        have hq : Grows W2 w13 := (Below.refl _ _).grown hgr13 (Nat.le_refl _) (fun q hq => by cases hq)
        replace hB := below_grows hB (Nat.le_refl _) hq
        replace k4 := k4.grows hq
        replace hown3 := hown3.grows hq
        clear hq hgr13 x1 k1
        rw [List.nil_append] at hown13
        obtain ⟨A7, n7, c7, hv7, e7, hq7⟩ := OwnL.slq (l := insN ls m n) hown3
        obtain ⟨A9, n9, c9, hv9, e9, hq9⟩ := OwnN.slq hown13
        have hl9 : n9 ≤ 64 := by omega
        have hl7 : n7 ≤ 9223372036854775807 := by rw [← e7, ins_length hmd]; omega
        have hn7 := Lib.hid e7
        have hn9 := Lib.hid e9
        subst hv7
        subst hv9
        clear e7 e9
        have k8 := Blk.new w13 40 #[.slice A9 n9 c9, .slice A7 n7 c7]
        have hq := (Below.refl w13.heap.size w13).alloc (Nat.le_refl _) (Obj.cells #[.slice A9 n9 c9, .slice A7 n7 c7] 40)
        go_upto_region 16 with fail
        replace hB := below_grows hB (Nat.le_refl _) hq
        replace k4 := k4.grows hq
        replace hown3 := hown3.grows hq
        replace hown13 := hown13.grows hq
        replace hq7 := hq7.grows hq
        replace hq9 := hq9.grows hq
        clear hq
        generalize World.alloc w13 _ = w9 at *
        generalize w13.heap.size = G8 at *
        obtain ⟨mm, hmm⟩ : ∃ mm, (orderL ns (insN ls m n)).length = mm := ⟨_, rfl⟩
        have HMM := Lib.hid hmm
        clear hmm
        by_cases hlo : mm < n9
        · skip
          obtain ⟨S, HI, HO⟩ : ∃ S : Ran → (Nat → Value) → World → Prop, Hid (∀ L vs w', (Grows w9 w' ∧ KnS [some (.agg #[.slice A9 n9 c9, .slice A7 n7 c7]), none, some (.int .i64 (mm : Int)), some (.pointer (some ⟨G8, 0, none⟩)), some (.slice A9 n9 c9), some (.int .i64 (n9 : Int)), some (.bool true)] L vs ∧ DsS [none, some (gLen mm), none, none, none, none, none] L vs w') → S L vs w') ∧ Hid (∀ L vs w', S L vs w' → (Grows w9 w' ∧ KnS [some (.agg #[.slice A9 n9 c9, .slice A7 n7 c7]), none, some (.int .i64 (mm : Int)), some (.pointer (some ⟨G8, 0, none⟩)), some (.slice A9 n9 c9), some (.int .i64 (n9 : Int)), some (.bool true)] L vs ∧ DsS [none, some (gLen mm), none, none, none, none, none] L vs w')) := ⟨fun L vs w' => Grows w9 w' ∧ KnS [some (.agg #[.slice A9 n9 c9, .slice A7 n7 c7]), none, some (.int .i64 (mm : Int)), some (.pointer (some ⟨G8, 0, none⟩)), some (.slice A9 n9 c9), some (.int .i64 (n9 : Int)), some (.bool true)] L vs ∧ DsS [none, some (gLen mm), none, none, none, none, none] L vs w', fun _ _ _ h => h, fun _ _ _ h => h⟩
          refine wp_region_genW S 81 (by kernel_rfl) (by kernel_rfl) rfl ?_ ?_
          · exact HI.out _ _ _ ⟨Grows.drew' _, kn_none _ _, ds_none _ _ _⟩
          refine gen_cons (A' := ?_) (fun vs L w1 hL hw1 => ?_) ?_ ?_
          rotate_left 1
          · obtain ⟨q0, q1, q2⟩ := HO.out _ _ _ hw1
            refine gen_plain rfl ?_
            have x := (k8.grows q0).cell 
            go_simp
            exact gr_val (HI.out _ _ _ ⟨q0, kn_known q1 rfl, ds_free q2 rfl⟩)
          · intro vs
            simp only [Act.put, List.setIfInBounds_toArray, List.set_cons_succ, List.set_cons_zero]
            rfl
          refine gen_cons (A' := ?_) (fun vs L w1 hL hw1 => ?_) ?_ ?_
          rotate_left 1
          · obtain ⟨q0, q1, q2⟩ := HO.out _ _ _ hw1
            refine gen_plain rfl ?_
            have l0 : L 0 = true := hL.need 0 (by kernel_rfl)
            have e0 := q1 0 _ rfl l0
            simp only [e0]
            go_simp
            refine gr_call ?_
            refine (order_is A9 A7 c9 c7 n9 n7 mm ns (insN ls m n) w1 (hq9.grows q0) hn9.out (hq7.grows q0) hn7.out (by omega) (by omega) (valid_ids HV.out) HMM.out).mono ?_
            rintro e w2 ⟨⟨v, rfl, hv⟩, hg⟩
            exact ⟨_, rfl, HI.out _ _ _ ⟨below_grows q0 (Nat.le_refl _) hg, kn_free q1 rfl, ds_put (q2.grows hg) rfl (hv)⟩⟩
          · intro vs
            simp only [Act.put, List.setIfInBounds_toArray, List.set_cons_succ, List.set_cons_zero]
            rfl
          refine gen_cons (A' := ?_) (fun vs L w1 hL hw1 => ?_) ?_ ?_
          rotate_left 1
          · obtain ⟨q0, q1, q2⟩ := HO.out _ _ _ hw1
            refine gen_plain rfl ?_
            have l1 : L 1 = true := hL.need 1 (by kernel_rfl)
            obtain ⟨A1, c1, e1⟩ := q2 1 _ rfl l1
            simp only [e1]
            go_simp
            exact gr_val (HI.out _ _ _ ⟨q0, kn_known q1 rfl, ds_free q2 rfl⟩)
          · intro vs
            simp only [Act.put, List.setIfInBounds_toArray, List.set_cons_succ, List.set_cons_zero]
            rfl
          refine gen_cons (A' := ?_) (fun vs L w1 hL hw1 => ?_) ?_ ?_
          rotate_left 1
          · obtain ⟨q0, q1, q2⟩ := HO.out _ _ _ hw1
            refine gen_plain rfl ?_
            go_simp
            exact gr_val (HI.out _ _ _ ⟨q0, kn_known q1 rfl, ds_free q2 rfl⟩)
          · intro vs
            simp only [Act.put, List.setIfInBounds_toArray, List.set_cons_succ, List.set_cons_zero]
            rfl
          refine gen_cons (A' := ?_) (fun vs L w1 hL hw1 => ?_) ?_ ?_
          rotate_left 1
          · obtain ⟨q0, q1, q2⟩ := HO.out _ _ _ hw1
            refine gen_plain rfl ?_
            have l3 : L 3 = true := hL.need 3 (by kernel_rfl)
            have e3 := q1 3 _ rfl l3
            have x := (k8.grows q0).cell 0
            simp only [e3]
            go_simp
            exact gr_val (HI.out _ _ _ ⟨q0, kn_known q1 rfl, ds_free q2 rfl⟩)
          · intro vs
            simp only [Act.put, List.setIfInBounds_toArray, List.set_cons_succ, List.set_cons_zero]
            rfl
          refine gen_cons (A' := ?_) (fun vs L w1 hL hw1 => ?_) ?_ ?_
          rotate_left 1
          · obtain ⟨q0, q1, q2⟩ := HO.out _ _ _ hw1
            refine gen_plain rfl ?_
            have l4 : L 4 = true := hL.need 4 (by kernel_rfl)
            have e4 := q1 4 _ rfl l4
            simp only [e4]
            go_simp
            exact gr_val (HI.out _ _ _ ⟨q0, kn_known q1 rfl, ds_free q2 rfl⟩)
          · intro vs
            simp only [Act.put, List.setIfInBounds_toArray, List.set_cons_succ, List.set_cons_zero]
            rfl
          refine gen_cons (A' := ?_) (fun vs L w1 hL hw1 => ?_) ?_ ?_
          rotate_left 1
          · obtain ⟨q0, q1, q2⟩ := HO.out _ _ _ hw1
            refine gen_plain rfl ?_
            have l2 : L 2 = true := hL.need 2 (by kernel_rfl)
            have e2 := q1 2 _ rfl l2
            have l5 : L 5 = true := hL.need 5 (by kernel_rfl)
            have e5 := q1 5 _ rfl l5
            simp only [e2, e5]
            go_simp
            exact gr_val (HI.out _ _ _ ⟨q0, kn_known q1 rfl, ds_free q2 rfl⟩)
          · intro vs
            simp only [Act.put, List.setIfInBounds_toArray, List.set_cons_succ, List.set_cons_zero]
            rfl
          refine gen_nil ?_
          intro vs L W6 hall hS
          obtain ⟨hq, q1, q2⟩ := HO.out _ _ _ hS
          have eX6 := q1 6 _ rfl (hall 6 (by simp))
          clear hall hS HI HO q1 q2
          simp only [eX6]
          clear eX6
          simp only [Nat.zero_add, Nat.reduceAdd]
          replace hB := below_grows hB (Nat.le_refl _) hq
          replace k4 := k4.grows hq
          replace k8 := k8.grows hq
          replace hown3 := hown3.grows hq
          replace hown13 := hown13.grows hq
          clear hq hq7 hq9
          generalize W6 = w10 at *
          have x4 := k4.cell
          have f4 := k4.frozen
          go_wp2
          have k5 := (k4.set_ 0 (.slice none 0 0)).set_ 1 (.slice none 0 0)
          have hB5 := (hB.setCell (p := ⟨w.heap.size + 1 + 1, 0, none⟩) (by simp; omega) (.slice none 0 0)).setCell (p := ⟨w.heap.size + 1 + 1, 1, none⟩) (by simp; omega) (.slice none 0 0)
          clear x4 f4
          generalize World.setCell (World.setCell w10 _ _) _ _ = w8 at *
          have x4 := k5.cell
          refine bodyPost_ret (v := .tuple #[.agg #[.slice none 0 0, .slice none 0 0], .int .i64 12]) (by simp [results, Try.results27, go_sem, x4]) rfl ⟨grRes_no (by decide), hB5⟩
        · skip
          obtain ⟨S, HI, HO⟩ : ∃ S : Ran → (Nat → Value) → World → Prop, Hid (∀ L vs w', (Grows w9 w' ∧ KnS [some (.agg #[.slice A9 n9 c9, .slice A7 n7 c7]), none, some (.int .i64 (mm : Int)), some (.pointer (some ⟨G8, 0, none⟩)), some (.slice A9 n9 c9), some (.int .i64 (n9 : Int)), some (.bool false)] L vs ∧ DsS [none, some (gLen mm), none, none, none, none, none] L vs w') → S L vs w') ∧ Hid (∀ L vs w', S L vs w' → (Grows w9 w' ∧ KnS [some (.agg #[.slice A9 n9 c9, .slice A7 n7 c7]), none, some (.int .i64 (mm : Int)), some (.pointer (some ⟨G8, 0, none⟩)), some (.slice A9 n9 c9), some (.int .i64 (n9 : Int)), some (.bool false)] L vs ∧ DsS [none, some (gLen mm), none, none, none, none, none] L vs w')) := ⟨fun L vs w' => Grows w9 w' ∧ KnS [some (.agg #[.slice A9 n9 c9, .slice A7 n7 c7]), none, some (.int .i64 (mm : Int)), some (.pointer (some ⟨G8, 0, none⟩)), some (.slice A9 n9 c9), some (.int .i64 (n9 : Int)), some (.bool false)] L vs ∧ DsS [none, some (gLen mm), none, none, none, none, none] L vs w', fun _ _ _ h => h, fun _ _ _ h => h⟩
          refine wp_region_genW S 81 (by kernel_rfl) (by kernel_rfl) rfl ?_ ?_
          · exact HI.out _ _ _ ⟨Grows.drew' _, kn_none _ _, ds_none _ _ _⟩
          refine gen_cons (A' := ?_) (fun vs L w1 hL hw1 => ?_) ?_ ?_
          rotate_left 1
          · obtain ⟨q0, q1, q2⟩ := HO.out _ _ _ hw1
            refine gen_plain rfl ?_
            have x := (k8.grows q0).cell 
            go_simp
            exact gr_val (HI.out _ _ _ ⟨q0, kn_known q1 rfl, ds_free q2 rfl⟩)
          · intro vs
            simp only [Act.put, List.setIfInBounds_toArray, List.set_cons_succ, List.set_cons_zero]
            rfl
          refine gen_cons (A' := ?_) (fun vs L w1 hL hw1 => ?_) ?_ ?_
          rotate_left 1
          · obtain ⟨q0, q1, q2⟩ := HO.out _ _ _ hw1
            refine gen_plain rfl ?_
            have l0 : L 0 = true := hL.need 0 (by kernel_rfl)
            have e0 := q1 0 _ rfl l0
            simp only [e0]
            go_simp
            refine gr_call ?_
            refine (order_is A9 A7 c9 c7 n9 n7 mm ns (insN ls m n) w1 (hq9.grows q0) hn9.out (hq7.grows q0) hn7.out (by omega) (by omega) (valid_ids HV.out) HMM.out).mono ?_
            rintro e w2 ⟨⟨v, rfl, hv⟩, hg⟩
            exact ⟨_, rfl, HI.out _ _ _ ⟨below_grows q0 (Nat.le_refl _) hg, kn_free q1 rfl, ds_put (q2.grows hg) rfl (hv)⟩⟩
          · intro vs
            simp only [Act.put, List.setIfInBounds_toArray, List.set_cons_succ, List.set_cons_zero]
            rfl
          refine gen_cons (A' := ?_) (fun vs L w1 hL hw1 => ?_) ?_ ?_
          rotate_left 1
          · obtain ⟨q0, q1, q2⟩ := HO.out _ _ _ hw1
            refine gen_plain rfl ?_
            have l1 : L 1 = true := hL.need 1 (by kernel_rfl)
            obtain ⟨A1, c1, e1⟩ := q2 1 _ rfl l1
            simp only [e1]
            go_simp
            exact gr_val (HI.out _ _ _ ⟨q0, kn_known q1 rfl, ds_free q2 rfl⟩)
          · intro vs
            simp only [Act.put, List.setIfInBounds_toArray, List.set_cons_succ, List.set_cons_zero]
            rfl
          refine gen_cons (A' := ?_) (fun vs L w1 hL hw1 => ?_) ?_ ?_
          rotate_left 1
          · obtain ⟨q0, q1, q2⟩ := HO.out _ _ _ hw1
            refine gen_plain rfl ?_
            go_simp
            exact gr_val (HI.out _ _ _ ⟨q0, kn_known q1 rfl, ds_free q2 rfl⟩)
          · intro vs
            simp only [Act.put, List.setIfInBounds_toArray, List.set_cons_succ, List.set_cons_zero]
            rfl
          refine gen_cons (A' := ?_) (fun vs L w1 hL hw1 => ?_) ?_ ?_
          rotate_left 1
          · obtain ⟨q0, q1, q2⟩ := HO.out _ _ _ hw1
            refine gen_plain rfl ?_
            have l3 : L 3 = true := hL.need 3 (by kernel_rfl)
            have e3 := q1 3 _ rfl l3
            have x := (k8.grows q0).cell 0
            simp only [e3]
            go_simp
            exact gr_val (HI.out _ _ _ ⟨q0, kn_known q1 rfl, ds_free q2 rfl⟩)
          · intro vs
            simp only [Act.put, List.setIfInBounds_toArray, List.set_cons_succ, List.set_cons_zero]
            rfl
          refine gen_cons (A' := ?_) (fun vs L w1 hL hw1 => ?_) ?_ ?_
          rotate_left 1
          · obtain ⟨q0, q1, q2⟩ := HO.out _ _ _ hw1
            refine gen_plain rfl ?_
            have l4 : L 4 = true := hL.need 4 (by kernel_rfl)
            have e4 := q1 4 _ rfl l4
            simp only [e4]
            go_simp
            exact gr_val (HI.out _ _ _ ⟨q0, kn_known q1 rfl, ds_free q2 rfl⟩)
          · intro vs
            simp only [Act.put, List.setIfInBounds_toArray, List.set_cons_succ, List.set_cons_zero]
            rfl
          refine gen_cons (A' := ?_) (fun vs L w1 hL hw1 => ?_) ?_ ?_
          rotate_left 1
          · obtain ⟨q0, q1, q2⟩ := HO.out _ _ _ hw1
            refine gen_plain rfl ?_
            have l2 : L 2 = true := hL.need 2 (by kernel_rfl)
            have e2 := q1 2 _ rfl l2
            have l5 : L 5 = true := hL.need 5 (by kernel_rfl)
            have e5 := q1 5 _ rfl l5
            simp only [e2, e5]
            go_simp
            exact gr_val (HI.out _ _ _ ⟨q0, kn_known q1 rfl, ds_free q2 rfl⟩)
          · intro vs
            simp only [Act.put, List.setIfInBounds_toArray, List.set_cons_succ, List.set_cons_zero]
            rfl
          refine gen_nil ?_
          intro vs L W6 hall hS
          obtain ⟨hq, q1, q2⟩ := HO.out _ _ _ hS
          have eX6 := q1 6 _ rfl (hall 6 (by simp))
          clear hall hS HI HO q1 q2
          simp only [eX6]
          clear eX6
          simp only [Nat.zero_add, Nat.reduceAdd]
          replace hB := below_grows hB (Nat.le_refl _) hq
          replace k4 := k4.grows hq
          replace k8 := k8.grows hq
          replace hown3 := hown3.grows hq
          replace hown13 := hown13.grows hq
          clear hq hq7 hq9
          generalize W6 = w10 at *
          have x8 := k8.cell
          have x4 := k4.cell
          have f4 := k4.frozen
          go_wp2
          have k5 := (k4.set_ 0 (.slice A9 n9 c9)).set_ 1 (.slice A7 n7 c7)
          have hB5 := (hB.setCell (p := ⟨w.heap.size + 1 + 1, 0, none⟩) (by simp; omega) (.slice A9 n9 c9)).setCell (p := ⟨w.heap.size + 1 + 1, 1, none⟩) (by simp; omega) (.slice A7 n7 c7)
          have hn1 := OwnN.put hown13 k4 0 (.slice A9 n9 c9)
          have hn2 := OwnN.put hn1 (k4.set_ 0 (.slice A9 n9 c9)) 1 (.slice A7 n7 c7)
          have hl1 := OwnL.put hown3 k4 0 (.slice A9 n9 c9)
          have hl2 := OwnL.put hl1 (k4.set_ 0 (.slice A9 n9 c9)) 1 (.slice A7 n7 c7)
          clear x4 f4 x8 hn1 hl1 hown3 hown13 k4 hB
          generalize World.setCell (World.setCell w10 _ _) _ _ = w8 at *
          have x4 := k5.cell
          refine bodyPost_ret (v := .tuple #[.agg #[.slice A9 n9 c9, .slice A7 n7 c7], .int .i64 0]) (by simp [results, Try.results27, go_sem, x4]) rfl ⟨grRes_yes hn2 hl2 ⟨valid_connect HV.out HPO.out HHS.out (by omega) HCR.out HC.out (by have h1 := HMM.out; have h2 := hn9.out; omega), rfl, Nat.le_of_eq (ins_length hmd)⟩, hB5⟩

      · have HLS := Lib.hid hls
        clear hls
        have HA2 : Hid (∀ x ∈ ls.take (m + 1), lessL x n = true) := Lib.hid (by
          rw [take_snoc HX.out]
          intro y hy
          rcases List.mem_append.1 hy with hy | hy
          · exact HA.out y hy
          · simp only [List.mem_singleton] at hy
            subst hy
            exact HLS.out)
        go_upto_region 12 with fail
        obtain ⟨S, HI, HO⟩ : ∃ S : Ran → (Nat → Value) → World → Prop, Hid (∀ L vs w', (Grows wr w' ∧ KnS [some (.int .i64 (m : Int)), some (.pointer (some ⟨w.heap.size, 1, none⟩)), some (.slice (some ad) ls.length c2), some (.int .i64 (ls.length : Int)), some (.bool true), some (.bool true), some (.pointer (some ⟨w.heap.size, 1, none⟩)), some (.slice (some ad) ls.length c2), some (.int .i64 (m : Int)), some (.pointer (some (ad.add (m * 4)))), some (.agg #[.int .i64 x.a, .int .i64 x.b, .int .i64 x.c, .int .i64 x.d]), some (.agg #[.int .i64 n.a, .int .i64 n.b, .int .i64 n.c, .int .i64 n.d]), some (.bool true), some (.bool true)] L vs) → S L vs w') ∧ Hid (∀ L vs w', S L vs w' → (Grows wr w' ∧ KnS [some (.int .i64 (m : Int)), some (.pointer (some ⟨w.heap.size, 1, none⟩)), some (.slice (some ad) ls.length c2), some (.int .i64 (ls.length : Int)), some (.bool true), some (.bool true), some (.pointer (some ⟨w.heap.size, 1, none⟩)), some (.slice (some ad) ls.length c2), some (.int .i64 (m : Int)), some (.pointer (some (ad.add (m * 4)))), some (.agg #[.int .i64 x.a, .int .i64 x.b, .int .i64 x.c, .int .i64 x.d]), some (.agg #[.int .i64 n.a, .int .i64 n.b, .int .i64 n.c, .int .i64 n.d]), some (.bool true), some (.bool true)] L vs)) := ⟨fun L vs w' => Grows wr w' ∧ KnS [some (.int .i64 (m : Int)), some (.pointer (some ⟨w.heap.size, 1, none⟩)), some (.slice (some ad) ls.length c2), some (.int .i64 (ls.length : Int)), some (.bool true), some (.bool true), some (.pointer (some ⟨w.heap.size, 1, none⟩)), some (.slice (some ad) ls.length c2), some (.int .i64 (m : Int)), some (.pointer (some (ad.add (m * 4)))), some (.agg #[.int .i64 x.a, .int .i64 x.b, .int .i64 x.c, .int .i64 x.d]), some (.agg #[.int .i64 n.a, .int .i64 n.b, .int .i64 n.c, .int .i64 n.d]), some (.bool true), some (.bool true)] L vs, fun _ _ _ h => h, fun _ _ _ h => h⟩
        refine wp_region_genW S 81 (by kernel_rfl) (by kernel_rfl) rfl ?_ ?_
        · exact HI.out _ _ _ ⟨Grows.drew' _, kn_none _ _⟩
        refine gen_cons (A' := ?_) (fun vs L w1 hL hw1 => ?_) ?_ ?_
        rotate_left 1
        · obtain ⟨q0, q1⟩ := HO.out _ _ _ hw1
          refine gen_plain rfl ?_
          go_simp
          exact gr_val (HI.out _ _ _ ⟨q0, kn_known q1 rfl⟩)
        · intro vs
          simp only [Act.put, List.setIfInBounds_toArray, List.set_cons_succ, List.set_cons_zero]
          rfl
        refine gen_cons (A' := ?_) (fun vs L w1 hL hw1 => ?_) ?_ ?_
        rotate_left 1
        · obtain ⟨q0, q1⟩ := HO.out _ _ _ hw1
          refine gen_plain rfl ?_
          go_simp
          exact gr_val (HI.out _ _ _ ⟨q0, kn_known q1 rfl⟩)
        · intro vs
          simp only [Act.put, List.setIfInBounds_toArray, List.set_cons_succ, List.set_cons_zero]
          rfl
        refine gen_cons (A' := ?_) (fun vs L w1 hL hw1 => ?_) ?_ ?_
        rotate_left 1
        · obtain ⟨q0, q1⟩ := HO.out _ _ _ hw1
          refine gen_plain rfl ?_
          have l1 : L 1 = true := hL.need 1 (by kernel_rfl)
          have e1 := q1 1 _ rfl l1
          have x := (k1.grows q0).cell 1
          simp only [e1]
          go_simp
          exact gr_val (HI.out _ _ _ ⟨q0, kn_known q1 rfl⟩)
        · intro vs
          simp only [Act.put, List.setIfInBounds_toArray, List.set_cons_succ, List.set_cons_zero]
          rfl
        refine gen_cons (A' := ?_) (fun vs L w1 hL hw1 => ?_) ?_ ?_
        rotate_left 1
        · obtain ⟨q0, q1⟩ := HO.out _ _ _ hw1
          refine gen_plain rfl ?_
          have l2 : L 2 = true := hL.need 2 (by kernel_rfl)
          have e2 := q1 2 _ rfl l2
          simp only [e2]
          go_simp
          exact gr_val (HI.out _ _ _ ⟨q0, kn_known q1 rfl⟩)
        · intro vs
          simp only [Act.put, List.setIfInBounds_toArray, List.set_cons_succ, List.set_cons_zero]
          rfl
        refine gen_cons (A' := ?_) (fun vs L w1 hL hw1 => ?_) ?_ ?_
        rotate_left 1
        · obtain ⟨q0, q1⟩ := HO.out _ _ _ hw1
          refine gen_plain rfl ?_
          have l0 : L 0 = true := hL.need 0 (by kernel_rfl)
          have e0 := q1 0 _ rfl l0
          have l3 : L 3 = true := hL.need 3 (by kernel_rfl)
          have e3 := q1 3 _ rfl l3
          simp only [e0, e3]
          go_simp
          exact gr_val (HI.out _ _ _ ⟨q0, kn_known q1 rfl⟩)
        · intro vs
          simp only [Act.put, List.setIfInBounds_toArray, List.set_cons_succ, List.set_cons_zero]
          rfl
        refine gen_cons (A' := ?_) (fun vs L w1 hL hw1 => ?_) ?_ ?_
        rotate_left 1
        · obtain ⟨q0, q1⟩ := HO.out _ _ _ hw1
          refine gen_plain rfl ?_
          have l4 : L 4 = true := hL.need 4 (by kernel_rfl)
          have e4 := q1 4 _ rfl l4
          simp only [e4]
          go_simp
          exact gr_val (HI.out _ _ _ ⟨q0, kn_known q1 rfl⟩)
        · intro vs
          simp only [Act.put, List.setIfInBounds_toArray, List.set_cons_succ, List.set_cons_zero]
          rfl
        refine gen_cons (A' := ?_) (fun vs L w1 hL hw1 => ?_) ?_ ?_
        rotate_left 1
        · obtain ⟨q0, q1⟩ := HO.out _ _ _ hw1
          have l5 : L 5 = true := hL.need 5 (by kernel_rfl)
          have e5 := q1 5 _ rfl l5
          refine gen_yes ?_ ?_
          · simp only [e5]
            rfl
          go_simp
          exact gr_val (HI.out _ _ _ ⟨q0, kn_known q1 rfl⟩)
        · intro vs
          simp only [Act.put, List.setIfInBounds_toArray, List.set_cons_succ, List.set_cons_zero]
          rfl
        refine gen_cons (A' := ?_) (fun vs L w1 hL hw1 => ?_) ?_ ?_
        rotate_left 1
        · obtain ⟨q0, q1⟩ := HO.out _ _ _ hw1
          have l5 : L 5 = true := hL.need 5 (by kernel_rfl)
          have e5 := q1 5 _ rfl l5
          refine gen_yes ?_ ?_
          · simp only [e5]
            rfl
          have l6 : L 6 = true := hL.need 6 (by kernel_rfl)
          have e6 := q1 6 _ rfl l6
          have x := (k1.grows q0).cell 1
          simp only [e6]
          go_simp
          exact gr_val (HI.out _ _ _ ⟨q0, kn_known q1 rfl⟩)
        · intro vs
          simp only [Act.put, List.setIfInBounds_toArray, List.set_cons_succ, List.set_cons_zero]
          rfl
        refine gen_cons (A' := ?_) (fun vs L w1 hL hw1 => ?_) ?_ ?_
        rotate_left 1
        · obtain ⟨q0, q1⟩ := HO.out _ _ _ hw1
          have l5 : L 5 = true := hL.need 5 (by kernel_rfl)
          have e5 := q1 5 _ rfl l5
          refine gen_yes ?_ ?_
          · simp only [e5]
            rfl
          go_simp
          exact gr_val (HI.out _ _ _ ⟨q0, kn_known q1 rfl⟩)
        · intro vs
          simp only [Act.put, List.setIfInBounds_toArray, List.set_cons_succ, List.set_cons_zero]
          rfl
        refine gen_cons (A' := ?_) (fun vs L w1 hL hw1 => ?_) ?_ ?_
        rotate_left 1
        · obtain ⟨q0, q1⟩ := HO.out _ _ _ hw1
          have l5 : L 5 = true := hL.need 5 (by kernel_rfl)
          have e5 := q1 5 _ rfl l5
          refine gen_yes ?_ ?_
          · simp only [e5]
            rfl
          have l7 : L 7 = true := hL.need 7 (by kernel_rfl)
          have e7 := q1 7 _ rfl l7
          have l8 : L 8 = true := hL.need 8 (by kernel_rfl)
          have e8 := q1 8 _ rfl l8
          simp only [e7, e8]
          go_simp
          exact gr_val (HI.out _ _ _ ⟨q0, kn_known q1 rfl⟩)
        · intro vs
          simp only [Act.put, List.setIfInBounds_toArray, List.set_cons_succ, List.set_cons_zero]
          rfl
        refine gen_cons (A' := ?_) (fun vs L w1 hL hw1 => ?_) ?_ ?_
        rotate_left 1
        · obtain ⟨q0, q1⟩ := HO.out _ _ _ hw1
          have l5 : L 5 = true := hL.need 5 (by kernel_rfl)
          have e5 := q1 5 _ rfl l5
          refine gen_yes ?_ ?_
          · simp only [e5]
            rfl
          have l9 : L 9 = true := hL.need 9 (by kernel_rfl)
          have e9 := q1 9 _ rfl l9
          simp only [e9]
          obtain ⟨y0, y1, y2, y3⟩ := hp _ (below_grows hB (Nat.le_refl _) q0)
          go_simp
          exact gr_val (HI.out _ _ _ ⟨q0, kn_known q1 rfl⟩)
        · intro vs
          simp only [Act.put, List.setIfInBounds_toArray, List.set_cons_succ, List.set_cons_zero]
          rfl
        refine gen_cons (A' := ?_) (fun vs L w1 hL hw1 => ?_) ?_ ?_
        rotate_left 1
        · obtain ⟨q0, q1⟩ := HO.out _ _ _ hw1
          have l5 : L 5 = true := hL.need 5 (by kernel_rfl)
          have e5 := q1 5 _ rfl l5
          refine gen_yes ?_ ?_
          · simp only [e5]
            rfl
          have x := (k3.grows q0).cell 
          go_simp
          exact gr_val (HI.out _ _ _ ⟨q0, kn_known q1 rfl⟩)
        · intro vs
          simp only [Act.put, List.setIfInBounds_toArray, List.set_cons_succ, List.set_cons_zero]
          rfl
        refine gen_cons (A' := ?_) (fun vs L w1 hL hw1 => ?_) ?_ ?_
        rotate_left 1
        · obtain ⟨q0, q1⟩ := HO.out _ _ _ hw1
          have l5 : L 5 = true := hL.need 5 (by kernel_rfl)
          have e5 := q1 5 _ rfl l5
          refine gen_yes ?_ ?_
          · simp only [e5]
            rfl
          have l10 : L 10 = true := hL.need 10 (by kernel_rfl)
          have e10 := q1 10 _ rfl l10
          have l11 : L 11 = true := hL.need 11 (by kernel_rfl)
          have e11 := q1 11 _ rfl l11
          simp only [e10, e11]
          go_simp
          refine gr_call ?_
          refine (less_is x n true w1 HLS.out).mono ?_
          rintro e w2 ⟨rfl, hg⟩
          exact ⟨_, rfl, HI.out _ _ _ ⟨below_grows q0 (Nat.le_refl _) hg, kn_known q1 rfl⟩⟩
        · intro vs
          simp only [Act.put, List.setIfInBounds_toArray, List.set_cons_succ, List.set_cons_zero]
          rfl
        refine gen_cons (A' := ?_) (fun vs L w1 hL hw1 => ?_) ?_ ?_
        rotate_left 1
        · obtain ⟨q0, q1⟩ := HO.out _ _ _ hw1
          refine gen_plain rfl ?_
          have l5 : L 5 = true := hL.need 5 (by kernel_rfl)
          have e5 := q1 5 _ rfl l5
          have l12 : L 12 = true := hL.need 12 (by kernel_rfl)
          have e12 := q1 12 _ rfl l12
          simp only [e5, e12]
          go_simp
          exact gr_val (HI.out _ _ _ ⟨q0, kn_known q1 rfl⟩)
        · intro vs
          simp only [Act.put, List.setIfInBounds_toArray, List.set_cons_succ, List.set_cons_zero]
          rfl
        refine gen_nil ?_
        intro vs L W6 hall hS
        obtain ⟨hq, q1⟩ := HO.out _ _ _ hS
        have eX13 := q1 13 _ rfl (hall 13 (by simp))
        clear hall hS HI HO q1
        simp only [eX13]
        clear eX13
        simp only [Nat.zero_add, Nat.reduceAdd]
        replace hB := below_grows hB (Nat.le_refl _) hq
        replace k1 := k1.grows hq
        replace k3 := k3.grows hq
        replace k4 := k4.grows hq
        clear hq x1 x3
        generalize W6 = w6 at *
        go_wp2
        go_roundw
        case rel => exact ⟨m + 1, by omega, by go_num, HA2, k1, k3, k4, hB⟩
        case measure => simp [intOf]; omega
    · have HC : Hid (cutAt ls (fun x => lessL x n) m) := Lib.hid ⟨hmd, HA.out, fun y hy => by
        have := (List.getElem?_eq_some_iff.1 hy).1
        omega⟩
      have hno : decide (m < ls.length) = false := by simpa using hlt
      go_upto_region 12 with fail
      go_quiet (fail)
      generalize hY : World.drewN wr _ = w6 at *
      have hq : Grows wr w6 := hY ▸ grows_drewN wr _
      clear hY
      replace hB := below_grows hB (Nat.le_refl _) hq
      replace k1 := k1.grows hq
      replace k3 := k3.grows hq
      replace k4 := k4.grows hq
      clear hq x1 x3
      go_upto_region 14 with fail
      have hQ := (h.grows hB).l
      have hc := h.lc
      have hmc : m ≤ c2 := by omega
      obtain ⟨S, HI, HO⟩ : ∃ S : Ran → (Nat → Value) → World → Prop, Hid (∀ L vs w', (Grows w6 w' ∧ KnS [some (.pointer (some ⟨w.heap.size, 1, none⟩)), some (.slice A2 ls.length c2), some (.int .i64 (m : Int)), some (.slice A2 m c2), none, some (.agg #[.int .i64 n.a, .int .i64 n.b, .int .i64 n.c, .int .i64 n.d]), none, none, some (.pointer (some ⟨w.heap.size, 1, none⟩)), some (.slice A2 ls.length c2), some (.int .i64 (m : Int)), some (.slice (if c2 = m then A2 else A2.map (fun x => x.add (m * 4))) (ls.length - m) (c2 - m)), none] L vs ∧ (L 4 = true → L 7 = false → OwnL w' w6.heap.size (vs 4) (ls.take m)) ∧ (L 6 = true → L 7 = false → ∃ gb, vs 6 = .slice (some ⟨gb, 0, none⟩) 1 1 ∧ Qs w' (some ⟨gb, 0, none⟩) [n]) ∧ (L 7 = true → L 12 = false → OwnL w' w6.heap.size (vs 7) (ls.take m ++ [n])) ∧ (L 12 = true → OwnL w' w6.heap.size (vs 12) (ls.take m ++ [n] ++ ls.drop m)) ∧ (L 7 = true → L 4 = true ∧ L 6 = true) ∧ (L 12 = true → L 7 = true)) → S L vs w') ∧ Hid (∀ L vs w', S L vs w' → (Grows w6 w' ∧ KnS [some (.pointer (some ⟨w.heap.size, 1, none⟩)), some (.slice A2 ls.length c2), some (.int .i64 (m : Int)), some (.slice A2 m c2), none, some (.agg #[.int .i64 n.a, .int .i64 n.b, .int .i64 n.c, .int .i64 n.d]), none, none, some (.pointer (some ⟨w.heap.size, 1, none⟩)), some (.slice A2 ls.length c2), some (.int .i64 (m : Int)), some (.slice (if c2 = m then A2 else A2.map (fun x => x.add (m * 4))) (ls.length - m) (c2 - m)), none] L vs ∧ (L 4 = true → L 7 = false → OwnL w' w6.heap.size (vs 4) (ls.take m)) ∧ (L 6 = true → L 7 = false → ∃ gb, vs 6 = .slice (some ⟨gb, 0, none⟩) 1 1 ∧ Qs w' (some ⟨gb, 0, none⟩) [n]) ∧ (L 7 = true → L 12 = false → OwnL w' w6.heap.size (vs 7) (ls.take m ++ [n])) ∧ (L 12 = true → OwnL w' w6.heap.size (vs 12) (ls.take m ++ [n] ++ ls.drop m)) ∧ (L 7 = true → L 4 = true ∧ L 6 = true) ∧ (L 12 = true → L 7 = true))) := ⟨fun L vs w' => Grows w6 w' ∧ KnS [some (.pointer (some ⟨w.heap.size, 1, none⟩)), some (.slice A2 ls.length c2), some (.int .i64 (m : Int)), some (.slice A2 m c2), none, some (.agg #[.int .i64 n.a, .int .i64 n.b, .int .i64 n.c, .int .i64 n.d]), none, none, some (.pointer (some ⟨w.heap.size, 1, none⟩)), some (.slice A2 ls.length c2), some (.int .i64 (m : Int)), some (.slice (if c2 = m then A2 else A2.map (fun x => x.add (m * 4))) (ls.length - m) (c2 - m)), none] L vs ∧ (L 4 = true → L 7 = false → OwnL w' w6.heap.size (vs 4) (ls.take m)) ∧ (L 6 = true → L 7 = false → ∃ gb, vs 6 = .slice (some ⟨gb, 0, none⟩) 1 1 ∧ Qs w' (some ⟨gb, 0, none⟩) [n]) ∧ (L 7 = true → L 12 = false → OwnL w' w6.heap.size (vs 7) (ls.take m ++ [n])) ∧ (L 12 = true → OwnL w' w6.heap.size (vs 12) (ls.take m ++ [n] ++ ls.drop m)) ∧ (L 7 = true → L 4 = true ∧ L 6 = true) ∧ (L 12 = true → L 7 = true), fun _ _ _ h => h, fun _ _ _ h => h⟩
      refine wp_region_genT S 13 81 (by kernel_rfl) (by kernel_rfl) rfl ?_ ?_
      · exact HI.out _ _ _ ⟨Grows.drew' _, kn_none _ _, (fun h => by cases h), (fun h => by cases h), (fun h => by cases h), (fun h => by cases h), (fun h => by cases h), (fun h => by cases h)⟩
      simp only [List.take_succ_cons, List.take_zero, List.drop_succ_cons, List.drop_zero]
      refine gent_cons (A' := ?_) (fun vs L w1 hL hw1 => ?_) ?_ ?_
      rotate_left 1
      · obtain ⟨q0, q1, q3, q5, q6, qa, h6, ha⟩ := HO.out _ _ _ hw1
        refine gen_plain rfl ?_
        go_simp
        exact gr_val (HI.out _ _ _ ⟨q0, kn_known q1 rfl, q3, q5, q6, qa, h6, ha⟩)
      · intro vs
        simp only [Act.put, List.setIfInBounds_toArray, List.set_cons_succ, List.set_cons_zero]
        rfl
      refine gent_cons (A' := ?_) (fun vs L w1 hL hw1 => ?_) ?_ ?_
      rotate_left 1
      · obtain ⟨q0, q1, q3, q5, q6, qa, h6, ha⟩ := HO.out _ _ _ hw1
        have l0 : L 0 = true := hL.need 0 (by kernel_rfl)
        have e0 := q1 0 _ rfl l0
        have x := (k1.grows q0).cell 1
        refine gen_plain rfl ?_
        simp only [e0]
        go_simp
        exact gr_val (HI.out _ _ _ ⟨q0, kn_known q1 rfl, q3, q5, q6, qa, h6, ha⟩)
      · intro vs
        simp only [Act.put, List.setIfInBounds_toArray, List.set_cons_succ, List.set_cons_zero]
        rfl
      refine gent_cons (A' := ?_) (fun vs L w1 hL hw1 => ?_) ?_ ?_
      rotate_left 1
      · obtain ⟨q0, q1, q3, q5, q6, qa, h6, ha⟩ := HO.out _ _ _ hw1
        refine gen_plain rfl ?_
        go_simp
        exact gr_val (HI.out _ _ _ ⟨q0, kn_known q1 rfl, q3, q5, q6, qa, h6, ha⟩)
      · intro vs
        simp only [Act.put, List.setIfInBounds_toArray, List.set_cons_succ, List.set_cons_zero]
        rfl
      refine gent_cons (A' := ?_) (fun vs L w1 hL hw1 => ?_) ?_ ?_
      rotate_left 1
      · obtain ⟨q0, q1, q3, q5, q6, qa, h6, ha⟩ := HO.out _ _ _ hw1
        have l1 : L 1 = true := hL.need 1 (by kernel_rfl)
        have e1 := q1 1 _ rfl l1
        have l2 : L 2 = true := hL.need 2 (by kernel_rfl)
        have e2 := q1 2 _ rfl l2
        refine gen_plain rfl ?_
        simp only [e1, e2]
        go_simp
        exact gr_val (HI.out _ _ _ ⟨q0, kn_known q1 rfl, q3, q5, q6, qa, h6, ha⟩)
      · intro vs
        simp only [Act.put, List.setIfInBounds_toArray, List.set_cons_succ, List.set_cons_zero]
        rfl
      refine gent_cons (A' := ?_) (fun vs L w1 hL hw1 => ?_) ?_ ?_
      rotate_left 1
      · obtain ⟨q0, q1, q3, q5, q6, qa, h6, ha⟩ := HO.out _ _ _ hw1
        have n4 : L 4 = false := hL.1
        have n7 : L 7 = false := by
          cases h : L 7
          · rfl
          · rw [(h6 h).1] at n4; cases n4
        have n12 : L 12 = false := by
          cases h : L 12
          · rfl
          · rw [ha h] at n7; cases n7
        have l3 : L 3 = true := hL.need 3 (by kernel_rfl)
        have e3 := q1 3 _ rfl l3
        refine gen_plain rfl ?_
        refine gr_append_link (.const (.slice none 0 0)) (.tmp 57) rfl (l := []) (m := ls.take m) (by rw [List.length_take]; omega) rfl (ownL_nil w1 w6.heap.size) e3 (qs_take (hQ.grows q0) m hmd) (by simp only [List.length_nil, List.length_take]; omega) q0.size ?_
        intro v3 w3 o3 g3
        have hg : Grows w1 w3 := (Below.refl _ _).grown g3 (Nat.le_refl _) (fun q hq => by cases hq)
        exact HI.out _ _ _ ⟨below_grows q0 (Nat.le_refl _) hg, kn_free q1 rfl, fun _ _ => o3, (fun h h0 => by obtain ⟨gb, e, s⟩ := q5 h h0; exact ⟨gb, e, s.grows hg⟩), (fun h _ => by rw [show L 7 = true from h] at n7; cases n7), (fun h => by rw [show L 12 = true from h] at n12; cases n12), (fun h => by rw [show L 7 = true from h] at n7; cases n7), (fun h => by rw [show L 12 = true from h] at n12; cases n12)⟩
      · intro vs
        simp only [Act.put, List.setIfInBounds_toArray, List.set_cons_succ, List.set_cons_zero]
        rfl
      refine gent_cons (A' := ?_) (fun vs L w1 hL hw1 => ?_) ?_ ?_
      rotate_left 1
      · obtain ⟨q0, q1, q3, q5, q6, qa, h6, ha⟩ := HO.out _ _ _ hw1
        have x := (k3.grows q0).cell
        refine gen_plain rfl ?_
        go_simp
        exact gr_val (HI.out _ _ _ ⟨q0, kn_known q1 rfl, q3, q5, q6, qa, h6, ha⟩)
      · intro vs
        simp only [Act.put, List.setIfInBounds_toArray, List.set_cons_succ, List.set_cons_zero]
        rfl
      refine gent_cons (A' := ?_) (fun vs L w1 hL hw1 => ?_) ?_ ?_
      rotate_left 1
      · obtain ⟨q0, q1, q3, q5, q6, qa, h6, ha⟩ := HO.out _ _ _ hw1
        have n6 : L 6 = false := hL.1
        have n7 : L 7 = false := by
          cases h : L 7
          · rfl
          · rw [(h6 h).2] at n6; cases n6
        have n12 : L 12 = false := by
          cases h : L 12
          · rfl
          · rw [ha h] at n7; cases n7
        have l5 : L 5 = true := hL.need 5 (by kernel_rfl)
        have e5 := q1 5 _ rfl l5
        refine gen_plain rfl ?_
        simp only [e5]
        go_simp
        have hg := (Below.refl w1.heap.size w1).alloc (Nat.le_refl _) (Obj.cells #[.int .i64 n.a, .int .i64 n.b, .int .i64 n.c, .int .i64 n.d] 52)
        exact gr_val (HI.out _ _ _ ⟨below_grows q0 (Nat.le_refl _) hg, kn_free q1 rfl, (fun h h0 => (q3 h h0).grows hg), (fun _ _ => ⟨_, rfl, qs_lit w1 n _⟩), (fun h _ => by rw [show L 7 = true from h] at n7; cases n7), (fun h => by rw [show L 12 = true from h] at n12; cases n12), (fun h => by rw [show L 7 = true from h] at n7; cases n7), (fun h => by rw [show L 12 = true from h] at n12; cases n12)⟩)
      · intro vs
        simp only [Act.put, List.setIfInBounds_toArray, List.set_cons_succ, List.set_cons_zero]
        rfl
      refine gent_cons (A' := ?_) (fun vs L w1 hL hw1 => ?_) ?_ ?_
      rotate_left 1
      · obtain ⟨q0, q1, q3, q5, q6, qa, h6, ha⟩ := HO.out _ _ _ hw1
        have n7 : L 7 = false := hL.1
        have n12 : L 12 = false := by
          cases h : L 12
          · rfl
          · rw [ha h] at n7; cases n7
        have l4 : L 4 = true := hL.need 4 (by kernel_rfl)
        have l6 : L 6 = true := hL.need 6 (by kernel_rfl)
        have o3 := q3 l4 n7
        obtain ⟨gb, e5, s5⟩ := q5 l6 n7
        refine gen_plain rfl ?_
        refine gr_append_link (.tmp 58) (.tmp 60) rfl (m := [n]) rfl rfl o3 e5 s5 (by simp only [List.length_take, List.length_cons, List.length_nil]; omega) q0.size ?_
        intro v3 w3 o6 g3
        have hg := o3.below q0 g3 q0.size
        exact HI.out _ _ _ ⟨hg, kn_free q1 rfl, (fun _ h => by cases h), (fun _ h => by cases h), fun _ _ => o6, (fun h => by rw [show L 12 = true from h] at n12; cases n12), fun _ => ⟨l4, l6⟩, (fun h => by rw [show L 12 = true from h] at n12; cases n12)⟩
      · intro vs
        simp only [Act.put, List.setIfInBounds_toArray, List.set_cons_succ, List.set_cons_zero]
        rfl
      refine gent_cons (A' := ?_) (fun vs L w1 hL hw1 => ?_) ?_ ?_
      rotate_left 1
      · obtain ⟨q0, q1, q3, q5, q6, qa, h6, ha⟩ := HO.out _ _ _ hw1
        refine gen_plain rfl ?_
        go_simp
        exact gr_val (HI.out _ _ _ ⟨q0, kn_known q1 rfl, q3, q5, q6, qa, h6, ha⟩)
      · intro vs
        simp only [Act.put, List.setIfInBounds_toArray, List.set_cons_succ, List.set_cons_zero]
        rfl
      refine gent_cons (A' := ?_) (fun vs L w1 hL hw1 => ?_) ?_ ?_
      rotate_left 1
      · obtain ⟨q0, q1, q3, q5, q6, qa, h6, ha⟩ := HO.out _ _ _ hw1
        have l8 : L 8 = true := hL.need 8 (by kernel_rfl)
        have e8 := q1 8 _ rfl l8
        have x := (k1.grows q0).cell 1
        refine gen_plain rfl ?_
        simp only [e8]
        go_simp
        exact gr_val (HI.out _ _ _ ⟨q0, kn_known q1 rfl, q3, q5, q6, qa, h6, ha⟩)
      · intro vs
        simp only [Act.put, List.setIfInBounds_toArray, List.set_cons_succ, List.set_cons_zero]
        rfl
      refine gent_cons (A' := ?_) (fun vs L w1 hL hw1 => ?_) ?_ ?_
      rotate_left 1
      · obtain ⟨q0, q1, q3, q5, q6, qa, h6, ha⟩ := HO.out _ _ _ hw1
        refine gen_plain rfl ?_
        go_simp
        exact gr_val (HI.out _ _ _ ⟨q0, kn_known q1 rfl, q3, q5, q6, qa, h6, ha⟩)
      · intro vs
        simp only [Act.put, List.setIfInBounds_toArray, List.set_cons_succ, List.set_cons_zero]
        rfl
      refine gent_cons (A' := ?_) (fun vs L w1 hL hw1 => ?_) ?_ ?_
      rotate_left 1
      · obtain ⟨q0, q1, q3, q5, q6, qa, h6, ha⟩ := HO.out _ _ _ hw1
        have l9 : L 9 = true := hL.need 9 (by kernel_rfl)
        have e9 := q1 9 _ rfl l9
        have l10 : L 10 = true := hL.need 10 (by kernel_rfl)
        have e10 := q1 10 _ rfl l10
        refine gen_plain rfl ?_
        simp only [e9, e10]
        go_simp
        exact gr_val (HI.out _ _ _ ⟨q0, kn_known q1 rfl, q3, q5, q6, qa, h6, ha⟩)
      · intro vs
        simp only [Act.put, List.setIfInBounds_toArray, List.set_cons_succ, List.set_cons_zero]
        rfl
      refine gent_cons (A' := ?_) (fun vs L w1 hL hw1 => ?_) ?_ ?_
      rotate_left 1
      · obtain ⟨q0, q1, q3, q5, q6, qa, h6, ha⟩ := HO.out _ _ _ hw1
        have n12 : L 12 = false := hL.1
        have l7 : L 7 = true := hL.need 7 (by kernel_rfl)
        have o6 := q6 l7 n12
        have l11 : L 11 = true := hL.need 11 (by kernel_rfl)
        have e11 := q1 11 _ rfl l11
        refine gen_plain rfl ?_
        refine gr_append_link (.tmp 61) (.tmp 65) rfl (m := ls.drop m) (by simp) rfl o6 e11 (qs_drop (hQ.grows q0) hmd hc) (by simp only [List.length_append, List.length_take, List.length_drop, List.length_cons, List.length_nil]; omega) q0.size ?_
        intro v3 w3 o7 g3
        have hg := o6.below q0 g3 q0.size
        exact HI.out _ _ _ ⟨hg, kn_free q1 rfl, (fun h h0 => by rw [show L 7 = false from h0] at l7; cases l7), (fun h h0 => by rw [show L 7 = false from h0] at l7; cases l7), (fun _ h => by cases h), fun _ => o7, h6, fun _ => l7⟩
      · intro vs
        simp only [Act.put, List.setIfInBounds_toArray, List.set_cons_succ, List.set_cons_zero]
        rfl
      refine gent_nil ?_
      intro vs L W2 hall hS
      obtain ⟨hq, -, -, -, -, qa, -, -⟩ := HO.out _ _ _ hS
      have hown2 := qa (hall 12 (by omega))
      clear hall hS HI HO qa
      have hown3 := hown2.mono hB.size
      replace hB := below_grows hB (Nat.le_refl _) hq
      replace k1 := k1.grows hq
      replace k4 := k4.grows hq
      clear hown2 hq k3 hQ
      generalize vs 12 = v12 at *
      have x1 := k1.cell
      go_upto_region 15 with fail
      refine wp_region_lit ?_
      iterate 2
        refine wpList_plain rfl (fun K hK => ?_)
        go_simp
        refine hK _ _ ?_
        clear hK K
      refine wpList_append_node rfl (.const (.slice none 0 0)) (.tmp 68) rfl (l := []) (m := ns) rfl rfl (ownN_nil _ w.heap.size) rfl (h.grows hB).n (by simp only [List.length_nil]; omega) hB.size ?_
      intro v13 w13 hown13 hgr13 _
      have hq : Grows W2 w13 := (Below.refl _ _).grown hgr13 (Nat.le_refl _) (fun q hq => by cases hq)
      replace hB := below_grows hB (Nat.le_refl _) hq
      replace k4 := k4.grows hq
      replace hown3 := hown3.grows hq
      clear hq hgr13 x1 k1
      rw [List.nil_append] at hown13
      obtain ⟨A7, n7, c7, hv7, e7, hq7⟩ := OwnL.slq (l := insN ls m n) hown3
      obtain ⟨A9, n9, c9, hv9, e9, hq9⟩ := OwnN.slq hown13
      have hl9 : n9 ≤ 64 := by omega
      have hl7 : n7 ≤ 9223372036854775807 := by rw [← e7, ins_length hmd]; omega
      have hn7 := Lib.hid e7
      have hn9 := Lib.hid e9
      subst hv7
      subst hv9
      clear e7 e9
      have k8 := Blk.new w13 40 #[.slice A9 n9 c9, .slice A7 n7 c7]
      have hq := (Below.refl w13.heap.size w13).alloc (Nat.le_refl _) (Obj.cells #[.slice A9 n9 c9, .slice A7 n7 c7] 40)
      go_upto_region 16 with fail
      replace hB := below_grows hB (Nat.le_refl _) hq
      replace k4 := k4.grows hq
      replace hown3 := hown3.grows hq
      replace hown13 := hown13.grows hq
      replace hq7 := hq7.grows hq
      replace hq9 := hq9.grows hq
      clear hq
      generalize World.alloc w13 _ = w9 at *
      generalize w13.heap.size = G8 at *
      obtain ⟨mm, hmm⟩ : ∃ mm, (orderL ns (insN ls m n)).length = mm := ⟨_, rfl⟩
      have HMM := Lib.hid hmm
      clear hmm
      by_cases hlo : mm < n9
      · skip
        obtain ⟨S, HI, HO⟩ : ∃ S : Ran → (Nat → Value) → World → Prop, Hid (∀ L vs w', (Grows w9 w' ∧ KnS [some (.agg #[.slice A9 n9 c9, .slice A7 n7 c7]), none, some (.int .i64 (mm : Int)), some (.pointer (some ⟨G8, 0, none⟩)), some (.slice A9 n9 c9), some (.int .i64 (n9 : Int)), some (.bool true)] L vs ∧ DsS [none, some (gLen mm), none, none, none, none, none] L vs w') → S L vs w') ∧ Hid (∀ L vs w', S L vs w' → (Grows w9 w' ∧ KnS [some (.agg #[.slice A9 n9 c9, .slice A7 n7 c7]), none, some (.int .i64 (mm : Int)), some (.pointer (some ⟨G8, 0, none⟩)), some (.slice A9 n9 c9), some (.int .i64 (n9 : Int)), some (.bool true)] L vs ∧ DsS [none, some (gLen mm), none, none, none, none, none] L vs w')) := ⟨fun L vs w' => Grows w9 w' ∧ KnS [some (.agg #[.slice A9 n9 c9, .slice A7 n7 c7]), none, some (.int .i64 (mm : Int)), some (.pointer (some ⟨G8, 0, none⟩)), some (.slice A9 n9 c9), some (.int .i64 (n9 : Int)), some (.bool true)] L vs ∧ DsS [none, some (gLen mm), none, none, none, none, none] L vs w', fun _ _ _ h => h, fun _ _ _ h => h⟩
        refine wp_region_genW S 81 (by kernel_rfl) (by kernel_rfl) rfl ?_ ?_
        · exact HI.out _ _ _ ⟨Grows.drew' _, kn_none _ _, ds_none _ _ _⟩
        refine gen_cons (A' := ?_) (fun vs L w1 hL hw1 => ?_) ?_ ?_
        rotate_left 1
        · obtain ⟨q0, q1, q2⟩ := HO.out _ _ _ hw1
          refine gen_plain rfl ?_
          have x := (k8.grows q0).cell 
          go_simp
          exact gr_val (HI.out _ _ _ ⟨q0, kn_known q1 rfl, ds_free q2 rfl⟩)
        · intro vs
          simp only [Act.put, List.setIfInBounds_toArray, List.set_cons_succ, List.set_cons_zero]
          rfl
        refine gen_cons (A' := ?_) (fun vs L w1 hL hw1 => ?_) ?_ ?_
        rotate_left 1
        · obtain ⟨q0, q1, q2⟩ := HO.out _ _ _ hw1
          refine gen_plain rfl ?_
          have l0 : L 0 = true := hL.need 0 (by kernel_rfl)
          have e0 := q1 0 _ rfl l0
          simp only [e0]
          go_simp
          refine gr_call ?_
          refine (order_is A9 A7 c9 c7 n9 n7 mm ns (insN ls m n) w1 (hq9.grows q0) hn9.out (hq7.grows q0) hn7.out (by omega) (by omega) (valid_ids HV.out) HMM.out).mono ?_
          rintro e w2 ⟨⟨v, rfl, hv⟩, hg⟩
          exact ⟨_, rfl, HI.out _ _ _ ⟨below_grows q0 (Nat.le_refl _) hg, kn_free q1 rfl, ds_put (q2.grows hg) rfl (hv)⟩⟩
        · intro vs
          simp only [Act.put, List.setIfInBounds_toArray, List.set_cons_succ, List.set_cons_zero]
          rfl
        refine gen_cons (A' := ?_) (fun vs L w1 hL hw1 => ?_) ?_ ?_
        rotate_left 1
        · obtain ⟨q0, q1, q2⟩ := HO.out _ _ _ hw1
          refine gen_plain rfl ?_
          have l1 : L 1 = true := hL.need 1 (by kernel_rfl)
          obtain ⟨A1, c1, e1⟩ := q2 1 _ rfl l1
          simp only [e1]
          go_simp
          exact gr_val (HI.out _ _ _ ⟨q0, kn_known q1 rfl, ds_free q2 rfl⟩)
        · intro vs
          simp only [Act.put, List.setIfInBounds_toArray, List.set_cons_succ, List.set_cons_zero]
          rfl
        refine gen_cons (A' := ?_) (fun vs L w1 hL hw1 => ?_) ?_ ?_
        rotate_left 1
        · obtain ⟨q0, q1, q2⟩ := HO.out _ _ _ hw1
          refine gen_plain rfl ?_
          go_simp
          exact gr_val (HI.out _ _ _ ⟨q0, kn_known q1 rfl, ds_free q2 rfl⟩)
        · intro vs
          simp only [Act.put, List.setIfInBounds_toArray, List.set_cons_succ, List.set_cons_zero]
          rfl
        refine gen_cons (A' := ?_) (fun vs L w1 hL hw1 => ?_) ?_ ?_
        rotate_left 1
        · obtain ⟨q0, q1, q2⟩ := HO.out _ _ _ hw1
          refine gen_plain rfl ?_
          have l3 : L 3 = true := hL.need 3 (by kernel_rfl)
          have e3 := q1 3 _ rfl l3
          have x := (k8.grows q0).cell 0
          simp only [e3]
          go_simp
          exact gr_val (HI.out _ _ _ ⟨q0, kn_known q1 rfl, ds_free q2 rfl⟩)
        · intro vs
          simp only [Act.put, List.setIfInBounds_toArray, List.set_cons_succ, List.set_cons_zero]
          rfl
        refine gen_cons (A' := ?_) (fun vs L w1 hL hw1 => ?_) ?_ ?_
        rotate_left 1
        · obtain ⟨q0, q1, q2⟩ := HO.out _ _ _ hw1
          refine gen_plain rfl ?_
          have l4 : L 4 = true := hL.need 4 (by kernel_rfl)
          have e4 := q1 4 _ rfl l4
          simp only [e4]
          go_simp
          exact gr_val (HI.out _ _ _ ⟨q0, kn_known q1 rfl, ds_free q2 rfl⟩)
        · intro vs
          simp only [Act.put, List.setIfInBounds_toArray, List.set_cons_succ, List.set_cons_zero]
          rfl
        refine gen_cons (A' := ?_) (fun vs L w1 hL hw1 => ?_) ?_ ?_
        rotate_left 1
        · obtain ⟨q0, q1, q2⟩ := HO.out _ _ _ hw1
          refine gen_plain rfl ?_
          have l2 : L 2 = true := hL.need 2 (by kernel_rfl)
          have e2 := q1 2 _ rfl l2
          have l5 : L 5 = true := hL.need 5 (by kernel_rfl)
          have e5 := q1 5 _ rfl l5
          simp only [e2, e5]
          go_simp
          exact gr_val (HI.out _ _ _ ⟨q0, kn_known q1 rfl, ds_free q2 rfl⟩)
        · intro vs
          simp only [Act.put, List.setIfInBounds_toArray, List.set_cons_succ, List.set_cons_zero]
          rfl
        refine gen_nil ?_
        intro vs L W6 hall hS
        obtain ⟨hq, q1, q2⟩ := HO.out _ _ _ hS
        have eX6 := q1 6 _ rfl (hall 6 (by simp))
        clear hall hS HI HO q1 q2
        simp only [eX6]
        clear eX6
        simp only [Nat.zero_add, Nat.reduceAdd]
        replace hB := below_grows hB (Nat.le_refl _) hq
        replace k4 := k4.grows hq
        replace k8 := k8.grows hq
        replace hown3 := hown3.grows hq
        replace hown13 := hown13.grows hq
        clear hq hq7 hq9
        generalize W6 = w10 at *
        have x4 := k4.cell
        have f4 := k4.frozen
        go_wp2
        have k5 := (k4.set_ 0 (.slice none 0 0)).set_ 1 (.slice none 0 0)
        have hB5 := (hB.setCell (p := ⟨w.heap.size + 1 + 1, 0, none⟩) (by simp; omega) (.slice none 0 0)).setCell (p := ⟨w.heap.size + 1 + 1, 1, none⟩) (by simp; omega) (.slice none 0 0)
        clear x4 f4
        generalize World.setCell (World.setCell w10 _ _) _ _ = w8 at *
        have x4 := k5.cell
        refine bodyPost_ret (v := .tuple #[.agg #[.slice none 0 0, .slice none 0 0], .int .i64 12]) (by simp [results, Try.results27, go_sem, x4]) rfl ⟨grRes_no (by decide), hB5⟩
      · skip
        obtain ⟨S, HI, HO⟩ : ∃ S : Ran → (Nat → Value) → World → Prop, Hid (∀ L vs w', (Grows w9 w' ∧ KnS [some (.agg #[.slice A9 n9 c9, .slice A7 n7 c7]), none, some (.int .i64 (mm : Int)), some (.pointer (some ⟨G8, 0, none⟩)), some (.slice A9 n9 c9), some (.int .i64 (n9 : Int)), some (.bool false)] L vs ∧ DsS [none, some (gLen mm), none, none, none, none, none] L vs w') → S L vs w') ∧ Hid (∀ L vs w', S L vs w' → (Grows w9 w' ∧ KnS [some (.agg #[.slice A9 n9 c9, .slice A7 n7 c7]), none, some (.int .i64 (mm : Int)), some (.pointer (some ⟨G8, 0, none⟩)), some (.slice A9 n9 c9), some (.int .i64 (n9 : Int)), some (.bool false)] L vs ∧ DsS [none, some (gLen mm), none, none, none, none, none] L vs w')) := ⟨fun L vs w' => Grows w9 w' ∧ KnS [some (.agg #[.slice A9 n9 c9, .slice A7 n7 c7]), none, some (.int .i64 (mm : Int)), some (.pointer (some ⟨G8, 0, none⟩)), some (.slice A9 n9 c9), some (.int .i64 (n9 : Int)), some (.bool false)] L vs ∧ DsS [none, some (gLen mm), none, none, none, none, none] L vs w', fun _ _ _ h => h, fun _ _ _ h => h⟩
        refine wp_region_genW S 81 (by kernel_rfl) (by kernel_rfl) rfl ?_ ?_
        · exact HI.out _ _ _ ⟨Grows.drew' _, kn_none _ _, ds_none _ _ _⟩
        refine gen_cons (A' := ?_) (fun vs L w1 hL hw1 => ?_) ?_ ?_
        rotate_left 1
        · obtain ⟨q0, q1, q2⟩ := HO.out _ _ _ hw1
          refine gen_plain rfl ?_
          have x := (k8.grows q0).cell 
          go_simp
          exact gr_val (HI.out _ _ _ ⟨q0, kn_known q1 rfl, ds_free q2 rfl⟩)
        · intro vs
          simp only [Act.put, List.setIfInBounds_toArray, List.set_cons_succ, List.set_cons_zero]
          rfl
        refine gen_cons (A' := ?_) (fun vs L w1 hL hw1 => ?_) ?_ ?_
        rotate_left 1
        · obtain ⟨q0, q1, q2⟩ := HO.out _ _ _ hw1
          refine gen_plain rfl ?_
          have l0 : L 0 = true := hL.need 0 (by kernel_rfl)
          have e0 := q1 0 _ rfl l0
          simp only [e0]
          go_simp
          refine gr_call ?_
          refine (order_is A9 A7 c9 c7 n9 n7 mm ns (insN ls m n) w1 (hq9.grows q0) hn9.out (hq7.grows q0) hn7.out (by omega) (by omega) (valid_ids HV.out) HMM.out).mono ?_
          rintro e w2 ⟨⟨v, rfl, hv⟩, hg⟩
          exact ⟨_, rfl, HI.out _ _ _ ⟨below_grows q0 (Nat.le_refl _) hg, kn_free q1 rfl, ds_put (q2.grows hg) rfl (hv)⟩⟩
        · intro vs
          simp only [Act.put, List.setIfInBounds_toArray, List.set_cons_succ, List.set_cons_zero]
          rfl
        refine gen_cons (A' := ?_) (fun vs L w1 hL hw1 => ?_) ?_ ?_
        rotate_left 1
        · obtain ⟨q0, q1, q2⟩ := HO.out _ _ _ hw1
          refine gen_plain rfl ?_
          have l1 : L 1 = true := hL.need 1 (by kernel_rfl)
          obtain ⟨A1, c1, e1⟩ := q2 1 _ rfl l1
          simp only [e1]
          go_simp
          exact gr_val (HI.out _ _ _ ⟨q0, kn_known q1 rfl, ds_free q2 rfl⟩)
        · intro vs
          simp only [Act.put, List.setIfInBounds_toArray, List.set_cons_succ, List.set_cons_zero]
          rfl
        refine gen_cons (A' := ?_) (fun vs L w1 hL hw1 => ?_) ?_ ?_
        rotate_left 1
        · obtain ⟨q0, q1, q2⟩ := HO.out _ _ _ hw1
          refine gen_plain rfl ?_
          go_simp
          exact gr_val (HI.out _ _ _ ⟨q0, kn_known q1 rfl, ds_free q2 rfl⟩)
        · intro vs
          simp only [Act.put, List.setIfInBounds_toArray, List.set_cons_succ, List.set_cons_zero]
          rfl
        refine gen_cons (A' := ?_) (fun vs L w1 hL hw1 => ?_) ?_ ?_
        rotate_left 1
        · obtain ⟨q0, q1, q2⟩ := HO.out _ _ _ hw1
          refine gen_plain rfl ?_
          have l3 : L 3 = true := hL.need 3 (by kernel_rfl)
          have e3 := q1 3 _ rfl l3
          have x := (k8.grows q0).cell 0
          simp only [e3]
          go_simp
          exact gr_val (HI.out _ _ _ ⟨q0, kn_known q1 rfl, ds_free q2 rfl⟩)
        · intro vs
          simp only [Act.put, List.setIfInBounds_toArray, List.set_cons_succ, List.set_cons_zero]
          rfl
        refine gen_cons (A' := ?_) (fun vs L w1 hL hw1 => ?_) ?_ ?_
        rotate_left 1
        · obtain ⟨q0, q1, q2⟩ := HO.out _ _ _ hw1
          refine gen_plain rfl ?_
          have l4 : L 4 = true := hL.need 4 (by kernel_rfl)
          have e4 := q1 4 _ rfl l4
          simp only [e4]
          go_simp
          exact gr_val (HI.out _ _ _ ⟨q0, kn_known q1 rfl, ds_free q2 rfl⟩)
        · intro vs
          simp only [Act.put, List.setIfInBounds_toArray, List.set_cons_succ, List.set_cons_zero]
          rfl
        refine gen_cons (A' := ?_) (fun vs L w1 hL hw1 => ?_) ?_ ?_
        rotate_left 1
        · obtain ⟨q0, q1, q2⟩ := HO.out _ _ _ hw1
          refine gen_plain rfl ?_
          have l2 : L 2 = true := hL.need 2 (by kernel_rfl)
          have e2 := q1 2 _ rfl l2
          have l5 : L 5 = true := hL.need 5 (by kernel_rfl)
          have e5 := q1 5 _ rfl l5
          simp only [e2, e5]
          go_simp
          exact gr_val (HI.out _ _ _ ⟨q0, kn_known q1 rfl, ds_free q2 rfl⟩)
        · intro vs
          simp only [Act.put, List.setIfInBounds_toArray, List.set_cons_succ, List.set_cons_zero]
          rfl
        refine gen_nil ?_
        intro vs L W6 hall hS
        obtain ⟨hq, q1, q2⟩ := HO.out _ _ _ hS
        have eX6 := q1 6 _ rfl (hall 6 (by simp))
        clear hall hS HI HO q1 q2
        simp only [eX6]
        clear eX6
        simp only [Nat.zero_add, Nat.reduceAdd]
        replace hB := below_grows hB (Nat.le_refl _) hq
        replace k4 := k4.grows hq
        replace k8 := k8.grows hq
        replace hown3 := hown3.grows hq
        replace hown13 := hown13.grows hq
        clear hq hq7 hq9
        generalize W6 = w10 at *
        have x8 := k8.cell
        have x4 := k4.cell
        have f4 := k4.frozen
        go_wp2
        have k5 := (k4.set_ 0 (.slice A9 n9 c9)).set_ 1 (.slice A7 n7 c7)
        have hB5 := (hB.setCell (p := ⟨w.heap.size + 1 + 1, 0, none⟩) (by simp; omega) (.slice A9 n9 c9)).setCell (p := ⟨w.heap.size + 1 + 1, 1, none⟩) (by simp; omega) (.slice A7 n7 c7)
        have hn1 := OwnN.put hown13 k4 0 (.slice A9 n9 c9)
        have hn2 := OwnN.put hn1 (k4.set_ 0 (.slice A9 n9 c9)) 1 (.slice A7 n7 c7)
        have hl1 := OwnL.put hown3 k4 0 (.slice A9 n9 c9)
        have hl2 := OwnL.put hl1 (k4.set_ 0 (.slice A9 n9 c9)) 1 (.slice A7 n7 c7)
        clear x4 f4 x8 hn1 hl1 hown3 hown13 k4 hB
        generalize World.setCell (World.setCell w10 _ _) _ _ = w8 at *
        have x4 := k5.cell
        refine bodyPost_ret (v := .tuple #[.agg #[.slice A9 n9 c9, .slice A7 n7 c7], .int .i64 0]) (by simp [results, Try.results27, go_sem, x4]) rfl ⟨grRes_yes hn2 hl2 ⟨valid_connect HV.out HPO.out HHS.out (by omega) HCR.out HC.out (by have h1 := HMM.out; have h2 := hn9.out; omega), rfl, Nat.le_of_eq (ins_length hmd)⟩, hB5⟩

end Go.Proofs.Ytmokpiacioeohaa
