/-
  GlitchSums, for every input: the law returns true, and each argument reads behind the call as it read before. No condition.
-/
import Derived.Test.YtbmoiokpkcaccaaGlitchOrders
import Derived.Test.YtbmoiokpkcaccaaGenU
namespace Go.Proofs.Ytbmoiokpkcaccaa
open Go.ChangeShapes Go.WideShapes Go.ChangeAt Go.RowKit
theorem mergeS_wf {out : List Gl} {g : Gl} (ho : ∀ x ∈ out, WfG x) (hg : WfG g) : ∀ x ∈ mergeS out g, WfG x := by
  rcases mergeS_cases out g with ⟨e, _⟩ | ⟨a, x, b, y, e, _, _, ej, e2⟩
  · rw [e]
    intro z hz
    rcases List.mem_append.1 hz with hz | hz
    · exact ho z hz
    · simp only [List.mem_cons, List.not_mem_nil, or_false] at hz; rw [hz]; exact hg
  · rw [e2]
    subst e
    obtain ⟨_, hk, _⟩ := joinF_ok ej
    obtain ⟨_, k2, k3⟩ := kinG_eq hk
    have hx := ho x (List.mem_append.2 (.inr (List.mem_cons_self ..)))
    intro z hz
    rcases List.mem_append.1 hz with hz | hz
    · exact ho z (List.mem_append.2 (.inl hz))
    · rcases List.mem_cons.1 hz with rfl | hz
      · unfold WfG at hx ⊢
        rw [← k2, ← k3]
        exact hx
      · exact ho z (List.mem_append.2 (.inr (List.mem_cons_of_mem _ hz)))
theorem mergeL_wf {l : List Gl} (h : ∀ x ∈ l, WfG x) : ∀ x ∈ mergeL l, WfG x := by
  have key : ∀ (l out : List Gl), (∀ x ∈ out, WfG x) → (∀ x ∈ l, WfG x) → ∀ x ∈ l.foldl mergeS out, WfG x := by
    intro l
    induction l with
    | nil => intro out ho _; exact ho
    | cons g l ih => intro out ho hl; exact ih _ (mergeS_wf ho (hl g (by simp))) (fun x hx => hl x (List.mem_cons_of_mem _ hx))
  exact key l [] (by simp) h
theorem mergeG_wf {l : List Gl} (h : ∀ x ∈ l, WfG x) : ∀ x ∈ mergeG l, WfG x := fun x hx =>
  mergeL_wf (fun y hy => h y (List.mem_filter.1 ((sortG_perm l).mem_iff.1 hy)).1) x ((mergeG_perm l).mem_iff.1 hx)
def smallG (g : Gl) : Bool := okG g && decide (g.f < 1000)
theorem smallG_iff (g : Gl) : smallG g = true ↔ okG g = true ∧ g.f < 1000 := by unfold smallG; rw [Bool.and_eq_true, decide_eq_true_eq]
theorem small_bd {p : List Gl} (h : ∀ x ∈ p, okG x = true ∧ x.f < 1000) : 0 ≤ sumF p ∧ sumF p ≤ 1000 * p.length := by
  induction p with
  | nil => simp [sumF]
  | cons x p ih =>
    have h1 := ih fun y hy => h y (List.mem_cons_of_mem _ hy)
    have h2 := h x (by simp)
    have h3 : 1 ≤ x.f := by obtain ⟨k, a, q, s, d, f⟩ := x; exact (okG_bd h2.1).2.2.2.2.1
    simp only [sumF, List.map_cons, List.sum_cons, List.length_cons] at *
    omega
theorem pos_bd {p : List Gl} (h : ∀ x ∈ p, okG x = true) : 0 ≤ sumF p := by
  induction p with
  | nil => simp [sumF]
  | cons x p ih =>
    have h1 := ih fun y hy => h y (List.mem_cons_of_mem _ hy)
    have h2 := h x (by simp)
    have h3 : 1 ≤ x.f := by obtain ⟨k, a, q, s, d, f⟩ := x; exact (okG_bd h2).2.2.2.2.1
    simp only [sumF, List.map_cons, List.sum_cons] at *
    omega
theorem sum_take {p : List Gl} (h : ∀ x ∈ p, okG x = true) (k : Nat) : sumF (p.take k) ≤ sumF p := by
  have e : sumF p = sumF (p.take k) + sumF (p.drop k) := by rw [← sumF_append, List.take_append_drop]
  have := pos_bd (p := p.drop k) fun x hx => h x (List.mem_of_mem_drop hx)
  omega
theorem small_snoc {l : List Gl} {k : Nat} {g : Gl} (h : l[k]? = some g) : (l.take (k + 1)).filter smallG = (l.take k).filter smallG ++ (if smallG g = true then [g] else []) := by
  rw [take_snoc h, List.filter_append]
  cases e : smallG g <;> simp [e]
theorem own_ne8x {w : World} {base : Nat} {v : Value} {l : List Gl} (h : OwnG w base v l) {g : Nat} (hg : ∀ q, v.ownBlock = some q → q ≠ g) : some g ≠ v.ownBlock := fun e => hg g e.symm rfl
namespace GlitchSums
set_option maxRecDepth 100000 in
set_option maxHeartbeats 16000000 in
theorem walk (A : Option Addr) (c : Nat) (l : List Int) (turn : Int) (w : World) (hI : Ints w A l) (hl : l.length ≤ 9223372036854775807) (_ : -9223372036854775808 ≤ turn ∧ turn ≤ 9223372036854775807) :
    Calls Try.prog 3 #[.slice A l.length c, .int .i64 turn] w fun e w' => e = .returned (.bool true) ∧ Below w.heap.size w w' := by
  have hB := Below.refl w.heap.size w
  go_enter Try.func3, Try.ntmps3
  go_wp2_with fail
  refine (gsane_any _).mono ?_
  rintro e w2 ⟨rfl, hq⟩
  replace hB := below_grows hB (Nat.le_refl _) hq
  replace hI := Reads.grows hI hq
  clear hq
  go_wp2_with fail
  refine (gmade_any A c l _ hI hl).mono ?_
  rintro e W ⟨⟨v, x0, rfl, hown0, hx11, hxw⟩, hq⟩
  replace hB := below_grows hB (Nat.le_refl _) hq
  obtain ⟨A0, c0, rfl, -, hr0, -⟩ := hown0.read
  clear hq hI hown0
  go_wp2_with fail
  go_loopw [5, 6, 19] (fun v s i wr => ∃ k : Nat, k ≤ x0.length ∧ i = .int .i64 k ∧ s = .int .i64 (sumF ((x0.take k).filter smallG)) ∧ OwnG wr W.heap.size v ((x0.take k).filter smallG) ∧ Grows W wr) (fun _ _ i _ => x0.length - (intOf i).toNat)
  case atStart => exact ⟨0, Nat.zero_le _, rfl, rfl, ownG_nil _ _, Below.refl _ _⟩
  case round =>
    obtain ⟨k, hk, rfl, rfl, hown, hg⟩ := hrel
    have hpl : ((x0.take k).filter smallG).length ≤ 11 := Nat.le_trans (List.length_filter_le _ _) (by rw [List.length_take]; omega)
    have hsb := small_bd (p := (x0.take k).filter smallG) fun y hy => (smallG_iff y).1 (List.mem_filter.1 hy).2
    by_cases hlt : k < x0.length
    · skip
      obtain ⟨ad, g, rfl, had, hx, d0, d1, d2, d3, d4, d5⟩ := (hr0.grows hg).elem hlt
      have HX := Lib.hid (small_snoc hx)
      generalize (x0.take k).filter smallG = p at *
      have hbd := okG_bd (k := g.k) (a := g.a) (q := g.q) (s := g.s) (d := g.d) (f := g.f)
      have HBD := Lib.hid hbd
      clear hx hbd
      have hne8 : ∀ q, u5.ownBlock = some q → q ≠ wr.heap.size := fun q e => by have := (hown.lt q e).2; omega
      have k8 := Blk.new wr 28 #[.int .i64 g.k, .int .i64 g.a, .int .i64 g.q, .int .i64 g.s, .int .u64 g.d, .int .i64 g.f]
      have hq := (Below.refl wr.heap.size wr).alloc (Nat.le_refl _) (Obj.cells #[.int .i64 g.k, .int .i64 g.a, .int .i64 g.q, .int .i64 g.s, .int .u64 g.d, .int .i64 g.f] 28)
      go_upto_region 8 with fail
      clear d0 d1 d2 d3 d4 d5 had
      replace hown := hown.grows hq
      replace hg := below_grows hg (Nat.le_refl _) hq
      clear hq
      generalize World.alloc wr _ = w4 at *
      generalize wr.heap.size = G8 at *
      have x8 := k8.cell
      go_wp2_with fail
      refine (grvalid_g g _).mono ?_
      rintro e w5 ⟨rfl, hq⟩
      clear x8
      replace hown := hown.grows hq
      replace hg := below_grows hg (Nat.le_refl _) hq
      replace k8 := k8.grows hq
      clear hq
      have x8 := k8.cell
      cases hok : okG g
      · have HE : Hid ((x0.take (k + 1)).filter smallG = p) := Lib.hid (by rw [HX.out]; simp [smallG, hok])
        clear HX x8 k8 hne8 HBD hok
        go_wp2
        go_roundw
        case rel => exact ⟨k + 1, by omega, by go_num, by rw [HE.out], by rw [HE.out]; exact hown, hg⟩
        case measure => simp [intOf]; omega
      · have hf := (HBD.out hok).2.2.2.2
        clear HBD
        by_cases h1000 : g.f < 1000
        rotate_left
        · have HE : Hid ((x0.take (k + 1)).filter smallG = p) := Lib.hid (by rw [HX.out]; simp [smallG, hok]; omega)
          clear HX hok hne8
          go_wp2
          go_roundw
          case rel => exact ⟨k + 1, by omega, by go_num, by rw [HE.out], by rw [HE.out]; exact hown, hg⟩
          case measure => simp [intOf]; omega
        · have HE : Hid ((x0.take (k + 1)).filter smallG = p ++ [g]) := Lib.hid (by rw [HX.out]; simp [smallG, hok, h1000])
          have HS : Hid (sumF (p ++ [g]) = sumF p + g.f) := Lib.hid (by rw [sumF_append]; simp [sumF])
          have own_ne8 : ∀ {w' : World} (_ : OwnG w' W.heap.size u5 p), some G8 ≠ u5.ownBlock := fun o => own_ne8x o hne8
          have hws : IntKind.i64.wrap (sumF p + g.f) = sumF p + g.f := IntWalk.i64_in _ (by omega)
          clear HX hok
          go_upto_region 9 with fail
          clear x8
          generalize sumF p = sp at *
          obtain ⟨S, HI, HO⟩ : ∃ S : Ran → (Nat → Value) → World → Prop, Hid (∀ L vs w', (Grows W w' ∧ KnS [some (u5), some (.agg #[.int .i64 g.k, .int .i64 g.a, .int .i64 g.q, .int .i64 g.s, .int .u64 g.d, .int .i64 g.f]), none, none, some (.int .i64 (sp)), some (.pointer (some ⟨G8, 5, none⟩)), some (.int .i64 g.f), some (.int .i64 (sp + g.f)), none, some (.int .i64 (sp + g.f))] L vs ∧ (L 3 = false → OwnG w' W.heap.size u5 p) ∧ (L 2 = true → L 3 = false → ∃ gb, vs 2 = .slice (some ⟨gb, 0, none⟩) 1 1 ∧ Gls w' (some ⟨gb, 0, none⟩) [g]) ∧ (L 3 = true → OwnG w' W.heap.size (vs 3) (p ++ [g])) ∧ (L 3 = true → L 2 = true) ∧ (L 3 = false → Blk w' G8 28 #[.int .i64 g.k, .int .i64 g.a, .int .i64 g.q, .int .i64 g.s, .int .u64 g.d, .int .i64 g.f]) ∧ (L 3 = true → Blk w' G8 28 #[.int .i64 g.k, .int .i64 g.a, .int .i64 g.q, .int .i64 g.s, .int .u64 g.d, .int .i64 g.f]) ∧ (L 8 = true → vs 8 = vs 3) ∧ (L 8 = true → L 3 = true)) → S L vs w') ∧ Hid (∀ L vs w', S L vs w' → (Grows W w' ∧ KnS [some (u5), some (.agg #[.int .i64 g.k, .int .i64 g.a, .int .i64 g.q, .int .i64 g.s, .int .u64 g.d, .int .i64 g.f]), none, none, some (.int .i64 (sp)), some (.pointer (some ⟨G8, 5, none⟩)), some (.int .i64 g.f), some (.int .i64 (sp + g.f)), none, some (.int .i64 (sp + g.f))] L vs ∧ (L 3 = false → OwnG w' W.heap.size u5 p) ∧ (L 2 = true → L 3 = false → ∃ gb, vs 2 = .slice (some ⟨gb, 0, none⟩) 1 1 ∧ Gls w' (some ⟨gb, 0, none⟩) [g]) ∧ (L 3 = true → OwnG w' W.heap.size (vs 3) (p ++ [g])) ∧ (L 3 = true → L 2 = true) ∧ (L 3 = false → Blk w' G8 28 #[.int .i64 g.k, .int .i64 g.a, .int .i64 g.q, .int .i64 g.s, .int .u64 g.d, .int .i64 g.f]) ∧ (L 3 = true → Blk w' G8 28 #[.int .i64 g.k, .int .i64 g.a, .int .i64 g.q, .int .i64 g.s, .int .u64 g.d, .int .i64 g.f]) ∧ (L 8 = true → vs 8 = vs 3) ∧ (L 8 = true → L 3 = true))) := ⟨fun L vs w' => Grows W w' ∧ KnS [some (u5), some (.agg #[.int .i64 g.k, .int .i64 g.a, .int .i64 g.q, .int .i64 g.s, .int .u64 g.d, .int .i64 g.f]), none, none, some (.int .i64 (sp)), some (.pointer (some ⟨G8, 5, none⟩)), some (.int .i64 g.f), some (.int .i64 (sp + g.f)), none, some (.int .i64 (sp + g.f))] L vs ∧ (L 3 = false → OwnG w' W.heap.size u5 p) ∧ (L 2 = true → L 3 = false → ∃ gb, vs 2 = .slice (some ⟨gb, 0, none⟩) 1 1 ∧ Gls w' (some ⟨gb, 0, none⟩) [g]) ∧ (L 3 = true → OwnG w' W.heap.size (vs 3) (p ++ [g])) ∧ (L 3 = true → L 2 = true) ∧ (L 3 = false → Blk w' G8 28 #[.int .i64 g.k, .int .i64 g.a, .int .i64 g.q, .int .i64 g.s, .int .u64 g.d, .int .i64 g.f]) ∧ (L 3 = true → Blk w' G8 28 #[.int .i64 g.k, .int .i64 g.a, .int .i64 g.q, .int .i64 g.s, .int .u64 g.d, .int .i64 g.f]) ∧ (L 8 = true → vs 8 = vs 3) ∧ (L 8 = true → L 3 = true), fun _ _ _ h => h, fun _ _ _ h => h⟩
          refine wp_region_genU S 87 (by kernel_rfl) (by kernel_rfl) rfl ?_ ?_
          · exact HI.out _ _ _ ⟨below_grows hg (Nat.le_refl _) (Grows.drew' _), kn_none _ _, (fun _ => hown.grows (Grows.drew' _)), (fun h => by cases h), (fun h => by cases h), (fun h => by cases h), (fun _ => k8.drew), (fun h => by cases h), (fun h => by cases h), (fun h => by cases h)⟩
          refine gen_cons (A' := ?_) (fun vs L u1 hL hw1 => ?_) ?_ ?_
          rotate_left 1
          · obtain ⟨q0, q1, qa, q2, q3, h3, k8a, k8b, q8, h8⟩ := HO.out _ _ _ hw1
            refine gen_plain rfl ?_
            go_simp
            exact gr_val (HI.out _ _ _ ⟨q0, kn_known q1 rfl, qa, q2, q3, h3, k8a, k8b, q8, h8⟩)
          · intro vs
            simp only [Act.put, List.setIfInBounds_toArray, List.set_cons_succ, List.set_cons_zero]
            rfl
          refine gen_cons (A' := ?_) (fun vs L u1 hL hw1 => ?_) ?_ ?_
          rotate_left 1
          · obtain ⟨q0, q1, qa, q2, q3, h3, k8a, k8b, q8, h8⟩ := HO.out _ _ _ hw1
            have k8 : Blk u1 G8 28 #[.int .i64 g.k, .int .i64 g.a, .int .i64 g.q, .int .i64 g.s, .int .u64 g.d, .int .i64 g.f] := by
              cases h : L 3
              · exact k8a h
              · exact k8b h
            have y0 := k8.cell 0
            have y1 := k8.cell 1
            have y2 := k8.cell 2
            have y3 := k8.cell 3
            have y4 := k8.cell 4
            have y5 := k8.cell 5
            refine gen_plain rfl ?_
            go_simp
            exact gr_val (HI.out _ _ _ ⟨q0, kn_known q1 rfl, qa, q2, q3, h3, k8a, k8b, q8, h8⟩)
          · intro vs
            simp only [Act.put, List.setIfInBounds_toArray, List.set_cons_succ, List.set_cons_zero]
            rfl
          refine gen_cons (A' := ?_) (fun vs L u1 hL hw1 => ?_) ?_ ?_
          rotate_left 1
          · obtain ⟨q0, q1, qa, q2, q3, h3, k8a, k8b, q8, h8⟩ := HO.out _ _ _ hw1
            have n2 : L 2 = false := hL.1
            have n3 : L 3 = false := by
              cases h : L 3
              · rfl
              · rw [h3 h] at n2; cases n2
            have n8 : L 8 = false := by
              cases h : L 8
              · rfl
              · rw [h8 h] at n3; cases n3
            have l1 : L 1 = true := hL.need 1 (by kernel_rfl)
            have e1 := q1 1 _ rfl l1
            refine gen_plain rfl ?_
            simp only [e1]
            go_simp
            have hg2 := (Below.refl u1.heap.size u1).alloc (Nat.le_refl _) (Obj.cells #[.int .i64 g.k, .int .i64 g.a, .int .i64 g.q, .int .i64 g.s, .int .u64 g.d, .int .i64 g.f] 28)
            exact gr_val (HI.out _ _ _ ⟨below_grows q0 (Nat.le_refl _) hg2, kn_free q1 rfl, (fun h => (qa h).grows hg2), (fun _ _ => ⟨_, rfl, gls_lit u1 g⟩), (fun h => by rw [show L 3 = true from h] at n3; cases n3), (fun h => by rw [show L 3 = true from h] at n3; cases n3), (fun h => (k8a h).grows hg2), (fun h => (k8b h).grows hg2), (fun h => by rw [show L 8 = true from h] at n8; cases n8), (fun h => by rw [show L 8 = true from h] at n8; cases n8)⟩)
          · intro vs
            simp only [Act.put, List.setIfInBounds_toArray, List.set_cons_succ, List.set_cons_zero]
            rfl
          refine gen_cons (A' := ?_) (fun vs L u1 hL hw1 => ?_) ?_ ?_
          rotate_left 1
          · obtain ⟨q0, q1, qa, q2, q3, h3, k8a, k8b, q8, h8⟩ := HO.out _ _ _ hw1
            have n3 : L 3 = false := hL.1
            have n8 : L 8 = false := by
              cases h : L 8
              · rfl
              · rw [h8 h] at n3; cases n3
            have l0 : L 0 = true := hL.need 0 (by kernel_rfl)
            have e0 := q1 0 _ rfl l0
            have l2 : L 2 = true := hL.need 2 (by kernel_rfl)
            obtain ⟨gb, e2, s2⟩ := q2 l2 n3
            have o0 := qa n3
            have k8 := k8a n3
            refine gen_plain rfl ?_
            refine gr_append_gl (.tmp 30) (.tmp 32) rfl (l := p) (m := [g]) rfl e0 o0 e2 s2 (by simp only [List.length_cons, List.length_nil]; omega) q0.size ?_
            intro v3 w3 o3 g3
            have hg2 := o0.below q0 g3 q0.size
            have k8' := k8.grown g3 (own_ne8 o0)
            exact HI.out _ _ _ ⟨hg2, kn_free q1 rfl, (fun h => by cases h), (fun _ h => by cases h), (fun _ => o3), (fun _ => l2), (fun h => by cases h), (fun _ => k8'), (fun h => by rw [show L 8 = true from h] at n8; cases n8), (fun h => by rw [show L 8 = true from h] at n8; cases n8)⟩
          · intro vs
            simp only [Act.put, List.setIfInBounds_toArray, List.set_cons_succ, List.set_cons_zero]
            rfl
          refine gen_cons (A' := ?_) (fun vs L u1 hL hw1 => ?_) ?_ ?_
          rotate_left 1
          · obtain ⟨q0, q1, qa, q2, q3, h3, k8a, k8b, q8, h8⟩ := HO.out _ _ _ hw1
            refine gen_plain rfl ?_
            go_simp
            exact gr_val (HI.out _ _ _ ⟨q0, kn_known q1 rfl, qa, q2, q3, h3, k8a, k8b, q8, h8⟩)
          · intro vs
            simp only [Act.put, List.setIfInBounds_toArray, List.set_cons_succ, List.set_cons_zero]
            rfl
          refine gen_cons (A' := ?_) (fun vs L u1 hL hw1 => ?_) ?_ ?_
          rotate_left 1
          · obtain ⟨q0, q1, qa, q2, q3, h3, k8a, k8b, q8, h8⟩ := HO.out _ _ _ hw1
            refine gen_plain rfl ?_
            go_simp
            exact gr_val (HI.out _ _ _ ⟨q0, kn_known q1 rfl, qa, q2, q3, h3, k8a, k8b, q8, h8⟩)
          · intro vs
            simp only [Act.put, List.setIfInBounds_toArray, List.set_cons_succ, List.set_cons_zero]
            rfl
          refine gen_cons (A' := ?_) (fun vs L u1 hL hw1 => ?_) ?_ ?_
          rotate_left 1
          · obtain ⟨q0, q1, qa, q2, q3, h3, k8a, k8b, q8, h8⟩ := HO.out _ _ _ hw1
            have k8 : Blk u1 G8 28 #[.int .i64 g.k, .int .i64 g.a, .int .i64 g.q, .int .i64 g.s, .int .u64 g.d, .int .i64 g.f] := by
              cases h : L 3
              · exact k8a h
              · exact k8b h
            have y5 := k8.cell 5
            have l5 : L 5 = true := hL.need 5 (by kernel_rfl)
            have e5 := q1 5 _ rfl l5
            refine gen_plain rfl ?_
            simp only [e5]
            go_simp
            exact gr_val (HI.out _ _ _ ⟨q0, kn_known q1 rfl, qa, q2, q3, h3, k8a, k8b, q8, h8⟩)
          · intro vs
            simp only [Act.put, List.setIfInBounds_toArray, List.set_cons_succ, List.set_cons_zero]
            rfl
          refine gen_cons (A' := ?_) (fun vs L u1 hL hw1 => ?_) ?_ ?_
          rotate_left 1
          · obtain ⟨q0, q1, qa, q2, q3, h3, k8a, k8b, q8, h8⟩ := HO.out _ _ _ hw1
            have l4 : L 4 = true := hL.need 4 (by kernel_rfl)
            have e4 := q1 4 _ rfl l4
            have l6 : L 6 = true := hL.need 6 (by kernel_rfl)
            have e6 := q1 6 _ rfl l6
            refine gen_plain rfl ?_
            simp only [e4, e6]
            go_simp
            exact gr_val (HI.out _ _ _ ⟨q0, kn_known q1 rfl, qa, q2, q3, h3, k8a, k8b, q8, h8⟩)
          · intro vs
            simp only [Act.put, List.setIfInBounds_toArray, List.set_cons_succ, List.set_cons_zero]
            rfl
          refine gen_cons (A' := ?_) (fun vs L u1 hL hw1 => ?_) ?_ ?_
          rotate_left 1
          · obtain ⟨q0, q1, qa, q2, q3, h3, k8a, k8b, q8, h8⟩ := HO.out _ _ _ hw1
            have l3 : L 3 = true := hL.need 3 (by kernel_rfl)
            refine gen_plain rfl ?_
            go_simp
            exact gr_val (HI.out _ _ _ ⟨q0, kn_free q1 rfl, qa, q2, q3, h3, k8a, k8b, (fun _ => rfl), (fun _ => l3)⟩)
          · intro vs
            simp only [Act.put, List.setIfInBounds_toArray, List.set_cons_succ, List.set_cons_zero]
            rfl
          refine gen_cons (A' := ?_) (fun vs L u1 hL hw1 => ?_) ?_ ?_
          rotate_left 1
          · obtain ⟨q0, q1, qa, q2, q3, h3, k8a, k8b, q8, h8⟩ := HO.out _ _ _ hw1
            have l7 : L 7 = true := hL.need 7 (by kernel_rfl)
            have e7 := q1 7 _ rfl l7
            refine gen_plain rfl ?_
            simp only [e7]
            go_simp
            exact gr_val (HI.out _ _ _ ⟨q0, kn_known q1 rfl, qa, q2, q3, h3, k8a, k8b, q8, h8⟩)
          · intro vs
            simp only [Act.put, List.setIfInBounds_toArray, List.set_cons_succ, List.set_cons_zero]
            rfl
          refine gen_nil ?_
          intro vs L W2 hall hS
          obtain ⟨hg2, q1, -, -, q3, -, -, -, q8, -⟩ := HO.out _ _ _ hS
          have hown2 := q3 (hall 3 (by simp))
          have e8 := q8 (hall 8 (by simp))
          have e9 := q1 9 _ rfl (hall 9 (by simp))
          rw [← e8] at hown2
          clear hall hS HI HO q1 q3 q8 e8
          clear hown hg k8 hne8 own_ne8 hws
          simp only [e9]
          go_wp2
          go_roundw
          case rel => exact ⟨k + 1, by omega, by go_num, by rw [HE.out, HS.out], by rw [HE.out]; exact hown2, hg2⟩
          case measure => simp [intOf]; omega
    · have e : x0.take k = x0 := List.take_of_length_le (by omega)
      rw [e] at hown hpl hsb
      rw [e]
      have hxs : ∀ y ∈ x0.filter smallG, okG y = true ∧ WfG y := fun y hy => ⟨((smallG_iff y).1 (List.mem_filter.1 hy).2).1, hxw y (List.mem_filter.1 hy).1⟩
      clear e hxw
      replace hB := below_grows hB (Nat.le_refl _) hg
      obtain ⟨A2, c2, rfl, hc2, hx, -⟩ := hown.read
      have HSUM := Lib.hid (mergeG_sum (l := x0.filter smallG) fun y hy => (hxs y hy).1)
      have HID := Lib.hid (mergeG_idem (x0.filter smallG))
      have hyl := mergeG_len (x0.filter smallG)
      have hyo : ∀ y ∈ mergeG (x0.filter smallG), okG y = true := fun y hy => sortG_ok _ y hy
      have HYO := Lib.hid hyo
      have HYW := Lib.hid (mergeG_wf (l := x0.filter smallG) fun y hy => (hxs y hy).2)
      have HXW : Hid (∀ y ∈ x0.filter smallG, WfG y) := Lib.hid fun y hy => (hxs y hy).2
      have HYT : Hid (∀ j, sumF ((mergeG (x0.filter smallG)).take j) ≤ sumF (mergeG (x0.filter smallG))) := Lib.hid fun j => sum_take hyo j
      have HYP : Hid (∀ j, 0 ≤ sumF ((mergeG (x0.filter smallG)).take j)) := Lib.hid fun j => pos_bd fun y hy => hyo y (List.mem_of_mem_take hy)
      have HROT : Hid (∀ k, mergeG ((x0.filter smallG).drop k ++ (x0.filter smallG).take k) = mergeG (x0.filter smallG)) := Lib.hid fun k => mergeG_of_perm (by
        have := List.perm_append_comm (l₁ := (x0.filter smallG).drop k) (l₂ := (x0.filter smallG).take k)
        rwa [List.take_append_drop] at this)
      clear hown hg hxs hyo
      obtain ⟨y, hy0⟩ : ∃ y, mergeG (x0.filter smallG) = y := ⟨_, rfl⟩
      rw [hy0] at HSUM HID hyl HYO HYW HYT HYP
      have HROT2 : Hid (∀ k, mergeG ((x0.filter smallG).drop k ++ (x0.filter smallG).take k) = y) := Lib.hid fun k => (HROT.out k).trans hy0
      have HMX := Lib.hid hy0
      have HID2 : Hid (mergeG y = y) := Lib.hid HID.out
      clear hy0 HROT HID
      generalize x0.filter smallG = x at *
      have hwl : IntKind.i64.wrap ((x.length : Int) + 1) = (x.length : Int) + 1 := IntWalk.i64_in _ (by omega)
      go_wp2_with fail
      refine (mod_any turn ((x.length : Int) + 1) _ (by omega) (by omega)).mono ?_
      rintro e w4 ⟨rfl, rfl⟩
      obtain ⟨k, hk2⟩ : ∃ k : Nat, turn % ((x.length : Int) + 1) = (k : Int) := ⟨(turn % ((x.length : Int) + 1)).toNat, by have := Int.emod_nonneg turn (show ((x.length : Int) + 1) ≠ 0 by omega); omega⟩
      have hkl : k ≤ x.length := by have := Int.emod_lt_of_pos turn (show (0 : Int) < (x.length : Int) + 1 by omega); omega
      simp only [hk2]
      clear hk2 hwl
      go_wp2_with fail
      refine (gmerge_any A2 c2 x _ hx (by omega) HXW.out).mono ?_
      rw [HMX.out]
      rintro e w5 ⟨⟨v5, rfl, hy5⟩, hq⟩
      replace hB := below_grows hB (Nat.le_refl _) hq
      replace hx := hx.grows hq
      clear hq
      obtain ⟨A5, c5, rfl, -, hy, -⟩ := hy5.read
      clear hy5
      obtain ⟨r, hrr⟩ : ∃ r, x.drop k ++ x.take k = r := ⟨_, rfl⟩
      have HR := Lib.hid hrr
      have HRM : Hid (mergeG r = y) := Lib.hid (by rw [← hrr]; exact HROT2.out k)
      have hrl : r.length ≤ 100 := by rw [← hrr, List.length_append, List.length_drop, List.length_take]; omega
      have hrw : ∀ y ∈ r, WfG y := fun z hz => by
        rw [← hrr] at hz
        rcases List.mem_append.1 hz with hz | hz
        · exact HXW.out z (List.mem_of_mem_drop hz)
        · exact HXW.out z (List.mem_of_mem_take hz)
      clear hrr HROT2
      have hkc : k ≤ c2 := by omega
      go_upto_region 13 with fail
      generalize w5 = W at *
      obtain ⟨S, HI, HO⟩ : ∃ S : Ran → (Nat → Value) → World → Prop, Hid (∀ L vs w', (Grows W w' ∧ KnS [none, some (.slice A2 x.length c2), some (.int .i64 (k : Int)), some (.slice (if c2 = k then A2 else Option.map (fun x => x.add (k * 6)) A2) (x.length - k) (c2 - k)), none, some (.slice A2 x.length c2), some (.int .i64 (k : Int)), some (.slice A2 k c2), none, none] L vs ∧ (L 0 = true → L 4 = false → ∃ g0, vs 0 = .slice (some ⟨g0, 0, none⟩) 0 0 ∧ OwnG w' W.heap.size (vs 0) []) ∧ (L 4 = true → L 8 = false → OwnG w' W.heap.size (vs 4) (x.drop k)) ∧ (L 8 = true → L 9 = false → OwnG w' W.heap.size (vs 8) r) ∧ (L 9 = true → OwnG w' W.heap.size (vs 9) y) ∧ (L 4 = true → L 0 = true) ∧ (L 8 = true → L 4 = true) ∧ (L 9 = true → L 8 = true)) → S L vs w') ∧ Hid (∀ L vs w', S L vs w' → (Grows W w' ∧ KnS [none, some (.slice A2 x.length c2), some (.int .i64 (k : Int)), some (.slice (if c2 = k then A2 else Option.map (fun x => x.add (k * 6)) A2) (x.length - k) (c2 - k)), none, some (.slice A2 x.length c2), some (.int .i64 (k : Int)), some (.slice A2 k c2), none, none] L vs ∧ (L 0 = true → L 4 = false → ∃ g0, vs 0 = .slice (some ⟨g0, 0, none⟩) 0 0 ∧ OwnG w' W.heap.size (vs 0) []) ∧ (L 4 = true → L 8 = false → OwnG w' W.heap.size (vs 4) (x.drop k)) ∧ (L 8 = true → L 9 = false → OwnG w' W.heap.size (vs 8) r) ∧ (L 9 = true → OwnG w' W.heap.size (vs 9) y) ∧ (L 4 = true → L 0 = true) ∧ (L 8 = true → L 4 = true) ∧ (L 9 = true → L 8 = true))) := ⟨fun L vs w' => Grows W w' ∧ KnS [none, some (.slice A2 x.length c2), some (.int .i64 (k : Int)), some (.slice (if c2 = k then A2 else Option.map (fun x => x.add (k * 6)) A2) (x.length - k) (c2 - k)), none, some (.slice A2 x.length c2), some (.int .i64 (k : Int)), some (.slice A2 k c2), none, none] L vs ∧ (L 0 = true → L 4 = false → ∃ g0, vs 0 = .slice (some ⟨g0, 0, none⟩) 0 0 ∧ OwnG w' W.heap.size (vs 0) []) ∧ (L 4 = true → L 8 = false → OwnG w' W.heap.size (vs 4) (x.drop k)) ∧ (L 8 = true → L 9 = false → OwnG w' W.heap.size (vs 8) r) ∧ (L 9 = true → OwnG w' W.heap.size (vs 9) y) ∧ (L 4 = true → L 0 = true) ∧ (L 8 = true → L 4 = true) ∧ (L 9 = true → L 8 = true), fun _ _ _ h => h, fun _ _ _ h => h⟩
      refine wp_region_genT S 10 87 (by kernel_rfl) (by kernel_rfl) rfl ?_ ?_
      · exact HI.out _ _ _ ⟨Grows.drew' _, kn_none _ _, (fun h => by cases h), (fun h => by cases h), (fun h => by cases h), (fun h => by cases h), (fun h => by cases h), (fun h => by cases h), (fun h => by cases h)⟩
      simp only [List.take_succ_cons, List.take_zero, List.drop_succ_cons, List.drop_zero]
      refine gent_cons (A' := ?_) (fun vs L u1 hL hw1 => ?_) ?_ ?_
      rotate_left 1
      · obtain ⟨q0, q1, qa, q4, q8, q9, h4, h8, h9⟩ := HO.out _ _ _ hw1
        have n0 : L 0 = false := hL.1
        have n4 : L 4 = false := by
          cases h : L 4
          · rfl
          · rw [h4 h] at n0; cases n0
        have n8 : L 8 = false := by
          cases h : L 8
          · rfl
          · rw [h8 h] at n4; cases n4
        have n9 : L 9 = false := by
          cases h : L 9
          · rfl
          · rw [h9 h] at n8; cases n8
        refine gen_plain rfl ?_
        go_simp
        have hg2 := (Below.refl u1.heap.size u1).alloc (Nat.le_refl _) (Obj.cells #[] 28)
        exact gr_val (HI.out _ _ _ ⟨below_grows q0 (Nat.le_refl _) hg2, kn_free q1 rfl, (fun _ _ => ⟨_, rfl, World.ownsRow_lit u1 #[] 0 q0.size (by simp [maxLen]) rfl⟩), (fun h _ => by rw [show L 4 = true from h] at n4; cases n4), (fun h _ => by rw [show L 8 = true from h] at n8; cases n8), (fun h => by rw [show L 9 = true from h] at n9; cases n9), (fun h => by rw [show L 4 = true from h] at n4; cases n4), (fun h => by rw [show L 8 = true from h] at n8; cases n8), (fun h => by rw [show L 9 = true from h] at n9; cases n9)⟩)
      · intro vs
        simp only [Act.put, List.setIfInBounds_toArray, List.set_cons_succ, List.set_cons_zero]
        rfl
      refine gent_cons (A' := ?_) (fun vs L u1 hL hw1 => ?_) ?_ ?_
      rotate_left 1
      · obtain ⟨q0, q1, qa, q4, q8, q9, h4, h8, h9⟩ := HO.out _ _ _ hw1
        refine gen_plain rfl ?_
        go_simp
        exact gr_val (HI.out _ _ _ ⟨q0, kn_known q1 rfl, qa, q4, q8, q9, h4, h8, h9⟩)
      · intro vs
        simp only [Act.put, List.setIfInBounds_toArray, List.set_cons_succ, List.set_cons_zero]
        rfl
      refine gent_cons (A' := ?_) (fun vs L u1 hL hw1 => ?_) ?_ ?_
      rotate_left 1
      · obtain ⟨q0, q1, qa, q4, q8, q9, h4, h8, h9⟩ := HO.out _ _ _ hw1
        refine gen_plain rfl ?_
        go_simp
        exact gr_val (HI.out _ _ _ ⟨q0, kn_known q1 rfl, qa, q4, q8, q9, h4, h8, h9⟩)
      · intro vs
        simp only [Act.put, List.setIfInBounds_toArray, List.set_cons_succ, List.set_cons_zero]
        rfl
      refine gent_cons (A' := ?_) (fun vs L u1 hL hw1 => ?_) ?_ ?_
      rotate_left 1
      · obtain ⟨q0, q1, qa, q4, q8, q9, h4, h8, h9⟩ := HO.out _ _ _ hw1
        have l1 : L 1 = true := hL.need 1 (by kernel_rfl)
        have e1 := q1 1 _ rfl l1
        have l2 : L 2 = true := hL.need 2 (by kernel_rfl)
        have e2 := q1 2 _ rfl l2
        refine gen_plain rfl ?_
        simp only [e1, e2]
        go_simp
        exact gr_val (HI.out _ _ _ ⟨q0, kn_known q1 rfl, qa, q4, q8, q9, h4, h8, h9⟩)
      · intro vs
        simp only [Act.put, List.setIfInBounds_toArray, List.set_cons_succ, List.set_cons_zero]
        rfl
      refine gent_cons (A' := ?_) (fun vs L u1 hL hw1 => ?_) ?_ ?_
      rotate_left 1
      · obtain ⟨q0, q1, qa, q4, q8, q9, h4, h8, h9⟩ := HO.out _ _ _ hw1
        have n4 : L 4 = false := hL.1
        have n8 : L 8 = false := by
          cases h : L 8
          · rfl
          · rw [h8 h] at n4; cases n4
        have n9 : L 9 = false := by
          cases h : L 9
          · rfl
          · rw [h9 h] at n8; cases n8
        have l0 : L 0 = true := hL.need 0 (by kernel_rfl)
        obtain ⟨g0, e0, o0⟩ := qa l0 n4
        have l3 : L 3 = true := hL.need 3 (by kernel_rfl)
        have e3 := q1 3 _ rfl l3
        refine gen_plain rfl ?_
        refine gr_append_gl (.tmp 46) (.tmp 49) rfl (l := []) (m := x.drop k) (by rw [List.length_drop]) rfl o0 e3 (gls_drop (hx.grows q0) hkl hc2) (by simp only [List.length_nil, List.length_drop]; omega) q0.size ?_
        intro v3 w3 o3 g3
        rw [List.nil_append] at o3
        have hg2 := o0.below q0 g3 q0.size
        exact HI.out _ _ _ ⟨hg2, kn_free q1 rfl, (fun _ h => by cases h), (fun _ _ => o3), (fun h _ => by rw [show L 8 = true from h] at n8; cases n8), (fun h => by rw [show L 9 = true from h] at n9; cases n9), (fun _ => l0), (fun h => by rw [show L 8 = true from h] at n8; cases n8), (fun h => by rw [show L 9 = true from h] at n9; cases n9)⟩
      · intro vs
        simp only [Act.put, List.setIfInBounds_toArray, List.set_cons_succ, List.set_cons_zero]
        rfl
      refine gent_cons (A' := ?_) (fun vs L u1 hL hw1 => ?_) ?_ ?_
      rotate_left 1
      · obtain ⟨q0, q1, qa, q4, q8, q9, h4, h8, h9⟩ := HO.out _ _ _ hw1
        refine gen_plain rfl ?_
        go_simp
        exact gr_val (HI.out _ _ _ ⟨q0, kn_known q1 rfl, qa, q4, q8, q9, h4, h8, h9⟩)
      · intro vs
        simp only [Act.put, List.setIfInBounds_toArray, List.set_cons_succ, List.set_cons_zero]
        rfl
      refine gent_cons (A' := ?_) (fun vs L u1 hL hw1 => ?_) ?_ ?_
      rotate_left 1
      · obtain ⟨q0, q1, qa, q4, q8, q9, h4, h8, h9⟩ := HO.out _ _ _ hw1
        refine gen_plain rfl ?_
        go_simp
        exact gr_val (HI.out _ _ _ ⟨q0, kn_known q1 rfl, qa, q4, q8, q9, h4, h8, h9⟩)
      · intro vs
        simp only [Act.put, List.setIfInBounds_toArray, List.set_cons_succ, List.set_cons_zero]
        rfl
      refine gent_cons (A' := ?_) (fun vs L u1 hL hw1 => ?_) ?_ ?_
      rotate_left 1
      · obtain ⟨q0, q1, qa, q4, q8, q9, h4, h8, h9⟩ := HO.out _ _ _ hw1
        have l5 : L 5 = true := hL.need 5 (by kernel_rfl)
        have e5 := q1 5 _ rfl l5
        have l6 : L 6 = true := hL.need 6 (by kernel_rfl)
        have e6 := q1 6 _ rfl l6
        refine gen_plain rfl ?_
        simp only [e5, e6]
        go_simp
        exact gr_val (HI.out _ _ _ ⟨q0, kn_known q1 rfl, qa, q4, q8, q9, h4, h8, h9⟩)
      · intro vs
        simp only [Act.put, List.setIfInBounds_toArray, List.set_cons_succ, List.set_cons_zero]
        rfl
      refine gent_cons (A' := ?_) (fun vs L u1 hL hw1 => ?_) ?_ ?_
      rotate_left 1
      · obtain ⟨q0, q1, qa, q4, q8, q9, h4, h8, h9⟩ := HO.out _ _ _ hw1
        have n8 : L 8 = false := hL.1
        have n9 : L 9 = false := by
          cases h : L 9
          · rfl
          · rw [h9 h] at n8; cases n8
        have l4 : L 4 = true := hL.need 4 (by kernel_rfl)
        have o4 := q4 l4 n8
        have l7 : L 7 = true := hL.need 7 (by kernel_rfl)
        have e7 := q1 7 _ rfl l7
        refine gen_plain rfl ?_
        refine gr_append_gl (.tmp 50) (.tmp 53) rfl (l := x.drop k) (m := x.take k) (by rw [List.length_take]; omega) rfl o4 e7 (gls_take (hx.grows q0) k) (by simp only [List.length_take, List.length_drop]; omega) q0.size ?_
        intro v3 w3 o3 g3
        rw [HR.out] at o3
        have hg2 := o4.below q0 g3 q0.size
        exact HI.out _ _ _ ⟨hg2, kn_free q1 rfl, (fun _ h => by rw [show L 4 = false from h] at l4; cases l4), (fun _ h => by cases h), (fun _ _ => o3), (fun h => by rw [show L 9 = true from h] at n9; cases n9), h4, (fun _ => l4), (fun h => by rw [show L 9 = true from h] at n9; cases n9)⟩
      · intro vs
        simp only [Act.put, List.setIfInBounds_toArray, List.set_cons_succ, List.set_cons_zero]
        rfl
      refine gent_cons (A' := ?_) (fun vs L u1 hL hw1 => ?_) ?_ ?_
      rotate_left 1
      · obtain ⟨q0, q1, qa, q4, q8, q9, h4, h8, h9⟩ := HO.out _ _ _ hw1
        have n9 : L 9 = false := hL.1
        have l8 : L 8 = true := hL.need 8 (by kernel_rfl)
        have o8 := q8 l8 n9
        obtain ⟨A8, c8, e8, -, s8, -⟩ := o8.read
        refine gen_plain rfl ?_
        simp only [e8]
        go_simp
        refine gr_call ?_
        refine (gmerge_any A8 c8 r u1 s8 (by omega) hrw).mono ?_
        rw [HRM.out]
        rintro e w2 ⟨⟨v, rfl, o9⟩, hg2⟩
        exact ⟨_, rfl, HI.out _ _ _ ⟨below_grows q0 (Nat.le_refl _) hg2, kn_free q1 rfl, (fun h h0 => by rw [show L 4 = false from h0] at h8; exact absurd (h8 l8) (by simp)), (fun h h0 => by rw [show L 8 = false from h0] at l8; cases l8), (fun _ h => by cases h), (fun _ => o9.mono q0.size), h4, h8, (fun _ => l8)⟩⟩
      · intro vs
        simp only [Act.put, List.setIfInBounds_toArray, List.set_cons_succ, List.set_cons_zero]
        rfl
      refine gent_nil ?_
      intro vs L W2 hall hS
      obtain ⟨hq, -, -, -, -, q9, -, -, -⟩ := HO.out _ _ _ hS
      have hz := q9 (hall 9 (by omega))
      clear hall hS HI HO q9
      replace hB := below_grows hB (Nat.le_refl _) hq
      replace hy := hy.grows hq
      obtain ⟨A11, c11, e11, -, hz11, -⟩ := hz.read
      simp only [e11]
      clear hq hx HR HRM hrl hrw hz e11 HXW
      go_wp2_with fail
      generalize W2 = Wz at *
      go_loopw [6, 58] (fun s i wr => ∃ j : Nat, j ≤ y.length ∧ i = .int .i64 j ∧ s = .int .i64 (sumF x - sumF (y.take j)) ∧ Grows Wz wr) (fun _ i _ => y.length - (intOf i).toNat)
      case atStart => exact ⟨0, Nat.zero_le _, rfl, by simp [sumF], Below.refl _ _⟩
      case round =>
        obtain ⟨j, hj, rfl, rfl, hg⟩ := hrel
        have h1 := HYT.out j
        have h2 := HYP.out j
        rw [HSUM.out] at h1
        by_cases hlt2 : j < y.length
        · obtain ⟨ad, g, rfl, had, hgy, d0, d1, d2, d3, d4, d5⟩ := (hy.grows hg).elem hlt2
          have h3 := HYT.out (j + 1)
          have h4 : sumF (y.take (j + 1)) = sumF (y.take j) + g.f := by rw [take_snoc hgy, sumF_append]; simp [sumF]
          rw [HSUM.out, h4] at h3
          have H4 := Lib.hid h4
          have hgf : 1 ≤ g.f := by
            have := HYO.out g (List.mem_of_getElem? hgy)
            obtain ⟨gk, ga, gq, gs, gd, gf⟩ := g
            exact (okG_bd this).2.2.2.2.1
          clear hgy h4
          generalize sumF (y.take j) = sj at *
          generalize sumF x = sx at *
          have hw1 : IntKind.i64.wrap (sx - sj - g.f) = sx - sj - g.f := IntWalk.i64_in _ (by omega)
          have k13 := Blk.new wr 28 #[.int .i64 g.k, .int .i64 g.a, .int .i64 g.q, .int .i64 g.s, .int .u64 g.d, .int .i64 g.f]
          have hq := (Below.refl wr.heap.size wr).alloc (Nat.le_refl _) (Obj.cells #[.int .i64 g.k, .int .i64 g.a, .int .i64 g.q, .int .i64 g.s, .int .u64 g.d, .int .i64 g.f] 28)
          go_upto_region 17 with fail
          clear d0 d1 d2 d3 d4 d5 had
          replace hg := below_grows hg (Nat.le_refl _) hq
          clear hq
          generalize World.alloc wr _ = w6 at *
          generalize wr.heap.size = G13 at *
          have x5 := k13.cell 5
          go_wp2
          go_roundw
          case rel => exact ⟨j + 1, by omega, by go_num, by rw [H4.out]; go_num, hg⟩
          case measure => simp [intOf]; omega
        · have e : y.take j = y := List.take_of_length_le (by omega)
          rw [e, HSUM.out]
          have e0 : sumF x - sumF x = 0 := by omega
          rw [e0]
          clear e e0 h1 h2
          replace hB := below_grows hB (Nat.le_refl _) hg
          replace hy := hy.grows hg
          replace hz11 := hz11.grows hg
          go_wp2_with fail
          refine (gsame_eq A5 A11 c5 c11 y _ hy hz11 (by omega)).mono ?_
          rintro e w7 ⟨rfl, hq⟩
          replace hB := below_grows hB (Nat.le_refl _) hq
          replace hy := hy.grows hq
          clear hq
          go_wp2_with fail
          refine (gmerge_any A5 c5 y _ hy (by omega) HYW.out).mono ?_
          rw [HID2.out]
          rintro e w8 ⟨⟨v8, rfl, ho8⟩, hq⟩
          replace hB := below_grows hB (Nat.le_refl _) hq
          replace hy := hy.grows hq
          clear hq
          obtain ⟨A8, c8, rfl, -, h8, -⟩ := ho8.read
          go_wp2_with fail
          refine (gsame_eq A8 A5 c8 c5 y _ h8 hy (by omega)).mono ?_
          rintro e w9 ⟨rfl, hq⟩
          replace hB := below_grows hB (Nat.le_refl _) hq
          clear hq ho8 h8 hy
          go_wp2
          go_ret
          exact ⟨rfl, hB⟩
end GlitchSums
namespace GlitchSums
theorem contract (H : Type) (enc : TypeId × Value → H) (W : World) (base : Nat) (args : Array Value) (ds gs : List (DataW H)) (before : List MemPlace)
    (hval0 : ∀ (j : Nat) t v, Try.f3.params[j]? = some t → args[j]? = some v → Value.okWide Try.prog W .any base t v)
    (hW : DataW.Whole enc Try.prog Try.f3.params.toList Rows.glitchSumsSpec.vars false W args.toList ds gs before)
    (hsz0 : (DataW.weightsEach Try.prog (Try.f3.params.toList ++ Rows.glitchSumsSpec.plain.varTypes Try.prog) (ds ++ gs)).all (· ≤ reachBytes) = true) :
    Calls Try.prog 3 args W fun e W' => ∃ v, e = .returned v ∧ Rows.glitchSumsSpec.post enc Try.prog Try.f3 false true false false W args v W' := by
  have key : Calls Try.prog 3 args W fun e W' => e = .returned (.bool true) ∧ Below W.heap.size W W' := by
    have hval : ∀ (j : Nat) t v, Try.f3.params[j]? = some t → args[j]? = some v → Value.okWide Try.prog W .any base t v := hval0
    obtain ⟨p, q, hA0, hV, hbe, hfz, hnd⟩ := hW
    have hA : DataW.TrodAll enc Try.prog W 0 (fun _ => true) true Try.f3.params.toList args.toList ds p := hA0
    rw [Try.params3] at hA hval
    clear hA0 hval0
    obtain ⟨v0, vs0, d0, ds0, p0, q0, hargs, rfl, rfl, h0, r0⟩ := trodAll_cons hA
    obtain ⟨v1, vs1, d1, ds1, p1, q1, rfl, rfl, rfl, h1, r1⟩ := trodAll_cons r0
    obtain ⟨rfl, rfl, rfl⟩ := trodAll_nil r1
    obtain rfl : args = #[v0, v1] := by cases args; simp_all
    obtain ⟨rfl, rfl⟩ := trodVars_none hV
    have hsz : (DataW.weightsEach Try.prog (Try.f3.params.toList ++ Rows.glitchSumsSpec.plain.varTypes Try.prog) ([d0, d1] ++ [])).all (· ≤ reachBytes) = true := hsz0
    rw [Try.params3] at hsz
    clear hsz0
    obtain ⟨A, c, l, rfl, hI0, hl0, _⟩ := open_slice_ints Try.underlying22 Try.underlying3 (by kernel_rfl) (hval 0 22 v0 rfl rfl) h0
    obtain ⟨a1, rfl, rfl, rfl, w1⟩ := open_int Try.underlying3 (hval 1 3 v1 rfl rfl) h1
    exact GlitchSums.walk A c l a1 W hI0 hl0 (i64_bd w1)
  refine key.mono fun e W' ⟨he, hb⟩ => ⟨_, he, law_post laid_out hW ?_ rfl (by kernel_rfl) Try.underlying4 ?_ hb⟩
  · rw [Try.params3]
    intro t ht
    simp only [List.mem_cons, List.not_mem_nil, or_false] at ht
    rcases ht with rfl | rfl <;> exact ⟨by kernel_rfl, of_decide_eq_true (by kernel_rfl)⟩
  · rw [Try.params3]
    intro ds hl
    match ds, hl with
    | [_, _], _ => rfl

set_option maxRecDepth 100000 in
theorem lifted (os : Os) (started : os.Started) (H : Type) (enc : TypeId × Value → H) :
    ReturnsInHanded {} Try.checked os 3 .any (Rows.glitchSumsSpec.pre6 enc Try.prog Try.f3 Rows.glitchSumsRow.domain false) (Rows.glitchSumsSpec.post enc Try.prog Try.f3 false true false false) := by
  refine returnsInHanded_of_change_sized (C := Try.checked) own_knob started (by kernel_rfl) Try.func3
    (ChangeSpec.witness6 (enc := enc) (C := Try.checked) false ⟨#[], #[.slice none 0 0, .int .i64 0], []⟩ 8 (by kernel_rfl) (by kernel_rfl) (by kernel_rfl) (by kernel_rfl)) ?_
  intro W base args ds gs before hval0 hW _ hsz0 _
  exact contract H enc W base args ds gs before hval0 hW hsz0

theorem over : Rows.glitchSumsRow.holds Try.pinned (OpenSpec.ofChange Rows.glitchSumsSpec) :=
  OpenClaim.holds_of_wide 3 Try.f3 rfl rfl rfl rfl rfl rfl rfl ⟨rfl, rfl, rfl, rfl, rfl⟩ rfl rfl rfl rfl rfl (by kernel_rfl) Try.func3 (by kernel_rfl)
    (of_decide_eq_true (by kernel_rfl)) (by unfold Func.isWrapper; first | (rw [if_pos (by decide +kernel)]; kernel_rfl) | (rw [if_neg (by decide +kernel)]; exact ⟨rfl, rfl⟩))
    (fun os started H enc _ => lifted os started H enc)

/-- The given statement. -/
theorem proved : Rows.GlitchSumsSaid := over
end GlitchSums
#print axioms GlitchSums.proved
end Go.Proofs.Ytbmoiokpkcaccaa
