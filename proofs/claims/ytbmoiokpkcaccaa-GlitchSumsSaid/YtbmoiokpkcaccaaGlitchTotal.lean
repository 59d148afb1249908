/-
  GlitchTotal, for every input: the law returns true, and each argument reads behind the call as it read before. No condition.
-/
import Derived.Test.YtbmoiokpkcaccaaGsG
import Derived.Test.YtbmoiokpkcaccaaOpen
import Derived.Test.YtbmoiokpkcaccaaRowY
import Derived.Test.YtbmoiokpkcaccaaFrame
import Derived.Test.YtbmoiokpkcaccaaSlice
namespace Go.Proofs.Ytbmoiokpkcaccaa
open Go.ChangeShapes Go.WideShapes Go.ChangeAt Go.RowKit
theorem less_is (g h : Gl) (w : World) {b : Bool} (hb : lessG g h = b) : Calls Try.prog 15 #[.agg #[.int .i64 g.k, .int .i64 g.a, .int .i64 g.q, .int .i64 g.s, .int .u64 g.d, .int .i64 g.f], .agg #[.int .i64 h.k, .int .i64 h.a, .int .i64 h.q, .int .i64 h.s, .int .u64 h.d, .int .i64 h.f]] w fun e w' => e = .returned (.bool b) ∧ Grows w w' := by rw [← hb]; exact less_any g h w
theorem eql_gl (g h : Gl) (w : World) : (binOp .eql 28 (.agg g.cs) (.agg h.cs)).run Try.prog w = .ok (.bool (decide (g = h))) w := by
  obtain ⟨k, a, q, s, d, f⟩ := g
  obtain ⟨kk, aa, qq, ss, dd, ff⟩ := h
  simp only [Gl.cs, Gl.mk.injEq]
  by_cases h0 : k = kk
  · subst h0
    by_cases h1 : a = aa
    · subst h1
      by_cases h2 : q = qq
      · subst h2
        by_cases h3 : s = ss
        · subst h3
          by_cases h4 : d = dd
          · subst h4
            by_cases h5 : f = ff
            · subst h5
              go_simp
            · go_simp
          · go_simp
        · go_simp
      · go_simp
    · go_simp
  · go_simp
theorem neq_gl (g h : Gl) (w : World) : (binOp .neq 28 (.agg g.cs) (.agg h.cs)).run Try.prog w = .ok (.bool (!decide (g = h))) w := by
  have := eql_gl g h w
  simp only [binOp] at this ⊢
  revert this
  cases hE : (Op.equal 28 (.agg g.cs) (.agg h.cs)).run Try.prog w <;> simp [hE]
theorem eql_gl_same (g : Gl) (w : World) : (binOp .eql 28 (.agg g.cs) (.agg g.cs)).run Try.prog w = .ok (.bool true) w := by rw [eql_gl, decide_eq_true rfl]
theorem neq_gl_same (g : Gl) (w : World) : (binOp .neq 28 (.agg g.cs) (.agg g.cs)).run Try.prog w = .ok (.bool false) w := by rw [neq_gl, decide_eq_true rfl]; rfl
theorem eql_gl_ne {g h : Gl} (e : g ≠ h) (w : World) : (binOp .eql 28 (.agg g.cs) (.agg h.cs)).run Try.prog w = .ok (.bool false) w := by rw [eql_gl, decide_eq_false e]
theorem neq_gl_ne {g h : Gl} (e : g ≠ h) (w : World) : (binOp .neq 28 (.agg g.cs) (.agg h.cs)).run Try.prog w = .ok (.bool true) w := by rw [neq_gl, decide_eq_false e]; rfl
namespace GlitchTotal
set_option maxRecDepth 100000 in
set_option maxHeartbeats 8000000 in
theorem walk (A : Option Addr) (c : Nat) (l : List Int) (w : World) (hI : Ints w A l) (hl : l.length ≤ 9223372036854775807) :
    Calls Try.prog 5 #[.slice A l.length c] w fun e w' => e = .returned (.bool true) ∧ Below w.heap.size w w' := by
  have hB := Below.refl w.heap.size w
  go_enter Try.func5, Try.ntmps5
  go_wp2_with fail
  refine (gsane_any _).mono ?_
  rintro e w2 ⟨rfl, hq⟩
  replace hB := below_grows hB (Nat.le_refl _) hq
  replace hI := Reads.grows hI hq
  clear hq
  go_wp2_with fail
  refine (gmade_any A c l _ hI hl).mono ?_
  rintro e W ⟨⟨v, x, rfl, hown, hx11, -⟩, hq⟩
  replace hB := below_grows hB (Nat.le_refl _) hq
  clear hq hI
  obtain ⟨A2, c2, rfl, hc2, hr, -⟩ := hown.read
  clear hown
  go_wp2_with fail
  go_loopw [16] (fun i wr => ∃ k : Nat, k ≤ x.length ∧ i = .int .i64 k ∧ Grows W wr) (fun i _ => x.length - (intOf i).toNat)
  case atStart => exact ⟨0, Nat.zero_le _, rfl, Below.refl _ _⟩
  case round =>
    obtain ⟨k, hk, rfl, hg⟩ := hrel
    by_cases hlt : k < x.length
    rotate_left
    · replace hB := below_grows hB (Nat.le_refl _) hg
      go_wp2
      go_ret
      exact ⟨rfl, hB⟩
    obtain ⟨ad, a, rfl, had, hxa, c0, c1, c2', c3, c4, c5⟩ := (hr.grows hg).elem hlt
    have HXA := Lib.hid hxa
    clear hxa
    have k5 := Blk.new wr 28 #[.int .i64 a.k, .int .i64 a.a, .int .i64 a.q, .int .i64 a.s, .int .u64 a.d, .int .i64 a.f]
    have hq := (Below.refl wr.heap.size wr).alloc (Nat.le_refl _) (Obj.cells #[.int .i64 a.k, .int .i64 a.a, .int .i64 a.q, .int .i64 a.s, .int .u64 a.d, .int .i64 a.f] 28)
    go_upto_region 7 with fail
    clear c0 c1 c2' c3 c4 c5 had
    replace hg := below_grows hg (Nat.le_refl _) hq
    clear hq
    generalize World.alloc wr _ = wa at *
    generalize wr.heap.size = G5 at *
    go_wp2_with fail
    go_loopw [22] (fun i wr => ∃ j : Nat, j ≤ x.length ∧ i = .int .i64 j ∧ Grows wa wr) (fun i _ => x.length - (intOf i).toNat)
    case atStart => exact ⟨0, Nat.zero_le _, rfl, Below.refl _ _⟩
    case round =>
      have HG := Lib.hid hg
      clear hg
      obtain ⟨j, hj, rfl, hg⟩ := hrel
      by_cases hlt2 : j < x.length
      rotate_left
      · have hgo := below_grows HG.out (Nat.le_refl _) hg
        clear hg HG k5
        go_wp2
        go_roundw
        case rel => exact ⟨k + 1, by omega, by go_num, hgo⟩
        case measure => simp [intOf]; omega
      replace k5 := k5.grows hg
      obtain ⟨ad', b, e, had, hxb, c0, c1, c2', c3, c4, c5⟩ := (hr.grows (below_grows HG.out (Nat.le_refl _) hg)).elem hlt2
      injection e with e
      subst e
      have HXB := Lib.hid hxb
      clear hxb
      have k7 := Blk.new wr 28 #[.int .i64 b.k, .int .i64 b.a, .int .i64 b.q, .int .i64 b.s, .int .u64 b.d, .int .i64 b.f]
      have hq := (Below.refl wr.heap.size wr).alloc (Nat.le_refl _) (Obj.cells #[.int .i64 b.k, .int .i64 b.a, .int .i64 b.q, .int .i64 b.s, .int .u64 b.d, .int .i64 b.f] 28)
      go_upto_region 10 with fail
      clear c0 c1 c2' c3 c4 c5 had
      replace hg := below_grows hg (Nat.le_refl _) hq
      replace k5 := k5.grows hq
      clear hq
      generalize World.alloc wr _ = wb at *
      generalize wr.heap.size = G7 at *
      cases hab : lessG a b
      · cases hba : lessG b a
        · have e := lessG_total hab hba
          subst e
          have HAB := Lib.hid hab
          clear hab hba
          refine wp_region_lit ?_
          refine wpList_load_rowg (by first | rfl | kernel_rfl) _ rfl rfl k5 Try.underlying28 rfl ginfo6 ?_
          refine wpList_load_rowg (by first | rfl | kernel_rfl) _ rfl rfl k7 Try.underlying28 rfl ginfo6 ?_
          refine BigFrame.wpList_want (by first | rfl | kernel_rfl) (fun K hK => ?_)
          go_simp
          refine (less_is a a _ HAB.out).mono ?_
          rintro e wc1 ⟨rfl, hq⟩
          refine hK _ _ ?_
          clear hK K
          replace k5 := k5.grows hq
          replace k7 := k7.grows hq
          replace hg := below_grows hg (Nat.le_refl _) hq
          clear hq
          refine BigFrame.wpList_want (by first | rfl | kernel_rfl) (fun K hK => ?_)
          go_simp
          refine hK _ _ ?_
          clear hK K
          refine wpList_skip (by first | rfl | kernel_rfl) ?_
          refine wpList_skip (by first | rfl | kernel_rfl) ?_
          refine wpList_skip (by first | rfl | kernel_rfl) ?_
          refine BigFrame.wpList_want (by first | rfl | kernel_rfl) (fun K hK => ?_)
          go_simp
          refine hK _ _ ?_
          clear hK K
          refine BigFrame.wpList_want (by first | rfl | kernel_rfl) (fun K hK => ?_)
          go_simp
          refine hK _ _ ?_
          clear hK K
          refine wpList_load_rowg (by first | rfl | kernel_rfl) _ rfl rfl k5 Try.underlying28 rfl ginfo6 ?_
          refine wpList_load_rowg (by first | rfl | kernel_rfl) _ rfl rfl k7 Try.underlying28 rfl ginfo6 ?_
          refine wpList_ran (by first | rfl | kernel_rfl) (ran_bin (.tmp 35) (.tmp 36) rfl rfl rfl (by kernel_rfl) (neq_gl_same a _)) ?_
          refine BigFrame.wpList_want (by first | rfl | kernel_rfl) (fun K hK => ?_)
          go_simp
          refine hK _ _ ?_
          clear hK K
          refine wpList_skip (by first | rfl | kernel_rfl) ?_
          refine wpList_skip (by first | rfl | kernel_rfl) ?_
          refine wpList_skip (by first | rfl | kernel_rfl) ?_
          refine wpList_skip (by first | rfl | kernel_rfl) ?_
          refine BigFrame.wpList_want (by first | rfl | kernel_rfl) (fun K hK => ?_)
          go_simp
          refine hK _ _ ?_
          clear hK K
          refine BigFrame.wpList_want (by first | rfl | kernel_rfl) (fun K hK => ?_)
          go_simp
          refine hK _ _ ?_
          clear hK K
          refine wpList_skip (by first | rfl | kernel_rfl) ?_
          refine wpList_skip (by first | rfl | kernel_rfl) ?_
          refine wpList_skip (by first | rfl | kernel_rfl) ?_
          refine wpList_skip (by first | rfl | kernel_rfl) ?_
          refine BigFrame.wpList_want (by first | rfl | kernel_rfl) (fun K hK => ?_)
          go_simp
          refine hK _ _ ?_
          clear hK K
          refine BigFrame.wpList_want (by first | rfl | kernel_rfl) (fun K hK => ?_)
          go_simp
          refine hK _ _ ?_
          clear hK K
          refine BigFrame.wpList_want (by first | rfl | kernel_rfl) (fun K hK => ?_)
          go_simp
          refine hK _ _ ?_
          clear hK K
          refine wpList_load_rowg (by first | rfl | kernel_rfl) _ rfl rfl k5 Try.underlying28 rfl ginfo6 ?_
          refine wpList_load_rowg (by first | rfl | kernel_rfl) _ rfl rfl k7 Try.underlying28 rfl ginfo6 ?_
          refine wpList_ran (by first | rfl | kernel_rfl) (ran_bin (.tmp 52) (.tmp 53) rfl rfl rfl (by kernel_rfl) (eql_gl_same a _)) ?_
          refine BigFrame.wpList_want (by first | rfl | kernel_rfl) (fun K hK => ?_)
          go_simp
          refine hK _ _ ?_
          clear hK K
          refine wpList_load_rowg (by first | rfl | kernel_rfl) _ rfl rfl k5 Try.underlying28 rfl ginfo6 ?_
          refine wpList_load_rowg (by first | rfl | kernel_rfl) _ rfl rfl k7 Try.underlying28 rfl ginfo6 ?_
          refine BigFrame.wpList_want (by first | rfl | kernel_rfl) (fun K hK => ?_)
          go_simp
          refine (less_is a a _ HAB.out).mono ?_
          rintro e wc2 ⟨rfl, hq⟩
          refine hK _ _ ?_
          clear hK K
          replace k5 := k5.grows hq
          replace k7 := k7.grows hq
          replace hg := below_grows hg (Nat.le_refl _) hq
          clear hq
          refine BigFrame.wpList_want (by first | rfl | kernel_rfl) (fun K hK => ?_)
          go_simp
          refine hK _ _ ?_
          clear hK K
          refine BigFrame.wpList_want (by first | rfl | kernel_rfl) (fun K hK => ?_)
          go_simp
          refine hK _ _ ?_
          clear hK K
          go_upto_region 12 with fail
          go_wp2_with fail
          generalize wc2 = wc at *
          go_loopw [63] (fun i wr => ∃ n : Nat, n ≤ x.length ∧ i = .int .i64 n ∧ Grows wc wr) (fun i _ => x.length - (intOf i).toNat)
          case atStart => exact ⟨0, Nat.zero_le _, rfl, Below.refl _ _⟩
          case round =>
            have HH := Lib.hid hg
            clear hg
            obtain ⟨n, hn, rfl, hg⟩ := hrel
            by_cases hlt3 : n < x.length
            rotate_left
            · have hgo := below_grows HH.out (Nat.le_refl _) hg
              clear hg HH k5 k7
              go_wp2
              go_roundw
              case rel => exact ⟨j + 1, by omega, by go_num, hgo⟩
              case measure => simp [intOf]; omega
            replace k5 := k5.grows hg
            replace k7 := k7.grows hg
            obtain ⟨ad', cc, e, had, hxc, c0, c1, c2', c3, c4, c5⟩ := (hr.grows (below_grows HG.out (Nat.le_refl _) (below_grows HH.out (Nat.le_refl _) hg))).elem hlt3
            injection e with e
            subst e
            clear hxc
            have k9 := Blk.new wr 28 #[.int .i64 cc.k, .int .i64 cc.a, .int .i64 cc.q, .int .i64 cc.s, .int .u64 cc.d, .int .i64 cc.f]
            have hq := (Below.refl wr.heap.size wr).alloc (Nat.le_refl _) (Obj.cells #[.int .i64 cc.k, .int .i64 cc.a, .int .i64 cc.q, .int .i64 cc.s, .int .u64 cc.d, .int .i64 cc.f] 28)
            go_upto_region 15 with fail
            clear c0 c1 c2' c3 c4 c5 had
            replace hg := below_grows hg (Nat.le_refl _) hq
            replace k5 := k5.grows hq
            replace k7 := k7.grows hq
            clear hq
            generalize World.alloc wr _ = wd at *
            generalize wr.heap.size = G9 at *
            refine wp_region_lit ?_
            refine wpList_load_rowg (by first | rfl | kernel_rfl) _ rfl rfl k5 Try.underlying28 rfl ginfo6 ?_
            refine wpList_load_rowg (by first | rfl | kernel_rfl) _ rfl rfl k7 Try.underlying28 rfl ginfo6 ?_
            refine BigFrame.wpList_want (by first | rfl | kernel_rfl) (fun K hK => ?_)
            go_simp
            refine (less_is a a _ HAB.out).mono ?_
            rintro e we1 ⟨rfl, hq⟩
            refine hK _ _ ?_
            clear hK K
            replace k5 := k5.grows hq
            replace k7 := k7.grows hq
            replace k9 := k9.grows hq
            replace hg := below_grows hg (Nat.le_refl _) hq
            clear hq
            refine BigFrame.wpList_want (by first | rfl | kernel_rfl) (fun K hK => ?_)
            go_simp
            refine hK _ _ ?_
            clear hK K
            refine wpList_skip (by first | rfl | kernel_rfl) ?_
            refine wpList_skip (by first | rfl | kernel_rfl) ?_
            refine wpList_skip (by first | rfl | kernel_rfl) ?_
            refine BigFrame.wpList_want (by first | rfl | kernel_rfl) (fun K hK => ?_)
            go_simp
            refine hK _ _ ?_
            clear hK K
            refine BigFrame.wpList_want (by first | rfl | kernel_rfl) (fun K hK => ?_)
            go_simp
            refine hK _ _ ?_
            clear hK K
            refine wpList_skip (by first | rfl | kernel_rfl) ?_
            refine wpList_skip (by first | rfl | kernel_rfl) ?_
            refine wpList_skip (by first | rfl | kernel_rfl) ?_
            refine wpList_skip (by first | rfl | kernel_rfl) ?_
            refine BigFrame.wpList_want (by first | rfl | kernel_rfl) (fun K hK => ?_)
            go_simp
            refine hK _ _ ?_
            clear hK K
            clear k5 k7 k9
            go_wp2
            go_roundw
            case rel => exact ⟨n + 1, by omega, by go_num, hg⟩
            case measure => simp [intOf]; omega
        · have HAB := Lib.hid hab
          have HBA := Lib.hid hba
          have HNE : Hid (a ≠ b) := Lib.hid (by rintro rfl; rw [lessG_irrefl] at hba; cases hba)
          clear hab hba
          refine wp_region_lit ?_
          refine wpList_load_rowg (by first | rfl | kernel_rfl) _ rfl rfl k5 Try.underlying28 rfl ginfo6 ?_
          refine wpList_load_rowg (by first | rfl | kernel_rfl) _ rfl rfl k7 Try.underlying28 rfl ginfo6 ?_
          refine BigFrame.wpList_want (by first | rfl | kernel_rfl) (fun K hK => ?_)
          go_simp
          refine (less_is a b _ HAB.out).mono ?_
          rintro e wc1 ⟨rfl, hq⟩
          refine hK _ _ ?_
          clear hK K
          replace k5 := k5.grows hq
          replace k7 := k7.grows hq
          replace hg := below_grows hg (Nat.le_refl _) hq
          clear hq
          refine BigFrame.wpList_want (by first | rfl | kernel_rfl) (fun K hK => ?_)
          go_simp
          refine hK _ _ ?_
          clear hK K
          refine wpList_skip (by first | rfl | kernel_rfl) ?_
          refine wpList_skip (by first | rfl | kernel_rfl) ?_
          refine wpList_skip (by first | rfl | kernel_rfl) ?_
          refine BigFrame.wpList_want (by first | rfl | kernel_rfl) (fun K hK => ?_)
          go_simp
          refine hK _ _ ?_
          clear hK K
          refine BigFrame.wpList_want (by first | rfl | kernel_rfl) (fun K hK => ?_)
          go_simp
          refine hK _ _ ?_
          clear hK K
          refine wpList_load_rowg (by first | rfl | kernel_rfl) _ rfl rfl k5 Try.underlying28 rfl ginfo6 ?_
          refine wpList_load_rowg (by first | rfl | kernel_rfl) _ rfl rfl k7 Try.underlying28 rfl ginfo6 ?_
          refine wpList_ran (by first | rfl | kernel_rfl) (ran_bin (.tmp 35) (.tmp 36) rfl rfl rfl (by kernel_rfl) (neq_gl_ne HNE.out _)) ?_
          refine BigFrame.wpList_want (by first | rfl | kernel_rfl) (fun K hK => ?_)
          go_simp
          refine hK _ _ ?_
          clear hK K
          refine wpList_load_rowg (by first | rfl | kernel_rfl) _ rfl rfl k5 Try.underlying28 rfl ginfo6 ?_
          refine wpList_load_rowg (by first | rfl | kernel_rfl) _ rfl rfl k7 Try.underlying28 rfl ginfo6 ?_
          refine BigFrame.wpList_want (by first | rfl | kernel_rfl) (fun K hK => ?_)
          go_simp
          refine (less_is a b _ HAB.out).mono ?_
          rintro e wc2 ⟨rfl, hq⟩
          refine hK _ _ ?_
          clear hK K
          replace k5 := k5.grows hq
          replace k7 := k7.grows hq
          replace hg := below_grows hg (Nat.le_refl _) hq
          clear hq
          refine BigFrame.wpList_want (by first | rfl | kernel_rfl) (fun K hK => ?_)
          go_simp
          refine hK _ _ ?_
          clear hK K
          refine BigFrame.wpList_want (by first | rfl | kernel_rfl) (fun K hK => ?_)
          go_simp
          refine hK _ _ ?_
          clear hK K
          refine BigFrame.wpList_want (by first | rfl | kernel_rfl) (fun K hK => ?_)
          go_simp
          refine hK _ _ ?_
          clear hK K
          refine wpList_load_rowg (by first | rfl | kernel_rfl) _ rfl rfl k7 Try.underlying28 rfl ginfo6 ?_
          refine wpList_load_rowg (by first | rfl | kernel_rfl) _ rfl rfl k5 Try.underlying28 rfl ginfo6 ?_
          refine BigFrame.wpList_want (by first | rfl | kernel_rfl) (fun K hK => ?_)
          go_simp
          refine (less_is b a _ HBA.out).mono ?_
          rintro e wc3 ⟨rfl, hq⟩
          refine hK _ _ ?_
          clear hK K
          replace k5 := k5.grows hq
          replace k7 := k7.grows hq
          replace hg := below_grows hg (Nat.le_refl _) hq
          clear hq
          refine BigFrame.wpList_want (by first | rfl | kernel_rfl) (fun K hK => ?_)
          go_simp
          refine hK _ _ ?_
          clear hK K
          refine BigFrame.wpList_want (by first | rfl | kernel_rfl) (fun K hK => ?_)
          go_simp
          refine hK _ _ ?_
          clear hK K
          refine BigFrame.wpList_want (by first | rfl | kernel_rfl) (fun K hK => ?_)
          go_simp
          refine hK _ _ ?_
          clear hK K
          refine BigFrame.wpList_want (by first | rfl | kernel_rfl) (fun K hK => ?_)
          go_simp
          refine hK _ _ ?_
          clear hK K
          refine wpList_load_rowg (by first | rfl | kernel_rfl) _ rfl rfl k5 Try.underlying28 rfl ginfo6 ?_
          refine wpList_load_rowg (by first | rfl | kernel_rfl) _ rfl rfl k7 Try.underlying28 rfl ginfo6 ?_
          refine wpList_ran (by first | rfl | kernel_rfl) (ran_bin (.tmp 52) (.tmp 53) rfl rfl rfl (by kernel_rfl) (eql_gl_ne HNE.out _)) ?_
          refine BigFrame.wpList_want (by first | rfl | kernel_rfl) (fun K hK => ?_)
          go_simp
          refine hK _ _ ?_
          clear hK K
          refine wpList_skip (by first | rfl | kernel_rfl) ?_
          refine wpList_skip (by first | rfl | kernel_rfl) ?_
          refine wpList_skip (by first | rfl | kernel_rfl) ?_
          refine BigFrame.wpList_want (by first | rfl | kernel_rfl) (fun K hK => ?_)
          go_simp
          refine hK _ _ ?_
          clear hK K
          refine BigFrame.wpList_want (by first | rfl | kernel_rfl) (fun K hK => ?_)
          go_simp
          refine hK _ _ ?_
          clear hK K
          go_upto_region 12 with fail
          go_wp2_with fail
          generalize wc3 = wc at *
          go_loopw [63] (fun i wr => ∃ n : Nat, n ≤ x.length ∧ i = .int .i64 n ∧ Grows wc wr) (fun i _ => x.length - (intOf i).toNat)
          case atStart => exact ⟨0, Nat.zero_le _, rfl, Below.refl _ _⟩
          case round =>
            have HH := Lib.hid hg
            clear hg
            obtain ⟨n, hn, rfl, hg⟩ := hrel
            by_cases hlt3 : n < x.length
            rotate_left
            · have hgo := below_grows HH.out (Nat.le_refl _) hg
              clear hg HH k5 k7
              go_wp2
              go_roundw
              case rel => exact ⟨j + 1, by omega, by go_num, hgo⟩
              case measure => simp [intOf]; omega
            replace k5 := k5.grows hg
            replace k7 := k7.grows hg
            obtain ⟨ad', cc, e, had, hxc, c0, c1, c2', c3, c4, c5⟩ := (hr.grows (below_grows HG.out (Nat.le_refl _) (below_grows HH.out (Nat.le_refl _) hg))).elem hlt3
            injection e with e
            subst e
            clear hxc
            have k9 := Blk.new wr 28 #[.int .i64 cc.k, .int .i64 cc.a, .int .i64 cc.q, .int .i64 cc.s, .int .u64 cc.d, .int .i64 cc.f]
            have hq := (Below.refl wr.heap.size wr).alloc (Nat.le_refl _) (Obj.cells #[.int .i64 cc.k, .int .i64 cc.a, .int .i64 cc.q, .int .i64 cc.s, .int .u64 cc.d, .int .i64 cc.f] 28)
            go_upto_region 15 with fail
            clear c0 c1 c2' c3 c4 c5 had
            replace hg := below_grows hg (Nat.le_refl _) hq
            replace k5 := k5.grows hq
            replace k7 := k7.grows hq
            clear hq
            generalize World.alloc wr _ = wd at *
            generalize wr.heap.size = G9 at *
            refine wp_region_lit ?_
            refine wpList_load_rowg (by first | rfl | kernel_rfl) _ rfl rfl k5 Try.underlying28 rfl ginfo6 ?_
            refine wpList_load_rowg (by first | rfl | kernel_rfl) _ rfl rfl k7 Try.underlying28 rfl ginfo6 ?_
            refine BigFrame.wpList_want (by first | rfl | kernel_rfl) (fun K hK => ?_)
            go_simp
            refine (less_is a b _ HAB.out).mono ?_
            rintro e we1 ⟨rfl, hq⟩
            refine hK _ _ ?_
            clear hK K
            replace k5 := k5.grows hq
            replace k7 := k7.grows hq
            replace k9 := k9.grows hq
            replace hg := below_grows hg (Nat.le_refl _) hq
            clear hq
            refine BigFrame.wpList_want (by first | rfl | kernel_rfl) (fun K hK => ?_)
            go_simp
            refine hK _ _ ?_
            clear hK K
            refine wpList_skip (by first | rfl | kernel_rfl) ?_
            refine wpList_skip (by first | rfl | kernel_rfl) ?_
            refine wpList_skip (by first | rfl | kernel_rfl) ?_
            refine BigFrame.wpList_want (by first | rfl | kernel_rfl) (fun K hK => ?_)
            go_simp
            refine hK _ _ ?_
            clear hK K
            refine BigFrame.wpList_want (by first | rfl | kernel_rfl) (fun K hK => ?_)
            go_simp
            refine hK _ _ ?_
            clear hK K
            refine wpList_skip (by first | rfl | kernel_rfl) ?_
            refine wpList_skip (by first | rfl | kernel_rfl) ?_
            refine wpList_skip (by first | rfl | kernel_rfl) ?_
            refine wpList_skip (by first | rfl | kernel_rfl) ?_
            refine BigFrame.wpList_want (by first | rfl | kernel_rfl) (fun K hK => ?_)
            go_simp
            refine hK _ _ ?_
            clear hK K
            clear k5 k7 k9
            go_wp2
            go_roundw
            case rel => exact ⟨n + 1, by omega, by go_num, hg⟩
            case measure => simp [intOf]; omega
      · have HAB := Lib.hid hab
        have HBA := Lib.hid (lessG_asymm hab)
        have HNE : Hid (a ≠ b) := Lib.hid (by rintro rfl; rw [lessG_irrefl] at hab; cases hab)
        clear hab
        refine wp_region_lit ?_
        refine wpList_load_rowg (by first | rfl | kernel_rfl) _ rfl rfl k5 Try.underlying28 rfl ginfo6 ?_
        refine wpList_load_rowg (by first | rfl | kernel_rfl) _ rfl rfl k7 Try.underlying28 rfl ginfo6 ?_
        refine BigFrame.wpList_want (by first | rfl | kernel_rfl) (fun K hK => ?_)
        go_simp
        refine (less_is a b _ HAB.out).mono ?_
        rintro e wc1 ⟨rfl, hq⟩
        refine hK _ _ ?_
        clear hK K
        replace k5 := k5.grows hq
        replace k7 := k7.grows hq
        replace hg := below_grows hg (Nat.le_refl _) hq
        clear hq
        refine BigFrame.wpList_want (by first | rfl | kernel_rfl) (fun K hK => ?_)
        go_simp
        refine hK _ _ ?_
        clear hK K
        refine wpList_load_rowg (by first | rfl | kernel_rfl) _ rfl rfl k7 Try.underlying28 rfl ginfo6 ?_
        refine wpList_load_rowg (by first | rfl | kernel_rfl) _ rfl rfl k5 Try.underlying28 rfl ginfo6 ?_
        refine BigFrame.wpList_want (by first | rfl | kernel_rfl) (fun K hK => ?_)
        go_simp
        refine (less_is b a _ HBA.out).mono ?_
        rintro e wc2 ⟨rfl, hq⟩
        refine hK _ _ ?_
        clear hK K
        replace k5 := k5.grows hq
        replace k7 := k7.grows hq
        replace hg := below_grows hg (Nat.le_refl _) hq
        clear hq
        refine BigFrame.wpList_want (by first | rfl | kernel_rfl) (fun K hK => ?_)
        go_simp
        refine hK _ _ ?_
        clear hK K
        refine BigFrame.wpList_want (by first | rfl | kernel_rfl) (fun K hK => ?_)
        go_simp
        refine hK _ _ ?_
        clear hK K
        refine wpList_load_rowg (by first | rfl | kernel_rfl) _ rfl rfl k5 Try.underlying28 rfl ginfo6 ?_
        refine wpList_load_rowg (by first | rfl | kernel_rfl) _ rfl rfl k7 Try.underlying28 rfl ginfo6 ?_
        refine wpList_ran (by first | rfl | kernel_rfl) (ran_bin (.tmp 35) (.tmp 36) rfl rfl rfl (by kernel_rfl) (neq_gl_ne HNE.out _)) ?_
        refine BigFrame.wpList_want (by first | rfl | kernel_rfl) (fun K hK => ?_)
        go_simp
        refine hK _ _ ?_
        clear hK K
        refine wpList_load_rowg (by first | rfl | kernel_rfl) _ rfl rfl k5 Try.underlying28 rfl ginfo6 ?_
        refine wpList_load_rowg (by first | rfl | kernel_rfl) _ rfl rfl k7 Try.underlying28 rfl ginfo6 ?_
        refine BigFrame.wpList_want (by first | rfl | kernel_rfl) (fun K hK => ?_)
        go_simp
        refine (less_is a b _ HAB.out).mono ?_
        rintro e wc3 ⟨rfl, hq⟩
        refine hK _ _ ?_
        clear hK K
        replace k5 := k5.grows hq
        replace k7 := k7.grows hq
        replace hg := below_grows hg (Nat.le_refl _) hq
        clear hq
        refine BigFrame.wpList_want (by first | rfl | kernel_rfl) (fun K hK => ?_)
        go_simp
        refine hK _ _ ?_
        clear hK K
        refine BigFrame.wpList_want (by first | rfl | kernel_rfl) (fun K hK => ?_)
        go_simp
        refine hK _ _ ?_
        clear hK K
        refine BigFrame.wpList_want (by first | rfl | kernel_rfl) (fun K hK => ?_)
        go_simp
        refine hK _ _ ?_
        clear hK K
        refine wpList_skip (by first | rfl | kernel_rfl) ?_
        refine wpList_skip (by first | rfl | kernel_rfl) ?_
        refine wpList_skip (by first | rfl | kernel_rfl) ?_
        refine wpList_skip (by first | rfl | kernel_rfl) ?_
        refine BigFrame.wpList_want (by first | rfl | kernel_rfl) (fun K hK => ?_)
        go_simp
        refine hK _ _ ?_
        clear hK K
        refine BigFrame.wpList_want (by first | rfl | kernel_rfl) (fun K hK => ?_)
        go_simp
        refine hK _ _ ?_
        clear hK K
        refine BigFrame.wpList_want (by first | rfl | kernel_rfl) (fun K hK => ?_)
        go_simp
        refine hK _ _ ?_
        clear hK K
        refine wpList_load_rowg (by first | rfl | kernel_rfl) _ rfl rfl k5 Try.underlying28 rfl ginfo6 ?_
        refine wpList_load_rowg (by first | rfl | kernel_rfl) _ rfl rfl k7 Try.underlying28 rfl ginfo6 ?_
        refine wpList_ran (by first | rfl | kernel_rfl) (ran_bin (.tmp 52) (.tmp 53) rfl rfl rfl (by kernel_rfl) (eql_gl_ne HNE.out _)) ?_
        refine BigFrame.wpList_want (by first | rfl | kernel_rfl) (fun K hK => ?_)
        go_simp
        refine hK _ _ ?_
        clear hK K
        refine wpList_skip (by first | rfl | kernel_rfl) ?_
        refine wpList_skip (by first | rfl | kernel_rfl) ?_
        refine wpList_skip (by first | rfl | kernel_rfl) ?_
        refine BigFrame.wpList_want (by first | rfl | kernel_rfl) (fun K hK => ?_)
        go_simp
        refine hK _ _ ?_
        clear hK K
        refine BigFrame.wpList_want (by first | rfl | kernel_rfl) (fun K hK => ?_)
        go_simp
        refine hK _ _ ?_
        clear hK K
        go_upto_region 12 with fail
        go_wp2_with fail
        generalize wc3 = wc at *
        go_loopw [63] (fun i wr => ∃ n : Nat, n ≤ x.length ∧ i = .int .i64 n ∧ Grows wc wr) (fun i _ => x.length - (intOf i).toNat)
        case atStart => exact ⟨0, Nat.zero_le _, rfl, Below.refl _ _⟩
        case round =>
          have HH := Lib.hid hg
          clear hg
          obtain ⟨n, hn, rfl, hg⟩ := hrel
          by_cases hlt3 : n < x.length
          rotate_left
          · have hgo := below_grows HH.out (Nat.le_refl _) hg
            clear hg HH k5 k7
            go_wp2
            go_roundw
            case rel => exact ⟨j + 1, by omega, by go_num, hgo⟩
            case measure => simp [intOf]; omega
          replace k5 := k5.grows hg
          replace k7 := k7.grows hg
          obtain ⟨ad', cc, e, had, hxc, c0, c1, c2', c3, c4, c5⟩ := (hr.grows (below_grows HG.out (Nat.le_refl _) (below_grows HH.out (Nat.le_refl _) hg))).elem hlt3
          injection e with e
          subst e
          clear hxc
          have k9 := Blk.new wr 28 #[.int .i64 cc.k, .int .i64 cc.a, .int .i64 cc.q, .int .i64 cc.s, .int .u64 cc.d, .int .i64 cc.f]
          have hq := (Below.refl wr.heap.size wr).alloc (Nat.le_refl _) (Obj.cells #[.int .i64 cc.k, .int .i64 cc.a, .int .i64 cc.q, .int .i64 cc.s, .int .u64 cc.d, .int .i64 cc.f] 28)
          go_upto_region 15 with fail
          clear c0 c1 c2' c3 c4 c5 had
          replace hg := below_grows hg (Nat.le_refl _) hq
          replace k5 := k5.grows hq
          replace k7 := k7.grows hq
          clear hq
          generalize World.alloc wr _ = wd at *
          generalize wr.heap.size = G9 at *
          cases hbc : lessG b cc
          · have HBC := Lib.hid hbc
            clear hbc
            refine wp_region_lit ?_
            refine wpList_load_rowg (by first | rfl | kernel_rfl) _ rfl rfl k5 Try.underlying28 rfl ginfo6 ?_
            refine wpList_load_rowg (by first | rfl | kernel_rfl) _ rfl rfl k7 Try.underlying28 rfl ginfo6 ?_
            refine BigFrame.wpList_want (by first | rfl | kernel_rfl) (fun K hK => ?_)
            go_simp
            refine (less_is a b _ HAB.out).mono ?_
            rintro e we1 ⟨rfl, hq⟩
            refine hK _ _ ?_
            clear hK K
            replace k5 := k5.grows hq
            replace k7 := k7.grows hq
            replace k9 := k9.grows hq
            replace hg := below_grows hg (Nat.le_refl _) hq
            clear hq
            refine BigFrame.wpList_want (by first | rfl | kernel_rfl) (fun K hK => ?_)
            go_simp
            refine hK _ _ ?_
            clear hK K
            refine wpList_load_rowg (by first | rfl | kernel_rfl) _ rfl rfl k7 Try.underlying28 rfl ginfo6 ?_
            refine wpList_load_rowg (by first | rfl | kernel_rfl) _ rfl rfl k9 Try.underlying28 rfl ginfo6 ?_
            refine BigFrame.wpList_want (by first | rfl | kernel_rfl) (fun K hK => ?_)
            go_simp
            refine (less_is b cc _ HBC.out).mono ?_
            rintro e we2 ⟨rfl, hq⟩
            refine hK _ _ ?_
            clear hK K
            replace k5 := k5.grows hq
            replace k7 := k7.grows hq
            replace k9 := k9.grows hq
            replace hg := below_grows hg (Nat.le_refl _) hq
            clear hq
            refine BigFrame.wpList_want (by first | rfl | kernel_rfl) (fun K hK => ?_)
            go_simp
            refine hK _ _ ?_
            clear hK K
            refine BigFrame.wpList_want (by first | rfl | kernel_rfl) (fun K hK => ?_)
            go_simp
            refine hK _ _ ?_
            clear hK K
            refine wpList_skip (by first | rfl | kernel_rfl) ?_
            refine wpList_skip (by first | rfl | kernel_rfl) ?_
            refine wpList_skip (by first | rfl | kernel_rfl) ?_
            refine wpList_skip (by first | rfl | kernel_rfl) ?_
            refine BigFrame.wpList_want (by first | rfl | kernel_rfl) (fun K hK => ?_)
            go_simp
            refine hK _ _ ?_
            clear hK K
            clear k5 k7 k9
            go_wp2
            go_roundw
            case rel => exact ⟨n + 1, by omega, by go_num, hg⟩
            case measure => simp [intOf]; omega
          · have HAC := Lib.hid (lessG_trans HAB.out hbc)
            have HBC := Lib.hid hbc
            clear hbc
            refine wp_region_lit ?_
            refine wpList_load_rowg (by first | rfl | kernel_rfl) _ rfl rfl k5 Try.underlying28 rfl ginfo6 ?_
            refine wpList_load_rowg (by first | rfl | kernel_rfl) _ rfl rfl k7 Try.underlying28 rfl ginfo6 ?_
            refine BigFrame.wpList_want (by first | rfl | kernel_rfl) (fun K hK => ?_)
            go_simp
            refine (less_is a b _ HAB.out).mono ?_
            rintro e we1 ⟨rfl, hq⟩
            refine hK _ _ ?_
            clear hK K
            replace k5 := k5.grows hq
            replace k7 := k7.grows hq
            replace k9 := k9.grows hq
            replace hg := below_grows hg (Nat.le_refl _) hq
            clear hq
            refine BigFrame.wpList_want (by first | rfl | kernel_rfl) (fun K hK => ?_)
            go_simp
            refine hK _ _ ?_
            clear hK K
            refine wpList_load_rowg (by first | rfl | kernel_rfl) _ rfl rfl k7 Try.underlying28 rfl ginfo6 ?_
            refine wpList_load_rowg (by first | rfl | kernel_rfl) _ rfl rfl k9 Try.underlying28 rfl ginfo6 ?_
            refine BigFrame.wpList_want (by first | rfl | kernel_rfl) (fun K hK => ?_)
            go_simp
            refine (less_is b cc _ HBC.out).mono ?_
            rintro e we2 ⟨rfl, hq⟩
            refine hK _ _ ?_
            clear hK K
            replace k5 := k5.grows hq
            replace k7 := k7.grows hq
            replace k9 := k9.grows hq
            replace hg := below_grows hg (Nat.le_refl _) hq
            clear hq
            refine BigFrame.wpList_want (by first | rfl | kernel_rfl) (fun K hK => ?_)
            go_simp
            refine hK _ _ ?_
            clear hK K
            refine BigFrame.wpList_want (by first | rfl | kernel_rfl) (fun K hK => ?_)
            go_simp
            refine hK _ _ ?_
            clear hK K
            refine wpList_load_rowg (by first | rfl | kernel_rfl) _ rfl rfl k5 Try.underlying28 rfl ginfo6 ?_
            refine wpList_load_rowg (by first | rfl | kernel_rfl) _ rfl rfl k9 Try.underlying28 rfl ginfo6 ?_
            refine BigFrame.wpList_want (by first | rfl | kernel_rfl) (fun K hK => ?_)
            go_simp
            refine (less_is a cc _ HAC.out).mono ?_
            rintro e we3 ⟨rfl, hq⟩
            refine hK _ _ ?_
            clear hK K
            replace k5 := k5.grows hq
            replace k7 := k7.grows hq
            replace k9 := k9.grows hq
            replace hg := below_grows hg (Nat.le_refl _) hq
            clear hq
            refine BigFrame.wpList_want (by first | rfl | kernel_rfl) (fun K hK => ?_)
            go_simp
            refine hK _ _ ?_
            clear hK K
            refine BigFrame.wpList_want (by first | rfl | kernel_rfl) (fun K hK => ?_)
            go_simp
            refine hK _ _ ?_
            clear hK K
            clear k5 k7 k9
            go_wp2
            go_roundw
            case rel => exact ⟨n + 1, by omega, by go_num, hg⟩
            case measure => simp [intOf]; omega
end GlitchTotal
namespace GlitchTotal
theorem contract (H : Type) (enc : TypeId × Value → H) (W : World) (base : Nat) (args : Array Value) (ds gs : List (DataW H)) (before : List MemPlace)
    (hval0 : ∀ (j : Nat) t v, Try.f5.params[j]? = some t → args[j]? = some v → Value.okWide Try.prog W .any base t v)
    (hW : DataW.Whole enc Try.prog Try.f5.params.toList Rows.glitchTotalSpec.vars false W args.toList ds gs before)
    (hsz0 : (DataW.weightsEach Try.prog (Try.f5.params.toList ++ Rows.glitchTotalSpec.plain.varTypes Try.prog) (ds ++ gs)).all (· ≤ reachBytes) = true) :
    Calls Try.prog 5 args W fun e W' => ∃ v, e = .returned v ∧ Rows.glitchTotalSpec.post enc Try.prog Try.f5 false true false false W args v W' := by
  have key : Calls Try.prog 5 args W fun e W' => e = .returned (.bool true) ∧ Below W.heap.size W W' := by
    have hval : ∀ (j : Nat) t v, Try.f5.params[j]? = some t → args[j]? = some v → Value.okWide Try.prog W .any base t v := hval0
    obtain ⟨p, q, hA0, hV, hbe, hfz, hnd⟩ := hW
    have hA : DataW.TrodAll enc Try.prog W 0 (fun _ => true) true Try.f5.params.toList args.toList ds p := hA0
    rw [Try.params5] at hA hval
    clear hA0 hval0
    obtain ⟨v0, vs0, d0, ds0, p0, q0, hargs, rfl, rfl, h0, r0⟩ := trodAll_cons hA
    obtain ⟨rfl, rfl, rfl⟩ := trodAll_nil r0
    obtain rfl : args = #[v0] := by cases args; simp_all
    obtain ⟨rfl, rfl⟩ := trodVars_none hV
    have hsz : (DataW.weightsEach Try.prog (Try.f5.params.toList ++ Rows.glitchTotalSpec.plain.varTypes Try.prog) ([d0] ++ [])).all (· ≤ reachBytes) = true := hsz0
    rw [Try.params5] at hsz
    clear hsz0
    obtain ⟨A, c, l, rfl, hI0, hl0, _⟩ := open_slice_ints Try.underlying22 Try.underlying3 (by kernel_rfl) (hval 0 22 v0 rfl rfl) h0
    exact GlitchTotal.walk A c l W hI0 hl0
  refine key.mono fun e W' ⟨he, hb⟩ => ⟨_, he, law_post laid_out hW ?_ rfl (by kernel_rfl) Try.underlying4 ?_ hb⟩
  · rw [Try.params5]
    intro t ht
    simp only [List.mem_cons, List.not_mem_nil, or_false] at ht
    rcases ht with rfl <;> exact ⟨by kernel_rfl, of_decide_eq_true (by kernel_rfl)⟩
  · rw [Try.params5]
    intro ds hl
    match ds, hl with
    | [_], _ => rfl

set_option maxRecDepth 100000 in
theorem lifted (os : Os) (started : os.Started) (H : Type) (enc : TypeId × Value → H) :
    ReturnsInHanded {} Try.checked os 5 .any (Rows.glitchTotalSpec.pre6 enc Try.prog Try.f5 Rows.glitchTotalRow.domain false) (Rows.glitchTotalSpec.post enc Try.prog Try.f5 false true false false) := by
  refine returnsInHanded_of_change_sized (C := Try.checked) own_knob started (by kernel_rfl) Try.func5
    (ChangeSpec.witness6 (enc := enc) (C := Try.checked) false ⟨#[], #[.slice none 0 0], []⟩ 8 (by kernel_rfl) (by kernel_rfl) (by kernel_rfl) (by kernel_rfl)) ?_
  intro W base args ds gs before hval0 hW _ hsz0 _
  exact contract H enc W base args ds gs before hval0 hW hsz0

theorem over : Rows.glitchTotalRow.holds Try.pinned (OpenSpec.ofChange Rows.glitchTotalSpec) :=
  OpenClaim.holds_of_wide 5 Try.f5 rfl rfl rfl rfl rfl rfl rfl ⟨rfl, rfl, rfl, rfl, rfl⟩ rfl rfl rfl rfl rfl (by kernel_rfl) Try.func5 (by kernel_rfl)
    (of_decide_eq_true (by kernel_rfl)) (by unfold Func.isWrapper; first | (rw [if_pos (by decide +kernel)]; kernel_rfl) | (rw [if_neg (by decide +kernel)]; exact ⟨rfl, rfl⟩))
    (fun os started H enc _ => lifted os started H enc)

/-- The given statement. -/
theorem proved : Rows.GlitchTotalSaid := over
end GlitchTotal
#print axioms GlitchTotal.proved
end Go.Proofs.Ytbmoiokpkcaccaa
