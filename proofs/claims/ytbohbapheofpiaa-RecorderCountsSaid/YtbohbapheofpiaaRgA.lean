/-
  Layer 38: recorders, whatever they keep: the row of cells, which are valid. Plain contracts.
-/
import Derived.Test.YtbohbapheofpiaaRecE
import Derived.Test.YtbohbapheofpiaaGlE
namespace Go.Proofs.Ytbohbapheofpiaa
open Go.RowKit
def rcV (lim : Int) (v : Value) (c : Nat → Int) (fr : Int) (b : Nat → Int) : Array Value := #[.int .i64 lim, v, .int .i64 (c 0), .int .i64 (c 1), .int .i64 (c 2), .int .i64 (c 3), .int .i64 (c 4), .int .i64 fr, .int .i64 (b 0), .int .i64 (b 1), .int .i64 (b 2), .int .i64 (b 3), .int .i64 (b 4), .int .i64 (b 5), .int .i64 (b 6), .int .i64 (b 7), .int .i64 (b 8), .int .i64 (b 9), .int .i64 (b 10), .int .i64 (b 11), .int .i64 (b 12), .int .i64 (b 13), .int .i64 (b 14), .int .i64 (b 15), .int .i64 (b 16), .int .i64 (b 17), .int .i64 (b 18), .int .i64 (b 19), .int .i64 (b 20), .int .i64 (b 21), .int .i64 (b 22), .int .i64 (b 23)]
section
variable (lim : Int) (v : Value) (c : Nat → Int) (fr : Int) (b : Nat → Int)
theorem rcV_size : (rcV lim v c fr b).size = 32 := rfl
theorem rcV_info : (Try.prog.info? 28).map (·.size) = some (rcV lim v c fr b).size := rec_info
theorem rcV_0 : (rcV lim v c fr b)[0]? = some (.int .i64 lim) := rfl
theorem rcV_1 : (rcV lim v c fr b)[1]? = some v := rfl
theorem rcV_7 : (rcV lim v c fr b)[7]? = some (.int .i64 fr) := rfl
theorem rcV_c : ∀ j, j < 5 → (rcV lim v c fr b)[2 + j]? = some (.int .i64 (c j)) := by
  intro j hj
  match j, hj with
  | 0, _ | 1, _ | 2, _ | 3, _ | 4, _ => rfl
theorem rcV_b : ∀ j, j < 24 → (rcV lim v c fr b)[8 + j]? = some (.int .i64 (b j)) := by
  intro j hj
  have h : j = 0 ∨ j = 1 ∨ j = 2 ∨ j = 3 ∨ j = 4 ∨ j = 5 ∨ j = 6 ∨ j = 7 ∨ j = 8 ∨ j = 9 ∨ j = 10 ∨ j = 11 ∨ j = 12 ∨ j = 13 ∨ j = 14 ∨ j = 15 ∨ j = 16 ∨ j = 17 ∨ j = 18 ∨ j = 19 ∨ j = 20 ∨ j = 21 ∨ j = 22 ∨ j = 23 := by omega
  rcases h with rfl | rfl | rfl | rfl | rfl | rfl | rfl | rfl | rfl | rfl | rfl | rfl | rfl | rfl | rfl | rfl | rfl | rfl | rfl | rfl | rfl | rfl | rfl | rfl <;> rfl
theorem rcV_one (A : Option Addr) (n cp : Nat) : (rcV lim (.slice A n cp) c fr b).all (·.oneCell') = true := by
  simp [rcV, Value.oneCell']
theorem rcV_set1 (v' : Value) : (rcV lim v c fr b).setIfInBounds 1 v' = rcV lim v' c fr b := rfl
theorem rcV_set7 (x : Int) : (rcV lim v c fr b).setIfInBounds 7 (.int .i64 x) = rcV lim v c x b := rfl
theorem rcV_setc (k : Nat) (hk : k < 5) (x : Int) : (rcV lim v c fr b).setIfInBounds (2 + k) (.int .i64 x) = rcV lim v (upB c k x) fr b := by
  have h : k = 0 ∨ k = 1 ∨ k = 2 ∨ k = 3 ∨ k = 4 := by omega
  rcases h with rfl | rfl | rfl | rfl | rfl <;> simp [rcV, upB]
theorem rcV_setb (k : Nat) (hk : k < 24) (x : Int) : (rcV lim v c fr b).setIfInBounds (8 + k) (.int .i64 x) = rcV lim v c fr (upB b k x) := by
  have h : k = 0 ∨ k = 1 ∨ k = 2 ∨ k = 3 ∨ k = 4 ∨ k = 5 ∨ k = 6 ∨ k = 7 ∨ k = 8 ∨ k = 9 ∨ k = 10 ∨ k = 11 ∨ k = 12 ∨ k = 13 ∨ k = 14 ∨ k = 15 ∨ k = 16 ∨ k = 17 ∨ k = 18 ∨ k = 19 ∨ k = 20 ∨ k = 21 ∨ k = 22 ∨ k = 23 := by omega
  rcases h with rfl | rfl | rfl | rfl | rfl | rfl | rfl | rfl | rfl | rfl | rfl | rfl | rfl | rfl | rfl | rfl | rfl | rfl | rfl | rfl | rfl | rfl | rfl | rfl <;> simp [rcV, upB]
end
def okC (n : Nat) (b : Nat → Int) : Bool := !((List.range n).map b).any outT
theorem okC_iff (n : Nat) (b : Nat → Int) : okC n b = true ↔ ∀ i, i < n → outT (b i) = false := by
  simp [okC]
def okR (lim : Int) (l : List Gl) (c : Nat → Int) (fr : Int) (b : Nat → Int) : Bool :=
  decide (1 ≤ lim) && decide (lim ≤ 256) && decide ((l.length : Int) ≤ lim) && l.all okG && inT fr && okC 5 c && okC 24 b
theorem okR_iff (lim : Int) (l : List Gl) (c : Nat → Int) (fr : Int) (b : Nat → Int) : okR lim l c fr b = true ↔ 1 ≤ lim ∧ lim ≤ 256 ∧ (l.length : Int) ≤ lim ∧ (∀ g ∈ l, okG g = true) ∧ outT fr = false ∧ (∀ i, i < 5 → outT (c i) = false) ∧ ∀ i, i < 24 → outT (b i) = false := by
  simp only [okR, inT, Bool.and_eq_true, decide_eq_true_eq, okC_iff, List.all_eq_true, Bool.not_eq_true', and_assoc]
theorem okR_no {lim : Int} {l : List Gl} {c : Nat → Int} {fr : Int} {b : Nat → Int} (h : ¬(1 ≤ lim ∧ lim ≤ 256 ∧ (l.length : Int) ≤ lim)) : okR lim l c fr b = false := by
  cases e : okR lim l c fr b
  · rfl
  · have := (okR_iff lim l c fr b).1 e
    exact absurd ⟨this.1, this.2.1, this.2.2.1⟩ h
theorem counts_row {w : World} {g : Nat} {t : TypeId} {cs : Array Value} (h : Blk w g t cs) (o n cp : Nat) (b : Nat → Int) (hn : n ≤ 100) (hc : ∀ j, j < n → cs[o + j]? = some (.int .i64 (b j))) :
    Calls Try.prog 36 #[.slice (some ⟨g, o, none⟩) n cp] w fun e w' => e = .returned (.bool (okC n b)) ∧ w = w' := by
  have := counts_any (some ⟨g, o, none⟩) cp ((List.range n).map b) w (ints_mid h o n b hc) (by simp; omega)
  simpa [okC] using this
set_option maxHeartbeats 8000000 in
theorem gvalidR (lim fr : Int) (A : Option Addr) (cp : Nat) (l : List Gl) (c b : Nat → Int) (w : World) (hg : Gls w A l) (hl : l.length ≤ 1000000) :
    Calls Try.prog 17 #[.agg (rcV lim (.slice A l.length cp) c fr b)] w fun e w' => e = .returned (.bool (okR lim l c fr b)) ∧ Grows w w' := by
  have y0 := rcV_0 lim (.slice A l.length cp) c fr b
  have y1 := rcV_1 lim (.slice A l.length cp) c fr b
  have y7 := rcV_7 lim (.slice A l.length cp) c fr b
  have yc := rcV_c lim (.slice A l.length cp) c fr b
  have yb := rcV_b lim (.slice A l.length cp) c fr b
  generalize rcV lim (.slice A l.length cp) c fr b = cs at *
  have hB := (Below.refl w.heap.size w).alloc (Nat.le_refl _) (Obj.cells cs 28)
  have k1 := Blk.new w 28 cs
  by_cases h0 : 1 ≤ lim ∧ lim ≤ 256 ∧ (l.length : Int) ≤ lim
  · obtain ⟨a1, a2, a3⟩ := h0
    have hd1 : decide (1 ≤ lim) = true := by simpa using a1
    have hd2 : decide (lim ≤ 256) = true := by simpa using a2
    have hd3 : decide ((l.length : Int) ≤ lim) = true := by simpa using a3
    have e : okR lim l c fr b = (l.all okG && inT fr && okC 5 c && okC 24 b) := by simp [okR, a1, a2, a3]
    rw [e]
    clear e
    go_enter Try.func17, Try.ntmps17
    go_wp2_with fail
    refine (containsg_any A cp l _ (hg.grows hB) (by omega)).mono ?_
    rintro e w1 ⟨rfl, hq⟩
    have hz : w.heap.size < w1.heap.size := Nat.lt_of_lt_of_le (by simp) hq.size
    replace k1 := k1.grows hq
    replace hB := below_grows hB (Nat.le_refl _) hq
    clear hq
    have x7 := k1.cell 7
    rw [y7] at x7
    cases hx1 : l.all okG
    · have HX := Lib.hid hx1
      clear hx1
      go_wp2
      go_ret
      exact ⟨ret_bool (by simp [HX.out]), hB⟩
    have HX := Lib.hid hx1
    clear hx1
    go_wp2_with fail
    clear x7
    have k2 := Blk.new w1 3 #[.int .i64 fr]
    refine (counts_row k2 0 1 1 (fun _ => fr) (by omega) (by intro j hj; obtain rfl : j = 0 := (by omega); rfl)).mono ?_
    rintro e w2 ⟨rfl, rfl⟩
    have e1 : okC 1 (fun _ => fr) = inT fr := by simp [okC, inT]
    rw [e1]
    replace k1 := k1.alloc (Obj.cells #[.int .i64 fr] 3)
    replace hB := hB.alloc (by omega) (Obj.cells #[.int .i64 fr] 3)
    generalize World.alloc w1 _ = w3 at *
    cases hx2 : inT fr
    · have HY := Lib.hid hx2
      clear hx2
      go_wp2
      go_ret
      exact ⟨ret_bool (by simp [HY.out]), hB⟩
    have HY := Lib.hid hx2
    clear hx2
    go_wp2_with fail
    refine (counts_row k1 2 5 5 c (by omega) yc).mono ?_
    rintro e w4 ⟨rfl, rfl⟩
    cases hx3 : okC 5 c
    · have HZ := Lib.hid hx3
      clear hx3
      go_wp2
      go_ret
      exact ⟨ret_bool (by simp [HZ.out]), hB⟩
    have HZ := Lib.hid hx3
    clear hx3
    go_wp2_with fail
    refine (counts_row k1 8 24 24 b (by omega) yb).mono ?_
    rintro e w5 ⟨rfl, rfl⟩
    cases hx4 : okC 24 b
    all_goals
      have HU := Lib.hid hx4
      clear hx4
      go_wp2
      go_ret
      exact ⟨ret_bool (by simp [HX.out, HY.out, HZ.out, HU.out]), hB⟩
  · rw [okR_no h0]
    go_enter Try.func17, Try.ntmps17
    by_cases a1 : 1 ≤ lim
    · by_cases a2 : lim ≤ 256
      · have a3 : ¬(l.length : Int) ≤ lim := fun h => h0 ⟨a1, a2, h⟩
        clear h0
        go_wp2
        go_ret
        exact ⟨rfl, hB⟩
      · clear h0
        go_wp2
        go_ret
        exact ⟨rfl, hB⟩
    · clear h0
      go_wp2
      go_ret
      exact ⟨rfl, hB⟩
theorem rcount_any (n : Int) (w : World) : Calls Try.prog 37 #[.int .i64 n] w fun e w' => e = .returned (.bool (inT n)) ∧ w = w' := by
  go_enter Try.func37, Try.ntmps37
  go_wp2
  all_goals (go_ret; refine ⟨ret_bool ?_, rfl⟩; apply Bool.eq_iff_iff.2; simp [inT, outT]; omega)
set_option maxHeartbeats 8000000 in
theorem rvalidR (lim fr : Int) (A : Option Addr) (cp : Nat) (l : List Gl) (c b : Nat → Int) (w : World) (hg : Gls w A l) (hl : l.length ≤ 1000000) :
    Calls Try.prog 18 #[.agg (rcV lim (.slice A l.length cp) c fr b)] w fun e w' => e = .returned (.bool (okR lim l c fr b)) ∧ Grows w w' := by
  have y0 := rcV_0 lim (.slice A l.length cp) c fr b
  have y1 := rcV_1 lim (.slice A l.length cp) c fr b
  have y7 := rcV_7 lim (.slice A l.length cp) c fr b
  have yc := rcV_c lim (.slice A l.length cp) c fr b
  have yb := rcV_b lim (.slice A l.length cp) c fr b
  generalize rcV lim (.slice A l.length cp) c fr b = cs at *
  have hB := (Below.refl w.heap.size w).alloc (Nat.le_refl _) (Obj.cells cs 28)
  have k1 := Blk.new w 28 cs
  by_cases h0 : 1 ≤ lim ∧ lim ≤ 256 ∧ (l.length : Int) ≤ lim
  · obtain ⟨a1, a2, a3⟩ := h0
    go_enter Try.func18, Try.ntmps18
    go_wp2_with fail
    refine (rcount_any fr _).mono ?_
    rintro e w2 ⟨rfl, rfl⟩
    generalize World.alloc w _ = w1 at *
    cases hx1 : inT fr
    · have e0 : okR lim l c fr b = false := by simp [okR, hx1]
      clear hx1
      go_wp2
      go_ret
      exact ⟨ret_bool (by rw [e0]), hB⟩
    go_wp2_with fail
    go_loopw [3] (fun i wr => ∃ k : Nat, k ≤ l.length ∧ i = .int .i64 k ∧ Below w.heap.size w wr ∧ Blk wr w.heap.size 28 cs ∧ ∀ x ∈ l.take k, okG x = true) (fun i _ => l.length - (intOf i).toNat)
    case atStart => exact ⟨0, by omega, rfl, hB, k1, by simp⟩
    case round =>
      clear hB k1
      obtain ⟨k, hk, rfl, hB, k1, hall⟩ := hrel
      have x1 := k1.cell 1
      rw [y1] at x1
      by_cases hlt : k < l.length
      · obtain ⟨ad, g, rfl, had, hx, c0, c1, c2, c3, c4, c5⟩ := (hg.grows hB).elem hlt
        have HX : Hid (l.take (k + 1) = l.take k ++ [g]) := take_snoc hx
        have HM : Hid (g ∈ l) := List.mem_of_getElem? hx
        clear hx
        go_wp2_with fail
        refine (grvalid_any g.k g.a g.q g.s g.d g.f _).mono ?_
        rintro e w2 ⟨rfl, hq⟩
        replace hB := below_grows hB (Nat.le_refl _) hq
        replace k1 := k1.grows hq
        clear c0 c1 c2 c3 c4 c5 hq x1
        cases ho : okG ⟨g.k, g.a, g.q, g.s, g.d, g.f⟩
        · have e0 : okR lim l c fr b = false := by
            cases ee : okR lim l c fr b
            · rfl
            · have := ((okR_iff lim l c fr b).1 ee).2.2.2.1 g HM.out
              rw [show g = ⟨g.k, g.a, g.q, g.s, g.d, g.f⟩ from rfl, ho] at this
              cases this
          go_wp2
          go_ret
          exact ⟨ret_bool (by rw [e0]), hB⟩
        · go_wp2
          go_roundw
          case rel =>
            refine ⟨k + 1, by omega, by go_num, hB, k1, ?_⟩
            rw [HX.out]
            intro y hy
            rcases List.mem_append.1 hy with hy | hy
            · exact hall y hy
            · simp at hy; subst hy; exact ho
          case measure => simp [intOf]; omega
      · obtain rfl : k = l.length := by omega
        clear hlt
        rw [List.take_length] at hall
        have HA := Lib.hid hall
        clear hall
        go_wp2_with fail
        clear x1
        go_loopw [4] (fun i wr => ∃ k : Nat, k ≤ 5 ∧ i = .int .i64 k ∧ Below w.heap.size w wr ∧ Blk wr w.heap.size 28 cs ∧ ∀ j, j < k → outT (c j) = false) (fun i _ => 5 - (intOf i).toNat)
        case atStart => exact ⟨0, by omega, rfl, hB, k1, fun j hj => absurd hj (by omega)⟩
        case round =>
          clear hB k1
          obtain ⟨k, hk, rfl, hB, k1, hall⟩ := hrel
          by_cases hlt : k < 5
          · have x := k1.cell (2 + k)
            rw [yc k hlt] at x
            go_wp2_with fail
            refine (rcount_any (c k) _).mono ?_
            rintro e w2 ⟨rfl, rfl⟩
            clear x
            cases ho : inT (c k)
            · have e0 : okR lim l c fr b = false := by
                cases ee : okR lim l c fr b
                · rfl
                · have := ((okR_iff lim l c fr b).1 ee).2.2.2.2.2.1 k hlt
                  rw [inT, this] at ho
                  cases ho
              go_wp2
              go_ret
              exact ⟨ret_bool (by rw [e0]), hB⟩
            · have ho2 : outT (c k) = false := by simpa [inT] using ho
              go_wp2
              go_roundw
              case rel => exact ⟨k + 1, by omega, by go_num, hB, k1, fun j hj => by rcases Nat.lt_succ_iff_lt_or_eq.1 hj with hj | rfl; exact hall j hj; exact ho2⟩
              case measure => simp [intOf]; omega
          · obtain rfl : k = 5 := by omega
            clear hlt
            simp only [Int.cast_ofNat_Int]
            have HC := Lib.hid hall
            clear hall
            go_wp2_with fail
            go_loopw [5] (fun i wr => ∃ k : Nat, k ≤ 24 ∧ i = .int .i64 k ∧ Below w.heap.size w wr ∧ Blk wr w.heap.size 28 cs ∧ ∀ j, j < k → outT (b j) = false) (fun i _ => 24 - (intOf i).toNat)
            case atStart => exact ⟨0, by omega, rfl, hB, k1, fun j hj => absurd hj (by omega)⟩
            case round =>
              clear hB k1
              obtain ⟨k, hk, rfl, hB, k1, hall⟩ := hrel
              by_cases hlt : k < 24
              · have x := k1.cell (8 + k)
                rw [yb k hlt] at x
                go_wp2_with fail
                refine (rcount_any (b k) _).mono ?_
                rintro e w2 ⟨rfl, rfl⟩
                clear x
                cases ho : inT (b k)
                · have e0 : okR lim l c fr b = false := by
                    cases ee : okR lim l c fr b
                    · rfl
                    · have := ((okR_iff lim l c fr b).1 ee).2.2.2.2.2.2 k hlt
                      rw [inT, this] at ho
                      cases ho
                  go_wp2
                  go_ret
                  exact ⟨ret_bool (by rw [e0]), hB⟩
                · have ho2 : outT (b k) = false := by simpa [inT] using ho
                  go_wp2
                  go_roundw
                  case rel => exact ⟨k + 1, by omega, by go_num, hB, k1, fun j hj => by rcases Nat.lt_succ_iff_lt_or_eq.1 hj with hj | rfl; exact hall j hj; exact ho2⟩
                  case measure => simp [intOf]; omega
              · obtain rfl : k = 24 := by omega
                clear hlt
                simp only [Int.cast_ofNat_Int]
                go_wp2
                go_ret
                exact ⟨ret_bool (Eq.symm ((okR_iff lim l c fr b).2 ⟨a1, a2, a3, HA.out, by simpa [inT] using hx1, HC.out, hall⟩)), hB⟩
  · rw [okR_no h0]
    go_enter Try.func18, Try.ntmps18
    by_cases a1 : 1 ≤ lim
    · by_cases a2 : lim ≤ 256
      · have a3 : ¬(l.length : Int) ≤ lim := fun h => h0 ⟨a1, a2, h⟩
        clear h0
        go_wp2
        go_ret
        exact ⟨rfl, hB⟩
      · clear h0
        go_wp2
        go_ret
        exact ⟨rfl, hB⟩
    · clear h0
      go_wp2
      go_ret
      exact ⟨rfl, hB⟩
end Go.Proofs.Ytbohbapheofpiaa
