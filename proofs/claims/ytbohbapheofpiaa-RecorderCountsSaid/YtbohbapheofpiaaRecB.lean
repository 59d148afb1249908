/-
  Layer 38: recorders that keep no glitch: New, grow, Valid.
-/
import Derived.Test.YtbohbapheofpiaaRecA
import Derived.Test.YtbohbapheofpiaaRow
import Derived.Deep.DeepCutAuto
import Derived.Deep.CutBlock
namespace Go.Proofs.Ytbohbapheofpiaa
open Go.RowKit
theorem grow_any (a b : Int) (w : World) (h1 : 0 ≤ a) (h2 : a ≤ 1099511627776) (h3 : 0 ≤ b) (h4 : b ≤ 1099511627776) : Calls Try.prog 29 #[.int .i64 a, .int .i64 b] w fun e w' => e = .returned (.int .i64 (min (a + b) 1099511627776)) ∧ w = w' := by
  by_cases h : a + b ≤ 1099511627776
  · rw [show min (a + b) 1099511627776 = a + b by omega]
    go_enter Try.func29, Try.ntmps29
    go_wp2
    go_ret
    exact ⟨rfl, rfl⟩
  · rw [show min (a + b) 1099511627776 = 1099511627776 by omega]
    go_enter Try.func29, Try.ntmps29
    go_wp2
    go_ret
    exact ⟨rfl, rfl⟩
theorem rec_info : (Try.prog.info? 28).map (·.size) = some 32 := by kernel_rfl
set_option maxHeartbeats 4000000 in
theorem new_good (lim : Int) (w : World) (h1 : 1 ≤ lim) (h2 : lim ≤ 256) : Calls Try.prog 8 #[.int .i64 lim] w fun e w' => e = .returned (.tuple #[.agg #[.int .i64 lim, .slice none 0 0, .int .i64 0, .int .i64 0, .int .i64 0, .int .i64 0, .int .i64 0, .int .i64 0, .int .i64 0, .int .i64 0, .int .i64 0, .int .i64 0, .int .i64 0, .int .i64 0, .int .i64 0, .int .i64 0, .int .i64 0, .int .i64 0, .int .i64 0, .int .i64 0, .int .i64 0, .int .i64 0, .int .i64 0, .int .i64 0, .int .i64 0, .int .i64 0, .int .i64 0, .int .i64 0, .int .i64 0, .int .i64 0, .int .i64 0, .int .i64 0], .int .i64 0]) ∧ Grows w w' := by
  have hB := (Below.refl w.heap.size w).alloc (Nat.le_refl _) (Obj.cells #[.int .i64 0, .slice none 0 0, .int .i64 0, .int .i64 0, .int .i64 0, .int .i64 0, .int .i64 0, .int .i64 0, .int .i64 0, .int .i64 0, .int .i64 0, .int .i64 0, .int .i64 0, .int .i64 0, .int .i64 0, .int .i64 0, .int .i64 0, .int .i64 0, .int .i64 0, .int .i64 0, .int .i64 0, .int .i64 0, .int .i64 0, .int .i64 0, .int .i64 0, .int .i64 0, .int .i64 0, .int .i64 0, .int .i64 0, .int .i64 0, .int .i64 0, .int .i64 0] 28)
  have k2 := Blk.new w 28 #[.int .i64 0, .slice none 0 0, .int .i64 0, .int .i64 0, .int .i64 0, .int .i64 0, .int .i64 0, .int .i64 0, .int .i64 0, .int .i64 0, .int .i64 0, .int .i64 0, .int .i64 0, .int .i64 0, .int .i64 0, .int .i64 0, .int .i64 0, .int .i64 0, .int .i64 0, .int .i64 0, .int .i64 0, .int .i64 0, .int .i64 0, .int .i64 0, .int .i64 0, .int .i64 0, .int .i64 0, .int .i64 0, .int .i64 0, .int .i64 0, .int .i64 0, .int .i64 0]
  go_enter Try.func8, Try.ntmps8
  go_upto_region 3 with fail
  generalize World.alloc w _ = w1 at *
  refine wp_region_lit ?_
  iterate 2
    refine wpList_plain rfl (fun K hK => ?_)
    go_simp
    refine hK _ _ ?_
    clear hK K
  refine wpList_store_row rfl _ _ rfl rfl rfl rfl k2 rec_info rfl (by simp [Value.oneCell']) ?_
  have k3 : Blk (w1.setRow w.heap.size #[.int .i64 lim, .slice none 0 0, .int .i64 0, .int .i64 0, .int .i64 0, .int .i64 0, .int .i64 0, .int .i64 0, .int .i64 0, .int .i64 0, .int .i64 0, .int .i64 0, .int .i64 0, .int .i64 0, .int .i64 0, .int .i64 0, .int .i64 0, .int .i64 0, .int .i64 0, .int .i64 0, .int .i64 0, .int .i64 0, .int .i64 0, .int .i64 0, .int .i64 0, .int .i64 0, .int .i64 0, .int .i64 0, .int .i64 0, .int .i64 0, .int .i64 0, .int .i64 0]) w.heap.size 28 #[.int .i64 lim, .slice none 0 0, .int .i64 0, .int .i64 0, .int .i64 0, .int .i64 0, .int .i64 0, .int .i64 0, .int .i64 0, .int .i64 0, .int .i64 0, .int .i64 0, .int .i64 0, .int .i64 0, .int .i64 0, .int .i64 0, .int .i64 0, .int .i64 0, .int .i64 0, .int .i64 0, .int .i64 0, .int .i64 0, .int .i64 0, .int .i64 0, .int .i64 0, .int .i64 0, .int .i64 0, .int .i64 0, .int .i64 0, .int .i64 0, .int .i64 0, .int .i64 0] := k2.row
  have hB3 := below_row hB (g := w.heap.size) (Nat.le_refl _) #[.int .i64 lim, .slice none 0 0, .int .i64 0, .int .i64 0, .int .i64 0, .int .i64 0, .int .i64 0, .int .i64 0, .int .i64 0, .int .i64 0, .int .i64 0, .int .i64 0, .int .i64 0, .int .i64 0, .int .i64 0, .int .i64 0, .int .i64 0, .int .i64 0, .int .i64 0, .int .i64 0, .int .i64 0, .int .i64 0, .int .i64 0, .int .i64 0, .int .i64 0, .int .i64 0, .int .i64 0, .int .i64 0, .int .i64 0, .int .i64 0, .int .i64 0, .int .i64 0]
  generalize World.setRow w1 _ _ = w3 at *
  go_wp2
  have hl := run_loadVar_row (P := Try.prog) w3 w.heap.size 28 28 #[.int .i64 lim, .slice none 0 0, .int .i64 0, .int .i64 0, .int .i64 0, .int .i64 0, .int .i64 0, .int .i64 0, .int .i64 0, .int .i64 0, .int .i64 0, .int .i64 0, .int .i64 0, .int .i64 0, .int .i64 0, .int .i64 0, .int .i64 0, .int .i64 0, .int .i64 0, .int .i64 0, .int .i64 0, .int .i64 0, .int .i64 0, .int .i64 0, .int .i64 0, .int .i64 0, .int .i64 0, .int .i64 0, .int .i64 0, .int .i64 0, .int .i64 0, .int .i64 0] (0, 0) _ k3 Try.underlying28 rfl rec_info
  refine bodyPost_ret (v := .tuple #[.agg #[.int .i64 lim, .slice none 0 0, .int .i64 0, .int .i64 0, .int .i64 0, .int .i64 0, .int .i64 0, .int .i64 0, .int .i64 0, .int .i64 0, .int .i64 0, .int .i64 0, .int .i64 0, .int .i64 0, .int .i64 0, .int .i64 0, .int .i64 0, .int .i64 0, .int .i64 0, .int .i64 0, .int .i64 0, .int .i64 0, .int .i64 0, .int .i64 0, .int .i64 0, .int .i64 0, .int .i64 0, .int .i64 0, .int .i64 0, .int .i64 0, .int .i64 0, .int .i64 0], .int .i64 0]) ?_ rfl ⟨rfl, hB3⟩
  unfold results
  simp only [Try.results8]
  simp [asAddr, hl]
theorem indexg_nil (F : Value) (w : World) : Calls Try.prog 43 #[.slice none 0 0, F] w fun e w' => e = .returned (.int .i64 (-1)) ∧ w = w' := by
  go_enter Try.func43, Try.ntmps43
  go_wp2
  go_loopw [8] (fun i wr => i = .int .i64 0 ∧ wr = w) (fun _ _ => 0)
  case atStart => exact ⟨rfl, rfl⟩
  case round =>
    obtain ⟨rfl, rfl⟩ := hrel
    go_wp2
    go_ret
    exact ⟨rfl, rfl⟩
theorem containsg_nil (F : Value) (w : World) : Calls Try.prog 35 #[.slice none 0 0, F] w fun e w' => e = .returned (.bool false) ∧ w = w' := by
  go_enter Try.func35, Try.ntmps35
  go_wp2_with fail
  refine (indexg_nil F _).mono ?_
  rintro e w2 ⟨rfl, rfl⟩
  go_wp2
  go_ret
  exact ⟨rfl, rfl⟩
/-- n cells of a block from o on, as ints. -/
theorem ints_mid {w : World} {g : Nat} {t : TypeId} {cs : Array Value} (h : Blk w g t cs) (o n : Nat) (b : Nat → Int) (hc : ∀ j, j < n → cs[o + j]? = some (.int .i64 (b j))) : Ints w (some ⟨g, o, none⟩) ((List.range n).map b) := by
  refine ⟨by simp, fun _ => ⟨_, rfl, h.lt, fun j u hu => ?_⟩⟩
  rw [List.getElem?_map, List.getElem?_map] at hu
  have hj : j < n := by
    by_cases hj : j < n
    · exact hj
    · rw [List.getElem?_eq_none (by simp; omega)] at hu
      simp at hu
  rw [List.getElem?_range hj] at hu
  simp at hu
  subst hu
  have ha : (⟨g, o, none⟩ : Addr).add j = ⟨g, o + j, none⟩ := by
    unfold Addr.add
    split
    · simp_all
    · rfl
  rw [ha, h.cell]
  exact hc j hj
theorem any_false (n : Nat) (b : Nat → Int) (h : ∀ i, i < n → outT (b i) = false) : ((List.range n).map b).any outT = false := by
  rw [List.any_eq_false]
  intro x hx
  obtain ⟨i, hi, rfl⟩ := List.mem_map.1 hx
  simp [h i (List.mem_range.1 hi)]
theorem counts_mid {w : World} {g : Nat} {t : TypeId} {cs : Array Value} (h : Blk w g t cs) (o n cp : Nat) (b : Nat → Int) (hn : n ≤ 100) (hc : ∀ j, j < n → cs[o + j]? = some (.int .i64 (b j))) (hb : ∀ i, i < n → outT (b i) = false) :
    Calls Try.prog 36 #[.slice (some ⟨g, o, none⟩) n cp] w fun e w' => e = .returned (.bool true) ∧ w = w' := by
  have := counts_any (some ⟨g, o, none⟩) cp ((List.range n).map b) w (ints_mid h o n b hc) (by simp; omega)
  rw [any_false n b hb] at this
  simpa using this
theorem get_c (lim fr : Int) (c b : Nat → Int) : ∀ j, j < 5 → (#[.int .i64 lim, .slice none 0 0, .int .i64 (c 0), .int .i64 (c 1), .int .i64 (c 2), .int .i64 (c 3), .int .i64 (c 4), .int .i64 fr, .int .i64 (b 0), .int .i64 (b 1), .int .i64 (b 2), .int .i64 (b 3), .int .i64 (b 4), .int .i64 (b 5), .int .i64 (b 6), .int .i64 (b 7), .int .i64 (b 8), .int .i64 (b 9), .int .i64 (b 10), .int .i64 (b 11), .int .i64 (b 12), .int .i64 (b 13), .int .i64 (b 14), .int .i64 (b 15), .int .i64 (b 16), .int .i64 (b 17), .int .i64 (b 18), .int .i64 (b 19), .int .i64 (b 20), .int .i64 (b 21), .int .i64 (b 22), .int .i64 (b 23)] : Array Value)[2 + j]? = some (.int .i64 (c j)) := by
  intro j hj
  match j, hj with
  | 0, _ | 1, _ | 2, _ | 3, _ | 4, _ => rfl
theorem get_b (lim fr : Int) (c b : Nat → Int) : ∀ j, j < 24 → (#[.int .i64 lim, .slice none 0 0, .int .i64 (c 0), .int .i64 (c 1), .int .i64 (c 2), .int .i64 (c 3), .int .i64 (c 4), .int .i64 fr, .int .i64 (b 0), .int .i64 (b 1), .int .i64 (b 2), .int .i64 (b 3), .int .i64 (b 4), .int .i64 (b 5), .int .i64 (b 6), .int .i64 (b 7), .int .i64 (b 8), .int .i64 (b 9), .int .i64 (b 10), .int .i64 (b 11), .int .i64 (b 12), .int .i64 (b 13), .int .i64 (b 14), .int .i64 (b 15), .int .i64 (b 16), .int .i64 (b 17), .int .i64 (b 18), .int .i64 (b 19), .int .i64 (b 20), .int .i64 (b 21), .int .i64 (b 22), .int .i64 (b 23)] : Array Value)[8 + j]? = some (.int .i64 (b j)) := by
  intro j hj
  have h : j = 0 ∨ j = 1 ∨ j = 2 ∨ j = 3 ∨ j = 4 ∨ j = 5 ∨ j = 6 ∨ j = 7 ∨ j = 8 ∨ j = 9 ∨ j = 10 ∨ j = 11 ∨ j = 12 ∨ j = 13 ∨ j = 14 ∨ j = 15 ∨ j = 16 ∨ j = 17 ∨ j = 18 ∨ j = 19 ∨ j = 20 ∨ j = 21 ∨ j = 22 ∨ j = 23 := by omega
  rcases h with rfl | rfl | rfl | rfl | rfl | rfl | rfl | rfl | rfl | rfl | rfl | rfl | rfl | rfl | rfl | rfl | rfl | rfl | rfl | rfl | rfl | rfl | rfl | rfl <;> rfl
set_option maxHeartbeats 8000000 in
theorem valid_good (lim fr : Int) (c b : Nat → Int) (w : World) (h1 : 1 ≤ lim) (h2 : lim ≤ 256) (hfr : outT fr = false) (hc : ∀ i, i < 5 → outT (c i) = false) (hb : ∀ i, i < 24 → outT (b i) = false) :
    Calls Try.prog 17 #[.agg #[.int .i64 lim, .slice none 0 0, .int .i64 (c 0), .int .i64 (c 1), .int .i64 (c 2), .int .i64 (c 3), .int .i64 (c 4), .int .i64 fr, .int .i64 (b 0), .int .i64 (b 1), .int .i64 (b 2), .int .i64 (b 3), .int .i64 (b 4), .int .i64 (b 5), .int .i64 (b 6), .int .i64 (b 7), .int .i64 (b 8), .int .i64 (b 9), .int .i64 (b 10), .int .i64 (b 11), .int .i64 (b 12), .int .i64 (b 13), .int .i64 (b 14), .int .i64 (b 15), .int .i64 (b 16), .int .i64 (b 17), .int .i64 (b 18), .int .i64 (b 19), .int .i64 (b 20), .int .i64 (b 21), .int .i64 (b 22), .int .i64 (b 23)]] w fun e w' => e = .returned (.bool true) ∧ Grows w w' := by
  have hB := (Below.refl w.heap.size w).alloc (Nat.le_refl _) (Obj.cells #[.int .i64 lim, .slice none 0 0, .int .i64 (c 0), .int .i64 (c 1), .int .i64 (c 2), .int .i64 (c 3), .int .i64 (c 4), .int .i64 fr, .int .i64 (b 0), .int .i64 (b 1), .int .i64 (b 2), .int .i64 (b 3), .int .i64 (b 4), .int .i64 (b 5), .int .i64 (b 6), .int .i64 (b 7), .int .i64 (b 8), .int .i64 (b 9), .int .i64 (b 10), .int .i64 (b 11), .int .i64 (b 12), .int .i64 (b 13), .int .i64 (b 14), .int .i64 (b 15), .int .i64 (b 16), .int .i64 (b 17), .int .i64 (b 18), .int .i64 (b 19), .int .i64 (b 20), .int .i64 (b 21), .int .i64 (b 22), .int .i64 (b 23)] 28)
  have k1 := Blk.new w 28 #[.int .i64 lim, .slice none 0 0, .int .i64 (c 0), .int .i64 (c 1), .int .i64 (c 2), .int .i64 (c 3), .int .i64 (c 4), .int .i64 fr, .int .i64 (b 0), .int .i64 (b 1), .int .i64 (b 2), .int .i64 (b 3), .int .i64 (b 4), .int .i64 (b 5), .int .i64 (b 6), .int .i64 (b 7), .int .i64 (b 8), .int .i64 (b 9), .int .i64 (b 10), .int .i64 (b 11), .int .i64 (b 12), .int .i64 (b 13), .int .i64 (b 14), .int .i64 (b 15), .int .i64 (b 16), .int .i64 (b 17), .int .i64 (b 18), .int .i64 (b 19), .int .i64 (b 20), .int .i64 (b 21), .int .i64 (b 22), .int .i64 (b 23)]
  have gc := get_c lim fr c b
  have gb := get_b lim fr c b
  have y0 : (#[.int .i64 lim, .slice none 0 0, .int .i64 (c 0), .int .i64 (c 1), .int .i64 (c 2), .int .i64 (c 3), .int .i64 (c 4), .int .i64 fr, .int .i64 (b 0), .int .i64 (b 1), .int .i64 (b 2), .int .i64 (b 3), .int .i64 (b 4), .int .i64 (b 5), .int .i64 (b 6), .int .i64 (b 7), .int .i64 (b 8), .int .i64 (b 9), .int .i64 (b 10), .int .i64 (b 11), .int .i64 (b 12), .int .i64 (b 13), .int .i64 (b 14), .int .i64 (b 15), .int .i64 (b 16), .int .i64 (b 17), .int .i64 (b 18), .int .i64 (b 19), .int .i64 (b 20), .int .i64 (b 21), .int .i64 (b 22), .int .i64 (b 23)] : Array Value)[0]? = some (.int .i64 lim) := rfl
  have y1 : (#[.int .i64 lim, .slice none 0 0, .int .i64 (c 0), .int .i64 (c 1), .int .i64 (c 2), .int .i64 (c 3), .int .i64 (c 4), .int .i64 fr, .int .i64 (b 0), .int .i64 (b 1), .int .i64 (b 2), .int .i64 (b 3), .int .i64 (b 4), .int .i64 (b 5), .int .i64 (b 6), .int .i64 (b 7), .int .i64 (b 8), .int .i64 (b 9), .int .i64 (b 10), .int .i64 (b 11), .int .i64 (b 12), .int .i64 (b 13), .int .i64 (b 14), .int .i64 (b 15), .int .i64 (b 16), .int .i64 (b 17), .int .i64 (b 18), .int .i64 (b 19), .int .i64 (b 20), .int .i64 (b 21), .int .i64 (b 22), .int .i64 (b 23)] : Array Value)[1]? = some (.slice none 0 0) := rfl
  have y7 : (#[.int .i64 lim, .slice none 0 0, .int .i64 (c 0), .int .i64 (c 1), .int .i64 (c 2), .int .i64 (c 3), .int .i64 (c 4), .int .i64 fr, .int .i64 (b 0), .int .i64 (b 1), .int .i64 (b 2), .int .i64 (b 3), .int .i64 (b 4), .int .i64 (b 5), .int .i64 (b 6), .int .i64 (b 7), .int .i64 (b 8), .int .i64 (b 9), .int .i64 (b 10), .int .i64 (b 11), .int .i64 (b 12), .int .i64 (b 13), .int .i64 (b 14), .int .i64 (b 15), .int .i64 (b 16), .int .i64 (b 17), .int .i64 (b 18), .int .i64 (b 19), .int .i64 (b 20), .int .i64 (b 21), .int .i64 (b 22), .int .i64 (b 23)] : Array Value)[7]? = some (.int .i64 fr) := rfl
  generalize (#[.int .i64 lim, .slice none 0 0, .int .i64 (c 0), .int .i64 (c 1), .int .i64 (c 2), .int .i64 (c 3), .int .i64 (c 4), .int .i64 fr, .int .i64 (b 0), .int .i64 (b 1), .int .i64 (b 2), .int .i64 (b 3), .int .i64 (b 4), .int .i64 (b 5), .int .i64 (b 6), .int .i64 (b 7), .int .i64 (b 8), .int .i64 (b 9), .int .i64 (b 10), .int .i64 (b 11), .int .i64 (b 12), .int .i64 (b 13), .int .i64 (b 14), .int .i64 (b 15), .int .i64 (b 16), .int .i64 (b 17), .int .i64 (b 18), .int .i64 (b 19), .int .i64 (b 20), .int .i64 (b 21), .int .i64 (b 22), .int .i64 (b 23)] : Array Value) = cs at *
  go_enter Try.func17, Try.ntmps17
  go_wp2_with fail
  refine (containsg_nil _ _).mono ?_
  rintro e w1 ⟨rfl, rfl⟩
  go_wp2_with fail
  have k2 := blk_new_at (X := w.alloc (Obj.cells cs 28)) (n := w.heap.size + 1) (t := 3) (cs := #[.int .i64 fr]) (by simp)
  refine (counts_mid k2 0 1 1 (fun _ => fr) (by omega) (by intro j hj; obtain rfl : j = 0 := (by omega); rfl) (fun _ _ => hfr)).mono ?_
  rintro e w2 ⟨rfl, rfl⟩
  replace k1 := k1.alloc (Obj.cells #[.int .i64 fr] 3)
  replace hB := hB.alloc (by simp) (Obj.cells #[.int .i64 fr] 3)
  generalize World.alloc (World.alloc w _) _ = w3 at *
  go_wp2_with fail
  refine (counts_mid k1 2 5 5 c (by omega) gc hc).mono ?_
  rintro e w4 ⟨rfl, rfl⟩
  go_wp2_with fail
  refine (counts_mid k1 8 24 24 b (by omega) gb hb).mono ?_
  rintro e w5 ⟨rfl, rfl⟩
  go_wp2
  go_ret
  exact ⟨rfl, hB⟩
end Go.Proofs.Ytbohbapheofpiaa
