/-
  Layer 38: recorders, whatever they keep: Measure. Plain contracts of the program and of the reference.
-/
import Derived.Test.YtbohbapheofpiaaRgB
namespace Go.Proofs.Ytbohbapheofpiaa
open Go.RowKit
/-- A slice of glitches that lies from a block on. -/
def From (n : Nat) (A : Option Addr) (l : List Gl) : Prop := ∀ ad, A = some ad → 0 < l.length → n ≤ ad.block
theorem gls_own2 {w : World} {base : Nat} {v : Value} {l : List Gl} (h : w.ownsRow base 43 6 v l.length (gcells l)) : ∃ (A : Option Addr) (c : Nat), v = .slice A l.length c ∧ l.length ≤ c ∧ Gls w A l ∧ From base A l := by
  obtain ⟨A, c, rfl, hc, hg⟩ := gls_own h
  refine ⟨A, c, rfl, hc, hg, fun ad ha _ => ?_⟩
  subst ha
  exact (h.lt ad.block rfl).1
theorem Gls.keep {w w' : World} {A : Option Addr} {l : List Gl} (h : Gls w A l) (hs : w.heap.size ≤ w'.heap.size) (hk : ∀ p : Addr, (∀ ad, A = some ad → 0 < l.length → p.block = ad.block) → w'.cell? p = w.cell? p) : Gls w' A l := by
  refine ⟨h.1, fun hn => ?_⟩
  obtain ⟨ad, e, hb, hc⟩ := h.2 hn
  exact ⟨ad, e, by omega, fun j u hu => (hk _ (fun ad' e' _ => by rw [e] at e'; injection e' with e'; subst e'; exact block_of_add ad j)).trans (hc j u hu)⟩
theorem Gls.setCell {w : World} {A : Option Addr} {l : List Gl} (h : Gls w A l) {n : Nat} (hf : From n A l) {p : Addr} (hp : p.block < n) (u : Value) : Gls (w.setCell p u) A l := by
  refine ⟨h.1, fun hn => ?_⟩
  obtain ⟨ad, e, hb, hc⟩ := h.2 hn
  have hge := hf ad e hn
  exact ⟨ad, e, by simpa [World.setCell] using hb, fun j u' hu => (World.cell?_setCell_other w p _ u (fun ee => by rw [ee, block_of_add] at hp; omega)).trans (hc j u' hu)⟩
theorem Gls.setRow {w : World} {A : Option Addr} {l : List Gl} (h : Gls w A l) {n : Nat} (hf : From n A l) {g : Nat} (hp : g < n) (cs : Array Value) : Gls (w.setRow g cs) A l := by
  refine ⟨h.1, fun hn => ?_⟩
  obtain ⟨ad, e, hb, hc⟩ := h.2 hn
  have hge := hf ad e hn
  refine ⟨ad, e, by simpa [World.setRow] using hb, fun j u' hu => Eq.trans (World.cell?_of_block ?_) (hc j u' hu)⟩
  have hne : ¬ g = (ad.add j).block := by rw [block_of_add]; omega
  simp [World.setRow, Array.getElem?_modify, hne]
theorem bd_of {n : Int} (h : outT n = false) : 0 ≤ n ∧ n ≤ 1099511627776 := by
  simp [outT] at h
  exact h
set_option maxHeartbeats 8000000 in
theorem measR (R : Rec) (v : Value) (n : Int) (w : World) (hv : RecV w R v) (hl : R.l.length ≤ 1000000) (hn : -9223372036854775808 ≤ n ∧ n ≤ 9223372036854775807) : Calls Try.prog 9 #[v, .int .i64 n] w fun e w' => (∃ v', e = .returned (.tuple #[v', .int .i64 (measF R n).2]) ∧ RecV w' (measF R n).1 v') ∧ Grows w w' := by
  obtain ⟨A, cp, rfl, hg⟩ := hv
  obtain ⟨lim, l, c, fr, b⟩ := R
  simp only [] at *
  cases hok : okR lim l c fr b
  · rw [show measF ⟨lim, l, c, fr, b⟩ n = (Rec.zero, 1) from if_neg (by simp [Rec.ok, hok])]
    have hvv : ∀ w1, Gls w1 A l → Calls Try.prog 17 #[.agg (rcV lim (.slice A l.length cp) c fr b)] w1 fun e w' => e = .returned (.bool false) ∧ Grows w1 w' := fun w1 h => by
      have := gvalidR lim fr A cp l c b w1 h hl
      rw [hok] at this
      exact this
    clear hok
    have hzs : ∀ (v : Value) (lim fr : Int) (c b : Nat → Int), (#[.int .i64 0, .slice none 0 0, .int .i64 0, .int .i64 0, .int .i64 0, .int .i64 0, .int .i64 0, .int .i64 0, .int .i64 0, .int .i64 0, .int .i64 0, .int .i64 0, .int .i64 0, .int .i64 0, .int .i64 0, .int .i64 0, .int .i64 0, .int .i64 0, .int .i64 0, .int .i64 0, .int .i64 0, .int .i64 0, .int .i64 0, .int .i64 0, .int .i64 0, .int .i64 0, .int .i64 0, .int .i64 0, .int .i64 0, .int .i64 0, .int .i64 0, .int .i64 0] : Array Value).size = (rcV lim v c fr b).size := fun _ _ _ _ _ => rfl
    go_enter Try.func9, Try.ntmps9
    go_upto_region 1 with fail
    have k2 := (Blk.new w 28 (rcV lim (.slice A l.length cp) c fr b)).alloc (Obj.cells #[.int .i64 0, .slice none 0 0, .int .i64 0, .int .i64 0, .int .i64 0, .int .i64 0, .int .i64 0, .int .i64 0, .int .i64 0, .int .i64 0, .int .i64 0, .int .i64 0, .int .i64 0, .int .i64 0, .int .i64 0, .int .i64 0, .int .i64 0, .int .i64 0, .int .i64 0, .int .i64 0, .int .i64 0, .int .i64 0, .int .i64 0, .int .i64 0, .int .i64 0, .int .i64 0, .int .i64 0, .int .i64 0, .int .i64 0, .int .i64 0, .int .i64 0, .int .i64 0] 28)
    have k4 := blk_new_at (X := w.alloc (Obj.cells (rcV lim (.slice A l.length cp) c fr b) 28)) (n := w.heap.size + 1) (t := 28) (cs := #[.int .i64 0, .slice none 0 0, .int .i64 0, .int .i64 0, .int .i64 0, .int .i64 0, .int .i64 0, .int .i64 0, .int .i64 0, .int .i64 0, .int .i64 0, .int .i64 0, .int .i64 0, .int .i64 0, .int .i64 0, .int .i64 0, .int .i64 0, .int .i64 0, .int .i64 0, .int .i64 0, .int .i64 0, .int .i64 0, .int .i64 0, .int .i64 0, .int .i64 0, .int .i64 0, .int .i64 0, .int .i64 0, .int .i64 0, .int .i64 0, .int .i64 0, .int .i64 0]) (by simp)
    have hB := ((Below.refl w.heap.size w).alloc (Nat.le_refl _) (Obj.cells (rcV lim (.slice A l.length cp) c fr b) 28)).alloc (by simp) (Obj.cells #[.int .i64 0, .slice none 0 0, .int .i64 0, .int .i64 0, .int .i64 0, .int .i64 0, .int .i64 0, .int .i64 0, .int .i64 0, .int .i64 0, .int .i64 0, .int .i64 0, .int .i64 0, .int .i64 0, .int .i64 0, .int .i64 0, .int .i64 0, .int .i64 0, .int .i64 0, .int .i64 0, .int .i64 0, .int .i64 0, .int .i64 0, .int .i64 0, .int .i64 0, .int .i64 0, .int .i64 0, .int .i64 0, .int .i64 0, .int .i64 0, .int .i64 0, .int .i64 0] 28)
    generalize World.alloc (World.alloc w _) _ = w1 at *
    refine wp_region_lit ?_
    refine wpList_load_row rfl _ rfl rfl k2 Try.underlying28 rfl (rcV_info _ _ _ _ _) ?_
    go_wp2_with fail
    refine (hvv _ (hg.grows hB)).mono ?_
    rintro e w2 ⟨rfl, hq⟩
    replace k2 := k2.grows hq
    replace k4 := k4.grows hq
    replace hB := below_grows hB (Nat.le_refl _) hq
    clear hq hvv
    go_upto_region 2 with fail
    refine wp_region_lit ?_
    iterate 1
      refine wpList_plain rfl (fun K hK => ?_)
      go_simp
      refine hK _ _ ?_
      clear hK K
    refine wpList_store_row (cs := (rcV 0 (.slice none 0 0) (fun _ => 0) 0 (fun _ => 0))) rfl _ _ rfl rfl rfl rfl k4 (rcV_info _ _ _ _ _) (hzs _ _ _ _ _) (rcV_one _ _ _ _ _ _ _) ?_
    replace k4 := k4.row (cs := (rcV 0 (.slice none 0 0) (fun _ => 0) 0 (fun _ => 0)))
    replace hB := below_row hB (g := (w.heap.size + 1)) (by omega) (rcV 0 (.slice none 0 0) (fun _ => 0) 0 (fun _ => 0))
    generalize World.setRow _ _ _ = w9 at *
    go_wp2
    have hlo := run_loadVar_row (P := Try.prog) w9 (w.heap.size + 1) 28 28 (rcV 0 (.slice none 0 0) (fun _ => 0) 0 (fun _ => 0)) (0, 0) _ k4 Try.underlying28 rfl (rcV_info _ _ _ _ _)
    refine bodyPost_ret (v := .tuple #[.agg (rcV 0 (.slice none 0 0) (fun _ => 0) 0 (fun _ => 0)), .int .i64 1]) ?_ rfl ⟨⟨_, rfl, recV_zero _⟩, hB⟩
    unfold results
    simp only [Try.results9]
    simp [asAddr, hlo]
  obtain ⟨-, -, -, -, -, -, hbb⟩ := (okR_iff lim l c fr b).1 hok
  rw [show measF ⟨lim, l, c, fr, b⟩ n = if n < 0 then (Rec.zero, 2) else (⟨lim, l, c, fr, bAdd b (min (Lib.bitLen n.toNat) 23)⟩, 0) from if_pos hok]
  by_cases h0 : n < 0
  · rw [if_pos h0]
    have hvv : ∀ w1, Gls w1 A l → Calls Try.prog 17 #[.agg (rcV lim (.slice A l.length cp) c fr b)] w1 fun e w' => e = .returned (.bool true) ∧ Grows w1 w' := fun w1 h => by
      have := gvalidR lim fr A cp l c b w1 h hl
      rw [hok] at this
      exact this
    clear hok
    have hzs : ∀ (v : Value) (lim fr : Int) (c b : Nat → Int), (#[.int .i64 0, .slice none 0 0, .int .i64 0, .int .i64 0, .int .i64 0, .int .i64 0, .int .i64 0, .int .i64 0, .int .i64 0, .int .i64 0, .int .i64 0, .int .i64 0, .int .i64 0, .int .i64 0, .int .i64 0, .int .i64 0, .int .i64 0, .int .i64 0, .int .i64 0, .int .i64 0, .int .i64 0, .int .i64 0, .int .i64 0, .int .i64 0, .int .i64 0, .int .i64 0, .int .i64 0, .int .i64 0, .int .i64 0, .int .i64 0, .int .i64 0, .int .i64 0] : Array Value).size = (rcV lim v c fr b).size := fun _ _ _ _ _ => rfl
    go_enter Try.func9, Try.ntmps9
    go_upto_region 1 with fail
    have k2 := (Blk.new w 28 (rcV lim (.slice A l.length cp) c fr b)).alloc (Obj.cells #[.int .i64 0, .slice none 0 0, .int .i64 0, .int .i64 0, .int .i64 0, .int .i64 0, .int .i64 0, .int .i64 0, .int .i64 0, .int .i64 0, .int .i64 0, .int .i64 0, .int .i64 0, .int .i64 0, .int .i64 0, .int .i64 0, .int .i64 0, .int .i64 0, .int .i64 0, .int .i64 0, .int .i64 0, .int .i64 0, .int .i64 0, .int .i64 0, .int .i64 0, .int .i64 0, .int .i64 0, .int .i64 0, .int .i64 0, .int .i64 0, .int .i64 0, .int .i64 0] 28)
    have k4 := blk_new_at (X := w.alloc (Obj.cells (rcV lim (.slice A l.length cp) c fr b) 28)) (n := w.heap.size + 1) (t := 28) (cs := #[.int .i64 0, .slice none 0 0, .int .i64 0, .int .i64 0, .int .i64 0, .int .i64 0, .int .i64 0, .int .i64 0, .int .i64 0, .int .i64 0, .int .i64 0, .int .i64 0, .int .i64 0, .int .i64 0, .int .i64 0, .int .i64 0, .int .i64 0, .int .i64 0, .int .i64 0, .int .i64 0, .int .i64 0, .int .i64 0, .int .i64 0, .int .i64 0, .int .i64 0, .int .i64 0, .int .i64 0, .int .i64 0, .int .i64 0, .int .i64 0, .int .i64 0, .int .i64 0]) (by simp)
    have hB := ((Below.refl w.heap.size w).alloc (Nat.le_refl _) (Obj.cells (rcV lim (.slice A l.length cp) c fr b) 28)).alloc (by simp) (Obj.cells #[.int .i64 0, .slice none 0 0, .int .i64 0, .int .i64 0, .int .i64 0, .int .i64 0, .int .i64 0, .int .i64 0, .int .i64 0, .int .i64 0, .int .i64 0, .int .i64 0, .int .i64 0, .int .i64 0, .int .i64 0, .int .i64 0, .int .i64 0, .int .i64 0, .int .i64 0, .int .i64 0, .int .i64 0, .int .i64 0, .int .i64 0, .int .i64 0, .int .i64 0, .int .i64 0, .int .i64 0, .int .i64 0, .int .i64 0, .int .i64 0, .int .i64 0, .int .i64 0] 28)
    generalize World.alloc (World.alloc w _) _ = w1 at *
    refine wp_region_lit ?_
    refine wpList_load_row rfl _ rfl rfl k2 Try.underlying28 rfl (rcV_info _ _ _ _ _) ?_
    go_wp2_with fail
    refine (hvv _ (hg.grows hB)).mono ?_
    rintro e w2 ⟨rfl, hq⟩
    replace k2 := k2.grows hq
    replace k4 := k4.grows hq
    replace hB := below_grows hB (Nat.le_refl _) hq
    clear hq hvv
    go_upto_region 4 with fail
    refine wp_region_lit ?_
    iterate 1
      refine wpList_plain rfl (fun K hK => ?_)
      go_simp
      refine hK _ _ ?_
      clear hK K
    refine wpList_store_row (cs := (rcV 0 (.slice none 0 0) (fun _ => 0) 0 (fun _ => 0))) rfl _ _ rfl rfl rfl rfl k4 (rcV_info _ _ _ _ _) (hzs _ _ _ _ _) (rcV_one _ _ _ _ _ _ _) ?_
    replace k4 := k4.row (cs := (rcV 0 (.slice none 0 0) (fun _ => 0) 0 (fun _ => 0)))
    replace hB := below_row hB (g := (w.heap.size + 1)) (by omega) (rcV 0 (.slice none 0 0) (fun _ => 0) 0 (fun _ => 0))
    generalize World.setRow _ _ _ = w9 at *
    go_wp2
    have hlo := run_loadVar_row (P := Try.prog) w9 (w.heap.size + 1) 28 28 (rcV 0 (.slice none 0 0) (fun _ => 0) 0 (fun _ => 0)) (0, 0) _ k4 Try.underlying28 rfl (rcV_info _ _ _ _ _)
    refine bodyPost_ret (v := .tuple #[.agg (rcV 0 (.slice none 0 0) (fun _ => 0) 0 (fun _ => 0)), .int .i64 2]) ?_ rfl ⟨⟨_, rfl, recV_zero _⟩, hB⟩
    unfold results
    simp only [Try.results9]
    simp [asAddr, hlo]
  rw [if_neg h0]
  obtain ⟨k, hk⟩ : ∃ k, k = min (Lib.bitLen n.toNat) 23 := ⟨_, rfl⟩
  rw [← hk]
  have hvv : ∀ w1, Gls w1 A l → Calls Try.prog 17 #[.agg (rcV lim (.slice A l.length cp) c fr b)] w1 fun e w' => e = .returned (.bool true) ∧ Grows w1 w' := fun w1 h => by
    have := gvalidR lim fr A cp l c b w1 h hl
    rw [hok] at this
    exact this
  clear hok
  have hzs : ∀ (v : Value) (lim fr : Int) (c b : Nat → Int), (#[.int .i64 0, .slice none 0 0, .int .i64 0, .int .i64 0, .int .i64 0, .int .i64 0, .int .i64 0, .int .i64 0, .int .i64 0, .int .i64 0, .int .i64 0, .int .i64 0, .int .i64 0, .int .i64 0, .int .i64 0, .int .i64 0, .int .i64 0, .int .i64 0, .int .i64 0, .int .i64 0, .int .i64 0, .int .i64 0, .int .i64 0, .int .i64 0, .int .i64 0, .int .i64 0, .int .i64 0, .int .i64 0, .int .i64 0, .int .i64 0, .int .i64 0, .int .i64 0] : Array Value).size = (rcV lim v c fr b).size := fun _ _ _ _ _ => rfl
  go_enter Try.func9, Try.ntmps9
  go_upto_region 1 with fail
  have k2 := (Blk.new w 28 (rcV lim (.slice A l.length cp) c fr b)).alloc (Obj.cells #[.int .i64 0, .slice none 0 0, .int .i64 0, .int .i64 0, .int .i64 0, .int .i64 0, .int .i64 0, .int .i64 0, .int .i64 0, .int .i64 0, .int .i64 0, .int .i64 0, .int .i64 0, .int .i64 0, .int .i64 0, .int .i64 0, .int .i64 0, .int .i64 0, .int .i64 0, .int .i64 0, .int .i64 0, .int .i64 0, .int .i64 0, .int .i64 0, .int .i64 0, .int .i64 0, .int .i64 0, .int .i64 0, .int .i64 0, .int .i64 0, .int .i64 0, .int .i64 0] 28)
  have k4 := blk_new_at (X := w.alloc (Obj.cells (rcV lim (.slice A l.length cp) c fr b) 28)) (n := w.heap.size + 1) (t := 28) (cs := #[.int .i64 0, .slice none 0 0, .int .i64 0, .int .i64 0, .int .i64 0, .int .i64 0, .int .i64 0, .int .i64 0, .int .i64 0, .int .i64 0, .int .i64 0, .int .i64 0, .int .i64 0, .int .i64 0, .int .i64 0, .int .i64 0, .int .i64 0, .int .i64 0, .int .i64 0, .int .i64 0, .int .i64 0, .int .i64 0, .int .i64 0, .int .i64 0, .int .i64 0, .int .i64 0, .int .i64 0, .int .i64 0, .int .i64 0, .int .i64 0, .int .i64 0, .int .i64 0]) (by simp)
  have hB := ((Below.refl w.heap.size w).alloc (Nat.le_refl _) (Obj.cells (rcV lim (.slice A l.length cp) c fr b) 28)).alloc (by simp) (Obj.cells #[.int .i64 0, .slice none 0 0, .int .i64 0, .int .i64 0, .int .i64 0, .int .i64 0, .int .i64 0, .int .i64 0, .int .i64 0, .int .i64 0, .int .i64 0, .int .i64 0, .int .i64 0, .int .i64 0, .int .i64 0, .int .i64 0, .int .i64 0, .int .i64 0, .int .i64 0, .int .i64 0, .int .i64 0, .int .i64 0, .int .i64 0, .int .i64 0, .int .i64 0, .int .i64 0, .int .i64 0, .int .i64 0, .int .i64 0, .int .i64 0, .int .i64 0, .int .i64 0] 28)
  generalize World.alloc (World.alloc w _) _ = w1 at *
  refine wp_region_lit ?_
  refine wpList_load_row rfl _ rfl rfl k2 Try.underlying28 rfl (rcV_info _ _ _ _ _) ?_
  go_wp2_with fail
  refine (hvv _ (hg.grows hB)).mono ?_
  rintro e w2 ⟨rfl, hq⟩
  replace k2 := k2.grows hq
  replace k4 := k4.grows hq
  replace hB := below_grows hB (Nat.le_refl _) hq
  clear hq hvv
  have wn : IntKind.u64.wrap n = n := IntWalk.u64_in _ (by omega)
  go_wp2_with fail
  refine (bits_Len n _ (by omega) (by omega)).mono ?_
  rintro e w3 ⟨rfl, rfl⟩
  have em : min (Lib.bitLen n.toNat : Int) 23 = k := by omega
  have hk2 : k < 24 := by omega
  clear hk
  generalize Lib.bitLen n.toNat = bl at *
  have hbk := bd_of (hbb k hk2)
  have x2 := k2.cell (8 + k)
  rw [rcV_b _ _ _ _ _ k hk2] at x2
  have f2 := k2.frozen (8 + k)
  go_wp2_with fail
  refine (grow_any (b k) 1 _ hbk.1 hbk.2 (by omega) (by omega)).mono ?_
  rintro e w4 ⟨rfl, rfl⟩
  go_upto_region 7 with fail
  replace k2 := k2.set_ (8 + k) (.int .i64 (min (b k + 1) 1099511627776))
  rw [rcV_setb _ _ _ _ _ k hk2] at k2
  replace k4 := k4.far (p := ⟨w.heap.size, 8 + k, none⟩) (by simp) (.int .i64 (min (b k + 1) 1099511627776))
  replace hB := hB.setCell (p := ⟨w.heap.size, 8 + k, none⟩) (Nat.le_refl _) (.int .i64 (min (b k + 1) 1099511627776))
  generalize World.setCell w3 _ _ = w4 at *
  clear x2 f2
  have x1 := k2.cell 1
  rw [rcV_1] at x1
  have f1 := k2.frozen 1
  go_wp2_with fail
  refine (gclone_any A cp l _ (hg.grows hB) hl).mono ?_
  rintro e w5 ⟨⟨v', rfl, hown⟩, hq⟩
  obtain ⟨A2, c2, rfl, hcc, hgl, hfr⟩ := gls_own2 hown
  have hb4 : w.heap.size + 1 < w4.heap.size := k4.lt
  replace k2 := k2.grows hq
  replace k4 := k4.grows hq
  replace hB := below_grows hB (Nat.le_refl _) hq
  clear x1 f1 hq hown
  have x1 := k2.cell 1
  rw [rcV_1] at x1
  have f1 := k2.frozen 1
  go_upto_region 8 with fail
  replace k2 := k2.set_ (1) (.slice A2 l.length c2)
  rw [rcV_set1] at k2
  replace k4 := k4.far (p := ⟨w.heap.size, 1, none⟩) (by simp) (.slice A2 l.length c2)
  replace hB := hB.setCell (p := ⟨w.heap.size, 1, none⟩) (Nat.le_refl _) (.slice A2 l.length c2)
  replace hgl := hgl.setCell hfr (p := ⟨w.heap.size, 1, none⟩) (by simp; omega) (.slice A2 l.length c2)
  generalize World.setCell w5 _ _ = w6 at *
  clear f1 x1
  refine wp_region_lit ?_
  refine wpList_load_row rfl _ rfl rfl k2 Try.underlying28 rfl (rcV_info _ _ _ _ _) ?_
  refine wpList_store_row rfl _ _ rfl rfl rfl rfl k4 (rcV_info _ _ _ _ _) (hzs _ _ _ _ _) (rcV_one _ _ _ _ _ _ _) ?_
  replace k4 := k4.row (cs := (rcV lim (.slice A2 l.length c2) c fr (upB b k (min (b k + 1) 1099511627776))))
  replace hB := below_row hB (g := w.heap.size + 1) (by omega) (rcV lim (.slice A2 l.length c2) c fr (upB b k (min (b k + 1) 1099511627776)))
  replace hgl := hgl.setRow hfr (g := w.heap.size + 1) (by omega) (rcV lim (.slice A2 l.length c2) c fr (upB b k (min (b k + 1) 1099511627776)))
  generalize World.setRow _ _ _ = w9 at *
  go_wp2
  have hlo := run_loadVar_row (P := Try.prog) w9 (w.heap.size + 1) 28 28 (rcV lim (.slice A2 l.length c2) c fr (upB b k (min (b k + 1) 1099511627776))) (0, 0) _ k4 Try.underlying28 rfl (rcV_info _ _ _ _ _)
  refine bodyPost_ret (v := .tuple #[.agg (rcV lim (.slice A2 l.length c2) c fr (upB b k (min (b k + 1) 1099511627776))), .int .i64 0]) ?_ rfl ⟨⟨_, rfl, recV_mk hgl _ _ _ _ _⟩, hB⟩
  unfold results
  simp only [Try.results9]
  simp [asAddr, hlo]
set_option maxHeartbeats 8000000 in
theorem rmeasR (R : Rec) (v : Value) (n : Int) (w : World) (hv : RecV w R v) (hl : R.l.length ≤ 1000000) (hn : -9223372036854775808 ≤ n ∧ n ≤ 9223372036854775807) : Calls Try.prog 24 #[v, .int .i64 n] w fun e w' => (∃ v', e = .returned (.tuple #[v', .int .i64 (measF R n).2]) ∧ RecV w' (measF R n).1 v') ∧ Grows w w' := by
  obtain ⟨A, cp, rfl, hg⟩ := hv
  obtain ⟨lim, l, c, fr, b⟩ := R
  simp only [] at *
  cases hok : okR lim l c fr b
  · rw [show measF ⟨lim, l, c, fr, b⟩ n = (Rec.zero, 1) from if_neg (by simp [Rec.ok, hok])]
    have hvv : ∀ w1, Gls w1 A l → Calls Try.prog 18 #[.agg (rcV lim (.slice A l.length cp) c fr b)] w1 fun e w' => e = .returned (.bool false) ∧ Grows w1 w' := fun w1 h => by
      have := rvalidR lim fr A cp l c b w1 h hl
      rw [hok] at this
      exact this
    clear hok
    have hzs : ∀ (v : Value) (lim fr : Int) (c b : Nat → Int), (#[.int .i64 0, .slice none 0 0, .int .i64 0, .int .i64 0, .int .i64 0, .int .i64 0, .int .i64 0, .int .i64 0, .int .i64 0, .int .i64 0, .int .i64 0, .int .i64 0, .int .i64 0, .int .i64 0, .int .i64 0, .int .i64 0, .int .i64 0, .int .i64 0, .int .i64 0, .int .i64 0, .int .i64 0, .int .i64 0, .int .i64 0, .int .i64 0, .int .i64 0, .int .i64 0, .int .i64 0, .int .i64 0, .int .i64 0, .int .i64 0, .int .i64 0, .int .i64 0] : Array Value).size = (rcV lim v c fr b).size := fun _ _ _ _ _ => rfl
    go_enter Try.func24, Try.ntmps24
    go_upto_region 1 with fail
    have k2 := (Blk.new w 28 (rcV lim (.slice A l.length cp) c fr b)).alloc (Obj.cells #[.int .i64 0, .slice none 0 0, .int .i64 0, .int .i64 0, .int .i64 0, .int .i64 0, .int .i64 0, .int .i64 0, .int .i64 0, .int .i64 0, .int .i64 0, .int .i64 0, .int .i64 0, .int .i64 0, .int .i64 0, .int .i64 0, .int .i64 0, .int .i64 0, .int .i64 0, .int .i64 0, .int .i64 0, .int .i64 0, .int .i64 0, .int .i64 0, .int .i64 0, .int .i64 0, .int .i64 0, .int .i64 0, .int .i64 0, .int .i64 0, .int .i64 0, .int .i64 0] 28)
    have k4 := blk_new_at (X := w.alloc (Obj.cells (rcV lim (.slice A l.length cp) c fr b) 28)) (n := w.heap.size + 1) (t := 28) (cs := #[.int .i64 0, .slice none 0 0, .int .i64 0, .int .i64 0, .int .i64 0, .int .i64 0, .int .i64 0, .int .i64 0, .int .i64 0, .int .i64 0, .int .i64 0, .int .i64 0, .int .i64 0, .int .i64 0, .int .i64 0, .int .i64 0, .int .i64 0, .int .i64 0, .int .i64 0, .int .i64 0, .int .i64 0, .int .i64 0, .int .i64 0, .int .i64 0, .int .i64 0, .int .i64 0, .int .i64 0, .int .i64 0, .int .i64 0, .int .i64 0, .int .i64 0, .int .i64 0]) (by simp)
    have hB := ((Below.refl w.heap.size w).alloc (Nat.le_refl _) (Obj.cells (rcV lim (.slice A l.length cp) c fr b) 28)).alloc (by simp) (Obj.cells #[.int .i64 0, .slice none 0 0, .int .i64 0, .int .i64 0, .int .i64 0, .int .i64 0, .int .i64 0, .int .i64 0, .int .i64 0, .int .i64 0, .int .i64 0, .int .i64 0, .int .i64 0, .int .i64 0, .int .i64 0, .int .i64 0, .int .i64 0, .int .i64 0, .int .i64 0, .int .i64 0, .int .i64 0, .int .i64 0, .int .i64 0, .int .i64 0, .int .i64 0, .int .i64 0, .int .i64 0, .int .i64 0, .int .i64 0, .int .i64 0, .int .i64 0, .int .i64 0] 28)
    generalize World.alloc (World.alloc w _) _ = w1 at *
    refine wp_region_lit ?_
    refine wpList_load_row rfl _ rfl rfl k2 Try.underlying28 rfl (rcV_info _ _ _ _ _) ?_
    go_wp2_with fail
    refine (hvv _ (hg.grows hB)).mono ?_
    rintro e w2 ⟨rfl, hq⟩
    replace k2 := k2.grows hq
    replace k4 := k4.grows hq
    replace hB := below_grows hB (Nat.le_refl _) hq
    clear hq hvv
    go_upto_region 2 with fail
    refine wp_region_lit ?_
    iterate 1
      refine wpList_plain rfl (fun K hK => ?_)
      go_simp
      refine hK _ _ ?_
      clear hK K
    refine wpList_store_row (cs := (rcV 0 (.slice none 0 0) (fun _ => 0) 0 (fun _ => 0))) rfl _ _ rfl rfl rfl rfl k4 (rcV_info _ _ _ _ _) (hzs _ _ _ _ _) (rcV_one _ _ _ _ _ _ _) ?_
    replace k4 := k4.row (cs := (rcV 0 (.slice none 0 0) (fun _ => 0) 0 (fun _ => 0)))
    replace hB := below_row hB (g := (w.heap.size + 1)) (by omega) (rcV 0 (.slice none 0 0) (fun _ => 0) 0 (fun _ => 0))
    generalize World.setRow _ _ _ = w9 at *
    go_wp2
    have hlo := run_loadVar_row (P := Try.prog) w9 (w.heap.size + 1) 28 28 (rcV 0 (.slice none 0 0) (fun _ => 0) 0 (fun _ => 0)) (0, 0) _ k4 Try.underlying28 rfl (rcV_info _ _ _ _ _)
    refine bodyPost_ret (v := .tuple #[.agg (rcV 0 (.slice none 0 0) (fun _ => 0) 0 (fun _ => 0)), .int .i64 1]) ?_ rfl ⟨⟨_, rfl, recV_zero _⟩, hB⟩
    unfold results
    simp only [Try.results24]
    simp [asAddr, hlo]
  obtain ⟨-, -, -, -, -, -, hbb⟩ := (okR_iff lim l c fr b).1 hok
  rw [show measF ⟨lim, l, c, fr, b⟩ n = if n < 0 then (Rec.zero, 2) else (⟨lim, l, c, fr, bAdd b (min (Lib.bitLen n.toNat) 23)⟩, 0) from if_pos hok]
  by_cases h0 : n < 0
  · rw [if_pos h0]
    have hvv : ∀ w1, Gls w1 A l → Calls Try.prog 18 #[.agg (rcV lim (.slice A l.length cp) c fr b)] w1 fun e w' => e = .returned (.bool true) ∧ Grows w1 w' := fun w1 h => by
      have := rvalidR lim fr A cp l c b w1 h hl
      rw [hok] at this
      exact this
    clear hok
    have hzs : ∀ (v : Value) (lim fr : Int) (c b : Nat → Int), (#[.int .i64 0, .slice none 0 0, .int .i64 0, .int .i64 0, .int .i64 0, .int .i64 0, .int .i64 0, .int .i64 0, .int .i64 0, .int .i64 0, .int .i64 0, .int .i64 0, .int .i64 0, .int .i64 0, .int .i64 0, .int .i64 0, .int .i64 0, .int .i64 0, .int .i64 0, .int .i64 0, .int .i64 0, .int .i64 0, .int .i64 0, .int .i64 0, .int .i64 0, .int .i64 0, .int .i64 0, .int .i64 0, .int .i64 0, .int .i64 0, .int .i64 0, .int .i64 0] : Array Value).size = (rcV lim v c fr b).size := fun _ _ _ _ _ => rfl
    go_enter Try.func24, Try.ntmps24
    go_upto_region 1 with fail
    have k2 := (Blk.new w 28 (rcV lim (.slice A l.length cp) c fr b)).alloc (Obj.cells #[.int .i64 0, .slice none 0 0, .int .i64 0, .int .i64 0, .int .i64 0, .int .i64 0, .int .i64 0, .int .i64 0, .int .i64 0, .int .i64 0, .int .i64 0, .int .i64 0, .int .i64 0, .int .i64 0, .int .i64 0, .int .i64 0, .int .i64 0, .int .i64 0, .int .i64 0, .int .i64 0, .int .i64 0, .int .i64 0, .int .i64 0, .int .i64 0, .int .i64 0, .int .i64 0, .int .i64 0, .int .i64 0, .int .i64 0, .int .i64 0, .int .i64 0, .int .i64 0] 28)
    have k4 := blk_new_at (X := w.alloc (Obj.cells (rcV lim (.slice A l.length cp) c fr b) 28)) (n := w.heap.size + 1) (t := 28) (cs := #[.int .i64 0, .slice none 0 0, .int .i64 0, .int .i64 0, .int .i64 0, .int .i64 0, .int .i64 0, .int .i64 0, .int .i64 0, .int .i64 0, .int .i64 0, .int .i64 0, .int .i64 0, .int .i64 0, .int .i64 0, .int .i64 0, .int .i64 0, .int .i64 0, .int .i64 0, .int .i64 0, .int .i64 0, .int .i64 0, .int .i64 0, .int .i64 0, .int .i64 0, .int .i64 0, .int .i64 0, .int .i64 0, .int .i64 0, .int .i64 0, .int .i64 0, .int .i64 0]) (by simp)
    have hB := ((Below.refl w.heap.size w).alloc (Nat.le_refl _) (Obj.cells (rcV lim (.slice A l.length cp) c fr b) 28)).alloc (by simp) (Obj.cells #[.int .i64 0, .slice none 0 0, .int .i64 0, .int .i64 0, .int .i64 0, .int .i64 0, .int .i64 0, .int .i64 0, .int .i64 0, .int .i64 0, .int .i64 0, .int .i64 0, .int .i64 0, .int .i64 0, .int .i64 0, .int .i64 0, .int .i64 0, .int .i64 0, .int .i64 0, .int .i64 0, .int .i64 0, .int .i64 0, .int .i64 0, .int .i64 0, .int .i64 0, .int .i64 0, .int .i64 0, .int .i64 0, .int .i64 0, .int .i64 0, .int .i64 0, .int .i64 0] 28)
    generalize World.alloc (World.alloc w _) _ = w1 at *
    refine wp_region_lit ?_
    refine wpList_load_row rfl _ rfl rfl k2 Try.underlying28 rfl (rcV_info _ _ _ _ _) ?_
    go_wp2_with fail
    refine (hvv _ (hg.grows hB)).mono ?_
    rintro e w2 ⟨rfl, hq⟩
    replace k2 := k2.grows hq
    replace k4 := k4.grows hq
    replace hB := below_grows hB (Nat.le_refl _) hq
    clear hq hvv
    go_upto_region 4 with fail
    refine wp_region_lit ?_
    iterate 1
      refine wpList_plain rfl (fun K hK => ?_)
      go_simp
      refine hK _ _ ?_
      clear hK K
    refine wpList_store_row (cs := (rcV 0 (.slice none 0 0) (fun _ => 0) 0 (fun _ => 0))) rfl _ _ rfl rfl rfl rfl k4 (rcV_info _ _ _ _ _) (hzs _ _ _ _ _) (rcV_one _ _ _ _ _ _ _) ?_
    replace k4 := k4.row (cs := (rcV 0 (.slice none 0 0) (fun _ => 0) 0 (fun _ => 0)))
    replace hB := below_row hB (g := (w.heap.size + 1)) (by omega) (rcV 0 (.slice none 0 0) (fun _ => 0) 0 (fun _ => 0))
    generalize World.setRow _ _ _ = w9 at *
    go_wp2
    have hlo := run_loadVar_row (P := Try.prog) w9 (w.heap.size + 1) 28 28 (rcV 0 (.slice none 0 0) (fun _ => 0) 0 (fun _ => 0)) (0, 0) _ k4 Try.underlying28 rfl (rcV_info _ _ _ _ _)
    refine bodyPost_ret (v := .tuple #[.agg (rcV 0 (.slice none 0 0) (fun _ => 0) 0 (fun _ => 0)), .int .i64 2]) ?_ rfl ⟨⟨_, rfl, recV_zero _⟩, hB⟩
    unfold results
    simp only [Try.results24]
    simp [asAddr, hlo]
  rw [if_neg h0]
  obtain ⟨m0, hm0⟩ : ∃ m0 : Nat, m0 = n.toNat := ⟨_, rfl⟩
  obtain rfl : n = (m0 : Int) := by omega
  clear hm0 h0
  rw [show ((m0 : Int)).toNat = m0 from rfl]
  have hb2 : m0 < 2 ^ 64 := by omega
  obtain ⟨k, hk⟩ : ∃ k, k = min (Lib.bitLen m0) 23 := ⟨_, rfl⟩
  rw [← hk]
  have hvv : ∀ w1, Gls w1 A l → Calls Try.prog 18 #[.agg (rcV lim (.slice A l.length cp) c fr b)] w1 fun e w' => e = .returned (.bool true) ∧ Grows w1 w' := fun w1 h => by
    have := rvalidR lim fr A cp l c b w1 h hl
    rw [hok] at this
    exact this
  clear hok
  have hzs : ∀ (v : Value) (lim fr : Int) (c b : Nat → Int), (#[.int .i64 0, .slice none 0 0, .int .i64 0, .int .i64 0, .int .i64 0, .int .i64 0, .int .i64 0, .int .i64 0, .int .i64 0, .int .i64 0, .int .i64 0, .int .i64 0, .int .i64 0, .int .i64 0, .int .i64 0, .int .i64 0, .int .i64 0, .int .i64 0, .int .i64 0, .int .i64 0, .int .i64 0, .int .i64 0, .int .i64 0, .int .i64 0, .int .i64 0, .int .i64 0, .int .i64 0, .int .i64 0, .int .i64 0, .int .i64 0, .int .i64 0, .int .i64 0] : Array Value).size = (rcV lim v c fr b).size := fun _ _ _ _ _ => rfl
  go_enter Try.func24, Try.ntmps24
  go_upto_region 1 with fail
  have k2 := (Blk.new w 28 (rcV lim (.slice A l.length cp) c fr b)).alloc (Obj.cells #[.int .i64 0, .slice none 0 0, .int .i64 0, .int .i64 0, .int .i64 0, .int .i64 0, .int .i64 0, .int .i64 0, .int .i64 0, .int .i64 0, .int .i64 0, .int .i64 0, .int .i64 0, .int .i64 0, .int .i64 0, .int .i64 0, .int .i64 0, .int .i64 0, .int .i64 0, .int .i64 0, .int .i64 0, .int .i64 0, .int .i64 0, .int .i64 0, .int .i64 0, .int .i64 0, .int .i64 0, .int .i64 0, .int .i64 0, .int .i64 0, .int .i64 0, .int .i64 0] 28)
  have k4 := blk_new_at (X := w.alloc (Obj.cells (rcV lim (.slice A l.length cp) c fr b) 28)) (n := w.heap.size + 1) (t := 28) (cs := #[.int .i64 0, .slice none 0 0, .int .i64 0, .int .i64 0, .int .i64 0, .int .i64 0, .int .i64 0, .int .i64 0, .int .i64 0, .int .i64 0, .int .i64 0, .int .i64 0, .int .i64 0, .int .i64 0, .int .i64 0, .int .i64 0, .int .i64 0, .int .i64 0, .int .i64 0, .int .i64 0, .int .i64 0, .int .i64 0, .int .i64 0, .int .i64 0, .int .i64 0, .int .i64 0, .int .i64 0, .int .i64 0, .int .i64 0, .int .i64 0, .int .i64 0, .int .i64 0]) (by simp)
  have hB := ((Below.refl w.heap.size w).alloc (Nat.le_refl _) (Obj.cells (rcV lim (.slice A l.length cp) c fr b) 28)).alloc (by simp) (Obj.cells #[.int .i64 0, .slice none 0 0, .int .i64 0, .int .i64 0, .int .i64 0, .int .i64 0, .int .i64 0, .int .i64 0, .int .i64 0, .int .i64 0, .int .i64 0, .int .i64 0, .int .i64 0, .int .i64 0, .int .i64 0, .int .i64 0, .int .i64 0, .int .i64 0, .int .i64 0, .int .i64 0, .int .i64 0, .int .i64 0, .int .i64 0, .int .i64 0, .int .i64 0, .int .i64 0, .int .i64 0, .int .i64 0, .int .i64 0, .int .i64 0, .int .i64 0, .int .i64 0] 28)
  generalize World.alloc (World.alloc w _) _ = w1 at *
  refine wp_region_lit ?_
  refine wpList_load_row rfl _ rfl rfl k2 Try.underlying28 rfl (rcV_info _ _ _ _ _) ?_
  go_wp2_with fail
  refine (hvv _ (hg.grows hB)).mono ?_
  rintro e w2 ⟨rfl, hq⟩
  replace k2 := k2.grows hq
  replace k4 := k4.grows hq
  replace hB := below_grows hB (Nat.le_refl _) hq
  clear hq hvv
  go_upto_region 6 with fail
  go_loopw [1, 6] (fun x i wr => ∃ j m : Nat, i = .int .i64 j ∧ x = .int .i64 m ∧ m < 2 ^ 64 ∧ j + Lib.bitLen m = Lib.bitLen m0 ∧ wr = w2) (fun x _ _ => (intOf x).toNat)
  case atStart => exact ⟨0, m0, rfl, rfl, hb2, by omega, rfl⟩
  case round =>
    obtain ⟨j, m, rfl, rfl, hm, hj, rfl⟩ := hrel
    have hj64 : Lib.bitLen m0 ≤ 64 := Lib.bitLen_le m0 64 (Nat.le_refl _) hb2
    by_cases hpos : 0 < m
    · have hd : Int.tdiv (m : Int) 2 = ((m / 2 : Nat) : Int) := by rw [Int.tdiv_eq_ediv_of_nonneg (by omega)]; omega
      have hh := Lib.bitLen_half m (by omega) hm
      have hposi : decide ((0 : Int) < m) = true := by simp; omega
      go_wp2
      go_roundw
      case rel => exact ⟨j + 1, m / 2, by go_num, by go_num, by omega, by omega, by first | rfl | trivial⟩
      case measure => simp [intOf]; omega
    · obtain rfl : m = 0 := by omega
      have hz : Lib.bitLen 0 = 0 := rfl
      rw [hz] at hj
      clear hpos hz
      obtain rfl : j = Lib.bitLen m0 := by omega
      have em : min (Lib.bitLen m0 : Int) 23 = k := by omega
      have hk2 : k < 24 := by omega
      clear hk hj64 hj
      generalize Lib.bitLen m0 = bl at *
      have hbk := bd_of (hbb k hk2)
      have x2 := k2.cell (8 + k)
      rw [rcV_b _ _ _ _ _ k hk2] at x2
      have f2 := k2.frozen (8 + k)
      go_upto_region 11 with fail
      replace k2 := k2.set_ (8 + k) (.int .i64 (min (b k + 1) 1099511627776))
      rw [rcV_setb _ _ _ _ _ k hk2] at k2
      replace k4 := k4.far (p := ⟨w.heap.size, 8 + k, none⟩) (by simp) (.int .i64 (min (b k + 1) 1099511627776))
      replace hB := hB.setCell (p := ⟨w.heap.size, 8 + k, none⟩) (Nat.le_refl _) (.int .i64 (min (b k + 1) 1099511627776))
      generalize World.setCell _ _ _ = w4 at *
      clear x2 f2
      refine wp_region_lit ?_
      refine wpList_load_row rfl _ rfl rfl k2 Try.underlying28 rfl (rcV_info _ _ _ _ _) ?_
      refine wpList_store_row rfl _ _ rfl rfl rfl rfl k4 (rcV_info _ _ _ _ _) (hzs _ _ _ _ _) (rcV_one _ _ _ _ _ _ _) ?_
      replace k4 := k4.row (cs := (rcV lim (.slice A l.length cp) c fr (upB b k (min (b k + 1) 1099511627776))))
      replace hB := below_row hB (g := w.heap.size + 1) (by omega) (rcV lim (.slice A l.length cp) c fr (upB b k (min (b k + 1) 1099511627776)))
      have hgl := hg.grows hB
      generalize World.setRow _ _ _ = w9 at *
      go_wp2
      have hlo := run_loadVar_row (P := Try.prog) w9 (w.heap.size + 1) 28 28 (rcV lim (.slice A l.length cp) c fr (upB b k (min (b k + 1) 1099511627776))) (0, 0) _ k4 Try.underlying28 rfl (rcV_info _ _ _ _ _)
      refine bodyPost_ret (v := .tuple #[.agg (rcV lim (.slice A l.length cp) c fr (upB b k (min (b k + 1) 1099511627776))), .int .i64 0]) ?_ rfl ⟨⟨_, rfl, recV_mk hgl _ _ _ _ _⟩, hB⟩
      unfold results
      simp only [Try.results24]
      simp [asAddr, hlo]
end Go.Proofs.Ytbohbapheofpiaa
