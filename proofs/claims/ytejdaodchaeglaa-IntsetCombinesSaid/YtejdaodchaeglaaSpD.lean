/-
  Layer 9: spans copied; the one form of a list of spans; Make. Plain contracts.
-/
import Derived.Test.YtejdaodchaeglaaSpC
import Derived.Shelf.SlSortCmp.NoneTotal
namespace Go.Proofs.Ytejdaodchaeglaa
open Go.RowKit Go.Sort Go.Shelf
set_option maxHeartbeats 4000000 in
theorem sclone_any (A : Option Addr) (c : Nat) (l : List Sp) (w : World) (h : Sps w A l) (hl : l.length ≤ 1000000) :
    Calls Try.prog 28 #[.slice A l.length c] w fun e w' => (∃ v, e = .returned v ∧ Own w' w.heap.size v l) ∧ Grows w w' := by
  go_enter Try.func28, Try.ntmps28
  go_wp2_with fail
  rw [Lib.run_eql_slice_nil (P := Try.prog) w 22 40 _ _ _ _ _ Try.underlying22]
  rcases A with _ | ad
  · have h0 : l.length = 0 := by
      rcases Nat.eq_zero_or_pos l.length with h0 | h0
      · exact h0
      · obtain ⟨ad, hh, _⟩ := h.2 h0
        cases hh
    obtain rfl : l = [] := List.length_eq_zero_iff.1 h0
    go_wp2
    go_ret
    exact ⟨⟨_, rfl, own_nil w w.heap.size⟩, Below.refl _ _⟩
  · go_upto_region 3 with fail
    refine wp_region_lit ?_
    iterate 2
      refine wpList_plain rfl (fun K hK => ?_)
      go_simp
      refine hK _ _ ?_
      clear hK K
    have hB1 := (Below.refl w.heap.size w).alloc (Nat.le_refl _) (Obj.cells #[] 40)
    have how : Own (w.alloc (Obj.cells #[] 40)) w.heap.size (.slice (some ⟨w.heap.size, 0, none⟩) 0 0) [] := World.ownsRow_lit w #[] 0 (Nat.le_refl _) (by simp [maxLen]) rfl
    have h1 := h.grows hB1
    generalize hW : World.alloc w _ = w1 at *
    refine wpList_append_sp rfl (.tmp 5) (.tmp 6) rfl (m := l) rfl rfl how rfl h1 (by simpa using hl) hB1.size ?_
    intro v' w2 hown hgr
    have hB2 := how.below hB1 hgr hB1.size
    rw [List.nil_append] at hown
    clear how hgr h1 h hB1 hW
    go_wp2
    go_ret
    exact ⟨⟨_, rfl, hown⟩, hB2⟩
theorem sort_any (base : Nat) (v : Value) (l : List Sp) (w : World) (hf : ∀ x ∈ l, fineS x = true) (h : Own w base v l) (hl : l.length ≤ 1000000) :
    Calls Try.prog 29 #[v, .func (.func 30) #[] #[]] w fun e w' => e = .returned (.tuple #[]) ∧ ∃ d : List Sp, d.Perm l ∧ d.Pairwise (fun x y => x.1 ≤ y.1) ∧ Own w' base v d ∧ w.grownBy w' v.ownBlock := by
  obtain ⟨A, c, rfl, hc, hr, hge⟩ := h.read
  by_cases h0 : l.length = 0
  · obtain rfl : l = [] := List.length_eq_zero_iff.1 h0
    have hcon := AnyF.slices_SortFunc_none sortSp A c (.func (.func 30) #[] #[]) w
    change Calls Try.prog 29 _ _ _ at hcon
    refine hcon.mono ?_
    rintro e w' ⟨rfl, rfl⟩
    exact ⟨rfl, [], List.Perm.refl _, List.Pairwise.nil, h, World.grownBy.refl _ _⟩
  · obtain ⟨ad, rfl, _⟩ := hr.2 (by omega)
    obtain ⟨g, rfl, _, hg⟩ := h.addr (by omega)
    exact sort_pos base g c l w hf h hg hl
def sortS (l : List Sp) : List Sp := l.mergeSort fun x y => decide (x.1 ≤ y.1)
def formS (l : List Sp) : List Sp := mergeL (sortS l)
theorem sortS_perm (l : List Sp) : (sortS l).Perm l := List.mergeSort_perm _ _
theorem sortS_sorted (l : List Sp) : (sortS l).Pairwise (fun x y => x.1 ≤ y.1) := by
  have := List.pairwise_mergeSort (le := fun x y : Sp => decide (x.1 ≤ y.1)) (fun a b c h1 h2 => by simp at *; omega) (fun a b => by simp; omega) l
  exact this.imp fun h => by simpa using h
theorem formS_forms {l : List Sp} (hf : ∀ x ∈ l, fineS x = true) : Forms l (formS l) := forms_merge (fun x hx => ((fineS_iff x).1 (hf x hx)).2.1) (sortS_perm l) (sortS_sorted l)
theorem form_eq {l d : List Sp} (hf : ∀ x ∈ l, fineS x = true) (hp : d.Perm l) (hs : d.Pairwise (fun x y => x.1 ≤ y.1)) : mergeL d = formS l :=
  forms_uniq (forms_merge (fun x hx => ((fineS_iff x).1 (hf x hx)).2.1) hp hs) (formS_forms hf)
def makeF (l : List Sp) : List Sp × Int := if l.all fineS = true then (if 64 < (formS l).length then ([], 3) else (formS l, 0)) else ([], 2)
/-- A set as a value. -/
def SetV (w : World) (l : List Sp) (v : Value) : Prop := ∃ A c, v = .agg #[.slice A l.length c] ∧ l.length ≤ c ∧ Sps w A l
theorem setV_nil (w : World) : SetV w [] (.agg #[.slice none 0 0]) := ⟨none, 0, rfl, Nat.le_refl _, sps_nil w⟩
theorem SetV.grows {w w' : World} {l : List Sp} {v : Value} (h : SetV w l v) (hg : Grows w w') : SetV w' l v := by
  obtain ⟨A, c, e, hc, hs⟩ := h
  exact ⟨A, c, e, hc, hs.grows hg⟩
theorem all_snoc {l : List Sp} {k : Nat} {x : Sp} (h : l[k]? = some x) : (l.take (k + 1)).all fineS = ((l.take k).all fineS && fineS x) := by
  rw [take_snoc h]
  simp
set_option maxHeartbeats 8000000 in
theorem make_any (A : Option Addr) (c : Nat) (l : List Sp) (w : World) (h : Sps w A l) (hl : l.length ≤ 100000) :
    Calls Try.prog 11 #[.slice A l.length c] w fun e w' => (∃ v, e = .returned (.tuple #[v, .int .i64 (makeF l).2]) ∧ SetV w' (makeF l).1 v) ∧ Grows w w' := by
  have k2 := Blk.new w 24 #[.slice none 0 0]
  have hB := (Below.refl w.heap.size w).alloc (Nat.le_refl _) (Obj.cells #[.slice none 0 0] 24)
  have h1 := h.grows hB
  go_enter Try.func11, Try.ntmps11
  go_upto_region 1 with fail
  generalize World.alloc w _ = w1 at *
  go_wp2_with fail
  go_loopw [10] (fun i wr => ∃ k : Nat, k ≤ l.length ∧ i = .int .i64 k ∧ (l.take k).all fineS = true ∧ Grows w1 wr) (fun i _ => l.length - (intOf i).toNat)
  case atStart => exact ⟨0, by omega, rfl, rfl, Below.refl _ _⟩
  case round =>
    obtain ⟨k, hk, rfl, hall, hg⟩ := hrel
    by_cases hlt : k < l.length
    · obtain ⟨ad, x, rfl, had, hx, c0, c1⟩ := (h1.grows hg).elem hlt
      have HX := Lib.hid (all_snoc hx)
      have HM : Hid (x ∈ l) := List.mem_of_getElem? hx
      clear hx
      have hq := (Below.refl wr.heap.size wr).alloc (Nat.le_refl _) (Obj.cells #[.int .i64 x.1, .int .i64 x.2] 40)
      replace hg := below_grows hg (Nat.le_refl _) hq
      clear hq
      go_wp2_with fail
      refine (fine_any x _).mono ?_
      rintro e w2 ⟨rfl, hq⟩
      replace hg := below_grows hg (Nat.le_refl _) hq
      clear hq c0 c1
      cases hfx : fineS x
      · have hm : makeF l = ([], 2) := by
          unfold makeF
          rw [if_neg]
          intro ha
          have := List.all_eq_true.1 ha x HM.out
          rw [hfx] at this
          cases this
        have k3 := k2.grows hg
        have x3 := k3.cell 0
        have f3 := k3.frozen 0
        have HE := Lib.hid hm
        clear hm
        go_wp2
        have k4 := k3.set_ 0 (.slice none 0 0)
        have hB4 := (below_grows hB (Nat.le_refl _) hg).setCell (p := ⟨w.heap.size, 0, none⟩) (Nat.le_refl _) (.slice none 0 0)
        generalize World.setCell _ _ _ = w5 at *
        have x4 : w5.cell? ⟨w.heap.size, 0, none⟩ = some (.slice none 0 0) := by rw [k4.cell]; rfl
        clear x3 f3 k3 k4
        refine bodyPost_ret (v := .tuple #[.agg #[.slice none 0 0], .int .i64 2]) (by simp [results, Try.results11, go_sem, x4]) rfl ⟨⟨_, by rw [HE.out], by rw [HE.out]; exact setV_nil _⟩, hB4⟩
      · go_wp2
        go_roundw
        case rel => exact ⟨k + 1, by omega, by go_num, by rw [HX.out, hall, hfx]; rfl, hg⟩
        case measure => simp [intOf]; omega
    · have e : l.take k = l := List.take_of_length_le (by omega)
      rw [e] at hall
      have hf : ∀ x ∈ l, fineS x = true := List.all_eq_true.1 hall
      have hm : makeF l = if 64 < (formS l).length then ([], 3) else (formS l, 0) := if_pos hall
      have HE := Lib.hid hm
      clear hm e hall
      go_wp2_with fail
      refine (sclone_any A c l _ (h1.grows hg) (by omega)).mono ?_
      rintro e w2 ⟨⟨v, rfl, hown⟩, hq⟩
      have hg2 := below_grows hg (Nat.le_refl _) hq
      have hz := hg.size
      clear hq
      go_wp2_with fail
      refine (sort_any _ v l _ hf hown (by omega)).mono ?_
      rintro e w3 ⟨rfl, d, hp, hs, hown2, hgr⟩
      have hg3 : Grows w1 w3 := hg2.grown hgr hg2.size fun q hq => by have := (hown.lt q hq).1; omega
      clear hg hg2 hown hgr
      obtain ⟨A3, c3, rfl, -, hr, -⟩ := hown2.read
      go_wp2_with fail
      have hdl : d.length = l.length := hp.length_eq
      refine (merge_any A3 c3 d _ hr (by omega) (fun x hx => hf x (hp.mem_iff.1 hx))).mono ?_
      rintro e w4 ⟨⟨v2, rfl, hown3⟩, hq⟩
      rw [form_eq hf hp hs] at hown3
      have hg4 := below_grows hg3 (Nat.le_refl _) hq
      have hfl : (formS l).length ≤ 100000 := by have := (formS_forms hf).2.2; omega
      clear hg3 hown2 hr hdl hp hs hq
      obtain ⟨A4, c4, rfl, hc4, hr4, -⟩ := hown3.read
      clear hown3
      generalize hfo : formS l = o at *
      clear hfo
      have k3 := k2.grows hg4
      have x3 := k3.cell 0
      have f3 := k3.frozen 0
      by_cases h64 : 64 < o.length
      · have hm : makeF l = ([], 3) := by rw [HE.out, if_pos h64]
        replace HE := Lib.hid hm
        clear hm
        go_wp2
        have k4 := k3.set_ 0 (.slice none 0 0)
        have hB4 := (below_grows hB (Nat.le_refl _) hg4).setCell (p := ⟨w.heap.size, 0, none⟩) (Nat.le_refl _) (.slice none 0 0)
        generalize World.setCell _ _ _ = w5 at *
        have x4 : w5.cell? ⟨w.heap.size, 0, none⟩ = some (.slice none 0 0) := by rw [k4.cell]; rfl
        clear x3 f3 k3 k4
        refine bodyPost_ret (v := .tuple #[.agg #[.slice none 0 0], .int .i64 3]) (by simp [results, Try.results11, go_sem, x4]) rfl ⟨⟨_, by rw [HE.out], by rw [HE.out]; exact setV_nil _⟩, hB4⟩
      · have hm : makeF l = (o, 0) := by rw [HE.out, if_neg h64]
        replace HE := Lib.hid hm
        clear hm
        go_wp2
        have k4 := k3.set_ 0 (.slice A4 o.length c4)
        have hB4 := (below_grows hB (Nat.le_refl _) hg4).setCell (p := ⟨w.heap.size, 0, none⟩) (Nat.le_refl _) (.slice A4 o.length c4)
        have hr5 := hr4.setOther k3 (.slice A4 o.length c4)
        generalize World.setCell _ _ _ = w5 at *
        have x4 : w5.cell? ⟨w.heap.size, 0, none⟩ = some (.slice A4 o.length c4) := by rw [k4.cell]; rfl
        clear x3 f3 k3 k4
        refine bodyPost_ret (v := .tuple #[.agg #[.slice A4 o.length c4], .int .i64 0]) (by simp [results, Try.results11, go_sem, x4]) rfl ⟨⟨_, by rw [HE.out], by rw [HE.out]; exact ⟨A4, c4, rfl, hc4, hr5⟩⟩, hB4⟩
end Go.Proofs.Ytejdaodchaeglaa
