/-
  Layer 9: Grow and Concat of spans. Plain contracts.
-/
import Derived.Test.YtejdaodchaeglaaSpP
import Derived.Lib.AppendZeros
namespace Go.Proofs.Ytejdaodchaeglaa
open Go.RowKit Go.Lib
theorem own_empty {w : World} {cells : Array Value} {cap : Nat} (hsz : cells.size = cap * 2) (hc : cap ≤ maxLen) :
    Own (w.drew.alloc (.cells cells 40)) w.heap.size (.slice (some ⟨w.heap.size, 0, none⟩) 0 cap) [] := by
  refine ⟨rfl, .inr ⟨w.heap.size, cap, cells, rfl, Nat.le_refl _, ?_, by simp, hc, hsz, by simp [scells]⟩⟩
  exact heap_alloc_new w.drew _
set_option maxHeartbeats 4000000 in
theorem grow_any (n : Nat) (w : World) (hn : n ≤ 1000000) :
    Calls Try.prog 45 #[.slice none 0 0, .int .i64 n] w fun e w' => (∃ v, e = .returned v ∧ Own w' w.heap.size v []) ∧ Grows w w' := by
  obtain ⟨i0, hi0, hi1, hi2, hi3, hi4⟩ := sinfo
  have h1 : ¬ ((n : Int) < 0) := by omega
  by_cases h0 : n = 0
  · subst h0
    go_enter Try.func45, Try.ntmps45
    go_wp2
    go_ret
    exact ⟨⟨_, rfl, own_nil w w.heap.size⟩, Below.refl _ _⟩
  · have hr : ∀ ty, (Builtin.append_ #[22, 3] ty #[.slice none 0 0, .int .i64 (n : Int)]).run Try.prog w = _ := fun ty =>
      run_append_nil_zeros w 22 3 ty 40 i0 _ .i64 .i64 Try.underlying22 Try.underlying3 hi0 hi3 n (by omega) (by omega) (by omega) (by rw [hi2]; omega)
    obtain ⟨G, hG⟩ : ∃ G, G = grownCap w n 0 40 := ⟨_, rfl⟩
    have hGn : n ≤ G := by rw [hG]; exact grownCap_ge w _ _ _
    have hG63 : G ≤ maxLen := by rw [hG]; exact grownCap_le_maxLen w n 0 40 (by unfold maxLen; omega)
    rw [← hG] at hr
    have hsz : (Builtin.zeroCells (Value.agg #[.int .i64 0, .int .i64 0]).cells n ++ Builtin.zeroCells (Value.agg #[.int .i64 0, .int .i64 0]).cells (G - n)).size = G * 2 := by
      rw [Array.size_append, size_zeroCells, size_zeroCells, hi4]
      omega
    have how := own_empty (w := w) hsz hG63
    have hBg : Grows w (w.drew.alloc (.cells (Builtin.zeroCells (Value.agg #[.int .i64 0, .int .i64 0]).cells n ++ Builtin.zeroCells (Value.agg #[.int .i64 0, .int .i64 0]).cells (G - n)) 40)) := ((Below.refl _ w).drew).alloc (Nat.le_refl _) _
    generalize World.alloc w.drew _ = w1 at *
    clear hsz hG hi3 hi4
    have h64 : G ≤ 9223372036854775807 := by unfold maxLen at hG63; omega
    go_enter Try.func45, Try.ntmps45
    go_wp2_with (at_builtin; refine Lib.wpList_append_run _ rfl _ _ _ _ rfl _ _ rfl rfl _ _ (hr _) ?_)
    go_ret
    exact ⟨⟨_, rfl, how⟩, hBg⟩
set_option maxHeartbeats 8000000 in
theorem concat_any (g : Nat) (A B : Option Addr) (c cb : Nat) (a b : List Sp) (w : World) (k1 : Blk w g 22 #[.slice A a.length c, .slice B b.length cb]) (ha : Sps w A a) (hb : Sps w B b) (hal : a.length ≤ 64) (hbl : b.length ≤ 64) :
    Calls Try.prog 38 #[.slice (some ⟨g, 0, none⟩) 2 2] w fun e w' => (∃ v, e = .returned v ∧ Own w' w.heap.size v (a ++ b)) ∧ Grows w w' := by
  have x0 := k1.cell 0
  have x1 := k1.cell 1
  generalize hW : w.heap.size = W
  have HW := Lib.hid hW
  clear hW
  go_enter Try.func38, Try.ntmps38
  go_wp2_with fail
  go_loopw [3, 11] (fun s i wr => wr = w ∧ ((i = .int .i64 0 ∧ s = .int .i64 0) ∨ (i = .int .i64 1 ∧ s = .int .i64 a.length) ∨ (i = .int .i64 2 ∧ s = .int .i64 ((a.length : Int) + (b.length : Int))))) (fun _ i _ => (2 - intOf i).toNat)
  case atStart => exact ⟨rfl, .inl ⟨rfl, rfl⟩⟩
  case round =>
    obtain ⟨e, h⟩ := hrel
    replace e := e.symm
    subst e
    rcases h with ⟨rfl, rfl⟩ | ⟨rfl, rfl⟩ | ⟨rfl, rfl⟩
    · go_wp2
      go_roundw
      case rel => exact ⟨trivial, .inr (.inl ⟨rfl, rfl⟩)⟩
      case measure => simp [intOf]
    · go_wp2
      go_roundw
      case rel => exact ⟨trivial, .inr (.inr ⟨rfl, rfl⟩)⟩
      case measure => simp [intOf]
    · rw [show (a.length : Int) + (b.length : Int) = ((a.length + b.length : Nat) : Int) by omega]
      go_wp2_with fail
      refine (grow_any (a.length + b.length) _ (by omega)).mono ?_
      rintro e w2 ⟨⟨v, rfl, hown⟩, hq⟩
      have hB : Below W w w2 := by have := hq; unfold Grows at this; rwa [HW.out] at this
      replace hown : Own w2 W v [] := by rwa [HW.out] at hown
      clear x0 x1 hq
      go_wp2_with fail
      go_loopw [6, 27] (fun v i wx => Below W w wx ∧ ((i = .int .i64 0 ∧ Own wx W v []) ∨ (i = .int .i64 1 ∧ Own wx W v a) ∨ (i = .int .i64 2 ∧ Own wx W v (a ++ b)))) (fun _ i _ => (2 - intOf i).toNat)
      case atStart => exact ⟨hB, .inl ⟨rfl, hown⟩⟩
      case round =>
        clear hB hown
        obtain ⟨hB, hh⟩ := hrel
        have hg : Grows w wr := by unfold Grows; rw [HW.out]; exact hB
        have h2 := ha.grows hg
        have h3 := hb.grows hg
        have k2 := k1.grows hg
        have x0 := k2.cell 0
        have x1 := k2.cell 1
        have hw : W ≤ wr.heap.size := by have := hg.size; have := HW.out; omega
        rcases hh with ⟨rfl, hown⟩ | ⟨rfl, hown⟩ | ⟨rfl, hown⟩
        · clear x1
          go_upto_region 13 with fail
          clear x0
          refine wp_region_lit ?_
          iterate 2
            refine wpList_plain rfl (fun K hK => ?_)
            go_simp
            refine hK _ _ ?_
            clear hK K
          refine wpList_append_sp rfl (.tmp 31) (.tmp 32) rfl (m := a) rfl rfl hown rfl h2 (by simp; omega) hw ?_
          intro v3 w8 hown3 hgr3
          rw [List.nil_append] at hown3
          go_wp2
          go_roundw
          case rel => exact ⟨hown.below hB hgr3 hw, .inr (.inl ⟨rfl, hown3⟩)⟩
          case measure => simp [intOf]
        · clear x0
          go_upto_region 13 with fail
          clear x1
          refine wp_region_lit ?_
          iterate 2
            refine wpList_plain rfl (fun K hK => ?_)
            go_simp
            refine hK _ _ ?_
            clear hK K
          refine wpList_append_sp rfl (.tmp 31) (.tmp 32) rfl (m := b) rfl rfl hown rfl h3 (by omega) hw ?_
          intro v3 w8 hown3 hgr3
          go_wp2
          go_roundw
          case rel => exact ⟨hown.below hB hgr3 hw, .inr (.inr ⟨rfl, hown3⟩)⟩
          case measure => simp [intOf]
        · go_wp2
          go_ret
          exact ⟨⟨_, rfl, hown⟩, hg⟩
end Go.Proofs.Ytejdaodchaeglaa
