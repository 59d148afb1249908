/-
  Layer 37: slices of glitches compared, searched, copied. Plain contracts.
-/
import Derived.Test.YtbohbapheofpiaaGlD
import Derived.Deep.DeepCutAuto
import Derived.Deep.CutBlock
import Derived.Lib.SliceRun
namespace Go.Proofs.Ytbohbapheofpiaa
open Go.RowKit
set_option maxHeartbeats 2000000 in
theorem containsg_any (A : Option Addr) (c : Nat) (l : List Gl) (w : World) (h : Gls w A l) (hl : l.length ≤ 9223372036854775807) :
    Calls Try.prog 35 #[.slice A l.length c, .func (.func 33) #[] #[]] w fun e w' => e = .returned (.bool (!l.all okG)) ∧ Grows w w' := by
  go_enter Try.func35, Try.ntmps35
  go_wp2_with fail
  refine (indexg_any A c l _ h hl _ rfl).mono ?_
  rintro e w2 ⟨⟨r, hr, rfl⟩, hB⟩
  have hd : decide (0 ≤ r) = !l.all okG := by
    rcases hr with ⟨rfl, ha⟩ | ⟨h0, x, hx, ho⟩
    · rw [show decide ((0 : Int) ≤ -1) = false from rfl, List.all_eq_true.2 ha]
      rfl
    · rw [show decide (0 ≤ r) = true from by simpa using h0, show l.all okG = false from List.all_eq_false.2 ⟨x, hx, by simp [ho]⟩]
      rfl
  go_wp2
  go_ret
  exact ⟨rfl, hB⟩
set_option maxHeartbeats 4000000 in
theorem gsame_eq (A A2 : Option Addr) (c c2 : Nat) (l : List Gl) (w : World) (h : Gls w A l) (h2 : Gls w A2 l) (hl : l.length ≤ 9223372036854775807) :
    Calls Try.prog 13 #[.slice A l.length c, .slice A2 l.length c2] w fun e w' => e = .returned (.bool true) ∧ Grows w w' := by
  go_enter Try.func13, Try.ntmps13
  go_wp2
  go_loopw [5] (fun i wr => ∃ k : Nat, k ≤ l.length ∧ i = .int .i64 k ∧ Grows w wr) (fun i _ => l.length - (intOf i).toNat)
  case atStart => exact ⟨0, by omega, rfl, Below.refl _ _⟩
  case round =>
    obtain ⟨k, hk, rfl, hB⟩ := hrel
    by_cases hlt : k < l.length
    · obtain ⟨ad, g, rfl, had, hx, c0, c1, c2, c3, c4, c5⟩ := (h.grows hB).elem hlt
      obtain ⟨ad2, g2, rfl, had2, hx2, d0, d1, d2, d3, d4, d5⟩ := (h2.grows hB).elem hlt
      rw [hx] at hx2
      injection hx2 with hx2
      subst hx2
      clear hx
      go_upto_region 6 with fail
      go_region
      replace hB := below_grows hB (Nat.le_refl _) (Grows.drew' wr)
      go_wp2
      go_roundw
      case rel => exact ⟨k + 1, by omega, by go_num, hB⟩
      case measure => simp [intOf]; omega
    · go_wp2
      go_ret
      exact ⟨rfl, hB⟩
theorem ginfo : ∃ i : TypeInfo, Try.prog.info? 43 = some i ∧ i.size = 6 ∧ i.bytes = 48 ∧ i.zero = some (.agg #[.int .i64 0, .int .i64 0, .int .i64 0, .int .i64 0, .int .u64 0, .int .i64 0]) ∧ (Value.agg #[.int .i64 0, .int .i64 0, .int .i64 0, .int .i64 0, .int .u64 0, .int .i64 0]).cells.size = 6 := ⟨_, by first | exact Try.info43 | rfl, rfl, rfl, rfl, rfl⟩
theorem gls_own {w : World} {base : Nat} {v : Value} {l : List Gl} (h : w.ownsRow base 43 6 v l.length (gcells l)) : ∃ (A : Option Addr) (c : Nat), v = .slice A l.length c ∧ l.length ≤ c ∧ Gls w A l := by
  rcases h.2 with ⟨rfl, hn⟩ | ⟨g, cap, cur, rfl, hb, hg, hnc, hm, hs, ht⟩
  · exact ⟨none, 0, by rw [hn], by omega, Reads.of_own (c := 0) (by simpa [hn] using h)⟩
  · exact ⟨_, cap, rfl, hnc, Reads.of_own h⟩
theorem gcells_one (l : List Gl) : ∀ u ∈ gcells l, u.oneCell' = true := by
  intro u hu
  obtain ⟨g, _, hg⟩ := List.mem_flatMap.1 hu
  simp only [Gl.ls, List.mem_cons, List.not_mem_nil, or_false] at hg
  rcases hg with rfl | rfl | rfl | rfl | rfl | rfl <;> rfl
set_option maxHeartbeats 4000000 in
theorem gclone_any (A : Option Addr) (c : Nat) (l : List Gl) (w : World) (h : Gls w A l) (hl : l.length ≤ 1000000) :
    Calls Try.prog 30 #[.slice A l.length c] w fun e w' => (∃ v, e = .returned v ∧ w'.ownsRow w.heap.size 43 6 v l.length (gcells l)) ∧ Grows w w' := by
  obtain ⟨i0, hi0, hi1, hi2, hi3, hi4⟩ := ginfo
  go_enter Try.func30, Try.ntmps30
  go_wp2_with fail
  rw [Lib.run_eql_slice_nil (P := Try.prog) w 24 43 _ _ _ _ _ Try.underlying24]
  rcases A with _ | ad
  · have h0 : l.length = 0 := by
      rcases Nat.eq_zero_or_pos l.length with h0 | h0
      · exact h0
      · obtain ⟨ad, hh, _⟩ := h.2 h0
        cases hh
    obtain rfl : l = [] := List.length_eq_zero_iff.1 h0
    go_wp2
    go_ret
    exact ⟨⟨_, rfl, World.ownsRow_nil w w.heap.size 43 6⟩, Below.refl _ _⟩
  · go_upto_region 3 with fail
    refine wp_region_lit ?_
    iterate 2
      refine wpList_plain rfl (fun K hK => ?_)
      go_simp
      refine hK _ _ ?_
      clear hK K
    have hB1 := (Below.refl w.heap.size w).alloc (Nat.le_refl _) (Obj.cells #[] 43)
    have how : (w.alloc (Obj.cells #[] 43)).ownsRow w.heap.size 43 6 (.slice (some ⟨w.heap.size, 0, none⟩) 0 0) 0 [] := World.ownsRow_lit w #[] 0 (Nat.le_refl _) (by simp [maxLen]) rfl
    have h1 := h.grows hB1
    generalize hW : World.alloc w _ = w1 at *
    refine wpList_append_any _ rfl (.tmp 5) (.tmp 6) 24 rfl w.heap.size 43 i0 _ 6 48 Try.underlying24 hi0 hi3 hi1 hi2 hi4 (by omega) _ 0 [] rfl how w1.heap.size (some ad) l.length c (gcells l) rfl h1 (gcells_one l) (by simp only [maxLen]; omega) (by omega) hB1.size ?_
    intro v' w2 hown hgr _
    have hB2 : Grows w w2 := hB1.grown hgr hB1.size fun q hq => (how.lt q hq).1
    rw [Nat.zero_add, List.nil_append] at hown
    clear how hgr h1 h hB1 hW
    go_wp2
    go_ret
    exact ⟨⟨_, rfl, hown⟩, hB2⟩
end Go.Proofs.Ytbohbapheofpiaa
