/-
  The sanity check of layer 24's laws returns true; openers.
-/
import Derived.Test.YtbpkhfflnaofgaaCostA
import Derived.Test.YtbpkhfflnaofgaaOpen
namespace Go.Proofs.Ytbpkhfflnaofgaa
open Go.ChangeShapes Go.WideShapes Go.RowKit
theorem total2 (a b : Int) (w : World) (g : Nat) (hg : w.heap.size = g) : Calls Try.prog 12 #[.slice (some ⟨g, 0, none⟩) 2 2] (w.alloc (.cells #[.int .i64 a, .int .i64 b] 3)) fun e w' => e = .returned (.int .i64 (totF [a, b])) ∧ w.alloc (.cells #[.int .i64 a, .int .i64 b] 3) = w' := by
  subst hg
  exact total_any _ 2 [a, b] _ (ints_lit w [a, b] 3) (by simp)
set_option maxHeartbeats 4000000 in
theorem sane_any (w : World) : Calls Try.prog 6 #[] w fun e w' => e = .returned (.bool true) ∧ Grows w w' := by
  have e1 : streamF 2 2 64 = 1324 := by decide
  have e2 : errF (okS 2 2 64) = 0 := by decide
  have e3 : deviceF 2 64 = 1424 := by decide
  have e4 : errF (okS 2 1 64) = 0 := by decide
  have e5 : totF [1, 2] = 3 := by decide
  have e6 : shareF 3 2 = 150 := by decide
  have hB := Below.refl w.heap.size w
  go_enter Try.func6, Try.ntmps6
  go_wp2_with (first | (go_at_call 8; refine (stream_any _ _ _ _).mono ?_; rintro e w' ⟨rfl, hq⟩; (first | replace hB := below_grows hB (Nat.le_refl _) hq | replace hB := below_grows (hB.alloc hB.size _) (Nat.le_refl _) hq)) | (go_at_call 10; refine (device_any _ _ _).mono ?_; rintro e w' ⟨rfl, hq⟩; (first | replace hB := below_grows hB (Nat.le_refl _) hq | replace hB := below_grows (hB.alloc hB.size _) (Nat.le_refl _) hq)) | (go_at_call 12; (with_reducible refine (total2 _ _ _ _ (by simp)).mono ?_); rintro e w' ⟨rfl, rfl⟩) | (go_at_call 14; refine (share_any _ _ _).mono ?_; rintro e w' ⟨rfl, hq⟩; (first | replace hB := below_grows hB (Nat.le_refl _) hq | replace hB := below_grows (hB.alloc hB.size _) (Nat.le_refl _) hq)))
  go_ret
  exact ⟨rfl, hB⟩
/-- A slice of ints among the arguments. -/
theorem open_slice_ints {H : Type} {enc : TypeId × Value → H} {P : Program} {w : World} {r : Reach} {b0 : Nat} {t e : TypeId} {v : Value} {d : DataW H} {p : List MemPlace} (ht : P.underlying t = some (.slice e)) (he : P.underlying e = some (.int .i64)) (hc : P.cellsOf e = 1)
    (hv : Value.okWide P w r b0 t v) (h : DataW.Trod enc P w 0 (fun _ => true) true t v d p) :
    ∃ (A : Option Addr) (c : Nat) (l : List Int), v = .slice A l.length c ∧ Ints w A l ∧ l.length ≤ maxLen ∧ l.length ≤ c := by
  obtain ⟨a0, len, cap, rfl⟩ := okWide_slice ht hv
  obtain ⟨fuel, hf⟩ := h
  rcases open_ints ht he hc hf with ⟨hcs, _⟩ | ⟨a, len', cap', zs, hcs, _, hl, hm, hz, _, hcell, hwz⟩
  · simp [Value.cells] at hcs
    obtain ⟨rfl, rfl, rfl⟩ := hcs
    exact ⟨none, 0, [], rfl, ⟨by simp, fun h => absurd h (by simp)⟩, by simp, by simp⟩
  · simp [Value.cells] at hcs
    obtain ⟨rfl, rfl, rfl⟩ := hcs
    simp only [if_true] at hz
    have hlen : (zs.take len).length = len := by simp; omega
    refine ⟨some a, cap, zs.take len, by rw [hlen], ⟨by simp, fun _ => ⟨a, rfl, ?_, fun j u hu => ?_⟩⟩, by omega, by omega⟩
    · have h0 : 0 < zs.length := by
        rename_i hpos
        rw [hlen] at hpos
        omega
      have := hcell 0 h0
      have hb : (a.add 0).block = a.block := block_of_add a 0
      rw [← hb]
      exact World.block_lt_of_cell? w _ this
    · rw [List.getElem?_map] at hu
      obtain ⟨x, hx, rfl⟩ := Option.map_eq_some_iff.1 hu
      have hj : j < len := by
        have := (List.getElem?_eq_some_iff.1 hx).1
        rw [hlen] at this
        exact this
      rw [hcell j (by omega)]
      rw [List.getElem?_take, if_pos hj] at hx
      rw [List.getD_eq_getElem?_getD, hx]
      rfl
end Go.Proofs.Ytbpkhfflnaofgaa
