/-
  The sanity check of layer 26's laws returns true.
-/
import Derived.Test.YtmokpiacioeohaaLatA
namespace Go.Proofs.Ytmokpiacioeohaa
open Go.RowKit
set_option maxHeartbeats 4000000 in
theorem sane_any (w : World) : Calls Try.prog 7 #[] w fun e w' => e = .returned (.bool true) ∧ Below w.heap.size w w' := by
  have e1 : framesF 480 48000 96000 = 960 := by decide
  have e2 : framesF 1 44100 48000 = 2 := by decide
  have e3 : framesF 10 48000 48000 = 10 := by decide
  have e4 : framesF 2 48000 48000 = 2 := by decide
  have e5 : framesF 7 48000 48000 = 7 := by decide
  have e6 : totalF 10 2 64 5 7 = 88 := by decide
  go_enter Try.func7, Try.ntmps7
  go_wp2_with (first | (go_at_call 11; refine (of_any_yes _ _ _ _ _ _ _ _ (by decide)).mono ?_; rintro e w1 ⟨rfl, hb1⟩; have hz := hb1.size) | (go_at_call 9; refine (frames_any _ _ _ _).mono ?_; rintro e w' ⟨rfl, rfl⟩) | (go_at_call 13; refine (total_any _ _ _ _ _ _).mono ?_; rintro e w2 ⟨rfl, hb2⟩))
  go_ret
  exact ⟨rfl, ((hb1.alloc hz _).trans (hb2.mono (by simp; omega)))⟩
end Go.Proofs.Ytmokpiacioeohaa
