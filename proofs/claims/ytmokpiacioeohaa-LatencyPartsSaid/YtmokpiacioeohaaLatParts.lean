/-
  LatencyParts, for every input: the law returns true, and each argument reads behind the call as it read before. No condition.
-/
import Derived.Test.YtmokpiacioeohaaLatB
import Derived.Test.YtmokpiacioeohaaOpen
import Derived.Deep.DeepCutAuto
import Derived.Deep.CutBlock
namespace Go.Proofs.Ytmokpiacioeohaa
open Go.ChangeShapes Go.WideShapes Go.ChangeAt Go.RowKit
theorem open_j {H : Type} {enc : TypeId × Value → H} {w : World} {base : Nat} {spare : Nat → Bool} {held : Bool} {r : Reach} {b0 : Nat} {v : Value} {d : DataW H} {p : List MemPlace} (hv : Value.okWide Try.prog w r b0 27 v)
    (h : DataW.Trod enc Try.prog w base spare held 27 v d p) : ∃ m r d g p t l : Int, v = .agg #[.int .i64 m, .int .i64 r, .int .i64 d, .int .i64 g, .int .i64 p, .int .i64 t, .int .i64 l] := by
  obtain ⟨l, rfl, hl, _⟩ := open_ints_agg (k := .i64) (n := 7) (t := 27) (fs := Try.prog.fieldsOf 27) (by kernel_rfl) (by kernel_rfl) (by kernel_rfl) (by kernel_rfl) (by kernel_rfl) hv h
  match l, hl with
  | [a0, a1, a2, a3, a4, a5, a6], _ => exact ⟨a0, a1, a2, a3, a4, a5, a6, rfl⟩
theorem open_l {H : Type} {enc : TypeId × Value → H} {w : World} {base : Nat} {spare : Nat → Bool} {held : Bool} {r : Reach} {b0 : Nat} {v : Value} {d : DataW H} {p : List MemPlace} (hv : Value.okWide Try.prog w r b0 29 v)
    (h : DataW.Trod enc Try.prog w base spare held 29 v d p) : ∃ c0 c1 c2 c3 c4 : Int, v = .agg #[.int .i64 c0, .int .i64 c1, .int .i64 c2, .int .i64 c3, .int .i64 c4] := by
  obtain ⟨l, rfl, hl, _⟩ := open_ints_agg (k := .i64) (n := 5) (t := 29) (fs := Try.prog.fieldsOf 29) (by kernel_rfl) (by kernel_rfl) (by kernel_rfl) (by kernel_rfl) (by kernel_rfl) hv h
  match l, hl with
  | [a0, a1, a2, a3, a4], _ => exact ⟨a0, a1, a2, a3, a4, rfl⟩
namespace LatencyParts
def Is7 (cs : Array Value) : Prop := ∃ m r d g p t l : Int, cs = #[.int .i64 m, .int .i64 r, .int .i64 d, .int .i64 g, .int .i64 p, .int .i64 t, .int .i64 l]
theorem is7_set {cs : Array Value} (h : Is7 cs) (i : Nat) (x : Int) (hi : i < 7) : Is7 (cs.setIfInBounds i (.int .i64 x)) := by
  obtain ⟨m, r, d, g, p, t, l, rfl⟩ := h
  match i, hi with
  | 0, _ => exact ⟨_, _, _, _, _, _, _, rfl⟩
  | 1, _ => exact ⟨_, _, _, _, _, _, _, rfl⟩
  | 2, _ => exact ⟨_, _, _, _, _, _, _, rfl⟩
  | 3, _ => exact ⟨_, _, _, _, _, _, _, rfl⟩
  | 4, _ => exact ⟨_, _, _, _, _, _, _, rfl⟩
  | 5, _ => exact ⟨_, _, _, _, _, _, _, rfl⟩
  | 6, _ => exact ⟨_, _, _, _, _, _, _, rfl⟩
set_option maxRecDepth 100000 in
set_option maxHeartbeats 20000000 in
theorem walk (m r d g p t l c0 c1 c2 c3 c4 n : Int) (w : World) : Calls Try.prog 4 #[.agg #[.int .i64 m, .int .i64 r, .int .i64 d, .int .i64 g, .int .i64 p, .int .i64 t, .int .i64 l], .agg #[.int .i64 c0, .int .i64 c1, .int .i64 c2, .int .i64 c3, .int .i64 c4], .int .i64 n] w
    fun e w' => e = .returned (.bool true) ∧ Below w.heap.size w w' := by
  go_enter Try.func4, Try.ntmps4
  go_wp2_with (first | (go_at_call 7; refine (sane_any _).mono ?_; rintro e w1 ⟨rfl, hb⟩))
  have k1 : Blk w1 w.heap.size 27 #[.int .i64 m, .int .i64 r, .int .i64 d, .int .i64 g, .int .i64 p, .int .i64 t, .int .i64 l] := Blk.grows ((Blk.new _ _ _).alloc _) hb
  have k2 : Blk w1 (w.heap.size + 1) 29 #[.int .i64 c0, .int .i64 c1, .int .i64 c2, .int .i64 c3, .int .i64 c4] := Blk.grows (blk_new2 _ _ _ _) hb
  have hb0 : Below w.heap.size w w1 := Below.trans ((Below.refl _ _).alloc (Nat.le_refl _) _ |>.alloc (by simp) _) (hb.mono (by simp; omega))
  clear hb
  refine wp_region_mix (fun w' => Below w.heap.size w w' ∧ Blk w' w.heap.size 27 #[.int .i64 m, .int .i64 r, .int .i64 d, .int .i64 g, .int .i64 p, .int .i64 t, .int .i64 l] ∧ Blk w' (w.heap.size + 1) 29 #[.int .i64 c0, .int .i64 c1, .int .i64 c2, .int .i64 c3, .int .i64 c4])
    [(26, fun v w' => ∃ b, v = .pointer (some ⟨b, 0, none⟩) ∧ w.heap.size + 1 < b ∧ Blk w' b 27 #[.int .i64 0, .int .i64 0, .int .i64 0, .int .i64 0, .int .i64 0, .int .i64 0, .int .i64 0])] 27 111 (by kernel_rfl) (by kernel_rfl) rfl ?_ ?_ ?_ ?_
  · exact fun w1 w2 ⟨h1, h2, h3⟩ hg => ⟨below_grows h1 (Nat.le_refl _) hg, h2.grows hg, h3.grows hg⟩
  · exact float_one fun v w1 w2 ⟨b, h1, h2, h3⟩ hg => ⟨b, h1, h2, h3.grows hg⟩
  · exact ⟨hb0.drew, k1.drew, k2.drew⟩
  · clear k1 k2 hb0
    simp only [List.take_succ_cons, List.take_zero, List.drop_succ_cons, List.drop_zero]
    iterate 26
      refine calm_plain rfl rfl (v := ?_) (a' := ?_) (fun w1 hw1 => ?_) ?_ ?_
      rotate_left 2
      · obtain ⟨hb, hk1, hk2⟩ := hw1
        have c1 := hk1.cell
        go_simp
        first | exact calm_val | (refine calm_quiet ?_; refine mod_any _ _ _ ?_ ?_ <;> omega)
      · simp only [Act.put, List.setIfInBounds_toArray, List.set_cons_succ, List.set_cons_zero]
        rfl
    refine calm_float rfl rfl (fun w1 hw1 => ?_) ?_
    · have hlt := hw1.2.2.lt
      go_simp
      exact ⟨⟨w1.heap.size, rfl, hlt, Blk.new _ _ _⟩, (Below.refl _ _).alloc (Nat.le_refl _) _⟩
    refine calm_done (end_one rfl ?_)
    rintro v w2 ⟨hb2, k3, k4⟩ ⟨b, rfl, hbb, k5⟩
    simp only [Act.put, List.setIfInBounds_toArray]
    have x3 := k3.cell
    have x4 := k4.cell
    have x5 := k5.cell
    have f5 := k5.frozen
    go_upto_block 0 with (go_at_call 8; refine (mod_any _ _ _ (by omega) (by omega)).mono ?_; rintro e w' ⟨rfl, rfl⟩)
    generalize hW : World.alloc _ (Obj.cells _ 27) = w3
    have y0 : Below w.heap.size w w3 := by
      rw [← hW]
      refine Below.alloc ?_ (by simp; exact hb2.size) _
      iterate 7 refine Below.setCell ?_ (Nat.le_of_lt (Nat.lt_trans (Nat.lt_succ_self _) hbb)) _
      exact hb2
    have y1 : Blk w3 b 27 #[.int .i64 (8000 + m % 100000), .int .i64 (1000 + r % 100000), .int .i64 (1000 + d % 100000), .int .i64 (g % 5000), .int .i64 (16 + p % 500), .int .i64 (t % 5000), .int .i64 (l % 5000)] := by rw [← hW]; exact (((((((k5.set_ 0 _).set_ 1 _).set_ 2 _).set_ 3 _).set_ 4 _).set_ 5 _).set_ 6 _).alloc _
    have y2 : Blk w3 w2.heap.size 27 #[.int .i64 (8000 + m % 100000), .int .i64 (1000 + r % 100000), .int .i64 (1000 + d % 100000), .int .i64 (g % 5000), .int .i64 (16 + p % 500), .int .i64 (t % 5000), .int .i64 (l % 5000)] := by rw [← hW]; exact blk_new_at (by simp)
    have y3 : Blk w3 w.heap.size 27 #[.int .i64 m, .int .i64 r, .int .i64 d, .int .i64 g, .int .i64 p, .int .i64 t, .int .i64 l] := by
      rw [← hW]
      refine Blk.alloc ?_ _
      iterate 7 refine Blk.far ?_ (by simp; omega) _
      exact k3
    have y4 : Blk w3 (w.heap.size + 1) 29 #[.int .i64 c0, .int .i64 c1, .int .i64 c2, .int .i64 c3, .int .i64 c4] := by
      rw [← hW]
      refine Blk.alloc ?_ _
      iterate 7 refine Blk.far ?_ (by simp; omega) _
      exact k4
    have z1 : w.heap.size + 1 < w2.heap.size := k4.lt
    have z2 : b < w2.heap.size := k5.lt
    clear hW x3 x4 x5 f5 k3 k4 k5 hb2
    go_cut [] (fun wc => ∃ cs : Array Value, Is7 cs ∧ Below w.heap.size w wc ∧ Blk wc b 27 #[.int .i64 (8000 + m % 100000), .int .i64 (1000 + r % 100000), .int .i64 (1000 + d % 100000), .int .i64 (g % 5000), .int .i64 (16 + p % 500), .int .i64 (t % 5000), .int .i64 (l % 5000)] ∧ Blk wc w2.heap.size 27 cs ∧ Blk wc w.heap.size 27 #[.int .i64 m, .int .i64 r, .int .i64 d, .int .i64 g, .int .i64 p, .int .i64 t, .int .i64 l] ∧ Blk wc (w.heap.size + 1) 29 #[.int .i64 c0, .int .i64 c1, .int .i64 c2, .int .i64 c3, .int .i64 c4])
    case first =>
      have x1 := y1.cell
      have x2 := y2.cell
      have x3 := y3.cell
      have f2 := y2.frozen
      go_wp2
      all_goals go_meet
      any_goals exact ⟨_, is7_set ⟨_, _, _, _, _, _, _, rfl⟩ _ _ (by decide), y0.setCell (by simp; omega) _, y1.far (by simp; omega) _, y2.set_ _ _, y3.far (by simp; omega) _, y4.far (by simp; omega) _⟩
      exact ⟨_, ⟨_, _, _, _, _, _, _, rfl⟩, y0, y1, y2, y3, y4⟩
    case rest =>
      obtain ⟨cs, ⟨m', r', d', g', p', t', l', rfl⟩, y0, y1, y2, y3, y4⟩ := hcut
      have x1 := y1.cell
      have x2 := y2.cell
      have x3 := y3.cell
      go_wp2
      generalize hW : World.alloc _ (Obj.cells _ 27) = w4
      have ⟨cs, hcs, q1⟩ : ∃ cs : Array Value, (∀ i, i < 21 → ∃ x : Int, cs[i]? = some (.int .i64 x)) ∧ Blk w4 wc.heap.size 27 cs := by
        rw [← hW]
        refine ⟨_, ?_, Blk.new _ _ _⟩
        intro i hi
        match i, hi with
        | 0, _ => exact ⟨_, rfl⟩
        | 1, _ => exact ⟨_, rfl⟩
        | 2, _ => exact ⟨_, rfl⟩
        | 3, _ => exact ⟨_, rfl⟩
        | 4, _ => exact ⟨_, rfl⟩
        | 5, _ => exact ⟨_, rfl⟩
        | 6, _ => exact ⟨_, rfl⟩
        | 7, _ => exact ⟨_, rfl⟩
        | 8, _ => exact ⟨_, rfl⟩
        | 9, _ => exact ⟨_, rfl⟩
        | 10, _ => exact ⟨_, rfl⟩
        | 11, _ => exact ⟨_, rfl⟩
        | 12, _ => exact ⟨_, rfl⟩
        | 13, _ => exact ⟨_, rfl⟩
        | 14, _ => exact ⟨_, rfl⟩
        | 15, _ => exact ⟨_, rfl⟩
        | 16, _ => exact ⟨_, rfl⟩
        | 17, _ => exact ⟨_, rfl⟩
        | 18, _ => exact ⟨_, rfl⟩
        | 19, _ => exact ⟨_, rfl⟩
        | 20, _ => exact ⟨_, rfl⟩
        | n + 21, h => omega
      have q2 : Blk w4 (w.heap.size + 1) 29 #[.int .i64 c0, .int .i64 c1, .int .i64 c2, .int .i64 c3, .int .i64 c4] := by rw [← hW]; exact y4.alloc _
      have q3 : Below w.heap.size w w4 := by rw [← hW]; exact y0.alloc y0.size _
      have q4 : w.heap.size + 1 < wc.heap.size := y4.lt
      obtain ⟨G, hG⟩ : ∃ G, G = wc.heap.size := ⟨_, rfl⟩
      rw [← hG] at q1 q4 ⊢
      clear hW x1 x2 x3 y0 y1 y2 y3 y4 hG
      go_loopw [76] (fun i wr => ∃ k : Nat, k ≤ 3 ∧ i = .int .i64 k ∧ Below w.heap.size w wr ∧ Blk wr (w.heap.size + 1) 29 #[.int .i64 c0, .int .i64 c1, .int .i64 c2, .int .i64 c3, .int .i64 c4] ∧ Blk wr G 27 cs) (fun i _ => 3 - (intOf i).toNat)
      case atStart => exact ⟨0, by omega, rfl, q3, q2, q1⟩
      case round =>
        obtain ⟨k, hk, rfl, h1, h2, h3⟩ := hrel
        by_cases hlt : k < 3
        · obtain ⟨e0, g0⟩ := hcs (k * 7) (by omega)
          obtain ⟨e1, g1⟩ := hcs (k * 7 + 1) (by omega)
          obtain ⟨e2, g2⟩ := hcs (k * 7 + 2) (by omega)
          obtain ⟨e3, g3⟩ := hcs (k * 7 + 3) (by omega)
          obtain ⟨e4, g4⟩ := hcs (k * 7 + 4) (by omega)
          obtain ⟨e5, g5⟩ := hcs (k * 7 + 5) (by omega)
          obtain ⟨e6, g6⟩ := hcs (k * 7 + 6) (by omega)
          have j0 := (h3.cell (k * 7)).trans g0
          have j1 := (h3.cell (k * 7 + 1)).trans g1
          have j2 := (h3.cell (k * 7 + 2)).trans g2
          have j3 := (h3.cell (k * 7 + 3)).trans g3
          have j4 := (h3.cell (k * 7 + 4)).trans g4
          have j5 := (h3.cell (k * 7 + 5)).trans g5
          have j6 := (h3.cell (k * 7 + 6)).trans g6
          clear g0 g1 g2 g3 g4 g5 g6 hcs
          go_wp2_with (first | (go_at_call 11; refine (of_any _ _ _ _ _ _ _ _).mono ?_; rintro e w5 ⟨rfl, hb5⟩; have hz5 : wr.heap.size < w5.heap.size := Nat.lt_of_lt_of_le (by simp) hb5.size; have x5 := (Blk.grows (Blk.new _ _ _) hb5).cell) | (go_at_call 12; refine (rof_any _ _ _ _ _ _ _ _).mono ?_; rintro e w6 ⟨rfl, hb6⟩; have hz6 : w5.heap.size < w6.heap.size := Nat.lt_of_lt_of_le (by simp) hb6.size))
          have B5 : Below w.heap.size w w5 := (h1.alloc h1.size _).trans (hb5.mono (by have := h1.size; simp; omega))
          have B6 : Below w.heap.size w w6 := (B5.alloc B5.size _).trans (hb6.mono (by have := B5.size; simp; omega))
          have u1 : Blk w6 (w.heap.size + 1) 29 #[.int .i64 c0, .int .i64 c1, .int .i64 c2, .int .i64 c3, .int .i64 c4] := Blk.grows (Blk.alloc (Blk.grows (h2.alloc _) hb5) _) hb6
          have u2 : Blk w6 G 27 cs := Blk.grows (Blk.alloc (Blk.grows (h3.alloc _) hb5) _) hb6
          have u3 := Blk.grows (Blk.new _ _ _) hb6
          clear hb5 hb6 j0 j1 j2 j3 j4 j5 j6 x5 h1 h2 h3 hz5 B5
          generalize sel (okJ e0 e1 e2 e3 e4 e5 e6) (framesF e3 e1 e0) = A0 at *
          generalize sel (okJ e0 e1 e2 e3 e4 e5 e6) (framesF 2 e1 e0) = A1 at *
          generalize sel (okJ e0 e1 e2 e3 e4 e5 e6) e4 = A2 at *
          generalize sel (okJ e0 e1 e2 e3 e4 e5 e6) e5 = A3 at *
          generalize sel (okJ e0 e1 e2 e3 e4 e5 e6) (framesF e6 e2 e0) = A4 at *
          generalize errJ e0 e1 e2 e3 e4 e5 e6 = er at *
          refine wp_region_mix (fun w' => Below w.heap.size w w' ∧ Blk w' (w.heap.size + 1) 29 #[.int .i64 c0, .int .i64 c1, .int .i64 c2, .int .i64 c3, .int .i64 c4] ∧ Blk w' G 27 cs ∧ Blk w' w5.heap.size 29 #[.int .i64 A0, .int .i64 A1, .int .i64 A2, .int .i64 A3, .int .i64 A4] ∧ Blk w' w6.heap.size 29 #[.int .i64 A0, .int .i64 A1, .int .i64 A2, .int .i64 A3, .int .i64 A4])
            [] 15 111 (by kernel_rfl) (by kernel_rfl) rfl ?_ float_none ?_ ?_
          · exact fun w1 w2 ⟨h1, h2, h3, h4, h5⟩ hg => ⟨below_grows h1 (Nat.le_refl _) hg, h2.grows hg, h3.grows hg, h4.grows hg, h5.grows hg⟩
          · exact ⟨(B6.alloc B6.size _).drew, (u1.alloc _).drew, (u2.alloc _).drew, (u3.alloc _).drew, (Blk.new _ _ _).drew⟩
          · clear u1 u2 u3 B6
            simp only [List.take_succ_cons, List.take_zero, List.drop_succ_cons, List.drop_zero]
            iterate 15
              first
                | refine calm_plain rfl rfl (v := ?_) (a' := ?_) (fun w1 hw1 => ?_) ?_ ?_
                | refine calm_yes rfl rfl (v := ?_) (a' := ?_) (fun w1 hw1 => ?_) ?_ ?_
              rotate_left 2
              · obtain ⟨hb, hk1, hk2, hk3, hk4⟩ := hw1
                have c3 := hk3.cell
                have c4 := hk4.cell
                go_simp
                first | exact calm_val | (refine calm_call ?_; exact total_any _ _ _ _ _ _) | (refine calm_call ?_; exact rtotal_any _ _ _ _ _ _)
              · simp only [Act.put, List.setIfInBounds_toArray, List.set_cons_succ, List.set_cons_zero]
                rfl
            refine calm_done (end_none ?_)
            rintro w7 ⟨hb7, k3, k4, -, -⟩
            go_wp2
            go_roundw
            case rel => exact ⟨k + 1, by omega, by go_num, hb7, k3, k4⟩
            case measure => simp [intOf]; omega
        · go_wp2
          refine wp_region_mix (fun w' => Below w.heap.size w w' ∧ Blk w' (w.heap.size + 1) 29 #[.int .i64 c0, .int .i64 c1, .int .i64 c2, .int .i64 c3, .int .i64 c4]) [] 6 111 (by kernel_rfl) (by kernel_rfl) rfl ?_ float_none ?_ ?_
          · exact fun w1 w2 ⟨h1, h2⟩ hg => ⟨below_grows h1 (Nat.le_refl _) hg, h2.grows hg⟩
          · exact ⟨h1.drew, h2.drew⟩
          · clear h1 h2 h3
            simp only [List.take_succ_cons, List.take_zero, List.drop_succ_cons, List.drop_zero]
            iterate 6
              refine calm_plain rfl rfl (v := ?_) (a' := ?_) (fun w1 hw1 => ?_) ?_ ?_
              rotate_left 2
              · obtain ⟨hb, hk1⟩ := hw1
                have c3 := hk1.cell
                go_simp
                first | exact calm_val | (refine calm_call ?_; exact total_any _ _ _ _ _ _) | (refine calm_call ?_; exact rtotal_any _ _ _ _ _ _)
              · simp only [Act.put, List.setIfInBounds_toArray, List.set_cons_succ, List.set_cons_zero]
                rfl
            refine calm_done (end_none ?_)
            rintro w7 ⟨hb7, -⟩
            go_wp2
            go_ret
            exact ⟨rfl, hb7⟩
end LatencyParts
namespace LatencyParts
theorem contract (H : Type) (enc : TypeId × Value → H) (W : World) (base : Nat) (args : Array Value) (ds gs : List (DataW H)) (before : List MemPlace)
    (hval0 : ∀ (j : Nat) t v, Try.f4.params[j]? = some t → args[j]? = some v → Value.okWide Try.prog W .any base t v)
    (hW : DataW.Whole enc Try.prog Try.f4.params.toList Rows.latencyPartsSpec.vars false W args.toList ds gs before)
    (hsz0 : (DataW.weightsEach Try.prog (Try.f4.params.toList ++ Rows.latencyPartsSpec.plain.varTypes Try.prog) (ds ++ gs)).all (· ≤ reachBytes) = true) :
    Calls Try.prog 4 args W fun e W' => ∃ v, e = .returned v ∧ Rows.latencyPartsSpec.post enc Try.prog Try.f4 false true false false W args v W' := by
  have key : Calls Try.prog 4 args W fun e W' => e = .returned (.bool true) ∧ Below W.heap.size W W' := by
    have hval : ∀ (j : Nat) t v, Try.f4.params[j]? = some t → args[j]? = some v → Value.okWide Try.prog W .any base t v := hval0
    obtain ⟨p, q, hA0, hV, hbe, hfz, hnd⟩ := hW
    have hA : DataW.TrodAll enc Try.prog W 0 (fun _ => true) true Try.f4.params.toList args.toList ds p := hA0
    rw [Try.params4] at hA hval
    clear hA0 hval0
    obtain ⟨v0, vs0, d0, ds0, p0, q0, hargs, rfl, rfl, h0, r0⟩ := trodAll_cons hA
    obtain ⟨v1, vs1, d1, ds1, p1, q1, rfl, rfl, rfl, h1, r1⟩ := trodAll_cons r0
    obtain ⟨v2, vs2, d2, ds2, p2, q2, rfl, rfl, rfl, h2, r2⟩ := trodAll_cons r1
    obtain ⟨rfl, rfl, rfl⟩ := trodAll_nil r2
    obtain rfl : args = #[v0, v1, v2] := by cases args; simp_all
    obtain ⟨rfl, rfl⟩ := trodVars_none hV
    have hsz : (DataW.weightsEach Try.prog (Try.f4.params.toList ++ Rows.latencyPartsSpec.plain.varTypes Try.prog) ([d0, d1, d2] ++ [])).all (· ≤ reachBytes) = true := hsz0
    rw [Try.params4] at hsz
    clear hsz0
    obtain ⟨m, r, d, g, p, t, l, rfl⟩ := open_j (hval 0 27 v0 rfl rfl) h0
    obtain ⟨c0, c1, c2, c3, c4, rfl⟩ := open_l (hval 1 29 v1 rfl rfl) h1
    obtain ⟨a2, rfl, rfl, rfl, w2⟩ := open_int Try.underlying3 (hval 2 3 v2 rfl rfl) h2
    exact LatencyParts.walk m r d g p t l c0 c1 c2 c3 c4 a2 W
  refine key.mono fun e W' ⟨he, hb⟩ => ⟨_, he, law_post laid_out hW ?_ rfl (by kernel_rfl) Try.underlying4 ?_ hb⟩
  · rw [Try.params4]
    intro t ht
    simp only [List.mem_cons, List.not_mem_nil, or_false] at ht
    rcases ht with rfl | rfl | rfl <;> exact ⟨by kernel_rfl, of_decide_eq_true (by kernel_rfl)⟩
  · rw [Try.params4]
    intro ds hl
    match ds, hl with
    | [_, _, _], _ => rfl

set_option maxRecDepth 100000 in
theorem lifted (os : Os) (started : os.Started) (H : Type) (enc : TypeId × Value → H) :
    ReturnsInHanded {} Try.checked os 4 .any (Rows.latencyPartsSpec.pre6 enc Try.prog Try.f4 Rows.latencyPartsRow.domain false) (Rows.latencyPartsSpec.post enc Try.prog Try.f4 false true false false) := by
  refine returnsInHanded_of_change_sized (C := Try.checked) own_knob started (by kernel_rfl) Try.func4
    (ChangeSpec.witness6 (enc := enc) (C := Try.checked) false ⟨#[], #[.agg #[.int .i64 0, .int .i64 0, .int .i64 0, .int .i64 0, .int .i64 0, .int .i64 0, .int .i64 0], .agg #[.int .i64 0, .int .i64 0, .int .i64 0, .int .i64 0, .int .i64 0], .int .i64 0], []⟩ 8 (by kernel_rfl) (by kernel_rfl) (by kernel_rfl) (by kernel_rfl)) ?_
  intro W base args ds gs before hval0 hW _ hsz0 _
  exact contract H enc W base args ds gs before hval0 hW hsz0

theorem over : Rows.latencyPartsRow.holds Try.pinned (OpenSpec.ofChange Rows.latencyPartsSpec) :=
  OpenClaim.holds_of_wide 4 Try.f4 rfl rfl rfl rfl rfl rfl rfl ⟨rfl, rfl, rfl, rfl, rfl⟩ rfl rfl rfl rfl rfl (by kernel_rfl) Try.func4 (by kernel_rfl)
    (of_decide_eq_true (by kernel_rfl)) (by unfold Func.isWrapper; first | (rw [if_pos (by decide +kernel)]; kernel_rfl) | (rw [if_neg (by decide +kernel)]; exact ⟨rfl, rfl⟩))
    (fun os started H enc _ => lifted os started H enc)

/-- The given statement. -/
theorem proved : Rows.LatencyPartsSaid := over
end LatencyParts
#print axioms LatencyParts.proved
end Go.Proofs.Ytmokpiacioeohaa
