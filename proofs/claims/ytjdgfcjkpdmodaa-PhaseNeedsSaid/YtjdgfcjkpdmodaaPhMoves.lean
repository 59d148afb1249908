/-
  PhaseMoves, for every input: the law returns true, and each argument reads behind the call as it read before. No condition.
-/
import Derived.Test.YtjdgfcjkpdmodaaPhC
import Derived.Test.YtjdgfcjkpdmodaaNest
import Derived.Deep.RegionWith
import Derived.Deep.DeepCutAuto
import Derived.Deep.CutBlock
namespace Go.Proofs.Ytjdgfcjkpdmodaa
open Go.ChangeShapes Go.WideShapes Go.ChangeAt Go.RowKit
theorem open_ph {H : Type} {enc : TypeId × Value → H} {w : World} {base : Nat} {spare : Nat → Bool} {held : Bool} {r : Reach} {b0 : Nat} {v : Value} {dd : DataW H} {pp : List MemPlace} (hv : Value.okWide Try.prog w r b0 27 v)
    (h : DataW.Trod enc Try.prog w base spare held 27 v dd pp) : ∃ n d a p f : Int, v = .agg #[.int .i64 n, .int .i64 d, .int .i64 a, .int .i64 p, .int .i64 f] := by
  obtain ⟨cs, rfl, hsz⟩ := okWide_struct (t := 27) (fs := Try.prog.fieldsOf 27) (by kernel_rfl) hv
  have hs5 : cs.toList.length = 5 := by simpa using hsz.trans (show Try.prog.cellsOf 27 = 5 by kernel_rfl)
  obtain ⟨fuel, hf⟩ := h
  obtain ⟨xs, m, _, _, _, hlen, hg⟩ := DataW.trod_struct (fs := Try.prog.fieldsOf 27) (by kernel_rfl) hf
  have hcs : (Value.agg cs).cells.toList = cs.toList := rfl
  rw [hcs] at hg
  obtain ⟨ys, m', hlen', hg'⟩ := part_struct hg hlen 0 0 2 (Try.prog.fieldsOf 25) (by kernel_rfl)
  obtain ⟨n, hn, -⟩ := part_int hg' hlen' 0 0 1 .i64 (by kernel_rfl)
  obtain ⟨d, hd, -⟩ := part_int hg' hlen' 1 1 1 .i64 (by kernel_rfl)
  obtain ⟨a, ha, -⟩ := part_int hg hlen 1 2 1 .i64 (by kernel_rfl)
  obtain ⟨p, hp, -⟩ := part_int hg hlen 2 3 1 .i64 (by kernel_rfl)
  obtain ⟨f, hff, -⟩ := part_int hg hlen 3 4 1 .i64 (by kernel_rfl)
  refine ⟨n, d, a, p, f, ?_⟩
  obtain ⟨l⟩ := cs
  match l, hs5 with
  | [x0, x1, x2, x3, x4], _ =>
    simp at hn hd ha hp hff
    subst hn hd ha hp hff
    rfl
theorem open_rt {H : Type} {enc : TypeId × Value → H} {w : World} {base : Nat} {spare : Nat → Bool} {held : Bool} {r : Reach} {b0 : Nat} {v : Value} {dd : DataW H} {pp : List MemPlace} (hv : Value.okWide Try.prog w r b0 25 v)
    (h : DataW.Trod enc Try.prog w base spare held 25 v dd pp) : ∃ n d : Int, v = .agg #[.int .i64 n, .int .i64 d] := by
  obtain ⟨l, rfl, hl, _⟩ := open_ints_agg (k := .i64) (n := 2) (t := 25) (fs := Try.prog.fieldsOf 25) (by kernel_rfl) (by kernel_rfl) (by kernel_rfl) (by kernel_rfl) (by kernel_rfl) hv h
  match l, hl with
  | [n, d], _ => exact ⟨n, d, rfl⟩
namespace PhaseMoves
set_option maxRecDepth 100000 in
set_option maxHeartbeats 32000000 in
theorem walk (r0 r1 r2 r3 r4 : Int) (A : Option Addr) (cp : Nat) (l : List Int) (k aj q0 q1 : Int) (w : World) (hI : Reads w w.heap.size 1 A l.length (l.map (Value.int .u8))) (hl : l.length ≤ 9223372036854775807) (hcp : l.length ≤ cp) (hwf : ∀ x ∈ l, 0 ≤ x ∧ x ≤ 255) : Calls Try.prog 4 #[.agg #[.int .i64 r0, .int .i64 r1, .int .i64 r2, .int .i64 r3, .int .i64 r4], .slice A l.length cp, .int .i64 k, .int .i64 aj, .agg #[.int .i64 q0, .int .i64 q1]] w fun e w' => e = .returned (.bool true) ∧ Below w.heap.size w w' := by
  go_enter Try.func4, Try.ntmps4
  go_wp2_with fail
  refine (sane_any _).mono ?_
  rintro e w1 ⟨rfl, hq⟩
  have k5 := Blk.grows (Blk.alloc (Blk.new _ _ _) _) hq
  have k9 := Blk.grows (blk_new_at (n := w.heap.size + 1) (by simp)) hq
  have hB := below_grows (((Below.refl w.heap.size w).alloc (Nat.le_refl _) _).alloc (by simp) _) (by simp) hq
  have x5 := k5.cell
  have z5 := k5.lt
  clear hq
  go_upto_region 3 with fail
  go_cut [40, 41, 42] (fun s40 s41 s42 wx => ∃ (n d a p f : Int) (G : Nat), s40 = .slice (some ⟨G, 0, none⟩) 2 2 ∧ s41 = .int .i64 2 ∧ s42 = .int .i64 0 ∧ w.heap.size + 1 < G ∧ Below w.heap.size w wx ∧ Blk wx (w.heap.size + 1) 25 #[.int .i64 q0, .int .i64 q1] ∧ Blk wx G 27 #[.int .i64 r0, .int .i64 r1, .int .i64 r2, .int .i64 r3, .int .i64 r4, .int .i64 n, .int .i64 d, .int .i64 a, .int .i64 p, .int .i64 f])
  case first =>
    go_region_with (go_at_call 10; refine (made_any A cp l _ (hI.grows (by first | exact hB | exact hB.drew)) hcp hl hwf).mono ?_; rintro e w2 ⟨⟨n, d, a, p, f, hok, hp, rfl⟩, hq⟩; have x55 := (Blk.grows (by first | exact k5 | exact k5.drew) hq).cell; have k92 : Blk w2 (w.heap.size + 1) 25 #[.int .i64 q0, .int .i64 q1] := Blk.grows (by first | exact k9 | exact k9.drew) hq; have hB2 : Below w.heap.size w w2 := below_grows (by first | exact hB | exact hB.drew) (Nat.le_refl _) hq)
    all_goals go_wp2_with fail
    all_goals go_meet
    all_goals exact ⟨n, d, a, p, f, w2.heap.size, rfl, rfl, rfl, k92.lt, hB2.alloc hB2.size _, k92.alloc _, Blk.new _ _ _⟩
  case rest =>
    clear hB k5 k9 x5 z5
    obtain ⟨n, d, a, p, f, G, rfl, rfl, rfl, hzG, hB, k9, k40⟩ := hcut
    have b1 := Int.tmod_lt_of_pos k (show (0 : Int) < 2000 by omega)
    have b2 := Int.lt_tmod_of_pos k (show (0 : Int) < 2000 by omega)
    have b3 := Int.tmod_lt_of_pos aj (show (0 : Int) < 4098 by omega)
    have b4 := Int.lt_tmod_of_pos aj (show (0 : Int) < 4098 by omega)
    have wk : IntKind.i64.wrap (Int.tmod k 2000) = Int.tmod k 2000 := IntWalk.i64_in _ (by omega)
    have wa : IntKind.i64.wrap (Int.tmod aj 4098) = Int.tmod aj 4098 := IntWalk.i64_in _ (by omega)
    clear b1 b2 b3 b4
    go_wp2
    go_loopw [42] (fun i wr => ∃ c : Nat, c ≤ 2 ∧ i = .int .i64 c ∧ Below w.heap.size w wr ∧ Blk wr (w.heap.size + 1) 25 #[.int .i64 q0, .int .i64 q1] ∧ Blk wr G 27 #[.int .i64 r0, .int .i64 r1, .int .i64 r2, .int .i64 r3, .int .i64 r4, .int .i64 n, .int .i64 d, .int .i64 a, .int .i64 p, .int .i64 f]) (fun i _ => 2 - (intOf i).toNat)
    case atStart => exact ⟨0, by omega, rfl, hB, k9, k40⟩
    case round =>
      clear hB k9 k40
      obtain ⟨c, hc, rfl, hB, k9, k40⟩ := hrel
      by_cases hlt : c < 2
      · have hcb : decide ((c : Int) < 2) = true := by simp; omega
        obtain ⟨xn, xd, xa, xp, xf, i0, i1, i2, i3, i4⟩ : ∃ (xn xd xa xp xf : Int), wr.cell? ⟨G, c * 5, none⟩ = some (.int .i64 xn) ∧ wr.cell? ⟨G, c * 5 + 1, none⟩ = some (.int .i64 xd) ∧ wr.cell? ⟨G, c * 5 + 2, none⟩ = some (.int .i64 xa) ∧ wr.cell? ⟨G, c * 5 + 3, none⟩ = some (.int .i64 xp) ∧ wr.cell? ⟨G, c * 5 + 4, none⟩ = some (.int .i64 xf) := by
          match c, hlt with
          | 0, _ => exact ⟨r0, r1, r2, r3, r4, k40.cell 0, k40.cell 1, k40.cell 2, k40.cell 3, k40.cell 4⟩
          | 1, _ => exact ⟨n, d, a, p, f, k40.cell 5, k40.cell 6, k40.cell 7, k40.cell 8, k40.cell 9⟩
        go_wp2
        have k12 := (Blk.new wr 27 #[.int .i64 xn, .int .i64 xd, .int .i64 xa, .int .i64 xp, .int .i64 xf]).alloc (Obj.cells #[.int .i64 k, .int .i64 (Int.tmod k 2000)] 3)
        have k49 := blk_new_at (X := wr.alloc (Obj.cells #[.int .i64 xn, .int .i64 xd, .int .i64 xa, .int .i64 xp, .int .i64 xf] 27)) (n := wr.heap.size + 1) (t := 3) (cs := #[.int .i64 k, .int .i64 (Int.tmod k 2000)]) (by simp)
        have z40 := k40.lt
        have z9 := k9.lt
        replace k9 := (k9.alloc (Obj.cells #[.int .i64 xn, .int .i64 xd, .int .i64 xa, .int .i64 xp, .int .i64 xf] 27)).alloc (Obj.cells #[.int .i64 k, .int .i64 (Int.tmod k 2000)] 3)
        replace k40 := (k40.alloc (Obj.cells #[.int .i64 xn, .int .i64 xd, .int .i64 xa, .int .i64 xp, .int .i64 xf] 27)).alloc (Obj.cells #[.int .i64 k, .int .i64 (Int.tmod k 2000)] 3)
        replace hB := (hB.alloc hB.size (Obj.cells #[.int .i64 xn, .int .i64 xd, .int .i64 xa, .int .i64 xp, .int .i64 xf] 27)).alloc (by simp <;> omega) (Obj.cells #[.int .i64 k, .int .i64 (Int.tmod k 2000)] 3)
        clear i0 i1 i2 i3 i4
        generalize hG : wr.heap.size = G12 at *
        clear hG
        generalize World.alloc (World.alloc wr (Obj.cells #[.int .i64 xn, .int .i64 xd, .int .i64 xa, .int .i64 xp, .int .i64 xf] 27)) (Obj.cells #[.int .i64 k, .int .i64 (Int.tmod k 2000)] 3) = w4 at *
        go_loopw [51] (fun i wr => ∃ j : Nat, j ≤ 2 ∧ i = .int .i64 j ∧ Below w.heap.size w wr ∧ Blk wr (w.heap.size + 1) 25 #[.int .i64 q0, .int .i64 q1] ∧ Blk wr G 27 #[.int .i64 r0, .int .i64 r1, .int .i64 r2, .int .i64 r3, .int .i64 r4, .int .i64 n, .int .i64 d, .int .i64 a, .int .i64 p, .int .i64 f] ∧ Blk wr G12 27 #[.int .i64 xn, .int .i64 xd, .int .i64 xa, .int .i64 xp, .int .i64 xf] ∧ Blk wr (G12 + 1) 3 #[.int .i64 k, .int .i64 (Int.tmod k 2000)]) (fun i _ => 2 - (intOf i).toNat)
        case atStart => exact ⟨0, by omega, rfl, hB, k9, k40, k12, k49⟩
        case round =>
          clear hB k9 k40 k12 k49
          obtain ⟨j, hj, rfl, hB, k9, k40, k12, k49⟩ := hrel
          by_cases hjt : j < 2
          · have hjb : decide ((j : Int) < 2) = true := by simp; omega
            obtain ⟨nn, hv⟩ : ∃ nn : Int, (#[Value.int .i64 k, .int .i64 (Int.tmod k 2000)] : Array Value)[j]? = some (.int .i64 nn) := by
              match j, hjt with
              | 0, _ => exact ⟨_, rfl⟩
              | 1, _ => exact ⟨_, rfl⟩
            have j0 := (k49.cell j).trans hv
            clear hv
            have x12 := k12.cell
            go_wp2_with fail
            refine (at_any xn xd xa xp xf nn _).mono ?_
            rintro e y0 ⟨rfl, hq⟩
            replace k9 := Blk.grows k9 hq
            replace k40 := Blk.grows k40 hq
            replace k12 := Blk.grows k12 hq
            replace k49 := Blk.grows k49 hq
            replace hB := below_grows hB (Nat.le_refl _) hq
            have x12 := k12.cell
            have z12 := k12.lt
            clear hq
            go_wp2_with fail
            refine (rat_any xn xd xa xp xf nn _).mono ?_
            rintro e y1 ⟨rfl, hq⟩
            replace k9 := Blk.grows k9 hq
            replace k40 := Blk.grows k40 hq
            replace k12 := Blk.grows k12 hq
            replace k49 := Blk.grows k49 hq
            replace hB := below_grows hB (Nat.le_refl _) hq
            have x12 := k12.cell
            have z12 := k12.lt
            clear hq
            go_wp2_with fail
            refine (adv_any xn xd xa xp xf nn _).mono ?_
            rintro e y2 ⟨rfl, hq⟩
            replace k9 := Blk.grows k9 hq
            replace k40 := Blk.grows k40 hq
            replace k12 := Blk.grows k12 hq
            replace k49 := Blk.grows k49 hq
            replace hB := below_grows hB (Nat.le_refl _) hq
            have x12 := k12.cell
            have z12 := k12.lt
            clear hq
            go_wp2_with fail
            refine (radv_any xn xd xa xp xf nn _).mono ?_
            rintro e y3 ⟨rfl, hq⟩
            replace k9 := Blk.grows (k9.alloc _) hq
            replace k40 := Blk.grows (k40.alloc _) hq
            replace k12 := Blk.grows (k12.alloc _) hq
            replace k49 := Blk.grows (k49.alloc _) hq
            have e3 := Blk.grows (Blk.new _ _ _) hq
            replace hB := below_grows (hB.alloc hB.size _) (by simp <;> omega) hq
            have x12 := k12.cell
            have z12 := k12.lt
            clear hq
            have xe3 := e3.cell
            have ze3 := e3.lt
            go_wp2
            go_roundw
            case rel => exact ⟨j + 1, by omega, by go_num, hB.alloc hB.size _, k9.alloc _, k40.alloc _, k12.alloc _, k49.alloc _⟩
            case measure => simp [intOf]; omega
          · have hjb : decide ((j : Int) < 2) = false := by simp; omega
            go_wp2
            have z12 := k12.lt
            replace k9 := k9.alloc (Obj.cells #[.int .i64 aj, .int .i64 (Int.tmod aj 4098)] 3)
            replace k40 := k40.alloc (Obj.cells #[.int .i64 aj, .int .i64 (Int.tmod aj 4098)] 3)
            replace k12 := k12.alloc (Obj.cells #[.int .i64 aj, .int .i64 (Int.tmod aj 4098)] 3)
            replace hB := hB.alloc hB.size (Obj.cells #[.int .i64 aj, .int .i64 (Int.tmod aj 4098)] 3)
            have k108 := Blk.new wr 3 #[.int .i64 aj, .int .i64 (Int.tmod aj 4098)]
            clear k49
            generalize hG : wr.heap.size = G108 at *
            clear hG
            generalize World.alloc wr (Obj.cells #[.int .i64 aj, .int .i64 (Int.tmod aj 4098)] 3) = w5 at *
            go_loopw [110] (fun i wr => ∃ j : Nat, j ≤ 2 ∧ i = .int .i64 j ∧ Below w.heap.size w wr ∧ Blk wr (w.heap.size + 1) 25 #[.int .i64 q0, .int .i64 q1] ∧ Blk wr G 27 #[.int .i64 r0, .int .i64 r1, .int .i64 r2, .int .i64 r3, .int .i64 r4, .int .i64 n, .int .i64 d, .int .i64 a, .int .i64 p, .int .i64 f] ∧ Blk wr G12 27 #[.int .i64 xn, .int .i64 xd, .int .i64 xa, .int .i64 xp, .int .i64 xf] ∧ Blk wr G108 3 #[.int .i64 aj, .int .i64 (Int.tmod aj 4098)]) (fun i _ => 2 - (intOf i).toNat)
            case atStart => exact ⟨0, by omega, rfl, hB, k9, k40, k12, k108⟩
            case round =>
              clear hB k9 k40 k12 k108
              obtain ⟨j, hj, rfl, hB, k9, k40, k12, k108⟩ := hrel
              by_cases hjt : j < 2
              · have hjb : decide ((j : Int) < 2) = true := by simp; omega
                obtain ⟨nn, hv⟩ : ∃ nn : Int, (#[Value.int .i64 aj, .int .i64 (Int.tmod aj 4098)] : Array Value)[j]? = some (.int .i64 nn) := by
                  match j, hjt with
                  | 0, _ => exact ⟨_, rfl⟩
                  | 1, _ => exact ⟨_, rfl⟩
                have j0 := (k108.cell j).trans hv
                clear hv
                have x12 := k12.cell
                go_wp2_with fail
                refine (tune_any xn xd xa xp xf nn _).mono ?_
                rintro e y4 ⟨rfl, hq⟩
                replace k9 := Blk.grows k9 hq
                replace k40 := Blk.grows k40 hq
                replace k12 := Blk.grows k12 hq
                replace k108 := Blk.grows k108 hq
                replace hB := below_grows hB (Nat.le_refl _) hq
                have x12 := k12.cell
                have z12 := k12.lt
                clear hq
                go_wp2_with fail
                refine (rtune_any xn xd xa xp xf nn _).mono ?_
                rintro e y5 ⟨rfl, hq⟩
                replace k9 := Blk.grows (k9.alloc _) hq
                replace k40 := Blk.grows (k40.alloc _) hq
                replace k12 := Blk.grows (k12.alloc _) hq
                replace k108 := Blk.grows (k108.alloc _) hq
                have e5 := Blk.grows (Blk.new _ _ _) hq
                replace hB := below_grows (hB.alloc hB.size _) (by simp <;> omega) hq
                have x12 := k12.cell
                have z12 := k12.lt
                clear hq
                have xe5 := e5.cell
                have ze5 := e5.lt
                go_wp2
                go_roundw
                case rel => exact ⟨j + 1, by omega, by go_num, hB.alloc hB.size _, k9.alloc _, k40.alloc _, k12.alloc _, k108.alloc _⟩
                case measure => simp [intOf]; omega
              · have hjb : decide ((j : Int) < 2) = false := by simp; omega
                go_wp2
                refine wp_region_mix (fun w' => Below w.heap.size w w' ∧ Blk w' (w.heap.size + 1) 25 #[.int .i64 q0, .int .i64 q1] ∧ Blk w' G 27 #[.int .i64 r0, .int .i64 r1, .int .i64 r2, .int .i64 r3, .int .i64 r4, .int .i64 n, .int .i64 d, .int .i64 a, .int .i64 p, .int .i64 f] ∧ Blk w' G12 27 #[.int .i64 xn, .int .i64 xd, .int .i64 xa, .int .i64 xp, .int .i64 xf]) [] 5 159 (by kernel_rfl) (by kernel_rfl) rfl ?_ float_none ?_ ?_
                · exact fun w1 w2 ⟨h0, h1, h2, h3⟩ hg => ⟨below_grows h0 (Nat.le_refl _) hg, h1.grows hg, h2.grows hg, h3.grows hg⟩
                · exact ⟨hB.drew, k9.drew, k40.drew, k12.drew⟩
                · clear hB k9 k40 k12 k108
                  simp only [List.take_succ_cons, List.take_zero, List.drop_succ_cons, List.drop_zero]
                  iterate 5
                    refine calm_plain rfl rfl (v := ?_) (a' := ?_) (fun w1 hw1 => ?_) ?_ ?_
                    rotate_left 2
                    · obtain ⟨_, _, _, j12⟩ := hw1
                      have c12 := j12.cell
                      go_simp
                      first | exact calm_val | (refine calm_call ?_; exact valid_any _ _ _ _ _ _) | (refine calm_call ?_; exact rvalid_any _ _ _ _ _ _)
                    · simp only [Act.put, List.setIfInBounds_toArray, List.set_cons_succ, List.set_cons_zero]
                      rfl
                  refine calm_done (end_none ?_)
                  rintro w7 ⟨hB, k9, k40, -⟩
                  go_wp2
                  go_roundw
                  case rel => exact ⟨c + 1, by omega, by go_num, hB, k9, k40⟩
                  case measure => simp [intOf]; omega
      · have hcb : decide ((c : Int) < 2) = false := by simp; omega
        have x9 := k9.cell
        go_wp2_with fail
        refine (new_any q0 q1 _).mono ?_
        rintro e y0 ⟨rfl, hq⟩
        replace k9 := k9.grows hq
        replace hB := below_grows hB (Nat.le_refl _) hq
        replace x9 := k9.cell
        have z9 := k9.lt
        clear hq
        go_wp2_with fail
        refine (rnew_any q0 q1 _).mono ?_
        rintro e y1 ⟨rfl, hq⟩
        have k31 := Blk.grows (Blk.new _ _ _) hq
        replace hB := below_grows (hB.alloc hB.size _) (by simp <;> omega) hq
        have x31 := k31.cell
        have z31 := k31.lt
        clear hq
        go_wp2
        go_ret
        exact ⟨rfl, hB.alloc hB.size _⟩
end PhaseMoves
namespace PhaseMoves
theorem contract (H : Type) (enc : TypeId × Value → H) (W : World) (base : Nat) (args : Array Value) (ds gs : List (DataW H)) (before : List MemPlace)
    (hval0 : ∀ (j : Nat) t v, Try.f4.params[j]? = some t → args[j]? = some v → Value.okWide Try.prog W .any base t v)
    (hW : DataW.Whole enc Try.prog Try.f4.params.toList Rows.phaseMovesSpec.vars false W args.toList ds gs before)
    (hsz0 : (DataW.weightsEach Try.prog (Try.f4.params.toList ++ Rows.phaseMovesSpec.plain.varTypes Try.prog) (ds ++ gs)).all (· ≤ reachBytes) = true) :
    Calls Try.prog 4 args W fun e W' => ∃ v, e = .returned v ∧ Rows.phaseMovesSpec.post enc Try.prog Try.f4 false true false false W args v W' := by
  have key : Calls Try.prog 4 args W fun e W' => e = .returned (.bool true) ∧ Below W.heap.size W W' := by
    have hval : ∀ (j : Nat) t v, Try.f4.params[j]? = some t → args[j]? = some v → Value.okWide Try.prog W .any base t v := hval0
    obtain ⟨p, q, hA0, hV, hbe, hfz, hnd⟩ := hW
    have hA : DataW.TrodAll enc Try.prog W 0 (fun _ => true) true Try.f4.params.toList args.toList ds p := hA0
    rw [Try.params4] at hA hval
    clear hA0 hval0
    obtain ⟨v0, vs0, d0, ds0, p0, q0, hargs, rfl, rfl, h0, r0⟩ := trodAll_cons hA
    obtain ⟨v1, vs1, d1, ds1, p1, q1, rfl, rfl, rfl, h1, r1⟩ := trodAll_cons r0
    obtain ⟨v2, vs2, d2, ds2, p2, q2, rfl, rfl, rfl, h2, r2⟩ := trodAll_cons r1
    obtain ⟨v3, vs3, d3, ds3, p3, q3, rfl, rfl, rfl, h3, r3⟩ := trodAll_cons r2
    obtain ⟨v4, vs4, d4, ds4, p4, q4, rfl, rfl, rfl, h4, r4⟩ := trodAll_cons r3
    obtain ⟨rfl, rfl, rfl⟩ := trodAll_nil r4
    obtain rfl : args = #[v0, v1, v2, v3, v4] := by cases args; simp_all
    obtain ⟨rfl, rfl⟩ := trodVars_none hV
    have hsz : (DataW.weightsEach Try.prog (Try.f4.params.toList ++ Rows.phaseMovesSpec.plain.varTypes Try.prog) ([d0, d1, d2, d3, d4] ++ [])).all (· ≤ reachBytes) = true := hsz0
    rw [Try.params4] at hsz
    clear hsz0
    obtain ⟨u0, u1, u2, u3, u4, rfl⟩ := open_ph (hval 0 27 v0 rfl rfl) h0
    obtain ⟨A, cp, l, rfl, hI, hl, hcp, hwf⟩ := open_slice_kind (k := .u8) Try.underlying22 Try.underlying5 (by kernel_rfl) (hval 1 22 v1 rfl rfl) h1
    obtain ⟨a2, rfl, rfl, rfl, w2⟩ := open_int Try.underlying3 (hval 2 3 v2 rfl rfl) h2
    obtain ⟨a3, rfl, rfl, rfl, w3⟩ := open_int Try.underlying3 (hval 3 3 v3 rfl rfl) h3
    obtain ⟨s0, s1, rfl⟩ := open_rt (hval 4 25 v4 rfl rfl) h4
    exact PhaseMoves.walk u0 u1 u2 u3 u4 A cp l a2 a3 s0 s1 W hI hl hcp (fun x hx => u8_bd (hwf x hx))
  refine key.mono fun e W' ⟨he, hb⟩ => ⟨_, he, law_post laid_out hW ?_ rfl (by kernel_rfl) Try.underlying4 ?_ hb⟩
  · rw [Try.params4]
    intro t ht
    simp only [List.mem_cons, List.not_mem_nil, or_false] at ht
    rcases ht with rfl | rfl | rfl | rfl | rfl <;> exact ⟨by kernel_rfl, of_decide_eq_true (by kernel_rfl)⟩
  · rw [Try.params4]
    intro ds hl
    match ds, hl with
    | [_, _, _, _, _], _ => rfl

set_option maxRecDepth 100000 in
theorem lifted (os : Os) (started : os.Started) (H : Type) (enc : TypeId × Value → H) :
    ReturnsInHanded {} Try.checked os 4 .any (Rows.phaseMovesSpec.pre6 enc Try.prog Try.f4 Rows.phaseMovesRow.domain false) (Rows.phaseMovesSpec.post enc Try.prog Try.f4 false true false false) := by
  refine returnsInHanded_of_change_sized (C := Try.checked) own_knob started (by kernel_rfl) Try.func4
    (ChangeSpec.witness6 (enc := enc) (C := Try.checked) false ⟨#[], #[.agg #[.int .i64 0, .int .i64 0, .int .i64 0, .int .i64 0, .int .i64 0], .slice none 0 0, .int .i64 0, .int .i64 0, .agg #[.int .i64 0, .int .i64 0]], []⟩ 8 (by kernel_rfl) (by kernel_rfl) (by kernel_rfl) (by kernel_rfl)) ?_
  intro W base args ds gs before hval0 hW _ hsz0 _
  exact contract H enc W base args ds gs before hval0 hW hsz0

theorem over : Rows.phaseMovesRow.holds Try.pinned (OpenSpec.ofChange Rows.phaseMovesSpec) :=
  OpenClaim.holds_of_wide 4 Try.f4 rfl rfl rfl rfl rfl rfl rfl ⟨rfl, rfl, rfl, rfl, rfl⟩ rfl rfl rfl rfl rfl (by kernel_rfl) Try.func4 (by kernel_rfl)
    (of_decide_eq_true (by kernel_rfl)) (by unfold Func.isWrapper; first | (rw [if_pos (by decide +kernel)]; kernel_rfl) | (rw [if_neg (by decide +kernel)]; exact ⟨rfl, rfl⟩))
    (fun os started H enc _ => lifted os started H enc)

/-- The given statement. -/
theorem proved : Rows.PhaseMovesSaid := over
end PhaseMoves
#print axioms PhaseMoves.proved
end Go.Proofs.Ytjdgfcjkpdmodaa
