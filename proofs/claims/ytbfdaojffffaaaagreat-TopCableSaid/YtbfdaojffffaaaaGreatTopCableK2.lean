/-
  YtbfdaojffffaaaaGreatTopCable: shared parts, 2. Plain theorems.
-/
import Derived.Test.YtbfdaojffffaaaaGreatTopCableK1
import Derived.Deep.RegionWith
import Derived.BigQuiet
import Derived.Lib.BitFns
import Derived.Lib.MinMax
import Derived.Deep.DeepCutAuto
import Derived.RangeFuncNested
import Derived.RangeFuncBound
import Derived.RangeFuncCalls
import Derived.RangeFuncLeaves
import Derived.Shelf.Abstract
import Derived.Shelf.RegionOpen
import Derived.OwnWalkIn
import Derived.TacticsInMore
import Derived.LoopNIn
import Derived.LoopIn
import Derived.Sort.CutIn
namespace Go.Proofs.YtbfdaojffffaaaaGreat
open Go.RowKit
theorem OwnS.far {w : World} {base : Nat} {v : Value} {l : List Int} (h : OwnS w base v l) {p : Addr} (hp : p.block < base) (u : Value) : OwnS (w.setCell p u) base v l := by
 refine World.ownsRow.kept (row := some p.block) h ⟨rfl, rfl, rfl, by simp, fun k _ hk => heap_setCell_other w p k u (fun e => hk (by rw [e]))⟩ ?_
 cases e : v.ownBlock with
 | none => exact .inl rfl
 | some g => exact .inr (fun e2 => by have := (World.ownsRow.lt h g e).1; injection e2 with e2; omega)
theorem OwnS.alloc {w : World} {base : Nat} {v : Value} {l : List Int} (h : OwnS w base v l) (o : Obj) : OwnS (w.alloc o) base v l := World.ownsRow.alloc h o
theorem OwnS.drew {w : World} {base : Nat} {v : Value} {l : List Int} (h : OwnS w base v l) : OwnS w.drew base v l := h.grows (Grows.drew' w)
/-- A block of samples: so many channels, so many frames. -/
structure BlkOk (ch fr : Nat) (l : List Int) : Prop where
 c1 : 1 ≤ ch
 c2 : ch ≤ 8
 len : l.length = fr * ch
 f : fr ≤ 65536
 s : ∀ x ∈ l, -8388608 ≤ x ∧ x ≤ 8388607
theorem BlkOk.le {ch fr : Nat} {l : List Int} (h : BlkOk ch fr l) : l.length ≤ 524288 := by
 rw [h.len]
 exact Nat.mul_le_mul h.f h.c2
theorem BlkOk.div {ch fr : Nat} {l : List Int} (h : BlkOk ch fr l) : Int.tdiv (l.length : Int) (ch : Int) = (fr : Int) ∧ Int.tmod (l.length : Int) (ch : Int) = 0 := by
 have h1 := h.c1
 rw [h.len, Int.tdiv_eq_ediv_of_nonneg (by omega), Int.tmod_eq_emod_of_nonneg (by omega), Int.natCast_mul]
 exact ⟨Int.mul_ediv_cancel _ (by omega), Int.mul_emod_left _ _⟩
theorem BlkOk.nil {ch : Nat} (h1 : 1 ≤ ch) (h2 : ch ≤ 8) : BlkOk ch 0 [] := ⟨h1, h2, by simp, by omega, by simp⟩
theorem BlkOk.app {ch fr fr' : Nat} {l m : List Int} (h : BlkOk ch fr l) (h' : BlkOk ch fr' m) (hf : fr + fr' ≤ 65536) : BlkOk ch (fr + fr') (l ++ m) :=
 ⟨h.c1, h.c2, by rw [List.length_append, h.len, h'.len, Nat.add_mul], hf, fun x hx => (List.mem_append.1 hx).elim (h.s x) (h'.s x)⟩
set_option maxRecDepth 100000 in
set_option maxHeartbeats 8000000 in
theorem sis_any (x : Int) (w : World) (h1 : -8388608 ≤ x) (h2 : x ≤ 8388607) : Calls Tryz.prog 209 #[.int .i32 x] w fun e w' => e = .returned (.bool true) ∧ Grows w w' := by
 have d1 : decide (-8388608 ≤ x) = true := by simp only [decide_eq_true_iff]; omega
 have d2 : decide (x ≤ 8388607) = true := by simp only [decide_eq_true_iff]; omega
 go_enter Tryz.func209, Tryz.ntmps209
 go_wp2
 go_ret
 exact ⟨rfl, Below.refl _ _⟩
set_option maxRecDepth 100000 in
set_option maxHeartbeats 8000000 in
theorem svalid_any (A : Option Addr) (c : Nat) {ch fr : Nat} {l : List Int} (w : World) (hb : BlkOk ch fr l) (h : Sams w A l) : Calls Tryz.prog 124 #[.agg #[.int .i64 (ch : Int), .slice A l.length c]] w fun e w' => e = .returned (.bool true) ∧ Grows w w' := by
 obtain ⟨t1, t2⟩ := hb.div
 have hs := Lib.hid hb.s
 have hlen := hb.len
 have hb1 := hb.c1
 have hb2 := hb.c2
 have hb3 := hb.f
 have hl8 := hb.le
 clear hlen hb
 have t3 : ((ch : Int) == 0) = false := by simp; omega
 have t4 : ¬ (ch : Int) = 0 := by omega
 have t5 : ¬ (ch : Int) = -1 := by omega
 have wf : IntKind.i64.wrap (fr : Int) = (fr : Int) := IntWalk.i64_in _ (by omega)
 have wz : IntKind.i64.wrap 0 = 0 := by decide
 have d1 : decide ((ch : Int) < 1) = false := by simp only [decide_eq_false_iff_not]; omega
 have d2 : decide (8 < (ch : Int)) = false := by simp only [decide_eq_false_iff_not]; omega
 have d3 : decide (65536 < (fr : Int)) = false := by simp only [decide_eq_false_iff_not]; omega
 go_enter Tryz.func124, Tryz.ntmps124
 go_wp2_with fail
 have hB := (Below.refl w.heap.size w).alloc (Nat.le_refl _) (Obj.cells #[.int .i64 (ch : Int), .slice A l.length c] 60)
 generalize World.alloc w _ = w0 at *
 clear t1 t2 t3 t4 t5 wf wz d1 d2 d3
 go_loopw [34] (fun i wr => ∃ k : Nat, k ≤ l.length ∧ i = .int .i64 k ∧ Grows w wr) (fun i _ => l.length - (intOf i).toNat)
 case atStart => exact ⟨0, by omega, rfl, hB⟩
 case round =>
  clear hB
  obtain ⟨k, hk, rfl, hB⟩ := hrel
  by_cases hlt : k < l.length
  ·obtain ⟨ad, x, rfl, had, hx, q0⟩ := (h.grows hB).at_ hlt
   obtain ⟨x1, x2⟩ := hs.out x (List.mem_of_getElem? hx)
   clear hx
   go_wp2_with fail
   refine (sis_any x _ x1 x2).mono ?_
   rintro e w1 ⟨rfl, hq⟩
   replace hB := below_grows hB (Nat.le_refl _) hq
   clear hq q0
   go_wp2
   go_roundw
   case rel => exact ⟨k + 1, by omega, by go_num, hB⟩
   case measure => simp [intOf]; omega
  ·go_wp2
   go_ret
   exact ⟨rfl, hB⟩
theorem wpList_make_run {P : Program} {ops : Array Oper} {rest : List Oper} {o : Oper} {a : Act} {w w' : World} {Q : Exit → Act → World → Prop} {v' x y : Value} (hgd : o.guard = none) (l c : Operand) (t : TypeId)
 (ho : o.op = .makeSlice t l c) (hl : a.eval l = x) (hc : a.eval c = y) (hrun : (Instr.makeSlice t x y).run P w = .ok v' w')
 (h : wpList P ops Q rest (a.put o.dst v') w') : wpList P ops Q (o :: rest) a w :=
 wpList_plain hgd fun _ hK => by
  unfold Oper.wp execOp
  simp only [ho, Sem.run_bind, Sem.run_pure, Result.andThen_ok, hl, hc, hrun]
  exact hK _ _ h
theorem zeros_made (w : World) (base n : Nat) (h1 : n ≤ 4000000) (hb : base ≤ w.heap.size) : ∃ w', (Instr.makeSlice 45 (.int .i64 (n : Int)) (.int .i64 (n : Int))).run Tryz.prog w = .ok (.slice (some ⟨w.heap.size, 0, none⟩) n n) w' ∧
 OwnS w' base (.slice (some ⟨w.heap.size, 0, none⟩) n n) (List.replicate n 0) ∧ w.grownBy w' none := by
 obtain ⟨i0, hi0, hi1, hi2, hi3, hi4⟩ := s32info
 obtain ⟨w', hrun, r1, r2⟩ := run_make_full (P := Tryz.prog) w base 45 21 i0 _ 1 Tryz.underlying45 hi0 hi3 hi1 .i64 .i64 n (by rw [hi2]; omega) (by simp only [maxLen]; omega) hb
 refine ⟨w', hrun, ?_, r2⟩
 have e : (Value.int .i32 0).cells = #[Value.int .i32 0] := rfl
 unfold OwnS
 rw [List.length_replicate, List.map_replicate]
 rw [e, toList_madeCells_one, Nat.mul_one] at r1
 exact r1
theorem zeros_ok {ch fr : Nat} (h1 : 1 ≤ ch) (h2 : ch ≤ 8) (h3 : fr ≤ 65536) : BlkOk ch fr (List.replicate (fr * ch) 0) :=
 ⟨h1, h2, by simp, h3, fun x hx => by obtain ⟨_, rfl⟩ := List.mem_replicate.1 hx; omega⟩
set_option maxRecDepth 100000 in
set_option maxHeartbeats 8000000 in
theorem silence_any (ch fr : Nat) (w : World) (h1 : 1 ≤ ch) (h2 : ch ≤ 8) (h3 : fr ≤ 65536) : Calls Tryz.prog 58 #[.int .i64 ch, .int .i64 fr] w fun e w' => (∃ A, e = .returned (.tuple #[.agg #[.int .i64 (ch : Int), .slice A (fr * ch) (fr * ch)], .int .i64 0]) ∧ OwnS w' w.heap.size (.slice A (fr * ch) (fr * ch)) (List.replicate (fr * ch) 0)) ∧ Grows w w' := by
 have hle : fr * ch ≤ 65536 * 8 := Nat.mul_le_mul h3 h2
 have hm : IntKind.i64.wrap ((ch : Int) * (fr : Int)) = ((fr * ch : Nat) : Int) := by
  rw [← Int.natCast_mul, Nat.mul_comm ch fr]
  exact IntWalk.i64_in _ (by omega)
 generalize fr * ch = n at *
 have d1 : decide ((ch : Int) < 1) = false := by simp only [decide_eq_false_iff_not]; omega
 have d2 : decide (8 < (ch : Int)) = false := by simp only [decide_eq_false_iff_not]; omega
 have d3 : decide ((fr : Int) < 0) = false := by simp only [decide_eq_false_iff_not]; omega
 have d4 : decide (65536 < (fr : Int)) = false := by simp only [decide_eq_false_iff_not]; omega
 go_enter Tryz.func58, Tryz.ntmps58
 have hB := (Below.refl w.heap.size w).alloc (Nat.le_refl _) (Obj.cells #[.int .i64 0, .slice none 0 0] 60)
 have k4 := Blk.new w 60 #[.int .i64 0, .slice none 0 0]
 go_upto_region 3 with fail
 generalize World.alloc w _ = w1 at *
 refine wp_region_lit ?_
 iterate 4
  refine wpList_plain rfl (fun K hK => ?_)
  go_simp
  refine hK _ _ ?_
  clear hK K
 obtain ⟨w2, hrun, hown, hgr⟩ := zeros_made w1 w1.heap.size n (by omega) (Nat.le_refl _)
 refine wpList_make_run rfl (.tmp 24) (.tmp 24) 45 rfl rfl rfl hrun ?_
 have hlt := k4.lt
 replace k4 := k4.grown hgr (by simp)
 replace hB := hB.grown hgr hB.size (fun g e => by cases e)
 clear hgr hrun
 have x4 := k4.cell
 have f4 := k4.frozen
 go_wp2
 have hB2 := (hB.setCell (p := ⟨w.heap.size, 0, none⟩) (by simp) (.int .i64 (ch : Int))).setCell (p := ⟨w.heap.size, 1, none⟩) (by simp) (.slice (some ⟨w1.heap.size, 0, none⟩) n n)
 have ho2 := (hown.far (p := ⟨w.heap.size, 0, none⟩) (by simp; omega) (.int .i64 (ch : Int))).far (p := ⟨w.heap.size, 1, none⟩) (by simp; omega) (.slice (some ⟨w1.heap.size, 0, none⟩) n n)
 refine bodyPost_ret (v := .tuple #[.agg #[.int .i64 (ch : Int), .slice (some ⟨w1.heap.size, 0, none⟩) n n], .int .i64 0]) (by simp [results, Tryz.results58, go_sem, x4]) rfl ⟨⟨_, rfl, ho2.mono (by omega)⟩, hB2⟩
set_option maxRecDepth 100000 in
set_option maxHeartbeats 8000000 in
theorem rsrest_any (A : Option Addr) (c : Nat) {ch : Nat} {n d a p f : Int} {l : List Int} (w : World) : Calls Tryz.prog 182 #[.agg #[.int .i64 (ch : Int), .int .i64 n, .int .i64 d, .int .i64 a, .int .i64 p, .int .i64 f, .slice A l.length c]] w fun e w' => e = .returned (.agg #[.int .i64 (ch : Int), .slice A l.length c]) ∧ Grows w w' := by
 go_enter Tryz.func182, Tryz.ntmps182
 go_wp2
 refine bodyPost_ret (v := .agg #[.int .i64 (ch : Int), .slice A l.length c]) (by simp [results, Tryz.results182, go_sem]) rfl ⟨rfl, ?_⟩
 exact ((Below.refl _ _).alloc (Nat.le_refl _) _).alloc (by simp) _
set_option maxRecDepth 100000 in
set_option maxHeartbeats 8000000 in
theorem rsvalid_any (A : Option Addr) (c : Nat) {ch fr : Nat} {n d a p f : Int} {l : List Int} (w : World) (hp : okPh n d a p f = true) (hb : BlkOk ch fr l) (h : Sams w A l) : Calls Tryz.prog 100 #[.agg #[.int .i64 (ch : Int), .int .i64 n, .int .i64 d, .int .i64 a, .int .i64 p, .int .i64 f, .slice A l.length c]] w fun e w' => e = .returned (.bool true) ∧ Grows w w' := by
 go_enter Tryz.func100, Tryz.ntmps100
 go_wp2_with fail
 refine (phvalid_any n d a p f _).mono ?_
 rintro e w1 ⟨rfl, hq⟩
 rw [hp]
 have k1 := Blk.grows (Blk.new _ _ _) hq
 have hB := below_grows ((Below.refl w.heap.size w).alloc (Nat.le_refl _) _) (by simp) hq
 have x1 := k1.cell
 clear hq
 go_wp2_with fail
 refine (rsrest_any A c _).mono ?_
 rintro e w2 ⟨rfl, hq⟩
 replace hB := below_grows hB (Nat.le_refl _) hq
 clear hq
 go_wp2_with fail
 refine (svalid_any A c _ hb (h.grows hB)).mono ?_
 rintro e w3 ⟨rfl, hq⟩
 replace hB := below_grows hB (Nat.le_refl _) hq
 clear hq
 go_wp2
 go_ret
 exact ⟨rfl, hB⟩
set_option maxRecDepth 100000 in
set_option maxHeartbeats 8000000 in
theorem rswait_any (A : Option Addr) (c : Nat) {ch fr : Nat} {n d a p f : Int} {l : List Int} (w : World) (hp : okPh n d a p f = true) (hb : BlkOk ch fr l) (h : Sams w A l) : Calls Tryz.prog 54 #[.agg #[.int .i64 (ch : Int), .int .i64 n, .int .i64 d, .int .i64 a, .int .i64 p, .int .i64 f, .slice A l.length c]] w fun e w' => e = .returned (.int .i64 fr) ∧ Grows w w' := by
 have hv := fun w' hg => rsvalid_any A c w' hp hb (h.grows (w' := w') hg)
 obtain ⟨t1, t2⟩ := hb.div
 have hlen := hb.len
 have hb1 := hb.c1
 have hb2 := hb.c2
 have hb3 := hb.f
 have hl8 := hb.le
 clear hlen hb t2
 have t3 : ((ch : Int) == 0) = false := by simp; omega
 have t4 : ¬ (ch : Int) = 0 := by omega
 have t5 : ¬ (ch : Int) = -1 := by omega
 have wf : IntKind.i64.wrap (fr : Int) = (fr : Int) := IntWalk.i64_in _ (by omega)
 have hB := (Below.refl w.heap.size w).alloc (Nat.le_refl _) (Obj.cells #[.int .i64 (ch : Int), .int .i64 n, .int .i64 d, .int .i64 a, .int .i64 p, .int .i64 f, .slice A l.length c] 47)
 go_enter Tryz.func54, Tryz.ntmps54
 go_wp2_with fail
 refine (hv _ hB).mono ?_
 rintro e w1 ⟨rfl, hq⟩
 have k1 := Blk.grows (Blk.new _ _ _) hq
 replace hB := below_grows hB (by simp) hq
 have x1 := k1.cell
 clear hq
 go_wp2
 go_ret
 exact ⟨rfl, hB⟩
set_option maxRecDepth 100000 in
set_option maxHeartbeats 8000000 in
theorem rscheck_any (A : Option Addr) (c : Nat) {ch fr k : Nat} {n d a p f : Int} {l : List Int} (w : World) (hp : okPh n d a p f = true) (hb : BlkOk ch fr l) (h : Sams w A l) (hk : k ≤ 65536) : Calls Tryz.prog 272 #[.agg #[.int .i64 (ch : Int), .int .i64 n, .int .i64 d, .int .i64 a, .int .i64 p, .int .i64 f, .slice A l.length c], .int .i64 k] w fun e w' => e = .returned (.int .i64 0) ∧ Grows w w' := by
 have hB := (Below.refl w.heap.size w).alloc (Nat.le_refl _) (Obj.cells #[.int .i64 (ch : Int), .int .i64 n, .int .i64 d, .int .i64 a, .int .i64 p, .int .i64 f, .slice A l.length c] 47)
 have d1 : decide ((k : Int) < 0) = false := by simp only [decide_eq_false_iff_not]; omega
 have d2 : decide (65536 < (k : Int)) = false := by simp only [decide_eq_false_iff_not]; omega
 go_enter Tryz.func272, Tryz.ntmps272
 go_wp2_with fail
 refine (rsvalid_any A c _ hp hb (h.grows hB)).mono ?_
 rintro e w1 ⟨rfl, hq⟩
 replace hB := below_grows hB (by simp) hq
 clear hq
 go_wp2
 go_ret
 exact ⟨rfl, hB⟩
end Go.Proofs.YtbfdaojffffaaaaGreat

namespace Go.Proofs.YtbfdaojffffaaaaGreat
open Go.RowKit
theorem ph_new {n d : Int} (h : okPh n d 0 0 0 = true) : newF n d = ⟨n, d, 0, 0, 0, 0⟩ := by unfold newF; rw [h]; rfl
set_option maxRecDepth 100000 in
set_option maxHeartbeats 8000000 in
theorem rsnew_any {ch : Nat} {n d : Int} (w : World) (hp : okPh n d 0 0 0 = true) (h1 : 1 ≤ ch) (h2 : ch ≤ 8) : Calls Tryz.prog 85 #[.int .i64 ch, .agg #[.int .i64 n, .int .i64 d]] w fun e w' => e = .returned (.tuple #[.agg #[.int .i64 (ch : Int), .int .i64 n, .int .i64 d, .int .i64 0, .int .i64 0, .int .i64 0, .slice none 0 0], .int .i64 0]) ∧ Grows w w' := by
 have hn := fun w => new_any n d w
 rw [ph_new hp] at hn
 go_enter Tryz.func85, Tryz.ntmps85
 go_wp2_with fail
 refine (hn _).mono ?_
 rintro e w1 ⟨rfl, hq⟩
 have k4 := Blk.grows (blk_new_at (n := w.heap.size + 1) (by simp)) hq
 have hB := below_grows (((Below.refl w.heap.size w).alloc (Nat.le_refl _) _).alloc (by simp) _) (by simp) hq
 clear hq hn
 go_upto_region 2 with fail
 have k6 := Blk.new w1 44 #[.int .i64 n, .int .i64 d, .int .i64 0, .int .i64 0, .int .i64 0]
 have hq := (Below.refl w1.heap.size w1).alloc (Nat.le_refl _) (Obj.cells #[.int .i64 n, .int .i64 d, .int .i64 0, .int .i64 0, .int .i64 0] 44)
 replace k4 := k4.grows hq
 replace hB := below_grows hB (Nat.le_refl _) hq
 clear hq
 generalize w1.heap.size = q6 at *
 generalize World.alloc w1 _ = w2 at *
 have x6 := k6.cell
 go_upto_region 3 with fail
 have k8 := Blk.new w2 47 #[.int .i64 (ch : Int), .int .i64 n, .int .i64 d, .int .i64 0, .int .i64 0, .int .i64 0, .slice none 0 0]
 have hq := (Below.refl w2.heap.size w2).alloc (Nat.le_refl _) (Obj.cells #[.int .i64 (ch : Int), .int .i64 n, .int .i64 d, .int .i64 0, .int .i64 0, .int .i64 0, .slice none 0 0] 47)
 replace k4 := k4.grows hq
 replace hB := below_grows hB (Nat.le_refl _) hq
 clear hq x6 k6
 generalize w2.heap.size = q8 at *
 generalize World.alloc w2 _ = w3 at *
 have x8 := k8.cell
 go_wp2_with fail
 refine (rsvalid_any none 0 _ hp (BlkOk.nil h1 h2) (sams_nil _)).mono ?_
 rintro e w4 ⟨rfl, hq⟩
 replace k4 := k4.grows hq
 replace k8 := k8.grows hq
 replace hB := below_grows hB (Nat.le_refl _) hq
 clear hq x8
 have x8 := k8.cell
 have x4 := k4.cell
 have f4 := k4.frozen
 go_wp2
 refine bodyPost_ret (v := .tuple #[.agg #[.int .i64 (ch : Int), .int .i64 n, .int .i64 d, .int .i64 0, .int .i64 0, .int .i64 0, .slice none 0 0], .int .i64 0]) (by simp [results, Tryz.results85, go_sem, x4]) rfl ⟨rfl, ?_⟩
 exact (((((((hB.setCell (p := ⟨w.heap.size + 1, 0, none⟩) (by simp <;> omega) (.int .i64 (ch : Int))).setCell (p := ⟨w.heap.size + 1, 1, none⟩) (by simp <;> omega) (.int .i64 n)).setCell (p := ⟨w.heap.size + 1, 2, none⟩) (by simp <;> omega) (.int .i64 d)).setCell (p := ⟨w.heap.size + 1, 3, none⟩) (by simp <;> omega) (.int .i64 0)).setCell (p := ⟨w.heap.size + 1, 4, none⟩) (by simp <;> omega) (.int .i64 0)).setCell (p := ⟨w.heap.size + 1, 5, none⟩) (by simp <;> omega) (.int .i64 0)).setCell (p := ⟨w.heap.size + 1, 6, none⟩) (by simp <;> omega) (.slice none 0 0))
set_option maxRecDepth 100000 in
set_option maxHeartbeats 8000000 in
theorem rsfeed_any (A B : Option Addr) (c e : Nat) {ch fr fr' : Nat} {n d a p f : Int} {l m : List Int} (w : World) (hp : okPh n d a p f = true) (hb : BlkOk ch fr l) (hb' : BlkOk ch fr' m) (hf : fr + fr' ≤ 65536) (h : Sams w A l) (h' : Sams w B m) :
 Calls Tryz.prog 178 #[.agg #[.int .i64 (ch : Int), .int .i64 n, .int .i64 d, .int .i64 a, .int .i64 p, .int .i64 f, .slice A l.length c], .agg #[.int .i64 (ch : Int), .slice B m.length e]] w fun e w' => (∃ A' c', e = .returned (.tuple #[.agg #[.int .i64 (ch : Int), .int .i64 n, .int .i64 d, .int .i64 a, .int .i64 p, .int .i64 f, .slice A' (l ++ m).length c'], .int .i64 0]) ∧ OwnS w' w.heap.size (.slice A' (l ++ m).length c') (l ++ m) ∧ (l ++ m).length ≤ c') ∧ Grows w w' := by
 have hab := hb.app hb' hf
 have hlm := hab.le
 obtain ⟨t1, -⟩ := hab.div
 have hl8 := hb.le
 have hm8 := hb'.le
 have hb1 := hb.c1
 have hb2 := hb.c2
 have t3 : ((ch : Int) == 0) = false := by simp; omega
 have t4 : ¬ (ch : Int) = 0 := by omega
 have t5 : ¬ (ch : Int) = -1 := by omega
 have wf : IntKind.i64.wrap ((fr + fr' : Nat) : Int) = ((fr + fr' : Nat) : Int) := IntWalk.i64_in _ (by omega)
 have ws : IntKind.i64.wrap ((l.length : Int) + (m.length : Int)) = (((l ++ m).length : Nat) : Int) := by rw [List.length_append, Int.natCast_add]; exact IntWalk.i64_in _ (by omega)
 have hc := fun C cc w hC ha hb => concat_any C A B cc c e l m w hC ha hb (by omega) (by omega)
 have hr : ∀ {w base v}, OwnS w base v (l ++ m) → ∃ A' c', v = .slice A' (l ++ m).length c' ∧ (l ++ m).length ≤ c' := fun ho => by obtain ⟨A', c', e, hc, _⟩ := ho.read; exact ⟨A', c', e, hc⟩
 obtain ⟨q, hq0⟩ : ∃ q, l ++ m = q := ⟨_, rfl⟩
 obtain ⟨g, hg0⟩ : ∃ g, fr + fr' = g := ⟨_, rfl⟩
 rw [hg0] at t1 wf hf
 rw [hq0] at t1 ws hlm hr ⊢
 simp only [hq0] at hc
 clear hq0 hg0 hab
 have d1 : decide (65536 < (g : Int)) = false := by simp only [decide_eq_false_iff_not]; omega
 go_enter Tryz.func178, Tryz.ntmps178
 have hB := (((Below.refl w.heap.size w).alloc (Nat.le_refl _) (Obj.cells #[.int .i64 (ch : Int), .int .i64 n, .int .i64 d, .int .i64 a, .int .i64 p, .int .i64 f, .slice A l.length c] 47)).alloc (by simp) (Obj.cells #[.int .i64 (ch : Int), .slice B m.length e] 60)).alloc (by simp <;> omega) (Obj.cells #[.int .i64 0, .int .i64 0, .int .i64 0, .int .i64 0, .int .i64 0, .int .i64 0, .slice none 0 0] 47)
 go_wp2_with fail
 refine (rsvalid_any A c _ hp hb (h.grows hB)).mono ?_
 rintro e1 w1 ⟨rfl, hq⟩
 have k2 := Blk.grows (Blk.alloc (Blk.alloc (Blk.new _ _ _) _) _) hq
 have k3 := Blk.grows (Blk.alloc (blk_new_at (n := w.heap.size + 1) (by simp)) _) hq
 have k4 := Blk.grows (blk_new_at (n := w.heap.size + 2) (by simp)) hq
 replace hB := below_grows hB (by simp <;> omega) hq
 have x2 := k2.cell
 have x3 := k3.cell
 clear hq
 go_wp2_with fail
 refine (svalid_any B e _ hb' (h'.grows hB)).mono ?_
 rintro e1 w2 ⟨rfl, hq⟩
 replace k2 := k2.grows hq
 replace k3 := k3.grows hq
 replace k4 := k4.grows hq
 replace hB := below_grows hB (Nat.le_refl _) hq
 replace x2 := k2.cell
 replace x3 := k3.cell
 clear hq
 go_upto_region 7 with fail
 clear t1 t3 t4 t5 wf ws d1
 have hA := h.grows hB
 have hBB := h'.grows hB
 have hs2 := k4.lt
 have hq := (Below.refl w2.heap.size w2).alloc (Nat.le_refl _) (Obj.cells #[.slice A l.length c, .slice B m.length e] 45)
 have hC : Reads (w2.alloc (Obj.cells #[.slice A l.length c, .slice B m.length e] 45)) (w2.alloc (Obj.cells #[.slice A l.length c, .slice B m.length e] 45)).heap.size 1 (some ⟨w2.heap.size, 0, none⟩) 2 [.slice A l.length c, .slice B m.length e] :=
  Reads.of_own (c := 2) (World.ownsRow_lit w2 #[.slice A l.length c, .slice B m.length e] 2 (Nat.le_refl _) (by simp [maxLen]) rfl)
 go_wp2_with fail
 refine (hc _ _ _ hC (hA.grows hq) (hBB.grows hq)).mono ?_
 rintro e1 w3 ⟨⟨v, rfl, ho⟩, hq3⟩
 replace hq := Grows.trans' hq hq3
 obtain ⟨A', c', rfl, hc'⟩ := hr ho
 replace ho := ho.mono (base' := w2.heap.size) (by simp)
 replace k2 := k2.grows hq
 replace k4 := k4.grows hq
 replace hB := below_grows hB (Nat.le_refl _) hq
 clear hq hq3 hC hA hBB x2 x3 hr hc k3
 have x2 := k2.cell
 have f2 := k2.frozen
 go_upto_region 8 with fail
 replace k4 := k4.far (p := ⟨w.heap.size, 6, none⟩) (by simp) (.slice A' q.length c')
 replace k2 := k2.set_ 6 (.slice A' q.length c')
 replace ho := ho.far (p := ⟨w.heap.size, 6, none⟩) (by simp; omega) (.slice A' q.length c')
 replace hB := hB.setCell (p := ⟨w.heap.size, 6, none⟩) (by simp) (.slice A' q.length c')
 generalize World.setCell w3 _ _ = w4 at *
 clear x2 f2
 have x2 := k2.cell
 have x4 := k4.cell
 have f4 := k4.frozen
 go_wp2
 refine bodyPost_ret (v := .tuple #[.agg #[.int .i64 (ch : Int), .int .i64 n, .int .i64 d, .int .i64 a, .int .i64 p, .int .i64 f, .slice A' q.length c'], .int .i64 0]) (by simp [results, Tryz.results178, go_sem, x4]) rfl ⟨⟨A', c', rfl, ?_, hc'⟩, ?_⟩
 ·have ho2 := ho
  replace ho2 := ho2.far (p := ⟨w.heap.size + 2, 0, none⟩) (by simp; omega) (.int .i64 (ch : Int))
  replace ho2 := ho2.far (p := ⟨w.heap.size + 2, 1, none⟩) (by simp; omega) (.int .i64 n)
  replace ho2 := ho2.far (p := ⟨w.heap.size + 2, 2, none⟩) (by simp; omega) (.int .i64 d)
  replace ho2 := ho2.far (p := ⟨w.heap.size + 2, 3, none⟩) (by simp; omega) (.int .i64 a)
  replace ho2 := ho2.far (p := ⟨w.heap.size + 2, 4, none⟩) (by simp; omega) (.int .i64 p)
  replace ho2 := ho2.far (p := ⟨w.heap.size + 2, 5, none⟩) (by simp; omega) (.int .i64 f)
  replace ho2 := ho2.far (p := ⟨w.heap.size + 2, 6, none⟩) (by simp; omega) (.slice A' q.length c')
  exact ho2.mono (by omega)
 ·exact (((((((hB.setCell (p := ⟨w.heap.size + 2, 0, none⟩) (by simp <;> omega) (.int .i64 (ch : Int))).setCell (p := ⟨w.heap.size + 2, 1, none⟩) (by simp <;> omega) (.int .i64 n)).setCell (p := ⟨w.heap.size + 2, 2, none⟩) (by simp <;> omega) (.int .i64 d)).setCell (p := ⟨w.heap.size + 2, 3, none⟩) (by simp <;> omega) (.int .i64 a)).setCell (p := ⟨w.heap.size + 2, 4, none⟩) (by simp <;> omega) (.int .i64 p)).setCell (p := ⟨w.heap.size + 2, 5, none⟩) (by simp <;> omega) (.int .i64 f)).setCell (p := ⟨w.heap.size + 2, 6, none⟩) (by simp <;> omega) (.slice A' q.length c'))
end Go.Proofs.YtbfdaojffffaaaaGreat

namespace Go.Proofs.YtbfdaojffffaaaaGreat
open Go.RowKit
theorem floor_tdiv {s P : Int} (hP : 0 < P) : (Int.tmod s P < 0 → s / P = Int.tdiv s P - 1) ∧ (0 ≤ Int.tmod s P → s / P = Int.tdiv s P) := by
 have e := Int.mul_tdiv_add_tmod s P
 have b1 := Int.tmod_lt_of_pos s hP
 have b2 : -P < Int.tmod s P := by
  have := Int.lt_tmod_of_pos s hP
  omega
 refine ⟨fun h => ?_, fun h => ?_⟩
 ·have e2 : s = (Int.tmod s P + P) + P * (Int.tdiv s P - 1) := by rw [Int.mul_sub]; omega
  rw [e2, Int.add_mul_ediv_left _ _ (by omega), Int.ediv_eq_zero_of_lt (by omega) (by omega), ← e2]
  omega
 ·have e2 : s = Int.tmod s P + P * Int.tdiv s P := by omega
  conv => lhs; rw [e2]
  rw [Int.add_mul_ediv_left _ _ (by omega), Int.ediv_eq_zero_of_lt (by omega) (by omega)]
  omega
/-- What is between two samples. -/
def mixF (x y f P : Int) : Int := (x * (P - f) + y * f + P / 2) / P
theorem mix_bd {x y f P : Int} (hx : -8388608 ≤ x ∧ x ≤ 8388607) (hy : -8388608 ≤ y ∧ y ≤ 8388607) (hP : 2 ≤ P) (h0 : 0 ≤ f) (h1 : f < P) : -8388608 ≤ mixF x y f P ∧ mixF x y f P ≤ 8388607 := by
 have a1 : -8388608 * (P - f) ≤ x * (P - f) := Int.mul_le_mul_of_nonneg_right hx.1 (by omega)
 have a2 : x * (P - f) ≤ 8388607 * (P - f) := Int.mul_le_mul_of_nonneg_right hx.2 (by omega)
 have a3 : -8388608 * f ≤ y * f := Int.mul_le_mul_of_nonneg_right hy.1 h0
 have a4 : y * f ≤ 8388607 * f := Int.mul_le_mul_of_nonneg_right hy.2 h0
 have hh : 0 ≤ P / 2 := Int.ediv_nonneg (by omega) (by omega)
 unfold mixF
 refine ⟨(Int.le_ediv_iff_mul_le (by omega)).2 (by omega), ?_⟩
 have : (x * (P - f) + y * f + P / 2) / P < 8388608 := Int.ediv_lt_of_lt_mul (by omega) (by omega)
 omega
theorem mix_id {x y P : Int} (hP : 2 ≤ P) : mixF x y 0 P = x := by
 unfold mixF
 have e : x * (P - 0) + y * 0 + P / 2 = P / 2 + P * x := by rw [Int.sub_zero, Int.mul_zero, Int.mul_comm]; omega
 rw [e, Int.add_mul_ediv_left _ _ (by omega), Int.ediv_eq_zero_of_lt (by omega) (by omega)]
 omega
/-- Frame i of a list of samples with so many channels. -/
def frmF (ch : Nat) (l : List Int) (i : Nat) : List Int := (l.drop (i * ch)).take ch
theorem frm_len {ch fr i : Nat} {l : List Int} (h : l.length = fr * ch) (hi : i < fr) : (frmF ch l i).length = ch := by
 unfold frmF
 rw [List.length_take, List.length_drop, h, ← Nat.sub_mul]
 have : 1 * ch ≤ (fr - i) * ch := Nat.mul_le_mul_right _ (by omega)
 omega
theorem frm_mem {ch i : Nat} {l : List Int} {x : Int} (h : x ∈ frmF ch l i) : x ∈ l := List.mem_of_mem_drop (List.mem_of_mem_take h)
theorem sams_cut {w : World} {A : Option Addr} {l : List Int} {k m : Nat} (h : Sams w A l) (h1 : 1 ≤ m) (hk : k + m ≤ l.length) : Sams w (A.map (·.add k)) ((l.drop k).take m) := by
 have e : ((l.drop k).take m).length = m := by rw [List.length_take, List.length_drop]; omega
 unfold Sams
 rw [e]
 obtain ⟨ad, rfl, hb, hc⟩ := h.2 (by omega)
 refine ⟨by rw [List.length_map, e, Nat.mul_one], fun _ => ⟨_, rfl, by rw [block_of_add]; exact hb, fun j u hu => ?_⟩⟩
 rw [add_of_add]
 refine hc _ u ?_
 rw [List.map_take, List.map_drop, List.getElem?_take] at hu
 split at hu
 ·rw [List.getElem?_drop] at hu
  exact hu
 ·cases hu
set_option maxRecDepth 100000 in
set_option maxHeartbeats 8000000 in
theorem rsframe_any (ad : Addr) (c : Nat) {ch fr i : Nat} {n d a p f : Int} {l : List Int} (w : World) (h1 : 1 ≤ ch) (h2 : ch ≤ 8) (hlen : l.length = fr * ch) (hf : fr ≤ 65536) (hi : i < fr) (hc : l.length ≤ c) :
 Calls Tryz.prog 306 #[.agg #[.int .i64 (ch : Int), .int .i64 n, .int .i64 d, .int .i64 a, .int .i64 p, .int .i64 f, .slice (some ad) l.length c], .int .i64 (i : Int)] w fun e w' => e = .returned (.slice (some (ad.add (i * ch))) ch ch) ∧ Grows w w' := by
 have m1 : (i + 1) * ch ≤ fr * ch := Nat.mul_le_mul_right _ (by omega)
 have m2 : fr * ch ≤ 65536 * 8 := Nat.mul_le_mul hf h2
 rw [Nat.add_mul, Nat.one_mul] at m1
 have wi : IntKind.i64.wrap (i : Int) = (i : Int) := IntWalk.i64_in _ (by omega)
 have wm : IntKind.i64.wrap ((i : Int) * (ch : Int)) = ((i * ch : Nat) : Int) := by rw [← Int.natCast_mul]; exact IntWalk.i64_in _ (by omega)
 obtain ⟨t, ht⟩ : ∃ t, i * ch = t := ⟨_, rfl⟩
 rw [ht] at wm m1 ⊢
 have ws : IntKind.i64.wrap ((l.length : Int) - (ch : Int)) = ((l.length : Int) - (ch : Int)) := IntWalk.i64_in _ (by omega)
 have hmin : min (t : Int) ((l.length : Int) - (ch : Int)) = (t : Int) := by omega
 have wa : IntKind.i64.wrap ((t : Int) + (ch : Int)) = (((t + ch : Nat)) : Int) := by rw [Int.natCast_add]; exact IntWalk.i64_in _ (by omega)
 clear hlen hi hf ht
 generalize l.length = L at *
 go_enter Tryz.func306, Tryz.ntmps306
 go_wp2_with fail
 go_ret
 refine ⟨?_, (Below.refl _ _).alloc (Nat.le_refl _) _⟩
 show Ending.returned (.slice (some (ad.add t)) (t + ch - t) (t + ch - t)) = _
 rw [Nat.add_sub_cancel_left]
end Go.Proofs.YtbfdaojffffaaaaGreat

namespace Go.Proofs.YtbfdaojffffaaaaGreat
open Go.RowKit
theorem adv_is {n d a p f k : Int} (h : okPh n d a p f = true) (h1 : 0 ≤ k) (h2 : k ≤ 65536) (h3 : p + aheadF n a f k / (d * 65536) ≤ 1125899906842624) :
 advF n d a p f k = ⟨n, d, a, p + aheadF n a f k / (d * 65536), aheadF n a f k % (d * 65536), 0⟩ := by
 have he : errF n d a p f k = 0 := by unfold errF; rw [if_neg (by simp [h]), if_neg (by omega)]
 have ha : atF n d a p f k = ⟨p + aheadF n a f k / (d * 65536), aheadF n a f k % (d * 65536), 0⟩ := by unfold atF; rw [if_pos he]
 have hE : advE n d a p f k = 0 := by
  unfold advE
  rw [ha, he]
  exact if_neg (fun hh => Int.not_lt.2 h3 hh.2)
 unfold advF
 rw [if_pos hE, ha]
theorem at_is {n d a p f k : Int} (h : okPh n d a p f = true) (h1 : 0 ≤ k) (h2 : k ≤ 65536) :
 atF n d a p f k = ⟨p + aheadF n a f k / (d * 65536), aheadF n a f k % (d * 65536), 0⟩ := by
 have he : errF n d a p f k = 0 := by unfold errF; rw [if_neg (by simp [h]), if_neg (by omega)]
 unfold atF
 rw [if_pos he]
/-- How many input frames lie ahead of output frame k. -/
def posF (n d a f : Int) (k : Nat) : Nat := (aheadF n a f k / (d * 65536)).toNat
def fracF (n d a f : Int) (k : Nat) : Int := aheadF n a f k % (d * 65536)
/-- Output frame k. -/
def outF (ch : Nat) (l : List Int) (n d a f : Int) (k : Nat) : List Int := (List.range ch).map fun c => mixF ((frmF ch l (posF n d a f k)).getD c 0) ((frmF ch l (posF n d a f k + 1)).getD c 0) (fracF n d a f k) (d * 65536)
def outL (ch : Nat) (l : List Int) (n d a f : Int) : Nat → List Int
 | 0 => []
 | k + 1 => outL ch l n d a f k ++ outF ch l n d a f k
theorem outF_len (ch : Nat) (l : List Int) (n d a f : Int) (k : Nat) : (outF ch l n d a f k).length = ch := by simp [outF]
theorem outL_len (ch : Nat) (l : List Int) (n d a f : Int) (k : Nat) : (outL ch l n d a f k).length = k * ch := by
 induction k with
 | zero => simp [outL]
 | succ k ih => rw [outL, List.length_append, ih, outF_len, Nat.add_mul, Nat.one_mul]
theorem ahead_pos {n d a p f : Int} {k : Nat} (h : okPh n d a p f = true) (hk : k ≤ 65536) : aheadF n a f k / (d * 65536) = (posF n d a f k : Int) ∧ 0 ≤ fracF n d a f k ∧ fracF n d a f k < d * 65536 ∧ aheadF n a f k = (posF n d a f k : Int) * (d * 65536) + fracF n d a f k ∧ aheadF n a f k / (d * 65536) ≤ 3504797122560000 := by
 obtain ⟨b1, b2, b3, b4, b5, b6, b7, b8, b9, b10⟩ := okPh_bd h
 obtain ⟨-, -, -, -, c5, c6, -, -, -⟩ := ahead_bd h (by omega : 0 ≤ (k : Int)) (by omega)
 have h0 := Int.ediv_nonneg c5 (show 0 ≤ d * 65536 by omega)
 have e1 : aheadF n a f k / (d * 65536) = (posF n d a f k : Int) := by unfold posF; omega
 have e2 := Int.emod_nonneg (aheadF n a f k) (show d * 65536 ≠ 0 by omega)
 have e3 := Int.emod_lt_of_pos (aheadF n a f k) (show 0 < d * 65536 by omega)
 have e4 := Int.mul_ediv_add_emod (aheadF n a f k) (d * 65536)
 have e5 := Int.ediv_le_self (a := aheadF n a f k) (d * 65536) c5
 rw [Int.mul_comm, e1] at e4
 exact ⟨e1, e2, e3, e4.symm, by omega⟩
/-- What is needed for m output frames covers the two frames that each of them is made of. -/
theorem need_covers {n d a p f : Int} {m fr : Nat} (h : okPh n d a p f = true) (hm : m ≤ 65536) (hn : needF n d a f m ≤ fr) : (∀ k, k < m → posF n d a f k + 1 < fr) ∧ (0 < m → posF n d a f m ≤ fr) := by
 by_cases h0 : m = 0
 ·subst h0
  exact ⟨fun k hk => absurd hk (by omega), fun h => absurd h (by omega)⟩
 ·unfold needF at hn
  rw [if_neg (by omega)] at hn
  have hd : 0 < d * 65536 := by have := okPh_bd h; omega
  refine ⟨fun k hk => ?_, fun _ => ?_⟩
  ·have h1 := Int.ediv_le_ediv hd (ahead_mono h (show (k : Int) ≤ (m : Int) - 1 by omega))
   have e := (ahead_pos h (k := k) (by omega)).1
   omega
  ·have e := (ahead_pos h (k := m) hm).1
   omega
theorem OwnS.farT {w : World} {base g : Nat} {t : TypeId} {cs : Array Value} {v : Value} {l : List Int} (h : OwnS w base v l) (hg : Blk w g t cs) (hne : 21 ≠ t) (i : Nat) (u : Value) : OwnS (w.setCell ⟨g, i, none⟩ u) base v l := by
 refine World.ownsRow.kept (row := some g) h ⟨rfl, rfl, rfl, by simp, fun k _ hk => heap_setCell_other w ⟨g, i, none⟩ k u (fun e => hk (by simp [e]))⟩ (.inr (own_blk_ne h hg hne))
theorem OwnS.blk {w w' : World} {base g : Nat} {t : TypeId} {cs : Array Value} {v : Value} {l : List Int} (h : OwnS w base v l) (hg : Blk w g t cs) (hne : 21 ≠ t) (hgr : w.grownBy w' v.ownBlock) : Blk w' g t cs := hg.grown hgr (fun e => own_blk_ne h hg hne e.symm)
theorem made_none (n : Nat) (h1 : n ≤ 4000000) : ∃ cur : Array Value, cur.size = n * 1 ∧ ∀ w : World, (Instr.makeSlice 45 (.int .i64 0) (.int .i64 (n : Int))).run Tryz.prog w = .ok (.slice (some ⟨w.heap.size, 0, none⟩) 0 n) (w.alloc (.cells cur 21)) := by
 obtain ⟨i0, hi0, hi1, hi2, hi3, hi4⟩ := s32info
 refine ⟨madeCells (Value.int .i32 0).cells (n * i0.size), by rw [size_madeCells, hi1], fun w => ?_⟩
 have hr := run_make (P := Tryz.prog) w 45 21 i0 _ Tryz.underlying45 hi0 hi3 .i64 .i64 0 n (Int.le_refl _) (by omega) (by rw [hi2]; omega) (by omega)
 simp only [Int.toNat_zero, Int.toNat_natCast] at hr
 exact hr
end Go.Proofs.YtbfdaojffffaaaaGreat

namespace Go.Proofs.YtbfdaojffffaaaaGreat
open Go.RowKit
theorem out_next {ch c k : Nat} {l : List Int} {n d a f x y : Int} (hc : c < ch) (hx : (frmF ch l (posF n d a f k))[c]? = some x) (hy : (frmF ch l (posF n d a f k + 1))[c]? = some y) :
 (outF ch l n d a f k).take (c + 1) = (outF ch l n d a f k).take c ++ [mixF x y (fracF n d a f k) (d * 65536)] := by
 have e : (outF ch l n d a f k)[c]? = some (mixF x y (fracF n d a f k) (d * 65536)) := by
  unfold outF
  rw [List.getElem?_map, List.getElem?_range hc]
  simp [List.getD_eq_getElem?_getD, hx, hy]
 rw [List.take_add_one, e]
 rfl
theorem pos_zero {n d a p f : Int} (h : okPh n d a p f = true) : posF n d a f 0 = 0 := by
 have ⟨_, _, b3, _, _, _, _, _, b9, b10⟩ := okPh_bd h
 unfold posF aheadF
 rw [show f + ((0 : Nat) : Int) * n * (65536 + a) = f by simp, Int.ediv_eq_zero_of_lt b9 b10]
 rfl
set_option maxRecDepth 100000 in
set_option maxHeartbeats 40000000 in
theorem produce_any (ad : Addr) (c : Nat) {ch fr m : Nat} {n d a p f : Int} {l : List Int} (w : World) (hp : okPh n d a p f = true) (hb : BlkOk ch fr l) (h : Sams w (some ad) l) (hc : l.length ≤ c) (hm : m ≤ 65536) (hn : needF n d a f m ≤ fr) (hpos : p + posF n d a f m ≤ 1125899906842624) :
 Calls Tryz.prog 274 #[.agg #[.int .i64 (ch : Int), .int .i64 n, .int .i64 d, .int .i64 a, .int .i64 p, .int .i64 f, .slice (some ad) l.length c], .int .i64 (m : Int)] w fun e w' => (∃ B b A' c', e = .returned (.tuple #[.agg #[.int .i64 (ch : Int), .slice B (m * ch) b], .agg #[.int .i64 (ch : Int), .int .i64 n, .int .i64 d, .int .i64 a, .int .i64 (p + posF n d a f m), .int .i64 (fracF n d a f m), .slice A' (l.length - posF n d a f m * ch) c'], .int .i64 0]) ∧
  OwnS w' w.heap.size (.slice B (m * ch) b) (outL ch l n d a f m) ∧ m * ch ≤ b ∧ OwnS w' w.heap.size (.slice A' (l.length - posF n d a f m * ch) c') (l.drop (posF n d a f m * ch)) ∧ l.length - posF n d a f m * ch ≤ c') ∧ Grows w w' := by
 obtain ⟨b1, b2, b3, b4, b5, b6, b7, b8, b9, b10⟩ := okPh_bd hp
 obtain ⟨hcov, hcov2⟩ := need_covers hp hm hn
 obtain ⟨em, em1, em2, -, -⟩ := ahead_pos hp hm
 have hposm : posF n d a f m ≤ fr := by
  rcases Nat.eq_zero_or_pos m with h0 | h0
  ·subst h0; rw [pos_zero hp]; omega
  ·exact hcov2 h0
 have hadv := fun w => adv_any n d a p f m w
 rw [adv_is hp (by omega) (by omega) (by rw [em]; exact hpos), em] at hadv
 have HAT : ∀ k : Nat, k < m → Hid (∀ w, Calls Tryz.prog 305 #[.agg #[.int .i64 n, .int .i64 d, .int .i64 a, .int .i64 p, .int .i64 f], .int .i64 k] w fun e w' => e = .returned (.tuple #[.int .i64 (p + posF n d a f k), .int .i64 (fracF n d a f k), .int .i64 0]) ∧ Grows w w') := fun k hk => Lib.hid fun w => by
  have := at_any n d a p f k w
  rw [at_is hp (by omega) (by omega), (ahead_pos hp (k := k) (by omega)).1] at this
  exact this
 have HFB : ∀ k : Nat, k < m → Hid (0 ≤ fracF n d a f k ∧ fracF n d a f k < d * 65536 ∧ posF n d a f k + 1 < fr) := fun k hk => Lib.hid ⟨(ahead_pos hp (k := k) (by omega)).2.1, (ahead_pos hp (k := k) (by omega)).2.2.1, hcov k hk⟩
 have hlen := hb.len
 have hb1 := hb.c1
 have hb2 := hb.c2
 have hb3 := hb.f
 have hl8 := hb.le
 have hmc : m * ch ≤ 65536 * 8 := Nat.mul_le_mul hm hb2
 have hpc : posF n d a f m * ch ≤ fr * ch := Nat.mul_le_mul_right _ hposm
 have hS := Lib.hid hb.s
 have HL := Lib.hid hlen
 obtain ⟨p', hp'⟩ : ∃ p', p + (posF n d a f m : Int) = p' := ⟨_, rfl⟩
 obtain ⟨f', hf'⟩ : ∃ f', fracF n d a f m = f' := ⟨_, rfl⟩
 obtain ⟨t, ht⟩ : ∃ t, posF n d a f m * ch = t := ⟨_, rfl⟩
 have eF : aheadF n a f m % (d * 65536) = f' := hf'
 have wd : IntKind.i64.wrap (p' - p) = (posF n d a f m : Int) := by rw [← hp', show p + (posF n d a f m : Int) - p = (posF n d a f m : Int) by omega]; exact IntWalk.i64_in _ (by omega)
 have wt : IntKind.i64.wrap ((posF n d a f m : Int) * (ch : Int)) = (t : Int) := by rw [← ht, ← Int.natCast_mul]; exact IntWalk.i64_in _ (by omega)
 rw [ht] at hpc ⊢
 rw [hp', eF] at hadv
 rw [hp', hf']
 have htl : t ≤ l.length := by rw [hlen]; exact hpc
 have wq : IntKind.i64.wrap (posF n d a f m : Int) = (posF n d a f m : Int) := IntWalk.i64_in _ (by omega)
 generalize posF n d a f m = qm at *
 have wmc : IntKind.i64.wrap ((m : Int) * (ch : Int)) = ((m * ch : Nat) : Int) := by rw [← Int.natCast_mul]; exact IntWalk.i64_in _ (by omega)
 have HMC := Lib.hid (outL_len ch l n d a f m)
 obtain ⟨mc, hmcE⟩ : ∃ mc, m * ch = mc := ⟨_, rfl⟩
 rw [hmcE] at wmc hmc HMC ⊢
 have wP : IntKind.i64.wrap (d * 65536) = d * 65536 := IntWalk.i64_in _ (by omega)
 obtain ⟨P, hP⟩ : ∃ P, d * 65536 = P := ⟨_, rfl⟩
 have HP := Lib.hid hP
 have hPb : 65536 ≤ P ∧ P ≤ 50331648000 := by omega
 have HMX : ∀ (k : Nat) (cc : Nat) (x y : Int), k < m → cc < ch → (frmF ch l (posF n d a f k))[cc]? = some x → (frmF ch l (posF n d a f k + 1))[cc]? = some y → Hid ((outF ch l n d a f k).take (cc + 1) = (outF ch l n d a f k).take cc ++ [mixF x y (fracF n d a f k) P]) := fun k cc x y _ hcc hx hy => Lib.hid (by rw [← hP]; exact out_next hcc hx hy)
 replace wP : IntKind.i64.wrap (d * 65536) = P := by rw [← hP]; exact wP
 replace HFB : ∀ k : Nat, k < m → Hid (0 ≤ fracF n d a f k ∧ fracF n d a f k < P ∧ posF n d a f k + 1 < fr) := fun k hk => Lib.hid (by rw [← hP]; exact (HFB k hk).out)
 clear hP hcov hcov2 em em1 em2 hf' hp' ht hmcE hn hposm eF hpos hlen hb b4 b5 b6 b9 b10 hpc
 go_enter Tryz.func274, Tryz.ntmps274
 go_wp2_with fail
 refine (hadv _).mono ?_
 rintro e w1 ⟨rfl, hq⟩
 have k2 := Blk.grows (Blk.alloc (Blk.alloc (Blk.new _ _ _) _) _) hq
 have k4 := Blk.grows (Blk.alloc (blk_new_at (n := w.heap.size + 1) (by simp)) _) hq
 have k5 := Blk.grows (blk_new_at (n := w.heap.size + 2) (by simp)) hq
 have hB := below_grows ((((Below.refl w.heap.size w).alloc (Nat.le_refl _) _).alloc (by simp) _).alloc (by simp <;> omega) _) (by simp <;> omega) hq
 clear hq hadv
 go_upto_region 2 with fail
 have z5 := k5.lt
 have k7 := Blk.new w1 44 #[.int .i64 n, .int .i64 d, .int .i64 a, .int .i64 p', .int .i64 f']
 have hq := (Below.refl w1.heap.size w1).alloc (Nat.le_refl _) (Obj.cells #[.int .i64 n, .int .i64 d, .int .i64 a, .int .i64 p', .int .i64 f'] 44)
 replace k2 := k2.grows hq
 replace k4 := k4.grows hq
 replace k5 := k5.grows hq
 replace hB := below_grows hB (Nat.le_refl _) hq
 clear hq
 generalize w1.heap.size = q7 at *
 generalize World.alloc w1 _ = w2 at *
 have x2 := k2.cell
 go_upto_region 5 with fail
 have z2 := k2.lt
 obtain ⟨cur0, hcur, hmk⟩ := made_none mc (by omega)
 go_cut [10] (fun t10 wr => ∃ (g10 : Nat) (v : Value), t10 = .pointer (some ⟨g10, 0, none⟩) ∧ q7 < g10 ∧ Blk wr g10 60 #[.int .i64 (ch : Int), v] ∧ OwnS wr w.heap.size v [] ∧ Blk wr w.heap.size 47 #[.int .i64 (ch : Int), .int .i64 n, .int .i64 d, .int .i64 a, .int .i64 p, .int .i64 f, .slice (some ad) l.length c] ∧ Blk wr q7 44 #[.int .i64 n, .int .i64 d, .int .i64 a, .int .i64 p', .int .i64 f'] ∧ Blk wr (w.heap.size + 1) 60 #[.int .i64 0, .slice none 0 0] ∧ Blk wr (w.heap.size + 2) 47 #[.int .i64 0, .int .i64 0, .int .i64 0, .int .i64 0, .int .i64 0, .int .i64 0, .slice none 0 0] ∧ Grows w wr)
 case first =>
  have z7 := k7.lt
  have hs := hB.size
  have hmx : mc ≤ maxLen := by simp only [maxLen]; omega
  go_region
  all_goals go_wp2
  all_goals go_meet
  ·have hq := (((Below.refl w2.heap.size w2).alloc (Nat.le_refl _) (Obj.cells cur0 21)).alloc (by simp) (Obj.cells #[.int .i64 (ch : Int), .slice (some ⟨w2.heap.size, 0, none⟩) 0 mc] 60)).drew
   have ho : OwnS (w2.alloc (Obj.cells cur0 21)) w.heap.size (.slice (some ⟨w2.heap.size, 0, none⟩) 0 mc) [] := World.ownsRow_made w2 cur0 mc hs hmx hcur
   exact ⟨w2.heap.size + 1, _, rfl, by omega, (blk_new_at (by simp)).drew, (ho.alloc _).drew, k2.grows hq, k7.grows hq, k4.grows hq, k5.grows hq, below_grows hB (Nat.le_refl _) hq⟩
  ·have hq := (((Below.refl w2.heap.size w2).alloc (Nat.le_refl _) (Obj.cells #[.int .i64 (ch : Int), .slice (some ⟨w2.heap.size + 1, 0, none⟩) 0 mc] 60)).alloc (by simp) (Obj.cells cur0 21)).drew
   have ho : OwnS ((w2.alloc (Obj.cells #[.int .i64 (ch : Int), .slice (some ⟨w2.heap.size + 1, 0, none⟩) 0 mc] 60)).alloc (Obj.cells cur0 21)) w.heap.size (.slice (some ⟨w2.heap.size + 1, 0, none⟩) 0 mc) [] := by
    have := World.ownsRow_made (base := w.heap.size) (e := 21) (size := 1) (w2.alloc (Obj.cells #[.int .i64 (ch : Int), .slice (some ⟨w2.heap.size + 1, 0, none⟩) 0 mc] 60)) cur0 mc (by simp; omega) hmx hcur
    simp only [World.size_alloc] at this
    exact this
   exact ⟨w2.heap.size, _, rfl, by omega, ((Blk.new _ _ _).alloc _).drew, ho.drew, k2.grows hq, k7.grows hq, k4.grows hq, k5.grows hq, below_grows hB (Nat.le_refl _) hq⟩
 case rest =>
  clear hB k2 k4 k5 k7 x2 z2 hmk hcur
  obtain ⟨g10, v, rfl, hg10, k10, ho, k2, k7, k4, k5, hB⟩ := hcut
  go_wp2_with fail
  go_loopw [48] (fun i wr => ∃ (k : Nat) (v : Value), k ≤ m ∧ i = .int .i64 k ∧ Blk wr g10 60 #[.int .i64 (ch : Int), v] ∧ OwnS wr w.heap.size v (outL ch l n d a f k) ∧ Blk wr w.heap.size 47 #[.int .i64 (ch : Int), .int .i64 n, .int .i64 d, .int .i64 a, .int .i64 p, .int .i64 f, .slice (some ad) l.length c] ∧ Blk wr q7 44 #[.int .i64 n, .int .i64 d, .int .i64 a, .int .i64 p', .int .i64 f'] ∧ Blk wr (w.heap.size + 1) 60 #[.int .i64 0, .slice none 0 0] ∧ Blk wr (w.heap.size + 2) 47 #[.int .i64 0, .int .i64 0, .int .i64 0, .int .i64 0, .int .i64 0, .int .i64 0, .slice none 0 0] ∧ Grows w wr) (fun i _ => m - (intOf i).toNat)
  case atStart => exact ⟨0, v, by omega, rfl, k10, ho, k2, k7, k4, k5, hB⟩
  case round =>
   clear hB k2 k4 k5 k7 k10 ho v
   obtain ⟨k, v, hk, rfl, k10, ho, k2, k7, k4, k5, hB⟩ := hrel
   have x2 := k2.cell
   by_cases hlt : k < m
   ·have HA := HAT k hlt
    obtain ⟨fb1, fb2, hcov⟩ := (HFB k hlt).out
    have HMXk := HMX k
    have wk : IntKind.i64.wrap ((k : Int) + 1) = ((k + 1 : Nat) : Int) := by rw [IntWalk.i64_in _ (by omega)]; rfl
    have HON : Hid (outL ch l n d a f (k + 1) = outL ch l n d a f k ++ outF ch l n d a f k) := Lib.hid rfl
    have hofl := outF_len ch l n d a f k
    have hoL := outL_len ch l n d a f k
    have hkc : k * ch ≤ 65536 * 8 := Nat.mul_le_mul (by omega) hb2
    have hfa := fun w => rsframe_any (a := a) (p := p) (f := f) (n := n) (d := d) ad c (i := posF n d a f k) w hb1 hb2 HL.out hb3 (by omega) hc
    have hfb := fun w => rsframe_any (a := a) (p := p) (f := f) (n := n) (d := d) ad c (i := posF n d a f k + 1) w hb1 hb2 HL.out hb3 hcov hc
    have l1 := frm_len HL.out (show posF n d a f k < fr by omega)
    have l2 := frm_len HL.out hcov
    have hs1 : ∀ {w' : World}, Grows w w' → Sams w' (some (ad.add (posF n d a f k * ch))) (frmF ch l (posF n d a f k)) := fun hg => sams_cut (h.grows hg) hb1 (by
     have := frm_len HL.out (show posF n d a f k < fr by omega)
     unfold frmF at this
     rw [List.length_take, List.length_drop] at this
     omega)
    have hs2 : ∀ {w' : World}, Grows w w' → Sams w' (some (ad.add ((posF n d a f k + 1) * ch))) (frmF ch l (posF n d a f k + 1)) := fun hg => sams_cut (h.grows hg) hb1 (by
     have := frm_len HL.out hcov
     unfold frmF at this
     rw [List.length_take, List.length_drop] at this
     omega)
    have hm1 : ∀ x ∈ frmF ch l (posF n d a f k), -8388608 ≤ x ∧ x ≤ 8388607 := fun x hx => hS.out x (frm_mem hx)
    have hm2 : ∀ x ∈ frmF ch l (posF n d a f k + 1), -8388608 ≤ x ∧ x ≤ 8388607 := fun x hx => hS.out x (frm_mem hx)
    clear HAT HFB HMX
    generalize frmF ch l (posF n d a f k) = F1 at *
    generalize frmF ch l (posF n d a f k + 1) = F2 at *
    generalize hO2 : outL ch l n d a f (k + 1) = O2 at *
    have HO2 := Lib.hid hO2
    clear hO2
    generalize outL ch l n d a f k = O1 at *
    generalize outF ch l n d a f k = OF at *
    generalize fracF n d a f k = fk at *
    generalize posF n d a f k = pk at *
    have HM1 := Lib.hid hm1
    have HM2 := Lib.hid hm2
    have HLO := Lib.hid hoL
    clear hm1 hm2 hoL
    have wpk : IntKind.i64.wrap (p + (pk : Int) - p) = (pk : Int) := by rw [show p + (pk : Int) - p = (pk : Int) by omega]; exact IntWalk.i64_in _ (by omega)
    have wpk1 : IntKind.i64.wrap ((pk : Int) + 1) = ((pk + 1 : Nat) : Int) := by rw [IntWalk.i64_in _ (by omega)]; rfl
    obtain ⟨pk1, hpk1⟩ : ∃ pk1, pk + 1 = pk1 := ⟨_, rfl⟩
    rw [hpk1] at wpk1 hcov
    simp only [hpk1] at hfb hs2
    clear hpk1
    go_wp2_with fail
    refine (HA.out _).mono ?_
    rintro e w5 ⟨rfl, hq⟩
    replace k2 := k2.grows hq
    replace k4 := k4.grows hq
    replace k5 := k5.grows hq
    replace k7 := k7.grows hq
    replace k10 := k10.grows hq
    replace hB := below_grows hB (Nat.le_refl _) hq
    replace ho := ho.grows hq
    replace x2 := k2.cell
    clear hq HA
    go_upto_region 11 with fail
    clear x2
    refine wp_region_mix (fun w' => Grows w5 w') [] 9 137 (by kernel_rfl) (by kernel_rfl) rfl ?_ float_none ?_ ?_
    ·exact fun w1 w2 h0 hg => below_grows h0 (Nat.le_refl _) hg
    ·exact Grows.drew' _
    ·skip
     simp only [List.take_succ_cons, List.take_zero, List.drop_succ_cons, List.drop_zero]
     iterate 9
      refine calm_plain rfl rfl (v := ?_) (a' := ?_) (fun w1 hw1 => ?_) ?_ ?_
      rotate_left 2
      ·have h0 := hw1
       have x2 := (k2.grows h0).cell
       go_simp
       first | exact calm_val | (refine calm_call ?_; with_reducible exact hfa _) | (refine calm_call ?_; with_reducible exact hfb _)
      ·simp only [Act.put, List.setIfInBounds_toArray, List.set_cons_succ, List.set_cons_zero]
       rfl
     refine calm_done (end_none ?_)
     rintro W6 hg
     replace k2 := k2.grows hg
     replace k4 := k4.grows hg
     replace k5 := k5.grows hg
     replace k7 := k7.grows hg
     replace k10 := k10.grows hg
     replace hB := below_grows hB (Nat.le_refl _) hg
     replace ho := ho.grows hg
     clear hg hfa hfb wpk wpk1 hcov
     have hz6 := k5.lt
     go_wp2_with fail
     go_loopw [73] (fun i wr => ∃ (cc : Nat) (v : Value), cc ≤ ch ∧ i = .int .i64 cc ∧ Blk wr g10 60 #[.int .i64 (ch : Int), v] ∧ OwnS wr w.heap.size v (O1 ++ OF.take cc) ∧ Blk wr w.heap.size 47 #[.int .i64 (ch : Int), .int .i64 n, .int .i64 d, .int .i64 a, .int .i64 p, .int .i64 f, .slice (some ad) l.length c] ∧ Blk wr q7 44 #[.int .i64 n, .int .i64 d, .int .i64 a, .int .i64 p', .int .i64 f'] ∧ Blk wr (w.heap.size + 1) 60 #[.int .i64 0, .slice none 0 0] ∧ Blk wr (w.heap.size + 2) 47 #[.int .i64 0, .int .i64 0, .int .i64 0, .int .i64 0, .int .i64 0, .int .i64 0, .slice none 0 0] ∧ Grows w wr) (fun i _ => ch - (intOf i).toNat)
     case atStart => exact ⟨0, v, by omega, rfl, k10, by rw [List.take_zero, List.append_nil]; exact ho, k2, k7, k4, k5, hB⟩
     case round =>
      clear hB k2 k4 k5 k7 k10 ho v hz6
      obtain ⟨cc, v, hcc, rfl, k10, ho, k2, k7, k4, k5, hB⟩ := hrel
      by_cases hcl : cc < ch
      ·obtain ⟨ad1, x, e1, had1, hx, q1⟩ := (hs1 hB).at_ (show cc < F1.length by omega)
       obtain ⟨ad2, y, e2, had2, hy, q2⟩ := (hs2 hB).at_ (show cc < F2.length by omega)
       injection e1 with e1
       injection e2 with e2
       subst e1 e2
       have HN := HMXk cc x y hlt hcl hx hy
       obtain ⟨x1, x2⟩ := HM1.out x (List.mem_of_getElem? hx)
       obtain ⟨y1, y2⟩ := HM2.out y (List.mem_of_getElem? hy)
       have hmb := mix_bd (x := x) (y := y) (f := fk) (P := P) ⟨x1, x2⟩ ⟨y1, y2⟩ (by omega) fb1 fb2
       have hXb : -8388608 * (P - fk) ≤ x * (P - fk) ∧ x * (P - fk) ≤ 8388607 * (P - fk) := ⟨Int.mul_le_mul_of_nonneg_right x1 (by omega), Int.mul_le_mul_of_nonneg_right x2 (by omega)⟩
       have hYb : -8388608 * fk ≤ y * fk ∧ y * fk ≤ 8388607 * fk := ⟨Int.mul_le_mul_of_nonneg_right y1 fb1, Int.mul_le_mul_of_nonneg_right y2 fb1⟩
       have hmx : mixF x y fk P = (x * (P - fk) + y * fk + P / 2) / P := rfl
       obtain ⟨z, hz⟩ : ∃ z, mixF x y fk P = z := ⟨_, rfl⟩
       rw [hz] at hmb hmx HN
       clear hx hy hz
       have wx : IntKind.i64.wrap x = x := IntWalk.i64_in _ (by omega)
       have wy : IntKind.i64.wrap y = y := IntWalk.i64_in _ (by omega)
       have wf1 : IntKind.i64.wrap (P - fk) = P - fk := IntWalk.i64_in _ (by omega)
       have th : Int.tdiv P 2 = P / 2 := Int.tdiv_eq_ediv_of_nonneg (by omega)
       have hX2 : IntKind.i64.wrap (x * (P - fk)) = x * (P - fk) := IntWalk.i64_in _ (by omega)
       have hY2 : IntKind.i64.wrap (y * fk) = y * fk := IntWalk.i64_in _ (by omega)
       obtain ⟨X, hX⟩ : ∃ X, x * (P - fk) = X := ⟨_, rfl⟩
       obtain ⟨Y, hY⟩ : ∃ Y, y * fk = Y := ⟨_, rfl⟩
       rw [hX] at hXb hmx
       rw [hY] at hYb hmx
       replace hX2 : IntKind.i64.wrap (x * (P - fk)) = X := by rw [← hX]; exact hX2
       replace hY2 : IntKind.i64.wrap (y * fk) = Y := by rw [← hY]; exact hY2
       clear hX hY
       have wh : IntKind.i64.wrap (P / 2) = P / 2 := IntWalk.i64_in _ (by omega)
       have hs1' : IntKind.i64.wrap (X + Y) = X + Y := IntWalk.i64_in _ (by omega)
       have hs2' : IntKind.i64.wrap (X + Y + P / 2) = X + Y + P / 2 := IntWalk.i64_in _ (by omega)
       obtain ⟨s, hs⟩ : ∃ s, X + Y + P / 2 = s := ⟨_, rfl⟩
       have hsb : -500000000000000000 ≤ s ∧ s ≤ 500000000000000000 := by omega
       rw [hs] at hmx
       replace hs2' : IntKind.i64.wrap (X + Y + P / 2) = s := by rw [← hs]; exact hs2'
       clear hs
       obtain ⟨fl1, fl2⟩ := floor_tdiv (s := s) (P := P) (by omega)
       rw [← hmx] at fl1 fl2
       clear hmx
       have tm1 := Int.tmod_lt_of_pos s (show 0 < P by omega)
       have tm2 := Int.lt_tmod_of_pos s (show 0 < P by omega)
       generalize hQ : Int.tdiv s P = Q at *
       generalize hM : Int.tmod s P = M at *
       have tP1 : (P == 0) = false := by simp; omega
       have tP2 : ¬ P = 0 := by omega
       have tP3 : ¬ P = -1 := by omega
       have wz : IntKind.i32.wrap z = z := IntWalk.i32_in _ (by omega)
       have wM : IntKind.i64.wrap M = M := IntWalk.i64_in _ (by omega)
       have x10 := k10.cell
       have f10 := k10.frozen
       have hb6 := k10.lt
       have HOC := Lib.hid (show (O1 ++ OF.take cc).length + 1 ≤ 4000000 by
        rw [List.length_append, List.length_take, HLO.out]; omega)
       have HO1 : Hid (O1 ++ OF.take (cc + 1) = (O1 ++ OF.take cc) ++ [z]) := Lib.hid (by rw [HN.out, List.append_assoc])
       generalize hO4 : O1 ++ OF.take (cc + 1) = O4 at *
       have HO4 := Lib.hid hO4
       clear hO4
       generalize O1 ++ OF.take cc = O3 at *
       by_cases hneg : M < 0
       ·have hz1 := fl1 hneg
        have wQ : IntKind.i64.wrap Q = Q := IntWalk.i64_in _ (by omega)
        have wQ1 : IntKind.i64.wrap (Q - 1) = z := by rw [hz1]; exact IntWalk.i64_in _ (by omega)
        have dM : decide (M < 0) = true := decide_eq_true hneg
        clear fl1 fl2 hz1 hneg
        go_wp2
        go_region
        go_upto_region 19 with fail
        have hq := Grows.drew' wr
        replace k2 := k2.grows hq
        replace k4 := k4.grows hq
        replace k5 := k5.grows hq
        replace k7 := k7.grows hq
        replace k10 := k10.grows hq
        replace hB := below_grows hB (Nat.le_refl _) hq
        replace ho := ho.grows hq
        clear hq x10 f10 q1 q2
        generalize World.drew wr = wd at *
        have x10 := k10.cell
        have f10 := k10.frozen
        refine wp_region_lit ?_
        iterate 5
         refine wpList_plain rfl (fun K hK => ?_)
         go_simp
         refine hK _ _ ?_
         clear hK K
        have hr := sams_lits wd [z] #[.int .i32 z] 21 rfl
        have hq := (Below.refl wd.heap.size wd).alloc (Nat.le_refl _) (Obj.cells #[.int .i32 z] 21)
        have ho1 := ho.grows hq
        replace k2 := k2.grows hq
        replace k4 := k4.grows hq
        replace k5 := k5.grows hq
        replace k7 := k7.grows hq
        replace k10 := k10.grows hq
        replace hB := below_grows hB (Nat.le_refl _) hq
        generalize World.alloc wd _ = we at *
        refine wpList_append_s32 rfl (.tmp 106) (.tmp 109) rfl (l := O3) (m := [z]) rfl rfl ho1 rfl hr (by have := HOC.out; simp only [List.length_cons, List.length_nil]; omega) hB.size ?_
        intro v5 w12 ho2 hgr _
        have k2' := ho1.blk k2 (by decide) hgr
        have k4' := ho1.blk k4 (by decide) hgr
        have k5' := ho1.blk k5 (by decide) hgr
        have k7' := ho1.blk k7 (by decide) hgr
        have k10' := ho1.blk k10 (by decide) hgr
        have hB2 := ho1.below hB hgr hB.size
        rw [← HO1.out] at ho2
        clear k2 k4 k5 k7 k10 hB ho ho1 hgr hr x10 f10 HO1 hq
        obtain ⟨A5, c5, rfl, hc5, -⟩ := ho2.read
        have x10 := k10'.cell
        have f10 := k10'.frozen
        go_wp2
        go_roundw
        case rel =>
         exact ⟨cc + 1, .slice A5 O4.length c5, by omega, by go_num, k10'.set_ 1 _, by rw [HO4.out]; exact ho2.farT k10' (by decide) 1 _, k2'.far (by simp; omega) _, k7'.far (by simp; omega) _, k4'.far (by simp; omega) _, k5'.far (by simp; omega) _, hB2.setCell (by simp; omega) _⟩
        case measure => simp [intOf]; omega
       ·have hz1 := fl2 (by omega)
        have wQ : IntKind.i64.wrap Q = z := by rw [hz1]; exact IntWalk.i64_in _ (by omega)
        have dM : decide (M < 0) = false := decide_eq_false hneg
        clear fl1 fl2 hneg
        rw [← hz1] at wQ
        subst hz1
        go_wp2
        go_region
        go_upto_region 19 with fail
        have hq := Grows.drew' wr
        replace k2 := k2.grows hq
        replace k4 := k4.grows hq
        replace k5 := k5.grows hq
        replace k7 := k7.grows hq
        replace k10 := k10.grows hq
        replace hB := below_grows hB (Nat.le_refl _) hq
        replace ho := ho.grows hq
        clear hq x10 f10 q1 q2
        generalize World.drew wr = wd at *
        have x10 := k10.cell
        have f10 := k10.frozen
        refine wp_region_lit ?_
        iterate 5
         refine wpList_plain rfl (fun K hK => ?_)
         go_simp
         refine hK _ _ ?_
         clear hK K
        have hr := sams_lits wd [z] #[.int .i32 z] 21 rfl
        have hq := (Below.refl wd.heap.size wd).alloc (Nat.le_refl _) (Obj.cells #[.int .i32 z] 21)
        have ho1 := ho.grows hq
        replace k2 := k2.grows hq
        replace k4 := k4.grows hq
        replace k5 := k5.grows hq
        replace k7 := k7.grows hq
        replace k10 := k10.grows hq
        replace hB := below_grows hB (Nat.le_refl _) hq
        generalize World.alloc wd _ = we at *
        refine wpList_append_s32 rfl (.tmp 106) (.tmp 109) rfl (l := O3) (m := [z]) rfl rfl ho1 rfl hr (by have := HOC.out; simp only [List.length_cons, List.length_nil]; omega) hB.size ?_
        intro v5 w12 ho2 hgr _
        have k2' := ho1.blk k2 (by decide) hgr
        have k4' := ho1.blk k4 (by decide) hgr
        have k5' := ho1.blk k5 (by decide) hgr
        have k7' := ho1.blk k7 (by decide) hgr
        have k10' := ho1.blk k10 (by decide) hgr
        have hB2 := ho1.below hB hgr hB.size
        rw [← HO1.out] at ho2
        clear k2 k4 k5 k7 k10 hB ho ho1 hgr hr x10 f10 HO1 hq
        obtain ⟨A5, c5, rfl, hc5, -⟩ := ho2.read
        have x10 := k10'.cell
        have f10 := k10'.frozen
        go_wp2
        go_roundw
        case rel =>
         exact ⟨cc + 1, .slice A5 O4.length c5, by omega, by go_num, k10'.set_ 1 _, by rw [HO4.out]; exact ho2.farT k10' (by decide) 1 _, k2'.far (by simp; omega) _, k7'.far (by simp; omega) _, k4'.far (by simp; omega) _, k5'.far (by simp; omega) _, hB2.setCell (by simp; omega) _⟩
        case measure => simp [intOf]; omega
      ·have hcc2 : cc = ch := by omega
       subst hcc2
       rw [List.take_of_length_le (by omega), ← HON.out] at ho
       clear HMXk HON HM1 HM2 HLO hs1 hs2 l1 l2 hofl
       go_wp2
       go_roundw
       case rel => exact ⟨k + 1, v, by omega, by go_num, k10, by rw [HO2.out]; exact ho, k2, k7, k4, k5, hB⟩
       case measure => simp [intOf]; omega
   ·have hkm : k = m := by omega
    subst hkm
    clear HAT HFB HMX
    have hcl : ∀ wx, Grows w wx → Calls Tryz.prog 131 #[.slice (if c = t then some ad else some (ad.add t)) (l.length - t) (c - t)] wx fun e w' => (∃ A9 c9, e = .returned (.slice A9 (l.length - t) c9) ∧ OwnS w' wx.heap.size (.slice A9 (l.length - t) c9) (l.drop t) ∧ l.length - t ≤ c9) ∧ Grows wx w' := fun wx hg => by
     have hr : Sams wx (if c = t then some ad else some (ad.add t)) (l.drop t) := by
      have := Reads.cut (cap := c) (h.grows hg) (k := t) htl hc
      rw [Nat.mul_one] at this
      unfold Sams
      rw [List.length_drop, List.map_drop]
      exact this
     have hl : (l.drop t).length ≤ 1048576 := by rw [List.length_drop]; omega
     have hcc := s32clone_any _ (c - t) _ wx hr hl
     rw [List.length_drop] at hcc
     refine hcc.mono ?_
     rintro e w' ⟨⟨v9, he, ho9⟩, hq⟩
     obtain ⟨A9, c9, hv9, hc9, -⟩ := ho9.read
     subst hv9
     rw [List.length_drop] at ho9 hc9
     exact ⟨⟨A9, c9, by rw [he, List.length_drop], ho9, hc9⟩, hq⟩
    obtain ⟨A2, c2, rfl, hc2, -⟩ := ho.read
    rw [HMC.out] at ho hc2 k10
    have x7 := k7.cell
    have hmin : min (l.length : Int) (t : Int) = (t : Int) := by omega
    have t0 : (0 : Int) ≤ (t : Int) := by omega
    have t1 : (t : Int) ≤ (l.length : Int) := by omega
    go_upto_region 23 with fail
    generalize hOO : outL ch l n d a f k = OO at *
    go_cut [] (fun wr => ∃ A9 c9, Blk wr w.heap.size 47 #[.int .i64 (ch : Int), .int .i64 n, .int .i64 d, .int .i64 a, .int .i64 p', .int .i64 f', .slice A9 (l.length - t) c9] ∧ OwnS wr w.heap.size (.slice A9 (l.length - t) c9) (l.drop t) ∧ l.length - t ≤ c9 ∧ Blk wr g10 60 #[.int .i64 (ch : Int), .slice A2 mc c2] ∧ OwnS wr w.heap.size (.slice A2 mc c2) OO ∧ Blk wr (w.heap.size + 1) 60 #[.int .i64 0, .slice none 0 0] ∧ Blk wr (w.heap.size + 2) 47 #[.int .i64 0, .int .i64 0, .int .i64 0, .int .i64 0, .int .i64 0, .int .i64 0, .slice none 0 0] ∧ Grows w wr)
    case first =>
     by_cases hct : c = t
     ·have HC := hcl
      rw [if_pos hct] at HC
      clear hcl
      subst hct
      have hL0 : l.length - c = 0 := by omega
      rw [hL0, Nat.sub_self] at HC
      clear hL0
      have hsz : w.heap.size + 2 < wr.heap.size := k5.lt
      go_region_with (refine (HC _ hB.drew).mono ?_; rintro e9 w9 ⟨⟨A9, c9, rfl, ho9, hc9⟩, hq9⟩; have x2' := (k2.drew.grows hq9).cell; have f2' := (k2.drew.grows hq9).frozen; have x7' := (k7.drew.grows hq9).cell)
      all_goals go_wp2
      all_goals go_meet
      all_goals
       have K2 := k2.drew.grows hq9
       have K4 := k4.drew.grows hq9
       have K5 := k5.drew.grows hq9
       have K10 := k10.drew.grows hq9
       have HO := ho.drew.grows hq9
       have H9 := ho9
       have HB := below_grows hB.drew (Nat.le_refl _) hq9
       clear hq9 ho9
       replace HO := HO.farT K2 (by decide) 1 (.int .i64 n)
       replace H9 := H9.far (p := ⟨w.heap.size, 1, none⟩) (by simp; omega) (.int .i64 n)
       replace K4 := K4.far (p := ⟨w.heap.size, 1, none⟩) (by simp) (.int .i64 n)
       replace K5 := K5.far (p := ⟨w.heap.size, 1, none⟩) (by simp) (.int .i64 n)
       replace K10 := K10.far (p := ⟨w.heap.size, 1, none⟩) (by simp; omega) (.int .i64 n)
       replace HB := HB.setCell (p := ⟨w.heap.size, 1, none⟩) (by simp) (.int .i64 n)
       replace K2 := K2.set_ 1 (.int .i64 n)
       replace HO := HO.farT K2 (by decide) 2 (.int .i64 d)
       replace H9 := H9.far (p := ⟨w.heap.size, 2, none⟩) (by simp; omega) (.int .i64 d)
       replace K4 := K4.far (p := ⟨w.heap.size, 2, none⟩) (by simp) (.int .i64 d)
       replace K5 := K5.far (p := ⟨w.heap.size, 2, none⟩) (by simp) (.int .i64 d)
       replace K10 := K10.far (p := ⟨w.heap.size, 2, none⟩) (by simp; omega) (.int .i64 d)
       replace HB := HB.setCell (p := ⟨w.heap.size, 2, none⟩) (by simp) (.int .i64 d)
       replace K2 := K2.set_ 2 (.int .i64 d)
       replace HO := HO.farT K2 (by decide) 3 (.int .i64 a)
       replace H9 := H9.far (p := ⟨w.heap.size, 3, none⟩) (by simp; omega) (.int .i64 a)
       replace K4 := K4.far (p := ⟨w.heap.size, 3, none⟩) (by simp) (.int .i64 a)
       replace K5 := K5.far (p := ⟨w.heap.size, 3, none⟩) (by simp) (.int .i64 a)
       replace K10 := K10.far (p := ⟨w.heap.size, 3, none⟩) (by simp; omega) (.int .i64 a)
       replace HB := HB.setCell (p := ⟨w.heap.size, 3, none⟩) (by simp) (.int .i64 a)
       replace K2 := K2.set_ 3 (.int .i64 a)
       replace HO := HO.farT K2 (by decide) 4 (.int .i64 p')
       replace H9 := H9.far (p := ⟨w.heap.size, 4, none⟩) (by simp; omega) (.int .i64 p')
       replace K4 := K4.far (p := ⟨w.heap.size, 4, none⟩) (by simp) (.int .i64 p')
       replace K5 := K5.far (p := ⟨w.heap.size, 4, none⟩) (by simp) (.int .i64 p')
       replace K10 := K10.far (p := ⟨w.heap.size, 4, none⟩) (by simp; omega) (.int .i64 p')
       replace HB := HB.setCell (p := ⟨w.heap.size, 4, none⟩) (by simp) (.int .i64 p')
       replace K2 := K2.set_ 4 (.int .i64 p')
       replace HO := HO.farT K2 (by decide) 5 (.int .i64 f')
       replace H9 := H9.far (p := ⟨w.heap.size, 5, none⟩) (by simp; omega) (.int .i64 f')
       replace K4 := K4.far (p := ⟨w.heap.size, 5, none⟩) (by simp) (.int .i64 f')
       replace K5 := K5.far (p := ⟨w.heap.size, 5, none⟩) (by simp) (.int .i64 f')
       replace K10 := K10.far (p := ⟨w.heap.size, 5, none⟩) (by simp; omega) (.int .i64 f')
       replace HB := HB.setCell (p := ⟨w.heap.size, 5, none⟩) (by simp) (.int .i64 f')
       replace K2 := K2.set_ 5 (.int .i64 f')
       replace HO := HO.farT K2 (by decide) 6 (.slice A9 (0) c9)
       replace H9 := H9.far (p := ⟨w.heap.size, 6, none⟩) (by simp; omega) (.slice A9 (0) c9)
       replace K4 := K4.far (p := ⟨w.heap.size, 6, none⟩) (by simp) (.slice A9 (0) c9)
       replace K5 := K5.far (p := ⟨w.heap.size, 6, none⟩) (by simp) (.slice A9 (0) c9)
       replace K10 := K10.far (p := ⟨w.heap.size, 6, none⟩) (by simp; omega) (.slice A9 (0) c9)
       replace HB := HB.setCell (p := ⟨w.heap.size, 6, none⟩) (by simp) (.slice A9 (0) c9)
       replace K2 := K2.set_ 6 (.slice A9 (0) c9)
       have hL0 : l.length - c = 0 := by omega
       rw [hL0]
       exact ⟨A9, c9, K2, H9.mono (by simp; omega), hc9, K10, HO, K4, K5, HB⟩
     ·have HC := hcl
      rw [if_neg hct] at HC
      clear hcl
      have hsz : w.heap.size + 2 < wr.heap.size := k5.lt
      go_region_with (refine (HC _ hB.drew).mono ?_; rintro e9 w9 ⟨⟨A9, c9, rfl, ho9, hc9⟩, hq9⟩; have x2' := (k2.drew.grows hq9).cell; have f2' := (k2.drew.grows hq9).frozen; have x7' := (k7.drew.grows hq9).cell)
      all_goals go_wp2
      all_goals go_meet
      all_goals
       have K2 := k2.drew.grows hq9
       have K4 := k4.drew.grows hq9
       have K5 := k5.drew.grows hq9
       have K10 := k10.drew.grows hq9
       have HO := ho.drew.grows hq9
       have H9 := ho9
       have HB := below_grows hB.drew (Nat.le_refl _) hq9
       clear hq9 ho9
       replace HO := HO.farT K2 (by decide) 1 (.int .i64 n)
       replace H9 := H9.far (p := ⟨w.heap.size, 1, none⟩) (by simp; omega) (.int .i64 n)
       replace K4 := K4.far (p := ⟨w.heap.size, 1, none⟩) (by simp) (.int .i64 n)
       replace K5 := K5.far (p := ⟨w.heap.size, 1, none⟩) (by simp) (.int .i64 n)
       replace K10 := K10.far (p := ⟨w.heap.size, 1, none⟩) (by simp; omega) (.int .i64 n)
       replace HB := HB.setCell (p := ⟨w.heap.size, 1, none⟩) (by simp) (.int .i64 n)
       replace K2 := K2.set_ 1 (.int .i64 n)
       replace HO := HO.farT K2 (by decide) 2 (.int .i64 d)
       replace H9 := H9.far (p := ⟨w.heap.size, 2, none⟩) (by simp; omega) (.int .i64 d)
       replace K4 := K4.far (p := ⟨w.heap.size, 2, none⟩) (by simp) (.int .i64 d)
       replace K5 := K5.far (p := ⟨w.heap.size, 2, none⟩) (by simp) (.int .i64 d)
       replace K10 := K10.far (p := ⟨w.heap.size, 2, none⟩) (by simp; omega) (.int .i64 d)
       replace HB := HB.setCell (p := ⟨w.heap.size, 2, none⟩) (by simp) (.int .i64 d)
       replace K2 := K2.set_ 2 (.int .i64 d)
       replace HO := HO.farT K2 (by decide) 3 (.int .i64 a)
       replace H9 := H9.far (p := ⟨w.heap.size, 3, none⟩) (by simp; omega) (.int .i64 a)
       replace K4 := K4.far (p := ⟨w.heap.size, 3, none⟩) (by simp) (.int .i64 a)
       replace K5 := K5.far (p := ⟨w.heap.size, 3, none⟩) (by simp) (.int .i64 a)
       replace K10 := K10.far (p := ⟨w.heap.size, 3, none⟩) (by simp; omega) (.int .i64 a)
       replace HB := HB.setCell (p := ⟨w.heap.size, 3, none⟩) (by simp) (.int .i64 a)
       replace K2 := K2.set_ 3 (.int .i64 a)
       replace HO := HO.farT K2 (by decide) 4 (.int .i64 p')
       replace H9 := H9.far (p := ⟨w.heap.size, 4, none⟩) (by simp; omega) (.int .i64 p')
       replace K4 := K4.far (p := ⟨w.heap.size, 4, none⟩) (by simp) (.int .i64 p')
       replace K5 := K5.far (p := ⟨w.heap.size, 4, none⟩) (by simp) (.int .i64 p')
       replace K10 := K10.far (p := ⟨w.heap.size, 4, none⟩) (by simp; omega) (.int .i64 p')
       replace HB := HB.setCell (p := ⟨w.heap.size, 4, none⟩) (by simp) (.int .i64 p')
       replace K2 := K2.set_ 4 (.int .i64 p')
       replace HO := HO.farT K2 (by decide) 5 (.int .i64 f')
       replace H9 := H9.far (p := ⟨w.heap.size, 5, none⟩) (by simp; omega) (.int .i64 f')
       replace K4 := K4.far (p := ⟨w.heap.size, 5, none⟩) (by simp) (.int .i64 f')
       replace K5 := K5.far (p := ⟨w.heap.size, 5, none⟩) (by simp) (.int .i64 f')
       replace K10 := K10.far (p := ⟨w.heap.size, 5, none⟩) (by simp; omega) (.int .i64 f')
       replace HB := HB.setCell (p := ⟨w.heap.size, 5, none⟩) (by simp) (.int .i64 f')
       replace K2 := K2.set_ 5 (.int .i64 f')
       replace HO := HO.farT K2 (by decide) 6 (.slice A9 (l.length - t) c9)
       replace H9 := H9.far (p := ⟨w.heap.size, 6, none⟩) (by simp; omega) (.slice A9 (l.length - t) c9)
       replace K4 := K4.far (p := ⟨w.heap.size, 6, none⟩) (by simp) (.slice A9 (l.length - t) c9)
       replace K5 := K5.far (p := ⟨w.heap.size, 6, none⟩) (by simp) (.slice A9 (l.length - t) c9)
       replace K10 := K10.far (p := ⟨w.heap.size, 6, none⟩) (by simp; omega) (.slice A9 (l.length - t) c9)
       replace HB := HB.setCell (p := ⟨w.heap.size, 6, none⟩) (by simp) (.slice A9 (l.length - t) c9)
       replace K2 := K2.set_ 6 (.slice A9 (l.length - t) c9)
       exact ⟨A9, c9, K2, H9.mono (by simp; omega), hc9, K10, HO, K4, K5, HB⟩
    case rest =>
     clear hB k2 k4 k5 k7 k10 ho x2 x7 hcl hmin t0 t1
     obtain ⟨A9, c9, k2, ho9, hc9, k10, ho, k4, k5, hB⟩ := hcut
     have x2 := k2.cell
     have x10 := k10.cell
     have x4 := k4.cell
     have f4 := k4.frozen
     replace k5 : Blk wc (w.heap.size + 1 + 1) 47 #[.int .i64 0, .int .i64 0, .int .i64 0, .int .i64 0, .int .i64 0, .int .i64 0, .slice none 0 0] := k5
     have x5 := k5.cell
     have f5 := k5.frozen
     go_wp2_with fail
     go_region
     all_goals go_wp2
     all_goals
      replace ho := ho.farT k4 (by decide) 0 (.int .i64 (ch : Int))
      replace ho9 := ho9.farT k4 (by decide) 0 (.int .i64 (ch : Int))
      replace k5 := k5.far (p := ⟨w.heap.size + 1, 0, none⟩) (by simp) (.int .i64 (ch : Int))
      replace hB := hB.setCell (p := ⟨w.heap.size + 1, 0, none⟩) (by simp) (.int .i64 (ch : Int))
      replace k4 := k4.set_ 0 (.int .i64 (ch : Int))
      replace ho := ho.farT k4 (by decide) 1 (.slice A2 mc c2)
      replace ho9 := ho9.farT k4 (by decide) 1 (.slice A2 mc c2)
      replace k5 := k5.far (p := ⟨w.heap.size + 1, 1, none⟩) (by simp) (.slice A2 mc c2)
      replace hB := hB.setCell (p := ⟨w.heap.size + 1, 1, none⟩) (by simp) (.slice A2 mc c2)
      replace k4 := k4.set_ 1 (.slice A2 mc c2)
      replace ho := ho.farT k5 (by decide) 0 (.int .i64 (ch : Int))
      replace ho9 := ho9.farT k5 (by decide) 0 (.int .i64 (ch : Int))
      replace k4 := k4.far (p := ⟨w.heap.size + 1 + 1, 0, none⟩) (by simp) (.int .i64 (ch : Int))
      replace hB := hB.setCell (p := ⟨w.heap.size + 1 + 1, 0, none⟩) (by simp <;> omega) (.int .i64 (ch : Int))
      replace k5 := k5.set_ 0 (.int .i64 (ch : Int))
      replace ho := ho.farT k5 (by decide) 1 (.int .i64 n)
      replace ho9 := ho9.farT k5 (by decide) 1 (.int .i64 n)
      replace k4 := k4.far (p := ⟨w.heap.size + 1 + 1, 1, none⟩) (by simp) (.int .i64 n)
      replace hB := hB.setCell (p := ⟨w.heap.size + 1 + 1, 1, none⟩) (by simp <;> omega) (.int .i64 n)
      replace k5 := k5.set_ 1 (.int .i64 n)
      replace ho := ho.farT k5 (by decide) 2 (.int .i64 d)
      replace ho9 := ho9.farT k5 (by decide) 2 (.int .i64 d)
      replace k4 := k4.far (p := ⟨w.heap.size + 1 + 1, 2, none⟩) (by simp) (.int .i64 d)
      replace hB := hB.setCell (p := ⟨w.heap.size + 1 + 1, 2, none⟩) (by simp <;> omega) (.int .i64 d)
      replace k5 := k5.set_ 2 (.int .i64 d)
      replace ho := ho.farT k5 (by decide) 3 (.int .i64 a)
      replace ho9 := ho9.farT k5 (by decide) 3 (.int .i64 a)
      replace k4 := k4.far (p := ⟨w.heap.size + 1 + 1, 3, none⟩) (by simp) (.int .i64 a)
      replace hB := hB.setCell (p := ⟨w.heap.size + 1 + 1, 3, none⟩) (by simp <;> omega) (.int .i64 a)
      replace k5 := k5.set_ 3 (.int .i64 a)
      replace ho := ho.farT k5 (by decide) 4 (.int .i64 p')
      replace ho9 := ho9.farT k5 (by decide) 4 (.int .i64 p')
      replace k4 := k4.far (p := ⟨w.heap.size + 1 + 1, 4, none⟩) (by simp) (.int .i64 p')
      replace hB := hB.setCell (p := ⟨w.heap.size + 1 + 1, 4, none⟩) (by simp <;> omega) (.int .i64 p')
      replace k5 := k5.set_ 4 (.int .i64 p')
      replace ho := ho.farT k5 (by decide) 5 (.int .i64 f')
      replace ho9 := ho9.farT k5 (by decide) 5 (.int .i64 f')
      replace k4 := k4.far (p := ⟨w.heap.size + 1 + 1, 5, none⟩) (by simp) (.int .i64 f')
      replace hB := hB.setCell (p := ⟨w.heap.size + 1 + 1, 5, none⟩) (by simp <;> omega) (.int .i64 f')
      replace k5 := k5.set_ 5 (.int .i64 f')
      replace ho := ho.farT k5 (by decide) 6 (.slice A9 (l.length - t) c9)
      replace ho9 := ho9.farT k5 (by decide) 6 (.slice A9 (l.length - t) c9)
      replace k4 := k4.far (p := ⟨w.heap.size + 1 + 1, 6, none⟩) (by simp) (.slice A9 (l.length - t) c9)
      replace hB := hB.setCell (p := ⟨w.heap.size + 1 + 1, 6, none⟩) (by simp <;> omega) (.slice A9 (l.length - t) c9)
      replace k5 := k5.set_ 6 (.slice A9 (l.length - t) c9)
      replace hB := hB.drew
      replace ho := ho.drew
      replace ho9 := ho9.drew
      replace k4 := k4.drew
      replace k5 := k5.drew
      generalize World.drew _ = wf at *
      clear x4 f4 x5 f5 x2 x10 k2 k10
      replace k4 : Blk wf (w.heap.size + 1) 60 #[.int .i64 (ch : Int), .slice A2 mc c2] := k4
      replace k5 : Blk wf (w.heap.size + 1 + 1) 47 #[.int .i64 (ch : Int), .int .i64 n, .int .i64 d, .int .i64 a, .int .i64 p', .int .i64 f', .slice A9 (l.length - t) c9] := k5
      have x4 := k4.cell
      have x5 := k5.cell
      refine bodyPost_ret (v := .tuple #[.agg #[.int .i64 (ch : Int), .slice A2 mc c2], .agg #[.int .i64 (ch : Int), .int .i64 n, .int .i64 d, .int .i64 a, .int .i64 p', .int .i64 f', .slice A9 (l.length - t) c9], .int .i64 0]) (by simp [results, Tryz.results274, go_sem, x4, x5]) rfl ⟨⟨A2, c2, A9, c9, rfl, by rw [hOO]; exact ho, hc2, ho9, hc9⟩, hB⟩
end Go.Proofs.YtbfdaojffffaaaaGreat

namespace Go.Proofs.YtbfdaojffffaaaaGreat
open Go.RowKit
theorem need_is {n d a p f k : Int} (h : okPh n d a p f = true) (h1 : 0 ≤ k) (h2 : k ≤ 65536) : needP n d a p f k = needF n d a f k ∧ errF n d a p f k = 0 := by
 have he : errF n d a p f k = 0 := by unfold errF; rw [if_neg (by simp [h]), if_neg (by omega)]
 exact ⟨by unfold needP; rw [if_pos he], he⟩
set_option maxRecDepth 100000 in
set_option maxHeartbeats 8000000 in
theorem rstake_any (ad : Addr) (c : Nat) {ch fr m : Nat} {n d a p f : Int} {l : List Int} (w : World) (hp : okPh n d a p f = true) (hb : BlkOk ch fr l) (h : Sams w (some ad) l) (hc : l.length ≤ c) (hm : m ≤ 65536) (hn : needF n d a f m ≤ fr) (hpos : p + posF n d a f m ≤ 1125899906842624) :
 Calls Tryz.prog 214 #[.agg #[.int .i64 (ch : Int), .int .i64 n, .int .i64 d, .int .i64 a, .int .i64 p, .int .i64 f, .slice (some ad) l.length c], .int .i64 (m : Int)] w fun e w' => (∃ B b A' c', e = .returned (.tuple #[.agg #[.int .i64 (ch : Int), .slice B (m * ch) b], .agg #[.int .i64 (ch : Int), .int .i64 n, .int .i64 d, .int .i64 a, .int .i64 (p + posF n d a f m), .int .i64 (fracF n d a f m), .slice A' (l.length - posF n d a f m * ch) c'], .int .i64 0]) ∧
  OwnS w' w.heap.size (.slice B (m * ch) b) (outL ch l n d a f m) ∧ m * ch ≤ b ∧ OwnS w' w.heap.size (.slice A' (l.length - posF n d a f m * ch) c') (l.drop (posF n d a f m * ch)) ∧ l.length - posF n d a f m * ch ≤ c') ∧ Grows w w' := by
 have hpr := fun w' (hg : Grows w w') => produce_any ad c w' hp hb (h.grows hg) hc hm hn hpos
 have hck := fun w' (hg : Grows w w') => rscheck_any (some ad) c w' hp hb (h.grows hg) hm
 have hnd := fun w => neede_any n d a p f m w
 rw [(need_is hp (by omega) (by omega)).1, (need_is hp (by omega) (by omega)).2] at hnd
 obtain ⟨t1, -⟩ := hb.div
 have hlen := hb.len
 have hb1 := hb.c1
 have hb2 := hb.c2
 have hb3 := hb.f
 have hl8 := hb.le
 have t3 : ((ch : Int) == 0) = false := by simp; omega
 have t4 : ¬ (ch : Int) = 0 := by omega
 have t5 : ¬ (ch : Int) = -1 := by omega
 have wf : IntKind.i64.wrap (fr : Int) = (fr : Int) := IntWalk.i64_in _ (by omega)
 clear hlen
 generalize m * ch = mc at *
 generalize posF n d a f m * ch = t at *
 generalize needF n d a f m = nd at *
 generalize p + (posF n d a f m : Int) = p' at *
 generalize fracF n d a f m = f' at *
 generalize outL ch l n d a f m = O at *
 have d1 : decide ((fr : Int) < nd) = false := by simp only [decide_eq_false_iff_not]; omega
 have hB := ((((Below.refl w.heap.size w).alloc (Nat.le_refl _) (Obj.cells #[.int .i64 (ch : Int), .int .i64 n, .int .i64 d, .int .i64 a, .int .i64 p, .int .i64 f, .slice (some ad) l.length c] 47)).alloc (by simp) (Obj.cells #[.int .i64 0, .slice none 0 0] 60)).alloc (by simp <;> omega) (Obj.cells #[.int .i64 0, .int .i64 0, .int .i64 0, .int .i64 0, .int .i64 0, .int .i64 0, .slice none 0 0] 47))
 go_enter Tryz.func214, Tryz.ntmps214
 go_wp2_with fail
 refine (hck _ hB).mono ?_
 rintro e w1 ⟨rfl, hq⟩
 have k2 := Blk.grows (Blk.alloc (Blk.alloc (Blk.new _ _ _) _) _) hq
 have k4 := Blk.grows (Blk.alloc (blk_new_at (n := w.heap.size + 1) (by simp)) _) hq
 have k5 := Blk.grows (blk_new_at (n := w.heap.size + 1 + 1) (by simp)) hq
 replace hB := below_grows hB (by simp <;> omega) hq
 clear hq
 have x2 := k2.cell
 go_wp2_with fail
 refine (hnd _).mono ?_
 rintro e w2 ⟨rfl, hq⟩
 replace k2 := k2.grows hq
 replace k4 := k4.grows hq
 replace k5 := k5.grows hq
 replace hB := below_grows hB (Nat.le_refl _) hq
 clear hq
 replace x2 := k2.cell
 go_wp2_with fail
 refine (hpr _ hB).mono ?_
 rintro e w3 ⟨⟨B, b, A', c', rfl, ho, hb5, ho9, hc9⟩, hq⟩
 have hsz := k5.lt
 replace k4 := k4.grows hq
 replace k5 := k5.grows hq
 replace hB := below_grows hB (Nat.le_refl _) hq
 replace ho := ho.mono (base' := w.heap.size) (by omega)
 replace ho9 := ho9.mono (base' := w.heap.size) (by omega)
 clear hq x2 k2 hpr hck hnd
 have x4 := k4.cell
 have f4 := k4.frozen
 have x5 := k5.cell
 have f5 := k5.frozen
 go_wp2
 replace ho := ho.farT k4 (by decide) 0 (.int .i64 (ch : Int))
 replace ho9 := ho9.farT k4 (by decide) 0 (.int .i64 (ch : Int))
 replace k5 := k5.far (p := ⟨w.heap.size + 1, 0, none⟩) (by simp <;> omega) (.int .i64 (ch : Int))
 replace hB := hB.setCell (p := ⟨w.heap.size + 1, 0, none⟩) (by simp <;> omega) (.int .i64 (ch : Int))
 replace k4 := k4.set_ 0 (.int .i64 (ch : Int))
 replace ho := ho.farT k4 (by decide) 1 (.slice B mc b)
 replace ho9 := ho9.farT k4 (by decide) 1 (.slice B mc b)
 replace k5 := k5.far (p := ⟨w.heap.size + 1, 1, none⟩) (by simp <;> omega) (.slice B mc b)
 replace hB := hB.setCell (p := ⟨w.heap.size + 1, 1, none⟩) (by simp <;> omega) (.slice B mc b)
 replace k4 := k4.set_ 1 (.slice B mc b)
 replace ho := ho.farT k5 (by decide) 0 (.int .i64 (ch : Int))
 replace ho9 := ho9.farT k5 (by decide) 0 (.int .i64 (ch : Int))
 replace k4 := k4.far (p := ⟨w.heap.size + 1 + 1, 0, none⟩) (by simp <;> omega) (.int .i64 (ch : Int))
 replace hB := hB.setCell (p := ⟨w.heap.size + 1 + 1, 0, none⟩) (by simp <;> omega) (.int .i64 (ch : Int))
 replace k5 := k5.set_ 0 (.int .i64 (ch : Int))
 replace ho := ho.farT k5 (by decide) 1 (.int .i64 n)
 replace ho9 := ho9.farT k5 (by decide) 1 (.int .i64 n)
 replace k4 := k4.far (p := ⟨w.heap.size + 1 + 1, 1, none⟩) (by simp <;> omega) (.int .i64 n)
 replace hB := hB.setCell (p := ⟨w.heap.size + 1 + 1, 1, none⟩) (by simp <;> omega) (.int .i64 n)
 replace k5 := k5.set_ 1 (.int .i64 n)
 replace ho := ho.farT k5 (by decide) 2 (.int .i64 d)
 replace ho9 := ho9.farT k5 (by decide) 2 (.int .i64 d)
 replace k4 := k4.far (p := ⟨w.heap.size + 1 + 1, 2, none⟩) (by simp <;> omega) (.int .i64 d)
 replace hB := hB.setCell (p := ⟨w.heap.size + 1 + 1, 2, none⟩) (by simp <;> omega) (.int .i64 d)
 replace k5 := k5.set_ 2 (.int .i64 d)
 replace ho := ho.farT k5 (by decide) 3 (.int .i64 a)
 replace ho9 := ho9.farT k5 (by decide) 3 (.int .i64 a)
 replace k4 := k4.far (p := ⟨w.heap.size + 1 + 1, 3, none⟩) (by simp <;> omega) (.int .i64 a)
 replace hB := hB.setCell (p := ⟨w.heap.size + 1 + 1, 3, none⟩) (by simp <;> omega) (.int .i64 a)
 replace k5 := k5.set_ 3 (.int .i64 a)
 replace ho := ho.farT k5 (by decide) 4 (.int .i64 p')
 replace ho9 := ho9.farT k5 (by decide) 4 (.int .i64 p')
 replace k4 := k4.far (p := ⟨w.heap.size + 1 + 1, 4, none⟩) (by simp <;> omega) (.int .i64 p')
 replace hB := hB.setCell (p := ⟨w.heap.size + 1 + 1, 4, none⟩) (by simp <;> omega) (.int .i64 p')
 replace k5 := k5.set_ 4 (.int .i64 p')
 replace ho := ho.farT k5 (by decide) 5 (.int .i64 f')
 replace ho9 := ho9.farT k5 (by decide) 5 (.int .i64 f')
 replace k4 := k4.far (p := ⟨w.heap.size + 1 + 1, 5, none⟩) (by simp <;> omega) (.int .i64 f')
 replace hB := hB.setCell (p := ⟨w.heap.size + 1 + 1, 5, none⟩) (by simp <;> omega) (.int .i64 f')
 replace k5 := k5.set_ 5 (.int .i64 f')
 replace ho := ho.farT k5 (by decide) 6 (.slice A' (l.length - t) c')
 replace ho9 := ho9.farT k5 (by decide) 6 (.slice A' (l.length - t) c')
 replace k4 := k4.far (p := ⟨w.heap.size + 1 + 1, 6, none⟩) (by simp <;> omega) (.slice A' (l.length - t) c')
 replace hB := hB.setCell (p := ⟨w.heap.size + 1 + 1, 6, none⟩) (by simp <;> omega) (.slice A' (l.length - t) c')
 replace k5 := k5.set_ 6 (.slice A' (l.length - t) c')
 generalize World.setCell _ _ _ = wf at *
 clear x4 f4 x5 f5
 replace k4 : Blk wf (w.heap.size + 1) 60 #[.int .i64 (ch : Int), .slice B mc b] := k4
 replace k5 : Blk wf (w.heap.size + 1 + 1) 47 #[.int .i64 (ch : Int), .int .i64 n, .int .i64 d, .int .i64 a, .int .i64 p', .int .i64 f', .slice A' (l.length - t) c'] := k5
 have x4 := k4.cell
 have x5 := k5.cell
 refine bodyPost_ret (v := .tuple #[.agg #[.int .i64 (ch : Int), .slice B mc b], .agg #[.int .i64 (ch : Int), .int .i64 n, .int .i64 d, .int .i64 a, .int .i64 p', .int .i64 f', .slice A' (l.length - t) c'], .int .i64 0]) (by simp [results, Tryz.results214, go_sem, x4, x5]) rfl ⟨⟨B, b, A', c', rfl, ho, hb5, ho9, hc9⟩, hB⟩
end Go.Proofs.YtbfdaojffffaaaaGreat

namespace Go.Proofs.YtbfdaojffffaaaaGreat
open Go.RowKit
theorem grown_row (w : World) (g : Nat) (cs : Array Value) : w.grownBy (w.setRow g cs) (some g) := ⟨rfl, rfl, rfl, by simp [World.setRow], fun k _ hk => setRow_other w g k _ (fun e => hk (by simp [e]))⟩
theorem OwnS.row {w : World} {base g : Nat} {t : TypeId} {old : Array Value} {v : Value} {l : List Int} (h : OwnS w base v l) (hg : Blk w g t old) (hne : 21 ≠ t) (cs : Array Value) : OwnS (w.setRow g cs) base v l :=
 World.ownsRow.kept h (grown_row w g cs) (.inr (own_blk_ne h hg hne))
theorem brinfo : (Tryz.prog.info? 49).map (·.size) = some 14 := by kernel_rfl
set_option maxRecDepth 100000 in
set_option maxHeartbeats 8000000 in
theorem bvalid_any (A : Option Addr) (c : Nat) {ch fr cap : Nat} {T dd G M n d a p f : Int} {l : List Int} (w : World) (hC : okCt T dd G M) (hp : okPh n d a p f = true) (hb : BlkOk ch fr l) (h : Sams w A l) (hc1 : 1 ≤ cap) (hc2 : cap ≤ 65536) (hf : fr ≤ cap) :
 Calls Tryz.prog 53 #[.agg #[.int .i64 (cap : Int), .int .i64 T, .int .i64 dd, .int .i64 G, .int .i64 M, .int .i64 (ch : Int), .int .i64 n, .int .i64 d, .int .i64 a, .int .i64 p, .int .i64 f, .slice A l.length c, .int .i64 0, .int .i64 0]] w fun e w' => e = .returned (.bool true) ∧ Grows w w' := by
 have hv := fun w' (hg : Grows w w') => rsvalid_any A c w' hp hb (h.grows hg)
 have hw := fun w' (hg : Grows w w') => rswait_any A c w' hp hb (h.grows hg)
 have hcv := fun w => cvalid_any T dd G M w hC
 clear hC hp hb h
 have d1 : decide ((1 : Int) ≤ (cap : Int)) = true := by simp only [decide_eq_true_iff]; omega
 have d2 : decide ((cap : Int) ≤ 65536) = true := by simp only [decide_eq_true_iff]; omega
 have d3 : decide ((fr : Int) ≤ (cap : Int)) = true := by simp only [decide_eq_true_iff]; omega
 have d5 : decide (1 ≤ cap) = true := by simp only [decide_eq_true_iff]; omega
 have d6 : decide (cap ≤ 65536) = true := by simp only [decide_eq_true_iff]; omega
 have d7 : decide (fr ≤ cap) = true := by simp only [decide_eq_true_iff]; omega
 go_enter Tryz.func53, Tryz.ntmps53
 have hB := (Below.refl w.heap.size w).alloc (Nat.le_refl _) (Obj.cells #[.int .i64 (cap : Int), .int .i64 T, .int .i64 dd, .int .i64 G, .int .i64 M, .int .i64 (ch : Int), .int .i64 n, .int .i64 d, .int .i64 a, .int .i64 p, .int .i64 f, .slice A l.length c, .int .i64 0, .int .i64 0] 49)
 have k1 := Blk.new w 49 #[.int .i64 (cap : Int), .int .i64 T, .int .i64 dd, .int .i64 G, .int .i64 M, .int .i64 (ch : Int), .int .i64 n, .int .i64 d, .int .i64 a, .int .i64 p, .int .i64 f, .slice A l.length c, .int .i64 0, .int .i64 0]
 go_upto_region 1 with fail
 generalize World.alloc w _ = w0 at *
 refine wp_region_mix (fun w' => Grows w0 w') [] 37 39 (by kernel_rfl) (by kernel_rfl) rfl ?_ float_none ?_ ?_
 ·exact fun w1 w2 h0 hg => below_grows h0 (Nat.le_refl _) hg
 ·exact Grows.drew' _
 ·skip
  simp only [List.take_succ_cons, List.take_zero, List.drop_succ_cons, List.drop_zero]
  iterate 37
   first
    | (refine calm_no rfl rfl (a' := ?_) ?_ ?_
       rotate_left 1
       ·simp only [Act.put, List.setIfInBounds_toArray, List.set_cons_succ, List.set_cons_zero]
        rfl)
    | (first | refine calm_plain rfl rfl (v := ?_) (a' := ?_) (fun w1 hw1 => ?_) ?_ ?_ | refine calm_yes rfl rfl (v := ?_) (a' := ?_) (fun w1 hw1 => ?_) ?_ ?_
       rotate_left 2
       ·have h0 := hw1
        have x1 := (k1.grows h0).cell
        have hg := below_grows hB (Nat.le_refl _) h0
        go_simp
        first | exact calm_val | (refine calm_call ?_; with_reducible exact hv _ hg) | (refine calm_call ?_; with_reducible exact hcv _) | (refine calm_call ?_; with_reducible exact hw _ hg)
       ·simp only [Act.put, List.setIfInBounds_toArray, List.set_cons_succ, List.set_cons_zero]
        rfl)
  refine calm_done (end_none ?_)
  rintro W2 hg
  replace hB := below_grows hB (Nat.le_refl _) hg
  go_wp2
  go_ret
  exact ⟨rfl, hB⟩
set_option maxRecDepth 100000 in
set_option maxHeartbeats 8000000 in
theorem bfill_any (A : Option Addr) (c : Nat) {ch fr cap : Nat} {T dd G M n d a p f : Int} {l : List Int} (w : World) (hC : okCt T dd G M) (hp : okPh n d a p f = true) (hb : BlkOk ch fr l) (h : Sams w A l) (hc1 : 1 ≤ cap) (hc2 : cap ≤ 65536) (hf : fr ≤ cap) :
 Calls Tryz.prog 15 #[.agg #[.int .i64 (cap : Int), .int .i64 T, .int .i64 dd, .int .i64 G, .int .i64 M, .int .i64 (ch : Int), .int .i64 n, .int .i64 d, .int .i64 a, .int .i64 p, .int .i64 f, .slice A l.length c, .int .i64 0, .int .i64 0]] w fun e w' => e = .returned (.int .i64 (fr : Int)) ∧ Grows w w' := by
 have hv := fun w' (hg : Grows w w') => bvalid_any A c w' hC hp hb (h.grows hg) hc1 hc2 hf
 have hw := fun w' (hg : Grows w w') => rswait_any A c w' hp hb (h.grows hg)
 clear hC hp hb h
 go_enter Tryz.func15, Tryz.ntmps15
 have hB := (Below.refl w.heap.size w).alloc (Nat.le_refl _) (Obj.cells #[.int .i64 (cap : Int), .int .i64 T, .int .i64 dd, .int .i64 G, .int .i64 M, .int .i64 (ch : Int), .int .i64 n, .int .i64 d, .int .i64 a, .int .i64 p, .int .i64 f, .slice A l.length c, .int .i64 0, .int .i64 0] 49)
 go_wp2_with fail
 refine (hv _ hB).mono ?_
 rintro e w1 ⟨rfl, hq⟩
 have k1 := Blk.grows (Blk.new _ _ _) hq
 replace hB := below_grows hB (by simp) hq
 have x1 := k1.cell
 clear hq
 go_wp2_with fail
 refine (hw _ hB).mono ?_
 rintro e w2 ⟨rfl, hq⟩
 replace hB := below_grows hB (Nat.le_refl _) hq
 clear hq
 go_wp2
 go_ret
 exact ⟨rfl, hB⟩
theorem zero_len (fr ch : Nat) : (List.replicate (fr * ch) (0 : Int)).length = fr * ch := List.length_replicate
set_option maxRecDepth 100000 in
set_option maxHeartbeats 8000000 in
theorem bnew_any {ch fr cap : Nat} {T dd G M n d : Int} (w : World) (hC : okCt T dd G M) (hp : okPh n d 0 0 0 = true) (h1 : 1 ≤ ch) (h2 : ch ≤ 8) (hc1 : 1 ≤ cap) (hc2 : cap ≤ 65536) (hf : fr ≤ cap) :
 Calls Tryz.prog 94 #[.int .i64 (ch : Int), .agg #[.int .i64 n, .int .i64 d], .agg #[.int .i64 T, .int .i64 dd, .int .i64 G, .int .i64 M], .int .i64 (cap : Int), .int .i64 (fr : Int)] w fun e w' => (∃ A c, e = .returned (.tuple #[.agg #[.int .i64 (cap : Int), .int .i64 T, .int .i64 dd, .int .i64 G, .int .i64 M, .int .i64 (ch : Int), .int .i64 n, .int .i64 d, .int .i64 0, .int .i64 0, .int .i64 0, .slice A (fr * ch) c, .int .i64 0, .int .i64 0], .int .i64 0]) ∧ OwnS w' w.heap.size (.slice A (fr * ch) c) (List.replicate (fr * ch) 0) ∧ fr * ch ≤ c) ∧ Grows w w' := by
 have hn := fun w => rsnew_any (ch := ch) w hp h1 h2
 have hcv := fun w => cvalid_any T dd G M w hC
 have hsl := fun w => silence_any ch fr w h1 h2 (by omega)
 have hz := zeros_ok h1 h2 (show fr ≤ 65536 by omega)
 have hfd := fun B e w h' => rsfeed_any none B 0 e (a := 0) (p := 0) (f := 0) w hp (BlkOk.nil h1 h2) hz (by omega) (sams_nil w) h'
 simp only [zero_len, List.nil_append, List.length_nil] at hfd
 clear hC hp hz
 have d1 : decide ((cap : Int) < 1) = false := by simp only [decide_eq_false_iff_not]; omega
 have d2 : decide (65536 < (cap : Int)) = false := by simp only [decide_eq_false_iff_not]; omega
 have d3 : decide ((fr : Int) < 0) = false := by simp only [decide_eq_false_iff_not]; omega
 have d4 : decide ((cap : Int) < (fr : Int)) = false := by simp only [decide_eq_false_iff_not]; omega
 have d5 : decide (cap < fr) = false := by simp only [decide_eq_false_iff_not]; omega
 have d6 : decide (cap < 1) = false := by simp only [decide_eq_false_iff_not]; omega
 have d7 : decide (65536 < cap) = false := by simp only [decide_eq_false_iff_not]; omega
 obtain ⟨nn, hnn⟩ : ∃ nn, fr * ch = nn := ⟨_, rfl⟩
 simp only [hnn] at hsl hfd ⊢
 clear hnn
 go_enter Tryz.func94, Tryz.ntmps94
 have hB := (((Below.refl w.heap.size w).alloc (Nat.le_refl _) (Obj.cells #[.int .i64 n, .int .i64 d] 42)).alloc (by simp) (Obj.cells #[.int .i64 T, .int .i64 dd, .int .i64 G, .int .i64 M] 40)).alloc (by simp <;> omega) (Obj.cells #[.int .i64 0, .int .i64 0, .int .i64 0, .int .i64 0, .int .i64 0, .int .i64 0, .int .i64 0, .int .i64 0, .int .i64 0, .int .i64 0, .int .i64 0, .slice none 0 0, .int .i64 0, .int .i64 0] 49)
 go_wp2_with fail
 refine (hn _).mono ?_
 rintro e w1 ⟨rfl, hq⟩
 have k7 := Blk.grows (Blk.alloc (blk_new_at (n := w.heap.size + 1) (by simp)) _) hq
 have k10 := Blk.grows (blk_new_at (n := w.heap.size + 1 + 1) (by simp)) hq
 replace hB := below_grows hB (by simp <;> omega) hq
 clear hq hn
 have z10 := k10.lt
 go_upto_region 4 with fail
 have k12 := Blk.new w1 47 #[.int .i64 (ch : Int), .int .i64 n, .int .i64 d, .int .i64 0, .int .i64 0, .int .i64 0, .slice none 0 0]
 have hq := (Below.refl w1.heap.size w1).alloc (Nat.le_refl _) (Obj.cells #[.int .i64 (ch : Int), .int .i64 n, .int .i64 d, .int .i64 0, .int .i64 0, .int .i64 0, .slice none 0 0] 47)
 replace k7 := k7.grows hq
 replace k10 := k10.grows hq
 replace hB := below_grows hB (Nat.le_refl _) hq
 clear hq
 generalize w1.heap.size = q12 at *
 generalize World.alloc w1 _ = w2 at *
 have x7 := k7.cell
 go_wp2_with fail
 refine (hcv _).mono ?_
 rintro e w3 ⟨rfl, hq⟩
 replace k7 := k7.grows hq
 replace k10 := k10.grows hq
 replace k12 := k12.grows hq
 replace hB := below_grows hB (Nat.le_refl _) hq
 clear hq hcv x7
 go_wp2_with fail
 refine (hsl _).mono ?_
 rintro e w4 ⟨⟨A4, rfl, ho4⟩, hq⟩
 replace k7 := k7.grows hq
 replace k10 := k10.grows hq
 replace k12 := k12.grows hq
 replace hB := below_grows hB (Nat.le_refl _) hq
 clear hq hsl
 have z12 := k12.lt
 go_upto_region 7 with fail
 have k14 := Blk.new w4 60 #[.int .i64 (ch : Int), .slice A4 nn nn]
 have hq := (Below.refl w4.heap.size w4).alloc (Nat.le_refl _) (Obj.cells #[.int .i64 (ch : Int), .slice A4 nn nn] 60)
 replace k7 := k7.grows hq
 replace k10 := k10.grows hq
 replace k12 := k12.grows hq
 replace ho4 := ho4.grows hq
 replace hB := below_grows hB (Nat.le_refl _) hq
 clear hq
 generalize w4.heap.size = q14 at *
 generalize World.alloc w4 _ = w5 at *
 have x12 := k12.cell
 have x14 := k14.cell
 have hs4 := ho4.sams
 go_wp2_with fail
 refine (hfd _ _ _ hs4).mono ?_
 rintro e w6 ⟨⟨A6, c6, rfl, ho6, hc6⟩, hq⟩
 have z14 := k14.lt
 replace k7 := k7.grows hq
 replace k10 := k10.grows hq
 replace k12 := k12.grows hq
 replace hB := below_grows hB (Nat.le_refl _) hq
 replace ho6 := ho6.mono (base' := w.heap.size) (by omega)
 clear hq x12 x14 hs4 ho4 k14 hfd
 have x12 := k12.cell
 have f12 := k12.frozen
 go_upto_region 8 with fail
 replace ho6 := ho6.farT k12 (by decide) 0 (.int .i64 (ch : Int))
 replace k7 := k7.far (p := ⟨q12, 0, none⟩) (by simp <;> omega) (.int .i64 (ch : Int))
 replace k10 := k10.far (p := ⟨q12, 0, none⟩) (by simp <;> omega) (.int .i64 (ch : Int))
 replace hB := hB.setCell (p := ⟨q12, 0, none⟩) (by simp <;> omega) (.int .i64 (ch : Int))
 replace k12 := k12.set_ 0 (.int .i64 (ch : Int))
 replace ho6 := ho6.farT k12 (by decide) 1 (.int .i64 n)
 replace k7 := k7.far (p := ⟨q12, 1, none⟩) (by simp <;> omega) (.int .i64 n)
 replace k10 := k10.far (p := ⟨q12, 1, none⟩) (by simp <;> omega) (.int .i64 n)
 replace hB := hB.setCell (p := ⟨q12, 1, none⟩) (by simp <;> omega) (.int .i64 n)
 replace k12 := k12.set_ 1 (.int .i64 n)
 replace ho6 := ho6.farT k12 (by decide) 2 (.int .i64 d)
 replace k7 := k7.far (p := ⟨q12, 2, none⟩) (by simp <;> omega) (.int .i64 d)
 replace k10 := k10.far (p := ⟨q12, 2, none⟩) (by simp <;> omega) (.int .i64 d)
 replace hB := hB.setCell (p := ⟨q12, 2, none⟩) (by simp <;> omega) (.int .i64 d)
 replace k12 := k12.set_ 2 (.int .i64 d)
 replace ho6 := ho6.farT k12 (by decide) 3 (.int .i64 0)
 replace k7 := k7.far (p := ⟨q12, 3, none⟩) (by simp <;> omega) (.int .i64 0)
 replace k10 := k10.far (p := ⟨q12, 3, none⟩) (by simp <;> omega) (.int .i64 0)
 replace hB := hB.setCell (p := ⟨q12, 3, none⟩) (by simp <;> omega) (.int .i64 0)
 replace k12 := k12.set_ 3 (.int .i64 0)
 replace ho6 := ho6.farT k12 (by decide) 4 (.int .i64 0)
 replace k7 := k7.far (p := ⟨q12, 4, none⟩) (by simp <;> omega) (.int .i64 0)
 replace k10 := k10.far (p := ⟨q12, 4, none⟩) (by simp <;> omega) (.int .i64 0)
 replace hB := hB.setCell (p := ⟨q12, 4, none⟩) (by simp <;> omega) (.int .i64 0)
 replace k12 := k12.set_ 4 (.int .i64 0)
 replace ho6 := ho6.farT k12 (by decide) 5 (.int .i64 0)
 replace k7 := k7.far (p := ⟨q12, 5, none⟩) (by simp <;> omega) (.int .i64 0)
 replace k10 := k10.far (p := ⟨q12, 5, none⟩) (by simp <;> omega) (.int .i64 0)
 replace hB := hB.setCell (p := ⟨q12, 5, none⟩) (by simp <;> omega) (.int .i64 0)
 replace k12 := k12.set_ 5 (.int .i64 0)
 replace ho6 := ho6.farT k12 (by decide) 6 (.slice A6 nn c6)
 replace k7 := k7.far (p := ⟨q12, 6, none⟩) (by simp <;> omega) (.slice A6 nn c6)
 replace k10 := k10.far (p := ⟨q12, 6, none⟩) (by simp <;> omega) (.slice A6 nn c6)
 replace hB := hB.setCell (p := ⟨q12, 6, none⟩) (by simp <;> omega) (.slice A6 nn c6)
 replace k12 := k12.set_ 6 (.slice A6 nn c6)
 replace k12 : Blk _ q12 47 #[.int .i64 (ch : Int), .int .i64 n, .int .i64 d, .int .i64 0, .int .i64 0, .int .i64 0, .slice A6 nn c6] := k12
 generalize World.setCell _ _ _ = w7 at *
 clear x12 f12
 have x12 := k12.cell
 have x7 := k7.cell
 have x10 := k10.cell
 have f10 := k10.frozen
 refine wp_region_lit ?_
 iterate 4
  refine wpList_plain rfl (fun K hK => ?_)
  go_simp
  refine hK _ _ ?_
  clear hK K
 refine wpList_store_row (cs := #[.int .i64 (cap : Int), .int .i64 T, .int .i64 dd, .int .i64 G, .int .i64 M, .int .i64 (ch : Int), .int .i64 n, .int .i64 d, .int .i64 0, .int .i64 0, .int .i64 0, .slice A6 nn c6, .int .i64 0, .int .i64 0]) rfl _ _ rfl rfl rfl rfl k10 brinfo rfl (by simp [Value.oneCell']) ?_
 replace ho6 := ho6.row k10 (by decide) #[.int .i64 (cap : Int), .int .i64 T, .int .i64 dd, .int .i64 G, .int .i64 M, .int .i64 (ch : Int), .int .i64 n, .int .i64 d, .int .i64 0, .int .i64 0, .int .i64 0, .slice A6 nn c6, .int .i64 0, .int .i64 0]
 replace k10 := k10.row (cs := #[.int .i64 (cap : Int), .int .i64 T, .int .i64 dd, .int .i64 G, .int .i64 M, .int .i64 (ch : Int), .int .i64 n, .int .i64 d, .int .i64 0, .int .i64 0, .int .i64 0, .slice A6 nn c6, .int .i64 0, .int .i64 0])
 replace hB := below_row hB (g := w.heap.size + 1 + 1) (by omega) #[.int .i64 (cap : Int), .int .i64 T, .int .i64 dd, .int .i64 G, .int .i64 M, .int .i64 (ch : Int), .int .i64 n, .int .i64 d, .int .i64 0, .int .i64 0, .int .i64 0, .slice A6 nn c6, .int .i64 0, .int .i64 0]
 generalize World.setRow _ _ _ = w8 at *
 clear x10 f10 x7 x12
 go_wp2
 have hl := run_loadVar_row (P := Tryz.prog) w8 (w.heap.size + 1 + 1) 49 49 #[.int .i64 (cap : Int), .int .i64 T, .int .i64 dd, .int .i64 G, .int .i64 M, .int .i64 (ch : Int), .int .i64 n, .int .i64 d, .int .i64 0, .int .i64 0, .int .i64 0, .slice A6 nn c6, .int .i64 0, .int .i64 0] (0, 0) _ k10 Tryz.underlying49 rfl brinfo
 refine bodyPost_ret (v := .tuple #[.agg #[.int .i64 (cap : Int), .int .i64 T, .int .i64 dd, .int .i64 G, .int .i64 M, .int .i64 (ch : Int), .int .i64 n, .int .i64 d, .int .i64 0, .int .i64 0, .int .i64 0, .slice A6 nn c6, .int .i64 0, .int .i64 0], .int .i64 0]) ?_ rfl ⟨⟨A6, c6, rfl, ho6, hc6⟩, hB⟩
 unfold results
 simp only [Tryz.results94]
 simp [asAddr, hl]
end Go.Proofs.YtbfdaojffffaaaaGreat

namespace Go.Proofs.YtbfdaojffffaaaaGreat
open Go.RowKit
set_option maxRecDepth 100000 in
set_option maxHeartbeats 8000000 in
theorem bpush_any (A : Option Addr) (c e : Nat) (bd : Addr) {ch fr fr' cap : Nat} {T dd G M n d a p f : Int} {l m : List Int} (w : World) (hC : okCt T dd G M) (hp : okPh n d a p f = true) (hb : BlkOk ch fr l) (h : Sams w A l) (hc1 : 1 ≤ cap) (hc2 : cap ≤ 65536) (hf : fr + fr' ≤ cap) (hb' : BlkOk ch fr' m) (h' : Sams w (some bd) m) (hm0 : 0 < m.length) (hme : m.length ≤ e) :
 Calls Tryz.prog 132 #[.agg #[.int .i64 (cap : Int), .int .i64 T, .int .i64 dd, .int .i64 G, .int .i64 M, .int .i64 (ch : Int), .int .i64 n, .int .i64 d, .int .i64 a, .int .i64 p, .int .i64 f, .slice A l.length c, .int .i64 0, .int .i64 0], .agg #[.int .i64 (ch : Int), .slice (some bd) m.length e]] w fun e w' => (∃ A' c', e = .returned (.tuple #[.agg #[.int .i64 (cap : Int), .int .i64 T, .int .i64 dd, .int .i64 G, .int .i64 M, .int .i64 (ch : Int), .int .i64 n, .int .i64 d, .int .i64 a, .int .i64 p, .int .i64 f, .slice A' (l ++ m).length c', .int .i64 0, .int .i64 0], .int .i64 0, .int .i64 0]) ∧ OwnS w' w.heap.size (.slice A' (l ++ m).length c') (l ++ m) ∧ (l ++ m).length ≤ c') ∧ Grows w w' := by
 have hv := fun w' (hg : Grows w w') => bvalid_any A c w' hC hp hb (h.grows hg) hc1 hc2 (by omega)
 have hsv := fun w' (hg : Grows w w') => svalid_any (some bd) e w' hb' (h'.grows hg)
 have hw := fun w' (hg : Grows w w') => rswait_any A c w' hp hb (h.grows hg)
 have hfd := fun w' (hg : Grows w w') => rsfeed_any A (some bd) c m.length w' hp hb hb' (by omega) (h.grows hg) (h'.grows hg)
 obtain ⟨t1, -⟩ := hb'.div
 have hb1 := hb.c1
 have hb2 := hb.c2
 have hl8 := hb.le
 have hm8 := hb'.le
 have hlen := hb'.len
 have t3 : ((ch : Int) == 0) = false := by simp; omega
 have t4 : ¬ (ch : Int) = 0 := by omega
 have t5 : ¬ (ch : Int) = -1 := by omega
 have wf : IntKind.i64.wrap (fr' : Int) = (fr' : Int) := IntWalk.i64_in _ (by omega)
 have ws : IntKind.i64.wrap ((cap : Int) - (fr : Int)) = (cap : Int) - (fr : Int) := IntWalk.i64_in _ (by omega)
 have hmin : min (fr' : Int) ((cap : Int) - (fr : Int)) = (fr' : Int) := by omega
 have wm : IntKind.i64.wrap ((fr' : Int) * (ch : Int)) = (m.length : Int) := by rw [hlen, Int.natCast_mul, ← Int.natCast_mul]; exact IntWalk.i64_in _ (by omega)
 have wz : IntKind.i64.wrap ((fr' : Int) - (fr' : Int)) = 0 := by rw [Int.sub_self]; rfl
 have wz0 : IntKind.i64.wrap 0 = 0 := by decide
 obtain ⟨mm, hmm⟩ : ∃ mm, m.length = mm := ⟨_, rfl⟩
 obtain ⟨qq, hqq⟩ : ∃ qq, l ++ m = qq := ⟨_, rfl⟩
 simp only [hmm, hqq] at *
 have m0 : ¬ mm = 0 := by omega
 have m1 : (0 : Int) ≤ (mm : Int) := by omega
 have m2 : (mm : Int) ≤ (e : Int) := by omega
 clear hlen hb hb' hC hp hmm hqq h h'
 go_enter Tryz.func132, Tryz.ntmps132
 have hB := (((Below.refl w.heap.size w).alloc (Nat.le_refl _) (Obj.cells #[.int .i64 (cap : Int), .int .i64 T, .int .i64 dd, .int .i64 G, .int .i64 M, .int .i64 (ch : Int), .int .i64 n, .int .i64 d, .int .i64 a, .int .i64 p, .int .i64 f, .slice A l.length c, .int .i64 0, .int .i64 0] 49)).alloc (by simp) (Obj.cells #[.int .i64 (ch : Int), .slice (some bd) mm e] 60)).alloc (by simp <;> omega) (Obj.cells #[.int .i64 0, .int .i64 0, .int .i64 0, .int .i64 0, .int .i64 0, .int .i64 0, .int .i64 0, .int .i64 0, .int .i64 0, .int .i64 0, .int .i64 0, .slice none 0 0, .int .i64 0, .int .i64 0] 49)
 go_wp2_with fail
 refine (hv _ hB).mono ?_
 rintro e1 w1 ⟨rfl, hq⟩
 have k2 := Blk.grows (Blk.alloc (Blk.alloc (Blk.new _ _ _) _) _) hq
 have k3 := Blk.grows (Blk.alloc (blk_new_at (n := w.heap.size + 1) (by simp)) _) hq
 have k4 := Blk.grows (blk_new_at (n := w.heap.size + 1 + 1) (by simp)) hq
 replace hB := below_grows hB (by simp <;> omega) hq
 clear hq hv
 have x3 := k3.cell
 go_wp2_with fail
 refine (hsv _ hB).mono ?_
 rintro e1 w2 ⟨rfl, hq⟩
 replace k2 := k2.grows hq
 replace k3 := k3.grows hq
 replace k4 := k4.grows hq
 replace hB := below_grows hB (Nat.le_refl _) hq
 clear hq hsv x3
 have x2 := k2.cell
 have x3 := k3.cell
 go_upto_region 6 with fail
 clear x2 x3 t1 t3 t4 t5 wf
 refine wp_region_mix (fun w' => Grows w2 w') [] 9 70 (by kernel_rfl) (by kernel_rfl) rfl ?_ float_none ?_ ?_
 ·exact fun w1 w2 h0 hg => below_grows h0 (Nat.le_refl _) hg
 ·exact Grows.drew' _
 ·skip
  simp only [List.take_succ_cons, List.take_zero, List.drop_succ_cons, List.drop_zero]
  iterate 9
   refine calm_plain rfl rfl (v := ?_) (a' := ?_) (fun w1 hw1 => ?_) ?_ ?_
   rotate_left 2
   ·have h0 := hw1
    have x2 := (k2.grows h0).cell
    have hg := below_grows hB (Nat.le_refl _) h0
    go_simp
    first | exact calm_val | (refine calm_call ?_; with_reducible exact hw _ hg)
   ·simp only [Act.put, List.setIfInBounds_toArray, List.set_cons_succ, List.set_cons_zero]
    rfl
  refine calm_done (end_none ?_)
  rintro W3 hq
  replace k2 := k2.grows hq
  replace k3 := k3.grows hq
  replace k4 := k4.grows hq
  replace hB := below_grows hB (Nat.le_refl _) hq
  clear hq hw hmin ws
  have x2 := k2.cell
  have x3 := k3.cell
  have f3 := k3.frozen
  go_upto_region 8 with fail
  replace k2 := k2.far (p := ⟨w.heap.size + 1, 1, none⟩) (by simp) (.slice (some bd) mm mm)
  replace k4 := k4.far (p := ⟨w.heap.size + 1, 1, none⟩) (by simp) (.slice (some bd) mm mm)
  replace hB := hB.setCell (p := ⟨w.heap.size + 1, 1, none⟩) (by simp) (.slice (some bd) mm mm)
  replace k3 := k3.set_ 1 (.slice (some bd) mm mm)
  replace k3 : Blk _ (w.heap.size + 1) 60 #[.int .i64 (ch : Int), .slice (some bd) mm mm] := k3
  generalize World.setCell _ _ _ = W4 at *
  clear x2 x3 f3
  have x2 := k2.cell
  have x3 := k3.cell
  go_wp2_with fail
  refine (hfd _ hB).mono ?_
  rintro e1 w5 ⟨⟨A', c', rfl, ho, hc'⟩, hq⟩
  have hz := k4.lt
  replace k2 := k2.grows hq
  replace k4 := k4.grows hq
  replace hB := below_grows hB (Nat.le_refl _) hq
  replace ho := ho.mono (base' := w.heap.size) (by omega)
  clear hq x2 x3 k3 hfd
  have x2 := k2.cell
  have f2 := k2.frozen
  go_upto_region 9 with fail
  replace ho := ho.farT k2 (by decide) 5 (.int .i64 (ch : Int))
  replace k4 := k4.far (p := ⟨w.heap.size, 5, none⟩) (by simp <;> omega) (.int .i64 (ch : Int))
  replace hB := hB.setCell (p := ⟨w.heap.size, 5, none⟩) (by simp <;> omega) (.int .i64 (ch : Int))
  replace k2 := k2.set_ 5 (.int .i64 (ch : Int))
  replace ho := ho.farT k2 (by decide) 6 (.int .i64 n)
  replace k4 := k4.far (p := ⟨w.heap.size, 6, none⟩) (by simp <;> omega) (.int .i64 n)
  replace hB := hB.setCell (p := ⟨w.heap.size, 6, none⟩) (by simp <;> omega) (.int .i64 n)
  replace k2 := k2.set_ 6 (.int .i64 n)
  replace ho := ho.farT k2 (by decide) 7 (.int .i64 d)
  replace k4 := k4.far (p := ⟨w.heap.size, 7, none⟩) (by simp <;> omega) (.int .i64 d)
  replace hB := hB.setCell (p := ⟨w.heap.size, 7, none⟩) (by simp <;> omega) (.int .i64 d)
  replace k2 := k2.set_ 7 (.int .i64 d)
  replace ho := ho.farT k2 (by decide) 8 (.int .i64 a)
  replace k4 := k4.far (p := ⟨w.heap.size, 8, none⟩) (by simp <;> omega) (.int .i64 a)
  replace hB := hB.setCell (p := ⟨w.heap.size, 8, none⟩) (by simp <;> omega) (.int .i64 a)
  replace k2 := k2.set_ 8 (.int .i64 a)
  replace ho := ho.farT k2 (by decide) 9 (.int .i64 p)
  replace k4 := k4.far (p := ⟨w.heap.size, 9, none⟩) (by simp <;> omega) (.int .i64 p)
  replace hB := hB.setCell (p := ⟨w.heap.size, 9, none⟩) (by simp <;> omega) (.int .i64 p)
  replace k2 := k2.set_ 9 (.int .i64 p)
  replace ho := ho.farT k2 (by decide) 10 (.int .i64 f)
  replace k4 := k4.far (p := ⟨w.heap.size, 10, none⟩) (by simp <;> omega) (.int .i64 f)
  replace hB := hB.setCell (p := ⟨w.heap.size, 10, none⟩) (by simp <;> omega) (.int .i64 f)
  replace k2 := k2.set_ 10 (.int .i64 f)
  replace ho := ho.farT k2 (by decide) 11 (.slice A' qq.length c')
  replace k4 := k4.far (p := ⟨w.heap.size, 11, none⟩) (by simp <;> omega) (.slice A' qq.length c')
  replace hB := hB.setCell (p := ⟨w.heap.size, 11, none⟩) (by simp <;> omega) (.slice A' qq.length c')
  replace k2 := k2.set_ 11 (.slice A' qq.length c')
  replace k2 : Blk _ w.heap.size 49 #[.int .i64 (cap : Int), .int .i64 T, .int .i64 dd, .int .i64 G, .int .i64 M, .int .i64 (ch : Int), .int .i64 n, .int .i64 d, .int .i64 a, .int .i64 p, .int .i64 f, .slice A' qq.length c', .int .i64 0, .int .i64 0] := k2
  generalize World.setCell _ _ _ = w6 at *
  clear x2 f2
  have x2 := k2.cell
  have f2 := k2.frozen
  go_upto_region 10 with fail
  replace ho := ho.farT k2 (by decide) 12 (.int .i64 0)
  replace k4 := k4.far (p := ⟨w.heap.size, 12, none⟩) (by simp <;> omega) (.int .i64 0)
  replace hB := hB.setCell (p := ⟨w.heap.size, 12, none⟩) (by simp) (.int .i64 0)
  replace k2 := k2.set_ 12 (.int .i64 0)
  replace k2 : Blk _ w.heap.size 49 #[.int .i64 (cap : Int), .int .i64 T, .int .i64 dd, .int .i64 G, .int .i64 M, .int .i64 (ch : Int), .int .i64 n, .int .i64 d, .int .i64 a, .int .i64 p, .int .i64 f, .slice A' qq.length c', .int .i64 0, .int .i64 0] := k2
  generalize World.setCell _ _ _ = w7 at *
  clear x2 f2
  refine wp_region_lit ?_
  refine wpList_load_row rfl _ rfl rfl k2 Tryz.underlying49 rfl brinfo ?_
  iterate 3
   refine wpList_plain rfl (fun K hK => ?_)
   go_simp
   refine hK _ _ ?_
   clear hK K
  refine wpList_store_row (cs := #[.int .i64 (cap : Int), .int .i64 T, .int .i64 dd, .int .i64 G, .int .i64 M, .int .i64 (ch : Int), .int .i64 n, .int .i64 d, .int .i64 a, .int .i64 p, .int .i64 f, .slice A' qq.length c', .int .i64 0, .int .i64 0]) rfl _ _ rfl rfl rfl rfl k4 brinfo rfl (by simp [Value.oneCell']) ?_
  replace ho := ho.row k4 (by decide) #[.int .i64 (cap : Int), .int .i64 T, .int .i64 dd, .int .i64 G, .int .i64 M, .int .i64 (ch : Int), .int .i64 n, .int .i64 d, .int .i64 a, .int .i64 p, .int .i64 f, .slice A' qq.length c', .int .i64 0, .int .i64 0]
  replace k4 := k4.row (cs := #[.int .i64 (cap : Int), .int .i64 T, .int .i64 dd, .int .i64 G, .int .i64 M, .int .i64 (ch : Int), .int .i64 n, .int .i64 d, .int .i64 a, .int .i64 p, .int .i64 f, .slice A' qq.length c', .int .i64 0, .int .i64 0])
  replace hB := below_row hB (g := w.heap.size + 1 + 1) (by omega) #[.int .i64 (cap : Int), .int .i64 T, .int .i64 dd, .int .i64 G, .int .i64 M, .int .i64 (ch : Int), .int .i64 n, .int .i64 d, .int .i64 a, .int .i64 p, .int .i64 f, .slice A' qq.length c', .int .i64 0, .int .i64 0]
  generalize World.setRow _ _ _ = w8 at *
  go_wp2
  have hl := run_loadVar_row (P := Tryz.prog) w8 (w.heap.size + 1 + 1) 49 49 #[.int .i64 (cap : Int), .int .i64 T, .int .i64 dd, .int .i64 G, .int .i64 M, .int .i64 (ch : Int), .int .i64 n, .int .i64 d, .int .i64 a, .int .i64 p, .int .i64 f, .slice A' qq.length c', .int .i64 0, .int .i64 0] (0, 0) _ k4 Tryz.underlying49 rfl brinfo
  refine bodyPost_ret (v := .tuple #[.agg #[.int .i64 (cap : Int), .int .i64 T, .int .i64 dd, .int .i64 G, .int .i64 M, .int .i64 (ch : Int), .int .i64 n, .int .i64 d, .int .i64 a, .int .i64 p, .int .i64 f, .slice A' qq.length c', .int .i64 0, .int .i64 0], .int .i64 0, .int .i64 0]) ?_ rfl ⟨⟨A', c', rfl, ho, hc'⟩, hB⟩
  unfold results
  simp only [Tryz.results132]
  simp [asAddr, hl]
end Go.Proofs.YtbfdaojffffaaaaGreat

namespace Go.Proofs.YtbfdaojffffaaaaGreat
open Go.RowKit
section
variable {P : Program} {o : Oper} {ev : Operand → Value} {w : World} {g : Nat} {t ty : TypeId} {cs old : Array Value} {d : TypeDesc}
theorem calm_load_row (p : Operand) (ho : o.op = .load ty p) (hp : ev p = .pointer (some ⟨g, 0, none⟩)) (hb : Blk w g t cs)
 (hu : P.underlying ty = some d) (hd : (match d with | .struct _ | .array _ _ => true | _ => false) = true) (hi : (P.info? ty).map (·.size) = some cs.size) :
 calmR P w ((execOp ev o).run P w) (.agg cs) := by
 have hl := run_loadVar_row (P := P) w g t ty cs (0, 0) d hb hu hd hi
 unfold execOp
 simp only [ho, Instr.loadAt, Instr.sureAddr, Sem.run_bind, Sem.run_pure, Result.andThen_ok, hp, hl]
 exact calm_val
theorem step_store_row {T : World → Prop} (p v : Operand) (ho : o.op = .store ty p v) (hp : ev p = .pointer (some ⟨g, 0, none⟩)) (hv : ev v = .agg cs) (hb : Blk w g t old)
 (hi : (P.info? ty).map (·.size) = some cs.size) (hs : old.size = cs.size) (h1 : cs.all (·.oneCell') = true) (h : T (w.setRow g cs)) :
 stepR P T ((execOp ev o).run P w) undef := by
 have hl := run_storeVar_row (P := P) w g t ty old cs hb hi hs h1
 unfold execOp
 simp only [ho, Instr.storeAt, Instr.sureAddr, Sem.run_bind, Sem.run_pure, Result.andThen_ok, hp, hv, hl]
 exact step_skip h
/-- A cell that was there before is read as it was. -/
theorem below_cell {B : Nat} {a w : World} (h : Below B a w) {p : Addr} {v : Value} (hp : p.block < B) (hc : a.cell? p = some v) : w.cell? p = some v := by
 have hb := h.block p.block hp
 unfold World.cell? at hc ⊢
 rw [hb]
 exact hc
end
end Go.Proofs.YtbfdaojffffaaaaGreat

namespace Go.Proofs.YtbfdaojffffaaaaGreat
open Go.RowKit
theorem b60info : (Tryz.prog.info? 60).map (·.size) = some 2 := by kernel_rfl
theorem okAd_adj {T dd G M y : Int} (h : okCt T dd G M) : okAd (adjF T dd G M y) = true := by
 obtain ⟨h1, h2, h3, h4, h5, h6, h7, h8⟩ := h
 have := adj_bd (T := T) (dead := dd) (G := G) (M := M) (y := y) (by omega) h7
 simp only [okAd, Bool.and_eq_true, decide_eq_true_eq]
 omega
theorem okPh_tune {n d a p f k : Int} (h : okPh n d a p f = true) (hk : okAd k = true) : okPh n d k p f = true := by
 obtain ⟨b1, b2, b3, b4, b5, b6, b7, b8, b9, b10⟩ := okPh_bd h
 simp only [okAd, Bool.and_eq_true, decide_eq_true_eq] at hk
 exact okPh_mk (okPh_r h) b2 b4 hk ⟨b7, b8⟩ ⟨b9, b10⟩
theorem tune_is {n d a p f k : Int} (h : okPh n d a p f = true) (hk : okAd k = true) : tuneF n d a p f k = ⟨n, d, k, p, f, 0⟩ := by
 unfold tuneF
 rw [if_neg (by simp [h]), if_neg (by simp [hk])]
theorem make_min {n d a p f : Int} {fr m : Nat} {r : Int} (h : okPh n d a p f = true) (hr : IsMake n d a f fr r) (hm : m ≤ 65536) (hn : needF n d a f m ≤ fr) : min r (m : Int) = (m : Int) ∧ 0 ≤ r ∧ r ≤ 65536 := by
 obtain ⟨r1, r2, r3, r4⟩ := hr
 refine ⟨?_, r1, r2⟩
 rcases r4 with r4 | r4
 ·omega
 ·apply Classical.byContradiction
  intro hlt
  have := need_mono h (show 0 ≤ r + 1 by omega) (show r + 1 ≤ (m : Int) by omega) (by omega)
  omega
set_option maxRecDepth 100000 in
set_option maxHeartbeats 20000000 in
theorem bpull_any (ad : Addr) (c : Nat) {ch fr cap m : Nat} {T dd G M n d a p f aj : Int} {l : List Int} (w : World) (hC : okCt T dd G M) (hp : okPh n d a p f = true) (hb : BlkOk ch fr l) (h : Sams w (some ad) l) (hlc : l.length ≤ c) (hc1 : 1 ≤ cap) (hc2 : cap ≤ 65536) (hf : fr ≤ cap)
 (haj : adjF T dd G M fr = aj) (hm : m ≤ 65536) (hn : needF n d aj f m ≤ fr) (hpos : p + posF n d aj f m ≤ 1125899906842624) :
 Calls Tryz.prog 133 #[.agg #[.int .i64 (cap : Int), .int .i64 T, .int .i64 dd, .int .i64 G, .int .i64 M, .int .i64 (ch : Int), .int .i64 n, .int .i64 d, .int .i64 a, .int .i64 p, .int .i64 f, .slice (some ad) l.length c, .int .i64 0, .int .i64 0], .int .i64 (m : Int)] w fun e w' => (∃ B b A' c', e = .returned (.tuple #[.agg #[.int .i64 (ch : Int), .slice B (m * ch) b], .int .i64 0, .agg #[.int .i64 (cap : Int), .int .i64 T, .int .i64 dd, .int .i64 G, .int .i64 M, .int .i64 (ch : Int), .int .i64 n, .int .i64 d, .int .i64 aj, .int .i64 (p + posF n d aj f m), .int .i64 (fracF n d aj f m), .slice A' (l.length - posF n d aj f m * ch) c', .int .i64 0, .int .i64 0], .int .i64 0]) ∧
  OwnS w' w.heap.size (.slice B (m * ch) b) (outL ch l n d aj f m) ∧ m * ch ≤ b ∧ OwnS w' w.heap.size (.slice A' (l.length - posF n d aj f m * ch) c') (l.drop (posF n d aj f m * ch)) ∧ l.length - posF n d aj f m * ch ≤ c') ∧ Grows w w' := by
 have hv := fun w' (hg : Grows w w') => bvalid_any (some ad) c w' hC hp hb (h.grows hg) hc1 hc2 hf
 have hw := fun w' (hg : Grows w w') => rswait_any (some ad) c w' hp hb (h.grows hg)
 have hfr := hb.f
 have hca := fun w => cadj_any T dd G M fr w hC (by omega) (by omega)
 have hok : okAd aj = true := by rw [← haj]; exact okAd_adj hC
 have hp2 := okPh_tune hp hok
 have htn := fun w => tune_any n d a p f aj w
 rw [tune_is hp hok] at htn
 rw [haj] at hca
 have hmk := fun w => mk_good n d aj p f fr w hp2 (by omega) (by omega)
 have hmin := fun r (hr : IsMake n d aj f fr r) => make_min hp2 hr hm hn
 have htk := fun w' (hg : Grows w w') => rstake_any ad c w' hp2 hb (h.grows hg) hlc hm hn hpos
 have hch := hb.c2
 have hmb : m * ch ≤ 65536 * 8 := Nat.mul_le_mul hm hch
 generalize posF n d aj f m * ch = t at *
 generalize p + (posF n d aj f m : Int) = p' at *
 generalize fracF n d aj f m = f' at *
 generalize outL ch l n d aj f m = O at *
 generalize m * ch = mc at *
 obtain ⟨lt, hlt⟩ : ∃ lt, l.length - t = lt := ⟨_, rfl⟩
 simp only [hlt] at *
 clear hlt hC hb hp hp2 hok haj hn hpos
 have d1 : decide ((m : Int) < 0) = false := by simp only [decide_eq_false_iff_not]; omega
 have d2 : decide (65536 < (m : Int)) = false := by simp only [decide_eq_false_iff_not]; omega
 have wm0 : IntKind.i64.wrap ((m : Int) - (m : Int)) = 0 := by rw [Int.sub_self]; rfl
 have wz0 : IntKind.i64.wrap 0 = 0 := by decide
 have wzc : IntKind.i64.wrap (0 * (ch : Int)) = 0 := by rw [Int.zero_mul]; rfl
 go_enter Tryz.func133, Tryz.ntmps133
 have hB := (((Below.refl w.heap.size w).alloc (Nat.le_refl _) (Obj.cells #[.int .i64 (cap : Int), .int .i64 T, .int .i64 dd, .int .i64 G, .int .i64 M, .int .i64 (ch : Int), .int .i64 n, .int .i64 d, .int .i64 a, .int .i64 p, .int .i64 f, .slice (some ad) l.length c, .int .i64 0, .int .i64 0] 49)).alloc (by simp) (Obj.cells #[.int .i64 0, .slice none 0 0] 60)).alloc (by simp <;> omega) (Obj.cells #[.int .i64 0, .int .i64 0, .int .i64 0, .int .i64 0, .int .i64 0, .int .i64 0, .int .i64 0, .int .i64 0, .int .i64 0, .int .i64 0, .int .i64 0, .slice none 0 0, .int .i64 0, .int .i64 0] 49)
 go_wp2_with fail
 refine (hv _ hB).mono ?_
 rintro e1 w1 ⟨rfl, hq⟩
 have k2 := Blk.grows (Blk.alloc (Blk.alloc (Blk.new _ _ _) _) _) hq
 have k4 := Blk.grows (Blk.alloc (blk_new_at (n := w.heap.size + 1) (by simp)) _) hq
 have k6 := Blk.grows (blk_new_at (n := w.heap.size + 1 + 1) (by simp)) hq
 replace hB := below_grows hB (by simp <;> omega) hq
 clear hq hv
 have x2 := k2.cell
 go_wp2_with fail
 refine (hw _ hB).mono ?_
 rintro e1 w2 ⟨rfl, hq⟩
 replace k2 := k2.grows hq
 replace k4 := k4.grows hq
 replace k6 := k6.grows hq
 replace hB := below_grows hB (Nat.le_refl _) hq
 clear hq hw x2
 go_upto_region 6 with fail
 obtain ⟨S, HI, HO⟩ : ∃ S : Nat → World → Prop, Hid (∀ sN w', (Below w.heap.size w w' ∧ Blk w' (w.heap.size + 1) 60 #[.int .i64 0, .slice none 0 0] ∧ Blk w' (w.heap.size + 1 + 1) 49 #[.int .i64 0, .int .i64 0, .int .i64 0, .int .i64 0, .int .i64 0, .int .i64 0, .int .i64 0, .int .i64 0, .int .i64 0, .int .i64 0, .int .i64 0, .slice none 0 0, .int .i64 0, .int .i64 0] ∧ (sN ≤ 0 → Blk w' w.heap.size 49 #[.int .i64 (cap : Int), .int .i64 T, .int .i64 dd, .int .i64 G, .int .i64 M, .int .i64 (ch : Int), .int .i64 n, .int .i64 d, .int .i64 a, .int .i64 p, .int .i64 f, .slice (some ad) l.length c, .int .i64 0, .int .i64 0]) ∧ (0 < sN → Blk w' w.heap.size 49 #[.int .i64 (cap : Int), .int .i64 T, .int .i64 dd, .int .i64 G, .int .i64 M, .int .i64 (ch : Int), .int .i64 n, .int .i64 d, .int .i64 aj, .int .i64 p, .int .i64 f, .slice (some ad) l.length c, .int .i64 0, .int .i64 0])) → S sN w') ∧ Hid (∀ sN w', S sN w' → (Below w.heap.size w w' ∧ Blk w' (w.heap.size + 1) 60 #[.int .i64 0, .slice none 0 0] ∧ Blk w' (w.heap.size + 1 + 1) 49 #[.int .i64 0, .int .i64 0, .int .i64 0, .int .i64 0, .int .i64 0, .int .i64 0, .int .i64 0, .int .i64 0, .int .i64 0, .int .i64 0, .int .i64 0, .slice none 0 0, .int .i64 0, .int .i64 0] ∧ (sN ≤ 0 → Blk w' w.heap.size 49 #[.int .i64 (cap : Int), .int .i64 T, .int .i64 dd, .int .i64 G, .int .i64 M, .int .i64 (ch : Int), .int .i64 n, .int .i64 d, .int .i64 a, .int .i64 p, .int .i64 f, .slice (some ad) l.length c, .int .i64 0, .int .i64 0]) ∧ (0 < sN → Blk w' w.heap.size 49 #[.int .i64 (cap : Int), .int .i64 T, .int .i64 dd, .int .i64 G, .int .i64 M, .int .i64 (ch : Int), .int .i64 n, .int .i64 d, .int .i64 aj, .int .i64 p, .int .i64 f, .slice (some ad) l.length c, .int .i64 0, .int .i64 0]))) := ⟨fun sN w' => Below w.heap.size w w' ∧ Blk w' (w.heap.size + 1) 60 #[.int .i64 0, .slice none 0 0] ∧ Blk w' (w.heap.size + 1 + 1) 49 #[.int .i64 0, .int .i64 0, .int .i64 0, .int .i64 0, .int .i64 0, .int .i64 0, .int .i64 0, .int .i64 0, .int .i64 0, .int .i64 0, .int .i64 0, .slice none 0 0, .int .i64 0, .int .i64 0] ∧ (sN ≤ 0 → Blk w' w.heap.size 49 #[.int .i64 (cap : Int), .int .i64 T, .int .i64 dd, .int .i64 G, .int .i64 M, .int .i64 (ch : Int), .int .i64 n, .int .i64 d, .int .i64 a, .int .i64 p, .int .i64 f, .slice (some ad) l.length c, .int .i64 0, .int .i64 0]) ∧ (0 < sN → Blk w' w.heap.size 49 #[.int .i64 (cap : Int), .int .i64 T, .int .i64 dd, .int .i64 G, .int .i64 M, .int .i64 (ch : Int), .int .i64 n, .int .i64 d, .int .i64 aj, .int .i64 p, .int .i64 f, .slice (some ad) l.length c, .int .i64 0, .int .i64 0]), fun _ _ h => h, fun _ _ h => h⟩
 refine wp_region_step S [13] 14 91 (by kernel_rfl) (by kernel_rfl) rfl ?_ ?_ ?_
 ·exact fun p w1 w2 hs hg => HI.out _ _ (by obtain ⟨h0, h1, h2, a0, b0⟩ := HO.out _ _ hs; exact ⟨below_grows h0 (Nat.le_refl _) hg, h1.grows hg, h2.grows hg, fun e => (a0 e).grows hg, fun e => (b0 e).grows hg⟩)
 ·exact HI.out _ _ ⟨hB.drew, k4.drew, k6.drew, fun _ => k2.drew, fun e => absurd e (by omega)⟩
 simp only [List.take_succ_cons, List.take_zero, List.drop_succ_cons, List.drop_zero]
 refine st_plain rfl rfl (v := ?_) (a' := ?_) (fun w1 hw1 => ?_) ?_ ?_
 rotate_left 2
 ·obtain ⟨sN, hs⟩ := hw1
  obtain ⟨h0, h1, h2, a0, b0⟩ := HO.out _ _ hs
  go_simp
  exact calm_val
 ·simp only [Act.put, List.setIfInBounds_toArray, List.set_cons_succ, List.set_cons_zero]
  rfl
 refine st_plain rfl rfl (v := ?_) (a' := ?_) (fun w1 hw1 => ?_) ?_ ?_
 rotate_left 2
 ·obtain ⟨sN, hs⟩ := hw1
  obtain ⟨h0, h1, h2, a0, b0⟩ := HO.out _ _ hs
  go_simp
  exact calm_val
 ·simp only [Act.put, List.setIfInBounds_toArray, List.set_cons_succ, List.set_cons_zero]
  rfl
 refine st_upto (j := 0) (by kernel_rfl) rfl rfl (v := ?_) (a' := ?_) (fun w1 hw1 => ?_) ?_ ?_
 rotate_left 2
 ·obtain ⟨sN, hp, hs⟩ := hw1
  obtain ⟨h0, h1, h2, a0, b0⟩ := HO.out _ _ hs
  have x2 := (a0 (by omega)).cell
  go_simp
  exact calm_val
 ·simp only [Act.put, List.setIfInBounds_toArray, List.set_cons_succ, List.set_cons_zero]
  rfl
 refine st_plain rfl rfl (v := ?_) (a' := ?_) (fun w1 hw1 => ?_) ?_ ?_
 rotate_left 2
 ·obtain ⟨sN, hs⟩ := hw1
  obtain ⟨h0, h1, h2, a0, b0⟩ := HO.out _ _ hs
  go_simp
  exact calm_val
 ·simp only [Act.put, List.setIfInBounds_toArray, List.set_cons_succ, List.set_cons_zero]
  rfl
 refine st_upto (j := 0) (by kernel_rfl) rfl rfl (v := ?_) (a' := ?_) (fun w1 hw1 => ?_) ?_ ?_
 rotate_left 2
 ·obtain ⟨sN, hp, hs⟩ := hw1
  obtain ⟨h0, h1, h2, a0, b0⟩ := HO.out _ _ hs
  have x2 := (a0 (by omega)).cell
  go_simp
  exact calm_val
 ·simp only [Act.put, List.setIfInBounds_toArray, List.set_cons_succ, List.set_cons_zero]
  rfl
 refine st_plain rfl rfl (v := ?_) (a' := ?_) (fun w1 hw1 => ?_) ?_ ?_
 rotate_left 2
 ·obtain ⟨sN, hs⟩ := hw1
  obtain ⟨h0, h1, h2, a0, b0⟩ := HO.out _ _ hs
  go_simp
  exact calm_val
 ·simp only [Act.put, List.setIfInBounds_toArray, List.set_cons_succ, List.set_cons_zero]
  rfl
 refine st_plain rfl rfl (v := ?_) (a' := ?_) (fun w1 hw1 => ?_) ?_ ?_
 rotate_left 2
 ·obtain ⟨sN, hs⟩ := hw1
  obtain ⟨h0, h1, h2, a0, b0⟩ := HO.out _ _ hs
  go_simp
  refine calm_call ?_
  with_reducible exact hca _
 ·simp only [Act.put, List.setIfInBounds_toArray, List.set_cons_succ, List.set_cons_zero]
  rfl
 refine st_plain rfl rfl (v := ?_) (a' := ?_) (fun w1 hw1 => ?_) ?_ ?_
 rotate_left 2
 ·obtain ⟨sN, hs⟩ := hw1
  obtain ⟨h0, h1, h2, a0, b0⟩ := HO.out _ _ hs
  go_simp
  refine calm_call ?_
  with_reducible exact htn _
 ·simp only [Act.put, List.setIfInBounds_toArray, List.set_cons_succ, List.set_cons_zero]
  rfl
 refine st_plain rfl rfl (v := ?_) (a' := ?_) (fun w1 hw1 => ?_) ?_ ?_
 rotate_left 2
 ·obtain ⟨sN, hs⟩ := hw1
  obtain ⟨h0, h1, h2, a0, b0⟩ := HO.out _ _ hs
  go_simp
  exact calm_val
 ·simp only [Act.put, List.setIfInBounds_toArray, List.set_cons_succ, List.set_cons_zero]
  rfl
 refine st_plain rfl rfl (v := ?_) (a' := ?_) (fun w1 hw1 => ?_) ?_ ?_
 rotate_left 2
 ·obtain ⟨sN, hs⟩ := hw1
  obtain ⟨h0, h1, h2, a0, b0⟩ := HO.out _ _ hs
  go_simp
  exact calm_val
 ·simp only [Act.put, List.setIfInBounds_toArray, List.set_cons_succ, List.set_cons_zero]
  rfl
 refine st_plain rfl rfl (v := ?_) (a' := ?_) (fun w1 hw1 => ?_) ?_ ?_
 rotate_left 2
 ·obtain ⟨sN, hs⟩ := hw1
  obtain ⟨h0, h1, h2, a0, b0⟩ := HO.out _ _ hs
  go_simp
  exact calm_val
 ·simp only [Act.put, List.setIfInBounds_toArray, List.set_cons_succ, List.set_cons_zero]
  rfl
 refine st_plain rfl rfl (v := ?_) (a' := ?_) (fun w1 hw1 => ?_) ?_ ?_
 rotate_left 2
 ·obtain ⟨sN, hs⟩ := hw1
  obtain ⟨h0, h1, h2, a0, b0⟩ := HO.out _ _ hs
  go_simp
  exact calm_val
 ·simp only [Act.put, List.setIfInBounds_toArray, List.set_cons_succ, List.set_cons_zero]
  rfl
 refine st_plain rfl rfl (v := ?_) (a' := ?_) (fun w1 hw1 => ?_) ?_ ?_
 rotate_left 2
 ·obtain ⟨sN, hs⟩ := hw1
  obtain ⟨h0, h1, h2, a0, b0⟩ := HO.out _ _ hs
  go_simp
  exact calm_val
 ·simp only [Act.put, List.setIfInBounds_toArray, List.set_cons_succ, List.set_cons_zero]
  rfl
 refine st_step (j := 0) rfl rfl (v := undef) (a' := ?_) (fun w1 hw1 => ?_) ?_ ?_
 rotate_left 1
 ·obtain ⟨h0, h1, h2, a0, b0⟩ := HO.out _ _ hw1
  have kk := a0 (Nat.le_refl _)
  have xk := kk.cell
  have fk := kk.frozen
  go_simp
  refine step_skip ?_
  clear xk fk
  replace h1 := h1.far (p := ⟨w.heap.size, 6, none⟩) (by simp <;> omega) (.int .i64 n)
  replace h2 := h2.far (p := ⟨w.heap.size, 6, none⟩) (by simp <;> omega) (.int .i64 n)
  replace h0 := h0.setCell (p := ⟨w.heap.size, 6, none⟩) (by simp <;> omega) (.int .i64 n)
  replace kk := kk.set_ 6 (.int .i64 n)
  replace h1 := h1.far (p := ⟨w.heap.size, 7, none⟩) (by simp <;> omega) (.int .i64 d)
  replace h2 := h2.far (p := ⟨w.heap.size, 7, none⟩) (by simp <;> omega) (.int .i64 d)
  replace h0 := h0.setCell (p := ⟨w.heap.size, 7, none⟩) (by simp <;> omega) (.int .i64 d)
  replace kk := kk.set_ 7 (.int .i64 d)
  replace h1 := h1.far (p := ⟨w.heap.size, 8, none⟩) (by simp <;> omega) (.int .i64 aj)
  replace h2 := h2.far (p := ⟨w.heap.size, 8, none⟩) (by simp <;> omega) (.int .i64 aj)
  replace h0 := h0.setCell (p := ⟨w.heap.size, 8, none⟩) (by simp <;> omega) (.int .i64 aj)
  replace kk := kk.set_ 8 (.int .i64 aj)
  replace h1 := h1.far (p := ⟨w.heap.size, 9, none⟩) (by simp <;> omega) (.int .i64 p)
  replace h2 := h2.far (p := ⟨w.heap.size, 9, none⟩) (by simp <;> omega) (.int .i64 p)
  replace h0 := h0.setCell (p := ⟨w.heap.size, 9, none⟩) (by simp <;> omega) (.int .i64 p)
  replace kk := kk.set_ 9 (.int .i64 p)
  replace h1 := h1.far (p := ⟨w.heap.size, 10, none⟩) (by simp <;> omega) (.int .i64 f)
  replace h2 := h2.far (p := ⟨w.heap.size, 10, none⟩) (by simp <;> omega) (.int .i64 f)
  replace h0 := h0.setCell (p := ⟨w.heap.size, 10, none⟩) (by simp <;> omega) (.int .i64 f)
  replace kk := kk.set_ 10 (.int .i64 f)
  exact HI.out _ _ ⟨h0, h1, h2, fun e => absurd e (by omega), fun _ => kk⟩
 ·rfl
 refine st_done ?_
 intro W3 hS
 obtain ⟨h0, h1, h2, a0, b0⟩ := HO.out _ _ hS
 clear hS HI HO
 replace k2 := b0 (by decide)
 replace k4 := h1
 replace k6 := h2
 replace hB := h0
 clear a0 b0 h1 h2 h0 hca htn
 replace k2 : Blk _ w.heap.size 49 #[.int .i64 (cap : Int), .int .i64 T, .int .i64 dd, .int .i64 G, .int .i64 M, .int .i64 (ch : Int), .int .i64 n, .int .i64 d, .int .i64 aj, .int .i64 p, .int .i64 f, .slice (some ad) l.length c, .int .i64 0, .int .i64 0] := k2
 have x2 := k2.cell
 go_wp2_with fail
 refine (hmk _).mono ?_
 rintro e1 w5 ⟨⟨r, hr, rfl⟩, hq⟩
 obtain ⟨hmn, hr1, hr2⟩ := hmin r hr
 replace k2 := k2.grows hq
 replace k4 := k4.grows hq
 replace k6 := k6.grows hq
 replace hB := below_grows hB (Nat.le_refl _) hq
 clear hq hmk x2 hr hmin
 have x2 := k2.cell
 go_wp2_with fail
 refine (htk _ hB).mono ?_
 rintro e1 w6 ⟨⟨B, b, A', c', rfl, ho, hb5, ho9, hc9⟩, hq⟩
 have hz := k6.lt
 replace k2 := k2.grows hq
 replace k4 := k4.grows hq
 replace k6 := k6.grows hq
 replace hB := below_grows hB (Nat.le_refl _) hq
 replace ho := ho.mono (base' := w.heap.size) (by omega)
 replace ho9 := ho9.mono (base' := w.heap.size) (by omega)
 clear hq x2 htk hmn hr1 hr2
 go_upto_region 10 with fail
 have k11 := (Blk.new w6 60 #[.int .i64 (ch : Int), .slice B mc b]).alloc (Obj.cells #[.int .i64 (ch : Int), .int .i64 n, .int .i64 d, .int .i64 aj, .int .i64 p', .int .i64 f', .slice A' lt c'] 47)
 have k12 : Blk ((w6.alloc (Obj.cells #[.int .i64 (ch : Int), .slice B mc b] 60)).alloc (Obj.cells #[.int .i64 (ch : Int), .int .i64 n, .int .i64 d, .int .i64 aj, .int .i64 p', .int .i64 f', .slice A' lt c'] 47)) (w6.heap.size + 1) 47 #[.int .i64 (ch : Int), .int .i64 n, .int .i64 d, .int .i64 aj, .int .i64 p', .int .i64 f', .slice A' lt c'] := blk_new_at (by simp)
 have hq := ((Below.refl w6.heap.size w6).alloc (Nat.le_refl _) (Obj.cells #[.int .i64 (ch : Int), .slice B mc b] 60)).alloc (by simp) (Obj.cells #[.int .i64 (ch : Int), .int .i64 n, .int .i64 d, .int .i64 aj, .int .i64 p', .int .i64 f', .slice A' lt c'] 47)
 have hz6 := k6.lt
 replace k2 := k2.grows hq
 replace k4 := k4.grows hq
 replace k6 := k6.grows hq
 replace ho := ho.grows hq
 replace ho9 := ho9.grows hq
 replace hB := below_grows hB (Nat.le_refl _) hq
 clear hq
 generalize World.alloc (World.alloc w6 _) _ = w7 at *
 generalize w6.heap.size = q11 at *
 have x11 := k11.cell
 have f11 := k11.frozen
 go_upto_region 12 with fail
 refine wp_region_lit ?_
 iterate 8
  refine wpList_plain rfl (fun K hK => ?_)
  go_simp
  refine hK _ _ ?_
  clear hK K
 refine wpList_append_run rfl (.tmp 68) (.tmp 74) 45 3 rfl rfl rfl (run_append_none w7 _ B mc b hb5) ?_
 go_upto_region 13 with fail
 replace ho := ho.farT k11 (by decide) 1 (.slice B mc b)
 replace ho9 := ho9.farT k11 (by decide) 1 (.slice B mc b)
 replace k2 := k2.far (p := ⟨q11, 1, none⟩) (by simp <;> omega) (.slice B mc b)
 replace k4 := k4.far (p := ⟨q11, 1, none⟩) (by simp <;> omega) (.slice B mc b)
 replace k6 := k6.far (p := ⟨q11, 1, none⟩) (by simp <;> omega) (.slice B mc b)
 replace k12 := k12.far (p := ⟨q11, 1, none⟩) (by simp <;> omega) (.slice B mc b)
 replace hB := hB.setCell (p := ⟨q11, 1, none⟩) (by simp <;> omega) (.slice B mc b)
 replace k11 := k11.set_ 1 (.slice B mc b)
 replace k11 : Blk _ q11 60 #[.int .i64 (ch : Int), .slice B mc b] := k11
 generalize World.setCell _ _ _ = w8 at *
 clear x11 f11
 have x12 := k12.cell
 have x2 := k2.cell
 have f2 := k2.frozen
 go_upto_region 14 with fail
 replace ho := ho.farT k2 (by decide) 5 (.int .i64 (ch : Int))
 replace ho9 := ho9.farT k2 (by decide) 5 (.int .i64 (ch : Int))
 replace k4 := k4.far (p := ⟨w.heap.size, 5, none⟩) (by simp <;> omega) (.int .i64 (ch : Int))
 replace k6 := k6.far (p := ⟨w.heap.size, 5, none⟩) (by simp <;> omega) (.int .i64 (ch : Int))
 replace k11 := k11.far (p := ⟨w.heap.size, 5, none⟩) (by simp <;> omega) (.int .i64 (ch : Int))
 replace hB := hB.setCell (p := ⟨w.heap.size, 5, none⟩) (by simp <;> omega) (.int .i64 (ch : Int))
 replace k2 := k2.set_ 5 (.int .i64 (ch : Int))
 replace ho := ho.farT k2 (by decide) 6 (.int .i64 n)
 replace ho9 := ho9.farT k2 (by decide) 6 (.int .i64 n)
 replace k4 := k4.far (p := ⟨w.heap.size, 6, none⟩) (by simp <;> omega) (.int .i64 n)
 replace k6 := k6.far (p := ⟨w.heap.size, 6, none⟩) (by simp <;> omega) (.int .i64 n)
 replace k11 := k11.far (p := ⟨w.heap.size, 6, none⟩) (by simp <;> omega) (.int .i64 n)
 replace hB := hB.setCell (p := ⟨w.heap.size, 6, none⟩) (by simp <;> omega) (.int .i64 n)
 replace k2 := k2.set_ 6 (.int .i64 n)
 replace ho := ho.farT k2 (by decide) 7 (.int .i64 d)
 replace ho9 := ho9.farT k2 (by decide) 7 (.int .i64 d)
 replace k4 := k4.far (p := ⟨w.heap.size, 7, none⟩) (by simp <;> omega) (.int .i64 d)
 replace k6 := k6.far (p := ⟨w.heap.size, 7, none⟩) (by simp <;> omega) (.int .i64 d)
 replace k11 := k11.far (p := ⟨w.heap.size, 7, none⟩) (by simp <;> omega) (.int .i64 d)
 replace hB := hB.setCell (p := ⟨w.heap.size, 7, none⟩) (by simp <;> omega) (.int .i64 d)
 replace k2 := k2.set_ 7 (.int .i64 d)
 replace ho := ho.farT k2 (by decide) 8 (.int .i64 aj)
 replace ho9 := ho9.farT k2 (by decide) 8 (.int .i64 aj)
 replace k4 := k4.far (p := ⟨w.heap.size, 8, none⟩) (by simp <;> omega) (.int .i64 aj)
 replace k6 := k6.far (p := ⟨w.heap.size, 8, none⟩) (by simp <;> omega) (.int .i64 aj)
 replace k11 := k11.far (p := ⟨w.heap.size, 8, none⟩) (by simp <;> omega) (.int .i64 aj)
 replace hB := hB.setCell (p := ⟨w.heap.size, 8, none⟩) (by simp <;> omega) (.int .i64 aj)
 replace k2 := k2.set_ 8 (.int .i64 aj)
 replace ho := ho.farT k2 (by decide) 9 (.int .i64 p')
 replace ho9 := ho9.farT k2 (by decide) 9 (.int .i64 p')
 replace k4 := k4.far (p := ⟨w.heap.size, 9, none⟩) (by simp <;> omega) (.int .i64 p')
 replace k6 := k6.far (p := ⟨w.heap.size, 9, none⟩) (by simp <;> omega) (.int .i64 p')
 replace k11 := k11.far (p := ⟨w.heap.size, 9, none⟩) (by simp <;> omega) (.int .i64 p')
 replace hB := hB.setCell (p := ⟨w.heap.size, 9, none⟩) (by simp <;> omega) (.int .i64 p')
 replace k2 := k2.set_ 9 (.int .i64 p')
 replace ho := ho.farT k2 (by decide) 10 (.int .i64 f')
 replace ho9 := ho9.farT k2 (by decide) 10 (.int .i64 f')
 replace k4 := k4.far (p := ⟨w.heap.size, 10, none⟩) (by simp <;> omega) (.int .i64 f')
 replace k6 := k6.far (p := ⟨w.heap.size, 10, none⟩) (by simp <;> omega) (.int .i64 f')
 replace k11 := k11.far (p := ⟨w.heap.size, 10, none⟩) (by simp <;> omega) (.int .i64 f')
 replace hB := hB.setCell (p := ⟨w.heap.size, 10, none⟩) (by simp <;> omega) (.int .i64 f')
 replace k2 := k2.set_ 10 (.int .i64 f')
 replace ho := ho.farT k2 (by decide) 11 (.slice A' lt c')
 replace ho9 := ho9.farT k2 (by decide) 11 (.slice A' lt c')
 replace k4 := k4.far (p := ⟨w.heap.size, 11, none⟩) (by simp <;> omega) (.slice A' lt c')
 replace k6 := k6.far (p := ⟨w.heap.size, 11, none⟩) (by simp <;> omega) (.slice A' lt c')
 replace k11 := k11.far (p := ⟨w.heap.size, 11, none⟩) (by simp <;> omega) (.slice A' lt c')
 replace hB := hB.setCell (p := ⟨w.heap.size, 11, none⟩) (by simp <;> omega) (.slice A' lt c')
 replace k2 := k2.set_ 11 (.slice A' lt c')
 replace k2 : Blk _ w.heap.size 49 #[.int .i64 (cap : Int), .int .i64 T, .int .i64 dd, .int .i64 G, .int .i64 M, .int .i64 (ch : Int), .int .i64 n, .int .i64 d, .int .i64 aj, .int .i64 p', .int .i64 f', .slice A' lt c', .int .i64 0, .int .i64 0] := k2
 generalize World.setCell _ _ _ = w9 at *
 clear x2 f2 x12 k12
 have x2 := k2.cell
 have f2 := k2.frozen
 go_upto_region 15 with fail
 replace ho := ho.farT k2 (by decide) 13 (.int .i64 0)
 replace ho9 := ho9.farT k2 (by decide) 13 (.int .i64 0)
 replace k4 := k4.far (p := ⟨w.heap.size, 13, none⟩) (by simp <;> omega) (.int .i64 0)
 replace k6 := k6.far (p := ⟨w.heap.size, 13, none⟩) (by simp <;> omega) (.int .i64 0)
 replace k11 := k11.far (p := ⟨w.heap.size, 13, none⟩) (by simp <;> omega) (.int .i64 0)
 replace hB := hB.setCell (p := ⟨w.heap.size, 13, none⟩) (by simp <;> omega) (.int .i64 0)
 replace k2 := k2.set_ 13 (.int .i64 0)
 replace k2 : Blk _ w.heap.size 49 #[.int .i64 (cap : Int), .int .i64 T, .int .i64 dd, .int .i64 G, .int .i64 M, .int .i64 (ch : Int), .int .i64 n, .int .i64 d, .int .i64 aj, .int .i64 p', .int .i64 f', .slice A' lt c', .int .i64 0, .int .i64 0] := k2
 generalize World.setCell _ _ _ = w10 at *
 clear x2 f2
 obtain ⟨S, HI, HO⟩ : ∃ S : Nat → World → Prop, Hid (∀ sN w', (Below w.heap.size w w' ∧ Blk w' q11 60 #[.int .i64 (ch : Int), .slice B mc b] ∧ Blk w' w.heap.size 49 #[.int .i64 (cap : Int), .int .i64 T, .int .i64 dd, .int .i64 G, .int .i64 M, .int .i64 (ch : Int), .int .i64 n, .int .i64 d, .int .i64 aj, .int .i64 p', .int .i64 f', .slice A' lt c', .int .i64 0, .int .i64 0] ∧ OwnS w' w.heap.size (.slice B mc b) O ∧ OwnS w' w.heap.size (.slice A' lt c') (l.drop t) ∧ (sN ≤ 0 → Blk w' (w.heap.size + 1) 60 #[.int .i64 0, .slice none 0 0]) ∧ (0 < sN → Blk w' (w.heap.size + 1) 60 #[.int .i64 (ch : Int), .slice B mc b]) ∧ (sN ≤ 1 → Blk w' (w.heap.size + 1 + 1) 49 #[.int .i64 0, .int .i64 0, .int .i64 0, .int .i64 0, .int .i64 0, .int .i64 0, .int .i64 0, .int .i64 0, .int .i64 0, .int .i64 0, .int .i64 0, .slice none 0 0, .int .i64 0, .int .i64 0]) ∧ (1 < sN → Blk w' (w.heap.size + 1 + 1) 49 #[.int .i64 (cap : Int), .int .i64 T, .int .i64 dd, .int .i64 G, .int .i64 M, .int .i64 (ch : Int), .int .i64 n, .int .i64 d, .int .i64 aj, .int .i64 p', .int .i64 f', .slice A' lt c', .int .i64 0, .int .i64 0])) → S sN w') ∧ Hid (∀ sN w', S sN w' → (Below w.heap.size w w' ∧ Blk w' q11 60 #[.int .i64 (ch : Int), .slice B mc b] ∧ Blk w' w.heap.size 49 #[.int .i64 (cap : Int), .int .i64 T, .int .i64 dd, .int .i64 G, .int .i64 M, .int .i64 (ch : Int), .int .i64 n, .int .i64 d, .int .i64 aj, .int .i64 p', .int .i64 f', .slice A' lt c', .int .i64 0, .int .i64 0] ∧ OwnS w' w.heap.size (.slice B mc b) O ∧ OwnS w' w.heap.size (.slice A' lt c') (l.drop t) ∧ (sN ≤ 0 → Blk w' (w.heap.size + 1) 60 #[.int .i64 0, .slice none 0 0]) ∧ (0 < sN → Blk w' (w.heap.size + 1) 60 #[.int .i64 (ch : Int), .slice B mc b]) ∧ (sN ≤ 1 → Blk w' (w.heap.size + 1 + 1) 49 #[.int .i64 0, .int .i64 0, .int .i64 0, .int .i64 0, .int .i64 0, .int .i64 0, .int .i64 0, .int .i64 0, .int .i64 0, .int .i64 0, .int .i64 0, .slice none 0 0, .int .i64 0, .int .i64 0]) ∧ (1 < sN → Blk w' (w.heap.size + 1 + 1) 49 #[.int .i64 (cap : Int), .int .i64 T, .int .i64 dd, .int .i64 G, .int .i64 M, .int .i64 (ch : Int), .int .i64 n, .int .i64 d, .int .i64 aj, .int .i64 p', .int .i64 f', .slice A' lt c', .int .i64 0, .int .i64 0]))) := ⟨fun sN w' => Below w.heap.size w w' ∧ Blk w' q11 60 #[.int .i64 (ch : Int), .slice B mc b] ∧ Blk w' w.heap.size 49 #[.int .i64 (cap : Int), .int .i64 T, .int .i64 dd, .int .i64 G, .int .i64 M, .int .i64 (ch : Int), .int .i64 n, .int .i64 d, .int .i64 aj, .int .i64 p', .int .i64 f', .slice A' lt c', .int .i64 0, .int .i64 0] ∧ OwnS w' w.heap.size (.slice B mc b) O ∧ OwnS w' w.heap.size (.slice A' lt c') (l.drop t) ∧ (sN ≤ 0 → Blk w' (w.heap.size + 1) 60 #[.int .i64 0, .slice none 0 0]) ∧ (0 < sN → Blk w' (w.heap.size + 1) 60 #[.int .i64 (ch : Int), .slice B mc b]) ∧ (sN ≤ 1 → Blk w' (w.heap.size + 1 + 1) 49 #[.int .i64 0, .int .i64 0, .int .i64 0, .int .i64 0, .int .i64 0, .int .i64 0, .int .i64 0, .int .i64 0, .int .i64 0, .int .i64 0, .int .i64 0, .slice none 0 0, .int .i64 0, .int .i64 0]) ∧ (1 < sN → Blk w' (w.heap.size + 1 + 1) 49 #[.int .i64 (cap : Int), .int .i64 T, .int .i64 dd, .int .i64 G, .int .i64 M, .int .i64 (ch : Int), .int .i64 n, .int .i64 d, .int .i64 aj, .int .i64 p', .int .i64 f', .slice A' lt c', .int .i64 0, .int .i64 0]), fun _ _ h => h, fun _ _ h => h⟩
 refine wp_region_step S [5, 7] 9 91 (by kernel_rfl) (by kernel_rfl) rfl ?_ ?_ ?_
 ·exact fun p w1 w2 hs hg => HI.out _ _ (by obtain ⟨h0, h1, h2, h3, h4, a0, b0, a1, b1⟩ := HO.out _ _ hs; exact ⟨below_grows h0 (Nat.le_refl _) hg, h1.grows hg, h2.grows hg, h3.grows hg, h4.grows hg, fun e => (a0 e).grows hg, fun e => (b0 e).grows hg, fun e => (a1 e).grows hg, fun e => (b1 e).grows hg⟩)
 ·exact HI.out _ _ ⟨hB.drew, k11.drew, k2.drew, ho.drew, ho9.drew, fun _ => k4.drew, fun e => absurd e (by omega), fun _ => k6.drew, fun e => absurd e (by omega)⟩
 simp only [List.take_succ_cons, List.take_zero, List.drop_succ_cons, List.drop_zero]
 refine st_plain rfl rfl (v := .agg #[.int .i64 (ch : Int), .slice B mc b]) (a' := ?_) (fun w1 hw1 => ?_) ?_ ?_
 rotate_left 1
 ·obtain ⟨sN, hs⟩ := hw1
  obtain ⟨h0, h1, h2, h3, h4, a0, b0, a1, b1⟩ := HO.out _ _ hs
  exact calm_load_row (cs := #[.int .i64 (ch : Int), .slice B mc b]) _ rfl rfl h1 Tryz.underlying60 rfl b60info
 ·simp only [Act.put, List.setIfInBounds_toArray, List.set_cons_succ, List.set_cons_zero]
  rfl
 refine st_plain rfl rfl (v := ?_) (a' := ?_) (fun w1 hw1 => ?_) ?_ ?_
 rotate_left 2
 ·obtain ⟨sN, hs⟩ := hw1
  obtain ⟨h0, h1, h2, h3, h4, a0, b0, a1, b1⟩ := HO.out _ _ hs
  go_simp
  exact calm_val
 ·simp only [Act.put, List.setIfInBounds_toArray, List.set_cons_succ, List.set_cons_zero]
  rfl
 refine st_plain rfl rfl (v := ?_) (a' := ?_) (fun w1 hw1 => ?_) ?_ ?_
 rotate_left 2
 ·obtain ⟨sN, hs⟩ := hw1
  obtain ⟨h0, h1, h2, h3, h4, a0, b0, a1, b1⟩ := HO.out _ _ hs
  go_simp
  exact calm_val
 ·simp only [Act.put, List.setIfInBounds_toArray, List.set_cons_succ, List.set_cons_zero]
  rfl
 refine st_plain rfl rfl (v := ?_) (a' := ?_) (fun w1 hw1 => ?_) ?_ ?_
 rotate_left 2
 ·obtain ⟨sN, hs⟩ := hw1
  obtain ⟨h0, h1, h2, h3, h4, a0, b0, a1, b1⟩ := HO.out _ _ hs
  go_simp
  exact calm_val
 ·simp only [Act.put, List.setIfInBounds_toArray, List.set_cons_succ, List.set_cons_zero]
  rfl
 refine st_plain rfl rfl (v := .agg #[.int .i64 (cap : Int), .int .i64 T, .int .i64 dd, .int .i64 G, .int .i64 M, .int .i64 (ch : Int), .int .i64 n, .int .i64 d, .int .i64 aj, .int .i64 p', .int .i64 f', .slice A' lt c', .int .i64 0, .int .i64 0]) (a' := ?_) (fun w1 hw1 => ?_) ?_ ?_
 rotate_left 1
 ·obtain ⟨sN, hs⟩ := hw1
  obtain ⟨h0, h1, h2, h3, h4, a0, b0, a1, b1⟩ := HO.out _ _ hs
  exact calm_load_row (cs := #[.int .i64 (cap : Int), .int .i64 T, .int .i64 dd, .int .i64 G, .int .i64 M, .int .i64 (ch : Int), .int .i64 n, .int .i64 d, .int .i64 aj, .int .i64 p', .int .i64 f', .slice A' lt c', .int .i64 0, .int .i64 0]) _ rfl rfl h2 Tryz.underlying49 rfl brinfo
 ·simp only [Act.put, List.setIfInBounds_toArray, List.set_cons_succ, List.set_cons_zero]
  rfl
 refine st_step (j := 0) rfl rfl (v := undef) (a' := ?_) (fun w1 hw1 => ?_) ?_ ?_
 rotate_left 1
 ·obtain ⟨h0, h1, h2, h3, h4, a0, b0, a1, b1⟩ := HO.out _ _ hw1
  have kk := a0 (Nat.le_refl _)
  refine step_store_row (cs := #[.int .i64 (ch : Int), .slice B mc b]) _ _ rfl rfl rfl kk b60info rfl (by simp [Value.oneCell']) ?_
  exact HI.out _ _ ⟨below_row h0 (g := (w.heap.size + 1)) (by omega) _, h1.row_far (by omega), h2.row_far (by omega), h3.row kk (by decide) _, h4.row kk (by decide) _, fun e => absurd e (by omega), fun _ => kk.row, fun e => (a1 (by omega)).row_far (by omega), fun e => absurd e (by omega)⟩
 ·rfl
 refine st_plain rfl rfl (v := ?_) (a' := ?_) (fun w1 hw1 => ?_) ?_ ?_
 rotate_left 2
 ·obtain ⟨sN, hs⟩ := hw1
  obtain ⟨h0, h1, h2, h3, h4, a0, b0, a1, b1⟩ := HO.out _ _ hs
  go_simp
  exact calm_val
 ·simp only [Act.put, List.setIfInBounds_toArray, List.set_cons_succ, List.set_cons_zero]
  rfl
 refine st_step (j := 1) rfl rfl (v := undef) (a' := ?_) (fun w1 hw1 => ?_) ?_ ?_
 rotate_left 1
 ·obtain ⟨h0, h1, h2, h3, h4, a0, b0, a1, b1⟩ := HO.out _ _ hw1
  have kk := a1 (Nat.le_refl _)
  refine step_store_row (cs := #[.int .i64 (cap : Int), .int .i64 T, .int .i64 dd, .int .i64 G, .int .i64 M, .int .i64 (ch : Int), .int .i64 n, .int .i64 d, .int .i64 aj, .int .i64 p', .int .i64 f', .slice A' lt c', .int .i64 0, .int .i64 0]) _ _ rfl rfl rfl kk brinfo rfl (by simp [Value.oneCell']) ?_
  exact HI.out _ _ ⟨below_row h0 (g := (w.heap.size + 1 + 1)) (by omega) _, h1.row_far (by omega), h2.row_far (by omega), h3.row kk (by decide) _, h4.row kk (by decide) _, fun e => absurd e (by omega), fun e => (b0 (by omega)).row_far (by omega), fun e => absurd e (by omega), fun _ => kk.row⟩
 ·rfl
 refine st_plain rfl rfl (v := ?_) (a' := ?_) (fun w1 hw1 => ?_) ?_ ?_
 rotate_left 2
 ·obtain ⟨sN, hs⟩ := hw1
  obtain ⟨h0, h1, h2, h3, h4, a0, b0, a1, b1⟩ := HO.out _ _ hs
  go_simp
  exact calm_val
 ·simp only [Act.put, List.setIfInBounds_toArray, List.set_cons_succ, List.set_cons_zero]
  rfl
 refine st_done ?_
 intro W6 hS
 obtain ⟨h0, h1, h2, h3, h4, a0, b0, a1, b1⟩ := HO.out _ _ hS
 clear hS HI HO
 replace k4 := b0 (by decide)
 replace k6 := b1 (by decide)
 replace hB := h0
 replace ho := h3
 replace ho9 := h4
 clear h0 h1 h2 h3 h4 a0 a1 b0 b1 k2 k11
 go_wp2
 have hl4 := run_loadVar_row (P := Tryz.prog) W6 (w.heap.size + 1) 60 60 #[.int .i64 (ch : Int), .slice B mc b] (0, 0) _ k4 Tryz.underlying60 rfl b60info
 have hl6 := run_loadVar_row (P := Tryz.prog) W6 (w.heap.size + 1 + 1) 49 49 #[.int .i64 (cap : Int), .int .i64 T, .int .i64 dd, .int .i64 G, .int .i64 M, .int .i64 (ch : Int), .int .i64 n, .int .i64 d, .int .i64 aj, .int .i64 p', .int .i64 f', .slice A' lt c', .int .i64 0, .int .i64 0] (0, 0) _ k6 Tryz.underlying49 rfl brinfo
 refine bodyPost_ret (v := .tuple #[.agg #[.int .i64 (ch : Int), .slice B mc b], .int .i64 0, .agg #[.int .i64 (cap : Int), .int .i64 T, .int .i64 dd, .int .i64 G, .int .i64 M, .int .i64 (ch : Int), .int .i64 n, .int .i64 d, .int .i64 aj, .int .i64 p', .int .i64 f', .slice A' lt c', .int .i64 0, .int .i64 0], .int .i64 0]) ?_ rfl ⟨⟨B, b, A', c', rfl, ho, hb5, ho9, hc9⟩, hB⟩
 unfold results
 simp only [Tryz.results133]
 simp [asAddr, hl4, hl6]
end Go.Proofs.YtbfdaojffffaaaaGreat

namespace Go.Proofs.YtbfdaojffffaaaaGreat
open Go.RowKit
structure Ch where
 k : Int
 r : Int
 m : List Int
 s : Int
deriving DecidableEq
end Go.Proofs.YtbfdaojffffaaaaGreat

namespace Go.Proofs.YtbfdaojffffaaaaGreat
open Go.RowKit
/-- The block that n elements at A take is one of those that base allows. -/
def Lo (base : Nat → Prop) (A : Option Addr) (n : Nat) : Prop := 0 < n → ∀ ad, A = some ad → base ad.block
def Ge (n : Nat) : Nat → Prop := fun k => n ≤ k
def Under (n : Nat) : Nat → Prop := fun k => k < n
def Bd (ok : Nat → Prop) (n : Nat) : Nat → Prop := fun k => ok k ∧ k < n
def RdB (w : World) (base : Nat → Prop) (size : Nat) (A : Option Addr) (n : Nat) (xs : List Value) : Prop := Reads w w.heap.size size A n xs ∧ Lo base A n
section
variable {w w' : World} {base : Nat → Prop} {size n : Nat} {A : Option Addr} {xs : List Value}
theorem RdB.nil : RdB w base size none 0 [] := ⟨Reads.none_, fun h => absurd h (by omega)⟩
theorem RdB.grows (h : RdB w base size A n xs) (hg : Grows w w') : RdB w' base size A n xs := ⟨Reads.grows h.1 hg, h.2⟩
theorem RdB.mono {b2 : Nat → Prop} (h : RdB w base size A n xs) (hb : ∀ k, base k → b2 k) : RdB w b2 size A n xs := ⟨h.1, fun hn ad e => hb _ (h.2 hn ad e)⟩
theorem RdB.grown (h : RdB w base size A n xs) {row : Option Nat} (hg : w.grownBy w' row) (hr : ∀ g, row = some g → ¬ base g) : RdB w' base size A n xs := by
 refine ⟨⟨h.1.1, fun hn => ?_⟩, h.2⟩
 obtain ⟨ad, e, hb, hc⟩ := h.1.2 hn
 have hlo := h.2 hn ad e
 have hne : some ad.block ≠ row := fun e2 => hr _ e2.symm hlo
 exact ⟨ad, e, Nat.lt_of_lt_of_le hb hg.size, fun j u hu => (World.cell?_of_block (hg.block (ad.add j).block (by rw [block_of_add]; exact hb) (by rw [block_of_add]; exact hne))).trans (hc j u hu)⟩
theorem RdB.drop {k cap : Nat} (h : RdB w base size A n xs) (hk : k ≤ n) (hc : n ≤ cap) : RdB w base size (if cap = k then A else A.map (·.add (k * size))) (n - k) (xs.drop (k * size)) := by
 refine ⟨Reads.cut h.1 hk hc, fun hn ad e => ?_⟩
 obtain ⟨ad0, e0, _⟩ := h.1.2 (by omega)
 have h0 := h.2 (by omega) ad0 e0
 subst e0
 split at e
 ·injection e with e; subst e; exact h0
 ·simp only [Option.map_some, Option.some.injEq] at e
  subst e
  rw [block_of_add]
  exact h0
theorem RdB.backU {m : Nat} {w : World} {w3 : World} (h : RdB w3 base size A n xs) (hu : ∀ k, base k → k < m) (hB : Below m w w3) (hm : m ≤ w.heap.size) : RdB w base size A n xs := by
 refine ⟨⟨h.1.1, fun hn => ?_⟩, h.2⟩
 obtain ⟨ad, e, _, hc⟩ := h.1.2 hn
 have hlo : ad.block < m := hu _ (h.2 hn ad e)
 exact ⟨ad, e, Nat.lt_of_lt_of_le hlo hm, fun j u hu => (hB.cell (p := ad.add j) (by rw [block_of_add]; exact hlo)).symm.trans (hc j u hu)⟩
theorem RdB.back {m : Nat} {w : World} {w3 : World} (h : RdB w3 (Under m) size A n xs) (hB : Below m w w3) (hm : m ≤ w.heap.size) : RdB w (Under m) size A n xs := RdB.backU h (fun _ h => h) hB hm
theorem RdB.under (h : RdB w base size A n xs) : RdB w (Under w.heap.size) size A n xs := ⟨h.1, fun hn ad e => by
 obtain ⟨ad0, e0, hb, _⟩ := h.1.2 hn
 rw [e0] at e
 injection e with e
 exact e ▸ hb⟩
theorem RdB.bd (h : RdB w base size A n xs) : RdB w (Bd base w.heap.size) size A n xs := ⟨h.1, fun hn ad e => ⟨h.2 hn ad e, h.under.2 hn ad e⟩⟩
theorem RdB.take {k : Nat} (h : RdB w base 1 A n xs) (hk : k ≤ n) : RdB w base 1 A k (xs.take k) := ⟨Reads.take_ h.1 hk, fun hn ad e => h.2 (by omega) ad e⟩
end
def InB (w : World) (base : Nat → Prop) (A : Option Addr) (l : List Int) : Prop := RdB w base 1 A l.length (l.map (Value.int .i64))
theorem InB.ints {w : World} {base : Nat → Prop} {A : Option Addr} {l : List Int} (h : InB w base A l) : Ints w A l := h.1
theorem InB.grows {w w' : World} {base : Nat → Prop} {A : Option Addr} {l : List Int} (h : InB w base A l) (hg : Grows w w') : InB w' base A l := RdB.grows h hg
theorem InB.mono {w : World} {base b2 : Nat → Prop} {A : Option Addr} {l : List Int} (h : InB w base A l) (hb : ∀ k, base k → b2 k) : InB w b2 A l := RdB.mono h hb
theorem InB.of_own {w : World} {base : Nat} {v : Value} {l : List Int} (h : OwnI w base v l) : ∃ A c, v = .slice A l.length c ∧ l.length ≤ c ∧ InB w (Ge base) A l := by
 obtain ⟨A, c, rfl, hc, hi⟩ := h.read
 refine ⟨A, c, rfl, hc, hi, fun hn ad e => ?_⟩
 subst e
 rcases h.2 with ⟨e2, _⟩ | ⟨g, cap, cur, e2, hb, _⟩
 ·injection e2 with e2; cases e2
 ·injection e2 with e2
  injection e2 with e2
  subst e2
  exact hb
def SpB (w : World) (base : Nat → Prop) (A : Option Addr) (l : List Sp) : Prop := RdB w base 2 A l.length (scells l)
theorem SpB.sps {w : World} {base : Nat → Prop} {A : Option Addr} {l : List Sp} (h : SpB w base A l) : Sps w A l := h.1
theorem SpB.grows {w w' : World} {base : Nat → Prop} {A : Option Addr} {l : List Sp} (h : SpB w base A l) (hg : Grows w w') : SpB w' base A l := RdB.grows h hg
theorem SpB.of_own {w : World} {base : Nat} {v : Value} {l : List Sp} (h : Own w base v l) : ∃ A c, v = .slice A l.length c ∧ l.length ≤ c ∧ SpB w (Ge base) A l := by
 obtain ⟨A, c, rfl, hc, hs, hlo⟩ := h.read
 exact ⟨A, c, rfl, hc, hs, fun _ ad e => hlo ad e⟩
/-- A slice of channel maps. -/
def MapsR (w : World) (base : Nat → Prop) (A : Option Addr) (m : List (List Int)) : Prop :=
 ∃ vs : List Value, RdB w base 1 A m.length vs ∧ ∀ (i : Nat) (x : List Int), m[i]? = some x → ∃ B c, vs[i]? = some (.slice B x.length c) ∧ x.length ≤ c ∧ InB w base B x
section
variable {w w' : World} {base : Nat → Prop} {A : Option Addr} {m : List (List Int)}
theorem MapsR.nil : MapsR w base none [] := ⟨[], RdB.nil, fun i x h => by simp at h⟩
theorem MapsR.grows (h : MapsR w base A m) (hg : Grows w w') : MapsR w' base A m := by
 obtain ⟨vs, h1, h2⟩ := h
 exact ⟨vs, h1.grows hg, fun i x hx => by obtain ⟨B, c, e, hc, hi⟩ := h2 i x hx; exact ⟨B, c, e, hc, hi.grows hg⟩⟩
theorem MapsR.mono {b2 : Nat → Prop} (h : MapsR w base A m) (hb : ∀ k, base k → b2 k) : MapsR w b2 A m := by
 obtain ⟨vs, h1, h2⟩ := h
 exact ⟨vs, h1.mono hb, fun i x hx => by obtain ⟨B, c, e, hc, hi⟩ := h2 i x hx; exact ⟨B, c, e, hc, RdB.mono hi hb⟩⟩
theorem MapsR.grown (h : MapsR w base A m) {row : Option Nat} (hg : w.grownBy w' row) (hr : ∀ g, row = some g → ¬ base g) : MapsR w' base A m := by
 obtain ⟨vs, h1, h2⟩ := h
 exact ⟨vs, h1.grown hg hr, fun i x hx => by obtain ⟨B, c, e, hc, hi⟩ := h2 i x hx; exact ⟨B, c, e, hc, RdB.grown hi hg hr⟩⟩
theorem MapsR.back {n : Nat} {w : World} {w3 : World} {A : Option Addr} {m : List (List Int)} (h : MapsR w3 (Under n) A m) (hB : Below n w w3) (hn : n ≤ w.heap.size) : MapsR w (Under n) A m := by
 obtain ⟨vs, h1, h2⟩ := h
 exact ⟨vs, h1.back hB hn, fun i x hx => by obtain ⟨B, c, e, hc, hi⟩ := h2 i x hx; exact ⟨B, c, e, hc, RdB.back hi hB hn⟩⟩
theorem MapsR.backU {n : Nat} {ok : Nat → Prop} {w : World} {w3 : World} {A : Option Addr} {m : List (List Int)} (h : MapsR w3 ok A m) (hu : ∀ k, ok k → k < n) (hB : Below n w w3) (hn : n ≤ w.heap.size) : MapsR w ok A m := by
 obtain ⟨vs, h1, h2⟩ := h
 exact ⟨vs, h1.backU hu hB hn, fun i x hx => by obtain ⟨B, c, e, hc, hi⟩ := h2 i x hx; exact ⟨B, c, e, hc, RdB.backU hi hu hB hn⟩⟩
theorem MapsR.under (h : MapsR w base A m) : MapsR w (Under w.heap.size) A m := by
 obtain ⟨vs, h1, h2⟩ := h
 exact ⟨vs, h1.under, fun i x hx => by obtain ⟨B, c, e, hc, hi⟩ := h2 i x hx; exact ⟨B, c, e, hc, RdB.under hi⟩⟩
theorem MapsR.bd (h : MapsR w base A m) : MapsR w (Bd base w.heap.size) A m := by
 obtain ⟨vs, h1, h2⟩ := h
 exact ⟨vs, h1.bd, fun i x hx => by obtain ⟨B, c, e, hc, hi⟩ := h2 i x hx; exact ⟨B, c, e, hc, RdB.bd hi⟩⟩
theorem MapsR.take (h : MapsR w base A m) {k : Nat} (hk : k ≤ m.length) : MapsR w base A (m.take k) := by
 obtain ⟨vs, h1, h2⟩ := h
 have e : (m.take k).length = k := by rw [List.length_take]; omega
 refine ⟨vs.take k, by rw [e]; exact h1.take hk, fun i x hx => ?_⟩
 have hik : i < k := by have := (List.getElem?_eq_some_iff.1 hx).1; omega
 rw [List.getElem?_take_of_lt hik] at hx
 obtain ⟨B, c, e, hc, hi⟩ := h2 i x hx
 exact ⟨B, c, by rw [List.getElem?_take_of_lt hik]; exact e, hc, hi⟩
theorem MapsR.elem (h : MapsR w base A m) {k : Nat} (hk : k < m.length) : ∃ ad x B c, A = some ad ∧ ad.block < w.heap.size ∧ m[k]? = some x ∧ w.cell? (ad.add k) = some (.slice B x.length c) ∧ x.length ≤ c ∧ InB w base B x := by
 obtain ⟨vs, h1, h2⟩ := h
 obtain ⟨ad, e, hb, hc⟩ := h1.1.2 (by omega)
 have hx := List.getElem?_eq_getElem hk
 obtain ⟨B, c, e2, hc2, hi⟩ := h2 k _ hx
 exact ⟨ad, _, B, c, e, hb, hx, hc k _ e2, hc2, hi⟩
end
structure Bx where
 k : Int
 r : List Sp
 m : List (List Int)
 s : List Sp
deriving DecidableEq
structure BoxP (w : World) (base : Nat → Prop) (b : Bx) (A1 : Option Addr) (c1 : Nat) (A2 : Option Addr) (c2 : Nat) (A3 : Option Addr) (c3 : Nat) : Prop where
 r : SpB w base A1 b.r
 m : MapsR w base A2 b.m
 s : SpB w base A3 b.s
 cr : b.r.length ≤ c1
 cm : b.m.length ≤ c2
 cs : b.s.length ≤ c3
def Bx.cs (b : Bx) (A1 : Option Addr) (c1 : Nat) (A2 : Option Addr) (c2 : Nat) (A3 : Option Addr) (c3 : Nat) : List Value := [.int .i64 b.k, .slice A1 b.r.length c1, .slice A2 b.m.length c2, .slice A3 b.s.length c3]
/-- A box as a value. -/
def BoxV (w : World) (base : Nat → Prop) (b : Bx) (v : Value) : Prop := ∃ A1 c1 A2 c2 A3 c3, v = .agg #[.int .i64 b.k, .slice A1 b.r.length c1, .slice A2 b.m.length c2, .slice A3 b.s.length c3] ∧ BoxP w base b A1 c1 A2 c2 A3 c3
/-- A slice of boxes. -/
def Bxs (w : World) (base : Nat → Prop) (A : Option Addr) (l : List Bx) : Prop :=
 ∃ vs : List Value, RdB w base 4 A l.length vs ∧ ∀ (i : Nat) (b : Bx), l[i]? = some b → ∃ A1 c1 A2 c2 A3 c3, BoxP w base b A1 c1 A2 c2 A3 c3 ∧ ∀ j < 4, vs[i * 4 + j]? = (b.cs A1 c1 A2 c2 A3 c3)[j]?
def CellsB (w : World) (p : Addr) (v0 v1 v2 v3 : Value) : Prop := w.cell? p = some v0 ∧ w.cell? { block := p.block, off := p.off + 1 } = some v1 ∧ w.cell? { block := p.block, off := p.off + 2 } = some v2 ∧ w.cell? { block := p.block, off := p.off + 3 } = some v3
theorem cellsB_of {w : World} {ad : Addr} {i : Nat} {cs : List Value} {v0 v1 v2 v3 : Value} (e : cs = [v0, v1, v2, v3]) (h : ∀ j < 4, ∀ u, cs[j]? = some u → w.cell? (ad.add (i * 4 + j)) = some u) : CellsB w (ad.add (i * 4)) v0 v1 v2 v3 := by
 subst e
 have e0 : (ad.add (i * 4)).add 0 = ad.add (i * 4) := by simp [Addr.add]
 have hj : ∀ j < 4, ∀ v, [v0, v1, v2, v3][j]? = some v → w.cell? ((ad.add (i * 4)).add j) = some v := fun j hj v hv => by rw [add_of_add]; exact h j hj v hv
 have ej : ∀ j, j ≠ 0 → (ad.add (i * 4)).add j = { block := (ad.add (i * 4)).block, off := (ad.add (i * 4)).off + j } := fun j hj0 => by
  generalize ad.add (i * 4) = p
  unfold Addr.add
  rw [if_neg hj0]
 refine ⟨by have := hj 0 (by omega) _ rfl; rwa [e0] at this, ?_, ?_, ?_⟩
 ·have := hj 1 (by omega) _ rfl; rwa [ej 1 (by omega)] at this
 ·have := hj 2 (by omega) _ rfl; rwa [ej 2 (by omega)] at this
 ·have := hj 3 (by omega) _ rfl; rwa [ej 3 (by omega)] at this
section
variable {w w' : World} {base : Nat → Prop} {A : Option Addr} {l : List Bx} {b : Bx} {A1 A2 A3 : Option Addr} {c1 c2 c3 : Nat} {v : Value}
theorem BoxP.grows (h : BoxP w base b A1 c1 A2 c2 A3 c3) (hg : Grows w w') : BoxP w' base b A1 c1 A2 c2 A3 c3 := ⟨h.r.grows hg, h.m.grows hg, h.s.grows hg, h.cr, h.cm, h.cs⟩
theorem BoxP.mono {b2 : Nat → Prop} (h : BoxP w base b A1 c1 A2 c2 A3 c3) (hb : ∀ k, base k → b2 k) : BoxP w b2 b A1 c1 A2 c2 A3 c3 := ⟨RdB.mono h.r hb, h.m.mono hb, RdB.mono h.s hb, h.cr, h.cm, h.cs⟩
theorem BoxP.grown (h : BoxP w base b A1 c1 A2 c2 A3 c3) {row : Option Nat} (hg : w.grownBy w' row) (hr : ∀ g, row = some g → ¬ base g) : BoxP w' base b A1 c1 A2 c2 A3 c3 := ⟨RdB.grown h.r hg hr, h.m.grown hg hr, RdB.grown h.s hg hr, h.cr, h.cm, h.cs⟩
theorem BoxP.under (h : BoxP w base b A1 c1 A2 c2 A3 c3) : BoxP w (Under w.heap.size) b A1 c1 A2 c2 A3 c3 := ⟨RdB.under h.r, h.m.under, RdB.under h.s, h.cr, h.cm, h.cs⟩
theorem BoxP.bd (h : BoxP w base b A1 c1 A2 c2 A3 c3) : BoxP w (Bd base w.heap.size) b A1 c1 A2 c2 A3 c3 := ⟨RdB.bd h.r, h.m.bd, RdB.bd h.s, h.cr, h.cm, h.cs⟩
theorem BoxV.grows (h : BoxV w base b v) (hg : Grows w w') : BoxV w' base b v := by
 obtain ⟨A1, c1, A2, c2, A3, c3, e, hp⟩ := h
 exact ⟨A1, c1, A2, c2, A3, c3, e, hp.grows hg⟩
theorem Bxs.nil : Bxs w base none [] := ⟨[], RdB.nil, fun i x h => by simp at h⟩
theorem Bxs.grows (h : Bxs w base A l) (hg : Grows w w') : Bxs w' base A l := by
 obtain ⟨vs, h1, h2⟩ := h
 exact ⟨vs, h1.grows hg, fun i x hx => by obtain ⟨A1, c1, A2, c2, A3, c3, hp, hc⟩ := h2 i x hx; exact ⟨A1, c1, A2, c2, A3, c3, hp.grows hg, hc⟩⟩
theorem Bxs.mono {b2 : Nat → Prop} (h : Bxs w base A l) (hb : ∀ k, base k → b2 k) : Bxs w b2 A l := by
 obtain ⟨vs, h1, h2⟩ := h
 exact ⟨vs, h1.mono hb, fun i x hx => by obtain ⟨A1, c1, A2, c2, A3, c3, hp, hc⟩ := h2 i x hx; exact ⟨A1, c1, A2, c2, A3, c3, hp.mono hb, hc⟩⟩
theorem Bxs.grown (h : Bxs w base A l) {row : Option Nat} (hg : w.grownBy w' row) (hr : ∀ g, row = some g → ¬ base g) : Bxs w' base A l := by
 obtain ⟨vs, h1, h2⟩ := h
 exact ⟨vs, h1.grown hg hr, fun i x hx => by obtain ⟨A1, c1, A2, c2, A3, c3, hp, hc⟩ := h2 i x hx; exact ⟨A1, c1, A2, c2, A3, c3, hp.grown hg hr, hc⟩⟩
theorem Bxs.back {n : Nat} {w : World} {w3 : World} {A : Option Addr} {l : List Bx} (h : Bxs w3 (Under n) A l) (hB : Below n w w3) (hn : n ≤ w.heap.size) : Bxs w (Under n) A l := by
 obtain ⟨vs, h1, h2⟩ := h
 exact ⟨vs, h1.back hB hn, fun i x hx => by obtain ⟨A1, c1, A2, c2, A3, c3, hp, hc⟩ := h2 i x hx; exact ⟨A1, c1, A2, c2, A3, c3, ⟨RdB.back hp.r hB hn, hp.m.back hB hn, RdB.back hp.s hB hn, hp.cr, hp.cm, hp.cs⟩, hc⟩⟩
theorem Bxs.backU {n : Nat} {ok : Nat → Prop} {w : World} {w3 : World} {A : Option Addr} {l : List Bx} (h : Bxs w3 ok A l) (hu : ∀ k, ok k → k < n) (hB : Below n w w3) (hn : n ≤ w.heap.size) : Bxs w ok A l := by
 obtain ⟨vs, h1, h2⟩ := h
 exact ⟨vs, h1.backU hu hB hn, fun i x hx => by obtain ⟨A1, c1, A2, c2, A3, c3, hp, hc⟩ := h2 i x hx; exact ⟨A1, c1, A2, c2, A3, c3, ⟨RdB.backU hp.r hu hB hn, hp.m.backU hu hB hn, RdB.backU hp.s hu hB hn, hp.cr, hp.cm, hp.cs⟩, hc⟩⟩
theorem Bxs.under (h : Bxs w base A l) : Bxs w (Under w.heap.size) A l := by
 obtain ⟨vs, h1, h2⟩ := h
 exact ⟨vs, h1.under, fun i x hx => by obtain ⟨A1, c1, A2, c2, A3, c3, hp, hc⟩ := h2 i x hx; exact ⟨A1, c1, A2, c2, A3, c3, hp.under, hc⟩⟩
theorem Bxs.bd (h : Bxs w base A l) : Bxs w (Bd base w.heap.size) A l := by
 obtain ⟨vs, h1, h2⟩ := h
 exact ⟨vs, h1.bd, fun i x hx => by obtain ⟨A1, c1, A2, c2, A3, c3, hp, hc⟩ := h2 i x hx; exact ⟨A1, c1, A2, c2, A3, c3, hp.bd, hc⟩⟩
theorem Bxs.drop (h : Bxs w base A l) {k cap : Nat} (hk : k ≤ l.length) (hc : l.length ≤ cap) : Bxs w base (if cap = k then A else A.map (·.add (k * 4))) (l.drop k) := by
 obtain ⟨vs, h1, h2⟩ := h
 refine ⟨vs.drop (k * 4), by rw [List.length_drop]; exact h1.drop hk hc, fun i x hx => ?_⟩
 rw [List.getElem?_drop] at hx
 obtain ⟨A1, c1, A2, c2, A3, c3, hp, hcc⟩ := h2 (k + i) x hx
 refine ⟨A1, c1, A2, c2, A3, c3, hp, fun j hj => ?_⟩
 rw [← hcc j hj, List.getElem?_drop]
 congr 1
 omega
theorem Bxs.elem (h : Bxs w base A l) {k : Nat} (hk : k < l.length) : ∃ ad b A1 c1 A2 c2 A3 c3, A = some ad ∧ ad.block < w.heap.size ∧ l[k]? = some b ∧ BoxP w base b A1 c1 A2 c2 A3 c3 ∧
 CellsB w (ad.add (k * 4)) (.int .i64 b.k) (.slice A1 b.r.length c1) (.slice A2 b.m.length c2) (.slice A3 b.s.length c3) := by
 obtain ⟨vs, h1, h2⟩ := h
 obtain ⟨ad, e, hb, hc⟩ := h1.1.2 (by omega)
 have hx := List.getElem?_eq_getElem hk
 obtain ⟨A1, c1, A2, c2, A3, c3, hp, hcc⟩ := h2 k _ hx
 exact ⟨ad, _, A1, c1, A2, c2, A3, c3, e, hb, hx, hp, cellsB_of rfl fun j hj u hu => hc _ u ((hcc j hj).trans hu)⟩
end
/-- All members are good, none is there twice: as far as place k. -/
def GoodU {α : Type} (p : α → Bool) (m : List α) (k : Nat) : Prop := (∀ y ∈ m.take k, p y = true) ∧ (m.take k).Nodup
def uniqOk {α : Type} [DecidableEq α] (p : α → Bool) (m : List α) : Bool := m.all p && decide m.Nodup
section
variable {α : Type} {p : α → Bool} {m : List α} {k : Nat} {x : α}
theorem good_zero : GoodU p m 0 := ⟨by simp, by simp⟩
theorem good_next (h : GoodU p m k) (hx : m[k]? = some x) (hp : p x = true) (hn : x ∉ m.take k) : GoodU p m (k + 1) := by
 unfold GoodU
 rw [take_snoc hx]
 refine ⟨fun y hy => ?_, ?_⟩
 ·rcases List.mem_append.1 hy with hy | hy
  ·exact h.1 y hy
  ·simp only [List.mem_singleton] at hy
   exact hy ▸ hp
 ·rw [List.nodup_append]
  refine ⟨h.2, by simp, fun a ha b hb => ?_⟩
  simp only [List.mem_singleton] at hb
  subst hb
  exact fun e => hn (e ▸ ha)
end
section
variable {α : Type} [DecidableEq α] {p : α → Bool} {m : List α} {k : Nat} {x : α}
theorem good_bad (hx : m[k]? = some x) (hp : p x = false) : uniqOk p m = false := by
 unfold uniqOk
 have : m.all p = false := by
  rw [List.all_eq_false]
  exact ⟨x, List.mem_of_getElem? hx, by simp [hp]⟩
 rw [this, Bool.false_and]
theorem good_twice (hx : m[k]? = some x) (hn : x ∈ m.take k) : uniqOk p m = false := by
 unfold uniqOk
 have : ¬ m.Nodup := fun h => by
  have h2 := (List.take_sublist (k + 1) m).nodup h
  rw [take_snoc hx, List.nodup_append] at h2
  exact h2.2.2 x hn x (by simp) rfl
 simp [this]
theorem good_end (h : GoodU p m k) (hk : m.length ≤ k) : uniqOk p m = true := by
 unfold GoodU at h
 rw [List.take_of_length_le hk] at h
 unfold uniqOk
 simp only [Bool.and_eq_true, List.all_eq_true, decide_eq_true_eq]
 exact h
end
def okP (p : Int) : Bool := decide (1 ≤ p) && decide (p ≤ 8)
def validM (m : List Int) : Bool := decide (1 ≤ m.length) && decide (m.length ≤ 8) && uniqOk okP m
def withinS (l : List Sp) (lo hi : Int) : Bool := okS l && decide (0 < l.length) && decide (lo ≤ (l.headD (0, 0)).1) && decide ((l.getLastD (0, 0)).2 ≤ hi)
def mapsOk (m : List (List Int)) : Bool := decide (1 ≤ m.length) && decide (m.length ≤ 16) && uniqOk validM m
end Go.Proofs.YtbfdaojffffaaaaGreat

namespace Go.Proofs.YtbfdaojffffaaaaGreat
open Go.RowKit
def placeZ (o : Option Nat) : Int := match o with | some k => (k : Int) | none => -1
section
variable {α : Type} {l : List α} {p : α → Bool} {k : Nat} {x : α}
theorem idx_upU (h : (l.take k).findIdx? p = none) (hx : l[k]? = some x) (hne : p x = false) : (l.take (k + 1)).findIdx? p = none := by
 rw [take_snoc hx]
 rw [List.findIdx?_eq_none_iff] at *
 intro y hy
 rcases List.mem_append.1 hy with hy | hy
 ·exact h y hy
 ·simp only [List.mem_singleton] at hy
  subst hy
  exact hne
theorem idx_atU (h : (l.take k).findIdx? p = none) (hx : l[k]? = some x) (he : p x = true) : l.findIdx? p = some k := by
 rw [List.findIdx?_eq_none_iff] at h
 rw [List.findIdx?_eq_some_iff_getElem]
 obtain ⟨hk, hx⟩ := List.getElem?_eq_some_iff.1 hx
 refine ⟨hk, by rw [hx]; exact he, fun j hj => ?_⟩
 have := h (l[j]'(by omega)) (by
  rw [List.mem_take_iff_getElem]
  exact ⟨j, by omega, rfl⟩)
 simp only [Bool.not_eq_true]
 exact this
theorem place_anyU (l : List α) (p : α → Bool) : decide (0 ≤ placeZ (l.findIdx? p)) = l.any p := by
 cases e : l.findIdx? p with
 | none =>
  rw [List.findIdx?_eq_none_iff] at e
  have : l.any p = false := by rw [List.any_eq_false]; exact fun x hx => by rw [e x hx]; simp
  rw [this]
  rfl
 | some k =>
  obtain ⟨hk, h1, _⟩ := List.findIdx?_eq_some_iff_getElem.1 e
  have : l.any p = true := List.any_eq_true.2 ⟨_, List.getElem_mem hk, h1⟩
  rw [this]
  simp [placeZ]
end
theorem any_eq_mem (l : List (List Int)) (m : List Int) : (l.any fun x => decide (x = m)) = decide (m ∈ l) := by
 by_cases h : m ∈ l
 ·rw [decide_eq_true h, List.any_eq_true]
  exact ⟨m, h, by simp⟩
 ·rw [decide_eq_false h, List.any_eq_false]
  intro x hx
  simp only [decide_eq_true_eq]
  exact fun e => h (e ▸ hx)
theorem any_not {α : Type} (l : List α) (p : α → Bool) : (!(l.any fun x => !p x)) = l.all p := by
 induction l with
 | nil => rfl
 | cons x l ih =>
  simp only [List.any_cons, List.all_cons, Bool.not_or, Bool.not_not]
  rw [ih]
set_option maxHeartbeats 4000000 in
theorem pvalidm_any (A : Option Addr) (c : Nat) (m : List Int) (w : World) (h : Ints w A m) (hl : m.length ≤ 1000000) (hc : m.length ≤ c) : Calls Tryz.prog 156 #[.slice A m.length c] w fun e w' => e = .returned (.bool (validM m)) ∧ Grows w w' := by
 have hB := Below.refl w.heap.size w
 go_enter Tryz.func156, Tryz.ntmps156
 by_cases h1 : m.length < 1
 ·have HE : Hid (validM m = false) := Lib.hid (by unfold validM; simp only [Bool.and_eq_false_iff, decide_eq_false_iff_not]; omega)
  have d1 : decide ((m.length : Int) < 1) = true := by simp only [decide_eq_true_eq]; omega
  clear h1
  go_wp2
  go_ret
  exact ⟨ret_bool HE.out.symm, hB⟩
 have d1 : decide ((m.length : Int) < 1) = false := by simp only [decide_eq_false_iff_not]; omega
 by_cases h2 : 8 < m.length
 ·have HE : Hid (validM m = false) := Lib.hid (by unfold validM; simp only [Bool.and_eq_false_iff, decide_eq_false_iff_not]; omega)
  have d2 : decide ((8 : Int) < (m.length : Int)) = true := by simp only [decide_eq_true_eq]; omega
  clear h1 h2
  go_wp2
  go_ret
  exact ⟨ret_bool HE.out.symm, hB⟩
 have d2 : decide ((8 : Int) < (m.length : Int)) = false := by simp only [decide_eq_false_iff_not]; omega
 have HV : Hid (validM m = uniqOk okP m) := Lib.hid (by unfold validM; rw [decide_eq_true (by omega : 1 ≤ m.length), decide_eq_true (by omega : m.length ≤ 8)]; rfl)
 clear h1 h2
 go_wp2_with fail
 clear hB
 go_loopw [15] (fun i wr => ∃ k : Nat, k ≤ m.length ∧ i = .int .i64 k ∧ Hid (GoodU okP m k) ∧ Grows w wr) (fun i _ => m.length - (intOf i).toNat)
 case atStart => exact ⟨0, by omega, rfl, Lib.hid good_zero, Below.refl _ _⟩
 case round =>
  obtain ⟨k, hk, rfl, HF, hB⟩ := hrel
  by_cases hlt : k < m.length
  ·obtain ⟨ad, x, rfl, had, hx, q0⟩ := (h.grows hB).at_ hlt
   have HX := Lib.hid hx
   clear hx
   by_cases h1 : x < 1
   ·have HE : Hid (validM m = false) := Lib.hid (by rw [HV.out]; exact good_bad HX.out (by unfold okP; rw [decide_eq_false (by omega), Bool.false_and]))
    have d3 : decide (x < 1) = true := by simpa using h1
    clear h1
    go_wp2
    go_ret
    exact ⟨ret_bool HE.out.symm, hB⟩
   have d3 : decide (x < 1) = false := by simpa using h1
   by_cases h2 : 8 < x
   ·have HE : Hid (validM m = false) := Lib.hid (by rw [HV.out]; exact good_bad HX.out (by unfold okP; rw [decide_eq_false (by omega : ¬ x ≤ 8), Bool.and_false]))
    have d4 : decide (8 < x) = true := by simpa using h2
    clear h1 h2
    go_wp2
    go_ret
    exact ⟨ret_bool HE.out.symm, hB⟩
   have d4 : decide (8 < x) = false := by simpa using h2
   have HOK : Hid (okP x = true) := Lib.hid (by unfold okP; rw [decide_eq_true (by omega), decide_eq_true (by omega)]; rfl)
   clear h1 h2
   have hkc : k ≤ c := by omega
   have hkl : (m.take k).length = k := by rw [List.length_take]; omega
   have htk := ints_take (h.grows hB) (Nat.le_of_lt hlt)
   have hcon := contains_any (some ad) c (m.take k) x wr htk (by omega)
   rw [hkl] at hcon
   have HC := Lib.hid hcon
   clear hcon
   go_wp2_with fail
   refine HC.out.mono ?_
   clear HC
   by_cases h5 : x ∈ m.take k
   ·have HE : Hid (validM m = false) := Lib.hid (by rw [HV.out]; exact good_twice HX.out h5)
    rw [decide_eq_true h5]
    clear h5
    rintro e w2 ⟨rfl, hq⟩
    replace hB := below_grows hB (Nat.le_refl _) hq
    clear hq
    go_wp2
    go_ret
    exact ⟨ret_bool HE.out.symm, hB⟩
   ·have HN : Hid (GoodU okP m (k + 1)) := Lib.hid (good_next HF.out HX.out HOK.out h5)
    rw [decide_eq_false h5]
    clear h5
    rintro e w2 ⟨rfl, hq⟩
    replace hB := below_grows hB (Nat.le_refl _) hq
    clear hq
    go_wp2
    go_roundw
    case rel => exact ⟨k + 1, by omega, by go_num, HN, hB⟩
    case measure => simp [intOf]; omega
  ·obtain rfl : k = m.length := by omega
   have HE : Hid (validM m = true) := Lib.hid (by rw [HV.out]; exact good_end HF.out (by omega))
   go_wp2
   go_ret
   exact ⟨ret_bool HE.out.symm, hB⟩
set_option maxHeartbeats 2000000 in
theorem idx_hasm (G : Nat) {n : Nat} (A : Option Addr) (c : Nat) (base : Nat → Prop) (l : List (List Int)) (p : List Int → Bool) (w : World) (hn : n = l.length) (h : MapsR w base A l) (hl : l.length ≤ 9223372036854775807)
 (hp : ∀ (x : List Int) (B : Option Addr) (cx : Nat) (w1 : World), x ∈ l → Grows w w1 → InB w1 base B x → x.length ≤ cx → Calls Tryz.prog 246 #[.slice B x.length cx, .pointer (some ⟨G, 0, none⟩)] w1 fun e w' => e = .returned (.bool (p x)) ∧ Grows w1 w') :
 Calls Tryz.prog 292 #[.slice A n c, .func (.func 246) #[] #[.pointer (some ⟨G, 0, none⟩)]] w fun e w' => e = .returned (.int .i64 (placeZ (l.findIdx? p))) ∧ Grows w w' := by
 subst hn
 have HP := Lib.hid hp
 clear hp
 go_enter Tryz.func292, Tryz.ntmps292
 go_wp2_with fail
 go_loopw [8] (fun i wr => ∃ k : Nat, k ≤ l.length ∧ i = .int .i64 k ∧ Hid ((l.take k).findIdx? p = none) ∧ Grows w wr) (fun i _ => l.length - (intOf i).toNat)
 case atStart => exact ⟨0, by omega, rfl, Lib.hid rfl, Below.refl _ _⟩
 case round =>
  obtain ⟨k, hk, rfl, hf, hB⟩ := hrel
  by_cases hlt : k < l.length
  ·obtain ⟨ad, x, B, cx, rfl, had, hx, q0, hcx, hix⟩ := (h.grows hB).elem hlt
   have HX := Lib.hid hx
   clear hx
   go_wp2_with fail
   refine (HP.out x B cx _ (List.mem_of_getElem? HX.out) hB hix hcx).mono ?_
   rintro e w2 ⟨rfl, hq⟩
   replace hB := below_grows hB (Nat.le_refl _) hq
   clear hq q0 hix
   cases e : p x
   ·have HE := Lib.hid (idx_upU hf.out HX.out e)
    go_wp2
    go_roundw
    case rel => exact ⟨k + 1, by omega, by go_num, HE, hB⟩
    case measure => simp [intOf]; omega
   ·have HE := Lib.hid (idx_atU hf.out HX.out e)
    go_wp2
    go_ret
    rw [HE.out]
    exact ⟨rfl, hB⟩
  ·have HE : Hid (l.findIdx? p = none) := Lib.hid (by have := hf.out; rwa [List.take_of_length_le (by omega)] at this)
   go_wp2
   go_ret
   rw [HE.out]
   exact ⟨rfl, hB⟩
theorem cont_hasm (G : Nat) {n : Nat} (A : Option Addr) (c : Nat) (base : Nat → Prop) (l : List (List Int)) (p : List Int → Bool) (w : World) (hn : n = l.length) (h : MapsR w base A l) (hl : l.length ≤ 9223372036854775807)
 (hp : ∀ (x : List Int) (B : Option Addr) (cx : Nat) (w1 : World), x ∈ l → Grows w w1 → InB w1 base B x → x.length ≤ cx → Calls Tryz.prog 246 #[.slice B x.length cx, .pointer (some ⟨G, 0, none⟩)] w1 fun e w' => e = .returned (.bool (p x)) ∧ Grows w1 w') :
 Calls Tryz.prog 245 #[.slice A n c, .func (.func 246) #[] #[.pointer (some ⟨G, 0, none⟩)]] w fun e w' => e = .returned (.bool (l.any p)) ∧ Grows w w' := by
 subst hn
 have HP := Lib.hid hp
 clear hp
 rw [← place_anyU]
 go_enter Tryz.func245, Tryz.ntmps245
 go_wp2_with fail
 refine (idx_hasm G A c base l p _ rfl h hl HP.out).mono ?_
 rintro e w2 ⟨rfl, hq⟩
 generalize hz : placeZ (l.findIdx? p) = z
 have HZ := Lib.hid hz
 clear hz
 go_wp2
 go_ret
 rw [HZ.out]
 exact ⟨rfl, hq⟩
theorem has1_any {G : Nat} {M B : Option Addr} {cm cx : Nat} {m x : List Int} {w : World} (km : Blk w G 31 #[.slice M m.length cm]) (hm : Ints w M m) (hx : Ints w B x) (hlm : m.length ≤ 9223372036854775807) (hlx : x.length ≤ 9223372036854775807) :
 Calls Tryz.prog 246 #[.slice B x.length cx, .pointer (some ⟨G, 0, none⟩)] w fun e w' => e = .returned (.bool (decide (x = m))) ∧ Grows w w' := by
 have x1 := km.cell
 go_enter Tryz.func246, Tryz.ntmps246
 go_wp2_with fail
 refine (psame_any B M cx cm x m _ hx hm hlx hlm).mono ?_
 rintro e w1 ⟨rfl, hq⟩
 go_wp2
 go_ret
 exact ⟨rfl, hq⟩
theorem phasw_any {n : Nat} {base : Nat → Prop} (A M : Option Addr) (c cm : Nat) (l : List (List Int)) (m : List Int) (w : World) (hn : n = l.length) (h : MapsR w base A l) (hl : l.length ≤ 1000000) (hls : ∀ x ∈ l, x.length ≤ 1000000) (hm : Ints w M m) (hlm : m.length ≤ 9223372036854775807) :
 Calls Tryz.prog 169 #[.slice A n c, .slice M m.length cm] w fun e w' => e = .returned (.bool (decide (m ∈ l))) ∧ Grows w w' := by
 subst hn
 have km := Blk.new w 31 #[.slice M m.length cm]
 have hB := (Below.refl w.heap.size w).alloc (Nat.le_refl _) (Obj.cells #[.slice M m.length cm] 31)
 have HLS := Lib.hid hls
 clear hls
 rw [← any_eq_mem]
 go_enter Tryz.func169, Tryz.ntmps169
 go_upto_region 1 with fail
 generalize World.alloc w _ = w1 at *
 go_wp2_with fail
 refine (cont_hasm w.heap.size A c base l (fun x => decide (x = m)) _ rfl (h.grows hB) (by omega) (fun x B cx w2 hx hg hi hc => has1_any (km.grows hg) (hm.grows (below_grows hB (Nat.le_refl _) hg)) hi.ints (by omega) (by have := HLS.out x hx; omega))).mono ?_
 rintro e w2 ⟨rfl, hq⟩
 replace hB := below_grows hB (Nat.le_refl _) hq
 go_wp2
 go_ret
 exact ⟨rfl, hB⟩
theorem phas_any {n : Nat} {base : Nat → Prop} (A M : Option Addr) (c cm : Nat) (l : List (List Int)) (m : List Int) (w : World) (hn : n = l.length) (h : MapsR w base A l) (hl : l.length ≤ 1000000) (hls : ∀ x ∈ l, x.length ≤ 1000000) (hm : Ints w M m) (hlm : m.length ≤ 1000000) :
 Calls Tryz.prog 169 #[.slice A n c, .slice M m.length cm] w fun e w' => e = .returned (.bool (decide (m ∈ l))) ∧ Grows w w' := phasw_any A M c cm l m w hn h hl hls hm (by omega)
set_option maxHeartbeats 4000000 in
theorem pwithin_any (A : Option Addr) (c : Nat) (l : List Sp) (lo hi : Int) (w : World) (h : Sps w A l) (hl : l.length ≤ 1000000) :
 Calls Tryz.prog 236 #[.agg #[.slice A l.length c], .int .i64 lo, .int .i64 hi] w fun e w' => e = .returned (.bool (withinS l lo hi)) ∧ Grows w w' := by
 have k3 := Blk.new w 132 #[.slice A l.length c]
 have hB := (Below.refl w.heap.size w).alloc (Nat.le_refl _) (Obj.cells #[.slice A l.length c] 132)
 go_enter Tryz.func236, Tryz.ntmps236
 go_upto_region 1 with fail
 generalize World.alloc w _ = w1 at *
 have x1 := k3.cell 0
 by_cases h0 : l.length = 0
 ·have HE : Hid (withinS l lo hi = false) := Lib.hid (by unfold withinS; rw [decide_eq_false (by omega : ¬ 0 < l.length)]; simp)
  obtain rfl := List.eq_nil_of_length_eq_zero h0
  clear h0
  go_wp2
  go_ret
  exact ⟨ret_bool HE.out.symm, hB⟩
 have d1 : decide (0 < l.length) = true := by simp only [decide_eq_true_eq]; omega
 go_wp2_with fail
 refine (valid_any A c l _ (h.grows hB) (by omega)).mono ?_
 cases hv : okS l
 ·have HV := Lib.hid hv
  clear hv
  rintro e w2 ⟨rfl, hq⟩
  replace hB := below_grows hB (Nat.le_refl _) hq
  clear hq x1
  have HE : Hid (withinS l lo hi = false) := Lib.hid (by unfold withinS; rw [HV.out]; simp)
  go_wp2
  go_ret
  exact ⟨ret_bool HE.out.symm, hB⟩
 ·have HV := Lib.hid hv
  clear hv
  rintro e w2 ⟨rfl, hq⟩
  replace hB := below_grows hB (Nat.le_refl _) hq
  replace k3 := k3.grows hq
  clear hq x1
  have x1 := k3.cell 0
  obtain ⟨ad, x, rfl, had, hx, q0, q1⟩ := (h.grows hB).elem (show 0 < l.length by omega)
  obtain ⟨ad2, y, e2, had2, hy, p0, p1⟩ := (h.grows hB).elem (show l.length - 1 < l.length by omega)
  injection e2 with e2
  subst e2
  have e0 : ad.add (0 * 2) = ad := by simp [Addr.add]
  rw [e0] at q0 q1
  have hix : IntKind.i64.wrap ((l.length : Int) - 1) = ((l.length - 1 : Nat) : Int) := by rw [IntWalk.i64_in _ (by omega)]; omega
  have HW : Hid (withinS l lo hi = (decide (lo ≤ x.1) && decide (y.2 ≤ hi))) := Lib.hid (by
   unfold withinS
   rw [HV.out, decide_eq_true (by omega : 0 < l.length)]
   have e1 : l.headD (0, 0) = x := by
    cases l with
    | nil => simp at hx
    | cons z l => simpa using hx
   have e2 : l.getLastD (0, 0) = y := by
    rw [List.getLastD_eq_getLast?, List.getLast?_eq_getElem?, hy]
    rfl
   rw [e1, e2]
   simp)
  have hn2 : l.length - 1 < l.length := by omega
  generalize hN : l.length - 1 = N at *
  clear hx hy hN
  by_cases h3 : lo ≤ x.1
  case neg =>
   have HE : Hid (withinS l lo hi = false) := Lib.hid (by rw [HW.out, decide_eq_false h3, Bool.false_and])
   have d3 : decide (lo ≤ x.1) = false := by simpa using h3
   clear h3
   go_wp2
   go_ret
   exact ⟨ret_bool HE.out.symm, hB⟩
  have d3 : decide (lo ≤ x.1) = true := by simpa using h3
  by_cases h4 : y.2 ≤ hi
  ·have HE : Hid (withinS l lo hi = true) := Lib.hid (by rw [HW.out, d3, decide_eq_true h4]; rfl)
   have d4 : decide (y.2 ≤ hi) = true := by simpa using h4
   clear h3 h4
   go_wp2
   go_ret
   exact ⟨ret_bool HE.out.symm, hB⟩
  ·have HE : Hid (withinS l lo hi = false) := Lib.hid (by rw [HW.out, decide_eq_false h4, Bool.and_false])
   have d4 : decide (y.2 ≤ hi) = false := by simpa using h4
   clear h3 h4
   go_wp2
   go_ret
   exact ⟨ret_bool HE.out.symm, hB⟩
end Go.Proofs.YtbfdaojffffaaaaGreat

namespace Go.Proofs.YtbfdaojffffaaaaGreat
open Go.RowKit
def OKB (b : Bx) : Prop := b.r.length ≤ 1000000 ∧ b.s.length ≤ 1000000 ∧ b.m.length ≤ 1000000 ∧ ∀ x ∈ b.m, x.length ≤ 1000000
def kindsOk (k : Int) : Bool := (k != 0) && (bits .andNot .i64 k 254 == 0)
def fineB (b : Bx) : Bool := kindsOk b.k && withinS b.r 1000 768000 && withinS b.s 1 65536 && mapsOk b.m
def validL (l : List Bx) : Bool := decide (l.length ≤ 64) && l.all fineB
def boxesF (l : List Bx) : List Bx := if validL l = true then l else []
def kindB (b k : Int) : Bool := decide (1 ≤ k) && decide (k ≤ 7) && (bits .and .i64 (b / 2 ^ k.toNat) 1 == 1)
theorem kindsOk_zero {k : Int} (h : k = 0) : kindsOk k = false := by subst h; rfl
theorem kindsOk_bits {k : Int} (h : bits .andNot .i64 k 254 ≠ 0) : kindsOk k = false := by unfold kindsOk; rw [beq_eq_false_iff_ne.2 h, Bool.and_false]
theorem kindsOk_yes {k : Int} (h : k ≠ 0) (h2 : bits .andNot .i64 k 254 = 0) : kindsOk k = true := by unfold kindsOk; rw [h2, bne_iff_ne.2 h]; rfl
theorem fineB_m {b : Bx} (h : mapsOk b.m = false) : fineB b = false := by unfold fineB; rw [h, Bool.and_false]
theorem fineB_k {b : Bx} (h : kindsOk b.k = false) : fineB b = false := by unfold fineB; rw [h]; simp
theorem fineB_r {b : Bx} (h : withinS b.r 1000 768000 = false) : fineB b = false := by unfold fineB; rw [h]; simp
theorem fineB_s {b : Bx} (h : withinS b.s 1 65536 = false) : fineB b = false := by unfold fineB; rw [h]; simp
theorem fineB_yes {b : Bx} (h1 : kindsOk b.k = true) (h2 : withinS b.r 1000 768000 = true) (h3 : withinS b.s 1 65536 = true) (h4 : mapsOk b.m = true) : fineB b = true := by unfold fineB; rw [h1, h2, h3, h4]; rfl
theorem mapsOk_u {m : List (List Int)} (h : uniqOk validM m = false) : mapsOk m = false := by unfold mapsOk; rw [h, Bool.and_false]
theorem mapsOk_lo {m : List (List Int)} (h : m.length < 1) : mapsOk m = false := by unfold mapsOk; rw [decide_eq_false (by omega : ¬ 1 ≤ m.length)]; rfl
theorem mapsOk_hi {m : List (List Int)} (h : 16 < m.length) : mapsOk m = false := by unfold mapsOk; rw [decide_eq_false (by omega : ¬ m.length ≤ 16)]; simp
theorem mapsOk_yes {m : List (List Int)} (h1 : 1 ≤ m.length) (h2 : m.length ≤ 16) (h : uniqOk validM m = true) : mapsOk m = true := by unfold mapsOk; rw [h, decide_eq_true h1, decide_eq_true h2]; rfl
set_option maxHeartbeats 8000000 in
theorem pfine_any {A1 A2 A3 : Option Addr} {c1 c2 c3 : Nat} {base : Nat → Prop} {b : Bx} {w : World} (hp : BoxP w base b A1 c1 A2 c2 A3 c3) (hl : OKB b) : Calls Tryz.prog 154 #[.agg #[.int .i64 b.k, .slice A1 b.r.length c1, .slice A2 b.m.length c2, .slice A3 b.s.length c3]] w fun e w' => e = .returned (.bool (fineB b)) ∧ Grows w w' := by
 obtain ⟨hlr, hls, hlm, hlx⟩ := hl
 have HLM := Lib.hid hlx
 clear hlx
 have k1 := Blk.new w 134 #[.int .i64 b.k, .slice A1 b.r.length c1, .slice A2 b.m.length c2, .slice A3 b.s.length c3]
 have hB := (Below.refl w.heap.size w).alloc (Nat.le_refl _) (Obj.cells #[.int .i64 b.k, .slice A1 b.r.length c1, .slice A2 b.m.length c2, .slice A3 b.s.length c3] 134)
 go_enter Tryz.func154, Tryz.ntmps154
 go_upto_region 1 with fail
 generalize World.alloc w _ = w1 at *
 have x1 := k1.cell
 by_cases h0 : b.k = 0
 ·have HE : Hid (fineB b = false) := Lib.hid (fineB_k (kindsOk_zero h0))
  have d0 : (b.k == 0) = true := by simpa using h0
  clear h0
  go_wp2
  go_ret
  exact ⟨ret_bool HE.out.symm, hB⟩
 have d0 : (b.k == 0) = false := by simpa using h0
 by_cases h1 : bits .andNot .i64 b.k 254 = 0
 case neg =>
  have HE : Hid (fineB b = false) := Lib.hid (fineB_k (kindsOk_bits h1))
  have d1 : (bits .andNot .i64 b.k 254 != 0) = true := by simpa using h1
  clear h1 h0
  go_wp2
  go_ret
  exact ⟨ret_bool HE.out.symm, hB⟩
 have d1 : (bits .andNot .i64 b.k 254 != 0) = false := by simpa using h1
 have HK : Hid (kindsOk b.k = true) := Lib.hid (kindsOk_yes h0 h1)
 clear h0 h1
 go_wp2_with fail
 refine (pwithin_any A1 c1 b.r 1000 768000 _ (hp.r.grows hB).sps hlr).mono ?_
 cases hv : withinS b.r 1000 768000
 ·have HE : Hid (fineB b = false) := Lib.hid (fineB_r hv)
  clear hv
  rintro e w2 ⟨rfl, hq⟩
  replace hB := below_grows hB (Nat.le_refl _) hq
  clear hq x1
  go_wp2
  go_ret
  exact ⟨ret_bool HE.out.symm, hB⟩
 have HWr := Lib.hid hv
 clear hv
 rintro e w2 ⟨rfl, hq⟩
 replace hB := below_grows hB (Nat.le_refl _) hq
 replace k1 := k1.grows hq
 clear hq x1
 have x1 := k1.cell
 go_wp2_with fail
 refine (pwithin_any A3 c3 b.s 1 65536 _ (hp.s.grows hB).sps hls).mono ?_
 cases hv : withinS b.s 1 65536
 ·have HE : Hid (fineB b = false) := Lib.hid (fineB_s hv)
  clear hv
  rintro e w2 ⟨rfl, hq⟩
  replace hB := below_grows hB (Nat.le_refl _) hq
  clear hq x1
  go_wp2
  go_ret
  exact ⟨ret_bool HE.out.symm, hB⟩
 have HWs := Lib.hid hv
 clear hv
 rintro e w2 ⟨rfl, hq⟩
 replace hB := below_grows hB (Nat.le_refl _) hq
 replace k1 := k1.grows hq
 clear hq x1
 have x1 := k1.cell
 go_wp2_with fail
 go_loopw [29] (fun i wr => ∃ k : Nat, k ≤ b.m.length ∧ i = .int .i64 k ∧ Hid (GoodU validM b.m k) ∧ Blk wr w.heap.size 134 #[.int .i64 b.k, .slice A1 b.r.length c1, .slice A2 b.m.length c2, .slice A3 b.s.length c3] ∧ Below w.heap.size w wr) (fun i _ => b.m.length - (intOf i).toNat)
 case atStart => exact ⟨0, by omega, rfl, Lib.hid good_zero, k1, hB⟩
 case round =>
  clear k1 hB x1
  obtain ⟨k, hk, rfl, HF, k1, hB⟩ := hrel
  have x1 := k1.cell
  by_cases hlt : k < b.m.length
  ·obtain ⟨ad, x, B, cx, e2, had, hx, q0, hcx, hix⟩ := (hp.m.grows hB).elem hlt
   subst e2
   have HX := Lib.hid hx
   have hxl := HLM.out x (List.mem_of_getElem? hx)
   clear hx
   go_wp2_with fail
   refine (pvalidm_any B cx x _ hix.ints hxl hcx).mono ?_
   cases hv : validM x
   ·have HE : Hid (fineB b = false) := Lib.hid (fineB_m (mapsOk_u (good_bad HX.out hv)))
    clear hv
    rintro e w2 ⟨rfl, hq⟩
    replace hB := below_grows hB (Nat.le_refl _) hq
    clear hq x1 q0 hix
    go_wp2
    go_ret
    exact ⟨ret_bool HE.out.symm, hB⟩
   have HV := Lib.hid hv
   clear hv
   rintro e w2 ⟨rfl, hq⟩
   replace hB := below_grows hB (Nat.le_refl _) hq
   replace k1 := k1.grows hq
   replace hix := hix.grows hq
   clear hq x1 q0
   have x1 := k1.cell
   have hkc : k ≤ c2 := by have := hp.cm; omega
   have htk := MapsR.take (hp.m.grows hB) (Nat.le_of_lt hlt)
   have htl : k = (b.m.take k).length := by rw [List.length_take]; omega
   have HTL := Lib.hid htl
   clear htl
   go_wp2_with fail
   refine (phas_any (some ad) B c2 cx (b.m.take k) x _ HTL.out htk (by rw [List.length_take]; omega) (fun y hy => HLM.out y (List.mem_of_mem_take hy)) hix.ints hxl).mono ?_
   by_cases h5 : x ∈ b.m.take k
   ·have HE : Hid (fineB b = false) := Lib.hid (fineB_m (mapsOk_u (good_twice HX.out h5)))
    rw [decide_eq_true h5]
    clear h5
    rintro e w3 ⟨rfl, hq⟩
    replace hB := below_grows hB (Nat.le_refl _) hq
    clear hq x1 hix htk
    go_wp2
    go_ret
    exact ⟨ret_bool HE.out.symm, hB⟩
   ·have HN : Hid (GoodU validM b.m (k + 1)) := Lib.hid (good_next HF.out HX.out HV.out h5)
    rw [decide_eq_false h5]
    clear h5
    rintro e w3 ⟨rfl, hq⟩
    replace hB := below_grows hB (Nat.le_refl _) hq
    replace k1 := k1.grows hq
    clear hq x1 hix htk
    go_wp2
    go_roundw
    case rel => exact ⟨k + 1, by omega, by go_num, HN, k1, hB⟩
    case measure => simp [intOf]; omega
  ·obtain rfl : k = b.m.length := by omega
   have HU : Hid (uniqOk validM b.m = true) := Lib.hid (good_end HF.out (Nat.le_refl _))
   clear HF
   by_cases h1 : b.m.length < 1
   ·have HE : Hid (fineB b = false) := Lib.hid (fineB_m (mapsOk_lo h1))
    have d2 : decide ((1 : Int) ≤ (b.m.length : Int)) = false := by simp only [decide_eq_false_iff_not]; omega
    go_wp2
    go_ret
    exact ⟨ret_bool HE.out.symm, hB⟩
   have d2 : decide ((1 : Int) ≤ (b.m.length : Int)) = true := by simp only [decide_eq_true_eq]; omega
   by_cases h2 : 16 < b.m.length
   ·have HE : Hid (fineB b = false) := Lib.hid (fineB_m (mapsOk_hi h2))
    have d3 : decide ((b.m.length : Int) ≤ 16) = false := by simp only [decide_eq_false_iff_not]; omega
    go_wp2
    go_ret
    exact ⟨ret_bool HE.out.symm, hB⟩
   have d3 : decide ((b.m.length : Int) ≤ 16) = true := by simp only [decide_eq_true_eq]; omega
   have HE : Hid (fineB b = true) := Lib.hid (fineB_yes HK.out HWr.out HWs.out (mapsOk_yes (by omega) (by omega) HU.out))
   go_wp2
   go_ret
   exact ⟨ret_bool HE.out.symm, hB⟩
set_option maxHeartbeats 2000000 in
theorem idx_nfine {n : Nat} (A : Option Addr) (c : Nat) (base : Nat → Prop) (l : List Bx) (p : Bx → Bool) (w : World) (hn : n = l.length) (h : Bxs w base A l) (hl : l.length ≤ 9223372036854775807)
 (hp : ∀ (x : Bx) (A1 A2 A3 : Option Addr) (c1 c2 c3 : Nat) (w1 : World), x ∈ l → Grows w w1 → BoxP w1 base x A1 c1 A2 c2 A3 c3 → Calls Tryz.prog 215 #[.agg #[.int .i64 x.k, .slice A1 x.r.length c1, .slice A2 x.m.length c2, .slice A3 x.s.length c3]] w1 fun e w' => e = .returned (.bool (p x)) ∧ Grows w1 w') :
 Calls Tryz.prog 241 #[.slice A n c, .func (.func 215) #[] #[]] w fun e w' => e = .returned (.int .i64 (placeZ (l.findIdx? p))) ∧ Grows w w' := by
 subst hn
 have HP := Lib.hid hp
 clear hp
 go_enter Tryz.func241, Tryz.ntmps241
 go_wp2_with fail
 go_loopw [8] (fun i wr => ∃ k : Nat, k ≤ l.length ∧ i = .int .i64 k ∧ Hid ((l.take k).findIdx? p = none) ∧ Grows w wr) (fun i _ => l.length - (intOf i).toNat)
 case atStart => exact ⟨0, by omega, rfl, Lib.hid rfl, Below.refl _ _⟩
 case round =>
  obtain ⟨k, hk, rfl, hf, hB⟩ := hrel
  by_cases hlt : k < l.length
  ·obtain ⟨ad, x, A1, c1, A2, c2, A3, c3, rfl, had, hx, hpx, q0, q1, q2, q3⟩ := (h.grows hB).elem hlt
   have HX := Lib.hid hx
   clear hx
   go_wp2_with fail
   refine (HP.out x A1 A2 A3 c1 c2 c3 _ (List.mem_of_getElem? HX.out) hB hpx).mono ?_
   rintro e w2 ⟨rfl, hq⟩
   replace hB := below_grows hB (Nat.le_refl _) hq
   clear hq q0 q1 q2 q3 hpx
   cases e : p x
   ·have HE := Lib.hid (idx_upU hf.out HX.out e)
    go_wp2
    go_roundw
    case rel => exact ⟨k + 1, by omega, by go_num, HE, hB⟩
    case measure => simp [intOf]; omega
   ·have HE := Lib.hid (idx_atU hf.out HX.out e)
    go_wp2
    go_ret
    rw [HE.out]
    exact ⟨rfl, hB⟩
  ·have HE : Hid (l.findIdx? p = none) := Lib.hid (by have := hf.out; rwa [List.take_of_length_le (by omega)] at this)
   go_wp2
   go_ret
   rw [HE.out]
   exact ⟨rfl, hB⟩
theorem cont_nfine {n : Nat} (A : Option Addr) (c : Nat) (base : Nat → Prop) (l : List Bx) (p : Bx → Bool) (w : World) (hn : n = l.length) (h : Bxs w base A l) (hl : l.length ≤ 9223372036854775807)
 (hp : ∀ (x : Bx) (A1 A2 A3 : Option Addr) (c1 c2 c3 : Nat) (w1 : World), x ∈ l → Grows w w1 → BoxP w1 base x A1 c1 A2 c2 A3 c3 → Calls Tryz.prog 215 #[.agg #[.int .i64 x.k, .slice A1 x.r.length c1, .slice A2 x.m.length c2, .slice A3 x.s.length c3]] w1 fun e w' => e = .returned (.bool (p x)) ∧ Grows w1 w') :
 Calls Tryz.prog 165 #[.slice A n c, .func (.func 215) #[] #[]] w fun e w' => e = .returned (.bool (l.any p)) ∧ Grows w w' := by
 subst hn
 have HP := Lib.hid hp
 clear hp
 rw [← place_anyU]
 go_enter Tryz.func165, Tryz.ntmps165
 go_wp2_with fail
 refine (idx_nfine A c base l p _ rfl h hl HP.out).mono ?_
 rintro e w2 ⟨rfl, hq⟩
 generalize hz : placeZ (l.findIdx? p) = z
 have HZ := Lib.hid hz
 clear hz
 go_wp2
 go_ret
 rw [HZ.out]
 exact ⟨rfl, hq⟩
theorem nfine_any {A1 A2 A3 : Option Addr} {c1 c2 c3 : Nat} {base : Nat → Prop} {b : Bx} {w : World} (hp : BoxP w base b A1 c1 A2 c2 A3 c3) (hl : OKB b) : Calls Tryz.prog 215 #[.agg #[.int .i64 b.k, .slice A1 b.r.length c1, .slice A2 b.m.length c2, .slice A3 b.s.length c3]] w fun e w' => e = .returned (.bool (!fineB b)) ∧ Grows w w' := by
 have k1 := Blk.new w 134 #[.int .i64 b.k, .slice A1 b.r.length c1, .slice A2 b.m.length c2, .slice A3 b.s.length c3]
 have hB := (Below.refl w.heap.size w).alloc (Nat.le_refl _) (Obj.cells #[.int .i64 b.k, .slice A1 b.r.length c1, .slice A2 b.m.length c2, .slice A3 b.s.length c3] 134)
 go_enter Tryz.func215, Tryz.ntmps215
 go_upto_region 1 with fail
 generalize World.alloc w _ = w1 at *
 have x1 := k1.cell
 go_wp2_with fail
 refine (pfine_any (hp.grows hB) hl).mono ?_
 cases hv : fineB b
 ·have HE : Hid ((!fineB b) = true) := Lib.hid (by rw [hv]; rfl)
  clear hv
  rintro e w2 ⟨rfl, hq⟩
  replace hB := below_grows hB (Nat.le_refl _) hq
  go_wp2
  go_ret
  exact ⟨ret_bool HE.out.symm, hB⟩
 ·have HE : Hid ((!fineB b) = false) := Lib.hid (by rw [hv]; rfl)
  clear hv
  rintro e w2 ⟨rfl, hq⟩
  replace hB := below_grows hB (Nat.le_refl _) hq
  go_wp2
  go_ret
  exact ⟨ret_bool HE.out.symm, hB⟩
theorem pvalidl_any (A : Option Addr) (c : Nat) (base : Nat → Prop) (l : List Bx) (w : World) (h : Bxs w base A l) (hl : l.length ≤ 1000000) (ho : ∀ b ∈ l, OKB b) : Calls Tryz.prog 138 #[.slice A l.length c] w fun e w' => e = .returned (.bool (validL l)) ∧ Grows w w' := by
 have HO := Lib.hid ho
 clear ho
 have hB := Below.refl w.heap.size w
 go_enter Tryz.func138, Tryz.ntmps138
 by_cases h1 : 64 < l.length
 ·have HE : Hid (validL l = false) := Lib.hid (by unfold validL; rw [decide_eq_false (by omega : ¬ l.length ≤ 64)]; rfl)
  have d1 : decide ((l.length : Int) ≤ 64) = false := by simp only [decide_eq_false_iff_not]; omega
  go_wp2
  go_ret
  exact ⟨ret_bool HE.out.symm, hB⟩
 have d1 : decide ((l.length : Int) ≤ 64) = true := by simp only [decide_eq_true_eq]; omega
 have HV : Hid (validL l = !(l.any fun x => !fineB x)) := Lib.hid (by unfold validL; rw [decide_eq_true (by omega : l.length ≤ 64), any_not]; rfl)
 go_wp2_with fail
 refine (cont_nfine A c base l (fun x => !fineB x) _ rfl h (by omega) (fun x A1 A2 A3 c1 c2 c3 w1 hx _ hp => nfine_any hp (HO.out x hx))).mono ?_
 cases hv : (l.any fun x => !fineB x)
 ·have HE : Hid (validL l = true) := Lib.hid (by rw [HV.out, hv]; rfl)
  clear hv
  rintro e w2 ⟨rfl, hq⟩
  replace hB := below_grows hB (Nat.le_refl _) hq
  go_wp2
  go_ret
  exact ⟨ret_bool HE.out.symm, hB⟩
 ·have HE : Hid (validL l = false) := Lib.hid (by rw [HV.out, hv]; rfl)
  clear hv
  rintro e w2 ⟨rfl, hq⟩
  replace hB := below_grows hB (Nat.le_refl _) hq
  go_wp2
  go_ret
  exact ⟨ret_bool HE.out.symm, hB⟩
theorem pboxes_any (A : Option Addr) (c : Nat) (base : Nat → Prop) (l : List Bx) (w : World) (h : Bxs w base A l) (hl : l.length ≤ 1000000) (ho : ∀ b ∈ l, OKB b) (hc : l.length ≤ c) : Calls Tryz.prog 149 #[.slice A l.length c] w fun e w' => (∃ A c, e = .returned (.slice A (boxesF l).length c) ∧ (boxesF l).length ≤ c ∧ Bxs w base A (boxesF l)) ∧ Grows w w' := by
 have HO := Lib.hid ho
 clear ho
 go_enter Tryz.func149, Tryz.ntmps149
 go_wp2_with fail
 refine (pvalidl_any A c base l _ h hl HO.out).mono ?_
 cases hv : validL l
 ·have HE : Hid (boxesF l = []) := Lib.hid (by unfold boxesF; rw [hv]; rfl)
  clear hv
  rintro e w2 ⟨rfl, hq⟩
  go_wp2
  go_ret
  rw [HE.out]
  exact ⟨⟨none, 0, rfl, Nat.le_refl _, Bxs.nil⟩, hq⟩
 ·have HE : Hid (boxesF l = l) := Lib.hid (by unfold boxesF; rw [hv]; rfl)
  clear hv
  rintro e w2 ⟨rfl, hq⟩
  go_wp2
  go_ret
  rw [HE.out]
  exact ⟨⟨A, c, rfl, hc, h⟩, hq⟩
theorem pkind_any (k q : Int) (A1 A2 A3 : Option Addr) (n1 c1 n2 c2 n3 c3 : Nat) (w : World) : Calls Tryz.prog 167 #[.agg #[.int .i64 k, .slice A1 n1 c1, .slice A2 n2 c2, .slice A3 n3 c3], .int .i64 q] w fun e w' => e = .returned (.bool (kindB k q)) ∧ Grows w w' := by
 have hB := (Below.refl w.heap.size w).alloc (Nat.le_refl _) (Obj.cells #[.int .i64 k, .slice A1 n1 c1, .slice A2 n2 c2, .slice A3 n3 c3] 134)
 go_enter Tryz.func167, Tryz.ntmps167
 by_cases h1 : 1 ≤ q
 case neg =>
  have HE : Hid (kindB k q = false) := Lib.hid (by unfold kindB; rw [decide_eq_false h1]; rfl)
  have eh1 : decide (1 ≤ q) = false := by simpa using h1
  clear h1
  go_wp2
  go_ret
  exact ⟨ret_bool HE.out.symm, hB⟩
 have eh1 : decide (1 ≤ q) = true := by simpa using h1
 by_cases h2 : q ≤ 7
 case neg =>
  have HE : Hid (kindB k q = false) := Lib.hid (by unfold kindB; rw [decide_eq_false h2]; simp)
  have eh2 : decide (q ≤ 7) = false := by simpa using h2
  clear h2
  go_wp2
  go_ret
  exact ⟨ret_bool HE.out.symm, hB⟩
 have eh2 : decide (q ≤ 7) = true := by simpa using h2
 have HE : Hid (kindB k q = (bits .and .i64 (k / 2 ^ q.toNat) 1 == 1)) := Lib.hid (by unfold kindB; rw [eh1, eh2]; rfl)
 go_wp2
 go_ret
 exact ⟨ret_bool HE.out.symm, hB⟩
end Go.Proofs.YtbfdaojffffaaaaGreat

namespace Go.Proofs.YtbfdaojffffaaaaGreat
open Go.RowKit
end Go.Proofs.YtbfdaojffffaaaaGreat

namespace Go.Proofs.YtbfdaojffffaaaaGreat
open Go.RowKit
def ChV (w : World) (base : Nat → Prop) (c : Ch) (v : Value) : Prop := ∃ A n, v = .agg #[.int .i64 c.k, .int .i64 c.r, .slice A c.m.length n, .int .i64 c.s] ∧ c.m.length ≤ n ∧ InB w base A c.m
theorem ChV.grows {w w' : World} {base : Nat → Prop} {c : Ch} {v : Value} (h : ChV w base c v) (hg : Grows w w') : ChV w' base c v := by
 obtain ⟨A, n, e, hn, hi⟩ := h
 exact ⟨A, n, e, hn, hi.grows hg⟩
end Go.Proofs.YtbfdaojffffaaaaGreat

namespace Go.Proofs.YtbfdaojffffaaaaGreat
open Go.RowKit
set_option maxRecDepth 100000 in
set_option maxHeartbeats 4000000 in
theorem iclone_any (A : Option Addr) (c : Nat) (l : List Int) (w : World) (h : Ints w A l) (hl : l.length ≤ 1000000) :
 Calls Tryz.prog 129 #[.slice A l.length c] w fun e w' => (∃ v, e = .returned v ∧ OwnI w' w.heap.size v l) ∧ Grows w w' := by
 go_enter Tryz.func129, Tryz.ntmps129
 go_wp2_with fail
 rw [Lib.run_eql_slice_nil (P := Tryz.prog) w 31 3 _ _ _ _ _ Tryz.underlying31]
 rcases A with _ | ad
 ·have h0 : l.length = 0 := by
   rcases Nat.eq_zero_or_pos l.length with h0 | h0
   ·exact h0
   ·obtain ⟨ad, hh, _⟩ := h.2 h0
    cases hh
  obtain rfl : l = [] := List.length_eq_zero_iff.1 h0
  go_wp2
  go_ret
  exact ⟨⟨_, rfl, ownI_nil w w.heap.size⟩, Below.refl _ _⟩
 ·go_upto_region 3 with fail
  refine wp_region_lit ?_
  iterate 2
   refine wpList_plain rfl (fun K hK => ?_)
   go_simp
   refine hK _ _ ?_
   clear hK K
  have hB1 := (Below.refl w.heap.size w).alloc (Nat.le_refl _) (Obj.cells #[] 3)
  have how : OwnI (w.alloc (Obj.cells #[] 3)) w.heap.size (.slice (some ⟨w.heap.size, 0, none⟩) 0 0) [] := World.ownsRow_lit w #[] 0 (Nat.le_refl _) (by simp [maxLen]) rfl
  have h1 := h.grows hB1
  generalize hW : World.alloc w _ = w1 at *
  refine wpList_append_int rfl (.tmp 5) (.tmp 6) rfl (m := l) rfl rfl how rfl h1 (by simpa using hl) hB1.size ?_
  intro v' w2 hown hgr _
  have hB2 := how.below hB1 hgr hB1.size
  rw [List.nil_append] at hown
  clear how hgr h1 h hB1 hW
  go_wp2
  go_ret
  exact ⟨⟨_, rfl, hown⟩, hB2⟩
end Go.Proofs.YtbfdaojffffaaaaGreat

namespace Go.Proofs.YtbfdaojffffaaaaGreat
open Go.RowKit
end Go.Proofs.YtbfdaojffffaaaaGreat

namespace Go.Proofs.YtbfdaojffffaaaaGreat
open Go.RowKit
theorem boxes_ok {l : List Bx} (h : ∀ b ∈ l, OKB b) : ∀ b ∈ boxesF l, OKB b := by
 unfold boxesF
 split
 ·exact h
 ·simp
theorem boxes_len (l : List Bx) : (boxesF l).length ≤ 64 := by
 unfold boxesF
 split
 ·rename_i hv
  unfold validL at hv
  simp only [Bool.and_eq_true, decide_eq_true_eq] at hv
  exact hv.1
 ·simp
end Go.Proofs.YtbfdaojffffaaaaGreat

namespace Go.Proofs.YtbfdaojffffaaaaGreat
open Go.RowKit
def inB (b : Bx) (c : Ch) : Bool := kindB b.k c.k && hasF b.r c.r && decide (c.m ∈ b.m) && hasF b.s c.s
def hasL (l : List Bx) (c : Ch) : Bool := (boxesF l).any fun b => inB b c
theorem inB_k {b : Bx} {c : Ch} (h : kindB b.k c.k = false) : inB b c = false := by unfold inB; rw [h]; rfl
theorem inB_r {b : Bx} {c : Ch} (h : hasF b.r c.r = false) : inB b c = false := by unfold inB; rw [h]; simp
theorem inB_m {b : Bx} {c : Ch} (h : c.m ∉ b.m) : inB b c = false := by unfold inB; rw [decide_eq_false h]; simp
theorem inB_s {b : Bx} {c : Ch} (h : hasF b.s c.s = false) : inB b c = false := by unfold inB; rw [h]; simp
theorem inB_yes {b : Bx} {c : Ch} (h1 : kindB b.k c.k = true) (h2 : hasF b.r c.r = true) (h3 : c.m ∈ b.m) (h4 : hasF b.s c.s = true) : inB b c = true := by unfold inB; rw [h1, h2, h4, decide_eq_true h3]; rfl
set_option maxHeartbeats 4000000 in
theorem has1b_any {G : Nat} {base : Nat → Prop} {I A1 A2 A3 : Option Addr} {ci c1 c2 c3 : Nat} {b : Bx} {x : Ch} {w : World} (kc : Blk w G 35 #[.int .i64 x.k, .int .i64 x.r, .slice I x.m.length ci, .int .i64 x.s]) (hp : BoxP w base b A1 c1 A2 c2 A3 c3) (hl : OKB b) (ix : Ints w I x.m) (hxm : x.m.length ≤ 9223372036854775807) :
 Calls Tryz.prog 166 #[.agg #[.int .i64 b.k, .slice A1 b.r.length c1, .slice A2 b.m.length c2, .slice A3 b.s.length c3], .pointer (some ⟨G, 0, none⟩)] w fun e w' => e = .returned (.bool (inB b x)) ∧ Grows w w' := by
 obtain ⟨hlr, hls, hlm, hlx⟩ := hl
 have HLM := Lib.hid hlx
 clear hlx
 have k2 := Blk.new w 134 #[.int .i64 b.k, .slice A1 b.r.length c1, .slice A2 b.m.length c2, .slice A3 b.s.length c3]
 have hB := (Below.refl w.heap.size w).alloc (Nat.le_refl _) (Obj.cells #[.int .i64 b.k, .slice A1 b.r.length c1, .slice A2 b.m.length c2, .slice A3 b.s.length c3] 134)
 go_enter Tryz.func166, Tryz.ntmps166
 go_upto_region 1 with fail
 replace kc := kc.grows hB
 generalize World.alloc w _ = w1 at *
 have x1 := kc.cell
 have x2 := k2.cell
 go_wp2_with fail
 refine (pkind_any b.k x.k A1 A2 A3 b.r.length c1 b.m.length c2 b.s.length c3 _).mono ?_
 cases hv : kindB b.k x.k
 ·have HE : Hid (inB b x = false) := Lib.hid (inB_k hv)
  clear hv
  rintro e w2 ⟨rfl, hq⟩
  replace hB := below_grows hB (Nat.le_refl _) hq
  clear hq x1 x2
  go_wp2
  go_ret
  exact ⟨ret_bool HE.out.symm, hB⟩
 have H1 := Lib.hid hv
 clear hv
 rintro e w2 ⟨rfl, hq⟩
 replace hB := below_grows hB (Nat.le_refl _) hq
 replace kc := kc.grows hq
 replace k2 := k2.grows hq
 clear hq x1 x2
 have x1 := kc.cell
 have x2 := k2.cell
 go_wp2_with fail
 refine (has_any A1 c1 b.r x.r _ (hp.r.grows hB).sps (by omega)).mono ?_
 cases hv : hasF b.r x.r
 ·have HE : Hid (inB b x = false) := Lib.hid (inB_r hv)
  clear hv
  rintro e w2 ⟨rfl, hq⟩
  replace hB := below_grows hB (Nat.le_refl _) hq
  clear hq x1 x2
  go_wp2
  go_ret
  exact ⟨ret_bool HE.out.symm, hB⟩
 have H2 := Lib.hid hv
 clear hv
 rintro e w2 ⟨rfl, hq⟩
 replace hB := below_grows hB (Nat.le_refl _) hq
 replace kc := kc.grows hq
 replace k2 := k2.grows hq
 clear hq x1 x2
 have x1 := kc.cell
 have x2 := k2.cell
 go_wp2_with fail
 refine (phasw_any A2 I c2 ci b.m x.m _ rfl (hp.m.grows hB) hlm HLM.out (ix.grows hB) hxm).mono ?_
 by_cases hv : x.m ∈ b.m
 case neg =>
  have HE : Hid (inB b x = false) := Lib.hid (inB_m hv)
  rw [decide_eq_false hv]
  clear hv
  rintro e w2 ⟨rfl, hq⟩
  replace hB := below_grows hB (Nat.le_refl _) hq
  clear hq x1 x2
  go_wp2
  go_ret
  exact ⟨ret_bool HE.out.symm, hB⟩
 have H3 := Lib.hid hv
 rw [decide_eq_true hv]
 clear hv
 rintro e w2 ⟨rfl, hq⟩
 replace hB := below_grows hB (Nat.le_refl _) hq
 replace kc := kc.grows hq
 replace k2 := k2.grows hq
 clear hq x1 x2
 have x1 := kc.cell
 have x2 := k2.cell
 go_wp2_with fail
 refine (has_any A3 c3 b.s x.s _ (hp.s.grows hB).sps (by omega)).mono ?_
 cases hv : hasF b.s x.s
 ·have HE : Hid (inB b x = false) := Lib.hid (inB_s hv)
  clear hv
  rintro e w2 ⟨rfl, hq⟩
  replace hB := below_grows hB (Nat.le_refl _) hq
  clear hq x1 x2
  go_wp2
  go_ret
  exact ⟨ret_bool HE.out.symm, hB⟩
 have HE : Hid (inB b x = true) := Lib.hid (inB_yes H1.out H2.out H3.out hv)
 clear hv
 rintro e w2 ⟨rfl, hq⟩
 replace hB := below_grows hB (Nat.le_refl _) hq
 clear hq x1 x2
 go_wp2
 go_ret
 exact ⟨ret_bool HE.out.symm, hB⟩
set_option maxHeartbeats 2000000 in
theorem idx_hasb (G : Nat) {n : Nat} (A : Option Addr) (c : Nat) (base : Nat → Prop) (l : List Bx) (p : Bx → Bool) (w : World) (hn : n = l.length) (h : Bxs w base A l) (hl : l.length ≤ 9223372036854775807)
 (hp : ∀ (x : Bx) (A1 A2 A3 : Option Addr) (c1 c2 c3 : Nat) (w1 : World), x ∈ l → Grows w w1 → BoxP w1 base x A1 c1 A2 c2 A3 c3 → Calls Tryz.prog 166 #[.agg #[.int .i64 x.k, .slice A1 x.r.length c1, .slice A2 x.m.length c2, .slice A3 x.s.length c3], .pointer (some ⟨G, 0, none⟩)] w1 fun e w' => e = .returned (.bool (p x)) ∧ Grows w1 w') :
 Calls Tryz.prog 241 #[.slice A n c, .func (.func 166) #[] #[.pointer (some ⟨G, 0, none⟩)]] w fun e w' => e = .returned (.int .i64 (placeZ (l.findIdx? p))) ∧ Grows w w' := by
 subst hn
 have HP := Lib.hid hp
 clear hp
 go_enter Tryz.func241, Tryz.ntmps241
 go_wp2_with fail
 go_loopw [8] (fun i wr => ∃ k : Nat, k ≤ l.length ∧ i = .int .i64 k ∧ Hid ((l.take k).findIdx? p = none) ∧ Grows w wr) (fun i _ => l.length - (intOf i).toNat)
 case atStart => exact ⟨0, by omega, rfl, Lib.hid rfl, Below.refl _ _⟩
 case round =>
  obtain ⟨k, hk, rfl, hf, hB⟩ := hrel
  by_cases hlt : k < l.length
  ·obtain ⟨ad, x, A1, c1, A2, c2, A3, c3, rfl, had, hx, hpx, q0, q1, q2, q3⟩ := (h.grows hB).elem hlt
   have HX := Lib.hid hx
   clear hx
   go_wp2_with fail
   refine (HP.out x A1 A2 A3 c1 c2 c3 _ (List.mem_of_getElem? HX.out) hB hpx).mono ?_
   rintro e w2 ⟨rfl, hq⟩
   replace hB := below_grows hB (Nat.le_refl _) hq
   clear hq q0 q1 q2 q3 hpx
   cases e : p x
   ·have HE := Lib.hid (idx_upU hf.out HX.out e)
    go_wp2
    go_roundw
    case rel => exact ⟨k + 1, by omega, by go_num, HE, hB⟩
    case measure => simp [intOf]; omega
   ·have HE := Lib.hid (idx_atU hf.out HX.out e)
    go_wp2
    go_ret
    rw [HE.out]
    exact ⟨rfl, hB⟩
  ·have HE : Hid (l.findIdx? p = none) := Lib.hid (by have := hf.out; rwa [List.take_of_length_le (by omega)] at this)
   go_wp2
   go_ret
   rw [HE.out]
   exact ⟨rfl, hB⟩
theorem cont_hasb (G : Nat) {n : Nat} (A : Option Addr) (c : Nat) (base : Nat → Prop) (l : List Bx) (p : Bx → Bool) (w : World) (hn : n = l.length) (h : Bxs w base A l) (hl : l.length ≤ 9223372036854775807)
 (hp : ∀ (x : Bx) (A1 A2 A3 : Option Addr) (c1 c2 c3 : Nat) (w1 : World), x ∈ l → Grows w w1 → BoxP w1 base x A1 c1 A2 c2 A3 c3 → Calls Tryz.prog 166 #[.agg #[.int .i64 x.k, .slice A1 x.r.length c1, .slice A2 x.m.length c2, .slice A3 x.s.length c3], .pointer (some ⟨G, 0, none⟩)] w1 fun e w' => e = .returned (.bool (p x)) ∧ Grows w1 w') :
 Calls Tryz.prog 165 #[.slice A n c, .func (.func 166) #[] #[.pointer (some ⟨G, 0, none⟩)]] w fun e w' => e = .returned (.bool (l.any p)) ∧ Grows w w' := by
 subst hn
 have HP := Lib.hid hp
 clear hp
 rw [← place_anyU]
 go_enter Tryz.func165, Tryz.ntmps165
 go_wp2_with fail
 refine (idx_hasb G A c base l p _ rfl h hl HP.out).mono ?_
 rintro e w2 ⟨rfl, hq⟩
 generalize hz : placeZ (l.findIdx? p) = z
 have HZ := Lib.hid hz
 clear hz
 go_wp2
 go_ret
 rw [HZ.out]
 exact ⟨rfl, hq⟩
theorem phaslw_any {base : Nat → Prop} {A I : Option Addr} {c ci : Nat} {l : List Bx} {x : Ch} {w : World} (h : Bxs w base A l) (hl : l.length ≤ 1000000) (hc : l.length ≤ c) (ho : ∀ b ∈ l, OKB b) (ix : Ints w I x.m) (hxm : x.m.length ≤ 9223372036854775807) :
 Calls Tryz.prog 88 #[.slice A l.length c, .agg #[.int .i64 x.k, .int .i64 x.r, .slice I x.m.length ci, .int .i64 x.s]] w fun e w' => e = .returned (.bool (hasL l x)) ∧ Grows w w' := by
 have HO := Lib.hid ho
 have HL : Hid (hasL l x = (boxesF l).any fun b => inB b x) := Lib.hid rfl
 clear ho
 have kc := Blk.new w 35 #[.int .i64 x.k, .int .i64 x.r, .slice I x.m.length ci, .int .i64 x.s]
 have hB := (Below.refl w.heap.size w).alloc (Nat.le_refl _) (Obj.cells #[.int .i64 x.k, .int .i64 x.r, .slice I x.m.length ci, .int .i64 x.s] 35)
 go_enter Tryz.func88, Tryz.ntmps88
 go_upto_region 1 with fail
 generalize World.alloc w _ = w1 at *
 go_wp2_with fail
 refine (pboxes_any A c base l _ (h.grows hB) hl HO.out hc).mono ?_
 have HOB := Lib.hid (boxes_ok HO.out)
 have hbl := boxes_len l
 generalize boxesF l = bl at *
 rintro e w4 ⟨⟨A4, c4, rfl, hc4, hbx⟩, hq⟩
 replace hB := below_grows hB (Nat.le_refl _) hq
 replace hbx := hbx.grows hq
 replace kc := kc.grows hq
 clear hq
 go_wp2_with fail
 refine (cont_hasb w.heap.size A4 c4 base bl (fun b => inB b x) _ rfl hbx (by omega) (fun b A1 A2 A3 c1 c2 c3 w2 hb hg hp => has1b_any (kc.grows hg) hp (HOB.out b hb) (ix.grows (below_grows hB (Nat.le_refl _) hg)) hxm)).mono ?_
 rintro e w5 ⟨rfl, hq⟩
 replace hB := below_grows hB (Nat.le_refl _) hq
 go_wp2
 go_ret
 rw [HL.out]
 exact ⟨rfl, hB⟩
theorem phasl_any {base : Nat → Prop} {A I : Option Addr} {c ci : Nat} {l : List Bx} {x : Ch} {w : World} (h : Bxs w base A l) (hl : l.length ≤ 1000000) (hc : l.length ≤ c) (ho : ∀ b ∈ l, OKB b) (ix : Ints w I x.m) (hxm : x.m.length ≤ 1000000) :
 Calls Tryz.prog 88 #[.slice A l.length c, .agg #[.int .i64 x.k, .int .i64 x.r, .slice I x.m.length ci, .int .i64 x.s]] w fun e w' => e = .returned (.bool (hasL l x)) ∧ Grows w w' := phaslw_any h hl hc ho ix (by omega)
end Go.Proofs.YtbfdaojffffaaaaGreat

namespace Go.Proofs.YtbfdaojffffaaaaGreat
open Go.RowKit
end Go.Proofs.YtbfdaojffffaaaaGreat

namespace Go.Proofs.YtbfdaojffffaaaaGreat
open Go.RowKit
end Go.Proofs.YtbfdaojffffaaaaGreat

namespace Go.Proofs.YtbfdaojffffaaaaGreat
open Go.RowKit
section
variable {P : Program} {ops : Array Oper} {S : Ran → (Nat → Value) → World → Prop} {md : Region.Mode} {n N : Nat} {a0 : Act}
set_option maxRecDepth 100000 in
theorem listed_lt {listed : Array Bool} (hinv : HeadInv md ops n listed) {k : Nat} {o : Oper} (ho : ops[k]? = some o) (hl : listed.getD k false = true) : k < n := by
 rcases Nat.lt_or_ge k n with h | h
 ·exact h
 ·have := getD_both (hinv.tail k h (lt_of_get ho))
  rw [hl] at this
  cases this
set_option maxRecDepth 100000 in
theorem gent_agree (ok : MixOk md ops n N []) (hN : a0.tmps.size = N) {vs : Nat → Value} {listed : Array Bool} {a : Act} {w : World} (hinv : HeadInv md ops n listed) (inv : InvG S ops vs a0 listed a w) {i : Nat} {o : Oper} (hi : i < n) (ho : ops[i]? = some o) (hr : i ∈ Region.ready md ops listed) :
 ∀ t ∈ o.looksAt ops, (fin [] vs (ops.toList.take i) 0 a0).tmps[t]? = a.tmps[t]? := by
 intro t ht
 by_cases hex : ∃ (k : Nat) (o' : Oper), k < n ∧ ops[k]? = some o' ∧ o'.dst = some t
 ·obtain ⟨k, o', hk, ho', hd⟩ := hex
  obtain ⟨h1, _, h3⟩ := ok.look i o k o' t hi hk ho ho' hd ht
  have hlisted : listed.getD k false = true := by
   obtain ⟨oj, hoj, e, he, hb, hon⟩ := Region.waitsFor_spec h3
   obtain ⟨_, oi, hoi, hall⟩ := mem_ready.1 hr
   have : oj = oi := Option.some.inj (hoj.symm.trans hoi)
   subst this
   have := hall e he hb
   rwa [hon] at this
  have e1 := inv.calm k o' t ho' hd hlisted
  have hlt : t < a0.tmps.size := by rw [hN]; exact ok.bd k o' t hk ho' hd
  have e2 := fin_at (fl := []) (val := vs) (ops.toList.take i) 0 a0 k o' (take_get h1 ho') hd rfl hlt (by
   intro j oj hj hne hdj
   obtain ⟨hji, hoj⟩ := of_take_get hj
   exact ok.ne j oj k o' t (by omega) hk hoj ho' (Ne.symm hne) hdj hd)
  rw [Nat.zero_add] at e2
  rw [e1, e2]
 ·have e1 := inv.other t fun k o' ho' hl hd => hex ⟨k, o', listed_lt hinv ho' hl, ho', hd⟩
  have e2 := fin_other (fl := []) (val := vs) (ops.toList.take i) 0 a0 fun j oj hj _ hd => by
   obtain ⟨hji, hoj⟩ := of_take_get hj
   exact hex ⟨j, oj, by omega, hoj, hd⟩
  rw [e1, e2]
set_option maxRecDepth 100000 in
theorem inv_stepT (ok : MixOk md ops n N []) (hN : a0.tmps.size = N) {vs : Nat → Value} {listed : Array Bool} {a : Act} {w w' : World} (hinv : HeadInv md ops n listed) (inv : InvG S ops vs a0 listed a w) {i : Nat} {o : Oper} (hi : i < n) (ho : ops[i]? = some o) (hl : i < listed.size) {u : Value}
 (hs : S (ranOf (listed.setIfInBounds i true)) (setV vs i u) w') : InvG S ops (setV vs i u) a0 (listed.setIfInBounds i true) (a.put o.dst u) w' := by
 have key : ∀ k o' t, k < n → ops[k]? = some o' → o'.dst = some t → k ≠ i → (a.put o.dst u).tmps[t]? = a.tmps[t]? := by
  intro k o' t hk ho' hd hne
  exact put_get_ne fun e => ok.ne i o k o' t hi hk ho ho' hne e hd
 refine ⟨hs, (put_defers' _ _ _).trans inv.defers, (put_size _ _ _).trans inv.size, ?_, ?_⟩
 ·intro k o' t ho' hd hlk
  by_cases hki : k = i
  ·subst hki
   have : o' = o := Option.some.inj (ho'.symm.trans ho)
   subst this
   rw [hd, put_get_eq (by rw [inv.size, hN]; exact ok.bd k o' t hi ho' hd)]
   simp [setV]
  ·have hlk' : listed.getD k false = true := by rwa [getD_set_ne false (Ne.symm hki)] at hlk
   rw [key k o' t (listed_lt hinv ho' hlk') ho' hd hki, inv.calm k o' t ho' hd hlk']
   simp [setV, hki]
 ·intro t ht
  have h1 : o.dst ≠ some t := ht i o ho (by simp [hl])
  rw [put_get_ne h1]
  exact inv.other t fun k o' ho' hlk => ht k o' ho' (getD_set_true hlk)
set_option maxRecDepth 100000 in
theorem gent_run {Q : Exit → Act → World → Prop} (ok : MixOk md ops n N []) (hN : a0.tmps.size = N)
 (good : ∀ k o, k < n → ops[k]? = some o → ∀ vs L w, At md ops k L → S L vs w → GenOp P ops S k o (fin [] vs (ops.toList.take k) 0 a0) vs L w) (g : Nat)
 (H : ∀ listed a w vs, HeadInv md ops n listed → (∀ i, i < n → listed.getD i false = true) → InvG S ops vs a0 listed a w → wpAny P md ops Q g listed a w) :
 ∀ (f : Nat) (listed : Array Bool) (a : Act) (w : World) (vs : Nat → Value), ((List.range n).countP fun i => !listed.getD i false) ≤ f → HeadInv md ops n listed → InvG S ops vs a0 listed a w →
  wpAny P md ops Q (f + g) listed a w := by
 intro f
 induction f with
 | zero =>
  intro listed a w vs hc hinv inv
  rw [Nat.zero_add]
  refine H listed a w vs hinv (fun i hi => ?_) inv
  have h0 : ((List.range n).countP fun i => !listed.getD i false) = 0 := by omega
  rw [List.countP_eq_zero] at h0
  have := h0 i (List.mem_range.2 hi)
  simpa using this
 | succ f ih =>
  intro listed a w vs hc hinv inv
  by_cases hall : ∀ i, i < n → listed.getD i false = true
  ·exact wpAny_fuel g listed a w (H listed a w vs hinv hall inv) (f + 1)
  ·have hex : ∃ i, i < n ∧ listed.getD i false = false := by
    apply Classical.byContradiction
    intro hno
    exact hall fun i hi => by
     cases h : listed.getD i false
     ·exact absurd ⟨i, hi, h⟩ hno
     ·rfl
   obtain ⟨i0, hi0, hl0⟩ := hex
   have hsz : ∀ i, i < n → i < listed.size := fun i hi => by rw [hinv.size]; have := ok.le; omega
   have hready : Region.ready md ops listed ≠ [] := by
    have : ∀ d i, i ≤ d → i < n → listed.getD i false = false → ∃ j, j ∈ Region.ready md ops listed := by
     intro d
     induction d with
     | zero =>
      intro i hid hi hl
      obtain ⟨o, ho⟩ : ∃ o, ops[i]? = some o := ⟨ops[i]'(by have := ok.le; omega), by simp [show i < ops.size by have := ok.le; omega]⟩
      refine ⟨i, mem_ready.2 ⟨getD_in (hsz i hi) hl, o, ho, fun e he hb => ?_⟩⟩
      have := ok.back i o hi ho e he hb
      omega
     | succ d ihd =>
      intro i hid hi hl
      obtain ⟨o, ho⟩ : ∃ o, ops[i]? = some o := ⟨ops[i]'(by have := ok.le; omega), by simp [show i < ops.size by have := ok.le; omega]⟩
      by_cases hw : ∀ e ∈ o.after, Region.binds md e = true → listed.getD e.on false = true
      ·exact ⟨i, mem_ready.2 ⟨getD_in (hsz i hi) hl, o, ho, hw⟩⟩
      ·have : ∃ e ∈ o.after, Region.binds md e = true ∧ listed.getD e.on false = false := by
        apply Classical.byContradiction
        intro hno
        exact hw fun e he hb => by
         cases h : listed.getD e.on false
         ·exact absurd ⟨e, he, hb, h⟩ hno
         ·rfl
       obtain ⟨e, he, hb, hle⟩ := this
       have hlt := ok.back i o hi ho e he hb
       exact ihd e.on (by omega) (by omega) hle
    obtain ⟨j, hj⟩ := this i0 i0 (Nat.le_refl _) hi0 hl0
    intro h0
    rw [h0] at hj
    cases hj
   rw [show f + 1 + g = (f + g) + 1 by omega]
   refine ⟨fun h0 => absurd h0 hready, fun i hir => ?_⟩
   have hin : i < n := by
    rcases Nat.lt_or_ge i n with h | h
    ·exact h
    ·exfalso
     obtain ⟨_, oi, hoi, _⟩ := mem_ready.1 hir
     have hlt : i < ops.size := (Array.getElem?_eq_some_iff.1 hoi).1
     rcases ok.tail with ht | ⟨ht, hs, hch⟩
     ·omega
     ·exact tail_waits hs hch ht hinv _ i0 rfl hi0 (getD_in (hsz i0 hi0) hl0) i h hir
   obtain ⟨hun, o, ho, hwaits⟩ := mem_ready.1 hir
   have hunf : listed.getD i false = false := getD_both hun
   have hcnt : ((List.range n).countP fun j => !(listed.setIfInBounds i true).getD j false) ≤ f := by
    have := countP_lt (p := fun j => !listed.getD j false) (q := fun j => !(listed.setIfInBounds i true).getD j false) (List.range n) (List.mem_range.2 hin)
     (fun j _ hj => by
       simp only [Bool.not_eq_true'] at hj ⊢
       cases h : listed.getD j false
       ·rfl
       ·rw [getD_set_true h] at hj; cases hj) (by simp only [hunf, Bool.not_false]) (by simp [hsz i hin])
    omega
   have hinv' := hinv.set hir hin
   have hat : At md ops i (ranOf listed) := ⟨hunf, needs_ran hinv _ i o ho hwaits⟩
   have hag := gent_agree ok hN hinv inv hin ho hir
   have hg := good i o hin ho vs (ranOf listed) w hat inv.s
   have hs : ∀ cs b, o.op ≠ .select cs b := fun cs b => Region.noSelect_spec ok.sel i o cs b ho
   unfold GenOp at hg
   rw [run_agree (ops := ops) hs hag, wanted_agree hag] at hg
   refine gen_wpOp ho hg fun u w' hs' => ih _ _ _ _ hcnt hinv' (inv_stepT ok hN hinv inv hin ho (hsz i hin) ?_)
   rw [ranOf_set (hsz i hin)]
   exact hs'
end
def GenT (P : Program) (full : List Oper) (n : Nat) (S : Ran → (Nat → Value) → World → Prop) (E : Act → World → Prop) : List Oper → Nat → ((Nat → Value) → Act) → Prop
 | [], _, A => ∀ vs L w', (∀ k, k < n → L k = true) → S L vs w' → E (A vs) w'
 | o :: l, k, A => (∀ vs L w, At .any full.toArray k L → S L vs w → GenOp P full.toArray S k o (A vs) vs L w) ∧ GenT P full n S E l (k + 1) (fun vs => (A vs).put o.dst (vs k))
set_option maxRecDepth 100000 in
theorem genT_out {P : Program} {full : List Oper} {n : Nat} {S : Ran → (Nat → Value) → World → Prop} {E : Act → World → Prop} : ∀ (l : List Oper) (k : Nat) (A : (Nat → Value) → Act), GenT P full n S E l k A →
 (∀ j o, l[j]? = some o → ∀ vs L w, At .any full.toArray (k + j) L → S L vs w → GenOp P full.toArray S (k + j) o (fin [] vs (l.take j) k (A vs)) vs L w) ∧ ∀ vs L w', (∀ k, k < n → L k = true) → S L vs w' → E (fin [] vs l k (A vs)) w'
 | [], _, _, h => ⟨fun j o hj => by simp at hj, h⟩
 | o :: l, k, A, h => by
  obtain ⟨h1, h2⟩ := genT_out l (k + 1) _ h.2
  refine ⟨fun j o' hj => ?_, h2⟩
  cases j with
  | zero =>
   simp only [List.getElem?_cons_zero, Option.some.injEq] at hj
   subst hj
   exact h.1
  | succ j =>
   have := h1 j o' (by simpa using hj)
   rw [show k + 1 + j = k + (j + 1) by omega] at this
   exact this
set_option maxRecDepth 100000 in
theorem wp_region_genT {P : Program} {id : Nat} {Q : Exit → Act → World → Prop} {a : Act} {w : World} {l : List Oper} (S : Ran → (Nat → Value) → World → Prop) (n N : Nat) (hm : P.follows .mixedOrders = true) (hB : mixB .any l.toArray n N [] = true)
 (hN : a.tmps.size = N) (h0 : S (fun _ => false) (fun _ => undef) w.drew)
 (h : GenT P l n S (fun a' w' => wpList P l.toArray Q (l.drop n) a' w') (l.take n) 0 (fun _ => a)) : (Code.region id l.toArray true).wp P Q a w := by
 have ok := mixOk_of hB
 have hle : n ≤ l.length := by simpa using ok.le
 obtain ⟨h1, h2⟩ := genT_out (l.take n) 0 _ h
 refine wp_region_any hm ?_
 have inv0 : HeadInv .any l.toArray n (Array.replicate l.toArray.size false) :=
  ⟨by simp, fun j oj _ hl => (by rw [getD_replicate_false] at hl; cases hl), fun t _ ht => getD_in (by simpa using ht) (getD_replicate_false _ _)⟩
 have key := gent_run (md := .any) (Q := Q) (ops := l.toArray) (S := S) (a0 := a) ok hN (fun k o hk ho vs L w' hL hS => by
  have := h1 k o (by rw [List.getElem?_take, if_pos hk]; simpa using ho) vs L w'
  rw [Nat.zero_add, List.take_take, Nat.min_eq_left (by omega)] at this
  exact this hL hS) (l.length - n) (by
  intro listed b w' vs hinv hall inv
  refine (show l.length - n = (l.drop n).length by simp) ▸ wpAny_of_seq (l.drop n) n listed b w' (fun j => by simp [List.getElem?_drop]) ?_ ?_
  ·have hls : listed = (Array.replicate n true) ++ (Array.replicate (l.length - n) false) := by
    refine Array.ext (by simp [hinv.size]; omega) fun i h1 h2 => ?_
    have hsz : i < l.length := by have := hinv.size; simp at this; omega
    by_cases hin : i < n
    ·have := hall i hin
     rw [Array.getElem_append_left (by simpa using hin)]
     simpa [h1] using this
    ·have := hinv.tail i (by omega) (by simpa using hsz)
     rw [Array.getElem_append_right (by simp; omega)]
     simpa [h1] using this
   have := ok.seq
   rw [hls]
   simpa using this
  ·have he : b = fin [] vs (l.take n) 0 a := by
    refine act_ext (inv.defers.trans (fin_defers _ _ _).symm) (inv.size.trans (fin_size _ _ _).symm) fun t => ?_
    by_cases hex : ∃ (k : Nat) (o' : Oper), k < n ∧ l.toArray[k]? = some o' ∧ o'.dst = some t
    ·obtain ⟨k, o', hk, ho', hd⟩ := hex
     have e1 := inv.calm k o' t ho' hd (hall k hk)
     have e2 := fin_at (fl := []) (val := vs) (l.take n) 0 a k o' (by rw [List.getElem?_take, if_pos hk]; simpa using ho') hd rfl (by rw [hN]; exact ok.bd k o' t hk ho' hd) (by
      intro j oj hj hne hdj
      rw [List.getElem?_take] at hj
      split at hj
      ·rename_i hjn
       exact ok.ne j oj k o' t hjn hk (by simpa using hj) ho' (Ne.symm hne) hdj hd
      ·cases hj)
     rw [Nat.zero_add] at e2
     rw [e1, e2]
    ·have e1 := inv.other t fun k o' ho' hl hd => hex ⟨k, o', listed_lt hinv ho' hl, ho', hd⟩
     have e2 := fin_other (fl := []) (val := vs) (t := t) (l.take n) 0 a fun j oj hj _ hd => by
      rw [List.getElem?_take] at hj
      split at hj
      ·rename_i hjn
       exact hex ⟨j, oj, hjn, by simpa using hj, hd⟩
      ·cases hj
     rw [e1, e2]
   rw [he]
   exact h2 vs (ranOf listed) w' hall inv.s)
 have := key n (Array.replicate l.toArray.size false) a w.drew (fun _ => undef) (by
  have := List.countP_le_length (p := fun i => !(Array.replicate l.toArray.size false).getD i false) (l := List.range n)
  simpa using this) inv0 ⟨by rw [show ranOf (Array.replicate l.toArray.size false) = fun _ => false from funext fun k => getD_replicate_false _ _]; exact h0, rfl, rfl, fun k o t _ _ hl => (by rw [getD_replicate_false] at hl; cases hl), fun t _ => rfl⟩
 rw [show n + (l.length - n) = l.toArray.size by simp; omega] at this
 exact this
section
variable {P : Program} {full l : List Oper} {S : Ran → (Nat → Value) → World → Prop} {E : Act → World → Prop} {o : Oper} {k n : Nat} {A A' : (Nat → Value) → Act}
set_option maxRecDepth 100000 in
theorem gent_cons (hc : ∀ vs L w, At .any full.toArray k L → S L vs w → GenOp P full.toArray S k o (A vs) vs L w) (hA : ∀ vs, (A vs).put o.dst (vs k) = A' vs) (h : GenT P full n S E l (k + 1) A') : GenT P full n S E (o :: l) k A := by
 obtain rfl : (fun vs => (A vs).put o.dst (vs k)) = A' := funext hA
 exact ⟨hc, h⟩
set_option maxRecDepth 100000 in
theorem gent_consR (hc : ∀ vs L w, At .any full.toArray k L → S L vs w → GenOp P full.toArray S k o (A vs) vs L w) (h : GenT P full n S E l (k + 1) A') (hA : ∀ vs, (A vs).put o.dst (vs k) = A' vs := by intro vs; simp only [Act.put, List.setIfInBounds_toArray, List.set_cons_succ, List.set_cons_zero]; rfl) : GenT P full n S E (o :: l) k A := gent_cons hc hA h
set_option maxRecDepth 100000 in
theorem gent_nil (h : ∀ vs L w', (∀ k, k < n → L k = true) → S L vs w' → E (A vs) w') : GenT P full n S E [] k A := h
end
end Go.Proofs.YtbfdaojffffaaaaGreat

namespace Go.Proofs.YtbfdaojffffaaaaGreat
open Go.RowKit
set_option maxRecDepth 100000
end Go.Proofs.YtbfdaojffffaaaaGreat

namespace Go.Proofs.YtbfdaojffffaaaaGreat
open Go.RowKit
/-- A property of a value that stays when the world grows. -/
abbrev GP := {P : World → Value → Prop // ∀ w w' v, P w v → Grows w w' → P w' v}
/-- The values that are described. -/
def DsS (DS : List (Option GP)) (L : Ran) (vs : Nat → Value) (w : World) : Prop := ∀ j P, DS[j]? = some (some P) → L j = true → P.1 w (vs j)
section
variable {DS : List (Option GP)} {L : Ran} {vs : Nat → Value} {w w' : World} {k : Nat} {u : Value}
set_option maxRecDepth 100000 in
theorem DsS.grows (h : DsS DS L vs w) (hg : Grows w w') : DsS DS L vs w' := fun j P hj hL => P.2 w w' (vs j) (h j P hj hL) hg
end
end Go.Proofs.YtbfdaojffffaaaaGreat

namespace Go.Proofs.YtbfdaojffffaaaaGreat
open Go.RowKit
def DR (w : World) (B g : Nat) : Prop := ∃ l, Dice w B g l
theorem DR.grows {w w' : World} {B g : Nat} (h : DR w B g) (hg : Grows w w') : DR w' B g := by
 obtain ⟨l, h⟩ := h
 exact ⟨l, h.grows hg⟩
theorem DR.lt {w : World} {B g : Nat} (h : DR w B g) : g < w.heap.size := by
 obtain ⟨l, h⟩ := h
 exact h.lt
theorem DR.put {w : World} {B g : Nat} (h : DR w B g) {p : Addr} (hp : B ≤ p.block) (hg : g ≠ p.block) (u : Value) : DR (w.setCell p u) B g := by
 obtain ⟨l, h⟩ := h
 exact ⟨l, h.put hp hg u⟩
theorem DR.lo {w : World} {B g : Nat} (h : DR w B g) : B ≤ g := by
 obtain ⟨l, A, c, h⟩ := h
 exact h.lo
set_option maxHeartbeats 4000000 in
theorem rolls_any (B g : Nat) (n : Int) (w : World) (h : DR w B g) (hn : 1 ≤ n) (hn2 : n ≤ 9223372036854775807) :
 Calls Tryz.prog 24 #[.pointer (some ⟨g, 0, none⟩), .int .i64 n] w fun e w' => (∃ r, e = .returned (.int .i64 r) ∧ 0 ≤ r ∧ r < n) ∧ DR w' B g ∧ w.grownBy w' (some g) := by
 obtain ⟨l, h⟩ := h
 by_cases h2 : 2 ≤ n
 ·exact (roll_any B g l n w h h2 hn2).mono fun e w' ⟨he, hd, hg, _⟩ => ⟨⟨_, he, (rollV_bd l hn).1, (rollV_bd l hn).2⟩, ⟨_, hd⟩, hg⟩
 obtain rfl : n = 1 := by omega
 have h0 := h
 obtain ⟨A, c, h⟩ := h
 have x1 := h.blk.cell 0
 have d1 : decide ((1 : Int) ≤ 1) = true := by decide
 go_enter Tryz.func24, Tryz.ntmps24
 by_cases hl : l.length = 0
 ·have d2 : ((l.length : Int) == 0) = true := by simp only [beq_iff_eq]; omega
  clear hl h
  go_wp2
  go_ret
  exact ⟨⟨0, rfl, by omega, by omega⟩, ⟨l, h0⟩, World.grownBy.refl w _⟩
 ·have d2 : ((l.length : Int) == 0) = false := by simp only [beq_eq_false_iff_ne, ne_eq]; omega
  clear hl h
  go_wp2
  go_ret
  exact ⟨⟨0, rfl, by omega, by omega⟩, ⟨l, h0⟩, World.grownBy.refl w _⟩
set_option maxRecDepth 100000
theorem add_head (g k : Nat) : (⟨g, 0, none⟩ : Addr).add k = ⟨g, k, none⟩ := by unfold Addr.add; split <;> simp_all
def mapsL : List (List Int) := [[3], [1, 2], [1, 2, 3, 4, 5, 6], [2, 1], [1, 2, 7, 8], [4], [1, 3]]
theorem mapsL_len : mapsL.length = 7 := rfl
theorem inB_of {w : World} {A : Option Addr} {l : List Int} {n : Nat} (h : Ints w A l) (hA : ∀ ad, A = some ad → n ≤ ad.block) : InB w (Ge n) A l := ⟨h, fun _ ad e => hA ad e⟩
set_option maxHeartbeats 4000000 in
theorem maps_lit (w : World) : ∃ W A, Calls Tryz.prog 55 #[] w (fun e w' => e = .returned (.slice (some A) 7 7) ∧ w' = W) ∧ MapsR W (Ge w.heap.size) (some A) mapsL ∧ Grows w W := by
 have e0 : w.heap.size = w.heap.size + 0 := rfl
 obtain ⟨W1, hW1⟩ : ∃ W, W = w.alloc (Obj.cells #[.int .i64 3] 3) := ⟨_, rfl⟩
 have s1 : W1.heap.size = w.heap.size + 1 := by rw [hW1]; simp
 have i1 : Ints W1 (some ⟨w.heap.size, 0, none⟩) [3] := by rw [hW1]; exact ints_lits w [3] #[.int .i64 3] 3 rfl
 have g1 : Grows w W1 := by rw [hW1]; exact (Below.refl _ _).alloc (Nat.le_refl _) _
 obtain ⟨W2, hW2⟩ : ∃ W, W = W1.alloc (Obj.cells #[.int .i64 1, .int .i64 2] 3) := ⟨_, rfl⟩
 have s2 : W2.heap.size = w.heap.size + 2 := by rw [hW2]; simp [s1]
 have i2 : Ints W2 (some ⟨w.heap.size + 1, 0, none⟩) [1, 2] := by rw [← s1, hW2]; exact ints_lits W1 [1, 2] #[.int .i64 1, .int .i64 2] 3 rfl
 have g2 : Grows W1 W2 := by rw [hW2]; exact (Below.refl _ _).alloc (Nat.le_refl _) _
 obtain ⟨W3, hW3⟩ : ∃ W, W = W2.alloc (Obj.cells #[.int .i64 1, .int .i64 2, .int .i64 3, .int .i64 4, .int .i64 5, .int .i64 6] 3) := ⟨_, rfl⟩
 have s3 : W3.heap.size = w.heap.size + 3 := by rw [hW3]; simp [s2]
 have i3 : Ints W3 (some ⟨w.heap.size + 2, 0, none⟩) [1, 2, 3, 4, 5, 6] := by rw [← s2, hW3]; exact ints_lits W2 [1, 2, 3, 4, 5, 6] #[.int .i64 1, .int .i64 2, .int .i64 3, .int .i64 4, .int .i64 5, .int .i64 6] 3 rfl
 have g3 : Grows W2 W3 := by rw [hW3]; exact (Below.refl _ _).alloc (Nat.le_refl _) _
 obtain ⟨W4, hW4⟩ : ∃ W, W = W3.alloc (Obj.cells #[.int .i64 2, .int .i64 1] 3) := ⟨_, rfl⟩
 have s4 : W4.heap.size = w.heap.size + 4 := by rw [hW4]; simp [s3]
 have i4 : Ints W4 (some ⟨w.heap.size + 3, 0, none⟩) [2, 1] := by rw [← s3, hW4]; exact ints_lits W3 [2, 1] #[.int .i64 2, .int .i64 1] 3 rfl
 have g4 : Grows W3 W4 := by rw [hW4]; exact (Below.refl _ _).alloc (Nat.le_refl _) _
 obtain ⟨W5, hW5⟩ : ∃ W, W = W4.alloc (Obj.cells #[.int .i64 1, .int .i64 2, .int .i64 7, .int .i64 8] 3) := ⟨_, rfl⟩
 have s5 : W5.heap.size = w.heap.size + 5 := by rw [hW5]; simp [s4]
 have i5 : Ints W5 (some ⟨w.heap.size + 4, 0, none⟩) [1, 2, 7, 8] := by rw [← s4, hW5]; exact ints_lits W4 [1, 2, 7, 8] #[.int .i64 1, .int .i64 2, .int .i64 7, .int .i64 8] 3 rfl
 have g5 : Grows W4 W5 := by rw [hW5]; exact (Below.refl _ _).alloc (Nat.le_refl _) _
 obtain ⟨W6, hW6⟩ : ∃ W, W = W5.alloc (Obj.cells #[.int .i64 4] 3) := ⟨_, rfl⟩
 have s6 : W6.heap.size = w.heap.size + 6 := by rw [hW6]; simp [s5]
 have i6 : Ints W6 (some ⟨w.heap.size + 5, 0, none⟩) [4] := by rw [← s5, hW6]; exact ints_lits W5 [4] #[.int .i64 4] 3 rfl
 have g6 : Grows W5 W6 := by rw [hW6]; exact (Below.refl _ _).alloc (Nat.le_refl _) _
 obtain ⟨W7, hW7⟩ : ∃ W, W = W6.alloc (Obj.cells #[.int .i64 1, .int .i64 3] 3) := ⟨_, rfl⟩
 have s7 : W7.heap.size = w.heap.size + 7 := by rw [hW7]; simp [s6]
 have i7 : Ints W7 (some ⟨w.heap.size + 6, 0, none⟩) [1, 3] := by rw [← s6, hW7]; exact ints_lits W6 [1, 3] #[.int .i64 1, .int .i64 3] 3 rfl
 have g7 : Grows W6 W7 := by rw [hW7]; exact (Below.refl _ _).alloc (Nat.le_refl _) _
 obtain ⟨W8, hW8⟩ : ∃ W, W = W7.alloc (Obj.cells #[.slice (some ⟨w.heap.size, 0, none⟩) 1 1, .slice (some ⟨w.heap.size + 1, 0, none⟩) 2 2, .slice (some ⟨w.heap.size + 2, 0, none⟩) 6 6, .slice (some ⟨w.heap.size + 3, 0, none⟩) 2 2, .slice (some ⟨w.heap.size + 4, 0, none⟩) 4 4, .slice (some ⟨w.heap.size + 5, 0, none⟩) 1 1, .slice (some ⟨w.heap.size + 6, 0, none⟩) 2 2] 31) := ⟨_, rfl⟩
 have k8 : Blk W8 (w.heap.size + 7) 31 #[.slice (some ⟨w.heap.size, 0, none⟩) 1 1, .slice (some ⟨w.heap.size + 1, 0, none⟩) 2 2, .slice (some ⟨w.heap.size + 2, 0, none⟩) 6 6, .slice (some ⟨w.heap.size + 3, 0, none⟩) 2 2, .slice (some ⟨w.heap.size + 4, 0, none⟩) 4 4, .slice (some ⟨w.heap.size + 5, 0, none⟩) 1 1, .slice (some ⟨w.heap.size + 6, 0, none⟩) 2 2] := by rw [hW8, ← s7]; exact Blk.new _ _ _
 have g8 : Grows W7 W8 := by rw [hW8]; exact (Below.refl _ _).alloc (Nat.le_refl _) _
 have s8 : W8.heap.size = w.heap.size + 8 := by rw [hW8]; simp [s7]
 have j1 := (((((((i1.grows g2).grows g3).grows g4).grows g5).grows g6).grows g7).grows g8)
 have j2 := ((((((i2.grows g3).grows g4).grows g5).grows g6).grows g7).grows g8)
 have j3 := (((((i3.grows g4).grows g5).grows g6).grows g7).grows g8)
 have j4 := ((((i4.grows g5).grows g6).grows g7).grows g8)
 have j5 := (((i5.grows g6).grows g7).grows g8)
 have j6 := ((i6.grows g7).grows g8)
 have j7 := (i7.grows g8)
 have gA : Grows w W8 := (below_grows (below_grows (below_grows (below_grows (below_grows (below_grows (below_grows g1 (Nat.le_refl _) g2) (Nat.le_refl _) g3) (Nat.le_refl _) g4) (Nat.le_refl _) g5) (Nat.le_refl _) g6) (Nat.le_refl _) g7) (Nat.le_refl _) g8)
 refine ⟨W8, ⟨w.heap.size + 7, 0, none⟩, ?_, ?_, gA⟩
 ·clear gA k8 i1 i2 i3 i4 i5 i6 i7 j1 j2 j3 j4 j5 j6 j7 g1 g2 g3 g4 g5 g6 g7 g8 s1 s2 s3 s4 s5 s6 s7 s8 e0
  subst hW1 hW2 hW3 hW4 hW5 hW6 hW7 hW8
  go_enter Tryz.func55, Tryz.ntmps55
  go_wp2
  go_ret
  first
   | exact ⟨rfl, rfl⟩
   | (simp; done)
   | trace_state
 ·refine ⟨#[.slice (some ⟨w.heap.size, 0, none⟩) 1 1, .slice (some ⟨w.heap.size + 1, 0, none⟩) 2 2, .slice (some ⟨w.heap.size + 2, 0, none⟩) 6 6, .slice (some ⟨w.heap.size + 3, 0, none⟩) 2 2, .slice (some ⟨w.heap.size + 4, 0, none⟩) 4 4, .slice (some ⟨w.heap.size + 5, 0, none⟩) 1 1, .slice (some ⟨w.heap.size + 6, 0, none⟩) 2 2].toList, ⟨⟨rfl, fun _ => ⟨_, rfl, by rw [s8]; exact Nat.lt_of_lt_of_le (Nat.lt_succ_self _) (Nat.le_refl _), fun j u hu => ?_⟩⟩, fun _ ad e => by injection e with e; subst e; exact Nat.le_add_right _ 7⟩, fun i x hx => ?_⟩
  ·rw [add_head, k8.cell, ← Array.getElem?_toList]
   exact hu
  ·match i, hx with
   | 0, hx => (injection hx with hx; subst hx; exact ⟨_, _, rfl, Nat.le_refl _, inB_of j1 (fun ad e => by injection e with e; subst e; simp)⟩)
   | 1, hx => (injection hx with hx; subst hx; exact ⟨_, _, rfl, Nat.le_refl _, inB_of j2 (fun ad e => by injection e with e; subst e; simp)⟩)
   | 2, hx => (injection hx with hx; subst hx; exact ⟨_, _, rfl, Nat.le_refl _, inB_of j3 (fun ad e => by injection e with e; subst e; simp)⟩)
   | 3, hx => (injection hx with hx; subst hx; exact ⟨_, _, rfl, Nat.le_refl _, inB_of j4 (fun ad e => by injection e with e; subst e; simp)⟩)
   | 4, hx => (injection hx with hx; subst hx; exact ⟨_, _, rfl, Nat.le_refl _, inB_of j5 (fun ad e => by injection e with e; subst e; simp)⟩)
   | 5, hx => (injection hx with hx; subst hx; exact ⟨_, _, rfl, Nat.le_refl _, inB_of j6 (fun ad e => by injection e with e; subst e; simp)⟩)
   | 6, hx => (injection hx with hx; subst hx; exact ⟨_, _, rfl, Nat.le_refl _, inB_of j7 (fun ad e => by injection e with e; subst e; simp)⟩)
   | i + 7, hx => exact absurd (List.getElem?_eq_some_iff.1 hx).1 (by rw [mapsL_len]; omega)
end Go.Proofs.YtbfdaojffffaaaaGreat

namespace Go.Proofs.YtbfdaojffffaaaaGreat
open Go.RowKit
theorem only_trans {a w w' : World} {g : Nat} (h : a.grownBy w (some g)) (hg : w.grownBy w' (some g)) : a.grownBy w' (some g) :=
 ⟨hg.os.trans h.os, hg.tape.trans h.tape, hg.output.trans h.output, Nat.le_trans h.size hg.size, fun k hk hn => (hg.block k (Nat.lt_of_lt_of_le hk h.size) hn).trans (h.block k hk hn)⟩
theorem DR.grown {w w' : World} {B g : Nat} (h : DR w B g) {row : Option Nat} (hg : w.grownBy w' row) (hr : ∀ q, row = some q → g < q) : DR w' B g := by
 obtain ⟨l, A, c, h⟩ := h
 have hgl := h.blk.lt
 refine ⟨l, A, c, h.blk.grown hg (fun e => by have := hr g e.symm; omega), ?_, h.cap, h.lo, h.wf, h.len⟩
 refine Reads.keep h.bytes fun p hp => World.cell?_of_block (hg.block p.block (by have := h.lo; omega) (fun e => by have := hr _ e.symm; have := h.lo; omega))
set_option maxHeartbeats 4000000 in
theorem map_any (B g : Nat) (w : World) (h : DR w B g) : Calls Tryz.prog 16 #[.pointer (some ⟨g, 0, none⟩)] w fun e w' => (∃ m A c, e = .returned (.slice A (m : List Int).length c) ∧ m ∈ mapsL ∧ m.length ≤ c ∧ InB w' (Ge w.heap.size) A m) ∧ DR w' B g ∧ w.grownBy w' (some g) := by
 have hgl := h.lt
 obtain ⟨W, A, hcall, hm, hg⟩ := maps_lit w
 replace h := h.grows hg
 have hq := d_only_grows (World.grownBy.refl w (some g)) hg
 go_enter Tryz.func16, Tryz.ntmps16
 go_wp2_with fail
 refine hcall.mono ?_
 rintro e w1 ⟨rfl, rfl⟩
 clear hcall
 go_wp2_with fail
 refine (rolls_any B g 7 _ h (by omega) (by omega)).mono ?_
 rintro e w2 ⟨⟨r, rfl, hr0, hr1⟩, hD, hq2⟩
 replace hm := hm.grown hq2 (fun q e => by injection e with e; unfold Ge; omega)
 replace hq := only_trans hq hq2
 clear hq2 h hg
 obtain ⟨k, rfl⟩ : ∃ k : Nat, r = (k : Int) := ⟨r.toNat, by omega⟩
 obtain ⟨ad, x, C, cx, e1, had, hx, q0, hcx, hix⟩ := hm.elem (show k < mapsL.length by rw [mapsL_len]; omega)
 injection e1 with e1
 subst e1
 have HX := Lib.hid (List.mem_of_getElem? hx)
 clear hx
 go_wp2
 go_ret
 exact ⟨⟨x, C, cx, rfl, HX.out, hcx, hix⟩, hD, hq⟩
end Go.Proofs.YtbfdaojffffaaaaGreat

namespace Go.Proofs.YtbfdaojffffaaaaGreat
open Go.RowKit
/-- A row of channel maps of one's own, apart from what its members take, which lies at or above lo. -/
def OwnM (w : World) (base lo : Nat) (v : Value) (ms : List (List Int)) : Prop :=
 ∃ vs, w.ownsRow base 31 1 v ms.length vs ∧ ∀ (i : Nat) (x : List Int), ms[i]? = some x → ∃ B c, vs[i]? = some (.slice B x.length c) ∧ x.length ≤ c ∧ InB w (Ge lo) B x ∧ (∀ ad, B = some ad → 0 < x.length → v.ownBlock ≠ some ad.block)
section
variable {w w' : World} {base lo g : Nat} {v : Value} {ms : List (List Int)}
theorem OwnM.nil : OwnM w base lo (.slice none 0 0) [] := ⟨[], World.ownsRow_nil w base _ 1, fun i x h => by simp at h⟩
theorem OwnM.grows (h : OwnM w base lo v ms) (hg : Grows w w') : OwnM w' base lo v ms := by
 obtain ⟨vs, h1, h2⟩ := h
 exact ⟨vs, own_grows h1 hg, fun i x hx => by obtain ⟨B, c, e, hc, hi, hn⟩ := h2 i x hx; exact ⟨B, c, e, hc, hi.grows hg, hn⟩⟩
theorem OwnM.only (h : OwnM w base lo v ms) (hg : w.grownBy w' (some g)) (hb : g < base) (hl : g < lo) : OwnM w' base lo v ms := by
 obtain ⟨vs, h1, h2⟩ := h
 refine ⟨vs, World.ownsRow.kept h1 hg ?_, fun i x hx => by obtain ⟨B, c, e, hc, hi, hn⟩ := h2 i x hx; exact ⟨B, c, e, hc, RdB.grown hi hg (fun q e => by injection e with e; unfold Ge; omega), hn⟩⟩
 cases e : v.ownBlock with
 | none => exact .inl rfl
 | some q =>
  refine .inr fun e2 => ?_
  have := (World.ownsRow.lt h1 q e).1
  injection e2 with e2
  omega
theorem OwnM.lt (h : OwnM w base lo v ms) : ∀ q, v.ownBlock = some q → base ≤ q ∧ q < w.heap.size := by
 obtain ⟨vs, h1, -⟩ := h
 exact World.ownsRow.lt h1
theorem OwnM.read (h : OwnM w base lo v ms) (hb : lo ≤ base) : ∃ A c, v = .slice A ms.length c ∧ ms.length ≤ c ∧ MapsR w (Ge lo) A ms := by
 obtain ⟨vs, h1, h2⟩ := h
 have hlt := World.ownsRow.lt h1
 rcases h1.2 with ⟨rfl, hn⟩ | ⟨q, cap, cur, rfl, hbq, hg, hnc, hm, hs, ht⟩
 ·have e := List.eq_nil_of_length_eq_zero hn
  subst e
  exact ⟨none, 0, rfl, Nat.le_refl _, MapsR.nil⟩
 ·refine ⟨_, cap, rfl, hnc, vs, ⟨Reads.of_own h1, fun _ ad e => ?_⟩, fun i x hx => by obtain ⟨B, c, e, hc, hi, _⟩ := h2 i x hx; exact ⟨B, c, e, hc, hi⟩⟩
  injection e with e
  subst e
  exact Nat.le_trans hb hbq
end
set_option maxRecDepth 100000 in
theorem ms_info : ∃ i : TypeInfo, Tryz.prog.info? 31 = some i ∧ i.size = 1 ∧ i.bytes = 24 ∧ i.zero = some (.slice none 0 0) ∧ (Value.slice none 0 0).cells.size = 1 := ⟨_, by first | exact Tryz.info31 | rfl, rfl, rfl, rfl, rfl⟩
end Go.Proofs.YtbfdaojffffaaaaGreat

namespace Go.Proofs.YtbfdaojffffaaaaGreat
open Go.RowKit
end Go.Proofs.YtbfdaojffffaaaaGreat

namespace Go.Proofs.YtbfdaojffffaaaaGreat
open Go.RowKit
def Ap (lo : Nat) (v : Value) : Nat → Prop := fun k => lo ≤ k ∧ v.ownBlock ≠ some k
section
variable {w w' : World} {ok : Nat → Prop} {size n : Nat} {A : Option Addr} {xs : List Value}
end
section
variable {w w' : World} {ok : Nat → Prop} {b : Bx} {A1 A2 A3 : Option Addr} {c1 c2 c3 : Nat}
end
def OwnB (w : World) (base lo : Nat) (v : Value) (l : List Bx) : Prop :=
 ∃ vs, w.ownsRow base 134 4 v l.length vs ∧ ∀ (i : Nat) (b : Bx), l[i]? = some b → ∃ A1 c1 A2 c2 A3 c3, BoxP w (Ap lo v) b A1 c1 A2 c2 A3 c3 ∧ ∀ j < 4, vs[i * 4 + j]? = (b.cs A1 c1 A2 c2 A3 c3)[j]?
section
variable {w w' : World} {base lo g : Nat} {v : Value} {l : List Bx}
theorem OwnB.nil : OwnB w base lo (.slice none 0 0) [] := ⟨[], World.ownsRow_nil w base _ 4, fun i x h => by simp at h⟩
theorem OwnB.grows (h : OwnB w base lo v l) (hg : Grows w w') : OwnB w' base lo v l := by
 obtain ⟨vs, h1, h2⟩ := h
 exact ⟨vs, own_grows h1 hg, fun i x hx => by obtain ⟨A1, c1, A2, c2, A3, c3, hp, hc⟩ := h2 i x hx; exact ⟨A1, c1, A2, c2, A3, c3, hp.grows hg, hc⟩⟩
theorem OwnB.only (h : OwnB w base lo v l) (hg : w.grownBy w' (some g)) (hb : g < base) (hl : g < lo) : OwnB w' base lo v l := by
 obtain ⟨vs, h1, h2⟩ := h
 refine ⟨vs, World.ownsRow.kept h1 hg ?_, fun i x hx => by obtain ⟨A1, c1, A2, c2, A3, c3, hp, hc⟩ := h2 i x hx; exact ⟨A1, c1, A2, c2, A3, c3, hp.grown hg (fun q e hq => by injection e with e; unfold Ap at hq; omega), hc⟩⟩
 cases e : v.ownBlock with
 | none => exact .inl rfl
 | some q =>
  refine .inr fun e2 => ?_
  have := (World.ownsRow.lt h1 q e).1
  injection e2 with e2
  omega
theorem OwnB.lt (h : OwnB w base lo v l) : ∀ q, v.ownBlock = some q → base ≤ q ∧ q < w.heap.size := by
 obtain ⟨vs, h1, -⟩ := h
 exact World.ownsRow.lt h1
theorem OwnB.read (h : OwnB w base lo v l) (hb : lo ≤ base) : ∃ A c, v = .slice A l.length c ∧ l.length ≤ c ∧ Bxs w (Ge lo) A l := by
 obtain ⟨vs, h1, h2⟩ := h
 have h3 : ∀ (i : Nat) (b : Bx), l[i]? = some b → ∃ A1 c1 A2 c2 A3 c3, BoxP w (Ge lo) b A1 c1 A2 c2 A3 c3 ∧ ∀ j < 4, vs[i * 4 + j]? = (b.cs A1 c1 A2 c2 A3 c3)[j]? := fun i b hx => by
  obtain ⟨A1, c1, A2, c2, A3, c3, hp, hc⟩ := h2 i b hx
  exact ⟨A1, c1, A2, c2, A3, c3, hp.mono (fun k hk => hk.1), hc⟩
 rcases h1.2 with ⟨rfl, hn⟩ | ⟨q, cap, cur, rfl, hbq, hg, hnc, hm, hs, ht⟩
 ·have e := List.eq_nil_of_length_eq_zero hn
  subst e
  exact ⟨none, 0, rfl, Nat.le_refl _, Bxs.nil⟩
 ·refine ⟨_, cap, rfl, hnc, vs, ⟨Reads.of_own h1, fun _ ad e => ?_⟩, h3⟩
  injection e with e
  subst e
  exact Nat.le_trans hb hbq
end
set_option maxRecDepth 100000 in
theorem box_info : ∃ i : TypeInfo, Tryz.prog.info? 134 = some i ∧ i.size = 4 ∧ i.bytes = 80 ∧ i.zero = some (.agg #[.int .i64 0, .slice none 0 0, .slice none 0 0, .slice none 0 0]) ∧ (Value.agg #[.int .i64 0, .slice none 0 0, .slice none 0 0, .slice none 0 0]).cells.size = 4 := ⟨_, by first | exact Tryz.info134 | rfl, rfl, rfl, rfl, rfl⟩
end Go.Proofs.YtbfdaojffffaaaaGreat

namespace Go.Proofs.YtbfdaojffffaaaaGreat
open Go.RowKit
/-- A segment of a clock: from, numerator, denominator. -/
structure Seg where
 f : Int
 n : Int
 d : Int
def lsG (s : Seg) : List Value := [.int .i64 s.f, .int .i64 s.n, .int .i64 s.d]
def gcs (l : List Seg) : List Value := l.flatMap lsG
theorem gcs_one (l : List Seg) : ∀ u ∈ gcs l, u.oneCell' = true := by
 intro u hu
 simp only [gcs, List.mem_flatMap, lsG, List.mem_cons, List.not_mem_nil, or_false] at hu
 obtain ⟨s, _, rfl | rfl | rfl⟩ := hu <;> rfl
theorem gcs_at {l : List Seg} {k : Nat} {s : Seg} (h : l[k]? = some s) : ∀ j < 3, (gcs l)[k * 3 + j]? = (lsG s)[j]? := by
 induction l generalizing k with
 | nil => simp at h
 | cons x l ih =>
  intro j hj
  cases k with
  | zero =>
   simp only [List.getElem?_cons_zero, Option.some.injEq] at h
   subst h
   simp only [gcs, List.flatMap_cons, Nat.zero_mul, Nat.zero_add]
   rw [List.getElem?_append_left (by simp [lsG]; omega)]
  | succ k =>
   have := ih (k := k) (by simpa using h) j hj
   simp only [gcs, List.flatMap_cons] at this ⊢
   rw [List.getElem?_append_right (by simp [lsG]; omega), ← this]
   congr 1
   simp [lsG]
   omega
/-- A slice of segments. -/
def Sgs (w : World) (A : Option Addr) (l : List Seg) : Prop := Reads w w.heap.size 3 A l.length (gcs l)
theorem Sgs.grows {w w' : World} {A : Option Addr} {l : List Seg} (h : Sgs w A l) (hg : Grows w w') : Sgs w' A l := Reads.grows h hg
def CellsG (w : World) (p : Addr) (s : Seg) : Prop := w.cell? p = some (.int .i64 s.f) ∧ w.cell? { block := p.block, off := p.off + 1 } = some (.int .i64 s.n) ∧ w.cell? { block := p.block, off := p.off + 2 } = some (.int .i64 s.d)
theorem Sgs.elem {w : World} {A : Option Addr} {l : List Seg} (h : Sgs w A l) {k : Nat} (hk : k < l.length) : ∃ ad s, A = some ad ∧ ad.block < w.heap.size ∧ l[k]? = some s ∧ CellsG w (ad.add (k * 3)) s := by
 obtain ⟨ad, rfl, hb, hc⟩ := h.2 (by omega)
 obtain ⟨s, hs⟩ : ∃ s, l[k]? = some s := ⟨l[k], List.getElem?_eq_getElem hk⟩
 refine ⟨ad, s, rfl, hb, hs, ?_⟩
 have hj : ∀ j < 3, ∀ v, (lsG s)[j]? = some v → w.cell? ((ad.add (k * 3)).add j) = some v := fun j hj v hv => by
  rw [add_of_add]
  exact hc _ _ (by rw [gcs_at hs j hj]; exact hv)
 have ej : ∀ j, j ≠ 0 → (ad.add (k * 3)).add j = { block := (ad.add (k * 3)).block, off := (ad.add (k * 3)).off + j } := fun j hj0 => by
  generalize ad.add (k * 3) = p
  unfold Addr.add
  rw [if_neg hj0]
 refine ⟨?_, ?_, ?_⟩
 ·have := hj 0 (by omega) _ rfl
  rwa [show (ad.add (k * 3)).add 0 = ad.add (k * 3) by simp [Addr.add]] at this
 ·have := hj 1 (by omega) _ rfl; rwa [ej 1 (by omega)] at this
 ·have := hj 2 (by omega) _ rfl; rwa [ej 2 (by omega)] at this
set_option maxRecDepth 100000 in
theorem seginfo : ∃ i : TypeInfo, Tryz.prog.info? 180 = some i ∧ i.size = 3 ∧ i.bytes = 24 ∧ i.zero = some (.agg #[.int .i64 0, .int .i64 0, .int .i64 0]) ∧ (Value.agg #[.int .i64 0, .int .i64 0, .int .i64 0]).cells.size = 3 := ⟨_, by first | exact Tryz.info180 | rfl, rfl, rfl, rfl, rfl⟩
set_option maxRecDepth 100000 in
set_option maxHeartbeats 8000000 in
theorem bclone_raw (A : Option Addr) (c n : Nat) (vs : List Value) (w : World) (h : Reads w w.heap.size 4 A n vs) (h1 : ∀ u ∈ vs, u.oneCell' = true) (hl : n ≤ 1000000) :
 Calls Tryz.prog 126 #[.slice A n c] w fun e w' => (∃ v, e = .returned v ∧ w'.ownsRow w.heap.size 134 4 v n vs) ∧ Grows w w' := by
 go_enter Tryz.func126, Tryz.ntmps126
 go_wp2_with fail
 rw [Lib.run_eql_slice_nil (P := Tryz.prog) w 28 134 _ _ _ _ _ Tryz.underlying28]
 rcases A with _ | ad
 ·have h0 : n = 0 := by
   rcases Nat.eq_zero_or_pos n with h0 | h0
   ·exact h0
   ·obtain ⟨ad, hh, _⟩ := h.2 h0
    cases hh
  subst h0
  have hvs : vs = [] := List.eq_nil_of_length_eq_zero (by have := h.1; omega)
  subst hvs
  go_wp2
  go_ret
  exact ⟨⟨_, rfl, World.ownsRow_nil w w.heap.size _ _⟩, Below.refl _ _⟩
 ·go_upto_region 3 with fail
  refine wp_region_lit ?_
  iterate 2
   refine wpList_plain rfl (fun K hK => ?_)
   go_simp
   refine hK _ _ ?_
   clear hK K
  have hB1 := (Below.refl w.heap.size w).alloc (Nat.le_refl _) (Obj.cells #[] 134)
  have how : (w.alloc (Obj.cells #[] 134)).ownsRow w.heap.size 134 4 (.slice (some ⟨w.heap.size, 0, none⟩) 0 0) 0 [] := World.ownsRow_lit w #[] 0 (Nat.le_refl _) (by simp [maxLen]) rfl
  have h2 := h.grows hB1
  generalize hW : World.alloc w _ = w1 at *
  obtain ⟨i0, hi0, hi1, hi2, hi3, hi4⟩ := box_info
  refine wpList_append_any w1 rfl (.tmp 5) (.tmp 6) 28 rfl w.heap.size 134 i0 _ 4 80 Tryz.underlying28 hi0 hi3 hi1 hi2 hi4 (by omega) _ 0 [] rfl how w1.heap.size (some ad) n c vs rfl h2 h1 (by simp only [maxLen]; omega) (by omega) hB1.size ?_
  intro v' w2 hown hgr _
  have hB2 := hB1.grown hgr hB1.size (fun q hq => (World.ownsRow.lt how q hq).1)
  rw [List.nil_append, Nat.zero_add] at hown
  clear how hgr h1 h2 h hB1 hW
  go_wp2
  go_ret
  exact ⟨⟨_, rfl, hown⟩, hB2⟩
set_option maxRecDepth 100000 in
set_option maxHeartbeats 8000000 in
theorem mclone_raw (A : Option Addr) (c n : Nat) (vs : List Value) (w : World) (h : Reads w w.heap.size 1 A n vs) (h1 : ∀ u ∈ vs, u.oneCell' = true) (hl : n ≤ 1000000) :
 Calls Tryz.prog 128 #[.slice A n c] w fun e w' => (∃ v, e = .returned v ∧ w'.ownsRow w.heap.size 31 1 v n vs) ∧ Grows w w' := by
 go_enter Tryz.func128, Tryz.ntmps128
 go_wp2_with fail
 rw [Lib.run_eql_slice_nil (P := Tryz.prog) w 126 31 _ _ _ _ _ Tryz.underlying126]
 rcases A with _ | ad
 ·have h0 : n = 0 := by
   rcases Nat.eq_zero_or_pos n with h0 | h0
   ·exact h0
   ·obtain ⟨ad, hh, _⟩ := h.2 h0
    cases hh
  subst h0
  have hvs : vs = [] := List.eq_nil_of_length_eq_zero (by have := h.1; omega)
  subst hvs
  go_wp2
  go_ret
  exact ⟨⟨_, rfl, World.ownsRow_nil w w.heap.size _ _⟩, Below.refl _ _⟩
 ·go_upto_region 3 with fail
  refine wp_region_lit ?_
  iterate 2
   refine wpList_plain rfl (fun K hK => ?_)
   go_simp
   refine hK _ _ ?_
   clear hK K
  have hB1 := (Below.refl w.heap.size w).alloc (Nat.le_refl _) (Obj.cells #[] 31)
  have how : (w.alloc (Obj.cells #[] 31)).ownsRow w.heap.size 31 1 (.slice (some ⟨w.heap.size, 0, none⟩) 0 0) 0 [] := World.ownsRow_lit w #[] 0 (Nat.le_refl _) (by simp [maxLen]) rfl
  have h2 := h.grows hB1
  generalize hW : World.alloc w _ = w1 at *
  obtain ⟨i0, hi0, hi1, hi2, hi3, hi4⟩ := ms_info
  refine wpList_append_any w1 rfl (.tmp 5) (.tmp 6) 126 rfl w.heap.size 31 i0 _ 1 24 Tryz.underlying126 hi0 hi3 hi1 hi2 hi4 (by omega) _ 0 [] rfl how w1.heap.size (some ad) n c vs rfl h2 h1 (by simp only [maxLen]; omega) (by omega) hB1.size ?_
  intro v' w2 hown hgr _
  have hB2 := hB1.grown hgr hB1.size (fun q hq => (World.ownsRow.lt how q hq).1)
  rw [List.nil_append, Nat.zero_add] at hown
  clear how hgr h1 h2 h hB1 hW
  go_wp2
  go_ret
  exact ⟨⟨_, rfl, hown⟩, hB2⟩
set_option maxRecDepth 100000 in
set_option maxHeartbeats 8000000 in
theorem gclone_raw (A : Option Addr) (c n : Nat) (vs : List Value) (w : World) (h : Reads w w.heap.size 3 A n vs) (h1 : ∀ u ∈ vs, u.oneCell' = true) (hl : n ≤ 1000000) :
 Calls Tryz.prog 130 #[.slice A n c] w fun e w' => (∃ v, e = .returned v ∧ w'.ownsRow w.heap.size 180 3 v n vs) ∧ Grows w w' := by
 go_enter Tryz.func130, Tryz.ntmps130
 go_wp2_with fail
 rw [Lib.run_eql_slice_nil (P := Tryz.prog) w 36 180 _ _ _ _ _ Tryz.underlying36]
 rcases A with _ | ad
 ·have h0 : n = 0 := by
   rcases Nat.eq_zero_or_pos n with h0 | h0
   ·exact h0
   ·obtain ⟨ad, hh, _⟩ := h.2 h0
    cases hh
  subst h0
  have hvs : vs = [] := List.eq_nil_of_length_eq_zero (by have := h.1; omega)
  subst hvs
  go_wp2
  go_ret
  exact ⟨⟨_, rfl, World.ownsRow_nil w w.heap.size _ _⟩, Below.refl _ _⟩
 ·go_upto_region 3 with fail
  refine wp_region_lit ?_
  iterate 2
   refine wpList_plain rfl (fun K hK => ?_)
   go_simp
   refine hK _ _ ?_
   clear hK K
  have hB1 := (Below.refl w.heap.size w).alloc (Nat.le_refl _) (Obj.cells #[] 180)
  have how : (w.alloc (Obj.cells #[] 180)).ownsRow w.heap.size 180 3 (.slice (some ⟨w.heap.size, 0, none⟩) 0 0) 0 [] := World.ownsRow_lit w #[] 0 (Nat.le_refl _) (by simp [maxLen]) rfl
  have h2 := h.grows hB1
  generalize hW : World.alloc w _ = w1 at *
  obtain ⟨i0, hi0, hi1, hi2, hi3, hi4⟩ := seginfo
  refine wpList_append_any w1 rfl (.tmp 5) (.tmp 6) 36 rfl w.heap.size 180 i0 _ 3 24 Tryz.underlying36 hi0 hi3 hi1 hi2 hi4 (by omega) _ 0 [] rfl how w1.heap.size (some ad) n c vs rfl h2 h1 (by simp only [maxLen]; omega) (by omega) hB1.size ?_
  intro v' w2 hown hgr _
  have hB2 := hB1.grown hgr hB1.size (fun q hq => (World.ownsRow.lt how q hq).1)
  rw [List.nil_append, Nat.zero_add] at hown
  clear how hgr h1 h2 h hB1 hW
  go_wp2
  go_ret
  exact ⟨⟨_, rfl, hown⟩, hB2⟩
end Go.Proofs.YtbfdaojffffaaaaGreat

namespace Go.Proofs.YtbfdaojffffaaaaGreat
open Go.RowKit
/-- A segment that is possible. -/
def okSg (s : Seg) : Prop := okR s.n s.d = true ∧ s.d ≤ s.n * 1024 ∧ s.n ≤ s.d * 1024 ∧ 0 ≤ s.f ∧ s.f ≤ 1099511627776
/-- A clock that is possible. -/
structure OkG (l : List Seg) : Prop where
 pos : 1 ≤ l.length
 le : l.length ≤ 64
 seg : ∀ s ∈ l, okSg s
 first : ∀ s, l[0]? = some s → s.f = 0
 up : ∀ (k : Nat) s t, l[k]? = some s → l[k + 1]? = some t → s.f < t.f
set_option maxRecDepth 100000 in
set_option maxHeartbeats 8000000 in
theorem usual_any (s : Seg) (w : World) (h : okSg s) : Calls Tryz.prog 164 #[.agg #[.int .i64 s.n, .int .i64 s.d]] w fun e w' => e = .returned (.bool true) ∧ Grows w w' := by
 obtain ⟨h1, h2, h3, h4, h5⟩ := h
 obtain ⟨a1, a2, a3, a4, -⟩ := okR_bd h1
 obtain ⟨sf, sn, sd⟩ := s
 simp only at *
 have wa : IntKind.i64.wrap (sn * 1024) = sn * 1024 := IntWalk.i64_in _ (by omega)
 have wb : IntKind.i64.wrap (sd * 1024) = sd * 1024 := IntWalk.i64_in _ (by omega)
 have d1 : decide (sd ≤ sn * 1024) = true := by simp only [decide_eq_true_iff]; omega
 have d2 : decide (sn ≤ sd * 1024) = true := by simp only [decide_eq_true_iff]; omega
 go_enter Tryz.func164, Tryz.ntmps164
 go_wp2_with fail
 refine (ratio_any sn sd _).mono ?_
 rintro e w1 ⟨rfl, hq⟩
 rw [h1]
 have k1 := Blk.grows (Blk.new _ _ _) hq
 have x1 := k1.cell
 have hB := below_grows ((Below.refl w.heap.size w).alloc (Nat.le_refl _) _) (by simp) hq
 clear hq
 go_wp2
 go_ret
 exact ⟨rfl, hB⟩
set_option maxRecDepth 100000 in
set_option maxHeartbeats 20000000 in
theorem clvalid_any (A : Option Addr) (c : Nat) (l : List Seg) (w : World) (h : Sgs w A l) (hv : OkG l) : Calls Tryz.prog 86 #[.agg #[.slice A l.length c]] w fun e w' => e = .returned (.bool true) ∧ Grows w w' := by
 have hl1 := hv.pos
 have hl2 := hv.le
 go_enter Tryz.func86, Tryz.ntmps86
 have hB := (Below.refl w.heap.size w).alloc (Nat.le_refl _) (Obj.cells #[.slice A l.length c] 38)
 have k1 := Blk.new w 38 #[.slice A l.length c]
 go_wp2_with fail
 generalize World.alloc w _ = w0 at *
 go_loopw [8] (fun i wr => ∃ k : Nat, k ≤ l.length ∧ i = .int .i64 k ∧ Grows w wr ∧ Blk wr w.heap.size 38 #[.slice A l.length c]) (fun i _ => l.length - (intOf i).toNat)
 case atStart => exact ⟨0, by omega, rfl, hB, k1⟩
 case round =>
  clear hB k1
  obtain ⟨k, hk, rfl, hB, k1⟩ := hrel
  have x1 := k1.cell
  by_cases hlt : k < l.length
  ·obtain ⟨ad, s, rfl, had, hs, q1, q2, q3⟩ := (h.grows hB).elem hlt
   have hsg := hv.seg s (List.mem_of_getElem? hs)
   have hu := fun w => usual_any s w hsg
   obtain ⟨-, -, -, hs4, hs5⟩ := hsg
   go_upto_region 4 with fail
   have k4 := Blk.new wr 180 #[.int .i64 s.f, .int .i64 s.n, .int .i64 s.d]
   have hq := (Below.refl wr.heap.size wr).alloc (Nat.le_refl _) (Obj.cells #[.int .i64 s.f, .int .i64 s.n, .int .i64 s.d] 180)
   replace hB := below_grows hB (Nat.le_refl _) hq
   replace k1 := k1.grows hq
   have hq4 := hq.size
   clear x1 q1 q2 q3
   by_cases hk0 : k = 0
   ·have hf := hv.first s (by rw [← hk0]; exact hs)
    have hf0 : (s.f != 0) = false := by simp [hf]
    have d5 : decide (1099511627776 < s.f) = false := by simp only [decide_eq_false_iff_not]; omega
    have d7 : ((k : Int) == 0) = true := by simp; omega
    have d8 : decide (0 < (k : Int)) = false := by simp only [decide_eq_false_iff_not]; omega
    have d9 : decide (0 < k) = false := by simp only [decide_eq_false_iff_not]; omega
    have wk : IntKind.i64.wrap ((k : Int) + 1) = ((k + 1 : Nat) : Int) := by rw [IntWalk.i64_in _ (by omega)]; rfl
    clear hs hq hk0
    generalize wr.heap.size = q4 at *
    generalize World.alloc wr _ = w2 at *
    refine wp_region_mix (fun w' => Grows w2 w') [] 34 58 (by kernel_rfl) (by kernel_rfl) rfl ?_ float_none ?_ ?_
    ·exact fun w1 w2 h0 hg => below_grows h0 (Nat.le_refl _) hg
    ·exact Grows.drew' _
    ·skip
     simp only [List.take_succ_cons, List.take_zero, List.drop_succ_cons, List.drop_zero]
     iterate 34
      first
       | (refine calm_no rfl rfl (a' := ?_) ?_ ?_
          rotate_left 1
          ·simp only [Act.put, List.setIfInBounds_toArray, List.set_cons_succ, List.set_cons_zero]
           rfl)
       | (first | refine calm_plain rfl rfl (v := ?_) (a' := ?_) (fun w1 hw1 => ?_) ?_ ?_ | refine calm_yes rfl rfl (v := ?_) (a' := ?_) (fun w1 hw1 => ?_) ?_ ?_
          rotate_left 2
          ·have h0 := hw1
           have x1 := (k1.grows h0).cell
           have x4 := (k4.grows h0).cell
           go_simp
           first | exact calm_val | (refine calm_call ?_; with_reducible exact hu _)
          ·simp only [Act.put, List.setIfInBounds_toArray, List.set_cons_succ, List.set_cons_zero]
           rfl)
     refine calm_done (end_none ?_)
     rintro W3 hq
     replace hB := below_grows hB (Nat.le_refl _) hq
     replace k1 := k1.grows hq
     go_wp2
     go_roundw
     case rel => exact ⟨k + 1, by omega, by go_num, hB, k1⟩
     case measure => simp [intOf] <;> omega
   ·obtain ⟨j, hj⟩ : ∃ j, k = j + 1 := ⟨k - 1, by omega⟩
    obtain ⟨t, ht⟩ : ∃ t, l[j]? = some t := ⟨l[j], List.getElem?_eq_getElem (by omega)⟩
    have hup := hv.up j t s ht (by rw [← hj]; exact hs)
    obtain ⟨ad', t', e1, had', ht', qp, -, -⟩ := (h.grows (show Grows w (World.alloc wr (Obj.cells #[.int .i64 s.f, .int .i64 s.n, .int .i64 s.d] 180)) from hB)).elem (show j < l.length by omega)
    injection e1 with e1
    subst e1
    rw [ht] at ht'
    injection ht' with ht'
    subst ht'
    have d5 : decide (1099511627776 < s.f) = false := by simp only [decide_eq_false_iff_not]; omega
    have d6 : decide (s.f ≤ t.f) = false := by simp only [decide_eq_false_iff_not]; omega
    have d7 : ((k : Int) == 0) = false := by simp; omega
    have d8 : decide (0 < (k : Int)) = true := by simp only [decide_eq_true_iff]; omega
    have d9 : decide (0 < k) = true := by simp only [decide_eq_true_iff]; omega
    have wj : IntKind.i64.wrap ((k : Int) - 1) = (j : Int) := by rw [IntWalk.i64_in _ (by omega)]; omega
    have wk : IntKind.i64.wrap ((k : Int) + 1) = ((k + 1 : Nat) : Int) := by rw [IntWalk.i64_in _ (by omega)]; rfl
    have b0 : (0 : Int) ≤ (j : Int) := by omega
    have b1 : (j : Int) < (l.length : Int) := by omega
    have b2 : j < l.length := by omega
    clear hs ht hq had
    have had := had'
    clear had' hj hk0
    generalize wr.heap.size = q4 at *
    generalize World.alloc wr _ = w2 at *
    refine wp_region_mix (fun w' => Grows w2 w') [] 34 58 (by kernel_rfl) (by kernel_rfl) rfl ?_ float_none ?_ ?_
    ·exact fun w1 w2 h0 hg => below_grows h0 (Nat.le_refl _) hg
    ·exact Grows.drew' _
    ·skip
     simp only [List.take_succ_cons, List.take_zero, List.drop_succ_cons, List.drop_zero]
     iterate 34
      first
       | (refine calm_no rfl rfl (a' := ?_) ?_ ?_
          rotate_left 1
          ·simp only [Act.put, List.setIfInBounds_toArray, List.set_cons_succ, List.set_cons_zero]
           rfl)
       | (first | refine calm_plain rfl rfl (v := ?_) (a' := ?_) (fun w1 hw1 => ?_) ?_ ?_ | refine calm_yes rfl rfl (v := ?_) (a' := ?_) (fun w1 hw1 => ?_) ?_ ?_
          rotate_left 2
          ·have h0 := hw1
           have x1 := (k1.grows h0).cell
           have x4 := (k4.grows h0).cell
           have xp := (Below.cell (p := ad.add (j * 3)) h0 (by rw [block_of_add]; exact had)).trans qp
           go_simp
           first | exact calm_val | (refine calm_call ?_; with_reducible exact hu _)
          ·simp only [Act.put, List.setIfInBounds_toArray, List.set_cons_succ, List.set_cons_zero]
           rfl)
     refine calm_done (end_none ?_)
     rintro W3 hq
     replace hB := below_grows hB (Nat.le_refl _) hq
     replace k1 := k1.grows hq
     go_wp2
     go_roundw
     case rel => exact ⟨k + 1, by omega, by go_num, hB, k1⟩
     case measure => simp [intOf] <;> omega
  ·have d8 : decide ((1 : Int) ≤ (l.length : Int)) = true := by simp only [decide_eq_true_iff]; omega
   have d9 : decide ((l.length : Int) ≤ 64) = true := by simp only [decide_eq_true_iff]; omega
   have d10 : decide (1 ≤ l.length) = true := by simp only [decide_eq_true_iff]; omega
   have d11 : decide (l.length ≤ 64) = true := by simp only [decide_eq_true_iff]; omega
   go_wp2
   go_ret
   exact ⟨rfl, hB⟩
end Go.Proofs.YtbfdaojffffaaaaGreat

namespace Go.Proofs.YtbfdaojffffaaaaGreat
open Go.RowKit Go.Shelf
attribute [local go_sem] Oper.semAt_some
/-- A piece of a clock: a segment, until when, and the position at which it begins. -/
structure Pc where
 f : Int
 n : Int
 d : Int
 u : Int
 b : Int
def pcA (x : Pc) : Array Value := #[.int .i64 x.f, .int .i64 x.n, .int .i64 x.d, .int .i64 x.u, .int .i64 x.b]
/-- Floor gives something at every time. -/
def FlAny (n d : Int) : Prop := ∀ (k : Int) (w : World), 0 ≤ k → k ≤ 1099511627776 → Calls Tryz.prog 313 #[.int .i64 k, .agg #[.int .i64 n, .int .i64 d]] w fun e w' => (∃ v e', e = .returned (.tuple #[.int .i64 v, .int .i64 e'])) ∧ Grows w w'
theorem flAny_low {n d : Int} (h : okR n d = true) (hn : n ≤ 4194303) : FlAny n d := fun k w h1 h2 => by
 have h0 := (okR_bd h).1
 have : k * n ≤ 1099511627776 * 4194303 := Int.mul_le_mul h2 hn (by omega) (by omega)
 exact (floor_lo k n d w h h1 (by omega) (by omega)).mono fun e w' ⟨he, hg⟩ => ⟨⟨_, _, he⟩, hg⟩
def okPc (x : Pc) : Prop := okR x.n x.d = true ∧ x.n ≤ x.d * 1024 ∧ 0 ≤ x.f ∧ x.f ≤ 1048576 ∧ x.f ≤ x.u ∧ x.u ≤ 1099511627776 ∧ 0 ≤ x.b ∧ x.b ≤ 1099511627776 ∧ FlAny x.n x.d
set_option maxRecDepth 100000 in
set_option maxHeartbeats 8000000 in
theorem at_weak (x : Pc) (t : Int) (w : World) (h : FlAny x.n x.d) (h1 : 0 ≤ t - x.f) (h2 : t - x.f ≤ 1099511627776) : Calls Tryz.prog 301 #[.agg #[.int .i64 x.f, .int .i64 x.n, .int .i64 x.d, .int .i64 x.u, .int .i64 x.b], .int .i64 t] w fun e w' => (∃ v, e = .returned (.int .i64 v)) ∧ Grows w w' := by
 obtain ⟨f, n, d, u, b⟩ := x
 simp only at *
 have wt : IntKind.i64.wrap (t - f) = t - f := IntWalk.i64_in _ (by omega)
 go_enter Tryz.func301, Tryz.ntmps301
 go_wp2_with fail
 refine (h (t - f) _ h1 h2).mono ?_
 rintro e w1 ⟨⟨v, e', rfl⟩, hq⟩
 have k2 := Blk.grows (Blk.new _ _ _) hq
 have x2 := k2.cell
 have hB := below_grows ((Below.refl w.heap.size w).alloc (Nat.le_refl _) _) (by simp) hq
 clear hq
 go_wp2
 go_ret
 exact ⟨⟨_, rfl⟩, hB⟩
set_option maxRecDepth 100000 in
set_option maxHeartbeats 8000000 in
theorem at_exact (x : Pc) (t : Int) (w : World) (h : okR x.n x.d = true) (h1 : 0 ≤ t - x.f) (h2 : t - x.f ≤ 1048576) (hb : 0 ≤ x.b) (hb2 : x.b ≤ 2199023255552) : Calls Tryz.prog 301 #[.agg #[.int .i64 x.f, .int .i64 x.n, .int .i64 x.d, .int .i64 x.u, .int .i64 x.b], .int .i64 t] w fun e w' => e = .returned (.int .i64 (x.b + (t - x.f) * x.n / x.d)) ∧ Grows w w' := by
 obtain ⟨f, n, d, u, b⟩ := x
 simp only at *
 obtain ⟨a1, a2, a3, a4, -⟩ := okR_bd h
 have hm : (t - f) * n ≤ 1048576 * 68719476736 := Int.mul_le_mul h2 a3 (by omega) (by omega)
 obtain ⟨b0, b1, b2, -⟩ := div_lo h h1 (by omega)
 have hfl := fun w => floor_lo (t - f) n d w h h1 (by omega) (by omega)
 generalize (t - f) * n / d = q at *
 have wt : IntKind.i64.wrap (t - f) = t - f := IntWalk.i64_in _ (by omega)
 have wq : IntKind.i64.wrap (b + q) = b + q := IntWalk.i64_in _ (by omega)
 go_enter Tryz.func301, Tryz.ntmps301
 go_wp2_with fail
 refine (hfl _).mono ?_
 rintro e w1 ⟨rfl, hq⟩
 have k2 := Blk.grows (Blk.new _ _ _) hq
 have x2 := k2.cell
 have hB := below_grows ((Below.refl w.heap.size w).alloc (Nat.le_refl _) _) (by simp) hq
 clear hq
 go_wp2
 go_ret
 exact ⟨rfl, hB⟩
def pcsF : Int → List Seg → List Pc
 | _, [] => []
 | b, [s] => [⟨s.f, s.n, s.d, 1099511627776, b⟩]
 | b, s :: t :: r => ⟨s.f, s.n, s.d, t.f, b⟩ :: pcsF (b + (t.f - s.f) * s.n / s.d) (t :: r)
/-- What a round keeps: all cells but those of one block. -/
def KpC (B : Nat) (A C : World) : Prop := (∀ (a : Addr) (v : Value), a.block ≠ B → A.cell? a = some v → C.cell? a = some v) ∧ A.heap.size ≤ C.heap.size
theorem KpC.refl (B : Nat) (A : World) : KpC B A A := ⟨fun _ _ _ h => h, Nat.le_refl _⟩
theorem KpC.trans {B : Nat} {A C D : World} (h : KpC B A C) (k : KpC B C D) : KpC B A D := ⟨fun a v hb hc => k.1 a v hb (h.1 a v hb hc), Nat.le_trans h.2 k.2⟩
theorem KpC.grows {B : Nat} {A C : World} (h : Grows A C) : KpC B A C := ⟨fun _ _ _ hc => below_cell h (World.block_lt_of_cell? A _ hc) hc, h.size⟩
theorem KpC.set (B : Nat) (A : World) (i : Nat) (u : Value) : KpC B A (A.setCell ⟨B, i, none⟩ u) := ⟨fun a v hb hc => (World.cell?_setCell_other A ⟨B, i, none⟩ a u (fun e => hb (by rw [← e]))).trans hc, by simp⟩
theorem KpC.put {B : Nat} {w : World} (W : World) (l : Nat) (o o' : Obj) (_ : w.heap.size ≤ l) (h : W.heap[l]? = some o) (hc : o.isCells = false) (_ : o.isWalk = false) : KpC B W (W.putObj l o') :=
 ⟨fun _ _ _ hv => cell_kept hv (grownBy_putObj' W l o') (fun r e => by cases e; exact ⟨o, h, hc⟩), (grownBy_putObj' W l o').size⟩
/-- Clocks whose pieces can be computed with. -/
structure OkK (l : List Seg) : Prop where
 ok : OkG l
 small : ∀ s ∈ l, s.f ≤ 1048576
 fl : ∀ s ∈ l, FlAny s.n s.d
abbrev PcX := { x : Pc // okPc x }
set_option maxRecDepth 100000 in
set_option maxHeartbeats 20000000 in
theorem pieces1_in (m : Nat) (hm : 1 ≤ m) (r Bc Bn : Nat) (A : Option Addr) (c : Nat) (l : List Seg) (hl : OkK l) (J Jx : List PcX → World → Prop)
 (hY : ∀ pre x W, J pre W → pre.length < l.length → YieldAt Fence.wide (m - 1) Tryz.prog r #[.agg (pcA x.1)] W fun e W' =>
   (e = .returned (.bool true) ∧ J (pre ++ [x]) W' ∧ KpC Bn W W') ∨ (e = .returned (.bool false) ∧ Jx (pre ++ [x]) W'))
 (W : World) (hJa : AbidesFrom W.heap.size J) (hBc : W.cell? ⟨Bc, 0, none⟩ = some (.slice A l.length c)) (hBn : Bc ≠ Bn) (hBn2 : Bn < W.heap.size) (hS : Sgs W A l) (hSn : ∀ ad, A = some ad → ad.block ≠ Bn) (h0 : J [] W) :
 CallsIn Fence.wide m Tryz.prog 312 #[.func (.yield r) #[] #[], .pointer (some ⟨Bc, 0, none⟩)] W fun e W' => (∃ v, e = .returned v) ∧
  ((∃ ys : List PcX, ys.map (·.1) = pcsF 0 l ∧ J ys W') ∨ (∃ pre : List PcX, pre.map (·.1) <+: pcsF 0 l ∧ Jx pre W')) := by
 refine callsIn_of_wp Tryz.func312 rfl trivial ?_ rfl
 simp only [Tryz.ntmps312, List.size_toArray, List.length_cons, List.length_nil, Nat.reduceAdd, Nat.reduceSub, Array.replicate_succ, Array.replicate_zero, List.push_toArray, List.append_toArray, List.nil_append, List.cons_append]
 gi_wp2
 gi_loopw [3, 10] (fun b i wr => ∃ (k : Nat) (bv : Int) (pre : List PcX), k ≤ l.length ∧ i = .int .i64 k ∧ b = .int .i64 bv ∧ pre.length = k ∧ (k < l.length → pre.map (·.1) ++ pcsF bv (l.drop k) = pcsF 0 l ∧ 0 ≤ bv ∧ bv ≤ (k : Int) * 1073741824) ∧ (k = l.length → pre.map (·.1) = pcsF 0 l) ∧ J pre wr ∧ KpC Bn W wr) (fun _ i _ => l.length - (intOf i).toNat)
 case atStart => exact ⟨0, 0, [], Nat.zero_le _, rfl, rfl, rfl, fun _ => ⟨rfl, by omega, by omega⟩, fun e => absurd hl.ok.pos (by omega), h0, KpC.refl _ _⟩
 case round =>
  obtain ⟨k, bv, pre, hk, rfl, rfl, hpl, hpc, hpe, hJ, hKp⟩ := hrel
  have hcw := hKp.1 _ _ hBn hBc
  have hsz := hKp.2
  by_cases hlt : k < l.length
  ·obtain ⟨hpc, hb0, hb1⟩ := hpc hlt
   clear hpe hBc h0
   have hle := hl.ok.le
   obtain ⟨ad, s, hA, had, hs, q1, q2, q3⟩ := hS.elem hlt
   have hne := hSn ad hA
   have p1 := hKp.1 _ _ (by rw [block_of_add]; exact hne) q1
   have p2 := hKp.1 ⟨(ad.add (k * 3)).block, (ad.add (k * 3)).off + 1, none⟩ _ (show (ad.add (k * 3)).block ≠ Bn by rw [block_of_add]; exact hne) q2
   have p3 := hKp.1 ⟨(ad.add (k * 3)).block, (ad.add (k * 3)).off + 2, none⟩ _ (show (ad.add (k * 3)).block ≠ Bn by rw [block_of_add]; exact hne) q3
   have hsm := List.mem_of_getElem? hs
   obtain ⟨o1, o2, o3, o4, o5⟩ := hl.ok.seg s hsm
   have hsf := hl.small s hsm
   have hfl := hl.fl s hsm
   have hd : l.drop k = s :: l.drop (k + 1) := by
    rw [List.drop_eq_getElem_cons hlt]
    congr 1
    rw [List.getElem?_eq_getElem hlt] at hs
    exact Option.some.inj hs
   rw [hd] at hpc
   have hb2 : bv ≤ 68719476736 := by
    have : (k : Int) ≤ 63 := by omega
    have := Int.mul_le_mul_of_nonneg_right this (show (0 : Int) ≤ 1073741824 by omega)
    omega
   have wk : IntKind.i64.wrap ((k : Int) + 1) = ((k + 1 : Nat) : Int) := by rw [IntWalk.i64_in _ (by omega)]; rfl
   have d0 : decide ((k : Int) < (l.length : Int)) = true := by simp only [decide_eq_true_iff]; omega
   have d0' : decide (k < l.length) = true := by simp only [decide_eq_true_iff]; omega
   have b0 : (0 : Int) ≤ (k : Int) := by omega
   have b1 : (k : Int) < (l.length : Int) := by omega
   by_cases hk1 : k + 1 < l.length
   ·obtain ⟨ad', t, hA', -, ht, r1, -, -⟩ := hS.elem hk1
    rw [hA] at hA'
    cases hA'
    have p4 := hKp.1 _ _ (by rw [block_of_add]; exact hne) r1
    have hup := hl.ok.up k s t hs ht
    have htm := List.mem_of_getElem? ht
    have htf := hl.small t htm
    have hd2 : l.drop (k + 1) = t :: l.drop (k + 1 + 1) := by
     rw [List.drop_eq_getElem_cons hk1]
     congr 1
     rw [List.getElem?_eq_getElem hk1] at ht
     exact Option.some.inj ht
    rw [hd2] at hpc
    have d1 : decide ((k : Int) + 1 < (l.length : Int)) = true := by simp only [decide_eq_true_iff]; omega
    have d1' : decide (k + 1 < l.length) = true := by simp only [decide_eq_true_iff]; omega
    have c0 : (0 : Int) ≤ (k : Int) + 1 := by omega
    have c1 : (k : Int) + 1 < (l.length : Int) := by omega
    obtain ⟨y1, y2, y3⟩ : 0 ≤ (t.f - s.f) * s.n / s.d ∧ (t.f - s.f) * s.n / s.d ≤ 1073741824 ∧ okPc ⟨s.f, s.n, s.d, t.f, bv⟩ := by
     obtain ⟨z1, z2, z3, z4, -⟩ := okR_bd o1
     have hm : (t.f - s.f) * s.n ≤ 1048576 * (s.d * 1024) := Int.mul_le_mul (by omega) o3 (by omega) (by omega)
     refine ⟨Int.ediv_nonneg (Int.mul_nonneg (by omega) (by omega)) (by omega), ?_, o1, o3, o4, hsf, by simp only; omega, by simp only; omega, hb0, by simp only; omega, hfl⟩
     refine Int.ediv_le_of_le_mul (by omega) ?_
     omega
    obtain ⟨fn, tmps, assign, body, hy, hR⟩ := hY pre ⟨_, y3⟩ ((wr.alloc (.cells #[.int .i64 s.f, .int .i64 s.n, .int .i64 s.d] 180)).alloc (.cells (pcA ⟨s.f, s.n, s.d, t.f, bv⟩) 330)) (hJa _ _ _ none (hJa _ _ _ none hJ (World.grownBy_alloc wr _ none) (fun r e => by cases e)) (World.grownBy_alloc _ _ none) (fun r e => by cases e)) (by omega)
    simp only [pcA] at hy
    subst hA
    gi_upto_region 5 with fail
    have hg := ((Below.refl wr.heap.size wr).alloc (Nat.le_refl _) (.cells #[.int .i64 s.f, .int .i64 s.n, .int .i64 s.d] 180)).alloc (by simp) (.cells #[.int .i64 s.f, .int .i64 s.n, .int .i64 s.d, .int .i64 1099511627776, .int .i64 bv] 330)
    have x0 := (KpC.grows (B := Bn) hg).1 _ _ hBn hcw
    have x4 := (KpC.grows (B := Bn) hg).1 _ _ (by rw [block_of_add]; exact hne) p4
    clear hcw p1 p2 p3 p4
    gi_wp2
    refine hR.mono ?_
    rintro e W3 (⟨rfl, hJ3, hk3⟩ | ⟨rfl, hJx3⟩)
    ·have kb := Blk.new (wr.alloc (.cells #[.int .i64 s.f, .int .i64 s.n, .int .i64 s.d] 180)) 330 (pcA ⟨s.f, s.n, s.d, t.f, bv⟩)
     have kc := kb.cell
     simp only [World.size_alloc] at kc
     have e0 := hk3.1 ⟨wr.heap.size + 1, 0, none⟩ _ (show wr.heap.size + 1 ≠ Bn by omega) (show _ = some (Value.int .i64 s.f) from kc 0)
     have e1 := hk3.1 ⟨wr.heap.size + 1, 1, none⟩ _ (show wr.heap.size + 1 ≠ Bn by omega) (show _ = some (Value.int .i64 s.n) from kc 1)
     have e2 := hk3.1 ⟨wr.heap.size + 1, 2, none⟩ _ (show wr.heap.size + 1 ≠ Bn by omega) (show _ = some (Value.int .i64 s.d) from kc 2)
     have e3 := hk3.1 ⟨wr.heap.size + 1, 3, none⟩ _ (show wr.heap.size + 1 ≠ Bn by omega) (show _ = some (Value.int .i64 (t.f)) from kc 3)
     have e4 := hk3.1 ⟨wr.heap.size + 1, 4, none⟩ _ (show wr.heap.size + 1 ≠ Bn by omega) (show _ = some (Value.int .i64 bv) from kc 4)
     have hg3 := (KpC.grows (B := Bn) (((Below.refl wr.heap.size wr).alloc (Nat.le_refl _) (.cells #[.int .i64 s.f, .int .i64 s.n, .int .i64 s.d] 180)).alloc (by simp) (.cells (pcA ⟨s.f, s.n, s.d, t.f, bv⟩) 330))).trans hk3
     clear kb kc
     have hfn : Fence.wide.fn 301 := trivial
     gi_wp2_with (gi_at_call 301; refine (callsIn_wide.2 (at_exact ⟨s.f, s.n, s.d, t.f, bv⟩ t.f _ o1 (by simp only; omega) (by simp only; omega) hb0 (by simp only; omega))).mono ?_; rintro e w1 ⟨rfl, hq⟩)
     go_roundw
     case rel => exact ⟨k + 1, bv + (t.f - s.f) * s.n / s.d, pre ++ [⟨_, y3⟩], by omega, rfl, rfl, by simp; omega, fun _ => ⟨by rw [List.map_append, List.append_assoc, ← hpc, hd2]; rfl, by omega, by omega⟩, fun e => absurd hk1 (by omega), hJa _ _ _ none hJ3 (grown_none hq) (fun r e => by cases e), hKp.trans (hg3.trans (KpC.grows hq))⟩
     case measure => simp [intOf] <;> omega
    ·gi_wp2
     refine bodyPost_ret (results_none rfl _ _ _) rfl ?_
     exact ⟨⟨_, rfl⟩, .inr ⟨_, ⟨pcsF (bv + (t.f - s.f) * s.n / s.d) (t :: l.drop (k + 1 + 1)), by rw [← hpc]; simp [pcsF]⟩, hJx3⟩⟩
   ·have hd2 : l.drop (k + 1) = [] := List.drop_eq_nil_of_le (by omega)
    rw [hd2] at hpc
    have d1 : decide ((k : Int) + 1 < (l.length : Int)) = false := by simp only [decide_eq_false_iff_not]; omega
    have d1' : decide (k + 1 < l.length) = false := by simp only [decide_eq_false_iff_not]; omega
    have y3 : okPc ⟨s.f, s.n, s.d, 1099511627776, bv⟩ := ⟨o1, o3, o4, hsf, o5, by simp only; omega, hb0, by simp only; omega, hfl⟩
    obtain ⟨fn, tmps, assign, body, hy, hR⟩ := hY pre ⟨_, y3⟩ ((wr.alloc (.cells #[.int .i64 s.f, .int .i64 s.n, .int .i64 s.d] 180)).alloc (.cells (pcA ⟨s.f, s.n, s.d, 1099511627776, bv⟩) 330)) (hJa _ _ _ none (hJa _ _ _ none hJ (World.grownBy_alloc wr _ none) (fun r e => by cases e)) (World.grownBy_alloc _ _ none) (fun r e => by cases e)) (by omega)
    simp only [pcA] at hy
    subst hA
    gi_upto_region 5 with fail
    have hg := ((Below.refl wr.heap.size wr).alloc (Nat.le_refl _) (.cells #[.int .i64 s.f, .int .i64 s.n, .int .i64 s.d] 180)).alloc (by simp) (.cells #[.int .i64 s.f, .int .i64 s.n, .int .i64 s.d, .int .i64 1099511627776, .int .i64 bv] 330)
    have x0 := (KpC.grows (B := Bn) hg).1 _ _ hBn hcw
    clear hcw p1 p2 p3
    gi_wp2
    refine hR.mono ?_
    rintro e W3 (⟨rfl, hJ3, hk3⟩ | ⟨rfl, hJx3⟩)
    ·have kb := Blk.new (wr.alloc (.cells #[.int .i64 s.f, .int .i64 s.n, .int .i64 s.d] 180)) 330 (pcA ⟨s.f, s.n, s.d, 1099511627776, bv⟩)
     have kc := kb.cell
     simp only [World.size_alloc] at kc
     have e0 := hk3.1 ⟨wr.heap.size + 1, 0, none⟩ _ (show wr.heap.size + 1 ≠ Bn by omega) (show _ = some (Value.int .i64 s.f) from kc 0)
     have e1 := hk3.1 ⟨wr.heap.size + 1, 1, none⟩ _ (show wr.heap.size + 1 ≠ Bn by omega) (show _ = some (Value.int .i64 s.n) from kc 1)
     have e2 := hk3.1 ⟨wr.heap.size + 1, 2, none⟩ _ (show wr.heap.size + 1 ≠ Bn by omega) (show _ = some (Value.int .i64 s.d) from kc 2)
     have e3 := hk3.1 ⟨wr.heap.size + 1, 3, none⟩ _ (show wr.heap.size + 1 ≠ Bn by omega) (show _ = some (Value.int .i64 1099511627776) from kc 3)
     have e4 := hk3.1 ⟨wr.heap.size + 1, 4, none⟩ _ (show wr.heap.size + 1 ≠ Bn by omega) (show _ = some (Value.int .i64 bv) from kc 4)
     have hg3 := (KpC.grows (B := Bn) (((Below.refl wr.heap.size wr).alloc (Nat.le_refl _) (.cells #[.int .i64 s.f, .int .i64 s.n, .int .i64 s.d] 180)).alloc (by simp) (.cells (pcA ⟨s.f, s.n, s.d, 1099511627776, bv⟩) 330))).trans hk3
     clear kb kc
     have hfn : Fence.wide.fn 301 := trivial
     gi_wp2_with (gi_at_call 301; refine (callsIn_wide.2 (at_weak ⟨s.f, s.n, s.d, 1099511627776, bv⟩ 1099511627776 _ hfl (by simp only; omega) (by simp only; omega))).mono ?_; rintro e w1 ⟨⟨v, rfl⟩, hq⟩)
     go_roundw
     case rel => exact ⟨k + 1, v, pre ++ [⟨_, y3⟩], by omega, rfl, rfl, by simp; omega, fun e => absurd e (by omega), fun _ => by rw [List.map_append, ← hpc]; rfl, hJa _ _ _ none hJ3 (grown_none hq) (fun r e => by cases e), hKp.trans (hg3.trans (KpC.grows hq))⟩
     case measure => simp [intOf] <;> omega
    ·gi_wp2
     refine bodyPost_ret (results_none rfl _ _ _) rfl ?_
     exact ⟨⟨_, rfl⟩, .inr ⟨_, ⟨[], by rw [← hpc]; simp [pcsF]⟩, hJx3⟩⟩
  ·have hkl : k = l.length := by omega
   have d0 : decide ((k : Int) < (l.length : Int)) = false := by simp only [decide_eq_false_iff_not]; omega
   have d0' : decide (k < l.length) = false := by simp only [decide_eq_false_iff_not]; omega
   gi_wp2
   go_end0
   exact ⟨⟨_, rfl⟩, .inl ⟨pre, hpe hkl, hJ⟩⟩
end Go.Proofs.YtbfdaojffffaaaaGreat
