/-
  YtbfdaojffffaaaaGreatTopCable: shared parts, 4. Plain theorems.
-/
import Derived.Test.YtbfdaojffffaaaaGreatTopCableK3
namespace Go.Proofs.YtbfdaojffffaaaaGreat
open Go.RowKit
theorem ptr_inj {a b : Nat} (h : Value.pointer (some ⟨a, 0, none⟩) = .pointer (some ⟨b, 0, none⟩)) : a = b := by
 simp only [Value.pointer.injEq, Option.some.injEq, Addr.mk.injEq] at h
 exact h.1
theorem rdb_blk {w : World} {g n size : Nat} {t : TypeId} {cs : Array Value} {base : Nat → Prop} (h : Blk w g t cs) (hs : cs.size = n * size) (hb : base g) : RdB w base size (some ⟨g, 0, none⟩) n cs.toList :=
 ⟨⟨by simp [hs], fun _ => ⟨_, rfl, h.lt, fun j u hu => by rw [add_head, h.cell, ← Array.getElem?_toList]; exact hu⟩⟩, fun _ ad e => by injection e with e; subst e; exact hb⟩
theorem bxs_blk1 {w : World} {ok : Nat → Prop} {z : Bx} {A1 A2 A3 : Option Addr} {c1 c2 c3 g : Nat} (hp : BoxP w ok z A1 c1 A2 c2 A3 c3) (hb : Blk w g 134 #[.int .i64 z.k, .slice A1 z.r.length c1, .slice A2 z.m.length c2, .slice A3 z.s.length c3]) (hw : ok g) : Bxs w ok (some ⟨g, 0, none⟩) [z] := by
 refine ⟨z.cs A1 c1 A2 c2 A3 c3, rdb_blk hb rfl hw, fun i x hx => ?_⟩
 have hi0 : i = 0 := by
  have := (List.getElem?_eq_some_iff.1 hx).1
  simp only [List.length_singleton] at this
  omega
 subst hi0
 simp only [List.getElem?_cons_zero, Option.some.injEq] at hx
 subst hx
 exact ⟨A1, c1, A2, c2, A3, c3, hp, fun j hj => by rw [Nat.zero_mul, Nat.zero_add]⟩
theorem maps_blk1 {w : World} {ok : Nat → Prop} {x : List Int} {A : Option Addr} {c g : Nat} (hi : InB w ok A x) (hc : x.length ≤ c) (hb : Blk w g 31 #[.slice A x.length c]) (hw : ok g) : MapsR w ok (some ⟨g, 0, none⟩) [x] := by
 refine ⟨[.slice A x.length c], rdb_blk hb rfl hw, fun i y hy => ?_⟩
 have hi0 : i = 0 := by
  have := (List.getElem?_eq_some_iff.1 hy).1
  simp only [List.length_singleton] at this
  omega
 subst hi0
 simp only [List.getElem?_cons_zero, Option.some.injEq] at hy
 subst hy
 exact ⟨A, c, rfl, hc, hi⟩
set_option maxRecDepth 100000 in
set_option maxHeartbeats 20000000 in
theorem steady_any (w : World) : Calls Tryz.prog 32 #[] w fun e w' => (∃ A, e = .returned (.agg #[.slice (some A) 1 1]) ∧ RdB w' (fun k => w.heap.size ≤ k) 3 (some A) 1 (gcs [⟨0, 1, 1⟩])) ∧ Grows w w' := by
 go_enter Tryz.func32, Tryz.ntmps32
 have hB := (Below.refl w.heap.size w).alloc (Nat.le_refl _) (Obj.cells #[.slice none 0 0] 38)
 have k0 := Blk.new w 38 #[.slice none 0 0]
 go_upto_region 1 with fail
 generalize hw1 : World.alloc w _ = w1 at *
 clear hw1
 have hk0 := k0.lt
 have hx := k0.cell 0
 have hf := k0.frozen 0
 go_wp2
 have hB' := (hB.setCell (p := ⟨w.heap.size, 0, none⟩) (Nat.le_refl _) (.slice (some ⟨w1.heap.size, 0, none⟩) 1 1)).alloc (by simpa using hB.size) (Obj.cells #[.int .i64 0, .int .i64 1, .int .i64 1] 180)
 have k0' := (k0.set_ 0 (.slice (some ⟨w1.heap.size, 0, none⟩) 1 1)).alloc (Obj.cells #[.int .i64 0, .int .i64 1, .int .i64 1] 180)
 have k2' := blk_new_at (X := w1.setCell ⟨w.heap.size, 0, none⟩ (.slice (some ⟨w1.heap.size, 0, none⟩) 1 1)) (n := w1.heap.size) (t := 180) (cs := #[.int .i64 0, .int .i64 1, .int .i64 1]) (by simp)
 refine bodyPost_ret (v := .agg #[.slice (some ⟨w1.heap.size, 0, none⟩) 1 1]) ?_ rfl ⟨⟨⟨w1.heap.size, 0, none⟩, rfl, rdb_blk (cs := #[.int .i64 0, .int .i64 1, .int .i64 1]) k2' rfl hB.size⟩, hB'⟩
 have xr := k0'.cell 0
 simp [results, Tryz.results32, go_sem, xr]
/-- The box of what the statements open. -/
def opB (m : List Int) : Bx := ⟨4, [⟨48000, 48000⟩], [m], [⟨48000, 48000⟩]⟩
/-- What the statements open. -/
def opD (dir : Int) (m : List Int) : Dv := ⟨⟨7, ⟨#[100, 97, 99]⟩, dir, 0, 0, 0, 0⟩, none, [opB m], 1, 2, 48000, none, m, m.length, 48000, 48000, 16, none, [⟨0, 1, 1⟩], 1, false, 0, 37, 29, 4, 16, 0, m.length, 1, 1, 0, 0, 0, none, List.replicate (13 * m.length) 0, 13 * m.length⟩
theorem op_maps : ∀ m ∈ mapsL, validL [opB m] = true ∧ hasL [opB m] ⟨2, 48000, m, 48000⟩ = true ∧ 1 ≤ m.length ∧ m.length ≤ 8 := by
 intro m hm
 simp only [mapsL, List.mem_cons, List.not_mem_nil, or_false] at hm
 rcases hm with rfl | rfl | rfl | rfl | rfl | rfl | rfl <;> decide +kernel
theorem opD_rt (dir : Int) (m : List Int) : OkRt (opD dir m) := ⟨by dsimp only [opD]; decide, by dsimp only [opD]; decide, by dsimp only [opD]; decide, by dsimp only [opD]; decide, by dsimp only [opD]; decide, by dsimp only [opD]; decide⟩
theorem opD_nom (dir : Int) (m : List Int) : nomN (opD dir m) = 1 ∧ nomD (opD dir m) = 1 := by constructor <;> (show (48000 : Int) / gF 48000 48000 = 1) <;> decide +kernel
theorem opG_ok : OkG [⟨0, 1, 1⟩] := by
 refine ⟨by decide, by decide, fun s hs => ?_, fun s hs => ?_, fun k s t hs ht => ?_⟩
 ·rw [List.mem_singleton] at hs
  subst hs
  exact ⟨by decide +kernel, by decide, by decide, by decide, by decide⟩
 ·simp only [List.getElem?_cons_zero, Option.some.injEq] at hs
  subst hs
  rfl
 ·have := (List.getElem?_eq_some_iff.1 ht).1
  simp only [List.length_singleton] at this
  omega
theorem opK_ok : OkK [⟨0, 1, 1⟩] := ⟨opG_ok, fun s hs => by rw [List.mem_singleton] at hs; subst hs; decide, fun s hs => by rw [List.mem_singleton] at hs; subst hs; exact flAny_low (by decide +kernel) (by decide)⟩
theorem opD_ok {dir : Int} (hd : dir = 1 ∨ dir = 2) {m : List Int} (hm : m ∈ mapsL) : OkDv (opD dir m) := by
 obtain ⟨h1, h2, h3, h4⟩ := op_maps m hm
 obtain ⟨n1, n2⟩ := opD_nom dir m
 refine ⟨⟨by dsimp only [opD]; decide, by dsimp only [opD]; decide, by dsimp only [opD]; decide +kernel, nm_dac, hd, ⟨by dsimp only [opD]; decide, by dsimp only [opD]; decide⟩, ⟨by dsimp only [opD]; decide, by dsimp only [opD]; decide⟩, ⟨by dsimp only [opD]; decide, by dsimp only [opD]; decide⟩, ⟨by dsimp only [opD]; decide, by dsimp only [opD]; decide⟩, by simp [opD], by simp [opD], h1, ?_⟩, opD_rt dir m, h2, opG_ok, ⟨by simp [opD], by simp [opD]⟩, ?_, (by dsimp only [opD]; decide +kernel), ⟨13, zeros_ok h3 h4 (by omega), by simp [opD]⟩, ⟨by simp [opD], by simp [opD]⟩, rfl, fun _ => by rw [n1, n2]; exact ⟨rfl, rfl⟩, fun _ => by rw [n1, n2]; exact ⟨rfl, rfl⟩⟩
 ·intro b hb
  rw [show (opD dir m).b = [opB m] from rfl, List.mem_singleton] at hb
  subst hb
  refine ⟨by simp [opB], by simp [opB], by simp [opB], fun x hx => ?_⟩
  rw [show (opB m).m = [m] from rfl, List.mem_singleton] at hx
  subst hx
  omega
 ·show okCt 29 4 16 0
  unfold okCt
  decide
theorem opD_pl : okPl 16 1 0 1 4 16 ∧ targetF 16 1 0 1 4 16 = 29 ∧ pboundF 16 1 0 1 4 16 = 8 ∧ ceilF 16 1 = 16 ∧ mostF 0 = 0 := by
 unfold okPl okDe
 decide +kernel
set_option maxRecDepth 100000 in
set_option maxHeartbeats 60000000 in
theorem opened_any {dir : Int} (hd : dir = 1 ∨ dir = 2) {m : List Int} (hm : m ∈ mapsL) (MA : Option Addr) (mc : Nat) (base : Nat → Prop) (w : World) (h : InB w base MA m) (hmc : m.length ≤ mc) : Calls Tryz.prog 17 #[.int .i64 dir, .slice MA m.length mc] w fun e w' =>
 (∃ D2, e = .returned (.tuple #[.agg (dvA D2), .bool true]) ∧ MovDv { opD dir m with run := true } D2 ∧ InDv w' (fun k => base k ∨ w.heap.size ≤ k) D2) ∧ Grows w w' := by
 have ok := opD_ok hd hm
 have h := h.bd
 go_enter Tryz.func17, Tryz.ntmps17
 have hB := (Below.refl w.heap.size w).alloc (Nat.le_refl _) (Obj.cells #[.int .u64 0, .string ⟨#[]⟩, .int .i64 0, .int .i64 0, .int .i64 0, .int .i64 0, .int .i64 0, .slice none 0 0, .int .i64 0, .int .i64 0, .slice none 0 0, .int .i64 0, .int .i64 0, .int .i64 0, .slice none 0 0, .bool false, .int .i64 0, .int .i64 0, .int .i64 0, .int .i64 0, .int .i64 0, .int .i64 0, .int .i64 0, .int .i64 0, .int .i64 0, .int .i64 0, .int .i64 0, .int .i64 0, .slice none 0 0, .int .i64 0, .int .i64 0] 51)
 have k0 := Blk.new w 51 #[.int .u64 0, .string ⟨#[]⟩, .int .i64 0, .int .i64 0, .int .i64 0, .int .i64 0, .int .i64 0, .slice none 0 0, .int .i64 0, .int .i64 0, .slice none 0 0, .int .i64 0, .int .i64 0, .int .i64 0, .slice none 0 0, .bool false, .int .i64 0, .int .i64 0, .int .i64 0, .int .i64 0, .int .i64 0, .int .i64 0, .int .i64 0, .int .i64 0, .int .i64 0, .int .i64 0, .int .i64 0, .int .i64 0, .slice none 0 0, .int .i64 0, .int .i64 0]
 go_upto_region 1 with fail
 generalize hw0 : World.alloc w _ = w0 at *
 clear hw0
 have z0 := k0.lt
 have hx0 := hB.size
 go_upto_region 2 with fail
 generalize hn1 : w0.heap.size = n1 at *
 have k1 := (hn1 ▸ Blk.new w0 129 #[.int .i64 48000, .int .i64 48000] : Blk (w0.alloc (Obj.cells #[.int .i64 48000, .int .i64 48000] 129)) n1 129 #[.int .i64 48000, .int .i64 48000]).alloc (Obj.cells #[.slice (some ⟨n1, 0, none⟩) 1 1] 132)
 have k2 := blk_new_at (X := w0.alloc (Obj.cells #[.int .i64 48000, .int .i64 48000] 129)) (n := n1 + 1) (t := 132) (cs := #[.slice (some ⟨n1, 0, none⟩) 1 1]) (by simp [hn1])
 replace k0 := (k0.alloc (Obj.cells #[.int .i64 48000, .int .i64 48000] 129)).alloc (Obj.cells #[.slice (some ⟨n1, 0, none⟩) 1 1] 132)
 replace hB := (hB.alloc (by omega) (Obj.cells #[.int .i64 48000, .int .i64 48000] 129)).alloc (by simp <;> omega) (Obj.cells #[.slice (some ⟨n1, 0, none⟩) 1 1] 132)
 generalize hn2 : n1 + 1 = n2 at *
 have hs1 : ((w0.alloc (Obj.cells #[.int .i64 48000, .int .i64 48000] 129)).alloc (Obj.cells #[.slice (some ⟨n1, 0, none⟩) 1 1] 132)).heap.size = n2 + 1 := by simp <;> omega
 generalize World.alloc (World.alloc w0 _) _ = w1 at *
 have y2 := k2.cell 0
 go_upto_region 3 with fail
 clear y2
 generalize hn3 : n2 + 1 = n3 at *
 generalize hn4 : n3 + 1 = n4 at *
 generalize hn5 : n4 + 1 = n5 at *
 have k3 := ((blk_new_at (X := w1) (n := n3) (t := 31) (cs := #[.slice MA m.length mc]) hs1).alloc (Obj.cells #[.int .i64 4, .slice (some ⟨n1, 0, none⟩) 1 1, .slice (some ⟨n3, 0, none⟩) 1 1, .slice (some ⟨n1, 0, none⟩) 1 1] 134)).alloc (Obj.cells #[.int .u64 7, .string ⟨#[100, 97, 99]⟩, .int .i64 dir, .int .i64 0, .int .i64 0, .int .i64 0, .int .i64 0, .slice (some ⟨n4, 0, none⟩) 1 1] 30)
 have k4 := (blk_new_at (X := w1.alloc (Obj.cells #[.slice MA m.length mc] 31)) (n := n4) (t := 134) (cs := #[.int .i64 4, .slice (some ⟨n1, 0, none⟩) 1 1, .slice (some ⟨n3, 0, none⟩) 1 1, .slice (some ⟨n1, 0, none⟩) 1 1]) (by simp [hs1]; omega)).alloc (Obj.cells #[.int .u64 7, .string ⟨#[100, 97, 99]⟩, .int .i64 dir, .int .i64 0, .int .i64 0, .int .i64 0, .int .i64 0, .slice (some ⟨n4, 0, none⟩) 1 1] 30)
 have k5 := blk_new_at (X := (w1.alloc (Obj.cells #[.slice MA m.length mc] 31)).alloc (Obj.cells #[.int .i64 4, .slice (some ⟨n1, 0, none⟩) 1 1, .slice (some ⟨n3, 0, none⟩) 1 1, .slice (some ⟨n1, 0, none⟩) 1 1] 134)) (n := n5) (t := 30) (cs := #[.int .u64 7, .string ⟨#[100, 97, 99]⟩, .int .i64 dir, .int .i64 0, .int .i64 0, .int .i64 0, .int .i64 0, .slice (some ⟨n4, 0, none⟩) 1 1]) (by simp [hs1]; omega)
 replace k0 := ((k0.alloc (Obj.cells #[.slice MA m.length mc] 31)).alloc (Obj.cells #[.int .i64 4, .slice (some ⟨n1, 0, none⟩) 1 1, .slice (some ⟨n3, 0, none⟩) 1 1, .slice (some ⟨n1, 0, none⟩) 1 1] 134)).alloc (Obj.cells #[.int .u64 7, .string ⟨#[100, 97, 99]⟩, .int .i64 dir, .int .i64 0, .int .i64 0, .int .i64 0, .int .i64 0, .slice (some ⟨n4, 0, none⟩) 1 1] 30)
 replace k1 := ((k1.alloc (Obj.cells #[.slice MA m.length mc] 31)).alloc (Obj.cells #[.int .i64 4, .slice (some ⟨n1, 0, none⟩) 1 1, .slice (some ⟨n3, 0, none⟩) 1 1, .slice (some ⟨n1, 0, none⟩) 1 1] 134)).alloc (Obj.cells #[.int .u64 7, .string ⟨#[100, 97, 99]⟩, .int .i64 dir, .int .i64 0, .int .i64 0, .int .i64 0, .int .i64 0, .slice (some ⟨n4, 0, none⟩) 1 1] 30)
 replace hB := ((hB.alloc (by omega) (Obj.cells #[.slice MA m.length mc] 31)).alloc (by simp [hs1]; omega) (Obj.cells #[.int .i64 4, .slice (some ⟨n1, 0, none⟩) 1 1, .slice (some ⟨n3, 0, none⟩) 1 1, .slice (some ⟨n1, 0, none⟩) 1 1] 134)).alloc (by simp [hs1]; omega) (Obj.cells #[.int .u64 7, .string ⟨#[100, 97, 99]⟩, .int .i64 dir, .int .i64 0, .int .i64 0, .int .i64 0, .int .i64 0, .slice (some ⟨n4, 0, none⟩) 1 1] 30)
 have hs2 : (((w1.alloc (Obj.cells #[.slice MA m.length mc] 31)).alloc (Obj.cells #[.int .i64 4, .slice (some ⟨n1, 0, none⟩) 1 1, .slice (some ⟨n3, 0, none⟩) 1 1, .slice (some ⟨n1, 0, none⟩) 1 1] 134)).alloc (Obj.cells #[.int .u64 7, .string ⟨#[100, 97, 99]⟩, .int .i64 dir, .int .i64 0, .int .i64 0, .int .i64 0, .int .i64 0, .slice (some ⟨n4, 0, none⟩) 1 1] 30)).heap.size = n5 + 1 := by simp [hs1]; omega
 generalize World.alloc (World.alloc (World.alloc w1 _) _) _ = w2 at *
 clear k2
 have hbx : Bxs w2 (fun k => (base k ∨ w.heap.size ≤ k) ∧ k < n5 ∧ k ≠ w.heap.size) (some ⟨n4, 0, none⟩) [opB m] := by
  have hsp : SpB w2 (fun k => (base k ∨ w.heap.size ≤ k) ∧ k < n5 ∧ k ≠ w.heap.size) (some ⟨n1, 0, none⟩) [⟨48000, 48000⟩] := rdb_blk (cs := #[.int .i64 48000, .int .i64 48000]) k1 rfl ⟨.inr (by omega), by omega, by omega⟩
  refine bxs_blk1 (z := opB m) (A1 := some ⟨n1, 0, none⟩) (A2 := some ⟨n3, 0, none⟩) (A3 := some ⟨n1, 0, none⟩) (c1 := 1) (c2 := 1) (c3 := 1) ⟨hsp, maps_blk1 (A := MA) (c := mc) ?_ hmc k3 ⟨.inr (by omega), by omega, by omega⟩, hsp, Nat.le_refl 1, Nat.le_refl 1, Nat.le_refl 1⟩ k4 ⟨.inr (by omega), by omega, by omega⟩
  exact InB.mono (InB.grows h hB) (fun k hk => by have := hk.2; exact ⟨.inl hk.1, by omega, by omega⟩)
 have hma : InB w2 (fun k => (base k ∨ w.heap.size ≤ k) ∧ k < n5 ∧ k ≠ w.heap.size) MA m := InB.mono (InB.grows h hB) (fun k hk => by have := hk.2; exact ⟨.inl hk.1, by omega, by omega⟩)
 have hop : ∀ (NG : Nat → Prop) (w3 : World) (Ac : Addr), (∀ k, k < n5 → k ≠ w.heap.size → NG k) → (∀ k, w3.heap.size ≤ k → NG k) → Grows w2 w3 → RdB w3 (fun k => w.heap.size ≤ k ∧ NG k) 3 (some Ac) 1 (gcs [⟨0, 1, 1⟩]) → Calls Tryz.prog 31 #[.agg #[.int .u64 7, .string ⟨#[100, 97, 99]⟩, .int .i64 dir, .int .i64 0, .int .i64 0, .int .i64 0, .int .i64 0, .slice (some ⟨n4, 0, none⟩) 1 1], .agg #[.int .i64 2, .int .i64 48000, .slice MA m.length mc, .int .i64 48000], .agg #[.slice (some Ac) 1 1], .int .i64 48000, .int .i64 16] w3 fun e w' => (∃ D2, e = .returned (.tuple #[.agg (dvA D2), .int .i64 0]) ∧ MovDv (opD dir m) D2 ∧ InDv w' (fun k => (base k ∨ w.heap.size ≤ k) ∧ NG k) D2) ∧ Grows w3 w' := by
  intro NG w3 Ac hN1 hN2 hg hc
  have hz := Below.size hB
  have hz3 := hg.size
  obtain ⟨p1, p2, p3, p4, p5⟩ := opD_pl
  obtain ⟨q1, q2⟩ := opD_nom dir m
  have hi : InDv w3 (fun k => (base k ∨ w.heap.size ≤ k) ∧ NG k) (rawDv { opD dir m with BA := some ⟨n4, 0, none⟩, MA := MA, mc := mc, CA := some Ac }) := ⟨(hbx.mono (fun k hk => ⟨hk.1, hN1 k hk.2.1 hk.2.2⟩)).grows hg, Nat.le_refl 1, InB.grows (InB.mono hma (fun k hk => ⟨hk.1, hN1 k hk.2.1 hk.2.2⟩)) hg, by have := (op_maps m hm).2.2.2; exact Nat.le_trans this (by decide), RdB.mono hc (fun k hk => ⟨.inr hk.1, hk.2⟩), RdB.nil⟩
  refine (open_any { opD dir m with BA := some ⟨n4, 0, none⟩, MA := MA, mc := mc, CA := some Ac } _ 16 1 1 16 8 13 w3 hi ?_ ?_ rfl rfl rfl p5 rfl rfl rfl ?_ p4 (show (16 : Int) / 4 = 4 by decide) p1 p2 p3 rfl (show max (0 : Int) (29 - 16) = ((13 : Nat) : Int) by decide) (show 13 ≤ 37 by omega) rfl ⟨by show nomD (opD dir m) ≤ nomN (opD dir m) * 64; rw [q1, q2]; decide, by show nomN (opD dir m) ≤ nomD (opD dir m) * 64; rw [q1, q2]; decide⟩).mono ?_
  ·exact MovDv.ok ⟨_, _, _, _, _, _, _, _, rfl⟩ ok
  ·intro b hb
   rw [show ({ opD dir m with BA := some ⟨n4, 0, none⟩, MA := MA, mc := mc, CA := some Ac } : Dv).b = [opB m] from rfl, List.mem_singleton] at hb
   subst hb
   exact Nat.le_refl _
  ·rcases hd with rfl | rfl
   ·exact .inl ⟨rfl, rfl, rfl, by show (1 : Int) = ceilF (0 * nomD (opD 1 m)) (nomN (opD 1 m)) + 1; rw [q1, q2]; decide⟩
   ·exact .inr ⟨rfl, by show (16 : Int) = 16 * 48000 / gF (16 * 48000) 48000; decide +kernel, by show (1 : Int) = 48000 / gF (16 * 48000) 48000; decide +kernel, rfl⟩
  ·rintro e w' ⟨⟨D2, rfl, hmv, hin⟩, hg'⟩
   refine ⟨⟨D2, rfl, MovDv.trans ⟨_, _, _, _, _, _, _, _, rfl⟩ hmv, hin.mono (fun k hk => ?_)⟩, hg'⟩
   rcases hk with hk | hk
   ·exact hk
   ·exact ⟨.inr (by omega), hN2 k hk⟩
 clear hbx hma h k1 k3 k4 hmc hs1
 have hg2 := Below.refl w2.heap.size w2
 go_upto_region 3 with fail
 obtain ⟨S, HI, HO⟩ := hideS fun (L : Ran) (vs : Nat → Value) (w' : World) => Below w.heap.size w w' ∧ Blk w' w.heap.size 51 #[.int .u64 0, .string ⟨#[]⟩, .int .i64 0, .int .i64 0, .int .i64 0, .int .i64 0, .int .i64 0, .slice none 0 0, .int .i64 0, .int .i64 0, .slice none 0 0, .int .i64 0, .int .i64 0, .int .i64 0, .slice none 0 0, .bool false, .int .i64 0, .int .i64 0, .int .i64 0, .int .i64 0, .int .i64 0, .int .i64 0, .int .i64 0, .int .i64 0, .int .i64 0, .int .i64 0, .int .i64 0, .int .i64 0, .slice none 0 0, .int .i64 0, .int .i64 0] ∧ Blk w' n5 30 #[.int .u64 7, .string ⟨#[100, 97, 99]⟩, .int .i64 dir, .int .i64 0, .int .i64 0, .int .i64 0, .int .i64 0, .slice (some ⟨n4, 0, none⟩) 1 1] ∧ Below w2.heap.size w2 w' ∧ (L 9 = true → ∃ G, vs 9 = .pointer (some ⟨G, 0, none⟩) ∧ (n5 < G ∧ w.heap.size < G ∧ w.heap.size ≤ G) ∧ (L 10 = false → Blk w' G 51 #[.int .u64 0, .string ⟨#[]⟩, .int .i64 0, .int .i64 0, .int .i64 0, .int .i64 0, .int .i64 0, .slice none 0 0, .int .i64 0, .int .i64 0, .slice none 0 0, .int .i64 0, .int .i64 0, .int .i64 0, .slice none 0 0, .bool false, .int .i64 0, .int .i64 0, .int .i64 0, .int .i64 0, .int .i64 0, .int .i64 0, .int .i64 0, .int .i64 0, .int .i64 0, .int .i64 0, .int .i64 0, .int .i64 0, .slice none 0 0, .int .i64 0, .int .i64 0]) ∧ (L 10 = true → ∃ D2, Blk w' G 51 (dvA D2) ∧ MovDv (opD dir m) D2 ∧ InDv w' (fun k => (k ≠ G ∧ k ≠ w.heap.size) ∧ (base k ∨ w.heap.size ≤ k)) D2)) ∧ (L 10 = true → L 9 = true) ∧ (L 4 = true → ∃ Ac, vs 4 = .agg #[.slice (some Ac) 1 1] ∧ RdB w' (fun k => w.heap.size ≤ k ∧ ¬ (L 9 = true ∧ vs 9 = .pointer (some ⟨k, 0, none⟩)) ∧ k ≠ w.heap.size) 3 (some Ac) 1 (gcs [⟨0, 1, 1⟩])) ∧ (L 5 = true → ∃ D2, vs 5 = .tuple #[.agg (dvA D2), .int .i64 0] ∧ MovDv (opD dir m) D2 ∧ InDv w' (fun k => (base k ∨ w.heap.size ≤ k) ∧ ¬ (L 9 = true ∧ vs 9 = .pointer (some ⟨k, 0, none⟩)) ∧ k ≠ w.heap.size) D2) ∧ (L 6 = true → ∃ D2, vs 6 = .tuple #[.agg (dvA D2), .int .i64 0] ∧ MovDv (opD dir m) D2 ∧ InDv w' (fun k => (base k ∨ w.heap.size ≤ k) ∧ ¬ (L 9 = true ∧ vs 9 = .pointer (some ⟨k, 0, none⟩)) ∧ k ≠ w.heap.size) D2) ∧ (L 7 = true → ∃ D2, vs 7 = .agg (dvA D2) ∧ MovDv (opD dir m) D2 ∧ InDv w' (fun k => (base k ∨ w.heap.size ≤ k) ∧ ¬ (L 9 = true ∧ vs 9 = .pointer (some ⟨k, 0, none⟩)) ∧ k ≠ w.heap.size) D2) ∧ KnS [some (.agg #[.int .u64 7, .string ⟨#[100, 97, 99]⟩, .int .i64 dir, .int .i64 0, .int .i64 0, .int .i64 0, .int .i64 0, .slice (some ⟨n4, 0, none⟩) 1 1]), some (.slice MA m.length mc), some (.agg #[.int .i64 2, .int .i64 48000, .slice MA m.length mc]), some (.agg #[.int .i64 2, .int .i64 48000, .slice MA m.length mc, .int .i64 48000]), none, none, none, none, some (.int .i64 0), none, some (undef), some (.int .i64 0)] L vs
 refine wp_region_genU S 43 (by kernel_rfl) (by kernel_rfl) rfl ?_ ?_
 ·exact HI.out _ _ _ ⟨hB.drew, k0.drew, k5.drew, hg2.drew, (fun e => by cases e), (fun e => by cases e), (fun e => by cases e), (fun e => by cases e), (fun e => by cases e), (fun e => by cases e), kn_none _ _⟩
 refine gen_consR (fun vs L w1 hL hw1 => ?_) ?_
 ·obtain ⟨h0, h1, h2, h3, g9, c9, d4, d5, d6, d7, q⟩ := HO.out _ _ _ hw1
  refine gen_plain rfl ?_
  refine gr_ldrow (cs := #[.int .u64 7, .string ⟨#[100, 97, 99]⟩, .int .i64 dir, .int .i64 0, .int .i64 0, .int .i64 0, .int .i64 0, .slice (some ⟨n4, 0, none⟩) 1 1]) _ rfl rfl h2 Tryz.underlying30 rfl (by kernel_rfl) ?_
  exact HI.out _ _ _ ⟨h0, h1, h2, h3, (fun e => by obtain ⟨G, eG, hG, y0, y1⟩ := (g9 (upd_ne e (by decide))); exact ⟨G, eG, hG, fun e => (y0 (upd_ne e (by decide))), (fun e => by obtain ⟨D9, kb9, hm9, hi9⟩ := (y1 (upd_ne e (by decide))); exact ⟨D9, kb9, hm9, hi9⟩)⟩), fun e => (c9 (upd_ne e (by decide))), (fun e => by obtain ⟨A4, f4, hr4⟩ := (d4 (upd_ne e (by decide))); exact ⟨A4, f4, hr4⟩), (fun e => by obtain ⟨D5, f5, hm5, hi5⟩ := (d5 (upd_ne e (by decide))); exact ⟨D5, f5, hm5, hi5⟩), (fun e => by obtain ⟨D6, f6, hm6, hi6⟩ := (d6 (upd_ne e (by decide))); exact ⟨D6, f6, hm6, hi6⟩), (fun e => by obtain ⟨D7, f7, hm7, hi7⟩ := (d7 (upd_ne e (by decide))); exact ⟨D7, f7, hm7, hi7⟩), kn_known q rfl⟩
 refine gen_consR (fun vs L w1 hL hw1 => ?_) ?_
 ·obtain ⟨h0, h1, h2, h3, g9, c9, d4, d5, d6, d7, q⟩ := HO.out _ _ _ hw1
  refine gen_plain rfl ?_
  go_simp
  exact gr_val (HI.out _ _ _ ⟨h0, h1, h2, h3, (fun e => by obtain ⟨G, eG, hG, y0, y1⟩ := (g9 (upd_ne e (by decide))); exact ⟨G, eG, hG, fun e => (y0 (upd_ne e (by decide))), (fun e => by obtain ⟨D9, kb9, hm9, hi9⟩ := (y1 (upd_ne e (by decide))); exact ⟨D9, kb9, hm9, hi9⟩)⟩), fun e => (c9 (upd_ne e (by decide))), (fun e => by obtain ⟨A4, f4, hr4⟩ := (d4 (upd_ne e (by decide))); exact ⟨A4, f4, hr4⟩), (fun e => by obtain ⟨D5, f5, hm5, hi5⟩ := (d5 (upd_ne e (by decide))); exact ⟨D5, f5, hm5, hi5⟩), (fun e => by obtain ⟨D6, f6, hm6, hi6⟩ := (d6 (upd_ne e (by decide))); exact ⟨D6, f6, hm6, hi6⟩), (fun e => by obtain ⟨D7, f7, hm7, hi7⟩ := (d7 (upd_ne e (by decide))); exact ⟨D7, f7, hm7, hi7⟩), kn_known q rfl⟩)
 refine gen_consR (fun vs L w1 hL hw1 => ?_) ?_
 ·obtain ⟨h0, h1, h2, h3, g9, c9, d4, d5, d6, d7, q⟩ := HO.out _ _ _ hw1
  have l1 : L 1 = true := hL.need 1 (by kernel_rfl)
  have e1 := q 1 _ rfl l1
  refine gen_plain rfl ?_
  simp only [e1]
  go_simp
  exact gr_val (HI.out _ _ _ ⟨h0, h1, h2, h3, (fun e => by obtain ⟨G, eG, hG, y0, y1⟩ := (g9 (upd_ne e (by decide))); exact ⟨G, eG, hG, fun e => (y0 (upd_ne e (by decide))), (fun e => by obtain ⟨D9, kb9, hm9, hi9⟩ := (y1 (upd_ne e (by decide))); exact ⟨D9, kb9, hm9, hi9⟩)⟩), fun e => (c9 (upd_ne e (by decide))), (fun e => by obtain ⟨A4, f4, hr4⟩ := (d4 (upd_ne e (by decide))); exact ⟨A4, f4, hr4⟩), (fun e => by obtain ⟨D5, f5, hm5, hi5⟩ := (d5 (upd_ne e (by decide))); exact ⟨D5, f5, hm5, hi5⟩), (fun e => by obtain ⟨D6, f6, hm6, hi6⟩ := (d6 (upd_ne e (by decide))); exact ⟨D6, f6, hm6, hi6⟩), (fun e => by obtain ⟨D7, f7, hm7, hi7⟩ := (d7 (upd_ne e (by decide))); exact ⟨D7, f7, hm7, hi7⟩), kn_known q rfl⟩)
 refine gen_consR (fun vs L w1 hL hw1 => ?_) ?_
 ·obtain ⟨h0, h1, h2, h3, g9, c9, d4, d5, d6, d7, q⟩ := HO.out _ _ _ hw1
  have l2 : L 2 = true := hL.need 2 (by kernel_rfl)
  have e2 := q 2 _ rfl l2
  refine gen_plain rfl ?_
  simp only [e2]
  go_simp
  exact gr_val (HI.out _ _ _ ⟨h0, h1, h2, h3, (fun e => by obtain ⟨G, eG, hG, y0, y1⟩ := (g9 (upd_ne e (by decide))); exact ⟨G, eG, hG, fun e => (y0 (upd_ne e (by decide))), (fun e => by obtain ⟨D9, kb9, hm9, hi9⟩ := (y1 (upd_ne e (by decide))); exact ⟨D9, kb9, hm9, hi9⟩)⟩), fun e => (c9 (upd_ne e (by decide))), (fun e => by obtain ⟨A4, f4, hr4⟩ := (d4 (upd_ne e (by decide))); exact ⟨A4, f4, hr4⟩), (fun e => by obtain ⟨D5, f5, hm5, hi5⟩ := (d5 (upd_ne e (by decide))); exact ⟨D5, f5, hm5, hi5⟩), (fun e => by obtain ⟨D6, f6, hm6, hi6⟩ := (d6 (upd_ne e (by decide))); exact ⟨D6, f6, hm6, hi6⟩), (fun e => by obtain ⟨D7, f7, hm7, hi7⟩ := (d7 (upd_ne e (by decide))); exact ⟨D7, f7, hm7, hi7⟩), kn_known q rfl⟩)
 refine gen_consR (fun vs L w1 hL hw1 => ?_) ?_
 ·obtain ⟨h0, h1, h2, h3, g9, c9, d4, d5, d6, d7, q⟩ := HO.out _ _ _ hw1
  refine gen_plain rfl ?_
  go_simp
  refine gr_call ?_
  refine (steady_any _).mono ?_
  rintro e wc ⟨⟨Ac, rfl, hc⟩, hg⟩
  have hng2 : ∀ k, k < n5 → k ≠ w.heap.size → ¬ (L 9 = true ∧ vs 9 = .pointer (some ⟨k, 0, none⟩)) ∧ k ≠ w.heap.size := fun k hk hne => ⟨fun hc => by obtain ⟨G, eG, hG, y0, y1⟩ := g9 hc.1; have h2 := ptr_inj (eG.symm.trans hc.2); omega, hne⟩
  have hz1 := h1.lt
  have hng : ∀ k, w1.heap.size ≤ k → ¬ (L 9 = true ∧ vs 9 = .pointer (some ⟨k, 0, none⟩)) ∧ k ≠ w.heap.size := fun k hk => ⟨fun hc => by obtain ⟨G, eG, hG, y0, y1⟩ := g9 hc.1; have h2 := ptr_inj (eG.symm.trans hc.2); cases e : L 10 with | false => (have := (y0 e).lt; omega) | true => (obtain ⟨D2, kb, -, -⟩ := y1 e; have := kb.lt; omega), by omega⟩
  have hz := h0.size
  have hr : RdB wc (fun k => w.heap.size ≤ k ∧ ¬ (L 9 = true ∧ vs 9 = .pointer (some ⟨k, 0, none⟩)) ∧ k ≠ w.heap.size) 3 (some Ac) 1 (gcs [⟨0, 1, 1⟩]) := RdB.mono hc (fun k hk => ⟨by have hk : w1.heap.size ≤ k := hk; omega, hng k hk⟩)
  exact ⟨_, rfl, HI.out _ _ _ ⟨below_grows h0 (Nat.le_refl _) hg, h1.grows hg, h2.grows hg, below_grows h3 (Nat.le_refl _) hg, (fun e => by obtain ⟨G, eG, hG, y0, y1⟩ := (g9 (upd_ne e (by decide))); exact ⟨G, eG, hG, fun e => (y0 (upd_ne e (by decide))).grows hg, (fun e => by obtain ⟨D9, kb9, hm9, hi9⟩ := (y1 (upd_ne e (by decide))); exact ⟨D9, kb9.grows hg, hm9, hi9.grows hg⟩)⟩), fun e => (c9 (upd_ne e (by decide))), (fun _ => ⟨Ac, rfl, hr⟩), (fun e => by obtain ⟨D5, f5, hm5, hi5⟩ := (d5 (upd_ne e (by decide))); exact ⟨D5, f5, hm5, hi5.grows hg⟩), (fun e => by obtain ⟨D6, f6, hm6, hi6⟩ := (d6 (upd_ne e (by decide))); exact ⟨D6, f6, hm6, hi6.grows hg⟩), (fun e => by obtain ⟨D7, f7, hm7, hi7⟩ := (d7 (upd_ne e (by decide))); exact ⟨D7, f7, hm7, hi7.grows hg⟩), kn_free q rfl⟩⟩
 refine gen_consR (fun vs L w1 hL hw1 => ?_) ?_
 ·obtain ⟨h0, h1, h2, h3, g9, c9, d4, d5, d6, d7, q⟩ := HO.out _ _ _ hw1
  have l0 : L 0 = true := hL.need 0 (by kernel_rfl)
  have e0 := q 0 _ rfl l0
  have l3 : L 3 = true := hL.need 3 (by kernel_rfl)
  have e3 := q 3 _ rfl l3
  have l4 : L 4 = true := hL.need 4 (by kernel_rfl)
  obtain ⟨Ac, e4, hr4⟩ := d4 l4
  have hng2 : ∀ k, k < n5 → k ≠ w.heap.size → ¬ (L 9 = true ∧ vs 9 = .pointer (some ⟨k, 0, none⟩)) ∧ k ≠ w.heap.size := fun k hk hne => ⟨fun hc => by obtain ⟨G, eG, hG, y0, y1⟩ := g9 hc.1; have h2 := ptr_inj (eG.symm.trans hc.2); omega, hne⟩
  have hz1 := h1.lt
  have hng : ∀ k, w1.heap.size ≤ k → ¬ (L 9 = true ∧ vs 9 = .pointer (some ⟨k, 0, none⟩)) ∧ k ≠ w.heap.size := fun k hk => ⟨fun hc => by obtain ⟨G, eG, hG, y0, y1⟩ := g9 hc.1; have h2 := ptr_inj (eG.symm.trans hc.2); cases e : L 10 with | false => (have := (y0 e).lt; omega) | true => (obtain ⟨D2, kb, -, -⟩ := y1 e; have := kb.lt; omega), by omega⟩
  refine gen_plain rfl ?_
  simp only [e0, e3, e4]
  go_simp
  refine gr_call ?_
  refine (hop (fun k => ¬ (L 9 = true ∧ vs 9 = .pointer (some ⟨k, 0, none⟩)) ∧ k ≠ w.heap.size) _ Ac hng2 hng (show Grows w2 w1 from h3) hr4).mono ?_
  rintro e wc ⟨⟨D2, rfl, hmv, hin⟩, hg⟩
  exact ⟨_, rfl, HI.out _ _ _ ⟨below_grows h0 (Nat.le_refl _) hg, h1.grows hg, h2.grows hg, below_grows h3 (Nat.le_refl _) hg, (fun e => by obtain ⟨G, eG, hG, y0, y1⟩ := (g9 (upd_ne e (by decide))); exact ⟨G, eG, hG, fun e => (y0 (upd_ne e (by decide))).grows hg, (fun e => by obtain ⟨D9, kb9, hm9, hi9⟩ := (y1 (upd_ne e (by decide))); exact ⟨D9, kb9.grows hg, hm9, hi9.grows hg⟩)⟩), fun e => (c9 (upd_ne e (by decide))), (fun e => by obtain ⟨A4, f4, hr4⟩ := (d4 (upd_ne e (by decide))); exact ⟨A4, f4, hr4.grows hg⟩), (fun _ => ⟨D2, rfl, hmv, hin⟩), (fun e => by obtain ⟨D6, f6, hm6, hi6⟩ := (d6 (upd_ne e (by decide))); exact ⟨D6, f6, hm6, hi6.grows hg⟩), (fun e => by obtain ⟨D7, f7, hm7, hi7⟩ := (d7 (upd_ne e (by decide))); exact ⟨D7, f7, hm7, hi7.grows hg⟩), kn_free q rfl⟩⟩
 refine gen_consR (fun vs L w1 hL hw1 => ?_) ?_
 ·obtain ⟨h0, h1, h2, h3, g9, c9, d4, d5, d6, d7, q⟩ := HO.out _ _ _ hw1
  have l5 : L 5 = true := hL.need 5 (by kernel_rfl)
  obtain ⟨D2, e5, hmv, hin⟩ := d5 l5
  refine gen_plain rfl ?_
  simp only [e5]
  go_simp
  exact gr_val (HI.out _ _ _ ⟨h0, h1, h2, h3, (fun e => by obtain ⟨G, eG, hG, y0, y1⟩ := (g9 (upd_ne e (by decide))); exact ⟨G, eG, hG, fun e => (y0 (upd_ne e (by decide))), (fun e => by obtain ⟨D9, kb9, hm9, hi9⟩ := (y1 (upd_ne e (by decide))); exact ⟨D9, kb9, hm9, hi9⟩)⟩), fun e => (c9 (upd_ne e (by decide))), (fun e => by obtain ⟨A4, f4, hr4⟩ := (d4 (upd_ne e (by decide))); exact ⟨A4, f4, hr4⟩), (fun e => by obtain ⟨D5, f5, hm5, hi5⟩ := (d5 (upd_ne e (by decide))); exact ⟨D5, f5, hm5, hi5⟩), (fun _ => ⟨D2, rfl, hmv, hin⟩), (fun e => by obtain ⟨D7, f7, hm7, hi7⟩ := (d7 (upd_ne e (by decide))); exact ⟨D7, f7, hm7, hi7⟩), kn_free q rfl⟩)
 refine gen_consR (fun vs L w1 hL hw1 => ?_) ?_
 ·obtain ⟨h0, h1, h2, h3, g9, c9, d4, d5, d6, d7, q⟩ := HO.out _ _ _ hw1
  have l6 : L 6 = true := hL.need 6 (by kernel_rfl)
  obtain ⟨D2, e6, hmv, hin⟩ := d6 l6
  refine gen_plain rfl ?_
  simp only [e6]
  go_simp
  exact gr_val (HI.out _ _ _ ⟨h0, h1, h2, h3, (fun e => by obtain ⟨G, eG, hG, y0, y1⟩ := (g9 (upd_ne e (by decide))); exact ⟨G, eG, hG, fun e => (y0 (upd_ne e (by decide))), (fun e => by obtain ⟨D9, kb9, hm9, hi9⟩ := (y1 (upd_ne e (by decide))); exact ⟨D9, kb9, hm9, hi9⟩)⟩), fun e => (c9 (upd_ne e (by decide))), (fun e => by obtain ⟨A4, f4, hr4⟩ := (d4 (upd_ne e (by decide))); exact ⟨A4, f4, hr4⟩), (fun e => by obtain ⟨D5, f5, hm5, hi5⟩ := (d5 (upd_ne e (by decide))); exact ⟨D5, f5, hm5, hi5⟩), (fun e => by obtain ⟨D6, f6, hm6, hi6⟩ := (d6 (upd_ne e (by decide))); exact ⟨D6, f6, hm6, hi6⟩), (fun _ => ⟨D2, rfl, hmv, hin⟩), kn_free q rfl⟩)
 refine gen_consR (fun vs L w1 hL hw1 => ?_) ?_
 ·obtain ⟨h0, h1, h2, h3, g9, c9, d4, d5, d6, d7, q⟩ := HO.out _ _ _ hw1
  have l6 : L 6 = true := hL.need 6 (by kernel_rfl)
  obtain ⟨D2, e6, hmv, hin⟩ := d6 l6
  refine gen_plain rfl ?_
  simp only [e6]
  go_simp
  exact gr_val (HI.out _ _ _ ⟨h0, h1, h2, h3, (fun e => by obtain ⟨G, eG, hG, y0, y1⟩ := (g9 (upd_ne e (by decide))); exact ⟨G, eG, hG, fun e => (y0 (upd_ne e (by decide))), (fun e => by obtain ⟨D9, kb9, hm9, hi9⟩ := (y1 (upd_ne e (by decide))); exact ⟨D9, kb9, hm9, hi9⟩)⟩), fun e => (c9 (upd_ne e (by decide))), (fun e => by obtain ⟨A4, f4, hr4⟩ := (d4 (upd_ne e (by decide))); exact ⟨A4, f4, hr4⟩), (fun e => by obtain ⟨D5, f5, hm5, hi5⟩ := (d5 (upd_ne e (by decide))); exact ⟨D5, f5, hm5, hi5⟩), (fun e => by obtain ⟨D6, f6, hm6, hi6⟩ := (d6 (upd_ne e (by decide))); exact ⟨D6, f6, hm6, hi6⟩), (fun e => by obtain ⟨D7, f7, hm7, hi7⟩ := (d7 (upd_ne e (by decide))); exact ⟨D7, f7, hm7, hi7⟩), kn_known q rfl⟩)
 refine gen_consR (fun vs L w1 hL hw1 => ?_) ?_
 ·obtain ⟨h0, h1, h2, h3, g9, c9, d4, d5, d6, d7, q⟩ := HO.out _ _ _ hw1
  refine gen_plain rfl ?_
  have hg : Grows w1 (w1.alloc (Obj.cells #[.int .u64 0, .string ⟨#[]⟩, .int .i64 0, .int .i64 0, .int .i64 0, .int .i64 0, .int .i64 0, .slice none 0 0, .int .i64 0, .int .i64 0, .slice none 0 0, .int .i64 0, .int .i64 0, .int .i64 0, .slice none 0 0, .bool false, .int .i64 0, .int .i64 0, .int .i64 0, .int .i64 0, .int .i64 0, .int .i64 0, .int .i64 0, .int .i64 0, .int .i64 0, .int .i64 0, .int .i64 0, .int .i64 0, .slice none 0 0, .int .i64 0, .int .i64 0] 51)) := (Below.refl w1.heap.size w1).alloc (Nat.le_refl _) _
  go_simp
  exact gr_val (HI.out _ _ _ ⟨below_grows h0 (Nat.le_refl _) hg, h1.grows hg, h2.grows hg, below_grows h3 (Nat.le_refl _) hg, fun _ => ⟨w1.heap.size, rfl, (by have zh2 := h2.lt; have zh1 := h1.lt; have zz := h0.size; omega), fun _ => Blk.new w1 51 #[.int .u64 0, .string ⟨#[]⟩, .int .i64 0, .int .i64 0, .int .i64 0, .int .i64 0, .int .i64 0, .slice none 0 0, .int .i64 0, .int .i64 0, .slice none 0 0, .int .i64 0, .int .i64 0, .int .i64 0, .slice none 0 0, .bool false, .int .i64 0, .int .i64 0, .int .i64 0, .int .i64 0, .int .i64 0, .int .i64 0, .int .i64 0, .int .i64 0, .int .i64 0, .int .i64 0, .int .i64 0, .int .i64 0, .slice none 0 0, .int .i64 0, .int .i64 0], (fun e => by have := (c9 (upd_ne e (by decide))); rw [hL.1] at this; cases this)⟩, fun _ => upd_eq, (fun e => by obtain ⟨A4, f4, hr4⟩ := (d4 (upd_ne e (by decide))); exact ⟨A4, f4, RdB.mono (RdB.grows (RdB.bd hr4) hg) (fun k hk => ⟨hk.1.1, fun hc => by have h3 : k < w1.heap.size := hk.2; have h2 := ptr_inj hc.2; omega, hk.1.2.2⟩)⟩), (fun e => by obtain ⟨D5, f5, hm5, hi5⟩ := (d5 (upd_ne e (by decide))); exact ⟨D5, f5, hm5, (hi5.bd.grows hg).mono (fun k hk => ⟨hk.1.1, fun hc => by have h3 : k < w1.heap.size := hk.2; have h2 := ptr_inj hc.2; omega, hk.1.2.2⟩)⟩), (fun e => by obtain ⟨D6, f6, hm6, hi6⟩ := (d6 (upd_ne e (by decide))); exact ⟨D6, f6, hm6, (hi6.bd.grows hg).mono (fun k hk => ⟨hk.1.1, fun hc => by have h3 : k < w1.heap.size := hk.2; have h2 := ptr_inj hc.2; omega, hk.1.2.2⟩)⟩), (fun e => by obtain ⟨D7, f7, hm7, hi7⟩ := (d7 (upd_ne e (by decide))); exact ⟨D7, f7, hm7, (hi7.bd.grows hg).mono (fun k hk => ⟨hk.1.1, fun hc => by have h3 : k < w1.heap.size := hk.2; have h2 := ptr_inj hc.2; omega, hk.1.2.2⟩)⟩), kn_free q rfl⟩)
 refine gen_consR (fun vs L w1 hL hw1 => ?_) ?_
 ·obtain ⟨h0, h1, h2, h3, g9, c9, d4, d5, d6, d7, q⟩ := HO.out _ _ _ hw1
  have l7 : L 7 = true := hL.need 7 (by kernel_rfl)
  have l9 : L 9 = true := hL.need 9 (by kernel_rfl)
  obtain ⟨D2, e7, hmv, hin⟩ := d7 l7
  obtain ⟨G, eG, hG, y0, y1⟩ := g9 (hL.need 9 (by kernel_rfl))
  refine gen_plain rfl ?_
  simp only [e7, eG]
  have kk := y0 hL.1
  refine gr_strow (cs := (dvA D2)) _ _ rfl rfl rfl kk (dinfo _) rfl (dv_one _) ?_
  have hnew : ∃ D2, Blk _ G 51 (dvA D2) ∧ MovDv (opD dir m) D2 ∧ InDv _ (fun k => (k ≠ G ∧ k ≠ w.heap.size) ∧ (base k ∨ w.heap.size ≤ k)) D2 := ⟨D2, kk.row, hmv, (hin.row (fun hb => hb.2.1 ⟨l9, eG⟩) (dvA D2)).mono (fun k hk => ⟨⟨fun e => hk.2.1 ⟨l9, by rw [eG, e]⟩, hk.2.2⟩, hk.1⟩)⟩
  exact HI.out _ _ _ ⟨below_row h0 (g := G) (by omega) _, h1.row_far (by omega), h2.row_far (by omega), below_row h3 (by omega) _, fun _ => ⟨G, eG, hG, (fun e => by rw [upd_eq] at e; cases e), fun _ => hnew⟩, fun _ => (show L 9 = true from hL.need 9 (by kernel_rfl)), (fun e => by obtain ⟨A4, f4, hr4⟩ := (d4 (upd_ne e (by decide))); exact ⟨A4, f4, RdB.row hr4 (fun hb => hb.2.1 ⟨l9, eG⟩) _⟩), (fun e => by obtain ⟨D5, f5, hm5, hi5⟩ := (d5 (upd_ne e (by decide))); exact ⟨D5, f5, hm5, hi5.row (fun hb => hb.2.1 ⟨l9, eG⟩) _⟩), (fun e => by obtain ⟨D6, f6, hm6, hi6⟩ := (d6 (upd_ne e (by decide))); exact ⟨D6, f6, hm6, hi6.row (fun hb => hb.2.1 ⟨l9, eG⟩) _⟩), (fun e => by obtain ⟨D7, f7, hm7, hi7⟩ := (d7 (upd_ne e (by decide))); exact ⟨D7, f7, hm7, hi7.row (fun hb => hb.2.1 ⟨l9, eG⟩) _⟩), kn_known q rfl⟩
 refine gen_consR (fun vs L w1 hL hw1 => ?_) ?_
 ·obtain ⟨h0, h1, h2, h3, g9, c9, d4, d5, d6, d7, q⟩ := HO.out _ _ _ hw1
  have l8 : L 8 = true := hL.need 8 (by kernel_rfl)
  have e8 := q 8 _ rfl l8
  refine gen_plain rfl ?_
  simp only [e8]
  go_simp
  exact gr_val (HI.out _ _ _ ⟨h0, h1, h2, h3, (fun e => by obtain ⟨G, eG, hG, y0, y1⟩ := (g9 (upd_ne e (by decide))); exact ⟨G, eG, hG, fun e => (y0 (upd_ne e (by decide))), (fun e => by obtain ⟨D9, kb9, hm9, hi9⟩ := (y1 (upd_ne e (by decide))); exact ⟨D9, kb9, hm9, hi9⟩)⟩), fun e => (c9 (upd_ne e (by decide))), (fun e => by obtain ⟨A4, f4, hr4⟩ := (d4 (upd_ne e (by decide))); exact ⟨A4, f4, hr4⟩), (fun e => by obtain ⟨D5, f5, hm5, hi5⟩ := (d5 (upd_ne e (by decide))); exact ⟨D5, f5, hm5, hi5⟩), (fun e => by obtain ⟨D6, f6, hm6, hi6⟩ := (d6 (upd_ne e (by decide))); exact ⟨D6, f6, hm6, hi6⟩), (fun e => by obtain ⟨D7, f7, hm7, hi7⟩ := (d7 (upd_ne e (by decide))); exact ⟨D7, f7, hm7, hi7⟩), kn_known q rfl⟩)
 refine gen_nil ?_
 intro vs L w4 hall hS
 obtain ⟨h0, h1, h2, h3, g9, c9, d4, d5, d6, d7, q⟩ := HO.out _ _ _ hS
 obtain ⟨G9, eG9, hG9, -, kG9⟩ := g9 (hall 9 (by simp))
 replace kG9 := kG9 (hall 10 (by simp))
 have e0 := q 0 _ rfl (hall 0 (by simp))
 have e1 := q 1 _ rfl (hall 1 (by simp))
 have e2 := q 2 _ rfl (hall 2 (by simp))
 have e3 := q 3 _ rfl (hall 3 (by simp))
 have e8 := q 8 _ rfl (hall 8 (by simp))
 have e11 := q 11 _ rfl (hall 11 (by simp))
 clear hall hS HI HO q g9 c9 d4 d5 d6 d7
 simp only [e0, e1, e2, e3, e8, e11, eG9]
 clear e0 e1 e2 e3 e8 e11
 obtain ⟨D9, k8, hm9, hi9⟩ := kG9
 clear h2 h3 hg2
 have hB := h0
 have k0 := h1
 clear h0 h1 hop
 have ok9 := hm9.ok ok
 have hr9 : D9.run = false := by obtain ⟨_, _, _, _, _, _, _, _, rfl⟩ := hm9; rfl
 have hll9 : D9.l.length ≤ 1000000 := by
  have := (op_maps m hm).2.2.2
  obtain ⟨_, _, _, _, _, _, _, _, rfl⟩ := hm9
  show (List.replicate (13 * m.length) (0 : Int)).length ≤ 1000000
  rw [List.length_replicate]; omega
 have hmm9 : ∀ b ∈ D9.b, 1 ≤ b.m.length := by
  intro b hb
  obtain ⟨_, _, _, _, _, _, _, _, rfl⟩ := hm9
  rw [show (opD dir m).b = [opB m] from rfl, List.mem_singleton] at hb
  subst hb
  exact Nat.le_refl _
 clear eG9
 go_upto_region 4 with fail
 refine wp_region_lit ?_
 refine wpList_load_row rfl _ rfl rfl k8 Tryz.underlying51 rfl (dinfo _) ?_
 refine wpList_plain rfl (fun K hK => ?_)
 go_simp
 refine (start_any D9 _ _ hi9 ok9 hr9 hmm9 hll9).mono ?_
 rintro e w5 ⟨⟨D3, rfl, hm3, hi3⟩, hq⟩
 refine hK _ _ ?_
 clear hK K
 have z8 := k8.lt
 have zB := hB.size
 have hmv : MovDv { opD dir m with run := true } { D3 with run := true, since := 0 } := by
  obtain ⟨_, _, _, _, _, _, _, _, rfl⟩ := hm9
  obtain ⟨_, _, _, _, _, _, _, _, rfl⟩ := hm3
  exact ⟨_, _, _, _, _, _, _, _, rfl⟩
 have hin : InDv w5 (fun k => (k ≠ G9 ∧ k ≠ w.heap.size) ∧ (base k ∨ w.heap.size ≤ k)) { D3 with run := true, since := 0 } := by
  have hi4 := hi3.mono (b2 := fun k => (k ≠ G9 ∧ k ≠ w.heap.size) ∧ (base k ∨ w.heap.size ≤ k)) (fun k hk => by
   rcases hk with hk | hk
   ·exact hk
   ·exact ⟨⟨by omega, by omega⟩, .inr (by omega)⟩)
  exact ⟨hi4.b, hi4.bc, hi4.m, hi4.ml, hi4.g, hi4.l⟩
 clear hi3 hm3 hi9 hm9 ok9 hr9 hll9 hmm9
 replace k0 := k0.grows hq
 replace k8 := k8.grows hq
 replace hB := below_grows hB (Nat.le_refl _) hq
 have hqs := hq.size
 clear hq
 generalize { D3 with run := true, since := 0 } = D4 at *
 iterate 3
  refine wpList_plain rfl (fun K hK => ?_)
  go_simp
  refine hK _ _ ?_
  clear hK K
 refine wpList_store_row rfl _ _ rfl rfl rfl rfl k8 (dinfo _) rfl (dv_one _) ?_
 replace k0 := k0.row_far (cs' := (dvA D4)) (show w.heap.size ≠ G9 by omega)
 replace hin := hin.row (g := G9) (fun hb => by have := hb.1; omega) ((dvA D4))
 replace k8 := k8.row (cs := (dvA D4))
 replace hB := below_row hB (show w.heap.size ≤ G9 by omega) ((dvA D4))
 generalize World.setRow w5 _ _ = w6 at *
 go_upto_region 5 with fail
 refine wp_region_lit ?_
 refine wpList_load_row rfl _ rfl rfl k8 Tryz.underlying51 rfl (dinfo _) ?_
 iterate 3
  refine wpList_plain rfl (fun K hK => ?_)
  go_simp
  refine hK _ _ ?_
  clear hK K
 iterate 2
  refine BigFrame.wpList_want (by first | rfl | kernel_rfl) (fun K hK => ?_)
  go_simp
  refine hK _ _ ?_
  clear hK K
 iterate 1
  refine wpList_plain rfl (fun K hK => ?_)
  go_simp
  refine hK _ _ ?_
  clear hK K
 refine wpList_store_row rfl _ _ rfl rfl rfl rfl k0 (dinfo _) rfl (dv_one _) ?_
 replace hin := hin.row (g := w.heap.size) (fun hb => by have := hb.1; omega) ((dvA D4))
 replace k0 := k0.row (cs := (dvA D4))
 replace hB := below_row hB (show w.heap.size ≤ w.heap.size by omega) ((dvA D4))
 generalize World.setRow w6 _ _ = wz at *
 go_wp2
 refine bodyPost_ret (v := .tuple #[.agg (dvA D4), .bool true]) ?_ rfl ⟨⟨D4, rfl, hmv, hin.mono (fun k hk => hk.2)⟩, hB⟩
 have hl1 := run_loadVar_row (P := Tryz.prog) wz w.heap.size 51 51 (dvA D4) (0, 0) _ k0 Tryz.underlying51 rfl (dinfo _)
 unfold results
 simp only [Tryz.results17]
 simp [asAddr, Act.put, hl1]
end Go.Proofs.YtbfdaojffffaaaaGreat

namespace Go.Proofs.YtbfdaojffffaaaaGreat
open Go.RowKit
/-- The bytes of a sample of some kind. -/
def szF (k : Nat) : Int := ([0, 1, 2, 2, 3, 3, 4, 4] : List Int).getD k 0
def bgF (k : Nat) : Bool := ([false, false, false, true, false, true, false, true] : List Bool).getD k false
theorem OwnI.apart {w w' : World} {base g : Nat} {t : TypeId} {cs : Array Value} {v : Value} {l : List Int} (h : OwnI w base v l) (hg : Blk w g t cs) (hne : 3 ≠ t) (hst : w.grownBy w' (some g)) : OwnI w' base v l := World.ownsRow.kept h hst (.inr (own_blk_ne h hg hne))
theorem OwnI.row {w : World} {base g : Nat} {t : TypeId} {old : Array Value} {v : Value} {l : List Int} (h : OwnI w base v l) (hg : Blk w g t old) (hne : 3 ≠ t) (cs : Array Value) : OwnI (w.setRow g cs) base v l := h.apart hg hne (grown_row w g cs)
theorem OwnI.drew {w : World} {base : Nat} {v : Value} {l : List Int} (h : OwnI w base v l) : OwnI w.drew base v l := h.grows (Grows.drew' w)
def formsL : List Value := [.int .i64 1, .int .i64 1, .bool false, .int .i64 2, .int .i64 2, .bool false, .int .i64 3, .int .i64 2, .bool true, .int .i64 4, .int .i64 3, .bool false, .int .i64 5, .int .i64 3, .bool true, .int .i64 6, .int .i64 4, .bool false, .int .i64 7, .int .i64 4, .bool true]
theorem forms_at (k : Nat) (hk : k < 7) : formsL[k * 3]? = some (.int .i64 ((k + 1 : Nat) : Int)) ∧ formsL[k * 3 + 1]? = some (.int .i64 (szF (k + 1))) ∧ formsL[k * 3 + 2]? = some (.bool (bgF (k + 1))) := by
 match k, hk with
 | 0, _ | 1, _ | 2, _ | 3, _ | 4, _ | 5, _ | 6, _ => exact ⟨rfl, rfl, rfl⟩
theorem cells3_of {w : World} {ad : Addr} {i : Nat} {v0 v1 v2 : Value} (h0 : w.cell? (ad.add (i * 3)) = some v0) (h1 : w.cell? (ad.add (i * 3 + 1)) = some v1) (h2 : w.cell? (ad.add (i * 3 + 2)) = some v2) :
 w.cell? (ad.add (i * 3)) = some v0 ∧ w.cell? { block := (ad.add (i * 3)).block, off := (ad.add (i * 3)).off + 1 } = some v1 ∧ w.cell? { block := (ad.add (i * 3)).block, off := (ad.add (i * 3)).off + 2 } = some v2 := by
 have ej : ∀ j, j ≠ 0 → ad.add (i * 3 + j) = { block := (ad.add (i * 3)).block, off := (ad.add (i * 3)).off + j } := fun j hj0 => by
  rw [← add_of_add]
  generalize ad.add (i * 3) = p
  unfold Addr.add
  rw [if_neg hj0]
 exact ⟨h0, by rw [← ej 1 (by omega)]; exact h1, by rw [← ej 2 (by omega)]; exact h2⟩
set_option maxRecDepth 100000 in
set_option maxHeartbeats 20000000 in
theorem sfind_any (kd : Nat) (h1 : 1 ≤ kd) (h2 : kd ≤ 7) (w : World) : Calls Tryz.prog 237 #[.int .i64 (kd : Int)] w fun e w' => e = .returned (.agg #[.int .i64 (szF kd), .bool (bgF kd)]) ∧ Grows w w' := by
 go_enter Tryz.func237, Tryz.ntmps237
 have hB := (Below.refl w.heap.size w).alloc (Nat.le_refl _) (Obj.cells #[.int .i64 0, .bool false] 292)
 have k2 := Blk.new w 292 #[.int .i64 0, .bool false]
 go_upto_region 2 with fail
 have k3 := blk_new_at (X := w.alloc (Obj.cells #[.int .i64 0, .bool false] 292)) (n := w.heap.size + 1) (t := 319) (cs := #[.int .i64 1, .int .i64 1, .bool false, .int .i64 2, .int .i64 2, .bool false, .int .i64 3, .int .i64 2, .bool true, .int .i64 4, .int .i64 3, .bool false, .int .i64 5, .int .i64 3, .bool true, .int .i64 6, .int .i64 4, .bool false, .int .i64 7, .int .i64 4, .bool true]) (by simp)
 replace k2 := k2.alloc (Obj.cells #[.int .i64 1, .int .i64 1, .bool false, .int .i64 2, .int .i64 2, .bool false, .int .i64 3, .int .i64 2, .bool true, .int .i64 4, .int .i64 3, .bool false, .int .i64 5, .int .i64 3, .bool true, .int .i64 6, .int .i64 4, .bool false, .int .i64 7, .int .i64 4, .bool true] 319)
 replace hB := hB.alloc (by simp) (Obj.cells #[.int .i64 1, .int .i64 1, .bool false, .int .i64 2, .int .i64 2, .bool false, .int .i64 3, .int .i64 2, .bool true, .int .i64 4, .int .i64 3, .bool false, .int .i64 5, .int .i64 3, .bool true, .int .i64 6, .int .i64 4, .bool false, .int .i64 7, .int .i64 4, .bool true] 319)
 generalize hn3 : w.heap.size + 1 = n3 at *
 generalize World.alloc (World.alloc w _) _ = w1 at *
 have hrd : ∀ j u, formsL[j]? = some u → w1.cell? ((⟨n3, 0, none⟩ : Addr).add j) = some u := fun j u hu => by
  rw [add_head, k3.cell, ← Array.getElem?_toList]
  exact hu
 have hlt3 := k3.lt
 clear k3
 obtain ⟨ad, hade⟩ : ∃ ad, (⟨n3, 0, none⟩ : Addr) = ad := ⟨_, rfl⟩
 have hadb : ad.block = n3 := by rw [← hade]
 rw [hade] at hrd ⊢
 clear hade
 have hn2 := k2.lt
 generalize hS : w1.heap.size = s1 at *
 go_wp2_with fail
 go_loopw [23] (fun i wr => ∃ k : Nat, k + 1 ≤ kd ∧ i = .int .i64 k ∧ Below w.heap.size w wr ∧ Below s1 w1 wr) (fun i _ => 7 - (intOf i).toNat)
 case atStart => exact ⟨0, by omega, rfl, hB, hS ▸ Below.refl w1.heap.size w1⟩
 case round =>
  clear hB
  obtain ⟨k, hk, rfl, hB, hW⟩ := hrel
  have hz := hB.size
  have hzW := hW.size
  obtain ⟨f0, f1, f2⟩ := forms_at k (by omega)
  have hcl : ∀ j u, formsL[j]? = some u → wr.cell? (ad.add j) = some u := fun j u hu => below_cell hW (by rw [show (ad.add j).block = ad.block by unfold Addr.add; split <;> rfl]; omega) (hrd j u hu)
  obtain ⟨q1, q2, q3⟩ := cells3_of (hcl _ _ f0) (hcl _ _ f1) (hcl _ _ f2)
  replace k2 : Blk wr _ _ _ := k2.below hW (by omega)
  have d7 : decide ((k : Int) < 7) = true := by simp only [decide_eq_true_iff]; omega
  have d7' : decide (k < 7) = true := by simp only [decide_eq_true_iff]; omega
  have b0 : (0 : Int) ≤ (k : Int) := by omega
  have b1 : (k : Int) < 7 := by omega
  clear f0 f1 f2 hcl
  go_upto_region 5 with fail
  have k5 := Blk.new wr 319 #[.int .i64 ((k : Int) + 1), .int .i64 (szF (k + 1)), .bool (bgF (k + 1))]
  replace k2 := k2.alloc (Obj.cells #[.int .i64 ((k : Int) + 1), .int .i64 (szF (k + 1)), .bool (bgF (k + 1))] 319)
  replace hB := hB.alloc hz (Obj.cells #[.int .i64 ((k : Int) + 1), .int .i64 (szF (k + 1)), .bool (bgF (k + 1))] 319)
  replace hW := hW.alloc (by omega) (Obj.cells #[.int .i64 ((k : Int) + 1), .int .i64 (szF (k + 1)), .bool (bgF (k + 1))] 319)
  generalize hn5 : wr.heap.size = n5 at *
  generalize World.alloc wr _ = w2 at *
  clear q1 q2 q3
  have y0 := (show _ = some ((.int .i64 ((k : Int) + 1)) : Value) from k5.cell 0)
  have y1 := (show _ = some ((.int .i64 (szF (k + 1))) : Value) from k5.cell 1)
  have y2 := (show _ = some ((.bool (bgF (k + 1))) : Value) from k5.cell 2)
  by_cases he : k + 1 = kd
  ·have dq : ((k : Int) + 1 == (kd : Int)) = true := by simp; omega
   have z0 := k2.cell
   have z1 := k2.frozen
   subst he
   go_wp2
   have xr := ((k2.set_ 0 (.int .i64 (szF (k + 1)))).set_ 1 (.bool (bgF (k + 1)))).cell
   refine bodyPost_ret (v := .agg #[.int .i64 (szF (k + 1)), .bool (bgF (k + 1))]) ?_ rfl ⟨rfl, (hB.setCell (p := ⟨w.heap.size, 0, none⟩) (Nat.le_refl _) _).setCell (p := ⟨w.heap.size, 1, none⟩) (Nat.le_refl _) _⟩
   simp [results, Tryz.results237, go_sem, xr]
  ·have dq : ((k : Int) + 1 == (kd : Int)) = false := by simp; omega
   have wk : IntKind.i64.wrap ((k : Int) + 1) = (k : Int) + 1 := IntWalk.i64_in _ (by omega)
   go_wp2
   go_roundw
   case rel => exact ⟨k + 1, by omega, by go_num, hB, hW⟩
   case measure => simp [intOf] <;> omega
set_option maxRecDepth 100000 in
set_option maxHeartbeats 20000000 in
theorem ssize_any (kd : Nat) (h1 : 1 ≤ kd) (h2 : kd ≤ 7) (w : World) : Calls Tryz.prog 155 #[.int .i64 (kd : Int)] w fun e w' => e = .returned (.int .i64 (szF kd)) ∧ Grows w w' := by
 have ef : ∀ (a : Int) (b : Bool) (w : World), (Instr.field 292 (.agg #[.int .i64 a, .bool b]) 0).run Tryz.prog w = .ok (.int .i64 a) w := fun _ _ _ => by kernel_rfl
 go_enter Tryz.func155, Tryz.ntmps155
 go_wp2_with fail
 refine (sfind_any kd h1 h2 _).mono ?_
 rintro e w1 ⟨rfl, hq⟩
 go_wp2
 go_ret
 exact ⟨rfl, hq⟩
theorem szF_pos (kd : Nat) (h1 : 1 ≤ kd) (h2 : kd ≤ 7) : 1 ≤ szF kd ∧ szF kd ≤ 4 := by
 match kd, h1, h2 with
 | 1, _, _ | 2, _, _ | 3, _, _ | 4, _, _ | 5, _, _ | 6, _, _ | 7, _, _ => exact ⟨by decide, by decide⟩
set_option maxRecDepth 100000 in
set_option maxHeartbeats 20000000 in
theorem fits33_any (kd : Nat) (h1 : 1 ≤ kd) (h2 : kd ≤ 7) (r : Int) (hr1 : 1000 ≤ r) (hr2 : r ≤ 768000) (A : Option Addr) (c : Nat) (m : List Int) (w : World) (h : Ints w A m) (hv : validM m = true) (hl : m.length ≤ 1000000) (hc : m.length ≤ c) : Calls Tryz.prog 81 #[.agg #[.int .i64 (kd : Int), .int .i64 r, .slice A m.length c]] w fun e w' => e = .returned (.bool true) ∧ Grows w w' := by
 have hm := fun w1 (hg : Grows w w1) => pvalidm_any A c m w1 (h.grows hg) hl hc
 rw [hv] at hm
 obtain ⟨hz1, hz2⟩ := szF_pos kd h1 h2
 have dz : decide (0 < szF kd) = true := by simp only [decide_eq_true_iff]; omega
 have dr1 : decide (1000 ≤ r) = true := by simp only [decide_eq_true_iff]; omega
 have dr2 : decide (r ≤ 768000) = true := by simp only [decide_eq_true_iff]; omega
 clear hv hz1 hz2 hr1 hr2
 go_enter Tryz.func81, Tryz.ntmps81
 have hB := (Below.refl w.heap.size w).alloc (Nat.le_refl _) (Obj.cells #[.int .i64 (kd : Int), .int .i64 r, .slice A m.length c] 33)
 have k1 := Blk.new w 33 #[.int .i64 (kd : Int), .int .i64 r, .slice A m.length c]
 go_upto_region 1 with fail
 generalize hw1 : World.alloc w _ = w1 at *
 clear hw1
 have y0 := (show _ = some ((.int .i64 (kd : Int)) : Value) from k1.cell 0)
 go_wp2_with fail
 refine (ssize_any kd h1 h2 _).mono ?_
 rintro e w2 ⟨rfl, hq⟩
 clear y0
 replace k1 := k1.grows hq
 replace hB := below_grows hB (Nat.le_refl _) hq
 clear hq
 have y1 := (show _ = some ((.int .i64 r) : Value) from k1.cell 1)
 have y2 := (show _ = some ((.slice A m.length c) : Value) from k1.cell 2)
 go_wp2_with fail
 refine (hm _ hB).mono ?_
 rintro e w3 ⟨rfl, hq⟩
 replace hB := below_grows hB (Nat.le_refl _) hq
 go_wp2
 go_ret
 exact ⟨rfl, hB⟩
set_option maxRecDepth 100000 in
set_option maxHeartbeats 20000000 in
theorem cown_any (k r : Int) (A : Option Addr) (c : Nat) (m : List Int) (w : World) (h : Ints w A m) (hl : m.length ≤ 1000000) : Calls Tryz.prog 82 #[.agg #[.int .i64 k, .int .i64 r, .slice A m.length c]] w fun e w' => (∃ B d, e = .returned (.agg #[.int .i64 k, .int .i64 r, .slice B m.length d]) ∧ m.length ≤ d ∧ OwnI w' w.heap.size (.slice B m.length d) m) ∧ Grows w w' := by
 go_enter Tryz.func82, Tryz.ntmps82
 have hB := ((Below.refl w.heap.size w).alloc (Nat.le_refl _) (Obj.cells #[.int .i64 k, .int .i64 r, .slice A m.length c] 33)).alloc (by simp) (Obj.cells #[.int .i64 0, .int .i64 0, .slice none 0 0] 33)
 have k1 := (Blk.new w 33 #[.int .i64 k, .int .i64 r, .slice A m.length c]).alloc (Obj.cells #[.int .i64 0, .int .i64 0, .slice none 0 0] 33)
 have k2 := blk_new_at (X := w.alloc (Obj.cells #[.int .i64 k, .int .i64 r, .slice A m.length c] 33)) (n := w.heap.size + 1) (t := 33) (cs := #[.int .i64 0, .int .i64 0, .slice none 0 0]) (by simp)
 go_upto_region 1 with fail
 generalize hn2 : w.heap.size + 1 = n2 at *
 generalize World.alloc (World.alloc w _) _ = w1 at *
 have y2 := (show _ = some ((.slice A m.length c) : Value) from k1.cell 2)
 go_wp2_with fail
 refine (iclone_any A c m _ (h.grows hB) hl).mono ?_
 rintro e w2 ⟨⟨v, rfl, hown⟩, hq⟩
 have e1 := k1.lt
 have e2 := k2.lt
 obtain ⟨B, d, rfl, hd, -⟩ := hown.read
 replace hown := hown.mono (base' := w.heap.size) hB.size
 clear y2
 replace k1 := k1.grows hq
 replace k2 := k2.grows hq
 replace hB := below_grows hB (Nat.le_refl _) hq
 clear hq
 have f2 := k1.frozen 2
 have x2 := k1.cell 2
 go_upto_region 2 with fail
 clear f2 x2
 have hst := d_only_set (World.grownBy.refl w2 (some w.heap.size)) 2 (.slice B m.length d)
 replace hown : OwnI _ _ _ _ := hown.apart k1 (by decide) hst
 replace k1 : Blk _ w.heap.size 33 #[.int .i64 k, .int .i64 r, .slice B m.length d] := k1.set_ 2 (.slice B m.length d)
 replace k2 := k2.far (p := ⟨w.heap.size, 2, none⟩) (by simp only; omega) (.slice B m.length d)
 replace hB := hB.setCell (p := ⟨w.heap.size, 2, none⟩) (Nat.le_refl _) (.slice B m.length d)
 generalize World.setCell w2 _ _ = w3 at *
 refine wp_region_lit ?_
 refine wpList_load_row rfl _ rfl rfl k1 Tryz.underlying33 rfl (by kernel_rfl) ?_
 refine wpList_store_row rfl _ _ rfl rfl rfl rfl k2 (by kernel_rfl) rfl (by simp [Value.oneCell']) ?_
 replace hown := hown.row k2 (by decide) #[.int .i64 k, .int .i64 r, .slice B m.length d]
 replace k2 := k2.row (cs := #[.int .i64 k, .int .i64 r, .slice B m.length d])
 replace hB := below_row hB (show w.heap.size ≤ n2 by omega) #[.int .i64 k, .int .i64 r, .slice B m.length d]
 generalize World.setRow w3 _ _ = wz at *
 go_wp2
 refine bodyPost_ret (v := .agg #[.int .i64 k, .int .i64 r, .slice B m.length d]) ?_ rfl ⟨⟨B, d, rfl, hd, hown⟩, hB⟩
 have xr := k2.cell
 simp [results, Tryz.results82, go_sem, xr]
end Go.Proofs.YtbfdaojffffaaaaGreat

namespace Go.Proofs.YtbfdaojffffaaaaGreat
open Go.RowKit
/-- A coefficient is put. -/
def setM (inn : Nat) (C : List Int) (r c : Nat) (v : Int) : List Int := C.set (r * inn + c) v
def putF (tt : List Int) (inn c : Nat) : List Int → List Int → List Int
 | C, [] => C
 | C, q :: r => putF tt inn c (setM inn C (idxZ tt q).toNat c 23170) r
def heirF (tt : List Int) (inn c : Nat) (C : List Int) : List (List Int) → List Int
 | [] => C
 | l :: r => if (commonL l tt).length < l.length then heirF tt inn c C r else putF tt inn c C l
def heirsL (p : Int) : List (List Int) :=
 if p = 3 then [[1, 2]] else if p = 1 then [[3]] else if p = 2 then [[3]] else if p = 5 then [[7], [1], [3]] else if p = 6 then [[8], [2], [3]] else if p = 7 then [[5], [1], [3]] else if p = 8 then [[6], [2], [3]] else []
def colM (tt : List Int) (inn : Nat) (C : List Int) (c : Nat) (p : Int) : List Int := if 0 ≤ idxZ tt p then setM inn C (idxZ tt p).toNat c 32768 else heirF tt inn c C (heirsL p)
def matK (fr tt : List Int) : Nat → List Int
 | 0 => List.replicate (fr.length * tt.length) 0
 | k + 1 => colM tt fr.length (matK fr tt k) k (fr.getD k 0)
/-- The coefficients from one map to another one. -/
def matF (fr tt : List Int) : List Int := matK fr tt fr.length
theorem setM_len (inn : Nat) (C : List Int) (r c : Nat) (v : Int) : (setM inn C r c v).length = C.length := List.length_set
theorem putF_len (tt : List Int) (inn c : Nat) : ∀ (C l : List Int), (putF tt inn c C l).length = C.length
 | C, [] => rfl
 | C, q :: r => by rw [putF, putF_len, setM_len]
theorem heirF_len (tt : List Int) (inn c : Nat) (C : List Int) : ∀ (L : List (List Int)), (heirF tt inn c C L).length = C.length
 | [] => rfl
 | l :: r => by
  unfold heirF
  split
  ·exact heirF_len tt inn c C r
  ·exact putF_len tt inn c C l
theorem colM_len (tt : List Int) (inn : Nat) (C : List Int) (c : Nat) (p : Int) : (colM tt inn C c p).length = C.length := by
 unfold colM
 split
 ·exact setM_len ..
 ·exact heirF_len ..
theorem matK_len (fr tt : List Int) : ∀ k, (matK fr tt k).length = fr.length * tt.length
 | 0 => List.length_replicate
 | k + 1 => by rw [matK, colM_len, matK_len]
/-- Coefficients in block g. -/
def MtG (w : World) (g : Nat) (C : List Int) : Prop := Blk w g 3 (C.map (Value.int .i64)).toArray
theorem MtG.grows {w w' : World} {g : Nat} {C : List Int} (h : MtG w g C) (hg : Grows w w') : MtG w' g C := Blk.grows h hg
theorem MtG.lt {w : World} {g : Nat} {C : List Int} (h : MtG w g C) : g < w.heap.size := Blk.lt h
theorem MtG.put {w : World} {g : Nat} {C : List Int} (h : MtG w g C) (inn r c : Nat) (v : Int) : MtG (w.setCell ⟨g, r * inn + c, none⟩ (.int .i64 v)) g (setM inn C r c v) := by
 have := Blk.set_ h (r * inn + c) (.int .i64 v)
 unfold MtG setM
 rw [List.map_set, List.setIfInBounds_toArray] at *
 exact this
theorem MtG.has {w : World} {g : Nat} {C : List Int} (h : MtG w g C) {k : Nat} (hk : k < C.length) : (∃ x, w.cell? ⟨g, k, none⟩ = some (.int .i64 x)) ∧ w.frozen? ⟨g, k, none⟩ = false := by
 refine ⟨⟨C[k], ?_⟩, Blk.frozen h k⟩
 rw [Blk.cell h k]
 simp [hk]
theorem MtG.ints {w : World} {g : Nat} {C : List Int} (h : MtG w g C) {Q : Nat → Prop} (hQ : Q g) : InB w Q (some ⟨g, 0, none⟩) C := by
 have := rdb_blk (n := C.length) (size := 1) h (by simp) hQ
 unfold InB
 simpa using this
/-- The rows of a matrix. -/
def rowsV (g inn out : Nat) : List Value := (List.range out).map fun i => .slice (some ⟨g, i * inn, none⟩) inn inn
theorem rowsV_at (g inn out i : Nat) (h : i < out) : (rowsV g inn out)[i]? = some (.slice (some ⟨g, i * inn, none⟩) inn inn) := by simp [rowsV, h]
set_option maxRecDepth 100000 in
set_option maxHeartbeats 20000000 in
theorem mempty_any (inn out : Nat) (h1 : 1 ≤ inn) (h2 : inn ≤ 8) (h3 : 1 ≤ out) (h4 : out ≤ 8) (w : World) : Calls Tryz.prog 157 #[.int .i64 (inn : Int), .int .i64 (out : Int)] w fun e w' => (∃ g, e = .returned (.agg #[.int .i64 (inn : Int), .int .i64 (out : Int), .slice (some ⟨g, 0, none⟩) (inn * out) (inn * out)]) ∧ w.heap.size ≤ g ∧ MtG w' g (List.replicate (inn * out) 0)) ∧ Grows w w' := by
 have hle : inn * out ≤ 8 * 8 := Nat.mul_le_mul h2 h4
 have hm : IntKind.i64.wrap ((inn : Int) * (out : Int)) = ((inn * out : Nat) : Int) := by
  rw [← Int.natCast_mul]
  exact IntWalk.i64_in _ (by omega)
 generalize inn * out = n at *
 go_enter Tryz.func157, Tryz.ntmps157
 have hB := (Below.refl w.heap.size w).alloc (Nat.le_refl _) (Obj.cells #[.int .i64 0, .int .i64 0, .slice none 0 0] 93)
 have k4 := Blk.new w 93 #[.int .i64 0, .int .i64 0, .slice none 0 0]
 go_upto_region 1 with fail
 generalize hw1 : World.alloc w _ = w1 at *
 clear hw1
 refine wp_region_lit ?_
 iterate 5
  refine wpList_plain rfl (fun K hK => ?_)
  go_simp
  refine hK _ _ ?_
  clear hK K
 obtain ⟨i0, hi0, hi1, hi2, hi3, hi4⟩ := iinfo
 obtain ⟨w2, hrun, r1, hgr⟩ := run_make_full (P := Tryz.prog) w1 w1.heap.size 31 3 i0 _ 1 Tryz.underlying31 hi0 hi3 hi1 .i64 .i64 n (by rw [hi2]; omega) (by simp only [maxLen]; omega) (Nat.le_refl _)
 refine wpList_make_run rfl (.tmp 9) (.tmp 9) 31 rfl rfl rfl hrun ?_
 have hlt := k4.lt
 replace k4 := k4.grown hgr (by simp)
 replace hB := hB.grown hgr hB.size (fun g e => by cases e)
 have hMt : MtG w2 w1.heap.size (List.replicate n 0) := by
  have e : (Value.int .i64 0).cells = #[Value.int .i64 0] := rfl
  rw [e, toList_madeCells_one, Nat.mul_one] at r1
  rcases r1.2 with ⟨e1, -⟩ | ⟨g, cap, cur, e1, -, hh, hn, hx, hs, ht⟩
  ·simp at e1
  ·simp only [Value.slice.injEq, Option.some.injEq, Addr.mk.injEq] at e1
   obtain ⟨⟨rfl, -, -⟩, -, rfl⟩ := e1
   have : cur = ((List.replicate n (0 : Int)).map (Value.int .i64)).toArray := by
    rw [List.map_replicate, ← ht, Nat.mul_one]
    rw [List.take_of_length_le (by simp; omega)]
   unfold MtG
   rw [← this]
   exact hh
 clear hgr hrun r1
 have x4 := k4.cell
 have f4 := k4.frozen
 go_wp2
 have hB2 := ((hB.setCell (p := ⟨w.heap.size, 0, none⟩) (Nat.le_refl _) (.int .i64 (inn : Int))).setCell (p := ⟨w.heap.size, 1, none⟩) (Nat.le_refl _) (.int .i64 (out : Int))).setCell (p := ⟨w.heap.size, 2, none⟩) (Nat.le_refl _) (.slice (some ⟨w1.heap.size, 0, none⟩) n n)
 have hM2 := ((Blk.far hMt (p := ⟨w.heap.size, 0, none⟩) (by simp only; omega) (.int .i64 (inn : Int))).far (p := ⟨w.heap.size, 1, none⟩) (by simp only; omega) (.int .i64 (out : Int))).far (p := ⟨w.heap.size, 2, none⟩) (by simp only; omega) (.slice (some ⟨w1.heap.size, 0, none⟩) n n)
 refine bodyPost_ret (v := .agg #[.int .i64 (inn : Int), .int .i64 (out : Int), .slice (some ⟨w1.heap.size, 0, none⟩) n n]) ?_ rfl ⟨⟨w1.heap.size, rfl, by omega, hM2⟩, hB2⟩
 simp [results, Tryz.results157, go_sem, x4]
set_option maxRecDepth 100000 in
set_option maxHeartbeats 20000000 in
theorem minfo : ∃ i : TypeInfo, Tryz.prog.info? 31 = some i ∧ i.size = 1 ∧ i.bytes = 24 ∧ i.zero = some (.slice none 0 0) ∧ (Value.slice none 0 0).cells.size = 1 := ⟨_, by first | exact Tryz.info31 | rfl, rfl, rfl, rfl, rfl⟩
/-- The rows of a matrix, k of them made. -/
def rowsK (g inn out k : Nat) : List Value := (rowsV g inn out).take k ++ List.replicate (out - k) (.slice none 0 0)
theorem rowsK_set (g inn out k : Nat) (h : k < out) : (rowsK g inn out k).set k (.slice (some ⟨g, k * inn, none⟩) inn inn) = rowsK g inn out (k + 1) := by
 have hl : (rowsV g inn out).length = out := by simp [rowsV]
 apply List.ext_getElem?
 intro j
 unfold rowsK
 rw [List.getElem?_set]
 by_cases e : k = j
 ·subst e
  rw [if_pos rfl, if_pos (by simp [hl]; omega), List.getElem?_append_left (by simp [hl]; omega), List.getElem?_take_of_lt (by omega), rowsV_at g inn out k h]
 ·rw [if_neg e]
  by_cases hj : j < k
  ·rw [List.getElem?_append_left (by simp [hl]; omega), List.getElem?_append_left (by simp [hl]; omega), List.getElem?_take_of_lt hj, List.getElem?_take_of_lt (by omega)]
  ·rw [List.getElem?_append_right (by simp [hl]; omega), List.getElem?_append_right (by simp [hl]; omega)]
   simp only [List.length_take, hl, List.getElem?_replicate]
   rw [show min k out = k by omega, show min (k + 1) out = k + 1 by omega]
   by_cases hj2 : j < out
   ·rw [if_pos (by omega), if_pos (by omega)]
   ·rw [if_neg (by omega), if_neg (by omega)]
set_option maxRecDepth 100000 in
set_option maxHeartbeats 20000000 in
theorem mrows_any (g inn out n : Nat) (h1 : 1 ≤ inn) (h2 : inn ≤ 8) (h3 : 1 ≤ out) (h4 : out ≤ 8) (hn : n = inn * out) (w : World) : Calls Tryz.prog 158 #[.agg #[.int .i64 (inn : Int), .int .i64 (out : Int), .slice (some ⟨g, 0, none⟩) n n]] w fun e w' => (∃ t, e = .returned (.slice (some ⟨t, 0, none⟩) out out) ∧ w.heap.size ≤ t ∧ Blk w' t 31 (rowsV g inn out).toArray) ∧ Grows w w' := by
 have hle : n ≤ 8 * 8 := by rw [hn]; exact Nat.mul_le_mul h2 h4
 have HN := Lib.hid hn
 clear hn
 go_enter Tryz.func158, Tryz.ntmps158
 have hB := (Below.refl w.heap.size w).alloc (Nat.le_refl _) (Obj.cells #[.int .i64 (inn : Int), .int .i64 (out : Int), .slice (some ⟨g, 0, none⟩) n n] 93)
 have k1 := Blk.new w 93 #[.int .i64 (inn : Int), .int .i64 (out : Int), .slice (some ⟨g, 0, none⟩) n n]
 go_upto_region 1 with fail
 generalize hw1 : World.alloc w _ = w1 at *
 clear hw1
 have y1 := (show _ = some ((.int .i64 (out : Int)) : Value) from k1.cell 1)
 refine wp_region_lit ?_
 iterate 2
  refine wpList_plain rfl (fun K hK => ?_)
  go_simp
  refine hK _ _ ?_
  clear hK K
 obtain ⟨i0, hi0, hi1, hi2, hi3, hi4⟩ := minfo
 obtain ⟨w2, hrun, r1, hgr⟩ := run_make_full (P := Tryz.prog) w1 w1.heap.size 126 31 i0 _ 1 Tryz.underlying126 hi0 hi3 hi1 .i64 .i64 out (by rw [hi2]; omega) (by simp only [maxLen]; omega) (Nat.le_refl _)
 refine wpList_make_run rfl (.tmp 6) (.tmp 6) 126 rfl rfl rfl hrun ?_
 have hlt := k1.lt
 replace k1 := k1.grown hgr (by simp)
 replace hB := hB.grown hgr hB.size (fun g e => by cases e)
 have hMt : Blk w2 w1.heap.size 31 (rowsK g inn out 0).toArray := by
  have e : (Value.slice none 0 0).cells = #[Value.slice none 0 0] := rfl
  rw [e, toList_madeCells_one, Nat.mul_one] at r1
  rcases r1.2 with ⟨e1, -⟩ | ⟨g', cap, cur, e1, -, hh, hn', hx, hs, ht⟩
  ·simp at e1
  ·simp only [Value.slice.injEq, Option.some.injEq, Addr.mk.injEq] at e1
   obtain ⟨⟨rfl, -, -⟩, -, rfl⟩ := e1
   have : cur = (rowsK g inn out 0).toArray := by
    rw [Nat.mul_one, List.take_of_length_le (by simp; omega)] at ht
    unfold rowsK
    rw [List.take_zero, List.nil_append, Nat.sub_zero, ← ht]
   rw [← this]
   exact hh
 generalize hn3 : w1.heap.size = n3 at *
 clear hgr hrun r1 y1
 go_wp2_with fail
 go_loopw [10] (fun i wr => ∃ k : Nat, k ≤ out ∧ i = .int .i64 k ∧ Below w.heap.size w wr ∧ Blk wr w.heap.size 93 #[.int .i64 (inn : Int), .int .i64 (out : Int), .slice (some ⟨g, 0, none⟩) n n] ∧ Blk wr n3 31 (rowsK g inn out k).toArray) (fun i _ => out - (intOf i).toNat)
 case atStart => exact ⟨0, by omega, rfl, hB, k1, hMt⟩
 case round =>
  clear hB k1 hMt
  obtain ⟨k, hk, rfl, hB, k1, k3⟩ := hrel
  by_cases hlt2 : k < out
  ·have d0 : decide ((k : Int) < (out : Int)) = true := by simp only [decide_eq_true_iff]; omega
   have d0' : decide (k < out) = true := by simp only [decide_eq_true_iff]; omega
   have y0 := (show _ = some ((.int .i64 (inn : Int)) : Value) from k1.cell 0)
   have y2 := (show _ = some ((.slice (some ⟨g, 0, none⟩) n n) : Value) from k1.cell 2)
   have m1 : (k + 1) * inn ≤ out * inn := Nat.mul_le_mul_right _ (by omega)
   rw [Nat.add_mul, Nat.one_mul, Nat.mul_comm out inn, ← HN.out] at m1
   have wm : IntKind.i64.wrap ((k : Int) * (inn : Int)) = ((k * inn : Nat) : Int) := by rw [← Int.natCast_mul]; exact IntWalk.i64_in _ (by omega)
   have wm2 : IntKind.i64.wrap (((k : Int) + 1) * (inn : Int)) = ((k * inn + inn : Nat) : Int) := by
    rw [Int.add_mul, Int.one_mul, ← Int.natCast_mul, ← Int.natCast_add]; exact IntWalk.i64_in _ (by omega)
   have wk : IntKind.i64.wrap ((k : Int) + 1) = (k : Int) + 1 := IntWalk.i64_in _ (by omega)
   have hset := Lib.hid (rowsK_set g inn out k hlt2)
   obtain ⟨t, ht⟩ : ∃ t, k * inn = t := ⟨_, rfl⟩
   rw [ht] at wm wm2 m1 hset
   clear ht
   have b0 : (0 : Int) ≤ (k : Int) := by omega
   have b1 : (k : Int) < (out : Int) := by omega
   have xk : ∃ v, wr.cell? ⟨n3, k, none⟩ = some v := by
    have hl : (rowsK g inn out k).length = out := by simp [rowsK, rowsV]; omega
    exact ⟨_, by rw [k3.cell, List.getElem?_toArray]; exact List.getElem?_eq_getElem (by omega)⟩
   have fk := k3.frozen k
   obtain ⟨v0, xk⟩ := xk
   go_upto_region 5 with fail
   go_upto_region 6 with fail
   clear xk fk y0 y2
   replace k3 : Blk (wr.setCell ⟨n3, k, none⟩ (.slice (some ⟨g, t, none⟩) inn inn)) n3 31 (rowsK g inn out (k + 1)).toArray := by
    have hz := k3.set_ k (.slice (some ⟨g, t, none⟩) inn inn)
    rw [List.setIfInBounds_toArray, hset.out] at hz
    exact hz
   replace k1 := k1.far (p := ⟨n3, k, none⟩) (by simp only; omega) (.slice (some ⟨g, t, none⟩) inn inn)
   replace hB := hB.setCell (p := ⟨n3, k, none⟩) (by simp only; omega) (.slice (some ⟨g, t, none⟩) inn inn)
   generalize World.setCell wr _ _ = w4 at *
   clear wm wm2 hset
   go_wp2
   go_roundw
   case rel => exact ⟨k + 1, by omega, by go_num, hB, k1, k3⟩
   case measure => simp [intOf] <;> omega
  ·have d0 : decide ((k : Int) < (out : Int)) = false := by simp only [decide_eq_false_iff_not]; omega
   have d0' : decide (k < out) = false := by simp only [decide_eq_false_iff_not]; omega
   obtain rfl : k = out := by omega
   have hz := hB.size
   have hfin : rowsK g inn k k = rowsV g inn k := by
    unfold rowsK
    rw [Nat.sub_self, List.replicate_zero, List.append_nil, List.take_of_length_le (by simp [rowsV])]
   rw [hfin] at k3
   go_wp2
   go_ret
   exact ⟨⟨n3, rfl, by omega, k3⟩, hB⟩
set_option maxRecDepth 100000 in
set_option maxHeartbeats 20000000 in
theorem mheirs_any (p : Int) (hp : 1 ≤ p ∧ p ≤ 8) (w : World) : Calls Tryz.prog 160 #[.int .i64 p] w fun e w' => (∃ A, e = .returned (.slice A (heirsL p).length (heirsL p).length) ∧ MapsR w' (fun k => w.heap.size ≤ k) A (heirsL p)) ∧ Grows w w' := by
 rcases (show p = 3 ∨ p = 1 ∨ p = 2 ∨ p = 5 ∨ p = 6 ∨ p = 7 ∨ p = 8 ∨ p = 4 by omega) with rfl | rfl | rfl | rfl | rfl | rfl | rfl | rfl
 ·go_enter Tryz.func160, Tryz.ntmps160
  go_wp2
  go_ret
  have k0 := (Blk.new w 3 #[.int .i64 1, .int .i64 2]).alloc (Obj.cells #[.slice (some ⟨w.heap.size, 0, none⟩) 2 2] 31)
  have k1 := blk_new_at (X := (w.alloc (Obj.cells #[.int .i64 1, .int .i64 2] 3))) (n := w.heap.size + 1) (t := 31) (cs := #[.slice (some ⟨w.heap.size, 0, none⟩) 2 2]) (by simp)
  have hB := ((Below.refl w.heap.size w).alloc (Nat.le_refl _) (Obj.cells #[.int .i64 1, .int .i64 2] 3)).alloc (by simp <;> omega) (Obj.cells #[.slice (some ⟨w.heap.size, 0, none⟩) 2 2] 31)
  have i0 : InB _ (fun k => w.heap.size ≤ k) (some ⟨w.heap.size, 0, none⟩) [1, 2] := rdb_blk (cs := #[.int .i64 1, .int .i64 2]) k0 rfl (by omega)
  refine ⟨⟨some ⟨w.heap.size + 1, 0, none⟩, rfl, #[.slice (some ⟨w.heap.size, 0, none⟩) 2 2].toList, rdb_blk (n := 1) k1 rfl (by omega), fun i x hx => ?_⟩, hB⟩
  have hi : i < 1 := (List.getElem?_eq_some_iff.1 hx).1
  rw [show heirsL 3 = [[1, 2]] from rfl] at hx
  match i, hi with
  | 0, _ => simp only [List.getElem?_cons_zero, List.getElem?_cons_succ, Option.some.injEq] at hx; subst hx; exact ⟨_, _, rfl, by decide, i0⟩
 ·go_enter Tryz.func160, Tryz.ntmps160
  go_wp2
  go_ret
  have k0 := (Blk.new w 3 #[.int .i64 3]).alloc (Obj.cells #[.slice (some ⟨w.heap.size, 0, none⟩) 1 1] 31)
  have k1 := blk_new_at (X := (w.alloc (Obj.cells #[.int .i64 3] 3))) (n := w.heap.size + 1) (t := 31) (cs := #[.slice (some ⟨w.heap.size, 0, none⟩) 1 1]) (by simp)
  have hB := ((Below.refl w.heap.size w).alloc (Nat.le_refl _) (Obj.cells #[.int .i64 3] 3)).alloc (by simp <;> omega) (Obj.cells #[.slice (some ⟨w.heap.size, 0, none⟩) 1 1] 31)
  have i0 : InB _ (fun k => w.heap.size ≤ k) (some ⟨w.heap.size, 0, none⟩) [3] := rdb_blk (cs := #[.int .i64 3]) k0 rfl (by omega)
  refine ⟨⟨some ⟨w.heap.size + 1, 0, none⟩, rfl, #[.slice (some ⟨w.heap.size, 0, none⟩) 1 1].toList, rdb_blk (n := 1) k1 rfl (by omega), fun i x hx => ?_⟩, hB⟩
  have hi : i < 1 := (List.getElem?_eq_some_iff.1 hx).1
  rw [show heirsL 1 = [[3]] from rfl] at hx
  match i, hi with
  | 0, _ => simp only [List.getElem?_cons_zero, List.getElem?_cons_succ, Option.some.injEq] at hx; subst hx; exact ⟨_, _, rfl, by decide, i0⟩
 ·go_enter Tryz.func160, Tryz.ntmps160
  go_wp2
  go_ret
  have k0 := (Blk.new w 3 #[.int .i64 3]).alloc (Obj.cells #[.slice (some ⟨w.heap.size, 0, none⟩) 1 1] 31)
  have k1 := blk_new_at (X := (w.alloc (Obj.cells #[.int .i64 3] 3))) (n := w.heap.size + 1) (t := 31) (cs := #[.slice (some ⟨w.heap.size, 0, none⟩) 1 1]) (by simp)
  have hB := ((Below.refl w.heap.size w).alloc (Nat.le_refl _) (Obj.cells #[.int .i64 3] 3)).alloc (by simp <;> omega) (Obj.cells #[.slice (some ⟨w.heap.size, 0, none⟩) 1 1] 31)
  have i0 : InB _ (fun k => w.heap.size ≤ k) (some ⟨w.heap.size, 0, none⟩) [3] := rdb_blk (cs := #[.int .i64 3]) k0 rfl (by omega)
  refine ⟨⟨some ⟨w.heap.size + 1, 0, none⟩, rfl, #[.slice (some ⟨w.heap.size, 0, none⟩) 1 1].toList, rdb_blk (n := 1) k1 rfl (by omega), fun i x hx => ?_⟩, hB⟩
  have hi : i < 1 := (List.getElem?_eq_some_iff.1 hx).1
  rw [show heirsL 2 = [[3]] from rfl] at hx
  match i, hi with
  | 0, _ => simp only [List.getElem?_cons_zero, List.getElem?_cons_succ, Option.some.injEq] at hx; subst hx; exact ⟨_, _, rfl, by decide, i0⟩
 ·go_enter Tryz.func160, Tryz.ntmps160
  go_wp2
  go_ret
  have k0 := (((Blk.new w 3 #[.int .i64 7]).alloc (Obj.cells #[.int .i64 1] 3)).alloc (Obj.cells #[.int .i64 3] 3)).alloc (Obj.cells #[.slice (some ⟨w.heap.size, 0, none⟩) 1 1, .slice (some ⟨w.heap.size + 1, 0, none⟩) 1 1, .slice (some ⟨w.heap.size + 1 + 1, 0, none⟩) 1 1] 31)
  have k1 := ((blk_new_at (X := (w.alloc (Obj.cells #[.int .i64 7] 3))) (n := w.heap.size + 1) (t := 3) (cs := #[.int .i64 1]) (by simp)).alloc (Obj.cells #[.int .i64 3] 3)).alloc (Obj.cells #[.slice (some ⟨w.heap.size, 0, none⟩) 1 1, .slice (some ⟨w.heap.size + 1, 0, none⟩) 1 1, .slice (some ⟨w.heap.size + 1 + 1, 0, none⟩) 1 1] 31)
  have k2 := (blk_new_at (X := ((w.alloc (Obj.cells #[.int .i64 7] 3)).alloc (Obj.cells #[.int .i64 1] 3))) (n := w.heap.size + 1 + 1) (t := 3) (cs := #[.int .i64 3]) (by simp)).alloc (Obj.cells #[.slice (some ⟨w.heap.size, 0, none⟩) 1 1, .slice (some ⟨w.heap.size + 1, 0, none⟩) 1 1, .slice (some ⟨w.heap.size + 1 + 1, 0, none⟩) 1 1] 31)
  have k3 := blk_new_at (X := (((w.alloc (Obj.cells #[.int .i64 7] 3)).alloc (Obj.cells #[.int .i64 1] 3)).alloc (Obj.cells #[.int .i64 3] 3))) (n := w.heap.size + 1 + 1 + 1) (t := 31) (cs := #[.slice (some ⟨w.heap.size, 0, none⟩) 1 1, .slice (some ⟨w.heap.size + 1, 0, none⟩) 1 1, .slice (some ⟨w.heap.size + 1 + 1, 0, none⟩) 1 1]) (by simp)
  have hB := ((((Below.refl w.heap.size w).alloc (Nat.le_refl _) (Obj.cells #[.int .i64 7] 3)).alloc (by simp <;> omega) (Obj.cells #[.int .i64 1] 3)).alloc (by simp <;> omega) (Obj.cells #[.int .i64 3] 3)).alloc (by simp <;> omega) (Obj.cells #[.slice (some ⟨w.heap.size, 0, none⟩) 1 1, .slice (some ⟨w.heap.size + 1, 0, none⟩) 1 1, .slice (some ⟨w.heap.size + 1 + 1, 0, none⟩) 1 1] 31)
  have i0 : InB _ (fun k => w.heap.size ≤ k) (some ⟨w.heap.size, 0, none⟩) [7] := rdb_blk (cs := #[.int .i64 7]) k0 rfl (by omega)
  have i1 : InB _ (fun k => w.heap.size ≤ k) (some ⟨w.heap.size + 1, 0, none⟩) [1] := rdb_blk (cs := #[.int .i64 1]) k1 rfl (by omega)
  have i2 : InB _ (fun k => w.heap.size ≤ k) (some ⟨w.heap.size + 1 + 1, 0, none⟩) [3] := rdb_blk (cs := #[.int .i64 3]) k2 rfl (by omega)
  refine ⟨⟨some ⟨w.heap.size + 1 + 1 + 1, 0, none⟩, rfl, #[.slice (some ⟨w.heap.size, 0, none⟩) 1 1, .slice (some ⟨w.heap.size + 1, 0, none⟩) 1 1, .slice (some ⟨w.heap.size + 1 + 1, 0, none⟩) 1 1].toList, rdb_blk (n := 3) k3 rfl (by omega), fun i x hx => ?_⟩, hB⟩
  have hi : i < 3 := (List.getElem?_eq_some_iff.1 hx).1
  rw [show heirsL 5 = [[7], [1], [3]] from rfl] at hx
  match i, hi with
  | 0, _ => simp only [List.getElem?_cons_zero, List.getElem?_cons_succ, Option.some.injEq] at hx; subst hx; exact ⟨_, _, rfl, by decide, i0⟩
  | 1, _ => simp only [List.getElem?_cons_zero, List.getElem?_cons_succ, Option.some.injEq] at hx; subst hx; exact ⟨_, _, rfl, by decide, i1⟩
  | 2, _ => simp only [List.getElem?_cons_zero, List.getElem?_cons_succ, Option.some.injEq] at hx; subst hx; exact ⟨_, _, rfl, by decide, i2⟩
 ·go_enter Tryz.func160, Tryz.ntmps160
  go_wp2
  go_ret
  have k0 := (((Blk.new w 3 #[.int .i64 8]).alloc (Obj.cells #[.int .i64 2] 3)).alloc (Obj.cells #[.int .i64 3] 3)).alloc (Obj.cells #[.slice (some ⟨w.heap.size, 0, none⟩) 1 1, .slice (some ⟨w.heap.size + 1, 0, none⟩) 1 1, .slice (some ⟨w.heap.size + 1 + 1, 0, none⟩) 1 1] 31)
  have k1 := ((blk_new_at (X := (w.alloc (Obj.cells #[.int .i64 8] 3))) (n := w.heap.size + 1) (t := 3) (cs := #[.int .i64 2]) (by simp)).alloc (Obj.cells #[.int .i64 3] 3)).alloc (Obj.cells #[.slice (some ⟨w.heap.size, 0, none⟩) 1 1, .slice (some ⟨w.heap.size + 1, 0, none⟩) 1 1, .slice (some ⟨w.heap.size + 1 + 1, 0, none⟩) 1 1] 31)
  have k2 := (blk_new_at (X := ((w.alloc (Obj.cells #[.int .i64 8] 3)).alloc (Obj.cells #[.int .i64 2] 3))) (n := w.heap.size + 1 + 1) (t := 3) (cs := #[.int .i64 3]) (by simp)).alloc (Obj.cells #[.slice (some ⟨w.heap.size, 0, none⟩) 1 1, .slice (some ⟨w.heap.size + 1, 0, none⟩) 1 1, .slice (some ⟨w.heap.size + 1 + 1, 0, none⟩) 1 1] 31)
  have k3 := blk_new_at (X := (((w.alloc (Obj.cells #[.int .i64 8] 3)).alloc (Obj.cells #[.int .i64 2] 3)).alloc (Obj.cells #[.int .i64 3] 3))) (n := w.heap.size + 1 + 1 + 1) (t := 31) (cs := #[.slice (some ⟨w.heap.size, 0, none⟩) 1 1, .slice (some ⟨w.heap.size + 1, 0, none⟩) 1 1, .slice (some ⟨w.heap.size + 1 + 1, 0, none⟩) 1 1]) (by simp)
  have hB := ((((Below.refl w.heap.size w).alloc (Nat.le_refl _) (Obj.cells #[.int .i64 8] 3)).alloc (by simp <;> omega) (Obj.cells #[.int .i64 2] 3)).alloc (by simp <;> omega) (Obj.cells #[.int .i64 3] 3)).alloc (by simp <;> omega) (Obj.cells #[.slice (some ⟨w.heap.size, 0, none⟩) 1 1, .slice (some ⟨w.heap.size + 1, 0, none⟩) 1 1, .slice (some ⟨w.heap.size + 1 + 1, 0, none⟩) 1 1] 31)
  have i0 : InB _ (fun k => w.heap.size ≤ k) (some ⟨w.heap.size, 0, none⟩) [8] := rdb_blk (cs := #[.int .i64 8]) k0 rfl (by omega)
  have i1 : InB _ (fun k => w.heap.size ≤ k) (some ⟨w.heap.size + 1, 0, none⟩) [2] := rdb_blk (cs := #[.int .i64 2]) k1 rfl (by omega)
  have i2 : InB _ (fun k => w.heap.size ≤ k) (some ⟨w.heap.size + 1 + 1, 0, none⟩) [3] := rdb_blk (cs := #[.int .i64 3]) k2 rfl (by omega)
  refine ⟨⟨some ⟨w.heap.size + 1 + 1 + 1, 0, none⟩, rfl, #[.slice (some ⟨w.heap.size, 0, none⟩) 1 1, .slice (some ⟨w.heap.size + 1, 0, none⟩) 1 1, .slice (some ⟨w.heap.size + 1 + 1, 0, none⟩) 1 1].toList, rdb_blk (n := 3) k3 rfl (by omega), fun i x hx => ?_⟩, hB⟩
  have hi : i < 3 := (List.getElem?_eq_some_iff.1 hx).1
  rw [show heirsL 6 = [[8], [2], [3]] from rfl] at hx
  match i, hi with
  | 0, _ => simp only [List.getElem?_cons_zero, List.getElem?_cons_succ, Option.some.injEq] at hx; subst hx; exact ⟨_, _, rfl, by decide, i0⟩
  | 1, _ => simp only [List.getElem?_cons_zero, List.getElem?_cons_succ, Option.some.injEq] at hx; subst hx; exact ⟨_, _, rfl, by decide, i1⟩
  | 2, _ => simp only [List.getElem?_cons_zero, List.getElem?_cons_succ, Option.some.injEq] at hx; subst hx; exact ⟨_, _, rfl, by decide, i2⟩
 ·go_enter Tryz.func160, Tryz.ntmps160
  go_wp2
  go_ret
  have k0 := (((Blk.new w 3 #[.int .i64 5]).alloc (Obj.cells #[.int .i64 1] 3)).alloc (Obj.cells #[.int .i64 3] 3)).alloc (Obj.cells #[.slice (some ⟨w.heap.size, 0, none⟩) 1 1, .slice (some ⟨w.heap.size + 1, 0, none⟩) 1 1, .slice (some ⟨w.heap.size + 1 + 1, 0, none⟩) 1 1] 31)
  have k1 := ((blk_new_at (X := (w.alloc (Obj.cells #[.int .i64 5] 3))) (n := w.heap.size + 1) (t := 3) (cs := #[.int .i64 1]) (by simp)).alloc (Obj.cells #[.int .i64 3] 3)).alloc (Obj.cells #[.slice (some ⟨w.heap.size, 0, none⟩) 1 1, .slice (some ⟨w.heap.size + 1, 0, none⟩) 1 1, .slice (some ⟨w.heap.size + 1 + 1, 0, none⟩) 1 1] 31)
  have k2 := (blk_new_at (X := ((w.alloc (Obj.cells #[.int .i64 5] 3)).alloc (Obj.cells #[.int .i64 1] 3))) (n := w.heap.size + 1 + 1) (t := 3) (cs := #[.int .i64 3]) (by simp)).alloc (Obj.cells #[.slice (some ⟨w.heap.size, 0, none⟩) 1 1, .slice (some ⟨w.heap.size + 1, 0, none⟩) 1 1, .slice (some ⟨w.heap.size + 1 + 1, 0, none⟩) 1 1] 31)
  have k3 := blk_new_at (X := (((w.alloc (Obj.cells #[.int .i64 5] 3)).alloc (Obj.cells #[.int .i64 1] 3)).alloc (Obj.cells #[.int .i64 3] 3))) (n := w.heap.size + 1 + 1 + 1) (t := 31) (cs := #[.slice (some ⟨w.heap.size, 0, none⟩) 1 1, .slice (some ⟨w.heap.size + 1, 0, none⟩) 1 1, .slice (some ⟨w.heap.size + 1 + 1, 0, none⟩) 1 1]) (by simp)
  have hB := ((((Below.refl w.heap.size w).alloc (Nat.le_refl _) (Obj.cells #[.int .i64 5] 3)).alloc (by simp <;> omega) (Obj.cells #[.int .i64 1] 3)).alloc (by simp <;> omega) (Obj.cells #[.int .i64 3] 3)).alloc (by simp <;> omega) (Obj.cells #[.slice (some ⟨w.heap.size, 0, none⟩) 1 1, .slice (some ⟨w.heap.size + 1, 0, none⟩) 1 1, .slice (some ⟨w.heap.size + 1 + 1, 0, none⟩) 1 1] 31)
  have i0 : InB _ (fun k => w.heap.size ≤ k) (some ⟨w.heap.size, 0, none⟩) [5] := rdb_blk (cs := #[.int .i64 5]) k0 rfl (by omega)
  have i1 : InB _ (fun k => w.heap.size ≤ k) (some ⟨w.heap.size + 1, 0, none⟩) [1] := rdb_blk (cs := #[.int .i64 1]) k1 rfl (by omega)
  have i2 : InB _ (fun k => w.heap.size ≤ k) (some ⟨w.heap.size + 1 + 1, 0, none⟩) [3] := rdb_blk (cs := #[.int .i64 3]) k2 rfl (by omega)
  refine ⟨⟨some ⟨w.heap.size + 1 + 1 + 1, 0, none⟩, rfl, #[.slice (some ⟨w.heap.size, 0, none⟩) 1 1, .slice (some ⟨w.heap.size + 1, 0, none⟩) 1 1, .slice (some ⟨w.heap.size + 1 + 1, 0, none⟩) 1 1].toList, rdb_blk (n := 3) k3 rfl (by omega), fun i x hx => ?_⟩, hB⟩
  have hi : i < 3 := (List.getElem?_eq_some_iff.1 hx).1
  rw [show heirsL 7 = [[5], [1], [3]] from rfl] at hx
  match i, hi with
  | 0, _ => simp only [List.getElem?_cons_zero, List.getElem?_cons_succ, Option.some.injEq] at hx; subst hx; exact ⟨_, _, rfl, by decide, i0⟩
  | 1, _ => simp only [List.getElem?_cons_zero, List.getElem?_cons_succ, Option.some.injEq] at hx; subst hx; exact ⟨_, _, rfl, by decide, i1⟩
  | 2, _ => simp only [List.getElem?_cons_zero, List.getElem?_cons_succ, Option.some.injEq] at hx; subst hx; exact ⟨_, _, rfl, by decide, i2⟩
 ·go_enter Tryz.func160, Tryz.ntmps160
  go_wp2
  go_ret
  have k0 := (((Blk.new w 3 #[.int .i64 6]).alloc (Obj.cells #[.int .i64 2] 3)).alloc (Obj.cells #[.int .i64 3] 3)).alloc (Obj.cells #[.slice (some ⟨w.heap.size, 0, none⟩) 1 1, .slice (some ⟨w.heap.size + 1, 0, none⟩) 1 1, .slice (some ⟨w.heap.size + 1 + 1, 0, none⟩) 1 1] 31)
  have k1 := ((blk_new_at (X := (w.alloc (Obj.cells #[.int .i64 6] 3))) (n := w.heap.size + 1) (t := 3) (cs := #[.int .i64 2]) (by simp)).alloc (Obj.cells #[.int .i64 3] 3)).alloc (Obj.cells #[.slice (some ⟨w.heap.size, 0, none⟩) 1 1, .slice (some ⟨w.heap.size + 1, 0, none⟩) 1 1, .slice (some ⟨w.heap.size + 1 + 1, 0, none⟩) 1 1] 31)
  have k2 := (blk_new_at (X := ((w.alloc (Obj.cells #[.int .i64 6] 3)).alloc (Obj.cells #[.int .i64 2] 3))) (n := w.heap.size + 1 + 1) (t := 3) (cs := #[.int .i64 3]) (by simp)).alloc (Obj.cells #[.slice (some ⟨w.heap.size, 0, none⟩) 1 1, .slice (some ⟨w.heap.size + 1, 0, none⟩) 1 1, .slice (some ⟨w.heap.size + 1 + 1, 0, none⟩) 1 1] 31)
  have k3 := blk_new_at (X := (((w.alloc (Obj.cells #[.int .i64 6] 3)).alloc (Obj.cells #[.int .i64 2] 3)).alloc (Obj.cells #[.int .i64 3] 3))) (n := w.heap.size + 1 + 1 + 1) (t := 31) (cs := #[.slice (some ⟨w.heap.size, 0, none⟩) 1 1, .slice (some ⟨w.heap.size + 1, 0, none⟩) 1 1, .slice (some ⟨w.heap.size + 1 + 1, 0, none⟩) 1 1]) (by simp)
  have hB := ((((Below.refl w.heap.size w).alloc (Nat.le_refl _) (Obj.cells #[.int .i64 6] 3)).alloc (by simp <;> omega) (Obj.cells #[.int .i64 2] 3)).alloc (by simp <;> omega) (Obj.cells #[.int .i64 3] 3)).alloc (by simp <;> omega) (Obj.cells #[.slice (some ⟨w.heap.size, 0, none⟩) 1 1, .slice (some ⟨w.heap.size + 1, 0, none⟩) 1 1, .slice (some ⟨w.heap.size + 1 + 1, 0, none⟩) 1 1] 31)
  have i0 : InB _ (fun k => w.heap.size ≤ k) (some ⟨w.heap.size, 0, none⟩) [6] := rdb_blk (cs := #[.int .i64 6]) k0 rfl (by omega)
  have i1 : InB _ (fun k => w.heap.size ≤ k) (some ⟨w.heap.size + 1, 0, none⟩) [2] := rdb_blk (cs := #[.int .i64 2]) k1 rfl (by omega)
  have i2 : InB _ (fun k => w.heap.size ≤ k) (some ⟨w.heap.size + 1 + 1, 0, none⟩) [3] := rdb_blk (cs := #[.int .i64 3]) k2 rfl (by omega)
  refine ⟨⟨some ⟨w.heap.size + 1 + 1 + 1, 0, none⟩, rfl, #[.slice (some ⟨w.heap.size, 0, none⟩) 1 1, .slice (some ⟨w.heap.size + 1, 0, none⟩) 1 1, .slice (some ⟨w.heap.size + 1 + 1, 0, none⟩) 1 1].toList, rdb_blk (n := 3) k3 rfl (by omega), fun i x hx => ?_⟩, hB⟩
  have hi : i < 3 := (List.getElem?_eq_some_iff.1 hx).1
  rw [show heirsL 8 = [[6], [2], [3]] from rfl] at hx
  match i, hi with
  | 0, _ => simp only [List.getElem?_cons_zero, List.getElem?_cons_succ, Option.some.injEq] at hx; subst hx; exact ⟨_, _, rfl, by decide, i0⟩
  | 1, _ => simp only [List.getElem?_cons_zero, List.getElem?_cons_succ, Option.some.injEq] at hx; subst hx; exact ⟨_, _, rfl, by decide, i1⟩
  | 2, _ => simp only [List.getElem?_cons_zero, List.getElem?_cons_succ, Option.some.injEq] at hx; subst hx; exact ⟨_, _, rfl, by decide, i2⟩
 ·go_enter Tryz.func160, Tryz.ntmps160
  go_wp2
  go_ret
  exact ⟨⟨none, rfl, MapsR.nil⟩, Below.refl _ _⟩
end Go.Proofs.YtbfdaojffffaaaaGreat

namespace Go.Proofs.YtbfdaojffffaaaaGreat
open Go.RowKit
theorem validM_in {m : List Int} (h : validM m = true) : ∀ p ∈ m, 1 ≤ p ∧ p ≤ 8 := by
 intro p hp
 simp only [validM, uniqOk, Bool.and_eq_true, List.all_eq_true] at h
 have := h.2.1 p hp
 simpa [okP] using this
theorem idx_lt {m : List Int} {p : Int} (h : 0 ≤ idxZ m p) : ∃ r : Nat, idxZ m p = (r : Int) ∧ r < m.length := by
 unfold idxZ at *
 split at h
 ·rename_i k e
  obtain ⟨hk, -, -⟩ := List.findIdx?_eq_some_iff_getElem.1 e
  exact ⟨k, rfl, hk⟩
 ·omega
theorem idx_in {m : List Int} {p : Int} (h : p ∈ m) : 0 ≤ idxZ m p := by
 have := idxZ_has m p
 rw [decide_eq_true h] at this
 simpa using this
theorem common_all {a b : List Int} (h : ¬ (commonL a b).length < a.length) : ∀ x ∈ a, x ∈ b := by
 intro x hx
 have h1 : (commonL a b).length = a.length := Nat.le_antisymm (List.length_filter_le _ _) (by omega)
 have h2 := (List.length_filter_eq_length_iff.1 h1) x hx
 simpa using h2
set_option maxRecDepth 100000 in
set_option maxHeartbeats 20000000 in
theorem cindex_any (A : Option Addr) (c : Nat) (m : List Int) (p : Int) (w : World) (h : Ints w A m) (hl : m.length ≤ 9223372036854775807) : Calls Tryz.prog 159 #[.slice A m.length c, .int .i64 p] w fun e w' => e = .returned (.int .i64 (idxZ m p)) ∧ Grows w w' := by
 go_enter Tryz.func159, Tryz.ntmps159
 go_wp2_with fail
 refine (index_any A c m p _ h hl).mono ?_
 rintro e w1 ⟨rfl, hq⟩
 go_wp2
 go_ret
 exact ⟨rfl, hq⟩
theorem putF_snoc (tt : List Int) (inn c : Nat) (x : Int) : ∀ (l C : List Int), putF tt inn c C (l ++ [x]) = setM inn (putF tt inn c C l) (idxZ tt x).toNat c 23170
 | [], C => rfl
 | q :: r, C => by rw [List.cons_append, putF, putF, putF_snoc tt inn c x r]
theorem heirF_less {tt : List Int} {inn c : Nat} {C : List Int} {L : List (List Int)} {j : Nat} {l : List Int} (hl : L[j]? = some l) (h : (commonL l tt).length < l.length) : heirF tt inn c C (L.drop j) = heirF tt inn c C (L.drop (j + 1)) := by
 obtain ⟨hj, e⟩ := List.getElem?_eq_some_iff.1 hl
 rw [List.drop_eq_getElem_cons hj, e, heirF, if_pos h]
theorem heirF_here {tt : List Int} {inn c : Nat} {C : List Int} {L : List (List Int)} {j : Nat} {l : List Int} (hl : L[j]? = some l) (h : ¬ (commonL l tt).length < l.length) : heirF tt inn c C (L.drop j) = putF tt inn c C l := by
 obtain ⟨hj, e⟩ := List.getElem?_eq_some_iff.1 hl
 rw [List.drop_eq_getElem_cons hj, e, heirF, if_neg h]
set_option maxRecDepth 100000 in
set_option maxHeartbeats 60000000 in
theorem mdefault_any (FA TA : Option Addr) (fc tc : Nat) (fr tt : List Int) (w : World) (hf : Ints w FA fr) (ht : Ints w TA tt) (vf : validM fr = true) (vt : validM tt = true) (hfc : fr.length ≤ fc) (htc : tt.length ≤ tc) : Calls Tryz.prog 83 #[.slice FA fr.length fc, .slice TA tt.length tc] w fun e w' => (∃ g, e = .returned (.tuple #[.agg #[.int .i64 (fr.length : Int), .int .i64 (tt.length : Int), .slice (some ⟨g, 0, none⟩) (fr.length * tt.length) (fr.length * tt.length)], .int .i64 0]) ∧ w.heap.size ≤ g ∧ MtG w' g (matF fr tt)) ∧ Grows w w' := by
 obtain ⟨f1, f2⟩ : 1 ≤ fr.length ∧ fr.length ≤ 8 := by simp only [validM, Bool.and_eq_true, decide_eq_true_eq] at vf; exact vf.1
 obtain ⟨t1, t2⟩ : 1 ≤ tt.length ∧ tt.length ≤ 8 := by simp only [validM, Bool.and_eq_true, decide_eq_true_eq] at vt; exact vt.1
 have hvf := fun w1 (hg : Grows w w1) => pvalidm_any FA fc fr w1 (hf.grows hg) (by omega) hfc
 have hvt := fun w1 (hg : Grows w w1) => pvalidm_any TA tc tt w1 (ht.grows hg) (by omega) htc
 rw [vf] at hvf
 rw [vt] at hvt
 have HP := Lib.hid (validM_in vf)
 have hix := fun p w1 (hg : Grows w w1) => cindex_any TA tc tt p w1 (ht.grows hg) (by omega)
 clear vf vt hfc htc
 go_enter Tryz.func83, Tryz.ntmps83
 have hB := (Below.refl w.heap.size w).alloc (Nat.le_refl _) (Obj.cells #[.int .i64 0, .int .i64 0, .slice none 0 0] 93)
 have k4 := Blk.new w 93 #[.int .i64 0, .int .i64 0, .slice none 0 0]
 go_upto_region 1 with fail
 generalize hw1 : World.alloc w _ = w1 at *
 clear hw1
 refine wp_region_lit ?_
 refine wpList_plain rfl (fun K hK => ?_)
 go_simp
 refine hK _ _ ?_
 clear hK K
 refine wpList_plain rfl (fun K hK => ?_)
 go_simp
 refine (hvf _ hB).mono ?_
 rintro e w2 ⟨rfl, hq⟩
 refine hK _ _ ?_
 clear hK K
 replace k4 := k4.grows hq
 replace hB := below_grows hB (Nat.le_refl _) hq
 have hqs := hq.size
 clear hq
 refine wpList_plain rfl (fun K hK => ?_)
 go_simp
 refine hK _ _ ?_
 clear hK K
 refine wpList_plain rfl (fun K hK => ?_)
 go_simp
 refine hK _ _ ?_
 clear hK K
 refine BigFrame.wpList_want (by first | rfl | kernel_rfl) (fun K hK => ?_)
 go_simp
 refine hK _ _ ?_
 clear hK K
 refine BigFrame.wpList_want (by first | rfl | kernel_rfl) (fun K hK => ?_)
 go_simp
 refine (hvt _ hB).mono ?_
 rintro e w3 ⟨rfl, hq⟩
 refine hK _ _ ?_
 clear hK K
 replace k4 := k4.grows hq
 replace hB := below_grows hB (Nat.le_refl _) hq
 have hqs := hq.size
 clear hq
 refine BigFrame.wpList_want (by first | rfl | kernel_rfl) (fun K hK => ?_)
 go_simp
 refine hK _ _ ?_
 clear hK K
 refine wpList_plain rfl (fun K hK => ?_)
 go_simp
 refine hK _ _ ?_
 clear hK K
 have zw3 : w.heap.size < w3.heap.size := k4.lt
 go_upto_region 3 with fail
 refine wp_region_lit ?_
 refine wpList_plain rfl (fun K hK => ?_)
 go_simp
 refine hK _ _ ?_
 clear hK K
 refine wpList_plain rfl (fun K hK => ?_)
 go_simp
 refine hK _ _ ?_
 clear hK K
 refine wpList_plain rfl (fun K hK => ?_)
 go_simp
 refine hK _ _ ?_
 clear hK K
 refine wpList_plain rfl (fun K hK => ?_)
 go_simp
 refine hK _ _ ?_
 clear hK K
 refine wpList_plain rfl (fun K hK => ?_)
 go_simp
 refine (mempty_any fr.length tt.length f1 f2 t1 t2 _).mono ?_
 rintro e w4 ⟨⟨g, rfl, hg0, kC⟩, hq⟩
 refine hK _ _ ?_
 clear hK K
 replace k4 := k4.grows hq
 replace hB := below_grows hB (Nat.le_refl _) hq
 have hqs := hq.size
 clear hq
 have z4 := k4.lt
 have zC := kC.lt
 have hgn : g ≠ w.heap.size := fun e => by subst e; exact absurd rfl (Blk.ne_ kC k4 (by decide))
 have k6 := Blk.new w4 93 #[.int .i64 0, .int .i64 0, .slice none 0 0]
 replace k4 := k4.alloc (Obj.cells #[.int .i64 0, .int .i64 0, .slice none 0 0] 93)
 replace kC : MtG _ g _ := Blk.alloc kC (Obj.cells #[.int .i64 0, .int .i64 0, .slice none 0 0] 93)
 replace hB := hB.alloc hB.size (Obj.cells #[.int .i64 0, .int .i64 0, .slice none 0 0] 93)
 refine wpList_plain rfl (fun K hK => ?_)
 go_simp
 refine hK _ _ ?_
 clear hK K
 generalize hn6 : w4.heap.size = n6 at *
 generalize World.alloc w4 _ = w5 at *
 refine wpList_store_row rfl _ _ rfl rfl rfl rfl k6 (by kernel_rfl) rfl (by simp [Value.oneCell']) ?_
 replace k4 := k4.row_far (cs' := #[.int .i64 (fr.length : Int), .int .i64 (tt.length : Int), .slice (some ⟨g, 0, none⟩) (fr.length * tt.length) (fr.length * tt.length)]) (show w.heap.size ≠ n6 by omega)
 replace kC : MtG _ g _ := Blk.row_far kC (cs' := #[.int .i64 (fr.length : Int), .int .i64 (tt.length : Int), .slice (some ⟨g, 0, none⟩) (fr.length * tt.length) (fr.length * tt.length)]) (show g ≠ n6 by omega)
 replace k6 := k6.row (cs := #[.int .i64 (fr.length : Int), .int .i64 (tt.length : Int), .slice (some ⟨g, 0, none⟩) (fr.length * tt.length) (fr.length * tt.length)])
 replace hB := below_row hB (show w.heap.size ≤ n6 by omega) #[.int .i64 (fr.length : Int), .int .i64 (tt.length : Int), .slice (some ⟨g, 0, none⟩) (fr.length * tt.length) (fr.length * tt.length)]
 generalize World.setRow w5 _ _ = w6 at *
 have zC6 : g < w6.heap.size := kC.lt
 have z66 : n6 < w6.heap.size := k6.lt
 go_upto_region 4 with fail
 refine wp_region_lit ?_
 refine wpList_load_row rfl _ rfl rfl k6 Tryz.underlying93 rfl (by kernel_rfl) ?_
 refine wpList_plain rfl (fun K hK => ?_)
 go_simp
 refine (mrows_any g fr.length tt.length _ f1 f2 t1 t2 rfl _).mono ?_
 rintro e w7 ⟨⟨t, rfl, ht0, kT⟩, hq⟩
 refine hK _ _ ?_
 clear hK K
 replace k4 := k4.grows hq
 replace k6 := k6.grows hq
 replace kC := kC.grows hq
 replace hB := below_grows hB (Nat.le_refl _) hq
 have hqs := hq.size
 clear hq
 refine wpList_plain rfl (fun K hK => ?_)
 go_simp
 refine hK _ _ ?_
 clear hK K
 have zT := kT.lt
 have z6 := k6.lt
 have htn : t ≠ w.heap.size ∧ t ≠ n6 ∧ t ≠ g := ⟨by omega, by omega, by omega⟩
 go_wp2_with fail
 go_loopw [33] (fun i wr => ∃ k : Nat, k ≤ fr.length ∧ i = .int .i64 k ∧ Below w.heap.size w wr ∧ Blk wr w.heap.size 93 #[.int .i64 0, .int .i64 0, .slice none 0 0] ∧ Blk wr n6 93 #[.int .i64 (fr.length : Int), .int .i64 (tt.length : Int), .slice (some ⟨g, 0, none⟩) (fr.length * tt.length) (fr.length * tt.length)] ∧ MtG wr g (matK fr tt k) ∧ Blk wr t 31 (rowsV g fr.length tt.length).toArray) (fun i _ => fr.length - (intOf i).toNat)
 case atStart => exact ⟨0, by omega, rfl, hB, k4, k6, kC, kT⟩
 case round =>
  clear hB k4 k6 kC kT
  rename World => wo
  obtain ⟨k, hk, rfl, hB, k4, k6, kC, kT⟩ := hrel
  by_cases hlt : k < fr.length
  ·obtain ⟨ad, p, rfl, had, hx, q0⟩ := (hf.grows (show Grows w wo from hB)).at_ hlt
   have hpr := HP.out p (List.mem_of_getElem? hx)
   have HK : Hid (matK fr tt (k + 1) = colM tt fr.length (matK fr tt k) k p) := by
    refine Lib.hid ?_
    rw [matK, List.getD_eq_getElem?_getD, hx]
    rfl
   clear hx
   have d0 : decide ((k : Int) < (fr.length : Int)) = true := by simp only [decide_eq_true_iff]; omega
   have d0' : decide (k < fr.length) = true := by simp only [decide_eq_true_iff]; omega
   have b0 : (0 : Int) ≤ (k : Int) := by omega
   have b1 : (k : Int) < (fr.length : Int) := by omega
   have wk : IntKind.i64.wrap ((k : Int) + 1) = (k : Int) + 1 := IntWalk.i64_in _ (by omega)
   go_wp2_with fail
   refine (hix p _ hB).mono ?_
   rintro e wa ⟨rfl, hq⟩
   replace k4 := k4.grows hq
   replace k6 := k6.grows hq
   replace kC := kC.grows hq
   replace kT := kT.grows hq
   replace hB := below_grows hB (Nat.le_refl _) hq
   have hqs := hq.size
   clear hq
   clear q0
   by_cases hr : 0 ≤ idxZ tt p
   ·obtain ⟨r, er, hrl⟩ := idx_lt hr
    unfold colM at HK
    replace HK : Hid (matK fr tt (k + 1) = setM fr.length (matK fr tt k) r k 32768) := by
     have := HK.out
     rw [if_pos hr, er, Int.toNat_natCast] at this
     exact Lib.hid this
    rw [er]
    clear hr er
    have dr : decide (0 ≤ (r : Int)) = true := by simp
    have xr : wa.cell? ⟨t, r, none⟩ = some (.slice (some ⟨g, r * fr.length, none⟩) fr.length fr.length) := by
     rw [kT.cell, List.getElem?_toArray]
     exact rowsV_at g fr.length tt.length r hrl
    have hm1 : (r + 1) * fr.length ≤ tt.length * fr.length := Nat.mul_le_mul_right _ (by omega)
    rw [Nat.add_mul, Nat.one_mul, Nat.mul_comm tt.length] at hm1
    obtain ⟨⟨v0, xc⟩, fc0⟩ := kC.has (k := r * fr.length + k) (by rw [matK_len]; omega)
    have c0 : (0 : Int) ≤ (r : Int) := by omega
    have c1 : (r : Int) < (tt.length : Int) := by omega
    go_upto_region 10 with fail
    go_upto_region 21 with fail
    clear xr xc fc0 dr
    replace kC := MtG.put kC fr.length r k 32768
    replace k4 := k4.far (p := ⟨g, r * fr.length + k, none⟩) (by simp only; omega) (.int .i64 32768)
    replace k6 := k6.far (p := ⟨g, r * fr.length + k, none⟩) (by simp only; omega) (.int .i64 32768)
    replace kT := kT.far (p := ⟨g, r * fr.length + k, none⟩) (by simp only; omega) (.int .i64 32768)
    replace hB := hB.setCell (p := ⟨g, r * fr.length + k, none⟩) (by simp only; omega) (.int .i64 32768)
    rw [← HK.out] at kC
    generalize World.setCell wa _ _ = w9 at *
    go_wp2
    go_roundw
    case rel => exact ⟨k + 1, by omega, by go_num, hB, k4, k6, kC, kT⟩
    case measure => simp [intOf] <;> omega
   ·have dr : decide (0 ≤ idxZ tt p) = false := by simp only [decide_eq_false_iff_not]; omega
    have HK2 : Hid (matK fr tt (k + 1) = heirF tt fr.length k (matK fr tt k) (heirsL p)) := by
     have := HK.out
     unfold colM at this
     rw [if_neg hr] at this
     exact Lib.hid this
    clear HK hr
    go_wp2_with fail
    refine (mheirs_any p hpr _).mono ?_
    rintro e wb ⟨⟨A, rfl, hM⟩, hq⟩
    clear dr
    have zC7 : g < wa.heap.size := kC.lt
    replace k4 := k4.grows hq
    replace k6 := k6.grows hq
    replace kC := kC.grows hq
    replace kT := kT.grows hq
    replace hB := below_grows hB (Nat.le_refl _) hq
    have hqs := hq.size
    clear hq
    have hLl : (heirsL p).length ≤ 3 ∧ ∀ l ∈ heirsL p, l.length ≤ 2 := by
     obtain ⟨p1, p2⟩ := hpr
     rcases (show p = 3 ∨ p = 1 ∨ p = 2 ∨ p = 5 ∨ p = 6 ∨ p = 7 ∨ p = 8 ∨ p = 4 by omega) with rfl | rfl | rfl | rfl | rfl | rfl | rfl | rfl <;> decide
    generalize heirsL p = L at *
    obtain ⟨hL3, hL2⟩ := hLl
    have hl9 := matK_len fr tt k
    generalize matK fr tt k = C at *
    generalize hsa : wa.heap.size = sa at *
    go_wp2_with fail
    go_loopw [52] (fun i wr => ∃ j : Nat, j ≤ L.length ∧ i = .int .i64 j ∧ Hid (heirF tt fr.length k C (L.drop j) = heirF tt fr.length k C L) ∧ Below w.heap.size w wr ∧ Blk wr w.heap.size 93 #[.int .i64 0, .int .i64 0, .slice none 0 0] ∧ Blk wr n6 93 #[.int .i64 (fr.length : Int), .int .i64 (tt.length : Int), .slice (some ⟨g, 0, none⟩) (fr.length * tt.length) (fr.length * tt.length)] ∧ MtG wr g C ∧ Blk wr t 31 (rowsV g fr.length tt.length).toArray ∧ MapsR wr (fun k => sa ≤ k) A L) (fun i _ => L.length - (intOf i).toNat)
    case atStart => exact ⟨0, by omega, rfl, Lib.hid (by rw [List.drop_zero]), hB, k4, k6, kC, kT, hM⟩
    case round =>
     clear hB k4 k6 kC kT hM
     rename World => wp
     obtain ⟨j, hj, rfl, HH, hB, k4, k6, kC, kT, hM⟩ := hrel
     by_cases hlt2 : j < L.length
     ·obtain ⟨ad2, l, B, c2, rfl, had2, hl, q0, hlc, hib⟩ := hM.elem hlt2
      have hll := hL2 l (List.mem_of_getElem? hl)
      have e0 : decide ((j : Int) < (L.length : Int)) = true := by simp only [decide_eq_true_iff]; omega
      have e0' : decide (j < L.length) = true := by simp only [decide_eq_true_iff]; omega
      have c0 : (0 : Int) ≤ (j : Int) := by omega
      have c1 : (j : Int) < (L.length : Int) := by omega
      have wj : IntKind.i64.wrap ((j : Int) + 1) = (j : Int) + 1 := IntWalk.i64_in _ (by omega)
      have HL1 := Lib.hid (fun h => heirF_less (tt := tt) (inn := fr.length) (c := k) (C := C) hl h)
      have HL2 := Lib.hid (fun h => heirF_here (tt := tt) (inn := fr.length) (c := k) (C := C) hl h)
      clear hl
      go_wp2_with fail
      refine (pcommon_any B TA c2 tc l tt _ hib.ints (ht.grows hB) (by omega) (by omega)).mono ?_
      rintro e wc ⟨⟨v, rfl, hown⟩, hq⟩
      obtain ⟨A5, c5, rfl, -, -⟩ := hown.read
      replace hM := hM.grows hq
      replace hib := InB.grows hib hq
      clear q0 hown
      replace k4 := k4.grows hq
      replace k6 := k6.grows hq
      replace kC := kC.grows hq
      replace kT := kT.grows hq
      replace hB := below_grows hB (Nat.le_refl _) hq
      have hqs := hq.size
      clear hq
      by_cases hls : (commonL l tt).length < l.length
      ·have dl : decide (((commonL l tt).length : Int) < (l.length : Int)) = true := by simp only [decide_eq_true_iff]; omega
       have dl' : decide ((commonL l tt).length < l.length) = true := by simp only [decide_eq_true_iff]; omega
       replace HL1 := Lib.hid ((HL1.out hls).symm.trans HH.out)
       clear HL2 HH hls
       go_wp2
       go_roundw
       case rel => exact ⟨j + 1, by omega, by go_num, HL1, hB, k4, k6, kC, kT, hM⟩
       case measure => simp [intOf] <;> omega
      ·have dl : decide (((commonL l tt).length : Int) < (l.length : Int)) = false := by simp only [decide_eq_false_iff_not]; omega
       have dl' : decide ((commonL l tt).length < l.length) = false := by simp only [decide_eq_false_iff_not]; omega
       replace HL2 := Lib.hid ((HK2.out.trans HH.out.symm).trans (HL2.out hls))
       have HA := Lib.hid (common_all hls)
       clear HL1 HH HK2 hls hM
       go_wp2_with fail
       clear dl dl'
       go_loopw [65] (fun i wr => ∃ q : Nat, q ≤ l.length ∧ i = .int .i64 q ∧ Below w.heap.size w wr ∧ Blk wr w.heap.size 93 #[.int .i64 0, .int .i64 0, .slice none 0 0] ∧ Blk wr n6 93 #[.int .i64 (fr.length : Int), .int .i64 (tt.length : Int), .slice (some ⟨g, 0, none⟩) (fr.length * tt.length) (fr.length * tt.length)] ∧ MtG wr g (putF tt fr.length k C (l.take q)) ∧ Blk wr t 31 (rowsV g fr.length tt.length).toArray ∧ InB wr (fun k => sa ≤ k) B l) (fun i _ => l.length - (intOf i).toNat)
       case atStart => exact ⟨0, by omega, rfl, hB, k4, k6, (by rw [List.take_zero]; exact kC), kT, hib⟩
       case round =>
        clear hB k4 k6 kC kT hib
        obtain ⟨q, hq9, rfl, hB, k4, k6, kC, kT, hib⟩ := hrel
        by_cases hlt3 : q < l.length
        ·obtain ⟨ad3, x, rfl, had3, hx, q0⟩ := hib.ints.at_ hlt3
         have f0 : decide ((q : Int) < (l.length : Int)) = true := by simp only [decide_eq_true_iff]; omega
         have f0' : decide (q < l.length) = true := by simp only [decide_eq_true_iff]; omega
         have g0 : (0 : Int) ≤ (q : Int) := by omega
         have g1 : (q : Int) < (l.length : Int) := by omega
         have wq : IntKind.i64.wrap ((q : Int) + 1) = (q : Int) + 1 := IntWalk.i64_in _ (by omega)
         obtain ⟨r, er, hrl⟩ := idx_lt (idx_in (HA.out x (List.mem_of_getElem? hx)))
         have HT : Hid (l.take (q + 1) = l.take q ++ [x]) := Lib.hid (by rw [List.take_add_one, hx]; rfl)
         clear hx
         go_wp2_with fail
         refine (hix x _ hB).mono ?_
         rintro e wd ⟨rfl, hq⟩
         replace hib := InB.grows hib hq
         clear q0
         rw [er]
         have HS := Lib.hid (putF_snoc tt fr.length k x (l.take q) C)
         rw [← HT.out, er, Int.toNat_natCast] at HS
         clear er HT
         replace k4 := k4.grows hq
         replace k6 := k6.grows hq
         replace kC := kC.grows hq
         replace kT := kT.grows hq
         replace hB := below_grows hB (Nat.le_refl _) hq
         have hqs := hq.size
         clear hq
         have xr : wd.cell? ⟨t, r, none⟩ = some (.slice (some ⟨g, r * fr.length, none⟩) fr.length fr.length) := by
          rw [kT.cell, List.getElem?_toArray]
          exact rowsV_at g fr.length tt.length r hrl
         have hm1 : (r + 1) * fr.length ≤ tt.length * fr.length := Nat.mul_le_mul_right _ (by omega)
         rw [Nat.add_mul, Nat.one_mul, Nat.mul_comm tt.length] at hm1
         obtain ⟨⟨v0, xc⟩, fc0⟩ := kC.has (k := r * fr.length + k) (by rw [putF_len, hl9]; omega)
         have r0 : (0 : Int) ≤ (r : Int) := by omega
         have r1 : (r : Int) < (tt.length : Int) := by omega
         go_upto_region 19 with fail
         clear xr xc fc0
         have hst := d_only_set (World.grownBy.refl wd (some g)) (r * fr.length + k) (.int .i64 23170)
         replace hib : InB _ _ _ _ := RdB.grown hib hst (fun g e => by injection e with e; subst e; intro hs; have hs : sa ≤ _ := hs; omega)
         replace kC := MtG.put kC fr.length r k 23170
         replace k4 := k4.far (p := ⟨g, r * fr.length + k, none⟩) (by simp only; omega) (.int .i64 23170)
         replace k6 := k6.far (p := ⟨g, r * fr.length + k, none⟩) (by simp only; omega) (.int .i64 23170)
         replace kT := kT.far (p := ⟨g, r * fr.length + k, none⟩) (by simp only; omega) (.int .i64 23170)
         replace hB := hB.setCell (p := ⟨g, r * fr.length + k, none⟩) (by simp only; omega) (.int .i64 23170)
         rw [← HS.out] at kC
         generalize World.setCell wd _ _ = w9 at *
         clear hst
         go_wp2
         go_roundw
         case rel => exact ⟨q + 1, by omega, by go_num, hB, k4, k6, kC, kT, hib⟩
         case measure => simp [intOf] <;> omega
        ·have f0 : decide ((q : Int) < (l.length : Int)) = false := by simp only [decide_eq_false_iff_not]; omega
         have f0' : decide (q < l.length) = false := by simp only [decide_eq_false_iff_not]; omega
         obtain rfl : q = l.length := by omega
         rw [List.take_length, ← HL2.out] at kC
         go_wp2
         go_roundw
         case rel => exact ⟨k + 1, by omega, by go_num, hB, k4, k6, kC, kT⟩
         case measure => simp [intOf] <;> omega
     ·have e0 : decide ((j : Int) < (L.length : Int)) = false := by simp only [decide_eq_false_iff_not]; omega
      have e0' : decide (j < L.length) = false := by simp only [decide_eq_false_iff_not]; omega
      obtain rfl : j = L.length := by omega
      have hz := HK2.out.trans HH.out.symm
      rw [List.drop_length, heirF] at hz
      rw [← hz] at kC
      clear hz HH
      go_wp2
      go_roundw
      case rel => exact ⟨k + 1, by omega, by go_num, hB, k4, k6, kC, kT⟩
      case measure => simp [intOf] <;> omega
  ·have d0 : decide ((k : Int) < (fr.length : Int)) = false := by simp only [decide_eq_false_iff_not]; omega
   have d0' : decide (k < fr.length) = false := by simp only [decide_eq_false_iff_not]; omega
   obtain rfl : k = fr.length := by omega
   go_upto_region 22 with fail
   refine wp_region_lit ?_
   refine wpList_load_row rfl _ rfl rfl k6 Tryz.underlying93 rfl (by kernel_rfl) ?_
   refine wpList_store_row rfl _ _ rfl rfl rfl rfl k4 (by kernel_rfl) rfl (by simp [Value.oneCell']) ?_
   replace kC : MtG _ g _ := Blk.row_far kC (cs' := #[.int .i64 (fr.length : Int), .int .i64 (tt.length : Int), .slice (some ⟨g, 0, none⟩) (fr.length * tt.length) (fr.length * tt.length)]) (show g ≠ w.heap.size by omega)
   replace k4 := k4.row (cs := #[.int .i64 (fr.length : Int), .int .i64 (tt.length : Int), .slice (some ⟨g, 0, none⟩) (fr.length * tt.length) (fr.length * tt.length)])
   replace hB := below_row hB (Nat.le_refl _) #[.int .i64 (fr.length : Int), .int .i64 (tt.length : Int), .slice (some ⟨g, 0, none⟩) (fr.length * tt.length) (fr.length * tt.length)]
   generalize World.setRow wo _ _ = wz at *
   go_wp2
   have xr := k4.cell
   refine bodyPost_ret (v := .tuple #[.agg #[.int .i64 (fr.length : Int), .int .i64 (tt.length : Int), .slice (some ⟨g, 0, none⟩) (fr.length * tt.length) (fr.length * tt.length)], .int .i64 0]) ?_ rfl ⟨⟨g, rfl, by omega, kC⟩, hB⟩
   simp [results, Tryz.results83, go_sem, xr]
end Go.Proofs.YtbfdaojffffaaaaGreat

namespace Go.Proofs.YtbfdaojffffaaaaGreat
open Go.RowKit
theorem ov_last (x0 x1 x2 x3 x4 x5 x6 x7 x8 x9 x10 x11 x12 x13 x14 x15 y0 y1 y2 y3 y4 y5 y6 : Value) : ovR #[x0, x1, x2, x3, x4, x5, x6, x7, x8, x9, x10, x11, x12, x13, x14, x15] 9 [y0, y1, y2, y3, y4, y5, y6] = #[x0, x1, x2, x3, x4, x5, x6, x7, x8, y0, y1, y2, y3, y4, y5, y6] := by
 simp [ovR]
set_option maxRecDepth 100000 in
set_option maxHeartbeats 60000000 in
theorem cnew_any (ka kb : Nat) (hk1 : 1 ≤ ka ∧ ka ≤ 7) (hk2 : 1 ≤ kb ∧ kb ≤ 7) (r1 r2 : Int) (hr1 : 1000 ≤ r1 ∧ r1 ≤ 768000) (hr2 : 1000 ≤ r2 ∧ r2 ≤ 768000) (FA TA : Option Addr) (fc tc : Nat) (fr tt : List Int) (w : World) (hf : Ints w FA fr) (ht : Ints w TA tt) (vf : validM fr = true) (vt : validM tt = true) (hfc : fr.length ≤ fc) (htc : tt.length ≤ tc) :
 Calls Tryz.prog 30 #[.agg #[.int .i64 (ka : Int), .int .i64 r1, .slice FA fr.length fc], .agg #[.int .i64 (kb : Int), .int .i64 r2, .slice TA tt.length tc]] w fun e w' => (∃ B1 p1 B2 p2 g, e = .returned (.tuple #[.agg #[.int .i64 (ka : Int), .int .i64 r1, .slice B1 fr.length p1, .int .i64 (kb : Int), .int .i64 r2, .slice B2 tt.length p2, .int .i64 (fr.length : Int), .int .i64 (tt.length : Int), .slice (some ⟨g, 0, none⟩) (fr.length * tt.length) (fr.length * tt.length), .int .i64 (tt.length : Int), .int .i64 (r1 / gF r1 r2), .int .i64 (r2 / gF r1 r2), .int .i64 0, .int .i64 0, .int .i64 0, .slice none 0 0], .int .i64 0]) ∧ (fr.length ≤ p1 ∧ tt.length ≤ p2) ∧ OwnI w' w.heap.size (.slice B1 fr.length p1) fr ∧ OwnI w' w.heap.size (.slice B2 tt.length p2) tt ∧ MtG w' g (matF fr tt) ∧ w.heap.size ≤ g) ∧ Grows w w' := by
 obtain ⟨f1, f2⟩ : 1 ≤ fr.length ∧ fr.length ≤ 8 := by have vf := vf; simp only [validM, Bool.and_eq_true, decide_eq_true_eq] at vf; exact vf.1
 obtain ⟨t1, t2⟩ : 1 ≤ tt.length ∧ tt.length ≤ 8 := by have vt := vt; simp only [validM, Bool.and_eq_true, decide_eq_true_eq] at vt; exact vt.1
 have hfa := fun w1 (hg : Grows w w1) => fits33_any ka hk1.1 hk1.2 r1 hr1.1 hr1.2 FA fc fr w1 (hf.grows hg) vf (by omega) hfc
 have hfb := fun w1 (hg : Grows w w1) => fits33_any kb hk2.1 hk2.2 r2 hr2.1 hr2.2 TA tc tt w1 (ht.grows hg) vt (by omega) htc
 have hde := fun w1 (hg : Grows w w1) => mdefault_any FA TA fc tc fr tt w1 (hf.grows hg) (ht.grows hg) vf vt hfc htc
 have hmk := fun w1 => pmake_good r1 r2 w1 (by omega) (by omega) (by omega) (by omega)
 obtain ⟨o1, o2, o3, o4, o5⟩ := okR_div (a := r1) (b := r2) (by omega) (by omega) (by omega) (by omega)
 have hrs := fun w1 => rsnew_any (ch := tt.length) w1 (okPh_mk o1 (by omega) (by omega) (by omega) (by omega) (by omega)) t1 t2
 clear vf vt hfc htc hk1 hk2 hr1 hr2 o1 o2 o3 o4 o5
 go_enter Tryz.func30, Tryz.ntmps30
 have hB := (((Below.refl w.heap.size w).alloc (Nat.le_refl _) (Obj.cells #[.int .i64 (ka : Int), .int .i64 r1, .slice FA fr.length fc] 33)).alloc (by simp <;> omega) (Obj.cells #[.int .i64 (kb : Int), .int .i64 r2, .slice TA tt.length tc] 33)).alloc (by simp <;> omega) (Obj.cells #[.int .i64 0, .int .i64 0, .slice none 0 0, .int .i64 0, .int .i64 0, .slice none 0 0, .int .i64 0, .int .i64 0, .slice none 0 0, .int .i64 0, .int .i64 0, .int .i64 0, .int .i64 0, .int .i64 0, .int .i64 0, .slice none 0 0] 95)
 have k2 := ((Blk.new w 33 #[.int .i64 (ka : Int), .int .i64 r1, .slice FA fr.length fc]).alloc (Obj.cells #[.int .i64 (kb : Int), .int .i64 r2, .slice TA tt.length tc] 33)).alloc (Obj.cells #[.int .i64 0, .int .i64 0, .slice none 0 0, .int .i64 0, .int .i64 0, .slice none 0 0, .int .i64 0, .int .i64 0, .slice none 0 0, .int .i64 0, .int .i64 0, .int .i64 0, .int .i64 0, .int .i64 0, .int .i64 0, .slice none 0 0] 95)
 have k3 := (blk_new_at (X := (w.alloc (Obj.cells #[.int .i64 (ka : Int), .int .i64 r1, .slice FA fr.length fc] 33))) (n := w.heap.size + 1) (t := 33) (cs := #[.int .i64 (kb : Int), .int .i64 r2, .slice TA tt.length tc]) (by simp)).alloc (Obj.cells #[.int .i64 0, .int .i64 0, .slice none 0 0, .int .i64 0, .int .i64 0, .slice none 0 0, .int .i64 0, .int .i64 0, .slice none 0 0, .int .i64 0, .int .i64 0, .int .i64 0, .int .i64 0, .int .i64 0, .int .i64 0, .slice none 0 0] 95)
 have k4 := blk_new_at (X := ((w.alloc (Obj.cells #[.int .i64 (ka : Int), .int .i64 r1, .slice FA fr.length fc] 33)).alloc (Obj.cells #[.int .i64 (kb : Int), .int .i64 r2, .slice TA tt.length tc] 33))) (n := w.heap.size + 1 + 1) (t := 95) (cs := #[.int .i64 0, .int .i64 0, .slice none 0 0, .int .i64 0, .int .i64 0, .slice none 0 0, .int .i64 0, .int .i64 0, .slice none 0 0, .int .i64 0, .int .i64 0, .int .i64 0, .int .i64 0, .int .i64 0, .int .i64 0, .slice none 0 0]) (by simp)
 go_upto_region 1 with fail
 generalize hn3 : w.heap.size + 1 = n3 at *
 generalize hn4 : n3 + 1 = n4 at *
 generalize World.alloc (World.alloc (World.alloc w _) _) _ = w1 at *
 refine wp_region_lit ?_
 refine wpList_load_row rfl _ rfl rfl k2 Tryz.underlying33 rfl (by kernel_rfl) ?_
 refine wpList_plain rfl (fun K hK => ?_)
 go_simp
 refine (hfa _ hB).mono ?_
 rintro e w2 ⟨rfl, hq⟩
 refine hK _ _ ?_
 clear hK K
 replace k2 := k2.grows hq
 replace k3 := k3.grows hq
 replace k4 := k4.grows hq
 replace hB := below_grows hB (Nat.le_refl _) hq
 have hqs := hq.size
 clear hq
 refine wpList_plain rfl (fun K hK => ?_)
 go_simp
 refine hK _ _ ?_
 clear hK K
 refine wpList_plain rfl (fun K hK => ?_)
 go_simp
 refine hK _ _ ?_
 clear hK K
 refine wpList_load_rowg (by first | rfl | kernel_rfl) _ rfl rfl k3 Tryz.underlying33 rfl (by kernel_rfl) ?_
 refine BigFrame.wpList_want (by first | rfl | kernel_rfl) (fun K hK => ?_)
 go_simp
 refine (hfb _ hB).mono ?_
 rintro e w3 ⟨rfl, hq⟩
 refine hK _ _ ?_
 clear hK K
 replace k2 := k2.grows hq
 replace k3 := k3.grows hq
 replace k4 := k4.grows hq
 replace hB := below_grows hB (Nat.le_refl _) hq
 have hqs := hq.size
 clear hq
 refine BigFrame.wpList_want (by first | rfl | kernel_rfl) (fun K hK => ?_)
 go_simp
 refine hK _ _ ?_
 clear hK K
 refine wpList_plain rfl (fun K hK => ?_)
 go_simp
 refine hK _ _ ?_
 clear hK K
 go_upto_region 3 with fail
 obtain ⟨S, HI, HO⟩ := hideS fun (L : Ran) (vs : Nat → Value) (w' : World) => Below w.heap.size w w' ∧ Blk w' w.heap.size 33 #[.int .i64 (ka : Int), .int .i64 r1, .slice FA fr.length fc] ∧ Blk w' n3 33 #[.int .i64 (kb : Int), .int .i64 r2, .slice TA tt.length tc] ∧ Blk w' n4 95 #[.int .i64 0, .int .i64 0, .slice none 0 0, .int .i64 0, .int .i64 0, .slice none 0 0, .int .i64 0, .int .i64 0, .slice none 0 0, .int .i64 0, .int .i64 0, .int .i64 0, .int .i64 0, .int .i64 0, .int .i64 0, .slice none 0 0] ∧ (L 5 = true → ∃ G, vs 5 = .pointer (some ⟨G, 0, none⟩) ∧ (n4 < G ∧ n3 < G ∧ w.heap.size < G ∧ w.heap.size ≤ G) ∧ (L 6 = false → Blk w' G 95 #[.int .i64 0, .int .i64 0, .slice none 0 0, .int .i64 0, .int .i64 0, .slice none 0 0, .int .i64 0, .int .i64 0, .slice none 0 0, .int .i64 0, .int .i64 0, .int .i64 0, .int .i64 0, .int .i64 0, .int .i64 0, .slice none 0 0]) ∧ (L 6 = true → ∃ C1 q1 C2 q2, Blk w' G 95 #[.int .i64 (ka : Int), .int .i64 r1, .slice C1 fr.length q1, .int .i64 (kb : Int), .int .i64 r2, .slice C2 tt.length q2, .int .i64 0, .int .i64 0, .slice none 0 0, .int .i64 0, .int .i64 0, .int .i64 0, .int .i64 0, .int .i64 0, .int .i64 0, .slice none 0 0] ∧ (fr.length ≤ q1 ∧ tt.length ≤ q2) ∧ OwnI w' w.heap.size (.slice C1 fr.length q1) fr ∧ OwnI w' w.heap.size (.slice C2 tt.length q2) tt)) ∧ (L 6 = true → L 5 = true) ∧ (L 1 = true → ∃ B d, vs 1 = .agg #[.int .i64 (ka : Int), .int .i64 r1, .slice B fr.length d] ∧ fr.length ≤ d ∧ OwnI w' w.heap.size (.slice B fr.length d) fr) ∧ (L 3 = true → ∃ B d, vs 3 = .agg #[.int .i64 (kb : Int), .int .i64 r2, .slice B tt.length d] ∧ tt.length ≤ d ∧ OwnI w' w.heap.size (.slice B tt.length d) tt) ∧ (L 4 = true → ∃ C1 q1 C2 q2, vs 4 = .agg #[.int .i64 (ka : Int), .int .i64 r1, .slice C1 fr.length q1, .int .i64 (kb : Int), .int .i64 r2, .slice C2 tt.length q2, .int .i64 0, .int .i64 0, .slice none 0 0, .int .i64 0, .int .i64 0, .int .i64 0, .int .i64 0, .int .i64 0, .int .i64 0, .slice none 0 0] ∧ (fr.length ≤ q1 ∧ tt.length ≤ q2) ∧ OwnI w' w.heap.size (.slice C1 fr.length q1) fr ∧ OwnI w' w.heap.size (.slice C2 tt.length q2) tt) ∧ KnS [some (.agg #[.int .i64 (ka : Int), .int .i64 r1, .slice FA fr.length fc]), none, some (.agg #[.int .i64 (kb : Int), .int .i64 r2, .slice TA tt.length tc]), none, none, none, some (undef)] L vs
 refine wp_region_genU S 50 (by kernel_rfl) (by kernel_rfl) rfl ?_ ?_
 ·exact HI.out _ _ _ ⟨hB.drew, k2.drew, k3.drew, k4.drew, (fun e => by cases e), (fun e => by cases e), (fun e => by cases e), (fun e => by cases e), (fun e => by cases e), kn_none _ _⟩
 refine gen_consR (fun vs L w1 hL hw1 => ?_) ?_
 ·obtain ⟨h0, h1, h2, h3, g5, c5, d1, d3, d4, q⟩ := HO.out _ _ _ hw1
  refine gen_plain rfl ?_
  refine gr_ldrow (cs := #[.int .i64 (ka : Int), .int .i64 r1, .slice FA fr.length fc]) _ rfl rfl h1 Tryz.underlying33 rfl (by kernel_rfl) ?_
  exact HI.out _ _ _ ⟨h0, h1, h2, h3, (fun e => by obtain ⟨G, eG, hG, y0, y1⟩ := (g5 (upd_ne e (by decide))); exact ⟨G, eG, hG, fun e => (y0 (upd_ne e (by decide))), (fun e => by obtain ⟨B6, d6_, B7, d7_, kb6, hd6, oa6, ob6⟩ := (y1 (upd_ne e (by decide))); exact ⟨B6, d6_, B7, d7_, kb6, hd6, oa6, ob6⟩)⟩), fun e => (c5 (upd_ne e (by decide))), (fun e => by obtain ⟨B1, d1_, f1, hd1, o1_⟩ := (d1 (upd_ne e (by decide))); exact ⟨B1, d1_, f1, hd1, o1_⟩), (fun e => by obtain ⟨B3, d3_, f3, hd3, o3_⟩ := (d3 (upd_ne e (by decide))); exact ⟨B3, d3_, f3, hd3, o3_⟩), (fun e => by obtain ⟨B4, d4_, B5, d5_, f4, hd4, oa4, ob4⟩ := (d4 (upd_ne e (by decide))); exact ⟨B4, d4_, B5, d5_, f4, hd4, oa4, ob4⟩), kn_known q rfl⟩
 refine gen_consR (fun vs L w1 hL hw1 => ?_) ?_
 ·obtain ⟨h0, h1, h2, h3, g5, c5, d1, d3, d4, q⟩ := HO.out _ _ _ hw1
  have l0 : L 0 = true := hL.need 0 (by kernel_rfl)
  have e0 := q 0 _ rfl l0
  refine gen_plain rfl ?_
  simp only [e0]
  go_simp
  refine gr_call ?_
  refine (cown_any _ _ FA fc fr _ (hf.grows (show Grows w w1 from h0)) (by omega)).mono ?_
  rintro e wc ⟨⟨B, d, rfl, hd, ho⟩, hg⟩
  have hz := h0.size
  replace ho := ho.mono (base' := w.heap.size) hz
  exact ⟨_, rfl, HI.out _ _ _ ⟨below_grows h0 (Nat.le_refl _) hg, h1.grows hg, h2.grows hg, h3.grows hg, (fun e => by obtain ⟨G, eG, hG, y0, y1⟩ := (g5 (upd_ne e (by decide))); exact ⟨G, eG, hG, fun e => (y0 (upd_ne e (by decide))).grows hg, (fun e => by obtain ⟨B6, d6_, B7, d7_, kb6, hd6, oa6, ob6⟩ := (y1 (upd_ne e (by decide))); exact ⟨B6, d6_, B7, d7_, kb6.grows hg, hd6, oa6.grows hg, ob6.grows hg⟩)⟩), fun e => (c5 (upd_ne e (by decide))), (fun _ => ⟨B, d, rfl, hd, ho⟩), (fun e => by obtain ⟨B3, d3_, f3, hd3, o3_⟩ := (d3 (upd_ne e (by decide))); exact ⟨B3, d3_, f3, hd3, o3_.grows hg⟩), (fun e => by obtain ⟨B4, d4_, B5, d5_, f4, hd4, oa4, ob4⟩ := (d4 (upd_ne e (by decide))); exact ⟨B4, d4_, B5, d5_, f4, hd4, oa4.grows hg, ob4.grows hg⟩), kn_free q rfl⟩⟩
 refine gen_consR (fun vs L w1 hL hw1 => ?_) ?_
 ·obtain ⟨h0, h1, h2, h3, g5, c5, d1, d3, d4, q⟩ := HO.out _ _ _ hw1
  refine gen_plain rfl ?_
  refine gr_ldrow (cs := #[.int .i64 (kb : Int), .int .i64 r2, .slice TA tt.length tc]) _ rfl rfl h2 Tryz.underlying33 rfl (by kernel_rfl) ?_
  exact HI.out _ _ _ ⟨h0, h1, h2, h3, (fun e => by obtain ⟨G, eG, hG, y0, y1⟩ := (g5 (upd_ne e (by decide))); exact ⟨G, eG, hG, fun e => (y0 (upd_ne e (by decide))), (fun e => by obtain ⟨B6, d6_, B7, d7_, kb6, hd6, oa6, ob6⟩ := (y1 (upd_ne e (by decide))); exact ⟨B6, d6_, B7, d7_, kb6, hd6, oa6, ob6⟩)⟩), fun e => (c5 (upd_ne e (by decide))), (fun e => by obtain ⟨B1, d1_, f1, hd1, o1_⟩ := (d1 (upd_ne e (by decide))); exact ⟨B1, d1_, f1, hd1, o1_⟩), (fun e => by obtain ⟨B3, d3_, f3, hd3, o3_⟩ := (d3 (upd_ne e (by decide))); exact ⟨B3, d3_, f3, hd3, o3_⟩), (fun e => by obtain ⟨B4, d4_, B5, d5_, f4, hd4, oa4, ob4⟩ := (d4 (upd_ne e (by decide))); exact ⟨B4, d4_, B5, d5_, f4, hd4, oa4, ob4⟩), kn_known q rfl⟩
 refine gen_consR (fun vs L w1 hL hw1 => ?_) ?_
 ·obtain ⟨h0, h1, h2, h3, g5, c5, d1, d3, d4, q⟩ := HO.out _ _ _ hw1
  have l2 : L 2 = true := hL.need 2 (by kernel_rfl)
  have e2 := q 2 _ rfl l2
  refine gen_plain rfl ?_
  simp only [e2]
  go_simp
  refine gr_call ?_
  refine (cown_any _ _ TA tc tt _ (ht.grows (show Grows w w1 from h0)) (by omega)).mono ?_
  rintro e wc ⟨⟨B, d, rfl, hd, ho⟩, hg⟩
  have hz := h0.size
  replace ho := ho.mono (base' := w.heap.size) hz
  exact ⟨_, rfl, HI.out _ _ _ ⟨below_grows h0 (Nat.le_refl _) hg, h1.grows hg, h2.grows hg, h3.grows hg, (fun e => by obtain ⟨G, eG, hG, y0, y1⟩ := (g5 (upd_ne e (by decide))); exact ⟨G, eG, hG, fun e => (y0 (upd_ne e (by decide))).grows hg, (fun e => by obtain ⟨B6, d6_, B7, d7_, kb6, hd6, oa6, ob6⟩ := (y1 (upd_ne e (by decide))); exact ⟨B6, d6_, B7, d7_, kb6.grows hg, hd6, oa6.grows hg, ob6.grows hg⟩)⟩), fun e => (c5 (upd_ne e (by decide))), (fun e => by obtain ⟨B1, d1_, f1, hd1, o1_⟩ := (d1 (upd_ne e (by decide))); exact ⟨B1, d1_, f1, hd1, o1_.grows hg⟩), (fun _ => ⟨B, d, rfl, hd, ho⟩), (fun e => by obtain ⟨B4, d4_, B5, d5_, f4, hd4, oa4, ob4⟩ := (d4 (upd_ne e (by decide))); exact ⟨B4, d4_, B5, d5_, f4, hd4, oa4.grows hg, ob4.grows hg⟩), kn_free q rfl⟩⟩
 refine gen_consR (fun vs L w1 hL hw1 => ?_) ?_
 ·obtain ⟨h0, h1, h2, h3, g5, c5, d1, d3, d4, q⟩ := HO.out _ _ _ hw1
  have l1 : L 1 = true := hL.need 1 (by kernel_rfl)
  have l3 : L 3 = true := hL.need 3 (by kernel_rfl)
  obtain ⟨B1, p1, e1, hd1, o1⟩ := d1 l1
  obtain ⟨B2, p2, e3, hd3, o3⟩ := d3 l3
  refine gen_plain rfl ?_
  simp only [e1, e3]
  go_simp
  exact gr_val (HI.out _ _ _ ⟨h0, h1, h2, h3, (fun e => by obtain ⟨G, eG, hG, y0, y1⟩ := (g5 (upd_ne e (by decide))); exact ⟨G, eG, hG, fun e => (y0 (upd_ne e (by decide))), (fun e => by obtain ⟨B6, d6_, B7, d7_, kb6, hd6, oa6, ob6⟩ := (y1 (upd_ne e (by decide))); exact ⟨B6, d6_, B7, d7_, kb6, hd6, oa6, ob6⟩)⟩), fun e => (c5 (upd_ne e (by decide))), (fun e => by obtain ⟨B1, d1_, f1, hd1, o1_⟩ := (d1 (upd_ne e (by decide))); exact ⟨B1, d1_, f1, hd1, o1_⟩), (fun e => by obtain ⟨B3, d3_, f3, hd3, o3_⟩ := (d3 (upd_ne e (by decide))); exact ⟨B3, d3_, f3, hd3, o3_⟩), (fun _ => ⟨B1, p1, B2, p2, rfl, ⟨hd1, hd3⟩, o1, o3⟩), kn_free q rfl⟩)
 refine gen_consR (fun vs L w1 hL hw1 => ?_) ?_
 ·obtain ⟨h0, h1, h2, h3, g5, c5, d1, d3, d4, q⟩ := HO.out _ _ _ hw1
  refine gen_plain rfl ?_
  have hg : Grows w1 (w1.alloc (Obj.cells #[.int .i64 0, .int .i64 0, .slice none 0 0, .int .i64 0, .int .i64 0, .slice none 0 0, .int .i64 0, .int .i64 0, .slice none 0 0, .int .i64 0, .int .i64 0, .int .i64 0, .int .i64 0, .int .i64 0, .int .i64 0, .slice none 0 0] 95)) := (Below.refl w1.heap.size w1).alloc (Nat.le_refl _) _
  go_simp
  exact gr_val (HI.out _ _ _ ⟨below_grows h0 (Nat.le_refl _) hg, h1.grows hg, h2.grows hg, h3.grows hg, fun _ => ⟨w1.heap.size, rfl, (by have zh3 := h3.lt; have zh2 := h2.lt; have zh1 := h1.lt; have zz := h0.size; omega), fun _ => Blk.new w1 95 #[.int .i64 0, .int .i64 0, .slice none 0 0, .int .i64 0, .int .i64 0, .slice none 0 0, .int .i64 0, .int .i64 0, .slice none 0 0, .int .i64 0, .int .i64 0, .int .i64 0, .int .i64 0, .int .i64 0, .int .i64 0, .slice none 0 0], (fun e => by have := (c5 (upd_ne e (by decide))); rw [hL.1] at this; cases this)⟩, fun _ => upd_eq, (fun e => by obtain ⟨B1, d1_, f1, hd1, o1_⟩ := (d1 (upd_ne e (by decide))); exact ⟨B1, d1_, f1, hd1, o1_.grows hg⟩), (fun e => by obtain ⟨B3, d3_, f3, hd3, o3_⟩ := (d3 (upd_ne e (by decide))); exact ⟨B3, d3_, f3, hd3, o3_.grows hg⟩), (fun e => by obtain ⟨B4, d4_, B5, d5_, f4, hd4, oa4, ob4⟩ := (d4 (upd_ne e (by decide))); exact ⟨B4, d4_, B5, d5_, f4, hd4, oa4.grows hg, ob4.grows hg⟩), kn_free q rfl⟩)
 refine gen_consR (fun vs L w1 hL hw1 => ?_) ?_
 ·obtain ⟨h0, h1, h2, h3, g5, c5, d1, d3, d4, q⟩ := HO.out _ _ _ hw1
  have l4 : L 4 = true := hL.need 4 (by kernel_rfl)
  have l5 : L 5 = true := hL.need 5 (by kernel_rfl)
  obtain ⟨B1, p1, B2, p2, e4, hd, o1, o2⟩ := d4 l4
  obtain ⟨G, eG, hG, y0, y1⟩ := g5 (hL.need 5 (by kernel_rfl))
  refine gen_plain rfl ?_
  simp only [e4, eG]
  have kk := y0 hL.1
  refine gr_strow (cs := #[.int .i64 (ka : Int), .int .i64 r1, .slice B1 fr.length p1, .int .i64 (kb : Int), .int .i64 r2, .slice B2 tt.length p2, .int .i64 0, .int .i64 0, .slice none 0 0, .int .i64 0, .int .i64 0, .int .i64 0, .int .i64 0, .int .i64 0, .int .i64 0, .slice none 0 0]) _ _ rfl rfl rfl kk (by kernel_rfl) rfl (by simp [Value.oneCell']) ?_
  have hnew : ∃ C1 q1 C2 q2, Blk (w1.setRow G #[.int .i64 (ka : Int), .int .i64 r1, .slice B1 fr.length p1, .int .i64 (kb : Int), .int .i64 r2, .slice B2 tt.length p2, .int .i64 0, .int .i64 0, .slice none 0 0, .int .i64 0, .int .i64 0, .int .i64 0, .int .i64 0, .int .i64 0, .int .i64 0, .slice none 0 0]) G 95 #[.int .i64 (ka : Int), .int .i64 r1, .slice C1 fr.length q1, .int .i64 (kb : Int), .int .i64 r2, .slice C2 tt.length q2, .int .i64 0, .int .i64 0, .slice none 0 0, .int .i64 0, .int .i64 0, .int .i64 0, .int .i64 0, .int .i64 0, .int .i64 0, .slice none 0 0] ∧ (fr.length ≤ q1 ∧ tt.length ≤ q2) ∧ OwnI (w1.setRow G #[.int .i64 (ka : Int), .int .i64 r1, .slice B1 fr.length p1, .int .i64 (kb : Int), .int .i64 r2, .slice B2 tt.length p2, .int .i64 0, .int .i64 0, .slice none 0 0, .int .i64 0, .int .i64 0, .int .i64 0, .int .i64 0, .int .i64 0, .int .i64 0, .slice none 0 0]) w.heap.size (.slice C1 fr.length q1) fr ∧ OwnI (w1.setRow G #[.int .i64 (ka : Int), .int .i64 r1, .slice B1 fr.length p1, .int .i64 (kb : Int), .int .i64 r2, .slice B2 tt.length p2, .int .i64 0, .int .i64 0, .slice none 0 0, .int .i64 0, .int .i64 0, .int .i64 0, .int .i64 0, .int .i64 0, .int .i64 0, .slice none 0 0]) w.heap.size (.slice C2 tt.length q2) tt := ⟨B1, p1, B2, p2, kk.row, hd, o1.row kk (by decide) _, o2.row kk (by decide) _⟩
  exact HI.out _ _ _ ⟨below_row h0 (g := G) (by omega) _, h1.row_far (by omega), h2.row_far (by omega), h3.row_far (by omega), fun _ => ⟨G, eG, hG, (fun e => by rw [upd_eq] at e; cases e), fun _ => hnew⟩, fun _ => (show L 5 = true from hL.need 5 (by kernel_rfl)), (fun e => by obtain ⟨B1, d1_, f1, hd1, o1_⟩ := (d1 (upd_ne e (by decide))); exact ⟨B1, d1_, f1, hd1, o1_.row kk (by decide) _⟩), (fun e => by obtain ⟨B3, d3_, f3, hd3, o3_⟩ := (d3 (upd_ne e (by decide))); exact ⟨B3, d3_, f3, hd3, o3_.row kk (by decide) _⟩), (fun e => by obtain ⟨B4, d4_, B5, d5_, f4, hd4, oa4, ob4⟩ := (d4 (upd_ne e (by decide))); exact ⟨B4, d4_, B5, d5_, f4, hd4, oa4.row kk (by decide) _, ob4.row kk (by decide) _⟩), kn_known q rfl⟩
 refine gen_nil ?_
 intro vs L w4 hall hS
 obtain ⟨h0, h1, h2, h3, g5, c5, d1, d3, d4, q⟩ := HO.out _ _ _ hS
 obtain ⟨G5, eG5, hG5, -, kG5⟩ := g5 (hall 5 (by simp))
 replace kG5 := kG5 (hall 6 (by simp))
 have e0 := q 0 _ rfl (hall 0 (by simp))
 have e2 := q 2 _ rfl (hall 2 (by simp))
 clear hall hS HI HO q g5 c5 d1 d3 d4
 simp only [e0, e2, eG5]
 clear e0 e2
 obtain ⟨B1, p1, B2, p2, k6, hd, o1, o2⟩ := kG5
 have hB := h0
 have k2 := h1
 have k3 := h2
 have k4 := h3
 clear h0 h1 h2 h3 eG5
 have z4 := k4.lt
 have z6 := k6.lt
 have y2 := (show _ = some ((.slice FA fr.length fc) : Value) from k2.cell 2)
 have y3 := (show _ = some ((.slice TA tt.length tc) : Value) from k3.cell 2)
 go_upto_region 4 with fail
 refine wp_region_lit ?_
 refine wpList_plain rfl (fun K hK => ?_)
 go_simp
 refine hK _ _ ?_
 clear hK K
 refine wpList_plain rfl (fun K hK => ?_)
 go_simp
 refine hK _ _ ?_
 clear hK K
 refine wpList_plain rfl (fun K hK => ?_)
 go_simp
 refine hK _ _ ?_
 clear hK K
 refine wpList_plain rfl (fun K hK => ?_)
 go_simp
 refine hK _ _ ?_
 clear hK K
 refine wpList_plain rfl (fun K hK => ?_)
 go_simp
 refine (hde _ hB).mono ?_
 rintro e w5 ⟨⟨g, rfl, hg0, kC⟩, hq⟩
 refine hK _ _ ?_
 clear hK K
 replace k2 := k2.grows hq
 replace k3 := k3.grows hq
 replace k4 := k4.grows hq
 replace k6 := k6.grows hq
 replace o1 := o1.grows hq
 replace o2 := o2.grows hq
 replace hB := below_grows hB (Nat.le_refl _) hq
 have hqs := hq.size
 clear hq
 clear y2 y3
 refine wpList_plain rfl (fun K hK => ?_)
 go_simp
 refine hK _ _ ?_
 clear hK K
 refine wpList_plain rfl (fun K hK => ?_)
 go_simp
 refine hK _ _ ?_
 clear hK K
 refine wpList_plain rfl (fun K hK => ?_)
 go_simp
 refine hK _ _ ?_
 clear hK K
 refine wpList_plain rfl (fun K hK => ?_)
 go_simp
 refine hK _ _ ?_
 clear hK K
 have zC := kC.lt
 have zg : g ≠ G5 := by omega
 refine wpList_store_mid rfl _ _ _ rfl G5 6 #[.int .i64 (fr.length : Int), .int .i64 (tt.length : Int), .slice (some ⟨g, 0, none⟩) (fr.length * tt.length) (fr.length * tt.length)] rfl rfl (k6.there_ (by simp)) (by kernel_rfl) (by simp [Value.oneCell']) ?_
 have hst := grown_setCells (g := G5) (#[.int .i64 (fr.length : Int), .int .i64 (tt.length : Int), .slice (some ⟨g, 0, none⟩) (fr.length * tt.length) (fr.length * tt.length)]).toList 6 _ (World.grownBy.refl w5 (some G5))
 replace o1 : OwnI _ _ _ _ := o1.apart k6 (by decide) hst
 replace o2 : OwnI _ _ _ _ := o2.apart k6 (by decide) hst
 replace k6 : Blk _ G5 95 #[.int .i64 (ka : Int), .int .i64 r1, .slice B1 fr.length p1, .int .i64 (kb : Int), .int .i64 r2, .slice B2 tt.length p2, .int .i64 (fr.length : Int), .int .i64 (tt.length : Int), .slice (some ⟨g, 0, none⟩) (fr.length * tt.length) (fr.length * tt.length), .int .i64 0, .int .i64 0, .int .i64 0, .int .i64 0, .int .i64 0, .int .i64 0, .slice none 0 0] := blk_setCells (#[.int .i64 (fr.length : Int), .int .i64 (tt.length : Int), .slice (some ⟨g, 0, none⟩) (fr.length * tt.length) (fr.length * tt.length)]).toList 6 _ _ k6
 replace k2 := Blk.grown k2 hst (fun e => by injection e with e; omega)
 replace k3 := Blk.grown k3 hst (fun e => by injection e with e; omega)
 replace k4 := Blk.grown k4 hst (fun e => by injection e with e; omega)
 replace hB := hB.grown hst hB.size (fun q hq => by injection hq with hq; omega)
 replace kC : MtG _ g _ := Blk.grown kC hst (fun e => by injection e with e; omega)
 generalize World.setCells w5 _ _ _ = w6 at *
 clear hst
 have y1 := (show _ = some ((.int .i64 r1) : Value) from k2.cell 1)
 have y2 := (show _ = some ((.int .i64 r2) : Value) from k3.cell 1)
 go_upto_region 5 with fail
 refine wp_region_lit ?_
 refine wpList_plain rfl (fun K hK => ?_)
 go_simp
 refine hK _ _ ?_
 clear hK K
 refine wpList_plain rfl (fun K hK => ?_)
 go_simp
 refine hK _ _ ?_
 clear hK K
 refine wpList_plain rfl (fun K hK => ?_)
 go_simp
 refine hK _ _ ?_
 clear hK K
 refine wpList_plain rfl (fun K hK => ?_)
 go_simp
 refine hK _ _ ?_
 clear hK K
 refine wpList_plain rfl (fun K hK => ?_)
 go_simp
 refine (hmk _).mono ?_
 rintro e w7 ⟨rfl, hq⟩
 refine hK _ _ ?_
 clear hK K
 replace k2 := k2.grows hq
 replace k3 := k3.grows hq
 replace k4 := k4.grows hq
 replace k6 := k6.grows hq
 replace o1 := o1.grows hq
 replace o2 := o2.grows hq
 replace kC := kC.grows hq
 replace hB := below_grows hB (Nat.le_refl _) hq
 have hqs := hq.size
 clear hq
 clear y1 y2
 refine wpList_plain rfl (fun K hK => ?_)
 go_simp
 refine hK _ _ ?_
 clear hK K
 refine wpList_plain rfl (fun K hK => ?_)
 go_simp
 refine hK _ _ ?_
 clear hK K
 refine wpList_plain rfl (fun K hK => ?_)
 go_simp
 refine hK _ _ ?_
 clear hK K
 have z46 := k4.lt
 have zC6 := kC.lt
 have z66 := k6.lt
 have z36 := k3.lt
 refine wpList_plain rfl (fun K hK => ?_)
 go_simp
 refine hK _ _ ?_
 clear hK K
 have k7 := Blk.new w7 42 #[.int .i64 0, .int .i64 0]
 replace k2 := k2.alloc (Obj.cells #[.int .i64 0, .int .i64 0] 42)
 replace k3 := k3.alloc (Obj.cells #[.int .i64 0, .int .i64 0] 42)
 replace k4 := k4.alloc (Obj.cells #[.int .i64 0, .int .i64 0] 42)
 replace k6 := k6.alloc (Obj.cells #[.int .i64 0, .int .i64 0] 42)
 replace o1 : OwnI _ _ _ _ := World.ownsRow.alloc o1 (Obj.cells #[.int .i64 0, .int .i64 0] 42)
 replace o2 : OwnI _ _ _ _ := World.ownsRow.alloc o2 (Obj.cells #[.int .i64 0, .int .i64 0] 42)
 replace kC : MtG _ g _ := Blk.alloc kC (Obj.cells #[.int .i64 0, .int .i64 0] 42)
 replace hB := hB.alloc hB.size (Obj.cells #[.int .i64 0, .int .i64 0] 42)
 generalize hn7 : w7.heap.size = n7 at *
 generalize World.alloc w7 _ = w8 at *
 refine wpList_store_row rfl _ _ rfl rfl rfl rfl k7 (by kernel_rfl) rfl (by simp [Value.oneCell']) ?_
 replace k3 := k3.row_far (cs' := #[.int .i64 (r1 / gF r1 r2), .int .i64 (r2 / gF r1 r2)]) (show n3 ≠ n7 by omega)
 replace k4 := k4.row_far (cs' := #[.int .i64 (r1 / gF r1 r2), .int .i64 (r2 / gF r1 r2)]) (show n4 ≠ n7 by omega)
 replace k6 := k6.row_far (cs' := #[.int .i64 (r1 / gF r1 r2), .int .i64 (r2 / gF r1 r2)]) (show G5 ≠ n7 by omega)
 replace kC : MtG _ g _ := Blk.row_far kC (cs' := #[.int .i64 (r1 / gF r1 r2), .int .i64 (r2 / gF r1 r2)]) (show g ≠ n7 by omega)
 replace o1 := o1.row k7 (by decide) #[.int .i64 (r1 / gF r1 r2), .int .i64 (r2 / gF r1 r2)]
 replace o2 := o2.row k7 (by decide) #[.int .i64 (r1 / gF r1 r2), .int .i64 (r2 / gF r1 r2)]
 replace k7 := k7.row (cs := #[.int .i64 (r1 / gF r1 r2), .int .i64 (r2 / gF r1 r2)])
 replace hB := below_row hB (show w.heap.size ≤ n7 by omega) #[.int .i64 (r1 / gF r1 r2), .int .i64 (r2 / gF r1 r2)]
 generalize World.setRow w8 _ _ = w9 at *
 clear k2
 have y3 := (show _ = some ((.slice TA tt.length tc) : Value) from k3.cell 2)
 go_upto_region 6 with fail
 refine wp_region_lit ?_
 refine wpList_plain rfl (fun K hK => ?_)
 go_simp
 refine hK _ _ ?_
 clear hK K
 refine wpList_plain rfl (fun K hK => ?_)
 go_simp
 refine hK _ _ ?_
 clear hK K
 refine wpList_plain rfl (fun K hK => ?_)
 go_simp
 refine hK _ _ ?_
 clear hK K
 refine wpList_load_row rfl _ rfl rfl k7 Tryz.underlying42 rfl (by kernel_rfl) ?_
 refine wpList_plain rfl (fun K hK => ?_)
 go_simp
 refine (hrs _).mono ?_
 rintro e w10 ⟨rfl, hq⟩
 refine hK _ _ ?_
 clear hK K
 replace k3 := k3.grows hq
 replace k4 := k4.grows hq
 replace k6 := k6.grows hq
 replace k7 := k7.grows hq
 replace o1 := o1.grows hq
 replace o2 := o2.grows hq
 replace kC := kC.grows hq
 replace hB := below_grows hB (Nat.le_refl _) hq
 have hqs := hq.size
 clear hq
 clear y3
 refine wpList_plain rfl (fun K hK => ?_)
 go_simp
 refine hK _ _ ?_
 clear hK K
 refine wpList_plain rfl (fun K hK => ?_)
 go_simp
 refine hK _ _ ?_
 clear hK K
 refine wpList_plain rfl (fun K hK => ?_)
 go_simp
 refine hK _ _ ?_
 clear hK K
 refine wpList_plain rfl (fun K hK => ?_)
 go_simp
 refine hK _ _ ?_
 clear hK K
 refine wpList_store_mid rfl _ _ _ rfl G5 9 #[.int .i64 (tt.length : Int), .int .i64 (r1 / gF r1 r2), .int .i64 (r2 / gF r1 r2), .int .i64 0, .int .i64 0, .int .i64 0, .slice none 0 0] rfl rfl (k6.there_ (by simp)) (by kernel_rfl) (by simp [Value.oneCell']) ?_
 have hst := grown_setCells (g := G5) (#[.int .i64 (tt.length : Int), .int .i64 (r1 / gF r1 r2), .int .i64 (r2 / gF r1 r2), .int .i64 0, .int .i64 0, .int .i64 0, .slice none 0 0]).toList 9 _ (World.grownBy.refl w10 (some G5))
 replace o1 : OwnI _ _ _ _ := o1.apart k6 (by decide) hst
 replace o2 : OwnI _ _ _ _ := o2.apart k6 (by decide) hst
 replace k6 := blk_setCells (#[.int .i64 (tt.length : Int), .int .i64 (r1 / gF r1 r2), .int .i64 (r2 / gF r1 r2), .int .i64 0, .int .i64 0, .int .i64 0, .slice none 0 0]).toList 9 _ _ k6
 simp only [ov_last] at k6
 replace k4 := Blk.grown k4 hst (fun e => by injection e with e; omega)
 replace hB := hB.grown hst hB.size (fun q hq => by injection hq with hq; omega)
 replace kC : MtG _ g _ := Blk.grown kC hst (fun e => by injection e with e; omega)
 generalize World.setCells w10 _ _ _ = w11 at *
 clear hst
 go_upto_region 7 with fail
 refine wp_region_lit ?_
 refine wpList_load_row rfl _ rfl rfl k6 Tryz.underlying95 rfl (by kernel_rfl) ?_
 refine wpList_store_row rfl _ _ rfl rfl rfl rfl k4 (by kernel_rfl) rfl (by simp [Value.oneCell']) ?_
 replace o1 := o1.row k4 (by decide) #[.int .i64 (ka : Int), .int .i64 r1, .slice B1 fr.length p1, .int .i64 (kb : Int), .int .i64 r2, .slice B2 tt.length p2, .int .i64 (fr.length : Int), .int .i64 (tt.length : Int), .slice (some ⟨g, 0, none⟩) (fr.length * tt.length) (fr.length * tt.length), .int .i64 (tt.length : Int), .int .i64 (r1 / gF r1 r2), .int .i64 (r2 / gF r1 r2), .int .i64 0, .int .i64 0, .int .i64 0, .slice none 0 0]
 replace o2 := o2.row k4 (by decide) #[.int .i64 (ka : Int), .int .i64 r1, .slice B1 fr.length p1, .int .i64 (kb : Int), .int .i64 r2, .slice B2 tt.length p2, .int .i64 (fr.length : Int), .int .i64 (tt.length : Int), .slice (some ⟨g, 0, none⟩) (fr.length * tt.length) (fr.length * tt.length), .int .i64 (tt.length : Int), .int .i64 (r1 / gF r1 r2), .int .i64 (r2 / gF r1 r2), .int .i64 0, .int .i64 0, .int .i64 0, .slice none 0 0]
 replace kC : MtG _ g _ := Blk.row_far kC (cs' := #[.int .i64 (ka : Int), .int .i64 r1, .slice B1 fr.length p1, .int .i64 (kb : Int), .int .i64 r2, .slice B2 tt.length p2, .int .i64 (fr.length : Int), .int .i64 (tt.length : Int), .slice (some ⟨g, 0, none⟩) (fr.length * tt.length) (fr.length * tt.length), .int .i64 (tt.length : Int), .int .i64 (r1 / gF r1 r2), .int .i64 (r2 / gF r1 r2), .int .i64 0, .int .i64 0, .int .i64 0, .slice none 0 0]) (show g ≠ n4 by omega)
 replace k4 := k4.row (cs := #[.int .i64 (ka : Int), .int .i64 r1, .slice B1 fr.length p1, .int .i64 (kb : Int), .int .i64 r2, .slice B2 tt.length p2, .int .i64 (fr.length : Int), .int .i64 (tt.length : Int), .slice (some ⟨g, 0, none⟩) (fr.length * tt.length) (fr.length * tt.length), .int .i64 (tt.length : Int), .int .i64 (r1 / gF r1 r2), .int .i64 (r2 / gF r1 r2), .int .i64 0, .int .i64 0, .int .i64 0, .slice none 0 0])
 replace hB := below_row hB (show w.heap.size ≤ n4 by omega) #[.int .i64 (ka : Int), .int .i64 r1, .slice B1 fr.length p1, .int .i64 (kb : Int), .int .i64 r2, .slice B2 tt.length p2, .int .i64 (fr.length : Int), .int .i64 (tt.length : Int), .slice (some ⟨g, 0, none⟩) (fr.length * tt.length) (fr.length * tt.length), .int .i64 (tt.length : Int), .int .i64 (r1 / gF r1 r2), .int .i64 (r2 / gF r1 r2), .int .i64 0, .int .i64 0, .int .i64 0, .slice none 0 0]
 generalize World.setRow w11 _ _ = wz at *
 go_wp2
 refine bodyPost_ret (v := .tuple #[.agg #[.int .i64 (ka : Int), .int .i64 r1, .slice B1 fr.length p1, .int .i64 (kb : Int), .int .i64 r2, .slice B2 tt.length p2, .int .i64 (fr.length : Int), .int .i64 (tt.length : Int), .slice (some ⟨g, 0, none⟩) (fr.length * tt.length) (fr.length * tt.length), .int .i64 (tt.length : Int), .int .i64 (r1 / gF r1 r2), .int .i64 (r2 / gF r1 r2), .int .i64 0, .int .i64 0, .int .i64 0, .slice none 0 0], .int .i64 0]) ?_ rfl ⟨⟨B1, p1, B2, p2, g, rfl, hd, o1, o2, kC, by omega⟩, hB⟩
 have hl1 := run_loadVar_row (P := Tryz.prog) wz n4 95 95 #[.int .i64 (ka : Int), .int .i64 r1, .slice B1 fr.length p1, .int .i64 (kb : Int), .int .i64 r2, .slice B2 tt.length p2, .int .i64 (fr.length : Int), .int .i64 (tt.length : Int), .slice (some ⟨g, 0, none⟩) (fr.length * tt.length) (fr.length * tt.length), .int .i64 (tt.length : Int), .int .i64 (r1 / gF r1 r2), .int .i64 (r2 / gF r1 r2), .int .i64 0, .int .i64 0, .int .i64 0, .slice none 0 0] (0, 0) _ k4 Tryz.underlying95 rfl (by kernel_rfl)
 unfold results
 simp only [Tryz.results30]
 simp [asAddr, Act.put, hl1]
end Go.Proofs.YtbfdaojffffaaaaGreat

namespace Go.Proofs.YtbfdaojffffaaaaGreat
open Go.RowKit
theorem posK_steady (t : Int) (h0 : 0 ≤ t) (h1 : t ≤ 1048576) : posK [⟨0, 1, 1⟩] t = t := by
 unfold posK lastV
 rw [show pcsF 0 [⟨0, 1, 1⟩] = [⟨0, 1, 1, 1099511627776, 0⟩] from rfl, List.takeWhile_cons_of_pos (by simpa using h0)]
 simp only [List.takeWhile_nil, List.getLast?_singleton]
 omega
theorem ahead_steady (k : Int) : aheadF 1 0 0 k = k * 65536 := by unfold aheadF; omega
theorem posF_steady (k : Nat) : posF 1 1 0 0 k = k := by unfold posF; rw [ahead_steady]; omega
theorem fracF_steady (k : Nat) : fracF 1 1 0 0 k = 0 := by unfold fracF; rw [ahead_steady]; omega
theorem needF_steady (k : Nat) (hk : 1 ≤ k) : needF 1 1 0 0 (k : Int) = (k : Int) + 1 := by
 unfold needF
 rw [if_neg (by omega), ahead_steady, ahead_steady]
 omega
theorem adjF_steady (y : Int) : adjF 29 4 16 0 y = 0 := by
 unfold adjF
 split
 ·have : 0 ≤ max 0 (29 - y - 4) * 16 := Int.mul_nonneg (by omega) (by omega)
  omega
 ·have : 0 ≤ max 0 (y - 29 - 4) * 16 := Int.mul_nonneg (by omega) (by omega)
  omega
theorem outF_steady {ch fr k : Nat} {l : List Int} (hl : l.length = fr * ch) (hk : k < fr) : outF ch l 1 1 0 0 k = (l.drop (k * ch)).take ch := by
 unfold outF
 rw [posF_steady, fracF_steady]
 have hlen : (frmF ch l k).length = ch := frm_len hl hk
 have hf : frmF ch l k = (l.drop (k * ch)).take ch := rfl
 rw [← hf]
 apply List.ext_getElem?
 intro i
 by_cases hi : i < ch
 ·rw [List.getElem?_map, List.getElem?_range hi]
  simp only [Option.map_some]
  rw [mix_id (by decide), List.getD_eq_getElem?_getD, List.getElem?_eq_getElem (by omega)]
  rfl
 ·rw [List.getElem?_eq_none (by simp; omega), List.getElem?_eq_none (by omega)]
theorem outL_steady {ch fr : Nat} {l : List Int} (hl : l.length = fr * ch) : ∀ (m : Nat), m ≤ fr → outL ch l 1 1 0 0 m = l.take (m * ch)
 | 0, _ => by simp [outL]
 | m + 1, hm => by
  rw [outL, outL_steady hl m (by omega), outF_steady hl (by omega), Nat.add_mul, Nat.one_mul, List.take_add]
/-- A device with a steady clock that has passed p frames and holds l. -/
def stD (dir : Int) (mp : List Int) (p : Int) (l : List Int) : Dv := { opD dir mp with run := true, p := p, l := l }
theorem stD_ok {dir : Int} (hd : dir = 1 ∨ dir = 2) {mp : List Int} (hm : mp ∈ mapsL) {p : Int} (hp : 0 ≤ p ∧ p ≤ 1000000) {l : List Int} (hb : BlkOk mp.length 13 l) : OkDv (stD dir mp p l) := by
 obtain ⟨h1, ⟨r1, r2, r3, r4, r5, r6⟩, h3, h4, h5, h6, h7, h8, h9, h10, h11, h12⟩ := opD_ok hd hm
 exact ⟨h1, ⟨r1, r2, r3, r4, r5, r6⟩, h3, h4, h5, h6, (show okPh 1 1 0 p 0 = true from okPh_mk (by decide +kernel) (by decide) (by decide) ⟨by decide, by decide⟩ ⟨hp.1, by omega⟩ ⟨by decide, by decide⟩), ⟨13, hb, show 13 ≤ 37 by omega⟩, h9, h10, h11, h12⟩
set_option maxHeartbeats 4000000 in
theorem play_steady {mp : List Int} (hmp : mp ∈ mapsL) (D : Dv) (base : Nat → Prop) (S : Addr) (sc : Nat) (x l : List Int) (p f0 : Int) (w : World) (hD : MovDv (stD 1 mp p l) D) (h : InDv w base D) (hp : 0 ≤ p ∧ p ≤ 1000000) (hf : 0 ≤ f0 ∧ f0 ≤ 1000000) (hb : BlkOk mp.length 13 l) (hx : BlkOk mp.length 16 x) (hS : Sams w (some S) x) (hxc : x.length ≤ sc) :
 Calls Tryz.prog 12 #[.agg (dvA D), .agg #[.int .i64 (mp.length : Int), .slice (some S) x.length sc], .int .i64 f0, .int .i64 (f0 + 16)] w fun e w' => (∃ B b D2, e = .returned (.tuple #[.agg #[.int .i64 (mp.length : Int), .slice B (16 * mp.length) b], .int .i64 0, .int .i64 0, .agg (dvA D2), .int .i64 0]) ∧ MovDv (stD 1 mp (p + 16) ((l ++ x).drop (16 * mp.length))) D2 ∧ SaB w' (fun k => w.heap.size ≤ k) B ((l ++ x).take (16 * mp.length)) ∧ 16 * mp.length ≤ b ∧ InDv w' (fun k => base k ∨ w.heap.size ≤ k) D2) ∧ Grows w w' := by
 have hmv := hD
 obtain ⟨BA, bc, MA, mc, CA, cc, A, c, rfl⟩ := hD
 have ok := MovDv.ok hmv (stD_ok (dir := 1) (by omega) hmp hp hb)
 have hc1 := hb.c1
 have hLl : (l ++ x).length = 29 * mp.length := by rw [List.length_append, hb.len, hx.len]; omega
 have hz := play_any _ base S sc 13 16 16 x (l ++ x) 0 f0 (f0 + 16) w rfl opK_ok rfl hf.1 hf.1 (by omega) (by omega) (by rw [show (stD 1 mp p l).g = [⟨0, 1, 1⟩] from rfl, posK_steady _ (by omega) (by omega), posK_steady _ (by omega) (by omega)]; omega) h ok ?_ hb (show 13 + 16 ≤ 37 by omega) hx hS (by rw [hx.len]; omega) hxc rfl (adjF_steady _) (by omega) ?_ ?_
 ·refine hz.mono ?_
  rintro e w' ⟨⟨B, b, D2, A2, c2, rfl, hm2, rB, hmb, hin⟩, hg⟩
  have e1 : posF 1 1 0 0 16 = 16 := posF_steady 16
  have e2 : fracF 1 1 0 0 16 = 0 := fracF_steady 16
  have e3 : outL mp.length (l ++ x) 1 1 0 0 16 = (l ++ x).take (16 * mp.length) := outL_steady hLl 16 (by omega)
  obtain ⟨BA', bc', MA', mc', CA', cc', A', c', rfl⟩ := hm2
  refine ⟨⟨B, b, _, rfl, ?_, ?_, hmb, hin⟩, hg⟩
  ·exact ⟨BA', bc', MA', mc', CA', cc', A2, c2, by
    show Dv.mk _ _ _ _ _ _ _ _ _ _ _ _ _ _ _ _ _ _ _ _ _ _ _ _ _ 0 (p + ((posF 1 1 0 0 16 : Nat) : Int)) (fracF 1 1 0 0 16) A2 ((l ++ x).drop (posF 1 1 0 0 16 * mp.length)) c2 = _
    rw [e1, e2]
    rfl⟩
  ·rw [← e3]
   exact rB
 ·intro bx hbx
  rw [show (stD 1 mp p l).b = [opB mp] from rfl, List.mem_singleton] at hbx
  subst hbx
  exact Nat.le_refl _
 ·show needF 1 1 0 0 ((16 : Nat) : Int) ≤ _
  rw [needF_steady 16 (by omega)]
  omega
 ·show p + ((posF 1 1 0 0 16 : Nat) : Int) ≤ _
  rw [posF_steady]
  omega
set_option maxHeartbeats 4000000 in
theorem record_steady {mp : List Int} (hmp : mp ∈ mapsL) (D : Dv) (base : Nat → Prop) (S : Addr) (sc : Nat) (x l : List Int) (p f0 : Int) (w : World) (hD : MovDv (stD 2 mp p l) D) (h : InDv w base D) (hp : 0 ≤ p ∧ p ≤ 1000000) (hf : 0 ≤ f0 ∧ f0 ≤ 1000000) (hb : BlkOk mp.length 13 l) (hx : BlkOk mp.length 16 x) (hS : Sams w (some S) x) (hxc : x.length ≤ sc) :
 Calls Tryz.prog 20 #[.agg (dvA D), .agg #[.int .i64 (mp.length : Int), .slice (some S) x.length sc], .int .i64 16, .int .i64 f0, .int .i64 (f0 + 16)] w fun e w' => (∃ B b D2, e = .returned (.tuple #[.agg #[.int .i64 (mp.length : Int), .slice B (16 * mp.length) b], .int .i64 0, .int .i64 0, .agg (dvA D2), .int .i64 0]) ∧ MovDv (stD 2 mp (p + 16) ((l ++ x).drop (16 * mp.length))) D2 ∧ SaB w' (fun k => w.heap.size ≤ k) B ((l ++ x).take (16 * mp.length)) ∧ 16 * mp.length ≤ b ∧ InDv w' (fun k => base k ∨ w.heap.size ≤ k) D2) ∧ Grows w w' := by
 have hmv := hD
 obtain ⟨BA, bc, MA, mc, CA, cc, A, c, rfl⟩ := hD
 have ok := MovDv.ok hmv (stD_ok (dir := 2) (by omega) hmp hp hb)
 have hc1 := hb.c1
 have hLl : (l ++ x).length = 29 * mp.length := by rw [List.length_append, hb.len, hx.len]; omega
 have hz := record_any _ base S sc 13 16 16 x (l ++ x) 0 f0 (f0 + 16) w rfl opK_ok rfl hf.1 hf.1 (by omega) (by omega) (by rw [show (stD 2 mp p l).g = [⟨0, 1, 1⟩] from rfl, posK_steady _ (by omega) (by omega), posK_steady _ (by omega) (by omega)]; omega) h ok ?_ hb (show 13 + 16 ≤ 37 by omega) hx hS (by rw [hx.len]; omega) hxc rfl (adjF_steady _) (by omega) ?_ ?_
 ·refine hz.mono ?_
  rintro e w' ⟨⟨B, b, D2, A2, c2, rfl, hm2, rB, hmb, hin⟩, hg⟩
  have e1 : posF 1 1 0 0 16 = 16 := posF_steady 16
  have e2 : fracF 1 1 0 0 16 = 0 := fracF_steady 16
  have e3 : outL mp.length (l ++ x) 1 1 0 0 16 = (l ++ x).take (16 * mp.length) := outL_steady hLl 16 (by omega)
  obtain ⟨BA', bc', MA', mc', CA', cc', A', c', rfl⟩ := hm2
  refine ⟨⟨B, b, _, rfl, ?_, ?_, hmb, hin⟩, hg⟩
  ·exact ⟨BA', bc', MA', mc', CA', cc', A2, c2, by
    show Dv.mk _ _ _ _ _ _ _ _ _ _ _ _ _ _ _ _ _ _ _ _ _ _ _ _ _ 0 (p + ((posF 1 1 0 0 16 : Nat) : Int)) (fracF 1 1 0 0 16) A2 ((l ++ x).drop (posF 1 1 0 0 16 * mp.length)) c2 = _
    rw [e1, e2]
    rfl⟩
  ·rw [← e3]
   exact rB
 ·intro bx hbx
  rw [show (stD 2 mp p l).b = [opB mp] from rfl, List.mem_singleton] at hbx
  subst hbx
  exact Nat.le_refl _
 ·show needF 1 1 0 0 ((16 : Nat) : Int) ≤ _
  rw [needF_steady 16 (by omega)]
  omega
 ·show p + ((posF 1 1 0 0 16 : Nat) : Int) ≤ _
  rw [posF_steady]
  omega
end Go.Proofs.YtbfdaojffffaaaaGreat

namespace Go.Proofs.YtbfdaojffffaaaaGreat
open Go.RowKit
theorem dfill_any (D : Dv) (fr : Nat) (base : Nat → Prop) (w : World) (h : InDv w base D) (ok : OkDv D) (hb : BlkOk D.ch fr D.l) (hf : fr ≤ D.cap) : Calls Tryz.prog 15 #[.agg (brA D)] w fun e w' => e = .returned (.int .i64 (fr : Int)) ∧ Grows w w' :=
 bfill_any D.A D.c w ok.ct ok.ph hb h.l.1 ok.cap.1 ok.cap.2 hf
theorem zeros_blk (w : World) (n : Nat) (h1 : n ≤ 4000000) : ∃ w', (Instr.makeSlice 45 (.int .i64 (n : Int)) (.int .i64 (n : Int))).run Tryz.prog w = .ok (.slice (some ⟨w.heap.size, 0, none⟩) n n) w' ∧ Blk w' w.heap.size 21 (List.replicate n (Value.int .i32 0)).toArray ∧ w.grownBy w' none := by
 obtain ⟨i0, hi0, hi1, hi2, hi3, hi4⟩ := s32info
 obtain ⟨w', hrun, r1, r2⟩ := run_make_full (P := Tryz.prog) w w.heap.size 45 21 i0 _ 1 Tryz.underlying45 hi0 hi3 hi1 .i64 .i64 n (by rw [hi2]; omega) (by simp only [maxLen]; omega) (Nat.le_refl _)
 refine ⟨w', hrun, ?_, r2⟩
 have e : (Value.int .i32 0).cells = #[Value.int .i32 0] := rfl
 rw [e, toList_madeCells_one, Nat.mul_one] at r1
 rcases r1.2 with ⟨e1, -⟩ | ⟨g, cap, cur, e1, -, hh, hn, hx, hs, ht⟩
 ·simp at e1
 ·simp only [Value.slice.injEq, Option.some.injEq, Addr.mk.injEq] at e1
  obtain ⟨⟨rfl, -, -⟩, -, rfl⟩ := e1
  have : cur = (List.replicate n (Value.int .i32 0)).toArray := by
   rw [← ht, Nat.mul_one, List.take_of_length_le (by simp; omega)]
  rw [← this]
  exact hh
def awX : List Int := [5, 0, 0, 0, 0, 0, 0, 0, 0, 0, 0, 0, 0, 0, 0, 0]
def awO : List Int := [0, 0, 0, 0, 0, 0, 0, 0, 0, 0, 0, 0, 0, 5, 0, 0]
theorem awO_at (j : Nat) (hj : j ≤ 13) : awO[j]? = some (if j = 13 then 5 else 0) := by
 match j, hj with
 | 0, _ | 1, _ | 2, _ | 3, _ | 4, _ | 5, _ | 6, _ | 7, _ | 8, _ | 9, _ | 10, _ | 11, _ | 12, _ | 13, _ => rfl
set_option maxRecDepth 100000 in
set_option maxHeartbeats 60000000 in
theorem aware_any (w : World) : Calls Tryz.prog 6 #[] w fun e w' => e = .returned (.bool true) ∧ Grows w w' := by
 go_enter Tryz.func6, Tryz.ntmps6
 have hB := Below.refl w.heap.size w
 go_upto_region 1 with fail
 refine wp_region_lit ?_
 iterate 1
  refine wpList_plain rfl (fun K hK => ?_)
  go_simp
  refine hK _ _ ?_
  clear hK K
 have k0 := Blk.new w 3 #[.int .i64 3]
 replace hB := hB.alloc hB.size (Obj.cells #[.int .i64 3] 3)
 generalize hw1 : World.alloc w _ = w1 at *
 clear hw1
 have hi3 : InB w1 (fun k => k = w.heap.size) (some ⟨w.heap.size, 0, none⟩) [3] := rdb_blk (cs := #[.int .i64 3]) k0 rfl rfl
 refine wpList_plain rfl (fun K hK => ?_)
 go_simp
 refine (opened_any (.inl rfl) (m := [3]) (by decide) (some ⟨w.heap.size, 0, none⟩) 1 _ _ hi3 (by decide)).mono ?_
 rintro e w2 ⟨⟨D0, rfl, hmv, hin⟩, hq⟩
 refine hK _ _ ?_
 clear hK K
 have hz1 := k0.lt
 replace hB := below_grows hB (Nat.le_refl _) hq
 have hz2 := hB.size
 clear hq hi3 k0
 iterate 4
  refine wpList_plain rfl (fun K hK => ?_)
  go_simp
  refine hK _ _ ?_
  clear hK K
 have k1 := Blk.new w2 51 #[.int .u64 0, .string ⟨#[]⟩, .int .i64 0, .int .i64 0, .int .i64 0, .int .i64 0, .int .i64 0, .slice none 0 0, .int .i64 0, .int .i64 0, .slice none 0 0, .int .i64 0, .int .i64 0, .int .i64 0, .slice none 0 0, .bool false, .int .i64 0, .int .i64 0, .int .i64 0, .int .i64 0, .int .i64 0, .int .i64 0, .int .i64 0, .int .i64 0, .int .i64 0, .int .i64 0, .int .i64 0, .int .i64 0, .slice none 0 0, .int .i64 0, .int .i64 0]
 replace hin := hin.bd.grows ((Below.refl w2.heap.size w2).alloc (Nat.le_refl _) (Obj.cells #[.int .u64 0, .string ⟨#[]⟩, .int .i64 0, .int .i64 0, .int .i64 0, .int .i64 0, .int .i64 0, .slice none 0 0, .int .i64 0, .int .i64 0, .slice none 0 0, .int .i64 0, .int .i64 0, .int .i64 0, .slice none 0 0, .bool false, .int .i64 0, .int .i64 0, .int .i64 0, .int .i64 0, .int .i64 0, .int .i64 0, .int .i64 0, .int .i64 0, .int .i64 0, .int .i64 0, .int .i64 0, .int .i64 0, .slice none 0 0, .int .i64 0, .int .i64 0] 51))
 replace hB := hB.alloc hz2 (Obj.cells #[.int .u64 0, .string ⟨#[]⟩, .int .i64 0, .int .i64 0, .int .i64 0, .int .i64 0, .int .i64 0, .slice none 0 0, .int .i64 0, .int .i64 0, .slice none 0 0, .int .i64 0, .int .i64 0, .int .i64 0, .slice none 0 0, .bool false, .int .i64 0, .int .i64 0, .int .i64 0, .int .i64 0, .int .i64 0, .int .i64 0, .int .i64 0, .int .i64 0, .int .i64 0, .int .i64 0, .int .i64 0, .int .i64 0, .slice none 0 0, .int .i64 0, .int .i64 0] 51)
 generalize hn1 : w2.heap.size = n1 at *
 generalize World.alloc w2 _ = w3 at *
 refine wpList_store_row rfl _ _ rfl rfl rfl rfl k1 (dinfo _) rfl (dv_one _) ?_
 replace k1 := k1.row (cs := (dvA D0))
 replace hB := below_row hB (show w.heap.size ≤ n1 by omega) ((dvA D0))
 replace hin := (hin.row (g := n1) (fun hb => absurd hb.2 (by omega)) (dvA D0)).mono (b2 := fun k => k ≠ n1) (fun k hk => by have := hk.2; omega)
 generalize World.setRow w3 _ _ = w4 at *
 go_upto_region 2 with fail
 refine wp_region_lit ?_
 iterate 1
  refine wpList_plain rfl (fun K hK => ?_)
  go_simp
  refine hK _ _ ?_
  clear hK K
 have k2 := Blk.new w4 3 #[.int .i64 3]
 have hq0 := (Below.refl w4.heap.size w4).alloc (Nat.le_refl _) (Obj.cells #[.int .i64 3] 3)
 replace k1 := k1.grows hq0
 replace hin := hin.grows hq0
 replace hB := below_grows hB (Nat.le_refl _) hq0
 generalize hn2 : w4.heap.size = n2 at *
 generalize hw5 : World.alloc w4 _ = w5 at *
 clear hw5 hq0
 iterate 2
  refine wpList_plain rfl (fun K hK => ?_)
  go_simp
  refine hK _ _ ?_
  clear hK K
 have k3 := Blk.new w5 3 #[.int .i64 3]
 have hq0 := (Below.refl w5.heap.size w5).alloc (Nat.le_refl _) (Obj.cells #[.int .i64 3] 3)
 replace k1 := k1.grows hq0
 replace k2 := k2.grows hq0
 replace hin := hin.grows hq0
 replace hB := below_grows hB (Nat.le_refl _) hq0
 generalize hn3 : w5.heap.size = n3 at *
 generalize hw6 : World.alloc w5 _ = w6 at *
 clear hw6 hq0
 iterate 1
  refine wpList_plain rfl (fun K hK => ?_)
  go_simp
  refine hK _ _ ?_
  clear hK K
 have hi2 : InB w6 (fun _ => True) (some ⟨n2, 0, none⟩) [3] := rdb_blk (cs := #[.int .i64 3]) k2 rfl trivial
 have hi3 : InB w6 (fun _ => True) (some ⟨n3, 0, none⟩) [3] := rdb_blk (cs := #[.int .i64 3]) k3 rfl trivial
 refine wpList_plain rfl (fun K hK => ?_)
 go_simp
 refine (cnew_any 1 1 (by decide) (by decide) 8000 8000 (by decide) (by decide) (some ⟨n2, 0, none⟩) (some ⟨n3, 0, none⟩) 1 1 [3] [3] _ hi2.ints hi3.ints (by decide) (by decide) (by decide) (by decide)).mono ?_
 rintro e w7 ⟨⟨B1, p1, B2, p2, g, rfl, -⟩, hq⟩
 refine hK _ _ ?_
 clear hK K
 replace k1 := k1.grows hq
 replace hin := hin.grows hq
 replace hB := below_grows hB (Nat.le_refl _) hq
 clear hq hi2 hi3 k2 k3
 iterate 3
  refine wpList_plain rfl (fun K hK => ?_)
  go_simp
  refine hK _ _ ?_
  clear hK K
 have hz1 := k1.lt
 have k4 := Blk.new w7 95 #[.int .i64 0, .int .i64 0, .slice none 0 0, .int .i64 0, .int .i64 0, .slice none 0 0, .int .i64 0, .int .i64 0, .slice none 0 0, .int .i64 0, .int .i64 0, .int .i64 0, .int .i64 0, .int .i64 0, .int .i64 0, .slice none 0 0]
 replace k1 := k1.alloc (Obj.cells #[.int .i64 0, .int .i64 0, .slice none 0 0, .int .i64 0, .int .i64 0, .slice none 0 0, .int .i64 0, .int .i64 0, .slice none 0 0, .int .i64 0, .int .i64 0, .int .i64 0, .int .i64 0, .int .i64 0, .int .i64 0, .slice none 0 0] 95)
 replace hin := hin.bd.grows ((Below.refl w7.heap.size w7).alloc (Nat.le_refl _) (Obj.cells #[.int .i64 0, .int .i64 0, .slice none 0 0, .int .i64 0, .int .i64 0, .slice none 0 0, .int .i64 0, .int .i64 0, .slice none 0 0, .int .i64 0, .int .i64 0, .int .i64 0, .int .i64 0, .int .i64 0, .int .i64 0, .slice none 0 0] 95))
 replace hB := hB.alloc hB.size (Obj.cells #[.int .i64 0, .int .i64 0, .slice none 0 0, .int .i64 0, .int .i64 0, .slice none 0 0, .int .i64 0, .int .i64 0, .slice none 0 0, .int .i64 0, .int .i64 0, .int .i64 0, .int .i64 0, .int .i64 0, .int .i64 0, .slice none 0 0] 95)
 iterate 1
  refine wpList_plain rfl (fun K hK => ?_)
  go_simp
  refine hK _ _ ?_
  clear hK K
 generalize hn4 : w7.heap.size = n4 at *
 generalize World.alloc w7 _ = w8 at *
 refine wpList_store_row rfl _ _ rfl rfl rfl rfl k4 (by kernel_rfl) rfl (by simp [Value.oneCell']) ?_
 generalize hw9 : World.setRow w8 _ _ = w9
 replace k1 : Blk w9 n1 51 (dvA D0) := by rw [← hw9]; exact k1.row_far (show n1 ≠ n4 by omega)
 replace hin : InDv w9 (fun k => k ≠ n1) D0 := by rw [← hw9]; exact (hin.row (g := n4) (fun hb => absurd hb.2 (by omega)) _).mono (fun k hk => hk.1)
 replace hB : Below w.heap.size w w9 := by rw [← hw9]; exact below_row hB (show w.heap.size ≤ n4 by omega) _
 clear hw9
 clear k4
 have ok0 := hmv.ok (stD_ok (.inl rfl) (mp := [3]) (by decide) (p := 0) (by decide) (l := List.replicate 13 0) (zeros_ok (ch := 1) (fr := 13) (by decide) (by decide) (by decide)))
 have hb0 : BlkOk D0.ch 13 D0.l := by
  obtain ⟨_, _, _, _, _, _, _, _, rfl⟩ := hmv
  exact zeros_ok (ch := 1) (fr := 13) (by decide) (by decide) (by decide)
 have hc0 : 13 ≤ D0.cap := by
  obtain ⟨_, _, _, _, _, _, _, _, rfl⟩ := hmv
  exact (show 13 ≤ 37 by omega)
 go_upto_region 3 with fail
 refine wp_region_lit ?_
 iterate 1
  refine wpList_plain rfl (fun K hK => ?_)
  go_simp
  refine hK _ _ ?_
  clear hK K
 refine wpList_load_part rfl _ rfl (A := ⟨n1, 17, none⟩) rfl (k1.part (br_part D0)) Tryz.underlying49 rfl brinfo ?_
 refine wpList_plain rfl (fun K hK => ?_)
 go_simp
 refine (dfill_any D0 13 _ _ hin ok0 hb0 hc0).mono ?_
 rintro e w10 ⟨rfl, hq⟩
 refine hK _ _ ?_
 clear hK K
 replace k1 := k1.grows hq
 replace hin := hin.grows hq
 replace hB := below_grows hB (Nat.le_refl _) hq
 clear hq hb0 hc0 ok0
 go_upto_region 4 with fail
 refine wp_region_lit ?_
 obtain ⟨w11, hrun, k6, hgr⟩ := zeros_blk w10 16 (by omega)
 refine wpList_make_run rfl (.const (.int .i64 16)) (.const (.int .i64 16)) 45 rfl rfl rfl hrun ?_
 have hz1 := k1.lt
 replace k1 := k1.grown hgr (by simp)
 replace hin := hin.bd.grown hgr (fun g e => by cases e)
 replace hB := hB.grown hgr hB.size (fun g e => by cases e)
 clear hgr hrun
 generalize hn6 : w10.heap.size = n6 at *
 iterate 1
  refine wpList_plain rfl (fun K hK => ?_)
  go_simp
  refine hK _ _ ?_
  clear hK K
 have z1 := k1.lt
 have z6 := k6.lt
 have k7 := Blk.new w11 60 #[.int .i64 0, .slice none 0 0]
 have hq0 := (Below.refl w11.heap.size w11).alloc (Nat.le_refl _) (Obj.cells #[.int .i64 0, .slice none 0 0] 60)
 replace k1 := k1.grows hq0
 replace k6 := k6.grows hq0
 replace hin := hin.bd.grows hq0
 replace hB := below_grows hB (Nat.le_refl _) hq0
 clear hq0
 iterate 1
  refine wpList_plain rfl (fun K hK => ?_)
  go_simp
  refine hK _ _ ?_
  clear hK K
 generalize hn7 : w11.heap.size = n7 at *
 generalize World.alloc w11 _ = w12 at *
 refine wpList_store_row rfl _ _ rfl rfl rfl rfl k7 b60info rfl (by simp [Value.oneCell']) ?_
 replace k1 := k1.row_far (cs' := #[.int .i64 1, .slice (some ⟨n6, 0, none⟩) 16 16]) (show n1 ≠ n7 by omega)
 replace k6 := k6.row_far (cs' := #[.int .i64 1, .slice (some ⟨n6, 0, none⟩) 16 16]) (show n6 ≠ n7 by omega)
 replace hin := (hin.row (g := n7) (fun hb => absurd hb.2 (by omega)) #[.int .i64 1, .slice (some ⟨n6, 0, none⟩) 16 16]).mono (b2 := fun k => k ≠ n1 ∧ k < n6) (fun k hk => ⟨hk.1.1, hk.1.2⟩)
 replace k7 := k7.row (cs := #[.int .i64 1, .slice (some ⟨n6, 0, none⟩) 16 16])
 replace hB := below_row hB (show w.heap.size ≤ n7 by omega) #[.int .i64 1, .slice (some ⟨n6, 0, none⟩) 16 16]
 generalize World.setRow w12 _ _ = w13 at *
 have y1 := (show _ = some ((.slice (some ⟨n6, 0, none⟩) 16 16) : Value) from k7.cell 1)
 have x6 := (show _ = some ((.int .i32 0) : Value) from k6.cell 0)
 have f6 := k6.frozen 0
 go_upto_region 6 with fail
 clear y1 x6 f6
 replace k1 := k1.far (p := ⟨n6, 0, none⟩) (by simp only; omega) (.int .i32 5)
 replace k7 := k7.far (p := ⟨n6, 0, none⟩) (by simp only; omega) (.int .i32 5)
 replace hB := hB.setCell (p := ⟨n6, 0, none⟩) (by simp only; omega) (.int .i32 5)
 have hst := d_only_set (World.grownBy.refl w13 (some n6)) 0 (.int .i32 5)
 replace hin := hin.grown hst (fun g e => by injection e with e; subst e; exact fun h => absurd h.2 (by omega))
 replace k6 : Blk (w13.setCell ⟨n6, 0, none⟩ (.int .i32 5)) n6 21 (awX.map (Value.int .i32)).toArray := k6.set_ 0 (.int .i32 5)
 generalize World.setCell w13 _ _ = w14 at *
 clear hst
 have hS : Sams w14 (some ⟨n6, 0, none⟩) awX := (rdb_blk (n := 16) (size := 1) (base := fun _ => True) k6 rfl trivial).1
 have hbx : BlkOk 1 16 awX := ⟨by decide, by decide, rfl, by decide, by decide⟩
 have hbl : BlkOk 1 13 (List.replicate 13 0) := zeros_ok (ch := 1) (fr := 13) (by decide) (by decide) (by decide)
 have hpl : ∀ w1, Grows w14 w1 → Calls Tryz.prog 12 #[.agg (dvA D0), .agg #[.int .i64 1, .slice (some ⟨n6, 0, none⟩) 16 16], .int .i64 0, .int .i64 16] w1 fun e w' => (∃ B b D2, e = .returned (.tuple #[.agg #[.int .i64 1, .slice B 16 b], .int .i64 0, .int .i64 0, .agg (dvA D2), .int .i64 0]) ∧ SaB w' (fun k => w1.heap.size ≤ k) B awO ∧ 16 ≤ b) ∧ Grows w1 w' := fun w1 hg => by
  refine (play_steady (mp := [3]) (by decide) D0 _ ⟨n6, 0, none⟩ 16 awX (List.replicate 13 0) 0 0 w1 hmv (hin.grows hg) (by decide) (by decide) hbl hbx (hS.grows hg) (by decide)).mono ?_
  rintro e w' ⟨⟨B, b, D2, rfl, hm2, rB, hmb, -⟩, hg'⟩
  exact ⟨⟨B, b, D2, rfl, rB, hmb⟩, hg'⟩
 clear hmv hin hS hbx hbl k6
 go_upto_region 6 with fail
 have z71 := k1.lt
 have z77 := k7.lt
 go_wp2_with fail
 go_loopw [7] (fun i wr => i = .int .i64 0 ∧ wr = w14) (fun _ _ => 0)
 case atStart => exact ⟨rfl, rfl⟩
 case round =>
  obtain ⟨rfl, rfl⟩ := hrel
  go_upto_region 9 with fail
  refine wp_region_lit ?_
  refine wpList_load_row rfl _ rfl rfl k1 Tryz.underlying51 rfl (dinfo _) ?_
  refine wpList_load_row rfl _ rfl rfl k7 Tryz.underlying60 rfl b60info ?_
  refine wpList_plain rfl (fun K hK => ?_)
  go_simp
  refine hK _ _ ?_
  clear hK K
  refine wpList_plain rfl (fun K hK => ?_)
  go_simp
  refine hK _ _ ?_
  clear hK K
  refine wpList_plain rfl (fun K hK => ?_)
  go_simp
  refine hK _ _ ?_
  clear hK K
  refine wpList_plain rfl (fun K hK => ?_)
  go_simp
  refine hK _ _ ?_
  clear hK K
  refine wpList_plain rfl (fun K hK => ?_)
  go_simp
  refine hK _ _ ?_
  clear hK K
  refine wpList_plain rfl (fun K hK => ?_)
  go_simp
  refine (hpl _ (Below.refl _ _)).mono ?_
  rintro e w15 ⟨⟨B, b, D2, rfl, rB, hmb⟩, hq⟩
  refine hK _ _ ?_
  clear hK K
  replace k1 := k1.grows hq
  replace k7 := k7.grows hq
  replace hB := below_grows hB (Nat.le_refl _) hq
  have hqs := hq.size
  clear hq
  clear hpl
  refine wpList_plain rfl (fun K hK => ?_)
  go_simp
  refine hK _ _ ?_
  clear hK K
  refine wpList_plain rfl (fun K hK => ?_)
  go_simp
  refine hK _ _ ?_
  clear hK K
  refine wpList_plain rfl (fun K hK => ?_)
  go_simp
  refine hK _ _ ?_
  clear hK K
  refine wpList_plain rfl (fun K hK => ?_)
  go_simp
  refine hK _ _ ?_
  clear hK K
  refine wpList_plain rfl (fun K hK => ?_)
  go_simp
  refine hK _ _ ?_
  clear hK K
  refine wpList_plain rfl (fun K hK => ?_)
  go_simp
  refine hK _ _ ?_
  clear hK K
  have k8 := Blk.new w15 60 #[.int .i64 0, .slice none 0 0]
  have k11 := blk_new_at (X := w15.alloc (Obj.cells #[.int .i64 0, .slice none 0 0] 60)) (n := w15.heap.size + 1) (t := 51) (cs := #[.int .u64 0, .string ⟨#[]⟩, .int .i64 0, .int .i64 0, .int .i64 0, .int .i64 0, .int .i64 0, .slice none 0 0, .int .i64 0, .int .i64 0, .slice none 0 0, .int .i64 0, .int .i64 0, .int .i64 0, .slice none 0 0, .bool false, .int .i64 0, .int .i64 0, .int .i64 0, .int .i64 0, .int .i64 0, .int .i64 0, .int .i64 0, .int .i64 0, .int .i64 0, .int .i64 0, .int .i64 0, .int .i64 0, .slice none 0 0, .int .i64 0, .int .i64 0]) (by simp)
  replace k8 := k8.alloc (Obj.cells #[.int .u64 0, .string ⟨#[]⟩, .int .i64 0, .int .i64 0, .int .i64 0, .int .i64 0, .int .i64 0, .slice none 0 0, .int .i64 0, .int .i64 0, .slice none 0 0, .int .i64 0, .int .i64 0, .int .i64 0, .slice none 0 0, .bool false, .int .i64 0, .int .i64 0, .int .i64 0, .int .i64 0, .int .i64 0, .int .i64 0, .int .i64 0, .int .i64 0, .int .i64 0, .int .i64 0, .int .i64 0, .int .i64 0, .slice none 0 0, .int .i64 0, .int .i64 0] 51)
  have hq0 := ((Below.refl w15.heap.size w15).alloc (Nat.le_refl _) (Obj.cells #[.int .i64 0, .slice none 0 0] 60)).alloc (by simp) (Obj.cells #[.int .u64 0, .string ⟨#[]⟩, .int .i64 0, .int .i64 0, .int .i64 0, .int .i64 0, .int .i64 0, .slice none 0 0, .int .i64 0, .int .i64 0, .slice none 0 0, .int .i64 0, .int .i64 0, .int .i64 0, .slice none 0 0, .bool false, .int .i64 0, .int .i64 0, .int .i64 0, .int .i64 0, .int .i64 0, .int .i64 0, .int .i64 0, .int .i64 0, .int .i64 0, .int .i64 0, .int .i64 0, .int .i64 0, .slice none 0 0, .int .i64 0, .int .i64 0] 51)
  have rC := (RdB.bd rB).grows hq0
  replace hB := below_grows hB (Nat.le_refl _) hq0
  clear hq0 rB
  iterate 2
   refine wpList_plain rfl (fun K hK => ?_)
   go_simp
   refine hK _ _ ?_
   clear hK K
  generalize hn8 : w15.heap.size = n8 at *
  generalize hn11 : n8 + 1 = n11 at *
  generalize World.alloc (World.alloc w15 _) _ = w16 at *
  refine wpList_store_row rfl _ _ rfl rfl rfl rfl k8 b60info rfl (by simp [Value.oneCell']) ?_
  replace k11 := k11.row_far (cs' := #[.int .i64 1, .slice B 16 b]) (show n11 ≠ n8 by omega)
  replace rC := rC.row (g := n8) (fun hb => absurd hb.2 (by omega)) #[.int .i64 1, .slice B 16 b]
  replace k8 := k8.row (cs := #[.int .i64 1, .slice B 16 b])
  have hz14 := hB.size
  have hzz : w.heap.size ≤ n8 := by omega
  replace hB := below_row hB hzz #[.int .i64 1, .slice B 16 b]
  generalize World.setRow w16 _ _ = w17 at *
  iterate 2
   refine wpList_plain rfl (fun K hK => ?_)
   go_simp
   refine hK _ _ ?_
   clear hK K
  refine wpList_store_row rfl _ _ rfl rfl rfl rfl k11 (dinfo _) rfl (dv_one _) ?_
  replace k8 := k8.row_far (cs' := dvA D2) (show n8 ≠ n11 by omega)
  replace rC := rC.row (g := n11) (fun hb => absurd hb.2 (by omega)) (dvA D2)
  replace hB := below_row hB (show w.heap.size ≤ n11 by omega) (dvA D2)
  generalize World.setRow w17 _ _ = w18 at *
  clear k11
  have y1 := (show _ = some ((.slice B 16 b) : Value) from k8.cell 1)
  have hS : Sams w18 B awO := rC.1
  go_wp2_with fail
  clear y1
  go_loopw [62] (fun i wr => ∃ j : Nat, j ≤ 13 ∧ i = .int .i64 j ∧ wr = w18) (fun i _ => 16 - (intOf i).toNat)
  case atStart => exact ⟨0, by omega, rfl, rfl⟩
  case round =>
   obtain ⟨j, hj, rfl, rfl⟩ := hrel
   obtain ⟨ad, x, rfl, had, hx, q0⟩ := hS.at_ (show j < 16 by omega)
   rw [awO_at j hj] at hx
   injection hx with hx
   have e0 : decide ((j : Int) < 16) = true := by simp only [decide_eq_true_iff]; omega
   have e0' : decide (j < 16) = true := by simp only [decide_eq_true_iff]; omega
   have c0 : (0 : Int) ≤ (j : Int) := by omega
   have c1 : (j : Int) < 16 := by omega
   by_cases h13 : j = 13
   ·rw [if_pos h13] at hx
    subst hx
    have wj0 : IntKind.i64.wrap (j : Int) = (j : Int) := IntWalk.i64_in _ (by omega)
    have dj : ((j : Int) == 13) = true := by simp; omega
    clear h13
    go_wp2
    go_ret
    exact ⟨rfl, hB⟩
   ·rw [if_neg h13] at hx
    subst hx
    have wj : IntKind.i64.wrap ((j : Int) + 1) = (j : Int) + 1 := IntWalk.i64_in _ (by omega)
    go_wp2
    go_roundw
    case rel => exact ⟨j + 1, by omega, by go_num, (by first | rfl | trivial)⟩
    case measure => simp [intOf] <;> omega
end Go.Proofs.YtbfdaojffffaaaaGreat

namespace Go.Proofs.YtbfdaojffffaaaaGreat
open Go.RowKit
set_option maxRecDepth 100000 in
set_option maxHeartbeats 8000000 in
theorem r4is_any (x : Int) (w : World) (h1 : -8388608 ≤ x) (h2 : x ≤ 8388607) : Calls Tryz.prog 134 #[.int .i32 x] w fun e w' => e = .returned (.bool true) ∧ Grows w w' := by
 have d1 : decide (-8388608 ≤ x) = true := by simp only [decide_eq_true_iff]; omega
 have d2 : decide (x ≤ 8388607) = true := by simp only [decide_eq_true_iff]; omega
 go_enter Tryz.func134, Tryz.ntmps134
 go_wp2
 go_ret
 exact ⟨rfl, Below.refl _ _⟩
set_option maxRecDepth 100000 in
set_option maxHeartbeats 8000000 in
theorem r4valid_any (A : Option Addr) (c : Nat) {ch fr : Nat} {l : List Int} (w : World) (hb : BlkOk ch fr l) (h : Sams w A l) : Calls Tryz.prog 52 #[.agg #[.int .i64 (ch : Int), .slice A l.length c]] w fun e w' => e = .returned (.bool true) ∧ Grows w w' := by
 obtain ⟨t1, t2⟩ := hb.div
 have hs := Lib.hid hb.s
 have hlen := hb.len
 have hb1 := hb.c1
 have hb2 := hb.c2
 have hb3 := hb.f
 have hl8 := hb.le
 clear hlen hb
 have t3 : ((ch : Int) == 0) = false := by simp; omega
 have t4 : ¬ (ch : Int) = 0 := by omega
 have t5 : ¬ (ch : Int) = -1 := by omega
 have wf : IntKind.i64.wrap (fr : Int) = (fr : Int) := IntWalk.i64_in _ (by omega)
 have wz : IntKind.i64.wrap 0 = 0 := by decide
 have d1 : decide ((ch : Int) < 1) = false := by simp only [decide_eq_false_iff_not]; omega
 have d2 : decide (8 < (ch : Int)) = false := by simp only [decide_eq_false_iff_not]; omega
 have d3 : decide (65536 < (fr : Int)) = false := by simp only [decide_eq_false_iff_not]; omega
 go_enter Tryz.func52, Tryz.ntmps52
 go_wp2_with fail
 have hB := (Below.refl w.heap.size w).alloc (Nat.le_refl _) (Obj.cells #[.int .i64 (ch : Int), .slice A l.length c] 60)
 generalize World.alloc w _ = w0 at *
 clear t1 t2 t3 t4 t5 wf wz d1 d2 d3
 go_loopw [34] (fun i wr => ∃ k : Nat, k ≤ l.length ∧ i = .int .i64 k ∧ Grows w wr) (fun i _ => l.length - (intOf i).toNat)
 case atStart => exact ⟨0, by omega, rfl, hB⟩
 case round =>
  clear hB
  obtain ⟨k, hk, rfl, hB⟩ := hrel
  by_cases hlt : k < l.length
  ·obtain ⟨ad, x, rfl, had, hx, q0⟩ := (h.grows hB).at_ hlt
   obtain ⟨x1, x2⟩ := hs.out x (List.mem_of_getElem? hx)
   clear hx
   go_wp2_with fail
   refine (r4is_any x _ x1 x2).mono ?_
   rintro e w1 ⟨rfl, hq⟩
   replace hB := below_grows hB (Nat.le_refl _) hq
   clear hq q0
   go_wp2
   go_roundw
   case rel => exact ⟨k + 1, by omega, by go_num, hB⟩
   case measure => simp [intOf]; omega
  ·go_wp2
   go_ret
   exact ⟨rfl, hB⟩
set_option maxRecDepth 100000 in
set_option maxHeartbeats 8000000 in
theorem r4silence_any (ch fr : Nat) (w : World) (h1 : 1 ≤ ch) (h2 : ch ≤ 8) (h3 : fr ≤ 65536) : Calls Tryz.prog 18 #[.int .i64 ch, .int .i64 fr] w fun e w' => (∃ A, e = .returned (.tuple #[.agg #[.int .i64 (ch : Int), .slice A (fr * ch) (fr * ch)], .int .i64 0]) ∧ OwnS w' w.heap.size (.slice A (fr * ch) (fr * ch)) (List.replicate (fr * ch) 0)) ∧ Grows w w' := by
 have hle : fr * ch ≤ 65536 * 8 := Nat.mul_le_mul h3 h2
 have hm : IntKind.i64.wrap ((ch : Int) * (fr : Int)) = ((fr * ch : Nat) : Int) := by
  rw [← Int.natCast_mul, Nat.mul_comm ch fr]
  exact IntWalk.i64_in _ (by omega)
 generalize fr * ch = n at *
 have d1 : decide ((ch : Int) < 1) = false := by simp only [decide_eq_false_iff_not]; omega
 have d2 : decide (8 < (ch : Int)) = false := by simp only [decide_eq_false_iff_not]; omega
 have d3 : decide ((fr : Int) < 0) = false := by simp only [decide_eq_false_iff_not]; omega
 have d4 : decide (65536 < (fr : Int)) = false := by simp only [decide_eq_false_iff_not]; omega
 go_enter Tryz.func18, Tryz.ntmps18
 have hB := (Below.refl w.heap.size w).alloc (Nat.le_refl _) (Obj.cells #[.int .i64 0, .slice none 0 0] 60)
 have k4 := Blk.new w 60 #[.int .i64 0, .slice none 0 0]
 go_upto_region 3 with fail
 generalize World.alloc w _ = w1 at *
 refine wp_region_lit ?_
 iterate 4
  refine wpList_plain rfl (fun K hK => ?_)
  go_simp
  refine hK _ _ ?_
  clear hK K
 obtain ⟨w2, hrun, hown, hgr⟩ := zeros_made w1 w1.heap.size n (by omega) (Nat.le_refl _)
 refine wpList_make_run rfl (.tmp 24) (.tmp 24) 45 rfl rfl rfl hrun ?_
 have hlt := k4.lt
 replace k4 := k4.grown hgr (by simp)
 replace hB := hB.grown hgr hB.size (fun g e => by cases e)
 clear hgr hrun
 have x4 := k4.cell
 have f4 := k4.frozen
 go_wp2
 have hB2 := (hB.setCell (p := ⟨w.heap.size, 0, none⟩) (by simp) (.int .i64 (ch : Int))).setCell (p := ⟨w.heap.size, 1, none⟩) (by simp) (.slice (some ⟨w1.heap.size, 0, none⟩) n n)
 have ho2 := (hown.far (p := ⟨w.heap.size, 0, none⟩) (by simp; omega) (.int .i64 (ch : Int))).far (p := ⟨w.heap.size, 1, none⟩) (by simp; omega) (.slice (some ⟨w1.heap.size, 0, none⟩) n n)
 refine bodyPost_ret (v := .tuple #[.agg #[.int .i64 (ch : Int), .slice (some ⟨w1.heap.size, 0, none⟩) n n], .int .i64 0]) (by simp [results, Tryz.results18, go_sem, x4]) rfl ⟨⟨_, rfl, ho2.mono (by omega)⟩, hB2⟩
theorem gr_append_s32 {o : Oper} {ev : Operand → Value} {w : World} {T : Value → World → Prop} (s x : Operand) (ho : o.op = .call { callee := .builtin .append, args := #[s, x], argTypes := #[45, 45] })
 {base : Nat} {v : Value} {l m : List Int} {A : Option Addr} {c n : Nat} (hn : n = m.length) (hs : ev s = v) (hown : OwnS w base v l) (hx : ev x = .slice A n c) (hr : Sams w A m) (hlen : l.length + m.length ≤ 1000000) (hbase : base ≤ w.heap.size)
 (h : ∀ v' w', OwnS w' base v' (l ++ m) → w.grownBy w' v.ownBlock → (v'.ownBlock = v.ownBlock ∨ v'.ownBlock = some w.heap.size) → T v' w') : genR Tryz.prog T ((execOp ev o).run Tryz.prog w) := by
 obtain ⟨i0, hi0, hi1, hi2, hi3, hi4⟩ := s32info
 subst hn
 obtain ⟨v', w', hrun, h2, h3, h4⟩ := run_append_any (P := Tryz.prog) w base 45 o.type 21 i0 _ 1 4 Tryz.underlying45 hi0 hi3 hi1 hi2 hi4 (by omega) v l.length (l.map (Value.int .i32)) hown w.heap.size A m.length c (m.map (Value.int .i32)) hr (sams_one m) (by simp only [maxLen]; omega) (by omega) hbase
 unfold execOp
 simp only [ho, resolve, invoke, builtin, Sem.run_bind, Sem.run_pure, Result.andThen_ok, List.map_toArray, List.map_cons, List.map_nil, hs, hx, hrun]
 refine h v' w' ?_ h3 h4
 unfold OwnS
 rw [List.map_append, List.length_append]
 exact h2
set_option maxRecDepth 100000 in
set_option maxHeartbeats 20000000 in
theorem r4frames_any (A : Option Addr) (c : Nat) {ch fr : Nat} {l : List Int} (w : World) (hb : BlkOk ch fr l) (h : Sams w A l) : Calls Tryz.prog 14 #[.agg #[.int .i64 (ch : Int), .slice A l.length c]] w fun e w' => e = .returned (.int .i64 (fr : Int)) ∧ Grows w w' := by
 have hv := fun w1 (hg : Grows w w1) => r4valid_any A c w1 hb (h.grows hg)
 have hdiv := hb.div.1
 have hc1 := hb.c1
 have hfr := hb.f
 have t4 : ¬ (ch : Int) = 0 := by omega
 have wf : IntKind.i64.wrap (fr : Int) = (fr : Int) := IntWalk.i64_in _ (by omega)
 clear hb h
 go_enter Tryz.func14, Tryz.ntmps14
 have hB := (Below.refl w.heap.size w).alloc (Nat.le_refl _) (Obj.cells #[.int .i64 (ch : Int), .slice A l.length c] 60)
 have k1 := Blk.new w 60 #[.int .i64 (ch : Int), .slice A l.length c]
 go_upto_region 1 with fail
 generalize hw1 : World.alloc w _ = w1 at *
 clear hw1
 refine wp_region_lit ?_
 refine wpList_load_row rfl _ rfl rfl k1 Tryz.underlying60 rfl b60info ?_
 refine wpList_plain rfl (fun K hK => ?_)
 go_simp
 refine (hv _ hB).mono ?_
 rintro e w2 ⟨rfl, hq⟩
 refine hK _ _ ?_
 clear hK K
 replace k1 := k1.grows hq
 replace hB := below_grows hB (Nat.le_refl _) hq
 clear hq
 have y0 := (show _ = some ((.int .i64 (ch : Int)) : Value) from k1.cell 0)
 have y1 := (show _ = some ((.slice A l.length c) : Value) from k1.cell 1)
 go_wp2
 go_ret
 exact ⟨rfl, hB⟩
set_option maxRecDepth 100000 in
set_option maxHeartbeats 20000000 in
theorem r4join_any (ch ch2 : Nat) (A B : Option Addr) (ca cb : Nat) (a b ab : List Int) (hab : a ++ b = ab) (w : World) (ha : Sams w A a) (hb : Sams w B b) (hla : a.length ≤ 400000) (hlb : b.length ≤ 400000) : Calls Tryz.prog 21 #[.agg #[.int .i64 (ch : Int), .slice A a.length ca], .agg #[.int .i64 (ch2 : Int), .slice B b.length cb]] w fun e w' => (∃ C c, e = .returned (.agg #[.int .i64 (ch : Int), .slice C ab.length c]) ∧ ab.length ≤ c ∧ OwnS w' w.heap.size (.slice C ab.length c) ab) ∧ Grows w w' := by
 have HAB := Lib.hid hab
 clear hab
 go_enter Tryz.func21, Tryz.ntmps21
 have hB := (((Below.refl w.heap.size w).alloc (Nat.le_refl _) (Obj.cells #[.int .i64 (ch : Int), .slice A a.length ca] 60)).alloc (by simp <;> omega) (Obj.cells #[.int .i64 (ch2 : Int), .slice B b.length cb] 60)).alloc (by simp <;> omega) (Obj.cells #[.int .i64 0, .slice none 0 0] 60)
 have k2 := ((Blk.new w 60 #[.int .i64 (ch : Int), .slice A a.length ca]).alloc (Obj.cells #[.int .i64 (ch2 : Int), .slice B b.length cb] 60)).alloc (Obj.cells #[.int .i64 0, .slice none 0 0] 60)
 have k3 := (blk_new_at (X := (w.alloc (Obj.cells #[.int .i64 (ch : Int), .slice A a.length ca] 60))) (n := w.heap.size + 1) (t := 60) (cs := #[.int .i64 (ch2 : Int), .slice B b.length cb]) (by simp)).alloc (Obj.cells #[.int .i64 0, .slice none 0 0] 60)
 have k4 := blk_new_at (X := ((w.alloc (Obj.cells #[.int .i64 (ch : Int), .slice A a.length ca] 60)).alloc (Obj.cells #[.int .i64 (ch2 : Int), .slice B b.length cb] 60))) (n := w.heap.size + 1 + 1) (t := 60) (cs := #[.int .i64 0, .slice none 0 0]) (by simp)
 go_upto_region 1 with fail
 generalize hn3 : w.heap.size + 1 = n3 at *
 generalize hn4 : n3 + 1 = n4 at *
 generalize World.alloc (World.alloc (World.alloc w _) _) _ = w1 at *
 obtain ⟨S, HI, HO⟩ := hideS fun (L : Ran) (vs : Nat → Value) (w' : World) => Below w.heap.size w w' ∧ Blk w' w.heap.size 60 #[.int .i64 (ch : Int), .slice A a.length ca] ∧ Blk w' n3 60 #[.int .i64 (ch2 : Int), .slice B b.length cb] ∧ (L 9 = false → Blk w' n4 60 #[.int .i64 0, .slice none 0 0]) ∧ (L 9 = true → ∃ C7 c7, Blk w' n4 60 #[.int .i64 (ch : Int), .slice C7 ab.length c7] ∧ ab.length ≤ c7 ∧ OwnS w' w.heap.size (.slice C7 ab.length c7) ab) ∧ (L 7 = true → L 4 = true) ∧ (L 8 = true → L 4 = true) ∧ (L 8 = true → L 7 = true) ∧ (L 9 = true → L 4 = true) ∧ (L 9 = true → L 7 = true) ∧ (L 4 = true → ∃ C c, vs 4 = .slice C a.length c ∧ a.length ≤ c ∧ (L 7 = false → OwnS w' w.heap.size (.slice C a.length c) a)) ∧ (L 7 = true → ∃ C c, vs 7 = .slice C ab.length c ∧ ab.length ≤ c ∧ OwnS w' w.heap.size (.slice C ab.length c) ab) ∧ (L 8 = true → ∃ C c, vs 8 = .agg #[.int .i64 (ch : Int), .slice C ab.length c] ∧ ab.length ≤ c ∧ OwnS w' w.heap.size (.slice C ab.length c) ab) ∧ KnS [some (.pointer (some ⟨w.heap.size, 0, none⟩)), some (.int .i64 (ch : Int)), some (.pointer (some ⟨w.heap.size, 1, none⟩)), some (.slice A a.length ca), none, some (.pointer (some ⟨n3, 1, none⟩)), some (.slice B b.length cb), none, none, some (undef)] L vs
 refine wp_region_genU S 14 (by kernel_rfl) (by kernel_rfl) rfl ?_ ?_
 ·exact HI.out _ _ _ ⟨hB.drew, k2.drew, k3.drew, fun _ => k4.drew, (fun e => by cases e), (fun e => by cases e), (fun e => by cases e), (fun e => by cases e), (fun e => by cases e), (fun e => by cases e), (fun e => by cases e), (fun e => by cases e), (fun e => by cases e), kn_none _ _⟩
 refine gen_consR (fun vs L w1 hL hw1 => ?_) ?_
 ·obtain ⟨h0, h1, h2, a9, b9, o7_4, o8_4, o8_7, o9_4, o9_7, d4, d7, d8, q⟩ := HO.out _ _ _ hw1
  refine gen_plain rfl ?_
  go_simp
  exact gr_val (HI.out _ _ _ ⟨h0, h1, h2, fun e => (a9 (upd_ne e (by decide))), (fun e => by obtain ⟨C9, c9, kb9, hc9, o9⟩ := (b9 (upd_ne e (by decide))); exact ⟨C9, c9, kb9, hc9, o9⟩), (fun e => (o7_4 (upd_ne e (by decide)))), (fun e => (o8_4 (upd_ne e (by decide)))), (fun e => (o8_7 (upd_ne e (by decide)))), (fun e => (o9_4 (upd_ne e (by decide)))), (fun e => (o9_7 (upd_ne e (by decide)))), (fun e => by obtain ⟨C4, c4, f4, hc4, o4⟩ := (d4 (upd_ne e (by decide))); exact ⟨C4, c4, f4, hc4, fun e7 => (o4 (upd_ne e7 (by decide)))⟩), (fun e => by obtain ⟨C7, c7, f7, hc7, o7⟩ := (d7 (upd_ne e (by decide))); exact ⟨C7, c7, f7, hc7, o7⟩), (fun e => by obtain ⟨C8, c8, f8, hc8, o8⟩ := (d8 (upd_ne e (by decide))); exact ⟨C8, c8, f8, hc8, o8⟩), kn_known q rfl⟩)
 refine gen_consR (fun vs L w1 hL hw1 => ?_) ?_
 ·obtain ⟨h0, h1, h2, a9, b9, o7_4, o8_4, o8_7, o9_4, o9_7, d4, d7, d8, q⟩ := HO.out _ _ _ hw1
  have l0 : L 0 = true := hL.need 0 (by kernel_rfl)
  have e0 := q 0 _ rfl l0
  have xc := (show _ = some ((.int .i64 (ch : Int)) : Value) from h1.cell 0)
  refine gen_plain rfl ?_
  simp only [e0]
  go_simp
  exact gr_val (HI.out _ _ _ ⟨h0, h1, h2, fun e => (a9 (upd_ne e (by decide))), (fun e => by obtain ⟨C9, c9, kb9, hc9, o9⟩ := (b9 (upd_ne e (by decide))); exact ⟨C9, c9, kb9, hc9, o9⟩), (fun e => (o7_4 (upd_ne e (by decide)))), (fun e => (o8_4 (upd_ne e (by decide)))), (fun e => (o8_7 (upd_ne e (by decide)))), (fun e => (o9_4 (upd_ne e (by decide)))), (fun e => (o9_7 (upd_ne e (by decide)))), (fun e => by obtain ⟨C4, c4, f4, hc4, o4⟩ := (d4 (upd_ne e (by decide))); exact ⟨C4, c4, f4, hc4, fun e7 => (o4 (upd_ne e7 (by decide)))⟩), (fun e => by obtain ⟨C7, c7, f7, hc7, o7⟩ := (d7 (upd_ne e (by decide))); exact ⟨C7, c7, f7, hc7, o7⟩), (fun e => by obtain ⟨C8, c8, f8, hc8, o8⟩ := (d8 (upd_ne e (by decide))); exact ⟨C8, c8, f8, hc8, o8⟩), kn_known q rfl⟩)
 refine gen_consR (fun vs L w1 hL hw1 => ?_) ?_
 ·obtain ⟨h0, h1, h2, a9, b9, o7_4, o8_4, o8_7, o9_4, o9_7, d4, d7, d8, q⟩ := HO.out _ _ _ hw1
  refine gen_plain rfl ?_
  go_simp
  exact gr_val (HI.out _ _ _ ⟨h0, h1, h2, fun e => (a9 (upd_ne e (by decide))), (fun e => by obtain ⟨C9, c9, kb9, hc9, o9⟩ := (b9 (upd_ne e (by decide))); exact ⟨C9, c9, kb9, hc9, o9⟩), (fun e => (o7_4 (upd_ne e (by decide)))), (fun e => (o8_4 (upd_ne e (by decide)))), (fun e => (o8_7 (upd_ne e (by decide)))), (fun e => (o9_4 (upd_ne e (by decide)))), (fun e => (o9_7 (upd_ne e (by decide)))), (fun e => by obtain ⟨C4, c4, f4, hc4, o4⟩ := (d4 (upd_ne e (by decide))); exact ⟨C4, c4, f4, hc4, fun e7 => (o4 (upd_ne e7 (by decide)))⟩), (fun e => by obtain ⟨C7, c7, f7, hc7, o7⟩ := (d7 (upd_ne e (by decide))); exact ⟨C7, c7, f7, hc7, o7⟩), (fun e => by obtain ⟨C8, c8, f8, hc8, o8⟩ := (d8 (upd_ne e (by decide))); exact ⟨C8, c8, f8, hc8, o8⟩), kn_known q rfl⟩)
 refine gen_consR (fun vs L w1 hL hw1 => ?_) ?_
 ·obtain ⟨h0, h1, h2, a9, b9, o7_4, o8_4, o8_7, o9_4, o9_7, d4, d7, d8, q⟩ := HO.out _ _ _ hw1
  have l2 : L 2 = true := hL.need 2 (by kernel_rfl)
  have e2 := q 2 _ rfl l2
  have xc := (show _ = some ((.slice A a.length ca) : Value) from h1.cell 1)
  refine gen_plain rfl ?_
  simp only [e2]
  go_simp
  exact gr_val (HI.out _ _ _ ⟨h0, h1, h2, fun e => (a9 (upd_ne e (by decide))), (fun e => by obtain ⟨C9, c9, kb9, hc9, o9⟩ := (b9 (upd_ne e (by decide))); exact ⟨C9, c9, kb9, hc9, o9⟩), (fun e => (o7_4 (upd_ne e (by decide)))), (fun e => (o8_4 (upd_ne e (by decide)))), (fun e => (o8_7 (upd_ne e (by decide)))), (fun e => (o9_4 (upd_ne e (by decide)))), (fun e => (o9_7 (upd_ne e (by decide)))), (fun e => by obtain ⟨C4, c4, f4, hc4, o4⟩ := (d4 (upd_ne e (by decide))); exact ⟨C4, c4, f4, hc4, fun e7 => (o4 (upd_ne e7 (by decide)))⟩), (fun e => by obtain ⟨C7, c7, f7, hc7, o7⟩ := (d7 (upd_ne e (by decide))); exact ⟨C7, c7, f7, hc7, o7⟩), (fun e => by obtain ⟨C8, c8, f8, hc8, o8⟩ := (d8 (upd_ne e (by decide))); exact ⟨C8, c8, f8, hc8, o8⟩), kn_known q rfl⟩)
 refine gen_consR (fun vs L w1 hL hw1 => ?_) ?_
 ·obtain ⟨h0, h1, h2, a9, b9, o7_4, o8_4, o8_7, o9_4, o9_7, d4, d7, d8, q⟩ := HO.out _ _ _ hw1
  have l3 : L 3 = true := hL.need 3 (by kernel_rfl)
  have e3 := q 3 _ rfl l3
  refine gen_plain rfl ?_
  simp only [e3]
  have hown := ownS_nil w1 w.heap.size
  refine gr_append_s32 _ _ rfl (hn := rfl) rfl hown rfl (ha.grows (show Grows w w1 from h0)) (by simp <;> omega) h0.size (fun v' w' hown' hgr hv' => ?_)
  obtain ⟨A', c', rfl, hc', -⟩ := hown'.read
  exact HI.out _ _ _ ⟨OwnS.below hown h0 hgr h0.size, OwnS.blk hown h1 (by decide) hgr, OwnS.blk hown h2 (by decide) hgr, fun e => OwnS.blk hown (a9 (upd_ne e (by decide))) (by decide) hgr, (fun e => by obtain ⟨C9, c9, kb9, hc9, o9⟩ := (b9 (upd_ne e (by decide))); exact absurd (o9_4 (upd_ne e (by decide))) (by rw [hL.1]; decide)), fun _ => upd_eq, fun _ => upd_eq, (fun e => (o8_7 (upd_ne e (by decide)))), fun _ => upd_eq, (fun e => (o9_7 (upd_ne e (by decide)))), (fun _ => ⟨A', c', rfl, hc', fun _ => hown'⟩), (fun e => by obtain ⟨C7, c7, f7, hc7, o7⟩ := (d7 (upd_ne e (by decide))); exact absurd (o7_4 (upd_ne e (by decide))) (by rw [hL.1]; decide)), (fun e => by obtain ⟨C8, c8, f8, hc8, o8⟩ := (d8 (upd_ne e (by decide))); exact absurd (o8_4 (upd_ne e (by decide))) (by rw [hL.1]; decide)), kn_free q rfl⟩
 refine gen_consR (fun vs L w1 hL hw1 => ?_) ?_
 ·obtain ⟨h0, h1, h2, a9, b9, o7_4, o8_4, o8_7, o9_4, o9_7, d4, d7, d8, q⟩ := HO.out _ _ _ hw1
  refine gen_plain rfl ?_
  go_simp
  exact gr_val (HI.out _ _ _ ⟨h0, h1, h2, fun e => (a9 (upd_ne e (by decide))), (fun e => by obtain ⟨C9, c9, kb9, hc9, o9⟩ := (b9 (upd_ne e (by decide))); exact ⟨C9, c9, kb9, hc9, o9⟩), (fun e => (o7_4 (upd_ne e (by decide)))), (fun e => (o8_4 (upd_ne e (by decide)))), (fun e => (o8_7 (upd_ne e (by decide)))), (fun e => (o9_4 (upd_ne e (by decide)))), (fun e => (o9_7 (upd_ne e (by decide)))), (fun e => by obtain ⟨C4, c4, f4, hc4, o4⟩ := (d4 (upd_ne e (by decide))); exact ⟨C4, c4, f4, hc4, fun e7 => (o4 (upd_ne e7 (by decide)))⟩), (fun e => by obtain ⟨C7, c7, f7, hc7, o7⟩ := (d7 (upd_ne e (by decide))); exact ⟨C7, c7, f7, hc7, o7⟩), (fun e => by obtain ⟨C8, c8, f8, hc8, o8⟩ := (d8 (upd_ne e (by decide))); exact ⟨C8, c8, f8, hc8, o8⟩), kn_known q rfl⟩)
 refine gen_consR (fun vs L w1 hL hw1 => ?_) ?_
 ·obtain ⟨h0, h1, h2, a9, b9, o7_4, o8_4, o8_7, o9_4, o9_7, d4, d7, d8, q⟩ := HO.out _ _ _ hw1
  have l5 : L 5 = true := hL.need 5 (by kernel_rfl)
  have e5 := q 5 _ rfl l5
  have xc := (show _ = some ((.slice B b.length cb) : Value) from h2.cell 1)
  refine gen_plain rfl ?_
  simp only [e5]
  go_simp
  exact gr_val (HI.out _ _ _ ⟨h0, h1, h2, fun e => (a9 (upd_ne e (by decide))), (fun e => by obtain ⟨C9, c9, kb9, hc9, o9⟩ := (b9 (upd_ne e (by decide))); exact ⟨C9, c9, kb9, hc9, o9⟩), (fun e => (o7_4 (upd_ne e (by decide)))), (fun e => (o8_4 (upd_ne e (by decide)))), (fun e => (o8_7 (upd_ne e (by decide)))), (fun e => (o9_4 (upd_ne e (by decide)))), (fun e => (o9_7 (upd_ne e (by decide)))), (fun e => by obtain ⟨C4, c4, f4, hc4, o4⟩ := (d4 (upd_ne e (by decide))); exact ⟨C4, c4, f4, hc4, fun e7 => (o4 (upd_ne e7 (by decide)))⟩), (fun e => by obtain ⟨C7, c7, f7, hc7, o7⟩ := (d7 (upd_ne e (by decide))); exact ⟨C7, c7, f7, hc7, o7⟩), (fun e => by obtain ⟨C8, c8, f8, hc8, o8⟩ := (d8 (upd_ne e (by decide))); exact ⟨C8, c8, f8, hc8, o8⟩), kn_known q rfl⟩)
 refine gen_consR (fun vs L w1 hL hw1 => ?_) ?_
 ·obtain ⟨h0, h1, h2, a9, b9, o7_4, o8_4, o8_7, o9_4, o9_7, d4, d7, d8, q⟩ := HO.out _ _ _ hw1
  have l4 : L 4 = true := hL.need 4 (by kernel_rfl)
  have l6 : L 6 = true := hL.need 6 (by kernel_rfl)
  have e6 := q 6 _ rfl l6
  obtain ⟨C, c, e4, hc, ho4⟩ := d4 l4
  have ho := ho4 hL.1
  refine gen_plain rfl ?_
  simp only [e6, e4]
  have hown := ho
  refine gr_append_s32 _ _ rfl (hn := rfl) rfl hown rfl (hb.grows (show Grows w w1 from h0)) (by omega) h0.size (fun v' w' hown' hgr hv' => ?_)
  rw [HAB.out] at hown'
  obtain ⟨A', c', rfl, hc', -⟩ := hown'.read
  exact HI.out _ _ _ ⟨OwnS.below hown h0 hgr h0.size, OwnS.blk hown h1 (by decide) hgr, OwnS.blk hown h2 (by decide) hgr, fun e => OwnS.blk hown (a9 (upd_ne e (by decide))) (by decide) hgr, (fun e => by obtain ⟨C9, c9, kb9, hc9, o9⟩ := (b9 (upd_ne e (by decide))); exact absurd (o9_7 (upd_ne e (by decide))) (by rw [hL.1]; decide)), fun _ => (show L 4 = true from hL.need 4 (by kernel_rfl)), (fun e => (o8_4 (upd_ne e (by decide)))), fun _ => upd_eq, (fun e => (o9_4 (upd_ne e (by decide)))), fun _ => upd_eq, (fun e => by obtain ⟨C4, c4, f4, hc4, o4⟩ := (d4 (upd_ne e (by decide))); exact ⟨C4, c4, f4, hc4, (fun e7 => by rw [upd_eq] at e7; cases e7)⟩), (fun _ => ⟨A', c', rfl, hc', hown'⟩), (fun e => by obtain ⟨C8, c8, f8, hc8, o8⟩ := (d8 (upd_ne e (by decide))); exact absurd (o8_7 (upd_ne e (by decide))) (by rw [hL.1]; decide)), kn_free q rfl⟩
 refine gen_consR (fun vs L w1 hL hw1 => ?_) ?_
 ·obtain ⟨h0, h1, h2, a9, b9, o7_4, o8_4, o8_7, o9_4, o9_7, d4, d7, d8, q⟩ := HO.out _ _ _ hw1
  have l1 : L 1 = true := hL.need 1 (by kernel_rfl)
  have e1 := q 1 _ rfl l1
  have l7 : L 7 = true := hL.need 7 (by kernel_rfl)
  obtain ⟨C, c, e7, hc, ho⟩ := d7 l7
  refine gen_plain rfl ?_
  simp only [e1, e7]
  go_simp
  exact gr_val (HI.out _ _ _ ⟨h0, h1, h2, fun e => (a9 (upd_ne e (by decide))), (fun e => by obtain ⟨C9, c9, kb9, hc9, o9⟩ := (b9 (upd_ne e (by decide))); exact ⟨C9, c9, kb9, hc9, o9⟩), (fun e => (o7_4 (upd_ne e (by decide)))), fun _ => (show L 4 = true from hL.need 4 (by kernel_rfl)), fun _ => (show L 7 = true from hL.need 7 (by kernel_rfl)), (fun e => (o9_4 (upd_ne e (by decide)))), (fun e => (o9_7 (upd_ne e (by decide)))), (fun e => by obtain ⟨C4, c4, f4, hc4, o4⟩ := (d4 (upd_ne e (by decide))); exact ⟨C4, c4, f4, hc4, fun e7 => (o4 (upd_ne e7 (by decide)))⟩), (fun e => by obtain ⟨C7, c7, f7, hc7, o7⟩ := (d7 (upd_ne e (by decide))); exact ⟨C7, c7, f7, hc7, o7⟩), (fun _ => ⟨C, c, rfl, hc, ho⟩), kn_free q rfl⟩)
 refine gen_consR (fun vs L w1 hL hw1 => ?_) ?_
 ·obtain ⟨h0, h1, h2, a9, b9, o7_4, o8_4, o8_7, o9_4, o9_7, d4, d7, d8, q⟩ := HO.out _ _ _ hw1
  have l8 : L 8 = true := hL.need 8 (by kernel_rfl)
  obtain ⟨C, c, e8, hc, ho⟩ := d8 l8
  refine gen_plain rfl ?_
  simp only [e8]
  have kk := a9 hL.1
  refine gr_strow (cs := #[.int .i64 (ch : Int), .slice C ab.length c]) _ _ rfl rfl rfl kk b60info rfl (by simp [Value.oneCell']) ?_
  have hnew : ∃ C7 c7, Blk (w1.setRow n4 #[.int .i64 (ch : Int), .slice C ab.length c]) n4 60 #[.int .i64 (ch : Int), .slice C7 ab.length c7] ∧ ab.length ≤ c7 ∧ OwnS (w1.setRow n4 #[.int .i64 (ch : Int), .slice C ab.length c]) w.heap.size (.slice C7 ab.length c7) ab := ⟨C, c, kk.row, hc, ho.row kk (by decide) _⟩
  exact HI.out _ _ _ ⟨below_row h0 (g := n4) (by omega) _, h1.row_far (by omega), h2.row_far (by omega), (fun e => by rw [upd_eq] at e; cases e), fun _ => hnew, (fun e => (o7_4 (upd_ne e (by decide)))), (fun e => (o8_4 (upd_ne e (by decide)))), (fun e => (o8_7 (upd_ne e (by decide)))), fun _ => (show L 4 = true from hL.need 4 (by kernel_rfl)), fun _ => (show L 7 = true from hL.need 7 (by kernel_rfl)), (fun e => by obtain ⟨C4, c4, f4, hc4, o4⟩ := (d4 (upd_ne e (by decide))); exact ⟨C4, c4, f4, hc4, fun e7 => (o4 (upd_ne e7 (by decide))).row kk (by decide) _⟩), (fun e => by obtain ⟨C7, c7, f7, hc7, o7⟩ := (d7 (upd_ne e (by decide))); exact ⟨C7, c7, f7, hc7, o7.row kk (by decide) _⟩), (fun e => by obtain ⟨C8, c8, f8, hc8, o8⟩ := (d8 (upd_ne e (by decide))); exact ⟨C8, c8, f8, hc8, o8.row kk (by decide) _⟩), kn_known q rfl⟩
 refine gen_nil ?_
 intro vs L w5 hall hS
 obtain ⟨h0, h1, h2, a9, b9, o7_4, o8_4, o8_7, o9_4, o9_7, d4, d7, d8, q⟩ := HO.out _ _ _ hS
 replace b9 := b9 (hall 9 (by simp))
 have e0 := q 0 _ rfl (hall 0 (by simp))
 have e1 := q 1 _ rfl (hall 1 (by simp))
 have e2 := q 2 _ rfl (hall 2 (by simp))
 have e3 := q 3 _ rfl (hall 3 (by simp))
 have e5 := q 5 _ rfl (hall 5 (by simp))
 have e6 := q 6 _ rfl (hall 6 (by simp))
 clear hall hS HI HO q a9 d4 d7 d8 o7_4 o8_4 o8_7 o9_4 o9_7
 simp only [e0, e1, e2, e3, e5, e6]
 clear e0 e1 e2 e3 e5 e6
 obtain ⟨C, c, k4, hc, ho⟩ := b9
 go_wp2
 refine bodyPost_ret (v := .agg #[.int .i64 (ch : Int), .slice C ab.length c]) ?_ rfl ⟨⟨C, c, rfl, hc, ho⟩, h0⟩
 have xr := k4.cell
 simp [results, Tryz.results21, go_sem, xr]
set_option maxRecDepth 100000 in
set_option maxHeartbeats 20000000 in
theorem r4cut_any (ch fr n : Nat) (ad : Addr) (c : Nat) (l ltq : List Int) (w : World) (hlt0 : l.take (n * ch) = ltq) (hb : BlkOk ch fr l) (hn : n ≤ fr) (hc : l.length ≤ c) (h : Sams w (some ad) l) : Calls Tryz.prog 60 #[.agg #[.int .i64 (ch : Int), .slice (some ad) l.length c], .int .i64 0, .int .i64 (n : Int)] w fun e w' => (∃ C p, e = .returned (.agg #[.int .i64 (ch : Int), .slice C ltq.length p]) ∧ ltq.length ≤ p ∧ OwnS w' w.heap.size (.slice C ltq.length p) ltq) ∧ Grows w w' := by
 have hle := hb.le
 have hq : n * ch ≤ l.length := by rw [hb.len]; exact Nat.mul_le_mul_right _ hn
 have hlt := sams_take h hq
 rw [hlt0] at hlt
 obtain ⟨q, eq⟩ : ∃ q, n * ch = q := ⟨_, rfl⟩
 have hqn : q = ltq.length := by rw [← hlt0, List.length_take, eq]; omega
 have wm : IntKind.i64.wrap ((n : Int) * (ch : Int)) = (q : Int) := by rw [← Int.natCast_mul, eq]; exact IntWalk.i64_in _ (by omega)
 rw [eq] at hq
 have hqc : q ≤ c := by omega
 have hq4 : ltq.length ≤ 600000 := by omega
 replace hqn := Lib.hid hqn
 clear eq hlt0 hb hn h
 go_enter Tryz.func60, Tryz.ntmps60
 have hB := ((Below.refl w.heap.size w).alloc (Nat.le_refl _) (Obj.cells #[.int .i64 (ch : Int), .slice (some ad) l.length c] 60)).alloc (by simp <;> omega) (Obj.cells #[.int .i64 0, .slice none 0 0] 60)
 have k3 := (Blk.new w 60 #[.int .i64 (ch : Int), .slice (some ad) l.length c]).alloc (Obj.cells #[.int .i64 0, .slice none 0 0] 60)
 have k6 := blk_new_at (X := (w.alloc (Obj.cells #[.int .i64 (ch : Int), .slice (some ad) l.length c] 60))) (n := w.heap.size + 1) (t := 60) (cs := #[.int .i64 0, .slice none 0 0]) (by simp)
 go_upto_region 1 with fail
 generalize hn6 : w.heap.size + 1 = n6 at *
 generalize World.alloc (World.alloc w _) _ = w1 at *
 obtain ⟨S, HI, HO⟩ := hideS fun (L : Ran) (vs : Nat → Value) (w' : World) => Below w.heap.size w w' ∧ Blk w' w.heap.size 60 #[.int .i64 (ch : Int), .slice (some ad) l.length c] ∧ (L 15 = false → Blk w' n6 60 #[.int .i64 0, .slice none 0 0]) ∧ (L 15 = true → ∃ C7 c7, Blk w' n6 60 #[.int .i64 (ch : Int), .slice C7 ltq.length c7] ∧ ltq.length ≤ c7 ∧ OwnS w' w.heap.size (.slice C7 ltq.length c7) ltq) ∧ (L 14 = true → L 13 = true) ∧ (L 15 = true → L 13 = true) ∧ (L 13 = true → ∃ C c, vs 13 = .slice C ltq.length c ∧ ltq.length ≤ c ∧ OwnS w' w.heap.size (.slice C ltq.length c) ltq) ∧ (L 14 = true → ∃ C c, vs 14 = .agg #[.int .i64 (ch : Int), .slice C ltq.length c] ∧ ltq.length ≤ c ∧ OwnS w' w.heap.size (.slice C ltq.length c) ltq) ∧ KnS [some (.pointer (some ⟨w.heap.size, 0, none⟩)), some (.int .i64 (ch : Int)), some (.pointer (some ⟨w.heap.size, 1, none⟩)), some (.slice (some ad) l.length c), some (.int .i64 0), some (.pointer (some ⟨w.heap.size, 0, none⟩)), some (.int .i64 (ch : Int)), some (.int .i64 0), some (.int .i64 (n : Int)), some (.pointer (some ⟨w.heap.size, 0, none⟩)), some (.int .i64 (ch : Int)), some (.int .i64 (q : Int)), some (.slice (some ad) q c), none, none, some (undef)] L vs
 refine wp_region_genU S 22 (by kernel_rfl) (by kernel_rfl) rfl ?_ ?_
 ·exact HI.out _ _ _ ⟨hB.drew, k3.drew, fun _ => k6.drew, (fun e => by cases e), (fun e => by cases e), (fun e => by cases e), (fun e => by cases e), (fun e => by cases e), kn_none _ _⟩
 refine gen_consR (fun vs L w1 hL hw1 => ?_) ?_
 ·obtain ⟨h0, h1, a15, b15, o14_13, o15_13, d13, d14, q⟩ := HO.out _ _ _ hw1
  refine gen_plain rfl ?_
  go_simp
  exact gr_val (HI.out _ _ _ ⟨h0, h1, fun e => (a15 (upd_ne e (by decide))), (fun e => by obtain ⟨C9, c9, kb9, hc9, o9⟩ := (b15 (upd_ne e (by decide))); exact ⟨C9, c9, kb9, hc9, o9⟩), (fun e => (o14_13 (upd_ne e (by decide)))), (fun e => (o15_13 (upd_ne e (by decide)))), (fun e => by obtain ⟨C7, c7, f7, hc7, o7⟩ := (d13 (upd_ne e (by decide))); exact ⟨C7, c7, f7, hc7, o7⟩), (fun e => by obtain ⟨C8, c8, f8, hc8, o8⟩ := (d14 (upd_ne e (by decide))); exact ⟨C8, c8, f8, hc8, o8⟩), kn_known q rfl⟩)
 refine gen_consR (fun vs L w1 hL hw1 => ?_) ?_
 ·obtain ⟨h0, h1, a15, b15, o14_13, o15_13, d13, d14, q⟩ := HO.out _ _ _ hw1
  have l0 : L 0 = true := hL.need 0 (by kernel_rfl)
  have e0 := q 0 _ rfl l0
  have xc := (show _ = some ((.int .i64 (ch : Int)) : Value) from h1.cell 0)
  refine gen_plain rfl ?_
  simp only [e0]
  go_simp
  exact gr_val (HI.out _ _ _ ⟨h0, h1, fun e => (a15 (upd_ne e (by decide))), (fun e => by obtain ⟨C9, c9, kb9, hc9, o9⟩ := (b15 (upd_ne e (by decide))); exact ⟨C9, c9, kb9, hc9, o9⟩), (fun e => (o14_13 (upd_ne e (by decide)))), (fun e => (o15_13 (upd_ne e (by decide)))), (fun e => by obtain ⟨C7, c7, f7, hc7, o7⟩ := (d13 (upd_ne e (by decide))); exact ⟨C7, c7, f7, hc7, o7⟩), (fun e => by obtain ⟨C8, c8, f8, hc8, o8⟩ := (d14 (upd_ne e (by decide))); exact ⟨C8, c8, f8, hc8, o8⟩), kn_known q rfl⟩)
 refine gen_consR (fun vs L w1 hL hw1 => ?_) ?_
 ·obtain ⟨h0, h1, a15, b15, o14_13, o15_13, d13, d14, q⟩ := HO.out _ _ _ hw1
  refine gen_plain rfl ?_
  go_simp
  exact gr_val (HI.out _ _ _ ⟨h0, h1, fun e => (a15 (upd_ne e (by decide))), (fun e => by obtain ⟨C9, c9, kb9, hc9, o9⟩ := (b15 (upd_ne e (by decide))); exact ⟨C9, c9, kb9, hc9, o9⟩), (fun e => (o14_13 (upd_ne e (by decide)))), (fun e => (o15_13 (upd_ne e (by decide)))), (fun e => by obtain ⟨C7, c7, f7, hc7, o7⟩ := (d13 (upd_ne e (by decide))); exact ⟨C7, c7, f7, hc7, o7⟩), (fun e => by obtain ⟨C8, c8, f8, hc8, o8⟩ := (d14 (upd_ne e (by decide))); exact ⟨C8, c8, f8, hc8, o8⟩), kn_known q rfl⟩)
 refine gen_consR (fun vs L w1 hL hw1 => ?_) ?_
 ·obtain ⟨h0, h1, a15, b15, o14_13, o15_13, d13, d14, q⟩ := HO.out _ _ _ hw1
  have l2 : L 2 = true := hL.need 2 (by kernel_rfl)
  have e2 := q 2 _ rfl l2
  have xc := (show _ = some ((.slice (some ad) l.length c) : Value) from h1.cell 1)
  refine gen_plain rfl ?_
  simp only [e2]
  go_simp
  exact gr_val (HI.out _ _ _ ⟨h0, h1, fun e => (a15 (upd_ne e (by decide))), (fun e => by obtain ⟨C9, c9, kb9, hc9, o9⟩ := (b15 (upd_ne e (by decide))); exact ⟨C9, c9, kb9, hc9, o9⟩), (fun e => (o14_13 (upd_ne e (by decide)))), (fun e => (o15_13 (upd_ne e (by decide)))), (fun e => by obtain ⟨C7, c7, f7, hc7, o7⟩ := (d13 (upd_ne e (by decide))); exact ⟨C7, c7, f7, hc7, o7⟩), (fun e => by obtain ⟨C8, c8, f8, hc8, o8⟩ := (d14 (upd_ne e (by decide))); exact ⟨C8, c8, f8, hc8, o8⟩), kn_known q rfl⟩)
 refine gen_consR (fun vs L w1 hL hw1 => ?_) ?_
 ·obtain ⟨h0, h1, a15, b15, o14_13, o15_13, d13, d14, q⟩ := HO.out _ _ _ hw1
  refine gen_plain rfl ?_
  go_simp
  exact gr_val (HI.out _ _ _ ⟨h0, h1, fun e => (a15 (upd_ne e (by decide))), (fun e => by obtain ⟨C9, c9, kb9, hc9, o9⟩ := (b15 (upd_ne e (by decide))); exact ⟨C9, c9, kb9, hc9, o9⟩), (fun e => (o14_13 (upd_ne e (by decide)))), (fun e => (o15_13 (upd_ne e (by decide)))), (fun e => by obtain ⟨C7, c7, f7, hc7, o7⟩ := (d13 (upd_ne e (by decide))); exact ⟨C7, c7, f7, hc7, o7⟩), (fun e => by obtain ⟨C8, c8, f8, hc8, o8⟩ := (d14 (upd_ne e (by decide))); exact ⟨C8, c8, f8, hc8, o8⟩), kn_known q rfl⟩)
 refine gen_consR (fun vs L w1 hL hw1 => ?_) ?_
 ·obtain ⟨h0, h1, a15, b15, o14_13, o15_13, d13, d14, q⟩ := HO.out _ _ _ hw1
  refine gen_plain rfl ?_
  go_simp
  exact gr_val (HI.out _ _ _ ⟨h0, h1, fun e => (a15 (upd_ne e (by decide))), (fun e => by obtain ⟨C9, c9, kb9, hc9, o9⟩ := (b15 (upd_ne e (by decide))); exact ⟨C9, c9, kb9, hc9, o9⟩), (fun e => (o14_13 (upd_ne e (by decide)))), (fun e => (o15_13 (upd_ne e (by decide)))), (fun e => by obtain ⟨C7, c7, f7, hc7, o7⟩ := (d13 (upd_ne e (by decide))); exact ⟨C7, c7, f7, hc7, o7⟩), (fun e => by obtain ⟨C8, c8, f8, hc8, o8⟩ := (d14 (upd_ne e (by decide))); exact ⟨C8, c8, f8, hc8, o8⟩), kn_known q rfl⟩)
 refine gen_consR (fun vs L w1 hL hw1 => ?_) ?_
 ·obtain ⟨h0, h1, a15, b15, o14_13, o15_13, d13, d14, q⟩ := HO.out _ _ _ hw1
  have l5 : L 5 = true := hL.need 5 (by kernel_rfl)
  have e5 := q 5 _ rfl l5
  have xc := (show _ = some ((.int .i64 (ch : Int)) : Value) from h1.cell 0)
  refine gen_plain rfl ?_
  simp only [e5]
  go_simp
  exact gr_val (HI.out _ _ _ ⟨h0, h1, fun e => (a15 (upd_ne e (by decide))), (fun e => by obtain ⟨C9, c9, kb9, hc9, o9⟩ := (b15 (upd_ne e (by decide))); exact ⟨C9, c9, kb9, hc9, o9⟩), (fun e => (o14_13 (upd_ne e (by decide)))), (fun e => (o15_13 (upd_ne e (by decide)))), (fun e => by obtain ⟨C7, c7, f7, hc7, o7⟩ := (d13 (upd_ne e (by decide))); exact ⟨C7, c7, f7, hc7, o7⟩), (fun e => by obtain ⟨C8, c8, f8, hc8, o8⟩ := (d14 (upd_ne e (by decide))); exact ⟨C8, c8, f8, hc8, o8⟩), kn_known q rfl⟩)
 refine gen_consR (fun vs L w1 hL hw1 => ?_) ?_
 ·obtain ⟨h0, h1, a15, b15, o14_13, o15_13, d13, d14, q⟩ := HO.out _ _ _ hw1
  have l4 : L 4 = true := hL.need 4 (by kernel_rfl)
  have e4 := q 4 _ rfl l4
  have l6 : L 6 = true := hL.need 6 (by kernel_rfl)
  have e6 := q 6 _ rfl l6
  refine gen_plain rfl ?_
  simp only [e4, e6]
  go_simp
  exact gr_val (HI.out _ _ _ ⟨h0, h1, fun e => (a15 (upd_ne e (by decide))), (fun e => by obtain ⟨C9, c9, kb9, hc9, o9⟩ := (b15 (upd_ne e (by decide))); exact ⟨C9, c9, kb9, hc9, o9⟩), (fun e => (o14_13 (upd_ne e (by decide)))), (fun e => (o15_13 (upd_ne e (by decide)))), (fun e => by obtain ⟨C7, c7, f7, hc7, o7⟩ := (d13 (upd_ne e (by decide))); exact ⟨C7, c7, f7, hc7, o7⟩), (fun e => by obtain ⟨C8, c8, f8, hc8, o8⟩ := (d14 (upd_ne e (by decide))); exact ⟨C8, c8, f8, hc8, o8⟩), kn_known q rfl⟩)
 refine gen_consR (fun vs L w1 hL hw1 => ?_) ?_
 ·obtain ⟨h0, h1, a15, b15, o14_13, o15_13, d13, d14, q⟩ := HO.out _ _ _ hw1
  refine gen_plain rfl ?_
  go_simp
  exact gr_val (HI.out _ _ _ ⟨h0, h1, fun e => (a15 (upd_ne e (by decide))), (fun e => by obtain ⟨C9, c9, kb9, hc9, o9⟩ := (b15 (upd_ne e (by decide))); exact ⟨C9, c9, kb9, hc9, o9⟩), (fun e => (o14_13 (upd_ne e (by decide)))), (fun e => (o15_13 (upd_ne e (by decide)))), (fun e => by obtain ⟨C7, c7, f7, hc7, o7⟩ := (d13 (upd_ne e (by decide))); exact ⟨C7, c7, f7, hc7, o7⟩), (fun e => by obtain ⟨C8, c8, f8, hc8, o8⟩ := (d14 (upd_ne e (by decide))); exact ⟨C8, c8, f8, hc8, o8⟩), kn_known q rfl⟩)
 refine gen_consR (fun vs L w1 hL hw1 => ?_) ?_
 ·obtain ⟨h0, h1, a15, b15, o14_13, o15_13, d13, d14, q⟩ := HO.out _ _ _ hw1
  refine gen_plain rfl ?_
  go_simp
  exact gr_val (HI.out _ _ _ ⟨h0, h1, fun e => (a15 (upd_ne e (by decide))), (fun e => by obtain ⟨C9, c9, kb9, hc9, o9⟩ := (b15 (upd_ne e (by decide))); exact ⟨C9, c9, kb9, hc9, o9⟩), (fun e => (o14_13 (upd_ne e (by decide)))), (fun e => (o15_13 (upd_ne e (by decide)))), (fun e => by obtain ⟨C7, c7, f7, hc7, o7⟩ := (d13 (upd_ne e (by decide))); exact ⟨C7, c7, f7, hc7, o7⟩), (fun e => by obtain ⟨C8, c8, f8, hc8, o8⟩ := (d14 (upd_ne e (by decide))); exact ⟨C8, c8, f8, hc8, o8⟩), kn_known q rfl⟩)
 refine gen_consR (fun vs L w1 hL hw1 => ?_) ?_
 ·obtain ⟨h0, h1, a15, b15, o14_13, o15_13, d13, d14, q⟩ := HO.out _ _ _ hw1
  have l9 : L 9 = true := hL.need 9 (by kernel_rfl)
  have e9 := q 9 _ rfl l9
  have xc := (show _ = some ((.int .i64 (ch : Int)) : Value) from h1.cell 0)
  refine gen_plain rfl ?_
  simp only [e9]
  go_simp
  exact gr_val (HI.out _ _ _ ⟨h0, h1, fun e => (a15 (upd_ne e (by decide))), (fun e => by obtain ⟨C9, c9, kb9, hc9, o9⟩ := (b15 (upd_ne e (by decide))); exact ⟨C9, c9, kb9, hc9, o9⟩), (fun e => (o14_13 (upd_ne e (by decide)))), (fun e => (o15_13 (upd_ne e (by decide)))), (fun e => by obtain ⟨C7, c7, f7, hc7, o7⟩ := (d13 (upd_ne e (by decide))); exact ⟨C7, c7, f7, hc7, o7⟩), (fun e => by obtain ⟨C8, c8, f8, hc8, o8⟩ := (d14 (upd_ne e (by decide))); exact ⟨C8, c8, f8, hc8, o8⟩), kn_known q rfl⟩)
 refine gen_consR (fun vs L w1 hL hw1 => ?_) ?_
 ·obtain ⟨h0, h1, a15, b15, o14_13, o15_13, d13, d14, q⟩ := HO.out _ _ _ hw1
  have l8 : L 8 = true := hL.need 8 (by kernel_rfl)
  have e8 := q 8 _ rfl l8
  have l10 : L 10 = true := hL.need 10 (by kernel_rfl)
  have e10 := q 10 _ rfl l10
  refine gen_plain rfl ?_
  simp only [e8, e10]
  go_simp
  exact gr_val (HI.out _ _ _ ⟨h0, h1, fun e => (a15 (upd_ne e (by decide))), (fun e => by obtain ⟨C9, c9, kb9, hc9, o9⟩ := (b15 (upd_ne e (by decide))); exact ⟨C9, c9, kb9, hc9, o9⟩), (fun e => (o14_13 (upd_ne e (by decide)))), (fun e => (o15_13 (upd_ne e (by decide)))), (fun e => by obtain ⟨C7, c7, f7, hc7, o7⟩ := (d13 (upd_ne e (by decide))); exact ⟨C7, c7, f7, hc7, o7⟩), (fun e => by obtain ⟨C8, c8, f8, hc8, o8⟩ := (d14 (upd_ne e (by decide))); exact ⟨C8, c8, f8, hc8, o8⟩), kn_known q rfl⟩)
 refine gen_consR (fun vs L w1 hL hw1 => ?_) ?_
 ·obtain ⟨h0, h1, a15, b15, o14_13, o15_13, d13, d14, q⟩ := HO.out _ _ _ hw1
  have l3 : L 3 = true := hL.need 3 (by kernel_rfl)
  have e3 := q 3 _ rfl l3
  have l7 : L 7 = true := hL.need 7 (by kernel_rfl)
  have e7 := q 7 _ rfl l7
  have l11 : L 11 = true := hL.need 11 (by kernel_rfl)
  have e11 := q 11 _ rfl l11
  refine gen_plain rfl ?_
  simp only [e3, e7, e11]
  go_simp
  exact gr_val (HI.out _ _ _ ⟨h0, h1, fun e => (a15 (upd_ne e (by decide))), (fun e => by obtain ⟨C9, c9, kb9, hc9, o9⟩ := (b15 (upd_ne e (by decide))); exact ⟨C9, c9, kb9, hc9, o9⟩), (fun e => (o14_13 (upd_ne e (by decide)))), (fun e => (o15_13 (upd_ne e (by decide)))), (fun e => by obtain ⟨C7, c7, f7, hc7, o7⟩ := (d13 (upd_ne e (by decide))); exact ⟨C7, c7, f7, hc7, o7⟩), (fun e => by obtain ⟨C8, c8, f8, hc8, o8⟩ := (d14 (upd_ne e (by decide))); exact ⟨C8, c8, f8, hc8, o8⟩), kn_known q rfl⟩)
 refine gen_consR (fun vs L w1 hL hw1 => ?_) ?_
 ·obtain ⟨h0, h1, a15, b15, o14_13, o15_13, d13, d14, q⟩ := HO.out _ _ _ hw1
  have l12 : L 12 = true := hL.need 12 (by kernel_rfl)
  have e12 := q 12 _ rfl l12
  refine gen_plain rfl ?_
  simp only [e12]
  have hown := ownS_nil w1 w.heap.size
  refine gr_append_s32 _ _ rfl (hn := hqn) rfl hown rfl (hlt.grows (show Grows w w1 from h0)) (by simp <;> omega) h0.size (fun v' w' hown' hgr hv' => ?_)
  obtain ⟨A', c', rfl, hc', -⟩ := hown'.read
  exact HI.out _ _ _ ⟨OwnS.below hown h0 hgr h0.size, OwnS.blk hown h1 (by decide) hgr, fun e => OwnS.blk hown (a15 (upd_ne e (by decide))) (by decide) hgr, (fun e => by obtain ⟨C9, c9, kb9, hc9, o9⟩ := (b15 (upd_ne e (by decide))); exact absurd (o15_13 (upd_ne e (by decide))) (by rw [hL.1]; decide)), fun _ => upd_eq, fun _ => upd_eq, (fun _ => ⟨A', c', rfl, hc', hown'⟩), (fun e => by obtain ⟨C8, c8, f8, hc8, o8⟩ := (d14 (upd_ne e (by decide))); exact absurd (o14_13 (upd_ne e (by decide))) (by rw [hL.1]; decide)), kn_free q rfl⟩
 refine gen_consR (fun vs L w1 hL hw1 => ?_) ?_
 ·obtain ⟨h0, h1, a15, b15, o14_13, o15_13, d13, d14, q⟩ := HO.out _ _ _ hw1
  have l1 : L 1 = true := hL.need 1 (by kernel_rfl)
  have e1 := q 1 _ rfl l1
  have l13 : L 13 = true := hL.need 13 (by kernel_rfl)
  obtain ⟨C, p, e13, hc, ho⟩ := d13 l13
  refine gen_plain rfl ?_
  simp only [e1, e13]
  go_simp
  exact gr_val (HI.out _ _ _ ⟨h0, h1, fun e => (a15 (upd_ne e (by decide))), (fun e => by obtain ⟨C9, c9, kb9, hc9, o9⟩ := (b15 (upd_ne e (by decide))); exact ⟨C9, c9, kb9, hc9, o9⟩), fun _ => (show L 13 = true from hL.need 13 (by kernel_rfl)), (fun e => (o15_13 (upd_ne e (by decide)))), (fun e => by obtain ⟨C7, c7, f7, hc7, o7⟩ := (d13 (upd_ne e (by decide))); exact ⟨C7, c7, f7, hc7, o7⟩), (fun _ => ⟨C, p, rfl, hc, ho⟩), kn_free q rfl⟩)
 refine gen_consR (fun vs L w1 hL hw1 => ?_) ?_
 ·obtain ⟨h0, h1, a15, b15, o14_13, o15_13, d13, d14, q⟩ := HO.out _ _ _ hw1
  have l14 : L 14 = true := hL.need 14 (by kernel_rfl)
  obtain ⟨C, p, e14, hc, ho⟩ := d14 l14
  refine gen_plain rfl ?_
  simp only [e14]
  have kk := a15 hL.1
  refine gr_strow (cs := #[.int .i64 (ch : Int), .slice C ltq.length p]) _ _ rfl rfl rfl kk b60info rfl (by simp [Value.oneCell']) ?_
  have hnew : ∃ C7 c7, Blk (w1.setRow n6 #[.int .i64 (ch : Int), .slice C ltq.length p]) n6 60 #[.int .i64 (ch : Int), .slice C7 ltq.length c7] ∧ ltq.length ≤ c7 ∧ OwnS (w1.setRow n6 #[.int .i64 (ch : Int), .slice C ltq.length p]) w.heap.size (.slice C7 ltq.length c7) ltq := ⟨C, p, kk.row, hc, ho.row kk (by decide) _⟩
  exact HI.out _ _ _ ⟨below_row h0 (g := n6) (by omega) _, h1.row_far (by omega), (fun e => by rw [upd_eq] at e; cases e), fun _ => hnew, (fun e => (o14_13 (upd_ne e (by decide)))), fun _ => (show L 13 = true from hL.need 13 (by kernel_rfl)), (fun e => by obtain ⟨C7, c7, f7, hc7, o7⟩ := (d13 (upd_ne e (by decide))); exact ⟨C7, c7, f7, hc7, o7.row kk (by decide) _⟩), (fun e => by obtain ⟨C8, c8, f8, hc8, o8⟩ := (d14 (upd_ne e (by decide))); exact ⟨C8, c8, f8, hc8, o8.row kk (by decide) _⟩), kn_known q rfl⟩
 refine gen_nil ?_
 intro vs L w5 hall hS
 obtain ⟨h0, h1, a15, b15, o14_13, o15_13, d13, d14, q⟩ := HO.out _ _ _ hS
 replace b15 := b15 (hall 15 (by simp))
 have e0 := q 0 _ rfl (hall 0 (by simp))
 have e1 := q 1 _ rfl (hall 1 (by simp))
 have e2 := q 2 _ rfl (hall 2 (by simp))
 have e3 := q 3 _ rfl (hall 3 (by simp))
 have e4 := q 4 _ rfl (hall 4 (by simp))
 have e5 := q 5 _ rfl (hall 5 (by simp))
 have e6 := q 6 _ rfl (hall 6 (by simp))
 have e7 := q 7 _ rfl (hall 7 (by simp))
 have e8 := q 8 _ rfl (hall 8 (by simp))
 have e9 := q 9 _ rfl (hall 9 (by simp))
 have e10 := q 10 _ rfl (hall 10 (by simp))
 have e11 := q 11 _ rfl (hall 11 (by simp))
 have e12 := q 12 _ rfl (hall 12 (by simp))
 clear hall hS HI HO q a15 d13 d14 o14_13 o15_13
 simp only [e0, e1, e2, e3, e4, e5, e6, e7, e8, e9, e10, e11, e12]
 clear e0 e1 e2 e3 e4 e5 e6 e7 e8 e9 e10 e11 e12
 obtain ⟨C, p, k6, hp, ho⟩ := b15
 go_wp2
 refine bodyPost_ret (v := .agg #[.int .i64 (ch : Int), .slice C ltq.length p]) ?_ rfl ⟨⟨C, p, rfl, hp, ho⟩, h0⟩
 have xr := k6.cell
 simp [results, Tryz.results60, go_sem, xr]
set_option maxRecDepth 100000 in
set_option maxHeartbeats 20000000 in
theorem r4data_any (A B : Option Addr) (ca cb : Nat) (l : List Int) (w : World) (ha : Sams w A l) (hb : Sams w B l) (hl : l.length ≤ 600000) (hla : l.length ≤ ca) (hlb : l.length ≤ cb) : Calls Tryz.prog 136 #[.slice A l.length ca, .slice B l.length cb] w fun e w' => e = .returned (.bool true) ∧ Grows w w' := by
 go_enter Tryz.func136, Tryz.ntmps136
 have dn : ((l.length : Int) != (l.length : Int)) = false := by simp
 go_wp2_with fail
 go_loopw [13] (fun i wr => ∃ k : Nat, k ≤ l.length ∧ i = .int .i64 k ∧ Grows w wr) (fun i _ => l.length - (intOf i).toNat)
 case atStart => exact ⟨0, by omega, rfl, Below.refl _ _⟩
 case round =>
  obtain ⟨k, hk, rfl, hB⟩ := hrel
  by_cases hlt : k < l.length
  ·obtain ⟨ad, x, rfl, had, hx, q0⟩ := (ha.grows hB).at_ hlt
   obtain ⟨ad2, y, rfl, had2, hy, q1⟩ := (hb.grows hB).at_ hlt
   obtain rfl : x = y := by rw [hx] at hy; injection hy
   have e0 : decide ((k : Int) < (l.length : Int)) = true := by simp only [decide_eq_true_iff]; omega
   have e0' : decide (k < l.length) = true := by simp only [decide_eq_true_iff]; omega
   have c0 : (0 : Int) ≤ (k : Int) := by omega
   have c1 : (k : Int) < (l.length : Int) := by omega
   have dx : (x != x) = false := by simp
   have wj : IntKind.i64.wrap ((k : Int) + 1) = (k : Int) + 1 := IntWalk.i64_in _ (by omega)
   clear hx hy
   go_upto_region 6 with fail
   go_region
   all_goals (
    generalize hww : World.drew wr = wd
    have hB2 : Grows w wd := by rw [← hww]; exact hB.drew
    go_wp2
    go_roundw
    case rel => exact ⟨k + 1, by omega, by go_num, hB2⟩
    case measure => simp [intOf] <;> omega)
  ·have e0 : decide ((k : Int) < (l.length : Int)) = false := by simp only [decide_eq_false_iff_not]; omega
   have e0' : decide (k < l.length) = false := by simp only [decide_eq_false_iff_not]; omega
   go_wp2
   go_ret
   exact ⟨rfl, hB⟩
set_option maxRecDepth 100000 in
set_option maxHeartbeats 20000000 in
theorem r4same_any (ch : Nat) (A B : Option Addr) (ca cb : Nat) (l : List Int) (w : World) (ha : Sams w A l) (hb : Sams w B l) (hl : l.length ≤ 600000) (hla : l.length ≤ ca) (hlb : l.length ≤ cb) : Calls Tryz.prog 59 #[.agg #[.int .i64 (ch : Int), .slice A l.length ca], .agg #[.int .i64 (ch : Int), .slice B l.length cb]] w fun e w' => e = .returned (.bool true) ∧ Grows w w' := by
 have hd := fun w1 (hg : Grows w w1) => r4data_any A B ca cb l w1 (ha.grows hg) (hb.grows hg) hl hla hlb
 clear hl hla hlb ha hb
 go_enter Tryz.func59, Tryz.ntmps59
 have hB := ((Below.refl w.heap.size w).alloc (Nat.le_refl _) (Obj.cells #[.int .i64 (ch : Int), .slice A l.length ca] 60)).alloc (by simp <;> omega) (Obj.cells #[.int .i64 (ch : Int), .slice B l.length cb] 60)
 have k2 := (Blk.new w 60 #[.int .i64 (ch : Int), .slice A l.length ca]).alloc (Obj.cells #[.int .i64 (ch : Int), .slice B l.length cb] 60)
 have k3 := blk_new_at (X := (w.alloc (Obj.cells #[.int .i64 (ch : Int), .slice A l.length ca] 60))) (n := w.heap.size + 1) (t := 60) (cs := #[.int .i64 (ch : Int), .slice B l.length cb]) (by simp)
 go_upto_region 1 with fail
 generalize hn3 : w.heap.size + 1 = n3 at *
 generalize World.alloc (World.alloc w _) _ = w1 at *
 have x0 := (show _ = some ((.int .i64 (ch : Int)) : Value) from k2.cell 0)
 have x1 := (show _ = some ((.slice A l.length ca) : Value) from k2.cell 1)
 have y0 := (show _ = some ((.int .i64 (ch : Int)) : Value) from k3.cell 0)
 have y1 := (show _ = some ((.slice B l.length cb) : Value) from k3.cell 1)
 have de : ((ch : Int) == (ch : Int)) = true := by simp
 go_wp2_with fail
 refine (hd _ hB).mono ?_
 rintro e w2 ⟨rfl, hq⟩
 replace hB := below_grows hB (Nat.le_refl _) hq
 go_wp2
 go_ret
 exact ⟨rfl, hB⟩
set_option maxRecDepth 100000 in
set_option maxHeartbeats 20000000 in
theorem begins_any (ch fa fb : Nat) (A : Option Addr) (ad : Addr) (ca cb : Nat) (la lb : List Int) (w : World) (hl : lb.take (fa * ch) = la) (hba : BlkOk ch fa la) (hbb : BlkOk ch fb lb) (hf : fa ≤ fb) (ha : Sams w A la) (hb : Sams w (some ad) lb) (hca : la.length ≤ ca) (hcb : lb.length ≤ cb) : Calls Tryz.prog 22 #[.agg #[.int .i64 (ch : Int), .slice A la.length ca], .agg #[.int .i64 (ch : Int), .slice (some ad) lb.length cb]] w fun e w' => e = .returned (.bool true) ∧ Grows w w' := by
 have hva := fun w1 (hg : Grows w w1) => r4valid_any A ca w1 hba (ha.grows hg)
 have hfa := fun w1 (hg : Grows w w1) => r4frames_any A ca w1 hba (ha.grows hg)
 have hfb := fun w1 (hg : Grows w w1) => r4frames_any (some ad) cb w1 hbb (hb.grows hg)
 have hcut := fun w1 (hg : Grows w w1) => r4cut_any ch fb fa ad cb lb la w1 hl hbb hf hcb (hb.grows hg)
 have hle := hba.le
 have dle : decide ((fa : Int) ≤ (fb : Int)) = true := by simp only [decide_eq_true_iff]; omega
 have dle' : decide (fa ≤ fb) = true := by simp only [decide_eq_true_iff]; omega
 clear hl hba hbb hf hb hcb
 go_enter Tryz.func22, Tryz.ntmps22
 have hB := ((Below.refl w.heap.size w).alloc (Nat.le_refl _) (Obj.cells #[.int .i64 (ch : Int), .slice A la.length ca] 60)).alloc (by simp <;> omega) (Obj.cells #[.int .i64 (ch : Int), .slice (some ad) lb.length cb] 60)
 have k2 := (Blk.new w 60 #[.int .i64 (ch : Int), .slice A la.length ca]).alloc (Obj.cells #[.int .i64 (ch : Int), .slice (some ad) lb.length cb] 60)
 have k3 := blk_new_at (X := (w.alloc (Obj.cells #[.int .i64 (ch : Int), .slice A la.length ca] 60))) (n := w.heap.size + 1) (t := 60) (cs := #[.int .i64 (ch : Int), .slice (some ad) lb.length cb]) (by simp)
 go_upto_region 1 with fail
 generalize hn3 : w.heap.size + 1 = n3 at *
 generalize World.alloc (World.alloc w _) _ = w1 at *
 refine wp_region_lit ?_
 refine wpList_load_row rfl _ rfl rfl k2 Tryz.underlying60 rfl b60info ?_
 refine wpList_plain rfl (fun K hK => ?_)
 go_simp
 refine (hfa _ hB).mono ?_
 rintro e w2 ⟨rfl, hq⟩
 refine hK _ _ ?_
 clear hK K
 replace k2 := k2.grows hq
 replace k3 := k3.grows hq
 replace hB := below_grows hB (Nat.le_refl _) hq
 have hqs := hq.size
 clear hq
 go_upto_region 2 with fail
 obtain ⟨S, HI, HO⟩ := hideS fun (L : Ran) (vs : Nat → Value) (w' : World) => Below w.heap.size w w' ∧ Blk w' w.heap.size 60 #[.int .i64 (ch : Int), .slice A la.length ca] ∧ Blk w' n3 60 #[.int .i64 (ch : Int), .slice (some ad) lb.length cb] ∧ (L 12 = true → ∃ C p, vs 12 = .agg #[.int .i64 (ch : Int), .slice C la.length p] ∧ la.length ≤ p ∧ OwnS w' w.heap.size (.slice C la.length p) la) ∧ KnS [some (.agg #[.int .i64 (ch : Int), .slice A la.length ca]), some (.bool true), some (.bool true), some (.int .i64 (fa : Int)), some (.agg #[.int .i64 (ch : Int), .slice (some ad) lb.length cb]), some (.int .i64 (fb : Int)), some (.bool true), some (.bool true), some (.bool true), some (.agg #[.int .i64 (ch : Int), .slice A la.length ca]), some (.agg #[.int .i64 (ch : Int), .slice (some ad) lb.length cb]), some (.int .i64 (fa : Int)), none, some (.bool true), some (.bool true), some (.bool true)] L vs
 refine wp_region_genU S 23 (by kernel_rfl) (by kernel_rfl) rfl ?_ ?_
 ·exact HI.out _ _ _ ⟨hB.drew, k2.drew, k3.drew, (fun e => by cases e), kn_none _ _⟩
 refine gen_consR (fun vs L w1 hL hw1 => ?_) ?_
 ·obtain ⟨h0, h1, h2, d12, q⟩ := HO.out _ _ _ hw1
  refine gen_plain rfl ?_
  refine gr_ldrow (cs := #[.int .i64 (ch : Int), .slice A la.length ca]) _ rfl rfl h1 Tryz.underlying60 rfl b60info ?_
  exact HI.out _ _ _ ⟨h0, h1, h2, (fun e => by obtain ⟨C8, c8, f8, hc8, o8⟩ := (d12 (upd_ne e (by decide))); exact ⟨C8, c8, f8, hc8, o8⟩), kn_known q rfl⟩
 refine gen_consR (fun vs L w1 hL hw1 => ?_) ?_
 ·obtain ⟨h0, h1, h2, d12, q⟩ := HO.out _ _ _ hw1
  have l0 : L 0 = true := hL.need 0 (by kernel_rfl)
  have e0 := q 0 _ rfl l0
  refine gen_plain rfl ?_
  simp only [e0]
  go_simp
  refine gr_call ?_
  refine (hva _ (show Grows w w1 from h0)).mono ?_
  rintro e wc ⟨rfl, hg⟩
  exact ⟨_, rfl, HI.out _ _ _ ⟨below_grows h0 (Nat.le_refl _) hg, h1.grows hg, h2.grows hg, (fun e => by obtain ⟨C8, c8, f8, hc8, o8⟩ := (d12 (upd_ne e (by decide))); exact ⟨C8, c8, f8, hc8, o8.grows hg⟩), kn_known q rfl⟩⟩
 refine gen_consR (fun vs L w1 hL hw1 => ?_) ?_
 ·obtain ⟨h0, h1, h2, d12, q⟩ := HO.out _ _ _ hw1
  have l1 : L 1 = true := hL.need 1 (by kernel_rfl)
  have e1 := q 1 _ rfl l1
  refine gen_plain rfl ?_
  simp only [e1]
  go_simp
  exact gr_val (HI.out _ _ _ ⟨h0, h1, h2, (fun e => by obtain ⟨C8, c8, f8, hc8, o8⟩ := (d12 (upd_ne e (by decide))); exact ⟨C8, c8, f8, hc8, o8⟩), kn_known q rfl⟩)
 refine gen_consR (fun vs L w1 hL hw1 => ?_) ?_
 ·obtain ⟨h0, h1, h2, d12, q⟩ := HO.out _ _ _ hw1
  have l2 : L 2 = true := hL.need 2 (by kernel_rfl)
  have e2 := q 2 _ rfl l2
  simp only [e2]
  refine gen_yes (by first | rfl | kernel_rfl) ?_
  go_simp
  exact gr_val (HI.out _ _ _ ⟨h0, h1, h2, (fun e => by obtain ⟨C8, c8, f8, hc8, o8⟩ := (d12 (upd_ne e (by decide))); exact ⟨C8, c8, f8, hc8, o8⟩), kn_known q rfl⟩)
 refine gen_consR (fun vs L w1 hL hw1 => ?_) ?_
 ·obtain ⟨h0, h1, h2, d12, q⟩ := HO.out _ _ _ hw1
  have l2 : L 2 = true := hL.need 2 (by kernel_rfl)
  have e2 := q 2 _ rfl l2
  simp only [e2]
  refine gen_yes (by first | rfl | kernel_rfl) ?_
  refine gr_ldrow (cs := #[.int .i64 (ch : Int), .slice (some ad) lb.length cb]) _ rfl rfl h2 Tryz.underlying60 rfl b60info ?_
  exact HI.out _ _ _ ⟨h0, h1, h2, (fun e => by obtain ⟨C8, c8, f8, hc8, o8⟩ := (d12 (upd_ne e (by decide))); exact ⟨C8, c8, f8, hc8, o8⟩), kn_known q rfl⟩
 refine gen_consR (fun vs L w1 hL hw1 => ?_) ?_
 ·obtain ⟨h0, h1, h2, d12, q⟩ := HO.out _ _ _ hw1
  have l4 : L 4 = true := hL.need 4 (by kernel_rfl)
  have e4 := q 4 _ rfl l4
  have l2 : L 2 = true := hL.need 2 (by kernel_rfl)
  have e2 := q 2 _ rfl l2
  simp only [e2, e4]
  refine gen_yes (by first | rfl | kernel_rfl) ?_
  go_simp
  refine gr_call ?_
  refine (hfb _ (show Grows w w1 from h0)).mono ?_
  rintro e wc ⟨rfl, hg⟩
  exact ⟨_, rfl, HI.out _ _ _ ⟨below_grows h0 (Nat.le_refl _) hg, h1.grows hg, h2.grows hg, (fun e => by obtain ⟨C8, c8, f8, hc8, o8⟩ := (d12 (upd_ne e (by decide))); exact ⟨C8, c8, f8, hc8, o8.grows hg⟩), kn_known q rfl⟩⟩
 refine gen_consR (fun vs L w1 hL hw1 => ?_) ?_
 ·obtain ⟨h0, h1, h2, d12, q⟩ := HO.out _ _ _ hw1
  have l3 : L 3 = true := hL.need 3 (by kernel_rfl)
  have e3 := q 3 _ rfl l3
  have l5 : L 5 = true := hL.need 5 (by kernel_rfl)
  have e5 := q 5 _ rfl l5
  have l2 : L 2 = true := hL.need 2 (by kernel_rfl)
  have e2 := q 2 _ rfl l2
  simp only [e2, e3, e5]
  refine gen_yes (by first | rfl | kernel_rfl) ?_
  go_simp
  exact gr_val (HI.out _ _ _ ⟨h0, h1, h2, (fun e => by obtain ⟨C8, c8, f8, hc8, o8⟩ := (d12 (upd_ne e (by decide))); exact ⟨C8, c8, f8, hc8, o8⟩), kn_known q rfl⟩)
 refine gen_consR (fun vs L w1 hL hw1 => ?_) ?_
 ·obtain ⟨h0, h1, h2, d12, q⟩ := HO.out _ _ _ hw1
  have l2 : L 2 = true := hL.need 2 (by kernel_rfl)
  have e2 := q 2 _ rfl l2
  have l6 : L 6 = true := hL.need 6 (by kernel_rfl)
  have e6 := q 6 _ rfl l6
  refine gen_plain rfl ?_
  simp only [e2, e6]
  go_simp
  exact gr_val (HI.out _ _ _ ⟨h0, h1, h2, (fun e => by obtain ⟨C8, c8, f8, hc8, o8⟩ := (d12 (upd_ne e (by decide))); exact ⟨C8, c8, f8, hc8, o8⟩), kn_known q rfl⟩)
 refine gen_consR (fun vs L w1 hL hw1 => ?_) ?_
 ·obtain ⟨h0, h1, h2, d12, q⟩ := HO.out _ _ _ hw1
  have l7 : L 7 = true := hL.need 7 (by kernel_rfl)
  have e7 := q 7 _ rfl l7
  refine gen_plain rfl ?_
  simp only [e7]
  go_simp
  exact gr_val (HI.out _ _ _ ⟨h0, h1, h2, (fun e => by obtain ⟨C8, c8, f8, hc8, o8⟩ := (d12 (upd_ne e (by decide))); exact ⟨C8, c8, f8, hc8, o8⟩), kn_known q rfl⟩)
 refine gen_consR (fun vs L w1 hL hw1 => ?_) ?_
 ·obtain ⟨h0, h1, h2, d12, q⟩ := HO.out _ _ _ hw1
  have l8 : L 8 = true := hL.need 8 (by kernel_rfl)
  have e8 := q 8 _ rfl l8
  simp only [e8]
  refine gen_yes (by first | rfl | kernel_rfl) ?_
  refine gr_ldrow (cs := #[.int .i64 (ch : Int), .slice A la.length ca]) _ rfl rfl h1 Tryz.underlying60 rfl b60info ?_
  exact HI.out _ _ _ ⟨h0, h1, h2, (fun e => by obtain ⟨C8, c8, f8, hc8, o8⟩ := (d12 (upd_ne e (by decide))); exact ⟨C8, c8, f8, hc8, o8⟩), kn_known q rfl⟩
 refine gen_consR (fun vs L w1 hL hw1 => ?_) ?_
 ·obtain ⟨h0, h1, h2, d12, q⟩ := HO.out _ _ _ hw1
  have l8 : L 8 = true := hL.need 8 (by kernel_rfl)
  have e8 := q 8 _ rfl l8
  simp only [e8]
  refine gen_yes (by first | rfl | kernel_rfl) ?_
  refine gr_ldrow (cs := #[.int .i64 (ch : Int), .slice (some ad) lb.length cb]) _ rfl rfl h2 Tryz.underlying60 rfl b60info ?_
  exact HI.out _ _ _ ⟨h0, h1, h2, (fun e => by obtain ⟨C8, c8, f8, hc8, o8⟩ := (d12 (upd_ne e (by decide))); exact ⟨C8, c8, f8, hc8, o8⟩), kn_known q rfl⟩
 refine gen_consR (fun vs L w1 hL hw1 => ?_) ?_
 ·obtain ⟨h0, h1, h2, d12, q⟩ := HO.out _ _ _ hw1
  have l8 : L 8 = true := hL.need 8 (by kernel_rfl)
  have e8 := q 8 _ rfl l8
  simp only [e8]
  refine gen_yes (by first | rfl | kernel_rfl) ?_
  go_simp
  exact gr_val (HI.out _ _ _ ⟨h0, h1, h2, (fun e => by obtain ⟨C8, c8, f8, hc8, o8⟩ := (d12 (upd_ne e (by decide))); exact ⟨C8, c8, f8, hc8, o8⟩), kn_known q rfl⟩)
 refine gen_consR (fun vs L w1 hL hw1 => ?_) ?_
 ·obtain ⟨h0, h1, h2, d12, q⟩ := HO.out _ _ _ hw1
  have l10 : L 10 = true := hL.need 10 (by kernel_rfl)
  have e10 := q 10 _ rfl l10
  have l11 : L 11 = true := hL.need 11 (by kernel_rfl)
  have e11 := q 11 _ rfl l11
  have l8 : L 8 = true := hL.need 8 (by kernel_rfl)
  have e8 := q 8 _ rfl l8
  simp only [e8, e10, e11]
  refine gen_yes (by first | rfl | kernel_rfl) ?_
  go_simp
  refine gr_call ?_
  refine (hcut _ (show Grows w w1 from h0)).mono ?_
  rintro e wc ⟨⟨C, p, rfl, hp, ho⟩, hg⟩
  replace ho := ho.mono (base' := w.heap.size) h0.size
  exact ⟨_, rfl, HI.out _ _ _ ⟨below_grows h0 (Nat.le_refl _) hg, h1.grows hg, h2.grows hg, (fun _ => ⟨C, p, rfl, hp, ho⟩), kn_free q rfl⟩⟩
 refine gen_consR (fun vs L w1 hL hw1 => ?_) ?_
 ·obtain ⟨h0, h1, h2, d12, q⟩ := HO.out _ _ _ hw1
  have l9 : L 9 = true := hL.need 9 (by kernel_rfl)
  have e9 := q 9 _ rfl l9
  have l12 : L 12 = true := hL.need 12 (by kernel_rfl)
  obtain ⟨C, p, e12, hp, ho⟩ := d12 l12
  have l8 : L 8 = true := hL.need 8 (by kernel_rfl)
  have e8 := q 8 _ rfl l8
  simp only [e8, e9, e12]
  refine gen_yes (by first | rfl | kernel_rfl) ?_
  go_simp
  refine gr_call ?_
  refine (r4same_any ch A C ca p la _ (ha.grows (show Grows w w1 from h0)) ho.sams (by omega) hca hp).mono ?_
  rintro e wc ⟨rfl, hg⟩
  exact ⟨_, rfl, HI.out _ _ _ ⟨below_grows h0 (Nat.le_refl _) hg, h1.grows hg, h2.grows hg, (fun e => by obtain ⟨C8, c8, f8, hc8, o8⟩ := (d12 (upd_ne e (by decide))); exact ⟨C8, c8, f8, hc8, o8.grows hg⟩), kn_known q rfl⟩⟩
 refine gen_consR (fun vs L w1 hL hw1 => ?_) ?_
 ·obtain ⟨h0, h1, h2, d12, q⟩ := HO.out _ _ _ hw1
  have l8 : L 8 = true := hL.need 8 (by kernel_rfl)
  have e8 := q 8 _ rfl l8
  have l13 : L 13 = true := hL.need 13 (by kernel_rfl)
  have e13 := q 13 _ rfl l13
  refine gen_plain rfl ?_
  simp only [e8, e13]
  go_simp
  exact gr_val (HI.out _ _ _ ⟨h0, h1, h2, (fun e => by obtain ⟨C8, c8, f8, hc8, o8⟩ := (d12 (upd_ne e (by decide))); exact ⟨C8, c8, f8, hc8, o8⟩), kn_known q rfl⟩)
 refine gen_consR (fun vs L w1 hL hw1 => ?_) ?_
 ·obtain ⟨h0, h1, h2, d12, q⟩ := HO.out _ _ _ hw1
  have l14 : L 14 = true := hL.need 14 (by kernel_rfl)
  have e14 := q 14 _ rfl l14
  refine gen_plain rfl ?_
  simp only [e14]
  go_simp
  exact gr_val (HI.out _ _ _ ⟨h0, h1, h2, (fun e => by obtain ⟨C8, c8, f8, hc8, o8⟩ := (d12 (upd_ne e (by decide))); exact ⟨C8, c8, f8, hc8, o8⟩), kn_known q rfl⟩)
 refine gen_nil ?_
 intro vs L w5 hall hS
 obtain ⟨h0, h1, h2, d12, q⟩ := HO.out _ _ _ hS
 have e0 := q 0 _ rfl (hall 0 (by simp))
 have e1 := q 1 _ rfl (hall 1 (by simp))
 have e2 := q 2 _ rfl (hall 2 (by simp))
 have e3 := q 3 _ rfl (hall 3 (by simp))
 have e4 := q 4 _ rfl (hall 4 (by simp))
 have e5 := q 5 _ rfl (hall 5 (by simp))
 have e6 := q 6 _ rfl (hall 6 (by simp))
 have e7 := q 7 _ rfl (hall 7 (by simp))
 have e8 := q 8 _ rfl (hall 8 (by simp))
 have e9 := q 9 _ rfl (hall 9 (by simp))
 have e10 := q 10 _ rfl (hall 10 (by simp))
 have e11 := q 11 _ rfl (hall 11 (by simp))
 have e13 := q 13 _ rfl (hall 13 (by simp))
 have e14 := q 14 _ rfl (hall 14 (by simp))
 have e15 := q 15 _ rfl (hall 15 (by simp))
 clear hall hS HI HO q d12
 simp only [e0, e1, e2, e3, e4, e5, e6, e7, e8, e9, e10, e11, e13, e14, e15]
 clear e0 e1 e2 e3 e4 e5 e6 e7 e8 e9 e10 e11 e13 e14 e15
 go_wp2
 go_ret
 exact ⟨rfl, h0⟩
end Go.Proofs.YtbfdaojffffaaaaGreat

namespace Go.Proofs.YtbfdaojffffaaaaGreat
open Go.RowKit
theorem gtrW {a b c : World} {row : Option Nat} (h : a.grownBy b row) (k : b.grownBy c row) : a.grownBy c row :=
 ⟨k.os.trans h.os, k.tape.trans h.tape, k.output.trans h.output, Nat.le_trans h.size k.size, fun i hi hne => (k.block i (Nat.lt_of_lt_of_le hi h.size) hne).trans (h.block i hi hne)⟩
theorem gb_set {w a : World} {row : Option Nat} (h : w.grownBy a row) {p : Addr} (hp : w.heap.size ≤ p.block) (u : Value) : w.grownBy (a.setCell p u) row :=
 ⟨h.os, h.tape, h.output, by simpa [World.setCell] using h.size, fun k hk hn => (Below.heap_setCell a p u k (by omega)).trans (h.block k hk hn)⟩
theorem gb_row {w a : World} {row : Option Nat} (h : w.grownBy a row) {q : Nat} (hq : w.heap.size ≤ q) (cs : Array Value) : w.grownBy (a.setRow q cs) row :=
 ⟨h.os, h.tape, h.output, by simpa [World.setRow] using h.size, fun k hk hn => (setRow_other a q k cs (by omega)).trans (h.block k hk hn)⟩
set_option maxRecDepth 100000 in
set_option maxHeartbeats 20000000 in
theorem dsample_any (B g : Nat) (w : World) (h : DR w B g) : Calls Tryz.prog 57 #[.pointer (some ⟨g, 0, none⟩)] w fun e w' => (∃ x, e = .returned (.int .i32 x) ∧ -8388608 ≤ x ∧ x ≤ 8388607) ∧ DR w' B g ∧ w.grownBy w' (some g) := by
 go_enter Tryz.func57, Tryz.ntmps57
 go_wp2_with fail
 refine (rolls_any B g 8 _ h (by decide) (by decide)).mono ?_
 rintro e w1 ⟨⟨r, rfl, hr0, hr8⟩, hd, hg⟩
 by_cases h0 : r = 0
 ·have e0 : (r == 0) = true := by simp [h0]
  clear h0 hr0 hr8
  go_wp2
  go_ret
  exact ⟨⟨0, rfl, by omega, by omega⟩, hd, hg⟩
 ·have e0 : (r == 0) = false := by simp [h0]
  by_cases h1 : r = 1
  ·have e1 : (r == 1) = true := by simp [h1]
   clear h0 h1 hr0 hr8
   go_wp2
   go_ret
   exact ⟨⟨8388607, rfl, by omega, by omega⟩, hd, hg⟩
  ·have e1 : (r == 1) = false := by simp [h1]
   by_cases h2 : r = 2
   ·have e2 : (r == 2) = true := by simp [h2]
    clear h0 h1 h2 hr0 hr8
    go_wp2
    go_ret
    exact ⟨⟨-8388608, rfl, by omega, by omega⟩, hd, hg⟩
   ·have e2 : (r == 2) = false := by simp [h2]
    by_cases h3 : r = 3
    ·have e3 : (r == 3) = true := by simp [h3]
     clear h0 h1 h2 h3 hr0 hr8
     go_wp2_with fail
     refine (rolls_any B g 256 _ hd (by decide) (by decide)).mono ?_
     rintro e w2 ⟨⟨s, rfl, hs0, hs8⟩, hd2, hg2⟩
     go_wp2
     go_ret
     exact ⟨⟨_, rfl, by omega, by omega⟩, hd2, gtrW hg hg2⟩
    ·have e3 : (r == 3) = false := by simp [h3]
     clear h0 h1 h2 h3 hr0 hr8
     go_wp2_with fail
     refine (rolls_any B g 256 _ hd (by decide) (by decide)).mono ?_
     rintro e w2 ⟨⟨s, rfl, hs0, hs8⟩, hd2, hg2⟩
     go_wp2_with fail
     refine (rolls_any B g 256 _ hd2 (by decide) (by decide)).mono ?_
     rintro e w3 ⟨⟨u, rfl, hu0, hu8⟩, hd3, hg3⟩
     go_wp2_with fail
     refine (rolls_any B g 256 _ hd3 (by decide) (by decide)).mono ?_
     rintro e w4 ⟨⟨v, rfl, hv0, hv8⟩, hd4, hg4⟩
     go_wp2
     go_ret
     exact ⟨⟨_, rfl, by omega, by omega⟩, hd4, gtrW hg (gtrW hg2 (gtrW hg3 hg4))⟩
set_option maxRecDepth 100000 in
set_option maxHeartbeats 40000000 in
theorem mblock_any (B g ch : Nat) (h1 : 1 ≤ ch) (h2 : ch ≤ 8) (w : World) (h : DR w B g) : Calls Tryz.prog 19 #[.pointer (some ⟨g, 0, none⟩), .int .i64 (ch : Int), .int .i64 16] w fun e w' => (∃ l A c, e = .returned (.agg #[.int .i64 (ch : Int), .slice A (l : List Int).length c]) ∧ BlkOk ch 16 l ∧ l.length ≤ c ∧ OwnS w' w.heap.size (.slice A l.length c) l) ∧ DR w' B g ∧ w.grownBy w' (some g) := by
 have hgl := h.lt
 have wm : IntKind.i64.wrap ((ch : Int) * 16) = ((16 * ch : Nat) : Int) := by rw [Int.natCast_mul, Int.mul_comm]; exact IntWalk.i64_in _ (by omega)
 go_enter Tryz.func19, Tryz.ntmps19
 have hB := (Below.refl w.heap.size w).alloc (Nat.le_refl _) (Obj.cells #[.int .i64 0, .slice none 0 0] 60)
 have k6 := Blk.new w 60 #[.int .i64 0, .slice none 0 0]
 go_upto_region 1 with fail
 generalize hw1 : World.alloc w _ = w1 at *
 clear hw1
 have z6 := k6.lt
 go_upto_region 2 with fail
 have k7 := Blk.new w1 60 #[.int .i64 (ch : Int), .slice none 0 0]
 replace k6 := k6.alloc (Obj.cells #[.int .i64 (ch : Int), .slice none 0 0] 60)
 replace hB := hB.alloc hB.size (Obj.cells #[.int .i64 (ch : Int), .slice none 0 0] 60)
 generalize hn7 : w1.heap.size = n7 at *
 generalize hw2 : World.alloc w1 _ = w2 at *
 clear hw2
 have hG0 : w.grownBy w2 (some g) := d_only_grows (World.grownBy.refl w (some g)) hB
 have hD0 := h.grows hB
 clear h hB
 go_wp2_with fail
 go_loopw [8] (fun i wr => ∃ (l : List Int) (A : Option Addr) (c : Nat), l.length ≤ 16 * ch ∧ i = .int .i64 (l.length : Int) ∧ Hid (∀ x ∈ l, -8388608 ≤ x ∧ x ≤ 8388607) ∧ l.length ≤ c ∧ OwnS wr w.heap.size (.slice A l.length c) l ∧ Blk wr w.heap.size 60 #[.int .i64 0, .slice none 0 0] ∧ Blk wr n7 60 #[.int .i64 (ch : Int), .slice A l.length c] ∧ DR wr B g ∧ w.grownBy wr (some g)) (fun i _ => 16 * ch - (intOf i).toNat)
 case atStart => exact ⟨[], none, 0, by simp, rfl, Lib.hid (by simp), by simp, ownS_nil _ _, k6, k7, hD0, hG0⟩
 case round =>
  clear hG0 hD0 k6 k7
  obtain ⟨l, A, c, hl, rfl, HX, hc, ho, k6, k7, hD, hG⟩ := hrel
  have hGs := hG.size
  by_cases hlt : l.length < 16 * ch
  ·have e0 : decide ((l.length : Int) < ((16 * ch : Nat) : Int)) = true := by simp only [decide_eq_true_iff]; omega
   have e0' : decide ((l.length : Int) < 16 * (ch : Int)) = true := by simp only [decide_eq_true_iff]; omega
   have wj : IntKind.i64.wrap ((l.length : Int) + 1) = (l.length : Int) + 1 := IntWalk.i64_in _ (by omega)
   go_upto_region 5 with fail
   obtain ⟨S, HI, HO⟩ := hideS fun (L : Ran) (vs : Nat → Value) (w' : World) => w.grownBy w' (some g) ∧ DR w' B g ∧ Blk w' w.heap.size 60 #[.int .i64 0, .slice none 0 0] ∧ Blk w' n7 60 #[.int .i64 (ch : Int), .slice A l.length c] ∧ (L 5 = false → OwnS w' w.heap.size (.slice A l.length c) l) ∧ KnS [some (.pointer (some ⟨n7, 1, none⟩)), some (.slice A l.length c), some (.pointer (some ⟨g, 0, none⟩)), none, none, none] L vs ∧ (L 3 = true → ∃ x, vs 3 = .int .i32 x ∧ (-8388608 ≤ x ∧ x ≤ 8388607)) ∧ (L 4 = true → ∃ x q, vs 4 = .slice (some ⟨q, 0, none⟩) 1 1 ∧ (-8388608 ≤ x ∧ x ≤ 8388607) ∧ (L 5 = false → RdB w' (fun k => w.heap.size ≤ k) 1 (some ⟨q, 0, none⟩) 1 [.int .i32 x])) ∧ (L 5 = true → ∃ x A' c', vs 5 = .slice A' (l.length + 1) c' ∧ (-8388608 ≤ x ∧ x ≤ 8388607) ∧ l.length + 1 ≤ c' ∧ OwnS w' w.heap.size (.slice A' (l.length + 1) c') (l ++ [x])) ∧ (L 4 = true → L 3 = true) ∧ (L 5 = true → L 4 = true)
   refine wp_region_genT S 6 26 (by kernel_rfl) (by kernel_rfl) rfl ?_ ?_
   ·exact HI.out _ _ _ ⟨d_only_grows hG (Grows.drew' wr), hD.grows (Grows.drew' wr), k6.drew, k7.drew, fun _ => ho.drew, kn_none _ _, (fun h => by cases h), (fun h => by cases h), (fun h => by cases h), (fun h => by cases h), (fun h => by cases h)⟩
   simp only [List.take_succ_cons, List.take_zero, List.drop_succ_cons, List.drop_zero]
   refine gent_consR (fun vs L w1 hL hw1 => ?_) ?_
   ·obtain ⟨hG, hD, k6, k7, ho, q, d3, d4, d5, o43, o54⟩ := HO.out _ _ _ hw1
    refine gen_plain rfl ?_
    go_simp
    exact gr_val (HI.out _ _ _ ⟨hG, hD, k6, k7, fun e => ho e, kn_known q rfl, fun e => d3 e, fun e => d4 e, fun e => d5 e, fun e => o43 e, fun e => o54 e⟩)
   refine gent_consR (fun vs L w1 hL hw1 => ?_) ?_
   ·obtain ⟨hG, hD, k6, k7, ho, q, d3, d4, d5, o43, o54⟩ := HO.out _ _ _ hw1
    have l0 : L 0 = true := hL.need 0 (by kernel_rfl)
    have e0 := q 0 _ rfl l0
    have xc := (show _ = some ((.slice A l.length c) : Value) from k7.cell 1)
    refine gen_plain rfl ?_
    simp only [e0]
    go_simp
    exact gr_val (HI.out _ _ _ ⟨hG, hD, k6, k7, fun e => ho e, kn_known q rfl, fun e => d3 e, fun e => d4 e, fun e => d5 e, fun e => o43 e, fun e => o54 e⟩)
   refine gent_consR (fun vs L w1 hL hw1 => ?_) ?_
   ·obtain ⟨hG, hD, k6, k7, ho, q, d3, d4, d5, o43, o54⟩ := HO.out _ _ _ hw1
    refine gen_plain rfl ?_
    go_simp
    exact gr_val (HI.out _ _ _ ⟨hG, hD, k6, k7, fun e => ho e, kn_known q rfl, fun e => d3 e, fun e => d4 e, fun e => d5 e, fun e => o43 e, fun e => o54 e⟩)
   refine gent_consR (fun vs L w1 hL hw1 => ?_) ?_
   ·obtain ⟨hG, hD, k6, k7, ho, q, d3, d4, d5, o43, o54⟩ := HO.out _ _ _ hw1
    have l2 : L 2 = true := hL.need 2 (by kernel_rfl)
    have e2 := q 2 _ rfl l2
    have n3 : L 3 = false := hL.1
    have n4 : L 4 = false := by cases e : L 4 with | false => rfl | true => (have := o43 e; rw [n3] at this; cases this)
    have n5 : L 5 = false := by cases e : L 5 with | false => rfl | true => (have := o54 e; rw [n4] at this; cases this)
    refine gen_plain rfl ?_
    simp only [e2]
    go_simp
    refine gr_call ?_
    refine (dsample_any B g _ hD).mono ?_
    rintro e wc ⟨⟨x, rfl, hx1, hx2⟩, hD2, hg2⟩
    exact ⟨_, rfl, HI.out _ _ _ ⟨gtrW hG hg2, hD2, k6.grown hg2 (fun e => by injection e with e; omega), k7.grown hg2 (fun e => by injection e with e; omega), fun e => World.ownsRow.kept (ho e) hg2 (.inr (fun e2 => by have := (World.ownsRow.lt (ho e) g e2).1; omega)), kn_free q rfl, (fun _ => ⟨x, rfl, hx1, hx2⟩), (fun e => by have e : L 4 = true := e; rw [n4] at e; cases e), (fun e => by have e : L 5 = true := e; rw [n5] at e; cases e), (fun _ => upd_eq), fun e => o54 e⟩⟩
   refine gent_consR (fun vs L w1 hL hw1 => ?_) ?_
   ·obtain ⟨hG, hD, k6, k7, ho, q, d3, d4, d5, o43, o54⟩ := HO.out _ _ _ hw1
    have l3 : L 3 = true := hL.need 3 (by kernel_rfl)
    obtain ⟨x, e3, hx⟩ := d3 l3
    have n4 : L 4 = false := hL.1
    have n5 : L 5 = false := by cases e : L 5 with | false => rfl | true => (have := o54 e; rw [n4] at this; cases this)
    have hsz := hG.size
    have hg : Grows w1 (w1.alloc (Obj.cells #[.int .i32 x] 21)) := (Below.refl w1.heap.size w1).alloc (Nat.le_refl _) _
    have kq := Blk.new w1 21 #[.int .i32 x]
    refine gen_plain rfl ?_
    simp only [e3]
    go_simp
    exact gr_val (HI.out _ _ _ ⟨d_only_grows hG hg, hD.grows hg, k6.grows hg, k7.grows hg, fun e => (ho e).grows hg, kn_free q rfl, fun e => d3 e, (fun _ => ⟨x, w1.heap.size, rfl, hx, fun _ => rdb_blk (cs := #[.int .i32 x]) kq rfl hsz⟩), (fun e => by have e : L 5 = true := e; rw [n5] at e; cases e), (fun _ => l3), (fun e => by have e : L 5 = true := e; rw [n5] at e; cases e)⟩)
   refine gent_consR (fun vs L w1 hL hw1 => ?_) ?_
   ·obtain ⟨hG, hD, k6, k7, ho, q, d3, d4, d5, o43, o54⟩ := HO.out _ _ _ hw1
    have l4 : L 4 = true := hL.need 4 (by kernel_rfl)
    have l1 : L 1 = true := hL.need 1 (by kernel_rfl)
    have e1 := q 1 _ rfl l1
    obtain ⟨x, qq, e4, hx, hr⟩ := d4 l4
    have hown := ho hL.1
    replace hr := hr hL.1
    have hsz := hG.size
    refine gen_plain rfl ?_
    simp only [e1, e4]
    refine gr_append_s32 (m := [x]) _ _ rfl (hn := rfl) rfl hown rfl hr.1 (by simp only [List.length_singleton]; omega) hsz (fun v' w' hown' hgr hv' => ?_)
    obtain ⟨A', c', rfl, hc', -⟩ := hown'.read
    rw [List.length_append, List.length_singleton] at hown' hc' ⊢
    have hlow : ∀ p, (Value.slice A l.length c).ownBlock = some p → w.heap.size ≤ p := fun p e => (World.ownsRow.lt hown p e).1
    exact HI.out _ _ _ ⟨⟨hgr.os.trans hG.os, hgr.tape.trans hG.tape, hgr.output.trans hG.output, Nat.le_trans hG.size hgr.size, fun p hp hne => (hgr.block p (Nat.lt_of_lt_of_le hp hG.size) (fun e => by have := hlow p e.symm; omega)).trans (hG.block p hp hne)⟩, hD.grown hgr (fun p e => by have := hlow p e; omega), OwnS.blk hown k6 (by decide) hgr, OwnS.blk hown k7 (by decide) hgr, (fun e => by have e : upd L 5 5 = false := e; rw [upd_eq] at e; cases e), kn_free q rfl, fun e => d3 e, (fun _ => ⟨x, qq, e4, hx, (fun e => by have e : upd L 5 5 = false := e; rw [upd_eq] at e; cases e)⟩), (fun _ => ⟨x, A', c', rfl, hx, hc', hown'⟩), fun e => o43 e, (fun _ => l4)⟩
   refine gent_nil ?_
   intro vs L W3 hall hS
   obtain ⟨hG, hD, k6, k7, -, q, -, -, d5, -, -⟩ := HO.out _ _ _ hS
   obtain ⟨x, A2, c2, e5, hx, hc2, ho⟩ := d5 (hall 5 (by omega))
   clear hall hS HI HO q d5
   simp only [e5]
   clear e5
   have hX2 : Hid (∀ y ∈ l ++ [x], -8388608 ≤ y ∧ y ≤ 8388607) := Lib.hid (fun y hy => by
    rcases List.mem_append.1 hy with hy | hy
    ·exact HX.out y hy
    ·rw [List.mem_singleton] at hy; subst hy; exact hx)
   have x1 := k7.cell 1
   have f1 := k7.frozen 1
   have wz := k7.lt
   go_upto_region 4 with fail
   clear x1 f1
   replace ho : OwnS _ _ _ _ := ho.farT k7 (by decide) 1 (.slice A2 (l.length + 1) c2)
   replace hD := hD.put (p := ⟨n7, 1, none⟩) (by have := hD.lo; simp only; omega) (by simp only; omega) (.slice A2 (l.length + 1) c2)
   replace hG := gb_set hG (p := ⟨n7, 1, none⟩) (by simp only; omega) (.slice A2 (l.length + 1) c2)
   replace k6 := k6.far (p := ⟨n7, 1, none⟩) (by simp only; omega) (.slice A2 (l.length + 1) c2)
   replace k7 : Blk _ n7 60 #[.int .i64 (ch : Int), .slice A2 (l.length + 1) c2] := k7.set_ 1 (.slice A2 (l.length + 1) c2)
   generalize World.setCell W3 _ _ = w4 at *
   have hle1 : (l ++ [x]).length = l.length + 1 := by simp
   rw [← hle1] at ho k7 hc2
   go_wp2
   go_roundw
   case rel => exact ⟨l ++ [x], A2, c2, by simp; omega, by simp, hX2, hc2, ho, k6, k7, hD, hG⟩
   case measure => simp [intOf] <;> omega
  ·have e0 : decide ((l.length : Int) < ((16 * ch : Nat) : Int)) = false := by simp only [decide_eq_false_iff_not]; omega
   have e0' : decide ((l.length : Int) < 16 * (ch : Int)) = false := by simp only [decide_eq_false_iff_not]; omega
   have hz7 := k7.lt
   go_upto_region 6 with fail
   refine wp_region_lit ?_
   refine wpList_load_row rfl _ rfl rfl k7 Tryz.underlying60 rfl b60info ?_
   refine wpList_store_row rfl _ _ rfl rfl rfl rfl k6 b60info rfl (by simp [Value.oneCell']) ?_
   replace ho := ho.row k6 (by decide) #[.int .i64 (ch : Int), .slice A l.length c]
   replace hD := hD.grown (grown_row wr w.heap.size #[.int .i64 (ch : Int), .slice A l.length c]) (fun q e => by injection e with e; omega)
   replace hG := gb_row hG (q := w.heap.size) (Nat.le_refl _) #[.int .i64 (ch : Int), .slice A l.length c]
   replace k6 := k6.row (cs := #[.int .i64 (ch : Int), .slice A l.length c])
   generalize World.setRow wr _ _ = wz at *
   go_wp2
   refine bodyPost_ret (v := .agg #[.int .i64 (ch : Int), .slice A l.length c]) ?_ rfl ⟨⟨l, A, c, rfl, ⟨h1, h2, by omega, by omega, HX.out⟩, hc, ho⟩, hD, hG⟩
   have xr := k6.cell
   simp [results, Tryz.results19, go_sem, xr]
end Go.Proofs.YtbfdaojffffaaaaGreat
