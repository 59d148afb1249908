/-
  YtbfdaojffffaaaaGreatTopCable: shared parts, 3. Plain theorems.
-/
import Derived.Test.YtbfdaojffffaaaaGreatTopCableK2
import Derived.Deep.MidRow
namespace Go.Proofs.YtbfdaojffffaaaaGreat
open Go.RowKit Go.Shelf
attribute [local go_sem] Oper.semAt_some
theorem blk_own (B : Nat) (t : TypeId) (cs : Array Value) {X Y : World} {row : Option Nat} (h : Blk X B t cs) (hg : X.grownBy Y row) (hr : ∀ r, row = some r → ∃ o : Obj, X.heap[r]? = some o ∧ o.isCells = false) : Blk Y B t cs :=
 (hg.block B h.lt (fun e' => by obtain ⟨o, ho, hc⟩ := hr B e'.symm; rw [show X.heap[B]? = _ from h] at ho; cases ho; cases hc)).trans h
/-- The position that the last piece says. -/
def lastV (t : Int) (l : List Pc) : Int := match l.getLast? with
 | none => 0
 | some x => x.b + (min t x.u - x.f) * x.n / x.d
theorem lastV_snoc (t : Int) (l : List Pc) (x : Pc) : lastV t (l ++ [x]) = x.b + (min t x.u - x.f) * x.n / x.d := by simp [lastV]
/-- The position of a clock. -/
def posK (l : List Seg) (t : Int) : Int := lastV t ((pcsF 0 l).takeWhile (fun x => decide (x.f ≤ t)))
theorem seg_step {s t : Seg} (o1 : okSg s) (h1 : s.f < t.f) (h2 : t.f ≤ 1048576) : 0 ≤ (t.f - s.f) * s.n / s.d ∧ (t.f - s.f) * s.n / s.d ≤ 1073741824 := by
 obtain ⟨o1, o2, o3, o4, o5⟩ := o1
 obtain ⟨z1, z2, z3, z4, -⟩ := okR_bd o1
 have hm : (t.f - s.f) * s.n ≤ 1048576 * (s.d * 1024) := Int.mul_le_mul (by omega) o3 (by omega) (by omega)
 exact ⟨Int.ediv_nonneg (Int.mul_nonneg (by omega) (by omega)) (by omega), Int.ediv_le_of_le_mul (by omega) (by omega)⟩
theorem pcs_bd : ∀ (b : Int) (l : List Seg), (∀ s ∈ l, okSg s) → (∀ s ∈ l, s.f ≤ 1048576) → (∀ (k : Nat) s t, l[k]? = some s → l[k + 1]? = some t → s.f < t.f) → 0 ≤ b → ∀ x ∈ pcsF b l, 0 ≤ x.b ∧ x.b ≤ b + (l.length : Int) * 1073741824 ∧ okR x.n x.d = true ∧ x.n ≤ x.d * 1024 ∧ 0 ≤ x.f ∧ x.f ≤ x.u
 | _, [], _, _, _, _, x, hx => by simp [pcsF] at hx
 | b, [s], h1, h2, h3, h4, x, hx => by
  simp only [pcsF, List.mem_singleton] at hx
  subst hx
  obtain ⟨o1, o2, o3, o4, o5⟩ := h1 s (by simp)
  refine ⟨h4, ?_, o1, o3, o4, o5⟩
  simp only [List.length_cons, List.length_nil]
  omega
 | b, s :: t :: r, h1, h2, h3, h4, x, hx => by
  have hup := h3 0 s t rfl rfl
  obtain ⟨y1, y2⟩ := seg_step (h1 s (by simp)) hup (h2 t (by simp))
  simp only [pcsF, List.mem_cons] at hx
  rcases hx with rfl | hx
  ·obtain ⟨o1, o2, o3, o4, o5⟩ := h1 s (by simp)
   refine ⟨h4, ?_, o1, o3, o4, by simp only; omega⟩
   simp only [List.length_cons]
   omega
  ·have ih := pcs_bd (b + (t.f - s.f) * s.n / s.d) (t :: r) (fun s hs => h1 s (by simp only [List.mem_cons] at hs ⊢; exact .inr hs)) (fun s hs => h2 s (by simp only [List.mem_cons] at hs ⊢; exact .inr hs)) (fun k a b ha hb => h3 (k + 1) a b ha hb) (by omega) x hx
   obtain ⟨i1, i2, i3⟩ := ih
   refine ⟨i1, ?_, i3⟩
   simp only [List.length_cons] at i2 ⊢
   omega
theorem takeWhile_f {l : List Pc} {t : Int} {x : Pc} (h : x ∈ l.takeWhile (fun x => decide (x.f ≤ t))) : x.f ≤ t := by
 induction l with
 | nil => simp at h
 | cons a l ih =>
  rw [List.takeWhile_cons] at h
  split at h
  ·rename_i ha
   rcases List.mem_cons.1 h with rfl | h
   ·simpa using ha
   ·exact ih h
  ·simp at h
theorem posK_bd {l : List Seg} (hl : OkK l) {t : Int} (ht : t ≤ 1048576) : 0 ≤ posK l t ∧ posK l t ≤ 1100585369600 := by
 have hb := pcs_bd 0 l hl.ok.seg hl.small hl.ok.up (by omega)
 have hle := hl.ok.le
 unfold posK
 have hm : ∀ x ∈ (pcsF 0 l).takeWhile (fun x => decide (x.f ≤ t)), x.f ≤ t := fun x hx => takeWhile_f hx
 have hs := List.takeWhile_subset (fun x : Pc => decide (x.f ≤ t)) (l := pcsF 0 l)
 generalize (pcsF 0 l).takeWhile _ = r at *
 rcases List.eq_nil_or_concat r with rfl | ⟨r, ⟨f, n, d, u, b⟩, rfl⟩
 ·simp [lastV]
 ·have hf := hm ⟨f, n, d, u, b⟩ (by simp)
  obtain ⟨b1, b2, b3, b4, b5, b6⟩ := hb ⟨f, n, d, u, b⟩ (hs (by simp))
  simp only at *
  rw [List.concat_eq_append, lastV_snoc]
  simp only
  obtain ⟨z1, z2, z3, z4, -⟩ := okR_bd b3
  have hm : (min t u - f) * n ≤ 1048576 * (d * 1024) := Int.mul_le_mul (by omega) b4 (by omega) (by omega)
  have q1 : 0 ≤ (min t u - f) * n / d := Int.ediv_nonneg (Int.mul_nonneg (by omega) (by omega)) (by omega)
  have q2 : (min t u - f) * n / d ≤ 1073741824 := Int.ediv_le_of_le_mul (by omega) (by omega)
  omega
set_option maxRecDepth 100000 in
set_option maxHeartbeats 20000000 in
theorem pieces_in (m : Nat) (v : Value) (w : World) :
 CallsIn Fence.wide m Tryz.prog 300 #[.agg #[v]] w fun e w' => e = .returned (.func (.func 312) #[] #[.pointer (some ⟨w.heap.size, 0, none⟩)]) ∧ w' = w.alloc (.cells #[v] 38) := by
 refine callsIn_of_wp Tryz.func300 rfl trivial ?_ rfl
 simp only [Tryz.ntmps300, List.size_toArray, List.length_cons, List.length_nil, Nat.reduceAdd, Nat.reduceSub, Array.replicate_succ, Array.replicate_zero, List.push_toArray, List.append_toArray, List.nil_append, List.cons_append]
 gi_wp2
 go_ret
 exact ⟨rfl, rfl⟩
/-- The iterator's contract. -/
theorem pieces_stops (m : Nat) (hm : 1 ≤ m) (Bc Bn : Nat) (A : Option Addr) (c : Nat) (l : List Seg) (hl : OkK l) (w : World) (hBc : w.cell? ⟨Bc, 0, none⟩ = some (.slice A l.length c)) (hBn : Bc ≠ Bn) (hBn2 : Bn < w.heap.size) (hS : Sgs w A l) (hSn : ∀ ad, A = some ad → ad.block ≠ Bn) :
 SeqStopsK Fence.wide m Tryz.prog 312 #[.pointer (some ⟨Bc, 0, none⟩)] (fun x : PcX => #[Value.agg (pcA x.1)]) (KpC Bn) (fun ys => ys.map (·.1) = pcsF 0 l) (fun pre => pre.map (·.1) <+: pcsF 0 l) l.length w := fun r J Jx W hW hJ _ hY h0 =>
 pieces1_in m hm r Bc Bn A c l hl J Jx hY W hJ (below_cell hW (World.block_lt_of_cell? w _ hBc) hBc) hBn (Nat.lt_of_lt_of_le hBn2 hW.size) (hS.grows hW) hSn h0
theorem takeWhile_all {l : List Pc} {t : Int} (h : ∀ y ∈ l, y.f ≤ t) : l.takeWhile (fun x => decide (x.f ≤ t)) = l := by
 induction l with
 | nil => rfl
 | cons a l ih => rw [List.takeWhile_cons, if_pos (by simpa using h a (by simp)), ih (fun y hy => h y (by simp [hy]))]
theorem takeWhile_pre {l r : List Pc} {x : Pc} {t : Int} (h : ∀ y ∈ l, y.f ≤ t) (hx : t < x.f) : (l ++ x :: r).takeWhile (fun x => decide (x.f ≤ t)) = l := by
 induction l with
 | nil => rw [List.nil_append, List.takeWhile_cons, if_neg (by simp; omega)]
 | cons a l ih => rw [List.cons_append, List.takeWhile_cons, if_pos (by simpa using h a (by simp)), ih (fun y hy => h y (by simp [hy]))]
set_option maxRecDepth 100000 in
set_option maxHeartbeats 20000000 in
theorem position_any (A : Option Addr) (c : Nat) (l : List Seg) (t : Int) (w : World) (h : Sgs w A l) (hl : OkK l) (h1 : 0 ≤ t) (h2 : t ≤ 1048576) :
 Calls Tryz.prog 267 #[.agg #[.slice A l.length c], .int .i64 t] w fun e w' => e = .returned (.int .i64 (posK l t)) ∧ Grows w w' := by
 refine callsIn_wide.1 (show CallsIn Fence.wide 6 Tryz.prog 267 _ w _ from ?_)
 refine callsIn_of_wp_marks Tryz.func267 rfl trivial ?_ rfl
 simp only [Tryz.ntmps267, List.size_toArray, List.length_cons, List.length_nil, Nat.reduceAdd, Nat.reduceSub, Array.replicate_succ, Array.replicate_zero, List.push_toArray, List.append_toArray, List.nil_append, List.cons_append]
 have hfp : Fence.wide.fn 300 := trivial
 have hfa : Fence.wide.fn 301 := trivial
 gi_wp2_with (gi_at_call 300; refine (pieces_in 5 _ _).mono ?_; rintro e w' ⟨rfl, rfl⟩)
 have bC := (((Boxed.new w 38 (.slice A l.length c)).alloc (.cells #[.int .i64 t] 2)).alloc (.cells #[.int .i64 0] 2)).alloc (.cells #[.slice A l.length c] 38)
 have bT := ((Boxed.new (w.alloc (.cells #[.slice A l.length c] 38)) 2 (.int .i64 t)).alloc (.cells #[.int .i64 0] 2)).alloc (.cells #[.slice A l.length c] 38)
 have bN := (Boxed.new ((w.alloc (.cells #[.slice A l.length c] 38)).alloc (.cells #[.int .i64 t] 2)) 2 (.int .i64 0)).alloc (.cells #[.slice A l.length c] 38)
 have bP := Boxed.new (((w.alloc (.cells #[.slice A l.length c] 38)).alloc (.cells #[.int .i64 t] 2)).alloc (.cells #[.int .i64 0] 2)) 38 (.slice A l.length c)
 have hB0 : Grows w ((((w.alloc (.cells #[.slice A l.length c] 38)).alloc (.cells #[.int .i64 t] 2)).alloc (.cells #[.int .i64 0] 2)).alloc (.cells #[.slice A l.length c] 38)) := ((((Below.refl _ w).alloc (Nat.le_refl _) _).alloc (by simp) _).alloc (by simp; omega) _).alloc (by simp; omega) _
 simp only [World.size_alloc] at bC bT bN bP
 have hsz : ((((w.alloc (.cells #[.slice A l.length c] 38)).alloc (.cells #[.int .i64 t] 2)).alloc (.cells #[.int .i64 0] 2)).alloc (.cells #[.slice A l.length c] 38)).heap.size = w.heap.size + 4 := by simp
 obtain ⟨W0, hW0⟩ : ∃ W0, (((w.alloc (.cells #[.slice A l.length c] 38)).alloc (.cells #[.int .i64 t] 2)).alloc (.cells #[.int .i64 0] 2)).alloc (.cells #[.slice A l.length c] 38) = W0 := ⟨_, rfl⟩
 rw [hW0] at bC bT bN bP hB0 hsz ⊢
 clear hW0
 refine wpIn_rangeFunc_ownH rfl (by omega) (gf := 312) (lb := #[.pointer (some ⟨w.heap.size + 1 + 1 + 1, 0, none⟩)]) rfl trivial (enters_of Tryz.func312 (by kernel_rfl) rfl)
  (pieces_stops 5 (by omega) (w.heap.size + 1 + 1 + 1) (w.heap.size + 1 + 1) A c l hl W0 bP.cell (by omega) (by omega) (h.grows hB0) (fun ad e => by have hp := hl.ok.pos; obtain ⟨ad', s, e', hb, -⟩ := h.elem (show 0 < l.length by omega); rw [e'] at e; cases e; omega)) (fun h k => KpC.trans h k) (KpC.put) (Below.refl _ _) (fun _ => rfl)
  (fun pre W => ((Boxed W (w.heap.size + 1 + 1) 2 (.int .i64 (lastV t (pre.map (·.1)))) ∧ Boxed W (w.heap.size + 1) 2 (.int .i64 t)) ∧ (∀ y ∈ pre.map (·.1), y.f ≤ t)) ∧ Below w.heap.size w W)
  (fun cd pre W => (∃ (p0 : List PcX) (x : PcX), cd = .exit 0 ∧ pre = p0 ++ [x] ∧ (∀ y ∈ p0.map (·.1), y.f ≤ t) ∧ t < x.1.f ∧ Boxed W (w.heap.size + 1 + 1) 2 (.int .i64 (lastV t (p0.map (·.1))))) ∧ Below w.heap.size w W)
  (OwnFrom.and (OwnFrom.and (OwnFrom.and (Own.from (boxed_own _ _ _) _) (Own.from (boxed_own _ _ _) _)) (ownFrom_pure _ _)) (ownFrom_below (Nat.le_refl _) (by omega)))
  (fun cd => OwnFrom.and (fun s X Y row hs hg hr => by obtain ⟨p0, x, e1, e2, e3, e4, e5⟩ := hs; exact ⟨p0, x, e1, e2, e3, e4, blk_own _ _ _ e5 hg (fun r e => (hr r e).2)⟩) (ownFrom_below (Nat.le_refl _) (by omega)))
  ⟨⟨⟨bN, bT⟩, by simp⟩, hB0⟩
  (fun x a' W => ∃ Bx, w.heap.size + 1 + 1 < Bx ∧ Blk W Bx 330 (pcA x.1) ∧ a' = { tmps := #[.agg #[.slice A l.length c], .int .i64 t, .pointer (some ⟨w.heap.size, 0, none⟩), .pointer (some ⟨w.heap.size + 1, 0, none⟩), .int .i64 0, .pointer (some ⟨w.heap.size + 1 + 1, 0, none⟩), .pointer (some ⟨Bx, 0, none⟩), .agg #[.slice A l.length c], .func (.func 312) #[] #[.pointer (some ⟨w.heap.size + 1 + 1 + 1, 0, none⟩)], .agg (pcA x.1), undef, undef, undef, undef, undef, undef, undef, undef, undef, undef, undef, undef], defers := [] })
  (fun x a' _ X Y row hs hg hr => by obtain ⟨Bx, h1, h2, h3⟩ := hs; exact ⟨Bx, h1, blk_own _ _ _ h2 hg (fun r e => (hr r e).2), h3⟩)
  ?assign ?body ?done ?stop
 case assign =>
  rintro r pre x W K ⟨⟨⟨bN1, bT1⟩, hf1⟩, hB1⟩ hK
  obtain ⟨⟨f, n, d, u, b⟩, hx⟩ := x
  simp only [pcA] at hK ⊢
  gi_wp2
  exact hK _ _ ((KeepsOthers.alloc _ _).from _) (KpC.grows ((Below.refl _ W).alloc (Nat.le_refl _) _)) ⟨⟨⟨bN1.alloc _, bT1.alloc _⟩, hf1⟩, hB1.alloc hB1.size _⟩ ⟨W.heap.size, bN1.lt, Blk.new W 330 _, rfl⟩
 case body =>
  rintro r pre x a' W hr1 hr2 ⟨⟨⟨bN1, bT1⟩, hf1⟩, hB1⟩ ⟨Bx, hBx, bX, rfl⟩ hlt
  have cT := bT1.cell
  have cN := bN1.cell
  have fN := bN1.frozen
  have cX := bX.cell
  obtain ⟨⟨f, n, d, u, b⟩, hx⟩ := x
  obtain ⟨o1, o2, o3, o4, o5, o6, o7, o8, o9⟩ := id hx
  simp only [pcA] at *
  by_cases hft : t < f
  ·have d1 : decide (t < f) = true := by simp only [decide_eq_true_iff]; omega
   gi_wp2
   exact ⟨(KeepsOthers.refl _).from _, ⟨pre, ⟨_, hx⟩, rfl, rfl, hf1, hft, bN1⟩, hB1⟩
  ·have d1 : decide (t < f) = false := by simp only [decide_eq_false_iff_not]; omega
   gi_upto_region 5 with fail
   clear cN fN
   gi_wp2_with (gi_at_call 301; refine (callsIn_wide.2 (at_exact ⟨f, n, d, u, b⟩ (min t u) _ o1 (by simp only; omega) (by simp only; omega) o7 (by simp only; omega))).mono ?_; rintro e w1 ⟨rfl, hq⟩; have cN := (Blk.grows bN1 hq).cell 0; have fN := (Blk.grows bN1 hq).frozen 0)
   have hB2 := below_grows hB1 (Nat.le_refl _) hq
   refine ⟨((KeepsOthers.of_grownBy (grown_none hq) (fun j o e => by cases e)).trans (KeepsOthers.setCell _ _ _)).from _, (KpC.grows hq).trans (KpC.set _ _ _ _), ⟨⟨?_, (show Boxed _ _ _ _ from Blk.grows bT1 hq).other (by omega) _⟩, ?_⟩, hB2.setCell (p := ⟨w.heap.size + 1 + 1, 0, none⟩) (by simp; omega) _⟩
   ·rw [List.map_append]
    rw [show List.map (fun x : PcX => x.1) [⟨⟨f, n, d, u, b⟩, hx⟩] = [⟨f, n, d, u, b⟩] from rfl, lastV_snoc]
    exact (show Boxed _ _ _ _ from Blk.grows bN1 hq).set _
   ·intro y hy
    rw [List.map_append, List.mem_append] at hy
    rcases hy with hy | hy
    ·exact hf1 y hy
    ·simp only [List.map_cons, List.map_nil, List.mem_singleton] at hy
     subst hy
     simp only
     omega
 case done =>
  rintro D ys W hD hys ⟨⟨⟨bN1, bT1⟩, hf1⟩, hB1⟩ hK
  have cN := bN1.cell
  gi_wp2
  refine ⟨by simp, .inl ⟨_, _, rfl, run_takeDeferred hK, ?_⟩⟩
  replace hys : ys.map (·.1) = pcsF 0 l := hys
  have e1 : posK l t = lastV t (ys.map (·.1)) := by rw [hys] at hf1 ⊢; rw [posK, takeWhile_all hf1]
  refine ⟨_, results_tmp rfl _ _ _, ?_, hB1.trans (belowK_b (w := w) (Nat.le_refl _) W D _ _ (by omega) hK rfl rfl)⟩
  rw [e1, hys]
  rfl
 case stop =>
  rintro D cd pre W hD hpre ⟨⟨p0, x, rfl, rfl, hp, hx, bN1⟩, hB1⟩ hK
  have cN := bN1.cell
  gi_wp2
  refine ⟨by simp, .inl ⟨_, _, rfl, run_takeDeferred hK, ?_⟩⟩
  have e1 : posK l t = lastV t (p0.map (·.1)) := by
   obtain ⟨r, hr⟩ := hpre
   simp only [posK, ← hr, List.map_append, List.append_assoc, List.map_cons, List.map_nil, List.cons_append, List.nil_append]
   rw [takeWhile_pre hp hx]
  refine ⟨_, results_tmp rfl _ _ _, ?_, hB1.trans (belowK_b (w := w) (Nat.le_refl _) W D _ _ (by omega) hK rfl rfl)⟩
  rw [e1]
  rfl
set_option maxRecDepth 100000 in
set_option maxHeartbeats 20000000 in
theorem between_any (A : Option Addr) (c : Nat) (l : List Seg) (f t : Int) (w : World) (h : Sgs w A l) (hl : OkK l) (h0 : 0 ≤ f) (h1 : f ≤ t) (h2 : t ≤ 1048576) :
 Calls Tryz.prog 210 #[.agg #[.slice A l.length c], .int .i64 f, .int .i64 t] w fun e w' => e = .returned (.tuple #[.int .i64 (posK l t - posK l f), .int .i64 0]) ∧ Grows w w' := by
 have hpf := fun (w1 : World) (hq : Grows w w1) => position_any A c l f w1 (h.grows hq) hl h0 (by omega)
 have hpt := fun (w1 : World) (hq : Grows w w1) => position_any A c l t w1 (h.grows hq) hl (by omega) h2
 have hcl := fun (w1 : World) (hq : Grows w w1) => clvalid_any A c l w1 (h.grows hq) hl.ok
 have d1 : decide (f < 0) = false := by simp only [decide_eq_false_iff_not]; omega
 have d2 : decide (1099511627776 < t) = false := by simp only [decide_eq_false_iff_not]; omega
 have d3 : decide (t < f) = false := by simp only [decide_eq_false_iff_not]; omega
 obtain ⟨p1, p2⟩ := posK_bd hl (show f ≤ 1048576 by omega)
 obtain ⟨p3, p4⟩ := posK_bd hl h2
 clear hl
 generalize posK l f = pf at *
 generalize posK l t = pt at *
 go_enter Tryz.func210, Tryz.ntmps210
 have hB := (Below.refl w.heap.size w).alloc (Nat.le_refl _) (Obj.cells #[.slice A l.length c] 38)
 have k3 := Blk.new w 38 #[.slice A l.length c]
 go_wp2_with fail
 refine (hcl _ hB).mono ?_
 rintro e w1 ⟨rfl, hq⟩
 replace hB := below_grows hB (Nat.le_refl _) hq
 replace k3 := k3.grows hq
 clear hq hcl
 have x3 := k3.cell
 have hpf := fun w (hq : Grows w1 w) => hpf w (below_grows hB (Nat.le_refl _) hq)
 have hpt := fun w (hq : Grows w1 w) => hpt w (below_grows hB (Nat.le_refl _) hq)
 go_upto_region 5 with fail
 have wx : IntKind.i64.wrap (pt - pf) = pt - pf := IntWalk.i64_in _ (by omega)
 refine wp_region_mix (fun w' => Grows w1 w') [] 9 31 (by kernel_rfl) (by kernel_rfl) rfl ?_ float_none ?_ ?_
 ·exact fun w1 w2 h0 hg => below_grows h0 (Nat.le_refl _) hg
 ·exact Grows.drew' _
 ·skip
  simp only [List.take_succ_cons, List.take_zero, List.drop_succ_cons, List.drop_zero]
  iterate 9
   refine calm_plain rfl rfl (v := ?_) (a' := ?_) (fun w1 hw1 => ?_) ?_ ?_
   rotate_left 2
   ·have h0 := hw1
    have x3 := (k3.grows h0).cell
    go_simp
    first | exact calm_val | (refine calm_call ?_; with_reducible exact hpf _ h0) | (refine calm_call ?_; with_reducible exact hpt _ h0)
   ·simp only [Act.put, List.setIfInBounds_toArray, List.set_cons_succ, List.set_cons_zero]
    rfl
  refine calm_done (end_none ?_)
  rintro W2 hg
  replace hB := below_grows hB (Nat.le_refl _) hg
  go_wp2
  go_ret2
  exact ⟨rfl, hB⟩
end Go.Proofs.YtbfdaojffffaaaaGreat

namespace Go.Proofs.YtbfdaojffffaaaaGreat
open Go.RowKit
/-- The characters of a name. -/
def okNm (s : ByteArray) : Prop := ∀ (k : Nat) (hk : k < s.size), (65 ≤ ((s[k]'hk).toNat : Int) ∧ ((s[k]'hk).toNat : Int) ≤ 122 ∧ ((s[k]'hk).toNat : Int) ≠ 95 ∧ 97 ≤ bits BinOp.or IntKind.u8 ((s[k]'hk).toNat : Int) 32 ∧ bits BinOp.or IntKind.u8 ((s[k]'hk).toNat : Int) 32 ≤ 122) ∨ (k ≠ 0 ∧ 45 ≤ ((s[k]'hk).toNat : Int) ∧ ((s[k]'hk).toNat : Int) ≤ 57 ∧ ((s[k]'hk).toNat : Int) ≠ 47 ∧ bits BinOp.or IntKind.u8 ((s[k]'hk).toNat : Int) 32 = ((s[k]'hk).toNat : Int))
theorem nm_dac : okNm ⟨#[100, 97, 99]⟩ := by
 intro k hk
 have hk' : k < 3 := hk
 match k, hk' with
 | 0, _ => decide +revert +kernel
 | 1, _ => decide +revert +kernel
 | 2, _ => decide +revert +kernel
set_option maxRecDepth 100000 in
set_option maxHeartbeats 20000000 in
theorem name_any (s : ByteArray) (w : World) (h1 : 1 ≤ s.size) (h2 : s.size ≤ 64) (hn : s.toList.isEmpty = false) (h : okNm s) :
 Calls Tryz.prog 137 #[.string s] w fun e w' => e = .returned (.bool true) ∧ Grows w w' := by
 go_enter Tryz.func137, Tryz.ntmps137
 go_wp2_with fail
 go_loopw [9] (fun i wr => ∃ k : Nat, k ≤ s.size ∧ i = .int .i64 k ∧ Grows w wr) (fun i _ => s.size - (intOf i).toNat)
 case atStart => exact ⟨0, by omega, rfl, Below.refl _ _⟩
 case round =>
  obtain ⟨k, hk, rfl, hB⟩ := hrel
  by_cases hlt : k < s.size
  ·go_upto_region 5 with fail
   have hc := h k hlt
   obtain ⟨x, hx⟩ : ∃ x : Int, ((s[k]'hlt).toNat : Int) = x := ⟨_, rfl⟩
   rw [hx] at hc
   obtain ⟨B, hb⟩ : ∃ B : Int, bits BinOp.or IntKind.u8 x 32 = B := ⟨_, rfl⟩
   rw [hb] at hc
   have wk : IntKind.i64.wrap ((k : Int) + 1) = (k : Int) + 1 := IntWalk.i64_in _ (by omega)
   simp only [hx, hb]
   rcases hc with hc | hc
   ·obtain ⟨c1, c2, c3, c4, c5⟩ := hc
    have e1 : decide (97 ≤ B) = true := by simp only [decide_eq_true_iff]; omega
    have e2 : decide (B ≤ 122) = true := by simp only [decide_eq_true_iff]; omega
    have e3 : decide (48 ≤ x) = true := by simp only [decide_eq_true_iff]; omega
    have e4 : decide (x ≤ 57) = false := by simp only [decide_eq_false_iff_not]; omega
    have e5 : ((x) == (45)) = false := by simp; omega
    have e6 : ((x) == (46)) = false := by simp; omega
    have e7 : ((x) == (95)) = false := by simp; omega
    go_wp2
    go_roundw
    case rel => exact ⟨k + 1, by omega, rfl, hB⟩
    case measure => simp [intOf] <;> omega
   ·obtain ⟨c0, c1, c2, c3, c4⟩ := hc
    subst c4
    have e1 : decide (97 ≤ B) = false := by simp only [decide_eq_false_iff_not]; omega
    have e8 : (((k : Int)) == (0)) = false := by simp; omega
    by_cases c5 : 48 ≤ B
    ·have e3 : decide (48 ≤ B) = true := by simp only [decide_eq_true_iff]; omega
     have e4 : decide (B ≤ 57) = true := by simp only [decide_eq_true_iff]; omega
     go_wp2
     go_roundw
     case rel => exact ⟨k + 1, by omega, rfl, hB⟩
     case measure => simp [intOf] <;> omega
    ·have e3 : decide (48 ≤ B) = false := by simp only [decide_eq_false_iff_not]; omega
     by_cases c6 : B = 45
     ·have e5 : ((B) == (45)) = true := by simp; omega
      go_wp2
      go_roundw
      case rel => exact ⟨k + 1, by omega, rfl, hB⟩
      case measure => simp [intOf] <;> omega
     ·have e5 : ((B) == (45)) = false := by simp; omega
      have e6 : ((B) == (46)) = true := by simp; omega
      go_wp2
      go_roundw
      case rel => exact ⟨k + 1, by omega, rfl, hB⟩
      case measure => simp [intOf] <;> omega
  ·have hkl : k = s.size := by omega
   subst hkl
   have hn2 : (s.toList = []) = False := by simp only [eq_iff_iff, iff_false]; intro e; rw [e] at hn; cases hn
   have d8 : decide ((s.size : Int) ≤ 64) = true := by simp only [decide_eq_true_iff]; omega
   have d9 : decide (s.size ≤ 64) = true := by simp only [decide_eq_true_iff]; omega
   go_wp2
   go_ret
   exact ⟨rfl, hB⟩
/-- A descriptor without its boxes. -/
structure Ds where
 id : Int
 nm : ByteArray
 dir : Int
 dom : Int
 lat : Int
 dr : Int
 ji : Int
def dsA (x : Ds) (A : Option Addr) (n c : Nat) : Array Value := #[.int .u64 x.id, .string x.nm, .int .i64 x.dir, .int .i64 x.dom, .int .i64 x.lat, .int .i64 x.dr, .int .i64 x.ji, .slice A n c]
structure OkDs (x : Ds) (l : List Bx) : Prop where
 n1 : 1 ≤ x.nm.size
 n2 : x.nm.size ≤ 64
 n3 : x.nm.toList.isEmpty = false
 n4 : okNm x.nm
 dir : x.dir = 1 ∨ x.dir = 2
 dom : 0 ≤ x.dom ∧ x.dom ≤ 65535
 lat : 0 ≤ x.lat ∧ x.lat ≤ 1048576
 dr : 0 ≤ x.dr ∧ x.dr ≤ 2048
 ji : 0 ≤ x.ji ∧ x.ji ≤ 4096
 l1 : 1 ≤ l.length
 l2 : l.length ≤ 8
 v : validL l = true
 ok : ∀ b ∈ l, OKB b
set_option maxRecDepth 100000 in
set_option maxHeartbeats 20000000 in
theorem dvalid_any {x : Ds} {l : List Bx} (hx : OkDs x l) {base : Nat → Prop} {A : Option Addr} {c : Nat} {w : World} (h : Bxs w base A l) :
 Calls Tryz.prog 61 #[.agg (dsA x A l.length c)] w fun e w' => e = .returned (.bool true) ∧ Grows w w' := by
 obtain ⟨id, nm, dir, dom, lat, dr, ji⟩ := x
 obtain ⟨n1, n2, n3, n4, hd, ⟨o1, o2⟩, ⟨o3, o4⟩, ⟨o5, o6⟩, ⟨o7, o8⟩, l1, l2, hv, ok⟩ := hx
 simp only at n1 n2 n3 n4 hd o1 o2 o3 o4 o5 o6 o7 o8
 have hn := fun w => name_any nm w n1 n2 n3 n4
 have hp := fun w1 (hq : Grows w w1) => pvalidl_any A c base l w1 (h.grows hq) (by omega) ok
 rw [hv] at hp
 simp only [dsA]
 have e1 : decide (dom < 0) = false := by simp only [decide_eq_false_iff_not]; omega
 have e2 : decide (65535 < dom) = false := by simp only [decide_eq_false_iff_not]; omega
 have e3 : decide (lat < 0) = false := by simp only [decide_eq_false_iff_not]; omega
 have e4 : decide (1048576 < lat) = false := by simp only [decide_eq_false_iff_not]; omega
 have e5 : decide (dr < 0) = false := by simp only [decide_eq_false_iff_not]; omega
 have e6 : decide (2048 < dr) = false := by simp only [decide_eq_false_iff_not]; omega
 have e7 : decide (ji < 0) = false := by simp only [decide_eq_false_iff_not]; omega
 have e8 : decide (4096 < ji) = false := by simp only [decide_eq_false_iff_not]; omega
 have e9 : decide ((1 : Int) ≤ (l.length : Int)) = true := by simp only [decide_eq_true_iff]; omega
 have e10 : decide ((l.length : Int) ≤ 8) = true := by simp only [decide_eq_true_iff]; omega
 have e11 : decide (1 ≤ l.length) = true := by simp only [decide_eq_true_iff]; omega
 have e12 : decide (l.length ≤ 8) = true := by simp only [decide_eq_true_iff]; omega
 go_enter Tryz.func61, Tryz.ntmps61
 have hB := (Below.refl w.heap.size w).alloc (Nat.le_refl _) (Obj.cells #[.int .u64 id, .string nm, .int .i64 dir, .int .i64 dom, .int .i64 lat, .int .i64 dr, .int .i64 ji, .slice A l.length c] 30)
 have k1 := Blk.new w 30 #[.int .u64 id, .string nm, .int .i64 dir, .int .i64 dom, .int .i64 lat, .int .i64 dr, .int .i64 ji, .slice A l.length c]
 go_wp2_with fail
 refine (hn _).mono ?_
 rintro e w1 ⟨rfl, hq⟩
 replace hB := below_grows hB (Nat.le_refl _) hq
 replace k1 := k1.grows hq
 clear hq hn
 have x1 := k1.cell
 have hp := hp _ hB
 rcases hd with rfl | rfl
 all_goals
  go_wp2_with fail
  refine hp.mono ?_
  rintro e w2 ⟨rfl, hq⟩
  replace hB := below_grows hB (Nat.le_refl _) hq
  clear hq
  go_wp2
  go_ret
  exact ⟨rfl, hB⟩
end Go.Proofs.YtbfdaojffffaaaaGreat

namespace Go.Proofs.YtbfdaojffffaaaaGreat
open Go.RowKit
/-- A device. -/
structure Dv where
 ds : Ds
 BA : Option Addr
 b : List Bx
 bc : Nat
 k : Int
 r : Int
 MA : Option Addr
 m : List Int
 mc : Nat
 s : Int
 R : Int
 P : Int
 CA : Option Addr
 g : List Seg
 cc : Nat
 run : Bool
 since : Int
 cap : Nat
 T : Int
 dd : Int
 G : Int
 M : Int
 ch : Nat
 n : Int
 d : Int
 a : Int
 p : Int
 f : Int
 A : Option Addr
 l : List Int
 c : Nat
def dvA (D : Dv) : Array Value := #[.int .u64 D.ds.id, .string D.ds.nm, .int .i64 D.ds.dir, .int .i64 D.ds.dom, .int .i64 D.ds.lat, .int .i64 D.ds.dr, .int .i64 D.ds.ji, .slice D.BA D.b.length D.bc,
 .int .i64 D.k, .int .i64 D.r, .slice D.MA D.m.length D.mc, .int .i64 D.s, .int .i64 D.R, .int .i64 D.P, .slice D.CA D.g.length D.cc, .bool D.run, .int .i64 D.since,
 .int .i64 (D.cap : Int), .int .i64 D.T, .int .i64 D.dd, .int .i64 D.G, .int .i64 D.M, .int .i64 (D.ch : Int), .int .i64 D.n, .int .i64 D.d, .int .i64 D.a, .int .i64 D.p, .int .i64 D.f, .slice D.A D.l.length D.c, .int .i64 0, .int .i64 0]
theorem dv_one (D : Dv) : (dvA D).all (·.oneCell') = true := by simp [dvA, Value.oneCell']
/-- The two rates of a device. -/
structure OkRt (D : Dv) : Prop where
 r1 : 1 ≤ D.r
 r2 : D.r ≤ 768000
 R1 : 8000 ≤ D.R
 R2 : D.R ≤ 192000
 P1 : 16 ≤ D.P
 P2 : D.P ≤ 8192
set_option maxRecDepth 100000 in
set_option maxHeartbeats 20000000 in
theorem u_ports (D : Dv) (w : World) : Calls Tryz.prog 95 #[.agg (dvA D)] w fun e w' => e = .returned (.int .i64 (D.m.length : Int)) ∧ Grows w w' := by
 go_enter Tryz.func95, Tryz.ntmps95
 have hB := (Below.refl w.heap.size w).alloc (Nat.le_refl _) (Obj.cells (dvA D) 171)
 have k1 := Blk.new w 171 (dvA D)
 have x10 := (show _ = some ((.slice D.MA D.m.length D.mc) : Value) from k1.cell 10)
 clear k1
 go_wp2
 go_ret
 exact ⟨rfl, hB⟩
set_option maxRecDepth 100000 in
set_option maxHeartbeats 20000000 in
theorem u_playback (D : Dv) (w : World) : Calls Tryz.prog 170 #[.agg (dvA D)] w fun e w' => e = .returned (.bool (D.ds.dir == 1)) ∧ Grows w w' := by
 go_enter Tryz.func170, Tryz.ntmps170
 have hB := (Below.refl w.heap.size w).alloc (Nat.le_refl _) (Obj.cells (dvA D) 171)
 have k1 := Blk.new w 171 (dvA D)
 have x2 := (show _ = some ((.int .i64 D.ds.dir) : Value) from k1.cell 2)
 clear k1
 go_wp2
 go_ret
 exact ⟨rfl, hB⟩
set_option maxRecDepth 100000 in
set_option maxHeartbeats 20000000 in
theorem u_set (D : Dv) (w : World) (h : OkRt D) : Calls Tryz.prog 87 #[.agg (dvA D)] w fun e w' => e = .returned (.bool true) ∧ Grows w w' := by
 obtain ⟨r1, r2, R1, R2, P1, P2⟩ := h
 go_enter Tryz.func87, Tryz.ntmps87
 have hB := (Below.refl w.heap.size w).alloc (Nat.le_refl _) (Obj.cells (dvA D) 171)
 have k1 := Blk.new w 171 (dvA D)
 have x12 := (show _ = some ((.int .i64 D.R) : Value) from k1.cell 12)
 have x13 := (show _ = some ((.int .i64 D.P) : Value) from k1.cell 13)
 clear k1
 have d0 : decide (8000 ≤ D.R) = true := by simp only [decide_eq_true_iff]; omega
 have d1 : decide (D.R ≤ 192000) = true := by simp only [decide_eq_true_iff]; omega
 have d2 : decide (16 ≤ D.P) = true := by simp only [decide_eq_true_iff]; omega
 have d3 : decide (D.P ≤ 8192) = true := by simp only [decide_eq_true_iff]; omega
 go_wp2
 go_ret
 exact ⟨rfl, hB⟩
def nomN (D : Dv) : Int := D.r / gF D.r D.R
def nomD (D : Dv) : Int := D.R / gF D.r D.R
theorem nom_ok {D : Dv} (h : OkRt D) : okR (nomN D) (nomD D) = true ∧ nomN D ≤ D.r ∧ nomD D ≤ D.R ∧ 1 ≤ nomN D ∧ 1 ≤ nomD D := by
 obtain ⟨r1, r2, R1, R2, P1, P2⟩ := h
 exact okR_div r1 (by omega) (by omega) (by omega)
theorem uinfo (D : Dv) : (Tryz.prog.info? 171).map (·.size) = some (dvA D).size := by kernel_rfl
set_option maxRecDepth 100000 in
set_option maxHeartbeats 20000000 in
theorem u_nominal (D : Dv) (w : World) (h : OkRt D) : Calls Tryz.prog 89 #[.agg (dvA D)] w fun e w' => e = .returned (.agg #[.int .i64 (nomN D), .int .i64 (nomD D)]) ∧ Grows w w' := by
 obtain ⟨r1, r2, R1, R2, P1, P2⟩ := h
 go_enter Tryz.func89, Tryz.ntmps89
 have hB := (Below.refl w.heap.size w).alloc (Nat.le_refl _) (Obj.cells (dvA D) 171)
 have k1 := Blk.new w 171 (dvA D)
 have k2 := blk_new_at (X := w.alloc (Obj.cells (dvA D) 171)) (n := w.heap.size + 1) (t := 42) (cs := #[.int .i64 0, .int .i64 0]) (by simp)
 replace k1 := k1.alloc (Obj.cells #[.int .i64 0, .int .i64 0] 42)
 replace hB := hB.alloc (by simp) (Obj.cells #[.int .i64 0, .int .i64 0] 42)
 go_upto_region 1 with fail
 generalize hn2 : w.heap.size + 1 = n2 at *
 generalize World.alloc (World.alloc w _) _ = w1 at *
 have x9 := (show _ = some ((.int .i64 D.r) : Value) from k1.cell 9)
 have x12 := (show _ = some ((.int .i64 D.R) : Value) from k1.cell 12)
 clear k1
 go_wp2_with fail
 refine (pmake_good D.r D.R _ r1 (by omega) (by omega) (by omega)).mono ?_
 rintro e w2 ⟨rfl, hq⟩
 replace k2 := k2.grows hq
 replace hB := below_grows hB (Nat.le_refl _) hq
 have hs2 := k2.lt
 rw [show D.r / gF D.r D.R = nomN D from rfl, show D.R / gF D.r D.R = nomD D from rfl]
 clear hq x9 x12
 go_upto_region 2 with fail
 have k3 := Blk.new w2 42 #[.int .i64 (nomN D), .int .i64 (nomD D)]
 replace k2 := k2.alloc (Obj.cells #[.int .i64 (nomN D), .int .i64 (nomD D)] 42)
 replace hB := hB.alloc (by have := hB.size; omega) (Obj.cells #[.int .i64 (nomN D), .int .i64 (nomD D)] 42)
 generalize hn3 : w2.heap.size = n3 at *
 generalize World.alloc w2 _ = w3 at *
 refine wp_region_lit ?_
 refine wpList_load_row rfl _ rfl rfl k3 Tryz.underlying42 rfl (by kernel_rfl) ?_
 refine wpList_store_row rfl _ _ rfl rfl rfl rfl k2 (by kernel_rfl) rfl (by simp [Value.oneCell']) ?_
 replace k2 := k2.row (cs := #[.int .i64 (nomN D), .int .i64 (nomD D)])
 replace hB := below_row hB (show w.heap.size ≤ n2 by omega) #[.int .i64 (nomN D), .int .i64 (nomD D)]
 generalize World.setRow _ _ _ = w4 at *
 go_wp2
 refine bodyPost_ret (v := .agg #[.int .i64 (nomN D), .int .i64 (nomD D)]) ?_ rfl ⟨rfl, hB⟩
 have xr := k2.cell
 simp [results, Tryz.results89, go_sem, xr]
set_option maxRecDepth 100000 in
set_option maxHeartbeats 20000000 in
theorem u_baseP (D : Dv) (w : World) (h : OkRt D) (hd : D.ds.dir = 1) : Calls Tryz.prog 96 #[.agg (dvA D)] w fun e w' => e = .returned (.agg #[.int .i64 (nomD D), .int .i64 (nomN D)]) ∧ Grows w w' := by
 go_enter Tryz.func96, Tryz.ntmps96
 have hB := (Below.refl w.heap.size w).alloc (Nat.le_refl _) (Obj.cells (dvA D) 171)
 have k1 := Blk.new w 171 (dvA D)
 have k2 := blk_new_at (X := w.alloc (Obj.cells (dvA D) 171)) (n := w.heap.size + 1) (t := 42) (cs := #[.int .i64 0, .int .i64 0]) (by simp)
 replace k1 := k1.alloc (Obj.cells #[.int .i64 0, .int .i64 0] 42)
 replace hB := hB.alloc (by simp) (Obj.cells #[.int .i64 0, .int .i64 0] 42)
 go_upto_region 1 with fail
 generalize hn2 : w.heap.size + 1 = n2 at *
 generalize World.alloc (World.alloc w _) _ = w1 at *
 refine wp_region_lit ?_
 refine wpList_load_row rfl _ rfl rfl k1 Tryz.underlying171 rfl (uinfo D) ?_
 go_wp2_with fail
 refine (u_playback D _).mono ?_
 rintro e w2 ⟨rfl, hq⟩
 rw [show (D.ds.dir == 1) = true by simp [hd]]
 replace k1 := k1.grows hq
 replace k2 := k2.grows hq
 replace hB := below_grows hB (Nat.le_refl _) hq
 have hqs := hq.size
 clear hq
 go_upto_region 3 with fail
 refine wp_region_lit ?_
 refine wpList_load_row rfl _ rfl rfl k1 Tryz.underlying171 rfl (uinfo D) ?_
 go_wp2_with fail
 refine (u_nominal D _ h).mono ?_
 rintro e w3 ⟨rfl, hq⟩
 replace k1 := k1.grows hq
 replace k2 := k2.grows hq
 replace hB := below_grows hB (Nat.le_refl _) hq
 have hqs := hq.size
 clear hq
 go_wp2_with fail
 refine (pinv_good _ _ _ (nom_ok h).1).mono ?_
 rintro e w4 ⟨rfl, hq⟩
 replace k1 := k1.grows hq
 replace k2 := k2.grows hq
 replace hB := below_grows hB (Nat.le_refl _) hq
 have hqs := hq.size
 clear hq
 have hs2 := k2.lt
 go_upto_region 4 with fail
 have k3 := Blk.new w4 42 #[.int .i64 (nomD D), .int .i64 (nomN D)]
 replace k2 := k2.alloc (Obj.cells #[.int .i64 (nomD D), .int .i64 (nomN D)] 42)
 replace hB := hB.alloc (by have := hB.size; omega) (Obj.cells #[.int .i64 (nomD D), .int .i64 (nomN D)] 42)
 generalize hn3 : w4.heap.size = n3 at *
 generalize World.alloc w4 _ = w5 at *
 refine wp_region_lit ?_
 refine wpList_load_row rfl _ rfl rfl k3 Tryz.underlying42 rfl (by kernel_rfl) ?_
 refine wpList_store_row rfl _ _ rfl rfl rfl rfl k2 (by kernel_rfl) rfl (by simp [Value.oneCell']) ?_
 replace k2 := k2.row (cs := #[.int .i64 (nomD D), .int .i64 (nomN D)])
 replace hB := below_row hB (show w.heap.size ≤ n2 by omega) #[.int .i64 (nomD D), .int .i64 (nomN D)]
 generalize World.setRow _ _ _ = w6 at *
 go_wp2
 refine bodyPost_ret (v := .agg #[.int .i64 (nomD D), .int .i64 (nomN D)]) ?_ rfl ⟨rfl, hB⟩
 have xr := k2.cell
 simp [results, Tryz.results96, go_sem, xr]
set_option maxRecDepth 100000 in
set_option maxHeartbeats 20000000 in
theorem u_baseC (D : Dv) (w : World) (h : OkRt D) (hd : D.ds.dir = 2) : Calls Tryz.prog 96 #[.agg (dvA D)] w fun e w' => e = .returned (.agg #[.int .i64 (nomN D), .int .i64 (nomD D)]) ∧ Grows w w' := by
 go_enter Tryz.func96, Tryz.ntmps96
 have hB := (Below.refl w.heap.size w).alloc (Nat.le_refl _) (Obj.cells (dvA D) 171)
 have k1 := Blk.new w 171 (dvA D)
 have k2 := blk_new_at (X := w.alloc (Obj.cells (dvA D) 171)) (n := w.heap.size + 1) (t := 42) (cs := #[.int .i64 0, .int .i64 0]) (by simp)
 replace k1 := k1.alloc (Obj.cells #[.int .i64 0, .int .i64 0] 42)
 replace hB := hB.alloc (by simp) (Obj.cells #[.int .i64 0, .int .i64 0] 42)
 go_upto_region 1 with fail
 generalize hn2 : w.heap.size + 1 = n2 at *
 generalize World.alloc (World.alloc w _) _ = w1 at *
 refine wp_region_lit ?_
 refine wpList_load_row rfl _ rfl rfl k1 Tryz.underlying171 rfl (uinfo D) ?_
 go_wp2_with fail
 refine (u_playback D _).mono ?_
 rintro e w2 ⟨rfl, hq⟩
 rw [show (D.ds.dir == 1) = false by simp [hd]]
 replace k1 := k1.grows hq
 replace k2 := k2.grows hq
 replace hB := below_grows hB (Nat.le_refl _) hq
 have hqs := hq.size
 clear hq
 go_upto_region 2 with fail
 refine wp_region_lit ?_
 refine wpList_load_row rfl _ rfl rfl k1 Tryz.underlying171 rfl (uinfo D) ?_
 refine wpList_plain rfl (fun K hK => ?_)
 go_simp
 refine (u_nominal D _ h).mono ?_
 rintro e w3 ⟨rfl, hq⟩
 refine hK _ _ ?_
 clear hK K
 replace k1 := k1.grows hq
 replace k2 := k2.grows hq
 replace hB := below_grows hB (Nat.le_refl _) hq
 have hqs := hq.size
 clear hq
 refine wpList_store_row rfl _ _ rfl rfl rfl rfl k2 (by kernel_rfl) rfl (by simp [Value.oneCell']) ?_
 replace k2 := k2.row (cs := #[.int .i64 (nomN D), .int .i64 (nomD D)])
 replace hB := below_row hB (show w.heap.size ≤ n2 by omega) #[.int .i64 (nomN D), .int .i64 (nomD D)]
 generalize World.setRow _ _ _ = w4 at *
 go_wp2
 refine bodyPost_ret (v := .agg #[.int .i64 (nomN D), .int .i64 (nomD D)]) ?_ rfl ⟨rfl, hB⟩
 have xr := k2.cell
 simp [results, Tryz.results96, go_sem, xr]
set_option maxRecDepth 100000 in
set_option maxHeartbeats 20000000 in
theorem u_inputsP (D : Dv) (w : World) (hd : D.ds.dir = 1) : Calls Tryz.prog 90 #[.agg (dvA D)] w fun e w' => e = .returned (.agg #[.int .i64 D.P, .int .i64 1]) ∧ Grows w w' := by
 go_enter Tryz.func90, Tryz.ntmps90
 have hB := (Below.refl w.heap.size w).alloc (Nat.le_refl _) (Obj.cells (dvA D) 171)
 have k1 := Blk.new w 171 (dvA D)
 have k2 := blk_new_at (X := w.alloc (Obj.cells (dvA D) 171)) (n := w.heap.size + 1) (t := 42) (cs := #[.int .i64 0, .int .i64 0]) (by simp)
 replace k1 := k1.alloc (Obj.cells #[.int .i64 0, .int .i64 0] 42)
 replace hB := hB.alloc (by simp) (Obj.cells #[.int .i64 0, .int .i64 0] 42)
 go_upto_region 1 with fail
 generalize hn2 : w.heap.size + 1 = n2 at *
 generalize World.alloc (World.alloc w _) _ = w1 at *
 refine wp_region_lit ?_
 refine wpList_load_row rfl _ rfl rfl k1 Tryz.underlying171 rfl (uinfo D) ?_
 go_wp2_with fail
 refine (u_playback D _).mono ?_
 rintro e w2 ⟨rfl, hq⟩
 rw [show (D.ds.dir == 1) = true by simp [hd]]
 replace k1 := k1.grows hq
 replace k2 := k2.grows hq
 replace hB := below_grows hB (Nat.le_refl _) hq
 have hqs := hq.size
 clear hq
 go_upto_region 2 with fail
 have x13 := (show _ = some ((.int .i64 D.P) : Value) from k1.cell 13)
 refine wp_region_lit ?_
 iterate 4
  refine wpList_plain rfl (fun K hK => ?_)
  go_simp
  refine hK _ _ ?_
  clear hK K
 refine wpList_store_row rfl _ _ rfl rfl rfl rfl k2 (by kernel_rfl) rfl (by simp [Value.oneCell']) ?_
 replace k2 := k2.row (cs := #[.int .i64 D.P, .int .i64 1])
 replace hB := below_row hB (show w.heap.size ≤ n2 by omega) #[.int .i64 D.P, .int .i64 1]
 generalize World.setRow _ _ _ = w4 at *
 go_wp2
 refine bodyPost_ret (v := .agg #[.int .i64 D.P, .int .i64 1]) ?_ rfl ⟨rfl, hB⟩
 have xr := k2.cell
 simp [results, Tryz.results90, go_sem, xr]
set_option maxRecDepth 100000 in
set_option maxHeartbeats 20000000 in
theorem u_inputsC (D : Dv) (w : World) (h : OkRt D) (hd : D.ds.dir = 2) : Calls Tryz.prog 90 #[.agg (dvA D)] w fun e w' => e = .returned (.agg #[.int .i64 (D.P * D.r / gF (D.P * D.r) D.R), .int .i64 (D.R / gF (D.P * D.r) D.R)]) ∧ Grows w w' := by
 obtain ⟨r1, r2, R1, R2, P1, P2⟩ := h
 go_enter Tryz.func90, Tryz.ntmps90
 have hB := (Below.refl w.heap.size w).alloc (Nat.le_refl _) (Obj.cells (dvA D) 171)
 have k1 := Blk.new w 171 (dvA D)
 have k2 := blk_new_at (X := w.alloc (Obj.cells (dvA D) 171)) (n := w.heap.size + 1) (t := 42) (cs := #[.int .i64 0, .int .i64 0]) (by simp)
 replace k1 := k1.alloc (Obj.cells #[.int .i64 0, .int .i64 0] 42)
 replace hB := hB.alloc (by simp) (Obj.cells #[.int .i64 0, .int .i64 0] 42)
 go_upto_region 1 with fail
 generalize hn2 : w.heap.size + 1 = n2 at *
 generalize World.alloc (World.alloc w _) _ = w1 at *
 refine wp_region_lit ?_
 refine wpList_load_row rfl _ rfl rfl k1 Tryz.underlying171 rfl (uinfo D) ?_
 go_wp2_with fail
 refine (u_playback D _).mono ?_
 rintro e w2 ⟨rfl, hq⟩
 rw [show (D.ds.dir == 1) = false by simp [hd]]
 replace k1 := k1.grows hq
 replace k2 := k2.grows hq
 replace hB := below_grows hB (Nat.le_refl _) hq
 have hqs := hq.size
 clear hq
 go_upto_region 3 with fail
 have x9 := (show _ = some ((.int .i64 D.r) : Value) from k1.cell 9)
 have x12 := (show _ = some ((.int .i64 D.R) : Value) from k1.cell 12)
 have x13 := (show _ = some ((.int .i64 D.P) : Value) from k1.cell 13)
 have hm0 : 1 ≤ D.P * D.r := by have := Int.mul_le_mul (show (1 : Int) ≤ D.P by omega) r1 (by omega) (by omega); omega
 have hm1 : D.P * D.r ≤ 8192 * 768000 := Int.mul_le_mul (by omega) r2 (by omega) (by omega)
 have wm : IntKind.i64.wrap (D.P * D.r) = D.P * D.r := IntWalk.i64_in _ (by omega)
 go_wp2_with fail
 refine (pmake_good (D.P * D.r) D.R _ hm0 (by omega) (by omega) (by omega)).mono ?_
 rintro e w4 ⟨rfl, hq⟩
 replace k1 := k1.grows hq
 replace k2 := k2.grows hq
 replace hB := below_grows hB (Nat.le_refl _) hq
 have hqs := hq.size
 clear hq
 have hs2 := k2.lt
 clear x9 x12 x13
 go_upto_region 4 with fail
 have k3 := Blk.new w4 42 #[.int .i64 (D.P * D.r / gF (D.P * D.r) D.R), .int .i64 (D.R / gF (D.P * D.r) D.R)]
 replace k2 := k2.alloc (Obj.cells #[.int .i64 (D.P * D.r / gF (D.P * D.r) D.R), .int .i64 (D.R / gF (D.P * D.r) D.R)] 42)
 replace hB := hB.alloc (by have := hB.size; omega) (Obj.cells #[.int .i64 (D.P * D.r / gF (D.P * D.r) D.R), .int .i64 (D.R / gF (D.P * D.r) D.R)] 42)
 generalize hn3 : w4.heap.size = n3 at *
 generalize World.alloc w4 _ = w5 at *
 refine wp_region_lit ?_
 refine wpList_load_row rfl _ rfl rfl k3 Tryz.underlying42 rfl (by kernel_rfl) ?_
 refine wpList_store_row rfl _ _ rfl rfl rfl rfl k2 (by kernel_rfl) rfl (by simp [Value.oneCell']) ?_
 replace k2 := k2.row (cs := #[.int .i64 (D.P * D.r / gF (D.P * D.r) D.R), .int .i64 (D.R / gF (D.P * D.r) D.R)])
 replace hB := below_row hB (show w.heap.size ≤ n2 by omega) #[.int .i64 (D.P * D.r / gF (D.P * D.r) D.R), .int .i64 (D.R / gF (D.P * D.r) D.R)]
 generalize World.setRow _ _ _ = w6 at *
 go_wp2
 refine bodyPost_ret (v := .agg #[.int .i64 (D.P * D.r / gF (D.P * D.r) D.R), .int .i64 (D.R / gF (D.P * D.r) D.R)]) ?_ rfl ⟨rfl, hB⟩
 have xr := k2.cell
 simp [results, Tryz.results90, go_sem, xr]
set_option maxRecDepth 100000 in
set_option maxHeartbeats 20000000 in
theorem u_jitterC (D : Dv) (w : World) (hj : 0 ≤ D.ds.ji ∧ D.ds.ji ≤ 4096) (hd : D.ds.dir = 2) : Calls Tryz.prog 93 #[.agg (dvA D)] w fun e w' => e = .returned (.int .i64 (D.ds.ji + 1)) ∧ Grows w w' := by
 go_enter Tryz.func93, Tryz.ntmps93
 have hB := (Below.refl w.heap.size w).alloc (Nat.le_refl _) (Obj.cells (dvA D) 171)
 have k1 := Blk.new w 171 (dvA D)
 go_upto_region 1 with fail
 generalize hw1 : World.alloc w _ = w1 at *
 clear hw1
 refine wp_region_lit ?_
 refine wpList_load_row rfl _ rfl rfl k1 Tryz.underlying171 rfl (uinfo D) ?_
 go_wp2_with fail
 refine (u_playback D _).mono ?_
 rintro e w2 ⟨rfl, hq⟩
 rw [show (D.ds.dir == 1) = false by simp [hd]]
 replace k1 := k1.grows hq
 replace hB := below_grows hB (Nat.le_refl _) hq
 have hqs := hq.size
 clear hq
 have x6 := (show _ = some ((.int .i64 D.ds.ji) : Value) from k1.cell 6)
 have wj : IntKind.i64.wrap (D.ds.ji + 1) = D.ds.ji + 1 := IntWalk.i64_in _ (by omega)
 go_wp2
 go_ret
 exact ⟨rfl, hB⟩
theorem ceil_bdj {a d : Int} (ha : 0 ≤ a) (hd : 1 ≤ d) : 0 ≤ ceilF a d ∧ ceilF a d ≤ a + 1 := by
 obtain ⟨c1, c2⟩ := ceil_of (a := a) (show 0 < d by omega)
 have h0 := Int.emod_nonneg a (show d ≠ 0 by omega)
 have h1 : 0 ≤ a / d := Int.ediv_nonneg ha (by omega)
 have h2 : a / d ≤ a := Int.ediv_le_self d ha
 rcases (show 0 < a % d ∨ a % d ≤ 0 by omega) with h | h
 ·rw [c1 h]; omega
 ·rw [c2 (by omega)]; omega
def jitF (D : Dv) : Int := ceilF (D.ds.ji * nomD D) (nomN D) + 1
set_option maxRecDepth 100000 in
set_option maxHeartbeats 20000000 in
theorem u_jitterP (D : Dv) (w : World) (h : OkRt D) (hj : 0 ≤ D.ds.ji ∧ D.ds.ji ≤ 4096) (hd : D.ds.dir = 1) : Calls Tryz.prog 93 #[.agg (dvA D)] w fun e w' => e = .returned (.int .i64 (jitF D)) ∧ Grows w w' := by
 obtain ⟨n1, n2, n3, n4, n5⟩ := nom_ok h
 have hR := h.R2
 have hm1 : D.ds.ji * nomD D ≤ 4096 * 192000 := Int.mul_le_mul (by omega) (by omega) (by omega) (by omega)
 have hm0 : 0 ≤ D.ds.ji * nomD D := Int.mul_nonneg (by omega) (by omega)
 obtain ⟨c1, c2⟩ := ceil_bdj hm0 n4
 have hc := fun w => ceil_lo D.ds.ji (nomD D) (nomN D) w (okR_inv n1) (by omega) (by omega) (by omega)
 have hb := fun w => u_baseP D w h hd
 have wj : IntKind.i64.wrap (ceilF (D.ds.ji * nomD D) (nomN D) + 1) = jitF D := IntWalk.i64_in _ (by omega)
 generalize ceilF (D.ds.ji * nomD D) (nomN D) = q at *
 go_enter Tryz.func93, Tryz.ntmps93
 have hB := (Below.refl w.heap.size w).alloc (Nat.le_refl _) (Obj.cells (dvA D) 171)
 have k1 := Blk.new w 171 (dvA D)
 go_upto_region 1 with fail
 generalize hw1 : World.alloc w _ = w1 at *
 clear hw1
 refine wp_region_lit ?_
 refine wpList_load_row rfl _ rfl rfl k1 Tryz.underlying171 rfl (uinfo D) ?_
 go_wp2_with fail
 refine (u_playback D _).mono ?_
 rintro e w2 ⟨rfl, hq⟩
 rw [show (D.ds.dir == 1) = true by simp [hd]]
 replace k1 := k1.grows hq
 replace hB := below_grows hB (Nat.le_refl _) hq
 have hqs := hq.size
 clear hq
 go_upto_region 3 with fail
 refine wp_region_mix (fun w' => Grows w2 w') [] 12 25 (by kernel_rfl) (by kernel_rfl) rfl ?_ float_none ?_ ?_
 ·exact fun w1 w2 h0 hg => below_grows h0 (Nat.le_refl _) hg
 ·exact Grows.drew' _
 ·skip
  simp only [List.take_succ_cons, List.take_zero, List.drop_succ_cons, List.drop_zero]
  iterate 12
   refine calm_plain rfl rfl (v := ?_) (a' := ?_) (fun w1 hw1 => ?_) ?_ ?_
   rotate_left 2
   ·have h0 := hw1
    have x6 := (show _ = some ((.int .i64 D.ds.ji) : Value) from (k1.grows h0).cell 6)
    first | (refine calm_load_row (.tmp 1) ?_ ?_ (k1.grows h0) Tryz.underlying171 rfl (uinfo D) <;> rfl) | (go_simp; first | exact calm_val | (refine calm_call ?_; with_reducible exact hb _) | (refine calm_call ?_; with_reducible exact hc _))
   ·simp only [Act.put, List.setIfInBounds_toArray, List.set_cons_succ, List.set_cons_zero]
    rfl
  refine calm_done (end_none ?_)
  rintro W2 hq
  replace hB := below_grows hB (Nat.le_refl _) hq
  clear hq
  go_wp2
  go_ret
  exact ⟨rfl, hB⟩
end Go.Proofs.YtbfdaojffffaaaaGreat

namespace Go.Proofs.YtbfdaojffffaaaaGreat
open Go.RowKit
/-- A device that is possible. -/
structure OkDv (D : Dv) : Prop where
 ds : OkDs D.ds D.b
 rt : OkRt D
 has : hasL D.b ⟨D.k, D.r, D.m, D.s⟩ = true
 g : OkG D.g
 since : 0 ≤ D.since ∧ D.since ≤ 1099511627776
 ct : okCt D.T D.dd D.G D.M
 ph : okPh D.n D.d D.a D.p D.f = true
 blk : ∃ fr, BlkOk D.ch fr D.l ∧ fr ≤ D.cap
 cap : 1 ≤ D.cap ∧ D.cap ≤ 65536
 ch : D.ch = D.m.length
 nm : D.ds.dir = 1 → D.n = nomD D ∧ D.d = nomN D
 nmc : D.ds.dir = 2 → D.n = nomN D ∧ D.d = nomD D
/-- The slices of a device. -/
structure InDv (w : World) (base : Nat → Prop) (D : Dv) : Prop where
 b : Bxs w base D.BA D.b
 bc : D.b.length ≤ D.bc
 m : InB w base D.MA D.m
 ml : D.m.length ≤ 1000000
 g : RdB w base 3 D.CA D.g.length (gcs D.g)
 l : RdB w base 1 D.A D.l.length (D.l.map (Value.int .i32))
theorem InDv.grows {w w' : World} {base : Nat → Prop} {D : Dv} (h : InDv w base D) (hg : Grows w w') : InDv w' base D := ⟨h.b.grows hg, h.bc, h.m.grows hg, h.ml, RdB.grows h.g hg, RdB.grows h.l hg⟩
theorem InDv.mono {w : World} {base b2 : Nat → Prop} {D : Dv} (h : InDv w base D) (hb : ∀ k, base k → b2 k) : InDv w b2 D := ⟨h.b.mono hb, h.bc, h.m.mono hb, h.ml, RdB.mono h.g hb, RdB.mono h.l hb⟩
theorem InDv.under {w : World} {base : Nat → Prop} {D : Dv} (h : InDv w base D) : InDv w (Under w.heap.size) D := ⟨h.b.under, h.bc, RdB.under h.m, h.ml, RdB.under h.g, RdB.under h.l⟩
theorem InDv.bd {w : World} {base : Nat → Prop} {D : Dv} (h : InDv w base D) : InDv w (Bd base w.heap.size) D := ⟨h.b.bd, h.bc, RdB.bd h.m, h.ml, RdB.bd h.g, RdB.bd h.l⟩
theorem InDv.grown {w w' : World} {base : Nat → Prop} {D : Dv} (h : InDv w base D) {row : Option Nat} (hg : w.grownBy w' row) (hr : ∀ g, row = some g → ¬ base g) : InDv w' base D := ⟨h.b.grown hg hr, h.bc, RdB.grown h.m hg hr, h.ml, RdB.grown h.g hg hr, RdB.grown h.l hg hr⟩
set_option maxRecDepth 100000 in
set_option maxHeartbeats 60000000 in
theorem u_valid (D : Dv) (base : Nat → Prop) (w : World) (h : InDv w base D) (ok : OkDv D) : Calls Tryz.prog 101 #[.agg (dvA D)] w fun e w' => e = .returned (.bool true) ∧ Grows w w' := by
 obtain ⟨fr, hb1, hb2⟩ := ok.blk
 have c1 := fun w1 (hq : Grows w w1) => dvalid_any ok.ds (c := D.bc) (h.b.grows hq)
 have c2 := fun w1 (hq : Grows w w1) => phasl_any (x := ⟨D.k, D.r, D.m, D.s⟩) (ci := D.mc) (h.b.grows hq) (by have := ok.ds.l2; omega) h.bc ok.ds.ok (h.m.grows hq).ints h.ml
 have c3 := fun w1 (_ : Grows w w1) => u_set D w1 ok.rt
 have c4 := fun w1 (hq : Grows w w1) => clvalid_any D.CA D.cc D.g w1 (RdB.grows h.g hq).1 ok.g
 have c5 := fun w1 (hq : Grows w w1) => bvalid_any D.A D.c w1 ok.ct ok.ph hb1 (RdB.grows h.l hq).1 ok.cap.1 ok.cap.2 hb2
 have c6 := fun w1 (_ : Grows w w1) => u_ports D w1
 have c7 : ∀ w1, Grows w w1 → Calls Tryz.prog 96 #[.agg (dvA D)] w1 fun e w' => e = .returned (.agg #[.int .i64 D.n, .int .i64 D.d]) ∧ Grows w1 w' := fun w1 _ => by
  rcases ok.ds.dir with hd | hd
  ·obtain ⟨e1, e2⟩ := ok.nm hd
   rw [e1, e2]
   exact u_baseP D w1 ok.rt hd
  ·obtain ⟨e1, e2⟩ := ok.nmc hd
   rw [e1, e2]
   exact u_baseC D w1 ok.rt hd
 rw [ok.has] at c2
 rw [← ok.ch] at c6
 simp only [dsA] at c1
 obtain ⟨s1, s2⟩ := ok.since
 clear hb1 hb2 h ok
 have d1 : decide (0 ≤ D.since) = true := by simp only [decide_eq_true_iff]; omega
 have d2 : decide (D.since ≤ 1099511627776) = true := by simp only [decide_eq_true_iff]; omega
 go_enter Tryz.func101, Tryz.ntmps101
 have hB := (Below.refl w.heap.size w).alloc (Nat.le_refl _) (Obj.cells (dvA D) 171)
 have k1 := Blk.new w 171 (dvA D)
 go_upto_region 1 with fail
 generalize hw1 : World.alloc w _ = w1 at *
 clear hw1
 refine wp_region_mix (fun w' => Grows w1 w') [] 64 66 (by kernel_rfl) (by kernel_rfl) rfl ?_ float_none ?_ ?_
 ·exact fun w1 w2 h0 hg => below_grows h0 (Nat.le_refl _) hg
 ·exact Grows.drew' _
 ·skip
  simp only [List.take_succ_cons, List.take_zero, List.drop_succ_cons, List.drop_zero]
  iterate 64
   first
    | (refine calm_no rfl rfl (a' := ?_) ?_ ?_
       rotate_left 1
       ·simp only [Act.put, List.setIfInBounds_toArray, List.set_cons_succ, List.set_cons_zero]
        rfl)
    | (first | refine calm_plain rfl rfl (v := ?_) (a' := ?_) (fun w1 hw1 => ?_) ?_ ?_ | refine calm_yes rfl rfl (v := ?_) (a' := ?_) (fun w1 hw1 => ?_) ?_ ?_
       rotate_left 2
       ·have h0 := hw1
        have hg := below_grows hB (Nat.le_refl _) h0
        have x0 := (show _ = some ((.int .u64 D.ds.id) : Value) from (k1.grows h0).cell 0)
        have x1 := (show _ = some ((.string D.ds.nm) : Value) from (k1.grows h0).cell 1)
        have x2 := (show _ = some ((.int .i64 D.ds.dir) : Value) from (k1.grows h0).cell 2)
        have x3 := (show _ = some ((.int .i64 D.ds.dom) : Value) from (k1.grows h0).cell 3)
        have x4 := (show _ = some ((.int .i64 D.ds.lat) : Value) from (k1.grows h0).cell 4)
        have x5 := (show _ = some ((.int .i64 D.ds.dr) : Value) from (k1.grows h0).cell 5)
        have x6 := (show _ = some ((.int .i64 D.ds.ji) : Value) from (k1.grows h0).cell 6)
        have x7 := (show _ = some ((.slice D.BA D.b.length D.bc) : Value) from (k1.grows h0).cell 7)
        have x8 := (show _ = some ((.int .i64 D.k) : Value) from (k1.grows h0).cell 8)
        have x9 := (show _ = some ((.int .i64 D.r) : Value) from (k1.grows h0).cell 9)
        have x10 := (show _ = some ((.slice D.MA D.m.length D.mc) : Value) from (k1.grows h0).cell 10)
        have x11 := (show _ = some ((.int .i64 D.s) : Value) from (k1.grows h0).cell 11)
        have x14 := (show _ = some ((.slice D.CA D.g.length D.cc) : Value) from (k1.grows h0).cell 14)
        have x16 := (show _ = some ((.int .i64 D.since) : Value) from (k1.grows h0).cell 16)
        have x17 := (show _ = some ((.int .i64 (D.cap : Int)) : Value) from (k1.grows h0).cell 17)
        have x18 := (show _ = some ((.int .i64 D.T) : Value) from (k1.grows h0).cell 18)
        have x19 := (show _ = some ((.int .i64 D.dd) : Value) from (k1.grows h0).cell 19)
        have x20 := (show _ = some ((.int .i64 D.G) : Value) from (k1.grows h0).cell 20)
        have x21 := (show _ = some ((.int .i64 D.M) : Value) from (k1.grows h0).cell 21)
        have x22 := (show _ = some ((.int .i64 (D.ch : Int)) : Value) from (k1.grows h0).cell 22)
        have x23 := (show _ = some ((.int .i64 D.n) : Value) from (k1.grows h0).cell 23)
        have x24 := (show _ = some ((.int .i64 D.d) : Value) from (k1.grows h0).cell 24)
        have x25 := (show _ = some ((.int .i64 D.a) : Value) from (k1.grows h0).cell 25)
        have x26 := (show _ = some ((.int .i64 D.p) : Value) from (k1.grows h0).cell 26)
        have x27 := (show _ = some ((.int .i64 D.f) : Value) from (k1.grows h0).cell 27)
        have x28 := (show _ = some ((.slice D.A D.l.length D.c) : Value) from (k1.grows h0).cell 28)
        have x29 := (show _ = some ((.int .i64 0) : Value) from (k1.grows h0).cell 29)
        have x30 := (show _ = some ((.int .i64 0) : Value) from (k1.grows h0).cell 30)
        first | (refine calm_load_row (.tmp 1) ?_ ?_ (k1.grows h0) Tryz.underlying171 rfl (uinfo D) <;> rfl) | (go_simp; first | exact calm_val | (refine calm_call ?_; with_reducible exact c1 _ hg) | (refine calm_call ?_; with_reducible exact c2 _ hg) | (refine calm_call ?_; with_reducible exact c3 _ hg) | (refine calm_call ?_; with_reducible exact c4 _ hg) | (refine calm_call ?_; with_reducible exact c5 _ hg) | (refine calm_call ?_; with_reducible exact c6 _ hg) | (refine calm_call ?_; with_reducible exact c7 _ hg))
       ·simp only [Act.put, List.setIfInBounds_toArray, List.set_cons_succ, List.set_cons_zero]
        rfl)
  refine calm_done (end_none ?_)
  rintro W2 hq
  replace hB := below_grows hB (Nat.le_refl _) hq
  clear hq
  go_wp2
  go_ret
  exact ⟨rfl, hB⟩
end Go.Proofs.YtbfdaojffffaaaaGreat

namespace Go.Proofs.YtbfdaojffffaaaaGreat
open Go.RowKit
theorem dinfo (D : Dv) : (Tryz.prog.info? 51).map (·.size) = some (dvA D).size := by kernel_rfl
set_option maxRecDepth 100000 in
set_option maxHeartbeats 20000000 in
theorem dv_valid (D : Dv) (base : Nat → Prop) (w : World) (h : InDv w base D) (ok : OkDv D) : Calls Tryz.prog 35 #[.agg (dvA D)] w fun e w' => e = .returned (.bool true) ∧ Grows w w' := by
 go_enter Tryz.func35, Tryz.ntmps35
 have hB := (Below.refl w.heap.size w).alloc (Nat.le_refl _) (Obj.cells (dvA D) 51)
 have k1 := Blk.new w 51 (dvA D)
 go_upto_region 1 with fail
 generalize hw1 : World.alloc w _ = w1 at *
 clear hw1
 have c1 := u_valid D base w1 (h.grows hB) ok
 refine wp_region_lit ?_
 refine wpList_load_row rfl _ rfl rfl k1 Tryz.underlying51 rfl (dinfo D) ?_
 simp only [dvA] at c1 ⊢
 go_wp2_with fail
 refine c1.mono ?_
 rintro e w2 ⟨rfl, hq⟩
 replace hB := below_grows hB (Nat.le_refl _) hq
 clear hq
 go_wp2
 go_ret
 exact ⟨rfl, hB⟩
set_option maxRecDepth 100000 in
set_option maxHeartbeats 20000000 in
theorem due_any (D : Dv) (base : Nat → Prop) (f t : Int) (w : World) (h : InDv w base D) (ok : OkDv D) (hk : OkK D.g) (hr : D.run = true) (h0 : 0 ≤ f) (hs : D.since ≤ f) (h1 : f < t) (h2 : t ≤ 1048576) (hp : posK D.g t - posK D.g f ≤ 65536) : Calls Tryz.prog 125 #[.agg (dvA D), .int .i64 f, .int .i64 t] w fun e w' => e = .returned (.tuple #[.int .i64 (posK D.g t - posK D.g f), .int .i64 0]) ∧ Grows w w' := by
 have hb := fun w1 (hq : Grows w w1) => between_any D.CA D.cc D.g f t w1 (RdB.grows h.g hq).1 hk h0 (by omega) h2
 obtain ⟨s1, s2⟩ := ok.since
 go_enter Tryz.func125, Tryz.ntmps125
 have hB := (Below.refl w.heap.size w).alloc (Nat.le_refl _) (Obj.cells (dvA D) 51)
 have k1 := Blk.new w 51 (dvA D)
 go_upto_region 1 with fail
 generalize hw1 : World.alloc w _ = w1 at *
 clear hw1
 have c1 := dv_valid D base w1 (h.grows hB) ok
 refine wp_region_lit ?_
 refine wpList_load_row rfl _ rfl rfl k1 Tryz.underlying51 rfl (dinfo D) ?_
 go_wp2_with fail
 refine c1.mono ?_
 rintro e w2 ⟨rfl, hq⟩
 replace k1 := k1.grows hq
 replace hB := below_grows hB (Nat.le_refl _) hq
 have hqs := hq.size
 clear hq
 clear c1 h ok hk
 have d1 : decide (f < 0) = false := by simp only [decide_eq_false_iff_not]; omega
 have d2 : decide (1099511627776 < t) = false := by simp only [decide_eq_false_iff_not]; omega
 have d3 : decide (t < f) = false := by simp only [decide_eq_false_iff_not]; omega
 have d4 : decide (t ≤ f) = false := by simp only [decide_eq_false_iff_not]; omega
 have hm1 : max f D.since = f := by omega
 have x14 := (show _ = some ((.slice D.CA D.g.length D.cc) : Value) from k1.cell 14)
 have x15 := (show _ = some ((.bool true) : Value) from (k1.cell 15).trans (by rw [← hr]; rfl))
 have x16 := (show _ = some ((.int .i64 D.since) : Value) from k1.cell 16)
 have hb := hb _ hB
 generalize hq0 : posK D.g t - posK D.g f = q at *
 have d5 : decide (65536 < q) = false := by simp only [decide_eq_false_iff_not]; omega
 go_wp2_with fail
 refine hb.mono ?_
 rintro e w3 ⟨rfl, hq⟩
 replace hB := below_grows hB (Nat.le_refl _) hq
 clear hq
 go_wp2
 go_ret2
 rw [hq0]
 exact ⟨rfl, hB⟩
set_option maxRecDepth 100000 in
set_option maxHeartbeats 20000000 in
theorem dcheck_any (D : Dv) (base : Nat → Prop) (S : Option Addr) (sc fr : Nat) (x : List Int) (f t : Int) (w : World) (h : InDv w base D) (ok : OkDv D) (hS : Sams w S x) (hx : BlkOk D.ch fr x) (hk : OkK D.g) (hr : D.run = true) (h0 : 0 ≤ f) (hs : D.since ≤ f) (h1 : f < t) (h2 : t ≤ 1048576) (hp : posK D.g t - posK D.g f ≤ 65536) :
 Calls Tryz.prog 49 #[.agg (dvA D), .int .i64 D.ds.dir, .agg #[.int .i64 (D.ch : Int), .slice S x.length sc], .int .i64 f, .int .i64 t] w fun e w' => e = .returned (.tuple #[.int .i64 (posK D.g t - posK D.g f), .int .i64 0]) ∧ Grows w w' := by
 have c1 := fun w1 (hq : Grows w w1) => u_valid D base w1 (h.grows hq) ok
 have c2 := fun w1 (hq : Grows w w1) => svalid_any S sc w1 hx (hS.grows hq)
 have c3 := fun w1 (hq : Grows w w1) => due_any D base f t w1 (h.grows hq) ok hk hr h0 hs h1 h2 hp
 have hpo := fun w1 => u_ports D w1
 rw [← ok.ch] at hpo
 have hdd := ok.ds.dir
 clear hr hk ok h hS hx hs h0 h1 h2
 generalize posK D.g t - posK D.g f = q at *
 go_enter Tryz.func49, Tryz.ntmps49
 have hB := ((Below.refl w.heap.size w).alloc (Nat.le_refl _) (Obj.cells (dvA D) 51)).alloc (by simp) (Obj.cells #[.int .i64 (D.ch : Int), .slice S x.length sc] 60)
 have k5 := (Blk.new w 51 (dvA D)).alloc (Obj.cells #[.int .i64 (D.ch : Int), .slice S x.length sc] 60)
 have k7 := blk_new_at (X := w.alloc (Obj.cells (dvA D) 51)) (n := w.heap.size + 1) (t := 60) (cs := #[.int .i64 (D.ch : Int), .slice S x.length sc]) (by simp)
 go_upto_region 1 with fail
 generalize hn7 : w.heap.size + 1 = n7 at *
 generalize World.alloc (World.alloc w _) _ = w1 at *
 refine wp_region_lit ?_
 refine wpList_load_row rfl _ rfl rfl k5 Tryz.underlying51 rfl (dinfo D) ?_
 refine wpList_plain rfl (fun K hK => ?_)
 simp only [dvA]
 go_simp
 refine hK _ _ ?_
 clear hK K
 rw [show (#[.int .u64 D.ds.id, .string D.ds.nm, .int .i64 D.ds.dir, .int .i64 D.ds.dom, .int .i64 D.ds.lat, .int .i64 D.ds.dr, .int .i64 D.ds.ji, .slice D.BA D.b.length D.bc, .int .i64 D.k, .int .i64 D.r, .slice D.MA D.m.length D.mc, .int .i64 D.s, .int .i64 D.R, .int .i64 D.P, .slice D.CA D.g.length D.cc, .bool D.run, .int .i64 D.since, .int .i64 (D.cap : Int), .int .i64 D.T, .int .i64 D.dd, .int .i64 D.G, .int .i64 D.M, .int .i64 (D.ch : Int), .int .i64 D.n, .int .i64 D.d, .int .i64 D.a, .int .i64 D.p, .int .i64 D.f, .slice D.A D.l.length D.c, .int .i64 0, .int .i64 0] : Array Value) = dvA D from rfl]
 refine wpList_plain rfl (fun K hK => ?_)
 go_simp
 refine hK _ _ ?_
 clear hK K
 have e5 := k5.lt
 have e7 := k7.lt
 have k12 := Blk.new w1 171 #[.int .u64 0, .string ⟨#[]⟩, .int .i64 0, .int .i64 0, .int .i64 0, .int .i64 0, .int .i64 0, .slice none 0 0, .int .i64 0, .int .i64 0, .slice none 0 0, .int .i64 0, .int .i64 0, .int .i64 0, .slice none 0 0, .bool false, .int .i64 0, .int .i64 0, .int .i64 0, .int .i64 0, .int .i64 0, .int .i64 0, .int .i64 0, .int .i64 0, .int .i64 0, .int .i64 0, .int .i64 0, .int .i64 0, .slice none 0 0, .int .i64 0, .int .i64 0]
 replace k5 := k5.alloc (Obj.cells #[.int .u64 0, .string ⟨#[]⟩, .int .i64 0, .int .i64 0, .int .i64 0, .int .i64 0, .int .i64 0, .slice none 0 0, .int .i64 0, .int .i64 0, .slice none 0 0, .int .i64 0, .int .i64 0, .int .i64 0, .slice none 0 0, .bool false, .int .i64 0, .int .i64 0, .int .i64 0, .int .i64 0, .int .i64 0, .int .i64 0, .int .i64 0, .int .i64 0, .int .i64 0, .int .i64 0, .int .i64 0, .int .i64 0, .slice none 0 0, .int .i64 0, .int .i64 0] 171)
 replace k7 := k7.alloc (Obj.cells #[.int .u64 0, .string ⟨#[]⟩, .int .i64 0, .int .i64 0, .int .i64 0, .int .i64 0, .int .i64 0, .slice none 0 0, .int .i64 0, .int .i64 0, .slice none 0 0, .int .i64 0, .int .i64 0, .int .i64 0, .slice none 0 0, .bool false, .int .i64 0, .int .i64 0, .int .i64 0, .int .i64 0, .int .i64 0, .int .i64 0, .int .i64 0, .int .i64 0, .int .i64 0, .int .i64 0, .int .i64 0, .int .i64 0, .slice none 0 0, .int .i64 0, .int .i64 0] 171)
 replace hB := hB.alloc hB.size (Obj.cells #[.int .u64 0, .string ⟨#[]⟩, .int .i64 0, .int .i64 0, .int .i64 0, .int .i64 0, .int .i64 0, .slice none 0 0, .int .i64 0, .int .i64 0, .slice none 0 0, .int .i64 0, .int .i64 0, .int .i64 0, .slice none 0 0, .bool false, .int .i64 0, .int .i64 0, .int .i64 0, .int .i64 0, .int .i64 0, .int .i64 0, .int .i64 0, .int .i64 0, .int .i64 0, .int .i64 0, .int .i64 0, .int .i64 0, .slice none 0 0, .int .i64 0, .int .i64 0] 171)
 generalize hn12 : w1.heap.size = n12 at *
 generalize World.alloc w1 _ = w2 at *
 refine wpList_store_row rfl _ _ rfl rfl rfl rfl k12 (uinfo D) rfl (dv_one D) ?_
 replace k12 := k12.row (cs := dvA D)
 replace k5 := k5.row_far (cs' := dvA D) (show w.heap.size ≠ n12 by omega)
 replace k7 := k7.row_far (cs' := dvA D) (show n7 ≠ n12 by omega)
 replace hB := below_row hB (show w.heap.size ≤ n12 by omega) (dvA D)
 generalize World.setRow _ _ _ = w3 at *
 clear e5 e7
 have d0 : (D.ds.dir != D.ds.dir) = false := by simp
 go_upto_region 2 with fail
 refine wp_region_lit ?_
 refine wpList_load_row rfl _ rfl rfl k12 Tryz.underlying171 rfl (uinfo D) ?_
 go_wp2_with fail
 refine (c1 _ hB).mono ?_
 rintro e w4 ⟨rfl, hq⟩
 replace k5 := k5.grows hq
 replace k7 := k7.grows hq
 replace k12 := k12.grows hq
 replace hB := below_grows hB (Nat.le_refl _) hq
 have hqs := hq.size
 clear hq
 have y0 := (show _ = some ((.int .i64 (D.ch : Int)) : Value) from k7.cell 0)
 have y1 := (show _ = some ((.slice S x.length sc) : Value) from k7.cell 1)
 go_wp2_with fail
 refine (c2 _ hB).mono ?_
 rintro e w5 ⟨rfl, hq⟩
 clear y0 y1
 replace k5 := k5.grows hq
 replace k7 := k7.grows hq
 replace k12 := k12.grows hq
 replace hB := below_grows hB (Nat.le_refl _) hq
 have hqs := hq.size
 clear hq
 have y2 := (show _ = some ((.int .i64 D.ds.dir) : Value) from k12.cell 2)
 go_upto_region 4 with fail
 clear y2
 refine wp_region_mix (fun w' => Grows w5 w') [] 6 44 (by kernel_rfl) (by kernel_rfl) rfl ?_ float_none ?_ ?_
 ·exact fun w1 w2 h0 hg => below_grows h0 (Nat.le_refl _) hg
 ·exact Grows.drew' _
 ·skip
  simp only [List.take_succ_cons, List.take_zero, List.drop_succ_cons, List.drop_zero]
  iterate 6
   refine calm_plain rfl rfl (v := ?_) (a' := ?_) (fun w1 hw1 => ?_) ?_ ?_
   rotate_left 2
   ·have h0 := hw1
    have x0 := (show _ = some ((.int .i64 (D.ch : Int)) : Value) from (k7.grows h0).cell 0)
    first | (refine calm_load_row (.tmp 12) ?_ ?_ (k12.grows h0) Tryz.underlying171 rfl (uinfo D) <;> rfl) | (go_simp; first | exact calm_val | (refine calm_call ?_; with_reducible exact hpo _))
   ·simp only [Act.put, List.setIfInBounds_toArray, List.set_cons_succ, List.set_cons_zero]
    rfl
  refine calm_done (end_none ?_)
  rintro W2 hq
  replace k5 := k5.grows hq
  replace hB := below_grows hB (Nat.le_refl _) hq
  have hqs := hq.size
  clear hq
  have d3 : ((D.ch : Int) != (D.ch : Int)) = false := by simp
  go_upto_region 6 with fail
  refine wp_region_lit ?_
  refine wpList_load_row rfl _ rfl rfl k5 Tryz.underlying51 rfl (dinfo D) ?_
  go_wp2_with fail
  refine (c3 _ hB).mono ?_
  rintro e w7 ⟨rfl, hq⟩
  replace hB := below_grows hB (Nat.le_refl _) hq
  clear hq
  go_wp2
  go_ret2
  exact ⟨rfl, hB⟩
end Go.Proofs.YtbfdaojffffaaaaGreat

namespace Go.Proofs.YtbfdaojffffaaaaGreat
open Go.RowKit
theorem take_at {α : Type} {l xs : List α} {n i : Nat} (h : l.take n = xs) (hi : i < n) : l[i]? = xs[i]? := by rw [← h, List.getElem?_take_of_lt hi]
/-- A row of maps in block G; its elements lie in blocks that P allows. -/
def MpG (w : World) (G : Nat) (P : Nat → Prop) (m : List (List Int)) : Prop :=
 ∃ cs, Blk w G 31 cs ∧ ∀ (i : Nat) (x : List Int), m[i]? = some x → ∃ B c, cs[i]? = some (.slice B x.length c) ∧ x.length ≤ c ∧ InB w P B x
section
variable {w w' : World} {G : Nat} {P : Nat → Prop} {m : List (List Int)}
theorem MpG.grows (h : MpG w G P m) (hg : Grows w w') : MpG w' G P m := by
 obtain ⟨cs, h1, h2⟩ := h
 exact ⟨cs, h1.grows hg, fun i x hx => by obtain ⟨B, c, e, hc, hi⟩ := h2 i x hx; exact ⟨B, c, e, hc, hi.grows hg⟩⟩
theorem MpG.lt (h : MpG w G P m) : G < w.heap.size := by
 obtain ⟨cs, h1, -⟩ := h
 exact h1.lt
theorem MpG.at_ (h : MpG w G P m) {i : Nat} {x : List Int} (hx : m[i]? = some x) : ∃ B c, w.cell? ⟨G, i, none⟩ = some (.slice B x.length c) ∧ w.frozen? ⟨G, i, none⟩ = false ∧ x.length ≤ c ∧ InB w P B x := by
 obtain ⟨cs, h1, h2⟩ := h
 obtain ⟨B, c, e, hc, hi⟩ := h2 i x hx
 exact ⟨B, c, (h1.cell i).trans e, h1.frozen i, hc, hi⟩
theorem MpG.put (h : MpG w G P m) (hP : ¬ P G) {i : Nat} {x : List Int} (hx : m[i]? = some x) {B : Option Addr} {c : Nat} (hc : x.length ≤ c) (hi : InB w P B x) : MpG (w.setCell ⟨G, i, none⟩ (.slice B x.length c)) G P m := by
 obtain ⟨cs, h1, h2⟩ := h
 have hg : w.grownBy (w.setCell ⟨G, i, none⟩ (.slice B x.length c)) (some G) := d_only_set (World.grownBy.refl w (some G)) i _
 have hr : ∀ g, (some G : Option Nat) = some g → ¬ P g := fun g e => by injection e with e; subst e; exact hP
 refine ⟨_, h1.set_ i _, fun k y hy => ?_⟩
 by_cases e : k = i
 ·subst e
  rw [hx] at hy
  injection hy with hy
  subst hy
  obtain ⟨B0, c0, e0, -, -⟩ := h2 k x hx
  have hlt := (Array.getElem?_eq_some_iff.1 e0).1
  exact ⟨B, c, by rw [Array.getElem?_setIfInBounds, if_pos rfl, if_pos hlt], hc, RdB.grown hi hg hr⟩
 ·obtain ⟨B0, c0, e0, hc0, hi0⟩ := h2 k y hy
  exact ⟨B0, c0, by rw [Array.getElem?_setIfInBounds, if_neg (fun e2 => e e2.symm)]; exact e0, hc0, RdB.grown hi0 hg hr⟩
theorem MpG.maps (h : MpG w G P m) {Q : Nat → Prop} (hQ : ∀ k, P k → Q k) (hG : Q G) : MapsR w Q (some ⟨G, 0, none⟩) m := by
 obtain ⟨cs, h1, h2⟩ := h
 have hsz : m.length ≤ cs.size := by
  rcases Nat.eq_zero_or_pos m.length with h0 | h0
  ·omega
  ·obtain ⟨B, c, e, -, -⟩ := h2 (m.length - 1) _ (List.getElem?_eq_getElem (by omega))
   have := (Array.getElem?_eq_some_iff.1 e).1
   omega
 refine ⟨cs.toList.take m.length, ⟨⟨by simp; omega, fun _ => ⟨_, rfl, h1.lt, fun j u hu => ?_⟩⟩, fun _ ad e => by injection e with e; subst e; exact hG⟩, fun i x hx => ?_⟩
 ·have hj : j < m.length := by have := (List.getElem?_eq_some_iff.1 hu).1; simp at this; omega
  rw [List.getElem?_take_of_lt hj] at hu
  rw [add_head, h1.cell, ← Array.getElem?_toList]
  exact hu
 ·have hi : i < m.length := (List.getElem?_eq_some_iff.1 hx).1
  obtain ⟨B, c, e, hc, hb⟩ := h2 i x hx
  exact ⟨B, c, by rw [List.getElem?_take_of_lt hi, Array.getElem?_toList]; exact e, hc, hb.mono hQ⟩
theorem MpG.made {n0 : Nat} {v : Value} {vs : List Value} (h : w.ownsRow n0 31 1 v m.length vs) (hm : 1 ≤ m.length) (h2 : ∀ (i : Nat) (x : List Int), m[i]? = some x → ∃ B c, vs[i]? = some (.slice B x.length c) ∧ x.length ≤ c ∧ InB w P B x) :
 ∃ G cap, v = .slice (some ⟨G, 0, none⟩) m.length cap ∧ m.length ≤ cap ∧ n0 ≤ G ∧ MpG w G P m := by
 obtain ⟨h0, h1⟩ := h
 rcases h1 with ⟨e, e0⟩ | ⟨g, cap, cur, e, hb, hh, hn, hx, hs, ht⟩
 ·omega
 ·exact ⟨g, cap, e, hn, hb, cur, hh, fun i x hx => by
   obtain ⟨B, c, e2, hc, hi⟩ := h2 i x hx
   have hi' : i < m.length := (List.getElem?_eq_some_iff.1 hx).1
   exact ⟨B, c, by rw [← Array.getElem?_toList, take_at ht (by omega)]; exact e2, hc, hi⟩⟩
theorem MapsR.one {base : Nat → Prop} {A : Option Addr} (h : MapsR w base A m) : ∃ vs, Reads w w.heap.size 1 A m.length vs ∧ (∀ u ∈ vs, u.oneCell' = true) ∧ ∀ (i : Nat) (x : List Int), m[i]? = some x → ∃ B c, vs[i]? = some (.slice B x.length c) ∧ x.length ≤ c ∧ InB w base B x := by
 obtain ⟨vs, h1, h2⟩ := h
 refine ⟨vs, h1.1, fun u hu => ?_, h2⟩
 obtain ⟨i, hi, rfl⟩ := List.getElem_of_mem hu
 have hl : vs.length = m.length := by have := h1.1.1; omega
 obtain ⟨B, c, e, -, -⟩ := h2 i _ (List.getElem?_eq_getElem (by omega))
 rw [List.getElem?_eq_getElem hi] at e
 injection e with e
 rw [e]
 rfl
end
/-- A row of boxes in block G; what they consist of lies in blocks that P allows. -/
def BxG (w : World) (G : Nat) (P : Nat → Prop) (l : List Bx) : Prop :=
 ∃ cs, Blk w G 134 cs ∧ ∀ (i : Nat) (b : Bx), l[i]? = some b → ∃ A1 c1 A2 c2 A3 c3, BoxP w P b A1 c1 A2 c2 A3 c3 ∧ ∀ j < 4, cs[i * 4 + j]? = (b.cs A1 c1 A2 c2 A3 c3)[j]?
section
variable {w w' : World} {G : Nat} {P : Nat → Prop} {l : List Bx}
theorem BxG.grows (h : BxG w G P l) (hg : Grows w w') : BxG w' G P l := by
 obtain ⟨cs, h1, h2⟩ := h
 exact ⟨cs, h1.grows hg, fun i x hx => by obtain ⟨A1, c1, A2, c2, A3, c3, hp, hr⟩ := h2 i x hx; exact ⟨A1, c1, A2, c2, A3, c3, ⟨hp.r.grows hg, hp.m.grows hg, hp.s.grows hg, hp.cr, hp.cm, hp.cs⟩, hr⟩⟩
theorem BxG.lt (h : BxG w G P l) : G < w.heap.size := by
 obtain ⟨cs, h1, -⟩ := h
 exact h1.lt
theorem BxG.at_ (h : BxG w G P l) {i : Nat} {b : Bx} (hx : l[i]? = some b) : ∃ A1 c1 A2 c2 A3 c3, BoxP w P b A1 c1 A2 c2 A3 c3 ∧ CellsB w ⟨G, i * 4, none⟩ (.int .i64 b.k) (.slice A1 b.r.length c1) (.slice A2 b.m.length c2) (.slice A3 b.s.length c3) ∧ w.frozen? ⟨G, i * 4, none⟩ = false ∧ w.frozen? ⟨G, i * 4 + 1, none⟩ = false ∧ w.frozen? ⟨G, i * 4 + 2, none⟩ = false ∧ w.frozen? ⟨G, i * 4 + 3, none⟩ = false := by
 obtain ⟨cs, h1, h2⟩ := h
 obtain ⟨A1, c1, A2, c2, A3, c3, hp, r⟩ := h2 i b hx
 exact ⟨A1, c1, A2, c2, A3, c3, hp, ⟨(h1.cell _).trans (r 0 (by omega)), (h1.cell _).trans (r 1 (by omega)), (h1.cell _).trans (r 2 (by omega)), (h1.cell _).trans (r 3 (by omega))⟩, h1.frozen _, h1.frozen _, h1.frozen _, h1.frozen _⟩
/-- A box, written. -/
def putX (w : World) (G k : Nat) (b : Bx) (A1 : Option Addr) (c1 : Nat) (A2 : Option Addr) (c2 : Nat) (A3 : Option Addr) (c3 : Nat) : World :=
 (((w.setCell ⟨G, k, none⟩ (.int .i64 b.k)).setCell ⟨G, k + 1, none⟩ (.slice A1 b.r.length c1)).setCell ⟨G, k + 2, none⟩ (.slice A2 b.m.length c2)).setCell ⟨G, k + 3, none⟩ (.slice A3 b.s.length c3)
theorem putX_only (w : World) (G k : Nat) (b : Bx) (A1 : Option Addr) (c1 : Nat) (A2 : Option Addr) (c2 : Nat) (A3 : Option Addr) (c3 : Nat) : w.grownBy (putX w G k b A1 c1 A2 c2 A3 c3) (some G) :=
 d_only_set (d_only_set (d_only_set (d_only_set (World.grownBy.refl w (some G)) k _) (k + 1) _) (k + 2) _) (k + 3) _
theorem boxp_grown {base : Nat → Prop} {b : Bx} {A1 A2 A3 : Option Addr} {c1 c2 c3 : Nat} (h : BoxP w base b A1 c1 A2 c2 A3 c3) {row : Option Nat} (hg : w.grownBy w' row) (hr : ∀ g, row = some g → ¬ base g) : BoxP w' base b A1 c1 A2 c2 A3 c3 :=
 ⟨RdB.grown h.r hg hr, h.m.grown hg hr, RdB.grown h.s hg hr, h.cr, h.cm, h.cs⟩
theorem BxG.put (h : BxG w G P l) (hP : ¬ P G) {i : Nat} {b : Bx} (hx : l[i]? = some b) {A1 A2 A3 : Option Addr} {c1 c2 c3 : Nat} (hp : BoxP w P b A1 c1 A2 c2 A3 c3) : BxG (putX w G (i * 4) b A1 c1 A2 c2 A3 c3) G P l := by
 obtain ⟨cs, h1, h2⟩ := h
 have hk := (((h1.set_ (i * 4) (.int .i64 b.k)).set_ (i * 4 + 1) (.slice A1 b.r.length c1)).set_ (i * 4 + 2) (.slice A2 b.m.length c2)).set_ (i * 4 + 3) (.slice A3 b.s.length c3)
 have hg := putX_only w G (i * 4) b A1 c1 A2 c2 A3 c3
 have hr : ∀ g, (some G : Option Nat) = some g → ¬ P g := fun g e => by injection e with e; subst e; exact hP
 have hsz : i * 4 + 4 ≤ cs.size := by
  obtain ⟨B1, d1, B2, d2, B3, d3, -, r⟩ := h2 i b hx
  have := (Array.getElem?_eq_some_iff.1 ((r 3 (by omega)).trans (show (b.cs B1 d1 B2 d2 B3 d3)[3]? = some _ from rfl))).1
  omega
 refine ⟨_, hk, fun k y hy => ?_⟩
 by_cases e : k = i
 ·subst e
  rw [hx] at hy
  injection hy with hy
  subst hy
  refine ⟨A1, c1, A2, c2, A3, c3, boxp_grown hp hg hr, fun j hj => ?_⟩
  simp only [Array.getElem?_setIfInBounds, Array.size_setIfInBounds]
  match j, hj with
  | 0, _ => rw [if_neg (by omega), if_neg (by omega), if_neg (by omega), if_pos (by omega), if_pos (by omega)]; rfl
  | 1, _ => rw [if_neg (by omega), if_neg (by omega), if_pos (by omega), if_pos (by omega)]; rfl
  | 2, _ => rw [if_neg (by omega), if_pos (by omega), if_pos (by omega)]; rfl
  | 3, _ => rw [if_pos (by omega), if_pos (by omega)]; rfl
 ·obtain ⟨B1, d1, B2, d2, B3, d3, hp0, r⟩ := h2 k y hy
  refine ⟨B1, d1, B2, d2, B3, d3, boxp_grown hp0 hg hr, fun j hj => ?_⟩
  rw [← r j hj]
  simp only [Array.getElem?_setIfInBounds]
  rw [if_neg (by omega), if_neg (by omega), if_neg (by omega), if_neg (by omega)]
theorem BxG.done (h : BxG w G P l) {Q : Nat → Prop} (hQ : ∀ k, P k → Q k) (hG : Q G) : Bxs w Q (some ⟨G, 0, none⟩) l := by
 obtain ⟨cs, h1, h2⟩ := h
 have hsz : l.length * 4 ≤ cs.size := by
  rcases Nat.eq_zero_or_pos l.length with h0 | h0
  ·omega
  ·obtain ⟨B1, d1, B2, d2, B3, d3, -, r⟩ := h2 (l.length - 1) _ (List.getElem?_eq_getElem (by omega))
   have := (Array.getElem?_eq_some_iff.1 ((r 3 (by omega)).trans (show (Bx.cs _ B1 d1 B2 d2 B3 d3)[3]? = some _ from rfl))).1
   omega
 refine ⟨cs.toList.take (l.length * 4), ⟨⟨by simp; omega, fun _ => ⟨_, rfl, h1.lt, fun j u hu => ?_⟩⟩, fun _ ad e => by injection e with e; subst e; exact hG⟩, fun i b hx => ?_⟩
 ·have hj : j < l.length * 4 := by have := (List.getElem?_eq_some_iff.1 hu).1; simp at this; omega
  rw [List.getElem?_take_of_lt hj] at hu
  rw [add_head, h1.cell, ← Array.getElem?_toList]
  exact hu
 ·have hi : i < l.length := (List.getElem?_eq_some_iff.1 hx).1
  obtain ⟨B1, d1, B2, d2, B3, d3, hp, r⟩ := h2 i b hx
  exact ⟨B1, d1, B2, d2, B3, d3, ⟨hp.r.mono hQ, hp.m.mono hQ, hp.s.mono hQ, hp.cr, hp.cm, hp.cs⟩, fun j hj => by rw [List.getElem?_take_of_lt (by omega), Array.getElem?_toList]; exact r j hj⟩
theorem Bxs.one {base : Nat → Prop} {A : Option Addr} (h : Bxs w base A l) : ∃ vs, Reads w w.heap.size 4 A l.length vs ∧ (∀ u ∈ vs, u.oneCell' = true) ∧ ∀ (i : Nat) (b : Bx), l[i]? = some b → ∃ A1 c1 A2 c2 A3 c3, BoxP w (Bd base w.heap.size) b A1 c1 A2 c2 A3 c3 ∧ ∀ j < 4, vs[i * 4 + j]? = (b.cs A1 c1 A2 c2 A3 c3)[j]? := by
 obtain ⟨vs, h1, h2⟩ := h
 refine ⟨vs, h1.1, fun u hu => ?_, fun i b hx => ?_⟩
 ·obtain ⟨q, hq, rfl⟩ := List.getElem_of_mem hu
  have hl := h1.1.1
  obtain ⟨A1, c1, A2, c2, A3, c3, -, r⟩ := h2 (q / 4) _ (List.getElem?_eq_getElem (by omega))
  have r := r (q % 4) (by omega)
  rw [show q / 4 * 4 + q % 4 = q by omega, List.getElem?_eq_getElem hq] at r
  have hm : q % 4 < 4 := by omega
  generalize q % 4 = j at *
  match j, hm with
  | 0, _ => injection r with r; rw [r]; rfl
  | 1, _ => injection r with r; rw [r]; rfl
  | 2, _ => injection r with r; rw [r]; rfl
  | 3, _ => injection r with r; rw [r]; rfl
 ·obtain ⟨A1, c1, A2, c2, A3, c3, hp, r⟩ := h2 i b hx
  exact ⟨A1, c1, A2, c2, A3, c3, ⟨RdB.bd hp.r, hp.m.bd, RdB.bd hp.s, hp.cr, hp.cm, hp.cs⟩, r⟩
theorem BxG.mono (h : BxG w G P l) {Q : Nat → Prop} (hQ : ∀ k, P k → Q k) : BxG w G Q l := by
 obtain ⟨cs, h1, h2⟩ := h
 exact ⟨cs, h1, fun i x hx => by obtain ⟨A1, c1, A2, c2, A3, c3, hp, hr⟩ := h2 i x hx; exact ⟨A1, c1, A2, c2, A3, c3, ⟨hp.r.mono hQ, hp.m.mono hQ, hp.s.mono hQ, hp.cr, hp.cm, hp.cs⟩, hr⟩⟩
theorem BxG.made {w0 : World} {n0 : Nat} {v : Value} {vs : List Value} (h : w.ownsRow n0 134 4 v l.length vs) (hg : Grows w0 w) (hl : 1 ≤ l.length) (h2 : ∀ (i : Nat) (b : Bx), l[i]? = some b → ∃ A1 c1 A2 c2 A3 c3, BoxP w0 P b A1 c1 A2 c2 A3 c3 ∧ ∀ j < 4, vs[i * 4 + j]? = (b.cs A1 c1 A2 c2 A3 c3)[j]?) :
 ∃ G cap, v = .slice (some ⟨G, 0, none⟩) l.length cap ∧ l.length ≤ cap ∧ n0 ≤ G ∧ BxG w G P l := by
 obtain ⟨h0, h1⟩ := h
 rcases h1 with ⟨e, e0⟩ | ⟨g, cap, cur, e, hb, hh, hn, hx, hs, ht⟩
 ·omega
 ·exact ⟨g, cap, e, hn, hb, cur, hh, fun i b hx => by
   obtain ⟨A1, c1, A2, c2, A3, c3, hp, r⟩ := h2 i b hx
   have hi' : i < l.length := (List.getElem?_eq_some_iff.1 hx).1
   exact ⟨A1, c1, A2, c2, A3, c3, ⟨hp.r.grows hg, hp.m.grows hg, hp.s.grows hg, hp.cr, hp.cm, hp.cs⟩, fun j hj => by rw [← Array.getElem?_toList, take_at ht (by omega)]; exact r j hj⟩⟩
end
end Go.Proofs.YtbfdaojffffaaaaGreat

namespace Go.Proofs.YtbfdaojffffaaaaGreat
open Go.RowKit
section
variable {P : Program} {ops : Array Oper} {S : Ran → (Nat → Value) → World → Prop} {md : Region.Mode} {n N : Nat} {a0 : Act}
end
end Go.Proofs.YtbfdaojffffaaaaGreat

namespace Go.Proofs.YtbfdaojffffaaaaGreat
open Go.RowKit
section
variable {ops : Array Oper} {rest : List Oper} {o : Oper} {a : Act} {w : World} {Q : Exit → Act → World → Prop}
end
end Go.Proofs.YtbfdaojffffaaaaGreat


namespace Go.Proofs.YtbfdaojffffaaaaGreat
open Go.RowKit
/-- A row of channel maps of one's own, apart from what its members take, which lies at or above lo. -/
def OwnMq (w : World) (base : Nat) (ok : Nat → Prop) (v : Value) (ms : List (List Int)) : Prop :=
  ∃ vs, w.ownsRow base 31 1 v ms.length vs ∧ ∀ (i : Nat) (x : List Int), ms[i]? = some x → ∃ B c, vs[i]? = some (.slice B x.length c) ∧ x.length ≤ c ∧ InB w ok B x ∧ (∀ ad, B = some ad → 0 < x.length → v.ownBlock ≠ some ad.block)
section
variable {w w' : World} {base g : Nat} {ok : Nat → Prop} {v : Value} {ms : List (List Int)}
theorem OwnMq.nil : OwnMq w base ok (.slice none 0 0) [] := ⟨[], World.ownsRow_nil w base _ 1, fun i x h => by simp at h⟩
theorem OwnMq.grows (h : OwnMq w base ok v ms) (hg : Grows w w') : OwnMq w' base ok v ms := by
  obtain ⟨vs, h1, h2⟩ := h
  exact ⟨vs, own_grows h1 hg, fun i x hx => by obtain ⟨B, c, e, hc, hi, hn⟩ := h2 i x hx; exact ⟨B, c, e, hc, hi.grows hg, hn⟩⟩
theorem OwnMq.only (h : OwnMq w base ok v ms) (hg : w.grownBy w' (some g)) (hb : g < base) (hl : ¬ ok g) : OwnMq w' base ok v ms := by
  obtain ⟨vs, h1, h2⟩ := h
  refine ⟨vs, World.ownsRow.kept h1 hg ?_, fun i x hx => by obtain ⟨B, c, e, hc, hi, hn⟩ := h2 i x hx; exact ⟨B, c, e, hc, RdB.grown hi hg (fun q e => by injection e with e; exact e ▸ hl), hn⟩⟩
  cases e : v.ownBlock with
  | none => exact .inl rfl
  | some q =>
    refine .inr fun e2 => ?_
    have := (World.ownsRow.lt h1 q e).1
    injection e2 with e2
    omega
theorem OwnMq.lt (h : OwnMq w base ok v ms) : ∀ q, v.ownBlock = some q → base ≤ q ∧ q < w.heap.size := by
  obtain ⟨vs, h1, -⟩ := h
  exact World.ownsRow.lt h1
theorem OwnMq.read (h : OwnMq w base ok v ms) : ∃ A c, v = .slice A ms.length c ∧ ms.length ≤ c ∧ MapsR w (fun k => ok k ∨ base ≤ k) A ms := by
  obtain ⟨vs, h1, h2⟩ := h
  have hlt := World.ownsRow.lt h1
  rcases h1.2 with ⟨rfl, hn⟩ | ⟨q, cap, cur, rfl, hbq, hg, hnc, hm, hs, ht⟩
  · have e := List.eq_nil_of_length_eq_zero hn
    subst e
    exact ⟨none, 0, rfl, Nat.le_refl _, MapsR.nil⟩
  · refine ⟨_, cap, rfl, hnc, vs, ⟨Reads.of_own h1, fun _ ad e => ?_⟩, fun i x hx => by obtain ⟨B, c, e, hc, hi, _⟩ := h2 i x hx; exact ⟨B, c, e, hc, hi.mono (fun k hk => Or.inl hk)⟩⟩
    injection e with e
    subst e
    exact Or.inr hbq
end
def Aq (ok : Nat → Prop) (v : Value) : Nat → Prop := fun k => ok k ∧ v.ownBlock ≠ some k
def OwnBq (w : World) (base : Nat) (ok : Nat → Prop) (v : Value) (l : List Bx) : Prop :=
  ∃ vs, w.ownsRow base 134 4 v l.length vs ∧ ∀ (i : Nat) (b : Bx), l[i]? = some b → ∃ A1 c1 A2 c2 A3 c3, BoxP w (Aq ok v) b A1 c1 A2 c2 A3 c3 ∧ ∀ j < 4, vs[i * 4 + j]? = (b.cs A1 c1 A2 c2 A3 c3)[j]?
section
variable {w w' : World} {base g : Nat} {ok : Nat → Prop} {v : Value} {l : List Bx}
theorem OwnBq.nil : OwnBq w base ok (.slice none 0 0) [] := ⟨[], World.ownsRow_nil w base _ 4, fun i x h => by simp at h⟩
theorem OwnBq.grows (h : OwnBq w base ok v l) (hg : Grows w w') : OwnBq w' base ok v l := by
  obtain ⟨vs, h1, h2⟩ := h
  exact ⟨vs, own_grows h1 hg, fun i x hx => by obtain ⟨A1, c1, A2, c2, A3, c3, hp, hc⟩ := h2 i x hx; exact ⟨A1, c1, A2, c2, A3, c3, hp.grows hg, hc⟩⟩
theorem OwnBq.only (h : OwnBq w base ok v l) (hg : w.grownBy w' (some g)) (hb : g < base) (hl : ¬ ok g) : OwnBq w' base ok v l := by
  obtain ⟨vs, h1, h2⟩ := h
  refine ⟨vs, World.ownsRow.kept h1 hg ?_, fun i x hx => by obtain ⟨A1, c1, A2, c2, A3, c3, hp, hc⟩ := h2 i x hx; exact ⟨A1, c1, A2, c2, A3, c3, hp.grown hg (fun q e hq => by injection e with e; exact hl (e ▸ hq.1)), hc⟩⟩
  cases e : v.ownBlock with
  | none => exact .inl rfl
  | some q =>
    refine .inr fun e2 => ?_
    have := (World.ownsRow.lt h1 q e).1
    injection e2 with e2
    omega
theorem OwnBq.lt (h : OwnBq w base ok v l) : ∀ q, v.ownBlock = some q → base ≤ q ∧ q < w.heap.size := by
  obtain ⟨vs, h1, -⟩ := h
  exact World.ownsRow.lt h1
theorem OwnBq.read (h : OwnBq w base ok v l) : ∃ A c, v = .slice A l.length c ∧ l.length ≤ c ∧ Bxs w (fun k => ok k ∨ base ≤ k) A l := by
  obtain ⟨vs, h1, h2⟩ := h
  have h3 : ∀ (i : Nat) (b : Bx), l[i]? = some b → ∃ A1 c1 A2 c2 A3 c3, BoxP w (fun k => ok k ∨ base ≤ k) b A1 c1 A2 c2 A3 c3 ∧ ∀ j < 4, vs[i * 4 + j]? = (b.cs A1 c1 A2 c2 A3 c3)[j]? := fun i b hx => by
    obtain ⟨A1, c1, A2, c2, A3, c3, hp, hc⟩ := h2 i b hx
    exact ⟨A1, c1, A2, c2, A3, c3, hp.mono (fun k hk => Or.inl hk.1), hc⟩
  rcases h1.2 with ⟨rfl, hn⟩ | ⟨q, cap, cur, rfl, hbq, hg, hnc, hm, hs, ht⟩
  · have e := List.eq_nil_of_length_eq_zero hn
    subst e
    exact ⟨none, 0, rfl, Nat.le_refl _, Bxs.nil⟩
  · refine ⟨_, cap, rfl, hnc, vs, ⟨Reads.of_own h1, fun _ ad e => ?_⟩, h3⟩
    injection e with e
    subst e
    exact Or.inr hbq
end
end Go.Proofs.YtbfdaojffffaaaaGreat


namespace Go.Proofs.YtbfdaojffffaaaaGreat
open Go.RowKit
/-- A list of ints in a block of its own, behind g. -/
def IB (g : Nat) (w : World) (q : Nat) (l : List Int) : Prop := g < q ∧ Blk w q 3 (l.map (Value.int .i64)).toArray
theorem IB.ints {g : Nat} {w : World} {q : Nat} {l : List Int} (h : IB g w q l) : Ints w (some ⟨q, 0, none⟩) l := by
 refine ⟨by simp, fun _ => ⟨_, rfl, h.2.lt, fun j u hu => ?_⟩⟩
 rw [add_head, h.2.cell, ← Array.getElem?_toList]
 exact hu
/-- What leaves the blocks of ints alone, but for g. -/
def TrI (g : Nat) (w w' : World) : Prop := ∀ (q : Nat) (l : List Int), IB g w q l → IB g w' q l
structure GT (g : Nat) where
 P : World → Value → Prop
 cl : ∀ w w' v, P w v → TrI g w w' → P w' v
section
variable {g : Nat} {DS : List (Option (GT g))} {L : Ran} {vs : Nat → Value} {w w' : World} {k : Nat} {u : Value}
end
end Go.Proofs.YtbfdaojffffaaaaGreat

namespace Go.Proofs.YtbfdaojffffaaaaGreat
open Go.RowKit
theorem ChV.mono {w : World} {ok ok2 : Nat → Prop} {c : Ch} {v : Value} (h : ChV w ok c v) (hk : ∀ k, ok k → ok2 k) : ChV w ok2 c v := by
 obtain ⟨A, n, e, hn, hi⟩ := h
 exact ⟨A, n, e, hn, RdB.mono hi hk⟩
end Go.Proofs.YtbfdaojffffaaaaGreat

namespace Go.Proofs.YtbfdaojffffaaaaGreat
open Go.RowKit
theorem dice_low (B : Nat) (A : Option Addr) (c : Nat) (l : List Int) (w : World) (h : Reads w B 1 A l.length (l.map (Value.int .u8))) (hB : B ≤ w.heap.size) (hc : l.length ≤ c) (hl : l.length ≤ 9223372036854775807) (hwf : ∀ x ∈ l, 0 ≤ x ∧ x ≤ 255) :
 Calls Tryz.prog 7 #[.slice A l.length c] w fun e w' => e = .returned (.pointer (some ⟨w.heap.size, 0, none⟩)) ∧ DR w' B w.heap.size ∧ Grows w w' := by
 have key : ∀ (m : Nat) (w1 : World) (v : Value), m = min l.length 300 → w1 = w.alloc (.cells #[.slice A m c] DiceT) → v = .pointer (some ⟨w.heap.size, 0, none⟩) → Ending.returned v = .returned (.pointer (some ⟨w.heap.size, 0, none⟩)) ∧ DR w1 B w.heap.size ∧ Grows w w1 := by
  intro m w1 v hm hw hv
  subst hw hv
  have hlen : (l.take m).length = m := by simp; omega
  refine ⟨rfl, ⟨l.take m, A, c, ?_, ?_, by rw [hlen]; omega, hB, fun x hx => hwf x (List.mem_of_mem_take hx), by rw [hlen]; omega⟩, (Below.refl _ _).alloc (Nat.le_refl _) _⟩
  ·rw [hlen]; exact Blk.new _ _ _
  ·rw [hlen, List.map_take]; exact (h.take_ (by omega)).alloc hB _
 go_enter Tryz.func7, Tryz.ntmps7
 by_cases h3 : l.length ≤ 300
 ·have e1 : min (l.length : Int) 300 = l.length := by omega
  go_wp2
  go_ret
  exact key l.length _ _ (by omega) rfl rfl
 ·have e1 : min (l.length : Int) 300 = 300 := by omega
  go_wp2
  go_ret
  exact key 300 _ _ (by omega) rfl rfl
end Go.Proofs.YtbfdaojffffaaaaGreat

namespace Go.Proofs.YtbfdaojffffaaaaGreat
open Go.RowKit
section
variable {α β : Type} {f : Option β → α → Option β} {l : List α} {s : Option β} {k : Nat} {x : α}
end
end Go.Proofs.YtbfdaojffffaaaaGreat


namespace Go.Proofs.YtbfdaojffffaaaaGreat
open Go.RowKit
set_option maxRecDepth 100000 in
set_option maxHeartbeats 4000000 in
theorem sclone_any (A : Option Addr) (c : Nat) (l : List Sp) (w : World) (h : Sps w A l) (hl : l.length ≤ 1000000) :
    Calls Tryz.prog 127 #[.slice A l.length c] w fun e w' => (∃ v, e = .returned v ∧ Own w' w.heap.size v l) ∧ Grows w w' := by
  go_enter Tryz.func127, Tryz.ntmps127
  go_wp2_with fail
  rw [Lib.run_eql_slice_nil (P := Tryz.prog) w 130 129 _ _ _ _ _ Tryz.underlying130]
  rcases A with _ | ad
  · have h0 : l.length = 0 := by
      rcases Nat.eq_zero_or_pos l.length with h0 | h0
      · exact h0
      · obtain ⟨ad, hh, _⟩ := h.2 h0
        cases hh
    obtain rfl : l = [] := List.length_eq_zero_iff.1 h0
    go_wp2
    go_ret
    exact ⟨⟨_, rfl, own_nil w w.heap.size⟩, Below.refl _ _⟩
  · go_upto_region 3 with fail
    refine wp_region_lit ?_
    iterate 2
      refine wpList_plain rfl (fun K hK => ?_)
      go_simp
      refine hK _ _ ?_
      clear hK K
    have hB1 := (Below.refl w.heap.size w).alloc (Nat.le_refl _) (Obj.cells #[] 129)
    have how : Own (w.alloc (Obj.cells #[] 129)) w.heap.size (.slice (some ⟨w.heap.size, 0, none⟩) 0 0) [] := World.ownsRow_lit w #[] 0 (Nat.le_refl _) (by simp [maxLen]) rfl
    have h1 := h.grows hB1
    generalize hW : World.alloc w _ = w1 at *
    refine wpList_append_sp rfl (.tmp 5) (.tmp 6) rfl (m := l) rfl rfl how rfl h1 (by simpa using hl) hB1.size ?_
    intro v' w2 hown hgr
    have hB2 := how.below hB1 hgr hB1.size
    rw [List.nil_append] at hown
    clear how hgr h1 h hB1 hW
    go_wp2
    go_ret
    exact ⟨⟨_, rfl, hown⟩, hB2⟩
end Go.Proofs.YtbfdaojffffaaaaGreat


namespace Go.Proofs.YtbfdaojffffaaaaGreat
open Go.RowKit
theorem own_rd {w : World} {base : Nat} {e : TypeId} {size n : Nat} {v : Value} {xs : List Value} (h : w.ownsRow base e size v n xs) {Q : Nat → Prop} (hQ : ∀ k, base ≤ k → Q k) : ∃ A c, v = .slice A n c ∧ n ≤ c ∧ RdB w Q size A n xs := by
 rcases h.2 with ⟨rfl, hn⟩ | ⟨g, cap, cur, rfl, hb, hg, hnc, hm, hs, ht⟩
 ·exact ⟨none, 0, by rw [hn], by omega, Reads.of_own (c := 0) (by simpa [hn] using h), fun _ ad e => by cases e⟩
 ·exact ⟨_, cap, rfl, hnc, Reads.of_own h, fun _ ad e => by injection e with e; subst e; exact hQ _ hb⟩
theorem MpG.mono {w : World} {G : Nat} {P Q : Nat → Prop} {m : List (List Int)} (h : MpG w G P m) (hQ : ∀ k, P k → Q k) : MpG w G Q m := by
 obtain ⟨cs, h1, h2⟩ := h
 exact ⟨cs, h1, fun i x hx => by obtain ⟨B, c, e, hc, hi⟩ := h2 i x hx; exact ⟨B, c, e, hc, hi.mono hQ⟩⟩
theorem MpG.grown {w w' : World} {G g : Nat} {P : Nat → Prop} {m : List (List Int)} (h : MpG w G P m) (hg : w.grownBy w' (some g)) (hne : G ≠ g) (hr : ∀ q, (some g : Option Nat) = some q → ¬ P q) : MpG w' G P m := by
 obtain ⟨cs, h1, h2⟩ := h
 exact ⟨cs, (hg.block G h1.lt (fun e => hne (by injection e))).trans h1, fun i x hx => by obtain ⟨B, c, e, hc, hi⟩ := h2 i x hx; exact ⟨B, c, e, hc, RdB.grown hi hg hr⟩⟩
set_option maxRecDepth 100000 in
set_option maxHeartbeats 60000000 in
theorem own_anyZ (D : Dv) (bz : Nat → Nat) (w : World) (h : InDv w (fun k => bz k = 0) D) (hl1 : 1 ≤ D.b.length) (hl2 : D.b.length ≤ 1000000) (ho : ∀ b ∈ D.b, OKB b) (hm1 : ∀ b ∈ D.b, 1 ≤ b.m.length) (hgl : D.g.length ≤ 1000000) (hll : D.l.length ≤ 1000000) : Calls Tryz.prog 50 #[.agg (dvA D)] w fun e w' =>
 (∃ D2 : Dv, e = .returned (.agg (dvA D2)) ∧ (∃ BA bc MA mc CA cc A c, D2 = { D with BA := BA, bc := bc, MA := MA, mc := mc, CA := CA, cc := cc, A := A, c := c }) ∧ InDv w' (fun k => bz k = 0 ∨ w.heap.size ≤ k) D2) ∧ Grows w w' := by
 go_enter Tryz.func50, Tryz.ntmps50
 have hB := ((Below.refl w.heap.size w).alloc (Nat.le_refl _) (Obj.cells (dvA D) 51)).alloc (by simp) (Obj.cells #[.int .u64 0, .string ⟨#[]⟩, .int .i64 0, .int .i64 0, .int .i64 0, .int .i64 0, .int .i64 0, .slice none 0 0, .int .i64 0, .int .i64 0, .slice none 0 0, .int .i64 0, .int .i64 0, .int .i64 0, .slice none 0 0, .bool false, .int .i64 0, .int .i64 0, .int .i64 0, .int .i64 0, .int .i64 0, .int .i64 0, .int .i64 0, .int .i64 0, .int .i64 0, .int .i64 0, .int .i64 0, .int .i64 0, .slice none 0 0, .int .i64 0, .int .i64 0] 51)
 have k1 := (Blk.new w 51 (dvA D)).alloc (Obj.cells #[.int .u64 0, .string ⟨#[]⟩, .int .i64 0, .int .i64 0, .int .i64 0, .int .i64 0, .int .i64 0, .slice none 0 0, .int .i64 0, .int .i64 0, .slice none 0 0, .int .i64 0, .int .i64 0, .int .i64 0, .slice none 0 0, .bool false, .int .i64 0, .int .i64 0, .int .i64 0, .int .i64 0, .int .i64 0, .int .i64 0, .int .i64 0, .int .i64 0, .int .i64 0, .int .i64 0, .int .i64 0, .int .i64 0, .slice none 0 0, .int .i64 0, .int .i64 0] 51)
 have k2 := blk_new_at (X := w.alloc (Obj.cells (dvA D) 51)) (n := w.heap.size + 1) (t := 51) (cs := #[.int .u64 0, .string ⟨#[]⟩, .int .i64 0, .int .i64 0, .int .i64 0, .int .i64 0, .int .i64 0, .slice none 0 0, .int .i64 0, .int .i64 0, .slice none 0 0, .int .i64 0, .int .i64 0, .int .i64 0, .slice none 0 0, .bool false, .int .i64 0, .int .i64 0, .int .i64 0, .int .i64 0, .int .i64 0, .int .i64 0, .int .i64 0, .int .i64 0, .int .i64 0, .int .i64 0, .int .i64 0, .int .i64 0, .slice none 0 0, .int .i64 0, .int .i64 0]) (by simp)
 go_upto_region 1 with fail
 generalize hn2 : w.heap.size + 1 = n2 at *
 generalize World.alloc (World.alloc w _) _ = w1 at *
 have x7 := (show _ = some ((.slice D.BA D.b.length D.bc) : Value) from k1.cell 7)
 obtain ⟨vs, r1, r2, r3⟩ := h.b.one
 go_wp2_with fail
 refine (bclone_raw _ _ _ vs _ (Reads.grows r1 hB) r2 hl2).mono ?_
 rintro e w2 ⟨⟨v, rfl, hown⟩, hq⟩
 obtain ⟨G, cap, rfl, hcap, hG, hX⟩ := BxG.made hown (below_grows hB (Nat.le_refl _) hq) hl1 r3
 have e1 := k1.lt
 have hs1 := hB.size
 have e2 := k2.lt
 replace hX := hX.mono (Q := fun k => (k ≠ G ∧ k ≠ w.heap.size ∧ k ≠ n2 ∧ (bz k = 0 ∨ w.heap.size ≤ k))) (fun k hk => by have hk1 : bz k = 0 := hk.1; have hk2 : k < w.heap.size := hk.2; omega)
 replace k1 := k1.grows hq
 replace k2 := k2.grows hq
 replace hB := below_grows hB (Nat.le_refl _) hq
 have hqs := hq.size
 clear hq
 clear r1 r2 r3 hown x7 vs
 go_wp2_with fail
 go_loopw [14] (fun i wr => ∃ k : Nat, k ≤ D.b.length ∧ i = .int .i64 k ∧ Below w.heap.size w wr ∧ Blk wr w.heap.size 51 (dvA D) ∧ Blk wr n2 51 #[.int .u64 0, .string ⟨#[]⟩, .int .i64 0, .int .i64 0, .int .i64 0, .int .i64 0, .int .i64 0, .slice none 0 0, .int .i64 0, .int .i64 0, .slice none 0 0, .int .i64 0, .int .i64 0, .int .i64 0, .slice none 0 0, .bool false, .int .i64 0, .int .i64 0, .int .i64 0, .int .i64 0, .int .i64 0, .int .i64 0, .int .i64 0, .int .i64 0, .int .i64 0, .int .i64 0, .int .i64 0, .int .i64 0, .slice none 0 0, .int .i64 0, .int .i64 0] ∧ BxG wr G (fun k => (k ≠ G ∧ k ≠ w.heap.size ∧ k ≠ n2 ∧ (bz k = 0 ∨ w.heap.size ≤ k))) D.b) (fun i _ => D.b.length - (intOf i).toNat)
 case atStart => exact ⟨0, by omega, rfl, hB, k1, k2, hX⟩
 case round =>
  clear hB k1 k2 hX
  rename World => w4
  obtain ⟨k, hk, rfl, hB, k1, k2, hX⟩ := hrel
  by_cases hlt : k < D.b.length
  ·obtain ⟨b, hb⟩ : ∃ b, D.b[k]? = some b := ⟨D.b[k], List.getElem?_eq_getElem hlt⟩
   have hbm := List.mem_of_getElem? hb
   obtain ⟨o1, o2, o3, o4⟩ := ho b hbm
   have hm1 := hm1 b hbm
   obtain ⟨A1, c1, A2, c2, A3, c3, hp, ⟨x0, x1, x2, x3⟩, -⟩ := hX.at_ hb
   have hGlt := hX.lt
   have hk1 := k1.lt
   have hk2 := k2.lt
   have d0 : decide ((k : Int) < (D.b.length : Int)) = true := by simp only [decide_eq_true_iff]; omega
   have d0' : decide (k < D.b.length) = true := by simp only [decide_eq_true_iff]; omega
   have b0 : (0 : Int) ≤ (k : Int) := by omega
   have b1 : (k : Int) < (D.b.length : Int) := by omega
   go_upto_region 5 with fail
   have k5 := Blk.new w4 134 #[.int .i64 b.k, .slice A1 b.r.length c1, .slice A2 b.m.length c2, .slice A3 b.s.length c3]
   have hR := (Below.refl w4.heap.size w4).alloc (Nat.le_refl _) (Obj.cells #[.int .i64 b.k, .slice A1 b.r.length c1, .slice A2 b.m.length c2, .slice A3 b.s.length c3] 134)
   have hpr := hp.r.grows hR
   have hps := hp.s.grows hR
   have hpm := hp.m.bd.grows hR
   generalize hg5 : w4.heap.size = g5 at *
   generalize hw3 : World.alloc w4 _ = w3 at *
   have hg5b := k5.lt
   clear hw3 x0 x1 x2 x3
   obtain ⟨S, HI, HO⟩ := hideS fun (L : Ran) (vs : Nat → Value) (w' : World) => (Grows w3 w' ∧ KnS [some (.pointer (some ⟨g5, 1, none⟩)), some (.pointer (some ⟨g5, 1, none⟩)), some (.slice A1 b.r.length c1), none, some (.pointer (some ⟨g5, 3, none⟩)), some (.pointer (some ⟨g5, 3, none⟩)), some (.slice A3 b.s.length c3), none, some (.pointer (some ⟨g5, 1, none⟩)), some (.pointer (some ⟨g5, 1, none⟩))] L vs ∧ (L 3 = true → ∃ (B : Option Addr) (cx : Nat), vs 3 = .slice B b.r.length cx ∧ b.r.length ≤ cx ∧ SpB w' (fun k => (k ≠ G ∧ k ≠ w.heap.size ∧ k ≠ n2 ∧ (bz k = 0 ∨ w.heap.size ≤ k)) ∧ k ≠ g5) B b.r) ∧ (L 7 = true → ∃ (B : Option Addr) (cx : Nat), vs 7 = .slice B b.s.length cx ∧ b.s.length ≤ cx ∧ SpB w' (fun k => (k ≠ G ∧ k ≠ w.heap.size ∧ k ≠ n2 ∧ (bz k = 0 ∨ w.heap.size ≤ k)) ∧ k ≠ g5) B b.s))
   refine wp_region_genT S 10 81 (by kernel_rfl) (by kernel_rfl) rfl ?_ ?_
   ·exact HI.out _ _ _ ⟨Grows.drew' w3, kn_none _ _, (fun h => by cases h), (fun h => by cases h)⟩
   simp only [List.take_succ_cons, List.take_zero, List.drop_succ_cons, List.drop_zero]
   refine gent_consR (fun vs L w1 hL hw1 => ?_) ?_
   ·obtain ⟨h0, q1, q3, q7⟩ := HO.out _ _ _ hw1
    refine gen_plain rfl ?_
    go_simp
    exact gr_val (HI.out _ _ _ ⟨h0, kn_known q1 rfl, q3, q7⟩)
   refine gent_consR (fun vs L w1 hL hw1 => ?_) ?_
   ·obtain ⟨h0, q1, q3, q7⟩ := HO.out _ _ _ hw1
    have l0 : L 0 = true := hL.need 0 (by kernel_rfl)
    have e0 := q1 0 _ rfl l0
    refine gen_plain rfl ?_
    simp only [e0]
    go_simp
    exact gr_val (HI.out _ _ _ ⟨h0, kn_known q1 rfl, q3, q7⟩)
   refine gent_consR (fun vs L w1 hL hw1 => ?_) ?_
   ·obtain ⟨h0, q1, q3, q7⟩ := HO.out _ _ _ hw1
    have l0 : L 1 = true := hL.need 1 (by kernel_rfl)
    have e0 := q1 1 _ rfl l0
    have xc := (k5.grows h0).cell 1
    refine gen_plain rfl ?_
    simp only [e0]
    go_simp
    exact gr_val (HI.out _ _ _ ⟨h0, kn_known q1 rfl, q3, q7⟩)
   refine gent_consR (fun vs L w1 hL hw1 => ?_) ?_
   ·obtain ⟨h0, q1, q3, q7⟩ := HO.out _ _ _ hw1
    have l0 : L 2 = true := hL.need 2 (by kernel_rfl)
    have e0 := q1 2 _ rfl l0
    refine gen_plain rfl ?_
    simp only [e0]
    go_simp
    refine gr_call ?_
    refine (sclone_any A1 c1 b.r _ (SpB.sps ((hpr).grows h0)) (by omega)).mono ?_
    rintro e wc ⟨⟨v, rfl, hown⟩, hg⟩
    obtain ⟨B, cx, rfl, hcx, hib⟩ := SpB.of_own hown
    have hsz := h0.size
    exact ⟨_, rfl, HI.out _ _ _ ⟨below_grows h0 (Nat.le_refl _) hg, kn_free q1 rfl, (fun _ => ⟨B, cx, rfl, hcx, RdB.mono hib (fun k hk => by unfold Ge at hk; omega)⟩), (fun h => by obtain ⟨B, cx, e, hc, hi⟩ := q7 h; exact ⟨B, cx, e, hc, hi.grows hg⟩)⟩⟩
   refine gent_consR (fun vs L w1 hL hw1 => ?_) ?_
   ·obtain ⟨h0, q1, q3, q7⟩ := HO.out _ _ _ hw1
    refine gen_plain rfl ?_
    go_simp
    exact gr_val (HI.out _ _ _ ⟨h0, kn_known q1 rfl, q3, q7⟩)
   refine gent_consR (fun vs L w1 hL hw1 => ?_) ?_
   ·obtain ⟨h0, q1, q3, q7⟩ := HO.out _ _ _ hw1
    have l0 : L 4 = true := hL.need 4 (by kernel_rfl)
    have e0 := q1 4 _ rfl l0
    refine gen_plain rfl ?_
    simp only [e0]
    go_simp
    exact gr_val (HI.out _ _ _ ⟨h0, kn_known q1 rfl, q3, q7⟩)
   refine gent_consR (fun vs L w1 hL hw1 => ?_) ?_
   ·obtain ⟨h0, q1, q3, q7⟩ := HO.out _ _ _ hw1
    have l0 : L 5 = true := hL.need 5 (by kernel_rfl)
    have e0 := q1 5 _ rfl l0
    have xc := (k5.grows h0).cell 3
    refine gen_plain rfl ?_
    simp only [e0]
    go_simp
    exact gr_val (HI.out _ _ _ ⟨h0, kn_known q1 rfl, q3, q7⟩)
   refine gent_consR (fun vs L w1 hL hw1 => ?_) ?_
   ·obtain ⟨h0, q1, q3, q7⟩ := HO.out _ _ _ hw1
    have l0 : L 6 = true := hL.need 6 (by kernel_rfl)
    have e0 := q1 6 _ rfl l0
    refine gen_plain rfl ?_
    simp only [e0]
    go_simp
    refine gr_call ?_
    refine (sclone_any A3 c3 b.s _ (SpB.sps ((hps).grows h0)) (by omega)).mono ?_
    rintro e wc ⟨⟨v, rfl, hown⟩, hg⟩
    obtain ⟨B, cx, rfl, hcx, hib⟩ := SpB.of_own hown
    have hsz := h0.size
    exact ⟨_, rfl, HI.out _ _ _ ⟨below_grows h0 (Nat.le_refl _) hg, kn_free q1 rfl, (fun h => by obtain ⟨B, cx, e, hc, hi⟩ := q3 h; exact ⟨B, cx, e, hc, hi.grows hg⟩), (fun _ => ⟨B, cx, rfl, hcx, RdB.mono hib (fun k hk => by unfold Ge at hk; omega)⟩)⟩⟩
   refine gent_consR (fun vs L w1 hL hw1 => ?_) ?_
   ·obtain ⟨h0, q1, q3, q7⟩ := HO.out _ _ _ hw1
    refine gen_plain rfl ?_
    go_simp
    exact gr_val (HI.out _ _ _ ⟨h0, kn_known q1 rfl, q3, q7⟩)
   refine gent_consR (fun vs L w1 hL hw1 => ?_) ?_
   ·obtain ⟨h0, q1, q3, q7⟩ := HO.out _ _ _ hw1
    have l0 : L 8 = true := hL.need 8 (by kernel_rfl)
    have e0 := q1 8 _ rfl l0
    refine gen_plain rfl ?_
    simp only [e0]
    go_simp
    exact gr_val (HI.out _ _ _ ⟨h0, kn_known q1 rfl, q3, q7⟩)
   refine gent_nil ?_
   intro vs L W2 hall hS
   obtain ⟨h0, q1, q3, q7⟩ := HO.out _ _ _ hS
   obtain ⟨B1, d1, e3, hd1, hB1⟩ := q3 (hall 3 (by omega))
   obtain ⟨B3, d3, e7, hd3, hB3⟩ := q7 (hall 7 (by omega))
   have e0 := q1 0 _ rfl (hall 0 (by omega))
   have e1 := q1 1 _ rfl (hall 1 (by omega))
   have e2 := q1 2 _ rfl (hall 2 (by omega))
   have e4 := q1 4 _ rfl (hall 4 (by omega))
   have e5 := q1 5 _ rfl (hall 5 (by omega))
   have e6 := q1 6 _ rfl (hall 6 (by omega))
   have e8 := q1 8 _ rfl (hall 8 (by omega))
   have e9 := q1 9 _ rfl (hall 9 (by omega))
   clear hall hS HI HO q1 q3 q7
   simp only [e0, e1, e2, e3, e4, e5, e6, e7, e8, e9]
   clear e0 e1 e2 e3 e4 e5 e6 e7 e8 e9 vs
   replace hR := below_grows hR (by omega) h0
   replace k5 := k5.grows h0
   replace hpm := hpm.grows h0
   clear h0
   have x5 := k5.cell
   have f5 := k5.frozen
   go_upto_region 6 with fail
   clear x5 f5
   replace k5 : Blk _ g5 134 #[.int .i64 b.k, .slice B1 b.r.length d1, .slice A2 b.m.length c2, .slice B3 b.s.length d3] := (k5.set_ 1 (.slice B1 b.r.length d1)).set_ 3 (.slice B3 b.s.length d3)
   replace hR := (hR.setCell (p := ⟨g5, 1, none⟩) (Nat.le_refl _) (.slice B1 b.r.length d1)).setCell (p := ⟨g5, 3, none⟩) (Nat.le_refl _) (.slice B3 b.s.length d3)
   have hst := d_only_set (d_only_set (World.grownBy.refl W2 (some g5)) 1 (.slice B1 b.r.length d1)) 3 (.slice B3 b.s.length d3)
   replace hpm := hpm.grown hst (fun g e => by injection e with e; subst e; unfold Bd; omega)
   replace hB1 : SpB _ _ B1 b.r := RdB.grown hB1 hst (fun g e => by injection e with e; subst e; exact fun h => h.2 rfl)
   replace hB3 : SpB _ _ B3 b.s := RdB.grown hB3 hst (fun g e => by injection e with e; subst e; exact fun h => h.2 rfl)
   generalize World.setCell (World.setCell W2 _ _) _ _ = w5 at *
   clear hst
   have x52 := (show _ = some ((.slice A2 b.m.length c2) : Value) from k5.cell 2)
   obtain ⟨vs2, r1, r2, r3⟩ := hpm.one
   go_wp2_with fail
   refine (mclone_raw A2 c2 b.m.length vs2 _ r1 r2 o3).mono ?_
   rintro e w6 ⟨⟨v, rfl, hown⟩, hq⟩
   obtain ⟨G2, cap2, rfl, hcap2, hG2, hM⟩ := MpG.made (P := Bd (fun k => (k ≠ G ∧ k ≠ w.heap.size ∧ k ≠ n2 ∧ (bz k = 0 ∨ w.heap.size ≤ k))) g5) hown hm1 (fun i x hx => by obtain ⟨B, c, e, hc, hi⟩ := r3 i x hx; exact ⟨B, c, e, hc, hi.grows hq⟩)
   have g5lt := k5.lt
   replace hM := hM.mono (Q := fun k => (k ≠ G ∧ k ≠ w.heap.size ∧ k ≠ n2 ∧ (bz k = 0 ∨ w.heap.size ≤ k)) ∧ k ≠ g5 ∧ k ≠ G2) (fun k hk => by unfold Bd at hk; omega)
   replace hB1 : SpB w6 _ B1 b.r := RdB.grows (RdB.bd hB1) hq
   replace hB3 : SpB w6 _ B3 b.s := RdB.grows (RdB.bd hB3) hq
   replace k5 := k5.grows hq
   replace hR := below_grows hR (by omega) hq
   clear hq r1 r2 r3 hown hpm x52
   have f52 := k5.frozen 2
   have x52 := k5.cell 2
   go_upto_region 7 with fail
   clear x52 f52
   replace k5 : Blk _ g5 134 #[.int .i64 b.k, .slice B1 b.r.length d1, .slice (some ⟨G2, 0, none⟩) b.m.length cap2, .slice B3 b.s.length d3] := k5.set_ 2 (.slice (some ⟨G2, 0, none⟩) b.m.length cap2)
   replace hR := hR.setCell (p := ⟨g5, 2, none⟩) (Nat.le_refl _) (.slice (some ⟨G2, 0, none⟩) b.m.length cap2)
   have hst := d_only_set (World.grownBy.refl w6 (some g5)) 2 (.slice (some ⟨G2, 0, none⟩) b.m.length cap2)
   replace hM := hM.grown hst (fun e => by omega) (fun g e => by injection e with e; subst e; exact fun h => h.2.1 rfl)
   replace hB1 : SpB _ _ B1 b.r := RdB.grown hB1 hst (fun g e => by injection e with e; subst e; exact fun h => h.1.2 rfl)
   replace hB3 : SpB _ _ B3 b.s := RdB.grown hB3 hst (fun g e => by injection e with e; subst e; exact fun h => h.1.2 rfl)
   generalize World.setCell w6 _ _ = w7 at *
   clear hst
   generalize w5.heap.size = n5 at *
   have y2 := (show _ = some ((.slice (some ⟨G2, 0, none⟩) b.m.length cap2) : Value) from k5.cell 2)
   go_wp2_with fail
   clear y2
   go_loopw [38] (fun i wr => ∃ j : Nat, j ≤ b.m.length ∧ i = .int .i64 j ∧ Below g5 w4 wr ∧ Blk wr g5 134 #[.int .i64 b.k, .slice B1 b.r.length d1, .slice (some ⟨G2, 0, none⟩) b.m.length cap2, .slice B3 b.s.length d3] ∧ MpG wr G2 (fun k => (k ≠ G ∧ k ≠ w.heap.size ∧ k ≠ n2 ∧ (bz k = 0 ∨ w.heap.size ≤ k)) ∧ k ≠ g5 ∧ k ≠ G2) b.m ∧ SpB wr (Bd (fun k => (k ≠ G ∧ k ≠ w.heap.size ∧ k ≠ n2 ∧ (bz k = 0 ∨ w.heap.size ≤ k)) ∧ k ≠ g5) n5) B1 b.r ∧ SpB wr (Bd (fun k => (k ≠ G ∧ k ≠ w.heap.size ∧ k ≠ n2 ∧ (bz k = 0 ∨ w.heap.size ≤ k)) ∧ k ≠ g5) n5) B3 b.s) (fun i _ => b.m.length - (intOf i).toNat)
   case atStart => exact ⟨0, by omega, rfl, hR, k5, hM, hB1, hB3⟩
   case round =>
    clear hR k5 hM hB1 hB3
    obtain ⟨j, hj, rfl, hR, k5, hM, hB1, hB3⟩ := hrel
    by_cases hlt2 : j < b.m.length
    ·obtain ⟨x, hx⟩ : ∃ x, b.m[j]? = some x := ⟨b.m[j], List.getElem?_eq_getElem hlt2⟩
     have hxl := o4 x (List.mem_of_getElem? hx)
     obtain ⟨Bj, cj, xj, fj, hcj, hbj⟩ := hM.at_ hx
     have e0 : decide ((j : Int) < (b.m.length : Int)) = true := by simp only [decide_eq_true_iff]; omega
     have e0' : decide (j < b.m.length) = true := by simp only [decide_eq_true_iff]; omega
     have c0 : (0 : Int) ≤ (j : Int) := by omega
     have c1' : (j : Int) < (b.m.length : Int) := by omega
     go_upto_region 10 with fail
     clear xj fj
     have hs5 := hR.size
     have hMlt := hM.lt
     obtain ⟨S, HI, HO⟩ := hideS fun (L : Ran) (vs : Nat → Value) (w' : World) => (Grows wr w' ∧ KnS [some (.pointer (some ⟨g5, 2, none⟩)), some (.slice (some ⟨G2, 0, none⟩) b.m.length cap2), some (.int .i64 (j : Int)), some (.slice Bj x.length cj), none] L vs ∧ (L 4 = true → ∃ (B : Option Addr) (cx : Nat), vs 4 = .slice B x.length cx ∧ x.length ≤ cx ∧ InB w' (fun k => (k ≠ G ∧ k ≠ w.heap.size ∧ k ≠ n2 ∧ (bz k = 0 ∨ w.heap.size ≤ k)) ∧ k ≠ g5 ∧ k ≠ G2) B x))
     refine wp_region_genT S 5 81 (by kernel_rfl) (by kernel_rfl) rfl ?_ ?_
     ·exact HI.out _ _ _ ⟨Grows.drew' wr, kn_none _ _, (fun h => by cases h)⟩
     simp only [List.take_succ_cons, List.take_zero, List.drop_succ_cons, List.drop_zero]
     refine gent_consR (fun vs L w1 hL hw1 => ?_) ?_
     ·obtain ⟨h0, q1, q4⟩ := HO.out _ _ _ hw1
      refine gen_plain rfl ?_
      go_simp
      exact gr_val (HI.out _ _ _ ⟨h0, kn_known q1 rfl, q4⟩)
     refine gent_consR (fun vs L w1 hL hw1 => ?_) ?_
     ·obtain ⟨h0, q1, q4⟩ := HO.out _ _ _ hw1
      have l0 : L 0 = true := hL.need 0 (by kernel_rfl)
      have e0 := q1 0 _ rfl l0
      have xc := (show _ = some ((.slice (some ⟨G2, 0, none⟩) b.m.length cap2) : Value) from (k5.grows h0).cell 2)
      refine gen_plain rfl ?_
      simp only [e0]
      go_simp
      exact gr_val (HI.out _ _ _ ⟨h0, kn_known q1 rfl, q4⟩)
     refine gent_consR (fun vs L w1 hL hw1 => ?_) ?_
     ·obtain ⟨h0, q1, q4⟩ := HO.out _ _ _ hw1
      refine gen_plain rfl ?_
      go_simp
      exact gr_val (HI.out _ _ _ ⟨h0, kn_known q1 rfl, q4⟩)
     refine gent_consR (fun vs L w1 hL hw1 => ?_) ?_
     ·obtain ⟨h0, q1, q4⟩ := HO.out _ _ _ hw1
      refine gen_plain rfl ?_
      go_simp
      exact gr_val (HI.out _ _ _ ⟨h0, kn_known q1 rfl, q4⟩)
     refine gent_consR (fun vs L w1 hL hw1 => ?_) ?_
     ·obtain ⟨h0, q1, q4⟩ := HO.out _ _ _ hw1
      have l0 : L 3 = true := hL.need 3 (by kernel_rfl)
      have e0 := q1 3 _ rfl l0
      refine gen_plain rfl ?_
      simp only [e0]
      go_simp
      refine gr_call ?_
      refine (iclone_any Bj cj x _ (InB.ints (hbj.grows h0)) hxl).mono ?_
      rintro e wc ⟨⟨v, rfl, hown⟩, hg⟩
      obtain ⟨B, cx, rfl, hcx, hib⟩ := InB.of_own hown
      have hsz := h0.size
      exact ⟨_, rfl, HI.out _ _ _ ⟨below_grows h0 (Nat.le_refl _) hg, kn_free q1 rfl, (fun _ => ⟨B, cx, rfl, hcx, InB.mono hib (fun k hk => by unfold Ge at hk; omega)⟩)⟩⟩
     refine gent_nil ?_
     intro vs L W3 hall hS
     obtain ⟨h0, q1, q4⟩ := HO.out _ _ _ hS
     obtain ⟨Bn, dn, e4, hdj, hBj⟩ := q4 (hall 4 (by omega))
     have e0 := q1 0 _ rfl (hall 0 (by omega))
     have e1 := q1 1 _ rfl (hall 1 (by omega))
     have e2 := q1 2 _ rfl (hall 2 (by omega))
     have e3 := q1 3 _ rfl (hall 3 (by omega))
     clear hall hS HI HO q1 q4
     simp only [e0, e1, e2, e3, e4]
     clear e0 e1 e2 e3 e4 vs
     have e0 : decide ((j : Int) < (b.m.length : Int)) = true := by simp only [decide_eq_true_iff]; omega
     have e0' : decide (j < b.m.length) = true := by simp only [decide_eq_true_iff]; omega
     obtain ⟨Bk, ck, xk, fk, -, -⟩ := (hM.grows h0).at_ hx
     replace hM := hM.grows h0
     replace k5 := k5.grows h0
     replace hR := below_grows hR (by have := hR.size; omega) h0
     replace hB1 := hB1.grows h0
     replace hB3 := hB3.grows h0
     clear h0
     go_upto_region 11 with fail
     clear xk fk
     replace hM := hM.put (fun h => h.2.2 rfl) hx hdj hBj
     replace k5 := k5.far (p := ⟨G2, j, none⟩) (by simp only; omega) (.slice Bn x.length dn)
     replace hR := hR.setCell (p := ⟨G2, j, none⟩) (by simp only; omega) (.slice Bn x.length dn)
     have hst := d_only_set (World.grownBy.refl W3 (some G2)) j (.slice Bn x.length dn)
     replace hB1 : SpB _ _ B1 b.r := RdB.grown hB1 hst (fun g e => by injection e with e; subst e; unfold Bd; omega)
     replace hB3 : SpB _ _ B3 b.s := RdB.grown hB3 hst (fun g e => by injection e with e; subst e; unfold Bd; omega)
     generalize World.setCell W3 _ _ = w9 at *
     have wj : IntKind.i64.wrap ((j : Int) + 1) = (j : Int) + 1 := IntWalk.i64_in _ (by omega)
     go_wp2
     go_roundw
     case rel => exact ⟨j + 1, by omega, rfl, hR, k5, hM, hB1, hB3⟩
     case measure => simp [intOf] <;> omega
    ·have e0 : decide ((j : Int) < (b.m.length : Int)) = false := by simp only [decide_eq_false_iff_not]; omega
     have e0' : decide (j < b.m.length) = false := by simp only [decide_eq_false_iff_not]; omega
     have hRg : Grows w4 wr := by show Below _ _ _; rw [hg5]; exact hR
     have hMlt := hM.lt
     replace hX := hX.grows hRg
     have hX2 := hX.put (fun h => h.1 rfl) hb (A1 := B1) (c1 := d1) (A2 := some ⟨G2, 0, none⟩) (c2 := cap2) (A3 := B3) (c3 := d3) ⟨RdB.mono hB1 (fun k hk => hk.1.1), hM.maps (fun k hk => hk.1) (by omega), RdB.mono hB3 (fun k hk => hk.1.1), hd1, hcap2, hd3⟩
     obtain ⟨Z1, z1, Z2, z2, Z3, z3, -, ⟨x0, x1, x2, x3⟩, f0, f1, f2, f3⟩ := hX.at_ hb
     have y0 := (show _ = some ((.int .i64 b.k) : Value) from k5.cell 0)
     have y1 := (show _ = some ((.slice B1 b.r.length d1) : Value) from k5.cell 1)
     have y2 := (show _ = some ((.slice (some ⟨G2, 0, none⟩) b.m.length cap2) : Value) from k5.cell 2)
     have y3 := (show _ = some ((.slice B3 b.s.length d3) : Value) from k5.cell 3)
     go_upto_region 12 with fail
     go_upto_region 13 with fail
     clear x0 x1 x2 x3 f0 f1 f2 f3 y0 y1 y2 y3
     replace k1 := k1.grows hRg
     replace k2 := k2.grows hRg
     replace hB := below_grows hB (by have := k1.lt; have := hB.size; omega) hRg
     have hst := putX_only wr G (k * 4) b B1 d1 (some ⟨G2, 0, none⟩) cap2 B3 d3
     replace k1 : Blk (putX wr G (k * 4) b B1 d1 (some ⟨G2, 0, none⟩) cap2 B3 d3) _ _ _ := (hst.block w.heap.size k1.lt (fun e => by injection e with e; omega)).trans k1
     replace k2 : Blk (putX wr G (k * 4) b B1 d1 (some ⟨G2, 0, none⟩) cap2 B3 d3) _ _ _ := (hst.block n2 k2.lt (fun e => by injection e with e; omega)).trans k2
     replace hB := hB.grown hst hB.size (fun q hq => by injection hq with hq; omega)
     unfold putX at hX2 k1 k2 hB
     generalize World.setCell (World.setCell (World.setCell (World.setCell wr _ _) _ _) _ _) _ _ = w9 at *
     have wk : IntKind.i64.wrap ((k : Int) + 1) = (k : Int) + 1 := IntWalk.i64_in _ (by omega)
     go_wp2
     go_roundw
     case rel => exact ⟨k + 1, by omega, rfl, hB, k1, k2, hX2⟩
     case measure => simp [intOf] <;> omega
  ·have hkl : k = D.b.length := by omega
   have d0 : decide ((k : Int) < (D.b.length : Int)) = false := by simp only [decide_eq_false_iff_not]; omega
   have d0' : decide (k < D.b.length) = false := by simp only [decide_eq_false_iff_not]; omega
   have hBx := hX.done (Q := (fun k => k ≠ w.heap.size ∧ k ≠ n2 ∧ (bz k = 0 ∨ w.heap.size ≤ k))) (fun k hk => hk.2) (by omega)
   have hl1 := k1.lt
   clear hX
   go_upto_region 14 with fail
   have hfx := k1.frozen 7
   have hcx := k1.cell 7
   go_upto_region 15 with fail
   clear hfx hcx
   replace k1 : Blk _ w.heap.size 51 (dvA { D with BA := some ⟨G, 0, none⟩, bc := cap }) := k1.set_ 7 (.slice (some ⟨G, 0, none⟩) D.b.length cap)
   replace k2 := k2.far (p := ⟨w.heap.size, 7, none⟩) (by simp only; omega) (.slice (some ⟨G, 0, none⟩) D.b.length cap)
   replace hB := hB.setCell (p := ⟨w.heap.size, 7, none⟩) (Nat.le_refl _) (.slice (some ⟨G, 0, none⟩) D.b.length cap)
   have hst := d_only_set (World.grownBy.refl w4 (some w.heap.size)) 7 (.slice (some ⟨G, 0, none⟩) D.b.length cap)
   replace hBx := hBx.grown hst (fun g e => by injection e with e; subst e; exact fun h => h.1 rfl)
   generalize World.setCell w4 _ _ = w4s at *
   clear hst
   have hcx := (show _ = some ((.slice D.MA D.m.length D.mc) : Value) from k1.cell 10)
   have hl1 := k1.lt
   have hl2' := k2.lt
   go_wp2_with fail
   refine (iclone_any D.MA D.mc D.m _ (h.m.grows hB).ints h.ml).mono ?_
   rintro e wa ⟨⟨v, rfl, hown⟩, hq⟩
   clear hcx
   obtain ⟨M2, mc2, rfl, hM2, hM2⟩ := own_rd hown (Q := (fun k => k ≠ w.heap.size ∧ k ≠ n2 ∧ (bz k = 0 ∨ w.heap.size ≤ k))) (fun k hk => by omega)
   replace k1 := k1.grows hq
   replace k2 := k2.grows hq
   replace hB := below_grows hB (by omega) hq
   replace hBx := hBx.grows hq
   clear hq hown
   have hfx := k1.frozen 10
   have hcx := k1.cell 10
   go_upto_region 16 with fail
   clear hfx hcx
   replace k1 : Blk _ w.heap.size 51 (dvA { D with BA := some ⟨G, 0, none⟩, bc := cap, MA := M2, mc := mc2 }) := k1.set_ 10 (.slice M2 D.m.length mc2)
   replace k2 := k2.far (p := ⟨w.heap.size, 10, none⟩) (by simp only; omega) (.slice M2 D.m.length mc2)
   replace hB := hB.setCell (p := ⟨w.heap.size, 10, none⟩) (Nat.le_refl _) (.slice M2 D.m.length mc2)
   have hst := d_only_set (World.grownBy.refl wa (some w.heap.size)) 10 (.slice M2 D.m.length mc2)
   replace hBx := hBx.grown hst (fun g e => by injection e with e; subst e; exact fun h => h.1 rfl)
   replace hM2 := hM2.grown hst (fun g e => by injection e with e; subst e; exact fun h => h.1 rfl)
   generalize World.setCell wa _ _ = was at *
   clear hst
   have hcx := (show _ = some ((.slice D.CA D.g.length D.cc) : Value) from k1.cell 14)
   have hl1 := k1.lt
   have hl2' := k2.lt
   go_wp2_with fail
   refine (gclone_raw D.CA D.cc D.g.length _ _ (RdB.grows h.g hB).1 (gcs_one D.g) hgl).mono ?_
   rintro e wb ⟨⟨v, rfl, hown⟩, hq⟩
   clear hcx
   obtain ⟨C2, cc2, rfl, hC2, hC2⟩ := own_rd hown (Q := (fun k => k ≠ w.heap.size ∧ k ≠ n2 ∧ (bz k = 0 ∨ w.heap.size ≤ k))) (fun k hk => by omega)
   replace k1 := k1.grows hq
   replace k2 := k2.grows hq
   replace hB := below_grows hB (by omega) hq
   replace hBx := hBx.grows hq
   replace hM2 := hM2.grows hq
   clear hq hown
   have hfx := k1.frozen 14
   have hcx := k1.cell 14
   go_upto_region 17 with fail
   clear hfx hcx
   replace k1 : Blk _ w.heap.size 51 (dvA { D with BA := some ⟨G, 0, none⟩, bc := cap, MA := M2, mc := mc2, CA := C2, cc := cc2 }) := k1.set_ 14 (.slice C2 D.g.length cc2)
   replace k2 := k2.far (p := ⟨w.heap.size, 14, none⟩) (by simp only; omega) (.slice C2 D.g.length cc2)
   replace hB := hB.setCell (p := ⟨w.heap.size, 14, none⟩) (Nat.le_refl _) (.slice C2 D.g.length cc2)
   have hst := d_only_set (World.grownBy.refl wb (some w.heap.size)) 14 (.slice C2 D.g.length cc2)
   replace hBx := hBx.grown hst (fun g e => by injection e with e; subst e; exact fun h => h.1 rfl)
   replace hM2 := hM2.grown hst (fun g e => by injection e with e; subst e; exact fun h => h.1 rfl)
   replace hC2 := hC2.grown hst (fun g e => by injection e with e; subst e; exact fun h => h.1 rfl)
   generalize World.setCell wb _ _ = wbs at *
   clear hst
   have hcx := (show _ = some ((.slice D.A D.l.length D.c) : Value) from k1.cell 28)
   have hl1 := k1.lt
   have hl2' := k2.lt
   go_wp2_with fail
   refine (s32clone_any D.A D.c D.l _ (RdB.grows h.l hB).1 (by omega)).mono ?_
   rintro e wc ⟨⟨v, rfl, hown⟩, hq⟩
   clear hcx
   obtain ⟨A2, ac2, rfl, hA2, hA2⟩ := own_rd hown (Q := (fun k => k ≠ w.heap.size ∧ k ≠ n2 ∧ (bz k = 0 ∨ w.heap.size ≤ k))) (fun k hk => by omega)
   replace k1 := k1.grows hq
   replace k2 := k2.grows hq
   replace hB := below_grows hB (by omega) hq
   replace hBx := hBx.grows hq
   replace hM2 := hM2.grows hq
   replace hC2 := hC2.grows hq
   clear hq hown
   have hfx := k1.frozen 28
   have hcx := k1.cell 28
   go_upto_region 18 with fail
   clear hfx hcx
   replace k1 : Blk _ w.heap.size 51 (dvA { D with BA := some ⟨G, 0, none⟩, bc := cap, MA := M2, mc := mc2, CA := C2, cc := cc2, A := A2, c := ac2 }) := k1.set_ 28 (.slice A2 D.l.length ac2)
   replace k2 := k2.far (p := ⟨w.heap.size, 28, none⟩) (by simp only; omega) (.slice A2 D.l.length ac2)
   replace hB := hB.setCell (p := ⟨w.heap.size, 28, none⟩) (Nat.le_refl _) (.slice A2 D.l.length ac2)
   have hst := d_only_set (World.grownBy.refl wc (some w.heap.size)) 28 (.slice A2 D.l.length ac2)
   replace hBx := hBx.grown hst (fun g e => by injection e with e; subst e; exact fun h => h.1 rfl)
   replace hM2 := hM2.grown hst (fun g e => by injection e with e; subst e; exact fun h => h.1 rfl)
   replace hC2 := hC2.grown hst (fun g e => by injection e with e; subst e; exact fun h => h.1 rfl)
   replace hA2 := hA2.grown hst (fun g e => by injection e with e; subst e; exact fun h => h.1 rfl)
   generalize World.setCell wc _ _ = wcs at *
   clear hst
   refine wp_region_lit ?_
   refine wpList_load_row rfl _ rfl rfl k1 Tryz.underlying51 rfl (dinfo _) ?_
   refine wpList_store_row rfl _ _ rfl rfl rfl rfl k2 (dinfo _) rfl (dv_one _) ?_
   replace k2 := k2.row (cs := dvA { D with BA := some ⟨G, 0, none⟩, bc := cap, MA := M2, mc := mc2, CA := C2, cc := cc2, A := A2, c := ac2 })
   replace hB := below_row hB (show w.heap.size ≤ n2 by omega) (dvA { D with BA := some ⟨G, 0, none⟩, bc := cap, MA := M2, mc := mc2, CA := C2, cc := cc2, A := A2, c := ac2 })
   have hst := grown_row wcs n2 (dvA { D with BA := some ⟨G, 0, none⟩, bc := cap, MA := M2, mc := mc2, CA := C2, cc := cc2, A := A2, c := ac2 })
   replace hBx := hBx.grown hst (fun g e => by injection e with e; subst e; exact fun h => h.2.1 rfl)
   replace hM2 := hM2.grown hst (fun g e => by injection e with e; subst e; exact fun h => h.2.1 rfl)
   replace hC2 := hC2.grown hst (fun g e => by injection e with e; subst e; exact fun h => h.2.1 rfl)
   replace hA2 := hA2.grown hst (fun g e => by injection e with e; subst e; exact fun h => h.2.1 rfl)
   generalize World.setRow _ _ _ = wz at *
   clear hst
   go_wp2
   refine bodyPost_ret (v := .agg (dvA { D with BA := some ⟨G, 0, none⟩, bc := cap, MA := M2, mc := mc2, CA := C2, cc := cc2, A := A2, c := ac2 })) ?_ rfl ⟨⟨{ D with BA := some ⟨G, 0, none⟩, bc := cap, MA := M2, mc := mc2, CA := C2, cc := cc2, A := A2, c := ac2 }, rfl, ⟨_, _, _, _, _, _, _, _, rfl⟩, ⟨hBx.mono (fun k hk => hk.2.2), hcap, RdB.mono hM2 (fun k hk => hk.2.2), h.ml, RdB.mono hC2 (fun k hk => hk.2.2), RdB.mono hA2 (fun k hk => hk.2.2)⟩⟩, hB⟩
   have hl := run_loadVar_row (P := Tryz.prog) wz n2 51 51 (dvA { D with BA := some ⟨G, 0, none⟩, bc := cap, MA := M2, mc := mc2, CA := C2, cc := cc2, A := A2, c := ac2 }) (0, 0) _ k2 Tryz.underlying51 rfl (dinfo _)
   unfold results
   simp only [Tryz.results50]
   simp [asAddr, Act.put, hl]
theorem own_any (D : Dv) (base : Nat → Prop) (w : World) (h : InDv w base D) (hl1 : 1 ≤ D.b.length) (hl2 : D.b.length ≤ 1000000) (ho : ∀ b ∈ D.b, OKB b) (hm1 : ∀ b ∈ D.b, 1 ≤ b.m.length) (hgl : D.g.length ≤ 1000000) (hll : D.l.length ≤ 1000000) : Calls Tryz.prog 50 #[.agg (dvA D)] w fun e w' =>
 (∃ D2 : Dv, e = .returned (.agg (dvA D2)) ∧ (∃ BA bc MA mc CA cc A c, D2 = { D with BA := BA, bc := bc, MA := MA, mc := mc, CA := CA, cc := cc, A := A, c := c }) ∧ InDv w' (fun k => base k ∨ w.heap.size ≤ k) D2) ∧ Grows w w' := by
 obtain ⟨bz, rfl⟩ : ∃ bz : Nat → Nat, base = fun k => bz k = 0 := by
  classical
  refine ⟨fun k => if base k then 0 else 1, ?_⟩
  funext k
  by_cases hb : base k <;> simp [hb]
 exact own_anyZ D bz w h hl1 hl2 ho hm1 hgl hll
end Go.Proofs.YtbfdaojffffaaaaGreat

namespace Go.Proofs.YtbfdaojffffaaaaGreat
open Go.RowKit
/-- A device with other addresses. -/
def MovDv (D D2 : Dv) : Prop := ∃ BA bc MA mc CA cc A c, D2 = { D with BA := BA, bc := bc, MA := MA, mc := mc, CA := CA, cc := cc, A := A, c := c }
theorem MovDv.ok {D D2 : Dv} (h : MovDv D D2) (ok : OkDv D) : OkDv D2 := by
 obtain ⟨BA, bc, MA, mc, CA, cc, A, c, rfl⟩ := h
 obtain ⟨h1, ⟨r1, r2, r3, r4, r5, r6⟩, h3, h4, h5, h6, h7, h8, h9, h10, h11, h12⟩ := ok
 exact ⟨h1, ⟨r1, r2, r3, r4, r5, r6⟩, h3, h4, h5, h6, h7, h8, h9, h10, h11, h12⟩
set_option maxRecDepth 100000 in
set_option maxHeartbeats 20000000 in
theorem start_any (D : Dv) (base : Nat → Prop) (w : World) (h : InDv w base D) (ok : OkDv D) (hr : D.run = false) (hm1 : ∀ b ∈ D.b, 1 ≤ b.m.length) (hll : D.l.length ≤ 1000000) : Calls Tryz.prog 56 #[.agg (dvA D), .int .i64 0] w fun e w' =>
 (∃ D2 : Dv, e = .returned (.tuple #[.agg (dvA { D2 with run := true, since := 0 }), .int .i64 0]) ∧ MovDv D D2 ∧ InDv w' (fun k => base k ∨ w.heap.size ≤ k) D2) ∧ Grows w w' := by
 replace h := h.bd
 go_enter Tryz.func56, Tryz.ntmps56
 have hB := ((Below.refl w.heap.size w).alloc (Nat.le_refl _) (Obj.cells (dvA D) 51)).alloc (by simp) (Obj.cells #[.int .u64 0, .string ⟨#[]⟩, .int .i64 0, .int .i64 0, .int .i64 0, .int .i64 0, .int .i64 0, .slice none 0 0, .int .i64 0, .int .i64 0, .slice none 0 0, .int .i64 0, .int .i64 0, .int .i64 0, .slice none 0 0, .bool false, .int .i64 0, .int .i64 0, .int .i64 0, .int .i64 0, .int .i64 0, .int .i64 0, .int .i64 0, .int .i64 0, .int .i64 0, .int .i64 0, .int .i64 0, .int .i64 0, .slice none 0 0, .int .i64 0, .int .i64 0] 51)
 have k1 := (Blk.new w 51 (dvA D)).alloc (Obj.cells #[.int .u64 0, .string ⟨#[]⟩, .int .i64 0, .int .i64 0, .int .i64 0, .int .i64 0, .int .i64 0, .slice none 0 0, .int .i64 0, .int .i64 0, .slice none 0 0, .int .i64 0, .int .i64 0, .int .i64 0, .slice none 0 0, .bool false, .int .i64 0, .int .i64 0, .int .i64 0, .int .i64 0, .int .i64 0, .int .i64 0, .int .i64 0, .int .i64 0, .int .i64 0, .int .i64 0, .int .i64 0, .int .i64 0, .slice none 0 0, .int .i64 0, .int .i64 0] 51)
 have k2 := blk_new_at (X := w.alloc (Obj.cells (dvA D) 51)) (n := w.heap.size + 1) (t := 51) (cs := #[.int .u64 0, .string ⟨#[]⟩, .int .i64 0, .int .i64 0, .int .i64 0, .int .i64 0, .int .i64 0, .slice none 0 0, .int .i64 0, .int .i64 0, .slice none 0 0, .int .i64 0, .int .i64 0, .int .i64 0, .slice none 0 0, .bool false, .int .i64 0, .int .i64 0, .int .i64 0, .int .i64 0, .int .i64 0, .int .i64 0, .int .i64 0, .int .i64 0, .int .i64 0, .int .i64 0, .int .i64 0, .int .i64 0, .slice none 0 0, .int .i64 0, .int .i64 0]) (by simp)
 go_upto_region 1 with fail
 generalize hn2 : w.heap.size + 1 = n2 at *
 generalize World.alloc (World.alloc w _) _ = w1 at *
 refine wp_region_lit ?_
 refine wpList_load_row rfl _ rfl rfl k1 Tryz.underlying51 rfl (dinfo _) ?_
 go_wp2_with fail
 refine (dv_valid D _ _ (h.grows hB) ok).mono ?_
 rintro e w2 ⟨rfl, hq⟩
 replace k1 := k1.grows hq
 replace k2 := k2.grows hq
 replace hB := below_grows hB (Nat.le_refl _) hq
 have hqs := hq.size
 clear hq
 have d1 : ¬ D.P = 0 := by have := ok.rt.P1; omega
 have x13 := (show _ = some ((.int .i64 D.P) : Value) from k1.cell 13)
 have x15 := (show _ = some ((.bool false) : Value) from (k1.cell 15).trans (by rw [← hr]; rfl))
 clear hr
 go_upto_region 9 with fail
 clear x13 x15
 have e1 := k1.lt
 have e2 := k2.lt
 refine wp_region_lit ?_
 refine wpList_load_row rfl _ rfl rfl k1 Tryz.underlying51 rfl (dinfo _) ?_
 refine wpList_plain rfl (fun K hK => ?_)
 go_simp
 refine (own_any D _ _ (h.grows hB) ok.ds.l1 (by have := ok.ds.l2; omega) ok.ds.ok hm1 (by have := ok.g.le; omega) hll).mono ?_
 rintro e w3 ⟨⟨D2, rfl, hmv, hin⟩, hq⟩
 refine hK _ _ ?_
 clear hK K
 replace hmv : MovDv D D2 := hmv
 replace k1 := k1.grows hq
 replace k2 := k2.grows hq
 replace hB := below_grows hB (Nat.le_refl _) hq
 have hqs := hq.size
 clear hq
 generalize w2.heap.size = s2 at *
 replace hin := hin.mono (b2 := fun k => k ≠ w.heap.size ∧ k ≠ n2 ∧ (base k ∨ w.heap.size ≤ k)) (fun k hk => by
  rcases hk with hk | hk
  ·have := hk.2; exact ⟨by omega, by omega, .inl hk.1⟩
  ·exact ⟨by omega, by omega, .inr (by omega)⟩)
 refine wpList_store_row rfl _ _ rfl rfl rfl rfl k1 (dinfo _) rfl (dv_one _) ?_
 replace k1 := k1.row (cs := dvA D2)
 replace k2 := k2.row_far (cs' := dvA D2) (show n2 ≠ w.heap.size by omega)
 replace hB := below_row hB (Nat.le_refl _) (dvA D2)
 replace hin := hin.grown (grown_row w3 w.heap.size (dvA D2)) (fun g e => by injection e with e; subst e; exact fun h => h.1 rfl)
 generalize World.setRow _ _ _ = w4 at *
 go_upto_region 10 with fail
 have hx5 := k1.cell 15
 have hf5 := k1.frozen 15
 have hx6 := k1.cell 16
 have hf6 := k1.frozen 16
 go_upto_region 11 with fail
 clear hx5 hf5 hx6 hf6
 replace k1 : Blk _ w.heap.size 51 (dvA { D2 with run := true, since := 0 }) := (k1.set_ 15 (.bool true)).set_ 16 (.int .i64 0)
 replace k2 := (k2.far (p := ⟨w.heap.size, 15, none⟩) (by simp only; omega) (.bool true)).far (p := ⟨w.heap.size, 16, none⟩) (by simp only; omega) (.int .i64 0)
 replace hB := (hB.setCell (p := ⟨w.heap.size, 15, none⟩) (Nat.le_refl _) (.bool true)).setCell (p := ⟨w.heap.size, 16, none⟩) (Nat.le_refl _) (.int .i64 0)
 have hst := d_only_set (d_only_set (World.grownBy.refl w4 (some w.heap.size)) 15 (.bool true)) 16 (.int .i64 0)
 replace hin := hin.grown hst (fun g e => by injection e with e; subst e; exact fun h => h.1 rfl)
 generalize World.setCell (World.setCell w4 _ _) _ _ = w5 at *
 clear hst
 refine wp_region_lit ?_
 refine wpList_load_row rfl _ rfl rfl k1 Tryz.underlying51 rfl (dinfo _) ?_
 refine wpList_store_row rfl _ _ rfl rfl rfl rfl k2 (dinfo _) rfl (dv_one _) ?_
 replace k2 := k2.row (cs := dvA { D2 with run := true, since := 0 })
 replace hB := below_row hB (show w.heap.size ≤ n2 by omega) (dvA { D2 with run := true, since := 0 })
 replace hin := hin.grown (grown_row w5 n2 (dvA { D2 with run := true, since := 0 })) (fun g e => by injection e with e; subst e; exact fun h => h.2.1 rfl)
 generalize World.setRow _ _ _ = wz at *
 go_wp2
 refine bodyPost_ret (v := .tuple #[.agg (dvA { D2 with run := true, since := 0 }), .int .i64 0]) ?_ rfl ⟨⟨D2, rfl, hmv, hin.mono (fun k hk => hk.2.2)⟩, hB⟩
 have hl := run_loadVar_row (P := Tryz.prog) wz n2 51 51 (dvA { D2 with run := true, since := 0 }) (0, 0) _ k2 Tryz.underlying51 rfl (dinfo _)
 unfold results
 simp only [Tryz.results56]
 simp [asAddr, Act.put, hl]
end Go.Proofs.YtbfdaojffffaaaaGreat

namespace Go.Proofs.YtbfdaojffffaaaaGreat
open Go.RowKit
section
variable {P : Program} {ops : Array Oper} {S : Ran → (Nat → Value) → World → Prop} {md : Region.Mode}
def mixU (md : Region.Mode) (ops : Array Oper) (N : Nat) : Bool :=
 Region.noSelect ops &&
 (List.range ops.size).all (fun i => match ops[i]? with
   | none => false
   | some o => (match o.dst with | none => true | some t => decide (t < N)) && o.after.all (fun e => !Region.binds md e || decide (e.on < i)) &&
    (List.range ops.size).all (fun k => (k == i || match o.dst with | none => true | some t => !((ops[k]?).bind (·.dst) == some t)) &&
      (match (ops[k]?).bind (·.dst) with
       | none => true
       | some t => !(o.looksAt ops).contains t || (decide (k < i) && Region.waitsFor md ops i k) || (decide (i < k) && Region.waitsFor md ops k i))))
structure MixU (md : Region.Mode) (ops : Array Oper) (N : Nat) : Prop where
 sel : Region.noSelect ops = true
 bd : ∀ i o t, i < ops.size → ops[i]? = some o → o.dst = some t → t < N
 back : ∀ i o, i < ops.size → ops[i]? = some o → ∀ e ∈ o.after, Region.binds md e = true → e.on < i
 ne : ∀ i o k o' t, i < ops.size → k < ops.size → ops[i]? = some o → ops[k]? = some o' → k ≠ i → o.dst = some t → o'.dst ≠ some t
 look : ∀ i o k o' t, i < ops.size → k < ops.size → ops[i]? = some o → ops[k]? = some o' → o'.dst = some t → t ∈ o.looksAt ops → (k < i ∧ Region.waitsFor md ops i k = true) ∨ (i < k ∧ Region.waitsFor md ops k i = true)
set_option maxRecDepth 100000 in
theorem mixU_of {N : Nat} (h : mixU md ops N = true) : MixU md ops N := by
 simp only [mixU, Bool.and_eq_true, List.all_eq_true, List.mem_range] at h
 obtain ⟨h1, h7⟩ := h
 have H : ∀ i o, i < ops.size → ops[i]? = some o → _ := fun i o hi ho => by
  have := h7 i hi
  rw [ho] at this
  exact this
 refine ⟨h1, ?_, ?_, ?_, ?_⟩
 ·intro i o t hi ho hd
  have := (H i o hi ho)
  simp only [Bool.and_eq_true, hd, decide_eq_true_eq] at this
  exact this.1.1
 ·intro i o hi ho e he hb
  have := (H i o hi ho)
  simp only [Bool.and_eq_true] at this
  have h8 := Array.all_eq_true_iff_forall_mem.1 this.1.2 e he
  simpa [hb] using h8
 ·intro i o k o' t hi hk ho ho' hne hd
  have := (H i o hi ho)
  simp only [Bool.and_eq_true, List.all_eq_true, List.mem_range] at this
  have h8 := (this.2 k hk).1
  simp only [ho', Option.bind_some, hd, Bool.or_eq_true, beq_iff_eq, hne, false_or, Bool.not_eq_true', beq_eq_false_iff_ne] at h8
  exact h8
 ·intro i o k o' t hi hk ho ho' hd ht
  have := (H i o hi ho)
  simp only [Bool.and_eq_true, List.all_eq_true, List.mem_range] at this
  have h8 := (this.2 k hk).2
  have hc : (o.looksAt ops).contains t = true := by simpa using ht
  simp only [ho', Option.bind_some, hd, hc, Bool.not_true, Bool.false_or, Bool.or_eq_true, Bool.and_eq_true, decide_eq_true_eq] at h8
  exact h8
variable {N : Nat} {a0 : Act}
set_option maxRecDepth 100000 in
theorem genu_agree (ok : MixU md ops N) (hN : a0.tmps.size = N) {vs : Nat → Value} {listed : Array Bool} {a : Act} {w : World} (hinv : HeadInv md ops ops.size listed) (inv : InvG S ops vs a0 listed a w) {i : Nat} {o : Oper} (ho : ops[i]? = some o) (hr : i ∈ Region.ready md ops listed) :
 ∀ t ∈ o.looksAt ops, (fin [] vs (ops.toList.take i) 0 a0).tmps[t]? = a.tmps[t]? := by
 intro t ht
 have hi := lt_of_get ho
 by_cases hex : ∃ (k : Nat) (o' : Oper), ops[k]? = some o' ∧ o'.dst = some t
 ·obtain ⟨k, o', ho', hd⟩ := hex
  have hk := lt_of_get ho'
  rcases ok.look i o k o' t hi hk ho ho' hd ht with ⟨h1, h3⟩ | ⟨h1, h3⟩
  ·have hlisted : listed.getD k false = true := by
    obtain ⟨oj, hoj, e, he, hb, hon⟩ := Region.waitsFor_spec h3
    obtain ⟨_, oi, hoi, hall⟩ := mem_ready.1 hr
    have : oj = oi := Option.some.inj (hoj.symm.trans hoi)
    subst this
    have := hall e he hb
    rwa [hon] at this
   have e1 := inv.calm k o' t ho' hd hlisted
   have hlt : t < a0.tmps.size := by rw [hN]; exact ok.bd k o' t hk ho' hd
   have e2 := fin_at (fl := []) (val := vs) (ops.toList.take i) 0 a0 k o' (take_get h1 ho') hd rfl hlt (by
    intro j oj hj hne hdj
    obtain ⟨hji, hoj⟩ := of_take_get hj
    exact ok.ne j oj k o' t (by omega) hk hoj ho' (Ne.symm hne) hdj hd)
   rw [Nat.zero_add] at e2
   rw [e1, e2]
  ·have hun : listed.getD k false = false := by
    cases hlk : listed.getD k false
    ·rfl
    ·obtain ⟨oj, hoj, e, he, hb, hon⟩ := Region.waitsFor_spec h3
     have : oj = o' := Option.some.inj (hoj.symm.trans ho')
     subst this
     have h4 := hinv.closed k oj ho' hlk e he hb
     obtain ⟨h5, _⟩ := mem_ready.1 hr
     rw [hon] at h4
     rw [getD_both h5] at h4
     cases h4
   have only : ∀ (j : Nat) (oj : Oper), ops[j]? = some oj → oj.dst = some t → j = k := fun j oj hoj hdj => by
    apply Classical.byContradiction
    intro hne
    exact ok.ne j oj k o' t (lt_of_get hoj) hk hoj ho' (Ne.symm hne) hdj hd
   have e1 := inv.other t fun j oj hoj hlj hdj => by
    have := only j oj hoj hdj
    subst this
    rw [hun] at hlj
    cases hlj
   have e2 := fin_other (fl := []) (val := vs) (ops.toList.take i) 0 a0 fun j oj hj _ hdj => by
    obtain ⟨hji, hoj⟩ := of_take_get hj
    have := only j oj hoj hdj
    omega
   rw [e1, e2]
 ·have e1 := inv.other t fun k o' ho' _ hd => hex ⟨k, o', ho', hd⟩
  have e2 := fin_other (fl := []) (val := vs) (ops.toList.take i) 0 a0 fun j oj hj _ hd => by
   obtain ⟨_, hoj⟩ := of_take_get hj
   exact hex ⟨j, oj, hoj, hd⟩
  rw [e1, e2]
set_option maxRecDepth 100000 in
theorem inv_stepU (ok : MixU md ops N) (hN : a0.tmps.size = N) {vs : Nat → Value} {listed : Array Bool} {a : Act} {w w' : World} (inv : InvG S ops vs a0 listed a w) {i : Nat} {o : Oper} (ho : ops[i]? = some o) (hl : i < listed.size) {u : Value}
 (hs : S (ranOf (listed.setIfInBounds i true)) (setV vs i u) w') : InvG S ops (setV vs i u) a0 (listed.setIfInBounds i true) (a.put o.dst u) w' := by
 have hi := lt_of_get ho
 have key : ∀ k o' t, ops[k]? = some o' → o'.dst = some t → k ≠ i → (a.put o.dst u).tmps[t]? = a.tmps[t]? := by
  intro k o' t ho' hd hne
  exact put_get_ne fun e => ok.ne i o k o' t hi (lt_of_get ho') ho ho' hne e hd
 refine ⟨hs, (put_defers' _ _ _).trans inv.defers, (put_size _ _ _).trans inv.size, ?_, ?_⟩
 ·intro k o' t ho' hd hlk
  by_cases hki : k = i
  ·subst hki
   have : o' = o := Option.some.inj (ho'.symm.trans ho)
   subst this
   rw [hd, put_get_eq (by rw [inv.size, hN]; exact ok.bd k o' t hi ho' hd)]
   simp [setV]
  ·rw [key k o' t ho' hd hki, inv.calm k o' t ho' hd (by rwa [getD_set_ne false (Ne.symm hki)] at hlk)]
   simp [setV, hki]
 ·intro t ht
  have h1 : o.dst ≠ some t := ht i o ho (by simp [hl])
  rw [put_get_ne h1]
  exact inv.other t fun k o' ho' hlk => ht k o' ho' (getD_set_true hlk)
set_option maxRecDepth 100000 in
theorem genu_run {Q : Exit → Act → World → Prop} (ok : MixU md ops N) (hN : a0.tmps.size = N)
 (good : ∀ k o, ops[k]? = some o → ∀ vs L w, At md ops k L → S L vs w → GenOp P ops S k o (fin [] vs (ops.toList.take k) 0 a0) vs L w)
 (H : ∀ listed a w vs, (∀ i, i < ops.size → listed.getD i false = true) → InvG S ops vs a0 listed a w → Q .normal a w) :
 ∀ (f : Nat) (listed : Array Bool) (a : Act) (w : World) (vs : Nat → Value), ((List.range ops.size).countP fun i => !listed.getD i false) ≤ f → HeadInv md ops ops.size listed → InvG S ops vs a0 listed a w →
  wpAny P md ops Q f listed a w := by
 have done : ∀ listed : Array Bool, (∀ i, i < ops.size → listed.getD i false = true) → Region.ready md ops listed = [] := by
  intro listed hall
  rw [List.eq_nil_iff_forall_not_mem]
  intro i hi
  obtain ⟨h1, o, ho, _⟩ := mem_ready.1 hi
  have := hall i (lt_of_get ho)
  rw [getD_both h1] at this
  cases this
 intro f
 induction f with
 | zero =>
  intro listed a w vs hc hinv inv
  have hall : ∀ i, i < ops.size → listed.getD i false = true := fun i hi => by
   have h0 : ((List.range ops.size).countP fun i => !listed.getD i false) = 0 := by omega
   rw [List.countP_eq_zero] at h0
   have := h0 i (List.mem_range.2 hi)
   simpa using this
  exact ⟨done listed hall, H listed a w vs hall inv⟩
 | succ f ih =>
  intro listed a w vs hc hinv inv
  by_cases hall : ∀ i, i < ops.size → listed.getD i false = true
  ·exact ⟨fun _ => H listed a w vs hall inv, fun i hi => by rw [done listed hall] at hi; cases hi⟩
  ·have hex : ∃ i, i < ops.size ∧ listed.getD i false = false := by
    apply Classical.byContradiction
    intro hno
    exact hall fun i hi => by
     cases h : listed.getD i false
     ·exact absurd ⟨i, hi, h⟩ hno
     ·rfl
   obtain ⟨i0, hi0, hl0⟩ := hex
   have hsz : ∀ i, i < ops.size → i < listed.size := fun i hi => by rw [hinv.size]; exact hi
   have hready : Region.ready md ops listed ≠ [] := by
    have : ∀ d i, i ≤ d → i < ops.size → listed.getD i false = false → ∃ j, j ∈ Region.ready md ops listed := by
     intro d
     induction d with
     | zero =>
      intro i hid hi hl
      obtain ⟨o, ho⟩ : ∃ o, ops[i]? = some o := ⟨ops[i], by simp [hi]⟩
      refine ⟨i, mem_ready.2 ⟨getD_in (hsz i hi) hl, o, ho, fun e he hb => ?_⟩⟩
      have := ok.back i o hi ho e he hb
      omega
     | succ d ihd =>
      intro i hid hi hl
      obtain ⟨o, ho⟩ : ∃ o, ops[i]? = some o := ⟨ops[i], by simp [hi]⟩
      by_cases hw : ∀ e ∈ o.after, Region.binds md e = true → listed.getD e.on false = true
      ·exact ⟨i, mem_ready.2 ⟨getD_in (hsz i hi) hl, o, ho, hw⟩⟩
      ·have : ∃ e ∈ o.after, Region.binds md e = true ∧ listed.getD e.on false = false := by
        apply Classical.byContradiction
        intro hno
        exact hw fun e he hb => by
         cases h : listed.getD e.on false
         ·exact absurd ⟨e, he, hb, h⟩ hno
         ·rfl
       obtain ⟨e, he, hb, hle⟩ := this
       have hlt := ok.back i o hi ho e he hb
       exact ihd e.on (by omega) (by omega) hle
    obtain ⟨j, hj⟩ := this i0 i0 (Nat.le_refl _) hi0 hl0
    intro h0
    rw [h0] at hj
    cases hj
   refine ⟨fun h0 => absurd h0 hready, fun i hir => ?_⟩
   obtain ⟨hun, o, ho, hwaits⟩ := mem_ready.1 hir
   have hin := lt_of_get ho
   have hunf : listed.getD i false = false := getD_both hun
   have hcnt : ((List.range ops.size).countP fun j => !(listed.setIfInBounds i true).getD j false) ≤ f := by
    have := countP_lt (p := fun j => !listed.getD j false) (q := fun j => !(listed.setIfInBounds i true).getD j false) (List.range ops.size) (List.mem_range.2 hin)
     (fun j _ hj => by
       simp only [Bool.not_eq_true'] at hj ⊢
       cases h : listed.getD j false
       ·rfl
       ·rw [getD_set_true h] at hj; cases hj) (by simp only [hunf, Bool.not_false]) (by simp [hsz i hin])
    omega
   have hinv' := hinv.set hir hin
   have hat : At md ops i (ranOf listed) := ⟨hunf, needs_ran hinv _ i o ho hwaits⟩
   have hag := genu_agree ok hN hinv inv ho hir
   have hg := good i o ho vs (ranOf listed) w hat inv.s
   have hs : ∀ cs b, o.op ≠ .select cs b := fun cs b => Region.noSelect_spec ok.sel i o cs b ho
   unfold GenOp at hg
   rw [run_agree (ops := ops) hs hag, wanted_agree hag] at hg
   refine gen_wpOp ho hg fun u w' hs' => ih _ _ _ _ hcnt hinv' (inv_stepU ok hN inv ho (hsz i hin) ?_)
   rw [ranOf_set (hsz i hin)]
   exact hs'
end
set_option maxRecDepth 100000 in
theorem wp_region_genU0 {P : Program} {id : Nat} {Q : Exit → Act → World → Prop} {a : Act} {w : World} {l : List Oper} (S : Ran → (Nat → Value) → World → Prop) (N : Nat) (hm : P.follows .mixedOrders = true) (hB : mixU .any l.toArray N = true)
 (hN : a.tmps.size = N) (h0 : S (fun _ => false) (fun _ => undef) w.drew)
 (good : ∀ k o, l[k]? = some o → ∀ vs L w, At .any l.toArray k L → S L vs w → GenOp P l.toArray S k o (fin [] vs (l.take k) 0 a) vs L w)
 (h : ∀ vs L w', (∀ k, k < l.length → L k = true) → S L vs w' → Q .normal (fin [] vs l 0 a) w') : (Code.region id l.toArray true).wp P Q a w := by
 have ok := mixU_of hB
 have ok' : MixU .any l.toArray N := by simpa using ok
 refine wp_region_any hm ?_
 have inv0 : HeadInv .any l.toArray l.toArray.size (Array.replicate l.toArray.size false) :=
  ⟨by simp, fun j oj _ hl => (by rw [getD_replicate_false] at hl; cases hl), fun t ht ht' => by omega⟩
 refine genu_run (md := .any) (Q := Q) (ops := l.toArray) (S := S) (a0 := a) ok' hN (by simpa using good) ?_ l.toArray.size (Array.replicate l.toArray.size false) a w.drew (fun _ => undef) ?_ inv0 ?_
 ·intro listed a' w' vs hall inv
  have he : a' = fin [] vs l 0 a := by
   refine act_ext (inv.defers.trans (fin_defers _ _ _).symm) (inv.size.trans (fin_size _ _ _).symm) fun t => ?_
   by_cases hex : ∃ (k : Nat) (o' : Oper), l.toArray[k]? = some o' ∧ o'.dst = some t
   ·obtain ⟨k, o', ho', hd⟩ := hex
    have hk := lt_of_get ho'
    have e1 := inv.calm k o' t ho' hd (hall k hk)
    have e2 := fin_at (fl := []) (val := vs) l 0 a k o' (by simpa using ho') hd rfl (by rw [hN]; exact ok'.bd k o' t hk ho' hd) (by
     intro j oj hj hne hdj
     exact ok'.ne j oj k o' t (lt_of_get (ops := l.toArray) (by simpa using hj)) hk (by simpa using hj) ho' (Ne.symm hne) hdj hd)
    rw [Nat.zero_add] at e2
    rw [e1, e2]
   ·have e1 := inv.other t fun k o' ho' _ hd => hex ⟨k, o', ho', hd⟩
    have e2 := fin_other (fl := []) (val := vs) (t := t) l 0 a fun j oj hj _ hd => hex ⟨j, oj, by simpa using hj, hd⟩
    rw [e1, e2]
  rw [he]
  exact h vs (ranOf listed) w' (fun k hk => hall k (by simpa using hk)) inv.s
 ·have := List.countP_le_length (p := fun i => !(Array.replicate l.toArray.size false).getD i false) (l := List.range l.toArray.size)
  simpa using this
 ·exact ⟨by rw [show ranOf (Array.replicate l.toArray.size false) = fun _ => false from funext fun k => getD_replicate_false _ _]; exact h0, rfl, rfl, fun k o t _ _ hl => (by rw [getD_replicate_false] at hl; cases hl), fun t _ => rfl⟩
set_option maxRecDepth 100000 in
theorem wp_region_genU {P : Program} {id : Nat} {Q : Exit → Act → World → Prop} {a : Act} {w : World} {l : List Oper} (S : Ran → (Nat → Value) → World → Prop) (N : Nat) (hm : P.follows .mixedOrders = true) (hB : mixU .any l.toArray N = true)
 (hN : a.tmps.size = N) (h0 : S (fun _ => false) (fun _ => undef) w.drew) (h : GenW P l S (Q .normal) l 0 (fun _ => a)) : (Code.region id l.toArray true).wp P Q a w := by
 obtain ⟨h1, h2⟩ := genW_out l 0 _ h
 refine wp_region_genU0 S N hm hB hN h0 (fun k o hk vs L w' hL hS => ?_) h2
 have := h1 k o hk vs L w'
 rw [Nat.zero_add] at this
 exact this hL hS
end Go.Proofs.YtbfdaojffffaaaaGreat

namespace Go.Proofs.YtbfdaojffffaaaaGreat
open Go.RowKit
theorem upd_ne {L : Ran} {i k : Nat} {b : Bool} (h : upd L k i = b) (hne : i ≠ k) : L i = b := by
 unfold upd at h
 rwa [if_neg hne] at h
theorem upd_eq {L : Ran} {k : Nat} : upd L k k = true := if_pos rfl
theorem gr_ldrow {P : Program} {o : Oper} {ev : Operand → Value} {w : World} {g : Nat} {t ty : TypeId} {cs : Array Value} {d : TypeDesc} {T : Value → World → Prop} (p : Operand) (ho : o.op = .load ty p) (hp : ev p = .pointer (some ⟨g, 0, none⟩)) (hb : Blk w g t cs)
 (hu : P.underlying ty = some d) (hd : (match d with | .struct _ | .array _ _ => true | _ => false) = true) (hi : (P.info? ty).map (·.size) = some cs.size) (h : T (.agg cs) w) :
 genR P T ((execOp ev o).run P w) := by
 have hl := run_loadVar_row (P := P) w g t ty cs (0, 0) d hb hu hd hi
 unfold execOp
 simp only [ho, Instr.loadAt, Instr.sureAddr, Sem.run_bind, Sem.run_pure, Result.andThen_ok, hp, hl]
 exact gr_val h
theorem gr_strow {P : Program} {o : Oper} {ev : Operand → Value} {w : World} {g : Nat} {t ty : TypeId} {cs old : Array Value} {T : Value → World → Prop} (p v : Operand) (ho : o.op = .store ty p v) (hp : ev p = .pointer (some ⟨g, 0, none⟩)) (hv : ev v = .agg cs) (hb : Blk w g t old)
 (hi : (P.info? ty).map (·.size) = some cs.size) (hs : old.size = cs.size) (h1 : cs.all (·.oneCell') = true) (h : T undef (w.setRow g cs)) :
 genR P T ((execOp ev o).run P w) := by
 have hl := run_storeVar_row (P := P) w g t ty old cs hb hi hs h1
 unfold execOp
 simp only [ho, Instr.storeAt, Instr.sureAddr, Sem.run_bind, Sem.run_pure, Result.andThen_ok, hp, hv, hl]
 exact gr_skip h
theorem gr_stmid {P : Program} {o : Oper} {ev : Operand → Value} {w : World} {ty : TypeId} {cells : Array Value} {T : Value → World → Prop} (p v : Operand) (ho : o.op = .store ty p v) (b q : Nat) (hp : ev p = .pointer (some ⟨b, q, none⟩)) (hv : ev v = .agg cells)
 (ht : w.there b q cells.size) (hi : (P.info? ty).map (·.size) = some cells.size) (h1 : cells.all (·.oneCell') = true) (h : T undef (w.setCells b q cells.toList)) : genR P T ((execOp ev o).run P w) := by
 unfold execOp
 simp only [ho, hp, hv, Instr.storeAt, Instr.sureAddr, Sem.run_bind, Sem.run_pure, Result.andThen_ok, run_storeVar_mid w b q ty cells ht hi h1]
 exact gr_skip h
end Go.Proofs.YtbfdaojffffaaaaGreat

namespace Go.Proofs.YtbfdaojffffaaaaGreat
open Go.RowKit
theorem RdB.row {w : World} {base : Nat → Prop} {size n g : Nat} {A : Option Addr} {xs : List Value} (h : RdB w base size A n xs) (hg : ¬ base g) (cs : Array Value) : RdB (w.setRow g cs) base size A n xs := RdB.grown h (grown_row w g cs) (fun q e => by injection e with e; subst e; exact hg)
theorem RdB.drew {w : World} {base : Nat → Prop} {size n : Nat} {A : Option Addr} {xs : List Value} (h : RdB w base size A n xs) : RdB w.drew base size A n xs := RdB.grows h (Grows.drew' w)
theorem InDv.row {w : World} {base : Nat → Prop} {D : Dv} {g : Nat} (h : InDv w base D) (hg : ¬ base g) (cs : Array Value) : InDv (w.setRow g cs) base D := h.grown (grown_row w g cs) (fun q e => by injection e with e; subst e; exact hg)
theorem InDv.drew {w : World} {base : Nat → Prop} {D : Dv} (h : InDv w base D) : InDv w.drew base D := h.grows (Grows.drew' w)
/-- A row, partly written. -/
def ovR : Array Value → Nat → List Value → Array Value
 | cs, _, [] => cs
 | cs, o, v :: r => ovR (cs.setIfInBounds o v) (o + 1) r
theorem blk_setCells {g : Nat} {t : TypeId} : ∀ (vs : List Value) (o : Nat) (w : World) (cs : Array Value), Blk w g t cs → Blk (w.setCells g o vs) g t (ovR cs o vs)
 | [], _, _, _, h => h
 | v :: r, o, w, cs, h => by
  rw [World.setCells]
  exact blk_setCells r (o + 1) _ _ (h.set_ o v)
theorem grown_setCells {a : World} {g : Nat} : ∀ (vs : List Value) (o : Nat) (w : World), a.grownBy w (some g) → a.grownBy (w.setCells g o vs) (some g)
 | [], _, _, h => h
 | v :: r, o, w, h => by
  rw [World.setCells]
  exact grown_setCells r (o + 1) _ (d_only_set h o v)
theorem Blk.part {w : World} {g : Nat} {t : TypeId} {cs part : Array Value} (h : Blk w g t cs) {o : Nat} (hp : ∀ (j : Nat) v, part[j]? = some v → cs[o + j]? = some v) : ∀ (j : Nat) v, part[j]? = some v → w.cell? ((⟨g, o, none⟩ : Addr).add j) = some v := fun j v hv => by
 rw [Addr.add_mid, h.cell]
 exact hp j v hv
theorem Blk.there_ {w : World} {g : Nat} {t : TypeId} {cs : Array Value} (h : Blk w g t cs) {o n : Nat} (hn : o + n ≤ cs.size) : w.there g o n := fun j hj => by
 rw [h.cell, h.frozen]
 have : o + j < cs.size := by omega
 simp [this]
/-- The bridge of a device. -/
def brA (D : Dv) : Array Value := #[.int .i64 (D.cap : Int), .int .i64 D.T, .int .i64 D.dd, .int .i64 D.G, .int .i64 D.M, .int .i64 (D.ch : Int), .int .i64 D.n, .int .i64 D.d, .int .i64 D.a, .int .i64 D.p, .int .i64 D.f, .slice D.A D.l.length D.c, .int .i64 0, .int .i64 0]
theorem dv_over (D : Dv) (a p f : Int) (A : Option Addr) (l : List Int) (c : Nat) : ovR (dvA D) 17 (brA { D with a := a, p := p, f := f, A := A, l := l, c := c }).toList = dvA { D with a := a, p := p, f := f, A := A, l := l, c := c } := by
 simp [ovR, dvA, brA]
theorem br_one (D : Dv) : (brA D).all (·.oneCell') = true := by simp [brA, Value.oneCell']
theorem br_part (D : Dv) : ∀ (j : Nat) v, (brA D)[j]? = some v → (dvA D)[17 + j]? = some v := by
 intro j v h
 have hj : j < 14 := (Array.getElem?_eq_some_iff.1 h).1
 match j, hj with
 | 0, _ => exact h
 | 1, _ => exact h
 | 2, _ => exact h
 | 3, _ => exact h
 | 4, _ => exact h
 | 5, _ => exact h
 | 6, _ => exact h
 | 7, _ => exact h
 | 8, _ => exact h
 | 9, _ => exact h
 | 10, _ => exact h
 | 11, _ => exact h
 | 12, _ => exact h
 | 13, _ => exact h
theorem OwnS.some_ {w : World} {base n c : Nat} {A : Option Addr} {l : List Int} (h : OwnS w base (.slice A n c) l) (hl : 0 < l.length) : ∃ ad, A = some ad := by
 rcases h.2 with ⟨e, e0⟩ | ⟨g, cap, cur, e, hg, hh, hn, hx, hs, ht⟩
 ·omega
 ·injection e with e1
  exact ⟨_, e1⟩
/-- Samples in blocks that are allowed. -/
def SaB (w : World) (base : Nat → Prop) (A : Option Addr) (l : List Int) : Prop := RdB w base 1 A l.length (l.map (Value.int .i32))
theorem SaB.of_own {w : World} {base n c : Nat} {A : Option Addr} {l : List Int} (h : OwnS w base (.slice A n c) l) {Q : Nat → Prop} (hQ : ∀ k, base ≤ k → Q k) : SaB w Q A l := by
 obtain ⟨A2, c2, e, -, hr⟩ := own_rd h hQ
 injection e with e1 e2 e3
 subst e1
 exact hr
set_option maxRecDepth 100000 in
set_option maxHeartbeats 60000000 in
theorem move_any (D : Dv) (base : Nat → Prop) (S : Addr) (sc fr fr' m : Nat) (x L : List Int) (aj : Int) (w : World) (h : InDv w base D) (ok : OkDv D) (hm1 : ∀ b ∈ D.b, 1 ≤ b.m.length) (hb : BlkOk D.ch fr D.l) (hf : fr + fr' ≤ D.cap) (hx : BlkOk D.ch fr' x) (hS : Sams w (some S) x) (hx0 : 0 < x.length) (hxc : x.length ≤ sc) (hL : D.l ++ x = L)
 (haj : adjF D.T D.dd D.G D.M ((fr + fr' : Nat) : Int) = aj) (hm : m ≤ 65536) (hn : needF D.n D.d aj D.f m ≤ ((fr + fr' : Nat) : Int)) (hpos : D.p + posF D.n D.d aj D.f m ≤ 1125899906842624) :
 Calls Tryz.prog 51 #[.agg (dvA D), .agg #[.int .i64 (D.ch : Int), .slice (some S) x.length sc], .int .i64 (m : Int)] w fun e w' => (∃ B b D2 A2 c2, e = .returned (.tuple #[.agg #[.int .i64 (D.ch : Int), .slice B (m * D.ch) b], .int .i64 0, .int .i64 0, .agg (dvA { D2 with a := aj, p := D.p + posF D.n D.d aj D.f m, f := fracF D.n D.d aj D.f m, A := A2, l := L.drop (posF D.n D.d aj D.f m * D.ch), c := c2 }), .int .i64 0]) ∧ MovDv D D2 ∧ SaB w' (fun k => w.heap.size ≤ k) B (outL D.ch L D.n D.d aj D.f m) ∧ m * D.ch ≤ b ∧
  InDv w' (fun k => base k ∨ w.heap.size ≤ k) { D2 with a := aj, p := D.p + posF D.n D.d aj D.f m, f := fracF D.n D.d aj D.f m, A := A2, l := L.drop (posF D.n D.d aj D.f m * D.ch), c := c2 }) ∧ Grows w w' := by
 have hll : D.l.length ≤ 1000000 := by have := hb.le; omega
 have hbL : BlkOk D.ch (fr + fr') L := by rw [← hL]; exact hb.app hx (by have := ok.cap.2; omega)
 have hL0 : 0 < L.length := by rw [← hL, List.length_append]; omega
 have hpu := fun w1 (hg : Grows w w1) => bpush_any D.A D.c sc S w1 ok.ct ok.ph hb (RdB.grows h.l hg).1 ok.cap.1 ok.cap.2 hf hx (hS.grows hg) hx0 hxc
 rw [hL] at hpu
 have hpl := fun ad c w1 h1 h2 => bpull_any ad c w1 ok.ct ok.ph hbL h1 h2 ok.cap.1 ok.cap.2 hf haj hm hn hpos
 have how := fun w1 (hg : Grows w w1) => own_any D _ w1 (h.bd.grows hg) ok.ds.l1 (by have := ok.ds.l2; omega) ok.ds.ok hm1 (by have := ok.g.le; omega) hll
 have hmch : (outL D.ch L D.n D.d aj D.f m).length = m * D.ch := outL_len _ _ _ _ _ _ _
 generalize posF D.n D.d aj D.f m = t at *
 generalize fracF D.n D.d aj D.f m = f2 at *
 generalize outL D.ch L D.n D.d aj D.f m = O at *
 have hlen : L.length - t * D.ch = (L.drop (t * D.ch)).length := List.length_drop.symm
 rw [hlen] at hpl
 generalize L.drop (t * D.ch) = L2 at *
 clear hlen hbL hb hx hS haj hn hpos hm hf h hL
 go_enter Tryz.func51, Tryz.ntmps51
 have hB := ((((Below.refl w.heap.size w).alloc (Nat.le_refl _) (Obj.cells (dvA D) 51)).alloc (by simp <;> omega) (Obj.cells #[.int .i64 (D.ch : Int), .slice (some S) x.length sc] 60)).alloc (by simp <;> omega) (Obj.cells #[.int .i64 0, .slice none 0 0] 60)).alloc (by simp <;> omega) (Obj.cells #[.int .u64 0, .string ⟨#[]⟩, .int .i64 0, .int .i64 0, .int .i64 0, .int .i64 0, .int .i64 0, .slice none 0 0, .int .i64 0, .int .i64 0, .slice none 0 0, .int .i64 0, .int .i64 0, .int .i64 0, .slice none 0 0, .bool false, .int .i64 0, .int .i64 0, .int .i64 0, .int .i64 0, .int .i64 0, .int .i64 0, .int .i64 0, .int .i64 0, .int .i64 0, .int .i64 0, .int .i64 0, .int .i64 0, .slice none 0 0, .int .i64 0, .int .i64 0] 51)
 have k3 := (((Blk.new w 51 (dvA D)).alloc (Obj.cells #[.int .i64 (D.ch : Int), .slice (some S) x.length sc] 60)).alloc (Obj.cells #[.int .i64 0, .slice none 0 0] 60)).alloc (Obj.cells #[.int .u64 0, .string ⟨#[]⟩, .int .i64 0, .int .i64 0, .int .i64 0, .int .i64 0, .int .i64 0, .slice none 0 0, .int .i64 0, .int .i64 0, .slice none 0 0, .int .i64 0, .int .i64 0, .int .i64 0, .slice none 0 0, .bool false, .int .i64 0, .int .i64 0, .int .i64 0, .int .i64 0, .int .i64 0, .int .i64 0, .int .i64 0, .int .i64 0, .int .i64 0, .int .i64 0, .int .i64 0, .int .i64 0, .slice none 0 0, .int .i64 0, .int .i64 0] 51)
 have k4 := ((blk_new_at (X := (w.alloc (Obj.cells (dvA D) 51))) (n := w.heap.size + 1) (t := 60) (cs := #[.int .i64 (D.ch : Int), .slice (some S) x.length sc]) (by simp)).alloc (Obj.cells #[.int .i64 0, .slice none 0 0] 60)).alloc (Obj.cells #[.int .u64 0, .string ⟨#[]⟩, .int .i64 0, .int .i64 0, .int .i64 0, .int .i64 0, .int .i64 0, .slice none 0 0, .int .i64 0, .int .i64 0, .slice none 0 0, .int .i64 0, .int .i64 0, .int .i64 0, .slice none 0 0, .bool false, .int .i64 0, .int .i64 0, .int .i64 0, .int .i64 0, .int .i64 0, .int .i64 0, .int .i64 0, .int .i64 0, .int .i64 0, .int .i64 0, .int .i64 0, .int .i64 0, .slice none 0 0, .int .i64 0, .int .i64 0] 51)
 have k6 := (blk_new_at (X := ((w.alloc (Obj.cells (dvA D) 51)).alloc (Obj.cells #[.int .i64 (D.ch : Int), .slice (some S) x.length sc] 60))) (n := w.heap.size + 1 + 1) (t := 60) (cs := #[.int .i64 0, .slice none 0 0]) (by simp)).alloc (Obj.cells #[.int .u64 0, .string ⟨#[]⟩, .int .i64 0, .int .i64 0, .int .i64 0, .int .i64 0, .int .i64 0, .slice none 0 0, .int .i64 0, .int .i64 0, .slice none 0 0, .int .i64 0, .int .i64 0, .int .i64 0, .slice none 0 0, .bool false, .int .i64 0, .int .i64 0, .int .i64 0, .int .i64 0, .int .i64 0, .int .i64 0, .int .i64 0, .int .i64 0, .int .i64 0, .int .i64 0, .int .i64 0, .int .i64 0, .slice none 0 0, .int .i64 0, .int .i64 0] 51)
 have k9 := blk_new_at (X := (((w.alloc (Obj.cells (dvA D) 51)).alloc (Obj.cells #[.int .i64 (D.ch : Int), .slice (some S) x.length sc] 60)).alloc (Obj.cells #[.int .i64 0, .slice none 0 0] 60))) (n := w.heap.size + 1 + 1 + 1) (t := 51) (cs := #[.int .u64 0, .string ⟨#[]⟩, .int .i64 0, .int .i64 0, .int .i64 0, .int .i64 0, .int .i64 0, .slice none 0 0, .int .i64 0, .int .i64 0, .slice none 0 0, .int .i64 0, .int .i64 0, .int .i64 0, .slice none 0 0, .bool false, .int .i64 0, .int .i64 0, .int .i64 0, .int .i64 0, .int .i64 0, .int .i64 0, .int .i64 0, .int .i64 0, .int .i64 0, .int .i64 0, .int .i64 0, .int .i64 0, .slice none 0 0, .int .i64 0, .int .i64 0]) (by simp)
 go_upto_region 1 with fail
 generalize hn4 : w.heap.size + 1 = n4 at *
 generalize hn6 : n4 + 1 = n6 at *
 generalize hn9 : n6 + 1 = n9 at *
 generalize World.alloc (World.alloc (World.alloc (World.alloc w _) _) _) _ = w1 at *
 refine wp_region_lit ?_
 iterate 1
  refine wpList_plain rfl (fun K hK => ?_)
  go_simp
  refine hK _ _ ?_
  clear hK K
 refine wpList_load_part rfl _ rfl (A := ⟨w.heap.size, 17, none⟩) rfl (k3.part (br_part D)) Tryz.underlying49 rfl brinfo ?_
 refine wpList_load_row rfl _ rfl rfl k4 Tryz.underlying60 rfl b60info ?_
 refine wpList_plain rfl (fun K hK => ?_)
 go_simp
 refine (hpu _ hB).mono ?_
 rintro e w2 ⟨⟨A1, c1, rfl, ho1, hc1⟩, hq⟩
 refine hK _ _ ?_
 clear hK K
 clear hpu k4
 replace k3 := k3.grows hq
 replace k6 := k6.grows hq
 replace k9 := k9.grows hq
 replace hB := below_grows hB (Nat.le_refl _) hq
 have hqs := hq.size
 clear hq
 iterate 4
  refine wpList_plain rfl (fun K hK => ?_)
  go_simp
  refine hK _ _ ?_
  clear hK K
 have e3 := k3.lt
 have e9 := k9.lt
 refine wpList_plain rfl (fun K hK => ?_)
 go_simp
 refine hK _ _ ?_
 clear hK K
 have k11 := Blk.new w2 49 #[.int .i64 0, .int .i64 0, .int .i64 0, .int .i64 0, .int .i64 0, .int .i64 0, .int .i64 0, .int .i64 0, .int .i64 0, .int .i64 0, .int .i64 0, .slice none 0 0, .int .i64 0, .int .i64 0]
 replace k3 := k3.alloc (Obj.cells #[.int .i64 0, .int .i64 0, .int .i64 0, .int .i64 0, .int .i64 0, .int .i64 0, .int .i64 0, .int .i64 0, .int .i64 0, .int .i64 0, .int .i64 0, .slice none 0 0, .int .i64 0, .int .i64 0] 49)
 replace k6 := k6.alloc (Obj.cells #[.int .i64 0, .int .i64 0, .int .i64 0, .int .i64 0, .int .i64 0, .int .i64 0, .int .i64 0, .int .i64 0, .int .i64 0, .int .i64 0, .int .i64 0, .slice none 0 0, .int .i64 0, .int .i64 0] 49)
 replace k9 := k9.alloc (Obj.cells #[.int .i64 0, .int .i64 0, .int .i64 0, .int .i64 0, .int .i64 0, .int .i64 0, .int .i64 0, .int .i64 0, .int .i64 0, .int .i64 0, .int .i64 0, .slice none 0 0, .int .i64 0, .int .i64 0] 49)
 replace hB := hB.alloc hB.size (Obj.cells #[.int .i64 0, .int .i64 0, .int .i64 0, .int .i64 0, .int .i64 0, .int .i64 0, .int .i64 0, .int .i64 0, .int .i64 0, .int .i64 0, .int .i64 0, .slice none 0 0, .int .i64 0, .int .i64 0] 49)
 replace ho1 := ho1.alloc (Obj.cells #[.int .i64 0, .int .i64 0, .int .i64 0, .int .i64 0, .int .i64 0, .int .i64 0, .int .i64 0, .int .i64 0, .int .i64 0, .int .i64 0, .int .i64 0, .slice none 0 0, .int .i64 0, .int .i64 0] 49)
 generalize hn11 : w2.heap.size = n11 at *
 generalize World.alloc w2 _ = w3 at *
 obtain ⟨ad1, rfl⟩ := ho1.some_ hL0
 refine wpList_store_row rfl _ _ rfl rfl rfl rfl k11 brinfo rfl (by simp [Value.oneCell']) ?_
 replace ho1 := ho1.row k11 (by decide) #[.int .i64 (D.cap : Int), .int .i64 D.T, .int .i64 D.dd, .int .i64 D.G, .int .i64 D.M, .int .i64 (D.ch : Int), .int .i64 D.n, .int .i64 D.d, .int .i64 D.a, .int .i64 D.p, .int .i64 D.f, .slice (some ad1) L.length c1, .int .i64 0, .int .i64 0]
 replace k3 := k3.row_far (cs' := #[.int .i64 (D.cap : Int), .int .i64 D.T, .int .i64 D.dd, .int .i64 D.G, .int .i64 D.M, .int .i64 (D.ch : Int), .int .i64 D.n, .int .i64 D.d, .int .i64 D.a, .int .i64 D.p, .int .i64 D.f, .slice (some ad1) L.length c1, .int .i64 0, .int .i64 0]) (show w.heap.size ≠ n11 by omega)
 replace k6 := k6.row_far (cs' := #[.int .i64 (D.cap : Int), .int .i64 D.T, .int .i64 D.dd, .int .i64 D.G, .int .i64 D.M, .int .i64 (D.ch : Int), .int .i64 D.n, .int .i64 D.d, .int .i64 D.a, .int .i64 D.p, .int .i64 D.f, .slice (some ad1) L.length c1, .int .i64 0, .int .i64 0]) (show n6 ≠ n11 by omega)
 replace k9 := k9.row_far (cs' := #[.int .i64 (D.cap : Int), .int .i64 D.T, .int .i64 D.dd, .int .i64 D.G, .int .i64 D.M, .int .i64 (D.ch : Int), .int .i64 D.n, .int .i64 D.d, .int .i64 D.a, .int .i64 D.p, .int .i64 D.f, .slice (some ad1) L.length c1, .int .i64 0, .int .i64 0]) (show n9 ≠ n11 by omega)
 replace k11 := k11.row (cs := #[.int .i64 (D.cap : Int), .int .i64 D.T, .int .i64 D.dd, .int .i64 D.G, .int .i64 D.M, .int .i64 (D.ch : Int), .int .i64 D.n, .int .i64 D.d, .int .i64 D.a, .int .i64 D.p, .int .i64 D.f, .slice (some ad1) L.length c1, .int .i64 0, .int .i64 0])
 replace hB := below_row hB (show w.heap.size ≤ n11 by omega) #[.int .i64 (D.cap : Int), .int .i64 D.T, .int .i64 D.dd, .int .i64 D.G, .int .i64 D.M, .int .i64 (D.ch : Int), .int .i64 D.n, .int .i64 D.d, .int .i64 D.a, .int .i64 D.p, .int .i64 D.f, .slice (some ad1) L.length c1, .int .i64 0, .int .i64 0]
 generalize World.setRow w3 _ _ = w4 at *
 go_upto_region 3 with fail
 refine wp_region_lit ?_
 refine wpList_load_row rfl _ rfl rfl k11 Tryz.underlying49 rfl brinfo ?_
 iterate 1
  refine wpList_plain rfl (fun K hK => ?_)
  go_simp
  refine hK _ _ ?_
  clear hK K
 refine wpList_plain rfl (fun K hK => ?_)
 go_simp
 refine (hpl ad1 c1 _ (OwnS.sams ho1) hc1).mono ?_
 rintro e w5 ⟨⟨B, b, A2, c2, rfl, hoB, hmb, hoA, hc2⟩, hq⟩
 refine hK _ _ ?_
 clear hK K
 clear hpl
 have e11 := k11.lt
 have rB : RdB w5 (fun k => (k ≠ w.heap.size ∧ k ≠ n6 ∧ k ≠ n9 ∧ k ≠ n11) ∧ w.heap.size ≤ k) 1 B O.length (O.map (Value.int .i32)) := by
  rw [hmch.symm] at hoB
  exact SaB.of_own hoB (fun k hk => by omega)
 have rA : RdB w5 (fun k => (k ≠ w.heap.size ∧ k ≠ n6 ∧ k ≠ n9 ∧ k ≠ n11) ∧ w.heap.size ≤ k) 1 A2 L2.length (L2.map (Value.int .i32)) := SaB.of_own hoA (fun k hk => by omega)
 clear hoA hoB ho1
 replace k3 := k3.grows hq
 replace k6 := k6.grows hq
 replace k9 := k9.grows hq
 replace k11 := k11.grows hq
 replace hB := below_grows hB (Nat.le_refl _) hq
 have hqs := hq.size
 clear hq
 iterate 5
  refine wpList_plain rfl (fun K hK => ?_)
  go_simp
  refine hK _ _ ?_
  clear hK K
 refine wpList_store_row rfl _ _ rfl rfl rfl rfl k6 b60info rfl (by simp [Value.oneCell']) ?_
 replace k3 := k3.row_far (cs' := #[.int .i64 (D.ch : Int), .slice B (m * D.ch) b]) (show w.heap.size ≠ n6 by omega)
 replace k9 := k9.row_far (cs' := #[.int .i64 (D.ch : Int), .slice B (m * D.ch) b]) (show n9 ≠ n6 by omega)
 replace k11 := k11.row_far (cs' := #[.int .i64 (D.ch : Int), .slice B (m * D.ch) b]) (show n11 ≠ n6 by omega)
 replace rB := rB.row (g := n6) (fun hb => by have := hb.1; omega) (#[.int .i64 (D.ch : Int), .slice B (m * D.ch) b])
 replace rA := rA.row (g := n6) (fun hb => by have := hb.1; omega) (#[.int .i64 (D.ch : Int), .slice B (m * D.ch) b])
 replace k6 := k6.row (cs := #[.int .i64 (D.ch : Int), .slice B (m * D.ch) b])
 replace hB := below_row hB (show w.heap.size ≤ n6 by omega) (#[.int .i64 (D.ch : Int), .slice B (m * D.ch) b])
 generalize World.setRow w5 _ _ = w6 at *
 iterate 1
  refine wpList_plain rfl (fun K hK => ?_)
  go_simp
  refine hK _ _ ?_
  clear hK K
 refine wpList_store_row rfl _ _ rfl rfl rfl rfl k11 brinfo rfl (by simp [Value.oneCell']) ?_
 replace k3 := k3.row_far (cs' := #[.int .i64 (D.cap : Int), .int .i64 D.T, .int .i64 D.dd, .int .i64 D.G, .int .i64 D.M, .int .i64 (D.ch : Int), .int .i64 D.n, .int .i64 D.d, .int .i64 aj, .int .i64 (D.p + t), .int .i64 f2, .slice A2 L2.length c2, .int .i64 0, .int .i64 0]) (show w.heap.size ≠ n11 by omega)
 replace k9 := k9.row_far (cs' := #[.int .i64 (D.cap : Int), .int .i64 D.T, .int .i64 D.dd, .int .i64 D.G, .int .i64 D.M, .int .i64 (D.ch : Int), .int .i64 D.n, .int .i64 D.d, .int .i64 aj, .int .i64 (D.p + t), .int .i64 f2, .slice A2 L2.length c2, .int .i64 0, .int .i64 0]) (show n9 ≠ n11 by omega)
 replace k6 := k6.row_far (cs' := #[.int .i64 (D.cap : Int), .int .i64 D.T, .int .i64 D.dd, .int .i64 D.G, .int .i64 D.M, .int .i64 (D.ch : Int), .int .i64 D.n, .int .i64 D.d, .int .i64 aj, .int .i64 (D.p + t), .int .i64 f2, .slice A2 L2.length c2, .int .i64 0, .int .i64 0]) (show n6 ≠ n11 by omega)
 replace rB := rB.row (g := n11) (fun hb => by have := hb.1; omega) (#[.int .i64 (D.cap : Int), .int .i64 D.T, .int .i64 D.dd, .int .i64 D.G, .int .i64 D.M, .int .i64 (D.ch : Int), .int .i64 D.n, .int .i64 D.d, .int .i64 aj, .int .i64 (D.p + t), .int .i64 f2, .slice A2 L2.length c2, .int .i64 0, .int .i64 0])
 replace rA := rA.row (g := n11) (fun hb => by have := hb.1; omega) (#[.int .i64 (D.cap : Int), .int .i64 D.T, .int .i64 D.dd, .int .i64 D.G, .int .i64 D.M, .int .i64 (D.ch : Int), .int .i64 D.n, .int .i64 D.d, .int .i64 aj, .int .i64 (D.p + t), .int .i64 f2, .slice A2 L2.length c2, .int .i64 0, .int .i64 0])
 replace k11 := k11.row (cs := #[.int .i64 (D.cap : Int), .int .i64 D.T, .int .i64 D.dd, .int .i64 D.G, .int .i64 D.M, .int .i64 (D.ch : Int), .int .i64 D.n, .int .i64 D.d, .int .i64 aj, .int .i64 (D.p + t), .int .i64 f2, .slice A2 L2.length c2, .int .i64 0, .int .i64 0])
 replace hB := below_row hB (show w.heap.size ≤ n11 by omega) (#[.int .i64 (D.cap : Int), .int .i64 D.T, .int .i64 D.dd, .int .i64 D.G, .int .i64 D.M, .int .i64 (D.ch : Int), .int .i64 D.n, .int .i64 D.d, .int .i64 aj, .int .i64 (D.p + t), .int .i64 f2, .slice A2 L2.length c2, .int .i64 0, .int .i64 0])
 generalize World.setRow w6 _ _ = w7 at *
 go_upto_region 6 with fail
 refine wp_region_lit ?_
 refine wpList_load_row rfl _ rfl rfl k3 Tryz.underlying51 rfl (dinfo _) ?_
 refine wpList_plain rfl (fun K hK => ?_)
 go_simp
 refine (how _ hB).mono ?_
 rintro e w8 ⟨⟨D2, rfl, hmv, hin⟩, hq⟩
 refine hK _ _ ?_
 clear hK K
 clear how
 replace hmv : MovDv D D2 := hmv
 replace e11 := k11.lt
 replace hin := hin.mono (b2 := (fun k => (k ≠ w.heap.size ∧ k ≠ n6 ∧ k ≠ n9 ∧ k ≠ n11) ∧ (base k ∨ w.heap.size ≤ k))) (fun k hk => by
  rcases hk with hk | hk
  ·have := hk.2; exact ⟨by omega, .inl hk.1⟩
  ·exact ⟨by omega, .inr (by omega)⟩)
 replace rB := RdB.grows rB hq
 replace rA := RdB.grows rA hq
 replace k3 := k3.grows hq
 replace k6 := k6.grows hq
 replace k9 := k9.grows hq
 replace k11 := k11.grows hq
 replace hB := below_grows hB (Nat.le_refl _) hq
 have hqs := hq.size
 clear hq
 refine wpList_store_row rfl _ _ rfl rfl rfl rfl k3 (dinfo _) rfl (dv_one _) ?_
 replace k11 := k11.row_far (cs' := (dvA D2)) (show n11 ≠ w.heap.size by omega)
 replace k9 := k9.row_far (cs' := (dvA D2)) (show n9 ≠ w.heap.size by omega)
 replace k6 := k6.row_far (cs' := (dvA D2)) (show n6 ≠ w.heap.size by omega)
 replace rB := rB.row (g := w.heap.size) (fun hb => by have := hb.1; omega) ((dvA D2))
 replace rA := rA.row (g := w.heap.size) (fun hb => by have := hb.1; omega) ((dvA D2))
 replace hin := hin.row (g := w.heap.size) (fun hb => by have := hb.1; omega) ((dvA D2))
 replace k3 := k3.row (cs := (dvA D2))
 replace hB := below_row hB (show w.heap.size ≤ w.heap.size by omega) ((dvA D2))
 generalize World.setRow w8 _ _ = w9 at *
 have hbr : #[.int .i64 (D.cap : Int), .int .i64 D.T, .int .i64 D.dd, .int .i64 D.G, .int .i64 D.M, .int .i64 (D.ch : Int), .int .i64 D.n, .int .i64 D.d, .int .i64 aj, .int .i64 (D.p + t), .int .i64 f2, .slice A2 L2.length c2, .int .i64 0, .int .i64 0] = brA { D2 with a := aj, p := D.p + t, f := f2, A := A2, l := L2, c := c2 } := by
  obtain ⟨BA, bc, MA, mc, CA, cc, A, c, rfl⟩ := hmv
  rfl
 go_upto_region 7 with fail
 refine wp_region_lit ?_
 refine wpList_load_row rfl _ rfl rfl k11 Tryz.underlying49 rfl brinfo ?_
 iterate 1
  refine wpList_plain rfl (fun K hK => ?_)
  go_simp
  refine hK _ _ ?_
  clear hK K
 refine wpList_store_mid rfl _ _ _ rfl w.heap.size 17 (brA { D2 with a := aj, p := D.p + t, f := f2, A := A2, l := L2, c := c2 }) rfl (by rw [← hbr]; rfl) (k3.there_ (show 17 + 14 ≤ 31 by omega)) (by kernel_rfl) (br_one _) ?_
 replace k3 := blk_setCells (brA { D2 with a := aj, p := D.p + t, f := f2, A := A2, l := L2, c := c2 }).toList 17 _ _ k3
 rw [dv_over D2 aj (D.p + t) f2 A2 L2 c2] at k3
 have hst := grown_setCells (brA { D2 with a := aj, p := D.p + t, f := f2, A := A2, l := L2, c := c2 }).toList 17 _ (World.grownBy.refl w9 (some w.heap.size))
 replace k6 := k6.grown hst (fun e => by injection e with e; omega)
 replace k9 := k9.grown hst (fun e => by injection e with e; omega)
 replace hB := hB.grown hst hB.size (fun q hq => by injection hq with hq; omega)
 replace rB := RdB.grown rB hst (fun g e => by injection e with e; subst e; exact fun h => by have := h.1; omega)
 replace rA := RdB.grown rA hst (fun g e => by injection e with e; subst e; exact fun h => by have := h.1; omega)
 replace hin := hin.grown hst (fun g e => by injection e with e; subst e; exact fun h => by have := h.1; omega)
 generalize World.setCells w9 _ _ _ = w10 at *
 clear hst hbr k11
 replace hin : InDv w10 (fun k => (k ≠ w.heap.size ∧ k ≠ n6 ∧ k ≠ n9 ∧ k ≠ n11) ∧ (base k ∨ w.heap.size ≤ k)) { D2 with a := aj, p := D.p + t, f := f2, A := A2, l := L2, c := c2 } := ⟨hin.b, hin.bc, hin.m, hin.ml, hin.g, RdB.mono rA (fun k hk => ⟨hk.1, .inr hk.2⟩)⟩
 clear rA
 go_upto_region 8 with fail
 obtain ⟨S, HI, HO⟩ := hideS fun (L : Ran) (vs : Nat → Value) (w' : World) => Below w.heap.size w w' ∧ Blk w' w.heap.size 51 (dvA { D2 with a := aj, p := D.p + t, f := f2, A := A2, l := L2, c := c2 }) ∧ RdB w' (fun k => (k ≠ w.heap.size ∧ k ≠ n6 ∧ k ≠ n9 ∧ k ≠ n11) ∧ w.heap.size ≤ k) 1 B O.length (O.map (Value.int .i32)) ∧ InDv w' (fun k => (k ≠ w.heap.size ∧ k ≠ n6 ∧ k ≠ n9 ∧ k ≠ n11) ∧ (base k ∨ w.heap.size ≤ k)) { D2 with a := aj, p := D.p + t, f := f2, A := A2, l := L2, c := c2 } ∧ (L 4 = false → Blk w' n6 60 #[.int .i64 (D.ch : Int), .slice B (m * D.ch) b]) ∧ (L 4 = true → Blk w' n6 60 #[.int .i64 (D.ch : Int), .slice B (m * D.ch) b]) ∧ (L 7 = false → Blk w' n9 51 #[.int .u64 0, .string ⟨#[]⟩, .int .i64 0, .int .i64 0, .int .i64 0, .int .i64 0, .int .i64 0, .slice none 0 0, .int .i64 0, .int .i64 0, .slice none 0 0, .int .i64 0, .int .i64 0, .int .i64 0, .slice none 0 0, .bool false, .int .i64 0, .int .i64 0, .int .i64 0, .int .i64 0, .int .i64 0, .int .i64 0, .int .i64 0, .int .i64 0, .int .i64 0, .int .i64 0, .int .i64 0, .int .i64 0, .slice none 0 0, .int .i64 0, .int .i64 0]) ∧ (L 7 = true → Blk w' n9 51 (dvA { D2 with a := aj, p := D.p + t, f := f2, A := A2, l := L2, c := c2 })) ∧ KnS [some (.agg #[.int .i64 (D.ch : Int), .slice B (m * D.ch) b]), some (.int .i64 0), some (.int .i64 0), some (.agg (dvA { D2 with a := aj, p := D.p + t, f := f2, A := A2, l := L2, c := c2 })), some (undef), some (.int .i64 0), some (.int .i64 0), some (undef), some (.int .i64 0)] L vs
 refine wp_region_genU S 43 (by kernel_rfl) (by kernel_rfl) rfl ?_ ?_
 ·exact HI.out _ _ _ ⟨hB.drew, k3.drew, rB.drew, hin.drew, fun _ => k6.drew, (fun e => by cases e), fun _ => k9.drew, (fun e => by cases e), kn_none _ _⟩
 refine gen_consR (fun vs L w1 hL hw1 => ?_) ?_
 ·obtain ⟨h0, h1, h2, h3, a4, b4, a7, b7, q⟩ := HO.out _ _ _ hw1
  refine gen_plain rfl ?_
  refine gr_ldrow (cs := #[.int .i64 (D.ch : Int), .slice B (m * D.ch) b]) _ rfl rfl (show Blk w1 n6 60 #[.int .i64 (D.ch : Int), .slice B (m * D.ch) b] from by cases e : L 4; exact a4 e; exact b4 e) Tryz.underlying60 rfl b60info ?_
  exact HI.out _ _ _ ⟨h0, h1, h2, h3, fun e => (a4 (upd_ne e (by decide))), fun e => (b4 (upd_ne e (by decide))), fun e => (a7 (upd_ne e (by decide))), fun e => (b7 (upd_ne e (by decide))), kn_known q rfl⟩
 refine gen_consR (fun vs L w1 hL hw1 => ?_) ?_
 ·obtain ⟨h0, h1, h2, h3, a4, b4, a7, b7, q⟩ := HO.out _ _ _ hw1
  refine gen_plain rfl ?_
  go_simp
  exact gr_val (HI.out _ _ _ ⟨h0, h1, h2, h3, fun e => (a4 (upd_ne e (by decide))), fun e => (b4 (upd_ne e (by decide))), fun e => (a7 (upd_ne e (by decide))), fun e => (b7 (upd_ne e (by decide))), kn_known q rfl⟩)
 refine gen_consR (fun vs L w1 hL hw1 => ?_) ?_
 ·obtain ⟨h0, h1, h2, h3, a4, b4, a7, b7, q⟩ := HO.out _ _ _ hw1
  refine gen_plain rfl ?_
  go_simp
  exact gr_val (HI.out _ _ _ ⟨h0, h1, h2, h3, fun e => (a4 (upd_ne e (by decide))), fun e => (b4 (upd_ne e (by decide))), fun e => (a7 (upd_ne e (by decide))), fun e => (b7 (upd_ne e (by decide))), kn_known q rfl⟩)
 refine gen_consR (fun vs L w1 hL hw1 => ?_) ?_
 ·obtain ⟨h0, h1, h2, h3, a4, b4, a7, b7, q⟩ := HO.out _ _ _ hw1
  refine gen_plain rfl ?_
  refine gr_ldrow (cs := (dvA { D2 with a := aj, p := D.p + t, f := f2, A := A2, l := L2, c := c2 })) _ rfl rfl h1 Tryz.underlying51 rfl (dinfo _) ?_
  exact HI.out _ _ _ ⟨h0, h1, h2, h3, fun e => (a4 (upd_ne e (by decide))), fun e => (b4 (upd_ne e (by decide))), fun e => (a7 (upd_ne e (by decide))), fun e => (b7 (upd_ne e (by decide))), kn_known q rfl⟩
 refine gen_consR (fun vs L w1 hL hw1 => ?_) ?_
 ·obtain ⟨h0, h1, h2, h3, a4, b4, a7, b7, q⟩ := HO.out _ _ _ hw1
  have l0 : L 0 = true := hL.need 0 (by kernel_rfl)
  have e0 := q 0 _ rfl l0
  refine gen_plain rfl ?_
  simp only [e0]
  have kk := a4 hL.1
  refine gr_strow (cs := #[.int .i64 (D.ch : Int), .slice B (m * D.ch) b]) _ _ rfl rfl rfl kk b60info rfl (by simp [Value.oneCell']) ?_
  exact HI.out _ _ _ ⟨below_row h0 (g := n6) (by omega) _, h1.row_far (by omega), h2.row (fun hb => by have := hb.1; omega) _, h3.row (fun hb => by have := hb.1; omega) _, (fun e => by rw [upd_eq] at e; cases e), fun _ => kk.row, fun e => (a7 (upd_ne e (by decide))).row_far (by omega), fun e => (b7 (upd_ne e (by decide))).row_far (by omega), kn_known q rfl⟩
 refine gen_consR (fun vs L w1 hL hw1 => ?_) ?_
 ·obtain ⟨h0, h1, h2, h3, a4, b4, a7, b7, q⟩ := HO.out _ _ _ hw1
  have l1 : L 1 = true := hL.need 1 (by kernel_rfl)
  have e1 := q 1 _ rfl l1
  refine gen_plain rfl ?_
  simp only [e1]
  go_simp
  exact gr_val (HI.out _ _ _ ⟨h0, h1, h2, h3, fun e => (a4 (upd_ne e (by decide))), fun e => (b4 (upd_ne e (by decide))), fun e => (a7 (upd_ne e (by decide))), fun e => (b7 (upd_ne e (by decide))), kn_known q rfl⟩)
 refine gen_consR (fun vs L w1 hL hw1 => ?_) ?_
 ·obtain ⟨h0, h1, h2, h3, a4, b4, a7, b7, q⟩ := HO.out _ _ _ hw1
  have l2 : L 2 = true := hL.need 2 (by kernel_rfl)
  have e2 := q 2 _ rfl l2
  refine gen_plain rfl ?_
  simp only [e2]
  go_simp
  exact gr_val (HI.out _ _ _ ⟨h0, h1, h2, h3, fun e => (a4 (upd_ne e (by decide))), fun e => (b4 (upd_ne e (by decide))), fun e => (a7 (upd_ne e (by decide))), fun e => (b7 (upd_ne e (by decide))), kn_known q rfl⟩)
 refine gen_consR (fun vs L w1 hL hw1 => ?_) ?_
 ·obtain ⟨h0, h1, h2, h3, a4, b4, a7, b7, q⟩ := HO.out _ _ _ hw1
  have l3 : L 3 = true := hL.need 3 (by kernel_rfl)
  have e3 := q 3 _ rfl l3
  refine gen_plain rfl ?_
  simp only [e3]
  have kk := a7 hL.1
  refine gr_strow (cs := (dvA { D2 with a := aj, p := D.p + t, f := f2, A := A2, l := L2, c := c2 })) _ _ rfl rfl rfl kk (dinfo _) rfl (dv_one _) ?_
  exact HI.out _ _ _ ⟨below_row h0 (g := n9) (by omega) _, h1.row_far (by omega), h2.row (fun hb => by have := hb.1; omega) _, h3.row (fun hb => by have := hb.1; omega) _, fun e => (a4 (upd_ne e (by decide))).row_far (by omega), fun e => (b4 (upd_ne e (by decide))).row_far (by omega), (fun e => by rw [upd_eq] at e; cases e), fun _ => kk.row, kn_known q rfl⟩
 refine gen_consR (fun vs L w1 hL hw1 => ?_) ?_
 ·obtain ⟨h0, h1, h2, h3, a4, b4, a7, b7, q⟩ := HO.out _ _ _ hw1
  refine gen_plain rfl ?_
  go_simp
  exact gr_val (HI.out _ _ _ ⟨h0, h1, h2, h3, fun e => (a4 (upd_ne e (by decide))), fun e => (b4 (upd_ne e (by decide))), fun e => (a7 (upd_ne e (by decide))), fun e => (b7 (upd_ne e (by decide))), kn_known q rfl⟩)
 refine gen_nil ?_
 intro vs L wz hall hS
 obtain ⟨h0, h1, h2, h3, a4, b4, a7, b7, q⟩ := HO.out _ _ _ hS
 replace b4 := b4 (hall 4 (by simp))
 replace b7 := b7 (hall 7 (by simp))
 have e0 := q 0 _ rfl (hall 0 (by simp))
 have e1 := q 1 _ rfl (hall 1 (by simp))
 have e2 := q 2 _ rfl (hall 2 (by simp))
 have e3 := q 3 _ rfl (hall 3 (by simp))
 have e5 := q 5 _ rfl (hall 5 (by simp))
 have e6 := q 6 _ rfl (hall 6 (by simp))
 have e8 := q 8 _ rfl (hall 8 (by simp))
 clear hall hS HI HO q a4 a7
 simp only [e0, e1, e2, e3, e5, e6, e8]
 clear e0 e1 e2 e3 e5 e6 e8
 go_wp2
 refine bodyPost_ret (v := .tuple #[.agg #[.int .i64 (D.ch : Int), .slice B (m * D.ch) b], .int .i64 0, .int .i64 0, .agg (dvA { D2 with a := aj, p := D.p + t, f := f2, A := A2, l := L2, c := c2 }), .int .i64 0]) ?_ rfl ⟨⟨B, b, D2, A2, c2, rfl, hmv, RdB.mono h2 (fun k hk => hk.2), hmb, h3.mono (fun k hk => hk.2)⟩, h0⟩
 have hl1 := run_loadVar_row (P := Tryz.prog) wz n6 60 60 #[.int .i64 (D.ch : Int), .slice B (m * D.ch) b] (0, 0) _ b4 Tryz.underlying60 rfl b60info
 have hl2 := run_loadVar_row (P := Tryz.prog) wz n9 51 51 (dvA { D2 with a := aj, p := D.p + t, f := f2, A := A2, l := L2, c := c2 }) (0, 0) _ b7 Tryz.underlying51 rfl (dinfo _)
 unfold results
 simp only [Tryz.results51]
 simp [asAddr, Act.put, hl1, hl2]
end Go.Proofs.YtbfdaojffffaaaaGreat

namespace Go.Proofs.YtbfdaojffffaaaaGreat
open Go.RowKit
set_option maxRecDepth 100000 in
set_option maxHeartbeats 60000000 in
theorem play_any (D : Dv) (base : Nat → Prop) (S : Addr) (sc fr fr' m : Nat) (x L : List Int) (aj f0 t0 : Int) (w : World) (hdir : D.ds.dir = 1) (hk : OkK D.g) (hr : D.run = true) (h0 : 0 ≤ f0) (hs : D.since ≤ f0) (h1 : f0 < t0) (h2 : t0 ≤ 1048576) (hp : posK D.g t0 - posK D.g f0 = m) (h : InDv w base D) (ok : OkDv D) (hm1 : ∀ b ∈ D.b, 1 ≤ b.m.length) (hb : BlkOk D.ch fr D.l) (hf : fr + fr' ≤ D.cap) (hx : BlkOk D.ch fr' x) (hS : Sams w (some S) x) (hx0 : 0 < x.length) (hxc : x.length ≤ sc) (hL : D.l ++ x = L)
 (haj : adjF D.T D.dd D.G D.M ((fr + fr' : Nat) : Int) = aj) (hm : m ≤ 65536) (hn : needF D.n D.d aj D.f m ≤ ((fr + fr' : Nat) : Int)) (hpos : D.p + posF D.n D.d aj D.f m ≤ 1125899906842624) :
 Calls Tryz.prog 12 #[.agg (dvA D), .agg #[.int .i64 (D.ch : Int), .slice (some S) x.length sc], .int .i64 f0, .int .i64 t0] w fun e w' => (∃ B b D2 A2 c2, e = .returned (.tuple #[.agg #[.int .i64 (D.ch : Int), .slice B (m * D.ch) b], .int .i64 0, .int .i64 0, .agg (dvA { D2 with a := aj, p := D.p + posF D.n D.d aj D.f m, f := fracF D.n D.d aj D.f m, A := A2, l := L.drop (posF D.n D.d aj D.f m * D.ch), c := c2 }), .int .i64 0]) ∧ MovDv D D2 ∧ SaB w' (fun k => w.heap.size ≤ k) B (outL D.ch L D.n D.d aj D.f m) ∧ m * D.ch ≤ b ∧
  InDv w' (fun k => base k ∨ w.heap.size ≤ k) { D2 with a := aj, p := D.p + posF D.n D.d aj D.f m, f := fracF D.n D.d aj D.f m, A := A2, l := L.drop (posF D.n D.d aj D.f m * D.ch), c := c2 }) ∧ Grows w w' := by
 have hck := fun w1 (hg : Grows w w1) => dcheck_any D base (some S) sc fr' x f0 t0 w1 (h.grows hg) ok (hS.grows hg) hx hk hr h0 hs h1 h2 (by omega)
 rw [hp, hdir] at hck
 have hbl := hb.le
 have hmv := fun w1 (hg : Grows w w1) => move_any D _ S sc fr fr' m x L aj w1 (h.bd.grows hg) ok hm1 hb hf hx (hS.grows hg) hx0 hxc hL haj hm hn hpos
 have hdiv := hx.div.1
 have hch1 := hb.c1
 clear hL haj hn hpos hbl hb hf
 generalize posF D.n D.d aj D.f m = t at *
 generalize fracF D.n D.d aj D.f m = f2 at *
 generalize outL D.ch L D.n D.d aj D.f m = O at *
 generalize L.drop (t * D.ch) = L2 at *
 clear hx hS hk h0 hs h1 h2 hm h hp hdir
 go_enter Tryz.func12, Tryz.ntmps12
 have hB := ((((Below.refl w.heap.size w).alloc (Nat.le_refl _) (Obj.cells (dvA D) 51)).alloc (by simp <;> omega) (Obj.cells #[.int .i64 (D.ch : Int), .slice (some S) x.length sc] 60)).alloc (by simp <;> omega) (Obj.cells #[.int .i64 0, .slice none 0 0] 60)).alloc (by simp <;> omega) (Obj.cells #[.int .u64 0, .string ⟨#[]⟩, .int .i64 0, .int .i64 0, .int .i64 0, .int .i64 0, .int .i64 0, .slice none 0 0, .int .i64 0, .int .i64 0, .slice none 0 0, .int .i64 0, .int .i64 0, .int .i64 0, .slice none 0 0, .bool false, .int .i64 0, .int .i64 0, .int .i64 0, .int .i64 0, .int .i64 0, .int .i64 0, .int .i64 0, .int .i64 0, .int .i64 0, .int .i64 0, .int .i64 0, .int .i64 0, .slice none 0 0, .int .i64 0, .int .i64 0] 51)
 have k4 := (((Blk.new w 51 (dvA D)).alloc (Obj.cells #[.int .i64 (D.ch : Int), .slice (some S) x.length sc] 60)).alloc (Obj.cells #[.int .i64 0, .slice none 0 0] 60)).alloc (Obj.cells #[.int .u64 0, .string ⟨#[]⟩, .int .i64 0, .int .i64 0, .int .i64 0, .int .i64 0, .int .i64 0, .slice none 0 0, .int .i64 0, .int .i64 0, .slice none 0 0, .int .i64 0, .int .i64 0, .int .i64 0, .slice none 0 0, .bool false, .int .i64 0, .int .i64 0, .int .i64 0, .int .i64 0, .int .i64 0, .int .i64 0, .int .i64 0, .int .i64 0, .int .i64 0, .int .i64 0, .int .i64 0, .int .i64 0, .slice none 0 0, .int .i64 0, .int .i64 0] 51)
 have k5 := ((blk_new_at (X := (w.alloc (Obj.cells (dvA D) 51))) (n := w.heap.size + 1) (t := 60) (cs := #[.int .i64 (D.ch : Int), .slice (some S) x.length sc]) (by simp)).alloc (Obj.cells #[.int .i64 0, .slice none 0 0] 60)).alloc (Obj.cells #[.int .u64 0, .string ⟨#[]⟩, .int .i64 0, .int .i64 0, .int .i64 0, .int .i64 0, .int .i64 0, .slice none 0 0, .int .i64 0, .int .i64 0, .slice none 0 0, .int .i64 0, .int .i64 0, .int .i64 0, .slice none 0 0, .bool false, .int .i64 0, .int .i64 0, .int .i64 0, .int .i64 0, .int .i64 0, .int .i64 0, .int .i64 0, .int .i64 0, .int .i64 0, .int .i64 0, .int .i64 0, .int .i64 0, .slice none 0 0, .int .i64 0, .int .i64 0] 51)
 have k8 := (blk_new_at (X := ((w.alloc (Obj.cells (dvA D) 51)).alloc (Obj.cells #[.int .i64 (D.ch : Int), .slice (some S) x.length sc] 60))) (n := w.heap.size + 1 + 1) (t := 60) (cs := #[.int .i64 0, .slice none 0 0]) (by simp)).alloc (Obj.cells #[.int .u64 0, .string ⟨#[]⟩, .int .i64 0, .int .i64 0, .int .i64 0, .int .i64 0, .int .i64 0, .slice none 0 0, .int .i64 0, .int .i64 0, .slice none 0 0, .int .i64 0, .int .i64 0, .int .i64 0, .slice none 0 0, .bool false, .int .i64 0, .int .i64 0, .int .i64 0, .int .i64 0, .int .i64 0, .int .i64 0, .int .i64 0, .int .i64 0, .int .i64 0, .int .i64 0, .int .i64 0, .int .i64 0, .slice none 0 0, .int .i64 0, .int .i64 0] 51)
 have k11 := blk_new_at (X := (((w.alloc (Obj.cells (dvA D) 51)).alloc (Obj.cells #[.int .i64 (D.ch : Int), .slice (some S) x.length sc] 60)).alloc (Obj.cells #[.int .i64 0, .slice none 0 0] 60))) (n := w.heap.size + 1 + 1 + 1) (t := 51) (cs := #[.int .u64 0, .string ⟨#[]⟩, .int .i64 0, .int .i64 0, .int .i64 0, .int .i64 0, .int .i64 0, .slice none 0 0, .int .i64 0, .int .i64 0, .slice none 0 0, .int .i64 0, .int .i64 0, .int .i64 0, .slice none 0 0, .bool false, .int .i64 0, .int .i64 0, .int .i64 0, .int .i64 0, .int .i64 0, .int .i64 0, .int .i64 0, .int .i64 0, .int .i64 0, .int .i64 0, .int .i64 0, .int .i64 0, .slice none 0 0, .int .i64 0, .int .i64 0]) (by simp)
 go_upto_region 1 with fail
 generalize hn5 : w.heap.size + 1 = n5 at *
 generalize hn8 : n5 + 1 = n8 at *
 generalize hn11 : n8 + 1 = n11 at *
 generalize World.alloc (World.alloc (World.alloc (World.alloc w _) _) _) _ = w1 at *
 refine wp_region_lit ?_
 refine wpList_load_row rfl _ rfl rfl k4 Tryz.underlying51 rfl (dinfo _) ?_
 refine wpList_load_row rfl _ rfl rfl k5 Tryz.underlying60 rfl b60info ?_
 iterate 2
  refine wpList_plain rfl (fun K hK => ?_)
  go_simp
  refine hK _ _ ?_
  clear hK K
 refine wpList_plain rfl (fun K hK => ?_)
 go_simp
 refine (hck _ hB).mono ?_
 rintro e w2 ⟨rfl, hq⟩
 refine hK _ _ ?_
 clear hK K
 replace k4 := k4.grows hq
 replace k5 := k5.grows hq
 replace k8 := k8.grows hq
 replace k11 := k11.grows hq
 replace hB := below_grows hB (Nat.le_refl _) hq
 have hqs := hq.size
 clear hq
 have y0 := (show _ = some ((.int .i64 (D.ch : Int)) : Value) from k5.cell 0)
 have y1 := (show _ = some ((.slice (some S) x.length sc) : Value) from k5.cell 1)
 have y15 := (show _ = some ((.bool true) : Value) from (k4.cell 15).trans (by rw [← hr]; rfl))
 have dch : ¬ (D.ch : Int) = 0 := by omega
 clear hr
 go_upto_region 6 with fail
 clear y0 y1 y15
 refine wp_region_lit ?_
 refine wpList_load_row rfl _ rfl rfl k4 Tryz.underlying51 rfl (dinfo _) ?_
 refine wpList_load_row rfl _ rfl rfl k5 Tryz.underlying60 rfl b60info ?_
 iterate 1
  refine wpList_plain rfl (fun K hK => ?_)
  go_simp
  refine hK _ _ ?_
  clear hK K
 refine wpList_plain rfl (fun K hK => ?_)
 go_simp
 refine (hmv _ hB).mono ?_
 rintro e w3 ⟨⟨B, b, D2, A2, c2, rfl, hmv2, rB, hmb, hin⟩, hq⟩
 refine hK _ _ ?_
 clear hK K
 have e4 := k4.lt
 have e5 := k5.lt
 have e8 := k8.lt
 have e11 := k11.lt
 replace rB : RdB w3 (fun k => (k ≠ w.heap.size ∧ k ≠ n5 ∧ k ≠ n8 ∧ k ≠ n11) ∧ w.heap.size ≤ k) 1 B O.length (O.map (Value.int .i32)) := RdB.mono rB (fun k hk => by
  have hk : w2.heap.size ≤ k := hk
  exact ⟨by omega, by omega⟩)
 replace hin := hin.mono (b2 := (fun k => (k ≠ w.heap.size ∧ k ≠ n5 ∧ k ≠ n8 ∧ k ≠ n11) ∧ (base k ∨ w.heap.size ≤ k))) (fun k hk => by
  rcases hk with hk | hk
  ·have := hk.2; exact ⟨by omega, .inl hk.1⟩
  ·exact ⟨by omega, .inr (by omega)⟩)
 replace k4 := k4.grows hq
 replace k5 := k5.grows hq
 replace k8 := k8.grows hq
 replace k11 := k11.grows hq
 replace hB := below_grows hB (Nat.le_refl _) hq
 have hqs := hq.size
 clear hq
 iterate 5
  refine wpList_plain rfl (fun K hK => ?_)
  go_simp
  refine hK _ _ ?_
  clear hK K
 refine wpList_store_row rfl _ _ rfl rfl rfl rfl k8 b60info rfl (by simp [Value.oneCell']) ?_
 replace k4 := k4.row_far (cs' := #[.int .i64 (D.ch : Int), .slice B (m * D.ch) b]) (show w.heap.size ≠ n8 by omega)
 replace k11 := k11.row_far (cs' := #[.int .i64 (D.ch : Int), .slice B (m * D.ch) b]) (show n11 ≠ n8 by omega)
 replace rB := rB.row (g := n8) (fun hb => by have := hb.1; omega) (#[.int .i64 (D.ch : Int), .slice B (m * D.ch) b])
 replace hin := hin.row (g := n8) (fun hb => by have := hb.1; omega) (#[.int .i64 (D.ch : Int), .slice B (m * D.ch) b])
 replace k8 := k8.row (cs := #[.int .i64 (D.ch : Int), .slice B (m * D.ch) b])
 replace hB := below_row hB (show w.heap.size ≤ n8 by omega) (#[.int .i64 (D.ch : Int), .slice B (m * D.ch) b])
 generalize World.setRow w3 _ _ = w5 at *
 iterate 2
  refine wpList_plain rfl (fun K hK => ?_)
  go_simp
  refine hK _ _ ?_
  clear hK K
 refine wpList_store_row rfl _ _ rfl rfl rfl rfl k11 (dinfo _) rfl (dv_one _) ?_
 replace k8 := k8.row_far (cs' := (dvA { D2 with a := aj, p := D.p + t, f := f2, A := A2, l := L2, c := c2 })) (show n8 ≠ n11 by omega)
 replace rB := rB.row (g := n11) (fun hb => by have := hb.1; omega) ((dvA { D2 with a := aj, p := D.p + t, f := f2, A := A2, l := L2, c := c2 }))
 replace hin := hin.row (g := n11) (fun hb => by have := hb.1; omega) ((dvA { D2 with a := aj, p := D.p + t, f := f2, A := A2, l := L2, c := c2 }))
 replace k11 := k11.row (cs := (dvA { D2 with a := aj, p := D.p + t, f := f2, A := A2, l := L2, c := c2 }))
 replace hB := below_row hB (show w.heap.size ≤ n11 by omega) ((dvA { D2 with a := aj, p := D.p + t, f := f2, A := A2, l := L2, c := c2 }))
 generalize World.setRow w5 _ _ = wz at *
 go_wp2
 refine bodyPost_ret (v := .tuple #[.agg #[.int .i64 (D.ch : Int), .slice B (m * D.ch) b], .int .i64 0, .int .i64 0, .agg (dvA { D2 with a := aj, p := D.p + t, f := f2, A := A2, l := L2, c := c2 }), .int .i64 0]) ?_ rfl ⟨⟨B, b, D2, A2, c2, rfl, hmv2, RdB.mono rB (fun k hk => hk.2), hmb, hin.mono (fun k hk => hk.2)⟩, hB⟩
 have hl1 := run_loadVar_row (P := Tryz.prog) wz n8 60 60 #[.int .i64 (D.ch : Int), .slice B (m * D.ch) b] (0, 0) _ k8 Tryz.underlying60 rfl b60info
 have hl2 := run_loadVar_row (P := Tryz.prog) wz n11 51 51 (dvA { D2 with a := aj, p := D.p + t, f := f2, A := A2, l := L2, c := c2 }) (0, 0) _ k11 Tryz.underlying51 rfl (dinfo _)
 unfold results
 simp only [Tryz.results12]
 simp [asAddr, Act.put, hl1, hl2]
end Go.Proofs.YtbfdaojffffaaaaGreat

namespace Go.Proofs.YtbfdaojffffaaaaGreat
open Go.RowKit
set_option maxRecDepth 100000 in
set_option maxHeartbeats 60000000 in
theorem record_any (D : Dv) (base : Nat → Prop) (S : Addr) (sc fr fr' m : Nat) (x L : List Int) (aj f0 t0 : Int) (w : World) (hdir : D.ds.dir = 2) (hk : OkK D.g) (hr : D.run = true) (h0 : 0 ≤ f0) (hs : D.since ≤ f0) (h1 : f0 < t0) (h2 : t0 ≤ 1048576) (hp : posK D.g t0 - posK D.g f0 = fr') (h : InDv w base D) (ok : OkDv D) (hm1 : ∀ b ∈ D.b, 1 ≤ b.m.length) (hb : BlkOk D.ch fr D.l) (hf : fr + fr' ≤ D.cap) (hx : BlkOk D.ch fr' x) (hS : Sams w (some S) x) (hx0 : 0 < x.length) (hxc : x.length ≤ sc) (hL : D.l ++ x = L)
 (haj : adjF D.T D.dd D.G D.M ((fr + fr' : Nat) : Int) = aj) (hm : m ≤ 65536) (hn : needF D.n D.d aj D.f m ≤ ((fr + fr' : Nat) : Int)) (hpos : D.p + posF D.n D.d aj D.f m ≤ 1125899906842624) :
 Calls Tryz.prog 20 #[.agg (dvA D), .agg #[.int .i64 (D.ch : Int), .slice (some S) x.length sc], .int .i64 (m : Int), .int .i64 f0, .int .i64 t0] w fun e w' => (∃ B b D2 A2 c2, e = .returned (.tuple #[.agg #[.int .i64 (D.ch : Int), .slice B (m * D.ch) b], .int .i64 0, .int .i64 0, .agg (dvA { D2 with a := aj, p := D.p + posF D.n D.d aj D.f m, f := fracF D.n D.d aj D.f m, A := A2, l := L.drop (posF D.n D.d aj D.f m * D.ch), c := c2 }), .int .i64 0]) ∧ MovDv D D2 ∧ SaB w' (fun k => w.heap.size ≤ k) B (outL D.ch L D.n D.d aj D.f m) ∧ m * D.ch ≤ b ∧
  InDv w' (fun k => base k ∨ w.heap.size ≤ k) { D2 with a := aj, p := D.p + posF D.n D.d aj D.f m, f := fracF D.n D.d aj D.f m, A := A2, l := L.drop (posF D.n D.d aj D.f m * D.ch), c := c2 }) ∧ Grows w w' := by
 have hx65 := hx.f
 have hck := fun w1 (hg : Grows w w1) => dcheck_any D base (some S) sc fr' x f0 t0 w1 (h.grows hg) ok (hS.grows hg) hx hk hr h0 hs h1 h2 (by omega)
 rw [hp, hdir] at hck
 have hbl := hb.le
 have hmv := fun w1 (hg : Grows w w1) => move_any D _ S sc fr fr' m x L aj w1 (h.bd.grows hg) ok hm1 hb hf hx (hS.grows hg) hx0 hxc hL haj hm hn hpos
 have hdiv := hx.div.1
 have hch1 := hb.c1
 clear hL haj hn hpos hbl hb hf
 generalize posF D.n D.d aj D.f m = t at *
 generalize fracF D.n D.d aj D.f m = f2 at *
 generalize outL D.ch L D.n D.d aj D.f m = O at *
 generalize L.drop (t * D.ch) = L2 at *
 have dm1 : decide ((m : Int) < 0) = false := by simp
 have dm2 : decide (65536 < (m : Int)) = false := by simp only [decide_eq_false_iff_not]; omega
 have wf : IntKind.i64.wrap (fr' : Int) = (fr' : Int) := IntWalk.i64_in _ (by omega)
 have dn : ((fr' : Int) != (fr' : Int)) = false := by simp
 clear hx hS hk h0 hs h1 h2 hm h hp hx65 hdir
 go_enter Tryz.func20, Tryz.ntmps20
 have hB := ((((Below.refl w.heap.size w).alloc (Nat.le_refl _) (Obj.cells (dvA D) 51)).alloc (by simp <;> omega) (Obj.cells #[.int .i64 (D.ch : Int), .slice (some S) x.length sc] 60)).alloc (by simp <;> omega) (Obj.cells #[.int .i64 0, .slice none 0 0] 60)).alloc (by simp <;> omega) (Obj.cells #[.int .u64 0, .string ⟨#[]⟩, .int .i64 0, .int .i64 0, .int .i64 0, .int .i64 0, .int .i64 0, .slice none 0 0, .int .i64 0, .int .i64 0, .slice none 0 0, .int .i64 0, .int .i64 0, .int .i64 0, .slice none 0 0, .bool false, .int .i64 0, .int .i64 0, .int .i64 0, .int .i64 0, .int .i64 0, .int .i64 0, .int .i64 0, .int .i64 0, .int .i64 0, .int .i64 0, .int .i64 0, .int .i64 0, .slice none 0 0, .int .i64 0, .int .i64 0] 51)
 have k5 := (((Blk.new w 51 (dvA D)).alloc (Obj.cells #[.int .i64 (D.ch : Int), .slice (some S) x.length sc] 60)).alloc (Obj.cells #[.int .i64 0, .slice none 0 0] 60)).alloc (Obj.cells #[.int .u64 0, .string ⟨#[]⟩, .int .i64 0, .int .i64 0, .int .i64 0, .int .i64 0, .int .i64 0, .slice none 0 0, .int .i64 0, .int .i64 0, .slice none 0 0, .int .i64 0, .int .i64 0, .int .i64 0, .slice none 0 0, .bool false, .int .i64 0, .int .i64 0, .int .i64 0, .int .i64 0, .int .i64 0, .int .i64 0, .int .i64 0, .int .i64 0, .int .i64 0, .int .i64 0, .int .i64 0, .int .i64 0, .slice none 0 0, .int .i64 0, .int .i64 0] 51)
 have k6 := ((blk_new_at (X := (w.alloc (Obj.cells (dvA D) 51))) (n := w.heap.size + 1) (t := 60) (cs := #[.int .i64 (D.ch : Int), .slice (some S) x.length sc]) (by simp)).alloc (Obj.cells #[.int .i64 0, .slice none 0 0] 60)).alloc (Obj.cells #[.int .u64 0, .string ⟨#[]⟩, .int .i64 0, .int .i64 0, .int .i64 0, .int .i64 0, .int .i64 0, .slice none 0 0, .int .i64 0, .int .i64 0, .slice none 0 0, .int .i64 0, .int .i64 0, .int .i64 0, .slice none 0 0, .bool false, .int .i64 0, .int .i64 0, .int .i64 0, .int .i64 0, .int .i64 0, .int .i64 0, .int .i64 0, .int .i64 0, .int .i64 0, .int .i64 0, .int .i64 0, .int .i64 0, .slice none 0 0, .int .i64 0, .int .i64 0] 51)
 have k10 := (blk_new_at (X := ((w.alloc (Obj.cells (dvA D) 51)).alloc (Obj.cells #[.int .i64 (D.ch : Int), .slice (some S) x.length sc] 60))) (n := w.heap.size + 1 + 1) (t := 60) (cs := #[.int .i64 0, .slice none 0 0]) (by simp)).alloc (Obj.cells #[.int .u64 0, .string ⟨#[]⟩, .int .i64 0, .int .i64 0, .int .i64 0, .int .i64 0, .int .i64 0, .slice none 0 0, .int .i64 0, .int .i64 0, .slice none 0 0, .int .i64 0, .int .i64 0, .int .i64 0, .slice none 0 0, .bool false, .int .i64 0, .int .i64 0, .int .i64 0, .int .i64 0, .int .i64 0, .int .i64 0, .int .i64 0, .int .i64 0, .int .i64 0, .int .i64 0, .int .i64 0, .int .i64 0, .slice none 0 0, .int .i64 0, .int .i64 0] 51)
 have k13 := blk_new_at (X := (((w.alloc (Obj.cells (dvA D) 51)).alloc (Obj.cells #[.int .i64 (D.ch : Int), .slice (some S) x.length sc] 60)).alloc (Obj.cells #[.int .i64 0, .slice none 0 0] 60))) (n := w.heap.size + 1 + 1 + 1) (t := 51) (cs := #[.int .u64 0, .string ⟨#[]⟩, .int .i64 0, .int .i64 0, .int .i64 0, .int .i64 0, .int .i64 0, .slice none 0 0, .int .i64 0, .int .i64 0, .slice none 0 0, .int .i64 0, .int .i64 0, .int .i64 0, .slice none 0 0, .bool false, .int .i64 0, .int .i64 0, .int .i64 0, .int .i64 0, .int .i64 0, .int .i64 0, .int .i64 0, .int .i64 0, .int .i64 0, .int .i64 0, .int .i64 0, .int .i64 0, .slice none 0 0, .int .i64 0, .int .i64 0]) (by simp)
 go_upto_region 1 with fail
 generalize hn6 : w.heap.size + 1 = n6 at *
 generalize hn10 : n6 + 1 = n10 at *
 generalize hn13 : n10 + 1 = n13 at *
 generalize World.alloc (World.alloc (World.alloc (World.alloc w _) _) _) _ = w1 at *
 refine wp_region_lit ?_
 refine wpList_load_row rfl _ rfl rfl k5 Tryz.underlying51 rfl (dinfo _) ?_
 refine wpList_load_row rfl _ rfl rfl k6 Tryz.underlying60 rfl b60info ?_
 iterate 2
  refine wpList_plain rfl (fun K hK => ?_)
  go_simp
  refine hK _ _ ?_
  clear hK K
 refine wpList_plain rfl (fun K hK => ?_)
 go_simp
 refine (hck _ hB).mono ?_
 rintro e w2 ⟨rfl, hq⟩
 refine hK _ _ ?_
 clear hK K
 replace k5 := k5.grows hq
 replace k6 := k6.grows hq
 replace k10 := k10.grows hq
 replace k13 := k13.grows hq
 replace hB := below_grows hB (Nat.le_refl _) hq
 have hqs := hq.size
 clear hq
 have y0 := (show _ = some ((.int .i64 (D.ch : Int)) : Value) from k6.cell 0)
 have y1 := (show _ = some ((.slice (some S) x.length sc) : Value) from k6.cell 1)
 have y15 := (show _ = some ((.bool true) : Value) from (k5.cell 15).trans (by rw [← hr]; rfl))
 have dch : ¬ (D.ch : Int) = 0 := by omega
 clear hr
 go_upto_region 11 with fail
 clear y0 y1 y15
 refine wp_region_lit ?_
 refine wpList_load_row rfl _ rfl rfl k5 Tryz.underlying51 rfl (dinfo _) ?_
 refine wpList_load_row rfl _ rfl rfl k6 Tryz.underlying60 rfl b60info ?_
 iterate 1
  refine wpList_plain rfl (fun K hK => ?_)
  go_simp
  refine hK _ _ ?_
  clear hK K
 refine wpList_plain rfl (fun K hK => ?_)
 go_simp
 refine (hmv _ hB).mono ?_
 rintro e w3 ⟨⟨B, b, D2, A2, c2, rfl, hmv2, rB, hmb, hin⟩, hq⟩
 refine hK _ _ ?_
 clear hK K
 have e4 := k5.lt
 have e5 := k6.lt
 have e8 := k10.lt
 have e11 := k13.lt
 replace rB : RdB w3 (fun k => (k ≠ w.heap.size ∧ k ≠ n6 ∧ k ≠ n10 ∧ k ≠ n13) ∧ w.heap.size ≤ k) 1 B O.length (O.map (Value.int .i32)) := RdB.mono rB (fun k hk => by
  have hk : w2.heap.size ≤ k := hk
  exact ⟨by omega, by omega⟩)
 replace hin := hin.mono (b2 := (fun k => (k ≠ w.heap.size ∧ k ≠ n6 ∧ k ≠ n10 ∧ k ≠ n13) ∧ (base k ∨ w.heap.size ≤ k))) (fun k hk => by
  rcases hk with hk | hk
  ·have := hk.2; exact ⟨by omega, .inl hk.1⟩
  ·exact ⟨by omega, .inr (by omega)⟩)
 replace k5 := k5.grows hq
 replace k6 := k6.grows hq
 replace k10 := k10.grows hq
 replace k13 := k13.grows hq
 replace hB := below_grows hB (Nat.le_refl _) hq
 have hqs := hq.size
 clear hq
 iterate 5
  refine wpList_plain rfl (fun K hK => ?_)
  go_simp
  refine hK _ _ ?_
  clear hK K
 refine wpList_store_row rfl _ _ rfl rfl rfl rfl k10 b60info rfl (by simp [Value.oneCell']) ?_
 replace k5 := k5.row_far (cs' := #[.int .i64 (D.ch : Int), .slice B (m * D.ch) b]) (show w.heap.size ≠ n10 by omega)
 replace k13 := k13.row_far (cs' := #[.int .i64 (D.ch : Int), .slice B (m * D.ch) b]) (show n13 ≠ n10 by omega)
 replace rB := rB.row (g := n10) (fun hb => by have := hb.1; omega) (#[.int .i64 (D.ch : Int), .slice B (m * D.ch) b])
 replace hin := hin.row (g := n10) (fun hb => by have := hb.1; omega) (#[.int .i64 (D.ch : Int), .slice B (m * D.ch) b])
 replace k10 := k10.row (cs := #[.int .i64 (D.ch : Int), .slice B (m * D.ch) b])
 replace hB := below_row hB (show w.heap.size ≤ n10 by omega) (#[.int .i64 (D.ch : Int), .slice B (m * D.ch) b])
 generalize World.setRow w3 _ _ = w5 at *
 iterate 2
  refine wpList_plain rfl (fun K hK => ?_)
  go_simp
  refine hK _ _ ?_
  clear hK K
 refine wpList_store_row rfl _ _ rfl rfl rfl rfl k13 (dinfo _) rfl (dv_one _) ?_
 replace k10 := k10.row_far (cs' := (dvA { D2 with a := aj, p := D.p + t, f := f2, A := A2, l := L2, c := c2 })) (show n10 ≠ n13 by omega)
 replace rB := rB.row (g := n13) (fun hb => by have := hb.1; omega) ((dvA { D2 with a := aj, p := D.p + t, f := f2, A := A2, l := L2, c := c2 }))
 replace hin := hin.row (g := n13) (fun hb => by have := hb.1; omega) ((dvA { D2 with a := aj, p := D.p + t, f := f2, A := A2, l := L2, c := c2 }))
 replace k13 := k13.row (cs := (dvA { D2 with a := aj, p := D.p + t, f := f2, A := A2, l := L2, c := c2 }))
 replace hB := below_row hB (show w.heap.size ≤ n13 by omega) ((dvA { D2 with a := aj, p := D.p + t, f := f2, A := A2, l := L2, c := c2 }))
 generalize World.setRow w5 _ _ = wz at *
 go_wp2
 refine bodyPost_ret (v := .tuple #[.agg #[.int .i64 (D.ch : Int), .slice B (m * D.ch) b], .int .i64 0, .int .i64 0, .agg (dvA { D2 with a := aj, p := D.p + t, f := f2, A := A2, l := L2, c := c2 }), .int .i64 0]) ?_ rfl ⟨⟨B, b, D2, A2, c2, rfl, hmv2, RdB.mono rB (fun k hk => hk.2), hmb, hin.mono (fun k hk => hk.2)⟩, hB⟩
 have hl1 := run_loadVar_row (P := Tryz.prog) wz n10 60 60 #[.int .i64 (D.ch : Int), .slice B (m * D.ch) b] (0, 0) _ k10 Tryz.underlying60 rfl b60info
 have hl2 := run_loadVar_row (P := Tryz.prog) wz n13 51 51 (dvA { D2 with a := aj, p := D.p + t, f := f2, A := A2, l := L2, c := c2 }) (0, 0) _ k13 Tryz.underlying51 rfl (dinfo _)
 unfold results
 simp only [Tryz.results20]
 simp [asAddr, Act.put, hl1, hl2]
end Go.Proofs.YtbfdaojffffaaaaGreat

namespace Go.Proofs.YtbfdaojffffaaaaGreat
open Go.RowKit
/-- A device before it has a bridge. -/
def rawDv (D : Dv) : Dv := { D with run := false, since := 0, cap := 0, T := 0, dd := 0, G := 0, M := 0, ch := 0, n := 0, d := 0, a := 0, p := 0, f := 0, A := none, l := [], c := 0 }
theorem rawDv_cells (D : Dv) : (#[.int .u64 D.ds.id, .string D.ds.nm, .int .i64 D.ds.dir, .int .i64 D.ds.dom, .int .i64 D.ds.lat, .int .i64 D.ds.dr, .int .i64 D.ds.ji, .slice D.BA D.b.length D.bc, .int .i64 D.k, .int .i64 D.r, .slice D.MA D.m.length D.mc, .int .i64 D.s, .int .i64 D.R, .int .i64 D.P, .slice D.CA D.g.length D.cc, .bool false, .int .i64 0, .int .i64 0, .int .i64 0, .int .i64 0, .int .i64 0, .int .i64 0, .int .i64 0, .int .i64 0, .int .i64 0, .int .i64 0, .int .i64 0, .int .i64 0, .slice none 0 0, .int .i64 0, .int .i64 0] : Array Value) = dvA (rawDv D) := rfl
theorem rawDv_rt {D : Dv} (h : OkRt D) : OkRt (rawDv D) := ⟨h.r1, h.r2, h.R1, h.R2, h.P1, h.P2⟩
theorem rawDv_over (D : Dv) : ovR (dvA (rawDv D)) 17 (brA D).toList = dvA { D with run := false, since := 0 } := by
 simp [ovR, dvA, brA, rawDv]
theorem MovDv.trans {D D1 D2 : Dv} (h : MovDv D D1) (h' : MovDv D1 D2) : MovDv D D2 := by
 obtain ⟨BA, bc, MA, mc, CA, cc, A, c, rfl⟩ := h
 obtain ⟨BA, bc, MA, mc, CA, cc, A, c, rfl⟩ := h'
 exact ⟨BA, bc, MA, mc, CA, cc, A, c, rfl⟩
theorem ds_info (x : Ds) (A : Option Addr) (n c : Nat) : (Tryz.prog.info? 30).map (·.size) = some (dsA x A n c).size := by kernel_rfl
set_option maxRecDepth 100000 in
set_option maxHeartbeats 60000000 in
theorem open_any (D : Dv) (base : Nat → Prop) (pn pd j W bo : Int) (fr : Nat) (w : World) (h : InDv w base (rawDv D)) (ok : OkDv D) (hm1 : ∀ b ∈ D.b, 1 ≤ b.m.length) (hrun : D.run = false) (hsince : D.since = 0) (hG : D.G = 16) (hM : mostF D.ds.dr = D.M) (ha : D.a = 0) (hp : D.p = 0) (hf : D.f = 0)
 (hin : (D.ds.dir = 1 ∧ pn = D.P ∧ pd = 1 ∧ j = jitF D) ∨ (D.ds.dir = 2 ∧ pn = D.P * D.r / gF (D.P * D.r) D.R ∧ pd = D.R / gF (D.P * D.r) D.R ∧ j = D.ds.ji + 1))
 (hW : ceilF pn pd = W) (hdd : W / 4 = D.dd) (hpl : okPl pn pd D.ds.dr j D.dd 16) (hT : targetF pn pd D.ds.dr j D.dd 16 = D.T) (hbo : pboundF pn pd D.ds.dr j D.dd 16 = bo) (hcap : D.T + bo = D.cap) (hfr : max 0 (D.T - W) = fr) (hfc : fr ≤ D.cap) (hl : D.l = List.replicate (fr * D.ch) 0) (h64 : nomD D ≤ nomN D * 64 ∧ nomN D ≤ nomD D * 64) :
 Calls Tryz.prog 31 #[.agg (dsA D.ds D.BA D.b.length D.bc), .agg #[.int .i64 D.k, .int .i64 D.r, .slice D.MA D.m.length D.mc, .int .i64 D.s], .agg #[.slice D.CA D.g.length D.cc], .int .i64 D.R, .int .i64 D.P] w fun e w' => (∃ D2, e = .returned (.tuple #[.agg (dvA D2), .int .i64 0]) ∧ MovDv D D2 ∧ InDv w' (fun k => base k ∨ w.heap.size ≤ k) D2) ∧ Grows w w' := by
 have hdv := fun w1 (hg : Grows w w1) => dvalid_any ok.ds (c := D.bc) (h.b.grows hg)
 have hcv := fun w1 (hg : Grows w w1) => clvalid_any D.CA D.cc D.g w1 (RdB.grows h.g hg).1 ok.g
 have hset := fun w1 => u_set (rawDv D) w1 (rawDv_rt ok.rt)
 have hhas := fun w1 (hg : Grows w w1) => phasl_any (x := ⟨D.k, D.r, D.m, D.s⟩) (ci := D.mc) (h.b.grows hg) (by have := ok.ds.l2; exact Nat.le_trans this (by decide)) h.bc ok.ds.ok (h.m.grows hg).ints h.ml
 have hnom := fun w1 => u_nominal (rawDv D) w1 (rawDv_rt ok.rt)
 rw [show nomN (rawDv D) = nomN D from rfl, show nomD (rawDv D) = nomD D from rfl] at hnom
 have hpo : ∀ w1, Calls Tryz.prog 95 #[.agg (dvA (rawDv D))] w1 fun e w' => e = .returned (.int .i64 (D.ch : Int)) ∧ Grows w1 w' := fun w1 => by
  have hz := u_ports (rawDv D) w1
  rwa [show (rawDv D).m = D.m from rfl, ← ok.ch] at hz
 have hin2 : (∀ w1, Calls Tryz.prog 90 #[.agg (dvA (rawDv D))] w1 fun e w' => e = .returned (.agg #[.int .i64 pn, .int .i64 pd]) ∧ Grows w1 w') ∧ (∀ w1, Calls Tryz.prog 93 #[.agg (dvA (rawDv D))] w1 fun e w' => e = .returned (.int .i64 j) ∧ Grows w1 w') ∧ (∀ w1, Calls Tryz.prog 96 #[.agg (dvA (rawDv D))] w1 fun e w' => e = .returned (.agg #[.int .i64 D.n, .int .i64 D.d]) ∧ Grows w1 w') := by
  rcases hin with ⟨hd, e1, e2, e3⟩ | ⟨hd, e1, e2, e3⟩
  ·obtain ⟨e4, e5⟩ := ok.nm hd
   rw [e1, e2, e3, e4, e5]
   exact ⟨fun w1 => u_inputsP (rawDv D) w1 hd, fun w1 => u_jitterP (rawDv D) w1 (rawDv_rt ok.rt) ok.ds.ji hd, fun w1 => u_baseP (rawDv D) w1 (rawDv_rt ok.rt) hd⟩
  ·obtain ⟨e4, e5⟩ := ok.nmc hd
   rw [e1, e2, e3, e4, e5]
   exact ⟨fun w1 => u_inputsC (rawDv D) w1 (rawDv_rt ok.rt) hd, fun w1 => u_jitterC (rawDv D) w1 ok.ds.ji hd, fun w1 => u_baseC (rawDv D) w1 (rawDv_rt ok.rt) hd⟩
 obtain ⟨hinp, hjit, hbas⟩ := hin2
 have hde := hpl.1
 have hceil := fun w1 => ceil_lo 1 pn pd w1 hde.1 (by omega) (by omega) (by obtain ⟨q1, q2, q3, q4, -⟩ := hde; have := (okR_bd q1).1; omega)
 rw [Int.one_mul, hW] at hceil
 have hWb := ceil_bd (a := pn) (b := pd) (by have := okR_bd hde.1; omega) (by have := okR_bd hde.1; omega)
 have hpnb : pn ≤ 68719476736 := (okR_bd hde.1).2.2.1
 rw [hW] at hWb
 have hplan := fun w1 => cplan_any pn pd D.ds.dr j D.dd 16 w1 hpl
 rw [hT, hbo, hM, hcap] at hplan
 have hdir := ok.ds.dir
 have hchb : 1 ≤ D.ch ∧ D.ch ≤ 8 := by obtain ⟨_, hb, _⟩ := ok.blk; exact ⟨hb.c1, hb.c2⟩
 have hcpb := ok.cap
 have hbnew := fun w1 => bnew_any (ch := D.ch) (fr := fr) (cap := D.cap) (T := D.T) (dd := D.dd) (G := 16) (M := D.M) (n := D.n) (d := D.d) w1 (by have := ok.ct; rwa [hG] at this) (by have := ok.ph; rwa [ha, hp, hf] at this) hchb.1 hchb.2 hcpb.1 hcpb.2 hfc
 have hlen : fr * D.ch = D.l.length := by rw [hl, List.length_replicate]
 rw [hlen, ← hlen, ← hl, hlen] at hbnew
 have hll : D.l.length ≤ 1000000 := by obtain ⟨_, hb, _⟩ := ok.blk; have := hb.le; omega
 have how := fun D1 base1 w1 (e : MovDv D D1) (hi : InDv w1 base1 D1) => own_any D1 base1 w1 hi (by obtain ⟨_, _, _, _, _, _, _, _, rfl⟩ := e; exact ok.ds.l1) (by obtain ⟨_, _, _, _, _, _, _, _, rfl⟩ := e; have := ok.ds.l2; exact Nat.le_trans this (by decide)) (by obtain ⟨_, _, _, _, _, _, _, _, rfl⟩ := e; exact ok.ds.ok) (by obtain ⟨_, _, _, _, _, _, _, _, rfl⟩ := e; exact hm1) (by obtain ⟨_, _, _, _, _, _, _, _, rfl⟩ := e; have := ok.g.le; exact Nat.le_trans this (by decide)) (by obtain ⟨_, _, _, _, _, _, _, _, rfl⟩ := e; exact hll)
 dsimp only [rawDv] at hdv hhas
 rw [ok.has] at hhas
 have hct : 0 ≤ D.T ∧ D.T ≤ 65536 := ⟨ok.ct.1, ok.ct.2.1⟩
 obtain ⟨hn1, hn2, hn3, hn4, hn5⟩ := nom_ok ok.rt
 obtain ⟨h641, h642⟩ := h64
 have HR := Lib.hid ok.rt
 have hr2 := ok.rt.r2
 have hR2 := ok.rt.R2
 have Hraw : Hid ((∀ A c, brA { D with A := A, c := c } = #[.int .i64 (D.cap : Int), .int .i64 D.T, .int .i64 D.dd, .int .i64 16, .int .i64 D.M, .int .i64 (D.ch : Int), .int .i64 D.n, .int .i64 D.d, .int .i64 0, .int .i64 0, .int .i64 0, .slice A D.l.length c, .int .i64 0, .int .i64 0]) ∧ (∀ A c, ({ D with run := false, since := 0, A := A, c := c } : Dv) = { D with A := A, c := c })) := Lib.hid ⟨fun A c => by simp only [brA, hG, ha, hp, hf], fun A c => by rw [← hrun, ← hsince]⟩
 have hQ : IntKind.i64.wrap (Int.tdiv W 4) = D.dd := by
  rw [Int.tdiv_eq_ediv_of_nonneg hWb.1, hdd]
  exact IntWalk.i64_in _ (by omega)
 have hsub : IntKind.i64.wrap (D.T - W) = D.T - W := IntWalk.i64_in _ (by omega)
 have hwW : IntKind.i64.wrap W = W := IntWalk.i64_in _ (by omega)
 have w64a : IntKind.i64.wrap (nomN D * 64) = nomN D * 64 := IntWalk.i64_in _ (by omega)
 have w64b : IntKind.i64.wrap (nomD D * 64) = nomD D * 64 := IntWalk.i64_in _ (by omega)
 have d64a : decide (nomN D * 64 < nomD D) = false := by simp only [decide_eq_false_iff_not]; omega
 have d64b : decide (nomD D * 64 < nomN D) = false := by simp only [decide_eq_false_iff_not]; omega
 have HI0 := Lib.hid h
 clear h hm1 hrun hsince hG hM ha hp hf hin hW hdd hpl hT hbo hcap hl hlen hde hpnb ok hll hdir h641 h642 hn1 hn2 hn3 hn4 hn5
 go_enter Tryz.func31, Tryz.ntmps31
 have hB := ((((Below.refl w.heap.size w).alloc (Nat.le_refl _) (Obj.cells (dsA D.ds D.BA D.b.length D.bc) 30)).alloc (by simp <;> omega) (Obj.cells #[.int .i64 D.k, .int .i64 D.r, .slice D.MA D.m.length D.mc, .int .i64 D.s] 35)).alloc (by simp <;> omega) (Obj.cells #[.slice D.CA D.g.length D.cc] 38)).alloc (by simp <;> omega) (Obj.cells #[.int .u64 0, .string ⟨#[]⟩, .int .i64 0, .int .i64 0, .int .i64 0, .int .i64 0, .int .i64 0, .slice none 0 0, .int .i64 0, .int .i64 0, .slice none 0 0, .int .i64 0, .int .i64 0, .int .i64 0, .slice none 0 0, .bool false, .int .i64 0, .int .i64 0, .int .i64 0, .int .i64 0, .int .i64 0, .int .i64 0, .int .i64 0, .int .i64 0, .int .i64 0, .int .i64 0, .int .i64 0, .int .i64 0, .slice none 0 0, .int .i64 0, .int .i64 0] 51)
 have k5 := (((Blk.new w 30 (dsA D.ds D.BA D.b.length D.bc)).alloc (Obj.cells #[.int .i64 D.k, .int .i64 D.r, .slice D.MA D.m.length D.mc, .int .i64 D.s] 35)).alloc (Obj.cells #[.slice D.CA D.g.length D.cc] 38)).alloc (Obj.cells #[.int .u64 0, .string ⟨#[]⟩, .int .i64 0, .int .i64 0, .int .i64 0, .int .i64 0, .int .i64 0, .slice none 0 0, .int .i64 0, .int .i64 0, .slice none 0 0, .int .i64 0, .int .i64 0, .int .i64 0, .slice none 0 0, .bool false, .int .i64 0, .int .i64 0, .int .i64 0, .int .i64 0, .int .i64 0, .int .i64 0, .int .i64 0, .int .i64 0, .int .i64 0, .int .i64 0, .int .i64 0, .int .i64 0, .slice none 0 0, .int .i64 0, .int .i64 0] 51)
 have k6 := ((blk_new_at (X := (w.alloc (Obj.cells (dsA D.ds D.BA D.b.length D.bc) 30))) (n := w.heap.size + 1) (t := 35) (cs := #[.int .i64 D.k, .int .i64 D.r, .slice D.MA D.m.length D.mc, .int .i64 D.s]) (by simp)).alloc (Obj.cells #[.slice D.CA D.g.length D.cc] 38)).alloc (Obj.cells #[.int .u64 0, .string ⟨#[]⟩, .int .i64 0, .int .i64 0, .int .i64 0, .int .i64 0, .int .i64 0, .slice none 0 0, .int .i64 0, .int .i64 0, .slice none 0 0, .int .i64 0, .int .i64 0, .int .i64 0, .slice none 0 0, .bool false, .int .i64 0, .int .i64 0, .int .i64 0, .int .i64 0, .int .i64 0, .int .i64 0, .int .i64 0, .int .i64 0, .int .i64 0, .int .i64 0, .int .i64 0, .int .i64 0, .slice none 0 0, .int .i64 0, .int .i64 0] 51)
 have k7 := (blk_new_at (X := ((w.alloc (Obj.cells (dsA D.ds D.BA D.b.length D.bc) 30)).alloc (Obj.cells #[.int .i64 D.k, .int .i64 D.r, .slice D.MA D.m.length D.mc, .int .i64 D.s] 35))) (n := w.heap.size + 1 + 1) (t := 38) (cs := #[.slice D.CA D.g.length D.cc]) (by simp)).alloc (Obj.cells #[.int .u64 0, .string ⟨#[]⟩, .int .i64 0, .int .i64 0, .int .i64 0, .int .i64 0, .int .i64 0, .slice none 0 0, .int .i64 0, .int .i64 0, .slice none 0 0, .int .i64 0, .int .i64 0, .int .i64 0, .slice none 0 0, .bool false, .int .i64 0, .int .i64 0, .int .i64 0, .int .i64 0, .int .i64 0, .int .i64 0, .int .i64 0, .int .i64 0, .int .i64 0, .int .i64 0, .int .i64 0, .int .i64 0, .slice none 0 0, .int .i64 0, .int .i64 0] 51)
 have k10 := blk_new_at (X := (((w.alloc (Obj.cells (dsA D.ds D.BA D.b.length D.bc) 30)).alloc (Obj.cells #[.int .i64 D.k, .int .i64 D.r, .slice D.MA D.m.length D.mc, .int .i64 D.s] 35)).alloc (Obj.cells #[.slice D.CA D.g.length D.cc] 38))) (n := w.heap.size + 1 + 1 + 1) (t := 51) (cs := #[.int .u64 0, .string ⟨#[]⟩, .int .i64 0, .int .i64 0, .int .i64 0, .int .i64 0, .int .i64 0, .slice none 0 0, .int .i64 0, .int .i64 0, .slice none 0 0, .int .i64 0, .int .i64 0, .int .i64 0, .slice none 0 0, .bool false, .int .i64 0, .int .i64 0, .int .i64 0, .int .i64 0, .int .i64 0, .int .i64 0, .int .i64 0, .int .i64 0, .int .i64 0, .int .i64 0, .int .i64 0, .int .i64 0, .slice none 0 0, .int .i64 0, .int .i64 0]) (by simp)
 go_upto_region 1 with fail
 generalize hn6 : w.heap.size + 1 = n6 at *
 generalize hn7 : n6 + 1 = n7 at *
 generalize hn10 : n7 + 1 = n10 at *
 generalize World.alloc (World.alloc (World.alloc (World.alloc w _) _) _) _ = w1 at *
 refine wp_region_lit ?_
 refine wpList_load_row rfl _ rfl rfl k5 Tryz.underlying30 rfl (ds_info _ _ _ _) ?_
 refine wpList_load_row rfl _ rfl rfl k6 Tryz.underlying35 rfl (by kernel_rfl) ?_
 refine wpList_plain rfl (fun K hK => ?_)
 go_simp
 refine hK _ _ ?_
 clear hK K
 refine wpList_plain rfl (fun K hK => ?_)
 go_simp
 refine hK _ _ ?_
 clear hK K
 refine wpList_load_row rfl _ rfl rfl k7 Tryz.underlying38 rfl (by kernel_rfl) ?_
 simp only [dsA]
 iterate 2
  refine wpList_plain rfl (fun K hK => ?_)
  go_simp
  refine hK _ _ ?_
  clear hK K
 rw [rawDv_cells D]
 rw [show (#[.int .u64 D.ds.id, .string D.ds.nm, .int .i64 D.ds.dir, .int .i64 D.ds.dom, .int .i64 D.ds.lat, .int .i64 D.ds.dr, .int .i64 D.ds.ji, .slice D.BA D.b.length D.bc] : Array Value) = dsA D.ds D.BA D.b.length D.bc from rfl]
 iterate 1
  refine wpList_plain rfl (fun K hK => ?_)
  go_simp
  refine hK _ _ ?_
  clear hK K
 have e10 := k10.lt
 have k12 := Blk.new w1 171 #[.int .u64 0, .string ⟨#[]⟩, .int .i64 0, .int .i64 0, .int .i64 0, .int .i64 0, .int .i64 0, .slice none 0 0, .int .i64 0, .int .i64 0, .slice none 0 0, .int .i64 0, .int .i64 0, .int .i64 0, .slice none 0 0, .bool false, .int .i64 0, .int .i64 0, .int .i64 0, .int .i64 0, .int .i64 0, .int .i64 0, .int .i64 0, .int .i64 0, .int .i64 0, .int .i64 0, .int .i64 0, .int .i64 0, .slice none 0 0, .int .i64 0, .int .i64 0]
 replace k5 := k5.alloc (Obj.cells #[.int .u64 0, .string ⟨#[]⟩, .int .i64 0, .int .i64 0, .int .i64 0, .int .i64 0, .int .i64 0, .slice none 0 0, .int .i64 0, .int .i64 0, .slice none 0 0, .int .i64 0, .int .i64 0, .int .i64 0, .slice none 0 0, .bool false, .int .i64 0, .int .i64 0, .int .i64 0, .int .i64 0, .int .i64 0, .int .i64 0, .int .i64 0, .int .i64 0, .int .i64 0, .int .i64 0, .int .i64 0, .int .i64 0, .slice none 0 0, .int .i64 0, .int .i64 0] 171)
 replace k6 := k6.alloc (Obj.cells #[.int .u64 0, .string ⟨#[]⟩, .int .i64 0, .int .i64 0, .int .i64 0, .int .i64 0, .int .i64 0, .slice none 0 0, .int .i64 0, .int .i64 0, .slice none 0 0, .int .i64 0, .int .i64 0, .int .i64 0, .slice none 0 0, .bool false, .int .i64 0, .int .i64 0, .int .i64 0, .int .i64 0, .int .i64 0, .int .i64 0, .int .i64 0, .int .i64 0, .int .i64 0, .int .i64 0, .int .i64 0, .int .i64 0, .slice none 0 0, .int .i64 0, .int .i64 0] 171)
 replace k7 := k7.alloc (Obj.cells #[.int .u64 0, .string ⟨#[]⟩, .int .i64 0, .int .i64 0, .int .i64 0, .int .i64 0, .int .i64 0, .slice none 0 0, .int .i64 0, .int .i64 0, .slice none 0 0, .int .i64 0, .int .i64 0, .int .i64 0, .slice none 0 0, .bool false, .int .i64 0, .int .i64 0, .int .i64 0, .int .i64 0, .int .i64 0, .int .i64 0, .int .i64 0, .int .i64 0, .int .i64 0, .int .i64 0, .int .i64 0, .int .i64 0, .slice none 0 0, .int .i64 0, .int .i64 0] 171)
 replace k10 := k10.alloc (Obj.cells #[.int .u64 0, .string ⟨#[]⟩, .int .i64 0, .int .i64 0, .int .i64 0, .int .i64 0, .int .i64 0, .slice none 0 0, .int .i64 0, .int .i64 0, .slice none 0 0, .int .i64 0, .int .i64 0, .int .i64 0, .slice none 0 0, .bool false, .int .i64 0, .int .i64 0, .int .i64 0, .int .i64 0, .int .i64 0, .int .i64 0, .int .i64 0, .int .i64 0, .int .i64 0, .int .i64 0, .int .i64 0, .int .i64 0, .slice none 0 0, .int .i64 0, .int .i64 0] 171)
 replace hB := hB.alloc hB.size (Obj.cells #[.int .u64 0, .string ⟨#[]⟩, .int .i64 0, .int .i64 0, .int .i64 0, .int .i64 0, .int .i64 0, .slice none 0 0, .int .i64 0, .int .i64 0, .slice none 0 0, .int .i64 0, .int .i64 0, .int .i64 0, .slice none 0 0, .bool false, .int .i64 0, .int .i64 0, .int .i64 0, .int .i64 0, .int .i64 0, .int .i64 0, .int .i64 0, .int .i64 0, .int .i64 0, .int .i64 0, .int .i64 0, .int .i64 0, .slice none 0 0, .int .i64 0, .int .i64 0] 171)
 generalize hn12 : w1.heap.size = n12 at *
 generalize World.alloc w1 _ = w2 at *
 refine wpList_store_row rfl _ _ rfl rfl rfl rfl k12 (uinfo _) rfl (dv_one _) ?_
 replace k5 := k5.row_far (cs' := (dvA (rawDv D))) (show w.heap.size ≠ n12 by omega)
 replace k6 := k6.row_far (cs' := (dvA (rawDv D))) (show n6 ≠ n12 by omega)
 replace k7 := k7.row_far (cs' := (dvA (rawDv D))) (show n7 ≠ n12 by omega)
 replace k10 := k10.row_far (cs' := (dvA (rawDv D))) (show n10 ≠ n12 by omega)
 replace k12 := k12.row (cs := (dvA (rawDv D)))
 replace hB := below_row hB (show w.heap.size ≤ n12 by omega) ((dvA (rawDv D)))
 generalize World.setRow w2 _ _ = w3 at *
 go_upto_region 2 with fail
 refine wp_region_lit ?_
 refine wpList_load_row rfl _ rfl rfl k5 Tryz.underlying30 rfl (ds_info _ _ _ _) ?_
 refine wpList_plain rfl (fun K hK => ?_)
 go_simp
 refine (hdv _ hB).mono ?_
 rintro e w4 ⟨rfl, hq⟩
 refine hK _ _ ?_
 clear hK K
 replace k5 := k5.grows hq
 replace k6 := k6.grows hq
 replace k7 := k7.grows hq
 replace k10 := k10.grows hq
 replace k12 := k12.grows hq
 replace hB := below_grows hB (Nat.le_refl _) hq
 have hqs := hq.size
 clear hq
 refine wpList_plain rfl (fun K hK => ?_)
 go_simp
 refine hK _ _ ?_
 clear hK K
 refine wpList_plain rfl (fun K hK => ?_)
 go_simp
 refine hK _ _ ?_
 clear hK K
 refine wpList_load_rowg (by first | rfl | kernel_rfl) _ rfl rfl k7 Tryz.underlying38 rfl (by kernel_rfl) ?_
 refine BigFrame.wpList_want (by first | rfl | kernel_rfl) (fun K hK => ?_)
 go_simp
 refine (hcv _ hB).mono ?_
 rintro e w5 ⟨rfl, hq⟩
 refine hK _ _ ?_
 clear hK K
 replace k5 := k5.grows hq
 replace k6 := k6.grows hq
 replace k7 := k7.grows hq
 replace k10 := k10.grows hq
 replace k12 := k12.grows hq
 replace hB := below_grows hB (Nat.le_refl _) hq
 have hqs := hq.size
 clear hq
 refine BigFrame.wpList_want (by first | rfl | kernel_rfl) (fun K hK => ?_)
 go_simp
 refine hK _ _ ?_
 clear hK K
 refine wpList_plain rfl (fun K hK => ?_)
 go_simp
 refine hK _ _ ?_
 clear hK K
 refine wpList_plain rfl (fun K hK => ?_)
 go_simp
 refine hK _ _ ?_
 clear hK K
 refine wpList_load_rowg (by first | rfl | kernel_rfl) _ rfl rfl k12 Tryz.underlying171 rfl (uinfo _) ?_
 refine BigFrame.wpList_want (by first | rfl | kernel_rfl) (fun K hK => ?_)
 go_simp
 refine (hset _).mono ?_
 rintro e w6 ⟨rfl, hq⟩
 refine hK _ _ ?_
 clear hK K
 replace k5 := k5.grows hq
 replace k6 := k6.grows hq
 replace k7 := k7.grows hq
 replace k10 := k10.grows hq
 replace k12 := k12.grows hq
 replace hB := below_grows hB (Nat.le_refl _) hq
 have hqs := hq.size
 clear hq
 refine BigFrame.wpList_want (by first | rfl | kernel_rfl) (fun K hK => ?_)
 go_simp
 refine hK _ _ ?_
 clear hK K
 refine wpList_plain rfl (fun K hK => ?_)
 go_simp
 refine hK _ _ ?_
 clear hK K
 have x57 := (show _ = some ((.slice D.BA D.b.length D.bc) : Value) from k5.cell 7)
 go_upto_region 4 with fail
 refine wp_region_lit ?_
 refine wpList_plain rfl (fun K hK => ?_)
 go_simp
 refine hK _ _ ?_
 clear hK K
 refine wpList_plain rfl (fun K hK => ?_)
 go_simp
 refine hK _ _ ?_
 clear hK K
 refine wpList_load_row rfl _ rfl rfl k6 Tryz.underlying35 rfl (by kernel_rfl) ?_
 refine wpList_plain rfl (fun K hK => ?_)
 go_simp
 refine (hhas _ hB).mono ?_
 rintro e w7 ⟨rfl, hq⟩
 refine hK _ _ ?_
 clear hK K
 replace k5 := k5.grows hq
 replace k6 := k6.grows hq
 replace k7 := k7.grows hq
 replace k10 := k10.grows hq
 replace k12 := k12.grows hq
 replace hB := below_grows hB (Nat.le_refl _) hq
 have hqs := hq.size
 clear hq
 clear x57
 refine wpList_plain rfl (fun K hK => ?_)
 go_simp
 refine hK _ _ ?_
 clear hK K
 go_upto_region 6 with fail
 refine wp_region_lit ?_
 refine wpList_load_row rfl _ rfl rfl k12 Tryz.underlying171 rfl (uinfo _) ?_
 refine wpList_plain rfl (fun K hK => ?_)
 go_simp
 refine (hnom _).mono ?_
 rintro e w8 ⟨rfl, hq⟩
 refine hK _ _ ?_
 clear hK K
 replace k5 := k5.grows hq
 replace k6 := k6.grows hq
 replace k7 := k7.grows hq
 replace k10 := k10.grows hq
 replace k12 := k12.grows hq
 replace hB := below_grows hB (Nat.le_refl _) hq
 have hqs := hq.size
 clear hq
 refine wpList_plain rfl (fun K hK => ?_)
 go_simp
 refine hK _ _ ?_
 clear hK K
 have e12 := k12.lt
 have k13 := Blk.new w8 42 #[.int .i64 0, .int .i64 0]
 replace k5 := k5.alloc (Obj.cells #[.int .i64 0, .int .i64 0] 42)
 replace k6 := k6.alloc (Obj.cells #[.int .i64 0, .int .i64 0] 42)
 replace k7 := k7.alloc (Obj.cells #[.int .i64 0, .int .i64 0] 42)
 replace k10 := k10.alloc (Obj.cells #[.int .i64 0, .int .i64 0] 42)
 replace k12 := k12.alloc (Obj.cells #[.int .i64 0, .int .i64 0] 42)
 replace hB := hB.alloc hB.size (Obj.cells #[.int .i64 0, .int .i64 0] 42)
 generalize hn13 : w8.heap.size = n13 at *
 generalize World.alloc w8 _ = w9 at *
 refine wpList_store_row rfl _ _ rfl rfl rfl rfl k13 (by kernel_rfl) rfl (by simp [Value.oneCell']) ?_
 replace k5 := k5.row_far (cs' := #[.int .i64 (nomN D), .int .i64 (nomD D)]) (show w.heap.size ≠ n13 by omega)
 replace k6 := k6.row_far (cs' := #[.int .i64 (nomN D), .int .i64 (nomD D)]) (show n6 ≠ n13 by omega)
 replace k7 := k7.row_far (cs' := #[.int .i64 (nomN D), .int .i64 (nomD D)]) (show n7 ≠ n13 by omega)
 replace k10 := k10.row_far (cs' := #[.int .i64 (nomN D), .int .i64 (nomD D)]) (show n10 ≠ n13 by omega)
 replace k12 := k12.row_far (cs' := #[.int .i64 (nomN D), .int .i64 (nomD D)]) (show n12 ≠ n13 by omega)
 replace k13 := k13.row (cs := #[.int .i64 (nomN D), .int .i64 (nomD D)])
 replace hB := below_row hB (show w.heap.size ≤ n13 by omega) (#[.int .i64 (nomN D), .int .i64 (nomD D)])
 generalize World.setRow w9 _ _ = w10 at *
 have y0 := (show _ = some ((.int .i64 (nomN D)) : Value) from k13.cell 0)
 have y1 := (show _ = some ((.int .i64 (nomD D)) : Value) from k13.cell 1)
 go_upto_region 9 with fail
 refine wp_region_lit ?_
 refine wpList_load_row rfl _ rfl rfl k12 Tryz.underlying171 rfl (uinfo _) ?_
 refine wpList_plain rfl (fun K hK => ?_)
 go_simp
 refine (hinp _).mono ?_
 rintro e w11 ⟨rfl, hq⟩
 refine hK _ _ ?_
 clear hK K
 replace k5 := k5.grows hq
 replace k6 := k6.grows hq
 replace k7 := k7.grows hq
 replace k10 := k10.grows hq
 replace k12 := k12.grows hq
 replace hB := below_grows hB (Nat.le_refl _) hq
 have hqs := hq.size
 clear hq
 clear y0 y1 k13
 refine wpList_plain rfl (fun K hK => ?_)
 go_simp
 refine hK _ _ ?_
 clear hK K
 clear e12
 have e12 := k12.lt
 have k14 := Blk.new w11 42 #[.int .i64 0, .int .i64 0]
 replace k5 := k5.alloc (Obj.cells #[.int .i64 0, .int .i64 0] 42)
 replace k6 := k6.alloc (Obj.cells #[.int .i64 0, .int .i64 0] 42)
 replace k7 := k7.alloc (Obj.cells #[.int .i64 0, .int .i64 0] 42)
 replace k10 := k10.alloc (Obj.cells #[.int .i64 0, .int .i64 0] 42)
 replace k12 := k12.alloc (Obj.cells #[.int .i64 0, .int .i64 0] 42)
 replace hB := hB.alloc hB.size (Obj.cells #[.int .i64 0, .int .i64 0] 42)
 generalize hn14 : w11.heap.size = n14 at *
 generalize World.alloc w11 _ = w12 at *
 refine wpList_store_row rfl _ _ rfl rfl rfl rfl k14 (by kernel_rfl) rfl (by simp [Value.oneCell']) ?_
 replace k5 := k5.row_far (cs' := #[.int .i64 pn, .int .i64 pd]) (show w.heap.size ≠ n14 by omega)
 replace k6 := k6.row_far (cs' := #[.int .i64 pn, .int .i64 pd]) (show n6 ≠ n14 by omega)
 replace k7 := k7.row_far (cs' := #[.int .i64 pn, .int .i64 pd]) (show n7 ≠ n14 by omega)
 replace k10 := k10.row_far (cs' := #[.int .i64 pn, .int .i64 pd]) (show n10 ≠ n14 by omega)
 replace k12 := k12.row_far (cs' := #[.int .i64 pn, .int .i64 pd]) (show n12 ≠ n14 by omega)
 replace k14 := k14.row (cs := #[.int .i64 pn, .int .i64 pd])
 replace hB := below_row hB (show w.heap.size ≤ n14 by omega) (#[.int .i64 pn, .int .i64 pd])
 generalize World.setRow w12 _ _ = w13 at *
 go_upto_region 10 with fail
 refine wp_region_lit ?_
 refine wpList_load_row rfl _ rfl rfl k14 Tryz.underlying42 rfl (by kernel_rfl) ?_
 refine wpList_plain rfl (fun K hK => ?_)
 go_simp
 refine (hceil _).mono ?_
 rintro e w14 ⟨rfl, hq⟩
 refine hK _ _ ?_
 clear hK K
 replace k5 := k5.grows hq
 replace k6 := k6.grows hq
 replace k7 := k7.grows hq
 replace k10 := k10.grows hq
 replace k12 := k12.grows hq
 replace k14 := k14.grows hq
 replace hB := below_grows hB (Nat.le_refl _) hq
 have hqs := hq.size
 clear hq
 refine wpList_plain rfl (fun K hK => ?_)
 go_simp
 refine hK _ _ ?_
 clear hK K
 go_upto_region 11 with fail
 obtain ⟨S, HI, HO⟩ := hideS fun (L : Ran) (vs : Nat → Value) (w' : World) => Below w.heap.size w w' ∧ Blk w' w.heap.size 30 (dsA D.ds D.BA D.b.length D.bc) ∧ Blk w' n12 171 (dvA (rawDv D)) ∧ Blk w' n14 42 #[.int .i64 pn, .int .i64 pd] ∧ Blk w' n10 51 #[.int .u64 0, .string ⟨#[]⟩, .int .i64 0, .int .i64 0, .int .i64 0, .int .i64 0, .int .i64 0, .slice none 0 0, .int .i64 0, .int .i64 0, .slice none 0 0, .int .i64 0, .int .i64 0, .int .i64 0, .slice none 0 0, .bool false, .int .i64 0, .int .i64 0, .int .i64 0, .int .i64 0, .int .i64 0, .int .i64 0, .int .i64 0, .int .i64 0, .int .i64 0, .int .i64 0, .int .i64 0, .int .i64 0, .slice none 0 0, .int .i64 0, .int .i64 0] ∧ (L 12 = true → ∃ G, vs 12 = .pointer (some ⟨G, 0, none⟩) ∧ (n12 < G ∧ w.heap.size < G ∧ n10 < G ∧ n14 < G ∧ w.heap.size ≤ G) ∧ (L 13 = false → Blk w' G 40 #[.int .i64 0, .int .i64 0, .int .i64 0, .int .i64 0]) ∧ (L 13 = true → Blk w' G 40 #[.int .i64 D.T, .int .i64 D.dd, .int .i64 16, .int .i64 D.M])) ∧ (L 13 = true → L 12 = true) ∧ KnS [some (.agg #[.int .i64 pn, .int .i64 pd]), some (.pointer (some ⟨w.heap.size, 5, none⟩)), some (.int .i64 D.ds.dr), some (.agg (dvA (rawDv D))), some (.int .i64 j), some (.int .i64 W), some (.int .i64 D.dd), some (.tuple #[.agg #[.int .i64 D.T, .int .i64 D.dd, .int .i64 16, .int .i64 D.M], .int .i64 (D.cap : Int), .int .i64 0]), some (.tuple #[.agg #[.int .i64 D.T, .int .i64 D.dd, .int .i64 16, .int .i64 D.M], .int .i64 (D.cap : Int), .int .i64 0]), some (.agg #[.int .i64 D.T, .int .i64 D.dd, .int .i64 16, .int .i64 D.M]), some (.int .i64 (D.cap : Int)), some (.int .i64 0), none, some (undef), some (.int .i64 (D.cap : Int)), some (.int .i64 0)] L vs
 refine wp_region_genU S 111 (by kernel_rfl) (by kernel_rfl) rfl ?_ ?_
 ·exact HI.out _ _ _ ⟨hB.drew, k5.drew, k12.drew, k14.drew, k10.drew, (fun e => by cases e), (fun e => by cases e), kn_none _ _⟩
 refine gen_consR (fun vs L w1 hL hw1 => ?_) ?_
 ·obtain ⟨h0, h1, h2, h3, h4, g12, c12, q⟩ := HO.out _ _ _ hw1
  refine gen_plain rfl ?_
  refine gr_ldrow (cs := #[.int .i64 pn, .int .i64 pd]) _ rfl rfl h3 Tryz.underlying42 rfl (by kernel_rfl) ?_
  exact HI.out _ _ _ ⟨h0, h1, h2, h3, h4, (fun e => by obtain ⟨G, eG, hG, y0, y1⟩ := (g12 (upd_ne e (by decide))); exact ⟨G, eG, hG, fun e => (y0 (upd_ne e (by decide))), fun e => (y1 (upd_ne e (by decide)))⟩), fun e => (c12 (upd_ne e (by decide))), kn_known q rfl⟩
 refine gen_consR (fun vs L w1 hL hw1 => ?_) ?_
 ·obtain ⟨h0, h1, h2, h3, h4, g12, c12, q⟩ := HO.out _ _ _ hw1
  refine gen_plain rfl ?_
  go_simp
  exact gr_val (HI.out _ _ _ ⟨h0, h1, h2, h3, h4, (fun e => by obtain ⟨G, eG, hG, y0, y1⟩ := (g12 (upd_ne e (by decide))); exact ⟨G, eG, hG, fun e => (y0 (upd_ne e (by decide))), fun e => (y1 (upd_ne e (by decide)))⟩), fun e => (c12 (upd_ne e (by decide))), kn_known q rfl⟩)
 refine gen_consR (fun vs L w1 hL hw1 => ?_) ?_
 ·obtain ⟨h0, h1, h2, h3, h4, g12, c12, q⟩ := HO.out _ _ _ hw1
  have l1 : L 1 = true := hL.need 1 (by kernel_rfl)
  have e1 := q 1 _ rfl l1
  have xc := (show _ = some ((.int .i64 D.ds.dr) : Value) from h1.cell 5)
  refine gen_plain rfl ?_
  simp only [e1]
  go_simp
  exact gr_val (HI.out _ _ _ ⟨h0, h1, h2, h3, h4, (fun e => by obtain ⟨G, eG, hG, y0, y1⟩ := (g12 (upd_ne e (by decide))); exact ⟨G, eG, hG, fun e => (y0 (upd_ne e (by decide))), fun e => (y1 (upd_ne e (by decide)))⟩), fun e => (c12 (upd_ne e (by decide))), kn_known q rfl⟩)
 refine gen_consR (fun vs L w1 hL hw1 => ?_) ?_
 ·obtain ⟨h0, h1, h2, h3, h4, g12, c12, q⟩ := HO.out _ _ _ hw1
  refine gen_plain rfl ?_
  refine gr_ldrow (cs := (dvA (rawDv D))) _ rfl rfl h2 Tryz.underlying171 rfl (uinfo _) ?_
  exact HI.out _ _ _ ⟨h0, h1, h2, h3, h4, (fun e => by obtain ⟨G, eG, hG, y0, y1⟩ := (g12 (upd_ne e (by decide))); exact ⟨G, eG, hG, fun e => (y0 (upd_ne e (by decide))), fun e => (y1 (upd_ne e (by decide)))⟩), fun e => (c12 (upd_ne e (by decide))), kn_known q rfl⟩
 refine gen_consR (fun vs L w1 hL hw1 => ?_) ?_
 ·obtain ⟨h0, h1, h2, h3, h4, g12, c12, q⟩ := HO.out _ _ _ hw1
  have l3 : L 3 = true := hL.need 3 (by kernel_rfl)
  have e3 := q 3 _ rfl l3
  refine gen_plain rfl ?_
  simp only [e3]
  go_simp
  refine gr_call ?_
  refine (hjit _).mono ?_
  rintro e wc ⟨rfl, hg⟩
  exact ⟨_, rfl, HI.out _ _ _ ⟨below_grows h0 (Nat.le_refl _) hg, h1.grows hg, h2.grows hg, h3.grows hg, h4.grows hg, (fun e => by obtain ⟨G, eG, hG, y0, y1⟩ := (g12 (upd_ne e (by decide))); exact ⟨G, eG, hG, fun e => (y0 (upd_ne e (by decide))).grows hg, fun e => (y1 (upd_ne e (by decide))).grows hg⟩), fun e => (c12 (upd_ne e (by decide))), kn_known q rfl⟩⟩
 refine gen_consR (fun vs L w1 hL hw1 => ?_) ?_
 ·obtain ⟨h0, h1, h2, h3, h4, g12, c12, q⟩ := HO.out _ _ _ hw1
  refine gen_plain rfl ?_
  go_simp
  exact gr_val (HI.out _ _ _ ⟨h0, h1, h2, h3, h4, (fun e => by obtain ⟨G, eG, hG, y0, y1⟩ := (g12 (upd_ne e (by decide))); exact ⟨G, eG, hG, fun e => (y0 (upd_ne e (by decide))), fun e => (y1 (upd_ne e (by decide)))⟩), fun e => (c12 (upd_ne e (by decide))), kn_known q rfl⟩)
 refine gen_consR (fun vs L w1 hL hw1 => ?_) ?_
 ·obtain ⟨h0, h1, h2, h3, h4, g12, c12, q⟩ := HO.out _ _ _ hw1
  have l5 : L 5 = true := hL.need 5 (by kernel_rfl)
  have e5 := q 5 _ rfl l5
  refine gen_plain rfl ?_
  simp only [e5]
  go_simp
  exact gr_val (HI.out _ _ _ ⟨h0, h1, h2, h3, h4, (fun e => by obtain ⟨G, eG, hG, y0, y1⟩ := (g12 (upd_ne e (by decide))); exact ⟨G, eG, hG, fun e => (y0 (upd_ne e (by decide))), fun e => (y1 (upd_ne e (by decide)))⟩), fun e => (c12 (upd_ne e (by decide))), kn_known q rfl⟩)
 refine gen_consR (fun vs L w1 hL hw1 => ?_) ?_
 ·obtain ⟨h0, h1, h2, h3, h4, g12, c12, q⟩ := HO.out _ _ _ hw1
  have l0 : L 0 = true := hL.need 0 (by kernel_rfl)
  have e0 := q 0 _ rfl l0
  have l2 : L 2 = true := hL.need 2 (by kernel_rfl)
  have e2 := q 2 _ rfl l2
  have l4 : L 4 = true := hL.need 4 (by kernel_rfl)
  have e4 := q 4 _ rfl l4
  have l6 : L 6 = true := hL.need 6 (by kernel_rfl)
  have e6 := q 6 _ rfl l6
  refine gen_plain rfl ?_
  simp only [e0, e2, e4, e6]
  go_simp
  refine gr_call ?_
  refine (hplan _).mono ?_
  rintro e wc ⟨rfl, hg⟩
  exact ⟨_, rfl, HI.out _ _ _ ⟨below_grows h0 (Nat.le_refl _) hg, h1.grows hg, h2.grows hg, h3.grows hg, h4.grows hg, (fun e => by obtain ⟨G, eG, hG, y0, y1⟩ := (g12 (upd_ne e (by decide))); exact ⟨G, eG, hG, fun e => (y0 (upd_ne e (by decide))).grows hg, fun e => (y1 (upd_ne e (by decide))).grows hg⟩), fun e => (c12 (upd_ne e (by decide))), kn_known q rfl⟩⟩
 refine gen_consR (fun vs L w1 hL hw1 => ?_) ?_
 ·obtain ⟨h0, h1, h2, h3, h4, g12, c12, q⟩ := HO.out _ _ _ hw1
  have l7 : L 7 = true := hL.need 7 (by kernel_rfl)
  have e7 := q 7 _ rfl l7
  refine gen_plain rfl ?_
  simp only [e7]
  go_simp
  exact gr_val (HI.out _ _ _ ⟨h0, h1, h2, h3, h4, (fun e => by obtain ⟨G, eG, hG, y0, y1⟩ := (g12 (upd_ne e (by decide))); exact ⟨G, eG, hG, fun e => (y0 (upd_ne e (by decide))), fun e => (y1 (upd_ne e (by decide)))⟩), fun e => (c12 (upd_ne e (by decide))), kn_known q rfl⟩)
 refine gen_consR (fun vs L w1 hL hw1 => ?_) ?_
 ·obtain ⟨h0, h1, h2, h3, h4, g12, c12, q⟩ := HO.out _ _ _ hw1
  have l8 : L 8 = true := hL.need 8 (by kernel_rfl)
  have e8 := q 8 _ rfl l8
  refine gen_plain rfl ?_
  simp only [e8]
  go_simp
  exact gr_val (HI.out _ _ _ ⟨h0, h1, h2, h3, h4, (fun e => by obtain ⟨G, eG, hG, y0, y1⟩ := (g12 (upd_ne e (by decide))); exact ⟨G, eG, hG, fun e => (y0 (upd_ne e (by decide))), fun e => (y1 (upd_ne e (by decide)))⟩), fun e => (c12 (upd_ne e (by decide))), kn_known q rfl⟩)
 refine gen_consR (fun vs L w1 hL hw1 => ?_) ?_
 ·obtain ⟨h0, h1, h2, h3, h4, g12, c12, q⟩ := HO.out _ _ _ hw1
  have l8 : L 8 = true := hL.need 8 (by kernel_rfl)
  have e8 := q 8 _ rfl l8
  refine gen_plain rfl ?_
  simp only [e8]
  go_simp
  exact gr_val (HI.out _ _ _ ⟨h0, h1, h2, h3, h4, (fun e => by obtain ⟨G, eG, hG, y0, y1⟩ := (g12 (upd_ne e (by decide))); exact ⟨G, eG, hG, fun e => (y0 (upd_ne e (by decide))), fun e => (y1 (upd_ne e (by decide)))⟩), fun e => (c12 (upd_ne e (by decide))), kn_known q rfl⟩)
 refine gen_consR (fun vs L w1 hL hw1 => ?_) ?_
 ·obtain ⟨h0, h1, h2, h3, h4, g12, c12, q⟩ := HO.out _ _ _ hw1
  have l8 : L 8 = true := hL.need 8 (by kernel_rfl)
  have e8 := q 8 _ rfl l8
  refine gen_plain rfl ?_
  simp only [e8]
  go_simp
  exact gr_val (HI.out _ _ _ ⟨h0, h1, h2, h3, h4, (fun e => by obtain ⟨G, eG, hG, y0, y1⟩ := (g12 (upd_ne e (by decide))); exact ⟨G, eG, hG, fun e => (y0 (upd_ne e (by decide))), fun e => (y1 (upd_ne e (by decide)))⟩), fun e => (c12 (upd_ne e (by decide))), kn_known q rfl⟩)
 refine gen_consR (fun vs L w1 hL hw1 => ?_) ?_
 ·obtain ⟨h0, h1, h2, h3, h4, g12, c12, q⟩ := HO.out _ _ _ hw1
  refine gen_plain rfl ?_
  have hg : Grows w1 (w1.alloc (Obj.cells #[.int .i64 0, .int .i64 0, .int .i64 0, .int .i64 0] 40)) := (Below.refl w1.heap.size w1).alloc (Nat.le_refl _) _
  go_simp
  exact gr_val (HI.out _ _ _ ⟨below_grows h0 (Nat.le_refl _) hg, h1.grows hg, h2.grows hg, h3.grows hg, h4.grows hg, fun _ => ⟨w1.heap.size, rfl, (by have zh2 := h2.lt; have zh1 := h1.lt; have zh4 := h4.lt; have zh3 := h3.lt; have zz := h0.size; omega), fun _ => Blk.new w1 40 #[.int .i64 0, .int .i64 0, .int .i64 0, .int .i64 0], (fun e => by have := (c12 (upd_ne e (by decide))); rw [hL.1] at this; cases this)⟩, fun _ => upd_eq, kn_free q rfl⟩)
 refine gen_consR (fun vs L w1 hL hw1 => ?_) ?_
 ·obtain ⟨h0, h1, h2, h3, h4, g12, c12, q⟩ := HO.out _ _ _ hw1
  have l9 : L 9 = true := hL.need 9 (by kernel_rfl)
  have e9 := q 9 _ rfl l9
  have l12 : L 12 = true := hL.need 12 (by kernel_rfl)
  obtain ⟨G, eG, hG, y0, y1⟩ := g12 (hL.need 12 (by kernel_rfl))
  refine gen_plain rfl ?_
  simp only [e9, eG]
  have kk := y0 hL.1
  refine gr_strow (cs := #[.int .i64 D.T, .int .i64 D.dd, .int .i64 16, .int .i64 D.M]) _ _ rfl rfl rfl kk (by kernel_rfl) rfl (by simp [Value.oneCell']) ?_
  exact HI.out _ _ _ ⟨below_row h0 (g := G) (by omega) _, h1.row_far (by omega), h2.row_far (by omega), h3.row_far (by omega), h4.row_far (by omega), fun _ => ⟨G, eG, hG, (fun e => by rw [upd_eq] at e; cases e), fun _ => kk.row⟩, fun _ => (show L 12 = true from hL.need 12 (by kernel_rfl)), kn_known q rfl⟩
 refine gen_consR (fun vs L w1 hL hw1 => ?_) ?_
 ·obtain ⟨h0, h1, h2, h3, h4, g12, c12, q⟩ := HO.out _ _ _ hw1
  have l10 : L 10 = true := hL.need 10 (by kernel_rfl)
  have e10 := q 10 _ rfl l10
  refine gen_plain rfl ?_
  simp only [e10]
  go_simp
  exact gr_val (HI.out _ _ _ ⟨h0, h1, h2, h3, h4, (fun e => by obtain ⟨G, eG, hG, y0, y1⟩ := (g12 (upd_ne e (by decide))); exact ⟨G, eG, hG, fun e => (y0 (upd_ne e (by decide))), fun e => (y1 (upd_ne e (by decide)))⟩), fun e => (c12 (upd_ne e (by decide))), kn_known q rfl⟩)
 refine gen_consR (fun vs L w1 hL hw1 => ?_) ?_
 ·obtain ⟨h0, h1, h2, h3, h4, g12, c12, q⟩ := HO.out _ _ _ hw1
  have l11 : L 11 = true := hL.need 11 (by kernel_rfl)
  have e11 := q 11 _ rfl l11
  refine gen_plain rfl ?_
  simp only [e11]
  go_simp
  exact gr_val (HI.out _ _ _ ⟨h0, h1, h2, h3, h4, (fun e => by obtain ⟨G, eG, hG, y0, y1⟩ := (g12 (upd_ne e (by decide))); exact ⟨G, eG, hG, fun e => (y0 (upd_ne e (by decide))), fun e => (y1 (upd_ne e (by decide)))⟩), fun e => (c12 (upd_ne e (by decide))), kn_known q rfl⟩)
 refine gen_nil ?_
 intro vs L w15 hall hS
 obtain ⟨h0, h1, h2, h3, h4, g12, c12, q⟩ := HO.out _ _ _ hS
 obtain ⟨G12, eG12, hG12, -, kG12⟩ := g12 (hall 12 (by simp))
 replace kG12 := kG12 (hall 13 (by simp))
 have e0 := q 0 _ rfl (hall 0 (by simp))
 have e1 := q 1 _ rfl (hall 1 (by simp))
 have e2 := q 2 _ rfl (hall 2 (by simp))
 have e3 := q 3 _ rfl (hall 3 (by simp))
 have e4 := q 4 _ rfl (hall 4 (by simp))
 have e5 := q 5 _ rfl (hall 5 (by simp))
 have e6 := q 6 _ rfl (hall 6 (by simp))
 have e7 := q 7 _ rfl (hall 7 (by simp))
 have e8 := q 8 _ rfl (hall 8 (by simp))
 have e9 := q 9 _ rfl (hall 9 (by simp))
 have e10 := q 10 _ rfl (hall 10 (by simp))
 have e11 := q 11 _ rfl (hall 11 (by simp))
 have e14 := q 14 _ rfl (hall 14 (by simp))
 have e15 := q 15 _ rfl (hall 15 (by simp))
 clear hall hS HI HO q g12 c12
 simp only [e0, e1, e2, e3, e4, e5, e6, e7, e8, e9, e10, e11, e14, e15, eG12]
 clear e0 e1 e2 e3 e4 e5 e6 e7 e8 e9 e10 e11 e14 e15
 clear h1 h3 eG12 k5 k6 k7 k10 k12 k14 hB vs
 rename_i _
 have hB := h0
 have k12 := h2
 have k10 := h4
 clear h0 h2 h4
 have z10 := k10.lt
 have z12 := k12.lt
 have zG := kG12.lt
 go_upto_region 14 with fail
 obtain ⟨S, HI, HO⟩ := hideS fun (L : Ran) (vs : Nat → Value) (w' : World) => Below w.heap.size w w' ∧ Blk w' G12 40 #[.int .i64 D.T, .int .i64 D.dd, .int .i64 16, .int .i64 D.M] ∧ Blk w' n10 51 #[.int .u64 0, .string ⟨#[]⟩, .int .i64 0, .int .i64 0, .int .i64 0, .int .i64 0, .int .i64 0, .slice none 0 0, .int .i64 0, .int .i64 0, .slice none 0 0, .int .i64 0, .int .i64 0, .int .i64 0, .slice none 0 0, .bool false, .int .i64 0, .int .i64 0, .int .i64 0, .int .i64 0, .int .i64 0, .int .i64 0, .int .i64 0, .int .i64 0, .int .i64 0, .int .i64 0, .int .i64 0, .int .i64 0, .slice none 0 0, .int .i64 0, .int .i64 0] ∧ (L 17 = false → Blk w' n12 171 (dvA (rawDv D))) ∧ (L 17 = true → ∃ A c, Blk w' n12 171 (dvA { D with A := A, c := c }) ∧ RdB w' (fun k => (k ≠ n12 ∧ k ≠ n10) ∧ w.heap.size ≤ k) 1 A D.l.length (D.l.map (Value.int .i32)) ∧ D.l.length ≤ c) ∧ (L 17 = true → L 0 = true) ∧ (L 17 = true → L 2 = true) ∧ (L 11 = true → ∃ A c, vs 11 = .tuple #[.agg #[.int .i64 (D.cap : Int), .int .i64 D.T, .int .i64 D.dd, .int .i64 16, .int .i64 D.M, .int .i64 (D.ch : Int), .int .i64 D.n, .int .i64 D.d, .int .i64 0, .int .i64 0, .int .i64 0, .slice A D.l.length c, .int .i64 0, .int .i64 0], .int .i64 0] ∧ RdB w' (fun k => (k ≠ n12 ∧ k ≠ n10) ∧ w.heap.size ≤ k) 1 A D.l.length (D.l.map (Value.int .i32)) ∧ D.l.length ≤ c) ∧ (L 12 = true → ∃ A c, vs 12 = .tuple #[.agg #[.int .i64 (D.cap : Int), .int .i64 D.T, .int .i64 D.dd, .int .i64 16, .int .i64 D.M, .int .i64 (D.ch : Int), .int .i64 D.n, .int .i64 D.d, .int .i64 0, .int .i64 0, .int .i64 0, .slice A D.l.length c, .int .i64 0, .int .i64 0], .int .i64 0] ∧ RdB w' (fun k => (k ≠ n12 ∧ k ≠ n10) ∧ w.heap.size ≤ k) 1 A D.l.length (D.l.map (Value.int .i32)) ∧ D.l.length ≤ c) ∧ (L 13 = true → ∃ A c, vs 13 = .agg #[.int .i64 (D.cap : Int), .int .i64 D.T, .int .i64 D.dd, .int .i64 16, .int .i64 D.M, .int .i64 (D.ch : Int), .int .i64 D.n, .int .i64 D.d, .int .i64 0, .int .i64 0, .int .i64 0, .slice A D.l.length c, .int .i64 0, .int .i64 0] ∧ RdB w' (fun k => (k ≠ n12 ∧ k ≠ n10) ∧ w.heap.size ≤ k) 1 A D.l.length (D.l.map (Value.int .i32)) ∧ D.l.length ≤ c) ∧ KnS [some (.agg (dvA (rawDv D))), some (.int .i64 (D.ch : Int)), some (.agg (dvA (rawDv D))), some (.agg #[.int .i64 D.n, .int .i64 D.d]), some (.agg #[.int .i64 D.T, .int .i64 D.dd, .int .i64 16, .int .i64 D.M]), some (.int .i64 (D.cap : Int)), some (.pointer (some ⟨G12, 0, none⟩)), some (.int .i64 D.T), some (.int .i64 W), some (.int .i64 (D.T - W)), some (.int .i64 (fr : Int)), none, none, none, some (.int .i64 0), some (.pointer (some ⟨n12, 0, none⟩)), some (.pointer (some ⟨n12, 17, none⟩)), some (undef), some (.int .i64 0)] L vs
 refine wp_region_genU S 111 (by kernel_rfl) (by kernel_rfl) rfl ?_ ?_
 ·exact HI.out _ _ _ ⟨hB.drew, kG12.drew, k10.drew, fun _ => k12.drew, (fun e => by cases e), (fun e => by cases e), (fun e => by cases e), (fun e => by cases e), (fun e => by cases e), (fun e => by cases e), kn_none _ _⟩
 refine gen_consR (fun vs L w1 hL hw1 => ?_) ?_
 ·obtain ⟨h0, h1, h2, a17, b17, o17_0, o17_2, d11, d12, d13, q⟩ := HO.out _ _ _ hw1
  have z17 : L 17 = false := by cases e : L 17 with | false => rfl | true => (have hz := o17_0 e; rw [hL.1] at hz; cases hz)
  refine gen_plain rfl ?_
  refine gr_ldrow (cs := (dvA (rawDv D))) _ rfl rfl (a17 z17) Tryz.underlying171 rfl (uinfo _) ?_
  exact HI.out _ _ _ ⟨h0, h1, h2, fun e => (a17 (upd_ne e (by decide))), (fun e => by obtain ⟨A, c, kb, hr, hc⟩ := (b17 (upd_ne e (by decide))); exact ⟨A, c, kb, hr, hc⟩), fun _ => upd_eq, (fun e => (o17_2 (upd_ne e (by decide)))), (fun e => by obtain ⟨A11, c11, f11, hr11, hc11⟩ := (d11 (upd_ne e (by decide))); exact ⟨A11, c11, f11, hr11, hc11⟩), (fun e => by obtain ⟨A12, c12, f12, hr12, hc12⟩ := (d12 (upd_ne e (by decide))); exact ⟨A12, c12, f12, hr12, hc12⟩), (fun e => by obtain ⟨A13, c13, f13, hr13, hc13⟩ := (d13 (upd_ne e (by decide))); exact ⟨A13, c13, f13, hr13, hc13⟩), kn_known q rfl⟩
 refine gen_consR (fun vs L w1 hL hw1 => ?_) ?_
 ·obtain ⟨h0, h1, h2, a17, b17, o17_0, o17_2, d11, d12, d13, q⟩ := HO.out _ _ _ hw1
  have l0 : L 0 = true := hL.need 0 (by kernel_rfl)
  have e0 := q 0 _ rfl l0
  refine gen_plain rfl ?_
  simp only [e0]
  go_simp
  refine gr_call ?_
  refine (hpo _).mono ?_
  rintro e wc ⟨rfl, hg⟩
  exact ⟨_, rfl, HI.out _ _ _ ⟨below_grows h0 (Nat.le_refl _) hg, h1.grows hg, h2.grows hg, fun e => (a17 (upd_ne e (by decide))).grows hg, (fun e => by obtain ⟨A, c, kb, hr, hc⟩ := (b17 (upd_ne e (by decide))); exact ⟨A, c, kb.grows hg, hr.grows hg, hc⟩), (fun e => (o17_0 (upd_ne e (by decide)))), (fun e => (o17_2 (upd_ne e (by decide)))), (fun e => by obtain ⟨A11, c11, f11, hr11, hc11⟩ := (d11 (upd_ne e (by decide))); exact ⟨A11, c11, f11, hr11.grows hg, hc11⟩), (fun e => by obtain ⟨A12, c12, f12, hr12, hc12⟩ := (d12 (upd_ne e (by decide))); exact ⟨A12, c12, f12, hr12.grows hg, hc12⟩), (fun e => by obtain ⟨A13, c13, f13, hr13, hc13⟩ := (d13 (upd_ne e (by decide))); exact ⟨A13, c13, f13, hr13.grows hg, hc13⟩), kn_known q rfl⟩⟩
 refine gen_consR (fun vs L w1 hL hw1 => ?_) ?_
 ·obtain ⟨h0, h1, h2, a17, b17, o17_0, o17_2, d11, d12, d13, q⟩ := HO.out _ _ _ hw1
  have z17 : L 17 = false := by cases e : L 17 with | false => rfl | true => (have hz := o17_2 e; rw [hL.1] at hz; cases hz)
  refine gen_plain rfl ?_
  refine gr_ldrow (cs := (dvA (rawDv D))) _ rfl rfl (a17 z17) Tryz.underlying171 rfl (uinfo _) ?_
  exact HI.out _ _ _ ⟨h0, h1, h2, fun e => (a17 (upd_ne e (by decide))), (fun e => by obtain ⟨A, c, kb, hr, hc⟩ := (b17 (upd_ne e (by decide))); exact ⟨A, c, kb, hr, hc⟩), (fun e => (o17_0 (upd_ne e (by decide)))), fun _ => upd_eq, (fun e => by obtain ⟨A11, c11, f11, hr11, hc11⟩ := (d11 (upd_ne e (by decide))); exact ⟨A11, c11, f11, hr11, hc11⟩), (fun e => by obtain ⟨A12, c12, f12, hr12, hc12⟩ := (d12 (upd_ne e (by decide))); exact ⟨A12, c12, f12, hr12, hc12⟩), (fun e => by obtain ⟨A13, c13, f13, hr13, hc13⟩ := (d13 (upd_ne e (by decide))); exact ⟨A13, c13, f13, hr13, hc13⟩), kn_known q rfl⟩
 refine gen_consR (fun vs L w1 hL hw1 => ?_) ?_
 ·obtain ⟨h0, h1, h2, a17, b17, o17_0, o17_2, d11, d12, d13, q⟩ := HO.out _ _ _ hw1
  have l2 : L 2 = true := hL.need 2 (by kernel_rfl)
  have e2 := q 2 _ rfl l2
  refine gen_plain rfl ?_
  simp only [e2]
  go_simp
  refine gr_call ?_
  refine (hbas _).mono ?_
  rintro e wc ⟨rfl, hg⟩
  exact ⟨_, rfl, HI.out _ _ _ ⟨below_grows h0 (Nat.le_refl _) hg, h1.grows hg, h2.grows hg, fun e => (a17 (upd_ne e (by decide))).grows hg, (fun e => by obtain ⟨A, c, kb, hr, hc⟩ := (b17 (upd_ne e (by decide))); exact ⟨A, c, kb.grows hg, hr.grows hg, hc⟩), (fun e => (o17_0 (upd_ne e (by decide)))), (fun e => (o17_2 (upd_ne e (by decide)))), (fun e => by obtain ⟨A11, c11, f11, hr11, hc11⟩ := (d11 (upd_ne e (by decide))); exact ⟨A11, c11, f11, hr11.grows hg, hc11⟩), (fun e => by obtain ⟨A12, c12, f12, hr12, hc12⟩ := (d12 (upd_ne e (by decide))); exact ⟨A12, c12, f12, hr12.grows hg, hc12⟩), (fun e => by obtain ⟨A13, c13, f13, hr13, hc13⟩ := (d13 (upd_ne e (by decide))); exact ⟨A13, c13, f13, hr13.grows hg, hc13⟩), kn_known q rfl⟩⟩
 refine gen_consR (fun vs L w1 hL hw1 => ?_) ?_
 ·obtain ⟨h0, h1, h2, a17, b17, o17_0, o17_2, d11, d12, d13, q⟩ := HO.out _ _ _ hw1
  refine gen_plain rfl ?_
  refine gr_ldrow (cs := #[.int .i64 D.T, .int .i64 D.dd, .int .i64 16, .int .i64 D.M]) _ rfl rfl h1 Tryz.underlying40 rfl (by kernel_rfl) ?_
  exact HI.out _ _ _ ⟨h0, h1, h2, fun e => (a17 (upd_ne e (by decide))), (fun e => by obtain ⟨A, c, kb, hr, hc⟩ := (b17 (upd_ne e (by decide))); exact ⟨A, c, kb, hr, hc⟩), (fun e => (o17_0 (upd_ne e (by decide)))), (fun e => (o17_2 (upd_ne e (by decide)))), (fun e => by obtain ⟨A11, c11, f11, hr11, hc11⟩ := (d11 (upd_ne e (by decide))); exact ⟨A11, c11, f11, hr11, hc11⟩), (fun e => by obtain ⟨A12, c12, f12, hr12, hc12⟩ := (d12 (upd_ne e (by decide))); exact ⟨A12, c12, f12, hr12, hc12⟩), (fun e => by obtain ⟨A13, c13, f13, hr13, hc13⟩ := (d13 (upd_ne e (by decide))); exact ⟨A13, c13, f13, hr13, hc13⟩), kn_known q rfl⟩
 refine gen_consR (fun vs L w1 hL hw1 => ?_) ?_
 ·obtain ⟨h0, h1, h2, a17, b17, o17_0, o17_2, d11, d12, d13, q⟩ := HO.out _ _ _ hw1
  refine gen_plain rfl ?_
  go_simp
  exact gr_val (HI.out _ _ _ ⟨h0, h1, h2, fun e => (a17 (upd_ne e (by decide))), (fun e => by obtain ⟨A, c, kb, hr, hc⟩ := (b17 (upd_ne e (by decide))); exact ⟨A, c, kb, hr, hc⟩), (fun e => (o17_0 (upd_ne e (by decide)))), (fun e => (o17_2 (upd_ne e (by decide)))), (fun e => by obtain ⟨A11, c11, f11, hr11, hc11⟩ := (d11 (upd_ne e (by decide))); exact ⟨A11, c11, f11, hr11, hc11⟩), (fun e => by obtain ⟨A12, c12, f12, hr12, hc12⟩ := (d12 (upd_ne e (by decide))); exact ⟨A12, c12, f12, hr12, hc12⟩), (fun e => by obtain ⟨A13, c13, f13, hr13, hc13⟩ := (d13 (upd_ne e (by decide))); exact ⟨A13, c13, f13, hr13, hc13⟩), kn_known q rfl⟩)
 refine gen_consR (fun vs L w1 hL hw1 => ?_) ?_
 ·obtain ⟨h0, h1, h2, a17, b17, o17_0, o17_2, d11, d12, d13, q⟩ := HO.out _ _ _ hw1
  refine gen_plain rfl ?_
  go_simp
  exact gr_val (HI.out _ _ _ ⟨h0, h1, h2, fun e => (a17 (upd_ne e (by decide))), (fun e => by obtain ⟨A, c, kb, hr, hc⟩ := (b17 (upd_ne e (by decide))); exact ⟨A, c, kb, hr, hc⟩), (fun e => (o17_0 (upd_ne e (by decide)))), (fun e => (o17_2 (upd_ne e (by decide)))), (fun e => by obtain ⟨A11, c11, f11, hr11, hc11⟩ := (d11 (upd_ne e (by decide))); exact ⟨A11, c11, f11, hr11, hc11⟩), (fun e => by obtain ⟨A12, c12, f12, hr12, hc12⟩ := (d12 (upd_ne e (by decide))); exact ⟨A12, c12, f12, hr12, hc12⟩), (fun e => by obtain ⟨A13, c13, f13, hr13, hc13⟩ := (d13 (upd_ne e (by decide))); exact ⟨A13, c13, f13, hr13, hc13⟩), kn_known q rfl⟩)
 refine gen_consR (fun vs L w1 hL hw1 => ?_) ?_
 ·obtain ⟨h0, h1, h2, a17, b17, o17_0, o17_2, d11, d12, d13, q⟩ := HO.out _ _ _ hw1
  have l6 : L 6 = true := hL.need 6 (by kernel_rfl)
  have e6 := q 6 _ rfl l6
  have xc := (show _ = some ((.int .i64 D.T) : Value) from h1.cell 0)
  refine gen_plain rfl ?_
  simp only [e6]
  go_simp
  exact gr_val (HI.out _ _ _ ⟨h0, h1, h2, fun e => (a17 (upd_ne e (by decide))), (fun e => by obtain ⟨A, c, kb, hr, hc⟩ := (b17 (upd_ne e (by decide))); exact ⟨A, c, kb, hr, hc⟩), (fun e => (o17_0 (upd_ne e (by decide)))), (fun e => (o17_2 (upd_ne e (by decide)))), (fun e => by obtain ⟨A11, c11, f11, hr11, hc11⟩ := (d11 (upd_ne e (by decide))); exact ⟨A11, c11, f11, hr11, hc11⟩), (fun e => by obtain ⟨A12, c12, f12, hr12, hc12⟩ := (d12 (upd_ne e (by decide))); exact ⟨A12, c12, f12, hr12, hc12⟩), (fun e => by obtain ⟨A13, c13, f13, hr13, hc13⟩ := (d13 (upd_ne e (by decide))); exact ⟨A13, c13, f13, hr13, hc13⟩), kn_known q rfl⟩)
 refine gen_consR (fun vs L w1 hL hw1 => ?_) ?_
 ·obtain ⟨h0, h1, h2, a17, b17, o17_0, o17_2, d11, d12, d13, q⟩ := HO.out _ _ _ hw1
  refine gen_plain rfl ?_
  go_simp
  exact gr_val (HI.out _ _ _ ⟨h0, h1, h2, fun e => (a17 (upd_ne e (by decide))), (fun e => by obtain ⟨A, c, kb, hr, hc⟩ := (b17 (upd_ne e (by decide))); exact ⟨A, c, kb, hr, hc⟩), (fun e => (o17_0 (upd_ne e (by decide)))), (fun e => (o17_2 (upd_ne e (by decide)))), (fun e => by obtain ⟨A11, c11, f11, hr11, hc11⟩ := (d11 (upd_ne e (by decide))); exact ⟨A11, c11, f11, hr11, hc11⟩), (fun e => by obtain ⟨A12, c12, f12, hr12, hc12⟩ := (d12 (upd_ne e (by decide))); exact ⟨A12, c12, f12, hr12, hc12⟩), (fun e => by obtain ⟨A13, c13, f13, hr13, hc13⟩ := (d13 (upd_ne e (by decide))); exact ⟨A13, c13, f13, hr13, hc13⟩), kn_known q rfl⟩)
 refine gen_consR (fun vs L w1 hL hw1 => ?_) ?_
 ·obtain ⟨h0, h1, h2, a17, b17, o17_0, o17_2, d11, d12, d13, q⟩ := HO.out _ _ _ hw1
  have l7 : L 7 = true := hL.need 7 (by kernel_rfl)
  have e7 := q 7 _ rfl l7
  have l8 : L 8 = true := hL.need 8 (by kernel_rfl)
  have e8 := q 8 _ rfl l8
  refine gen_plain rfl ?_
  simp only [e7, e8]
  go_simp
  exact gr_val (HI.out _ _ _ ⟨h0, h1, h2, fun e => (a17 (upd_ne e (by decide))), (fun e => by obtain ⟨A, c, kb, hr, hc⟩ := (b17 (upd_ne e (by decide))); exact ⟨A, c, kb, hr, hc⟩), (fun e => (o17_0 (upd_ne e (by decide)))), (fun e => (o17_2 (upd_ne e (by decide)))), (fun e => by obtain ⟨A11, c11, f11, hr11, hc11⟩ := (d11 (upd_ne e (by decide))); exact ⟨A11, c11, f11, hr11, hc11⟩), (fun e => by obtain ⟨A12, c12, f12, hr12, hc12⟩ := (d12 (upd_ne e (by decide))); exact ⟨A12, c12, f12, hr12, hc12⟩), (fun e => by obtain ⟨A13, c13, f13, hr13, hc13⟩ := (d13 (upd_ne e (by decide))); exact ⟨A13, c13, f13, hr13, hc13⟩), kn_known q rfl⟩)
 refine gen_consR (fun vs L w1 hL hw1 => ?_) ?_
 ·obtain ⟨h0, h1, h2, a17, b17, o17_0, o17_2, d11, d12, d13, q⟩ := HO.out _ _ _ hw1
  have l9 : L 9 = true := hL.need 9 (by kernel_rfl)
  have e9 := q 9 _ rfl l9
  refine gen_plain rfl ?_
  simp only [e9]
  go_simp
  exact gr_val (HI.out _ _ _ ⟨h0, h1, h2, fun e => (a17 (upd_ne e (by decide))), (fun e => by obtain ⟨A, c, kb, hr, hc⟩ := (b17 (upd_ne e (by decide))); exact ⟨A, c, kb, hr, hc⟩), (fun e => (o17_0 (upd_ne e (by decide)))), (fun e => (o17_2 (upd_ne e (by decide)))), (fun e => by obtain ⟨A11, c11, f11, hr11, hc11⟩ := (d11 (upd_ne e (by decide))); exact ⟨A11, c11, f11, hr11, hc11⟩), (fun e => by obtain ⟨A12, c12, f12, hr12, hc12⟩ := (d12 (upd_ne e (by decide))); exact ⟨A12, c12, f12, hr12, hc12⟩), (fun e => by obtain ⟨A13, c13, f13, hr13, hc13⟩ := (d13 (upd_ne e (by decide))); exact ⟨A13, c13, f13, hr13, hc13⟩), kn_known q rfl⟩)
 refine gen_consR (fun vs L w1 hL hw1 => ?_) ?_
 ·obtain ⟨h0, h1, h2, a17, b17, o17_0, o17_2, d11, d12, d13, q⟩ := HO.out _ _ _ hw1
  have l1 : L 1 = true := hL.need 1 (by kernel_rfl)
  have e1 := q 1 _ rfl l1
  have l3 : L 3 = true := hL.need 3 (by kernel_rfl)
  have e3 := q 3 _ rfl l3
  have l4 : L 4 = true := hL.need 4 (by kernel_rfl)
  have e4 := q 4 _ rfl l4
  have l5 : L 5 = true := hL.need 5 (by kernel_rfl)
  have e5 := q 5 _ rfl l5
  have l10 : L 10 = true := hL.need 10 (by kernel_rfl)
  have e10 := q 10 _ rfl l10
  refine gen_plain rfl ?_
  simp only [e1, e3, e4, e5, e10]
  go_simp
  refine gr_call ?_
  refine (hbnew _).mono ?_
  rintro e wc ⟨⟨A, c, rfl, ho, hc⟩, hg⟩
  have z1 := h1.lt
  have z2 := h2.lt
  have z3 := h0.size
  have hr : RdB wc (fun k => (k ≠ n12 ∧ k ≠ n10) ∧ w.heap.size ≤ k) 1 A D.l.length (D.l.map (Value.int .i32)) := SaB.of_own ho (fun k hk => by omega)
  exact ⟨_, rfl, HI.out _ _ _ ⟨below_grows h0 (Nat.le_refl _) hg, h1.grows hg, h2.grows hg, fun e => (a17 (upd_ne e (by decide))).grows hg, (fun e => by obtain ⟨A, c, kb, hr, hc⟩ := (b17 (upd_ne e (by decide))); exact ⟨A, c, kb.grows hg, hr.grows hg, hc⟩), (fun e => (o17_0 (upd_ne e (by decide)))), (fun e => (o17_2 (upd_ne e (by decide)))), (fun _ => ⟨A, c, rfl, hr, hc⟩), (fun e => by obtain ⟨A12, c12, f12, hr12, hc12⟩ := (d12 (upd_ne e (by decide))); exact ⟨A12, c12, f12, hr12.grows hg, hc12⟩), (fun e => by obtain ⟨A13, c13, f13, hr13, hc13⟩ := (d13 (upd_ne e (by decide))); exact ⟨A13, c13, f13, hr13.grows hg, hc13⟩), kn_free q rfl⟩⟩
 refine gen_consR (fun vs L w1 hL hw1 => ?_) ?_
 ·obtain ⟨h0, h1, h2, a17, b17, o17_0, o17_2, d11, d12, d13, q⟩ := HO.out _ _ _ hw1
  have l11 : L 11 = true := hL.need 11 (by kernel_rfl)
  obtain ⟨A, c, e11, hr, hc⟩ := d11 l11
  refine gen_plain rfl ?_
  simp only [e11]
  go_simp
  exact gr_val (HI.out _ _ _ ⟨h0, h1, h2, fun e => (a17 (upd_ne e (by decide))), (fun e => by obtain ⟨A, c, kb, hr, hc⟩ := (b17 (upd_ne e (by decide))); exact ⟨A, c, kb, hr, hc⟩), (fun e => (o17_0 (upd_ne e (by decide)))), (fun e => (o17_2 (upd_ne e (by decide)))), (fun e => by obtain ⟨A11, c11, f11, hr11, hc11⟩ := (d11 (upd_ne e (by decide))); exact ⟨A11, c11, f11, hr11, hc11⟩), (fun _ => ⟨A, c, rfl, hr, hc⟩), (fun e => by obtain ⟨A13, c13, f13, hr13, hc13⟩ := (d13 (upd_ne e (by decide))); exact ⟨A13, c13, f13, hr13, hc13⟩), kn_free q rfl⟩)
 refine gen_consR (fun vs L w1 hL hw1 => ?_) ?_
 ·obtain ⟨h0, h1, h2, a17, b17, o17_0, o17_2, d11, d12, d13, q⟩ := HO.out _ _ _ hw1
  have l12 : L 12 = true := hL.need 12 (by kernel_rfl)
  obtain ⟨A, c, e12, hr, hc⟩ := d12 l12
  refine gen_plain rfl ?_
  simp only [e12]
  go_simp
  exact gr_val (HI.out _ _ _ ⟨h0, h1, h2, fun e => (a17 (upd_ne e (by decide))), (fun e => by obtain ⟨A, c, kb, hr, hc⟩ := (b17 (upd_ne e (by decide))); exact ⟨A, c, kb, hr, hc⟩), (fun e => (o17_0 (upd_ne e (by decide)))), (fun e => (o17_2 (upd_ne e (by decide)))), (fun e => by obtain ⟨A11, c11, f11, hr11, hc11⟩ := (d11 (upd_ne e (by decide))); exact ⟨A11, c11, f11, hr11, hc11⟩), (fun e => by obtain ⟨A12, c12, f12, hr12, hc12⟩ := (d12 (upd_ne e (by decide))); exact ⟨A12, c12, f12, hr12, hc12⟩), (fun _ => ⟨A, c, rfl, hr, hc⟩), kn_free q rfl⟩)
 refine gen_consR (fun vs L w1 hL hw1 => ?_) ?_
 ·obtain ⟨h0, h1, h2, a17, b17, o17_0, o17_2, d11, d12, d13, q⟩ := HO.out _ _ _ hw1
  have l12 : L 12 = true := hL.need 12 (by kernel_rfl)
  obtain ⟨A, c, e12, hr, hc⟩ := d12 l12
  refine gen_plain rfl ?_
  simp only [e12]
  go_simp
  exact gr_val (HI.out _ _ _ ⟨h0, h1, h2, fun e => (a17 (upd_ne e (by decide))), (fun e => by obtain ⟨A, c, kb, hr, hc⟩ := (b17 (upd_ne e (by decide))); exact ⟨A, c, kb, hr, hc⟩), (fun e => (o17_0 (upd_ne e (by decide)))), (fun e => (o17_2 (upd_ne e (by decide)))), (fun e => by obtain ⟨A11, c11, f11, hr11, hc11⟩ := (d11 (upd_ne e (by decide))); exact ⟨A11, c11, f11, hr11, hc11⟩), (fun e => by obtain ⟨A12, c12, f12, hr12, hc12⟩ := (d12 (upd_ne e (by decide))); exact ⟨A12, c12, f12, hr12, hc12⟩), (fun e => by obtain ⟨A13, c13, f13, hr13, hc13⟩ := (d13 (upd_ne e (by decide))); exact ⟨A13, c13, f13, hr13, hc13⟩), kn_known q rfl⟩)
 refine gen_consR (fun vs L w1 hL hw1 => ?_) ?_
 ·obtain ⟨h0, h1, h2, a17, b17, o17_0, o17_2, d11, d12, d13, q⟩ := HO.out _ _ _ hw1
  refine gen_plain rfl ?_
  go_simp
  exact gr_val (HI.out _ _ _ ⟨h0, h1, h2, fun e => (a17 (upd_ne e (by decide))), (fun e => by obtain ⟨A, c, kb, hr, hc⟩ := (b17 (upd_ne e (by decide))); exact ⟨A, c, kb, hr, hc⟩), (fun e => (o17_0 (upd_ne e (by decide)))), (fun e => (o17_2 (upd_ne e (by decide)))), (fun e => by obtain ⟨A11, c11, f11, hr11, hc11⟩ := (d11 (upd_ne e (by decide))); exact ⟨A11, c11, f11, hr11, hc11⟩), (fun e => by obtain ⟨A12, c12, f12, hr12, hc12⟩ := (d12 (upd_ne e (by decide))); exact ⟨A12, c12, f12, hr12, hc12⟩), (fun e => by obtain ⟨A13, c13, f13, hr13, hc13⟩ := (d13 (upd_ne e (by decide))); exact ⟨A13, c13, f13, hr13, hc13⟩), kn_known q rfl⟩)
 refine gen_consR (fun vs L w1 hL hw1 => ?_) ?_
 ·obtain ⟨h0, h1, h2, a17, b17, o17_0, o17_2, d11, d12, d13, q⟩ := HO.out _ _ _ hw1
  have l15 : L 15 = true := hL.need 15 (by kernel_rfl)
  have e15 := q 15 _ rfl l15
  refine gen_plain rfl ?_
  simp only [e15]
  go_simp
  exact gr_val (HI.out _ _ _ ⟨h0, h1, h2, fun e => (a17 (upd_ne e (by decide))), (fun e => by obtain ⟨A, c, kb, hr, hc⟩ := (b17 (upd_ne e (by decide))); exact ⟨A, c, kb, hr, hc⟩), (fun e => (o17_0 (upd_ne e (by decide)))), (fun e => (o17_2 (upd_ne e (by decide)))), (fun e => by obtain ⟨A11, c11, f11, hr11, hc11⟩ := (d11 (upd_ne e (by decide))); exact ⟨A11, c11, f11, hr11, hc11⟩), (fun e => by obtain ⟨A12, c12, f12, hr12, hc12⟩ := (d12 (upd_ne e (by decide))); exact ⟨A12, c12, f12, hr12, hc12⟩), (fun e => by obtain ⟨A13, c13, f13, hr13, hc13⟩ := (d13 (upd_ne e (by decide))); exact ⟨A13, c13, f13, hr13, hc13⟩), kn_known q rfl⟩)
 refine gen_consR (fun vs L w1 hL hw1 => ?_) ?_
 ·obtain ⟨h0, h1, h2, a17, b17, o17_0, o17_2, d11, d12, d13, q⟩ := HO.out _ _ _ hw1
  have l13 : L 13 = true := hL.need 13 (by kernel_rfl)
  have l16 : L 16 = true := hL.need 16 (by kernel_rfl)
  have e16 := q 16 _ rfl l16
  obtain ⟨A, c, e13, hr, hc⟩ := d13 l13
  refine gen_plain rfl ?_
  simp only [e16, e13]
  have kk := a17 hL.1
  refine gr_stmid (cells := #[.int .i64 (D.cap : Int), .int .i64 D.T, .int .i64 D.dd, .int .i64 16, .int .i64 D.M, .int .i64 (D.ch : Int), .int .i64 D.n, .int .i64 D.d, .int .i64 0, .int .i64 0, .int .i64 0, .slice A D.l.length c, .int .i64 0, .int .i64 0]) _ _ rfl n12 17 rfl rfl (kk.there_ (by first | decide | exact (show 17 + 14 ≤ 31 by omega))) (by kernel_rfl) (by simp [Value.oneCell']) ?_
  have kn := blk_setCells (#[.int .i64 (D.cap : Int), .int .i64 D.T, .int .i64 D.dd, .int .i64 16, .int .i64 D.M, .int .i64 (D.ch : Int), .int .i64 D.n, .int .i64 D.d, .int .i64 0, .int .i64 0, .int .i64 0, .slice A D.l.length c, .int .i64 0, .int .i64 0]).toList 17 _ _ kk
  have hst := grown_setCells (g := n12) (#[.int .i64 (D.cap : Int), .int .i64 D.T, .int .i64 D.dd, .int .i64 16, .int .i64 D.M, .int .i64 (D.ch : Int), .int .i64 D.n, .int .i64 D.d, .int .i64 0, .int .i64 0, .int .i64 0, .slice A D.l.length c, .int .i64 0, .int .i64 0]).toList 17 _ (World.grownBy.refl w1 (some n12))
  have kn2 : ovR (dvA (rawDv D)) 17 (#[.int .i64 (D.cap : Int), .int .i64 D.T, .int .i64 D.dd, .int .i64 16, .int .i64 D.M, .int .i64 (D.ch : Int), .int .i64 D.n, .int .i64 D.d, .int .i64 0, .int .i64 0, .int .i64 0, .slice A D.l.length c, .int .i64 0, .int .i64 0]).toList = dvA { D with A := A, c := c } := by rw [← Hraw.out.1 A c, ← Hraw.out.2 A c]; exact rawDv_over { D with A := A, c := c }
  rw [kn2] at kn
  have hnew : ∃ A c, Blk _ n12 171 (dvA { D with A := A, c := c }) ∧ RdB _ (fun k => (k ≠ n12 ∧ k ≠ n10) ∧ w.heap.size ≤ k) 1 A D.l.length (D.l.map (Value.int .i32)) ∧ D.l.length ≤ c := ⟨A, c, kn, RdB.grown hr hst (fun g e => by injection e with e; subst e; exact fun h => by have := h.1; omega), hc⟩
  exact HI.out _ _ _ ⟨h0.grown hst h0.size (fun q hq => by injection hq with hq; omega), h1.grown hst (fun e => by injection e with e; omega), h2.grown hst (fun e => by injection e with e; omega), (fun e => by rw [upd_eq] at e; cases e), fun _ => hnew, fun _ => (show L 0 = true from hL.need 0 (by kernel_rfl)), fun _ => (show L 2 = true from hL.need 2 (by kernel_rfl)), (fun e => by obtain ⟨A11, c11, f11, hr11, hc11⟩ := (d11 (upd_ne e (by decide))); exact ⟨A11, c11, f11, hr11.grown hst (fun g e => by injection e with e; subst e; exact fun h => by have := h.1; omega), hc11⟩), (fun e => by obtain ⟨A12, c12, f12, hr12, hc12⟩ := (d12 (upd_ne e (by decide))); exact ⟨A12, c12, f12, hr12.grown hst (fun g e => by injection e with e; subst e; exact fun h => by have := h.1; omega), hc12⟩), (fun e => by obtain ⟨A13, c13, f13, hr13, hc13⟩ := (d13 (upd_ne e (by decide))); exact ⟨A13, c13, f13, hr13.grown hst (fun g e => by injection e with e; subst e; exact fun h => by have := h.1; omega), hc13⟩), kn_known q rfl⟩
 refine gen_consR (fun vs L w1 hL hw1 => ?_) ?_
 ·obtain ⟨h0, h1, h2, a17, b17, o17_0, o17_2, d11, d12, d13, q⟩ := HO.out _ _ _ hw1
  have l14 : L 14 = true := hL.need 14 (by kernel_rfl)
  have e14 := q 14 _ rfl l14
  refine gen_plain rfl ?_
  simp only [e14]
  go_simp
  exact gr_val (HI.out _ _ _ ⟨h0, h1, h2, fun e => (a17 (upd_ne e (by decide))), (fun e => by obtain ⟨A, c, kb, hr, hc⟩ := (b17 (upd_ne e (by decide))); exact ⟨A, c, kb, hr, hc⟩), (fun e => (o17_0 (upd_ne e (by decide)))), (fun e => (o17_2 (upd_ne e (by decide)))), (fun e => by obtain ⟨A11, c11, f11, hr11, hc11⟩ := (d11 (upd_ne e (by decide))); exact ⟨A11, c11, f11, hr11, hc11⟩), (fun e => by obtain ⟨A12, c12, f12, hr12, hc12⟩ := (d12 (upd_ne e (by decide))); exact ⟨A12, c12, f12, hr12, hc12⟩), (fun e => by obtain ⟨A13, c13, f13, hr13, hc13⟩ := (d13 (upd_ne e (by decide))); exact ⟨A13, c13, f13, hr13, hc13⟩), kn_known q rfl⟩)
 refine gen_nil ?_
 intro vs L w16 hall hS
 obtain ⟨h0, h1, h2, a17, b17, o17_0, o17_2, d11, d12, d13, q⟩ := HO.out _ _ _ hS
 replace b17 := b17 (hall 17 (by simp))
 have e0 := q 0 _ rfl (hall 0 (by simp))
 have e1 := q 1 _ rfl (hall 1 (by simp))
 have e2 := q 2 _ rfl (hall 2 (by simp))
 have e3 := q 3 _ rfl (hall 3 (by simp))
 have e4 := q 4 _ rfl (hall 4 (by simp))
 have e5 := q 5 _ rfl (hall 5 (by simp))
 have e6 := q 6 _ rfl (hall 6 (by simp))
 have e7 := q 7 _ rfl (hall 7 (by simp))
 have e8 := q 8 _ rfl (hall 8 (by simp))
 have e9 := q 9 _ rfl (hall 9 (by simp))
 have e10 := q 10 _ rfl (hall 10 (by simp))
 have e14 := q 14 _ rfl (hall 14 (by simp))
 have e15 := q 15 _ rfl (hall 15 (by simp))
 have e16 := q 16 _ rfl (hall 16 (by simp))
 have e18 := q 18 _ rfl (hall 18 (by simp))
 clear hall hS HI HO q a17 d11 d12 d13 o17_0 o17_2
 simp only [e0, e1, e2, e3, e4, e5, e6, e7, e8, e9, e10, e14, e15, e16, e18]
 clear e0 e1 e2 e3 e4 e5 e6 e7 e8 e9 e10 e14 e15 e16 e18
 obtain ⟨A1, c1, k12, rA, hc1⟩ := b17
 clear kG12 h1
 have hB := h0
 have k10 := h2
 clear h0 h2
 go_upto_region 17 with fail
 refine wp_region_lit ?_
 iterate 1
  refine wpList_plain rfl (fun K hK => ?_)
  go_simp
  refine hK _ _ ?_
  clear hK K
 refine wpList_load_row rfl _ rfl rfl k12 Tryz.underlying51 rfl (dinfo _) ?_
 have hmv1 : MovDv D { D with A := A1, c := c1 } := ⟨D.BA, D.bc, D.MA, D.mc, D.CA, D.cc, A1, c1, rfl⟩
 have hi0 := HI0.out.bd.grows hB
 have hin1 : InDv _ (fun k => k ≠ n10 ∧ (base k ∨ w.heap.size ≤ k)) { D with A := A1, c := c1 } := ⟨hi0.b.mono (fun k hk => by have := hk.2; exact ⟨by omega, .inl hk.1⟩), hi0.bc, hi0.m.mono (fun k hk => by have := hk.2; exact ⟨by omega, .inl hk.1⟩), hi0.ml, RdB.mono hi0.g (fun k hk => by have := hk.2; exact ⟨by omega, .inl hk.1⟩), RdB.mono rA (fun k hk => by have h1 := hk.1; have h2 := hk.2; exact ⟨by omega, .inr h2⟩)⟩
 refine wpList_plain rfl (fun K hK => ?_)
 go_simp
 refine (how _ _ _ hmv1 hin1).mono ?_
 rintro e w18 ⟨⟨D2, rfl, hmv, hin⟩, hq⟩
 refine hK _ _ ?_
 clear hK K
 replace hmv : MovDv { D with A := A1, c := c1 } D2 := hmv
 have hmv2 := hmv1.trans hmv
 have z10b := k10.lt
 replace hin := hin.mono (b2 := fun k => (k ≠ n10 ∧ True) ∧ (base k ∨ w.heap.size ≤ k)) (fun k hk => by
  rcases hk with hk | hk
  ·exact ⟨⟨hk.1, trivial⟩, hk.2⟩
  ·have := hB.size; exact ⟨⟨by omega, trivial⟩, .inr (by omega)⟩)
 replace k10 := k10.grows hq
 replace hB := below_grows hB (Nat.le_refl _) hq
 have hqs := hq.size
 clear hq
 refine wpList_store_row rfl _ _ rfl rfl rfl rfl k10 (dinfo _) rfl (dv_one _) ?_
 replace hin := hin.row (g := n10) (fun hb => by have := hb.1; omega) ((dvA D2))
 replace k10 := k10.row (cs := (dvA D2))
 replace hB := below_row hB (show w.heap.size ≤ n10 by omega) ((dvA D2))
 generalize World.setRow w18 _ _ = wz at *
 go_wp2
 refine bodyPost_ret (v := .tuple #[.agg (dvA D2), .int .i64 0]) ?_ rfl ⟨⟨D2, rfl, hmv2, hin.mono (fun k hk => hk.2)⟩, hB⟩
 have hl1 := run_loadVar_row (P := Tryz.prog) wz n10 51 51 (dvA D2) (0, 0) _ k10 Tryz.underlying51 rfl (dinfo _)
 unfold results
 simp only [Tryz.results31]
 simp [asAddr, Act.put, hl1]
end Go.Proofs.YtbfdaojffffaaaaGreat
