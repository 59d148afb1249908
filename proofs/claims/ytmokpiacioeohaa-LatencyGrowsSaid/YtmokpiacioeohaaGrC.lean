/-
  Graphs: links compared, their ports, ports shared. Plain contracts (the reference).
-/
import Derived.Test.YtmokpiacioeohaaGrB
namespace Go.Proofs.Ytmokpiacioeohaa
open Go.RowKit
set_option maxHeartbeats 4000000 in
theorem less_any (x l : Q4) (w : World) : Calls Try.prog 42 #[.agg x.cs, .agg l.cs] w fun e w' => e = .returned (.bool (lessL x l)) ∧ Grows w w' := by
  obtain ⟨a, b, c, d⟩ := x
  obtain ⟨a2, b2, c2, d2⟩ := l
  simp only [Q4.cs]
  go_enter Try.func42, Try.ntmps42
  go_wp2
  all_goals (go_ret; refine ⟨ret_bool ?_, ((Below.refl _ _).alloc (Nat.le_refl _) _).alloc (by simp) _⟩; simp_all [lessL])
def portsL (ns : List Q4) (l : Q4) : Bool := (findN ns l.a).isSome && (findN ns l.c).isSome && decide (0 ≤ l.b) && decide (l.b < (nodeN ns l.a).d) && decide (0 ≤ l.d) && decide (l.d < (nodeN ns l.c).c)
theorem portsL_eq (ns : List Q4) (l : Q4) : portsL ns l = endsL ns l := by
  have z1 : q0.c = 0 := rfl
  have z2 : q0.d = 0 := rfl
  unfold portsL endsL
  cases e1 : findN ns l.a
  · have e : nodeN ns l.a = q0 := by unfold nodeN; rw [e1]; rfl
    rw [e]
    apply Bool.eq_iff_iff.2
    simp only [Option.isSome_none, Bool.false_and, Bool.false_eq_true, Bool.and_eq_true, decide_eq_true_eq, false_iff]
    omega
  cases e2 : findN ns l.c
  · have e : nodeN ns l.c = q0 := by unfold nodeN; rw [e2]; rfl
    rw [e]
    apply Bool.eq_iff_iff.2
    simp only [Option.isSome_none, Bool.and_false, Bool.false_and, Bool.false_eq_true, Bool.and_eq_true, decide_eq_true_eq, false_iff]
    omega
  simp
theorem any_up {l : List Q4} {k : Nat} {x : Q4} {f : Q4 → Bool} (h : (l.take k).any f = false) (hx : l[k]? = some x) (hf : f x = false) : (l.take (k + 1)).any f = false := by
  rw [take_snoc hx, List.any_append, h]
  simp [hf]
theorem any_at {l : List Q4} {k : Nat} {x : Q4} {f : Q4 → Bool} (hx : l[k]? = some x) (hf : f x = true) : l.any f = true := List.any_eq_true.2 ⟨x, List.mem_of_getElem? hx, hf⟩
set_option maxHeartbeats 4000000 in
theorem ports_any (A A2 : Option Addr) (c c2 m : Nat) (ns : List Q4) (l : Q4) (w : World) (h : Qs w A ns) (hl : ns.length ≤ 9223372036854775807) :
    Calls Try.prog 39 #[.agg #[.slice A ns.length c, .slice A2 m c2], .agg l.cs] w fun e w' => e = .returned (.bool (portsL ns l)) ∧ Grows w w' := by
  have k2 := (Blk.new w 40 #[.slice A ns.length c, .slice A2 m c2]).alloc (Obj.cells #[.int .i64 l.a, .int .i64 l.b, .int .i64 l.c, .int .i64 l.d] 52)
  have k3 := blk_new_at (X := w.alloc (Obj.cells #[.slice A ns.length c, .slice A2 m c2] 40)) (n := w.heap.size + 1) (t := 52) (cs := #[.int .i64 l.a, .int .i64 l.b, .int .i64 l.c, .int .i64 l.d]) (by simp)
  have hB := ((Below.refl w.heap.size w).alloc (Nat.le_refl _) (Obj.cells #[.slice A ns.length c, .slice A2 m c2] 40)).alloc (by simp) (Obj.cells #[.int .i64 l.a, .int .i64 l.b, .int .i64 l.c, .int .i64 l.d] 52)
  simp only [Q4.cs]
  go_enter Try.func39, Try.ntmps39
  go_upto_region 1 with fail
  have hge : w.heap.size ≤ w.heap.size + 1 := Nat.le_succ _
  generalize World.alloc (World.alloc w _) _ = w1 at *
  have x2 := k2.cell
  have x3 := k3.cell
  go_wp2_with fail
  refine (node_any A A2 c c2 m ns l.a _ (h.grows hB) hl).mono ?_
  rintro e w2 ⟨rfl, hq⟩
  replace k2 := k2.grows hq
  replace k3 := k3.grows hq
  replace hB := below_grows hB (Nat.le_refl _) hq
  clear hq x2 x3
  generalize hn1 : nodeN ns l.a = n1 at *
  generalize hf1 : (findN ns l.a).isSome = f1 at *
  have Hn1 := Lib.hid hn1
  have Hf1 := Lib.hid hf1
  clear hn1 hf1
  have x2 := k2.cell
  have x3 := k3.cell
  simp only [Q4.cs]
  go_upto_region 2 with fail
  clear x2 x3
  have k5 := Blk.new w2 59 #[.int .i64 n1.a, .int .i64 n1.b, .int .i64 n1.c, .int .i64 n1.d]
  have hq := (Below.refl w2.heap.size w2).alloc (Nat.le_refl _) (Obj.cells #[.int .i64 n1.a, .int .i64 n1.b, .int .i64 n1.c, .int .i64 n1.d] 59)
  replace k2 := k2.grows hq
  replace k3 := k3.grows hq
  replace hB := below_grows hB (Nat.le_refl _) hq
  clear hq
  generalize World.alloc w2 _ = w3 at *
  generalize w2.heap.size = G5 at *
  have x2 := k2.cell
  have x3 := k3.cell
  go_wp2_with fail
  refine (node_any A A2 c c2 m ns l.c _ (h.grows hB) hl).mono ?_
  rintro e w4 ⟨rfl, hq⟩
  replace k2 := k2.grows hq
  replace k3 := k3.grows hq
  replace k5 := k5.grows hq
  replace hB := below_grows hB (Nat.le_refl _) hq
  clear hq x2 x3
  generalize hn2 : nodeN ns l.c = n2 at *
  generalize hf2 : (findN ns l.c).isSome = f2 at *
  have Hn2 := Lib.hid hn2
  have Hf2 := Lib.hid hf2
  clear hn2 hf2
  have x2 := k2.cell
  have x3 := k3.cell
  simp only [Q4.cs]
  go_upto_region 3 with fail
  clear x2 x3
  have k7 := Blk.new w4 59 #[.int .i64 n2.a, .int .i64 n2.b, .int .i64 n2.c, .int .i64 n2.d]
  have hq := (Below.refl w4.heap.size w4).alloc (Nat.le_refl _) (Obj.cells #[.int .i64 n2.a, .int .i64 n2.b, .int .i64 n2.c, .int .i64 n2.d] 59)
  replace k3 := k3.grows hq
  replace k5 := k5.grows hq
  replace hB := below_grows hB (Nat.le_refl _) hq
  clear hq k2
  generalize World.alloc w4 _ = w5 at *
  generalize w4.heap.size = G7 at *
  have x3 := k3.cell
  have x5 := k5.cell
  have x7 := k7.cell
  cases f1
  all_goals cases f2
  all_goals go_wp2
  all_goals go_ret
  all_goals (refine ⟨ret_bool ?_, hB⟩; unfold portsL; rw [Hn1.out, Hn2.out, Hf1.out, Hf2.out]; apply Bool.eq_iff_iff.2; simp only [Bool.and_eq_true, Bool.true_and, Bool.false_and, Bool.false_eq_true, decide_eq_true_eq, false_iff] at *; try omega)
set_option maxHeartbeats 4000000 in
theorem crowd_any (A A2 A3 : Option Addr) (c c2 c3 m : Nat) (ns ot : List Q4) (l : Q4) (w : World) (h : Qs w A ns) (hl : ns.length ≤ 9223372036854775807) (ho : Qs w A3 ot) (hol : ot.length ≤ 9223372036854775807) :
    Calls Try.prog 41 #[.agg #[.slice A ns.length c, .slice A2 m c2], .agg l.cs, .slice A3 ot.length c3] w fun e w' => e = .returned (.bool (crowdL ns l ot)) ∧ Grows w w' := by
  have k2 := (Blk.new w 40 #[.slice A ns.length c, .slice A2 m c2]).alloc (Obj.cells #[.int .i64 l.a, .int .i64 l.b, .int .i64 l.c, .int .i64 l.d] 52)
  have k3 := blk_new_at (X := w.alloc (Obj.cells #[.slice A ns.length c, .slice A2 m c2] 40)) (n := w.heap.size + 1) (t := 52) (cs := #[.int .i64 l.a, .int .i64 l.b, .int .i64 l.c, .int .i64 l.d]) (by simp)
  have hB := ((Below.refl w.heap.size w).alloc (Nat.le_refl _) (Obj.cells #[.slice A ns.length c, .slice A2 m c2] 40)).alloc (by simp) (Obj.cells #[.int .i64 l.a, .int .i64 l.b, .int .i64 l.c, .int .i64 l.d] 52)
  simp only [Q4.cs]
  go_enter Try.func41, Try.ntmps41
  go_upto_region 1 with fail
  have hge : w.heap.size ≤ w.heap.size + 1 := Nat.le_succ _
  generalize World.alloc (World.alloc w _) _ = w1 at *
  have x2 := k2.cell
  have x3 := k3.cell
  go_wp2_with fail
  refine (node_any A A2 c c2 m ns l.a _ (h.grows hB) hl).mono ?_
  rintro e w2 ⟨rfl, hq⟩
  replace k2 := k2.grows hq
  replace k3 := k3.grows hq
  replace hB := below_grows hB (Nat.le_refl _) hq
  clear hq x2 x3
  generalize hn1 : nodeN ns l.a = n1 at *
  generalize hf1 : (findN ns l.a).isSome = f1 at *
  have Hn1 := Lib.hid hn1
  have Hf1 := Lib.hid hf1
  clear hn1 hf1
  have x2 := k2.cell
  have x3 := k3.cell
  simp only [Q4.cs]
  go_upto_region 2 with fail
  clear x2 x3
  have k5 := Blk.new w2 59 #[.int .i64 n1.a, .int .i64 n1.b, .int .i64 n1.c, .int .i64 n1.d]
  have hq := (Below.refl w2.heap.size w2).alloc (Nat.le_refl _) (Obj.cells #[.int .i64 n1.a, .int .i64 n1.b, .int .i64 n1.c, .int .i64 n1.d] 59)
  replace k2 := k2.grows hq
  replace k3 := k3.grows hq
  replace hB := below_grows hB (Nat.le_refl _) hq
  clear hq
  generalize World.alloc w2 _ = w3 at *
  generalize w2.heap.size = G5 at *
  have x2 := k2.cell
  have x3 := k3.cell
  go_wp2_with fail
  refine (node_any A A2 c c2 m ns l.c _ (h.grows hB) hl).mono ?_
  rintro e w4 ⟨rfl, hq⟩
  replace k2 := k2.grows hq
  replace k3 := k3.grows hq
  replace k5 := k5.grows hq
  replace hB := below_grows hB (Nat.le_refl _) hq
  clear hq x2 x3
  generalize hn2 : nodeN ns l.c = n2 at *
  generalize hf2 : (findN ns l.c).isSome = f2 at *
  have Hn2 := Lib.hid hn2
  have Hf2 := Lib.hid hf2
  clear hn2 hf2
  have x2 := k2.cell
  have x3 := k3.cell
  simp only [Q4.cs]
  go_upto_region 3 with fail
  clear x2 x3
  have k7 := Blk.new w4 59 #[.int .i64 n2.a, .int .i64 n2.b, .int .i64 n2.c, .int .i64 n2.d]
  have hq := (Below.refl w4.heap.size w4).alloc (Nat.le_refl _) (Obj.cells #[.int .i64 n2.a, .int .i64 n2.b, .int .i64 n2.c, .int .i64 n2.d] 59)
  replace k3 := k3.grows hq
  replace k5 := k5.grows hq
  replace hB := below_grows hB (Nat.le_refl _) hq
  clear hq k2
  generalize World.alloc w4 _ = w5 at *
  generalize w4.heap.size = G7 at *
  have x3 := k3.cell
  have x5 := k5.cell
  have x7 := k7.cell
  clear hge Hf1 Hf2 x3 x5 x7
  obtain ⟨p1, hp1⟩ : ∃ p, p = n1.b := ⟨_, rfl⟩
  obtain ⟨p2, hp2⟩ : ∃ p, p = n2.b := ⟨_, rfl⟩
  have ho2 := ho.grows hB
  have HF : Hid (∀ x, clashL ns x l = ((x.c == l.c && x.d == l.d && p2 != 3) || (x.a == l.a && x.b == l.b && p1 != 5 && p1 != 1))) := Lib.hid (fun x => by unfold clashL; rw [Hn1.out, Hn2.out, hp1, hp2])
  rw [← hp1] at k5
  rw [← hp2] at k7
  clear hp1 hp2
  go_wp2_with fail
  go_loopw [29] (fun i wr => ∃ k : Nat, k ≤ ot.length ∧ i = .int .i64 k ∧ Hid ((ot.take k).any (fun x => clashL ns x l) = false) ∧ Below w.heap.size w wr ∧ Blk wr (w.heap.size + 1) 52 #[.int .i64 l.a, .int .i64 l.b, .int .i64 l.c, .int .i64 l.d] ∧ Blk wr G5 59 #[.int .i64 n1.a, .int .i64 p1, .int .i64 n1.c, .int .i64 n1.d] ∧ Blk wr G7 59 #[.int .i64 n2.a, .int .i64 p2, .int .i64 n2.c, .int .i64 n2.d]) (fun i _ => ot.length - (intOf i).toNat)
  case atStart => exact ⟨0, by omega, rfl, Lib.hid (by simp), hB, k3, k5, k7⟩
  case round =>
    clear hB k3 k5 k7 ho2
    obtain ⟨k, hk, rfl, hf, hB, k3, k5, k7⟩ := hrel
    by_cases hlt : k < ot.length
    · obtain ⟨ad, x, rfl, had, hx, c0, c1, c2, c3⟩ := (ho.grows hB).elem hlt
      have HX := Lib.hid hx
      clear hx
      have kx := Blk.new wr 52 #[.int .i64 x.a, .int .i64 x.b, .int .i64 x.c, .int .i64 x.d]
      have hq := (Below.refl wr.heap.size wr).alloc (Nat.le_refl _) (Obj.cells #[.int .i64 x.a, .int .i64 x.b, .int .i64 x.c, .int .i64 x.d] 52)
      go_upto_region 6 with fail
      clear c0 c1 c2 c3
      replace hB := below_grows hB (Nat.le_refl _) hq
      replace k3 := k3.grows hq
      replace k5 := k5.grows hq
      replace k7 := k7.grows hq
      clear hq
      generalize World.alloc wr _ = w6 at *
      generalize wr.heap.size = G9 at *
      have x3 := k3.cell
      have x5 := k5.cell
      have x7 := k7.cell
      have xx := kx.cell
      go_wp2
      all_goals first
        | (go_ret
           refine ⟨ret_bool ?_, hB⟩
           unfold crowdL
           exact (any_at HX.out (by rw [HF.out]; simp_all)).symm)
        | (go_roundw
           case rel => exact ⟨k + 1, by omega, by go_num, Lib.hid (any_up hf.out HX.out (by rw [HF.out]; simp_all)), hB, k3, k5, k7⟩
           case measure => simp [intOf]; omega)
    · have HE : Hid (ot.any (fun x => clashL ns x l) = false) := Lib.hid (by have := hf.out; rwa [List.take_of_length_le (by omega)] at this)
      go_wp2
      go_ret
      refine ⟨ret_bool ?_, hB⟩
      exact HE.out.symm
end Go.Proofs.Ytmokpiacioeohaa
