/-
  Layer 9: intersections of the reference and of the program. Plain contracts.
-/
import Derived.Test.YtejdaodchaeglaaSpP
import Derived.Test.YtejdaodchaeglaaGenT
namespace Go.Proofs.Ytejdaodchaeglaa
open Go.RowKit
/-- What spans gives, as a value. -/
def SpV (A : Option Addr) (c : Nat) (l : List Sp) : Value := if okS l = true then .slice A l.length c else .slice none 0 0
theorem spV_is (A : Option Addr) (c : Nat) (l : List Sp) : ∃ A2 c2, SpV A c l = .slice A2 (spansF l).length c2 ∧ (∀ w0, Sps w0 A l → Sps w0 A2 (spansF l)) := by
  cases hok : okS l
  · exact ⟨none, 0, by unfold SpV spansF; rw [if_neg (by rw [hok]; simp), if_neg (by rw [hok]; simp)]; rfl, fun _ _ => by unfold spansF; rw [if_neg (by rw [hok]; simp)]; exact sps_nil _⟩
  · exact ⟨A, c, by unfold SpV spansF; rw [if_pos hok, if_pos hok], fun _ h => by unfold spansF; rw [if_pos hok]; exact h⟩
theorem meas_i (n m i k : Nat) (h : i < n) : n - (intOf (.int .i64 ((i : Int) + 1))).toNat + (m - (intOf (.int .i64 (k : Int))).toNat) < n - (intOf (.int .i64 (i : Int))).toNat + (m - (intOf (.int .i64 (k : Int))).toNat) := by
  simp [intOf]
  omega
theorem meas_k (n m i k : Nat) (h : k < m) : n - (intOf (.int .i64 (i : Int))).toNat + (m - (intOf (.int .i64 ((k : Int) + 1))).toNat) < n - (intOf (.int .i64 (i : Int))).toNat + (m - (intOf (.int .i64 (k : Int))).toNat) := by
  simp [intOf]
  omega
theorem canon_drop {l : List Sp} (h : Canon l) (i : Nat) : Canon (l.drop i) := ⟨fun x hx => h.1 x (List.mem_of_mem_drop hx), h.2.sublist (List.drop_sublist _ _)⟩
set_option maxHeartbeats 4000000 in
theorem spans_val (A : Option Addr) (c : Nat) (l : List Sp) (w : World) (h : Sps w A l) (hl : l.length ≤ 9223372036854775807) :
    Calls Try.prog 34 #[.agg #[.slice A l.length c]] w fun e w' => e = .returned (SpV A c l) ∧ Grows w w' := by
  have k2 := Blk.new w 24 #[.slice A l.length c]
  have hB := (Below.refl w.heap.size w).alloc (Nat.le_refl _) (Obj.cells #[.slice A l.length c] 24)
  go_enter Try.func34, Try.ntmps34
  go_upto_region 1 with fail
  have h1 := h.grows hB
  generalize World.alloc w _ = w1 at *
  have x2 := k2.cell 0
  go_wp2_with fail
  refine (valid_any A c l _ h1 hl).mono ?_
  rintro e w2 ⟨rfl, hq⟩
  replace hB := below_grows hB (Nat.le_refl _) hq
  replace k2 := k2.grows hq
  clear x2 hq
  have x2 := k2.cell 0
  cases hok : okS l
  · have e : SpV A c l = .slice none 0 0 := if_neg (by rw [hok]; simp)
    have HE := Lib.hid e
    clear e
    go_wp2
    go_ret
    rw [HE.out]
    exact ⟨rfl, hB⟩
  · have e : SpV A c l = .slice A l.length c := if_pos hok
    have HE := Lib.hid e
    clear e
    go_wp2
    go_ret
    rw [HE.out]
    exact ⟨rfl, hB⟩
set_option maxHeartbeats 4000000 in
theorem rspans_val (A : Option Addr) (c : Nat) (l : List Sp) (w : World) (h : Sps w A l) (hl : l.length ≤ 9223372036854775807) :
    Calls Try.prog 36 #[.agg #[.slice A l.length c]] w fun e w' => e = .returned (SpV A c l) ∧ Grows w w' := by
  have k2 := Blk.new w 24 #[.slice A l.length c]
  have hB := (Below.refl w.heap.size w).alloc (Nat.le_refl _) (Obj.cells #[.slice A l.length c] 24)
  go_enter Try.func36, Try.ntmps36
  go_upto_region 1 with fail
  have h1 := h.grows hB
  generalize World.alloc w _ = w1 at *
  have x2 := k2.cell 0
  go_wp2_with fail
  refine (rvalid_any A c l _ h1 hl).mono ?_
  rintro e w2 ⟨rfl, hq⟩
  replace hB := below_grows hB (Nat.le_refl _) hq
  replace k2 := k2.grows hq
  clear x2 hq
  have x2 := k2.cell 0
  cases hok : okS l
  · have e : SpV A c l = .slice none 0 0 := if_neg (by rw [hok]; simp)
    have HE := Lib.hid e
    clear e
    go_wp2
    go_ret
    rw [HE.out]
    exact ⟨rfl, hB⟩
  · have e : SpV A c l = .slice A l.length c := if_pos hok
    have HE := Lib.hid e
    clear e
    go_wp2
    go_ret
    rw [HE.out]
    exact ⟨rfl, hB⟩
set_option maxHeartbeats 8000000 in
theorem rinter_any (A : Option Addr) (c : Nat) (l : List Sp) (B : Option Addr) (cb : Nat) (m : List Sp) (w : World) (h : Sps w A l) (hl : l.length ≤ 9223372036854775807) (hm : Sps w B m) (hml : m.length ≤ 9223372036854775807) :
    Calls Try.prog 23 #[.agg #[.slice A l.length c], .agg #[.slice B m.length cb]] w fun e w' => (∃ v, e = .returned v ∧ SetV w' ((interF (spansF l) (spansF m)).take 64) v) ∧ Grows w w' := by
  have k2 := ((Blk.new w 24 #[.slice A l.length c]).alloc (Obj.cells #[.slice B m.length cb] 24)).alloc (Obj.cells #[.slice none 0 0] 24)
  have k3 := (blk_new_at (X := w.alloc (Obj.cells #[.slice A l.length c] 24)) (n := w.heap.size + 1) (t := 24) (cs := #[.slice B m.length cb]) (by simp)).alloc (Obj.cells #[.slice none 0 0] 24)
  have k4 := blk_new_at (X := (w.alloc (Obj.cells #[.slice A l.length c] 24)).alloc (Obj.cells #[.slice B m.length cb] 24)) (n := w.heap.size + 2) (t := 24) (cs := #[.slice none 0 0]) (by simp)
  have hB := (((Below.refl w.heap.size w).alloc (Nat.le_refl _) (Obj.cells #[.slice A l.length c] 24)).alloc (by simp) (Obj.cells #[.slice B m.length cb] 24)).alloc (by simp; omega) (Obj.cells #[.slice none 0 0] 24)
  go_enter Try.func23, Try.ntmps23
  go_upto_region 1 with fail
  generalize World.alloc (World.alloc (World.alloc w _) _) _ = w1 at *
  have x2 := k2.cell 0
  have x3 := k3.cell 0
  go_wp2_with fail
  refine (all_any A c l B cb m _ (h.grows hB) hl (hm.grows hB) hml).mono ?_
  rintro e w2 ⟨⟨v, rfl, hown⟩, hq⟩
  replace hB := below_grows hB (Nat.le_refl _) hq
  replace k4 := k4.grows hq
  obtain ⟨A4, c4, rfl, hc4, hr4, -⟩ := hown.read
  clear x2 x3 hown hq k2 k3
  generalize hO : interF (spansF l) (spansF m) = o at *
  have HO := Lib.hid hO
  clear hO
  obtain ⟨q, hq⟩ : ∃ q : Nat, min (o.length : Int) 64 = (q : Int) := ⟨(min (o.length : Int) 64).toNat, by omega⟩
  have hqc : q ≤ c4 := by omega
  have x4 := k4.cell 0
  have f4 := k4.frozen 0
  have HQ := Lib.hid hq
  go_wp2
  have hql : (o.take 64).length = q := by have := HQ.out; rw [List.length_take]; omega
  have k5 := k4.set_ 0 (.slice A4 q c4)
  have hB4 := hB.setCell (p := ⟨w.heap.size + 2, 0, none⟩) (by simp) (.slice A4 q c4)
  have hr5 := (sps_take hr4 64).setOther k4 (.slice A4 q c4)
  generalize World.setCell _ _ _ = w5 at *
  have x5 : w5.cell? ⟨w.heap.size + 2, 0, none⟩ = some (.slice A4 q c4) := by rw [k5.cell]; rfl
  clear x4 f4 k4 k5
  exact bodyPost_ret (v := .agg #[.slice A4 q c4]) (by simp [results, Try.results23, go_sem, x5]) rfl ⟨⟨_, rfl, A4, c4, by rw [HO.out, hql], by rw [HO.out, hql]; exact hqc, by rw [HO.out]; exact hr5⟩, hB4⟩
end Go.Proofs.Ytejdaodchaeglaa
