/-
  Graphs: a node by its ID, its place, a number in a list. Plain contracts.
-/
import Derived.Test.YtmokpiacioeohaaGrA
namespace Go.Proofs.Ytmokpiacioeohaa
open Go.RowKit
theorem find_up {ns : List Q4} {k : Nat} {x : Q4} {id : Int} (h : findN (ns.take k) id = none) (hx : ns[k]? = some x) (hne : ¬ x.a = id) : findN (ns.take (k + 1)) id = none := by
  rw [take_snoc hx]
  unfold findN at *
  rw [List.find?_append, h]
  simp [hne]
theorem find_at {ns : List Q4} {k : Nat} {x : Q4} {id : Int} (h : findN (ns.take k) id = none) (hx : ns[k]? = some x) (he : x.a = id) : findN ns id = some x := by
  have : ns = ns.take k ++ x :: ns.drop (k + 1) := by
    have h2 := take_snoc hx
    have h3 := List.take_append_drop (k + 1) ns
    rw [h2] at h3
    simpa using h3.symm
  rw [this]
  unfold findN at *
  rw [List.find?_append, h]
  simp [he]
theorem ints_val {w : World} {A : Option Addr} {l : List Int} (h : Reads w w.heap.size 1 A l.length (l.map (Value.int .i64))) {k : Nat} (hk : k < l.length) : ∃ ad x, A = some ad ∧ l[k]? = some x ∧ w.cell? (ad.add k) = some (.int .i64 x) := by
  obtain ⟨ad, u, rfl, -, hu, hc⟩ := h.at_ hk
  rw [List.getElem?_map, List.getElem?_eq_getElem hk] at hu
  simp only [Option.map_some, Option.some.injEq] at hu
  subst hu
  exact ⟨ad, _, rfl, List.getElem?_eq_getElem hk, hc⟩
set_option maxHeartbeats 4000000 in
theorem node_any (A A2 : Option Addr) (c c2 m : Nat) (ns : List Q4) (id : Int) (w : World) (h : Qs w A ns) (hl : ns.length ≤ 9223372036854775807) :
    Calls Try.prog 38 #[.agg #[.slice A ns.length c, .slice A2 m c2], .int .i64 id] w fun e w' => e = .returned (.tuple #[.agg (nodeN ns id).cs, .bool (findN ns id).isSome]) ∧ Grows w w' := by
  have k2 := (Blk.new w 40 #[.slice A ns.length c, .slice A2 m c2]).alloc (Obj.cells #[.int .i64 0, .int .i64 0, .int .i64 0, .int .i64 0] 59)
  have k4 := blk_new_at (X := w.alloc (Obj.cells #[.slice A ns.length c, .slice A2 m c2] 40)) (n := w.heap.size + 1) (t := 59) (cs := #[.int .i64 0, .int .i64 0, .int .i64 0, .int .i64 0]) (by simp)
  have hB := ((Below.refl w.heap.size w).alloc (Nat.le_refl _) (Obj.cells #[.slice A ns.length c, .slice A2 m c2] 40)).alloc (by simp) (Obj.cells #[.int .i64 0, .int .i64 0, .int .i64 0, .int .i64 0] 59)
  go_enter Try.func38, Try.ntmps38
  go_upto_region 1 with fail
  generalize World.alloc (World.alloc w _) _ = w1 at *
  have x2 := k2.cell 0
  go_wp2_with fail
  clear x2 k2
  have hge : w.heap.size ≤ w.heap.size + 1 := Nat.le_succ _
  generalize w.heap.size + 1 = G4 at *
  go_loopw [11] (fun i wr => ∃ k : Nat, k ≤ ns.length ∧ i = .int .i64 k ∧ Hid (findN (ns.take k) id = none) ∧ Below w.heap.size w wr ∧ Blk wr G4 59 #[.int .i64 0, .int .i64 0, .int .i64 0, .int .i64 0]) (fun i _ => ns.length - (intOf i).toNat)
  case atStart => exact ⟨0, by omega, rfl, Lib.hid rfl, hB, k4⟩
  case round =>
    clear hB k4
    obtain ⟨k, hk, rfl, hf, hB, k4⟩ := hrel
    by_cases hlt : k < ns.length
    · obtain ⟨ad, x, rfl, had, hx, c0, c1, c2, c3⟩ := (h.grows hB).elem hlt
      have HX := Lib.hid hx
      clear hx
      have k7 := Blk.new wr 59 #[.int .i64 x.a, .int .i64 x.b, .int .i64 x.c, .int .i64 x.d]
      have hq := (Below.refl wr.heap.size wr).alloc (Nat.le_refl _) (Obj.cells #[.int .i64 x.a, .int .i64 x.b, .int .i64 x.c, .int .i64 x.d] 59)
      have k40 := k4
      go_upto_region 4 with fail
      clear c0 c1 c2 c3
      replace hB := below_grows hB (Nat.le_refl _) hq
      replace k4 := k4.grows hq
      have hne : ¬ G4 = wr.heap.size := fun e => by subst e; exact absurd k40.lt (Nat.lt_irrefl _)
      clear hq k40
      generalize World.alloc wr _ = w4 at *
      generalize wr.heap.size = G7 at *
      have x7 := k7.cell
      by_cases e : x.a = id
      · have HE := Lib.hid (find_at hf.out HX.out e)
        have y4 := k4.frozen
        have x4 := k4.cell
        subst e
        go_wp2
        refine bodyPost_ret (v := .tuple #[.agg #[.int .i64 x.a, .int .i64 x.b, .int .i64 x.c, .int .i64 x.d], .bool true]) (by simp [results, Try.results38, go_sem, x4]) rfl ⟨?_, ?_⟩
        · rw [show nodeN ns x.a = x by unfold nodeN; rw [HE.out]; rfl, HE.out]
          rfl
        · iterate 4 refine Below.setCell ?_ (by first | exact hge | (simp; omega)) _
          exact hB
      · have HE := Lib.hid (find_up hf.out HX.out e)
        have e2 : (x.a == id) = false := by simp [e]
        go_wp2
        go_roundw
        case rel => exact ⟨k + 1, by omega, by go_num, HE, hB, k4⟩
        case measure => simp [intOf]; omega
    · have HE : Hid (findN ns id = none) := Lib.hid (by have := hf.out; rwa [List.take_of_length_le (by omega)] at this)
      have x4 := k4.cell
      have y4 := k4.frozen
      go_wp2
      refine bodyPost_ret (v := .tuple #[.agg #[.int .i64 0, .int .i64 0, .int .i64 0, .int .i64 0], .bool false]) (by simp [results, Try.results38, go_sem, x4]) rfl ⟨?_, ?_⟩
      · rw [show nodeN ns id = q0 by unfold nodeN; rw [HE.out]; rfl, HE.out]
        rfl
      · iterate 4 refine Below.setCell ?_ (by first | exact hge | (simp; omega)) _
        exact hB
theorem cont_up {l : List Int} {k : Nat} {x id : Int} (h : (l.take k).contains id = false) (hx : l[k]? = some x) (hne : ¬ x = id) : (l.take (k + 1)).contains id = false := by
  rw [take_snoc hx]
  simp only [List.contains_eq_mem, decide_eq_false_iff_not, List.mem_append, List.mem_singleton] at *
  rintro (h1 | h1)
  · exact h h1
  · exact hne h1.symm
theorem cont_at {l : List Int} {k : Nat} {x : Int} (hx : l[k]? = some x) : l.contains x = true := by
  simp only [List.contains_eq_mem, decide_eq_true_eq]
  exact List.mem_of_getElem? hx
set_option maxHeartbeats 4000000 in
theorem in_any (A : Option Addr) (c : Nat) (l : List Int) (id : Int) (w : World) (h : Reads w w.heap.size 1 A l.length (l.map (Value.int .i64))) (hl : l.length ≤ 9223372036854775807) :
    Calls Try.prog 51 #[.slice A l.length c, .int .i64 id] w fun e w' => e = .returned (.bool (l.contains id)) ∧ w = w' := by
  go_enter Try.func51, Try.ntmps51
  go_wp2_with fail
  go_loop [9] (fun i => ∃ k : Nat, k ≤ l.length ∧ i = .int .i64 k ∧ Hid ((l.take k).contains id = false)) (fun i => l.length - (intOf i).toNat)
  case atStart => exact ⟨0, by omega, rfl, Lib.hid (by simp)⟩
  case round =>
    obtain ⟨k, hk, rfl, hf⟩ := hrel
    by_cases hlt : k < l.length
    · obtain ⟨ad, x, rfl, hx, c0⟩ := ints_val h hlt
      have HX := Lib.hid hx
      clear hx
      by_cases e : x = id
      · subst e
        have HE := Lib.hid (cont_at HX.out)
        go_wp2
        go_ret
        have he2 := HE.out
        simp only [List.contains_eq_mem] at he2
        rw [he2]
        exact ⟨rfl, rfl⟩
      · have HE := Lib.hid (cont_up hf.out HX.out e)
        have e2 : (x == id) = false := by simp [e]
        go_wp2
        go_round
        case rel => exact ⟨k + 1, by omega, by go_num, HE⟩
        case measure => simp [intOf]; omega
    · have HE : Hid (l.contains id = false) := Lib.hid (by have := hf.out; rwa [List.take_of_length_le (by omega)] at this)
      go_wp2
      go_ret
      have he2 := HE.out
      simp only [List.contains_eq_mem] at he2
      rw [he2]
      exact ⟨rfl, rfl⟩
/-- The place of a node. -/
def placeN (ns : List Q4) (id : Int) : Option Nat := ns.findIdx? fun n => n.a == id
def placeV (o : Option Nat) : Int := match o with | some k => (k : Int) | none => -1
theorem place_up {ns : List Q4} {k : Nat} {x : Q4} {id : Int} (h : placeN (ns.take k) id = none) (hx : ns[k]? = some x) (hne : ¬ x.a = id) : placeN (ns.take (k + 1)) id = none := by
  unfold placeN at *
  rw [take_snoc hx]
  rw [List.findIdx?_eq_none_iff] at *
  intro y hy
  rcases List.mem_append.1 hy with hy | hy
  · exact h y hy
  · simp only [List.mem_singleton] at hy
    subst hy
    simp [hne]
theorem place_at {ns : List Q4} {k : Nat} {x : Q4} {id : Int} (h : placeN (ns.take k) id = none) (hx : ns[k]? = some x) (he : x.a = id) : placeN ns id = some k := by
  unfold placeN at *
  rw [List.findIdx?_eq_none_iff] at h
  rw [List.findIdx?_eq_some_iff_getElem]
  obtain ⟨hk, hx⟩ := List.getElem?_eq_some_iff.1 hx
  refine ⟨hk, by rw [hx]; simp [he], fun j hj => ?_⟩
  have := h (ns[j]'(by omega)) (by
    rw [List.mem_take_iff_getElem]
    exact ⟨j, by omega, rfl⟩)
  simp only [Bool.not_eq_true]
  exact this
set_option maxHeartbeats 4000000 in
theorem place_any (A A2 : Option Addr) (c c2 m : Nat) (ns : List Q4) (id : Int) (w : World) (h : Qs w A ns) (hl : ns.length ≤ 9223372036854775807) :
    Calls Try.prog 34 #[.agg #[.slice A ns.length c, .slice A2 m c2], .int .i64 id] w fun e w' => e = .returned (.int .i64 (placeV (placeN ns id))) ∧ Grows w w' := by
  have k2 := Blk.new w 40 #[.slice A ns.length c, .slice A2 m c2]
  have hB := (Below.refl w.heap.size w).alloc (Nat.le_refl _) (Obj.cells #[.slice A ns.length c, .slice A2 m c2] 40)
  go_enter Try.func34, Try.ntmps34
  go_upto_region 1 with fail
  generalize World.alloc w _ = w1 at *
  have h1 := h.grows hB
  have x2 := k2.cell 0
  go_wp2_with fail
  go_loop [5] (fun i => ∃ k : Nat, k ≤ ns.length ∧ i = .int .i64 k ∧ Hid (placeN (ns.take k) id = none)) (fun i => ns.length - (intOf i).toNat)
  case atStart => exact ⟨0, by omega, rfl, Lib.hid rfl⟩
  case round =>
    obtain ⟨k, hk, rfl, hf⟩ := hrel
    by_cases hlt : k < ns.length
    · obtain ⟨ad, x, rfl, had, hx, c0, c1, c2, c3⟩ := h1.elem hlt
      have HX := Lib.hid hx
      clear hx
      by_cases e : x.a = id
      · have HE := Lib.hid (place_at hf.out HX.out e)
        subst e
        go_wp2
        go_ret
        rw [HE.out]
        exact ⟨rfl, hB⟩
      · have HE := Lib.hid (place_up hf.out HX.out e)
        have e2 : (x.a == id) = false := by simp [e]
        go_wp2
        go_round
        case rel => exact ⟨k + 1, by omega, by go_num, HE⟩
        case measure => simp [intOf]; omega
    · have HE : Hid (placeN ns id = none) := Lib.hid (by have := hf.out; rwa [List.take_of_length_le (by omega)] at this)
      go_wp2
      go_ret
      rw [HE.out]
      exact ⟨rfl, hB⟩
end Go.Proofs.Ytmokpiacioeohaa
