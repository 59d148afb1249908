/-
  Layer 9: Inside of both. Plain contracts.
-/
import Derived.Test.YtejdaodchaeglaaSpP
import Derived.Test.YtejdaodchaeglaaSpV
namespace Go.Proofs.Ytejdaodchaeglaa
open Go.RowKit
def insP (z x : Sp) : Bool := (decide (x.1 ≤ z.1) && decide (z.2 ≤ x.2))
/-- Each span of l lies in one of m. -/
def insideF (l m : List Sp) : Bool := (spansF l).all fun z => (spansF m).any fun x => insP z x
theorem ins_p (z : Sp) (x : Sp) (B : Nat) (w : World) (kn : Blk w B 40 #[.int .i64 z.1, .int .i64 z.2]) : Calls Try.prog 40 #[.agg #[.int .i64 x.1, .int .i64 x.2], .pointer (some ⟨B, 0, none⟩)] w fun e w' => e = .returned (.bool (insP z x)) ∧ Grows w w' := by
  have k2 := Blk.new w 40 #[.int .i64 x.1, .int .i64 x.2]
  have hB := (Below.refl w.heap.size w).alloc (Nat.le_refl _) (Obj.cells #[.int .i64 x.1, .int .i64 x.2] 40)
  replace kn := kn.grows hB
  go_enter Try.func40, Try.ntmps40
  go_upto_region 1 with fail
  have x0 := kn.cell 0
  have x1 := kn.cell 1
  have y0 := k2.cell 0
  have y1 := k2.cell 1
  have hgg : Grows w (w.alloc (Obj.cells #[.int .i64 x.1, .int .i64 x.2] 40)) := hB
  clear hB
  generalize World.alloc w _ = w1 at *
  generalize w.heap.size = G2 at *
  by_cases h1 : x.1 ≤ z.1
  · by_cases h2 : z.2 ≤ x.2
    · have HE : Hid (insP z x = true) := Lib.hid (by simp [insP, h1, h2])
      go_wp2
      go_ret
      exact ⟨ret_bool HE.out.symm, hgg⟩
    · have HE : Hid (insP z x = false) := Lib.hid (by simp [insP, h2])
      go_wp2
      go_ret
      exact ⟨ret_bool HE.out.symm, hgg⟩
  · have HE : Hid (insP z x = false) := Lib.hid (by simp [insP, h1])
    go_wp2
    go_ret
    exact ⟨ret_bool HE.out.symm, hgg⟩
def Found_ins (z : Sp) (l : List Sp) (r : Int) : Prop := (r = -1 ∧ ∀ x ∈ l, insP z x = false) ∨ (0 ≤ r ∧ ∃ x ∈ l, insP z x = true)
set_option maxHeartbeats 4000000 in
theorem index_ins (z : Sp) (A : Option Addr) (c : Nat) (l : List Sp) (w : World) (B : Nat) (kn : Blk w B 40 #[.int .i64 z.1, .int .i64 z.2]) (h : Sps w A l) (hl : l.length ≤ 9223372036854775807) (F : Value) (hF : F = .func (.func 40) #[] #[.pointer (some ⟨B, 0, none⟩)]) :
    Calls Try.prog 44 #[.slice A l.length c, F] w fun e w' => (∃ r, Found_ins z l r ∧ e = .returned (.int .i64 r)) ∧ Grows w w' := by
  subst hF
  go_enter Try.func44, Try.ntmps44
  go_wp2
  go_loopw [8] (fun i wr => ∃ k : Nat, k ≤ l.length ∧ i = .int .i64 k ∧ Grows w wr ∧ ∀ x ∈ l.take k, insP z x = false) (fun i _ => l.length - (intOf i).toNat)
  case atStart => exact ⟨0, by omega, rfl, Below.refl _ _, by simp⟩
  case round =>
    obtain ⟨k, hk, rfl, hB, hall⟩ := hrel
    by_cases hlt : k < l.length
    · obtain ⟨ad, x, rfl, had, hx, c0, c1⟩ := (h.grows hB).elem hlt
      have HX : Hid (l.take (k + 1) = l.take k ++ [x]) := take_snoc hx
      have HM : Hid (x ∈ l) := List.mem_of_getElem? hx
      clear hx
      go_wp2_with fail
      refine (ins_p z x B _ (kn.grows hB)).mono ?_
      rintro e w2 ⟨rfl, hq⟩
      replace hB := below_grows hB (Nat.le_refl _) hq
      clear c0 c1 hq
      cases ho : insP z x
      · go_wp2
        go_roundw
        case rel =>
          refine ⟨k + 1, by omega, by go_num, hB, ?_⟩
          rw [HX.out]
          intro y hy
          rcases List.mem_append.1 hy with hy | hy
          · exact hall y hy
          · simp at hy; subst hy; exact ho
        case measure => simp [intOf]; omega
      · go_wp2
        go_ret
        exact ⟨⟨_, .inr ⟨by omega, x, HM.out, ho⟩, rfl⟩, hB⟩
    · have e : l.take k = l := List.take_of_length_le (by omega)
      rw [e] at hall
      go_wp2
      go_ret
      exact ⟨⟨-1, .inl ⟨rfl, hall⟩, rfl⟩, hB⟩
set_option maxHeartbeats 4000000 in
theorem cont_ins (z : Sp) (A : Option Addr) (c : Nat) (l : List Sp) (w : World) (B : Nat) (kn : Blk w B 40 #[.int .i64 z.1, .int .i64 z.2]) (h : Sps w A l) (hl : l.length ≤ 9223372036854775807) :
    Calls Try.prog 33 #[.slice A l.length c, .func (.func 40) #[] #[.pointer (some ⟨B, 0, none⟩)]] w fun e w' => e = .returned (.bool (l.any fun x => insP z x)) ∧ Grows w w' := by
  go_enter Try.func33, Try.ntmps33
  go_wp2_with fail
  refine (index_ins z A c l _ B kn h hl _ rfl).mono ?_
  rintro e w2 ⟨⟨r, hr, rfl⟩, hB⟩
  have hd : decide (0 ≤ r) = l.any fun x => insP z x := by
    rcases hr with ⟨rfl, ha⟩ | ⟨h0, x, hx, ho⟩
    · rw [show decide ((0 : Int) ≤ -1) = false from rfl]
      symm
      rw [List.any_eq_false]
      intro x hx
      rw [ha x hx]
      simp
    · rw [show decide (0 ≤ r) = true from by simpa using h0]
      symm
      exact List.any_eq_true.2 ⟨x, hx, ho⟩
  go_wp2
  go_ret
  exact ⟨rfl, hB⟩
theorem inside_no {l m : List Sp} {z : Sp} (hz : z ∈ spansF l) (hc : ((spansF m).any fun x => insP z x) = false) : insideF l m = false := by
  unfold insideF
  rw [List.all_eq_false]
  exact ⟨z, hz, by rw [hc]; simp⟩
theorem any_snoc {m : List Sp} {j : Nat} {y : Sp} (p : Sp → Bool) (h : m[j]? = some y) : ((m.take (j + 1)).any p) = ((m.take j).any p || p y) := by
  rw [take_snoc h]
  simp
theorem all_snoc' {m : List Sp} {j : Nat} {y : Sp} (p : Sp → Bool) (h : m[j]? = some y) : ((m.take (j + 1)).all p) = ((m.take j).all p && p y) := by
  rw [take_snoc h]
  simp
set_option maxRecDepth 100000 in
set_option maxHeartbeats 16000000 in
theorem inside_any (A : Option Addr) (c : Nat) (l : List Sp) (B : Option Addr) (cb : Nat) (m : List Sp) (w : World) (h : Sps w A l) (hl : l.length ≤ 9223372036854775807) (hm : Sps w B m) (hml : m.length ≤ 9223372036854775807) :
    Calls Try.prog 24 #[.agg #[.slice A l.length c], .agg #[.slice B m.length cb]] w fun e w' => e = .returned (.bool (insideF l m)) ∧ Grows w w' := by
  have k2 := (Blk.new w 24 #[.slice A l.length c]).alloc (Obj.cells #[.slice B m.length cb] 24)
  have k3 := blk_new_at (X := w.alloc (Obj.cells #[.slice A l.length c] 24)) (n := w.heap.size + 1) (t := 24) (cs := #[.slice B m.length cb]) (by simp)
  have hB := ((Below.refl w.heap.size w).alloc (Nat.le_refl _) (Obj.cells #[.slice A l.length c] 24)).alloc (by simp) (Obj.cells #[.slice B m.length cb] 24)
  go_enter Try.func24, Try.ntmps24
  go_upto_region 1 with fail
  generalize World.alloc (World.alloc w _) _ = w1 at *
  have x3 := k3.cell 0
  obtain ⟨A2, c2, ev2, hat⟩ := spV_is A c l
  obtain ⟨A3, c3, ev3, hbt⟩ := spV_is B cb m
  go_wp2_with fail
  refine (spans_val B cb m _ (hm.grows hB) hml).mono ?_
  rw [ev3]
  rintro e w2 ⟨rfl, hq⟩
  replace hB := below_grows hB (Nat.le_refl _) hq
  replace k2 := k2.grows hq
  have h3 := hbt w hm
  clear x3 k3 hq hbt ev3
  have x2 := k2.cell 0
  go_wp2_with fail
  refine (spans_val A c l _ (h.grows hB) hl).mono ?_
  rw [ev2]
  rintro e w3 ⟨rfl, hq⟩
  replace hB := below_grows hB (Nat.le_refl _) hq
  have h2 := hat w h
  clear x2 k2 hq hat ev2
  have hla := spansF_len l
  have hlb := spansF_len m
  have HF : Hid (insideF l m = (spansF l).all fun z => (spansF m).any fun x => insP z x) := Lib.hid rfl
  have HN : Hid (∀ z ∈ spansF l, ((spansF m).any fun x => insP z x) = false → insideF l m = false) := Lib.hid fun z hz hc => inside_no hz hc
  generalize spansF l = a at *
  generalize spansF m = b at *
  go_wp2_with fail
  go_loopw [13] (fun i wr => ∃ k : Nat, k ≤ a.length ∧ i = .int .i64 k ∧ Hid (((a.take k).all fun z => b.any fun x => insP z x) = true) ∧ Below w.heap.size w wr) (fun i _ => a.length - (intOf i).toNat)
  case atStart => exact ⟨0, by omega, rfl, Lib.hid rfl, hB⟩
  case round =>
    clear hB
    obtain ⟨k, hk, rfl, hall, hB⟩ := hrel
    by_cases hlt : k < a.length
    · obtain ⟨ad, z, rfl, had, hx, c0, c1⟩ := (h2.grows hB).elem hlt
      have HX := Lib.hid (all_snoc' (fun z => b.any fun x => insP z x) hx)
      have HM : Hid (z ∈ a) := Lib.hid (List.mem_of_getElem? hx)
      clear hx
      have k7 := Blk.new wr 40 #[.int .i64 z.1, .int .i64 z.2]
      have hq := (Below.refl wr.heap.size wr).alloc (Nat.le_refl _) (Obj.cells #[.int .i64 z.1, .int .i64 z.2] 40)
      replace hB := below_grows hB (Nat.le_refl _) hq
      clear hq
      go_upto_region 5 with fail
      generalize World.alloc wr _ = w4 at *
      generalize wr.heap.size = G7 at *
      clear c0 c1
      go_wp2_with fail
      refine (cont_ins z A3 c3 b _ _ k7 (h3.grows hB) (by omega)).mono ?_
      rintro e w5 ⟨rfl, hq⟩
      replace hB := below_grows hB (Nat.le_refl _) hq
      clear hq k7
      cases hc : b.any fun x => insP z x
      · have HR : Hid (insideF l m = false) := Lib.hid (HN.out z HM.out hc)
        go_wp2
        go_ret
        exact ⟨ret_bool HR.out.symm, hB⟩
      · have HK : Hid (((a.take (k + 1)).all fun z => b.any fun x => insP z x) = true) := Lib.hid (by rw [HX.out, hall.out, hc]; rfl)
        go_wp2
        go_roundw
        case rel => exact ⟨k + 1, by omega, by go_num, HK, hB⟩
        case measure => simp [intOf]; omega
    · have e : a.take k = a := List.take_of_length_le (by omega)
      rw [e] at hall
      have HR : Hid (insideF l m = true) := Lib.hid (by rw [HF.out, hall.out])
      clear e
      go_wp2
      go_ret
      exact ⟨ret_bool HR.out.symm, hB⟩
set_option maxRecDepth 100000 in
set_option maxHeartbeats 16000000 in
theorem rinside_any (A : Option Addr) (c : Nat) (l : List Sp) (B : Option Addr) (cb : Nat) (m : List Sp) (w : World) (h : Sps w A l) (hl : l.length ≤ 9223372036854775807) (hm : Sps w B m) (hml : m.length ≤ 9223372036854775807) :
    Calls Try.prog 25 #[.agg #[.slice A l.length c], .agg #[.slice B m.length cb]] w fun e w' => e = .returned (.bool (insideF l m)) ∧ Grows w w' := by
  have k2 := (Blk.new w 24 #[.slice A l.length c]).alloc (Obj.cells #[.slice B m.length cb] 24)
  have k3 := blk_new_at (X := w.alloc (Obj.cells #[.slice A l.length c] 24)) (n := w.heap.size + 1) (t := 24) (cs := #[.slice B m.length cb]) (by simp)
  have hB := ((Below.refl w.heap.size w).alloc (Nat.le_refl _) (Obj.cells #[.slice A l.length c] 24)).alloc (by simp) (Obj.cells #[.slice B m.length cb] 24)
  go_enter Try.func25, Try.ntmps25
  go_upto_region 1 with fail
  generalize World.alloc (World.alloc w _) _ = w1 at *
  have x2 := k2.cell 0
  obtain ⟨A2, c2, ev2, hat⟩ := spV_is A c l
  obtain ⟨A3, c3, ev3, hbt⟩ := spV_is B cb m
  go_wp2_with fail
  refine (rspans_val A c l _ (h.grows hB) hl).mono ?_
  rw [ev2]
  rintro e w2 ⟨rfl, hq⟩
  replace hB := below_grows hB (Nat.le_refl _) hq
  replace k3 := k3.grows hq
  have h2 := hat w h
  have h3 := hbt w hm
  clear x2 k2 hq hat ev2 hbt
  have hla := spansF_len l
  have hlb := spansF_len m
  have HF : Hid (insideF l m = (spansF l).all fun z => (spansF m).any fun x => insP z x) := Lib.hid rfl
  have HN : Hid (∀ z ∈ spansF l, ((spansF m).any fun x => insP z x) = false → insideF l m = false) := Lib.hid fun z hz hc => inside_no hz hc
  have CB : ∀ w0, Sps w0 B m → Calls Try.prog 36 #[.agg #[.slice B m.length cb]] w0 fun e w' => e = .returned (.slice A3 (spansF m).length c3) ∧ Grows w0 w' := fun w0 h0 => by
    rw [← ev3]
    exact rspans_val B cb m w0 h0 hml
  clear ev3
  generalize spansF l = a at *
  generalize spansF m = b at *
  go_wp2_with fail
  go_loopw [13] (fun i wr => ∃ k : Nat, k ≤ a.length ∧ i = .int .i64 k ∧ Hid (((a.take k).all fun z => b.any fun x => insP z x) = true) ∧ Below w.heap.size w wr ∧ Blk wr (w.heap.size + 1) 24 #[.slice B m.length cb]) (fun i _ => a.length - (intOf i).toNat)
  case atStart => exact ⟨0, by omega, rfl, Lib.hid rfl, hB, k3⟩
  case round =>
    clear hB k3
    obtain ⟨k, hk, rfl, hall, hB, k3⟩ := hrel
    by_cases hlt : k < a.length
    · obtain ⟨ad, z, rfl, had, hx, c0, c1⟩ := (h2.grows hB).elem hlt
      have HX := Lib.hid (all_snoc' (fun z => b.any fun x => insP z x) hx)
      have HM : Hid (z ∈ a) := Lib.hid (List.mem_of_getElem? hx)
      clear hx
      have k6 := Blk.new wr 40 #[.int .i64 z.1, .int .i64 z.2]
      have hq := (Below.refl wr.heap.size wr).alloc (Nat.le_refl _) (Obj.cells #[.int .i64 z.1, .int .i64 z.2] 40)
      replace hB := below_grows hB (Nat.le_refl _) hq
      replace k3 := k3.grows hq
      clear hq
      go_upto_region 5 with fail
      generalize World.alloc wr _ = w4 at *
      generalize wr.heap.size = G7 at *
      clear c0 c1
      have x3 := k3.cell 0
      go_wp2_with fail
      refine (CB _ (hm.grows hB)).mono ?_
      rintro e w5 ⟨rfl, hq⟩
      replace hB := below_grows hB (Nat.le_refl _) hq
      replace k3 := k3.grows hq
      replace k6 := k6.grows hq
      clear hq x3
      go_wp2_with fail
      go_loopw [7, 20] (fun t i wr => ∃ j : Nat, j ≤ b.length ∧ i = .int .i64 j ∧ t = .bool ((b.take j).any fun x => insP z x) ∧ Below w5.heap.size w5 wr) (fun _ i _ => b.length - (intOf i).toNat)
      case atStart => exact ⟨0, by omega, rfl, rfl, Below.refl _ _⟩
      case round =>
        obtain ⟨j, hj, rfl, rfl, hg⟩ := hrel
        by_cases hjt : j < b.length
        · obtain ⟨ad2, y, rfl, had2, hy, d0, d1⟩ := (h3.grows (below_grows hB (Nat.le_refl _) hg)).elem hjt
          have HY := Lib.hid (any_snoc (fun x => insP z x) hy)
          clear hy
          have k9 := Blk.new wr 40 #[.int .i64 y.1, .int .i64 y.2]
          have hq := (Below.refl wr.heap.size wr).alloc (Nat.le_refl _) (Obj.cells #[.int .i64 y.1, .int .i64 y.2] 40)
          replace hg := below_grows hg (Nat.le_refl _) hq
          clear hq
          go_upto_region 8 with fail
          clear d0 d1
          generalize World.alloc wr _ = w6 at *
          generalize wr.heap.size = G9 at *
          have k6' := k6.grows hg
          have e0 := k6'.cell 0
          have e1 := k6'.cell 1
          have f0 := k9.cell 0
          have f1 := k9.cell 1
          generalize hT : ((b.take j).any fun x => insP z x) = t at *
          cases t
          · by_cases h1 : y.1 ≤ z.1
            · by_cases h2 : z.2 ≤ y.2
              · have HV : Hid (((b.take (j + 1)).any fun x => insP z x) = true) := Lib.hid (by rw [HY.out]; simp [insP, h1, h2])
                clear HY hT
                go_wp2
                go_roundw
                case rel => exact ⟨j + 1, by omega, by go_num, by rw [HV.out], hg⟩
                case measure => simp [intOf]; omega
              · have HV : Hid (((b.take (j + 1)).any fun x => insP z x) = false) := Lib.hid (by rw [HY.out]; simp [insP, h2])
                clear HY hT
                go_wp2
                go_roundw
                case rel => exact ⟨j + 1, by omega, by go_num, by rw [HV.out], hg⟩
                case measure => simp [intOf]; omega
            · have HV : Hid (((b.take (j + 1)).any fun x => insP z x) = false) := Lib.hid (by rw [HY.out]; simp [insP, h1])
              clear HY hT
              go_wp2
              go_roundw
              case rel => exact ⟨j + 1, by omega, by go_num, by rw [HV.out], hg⟩
              case measure => simp [intOf]; omega
          · have HV : Hid (((b.take (j + 1)).any fun x => insP z x) = true) := Lib.hid (by rw [HY.out]; rfl)
            clear HY hT
            go_wp2
            go_roundw
            case rel => exact ⟨j + 1, by omega, by go_num, by rw [HV.out], hg⟩
            case measure => simp [intOf]; omega
        · have e : b.take j = b := List.take_of_length_le (by omega)
          rw [e]
          clear e
          replace hB := below_grows hB (Nat.le_refl _) hg
          replace k3 := k3.grows hg
          cases hc : b.any fun x => insP z x
          · have HR : Hid (insideF l m = false) := Lib.hid (HN.out z HM.out hc)
            go_wp2
            go_ret
            exact ⟨ret_bool HR.out.symm, hB⟩
          · have HK : Hid (((a.take (k + 1)).all fun z => b.any fun x => insP z x) = true) := Lib.hid (by rw [HX.out, hall.out, hc]; rfl)
            go_wp2
            go_roundw
            case rel => exact ⟨k + 1, by omega, by go_num, HK, hB, k3⟩
            case measure => simp [intOf]; omega
    · have e : a.take k = a := List.take_of_length_le (by omega)
      rw [e] at hall
      have HR : Hid (insideF l m = true) := Lib.hid (by rw [HF.out, hall.out])
      clear e
      go_wp2
      go_ret
      exact ⟨ret_bool HR.out.symm, hB⟩
end Go.Proofs.Ytejdaodchaeglaa
