/-
  YtjbkjgmcfommgaaGreatNegotiateChooses: shared parts, 2. Plain theorems.
-/
import Derived.Test.YtjbkjgmcfommgaaGreatNegotiateChoosesK1
import Derived.Lib.BitFns
import Derived.Lib.MinMax
import Derived.Deep.DeepCutAuto
namespace Go.Proofs.YtjbkjgmcfommgaaGreat
open Go.RowKit
def placeZ (o : Option Nat) : Int := match o with | some k => (k : Int) | none => -1
section
variable {α : Type} {l : List α} {p : α → Bool} {k : Nat} {x : α}
theorem idx_upU (h : (l.take k).findIdx? p = none) (hx : l[k]? = some x) (hne : p x = false) : (l.take (k + 1)).findIdx? p = none := by
 rw [take_snoc hx]
 rw [List.findIdx?_eq_none_iff] at *
 intro y hy
 rcases List.mem_append.1 hy with hy | hy
 ·exact h y hy
 ·simp only [List.mem_singleton] at hy
  subst hy
  exact hne
theorem idx_atU (h : (l.take k).findIdx? p = none) (hx : l[k]? = some x) (he : p x = true) : l.findIdx? p = some k := by
 rw [List.findIdx?_eq_none_iff] at h
 rw [List.findIdx?_eq_some_iff_getElem]
 obtain ⟨hk, hx⟩ := List.getElem?_eq_some_iff.1 hx
 refine ⟨hk, by rw [hx]; exact he, fun j hj => ?_⟩
 have := h (l[j]'(by omega)) (by
  rw [List.mem_take_iff_getElem]
  exact ⟨j, by omega, rfl⟩)
 simp only [Bool.not_eq_true]
 exact this
theorem place_anyU (l : List α) (p : α → Bool) : decide (0 ≤ placeZ (l.findIdx? p)) = l.any p := by
 cases e : l.findIdx? p with
 | none =>
  rw [List.findIdx?_eq_none_iff] at e
  have : l.any p = false := by rw [List.any_eq_false]; exact fun x hx => by rw [e x hx]; simp
  rw [this]
  rfl
 | some k =>
  obtain ⟨hk, h1, _⟩ := List.findIdx?_eq_some_iff_getElem.1 e
  have : l.any p = true := List.any_eq_true.2 ⟨_, List.getElem_mem hk, h1⟩
  rw [this]
  simp [placeZ]
end
theorem any_eq_mem (l : List (List Int)) (m : List Int) : (l.any fun x => decide (x = m)) = decide (m ∈ l) := by
 by_cases h : m ∈ l
 ·rw [decide_eq_true h, List.any_eq_true]
  exact ⟨m, h, by simp⟩
 ·rw [decide_eq_false h, List.any_eq_false]
  intro x hx
  simp only [decide_eq_true_eq]
  exact fun e => h (e ▸ hx)
theorem any_not {α : Type} (l : List α) (p : α → Bool) : (!(l.any fun x => !p x)) = l.all p := by
 induction l with
 | nil => rfl
 | cons x l ih =>
  simp only [List.any_cons, List.all_cons, Bool.not_or, Bool.not_not]
  rw [ih]
set_option maxHeartbeats 4000000 in
theorem pvalidm_any (A : Option Addr) (c : Nat) (m : List Int) (w : World) (h : Ints w A m) (hl : m.length ≤ 1000000) (hc : m.length ≤ c) : Calls Tryz.prog 92 #[.slice A m.length c] w fun e w' => e = .returned (.bool (validM m)) ∧ Grows w w' := by
 have hB := Below.refl w.heap.size w
 go_enter Tryz.func92, Tryz.ntmps92
 by_cases h1 : m.length < 1
 ·have HE : Hid (validM m = false) := Lib.hid (by unfold validM; simp only [Bool.and_eq_false_iff, decide_eq_false_iff_not]; omega)
  have d1 : decide ((m.length : Int) < 1) = true := by simp only [decide_eq_true_eq]; omega
  clear h1
  go_wp2
  go_ret
  exact ⟨ret_bool HE.out.symm, hB⟩
 have d1 : decide ((m.length : Int) < 1) = false := by simp only [decide_eq_false_iff_not]; omega
 by_cases h2 : 8 < m.length
 ·have HE : Hid (validM m = false) := Lib.hid (by unfold validM; simp only [Bool.and_eq_false_iff, decide_eq_false_iff_not]; omega)
  have d2 : decide ((8 : Int) < (m.length : Int)) = true := by simp only [decide_eq_true_eq]; omega
  clear h1 h2
  go_wp2
  go_ret
  exact ⟨ret_bool HE.out.symm, hB⟩
 have d2 : decide ((8 : Int) < (m.length : Int)) = false := by simp only [decide_eq_false_iff_not]; omega
 have HV : Hid (validM m = uniqOk okP m) := Lib.hid (by unfold validM; rw [decide_eq_true (by omega : 1 ≤ m.length), decide_eq_true (by omega : m.length ≤ 8)]; rfl)
 clear h1 h2
 go_wp2_with fail
 clear hB
 go_loopw [15] (fun i wr => ∃ k : Nat, k ≤ m.length ∧ i = .int .i64 k ∧ Hid (GoodU okP m k) ∧ Grows w wr) (fun i _ => m.length - (intOf i).toNat)
 case atStart => exact ⟨0, by omega, rfl, Lib.hid good_zero, Below.refl _ _⟩
 case round =>
  obtain ⟨k, hk, rfl, HF, hB⟩ := hrel
  by_cases hlt : k < m.length
  ·obtain ⟨ad, x, rfl, had, hx, q0⟩ := (h.grows hB).at_ hlt
   have HX := Lib.hid hx
   clear hx
   by_cases h1 : x < 1
   ·have HE : Hid (validM m = false) := Lib.hid (by rw [HV.out]; exact good_bad HX.out (by unfold okP; rw [decide_eq_false (by omega), Bool.false_and]))
    have d3 : decide (x < 1) = true := by simpa using h1
    clear h1
    go_wp2
    go_ret
    exact ⟨ret_bool HE.out.symm, hB⟩
   have d3 : decide (x < 1) = false := by simpa using h1
   by_cases h2 : 8 < x
   ·have HE : Hid (validM m = false) := Lib.hid (by rw [HV.out]; exact good_bad HX.out (by unfold okP; rw [decide_eq_false (by omega : ¬ x ≤ 8), Bool.and_false]))
    have d4 : decide (8 < x) = true := by simpa using h2
    clear h1 h2
    go_wp2
    go_ret
    exact ⟨ret_bool HE.out.symm, hB⟩
   have d4 : decide (8 < x) = false := by simpa using h2
   have HOK : Hid (okP x = true) := Lib.hid (by unfold okP; rw [decide_eq_true (by omega), decide_eq_true (by omega)]; rfl)
   clear h1 h2
   have hkc : k ≤ c := by omega
   have hkl : (m.take k).length = k := by rw [List.length_take]; omega
   have htk := ints_take (h.grows hB) (Nat.le_of_lt hlt)
   have hcon := contains_any (some ad) c (m.take k) x wr htk (by omega)
   rw [hkl] at hcon
   have HC := Lib.hid hcon
   clear hcon
   go_wp2_with fail
   refine HC.out.mono ?_
   clear HC
   by_cases h5 : x ∈ m.take k
   ·have HE : Hid (validM m = false) := Lib.hid (by rw [HV.out]; exact good_twice HX.out h5)
    rw [decide_eq_true h5]
    clear h5
    rintro e w2 ⟨rfl, hq⟩
    replace hB := below_grows hB (Nat.le_refl _) hq
    clear hq
    go_wp2
    go_ret
    exact ⟨ret_bool HE.out.symm, hB⟩
   ·have HN : Hid (GoodU okP m (k + 1)) := Lib.hid (good_next HF.out HX.out HOK.out h5)
    rw [decide_eq_false h5]
    clear h5
    rintro e w2 ⟨rfl, hq⟩
    replace hB := below_grows hB (Nat.le_refl _) hq
    clear hq
    go_wp2
    go_roundw
    case rel => exact ⟨k + 1, by omega, by go_num, HN, hB⟩
    case measure => simp [intOf]; omega
  ·obtain rfl : k = m.length := by omega
   have HE : Hid (validM m = true) := Lib.hid (by rw [HV.out]; exact good_end HF.out (by omega))
   go_wp2
   go_ret
   exact ⟨ret_bool HE.out.symm, hB⟩
set_option maxHeartbeats 4000000 in
theorem rvalidm_any (A : Option Addr) (c : Nat) (m : List Int) (w : World) (h : Ints w A m) (hl : m.length ≤ 1000000) (_hc : m.length ≤ c) : Calls Tryz.prog 93 #[.slice A m.length c] w fun e w' => e = .returned (.bool (validM m)) ∧ Grows w w' := by
 have hB := Below.refl w.heap.size w
 go_enter Tryz.func93, Tryz.ntmps93
 go_wp2_with fail
 clear hB
 go_loopw [7] (fun i wr => ∃ k : Nat, k ≤ m.length ∧ i = .int .i64 k ∧ Hid (GoodU okP m k) ∧ Grows w wr) (fun i _ => m.length - (intOf i).toNat)
 case atStart => exact ⟨0, by omega, rfl, Lib.hid good_zero, Below.refl _ _⟩
 case round =>
  obtain ⟨k, hk, rfl, HF, hB⟩ := hrel
  by_cases hlt : k < m.length
  ·obtain ⟨ad, x, rfl, had, hx, q0⟩ := (h.grows hB).at_ hlt
   have HX := Lib.hid hx
   clear hx
   by_cases h1 : x < 1
   ·have HE : Hid (validM m = false) := Lib.hid (by unfold validM; rw [good_bad HX.out (by unfold okP; rw [decide_eq_false (by omega), Bool.false_and]), Bool.and_false])
    have d3 : decide (x < 1) = true := by simpa using h1
    clear h1
    go_wp2
    go_ret
    exact ⟨ret_bool HE.out.symm, hB⟩
   have d3 : decide (x < 1) = false := by simpa using h1
   by_cases h2 : 8 < x
   ·have HE : Hid (validM m = false) := Lib.hid (by unfold validM; rw [good_bad HX.out (by unfold okP; rw [decide_eq_false (by omega : ¬ x ≤ 8), Bool.and_false]), Bool.and_false])
    have d4 : decide (8 < x) = true := by simpa using h2
    clear h1 h2
    go_wp2
    go_ret
    exact ⟨ret_bool HE.out.symm, hB⟩
   have d4 : decide (8 < x) = false := by simpa using h2
   have HOK : Hid (okP x = true) := Lib.hid (by unfold okP; rw [decide_eq_true (by omega), decide_eq_true (by omega)]; rfl)
   clear h1 h2
   go_wp2_with fail
   refine (rindex6_any (some ad) c m x _ (h.grows hB) (by omega)).mono ?_
   rintro e w2 ⟨rfl, hq⟩
   replace hB := below_grows hB (Nat.le_refl _) hq
   clear hq q0
   by_cases h5 : x ∈ m.take k
   ·have HE : Hid (validM m = false) := Lib.hid (by unfold validM; rw [good_twice HX.out h5, Bool.and_false])
    have d5 : (idxZ m x != (k : Int)) = true := by simp only [bne_iff_ne, ne_eq]; exact fun e => (idx_first HX.out).1 e h5
    clear h5
    go_wp2
    go_ret
    exact ⟨ret_bool HE.out.symm, hB⟩
   ·have HN : Hid (GoodU okP m (k + 1)) := Lib.hid (good_next HF.out HX.out HOK.out h5)
    have d5 : (idxZ m x != (k : Int)) = false := by simp only [bne_eq_false_iff_eq]; exact (idx_first HX.out).2 h5
    clear h5
    go_wp2
    go_roundw
    case rel => exact ⟨k + 1, by omega, by go_num, HN, hB⟩
    case measure => simp [intOf]; omega
  ·obtain rfl : k = m.length := by omega
   by_cases h1 : m.length < 1
   ·have HE : Hid (validM m = false) := Lib.hid (by unfold validM; simp only [Bool.and_eq_false_iff, decide_eq_false_iff_not]; omega)
    have d1 : decide ((1 : Int) ≤ (m.length : Int)) = false := by simp only [decide_eq_false_iff_not]; omega
    go_wp2
    go_ret
    exact ⟨ret_bool HE.out.symm, hB⟩
   by_cases h2 : 8 < m.length
   ·have HE : Hid (validM m = false) := Lib.hid (by unfold validM; simp only [Bool.and_eq_false_iff, decide_eq_false_iff_not]; omega)
    have d1 : decide ((1 : Int) ≤ (m.length : Int)) = true := by simp only [decide_eq_true_eq]; omega
    have d2 : decide ((m.length : Int) ≤ 8) = false := by simp only [decide_eq_false_iff_not]; omega
    go_wp2
    go_ret
    exact ⟨ret_bool HE.out.symm, hB⟩
   have HE : Hid (validM m = true) := Lib.hid (by unfold validM; rw [good_end HF.out (by omega), decide_eq_true (by omega : 1 ≤ m.length), decide_eq_true (by omega : m.length ≤ 8)]; rfl)
   have d1 : decide ((1 : Int) ≤ (m.length : Int)) = true := by simp only [decide_eq_true_eq]; omega
   have d2 : decide ((m.length : Int) ≤ 8) = true := by simp only [decide_eq_true_eq]; omega
   go_wp2
   go_ret
   exact ⟨ret_bool HE.out.symm, hB⟩
set_option maxHeartbeats 2000000 in
theorem idx_hasm (G : Nat) {n : Nat} (A : Option Addr) (c : Nat) (base : Nat → Prop) (l : List (List Int)) (p : List Int → Bool) (w : World) (hn : n = l.length) (h : MapsR w base A l) (hl : l.length ≤ 9223372036854775807)
 (hp : ∀ (x : List Int) (B : Option Addr) (cx : Nat) (w1 : World), x ∈ l → Grows w w1 → InB w1 base B x → x.length ≤ cx → Calls Tryz.prog 115 #[.slice B x.length cx, .pointer (some ⟨G, 0, none⟩)] w1 fun e w' => e = .returned (.bool (p x)) ∧ Grows w1 w') :
 Calls Tryz.prog 140 #[.slice A n c, .func (.func 115) #[] #[.pointer (some ⟨G, 0, none⟩)]] w fun e w' => e = .returned (.int .i64 (placeZ (l.findIdx? p))) ∧ Grows w w' := by
 subst hn
 have HP := Lib.hid hp
 clear hp
 go_enter Tryz.func140, Tryz.ntmps140
 go_wp2_with fail
 go_loopw [8] (fun i wr => ∃ k : Nat, k ≤ l.length ∧ i = .int .i64 k ∧ Hid ((l.take k).findIdx? p = none) ∧ Grows w wr) (fun i _ => l.length - (intOf i).toNat)
 case atStart => exact ⟨0, by omega, rfl, Lib.hid rfl, Below.refl _ _⟩
 case round =>
  obtain ⟨k, hk, rfl, hf, hB⟩ := hrel
  by_cases hlt : k < l.length
  ·obtain ⟨ad, x, B, cx, rfl, had, hx, q0, hcx, hix⟩ := (h.grows hB).elem hlt
   have HX := Lib.hid hx
   clear hx
   go_wp2_with fail
   refine (HP.out x B cx _ (List.mem_of_getElem? HX.out) hB hix hcx).mono ?_
   rintro e w2 ⟨rfl, hq⟩
   replace hB := below_grows hB (Nat.le_refl _) hq
   clear hq q0 hix
   cases e : p x
   ·have HE := Lib.hid (idx_upU hf.out HX.out e)
    go_wp2
    go_roundw
    case rel => exact ⟨k + 1, by omega, by go_num, HE, hB⟩
    case measure => simp [intOf]; omega
   ·have HE := Lib.hid (idx_atU hf.out HX.out e)
    go_wp2
    go_ret
    rw [HE.out]
    exact ⟨rfl, hB⟩
  ·have HE : Hid (l.findIdx? p = none) := Lib.hid (by have := hf.out; rwa [List.take_of_length_le (by omega)] at this)
   go_wp2
   go_ret
   rw [HE.out]
   exact ⟨rfl, hB⟩
theorem cont_hasm (G : Nat) {n : Nat} (A : Option Addr) (c : Nat) (base : Nat → Prop) (l : List (List Int)) (p : List Int → Bool) (w : World) (hn : n = l.length) (h : MapsR w base A l) (hl : l.length ≤ 9223372036854775807)
 (hp : ∀ (x : List Int) (B : Option Addr) (cx : Nat) (w1 : World), x ∈ l → Grows w w1 → InB w1 base B x → x.length ≤ cx → Calls Tryz.prog 115 #[.slice B x.length cx, .pointer (some ⟨G, 0, none⟩)] w1 fun e w' => e = .returned (.bool (p x)) ∧ Grows w1 w') :
 Calls Tryz.prog 114 #[.slice A n c, .func (.func 115) #[] #[.pointer (some ⟨G, 0, none⟩)]] w fun e w' => e = .returned (.bool (l.any p)) ∧ Grows w w' := by
 subst hn
 have HP := Lib.hid hp
 clear hp
 rw [← place_anyU]
 go_enter Tryz.func114, Tryz.ntmps114
 go_wp2_with fail
 refine (idx_hasm G A c base l p _ rfl h hl HP.out).mono ?_
 rintro e w2 ⟨rfl, hq⟩
 generalize hz : placeZ (l.findIdx? p) = z
 have HZ := Lib.hid hz
 clear hz
 go_wp2
 go_ret
 rw [HZ.out]
 exact ⟨rfl, hq⟩
theorem has1_any {G : Nat} {M B : Option Addr} {cm cx : Nat} {m x : List Int} {w : World} (km : Blk w G 38 #[.slice M m.length cm]) (hm : Ints w M m) (hx : Ints w B x) (hlm : m.length ≤ 9223372036854775807) (hlx : x.length ≤ 9223372036854775807) :
 Calls Tryz.prog 115 #[.slice B x.length cx, .pointer (some ⟨G, 0, none⟩)] w fun e w' => e = .returned (.bool (decide (x = m))) ∧ Grows w w' := by
 have x1 := km.cell
 go_enter Tryz.func115, Tryz.ntmps115
 go_wp2_with fail
 refine (psame_any B M cx cm x m _ hx hm hlx hlm).mono ?_
 rintro e w1 ⟨rfl, hq⟩
 go_wp2
 go_ret
 exact ⟨rfl, hq⟩
theorem phasw_any {n : Nat} {base : Nat → Prop} (A M : Option Addr) (c cm : Nat) (l : List (List Int)) (m : List Int) (w : World) (hn : n = l.length) (h : MapsR w base A l) (hl : l.length ≤ 1000000) (hls : ∀ x ∈ l, x.length ≤ 1000000) (hm : Ints w M m) (hlm : m.length ≤ 9223372036854775807) :
 Calls Tryz.prog 76 #[.slice A n c, .slice M m.length cm] w fun e w' => e = .returned (.bool (decide (m ∈ l))) ∧ Grows w w' := by
 subst hn
 have km := Blk.new w 38 #[.slice M m.length cm]
 have hB := (Below.refl w.heap.size w).alloc (Nat.le_refl _) (Obj.cells #[.slice M m.length cm] 38)
 have HLS := Lib.hid hls
 clear hls
 rw [← any_eq_mem]
 go_enter Tryz.func76, Tryz.ntmps76
 go_upto_region 1 with fail
 generalize World.alloc w _ = w1 at *
 go_wp2_with fail
 refine (cont_hasm w.heap.size A c base l (fun x => decide (x = m)) _ rfl (h.grows hB) (by omega) (fun x B cx w2 hx hg hi hc => has1_any (km.grows hg) (hm.grows (below_grows hB (Nat.le_refl _) hg)) hi.ints (by omega) (by have := HLS.out x hx; omega))).mono ?_
 rintro e w2 ⟨rfl, hq⟩
 replace hB := below_grows hB (Nat.le_refl _) hq
 go_wp2
 go_ret
 exact ⟨rfl, hB⟩
theorem phas_any {n : Nat} {base : Nat → Prop} (A M : Option Addr) (c cm : Nat) (l : List (List Int)) (m : List Int) (w : World) (hn : n = l.length) (h : MapsR w base A l) (hl : l.length ≤ 1000000) (hls : ∀ x ∈ l, x.length ≤ 1000000) (hm : Ints w M m) (hlm : m.length ≤ 1000000) :
 Calls Tryz.prog 76 #[.slice A n c, .slice M m.length cm] w fun e w' => e = .returned (.bool (decide (m ∈ l))) ∧ Grows w w' := phasw_any A M c cm l m w hn h hl hls hm (by omega)
set_option maxHeartbeats 2000000 in
theorem rhasw_any {n : Nat} {base : Nat → Prop} (A M : Option Addr) (c cm : Nat) (l : List (List Int)) (m : List Int) (w : World) (hn : n = l.length) (h : MapsR w base A l) (hl : l.length ≤ 1000000) (hls : ∀ x ∈ l, x.length ≤ 1000000) (hm : Ints w M m) (hlm : m.length ≤ 9223372036854775807) :
 Calls Tryz.prog 71 #[.slice A n c, .slice M m.length cm] w fun e w' => e = .returned (.bool (decide (m ∈ l))) ∧ Grows w w' := by
 subst hn
 have HLS := Lib.hid hls
 clear hls
 go_enter Tryz.func71, Tryz.ntmps71
 go_wp2_with fail
 go_loopw [9] (fun i wr => ∃ k : Nat, k ≤ l.length ∧ i = .int .i64 k ∧ Hid (m ∉ l.take k) ∧ Grows w wr) (fun i _ => l.length - (intOf i).toNat)
 case atStart => exact ⟨0, by omega, rfl, Lib.hid (by simp), Below.refl _ _⟩
 case round =>
  obtain ⟨k, hk, rfl, hf, hB⟩ := hrel
  by_cases hlt : k < l.length
  ·obtain ⟨ad, x, B, cx, rfl, had, hx, q0, hcx, hix⟩ := (h.grows hB).elem hlt
   have HX := Lib.hid hx
   clear hx
   go_wp2_with fail
   refine (rsame6_any B M cx cm x m _ hix.ints (hm.grows hB) (by have := HLS.out x (List.mem_of_getElem? HX.out); omega) (by omega)).mono ?_
   by_cases e1 : x = m
   ·have HE : Hid (decide (m ∈ l) = true) := Lib.hid (decide_eq_true (e1 ▸ List.mem_of_getElem? HX.out))
    rw [decide_eq_true e1]
    clear e1
    rintro e w2 ⟨rfl, hq⟩
    replace hB := below_grows hB (Nat.le_refl _) hq
    clear hq q0 hix
    go_wp2
    go_ret
    exact ⟨ret_bool HE.out.symm, hB⟩
   ·have HE : Hid (m ∉ l.take (k + 1)) := Lib.hid (by
     rw [take_snoc HX.out, List.mem_append, List.mem_singleton]
     exact fun h => h.elim hf.out fun h => e1 h.symm)
    rw [decide_eq_false e1]
    clear e1
    rintro e w2 ⟨rfl, hq⟩
    replace hB := below_grows hB (Nat.le_refl _) hq
    clear hq q0 hix
    go_wp2
    go_roundw
    case rel => exact ⟨k + 1, by omega, by go_num, HE, hB⟩
    case measure => simp [intOf]; omega
  ·have HE : Hid (decide (m ∈ l) = false) := Lib.hid (decide_eq_false (by have := hf.out; rwa [List.take_of_length_le (by omega)] at this))
   go_wp2
   go_ret
   exact ⟨ret_bool HE.out.symm, hB⟩
theorem rhas_any {n : Nat} {base : Nat → Prop} (A M : Option Addr) (c cm : Nat) (l : List (List Int)) (m : List Int) (w : World) (hn : n = l.length) (h : MapsR w base A l) (hl : l.length ≤ 1000000) (hls : ∀ x ∈ l, x.length ≤ 1000000) (hm : Ints w M m) (hlm : m.length ≤ 1000000) :
 Calls Tryz.prog 71 #[.slice A n c, .slice M m.length cm] w fun e w' => e = .returned (.bool (decide (m ∈ l))) ∧ Grows w w' := rhasw_any A M c cm l m w hn h hl hls hm (by omega)
set_option maxHeartbeats 4000000 in
theorem pwithin_any (A : Option Addr) (c : Nat) (l : List Sp) (lo hi : Int) (w : World) (h : Sps w A l) (hl : l.length ≤ 1000000) :
 Calls Tryz.prog 91 #[.agg #[.slice A l.length c], .int .i64 lo, .int .i64 hi] w fun e w' => e = .returned (.bool (withinS l lo hi)) ∧ Grows w w' := by
 have k3 := Blk.new w 58 #[.slice A l.length c]
 have hB := (Below.refl w.heap.size w).alloc (Nat.le_refl _) (Obj.cells #[.slice A l.length c] 58)
 go_enter Tryz.func91, Tryz.ntmps91
 go_upto_region 1 with fail
 generalize World.alloc w _ = w1 at *
 have x1 := k3.cell 0
 by_cases h0 : l.length = 0
 ·have HE : Hid (withinS l lo hi = false) := Lib.hid (by unfold withinS; rw [decide_eq_false (by omega : ¬ 0 < l.length)]; simp)
  obtain rfl := List.eq_nil_of_length_eq_zero h0
  clear h0
  go_wp2
  go_ret
  exact ⟨ret_bool HE.out.symm, hB⟩
 have d1 : decide (0 < l.length) = true := by simp only [decide_eq_true_eq]; omega
 go_wp2_with fail
 refine (valid_any A c l _ (h.grows hB) (by omega)).mono ?_
 cases hv : okS l
 ·have HV := Lib.hid hv
  clear hv
  rintro e w2 ⟨rfl, hq⟩
  replace hB := below_grows hB (Nat.le_refl _) hq
  clear hq x1
  have HE : Hid (withinS l lo hi = false) := Lib.hid (by unfold withinS; rw [HV.out]; simp)
  go_wp2
  go_ret
  exact ⟨ret_bool HE.out.symm, hB⟩
 ·have HV := Lib.hid hv
  clear hv
  rintro e w2 ⟨rfl, hq⟩
  replace hB := below_grows hB (Nat.le_refl _) hq
  replace k3 := k3.grows hq
  clear hq x1
  have x1 := k3.cell 0
  obtain ⟨ad, x, rfl, had, hx, q0, q1⟩ := (h.grows hB).elem (show 0 < l.length by omega)
  obtain ⟨ad2, y, e2, had2, hy, p0, p1⟩ := (h.grows hB).elem (show l.length - 1 < l.length by omega)
  injection e2 with e2
  subst e2
  have e0 : ad.add (0 * 2) = ad := by simp [Addr.add]
  rw [e0] at q0 q1
  have hix : IntKind.i64.wrap ((l.length : Int) - 1) = ((l.length - 1 : Nat) : Int) := by rw [IntWalk.i64_in _ (by omega)]; omega
  have HW : Hid (withinS l lo hi = (decide (lo ≤ x.1) && decide (y.2 ≤ hi))) := Lib.hid (by
   unfold withinS
   rw [HV.out, decide_eq_true (by omega : 0 < l.length)]
   have e1 : l.headD (0, 0) = x := by
    cases l with
    | nil => simp at hx
    | cons z l => simpa using hx
   have e2 : l.getLastD (0, 0) = y := by
    rw [List.getLastD_eq_getLast?, List.getLast?_eq_getElem?, hy]
    rfl
   rw [e1, e2]
   simp)
  have hn2 : l.length - 1 < l.length := by omega
  generalize hN : l.length - 1 = N at *
  clear hx hy hN
  by_cases h3 : lo ≤ x.1
  case neg =>
   have HE : Hid (withinS l lo hi = false) := Lib.hid (by rw [HW.out, decide_eq_false h3, Bool.false_and])
   have d3 : decide (lo ≤ x.1) = false := by simpa using h3
   clear h3
   go_wp2
   go_ret
   exact ⟨ret_bool HE.out.symm, hB⟩
  have d3 : decide (lo ≤ x.1) = true := by simpa using h3
  by_cases h4 : y.2 ≤ hi
  ·have HE : Hid (withinS l lo hi = true) := Lib.hid (by rw [HW.out, d3, decide_eq_true h4]; rfl)
   have d4 : decide (y.2 ≤ hi) = true := by simpa using h4
   clear h3 h4
   go_wp2
   go_ret
   exact ⟨ret_bool HE.out.symm, hB⟩
  ·have HE : Hid (withinS l lo hi = false) := Lib.hid (by rw [HW.out, decide_eq_false h4, Bool.and_false])
   have d4 : decide (y.2 ≤ hi) = false := by simpa using h4
   clear h3 h4
   go_wp2
   go_ret
   exact ⟨ret_bool HE.out.symm, hB⟩
set_option maxHeartbeats 4000000 in
theorem rwithin_any (A : Option Addr) (c : Nat) (l : List Sp) (lo hi : Int) (w : World) (h : Sps w A l) (hl : l.length ≤ 1000000) :
 Calls Tryz.prog 94 #[.agg #[.slice A l.length c], .int .i64 lo, .int .i64 hi] w fun e w' => e = .returned (.bool (withinS l lo hi)) ∧ Grows w w' := by
 have k3 := Blk.new w 58 #[.slice A l.length c]
 have hB := (Below.refl w.heap.size w).alloc (Nat.le_refl _) (Obj.cells #[.slice A l.length c] 58)
 go_enter Tryz.func94, Tryz.ntmps94
 go_upto_region 1 with fail
 generalize World.alloc w _ = w1 at *
 have x1 := k3.cell 0
 go_wp2_with fail
 refine (rvalid_any A c l _ (h.grows hB) (by omega)).mono ?_
 cases hv : okS l
 ·have HV := Lib.hid hv
  clear hv
  rintro e w2 ⟨rfl, hq⟩
  replace hB := below_grows hB (Nat.le_refl _) hq
  clear hq x1
  have HE : Hid (withinS l lo hi = false) := Lib.hid (by unfold withinS; rw [HV.out]; simp)
  go_wp2
  go_ret
  exact ⟨ret_bool HE.out.symm, hB⟩
 ·have HV := Lib.hid hv
  clear hv
  rintro e w2 ⟨rfl, hq⟩
  replace hB := below_grows hB (Nat.le_refl _) hq
  replace k3 := k3.grows hq
  clear hq x1
  have x1 := k3.cell 0
  by_cases h0 : l.length = 0
  ·have HE : Hid (withinS l lo hi = false) := Lib.hid (by unfold withinS; rw [decide_eq_false (by omega : ¬ 0 < l.length)]; simp)
   obtain rfl := List.eq_nil_of_length_eq_zero h0
   clear h0
   go_wp2
   go_ret
   exact ⟨ret_bool HE.out.symm, hB⟩
  have d1 : decide (0 < l.length) = true := by simp only [decide_eq_true_eq]; omega
  obtain ⟨ad, x, rfl, had, hx, q0, q1⟩ := (h.grows hB).elem (show 0 < l.length by omega)
  obtain ⟨ad2, y, e2, had2, hy, p0, p1⟩ := (h.grows hB).elem (show l.length - 1 < l.length by omega)
  injection e2 with e2
  subst e2
  have e0 : ad.add (0 * 2) = ad := by simp [Addr.add]
  rw [e0] at q0 q1
  have hix : IntKind.i64.wrap ((l.length : Int) - 1) = ((l.length - 1 : Nat) : Int) := by rw [IntWalk.i64_in _ (by omega)]; omega
  have HW : Hid (withinS l lo hi = (decide (lo ≤ x.1) && decide (y.2 ≤ hi))) := Lib.hid (by
   unfold withinS
   rw [HV.out, decide_eq_true (by omega : 0 < l.length)]
   have e1 : l.headD (0, 0) = x := by
    cases l with
    | nil => simp at hx
    | cons z l => simpa using hx
   have e2 : l.getLastD (0, 0) = y := by
    rw [List.getLastD_eq_getLast?, List.getLast?_eq_getElem?, hy]
    rfl
   rw [e1, e2]
   simp)
  have hn2 : l.length - 1 < l.length := by omega
  generalize hN : l.length - 1 = N at *
  clear hx hy hN
  by_cases h3 : lo ≤ x.1
  case neg =>
   have HE : Hid (withinS l lo hi = false) := Lib.hid (by rw [HW.out, decide_eq_false h3, Bool.false_and])
   have d3 : decide (lo ≤ x.1) = false := by simpa using h3
   clear h3
   go_wp2
   go_ret
   exact ⟨ret_bool HE.out.symm, hB⟩
  have d3 : decide (lo ≤ x.1) = true := by simpa using h3
  by_cases h4 : y.2 ≤ hi
  ·have HE : Hid (withinS l lo hi = true) := Lib.hid (by rw [HW.out, d3, decide_eq_true h4]; rfl)
   have d4 : decide (y.2 ≤ hi) = true := by simpa using h4
   clear h3 h4
   go_wp2
   go_ret
   exact ⟨ret_bool HE.out.symm, hB⟩
  ·have HE : Hid (withinS l lo hi = false) := Lib.hid (by rw [HW.out, decide_eq_false h4, Bool.and_false])
   have d4 : decide (y.2 ≤ hi) = false := by simpa using h4
   clear h3 h4
   go_wp2
   go_ret
   exact ⟨ret_bool HE.out.symm, hB⟩
end Go.Proofs.YtjbkjgmcfommgaaGreat

namespace Go.Proofs.YtjbkjgmcfommgaaGreat
open Go.RowKit
def OKB (b : Bx) : Prop := b.r.length ≤ 1000000 ∧ b.s.length ≤ 1000000 ∧ b.m.length ≤ 1000000 ∧ ∀ x ∈ b.m, x.length ≤ 1000000
def kindsOk (k : Int) : Bool := (k != 0) && (bits .andNot .i64 k 254 == 0)
def fineB (b : Bx) : Bool := kindsOk b.k && withinS b.r 1000 768000 && withinS b.s 1 65536 && mapsOk b.m
def validL (l : List Bx) : Bool := decide (l.length ≤ 64) && l.all fineB
def boxesF (l : List Bx) : List Bx := if validL l = true then l else []
def kindB (b k : Int) : Bool := decide (1 ≤ k) && decide (k ≤ 7) && (bits .and .i64 (b / 2 ^ k.toNat) 1 == 1)
theorem kindsOk_zero {k : Int} (h : k = 0) : kindsOk k = false := by subst h; rfl
theorem kindsOk_bits {k : Int} (h : bits .andNot .i64 k 254 ≠ 0) : kindsOk k = false := by unfold kindsOk; rw [beq_eq_false_iff_ne.2 h, Bool.and_false]
theorem kindsOk_yes {k : Int} (h : k ≠ 0) (h2 : bits .andNot .i64 k 254 = 0) : kindsOk k = true := by unfold kindsOk; rw [h2, bne_iff_ne.2 h]; rfl
theorem fineB_m {b : Bx} (h : mapsOk b.m = false) : fineB b = false := by unfold fineB; rw [h, Bool.and_false]
theorem fineB_k {b : Bx} (h : kindsOk b.k = false) : fineB b = false := by unfold fineB; rw [h]; simp
theorem fineB_r {b : Bx} (h : withinS b.r 1000 768000 = false) : fineB b = false := by unfold fineB; rw [h]; simp
theorem fineB_s {b : Bx} (h : withinS b.s 1 65536 = false) : fineB b = false := by unfold fineB; rw [h]; simp
theorem fineB_yes {b : Bx} (h1 : kindsOk b.k = true) (h2 : withinS b.r 1000 768000 = true) (h3 : withinS b.s 1 65536 = true) (h4 : mapsOk b.m = true) : fineB b = true := by unfold fineB; rw [h1, h2, h3, h4]; rfl
theorem mapsOk_u {m : List (List Int)} (h : uniqOk validM m = false) : mapsOk m = false := by unfold mapsOk; rw [h, Bool.and_false]
theorem mapsOk_lo {m : List (List Int)} (h : m.length < 1) : mapsOk m = false := by unfold mapsOk; rw [decide_eq_false (by omega : ¬ 1 ≤ m.length)]; rfl
theorem mapsOk_hi {m : List (List Int)} (h : 16 < m.length) : mapsOk m = false := by unfold mapsOk; rw [decide_eq_false (by omega : ¬ m.length ≤ 16)]; simp
theorem mapsOk_yes {m : List (List Int)} (h1 : 1 ≤ m.length) (h2 : m.length ≤ 16) (h : uniqOk validM m = true) : mapsOk m = true := by unfold mapsOk; rw [h, decide_eq_true h1, decide_eq_true h2]; rfl
set_option maxHeartbeats 8000000 in
theorem pfine_any {A1 A2 A3 : Option Addr} {c1 c2 c3 : Nat} {base : Nat → Prop} {b : Bx} {w : World} (hp : BoxP w base b A1 c1 A2 c2 A3 c3) (hl : OKB b) : Calls Tryz.prog 60 #[.agg #[.int .i64 b.k, .slice A1 b.r.length c1, .slice A2 b.m.length c2, .slice A3 b.s.length c3]] w fun e w' => e = .returned (.bool (fineB b)) ∧ Grows w w' := by
 obtain ⟨hlr, hls, hlm, hlx⟩ := hl
 have HLM := Lib.hid hlx
 clear hlx
 have k1 := Blk.new w 61 #[.int .i64 b.k, .slice A1 b.r.length c1, .slice A2 b.m.length c2, .slice A3 b.s.length c3]
 have hB := (Below.refl w.heap.size w).alloc (Nat.le_refl _) (Obj.cells #[.int .i64 b.k, .slice A1 b.r.length c1, .slice A2 b.m.length c2, .slice A3 b.s.length c3] 61)
 go_enter Tryz.func60, Tryz.ntmps60
 go_upto_region 1 with fail
 generalize World.alloc w _ = w1 at *
 have x1 := k1.cell
 by_cases h0 : b.k = 0
 ·have HE : Hid (fineB b = false) := Lib.hid (fineB_k (kindsOk_zero h0))
  have d0 : (b.k == 0) = true := by simpa using h0
  clear h0
  go_wp2
  go_ret
  exact ⟨ret_bool HE.out.symm, hB⟩
 have d0 : (b.k == 0) = false := by simpa using h0
 by_cases h1 : bits .andNot .i64 b.k 254 = 0
 case neg =>
  have HE : Hid (fineB b = false) := Lib.hid (fineB_k (kindsOk_bits h1))
  have d1 : (bits .andNot .i64 b.k 254 != 0) = true := by simpa using h1
  clear h1 h0
  go_wp2
  go_ret
  exact ⟨ret_bool HE.out.symm, hB⟩
 have d1 : (bits .andNot .i64 b.k 254 != 0) = false := by simpa using h1
 have HK : Hid (kindsOk b.k = true) := Lib.hid (kindsOk_yes h0 h1)
 clear h0 h1
 go_wp2_with fail
 refine (pwithin_any A1 c1 b.r 1000 768000 _ (hp.r.grows hB).sps hlr).mono ?_
 cases hv : withinS b.r 1000 768000
 ·have HE : Hid (fineB b = false) := Lib.hid (fineB_r hv)
  clear hv
  rintro e w2 ⟨rfl, hq⟩
  replace hB := below_grows hB (Nat.le_refl _) hq
  clear hq x1
  go_wp2
  go_ret
  exact ⟨ret_bool HE.out.symm, hB⟩
 have HWr := Lib.hid hv
 clear hv
 rintro e w2 ⟨rfl, hq⟩
 replace hB := below_grows hB (Nat.le_refl _) hq
 replace k1 := k1.grows hq
 clear hq x1
 have x1 := k1.cell
 go_wp2_with fail
 refine (pwithin_any A3 c3 b.s 1 65536 _ (hp.s.grows hB).sps hls).mono ?_
 cases hv : withinS b.s 1 65536
 ·have HE : Hid (fineB b = false) := Lib.hid (fineB_s hv)
  clear hv
  rintro e w2 ⟨rfl, hq⟩
  replace hB := below_grows hB (Nat.le_refl _) hq
  clear hq x1
  go_wp2
  go_ret
  exact ⟨ret_bool HE.out.symm, hB⟩
 have HWs := Lib.hid hv
 clear hv
 rintro e w2 ⟨rfl, hq⟩
 replace hB := below_grows hB (Nat.le_refl _) hq
 replace k1 := k1.grows hq
 clear hq x1
 have x1 := k1.cell
 go_wp2_with fail
 go_loopw [29] (fun i wr => ∃ k : Nat, k ≤ b.m.length ∧ i = .int .i64 k ∧ Hid (GoodU validM b.m k) ∧ Blk wr w.heap.size 61 #[.int .i64 b.k, .slice A1 b.r.length c1, .slice A2 b.m.length c2, .slice A3 b.s.length c3] ∧ Below w.heap.size w wr) (fun i _ => b.m.length - (intOf i).toNat)
 case atStart => exact ⟨0, by omega, rfl, Lib.hid good_zero, k1, hB⟩
 case round =>
  clear k1 hB x1
  obtain ⟨k, hk, rfl, HF, k1, hB⟩ := hrel
  have x1 := k1.cell
  by_cases hlt : k < b.m.length
  ·obtain ⟨ad, x, B, cx, e2, had, hx, q0, hcx, hix⟩ := (hp.m.grows hB).elem hlt
   subst e2
   have HX := Lib.hid hx
   have hxl := HLM.out x (List.mem_of_getElem? hx)
   clear hx
   go_wp2_with fail
   refine (pvalidm_any B cx x _ hix.ints hxl hcx).mono ?_
   cases hv : validM x
   ·have HE : Hid (fineB b = false) := Lib.hid (fineB_m (mapsOk_u (good_bad HX.out hv)))
    clear hv
    rintro e w2 ⟨rfl, hq⟩
    replace hB := below_grows hB (Nat.le_refl _) hq
    clear hq x1 q0 hix
    go_wp2
    go_ret
    exact ⟨ret_bool HE.out.symm, hB⟩
   have HV := Lib.hid hv
   clear hv
   rintro e w2 ⟨rfl, hq⟩
   replace hB := below_grows hB (Nat.le_refl _) hq
   replace k1 := k1.grows hq
   replace hix := hix.grows hq
   clear hq x1 q0
   have x1 := k1.cell
   have hkc : k ≤ c2 := by have := hp.cm; omega
   have htk := MapsR.take (hp.m.grows hB) (Nat.le_of_lt hlt)
   have htl : k = (b.m.take k).length := by rw [List.length_take]; omega
   have HTL := Lib.hid htl
   clear htl
   go_wp2_with fail
   refine (phas_any (some ad) B c2 cx (b.m.take k) x _ HTL.out htk (by rw [List.length_take]; omega) (fun y hy => HLM.out y (List.mem_of_mem_take hy)) hix.ints hxl).mono ?_
   by_cases h5 : x ∈ b.m.take k
   ·have HE : Hid (fineB b = false) := Lib.hid (fineB_m (mapsOk_u (good_twice HX.out h5)))
    rw [decide_eq_true h5]
    clear h5
    rintro e w3 ⟨rfl, hq⟩
    replace hB := below_grows hB (Nat.le_refl _) hq
    clear hq x1 hix htk
    go_wp2
    go_ret
    exact ⟨ret_bool HE.out.symm, hB⟩
   ·have HN : Hid (GoodU validM b.m (k + 1)) := Lib.hid (good_next HF.out HX.out HV.out h5)
    rw [decide_eq_false h5]
    clear h5
    rintro e w3 ⟨rfl, hq⟩
    replace hB := below_grows hB (Nat.le_refl _) hq
    replace k1 := k1.grows hq
    clear hq x1 hix htk
    go_wp2
    go_roundw
    case rel => exact ⟨k + 1, by omega, by go_num, HN, k1, hB⟩
    case measure => simp [intOf]; omega
  ·obtain rfl : k = b.m.length := by omega
   have HU : Hid (uniqOk validM b.m = true) := Lib.hid (good_end HF.out (Nat.le_refl _))
   clear HF
   by_cases h1 : b.m.length < 1
   ·have HE : Hid (fineB b = false) := Lib.hid (fineB_m (mapsOk_lo h1))
    have d2 : decide ((1 : Int) ≤ (b.m.length : Int)) = false := by simp only [decide_eq_false_iff_not]; omega
    go_wp2
    go_ret
    exact ⟨ret_bool HE.out.symm, hB⟩
   have d2 : decide ((1 : Int) ≤ (b.m.length : Int)) = true := by simp only [decide_eq_true_eq]; omega
   by_cases h2 : 16 < b.m.length
   ·have HE : Hid (fineB b = false) := Lib.hid (fineB_m (mapsOk_hi h2))
    have d3 : decide ((b.m.length : Int) ≤ 16) = false := by simp only [decide_eq_false_iff_not]; omega
    go_wp2
    go_ret
    exact ⟨ret_bool HE.out.symm, hB⟩
   have d3 : decide ((b.m.length : Int) ≤ 16) = true := by simp only [decide_eq_true_eq]; omega
   have HE : Hid (fineB b = true) := Lib.hid (fineB_yes HK.out HWr.out HWs.out (mapsOk_yes (by omega) (by omega) HU.out))
   go_wp2
   go_ret
   exact ⟨ret_bool HE.out.symm, hB⟩
set_option maxHeartbeats 8000000 in
theorem rbox_any {A1 A2 A3 : Option Addr} {c1 c2 c3 : Nat} {base : Nat → Prop} {b : Bx} {w : World} (hp : BoxP w base b A1 c1 A2 c2 A3 c3) (hl : OKB b) : Calls Tryz.prog 61 #[.agg #[.int .i64 b.k, .slice A1 b.r.length c1, .slice A2 b.m.length c2, .slice A3 b.s.length c3]] w fun e w' => e = .returned (.bool (fineB b)) ∧ Grows w w' := by
 obtain ⟨hlr, hls, hlm, hlx⟩ := hl
 have HLM := Lib.hid hlx
 clear hlx
 have k1 := Blk.new w 61 #[.int .i64 b.k, .slice A1 b.r.length c1, .slice A2 b.m.length c2, .slice A3 b.s.length c3]
 have hB := (Below.refl w.heap.size w).alloc (Nat.le_refl _) (Obj.cells #[.int .i64 b.k, .slice A1 b.r.length c1, .slice A2 b.m.length c2, .slice A3 b.s.length c3] 61)
 go_enter Tryz.func61, Tryz.ntmps61
 go_upto_region 1 with fail
 generalize World.alloc w _ = w1 at *
 have x1 := k1.cell
 by_cases h0 : b.k = 0
 ·have HE : Hid (fineB b = false) := Lib.hid (fineB_k (kindsOk_zero h0))
  have d0 : (b.k == 0) = true := by simpa using h0
  clear h0
  go_wp2
  go_ret
  exact ⟨ret_bool HE.out.symm, hB⟩
 have d0 : (b.k == 0) = false := by simpa using h0
 by_cases h1 : bits .andNot .i64 b.k 254 = 0
 case neg =>
  have HE : Hid (fineB b = false) := Lib.hid (fineB_k (kindsOk_bits h1))
  have d1 : (bits .andNot .i64 b.k 254 != 0) = true := by simpa using h1
  clear h1 h0
  go_wp2
  go_ret
  exact ⟨ret_bool HE.out.symm, hB⟩
 have d1 : (bits .andNot .i64 b.k 254 != 0) = false := by simpa using h1
 have HK : Hid (kindsOk b.k = true) := Lib.hid (kindsOk_yes h0 h1)
 clear h0 h1
 by_cases h1 : b.m.length < 1
 ·have HE : Hid (fineB b = false) := Lib.hid (fineB_m (mapsOk_lo h1))
  have d2 : decide ((b.m.length : Int) < 1) = true := by simp only [decide_eq_true_eq]; omega
  go_wp2
  go_ret
  exact ⟨ret_bool HE.out.symm, hB⟩
 have d2 : decide ((b.m.length : Int) < 1) = false := by simp only [decide_eq_false_iff_not]; omega
 by_cases h2 : 16 < b.m.length
 ·have HE : Hid (fineB b = false) := Lib.hid (fineB_m (mapsOk_hi h2))
  have d3 : decide ((16 : Int) < (b.m.length : Int)) = true := by simp only [decide_eq_true_eq]; omega
  go_wp2
  go_ret
  exact ⟨ret_bool HE.out.symm, hB⟩
 have d3 : decide ((16 : Int) < (b.m.length : Int)) = false := by simp only [decide_eq_false_iff_not]; omega
 go_wp2_with fail
 go_loopw [29] (fun i wr => ∃ k : Nat, k ≤ b.m.length ∧ i = .int .i64 k ∧ Hid (GoodU validM b.m k) ∧ Blk wr w.heap.size 61 #[.int .i64 b.k, .slice A1 b.r.length c1, .slice A2 b.m.length c2, .slice A3 b.s.length c3] ∧ Below w.heap.size w wr) (fun i _ => b.m.length - (intOf i).toNat)
 case atStart => exact ⟨0, by omega, rfl, Lib.hid good_zero, k1, hB⟩
 case round =>
  clear k1 hB x1
  obtain ⟨k, hk, rfl, HF, k1, hB⟩ := hrel
  have x1 := k1.cell
  by_cases hlt : k < b.m.length
  ·obtain ⟨ad, x, B, cx, e2, had, hx, q0, hcx, hix⟩ := (hp.m.grows hB).elem hlt
   subst e2
   have HX := Lib.hid hx
   have hxl := HLM.out x (List.mem_of_getElem? hx)
   clear hx
   go_wp2_with fail
   refine (rvalidm_any B cx x _ hix.ints hxl hcx).mono ?_
   cases hv : validM x
   ·have HE : Hid (fineB b = false) := Lib.hid (fineB_m (mapsOk_u (good_bad HX.out hv)))
    clear hv
    rintro e w2 ⟨rfl, hq⟩
    replace hB := below_grows hB (Nat.le_refl _) hq
    clear hq x1 q0 hix
    go_wp2
    go_ret
    exact ⟨ret_bool HE.out.symm, hB⟩
   have HV := Lib.hid hv
   clear hv
   rintro e w2 ⟨rfl, hq⟩
   replace hB := below_grows hB (Nat.le_refl _) hq
   replace k1 := k1.grows hq
   replace hix := hix.grows hq
   clear hq x1 q0
   have x1 := k1.cell
   have hkc : k ≤ c2 := by have := hp.cm; omega
   have htk := MapsR.take (hp.m.grows hB) (Nat.le_of_lt hlt)
   have htl : k = (b.m.take k).length := by rw [List.length_take]; omega
   have HTL := Lib.hid htl
   clear htl
   go_wp2_with fail
   refine (rhas_any (some ad) B c2 cx (b.m.take k) x _ HTL.out htk (by rw [List.length_take]; omega) (fun y hy => HLM.out y (List.mem_of_mem_take hy)) hix.ints hxl).mono ?_
   by_cases h5 : x ∈ b.m.take k
   ·have HE : Hid (fineB b = false) := Lib.hid (fineB_m (mapsOk_u (good_twice HX.out h5)))
    rw [decide_eq_true h5]
    clear h5
    rintro e w3 ⟨rfl, hq⟩
    replace hB := below_grows hB (Nat.le_refl _) hq
    clear hq x1 hix htk
    go_wp2
    go_ret
    exact ⟨ret_bool HE.out.symm, hB⟩
   ·have HN : Hid (GoodU validM b.m (k + 1)) := Lib.hid (good_next HF.out HX.out HV.out h5)
    rw [decide_eq_false h5]
    clear h5
    rintro e w3 ⟨rfl, hq⟩
    replace hB := below_grows hB (Nat.le_refl _) hq
    replace k1 := k1.grows hq
    clear hq x1 hix htk
    go_wp2
    go_roundw
    case rel => exact ⟨k + 1, by omega, by go_num, HN, k1, hB⟩
    case measure => simp [intOf]; omega
  ·obtain rfl : k = b.m.length := by omega
   have HU : Hid (uniqOk validM b.m = true) := Lib.hid (good_end HF.out (Nat.le_refl _))
   clear HF
   go_wp2_with fail
   refine (rwithin_any A1 c1 b.r 1000 768000 _ (hp.r.grows hB).sps hlr).mono ?_
   cases hv : withinS b.r 1000 768000
   ·have HE : Hid (fineB b = false) := Lib.hid (fineB_r hv)
    clear hv
    rintro e w2 ⟨rfl, hq⟩
    replace hB := below_grows hB (Nat.le_refl _) hq
    clear hq x1
    go_wp2
    go_ret
    exact ⟨ret_bool HE.out.symm, hB⟩
   have HWr := Lib.hid hv
   clear hv
   rintro e w2 ⟨rfl, hq⟩
   replace hB := below_grows hB (Nat.le_refl _) hq
   replace k1 := k1.grows hq
   clear hq x1
   have x1 := k1.cell
   go_wp2_with fail
   refine (rwithin_any A3 c3 b.s 1 65536 _ (hp.s.grows hB).sps hls).mono ?_
   cases hv : withinS b.s 1 65536
   ·have HE : Hid (fineB b = false) := Lib.hid (fineB_s hv)
    clear hv
    rintro e w2 ⟨rfl, hq⟩
    replace hB := below_grows hB (Nat.le_refl _) hq
    clear hq x1
    go_wp2
    go_ret
    exact ⟨ret_bool HE.out.symm, hB⟩
   have HWs := Lib.hid hv
   clear hv
   rintro e w2 ⟨rfl, hq⟩
   replace hB := below_grows hB (Nat.le_refl _) hq
   replace k1 := k1.grows hq
   clear hq x1
   have x1 := k1.cell
   have HE : Hid (fineB b = true) := Lib.hid (fineB_yes HK.out HWr.out HWs.out (mapsOk_yes (by omega) (by omega) HU.out))
   go_wp2
   go_ret
   exact ⟨ret_bool HE.out.symm, hB⟩
set_option maxHeartbeats 2000000 in
theorem idx_nfine {n : Nat} (A : Option Addr) (c : Nat) (base : Nat → Prop) (l : List Bx) (p : Bx → Bool) (w : World) (hn : n = l.length) (h : Bxs w base A l) (hl : l.length ≤ 9223372036854775807)
 (hp : ∀ (x : Bx) (A1 A2 A3 : Option Addr) (c1 c2 c3 : Nat) (w1 : World), x ∈ l → Grows w w1 → BoxP w1 base x A1 c1 A2 c2 A3 c3 → Calls Tryz.prog 59 #[.agg #[.int .i64 x.k, .slice A1 x.r.length c1, .slice A2 x.m.length c2, .slice A3 x.s.length c3]] w1 fun e w' => e = .returned (.bool (p x)) ∧ Grows w1 w') :
 Calls Tryz.prog 90 #[.slice A n c, .func (.func 59) #[] #[]] w fun e w' => e = .returned (.int .i64 (placeZ (l.findIdx? p))) ∧ Grows w w' := by
 subst hn
 have HP := Lib.hid hp
 clear hp
 go_enter Tryz.func90, Tryz.ntmps90
 go_wp2_with fail
 go_loopw [8] (fun i wr => ∃ k : Nat, k ≤ l.length ∧ i = .int .i64 k ∧ Hid ((l.take k).findIdx? p = none) ∧ Grows w wr) (fun i _ => l.length - (intOf i).toNat)
 case atStart => exact ⟨0, by omega, rfl, Lib.hid rfl, Below.refl _ _⟩
 case round =>
  obtain ⟨k, hk, rfl, hf, hB⟩ := hrel
  by_cases hlt : k < l.length
  ·obtain ⟨ad, x, A1, c1, A2, c2, A3, c3, rfl, had, hx, hpx, q0, q1, q2, q3⟩ := (h.grows hB).elem hlt
   have HX := Lib.hid hx
   clear hx
   go_wp2_with fail
   refine (HP.out x A1 A2 A3 c1 c2 c3 _ (List.mem_of_getElem? HX.out) hB hpx).mono ?_
   rintro e w2 ⟨rfl, hq⟩
   replace hB := below_grows hB (Nat.le_refl _) hq
   clear hq q0 q1 q2 q3 hpx
   cases e : p x
   ·have HE := Lib.hid (idx_upU hf.out HX.out e)
    go_wp2
    go_roundw
    case rel => exact ⟨k + 1, by omega, by go_num, HE, hB⟩
    case measure => simp [intOf]; omega
   ·have HE := Lib.hid (idx_atU hf.out HX.out e)
    go_wp2
    go_ret
    rw [HE.out]
    exact ⟨rfl, hB⟩
  ·have HE : Hid (l.findIdx? p = none) := Lib.hid (by have := hf.out; rwa [List.take_of_length_le (by omega)] at this)
   go_wp2
   go_ret
   rw [HE.out]
   exact ⟨rfl, hB⟩
theorem cont_nfine {n : Nat} (A : Option Addr) (c : Nat) (base : Nat → Prop) (l : List Bx) (p : Bx → Bool) (w : World) (hn : n = l.length) (h : Bxs w base A l) (hl : l.length ≤ 9223372036854775807)
 (hp : ∀ (x : Bx) (A1 A2 A3 : Option Addr) (c1 c2 c3 : Nat) (w1 : World), x ∈ l → Grows w w1 → BoxP w1 base x A1 c1 A2 c2 A3 c3 → Calls Tryz.prog 59 #[.agg #[.int .i64 x.k, .slice A1 x.r.length c1, .slice A2 x.m.length c2, .slice A3 x.s.length c3]] w1 fun e w' => e = .returned (.bool (p x)) ∧ Grows w1 w') :
 Calls Tryz.prog 58 #[.slice A n c, .func (.func 59) #[] #[]] w fun e w' => e = .returned (.bool (l.any p)) ∧ Grows w w' := by
 subst hn
 have HP := Lib.hid hp
 clear hp
 rw [← place_anyU]
 go_enter Tryz.func58, Tryz.ntmps58
 go_wp2_with fail
 refine (idx_nfine A c base l p _ rfl h hl HP.out).mono ?_
 rintro e w2 ⟨rfl, hq⟩
 generalize hz : placeZ (l.findIdx? p) = z
 have HZ := Lib.hid hz
 clear hz
 go_wp2
 go_ret
 rw [HZ.out]
 exact ⟨rfl, hq⟩
theorem nfine_any {A1 A2 A3 : Option Addr} {c1 c2 c3 : Nat} {base : Nat → Prop} {b : Bx} {w : World} (hp : BoxP w base b A1 c1 A2 c2 A3 c3) (hl : OKB b) : Calls Tryz.prog 59 #[.agg #[.int .i64 b.k, .slice A1 b.r.length c1, .slice A2 b.m.length c2, .slice A3 b.s.length c3]] w fun e w' => e = .returned (.bool (!fineB b)) ∧ Grows w w' := by
 have k1 := Blk.new w 61 #[.int .i64 b.k, .slice A1 b.r.length c1, .slice A2 b.m.length c2, .slice A3 b.s.length c3]
 have hB := (Below.refl w.heap.size w).alloc (Nat.le_refl _) (Obj.cells #[.int .i64 b.k, .slice A1 b.r.length c1, .slice A2 b.m.length c2, .slice A3 b.s.length c3] 61)
 go_enter Tryz.func59, Tryz.ntmps59
 go_upto_region 1 with fail
 generalize World.alloc w _ = w1 at *
 have x1 := k1.cell
 go_wp2_with fail
 refine (pfine_any (hp.grows hB) hl).mono ?_
 cases hv : fineB b
 ·have HE : Hid ((!fineB b) = true) := Lib.hid (by rw [hv]; rfl)
  clear hv
  rintro e w2 ⟨rfl, hq⟩
  replace hB := below_grows hB (Nat.le_refl _) hq
  go_wp2
  go_ret
  exact ⟨ret_bool HE.out.symm, hB⟩
 ·have HE : Hid ((!fineB b) = false) := Lib.hid (by rw [hv]; rfl)
  clear hv
  rintro e w2 ⟨rfl, hq⟩
  replace hB := below_grows hB (Nat.le_refl _) hq
  go_wp2
  go_ret
  exact ⟨ret_bool HE.out.symm, hB⟩
theorem pvalidl_any (A : Option Addr) (c : Nat) (base : Nat → Prop) (l : List Bx) (w : World) (h : Bxs w base A l) (hl : l.length ≤ 1000000) (ho : ∀ b ∈ l, OKB b) : Calls Tryz.prog 33 #[.slice A l.length c] w fun e w' => e = .returned (.bool (validL l)) ∧ Grows w w' := by
 have HO := Lib.hid ho
 clear ho
 have hB := Below.refl w.heap.size w
 go_enter Tryz.func33, Tryz.ntmps33
 by_cases h1 : 64 < l.length
 ·have HE : Hid (validL l = false) := Lib.hid (by unfold validL; rw [decide_eq_false (by omega : ¬ l.length ≤ 64)]; rfl)
  have d1 : decide ((l.length : Int) ≤ 64) = false := by simp only [decide_eq_false_iff_not]; omega
  go_wp2
  go_ret
  exact ⟨ret_bool HE.out.symm, hB⟩
 have d1 : decide ((l.length : Int) ≤ 64) = true := by simp only [decide_eq_true_eq]; omega
 have HV : Hid (validL l = !(l.any fun x => !fineB x)) := Lib.hid (by unfold validL; rw [decide_eq_true (by omega : l.length ≤ 64), any_not]; rfl)
 go_wp2_with fail
 refine (cont_nfine A c base l (fun x => !fineB x) _ rfl h (by omega) (fun x A1 A2 A3 c1 c2 c3 w1 hx _ hp => nfine_any hp (HO.out x hx))).mono ?_
 cases hv : (l.any fun x => !fineB x)
 ·have HE : Hid (validL l = true) := Lib.hid (by rw [HV.out, hv]; rfl)
  clear hv
  rintro e w2 ⟨rfl, hq⟩
  replace hB := below_grows hB (Nat.le_refl _) hq
  go_wp2
  go_ret
  exact ⟨ret_bool HE.out.symm, hB⟩
 ·have HE : Hid (validL l = false) := Lib.hid (by rw [HV.out, hv]; rfl)
  clear hv
  rintro e w2 ⟨rfl, hq⟩
  replace hB := below_grows hB (Nat.le_refl _) hq
  go_wp2
  go_ret
  exact ⟨ret_bool HE.out.symm, hB⟩
set_option maxHeartbeats 4000000 in
theorem rvalidl_any (A : Option Addr) (c : Nat) (base : Nat → Prop) (l : List Bx) (w : World) (h : Bxs w base A l) (hl : l.length ≤ 1000000) (ho : ∀ b ∈ l, OKB b) : Calls Tryz.prog 34 #[.slice A l.length c] w fun e w' => e = .returned (.bool (validL l)) ∧ Grows w w' := by
 have HO := Lib.hid ho
 clear ho
 go_enter Tryz.func34, Tryz.ntmps34
 go_wp2_with fail
 go_loopw [7] (fun i wr => ∃ k : Nat, k ≤ l.length ∧ i = .int .i64 k ∧ Hid (∀ y ∈ l.take k, fineB y = true) ∧ Grows w wr) (fun i _ => l.length - (intOf i).toNat)
 case atStart => exact ⟨0, by omega, rfl, Lib.hid (by simp), Below.refl _ _⟩
 case round =>
  obtain ⟨k, hk, rfl, HF, hB⟩ := hrel
  by_cases hlt : k < l.length
  ·obtain ⟨ad, b, A1, c1, A2, c2, A3, c3, rfl, had, hx, hp, q0, q1, q2, q3⟩ := (h.grows hB).elem hlt
   have HX := Lib.hid hx
   clear hx
   have k1 := Blk.new wr 61 #[.int .i64 b.k, .slice A1 b.r.length c1, .slice A2 b.m.length c2, .slice A3 b.s.length c3]
   have hq := (Below.refl wr.heap.size wr).alloc (Nat.le_refl _) (Obj.cells #[.int .i64 b.k, .slice A1 b.r.length c1, .slice A2 b.m.length c2, .slice A3 b.s.length c3] 61)
   go_upto_region 4 with fail
   replace hB := below_grows hB (Nat.le_refl _) hq
   replace hp := hp.grows hq
   clear hq q0 q1 q2 q3
   generalize World.alloc wr _ = w1 at *
   have x1 := k1.cell
   go_wp2_with fail
   refine (rbox_any hp (HO.out b (List.mem_of_getElem? HX.out))).mono ?_
   cases hv : fineB b
   ·have HE : Hid (validL l = false) := Lib.hid (by
     unfold validL
     have : l.all fineB = false := by
      rw [List.all_eq_false]
      exact ⟨b, List.mem_of_getElem? HX.out, by simp [hv]⟩
     rw [this, Bool.and_false])
    clear hv
    rintro e w2 ⟨rfl, hq⟩
    replace hB := below_grows hB (Nat.le_refl _) hq
    clear hq x1 hp
    go_wp2
    go_ret
    exact ⟨ret_bool HE.out.symm, hB⟩
   ·have HN : Hid (∀ y ∈ l.take (k + 1), fineB y = true) := Lib.hid (by
     rw [take_snoc HX.out]
     intro y hy
     rcases List.mem_append.1 hy with hy | hy
     ·exact HF.out y hy
     ·simp only [List.mem_singleton] at hy
      exact hy ▸ hv)
    clear hv
    rintro e w2 ⟨rfl, hq⟩
    replace hB := below_grows hB (Nat.le_refl _) hq
    clear hq x1 hp
    go_wp2
    go_roundw
    case rel => exact ⟨k + 1, by omega, by go_num, HN, hB⟩
    case measure => simp [intOf]; omega
  ·have HA : Hid (l.all fineB = true) := Lib.hid (by
    rw [List.all_eq_true]
    have := HF.out
    rwa [List.take_of_length_le (by omega)] at this)
   by_cases h1 : 64 < l.length
   ·have HE : Hid (validL l = false) := Lib.hid (by unfold validL; rw [decide_eq_false (by omega : ¬ l.length ≤ 64)]; rfl)
    have d1 : decide ((l.length : Int) ≤ 64) = false := by simp only [decide_eq_false_iff_not]; omega
    go_wp2
    go_ret
    exact ⟨ret_bool HE.out.symm, hB⟩
   ·have HE : Hid (validL l = true) := Lib.hid (by unfold validL; rw [decide_eq_true (by omega : l.length ≤ 64), HA.out]; rfl)
    have d1 : decide ((l.length : Int) ≤ 64) = true := by simp only [decide_eq_true_eq]; omega
    go_wp2
    go_ret
    exact ⟨ret_bool HE.out.symm, hB⟩
theorem pboxes_any (A : Option Addr) (c : Nat) (base : Nat → Prop) (l : List Bx) (w : World) (h : Bxs w base A l) (hl : l.length ≤ 1000000) (ho : ∀ b ∈ l, OKB b) (hc : l.length ≤ c) : Calls Tryz.prog 66 #[.slice A l.length c] w fun e w' => (∃ A c, e = .returned (.slice A (boxesF l).length c) ∧ (boxesF l).length ≤ c ∧ Bxs w base A (boxesF l)) ∧ Grows w w' := by
 have HO := Lib.hid ho
 clear ho
 go_enter Tryz.func66, Tryz.ntmps66
 go_wp2_with fail
 refine (pvalidl_any A c base l _ h hl HO.out).mono ?_
 cases hv : validL l
 ·have HE : Hid (boxesF l = []) := Lib.hid (by unfold boxesF; rw [hv]; rfl)
  clear hv
  rintro e w2 ⟨rfl, hq⟩
  go_wp2
  go_ret
  rw [HE.out]
  exact ⟨⟨none, 0, rfl, Nat.le_refl _, Bxs.nil⟩, hq⟩
 ·have HE : Hid (boxesF l = l) := Lib.hid (by unfold boxesF; rw [hv]; rfl)
  clear hv
  rintro e w2 ⟨rfl, hq⟩
  go_wp2
  go_ret
  rw [HE.out]
  exact ⟨⟨A, c, rfl, hc, h⟩, hq⟩
theorem rlist_any (A : Option Addr) (c : Nat) (base : Nat → Prop) (l : List Bx) (w : World) (h : Bxs w base A l) (hl : l.length ≤ 1000000) (ho : ∀ b ∈ l, OKB b) (hc : l.length ≤ c) : Calls Tryz.prog 45 #[.slice A l.length c] w fun e w' => (∃ A c, e = .returned (.slice A (boxesF l).length c) ∧ (boxesF l).length ≤ c ∧ Bxs w base A (boxesF l)) ∧ Grows w w' := by
 have HO := Lib.hid ho
 clear ho
 go_enter Tryz.func45, Tryz.ntmps45
 go_wp2_with fail
 refine (rvalidl_any A c base l _ h hl HO.out).mono ?_
 cases hv : validL l
 ·have HE : Hid (boxesF l = []) := Lib.hid (by unfold boxesF; rw [hv]; rfl)
  clear hv
  rintro e w2 ⟨rfl, hq⟩
  go_wp2
  go_ret
  rw [HE.out]
  exact ⟨⟨none, 0, rfl, Nat.le_refl _, Bxs.nil⟩, hq⟩
 ·have HE : Hid (boxesF l = l) := Lib.hid (by unfold boxesF; rw [hv]; rfl)
  clear hv
  rintro e w2 ⟨rfl, hq⟩
  go_wp2
  go_ret
  rw [HE.out]
  exact ⟨⟨A, c, rfl, hc, h⟩, hq⟩
theorem rkind_any (k q : Int) (w : World) : Calls Tryz.prog 79 #[.int .i64 k, .int .i64 q] w fun e w' => e = .returned (.bool (kindB k q)) ∧ Grows w w' := by
 have hB := Below.refl w.heap.size w
 go_enter Tryz.func79, Tryz.ntmps79
 by_cases h1 : 1 ≤ q
 case neg =>
  have HE : Hid (kindB k q = false) := Lib.hid (by unfold kindB; rw [decide_eq_false h1]; rfl)
  have eh1 : decide (1 ≤ q) = false := by simpa using h1
  clear h1
  go_wp2
  go_ret
  exact ⟨ret_bool HE.out.symm, hB⟩
 have eh1 : decide (1 ≤ q) = true := by simpa using h1
 by_cases h2 : q ≤ 7
 case neg =>
  have HE : Hid (kindB k q = false) := Lib.hid (by unfold kindB; rw [decide_eq_false h2]; simp)
  have eh2 : decide (q ≤ 7) = false := by simpa using h2
  clear h2
  go_wp2
  go_ret
  exact ⟨ret_bool HE.out.symm, hB⟩
 have eh2 : decide (q ≤ 7) = true := by simpa using h2
 have HE : Hid (kindB k q = (bits .and .i64 (k / 2 ^ q.toNat) 1 == 1)) := Lib.hid (by unfold kindB; rw [eh1, eh2]; rfl)
 go_wp2
 go_ret
 exact ⟨ret_bool HE.out.symm, hB⟩
theorem pkind_any (k q : Int) (A1 A2 A3 : Option Addr) (n1 c1 n2 c2 n3 c3 : Nat) (w : World) : Calls Tryz.prog 74 #[.agg #[.int .i64 k, .slice A1 n1 c1, .slice A2 n2 c2, .slice A3 n3 c3], .int .i64 q] w fun e w' => e = .returned (.bool (kindB k q)) ∧ Grows w w' := by
 have hB := (Below.refl w.heap.size w).alloc (Nat.le_refl _) (Obj.cells #[.int .i64 k, .slice A1 n1 c1, .slice A2 n2 c2, .slice A3 n3 c3] 61)
 go_enter Tryz.func74, Tryz.ntmps74
 by_cases h1 : 1 ≤ q
 case neg =>
  have HE : Hid (kindB k q = false) := Lib.hid (by unfold kindB; rw [decide_eq_false h1]; rfl)
  have eh1 : decide (1 ≤ q) = false := by simpa using h1
  clear h1
  go_wp2
  go_ret
  exact ⟨ret_bool HE.out.symm, hB⟩
 have eh1 : decide (1 ≤ q) = true := by simpa using h1
 by_cases h2 : q ≤ 7
 case neg =>
  have HE : Hid (kindB k q = false) := Lib.hid (by unfold kindB; rw [decide_eq_false h2]; simp)
  have eh2 : decide (q ≤ 7) = false := by simpa using h2
  clear h2
  go_wp2
  go_ret
  exact ⟨ret_bool HE.out.symm, hB⟩
 have eh2 : decide (q ≤ 7) = true := by simpa using h2
 have HE : Hid (kindB k q = (bits .and .i64 (k / 2 ^ q.toNat) 1 == 1)) := Lib.hid (by unfold kindB; rw [eh1, eh2]; rfl)
 go_wp2
 go_ret
 exact ⟨ret_bool HE.out.symm, hB⟩
end Go.Proofs.YtjbkjgmcfommgaaGreat

namespace Go.Proofs.YtjbkjgmcfommgaaGreat
open Go.RowKit
theorem orZ3 (a b c : Int) : orZ [a, b, c] = if a = 0 then if b = 0 then c else b else a := by
 rw [orZ_cons, orZ_cons, orZ_cons]
 by_cases h : c = 0
 ·rw [if_pos h, h]; rfl
 ·rw [if_neg h]
theorem orZ4 (a b c d : Int) : orZ [a, b, c, d] = if a = 0 then if b = 0 then if c = 0 then d else c else b else a := by
 rw [orZ_cons, orZ3]
theorem order_any (a b : Int) (w : World) : Calls Tryz.prog 127 #[.int .u64 a, .int .u64 b] w fun e w' => e = .returned (.int .i64 (cmpZ a b)) ∧ Grows w w' := by
 have hB := Below.refl w.heap.size w
 go_enter Tryz.func127, Tryz.ntmps127
 by_cases h1 : a < b
 ·have HE : Hid (cmpZ a b = -1) := Lib.hid (if_pos h1)
  go_wp2
  go_ret
  exact ⟨ret_int HE.out.symm, hB⟩
 ·by_cases h2 : b < a
  ·have HE : Hid (cmpZ a b = 1) := Lib.hid (by unfold cmpZ; rw [if_neg h1, if_pos h2])
   go_wp2
   go_ret
   exact ⟨ret_int HE.out.symm, hB⟩
  ·have HE : Hid (cmpZ a b = 0) := Lib.hid (by unfold cmpZ; rw [if_neg h1, if_neg h2])
   go_wp2
   go_ret
   exact ⟨ret_int HE.out.symm, hB⟩
theorem nearer_any (want a b : Int) (w : World) (hw : I64 want) (ha : I64 a) (hb : I64 b) : Calls Tryz.prog 99 #[.int .i64 want, .int .i64 a, .int .i64 b] w fun e w' => e = .returned (.int .i64 (closerF want a b)) ∧ Grows w w' := by
 have hB := Below.refl w.heap.size w
 have HC := Lib.hid (closer_eq want a b)
 go_enter Tryz.func99, Tryz.ntmps99
 go_wp2_with fail
 refine (raway10_any a want _ ha hw).mono ?_
 rintro e w1 ⟨rfl, hq⟩
 replace hB := below_grows hB (Nat.le_refl _) hq
 clear hq
 go_wp2_with fail
 refine (raway10_any b want _ hb hw).mono ?_
 rintro e w2 ⟨rfl, hq⟩
 replace hB := below_grows hB (Nat.le_refl _) hq
 clear hq
 go_wp2_with fail
 refine (order_any (farD a want) (farD b want) _).mono ?_
 rintro e w3 ⟨rfl, hq⟩
 replace hB := below_grows hB (Nat.le_refl _) hq
 clear hq
 generalize cmpZ (farD a want) (farD b want) = z at *
 by_cases h0 : z = 0
 case neg =>
  have HE : Hid (closerF want a b = z) := Lib.hid (by rw [HC.out, if_neg h0])
  have hne : (z != 0) = true := by simpa using h0
  clear h0
  go_wp2
  go_ret
  exact ⟨ret_int HE.out.symm, hB⟩
 have HZ : Hid (closerF want a b = cmpZ a b) := Lib.hid (by rw [HC.out, if_pos h0])
 subst h0
 by_cases h1 : a < b
 ·have HE : Hid (closerF want a b = -1) := Lib.hid (by rw [HZ.out]; exact if_pos h1)
  go_wp2
  go_ret
  exact ⟨ret_int HE.out.symm, hB⟩
 ·by_cases h2 : b < a
  ·have HE : Hid (closerF want a b = 1) := Lib.hid (by rw [HZ.out]; unfold cmpZ; rw [if_neg h1, if_pos h2])
   go_wp2
   go_ret
   exact ⟨ret_int HE.out.symm, hB⟩
  ·have HE : Hid (closerF want a b = 0) := Lib.hid (by rw [HZ.out]; unfold cmpZ; rw [if_neg h1, if_neg h2])
   go_wp2
   go_ret
   exact ⟨ret_int HE.out.symm, hB⟩
theorem rkinds_any (want a b : Int) (w : World) : Calls Tryz.prog 96 #[.int .i64 want, .int .i64 a, .int .i64 b] w fun e w' => e = .returned (.int .i64 (kindZ want a b)) ∧ Grows w w' := by
 have hB := Below.refl w.heap.size w
 go_enter Tryz.func96, Tryz.ntmps96
 by_cases h1 : a = b
 ·have HE : Hid (kindZ want a b = 0) := Lib.hid (by unfold kindZ; rw [if_pos h1])
  have d1 : (a == b) = true := by simpa using h1
  clear h1
  go_wp2
  go_ret
  exact ⟨ret_int HE.out.symm, hB⟩
 have d1 : (a == b) = false := by simpa using h1
 by_cases h2 : a = want
 ·have HE : Hid (kindZ want a b = -1) := Lib.hid (by unfold kindZ; rw [if_neg h1, if_pos (.inl h2)])
  have d2 : (a == want) = true := by simpa using h2
  clear h1 h2
  go_wp2
  go_ret
  exact ⟨ret_int HE.out.symm, hB⟩
 have d2 : (a == want) = false := by simpa using h2
 by_cases h3 : b = want
 ·have HE : Hid (kindZ want a b = 1) := Lib.hid (by unfold kindZ; rw [if_neg h1, if_neg (by omega)])
  have d3 : (b != want) = false := by simpa using h3
  clear h1 h2 h3
  go_wp2
  go_ret
  exact ⟨ret_int HE.out.symm, hB⟩
 have d3 : (b != want) = true := by simpa using h3
 by_cases h4 : b < a
 ·have HE : Hid (kindZ want a b = -1) := Lib.hid (by unfold kindZ; rw [if_neg h1, if_pos (.inr ⟨h3, h4⟩)])
  have d4 : decide (b < a) = true := by simpa using h4
  clear h1 h2 h3 h4
  go_wp2
  go_ret
  exact ⟨ret_int HE.out.symm, hB⟩
 ·have HE : Hid (kindZ want a b = 1) := Lib.hid (by unfold kindZ; rw [if_neg h1, if_neg (by omega)])
  have d4 : decide (b < a) = false := by simpa using h4
  clear h1 h2 h3 h4
  go_wp2
  go_ret
  exact ⟨ret_int HE.out.symm, hB⟩
theorem cmpZ_self (a : Int) : cmpZ a a = 0 := by unfold cmpZ; simp
theorem cmpZ_eq {a b : Int} (h : cmpZ a b = 0) : a = b := by
 unfold cmpZ at h
 split at h
 ·omega
 ·split at h <;> omega
theorem cmpZ_zero {a b : Nat} (h : cmpZ (a : Int) (b : Int) = 0) : a = b := by have := cmpZ_eq h; omega
set_option maxHeartbeats 16000000 in
theorem rmaps_any (I A B : Option Addr) (ci c d : Nat) (want a b : List Int) (w : World) (hi : Ints w I want) (ha : Ints w A a) (hb : Ints w B b) (hlw : want.length ≤ 1000000) (hl : a.length ≤ 1000000) (hl2 : b.length ≤ 1000000) :
 Calls Tryz.prog 98 #[.slice I want.length ci, .slice A a.length c, .slice B b.length d] w fun e w' => e = .returned (.int .i64 (mapsF want a b)) ∧ Grows w w' := by
 have hB := Below.refl w.heap.size w
 replace hl : a.length ≤ 9223372036854775807 := by omega
 replace hl2 : b.length ≤ 9223372036854775807 := by omega
 have hlw2 : want.length ≤ 9223372036854775807 := by omega
 go_enter Tryz.func98, Tryz.ntmps98
 go_wp2_with fail
 refine (rsame6_any A I c ci a want _ ha hi hl hlw2).mono ?_
 rintro e w1 ⟨rfl, hq⟩
 replace hB := below_grows hB (Nat.le_refl _) hq
 replace hi := hi.grows hq
 replace ha := ha.grows hq
 replace hb := hb.grows hq
 clear hq
 go_wp2_with fail
 refine (rsame6_any B I d ci b want _ hb hi hl2 hlw2).mono ?_
 rintro e w2 ⟨rfl, hq⟩
 replace hB := below_grows hB (Nat.le_refl _) hq
 replace hi := hi.grows hq
 replace ha := ha.grows hq
 replace hb := hb.grows hq
 clear hq
 by_cases e1 : a = want
 ·by_cases e2 : b = want
  ·have HM : Hid (mapsF want a b = orZ [cmpZ ((commonL want b).length : Int) ((commonL want a).length : Int), cmpZ (a.length : Int) (b.length : Int), lexZ a b]) := Lib.hid (by unfold mapsF; rw [if_pos (by simp [e1, e2])])
   rw [decide_eq_true e1, decide_eq_true e2]
   clear e1 e2
   go_wp2_with fail
   refine (rcommon6_any I B ci d want b _ hi hb hlw hl2).mono ?_
   rintro e w3 ⟨⟨v3, rfl, ho3⟩, hq⟩
   replace hB := below_grows hB (Nat.le_refl _) hq
   replace hi := hi.grows hq
   replace ha := ha.grows hq
   replace hb := hb.grows hq
   clear hq
   obtain ⟨A3, c3, rfl, -, -⟩ := ho3.read
   clear ho3
   go_wp2_with fail
   refine (rcommon6_any I A ci c want a _ hi ha hlw hl).mono ?_
   rintro e w4 ⟨⟨v4, rfl, ho4⟩, hq⟩
   replace hB := below_grows hB (Nat.le_refl _) hq
   replace hi := hi.grows hq
   replace ha := ha.grows hq
   replace hb := hb.grows hq
   clear hq
   obtain ⟨A4, c4, rfl, -, -⟩ := ho4.read
   clear ho4
   have hx3 := common_len want b
   have hx4 := common_len want a
   generalize hn3 : (commonL want b).length = n3 at *
   generalize hn4 : (commonL want a).length = n4 at *
   clear hn3 hn4
   have u3 : IntKind.u64.wrap (n3 : Int) = n3 := IntWalk.u64_in _ (by omega)
   have u4 : IntKind.u64.wrap (n4 : Int) = n4 := IntWalk.u64_in _ (by omega)
   go_wp2_with fail
   refine (order_any (n3 : Int) (n4 : Int) _).mono ?_
   rintro e w5 ⟨rfl, hq⟩
   replace hB := below_grows hB (Nat.le_refl _) hq
   replace hi := hi.grows hq
   replace ha := ha.grows hq
   replace hb := hb.grows hq
   clear hq
   generalize cmpZ (n3 : Int) (n4 : Int) = z1 at *
   by_cases e3 : z1 = 0
   case neg =>
    have HE : Hid (mapsF want a b = z1) := Lib.hid (by rw [HM.out, orZ3, if_neg e3])
    have hne : (z1 != 0) = true := by simpa using e3
    clear e3
    go_wp2
    go_ret
    exact ⟨ret_int HE.out.symm, hB⟩
   subst e3
   have ua : IntKind.u64.wrap (a.length : Int) = a.length := IntWalk.u64_in _ (by omega)
   have ub : IntKind.u64.wrap (b.length : Int) = b.length := IntWalk.u64_in _ (by omega)
   go_wp2_with fail
   refine (order_any (a.length : Int) (b.length : Int) _).mono ?_
   rintro e w6 ⟨rfl, hq⟩
   replace hB := below_grows hB (Nat.le_refl _) hq
   replace hi := hi.grows hq
   replace ha := ha.grows hq
   replace hb := hb.grows hq
   clear hq
   by_cases e4 : cmpZ (a.length : Int) (b.length : Int) = 0
   case neg =>
    have HE : Hid (mapsF want a b = cmpZ (a.length : Int) (b.length : Int)) := Lib.hid (by rw [HM.out, orZ3, if_pos rfl, if_neg e4])
    have hne : (cmpZ (a.length : Int) (b.length : Int) != 0) = true := by simpa using e4
    clear e4
    go_wp2
    go_ret
    exact ⟨ret_int HE.out.symm, hB⟩
   have HL : Hid (a.length = b.length) := Lib.hid (cmpZ_zero e4)
   have HM2 : Hid (mapsF want a b = lexZ a b) := Lib.hid (by rw [HM.out, orZ3, if_pos rfl, if_pos e4])
   rw [e4]
   clear e4 ua ub u3 u4 hx3 hx4
   have hB6 := hB
   clear hB
   go_wp2_with fail
   go_loopw [48] (fun i wr => ∃ k : Nat, k ≤ a.length ∧ i = .int .i64 k ∧ Hid (lexZ a b = lexZ (a.drop k) (b.drop k)) ∧ Grows w6 wr) (fun i _ => a.length - (intOf i).toNat)
   case atStart => exact ⟨0, by omega, rfl, Lib.hid rfl, Below.refl _ _⟩
   case round =>
    obtain ⟨k, hk, rfl, HF, hB⟩ := hrel
    by_cases hlt : k < a.length
    ·have hlt2 : k < b.length := by have := HL.out; omega
     obtain ⟨ad, x, rfl, had, hx, q0⟩ := (ha.grows hB).at_ hlt
     obtain ⟨ad2, y, rfl, had2, hy, q1⟩ := (hb.grows hB).at_ hlt2
     have HD : Hid (lexZ a b = if cmpZ x y = 0 then lexZ (a.drop (k + 1)) (b.drop (k + 1)) else cmpZ x y) := Lib.hid (by
      obtain ⟨_, e1⟩ := List.getElem?_eq_some_iff.1 hx
      obtain ⟨_, e2⟩ := List.getElem?_eq_some_iff.1 hy
      rw [HF.out, List.drop_eq_getElem_cons hlt, List.drop_eq_getElem_cons hlt2, e1, e2]
      rfl)
     have HX := Lib.hid hx
     have HY := Lib.hid hy
     clear hx hy HF
     go_upto_region 15 with fail
     by_cases h0 : x = y
     ·have HE : Hid (lexZ a b = lexZ (a.drop (k + 1)) (b.drop (k + 1))) := Lib.hid (by rw [HD.out, if_pos (by rw [h0]; exact cmpZ_self y)])
      have hn : (x != y) = false := by simpa using h0
      clear HD h0
      go_quiet (fail)
      generalize hY : World.drewN wr _ = w9 at *
      have hq : Grows wr w9 := hY ▸ grows_drewN wr _
      clear hY
      replace hB := below_grows hB (Nat.le_refl _) hq
      clear hq q0 q1
      go_wp2
      go_roundw
      case rel => exact ⟨k + 1, by omega, by go_num, HE, hB⟩
      case measure => simp [intOf]; omega
     ·have hn : (x != y) = true := by simpa using h0
      have HV : Hid (mapsF want a b = cmpZ x y) := Lib.hid (by rw [HM2.out, HD.out, if_neg (fun e => h0 (cmpZ_eq e))])
      clear HD
      go_quiet (fail)
      generalize hY : World.drewN wr _ = w9 at *
      have hq : Grows wr w9 := hY ▸ grows_drewN wr _
      clear hY
      replace hB := below_grows hB (Nat.le_refl _) hq
      clear hq q0 q1
      obtain ⟨ad3, x3, e5, had3, hx3, q0⟩ := (ha.grows hB).at_ hlt
      obtain ⟨ad4, y4, e6, had4, hy4, q1⟩ := (hb.grows hB).at_ hlt2
      injection e5 with e5
      injection e6 with e6
      subst e5
      subst e6
      obtain rfl : x3 = x := by have h9 := HX.out; rw [hx3] at h9; injection h9
      obtain rfl : y4 = y := by have h9 := HY.out; rw [hy4] at h9; injection h9
      clear hx3 hy4
      go_upto_region 16 with fail
      by_cases h7 : x3 < y4
      ·have HE : Hid (mapsF want a b = -1) := Lib.hid (HV.out.trans (if_pos h7))
       have d7 : decide (x3 < y4) = true := by simpa using h7
       clear h7 h0
       go_quiet (fail)
       generalize hY : World.drewN w9 _ = w10 at *
       have hq : Grows w9 w10 := hY ▸ grows_drewN w9 _
       clear hY
       replace hB := below_grows hB (Nat.le_refl _) hq
       clear hq q0 q1
       go_wp2
       go_ret
       exact ⟨ret_int HE.out.symm, below_grows hB6 (Nat.le_refl _) hB⟩
      ·have HE : Hid (mapsF want a b = 1) := Lib.hid (HV.out.trans (by unfold cmpZ; rw [if_neg h7, if_pos (by omega)]))
       have d7 : decide (x3 < y4) = false := by simpa using h7
       clear h7 h0
       go_quiet (fail)
       generalize hY : World.drewN w9 _ = w10 at *
       have hq : Grows w9 w10 := hY ▸ grows_drewN w9 _
       clear hY
       replace hB := below_grows hB (Nat.le_refl _) hq
       clear hq q0 q1
       go_wp2
       go_ret
       exact ⟨ret_int HE.out.symm, below_grows hB6 (Nat.le_refl _) hB⟩
    ·have HE : Hid (mapsF want a b = 0) := Lib.hid (by
      rw [HM2.out, HF.out, List.drop_of_length_le (show a.length ≤ k by omega), List.drop_of_length_le (by have := HL.out; omega)]
      rfl)
     go_wp2
     go_ret
     exact ⟨ret_int HE.out.symm, below_grows hB6 (Nat.le_refl _) hB⟩
  ·have HE : Hid (mapsF want a b = -1) := Lib.hid (by unfold mapsF; rw [if_neg (by simp [e1, e2]), if_pos e1])
   rw [decide_eq_true e1, decide_eq_false e2]
   clear e1 e2
   go_wp2
   go_ret
   exact ⟨ret_int HE.out.symm, hB⟩
 ·by_cases e2 : b = want
  ·have HE : Hid (mapsF want a b = 1) := Lib.hid (by unfold mapsF; rw [if_neg (by simp [e1, e2]), if_neg e1])
   rw [decide_eq_false e1, decide_eq_true e2]
   clear e1 e2
   go_wp2
   go_ret
   exact ⟨ret_int HE.out.symm, hB⟩
  ·have HM : Hid (mapsF want a b = orZ [cmpZ ((commonL want b).length : Int) ((commonL want a).length : Int), cmpZ (a.length : Int) (b.length : Int), lexZ a b]) := Lib.hid (by unfold mapsF; rw [if_pos (by simp [e1, e2])])
   rw [decide_eq_false e1, decide_eq_false e2]
   clear e1 e2
   go_wp2_with fail
   refine (rcommon6_any I B ci d want b _ hi hb hlw hl2).mono ?_
   rintro e w3 ⟨⟨v3, rfl, ho3⟩, hq⟩
   replace hB := below_grows hB (Nat.le_refl _) hq
   replace hi := hi.grows hq
   replace ha := ha.grows hq
   replace hb := hb.grows hq
   clear hq
   obtain ⟨A3, c3, rfl, -, -⟩ := ho3.read
   clear ho3
   go_wp2_with fail
   refine (rcommon6_any I A ci c want a _ hi ha hlw hl).mono ?_
   rintro e w4 ⟨⟨v4, rfl, ho4⟩, hq⟩
   replace hB := below_grows hB (Nat.le_refl _) hq
   replace hi := hi.grows hq
   replace ha := ha.grows hq
   replace hb := hb.grows hq
   clear hq
   obtain ⟨A4, c4, rfl, -, -⟩ := ho4.read
   clear ho4
   have hx3 := common_len want b
   have hx4 := common_len want a
   generalize hn3 : (commonL want b).length = n3 at *
   generalize hn4 : (commonL want a).length = n4 at *
   clear hn3 hn4
   have u3 : IntKind.u64.wrap (n3 : Int) = n3 := IntWalk.u64_in _ (by omega)
   have u4 : IntKind.u64.wrap (n4 : Int) = n4 := IntWalk.u64_in _ (by omega)
   go_wp2_with fail
   refine (order_any (n3 : Int) (n4 : Int) _).mono ?_
   rintro e w5 ⟨rfl, hq⟩
   replace hB := below_grows hB (Nat.le_refl _) hq
   replace hi := hi.grows hq
   replace ha := ha.grows hq
   replace hb := hb.grows hq
   clear hq
   generalize cmpZ (n3 : Int) (n4 : Int) = z1 at *
   by_cases e3 : z1 = 0
   case neg =>
    have HE : Hid (mapsF want a b = z1) := Lib.hid (by rw [HM.out, orZ3, if_neg e3])
    have hne : (z1 != 0) = true := by simpa using e3
    clear e3
    go_wp2
    go_ret
    exact ⟨ret_int HE.out.symm, hB⟩
   subst e3
   have ua : IntKind.u64.wrap (a.length : Int) = a.length := IntWalk.u64_in _ (by omega)
   have ub : IntKind.u64.wrap (b.length : Int) = b.length := IntWalk.u64_in _ (by omega)
   go_wp2_with fail
   refine (order_any (a.length : Int) (b.length : Int) _).mono ?_
   rintro e w6 ⟨rfl, hq⟩
   replace hB := below_grows hB (Nat.le_refl _) hq
   replace hi := hi.grows hq
   replace ha := ha.grows hq
   replace hb := hb.grows hq
   clear hq
   by_cases e4 : cmpZ (a.length : Int) (b.length : Int) = 0
   case neg =>
    have HE : Hid (mapsF want a b = cmpZ (a.length : Int) (b.length : Int)) := Lib.hid (by rw [HM.out, orZ3, if_pos rfl, if_neg e4])
    have hne : (cmpZ (a.length : Int) (b.length : Int) != 0) = true := by simpa using e4
    clear e4
    go_wp2
    go_ret
    exact ⟨ret_int HE.out.symm, hB⟩
   have HL : Hid (a.length = b.length) := Lib.hid (cmpZ_zero e4)
   have HM2 : Hid (mapsF want a b = lexZ a b) := Lib.hid (by rw [HM.out, orZ3, if_pos rfl, if_pos e4])
   rw [e4]
   clear e4 ua ub u3 u4 hx3 hx4
   have hB6 := hB
   clear hB
   go_wp2_with fail
   go_loopw [48] (fun i wr => ∃ k : Nat, k ≤ a.length ∧ i = .int .i64 k ∧ Hid (lexZ a b = lexZ (a.drop k) (b.drop k)) ∧ Grows w6 wr) (fun i _ => a.length - (intOf i).toNat)
   case atStart => exact ⟨0, by omega, rfl, Lib.hid rfl, Below.refl _ _⟩
   case round =>
    obtain ⟨k, hk, rfl, HF, hB⟩ := hrel
    by_cases hlt : k < a.length
    ·have hlt2 : k < b.length := by have := HL.out; omega
     obtain ⟨ad, x, rfl, had, hx, q0⟩ := (ha.grows hB).at_ hlt
     obtain ⟨ad2, y, rfl, had2, hy, q1⟩ := (hb.grows hB).at_ hlt2
     have HD : Hid (lexZ a b = if cmpZ x y = 0 then lexZ (a.drop (k + 1)) (b.drop (k + 1)) else cmpZ x y) := Lib.hid (by
      obtain ⟨_, e1⟩ := List.getElem?_eq_some_iff.1 hx
      obtain ⟨_, e2⟩ := List.getElem?_eq_some_iff.1 hy
      rw [HF.out, List.drop_eq_getElem_cons hlt, List.drop_eq_getElem_cons hlt2, e1, e2]
      rfl)
     have HX := Lib.hid hx
     have HY := Lib.hid hy
     clear hx hy HF
     go_upto_region 15 with fail
     by_cases h0 : x = y
     ·have HE : Hid (lexZ a b = lexZ (a.drop (k + 1)) (b.drop (k + 1))) := Lib.hid (by rw [HD.out, if_pos (by rw [h0]; exact cmpZ_self y)])
      have hn : (x != y) = false := by simpa using h0
      clear HD h0
      go_quiet (fail)
      generalize hY : World.drewN wr _ = w9 at *
      have hq : Grows wr w9 := hY ▸ grows_drewN wr _
      clear hY
      replace hB := below_grows hB (Nat.le_refl _) hq
      clear hq q0 q1
      go_wp2
      go_roundw
      case rel => exact ⟨k + 1, by omega, by go_num, HE, hB⟩
      case measure => simp [intOf]; omega
     ·have hn : (x != y) = true := by simpa using h0
      have HV : Hid (mapsF want a b = cmpZ x y) := Lib.hid (by rw [HM2.out, HD.out, if_neg (fun e => h0 (cmpZ_eq e))])
      clear HD
      go_quiet (fail)
      generalize hY : World.drewN wr _ = w9 at *
      have hq : Grows wr w9 := hY ▸ grows_drewN wr _
      clear hY
      replace hB := below_grows hB (Nat.le_refl _) hq
      clear hq q0 q1
      obtain ⟨ad3, x3, e5, had3, hx3, q0⟩ := (ha.grows hB).at_ hlt
      obtain ⟨ad4, y4, e6, had4, hy4, q1⟩ := (hb.grows hB).at_ hlt2
      injection e5 with e5
      injection e6 with e6
      subst e5
      subst e6
      obtain rfl : x3 = x := by have h9 := HX.out; rw [hx3] at h9; injection h9
      obtain rfl : y4 = y := by have h9 := HY.out; rw [hy4] at h9; injection h9
      clear hx3 hy4
      go_upto_region 16 with fail
      by_cases h7 : x3 < y4
      ·have HE : Hid (mapsF want a b = -1) := Lib.hid (HV.out.trans (if_pos h7))
       have d7 : decide (x3 < y4) = true := by simpa using h7
       clear h7 h0
       go_quiet (fail)
       generalize hY : World.drewN w9 _ = w10 at *
       have hq : Grows w9 w10 := hY ▸ grows_drewN w9 _
       clear hY
       replace hB := below_grows hB (Nat.le_refl _) hq
       clear hq q0 q1
       go_wp2
       go_ret
       exact ⟨ret_int HE.out.symm, below_grows hB6 (Nat.le_refl _) hB⟩
      ·have HE : Hid (mapsF want a b = 1) := Lib.hid (HV.out.trans (by unfold cmpZ; rw [if_neg h7, if_pos (by omega)]))
       have d7 : decide (x3 < y4) = false := by simpa using h7
       clear h7 h0
       go_quiet (fail)
       generalize hY : World.drewN w9 _ = w10 at *
       have hq : Grows w9 w10 := hY ▸ grows_drewN w9 _
       clear hY
       replace hB := below_grows hB (Nat.le_refl _) hq
       clear hq q0 q1
       go_wp2
       go_ret
       exact ⟨ret_int HE.out.symm, below_grows hB6 (Nat.le_refl _) hB⟩
    ·have HE : Hid (mapsF want a b = 0) := Lib.hid (by
      rw [HM2.out, HF.out, List.drop_of_length_le (show a.length ≤ k by omega), List.drop_of_length_le (by have := HL.out; omega)]
      rfl)
     go_wp2
     go_ret
     exact ⟨ret_int HE.out.symm, below_grows hB6 (Nat.le_refl _) hB⟩
set_option maxHeartbeats 8000000 in
theorem rcompare_any (I A B : Option Addr) (ci c d : Nat) (want a b : Ch) (w : World) (iw : Ints w I want.m) (ia : Ints w A a.m) (ib : Ints w B b.m) (hw : OKC want) (ha : OKC a) (hb : OKC b) :
 Calls Tryz.prog 65 #[.agg #[.int .i64 want.k, .int .i64 want.r, .slice I want.m.length ci, .int .i64 want.s], .agg #[.int .i64 a.k, .int .i64 a.r, .slice A a.m.length c, .int .i64 a.s], .agg #[.int .i64 b.k, .int .i64 b.r, .slice B b.m.length d, .int .i64 b.s]] w fun e w' => e = .returned (.int .i64 (cmpF want a b)) ∧ Grows w w' := by
 have HC : Hid (cmpF want a b = _) := Lib.hid (orZ4 (kindZ want.k a.k b.k) (closerF want.r a.r b.r) (mapsF want.m a.m b.m) (closerF want.s a.s b.s))
 have k1 := ((Blk.new w 42 #[.int .i64 want.k, .int .i64 want.r, .slice I want.m.length ci, .int .i64 want.s]).alloc (Obj.cells #[.int .i64 a.k, .int .i64 a.r, .slice A a.m.length c, .int .i64 a.s] 42)).alloc (Obj.cells #[.int .i64 b.k, .int .i64 b.r, .slice B b.m.length d, .int .i64 b.s] 42)
 have k2 := (Blk.new (w.alloc (Obj.cells #[.int .i64 want.k, .int .i64 want.r, .slice I want.m.length ci, .int .i64 want.s] 42)) 42 #[.int .i64 a.k, .int .i64 a.r, .slice A a.m.length c, .int .i64 a.s]).alloc (Obj.cells #[.int .i64 b.k, .int .i64 b.r, .slice B b.m.length d, .int .i64 b.s] 42)
 have k3 := Blk.new ((w.alloc (Obj.cells #[.int .i64 want.k, .int .i64 want.r, .slice I want.m.length ci, .int .i64 want.s] 42)).alloc (Obj.cells #[.int .i64 a.k, .int .i64 a.r, .slice A a.m.length c, .int .i64 a.s] 42)) 42 #[.int .i64 b.k, .int .i64 b.r, .slice B b.m.length d, .int .i64 b.s]
 have hB := (((Below.refl w.heap.size w).alloc (Nat.le_refl _) (Obj.cells #[.int .i64 want.k, .int .i64 want.r, .slice I want.m.length ci, .int .i64 want.s] 42)).alloc (by simp) (Obj.cells #[.int .i64 a.k, .int .i64 a.r, .slice A a.m.length c, .int .i64 a.s] 42)).alloc (by simp; omega) (Obj.cells #[.int .i64 b.k, .int .i64 b.r, .slice B b.m.length d, .int .i64 b.s] 42)
 go_enter Tryz.func65, Tryz.ntmps65
 go_upto_region 1 with fail
 have hs1 : (w.alloc (Obj.cells #[.int .i64 want.k, .int .i64 want.r, .slice I want.m.length ci, .int .i64 want.s] 42)).heap.size = w.heap.size + 1 := by simp
 have hs2 : ((w.alloc (Obj.cells #[.int .i64 want.k, .int .i64 want.r, .slice I want.m.length ci, .int .i64 want.s] 42)).alloc (Obj.cells #[.int .i64 a.k, .int .i64 a.r, .slice A a.m.length c, .int .i64 a.s] 42)).heap.size = w.heap.size + 1 + 1 := by simp
 rw [hs1] at k2
 rw [hs2] at k3
 clear hs1 hs2
 replace iw := iw.grows hB
 replace ia := ia.grows hB
 replace ib := ib.grows hB
 generalize World.alloc (World.alloc (World.alloc w _) _) _ = w3 at *
 generalize hG1 : w.heap.size + 1 = Ga at *
 generalize hG2 : Ga + 1 = Gb at *
 clear hG1 hG2
 have x1 := k1.cell
 have x2 := k2.cell
 have x3 := k3.cell
 go_wp2_with fail
 refine (rkinds_any want.k a.k b.k _).mono ?_
 generalize kindZ want.k a.k b.k = z0 at *
 rintro e v0 ⟨rfl, hq⟩
 replace hB := below_grows hB (Nat.le_refl _) hq
 replace k1 := k1.grows hq
 replace k2 := k2.grows hq
 replace k3 := k3.grows hq
 replace iw := iw.grows hq
 replace ia := ia.grows hq
 replace ib := ib.grows hq
 clear hq x1 x2 x3
 by_cases h0 : z0 = 0
 case neg =>
  have HE : Hid (cmpF want a b = z0) := Lib.hid (by rw [HC.out]; simp [h0])
  have hne : (z0 != 0) = true := by simpa using h0
  clear h0
  go_wp2
  go_ret
  exact ⟨ret_int HE.out.symm, hB⟩
 subst h0
 have x1 := k1.cell
 have x2 := k2.cell
 have x3 := k3.cell
 go_wp2_with fail
 refine (nearer_any want.r a.r b.r _ hw.1 ha.1 hb.1).mono ?_
 generalize closerF want.r a.r b.r = z1 at *
 rintro e v1 ⟨rfl, hq⟩
 replace hB := below_grows hB (Nat.le_refl _) hq
 replace k1 := k1.grows hq
 replace k2 := k2.grows hq
 replace k3 := k3.grows hq
 replace iw := iw.grows hq
 replace ia := ia.grows hq
 replace ib := ib.grows hq
 clear hq x1 x2 x3
 by_cases h0 : z1 = 0
 case neg =>
  have HE : Hid (cmpF want a b = z1) := Lib.hid (by rw [HC.out]; simp [h0])
  have hne : (z1 != 0) = true := by simpa using h0
  clear h0
  go_wp2
  go_ret
  exact ⟨ret_int HE.out.symm, hB⟩
 subst h0
 have x1 := k1.cell
 have x2 := k2.cell
 have x3 := k3.cell
 go_wp2_with fail
 refine (rmaps_any I A B ci c d want.m a.m b.m _ iw ia ib hw.2.2 ha.2.2 hb.2.2).mono ?_
 generalize mapsF want.m a.m b.m = z2 at *
 rintro e v2 ⟨rfl, hq⟩
 replace hB := below_grows hB (Nat.le_refl _) hq
 replace k1 := k1.grows hq
 replace k2 := k2.grows hq
 replace k3 := k3.grows hq
 replace iw := iw.grows hq
 replace ia := ia.grows hq
 replace ib := ib.grows hq
 clear hq x1 x2 x3
 by_cases h0 : z2 = 0
 case neg =>
  have HE : Hid (cmpF want a b = z2) := Lib.hid (by rw [HC.out]; simp [h0])
  have hne : (z2 != 0) = true := by simpa using h0
  clear h0
  go_wp2
  go_ret
  exact ⟨ret_int HE.out.symm, hB⟩
 subst h0
 have x1 := k1.cell
 have x2 := k2.cell
 have x3 := k3.cell
 go_wp2_with fail
 refine (nearer_any want.s a.s b.s _ hw.2.1 ha.2.1 hb.2.1).mono ?_
 generalize closerF want.s a.s b.s = z3 at *
 rintro e v3 ⟨rfl, hq⟩
 replace hB := below_grows hB (Nat.le_refl _) hq
 replace k1 := k1.grows hq
 replace k2 := k2.grows hq
 replace k3 := k3.grows hq
 replace iw := iw.grows hq
 replace ia := ia.grows hq
 replace ib := ib.grows hq
 clear hq x1 x2 x3
 have HE : Hid (cmpF want a b = z3) := Lib.hid (by rw [HC.out]; simp)
 go_wp2
 go_ret
 exact ⟨ret_int HE.out.symm, hB⟩
theorem len64_any (x : Int) (w : World) (h0 : 0 ≤ x) (h1 : x ≤ 255) : Calls Tryz.prog 131 #[.int .u64 x] w fun e w' => e = .returned (.int .i64 (Lib.bitLen x.toNat)) ∧ Grows w w' := by
 have d1 : decide (4294967296 ≤ x) = false := by simp only [decide_eq_false_iff_not]; omega
 have d2 : decide (65536 ≤ x) = false := by simp only [decide_eq_false_iff_not]; omega
 have d3 : decide (256 ≤ x) = false := by simp only [decide_eq_false_iff_not]; omega
 have hB := Below.refl w.heap.size w
 go_enter Tryz.func131, Tryz.ntmps131
 go_wp2
 go_ret
 exact ⟨ret_int (by have h8 := Lib.bitLen_le8' x h0 h1; rw [Lib.len8_of x h0 h1]; unfold wrap64; omega), hB⟩
theorem len_any (x : Int) (w : World) (h0 : 0 ≤ x) (h1 : x ≤ 255) : Calls Tryz.prog 100 #[.int .u64 x] w fun e w' => e = .returned (.int .i64 (Lib.bitLen x.toNat)) ∧ Grows w w' := by
 go_enter Tryz.func100, Tryz.ntmps100
 go_wp2_with fail
 refine (len64_any x _ h0 h1).mono ?_
 rintro e w2 ⟨rfl, hq⟩
 go_wp2
 go_ret
 exact ⟨rfl, hq⟩
end Go.Proofs.YtjbkjgmcfommgaaGreat

namespace Go.Proofs.YtjbkjgmcfommgaaGreat
open Go.RowKit
def ChV (w : World) (base : Nat → Prop) (c : Ch) (v : Value) : Prop := ∃ A n, v = .agg #[.int .i64 c.k, .int .i64 c.r, .slice A c.m.length n, .int .i64 c.s] ∧ c.m.length ≤ n ∧ InB w base A c.m
theorem ChV.grows {w w' : World} {base : Nat → Prop} {c : Ch} {v : Value} (h : ChV w base c v) (hg : Grows w w') : ChV w' base c v := by
 obtain ⟨A, n, e, hn, hi⟩ := h
 exact ⟨A, n, e, hn, hi.grows hg⟩
def kUp (want b : Int) : Nat → Int
 | 0 => 0
 | n + 1 => if kindB b ((n : Int) + 1) = true ∧ (kUp want b n = 0 ∨ kindZ want ((n : Int) + 1) (kUp want b n) < 0) then (n : Int) + 1 else kUp want b n
def minUp (want : List Int) (ms : List (List Int)) : Nat → List Int
 | 0 => []
 | n + 1 => if n = 0 ∨ mapsF want (ms.getD n []) (minUp want ms n) < 0 then ms.getD n [] else minUp want ms n
def bestR (want : Ch) (b : Bx) : Ch := ⟨kUp want.k b.k 7, (nearF b.r want.r).1, minUp want.m b.m b.m.length, (nearF b.s want.s).1⟩
set_option maxHeartbeats 16000000 in
theorem rbest_any {A1 A2 A3 I : Option Addr} {c1 c2 c3 ci : Nat} {base : Nat → Prop} {b : Bx} {want : Ch} {w : World} (hp : BoxP w base b A1 c1 A2 c2 A3 c3) (hl : OKB b) (iw : Ints w I want.m) (hw : OKC want) :
 Calls Tryz.prog 64 #[.agg #[.int .i64 b.k, .slice A1 b.r.length c1, .slice A2 b.m.length c2, .slice A3 b.s.length c3], .agg #[.int .i64 want.k, .int .i64 want.r, .slice I want.m.length ci, .int .i64 want.s]] w fun e w' => (∃ v, e = .returned v ∧ ChV w' base (bestR want b) v) ∧ Grows w w' := by
 obtain ⟨hlr, hls, hlm, hlx⟩ := hl
 obtain ⟨hwr, hws, hwm⟩ := hw
 have HLM := Lib.hid hlx
 clear hlx
 have k2 := ((((Blk.new w 61 #[.int .i64 b.k, .slice A1 b.r.length c1, .slice A2 b.m.length c2, .slice A3 b.s.length c3]).alloc (Obj.cells #[.int .i64 want.k, .int .i64 want.r, .slice I want.m.length ci, .int .i64 want.s] 42)).alloc (Obj.cells #[.int .i64 0, .int .i64 0, .slice none 0 0, .int .i64 0] 42)).alloc (Obj.cells #[.int .i64 0, .int .i64 0, .slice none 0 0, .int .i64 0] 42))
 have k3 := (((Blk.new (w.alloc (Obj.cells #[.int .i64 b.k, .slice A1 b.r.length c1, .slice A2 b.m.length c2, .slice A3 b.s.length c3] 61)) 42 #[.int .i64 want.k, .int .i64 want.r, .slice I want.m.length ci, .int .i64 want.s]).alloc (Obj.cells #[.int .i64 0, .int .i64 0, .slice none 0 0, .int .i64 0] 42)).alloc (Obj.cells #[.int .i64 0, .int .i64 0, .slice none 0 0, .int .i64 0] 42))
 have k4 := ((Blk.new ((w.alloc (Obj.cells #[.int .i64 b.k, .slice A1 b.r.length c1, .slice A2 b.m.length c2, .slice A3 b.s.length c3] 61)).alloc (Obj.cells #[.int .i64 want.k, .int .i64 want.r, .slice I want.m.length ci, .int .i64 want.s] 42)) 42 #[.int .i64 0, .int .i64 0, .slice none 0 0, .int .i64 0]).alloc (Obj.cells #[.int .i64 0, .int .i64 0, .slice none 0 0, .int .i64 0] 42))
 have k5 := (Blk.new (((w.alloc (Obj.cells #[.int .i64 b.k, .slice A1 b.r.length c1, .slice A2 b.m.length c2, .slice A3 b.s.length c3] 61)).alloc (Obj.cells #[.int .i64 want.k, .int .i64 want.r, .slice I want.m.length ci, .int .i64 want.s] 42)).alloc (Obj.cells #[.int .i64 0, .int .i64 0, .slice none 0 0, .int .i64 0] 42)) 42 #[.int .i64 0, .int .i64 0, .slice none 0 0, .int .i64 0])
 have hB := (((((Below.refl w.heap.size w).alloc (Nat.le_refl _) (Obj.cells #[.int .i64 b.k, .slice A1 b.r.length c1, .slice A2 b.m.length c2, .slice A3 b.s.length c3] 61)).alloc (by simp) (Obj.cells #[.int .i64 want.k, .int .i64 want.r, .slice I want.m.length ci, .int .i64 want.s] 42)).alloc (by simp; omega) (Obj.cells #[.int .i64 0, .int .i64 0, .slice none 0 0, .int .i64 0] 42)).alloc (by simp; omega) (Obj.cells #[.int .i64 0, .int .i64 0, .slice none 0 0, .int .i64 0] 42))
 go_enter Tryz.func64, Tryz.ntmps64
 go_upto_region 2 with fail
 have hs1 : (w.alloc (Obj.cells #[.int .i64 b.k, .slice A1 b.r.length c1, .slice A2 b.m.length c2, .slice A3 b.s.length c3] 61)).heap.size = w.heap.size + 1 := by simp
 rw [hs1] at k3
 have hs2 : ((w.alloc (Obj.cells #[.int .i64 b.k, .slice A1 b.r.length c1, .slice A2 b.m.length c2, .slice A3 b.s.length c3] 61)).alloc (Obj.cells #[.int .i64 want.k, .int .i64 want.r, .slice I want.m.length ci, .int .i64 want.s] 42)).heap.size = w.heap.size + 1 + 1 := by simp
 rw [hs2] at k4
 have hs3 : (((w.alloc (Obj.cells #[.int .i64 b.k, .slice A1 b.r.length c1, .slice A2 b.m.length c2, .slice A3 b.s.length c3] 61)).alloc (Obj.cells #[.int .i64 want.k, .int .i64 want.r, .slice I want.m.length ci, .int .i64 want.s] 42)).alloc (Obj.cells #[.int .i64 0, .int .i64 0, .slice none 0 0, .int .i64 0] 42)).heap.size = w.heap.size + 1 + 1 + 1 := by simp
 rw [hs3] at k5
 clear hs1 hs2 hs3
 generalize World.alloc (World.alloc (World.alloc (World.alloc w _) _) _) _ = w4 at *
 generalize hG1 : w.heap.size + 1 = G1 at *
 have HG1 := Lib.hid hG1
 clear hG1
 generalize hG2 : G1 + 1 = G2 at *
 have HG2 := Lib.hid hG2
 clear hG2
 generalize hG3 : G2 + 1 = G3 at *
 have HG3 := Lib.hid hG3
 clear hG3
 have e03 : w.heap.size ≠ G3 := by have h1 := HG1.out; have h2 := HG2.out; have h3 := HG3.out; omega
 have e13 : G1 ≠ G3 := by have h2 := HG2.out; have h3 := HG3.out; omega
 have e23 : G2 ≠ G3 := by have h3 := HG3.out; omega
 have l2 : w.heap.size ≤ G2 := by have h1 := HG1.out; have h2 := HG2.out; omega
 have l3 : w.heap.size ≤ G3 := by have h1 := HG1.out; have h2 := HG2.out; have h3 := HG3.out; omega
 have hB4 := hB
 clear hB
 go_wp2_with fail
 go_loopw [6] (fun i wr => ∃ (n : Nat) (ck : Int), n ≤ 7 ∧ i = .int .i64 ((n : Int) + 1) ∧ Hid (kUp want.k b.k n = ck) ∧ Blk wr w.heap.size 61 #[.int .i64 b.k, .slice A1 b.r.length c1, .slice A2 b.m.length c2, .slice A3 b.s.length c3] ∧ Blk wr G1 42 #[.int .i64 want.k, .int .i64 want.r, .slice I want.m.length ci, .int .i64 want.s] ∧ Blk wr G2 42 #[.int .i64 0, .int .i64 0, .slice none 0 0, .int .i64 0] ∧ Blk wr G3 42 #[.int .i64 ck, .int .i64 0, .slice none 0 0, .int .i64 0] ∧ Below w.heap.size w wr) (fun i _ => 8 - (intOf i).toNat)
 case atStart => exact ⟨0, 0, by omega, rfl, Lib.hid rfl, k2, k3, k4, k5, hB4⟩
 case round =>
  clear k2 k3 k4 k5
  obtain ⟨n, ck, hn, rfl, HF, k2, k3, k4, k5, hB⟩ := hrel
  have HS : Hid (kUp want.k b.k (n + 1) = if kindB b.k ((n : Int) + 1) = true ∧ (ck = 0 ∨ kindZ want.k ((n : Int) + 1) ck < 0) then (n : Int) + 1 else ck) := Lib.hid (by rw [← HF.out]; rfl)
  have hwn : IntKind.i64.wrap ((n : Int) + 1 + 1) = ((n + 1 : Nat) : Int) + 1 := by rw [IntWalk.i64_in _ (by omega)]; omega
  by_cases hlt : n < 7
  ·have d1 : decide ((n : Int) + 1 ≤ 7) = true := by simp only [decide_eq_true_eq]; omega
   have x2 := k2.cell
   have x3 := k3.cell
   have x5 := k5.cell
   go_wp2_with fail
   refine (rkind_any b.k ((n : Int) + 1) _).mono ?_
   cases hv : kindB b.k ((n : Int) + 1)
   ·have HE : Hid (kUp want.k b.k (n + 1) = ck) := Lib.hid (by rw [HS.out, if_neg (by rw [hv]; simp)])
    clear hv HS
    rintro e w5 ⟨rfl, hq⟩
    replace hB := below_grows hB (Nat.le_refl _) hq
    replace k2 := k2.grows hq
    replace k3 := k3.grows hq
    replace k4 := k4.grows hq
    replace k5 := k5.grows hq
    clear hq x2 x3 x5
    go_wp2
    go_roundw
    case rel => exact ⟨n + 1, ck, by omega, by go_num, HE, k2, k3, k4, k5, hB⟩
    case measure => simp [intOf]; omega
   have HV := Lib.hid hv
   clear hv
   rintro e w5 ⟨rfl, hq⟩
   replace hB := below_grows hB (Nat.le_refl _) hq
   replace k2 := k2.grows hq
   replace k3 := k3.grows hq
   replace k4 := k4.grows hq
   replace k5 := k5.grows hq
   clear hq x2 x3 x5
   have hf5 := k5.frozen
   have x2 := k2.cell
   have x3 := k3.cell
   have x5 := k5.cell
   by_cases h0 : ck = 0
   ·have HE : Hid (kUp want.k b.k (n + 1) = (n : Int) + 1) := Lib.hid (by rw [HS.out, if_pos ⟨HV.out, .inl h0⟩])
    have d2 : (ck == 0) = true := by simpa using h0
    clear h0 HS
    have j2 := k2.far (p := ⟨G3, 0, none⟩) e03 (.int .i64 ((n : Int) + 1))
    have j3 := k3.far (p := ⟨G3, 0, none⟩) e13 (.int .i64 ((n : Int) + 1))
    have j4 := k4.far (p := ⟨G3, 0, none⟩) e23 (.int .i64 ((n : Int) + 1))
    have j5 := k5.set_ 0 (.int .i64 ((n : Int) + 1))
    have jB := hB.setCell (p := ⟨G3, 0, none⟩) l3 (.int .i64 ((n : Int) + 1))
    go_wp2
    go_roundw
    case rel => exact ⟨n + 1, (n : Int) + 1, by omega, by go_num, HE, j2, j3, j4, j5, jB⟩
    case measure => simp [intOf]; omega
   have d2 : (ck == 0) = false := by simpa using h0
   go_wp2_with fail
   refine (rkinds_any want.k ((n : Int) + 1) ck _).mono ?_
   by_cases h1 : kindZ want.k ((n : Int) + 1) ck < 0
   ·have HE : Hid (kUp want.k b.k (n + 1) = (n : Int) + 1) := Lib.hid (by rw [HS.out, if_pos ⟨HV.out, .inr h1⟩])
    have d3 : decide (kindZ want.k ((n : Int) + 1) ck < 0) = true := by simpa using h1
    clear h0 h1 HS
    generalize kindZ want.k ((n : Int) + 1) ck = z at *
    rintro e w6 ⟨rfl, hq⟩
    replace hB := below_grows hB (Nat.le_refl _) hq
    replace k2 := k2.grows hq
    replace k3 := k3.grows hq
    replace k4 := k4.grows hq
    replace k5 := k5.grows hq
    clear hq x2 x3 x5 hf5
    have hf5 := k5.frozen
    have x2 := k2.cell
    have x3 := k3.cell
    have x5 := k5.cell
    have j2 := k2.far (p := ⟨G3, 0, none⟩) e03 (.int .i64 ((n : Int) + 1))
    have j3 := k3.far (p := ⟨G3, 0, none⟩) e13 (.int .i64 ((n : Int) + 1))
    have j4 := k4.far (p := ⟨G3, 0, none⟩) e23 (.int .i64 ((n : Int) + 1))
    have j5 := k5.set_ 0 (.int .i64 ((n : Int) + 1))
    have jB := hB.setCell (p := ⟨G3, 0, none⟩) l3 (.int .i64 ((n : Int) + 1))
    go_wp2
    go_roundw
    case rel => exact ⟨n + 1, (n : Int) + 1, by omega, by go_num, HE, j2, j3, j4, j5, jB⟩
    case measure => simp [intOf]; omega
   ·have HE : Hid (kUp want.k b.k (n + 1) = ck) := Lib.hid (by rw [HS.out, if_neg (fun h => h.2.elim h0 h1)])
    have d3 : decide (kindZ want.k ((n : Int) + 1) ck < 0) = false := by simpa using h1
    clear h0 h1 HS
    generalize kindZ want.k ((n : Int) + 1) ck = z at *
    rintro e w6 ⟨rfl, hq⟩
    replace hB := below_grows hB (Nat.le_refl _) hq
    replace k2 := k2.grows hq
    replace k3 := k3.grows hq
    replace k4 := k4.grows hq
    replace k5 := k5.grows hq
    clear hq x2 x3 x5 hf5
    go_wp2
    go_roundw
    case rel => exact ⟨n + 1, ck, by omega, by go_num, HE, k2, k3, k4, k5, hB⟩
    case measure => simp [intOf]; omega
  obtain rfl : n = 7 := by omega
  clear HS hwn
  have d1 : decide (((7 : Nat) : Int) + 1 ≤ 7) = false := by decide
  have x2 := k2.cell
  have x3 := k3.cell
  have x5 := k5.cell
  go_wp2_with fail
  refine (rnear_any A1 c1 b.r want.r _ (hp.r.grows hB).sps (by omega) hwr).mono ?_
  generalize hnpr : nearF b.r want.r = pr at *
  have HNpr := Lib.hid hnpr
  clear hnpr
  rintro e w7 ⟨rfl, hq⟩
  replace hB := below_grows hB (Nat.le_refl _) hq
  replace k2 := k2.grows hq
  replace k3 := k3.grows hq
  replace k4 := k4.grows hq
  replace k5 := k5.grows hq
  clear hq x2 x3 x5
  have hf5 := k5.frozen
  have y5 := k5.cell
  replace k2 := k2.far (p := ⟨G3, 1, none⟩) e03 (.int .i64 pr.1)
  replace k3 := k3.far (p := ⟨G3, 1, none⟩) e13 (.int .i64 pr.1)
  replace k4 := k4.far (p := ⟨G3, 1, none⟩) e23 (.int .i64 pr.1)
  replace k5 := k5.set_ 1 (.int .i64 pr.1)
  replace hB := hB.setCell (p := ⟨G3, 1, none⟩) l3 (.int .i64 pr.1)
  have x2 := k2.cell
  have x3 := k3.cell
  have x5 := k5.cell
  go_wp2_with fail
  refine (rnear_any A3 c3 b.s want.s _ (hp.s.grows hB).sps (by omega) hws).mono ?_
  generalize hnps : nearF b.s want.s = ps at *
  have HNps := Lib.hid hnps
  clear hnps
  rintro e w8 ⟨rfl, hq⟩
  replace hB := below_grows hB (Nat.le_refl _) hq
  replace k2 := k2.grows hq
  replace k3 := k3.grows hq
  replace k4 := k4.grows hq
  replace k5 := k5.grows hq
  clear hq x2 x3 x5 hf5 y5
  have hf5 := k5.frozen
  have y5 := k5.cell
  replace k2 := k2.far (p := ⟨G3, 3, none⟩) e03 (.int .i64 ps.1)
  replace k3 := k3.far (p := ⟨G3, 3, none⟩) e13 (.int .i64 ps.1)
  replace k4 := k4.far (p := ⟨G3, 3, none⟩) e23 (.int .i64 ps.1)
  replace k5 := k5.set_ 3 (.int .i64 ps.1)
  replace hB := hB.setCell (p := ⟨G3, 3, none⟩) l3 (.int .i64 ps.1)
  have x2 := k2.cell
  have x3 := k3.cell
  have x5 := k5.cell
  have hB8 := hB
  clear hB
  go_wp2_with fail
  go_loopw [60] (fun i wr => ∃ (n : Nat) (x : List Int) (B : Option Addr) (cx : Nat), n ≤ b.m.length ∧ i = .int .i64 n ∧ Hid (minUp want.m b.m n = x) ∧ x.length ≤ 1000000 ∧ x.length ≤ cx ∧ InB w base B x ∧ Blk wr w.heap.size 61 #[.int .i64 b.k, .slice A1 b.r.length c1, .slice A2 b.m.length c2, .slice A3 b.s.length c3] ∧ Blk wr G1 42 #[.int .i64 want.k, .int .i64 want.r, .slice I want.m.length ci, .int .i64 want.s] ∧ Blk wr G2 42 #[.int .i64 0, .int .i64 0, .slice none 0 0, .int .i64 0] ∧ Blk wr G3 42 #[.int .i64 ck, .int .i64 pr.1, .slice B x.length cx, .int .i64 ps.1] ∧ Below w.heap.size w wr) (fun i _ => b.m.length - (intOf i).toNat)
  case atStart => exact ⟨0, [], none, 0, by omega, rfl, Lib.hid rfl, by simp, by simp, RdB.nil, k2, k3, k4, k5, hB8⟩
  case round =>
   clear k2 k3 k4 k5 x2 x3 x5 hf5 y5 hB8
   obtain ⟨n, x, B, cx, hn, rfl, HF2, hxl, hcx, hix, k2, k3, k4, k5, hB⟩ := hrel
   by_cases hlt : n < b.m.length
   ·obtain ⟨ad, y, B2, cy, e2, had, hy, q0, hcy, hiy⟩ := hp.m.elem hlt
    subst e2
    have q1 := (hB.cell (p := ad.add n) (by rw [block_of_add]; exact had)).trans q0
    have hyl := HLM.out y (List.mem_of_getElem? hy)
    have HS2 : Hid (minUp want.m b.m (n + 1) = if n = 0 ∨ mapsF want.m y x < 0 then y else x) := Lib.hid (by
     have e9 : b.m.getD n [] = y := by rw [List.getD_eq_getElem?_getD, hy]; rfl
     rw [← HF2.out, ← e9]
     rfl)
    clear hy q0
    have x2 := k2.cell
    have x3 := k3.cell
    have x5 := k5.cell
    have hf5 := k5.frozen
    by_cases h0 : n = 0
    ·have HE : Hid (minUp want.m b.m (n + 1) = y) := Lib.hid (by rw [HS2.out, if_pos (.inl h0)])
     have d2 : ((n : Int) == 0) = true := by simp only [beq_iff_eq]; omega
     clear h0 HS2 HF2
     replace k2 := k2.far (p := ⟨G3, 2, none⟩) e03 (.slice B2 y.length cy)
     replace k3 := k3.far (p := ⟨G3, 2, none⟩) e13 (.slice B2 y.length cy)
     replace k4 := k4.far (p := ⟨G3, 2, none⟩) e23 (.slice B2 y.length cy)
     replace k5 := k5.set_ 2 (.slice B2 y.length cy)
     replace hB := hB.setCell (p := ⟨G3, 2, none⟩) l3 (.slice B2 y.length cy)
     go_wp2
     go_roundw
     case rel => exact ⟨n + 1, y, B2, cy, by omega, by go_num, HE, hyl, hcy, hiy, k2, k3, k4, k5, hB⟩
     case measure => simp [intOf]; omega
    have d2 : ((n : Int) == 0) = false := by simp only [beq_eq_false_iff_ne, ne_eq]; omega
    go_wp2_with fail
    refine (rmaps_any I B2 B ci cy cx want.m y x _ (iw.grows hB) (hiy.grows hB).ints (hix.grows hB).ints hwm hyl hxl).mono ?_
    by_cases h1 : mapsF want.m y x < 0
    ·have HE : Hid (minUp want.m b.m (n + 1) = y) := Lib.hid (by rw [HS2.out, if_pos (.inr h1)])
     have d3 : decide (mapsF want.m y x < 0) = true := by simpa using h1
     clear h0 h1 HS2 HF2
     generalize mapsF want.m y x = z at *
     rintro e w9 ⟨rfl, hq⟩
     replace hB := below_grows hB (Nat.le_refl _) hq
     replace k2 := k2.grows hq
     replace k3 := k3.grows hq
     replace k4 := k4.grows hq
     replace k5 := k5.grows hq
     clear hq x2 x3 x5 hf5
     have x2 := k2.cell
     have x3 := k3.cell
     have x5 := k5.cell
     have hf5 := k5.frozen
     replace k2 := k2.far (p := ⟨G3, 2, none⟩) e03 (.slice B2 y.length cy)
     replace k3 := k3.far (p := ⟨G3, 2, none⟩) e13 (.slice B2 y.length cy)
     replace k4 := k4.far (p := ⟨G3, 2, none⟩) e23 (.slice B2 y.length cy)
     replace k5 := k5.set_ 2 (.slice B2 y.length cy)
     replace hB := hB.setCell (p := ⟨G3, 2, none⟩) l3 (.slice B2 y.length cy)
     go_wp2
     go_roundw
     case rel => exact ⟨n + 1, y, B2, cy, by omega, by go_num, HE, hyl, hcy, hiy, k2, k3, k4, k5, hB⟩
     case measure => simp [intOf]; omega
    ·have HE : Hid (minUp want.m b.m (n + 1) = x) := Lib.hid (by rw [HS2.out, if_neg (fun h => h.elim h0 h1)])
     have d3 : decide (mapsF want.m y x < 0) = false := by simpa using h1
     clear h0 h1 HS2 HF2
     generalize mapsF want.m y x = z at *
     rintro e w9 ⟨rfl, hq⟩
     replace hB := below_grows hB (Nat.le_refl _) hq
     replace k2 := k2.grows hq
     replace k3 := k3.grows hq
     replace k4 := k4.grows hq
     replace k5 := k5.grows hq
     clear hq x2 x3 x5 hf5
     go_wp2
     go_roundw
     case rel => exact ⟨n + 1, x, B, cx, by omega, by go_num, HE, hxl, hcx, hix, k2, k3, k4, k5, hB⟩
     case measure => simp [intOf]; omega
   ·obtain rfl : n = b.m.length := by omega
    have HE : Hid (bestR want b = ⟨ck, pr.1, x, ps.1⟩) := Lib.hid (by unfold bestR; rw [HF.out, HF2.out, HNpr.out, HNps.out])
    have x2 := k2.cell
    have x3 := k3.cell
    have x5 := k5.cell
    have x4 := k4.cell
    have hf4 := k4.frozen
    have y4 := ((((k4.set_ 0 (.int .i64 ck)).set_ 1 (.int .i64 pr.1)).set_ 2 (.slice B x.length cx)).set_ 3 (.int .i64 ps.1))
    have yB := ((((hB.setCell (p := ⟨G2, 0, none⟩) l2 (.int .i64 ck)).setCell (p := ⟨G2, 1, none⟩) l2 (.int .i64 pr.1)).setCell (p := ⟨G2, 2, none⟩) l2 (.slice B x.length cx)).setCell (p := ⟨G2, 3, none⟩) l2 (.int .i64 ps.1))
    have y5 := y4.cell
    clear k2 k3 k4 k5 x2 x3
    go_wp2
    refine bodyPost_ret (v := .agg #[.int .i64 ck, .int .i64 pr.1, .slice B x.length cx, .int .i64 ps.1]) (by simp [results, Tryz.results64, go_sem, y5]) rfl ⟨?_, yB⟩
    rw [HE.out]
    exact ⟨_, rfl, B, cx, rfl, hcx, hix.grows yB⟩
end Go.Proofs.YtjbkjgmcfommgaaGreat

namespace Go.Proofs.YtjbkjgmcfommgaaGreat
open Go.RowKit
theorem kinds_range {k : Int} (hk : I64 k) (h : kindsOk k = true) : 2 ≤ k ∧ k ≤ 254 ∧ k % 2 = 0 := by
 unfold kindsOk at h
 simp only [Bool.and_eq_true, bne_iff_ne, ne_eq, beq_iff_eq] at h
 obtain ⟨h0, h1⟩ := h
 have h2 : IntKind.i64.wrap (((BitVec.ofInt 64 k &&& ~~~BitVec.ofInt 64 254).toNat : Nat) : Int) = 0 := h1
 rw [IntWalk.i64_left] at h2
 unfold wrap64 at h2
 have hlt := (BitVec.ofInt 64 k &&& ~~~BitVec.ofInt 64 254).isLt
 have hz : (BitVec.ofInt 64 k &&& ~~~BitVec.ofInt 64 254).toNat = 0 := by omega
 have hz2 : BitVec.ofInt 64 k &&& ~~~BitVec.ofInt 64 254 = 0#64 := BitVec.eq_of_toNat_eq (by simpa using hz)
 have e : BitVec.ofInt 64 k = BitVec.ofInt 64 k &&& BitVec.ofInt 64 254 := by
  generalize BitVec.ofInt 64 k = v at *
  generalize BitVec.ofInt 64 254 = u at *
  ext i hi
  have := congrArg (fun x : BitVec 64 => x[i]) hz2
  simp only [BitVec.getElem_and, BitVec.getElem_not, BitVec.getElem_zero] at this
  rw [BitVec.getElem_and]
  revert this
  cases v[i] <;> cases u[i] <;> simp
 have e2 : (BitVec.ofInt 64 k).toNat = (BitVec.ofInt 64 k).toNat &&& 254 := by
  have := congrArg BitVec.toNat e
  rw [BitVec.toNat_and] at this
  exact this
 have h254 : (BitVec.ofInt 64 k).toNat ≤ 254 := by rw [e2]; exact Nat.and_le_right
 have hev : (BitVec.ofInt 64 k).toNat % 2 = 0 := by
  have h9 := Nat.testBit_and (BitVec.ofInt 64 k).toNat 254 0
  rw [Nat.testBit_zero, Nat.testBit_zero, Nat.testBit_zero, ← e2, show decide (254 % 2 = 1) = false from rfl, Bool.and_false, decide_eq_false_iff_not] at h9
  omega
 have hn : ((BitVec.ofInt 64 k).toNat : Int) = k % 18446744073709551616 := by
  rw [BitVec.toNat_ofInt]
  have := Int.emod_nonneg k (show (18446744073709551616 : Int) ≠ 0 by decide)
  rw [Int.toNat_of_nonneg (by simpa using this)]
  rfl
 unfold I64 at hk
 omega
def topK (want b : Int) : Int := if kindB b want = true then want else (Lib.bitLen b.toNat : Int) - 1
def topP (want : Ch) (b : Bx) : Ch := ⟨topK want.k b.k, (nearF b.r want.r).1, minUp want.m b.m b.m.length, (nearF b.s want.s).1⟩
set_option maxRecDepth 100000 in
set_option maxHeartbeats 4000000 in
theorem iclone_any (A : Option Addr) (c : Nat) (l : List Int) (w : World) (h : Ints w A l) (hl : l.length ≤ 1000000) :
 Calls Tryz.prog 70 #[.slice A l.length c] w fun e w' => (∃ v, e = .returned v ∧ OwnI w' w.heap.size v l) ∧ Grows w w' := by
 go_enter Tryz.func70, Tryz.ntmps70
 go_wp2_with fail
 rw [Lib.run_eql_slice_nil (P := Tryz.prog) w 38 3 _ _ _ _ _ Tryz.underlying38]
 rcases A with _ | ad
 ·have h0 : l.length = 0 := by
   rcases Nat.eq_zero_or_pos l.length with h0 | h0
   ·exact h0
   ·obtain ⟨ad, hh, _⟩ := h.2 h0
    cases hh
  obtain rfl : l = [] := List.length_eq_zero_iff.1 h0
  go_wp2
  go_ret
  exact ⟨⟨_, rfl, ownI_nil w w.heap.size⟩, Below.refl _ _⟩
 ·go_upto_region 3 with fail
  refine wp_region_lit ?_
  iterate 2
   refine wpList_plain rfl (fun K hK => ?_)
   go_simp
   refine hK _ _ ?_
   clear hK K
  have hB1 := (Below.refl w.heap.size w).alloc (Nat.le_refl _) (Obj.cells #[] 3)
  have how : OwnI (w.alloc (Obj.cells #[] 3)) w.heap.size (.slice (some ⟨w.heap.size, 0, none⟩) 0 0) [] := World.ownsRow_lit w #[] 0 (Nat.le_refl _) (by simp [maxLen]) rfl
  have h1 := h.grows hB1
  generalize hW : World.alloc w _ = w1 at *
  refine wpList_append_int rfl (.tmp 5) (.tmp 6) rfl (m := l) rfl rfl how rfl h1 (by simpa using hl) hB1.size ?_
  intro v' w2 hown hgr _
  have hB2 := how.below hB1 hgr hB1.size
  rw [List.nil_append] at hown
  clear how hgr h1 h hB1 hW
  go_wp2
  go_ret
  exact ⟨⟨_, rfl, hown⟩, hB2⟩
theorem top1_any {G : Nat} {I A B : Option Addr} {ci ca cb : Nat} {want : Ch} {x y : List Int} {w : World} (kw : Blk w G 42 #[.int .i64 want.k, .int .i64 want.r, .slice I want.m.length ci, .int .i64 want.s]) (iw : Ints w I want.m) (hx : Ints w A x) (hy : Ints w B y) (hlw : want.m.length ≤ 1000000) (hlx : x.length ≤ 9223372036854775807) (hly : y.length ≤ 9223372036854775807) :
 Calls Tryz.prog 103 #[.slice A x.length ca, .slice B y.length cb, .pointer (some ⟨G, 0, none⟩)] w fun e w' => e = .returned (.int .i64 (mapsF want.m x y)) ∧ Grows w w' := by
 have x1 := kw.cell
 go_enter Tryz.func103, Tryz.ntmps103
 go_wp2_with fail
 refine (maps_any I A B ci ca cb want.m x y _ iw hx hy hlw hlx hly).mono ?_
 rintro e w1 ⟨rfl, hq⟩
 go_wp2
 go_ret
 exact ⟨rfl, hq⟩
set_option maxHeartbeats 4000000 in
theorem minfunc_any {G : Nat} {base : Nat → Prop} {I A : Option Addr} {ci c : Nat} {want : Ch} {ms : List (List Int)} {w : World} (kw : Blk w G 42 #[.int .i64 want.k, .int .i64 want.r, .slice I want.m.length ci, .int .i64 want.s]) (iw : Ints w I want.m) (h : MapsR w base A ms) (hl0 : 0 < ms.length) (hl : ms.length ≤ 1000000) (hlw : want.m.length ≤ 1000000) (hlx : ∀ x ∈ ms, x.length ≤ 1000000) :
 Calls Tryz.prog 102 #[.slice A ms.length c, .func (.func 103) #[] #[.pointer (some ⟨G, 0, none⟩)]] w fun e w' => (∃ B cx, e = .returned (.slice B (minUp want.m ms ms.length).length cx) ∧ (minUp want.m ms ms.length).length ≤ cx ∧ InB w base B (minUp want.m ms ms.length) ∧ (minUp want.m ms ms.length).length ≤ 1000000) ∧ Grows w w' := by
 have HLX := Lib.hid hlx
 clear hlx
 obtain ⟨ad, x0, B0, cx0, e0, had, hx0, q0, hcx0, hi0⟩ := h.elem hl0
 subst e0
 have H0 : Hid (minUp want.m ms 1 = x0) := Lib.hid (by
  have e9 : ms.getD 0 [] = x0 := by rw [List.getD_eq_getElem?_getD, hx0]; rfl
  unfold minUp
  rw [if_pos (.inl rfl), e9])
 have hxl0 := HLX.out x0 (List.mem_of_getElem? hx0)
 have ea : ad.add 0 = ad := by simp [Addr.add]
 rw [ea] at q0
 have d0 : decide ((ms.length : Int) < 1) = false := by simp only [decide_eq_false_iff_not]; omega
 clear hx0 ea
 go_enter Tryz.func102, Tryz.ntmps102
 go_wp2_with fail
 go_loopw [5, 6] (fun m i wr => ∃ (n : Nat) (x : List Int) (B : Option Addr) (cx : Nat), 1 ≤ n ∧ n ≤ ms.length ∧ i = .int .i64 n ∧ m = .slice B x.length cx ∧ Hid (minUp want.m ms n = x) ∧ x.length ≤ 1000000 ∧ x.length ≤ cx ∧ InB w base B x ∧ Grows w wr) (fun _ i _ => ms.length - (intOf i).toNat)
 case atStart => exact ⟨1, x0, B0, cx0, by omega, by omega, rfl, rfl, H0, hxl0, hcx0, hi0, Below.refl _ _⟩
 case round =>
  obtain ⟨n, x, B, cx, hn1, hn, rfl, rfl, HF, hxl, hcx, hix, hB⟩ := hrel
  by_cases hlt : n < ms.length
  ·obtain ⟨ad2, y, B2, cy, e2, had2, hy, q1, hcy, hiy⟩ := h.elem hlt
   injection e2 with e2
   subst e2
   have q2 := (hB.cell (p := ad.add n) (by rw [block_of_add]; exact had)).trans q1
   have hyl := HLX.out y (List.mem_of_getElem? hy)
   have HS : Hid (minUp want.m ms (n + 1) = if n = 0 ∨ mapsF want.m y x < 0 then y else x) := Lib.hid (by
    have e9 : ms.getD n [] = y := by rw [List.getD_eq_getElem?_getD, hy]; rfl
    rw [← HF.out, ← e9]
    rfl)
   clear hy q1
   go_wp2_with fail
   refine (top1_any (kw.grows hB) (iw.grows hB) (hiy.grows hB).ints (hix.grows hB).ints hlw (by omega) (by omega)).mono ?_
   by_cases h1 : mapsF want.m y x < 0
   ·have HE : Hid (minUp want.m ms (n + 1) = y) := Lib.hid (by rw [HS.out, if_pos (.inr h1)])
    have d3 : decide (mapsF want.m y x < 0) = true := by simpa using h1
    clear h1 HS
    generalize mapsF want.m y x = z at *
    rintro e w9 ⟨rfl, hq⟩
    replace q2 := (hq.cell (p := ad.add n) (by rw [block_of_add]; exact Nat.lt_of_lt_of_le had hB.size)).trans q2
    replace hB := below_grows hB (Nat.le_refl _) hq
    clear hq
    go_wp2
    go_roundw
    case rel => exact ⟨n + 1, y, B2, cy, by omega, by omega, by go_num, rfl, HE, hyl, hcy, hiy, hB⟩
    case measure => simp [intOf]; omega
   ·have HE : Hid (minUp want.m ms (n + 1) = x) := Lib.hid (by rw [HS.out, if_neg (fun h => h.elim (by omega) h1)])
    have d3 : decide (mapsF want.m y x < 0) = false := by simpa using h1
    clear h1 HS
    generalize mapsF want.m y x = z at *
    rintro e w9 ⟨rfl, hq⟩
    replace hB := below_grows hB (Nat.le_refl _) hq
    clear hq
    go_wp2
    go_roundw
    case rel => exact ⟨n + 1, x, B, cx, by omega, by omega, by go_num, rfl, HE, hxl, hcx, hix, hB⟩
    case measure => simp [intOf]; omega
  ·obtain rfl : n = ms.length := by omega
   go_wp2
   go_ret
   rw [HF.out]
   exact ⟨⟨B, cx, rfl, hcx, hix, hxl⟩, hB⟩
end Go.Proofs.YtjbkjgmcfommgaaGreat

namespace Go.Proofs.YtjbkjgmcfommgaaGreat
open Go.RowKit
set_option maxHeartbeats 16000000 in
theorem ptop_any {A1 A2 A3 I : Option Addr} {c1 c2 c3 ci : Nat} {base : Nat → Prop} {b : Bx} {want : Ch} {w : World} (hp : BoxP w base b A1 c1 A2 c2 A3 c3) (hl : OKB b) (hk : I64 b.k) (hf : fineB b = true) (iw : Ints w I want.m) (hw : OKC want) :
 Calls Tryz.prog 67 #[.agg #[.int .i64 b.k, .slice A1 b.r.length c1, .slice A2 b.m.length c2, .slice A3 b.s.length c3], .agg #[.int .i64 want.k, .int .i64 want.r, .slice I want.m.length ci, .int .i64 want.s]] w fun e w' => (∃ v, e = .returned v ∧ ChV w' (Ge w.heap.size) (topP want b) v) ∧ Grows w w' := by
 obtain ⟨hlr, hls, hlm, hlx⟩ := hl
 obtain ⟨hwr, hws, hwm⟩ := hw
 have HLM := Lib.hid hlx
 clear hlx
 have hm0 : 0 < b.m.length := by
  unfold fineB mapsOk at hf
  simp only [Bool.and_eq_true, decide_eq_true_eq] at hf
  omega
 have hkr := kinds_range hk (by unfold fineB at hf; simp only [Bool.and_eq_true] at hf; exact hf.1.1.1)
 have hu : IntKind.u64.wrap b.k = b.k := IntWalk.u64_in _ (by omega)
 have HU := Lib.hid hu
 clear hf hk
 have k2 := (((Blk.new w 61 #[.int .i64 b.k, .slice A1 b.r.length c1, .slice A2 b.m.length c2, .slice A3 b.s.length c3]).alloc (Obj.cells #[.int .i64 want.k, .int .i64 want.r, .slice I want.m.length ci, .int .i64 want.s] 42)).alloc (Obj.cells #[.int .i64 0, .int .i64 0, .slice none 0 0, .int .i64 0] 42))
 have k3 := ((Blk.new (w.alloc (Obj.cells #[.int .i64 b.k, .slice A1 b.r.length c1, .slice A2 b.m.length c2, .slice A3 b.s.length c3] 61)) 42 #[.int .i64 want.k, .int .i64 want.r, .slice I want.m.length ci, .int .i64 want.s]).alloc (Obj.cells #[.int .i64 0, .int .i64 0, .slice none 0 0, .int .i64 0] 42))
 have k4 := (Blk.new ((w.alloc (Obj.cells #[.int .i64 b.k, .slice A1 b.r.length c1, .slice A2 b.m.length c2, .slice A3 b.s.length c3] 61)).alloc (Obj.cells #[.int .i64 want.k, .int .i64 want.r, .slice I want.m.length ci, .int .i64 want.s] 42)) 42 #[.int .i64 0, .int .i64 0, .slice none 0 0, .int .i64 0])
 have hB := ((((Below.refl w.heap.size w).alloc (Nat.le_refl _) (Obj.cells #[.int .i64 b.k, .slice A1 b.r.length c1, .slice A2 b.m.length c2, .slice A3 b.s.length c3] 61)).alloc (by simp) (Obj.cells #[.int .i64 want.k, .int .i64 want.r, .slice I want.m.length ci, .int .i64 want.s] 42)).alloc (by simp; omega) (Obj.cells #[.int .i64 0, .int .i64 0, .slice none 0 0, .int .i64 0] 42))
 go_enter Tryz.func67, Tryz.ntmps67
 go_upto_region 1 with fail
 have hs1 : (w.alloc (Obj.cells #[.int .i64 b.k, .slice A1 b.r.length c1, .slice A2 b.m.length c2, .slice A3 b.s.length c3] 61)).heap.size = w.heap.size + 1 := by simp
 rw [hs1] at k3
 have hs2 : ((w.alloc (Obj.cells #[.int .i64 b.k, .slice A1 b.r.length c1, .slice A2 b.m.length c2, .slice A3 b.s.length c3] 61)).alloc (Obj.cells #[.int .i64 want.k, .int .i64 want.r, .slice I want.m.length ci, .int .i64 want.s] 42)).heap.size = w.heap.size + 1 + 1 := by simp
 rw [hs2] at k4
 clear hs1 hs2
 generalize World.alloc (World.alloc (World.alloc w _) _) _ = w3 at *
 generalize hG1 : w.heap.size + 1 = G1 at *
 have HG1 := Lib.hid hG1
 clear hG1
 generalize hG2 : G1 + 1 = G2 at *
 have HG2 := Lib.hid hG2
 clear hG2
 have l2 : w.heap.size ≤ G2 := by have h1 := HG1.out; have h2 := HG2.out; omega
 have e03 : w.heap.size ≠ w3.heap.size := Nat.ne_of_lt k2.lt
 have e13 : G1 ≠ w3.heap.size := Nat.ne_of_lt k3.lt
 have e23 : G2 ≠ w3.heap.size := Nat.ne_of_lt k4.lt
 have e23l : G2 < w3.heap.size := k4.lt
 have l3 : w.heap.size ≤ w3.heap.size := hB.size
 have x3 := k3.cell
 have k5 := Blk.new w3 42 #[.int .i64 want.k, .int .i64 0, .slice none 0 0, .int .i64 0]
 have hq := (Below.refl w3.heap.size w3).alloc (Nat.le_refl _) (Obj.cells #[.int .i64 want.k, .int .i64 0, .slice none 0 0, .int .i64 0] 42)
 go_upto_region 2 with fail
 replace hB := below_grows hB (Nat.le_refl _) hq
 replace k2 := k2.grows hq
 replace k3 := k3.grows hq
 replace k4 := k4.grows hq
 clear hq x3
 generalize World.alloc w3 _ = w4 at *
 generalize w3.heap.size = G3 at *
 have x2 := k2.cell
 have x5 := k5.cell
 go_wp2_with fail
 refine (pkind_any b.k want.k A1 A2 A3 b.r.length c1 b.m.length c2 b.s.length c3 _).mono ?_
 cases hv : kindB b.k want.k
 ·have HK : Hid (topK want.k b.k = (Lib.bitLen b.k.toNat : Int) - 1) := Lib.hid (by unfold topK; rw [hv]; rfl)
  clear hv
  rintro e w5 ⟨rfl, hq⟩
  replace hB := below_grows hB (Nat.le_refl _) hq
  replace k2 := k2.grows hq
  replace k3 := k3.grows hq
  replace k4 := k4.grows hq
  replace k5 := k5.grows hq
  clear hq x2 x5
  have x2 := k2.cell
  have hu := HU.out
  go_wp2_with fail
  refine (len_any b.k _ (by omega) (by omega)).mono ?_
  have h8 := Lib.bitLen_le8' b.k (by omega) (by omega)
  generalize Lib.bitLen b.k.toNat = L at *
  have hwl : IntKind.i64.wrap ((L : Int) - 1) = (L : Int) - 1 := IntWalk.i64_in _ (by omega)
  rintro e w6 ⟨rfl, hq⟩
  replace hB := below_grows hB (Nat.le_refl _) hq
  replace k2 := k2.grows hq
  replace k3 := k3.grows hq
  replace k4 := k4.grows hq
  replace k5 := k5.grows hq
  clear hq x2 hu
  have hf5 := k5.frozen
  have y5 := k5.cell
  replace k2 := k2.far (p := ⟨G3, 0, none⟩) e03 (.int .i64 ((L : Int) - 1))
  replace k3 := k3.far (p := ⟨G3, 0, none⟩) e13 (.int .i64 ((L : Int) - 1))
  replace k4 := k4.far (p := ⟨G3, 0, none⟩) e23 (.int .i64 ((L : Int) - 1))
  replace k5 := k5.set_ 0 (.int .i64 ((L : Int) - 1))
  replace hB := hB.setCell (p := ⟨G3, 0, none⟩) l3 (.int .i64 ((L : Int) - 1))
  have x2 := k2.cell
  have x3 := k3.cell
  have x5 := k5.cell
  go_wp2_with fail
  refine (near_any A1 c1 b.r want.r _ (hp.r.grows hB).sps (by omega) hwr).mono ?_
  generalize hnpr : nearF b.r want.r = pr at *
  have HNpr := Lib.hid hnpr
  clear hnpr
  rintro e w7 ⟨rfl, hq⟩
  replace hB := below_grows hB (Nat.le_refl _) hq
  replace k2 := k2.grows hq
  replace k3 := k3.grows hq
  replace k4 := k4.grows hq
  replace k5 := k5.grows hq
  clear hq x2 x3 x5
  have hf5 := k5.frozen
  have y5 := k5.cell
  replace k2 := k2.far (p := ⟨G3, 1, none⟩) e03 (.int .i64 pr.1)
  replace k3 := k3.far (p := ⟨G3, 1, none⟩) e13 (.int .i64 pr.1)
  replace k4 := k4.far (p := ⟨G3, 1, none⟩) e23 (.int .i64 pr.1)
  replace k5 := k5.set_ 1 (.int .i64 pr.1)
  replace hB := hB.setCell (p := ⟨G3, 1, none⟩) l3 (.int .i64 pr.1)
  have x2 := k2.cell
  have x3 := k3.cell
  have x5 := k5.cell
  go_wp2_with fail
  refine (near_any A3 c3 b.s want.s _ (hp.s.grows hB).sps (by omega) hws).mono ?_
  generalize hnps : nearF b.s want.s = ps at *
  have HNps := Lib.hid hnps
  clear hnps
  rintro e w8 ⟨rfl, hq⟩
  replace hB := below_grows hB (Nat.le_refl _) hq
  replace k2 := k2.grows hq
  replace k3 := k3.grows hq
  replace k4 := k4.grows hq
  replace k5 := k5.grows hq
  clear hq x2 x3 x5 hf5 y5
  have hf5 := k5.frozen
  have y5 := k5.cell
  replace k2 := k2.far (p := ⟨G3, 3, none⟩) e03 (.int .i64 ps.1)
  replace k3 := k3.far (p := ⟨G3, 3, none⟩) e13 (.int .i64 ps.1)
  replace k4 := k4.far (p := ⟨G3, 3, none⟩) e23 (.int .i64 ps.1)
  replace k5 := k5.set_ 3 (.int .i64 ps.1)
  replace hB := hB.setCell (p := ⟨G3, 3, none⟩) l3 (.int .i64 ps.1)
  have x2 := k2.cell
  have x3 := k3.cell
  have x5 := k5.cell
  go_wp2_with fail
  refine (minfunc_any k3 (iw.grows hB) (hp.m.grows hB) hm0 hlm hwm HLM.out).mono ?_
  generalize hnm : minUp want.m b.m b.m.length = mm at *
  have HNM := Lib.hid hnm
  clear hnm
  rintro e w9 ⟨⟨B, cx, rfl, hcx, hix, hml⟩, hq⟩
  replace hB := below_grows hB (Nat.le_refl _) hq
  replace k2 := k2.grows hq
  replace k3 := k3.grows hq
  replace k4 := k4.grows hq
  replace k5 := k5.grows hq
  replace hix := hix.grows hq
  clear hq x2 x3 x5 hf5 y5
  have hlo := k5.lt
  go_wp2_with fail
  refine (iclone_any B cx mm _ hix.ints hml).mono ?_
  have hlo2 : w.heap.size ≤ w9.heap.size := hB.size
  have hg9 : ∀ u : World, Grows w9 u → Grows w9 u := fun _ h => h
  clear hg9
  rintro e w10 ⟨⟨v, rfl, hov⟩, hq⟩
  replace hB := below_grows hB (Nat.le_refl _) hq
  replace k2 := k2.grows hq
  replace k3 := k3.grows hq
  replace k4 := k4.grows hq
  replace k5 := k5.grows hq
  clear hq hix hcx
  obtain ⟨B2, cy, rfl, hcy, hiy⟩ := InB.of_own hov
  clear hov
  have hf5 := k5.frozen
  have y5 := k5.cell
  replace hiy := RdB.grown hiy (d_only_set (World.grownBy.refl _ (some G3)) 2 (.slice B2 mm.length cy)) (fun g e => by injection e with e; unfold Ge; omega)
  replace k2 := k2.far (p := ⟨G3, 2, none⟩) e03 (.slice B2 mm.length cy)
  replace k3 := k3.far (p := ⟨G3, 2, none⟩) e13 (.slice B2 mm.length cy)
  replace k4 := k4.far (p := ⟨G3, 2, none⟩) e23 (.slice B2 mm.length cy)
  replace k5 := k5.set_ 2 (.slice B2 mm.length cy)
  replace hB := hB.setCell (p := ⟨G3, 2, none⟩) l3 (.slice B2 mm.length cy)
  have x5 := k5.cell
  have x4 := k4.cell
  have hf4 := k4.frozen
  have y4 := ((((k4.set_ 0 (.int .i64 ((L : Int) - 1))).set_ 1 (.int .i64 pr.1)).set_ 2 (.slice B2 mm.length cy)).set_ 3 (.int .i64 ps.1))
  have yB := ((((hB.setCell (p := ⟨G2, 0, none⟩) l2 (.int .i64 ((L : Int) - 1))).setCell (p := ⟨G2, 1, none⟩) l2 (.int .i64 pr.1)).setCell (p := ⟨G2, 2, none⟩) l2 (.slice B2 mm.length cy)).setCell (p := ⟨G2, 3, none⟩) l2 (.int .i64 ps.1))
  have yI := RdB.mono (RdB.grown hiy (d_only_set (d_only_set (d_only_set (d_only_set (World.grownBy.refl _ (some G2)) 0 (.int .i64 ((L : Int) - 1))) 1 (.int .i64 pr.1)) 2 (.slice B2 mm.length cy)) 3 (.int .i64 ps.1)) (fun g e => by injection e with e; unfold Ge; omega)) (fun k hk => Nat.le_trans hlo2 hk)
  have HE : Hid (topP want b = ⟨((L : Int) - 1), pr.1, mm, ps.1⟩) := Lib.hid (by unfold topP; rw [HK.out, HNpr.out, HNps.out, HNM.out])
  have y6 := y4.cell
  clear k2 k3 k4 k5 hiy
  go_wp2
  refine bodyPost_ret (v := .agg #[.int .i64 ((L : Int) - 1), .int .i64 pr.1, .slice B2 mm.length cy, .int .i64 ps.1]) (by simp [results, Tryz.results67, go_sem, y6]) rfl ⟨?_, yB⟩
  rw [HE.out]
  exact ⟨_, rfl, B2, cy, rfl, hcy, yI⟩
 ·have HK : Hid (topK want.k b.k = want.k) := Lib.hid (by unfold topK; rw [hv]; rfl)
  clear hv
  rintro e w5 ⟨rfl, hq⟩
  replace hB := below_grows hB (Nat.le_refl _) hq
  replace k2 := k2.grows hq
  replace k3 := k3.grows hq
  replace k4 := k4.grows hq
  replace k5 := k5.grows hq
  clear hq x2 x5
  have x2 := k2.cell
  have x3 := k3.cell
  have x5 := k5.cell
  go_wp2_with fail
  refine (near_any A1 c1 b.r want.r _ (hp.r.grows hB).sps (by omega) hwr).mono ?_
  generalize hnpr : nearF b.r want.r = pr at *
  have HNpr := Lib.hid hnpr
  clear hnpr
  rintro e w7 ⟨rfl, hq⟩
  replace hB := below_grows hB (Nat.le_refl _) hq
  replace k2 := k2.grows hq
  replace k3 := k3.grows hq
  replace k4 := k4.grows hq
  replace k5 := k5.grows hq
  clear hq x2 x3 x5
  have hf5 := k5.frozen
  have y5 := k5.cell
  replace k2 := k2.far (p := ⟨G3, 1, none⟩) e03 (.int .i64 pr.1)
  replace k3 := k3.far (p := ⟨G3, 1, none⟩) e13 (.int .i64 pr.1)
  replace k4 := k4.far (p := ⟨G3, 1, none⟩) e23 (.int .i64 pr.1)
  replace k5 := k5.set_ 1 (.int .i64 pr.1)
  replace hB := hB.setCell (p := ⟨G3, 1, none⟩) l3 (.int .i64 pr.1)
  have x2 := k2.cell
  have x3 := k3.cell
  have x5 := k5.cell
  go_wp2_with fail
  refine (near_any A3 c3 b.s want.s _ (hp.s.grows hB).sps (by omega) hws).mono ?_
  generalize hnps : nearF b.s want.s = ps at *
  have HNps := Lib.hid hnps
  clear hnps
  rintro e w8 ⟨rfl, hq⟩
  replace hB := below_grows hB (Nat.le_refl _) hq
  replace k2 := k2.grows hq
  replace k3 := k3.grows hq
  replace k4 := k4.grows hq
  replace k5 := k5.grows hq
  clear hq x2 x3 x5 hf5 y5
  have hf5 := k5.frozen
  have y5 := k5.cell
  replace k2 := k2.far (p := ⟨G3, 3, none⟩) e03 (.int .i64 ps.1)
  replace k3 := k3.far (p := ⟨G3, 3, none⟩) e13 (.int .i64 ps.1)
  replace k4 := k4.far (p := ⟨G3, 3, none⟩) e23 (.int .i64 ps.1)
  replace k5 := k5.set_ 3 (.int .i64 ps.1)
  replace hB := hB.setCell (p := ⟨G3, 3, none⟩) l3 (.int .i64 ps.1)
  have x2 := k2.cell
  have x3 := k3.cell
  have x5 := k5.cell
  go_wp2_with fail
  refine (minfunc_any k3 (iw.grows hB) (hp.m.grows hB) hm0 hlm hwm HLM.out).mono ?_
  generalize hnm : minUp want.m b.m b.m.length = mm at *
  have HNM := Lib.hid hnm
  clear hnm
  rintro e w9 ⟨⟨B, cx, rfl, hcx, hix, hml⟩, hq⟩
  replace hB := below_grows hB (Nat.le_refl _) hq
  replace k2 := k2.grows hq
  replace k3 := k3.grows hq
  replace k4 := k4.grows hq
  replace k5 := k5.grows hq
  replace hix := hix.grows hq
  clear hq x2 x3 x5 hf5 y5
  have hlo := k5.lt
  go_wp2_with fail
  refine (iclone_any B cx mm _ hix.ints hml).mono ?_
  have hlo2 : w.heap.size ≤ w9.heap.size := hB.size
  have hg9 : ∀ u : World, Grows w9 u → Grows w9 u := fun _ h => h
  clear hg9
  rintro e w10 ⟨⟨v, rfl, hov⟩, hq⟩
  replace hB := below_grows hB (Nat.le_refl _) hq
  replace k2 := k2.grows hq
  replace k3 := k3.grows hq
  replace k4 := k4.grows hq
  replace k5 := k5.grows hq
  clear hq hix hcx
  obtain ⟨B2, cy, rfl, hcy, hiy⟩ := InB.of_own hov
  clear hov
  have hf5 := k5.frozen
  have y5 := k5.cell
  replace hiy := RdB.grown hiy (d_only_set (World.grownBy.refl _ (some G3)) 2 (.slice B2 mm.length cy)) (fun g e => by injection e with e; unfold Ge; omega)
  replace k2 := k2.far (p := ⟨G3, 2, none⟩) e03 (.slice B2 mm.length cy)
  replace k3 := k3.far (p := ⟨G3, 2, none⟩) e13 (.slice B2 mm.length cy)
  replace k4 := k4.far (p := ⟨G3, 2, none⟩) e23 (.slice B2 mm.length cy)
  replace k5 := k5.set_ 2 (.slice B2 mm.length cy)
  replace hB := hB.setCell (p := ⟨G3, 2, none⟩) l3 (.slice B2 mm.length cy)
  have x5 := k5.cell
  have x4 := k4.cell
  have hf4 := k4.frozen
  have y4 := ((((k4.set_ 0 (.int .i64 want.k)).set_ 1 (.int .i64 pr.1)).set_ 2 (.slice B2 mm.length cy)).set_ 3 (.int .i64 ps.1))
  have yB := ((((hB.setCell (p := ⟨G2, 0, none⟩) l2 (.int .i64 want.k)).setCell (p := ⟨G2, 1, none⟩) l2 (.int .i64 pr.1)).setCell (p := ⟨G2, 2, none⟩) l2 (.slice B2 mm.length cy)).setCell (p := ⟨G2, 3, none⟩) l2 (.int .i64 ps.1))
  have yI := RdB.mono (RdB.grown hiy (d_only_set (d_only_set (d_only_set (d_only_set (World.grownBy.refl _ (some G2)) 0 (.int .i64 want.k)) 1 (.int .i64 pr.1)) 2 (.slice B2 mm.length cy)) 3 (.int .i64 ps.1)) (fun g e => by injection e with e; unfold Ge; omega)) (fun k hk => Nat.le_trans hlo2 hk)
  have HE : Hid (topP want b = ⟨want.k, pr.1, mm, ps.1⟩) := Lib.hid (by unfold topP; rw [HK.out, HNpr.out, HNps.out, HNM.out])
  have y6 := y4.cell
  clear k2 k3 k4 k5 hiy
  go_wp2
  refine bodyPost_ret (v := .agg #[.int .i64 want.k, .int .i64 pr.1, .slice B2 mm.length cy, .int .i64 ps.1]) (by simp [results, Tryz.results67, go_sem, y6]) rfl ⟨?_, yB⟩
  rw [HE.out]
  exact ⟨_, rfl, B2, cy, rfl, hcy, yI⟩
end Go.Proofs.YtjbkjgmcfommgaaGreat

namespace Go.Proofs.YtjbkjgmcfommgaaGreat
open Go.RowKit
theorem near_i64 (l : List Sp) (n : Int) : I64 (nearF l n).1 := by
 have := near_bd n (spansF l) (spansF_fine l)
 unfold I64 nearF
 omega
theorem minUp_len (want : List Int) (ms : List (List Int)) (h : ∀ x ∈ ms, x.length ≤ 1000000) (n : Nat) : (minUp want ms n).length ≤ 1000000 := by
 have hg : ∀ k, (ms.getD k []).length ≤ 1000000 := fun k => by
  rw [List.getD_eq_getElem?_getD]
  cases e : ms[k]? with
  | none => simp
  | some x => exact h x (List.mem_of_getElem? e)
 induction n with
 | zero => simp [minUp]
 | succ n ih =>
  unfold minUp
  split
  ·exact hg n
  ·exact ih
theorem okc_bestR {want : Ch} {b : Bx} (h : OKB b) : OKC (bestR want b) := ⟨near_i64 _ _, near_i64 _ _, minUp_len _ _ h.2.2.2 _⟩
theorem okc_topP {want : Ch} {b : Bx} (h : OKB b) : OKC (topP want b) := ⟨near_i64 _ _, near_i64 _ _, minUp_len _ _ h.2.2.2 _⟩
def zeroC : Ch := ⟨0, 0, [], 0⟩
theorem okc_zero : OKC zeroC := ⟨by unfold I64 zeroC; decide, by unfold I64 zeroC; decide, by simp [zeroC]⟩
def bestStep (f : Bx → Ch) (want : Ch) (s : Ch × Bool) (b : Bx) : Ch × Bool := if s.2 = false ∨ cmpF want (f b) s.1 < 0 then (f b, true) else s
def bestL (f : Bx → Ch) (want : Ch) (l : List Bx) : Ch × Bool := (boxesF l).foldl (bestStep f want) (zeroC, false)
theorem boxes_ok {l : List Bx} (h : ∀ b ∈ l, OKB b) : ∀ b ∈ boxesF l, OKB b := by
 unfold boxesF
 split
 ·exact h
 ·simp
theorem boxes_mem {l : List Bx} {b : Bx} (h : b ∈ boxesF l) : b ∈ l ∧ fineB b = true := by
 unfold boxesF at h
 split at h
 ·rename_i hv
  refine ⟨h, ?_⟩
  unfold validL at hv
  simp only [Bool.and_eq_true, List.all_eq_true] at hv
  exact hv.2 b h
 ·simp at h
theorem boxes_len (l : List Bx) : (boxesF l).length ≤ 64 := by
 unfold boxesF
 split
 ·rename_i hv
  unfold validL at hv
  simp only [Bool.and_eq_true, decide_eq_true_eq] at hv
  exact hv.1
 ·simp
set_option maxHeartbeats 16000000 in
theorem rbestl_any {base : Nat → Prop} {A I : Option Addr} {c ci : Nat} {l : List Bx} {want : Ch} {w : World} (h : Bxs w base A l) (hl : l.length ≤ 1000000) (hc : l.length ≤ c) (ho : ∀ b ∈ l, OKB b) (iw : Ints w I want.m) (hw : OKC want) :
 Calls Tryz.prog 37 #[.slice A l.length c, .agg #[.int .i64 want.k, .int .i64 want.r, .slice I want.m.length ci, .int .i64 want.s]] w fun e w' => (∃ v, e = .returned (.tuple #[v, .bool (bestL (bestR want) want l).2]) ∧ ChV w' (Bd base w.heap.size) (bestL (bestR want) want l).1 v) ∧ Grows w w' := by
 have HO := Lib.hid ho
 clear ho
 have k3 := (((Blk.new w 42 #[.int .i64 want.k, .int .i64 want.r, .slice I want.m.length ci, .int .i64 want.s]).alloc (Obj.cells #[.int .i64 0, .int .i64 0, .slice none 0 0, .int .i64 0] 42)).alloc (Obj.cells #[.int .i64 0, .int .i64 0, .slice none 0 0, .int .i64 0] 42))
 have k4 := ((Blk.new (w.alloc (Obj.cells #[.int .i64 want.k, .int .i64 want.r, .slice I want.m.length ci, .int .i64 want.s] 42)) 42 #[.int .i64 0, .int .i64 0, .slice none 0 0, .int .i64 0]).alloc (Obj.cells #[.int .i64 0, .int .i64 0, .slice none 0 0, .int .i64 0] 42))
 have k6 := (Blk.new ((w.alloc (Obj.cells #[.int .i64 want.k, .int .i64 want.r, .slice I want.m.length ci, .int .i64 want.s] 42)).alloc (Obj.cells #[.int .i64 0, .int .i64 0, .slice none 0 0, .int .i64 0] 42)) 42 #[.int .i64 0, .int .i64 0, .slice none 0 0, .int .i64 0])
 have hB := ((((Below.refl w.heap.size w).alloc (Nat.le_refl _) (Obj.cells #[.int .i64 want.k, .int .i64 want.r, .slice I want.m.length ci, .int .i64 want.s] 42)).alloc (by simp) (Obj.cells #[.int .i64 0, .int .i64 0, .slice none 0 0, .int .i64 0] 42)).alloc (by simp; omega) (Obj.cells #[.int .i64 0, .int .i64 0, .slice none 0 0, .int .i64 0] 42))
 go_enter Tryz.func37, Tryz.ntmps37
 go_upto_region 3 with fail
 have hs1 : (w.alloc (Obj.cells #[.int .i64 want.k, .int .i64 want.r, .slice I want.m.length ci, .int .i64 want.s] 42)).heap.size = w.heap.size + 1 := by simp
 rw [hs1] at k4
 have hs2 : ((w.alloc (Obj.cells #[.int .i64 want.k, .int .i64 want.r, .slice I want.m.length ci, .int .i64 want.s] 42)).alloc (Obj.cells #[.int .i64 0, .int .i64 0, .slice none 0 0, .int .i64 0] 42)).heap.size = w.heap.size + 1 + 1 := by simp
 rw [hs2] at k6
 clear hs1 hs2
 generalize World.alloc (World.alloc (World.alloc w _) _) _ = w3 at *
 generalize hG1 : w.heap.size + 1 = G1 at *
 have HG1 := Lib.hid hG1
 clear hG1
 generalize hG2 : G1 + 1 = G2 at *
 have HG2 := Lib.hid hG2
 clear hG2
 have l1 : w.heap.size ≤ G1 := by have h1 := HG1.out; omega
 have l2 : w.heap.size ≤ G2 := by have h1 := HG1.out; have h2 := HG2.out; omega
 have e02 : w.heap.size ≠ G2 := by have h1 := HG1.out; have h2 := HG2.out; omega
 have e12 : G1 ≠ G2 := by have h2 := HG2.out; omega
 have e12l : G1 < G2 := by have h2 := HG2.out; omega
 go_wp2_with fail
 refine (rlist_any A c (Bd base w.heap.size) l _ (h.bd.grows hB) hl HO.out hc).mono ?_
 have HBL : Hid (bestL (bestR want) want l = (boxesF l).foldl (bestStep (bestR want) want) (zeroC, false)) := Lib.hid rfl
 have HOB := Lib.hid (boxes_ok HO.out)
 have HMB : Hid (∀ b ∈ boxesF l, b ∈ boxesF l) := Lib.hid fun _ h => h
 have hbl := boxes_len l
 generalize hls : boxesF l = bl at *
 have HLS := Lib.hid hls
 clear hls
 rintro e w4 ⟨⟨A4, c4, rfl, hc4, hbx3⟩, hq⟩
 have hbx := Bxs.backU hbx3 (fun _ h => h.2) hB (Nat.le_refl _)
 replace hB := below_grows hB (Nat.le_refl _) hq
 replace k3 := k3.grows hq
 replace k4 := k4.grows hq
 replace k6 := k6.grows hq
 clear hbx3 hq
 have HB4 := Lib.hid hB
 clear hB
 go_wp2_with fail
 go_loopw [7, 14] (fun q i wr => ∃ (n : Nat) (sc : Ch) (sb : Bool) (B : Option Addr) (cx : Nat), n ≤ bl.length ∧ i = .int .i64 n ∧ q = .bool sb ∧ Hid ((bl.take n).foldl (bestStep (bestR want) want) (zeroC, false) = (sc, sb)) ∧ Hid (OKC sc) ∧ sc.m.length ≤ cx ∧ InB w (Bd base w.heap.size) B sc.m ∧ Blk wr w.heap.size 42 #[.int .i64 want.k, .int .i64 want.r, .slice I want.m.length ci, .int .i64 want.s] ∧ Blk wr G1 42 #[.int .i64 0, .int .i64 0, .slice none 0 0, .int .i64 0] ∧ Blk wr G2 42 #[.int .i64 sc.k, .int .i64 sc.r, .slice B sc.m.length cx, .int .i64 sc.s] ∧ Below w.heap.size w wr) (fun _ i _ => bl.length - (intOf i).toNat)
 case atStart => exact ⟨0, zeroC, false, none, 0, by omega, rfl, rfl, Lib.hid rfl, Lib.hid okc_zero, by simp [zeroC], RdB.nil, k3, k4, k6, HB4.out⟩
 case round =>
  clear k3 k4 k6
  obtain ⟨n, sc, sb, B, cx, hn, rfl, rfl, HF, HSC, hcx, hix, k3, k4, k6, hB⟩ := hrel
  by_cases hlt : n < bl.length
  ·obtain ⟨ad, b, A1, c1, A2, c2, A3, c3, e1, had, hx, hp, q0, q1, q2, q3⟩ := (hbx.grows hB).elem hlt
   subst e1
   have HM := Lib.hid (HMB.out b (List.mem_of_getElem? hx))
   have HOb := Lib.hid (HOB.out b (List.mem_of_getElem? hx))
   have HS : Hid ((bl.take (n + 1)).foldl (bestStep (bestR want) want) (zeroC, false) = bestStep (bestR want) want (sc, sb) b) := Lib.hid (by rw [take_snoc hx, List.foldl_append, HF.out]; rfl)
   clear hx HF
   have k9 := Blk.new wr 61 #[.int .i64 b.k, .slice A1 b.r.length c1, .slice A2 b.m.length c2, .slice A3 b.s.length c3]
   have hq := (Below.refl wr.heap.size wr).alloc (Nat.le_refl _) (Obj.cells #[.int .i64 b.k, .slice A1 b.r.length c1, .slice A2 b.m.length c2, .slice A3 b.s.length c3] 61)
   go_upto_region 6 with fail
   replace hB := below_grows hB (Nat.le_refl _) hq
   replace k3 := k3.grows hq
   replace k4 := k4.grows hq
   replace k6 := k6.grows hq
   replace hp := hp.grows hq
   clear hq q0 q1 q2 q3
   generalize World.alloc wr _ = w5 at *
   generalize wr.heap.size = G9 at *
   have x9 := k9.cell
   have x3 := k3.cell
   have hlt5 := k6.lt
   go_wp2_with fail
   refine (rbest_any hp HOb.out (iw.grows hB) hw).mono ?_
   have HOC : Hid (OKC (bestR want b)) := Lib.hid (okc_bestR HOb.out)
   generalize hcc : bestR want b = cc at *
   have HCC := Lib.hid hcc
   clear hcc
   rintro e w6 ⟨⟨v, rfl, hcv⟩, hq⟩
   replace hB := below_grows hB (Nat.le_refl _) hq
   replace k3 := k3.grows hq
   replace k4 := k4.grows hq
   replace k6 := k6.grows hq
   clear hq x9 x3 k9 hp
   obtain ⟨B2, cy, rfl, hcy, hic⟩ := hcv
   replace hic : InB w (Bd base w.heap.size) B2 cc.m := RdB.backU hic (fun _ h => h.2) hB (Nat.le_refl _)
   have k10 := Blk.new w6 42 #[.int .i64 cc.k, .int .i64 cc.r, .slice B2 cc.m.length cy, .int .i64 cc.s]
   have hq := (Below.refl w6.heap.size w6).alloc (Nat.le_refl _) (Obj.cells #[.int .i64 cc.k, .int .i64 cc.r, .slice B2 cc.m.length cy, .int .i64 cc.s] 42)
   go_upto_region 7 with fail
   replace hB := below_grows hB (Nat.le_refl _) hq
   replace k3 := k3.grows hq
   replace k4 := k4.grows hq
   replace k6 := k6.grows hq
   clear hq
   generalize World.alloc w6 _ = w7 at *
   generalize w6.heap.size = G10 at *
   cases sb
   ·have HE : Hid ((bl.take (n + 1)).foldl (bestStep (bestR want) want) (zeroC, false) = (cc, true)) := Lib.hid (by rw [HS.out]; unfold bestStep; rw [if_pos (.inl rfl), HCC.out])
    clear HS HSC hix hcx
    have xc := k10.cell
    have x6 := k6.cell
    have hf6 := k6.frozen
    have y6 := ((((k6.set_ 0 (.int .i64 cc.k)).set_ 1 (.int .i64 cc.r)).set_ 2 (.slice B2 cc.m.length cy)).set_ 3 (.int .i64 cc.s))
    have yB := ((((hB.setCell (p := ⟨G2, 0, none⟩) l2 (.int .i64 cc.k)).setCell (p := ⟨G2, 1, none⟩) l2 (.int .i64 cc.r)).setCell (p := ⟨G2, 2, none⟩) l2 (.slice B2 cc.m.length cy)).setCell (p := ⟨G2, 3, none⟩) l2 (.int .i64 cc.s))
    have y3 := ((((k3.far (p := ⟨G2, 0, none⟩) e02 (.int .i64 cc.k)).far (p := ⟨G2, 1, none⟩) e02 (.int .i64 cc.r)).far (p := ⟨G2, 2, none⟩) e02 (.slice B2 cc.m.length cy)).far (p := ⟨G2, 3, none⟩) e02 (.int .i64 cc.s))
    have y4 := ((((k4.far (p := ⟨G2, 0, none⟩) e12 (.int .i64 cc.k)).far (p := ⟨G2, 1, none⟩) e12 (.int .i64 cc.r)).far (p := ⟨G2, 2, none⟩) e12 (.slice B2 cc.m.length cy)).far (p := ⟨G2, 3, none⟩) e12 (.int .i64 cc.s))
    go_wp2
    go_roundw
    case rel => exact ⟨n + 1, cc, true, B2, cy, by omega, by go_num, rfl, HE, HOC, hcy, hic, y3, y4, y6, yB⟩
    case measure => simp [intOf]; omega
   have x3 := k3.cell
   have xc := k10.cell
   have x6 := k6.cell
   go_wp2_with fail
   refine (rcompare_any I B2 B ci cy cx want cc sc _ (iw.grows hB) (hic.grows hB).ints (hix.grows hB).ints hw HOC.out HSC.out).mono ?_
   by_cases h1 : cmpF want cc sc < 0
   ·have HE : Hid ((bl.take (n + 1)).foldl (bestStep (bestR want) want) (zeroC, false) = (cc, true)) := Lib.hid (by rw [HS.out]; unfold bestStep; rw [HCC.out, if_pos (.inr h1)])
    have d3 : decide (cmpF want cc sc < 0) = true := by simpa using h1
    clear h1 HS HSC hcx
    generalize cmpF want cc sc = z at *
    rintro e w8 ⟨rfl, hq⟩
    replace hB := below_grows hB (Nat.le_refl _) hq
    replace k3 := k3.grows hq
    replace k4 := k4.grows hq
    replace k6 := k6.grows hq
    replace k10 := k10.grows hq
    clear hq x3 xc x6 hix
    have xc := k10.cell
    have x6 := k6.cell
    have hf6 := k6.frozen
    have y6 := ((((k6.set_ 0 (.int .i64 cc.k)).set_ 1 (.int .i64 cc.r)).set_ 2 (.slice B2 cc.m.length cy)).set_ 3 (.int .i64 cc.s))
    have yB := ((((hB.setCell (p := ⟨G2, 0, none⟩) l2 (.int .i64 cc.k)).setCell (p := ⟨G2, 1, none⟩) l2 (.int .i64 cc.r)).setCell (p := ⟨G2, 2, none⟩) l2 (.slice B2 cc.m.length cy)).setCell (p := ⟨G2, 3, none⟩) l2 (.int .i64 cc.s))
    have y3 := ((((k3.far (p := ⟨G2, 0, none⟩) e02 (.int .i64 cc.k)).far (p := ⟨G2, 1, none⟩) e02 (.int .i64 cc.r)).far (p := ⟨G2, 2, none⟩) e02 (.slice B2 cc.m.length cy)).far (p := ⟨G2, 3, none⟩) e02 (.int .i64 cc.s))
    have y4 := ((((k4.far (p := ⟨G2, 0, none⟩) e12 (.int .i64 cc.k)).far (p := ⟨G2, 1, none⟩) e12 (.int .i64 cc.r)).far (p := ⟨G2, 2, none⟩) e12 (.slice B2 cc.m.length cy)).far (p := ⟨G2, 3, none⟩) e12 (.int .i64 cc.s))
    go_wp2
    go_roundw
    case rel => exact ⟨n + 1, cc, true, B2, cy, by omega, by go_num, rfl, HE, HOC, hcy, hic, y3, y4, y6, yB⟩
    case measure => simp [intOf]; omega
   ·have HE : Hid ((bl.take (n + 1)).foldl (bestStep (bestR want) want) (zeroC, false) = (sc, true)) := Lib.hid (by rw [HS.out]; unfold bestStep; rw [HCC.out, if_neg (fun h => h.elim (by simp) h1)])
    have d3 : decide (cmpF want cc sc < 0) = false := by simpa using h1
    clear h1 HS
    generalize cmpF want cc sc = z at *
    rintro e w8 ⟨rfl, hq⟩
    replace hB := below_grows hB (Nat.le_refl _) hq
    replace k3 := k3.grows hq
    replace k4 := k4.grows hq
    replace k6 := k6.grows hq
    clear hq x3 xc x6
    go_wp2
    go_roundw
    case rel => exact ⟨n + 1, sc, true, B, cx, by omega, by go_num, rfl, HE, HSC, hcx, hix, k3, k4, k6, hB⟩
    case measure => simp [intOf]; omega
  ·obtain rfl : n = bl.length := by omega
   have HE : Hid (bestL (bestR want) want l = (sc, sb)) := Lib.hid (by rw [HBL.out]; have := HF.out; rwa [List.take_length] at this)
   have x6 := k6.cell
   have x4 := k4.cell
   have hf4 := k4.frozen
   have y4 := ((((k4.set_ 0 (.int .i64 sc.k)).set_ 1 (.int .i64 sc.r)).set_ 2 (.slice B sc.m.length cx)).set_ 3 (.int .i64 sc.s))
   have yB := ((((hB.setCell (p := ⟨G1, 0, none⟩) l1 (.int .i64 sc.k)).setCell (p := ⟨G1, 1, none⟩) l1 (.int .i64 sc.r)).setCell (p := ⟨G1, 2, none⟩) l1 (.slice B sc.m.length cx)).setCell (p := ⟨G1, 3, none⟩) l1 (.int .i64 sc.s))
   have yI : InB _ (Bd base w.heap.size) B sc.m := hix.grows yB
   have y6 := y4.cell
   clear k3 k4 k6
   go_wp2
   refine bodyPost_ret (v := .tuple #[.agg #[.int .i64 sc.k, .int .i64 sc.r, .slice B sc.m.length cx, .int .i64 sc.s], .bool sb]) (by simp [results, Tryz.results37, go_sem, y6]) rfl ⟨?_, yB⟩
   rw [HE.out]
   exact ⟨_, rfl, B, cx, rfl, hcx, yI⟩
set_option maxHeartbeats 16000000 in
theorem pbestl_any {base : Nat → Prop} {A I : Option Addr} {c ci : Nat} {l : List Bx} {want : Ch} {w : World} (h : Bxs w base A l) (hl : l.length ≤ 1000000) (hc : l.length ≤ c) (ho : ∀ b ∈ l, OKB b) (hk : ∀ b ∈ l, I64 b.k) (iw : Ints w I want.m) (hw : OKC want) :
 Calls Tryz.prog 38 #[.slice A l.length c, .agg #[.int .i64 want.k, .int .i64 want.r, .slice I want.m.length ci, .int .i64 want.s]] w fun e w' => (∃ v, e = .returned (.tuple #[v, .bool (bestL (topP want) want l).2]) ∧ ChV w' (Ge w.heap.size) (bestL (topP want) want l).1 v) ∧ Grows w w' := by
 have HO := Lib.hid ho
 clear ho
 have HK := Lib.hid hk
 clear hk
 have k3 := (((Blk.new w 42 #[.int .i64 want.k, .int .i64 want.r, .slice I want.m.length ci, .int .i64 want.s]).alloc (Obj.cells #[.int .i64 0, .int .i64 0, .slice none 0 0, .int .i64 0] 42)).alloc (Obj.cells #[.int .i64 0, .int .i64 0, .slice none 0 0, .int .i64 0] 42))
 have k4 := ((Blk.new (w.alloc (Obj.cells #[.int .i64 want.k, .int .i64 want.r, .slice I want.m.length ci, .int .i64 want.s] 42)) 42 #[.int .i64 0, .int .i64 0, .slice none 0 0, .int .i64 0]).alloc (Obj.cells #[.int .i64 0, .int .i64 0, .slice none 0 0, .int .i64 0] 42))
 have k6 := (Blk.new ((w.alloc (Obj.cells #[.int .i64 want.k, .int .i64 want.r, .slice I want.m.length ci, .int .i64 want.s] 42)).alloc (Obj.cells #[.int .i64 0, .int .i64 0, .slice none 0 0, .int .i64 0] 42)) 42 #[.int .i64 0, .int .i64 0, .slice none 0 0, .int .i64 0])
 have hB := ((((Below.refl w.heap.size w).alloc (Nat.le_refl _) (Obj.cells #[.int .i64 want.k, .int .i64 want.r, .slice I want.m.length ci, .int .i64 want.s] 42)).alloc (by simp) (Obj.cells #[.int .i64 0, .int .i64 0, .slice none 0 0, .int .i64 0] 42)).alloc (by simp; omega) (Obj.cells #[.int .i64 0, .int .i64 0, .slice none 0 0, .int .i64 0] 42))
 go_enter Tryz.func38, Tryz.ntmps38
 go_upto_region 3 with fail
 have hs1 : (w.alloc (Obj.cells #[.int .i64 want.k, .int .i64 want.r, .slice I want.m.length ci, .int .i64 want.s] 42)).heap.size = w.heap.size + 1 := by simp
 rw [hs1] at k4
 have hs2 : ((w.alloc (Obj.cells #[.int .i64 want.k, .int .i64 want.r, .slice I want.m.length ci, .int .i64 want.s] 42)).alloc (Obj.cells #[.int .i64 0, .int .i64 0, .slice none 0 0, .int .i64 0] 42)).heap.size = w.heap.size + 1 + 1 := by simp
 rw [hs2] at k6
 clear hs1 hs2
 generalize World.alloc (World.alloc (World.alloc w _) _) _ = w3 at *
 generalize hG1 : w.heap.size + 1 = G1 at *
 have HG1 := Lib.hid hG1
 clear hG1
 generalize hG2 : G1 + 1 = G2 at *
 have HG2 := Lib.hid hG2
 clear hG2
 have l1 : w.heap.size ≤ G1 := by have h1 := HG1.out; omega
 have l2 : w.heap.size ≤ G2 := by have h1 := HG1.out; have h2 := HG2.out; omega
 have e02 : w.heap.size ≠ G2 := by have h1 := HG1.out; have h2 := HG2.out; omega
 have e12 : G1 ≠ G2 := by have h2 := HG2.out; omega
 have e12l : G1 < G2 := by have h2 := HG2.out; omega
 go_wp2_with fail
 refine (pboxes_any A c (Bd base w.heap.size) l _ (h.bd.grows hB) hl HO.out hc).mono ?_
 have HBL : Hid (bestL (topP want) want l = (boxesF l).foldl (bestStep (topP want) want) (zeroC, false)) := Lib.hid rfl
 have HOB := Lib.hid (boxes_ok HO.out)
 have HMB : Hid (∀ b ∈ boxesF l, b ∈ boxesF l) := Lib.hid fun _ h => h
 have hbl := boxes_len l
 generalize hls : boxesF l = bl at *
 have HLS := Lib.hid hls
 clear hls
 rintro e w4 ⟨⟨A4, c4, rfl, hc4, hbx3⟩, hq⟩
 have hbx := Bxs.backU hbx3 (fun _ h => h.2) hB (Nat.le_refl _)
 replace hB := below_grows hB (Nat.le_refl _) hq
 replace k3 := k3.grows hq
 replace k4 := k4.grows hq
 replace k6 := k6.grows hq
 clear hbx3 hq
 have HB4 := Lib.hid hB
 clear hB
 go_wp2_with fail
 go_loopw [7, 14] (fun q i wr => ∃ (n : Nat) (sc : Ch) (sb : Bool) (B : Option Addr) (cx : Nat), n ≤ bl.length ∧ i = .int .i64 n ∧ q = .bool sb ∧ Hid ((bl.take n).foldl (bestStep (topP want) want) (zeroC, false) = (sc, sb)) ∧ Hid (OKC sc) ∧ sc.m.length ≤ cx ∧ InB wr (Ge (G2 + 1)) B sc.m ∧ Blk wr w.heap.size 42 #[.int .i64 want.k, .int .i64 want.r, .slice I want.m.length ci, .int .i64 want.s] ∧ Blk wr G1 42 #[.int .i64 0, .int .i64 0, .slice none 0 0, .int .i64 0] ∧ Blk wr G2 42 #[.int .i64 sc.k, .int .i64 sc.r, .slice B sc.m.length cx, .int .i64 sc.s] ∧ Below w.heap.size w wr) (fun _ i _ => bl.length - (intOf i).toNat)
 case atStart => exact ⟨0, zeroC, false, none, 0, by omega, rfl, rfl, Lib.hid rfl, Lib.hid okc_zero, by simp [zeroC], RdB.nil, k3, k4, k6, HB4.out⟩
 case round =>
  clear k3 k4 k6
  obtain ⟨n, sc, sb, B, cx, hn, rfl, rfl, HF, HSC, hcx, hix, k3, k4, k6, hB⟩ := hrel
  by_cases hlt : n < bl.length
  ·obtain ⟨ad, b, A1, c1, A2, c2, A3, c3, e1, had, hx, hp, q0, q1, q2, q3⟩ := (hbx.grows hB).elem hlt
   subst e1
   have HM := Lib.hid (HMB.out b (List.mem_of_getElem? hx))
   have HOb := Lib.hid (HOB.out b (List.mem_of_getElem? hx))
   have HS : Hid ((bl.take (n + 1)).foldl (bestStep (topP want) want) (zeroC, false) = bestStep (topP want) want (sc, sb) b) := Lib.hid (by rw [take_snoc hx, List.foldl_append, HF.out]; rfl)
   clear hx HF
   have k9 := Blk.new wr 61 #[.int .i64 b.k, .slice A1 b.r.length c1, .slice A2 b.m.length c2, .slice A3 b.s.length c3]
   have hq := (Below.refl wr.heap.size wr).alloc (Nat.le_refl _) (Obj.cells #[.int .i64 b.k, .slice A1 b.r.length c1, .slice A2 b.m.length c2, .slice A3 b.s.length c3] 61)
   go_upto_region 6 with fail
   replace hB := below_grows hB (Nat.le_refl _) hq
   replace k3 := k3.grows hq
   replace k4 := k4.grows hq
   replace k6 := k6.grows hq
   replace hp := hp.grows hq
   replace hix := hix.grows hq
   clear hq q0 q1 q2 q3
   generalize World.alloc wr _ = w5 at *
   generalize wr.heap.size = G9 at *
   have x9 := k9.cell
   have x3 := k3.cell
   have hlt5 := k6.lt
   go_wp2_with fail
   refine (ptop_any hp HOb.out (HK.out b (boxes_mem (HLS.out.symm ▸ HM.out)).1) (boxes_mem (HLS.out.symm ▸ HM.out)).2 (iw.grows hB) hw).mono ?_
   have HOC : Hid (OKC (topP want b)) := Lib.hid (okc_topP HOb.out)
   generalize hcc : topP want b = cc at *
   have HCC := Lib.hid hcc
   clear hcc
   rintro e w6 ⟨⟨v, rfl, hcv⟩, hq⟩
   replace hB := below_grows hB (Nat.le_refl _) hq
   replace k3 := k3.grows hq
   replace k4 := k4.grows hq
   replace k6 := k6.grows hq
   replace hix := hix.grows hq
   clear hq x9 x3 k9 hp
   obtain ⟨B2, cy, rfl, hcy, hic⟩ := hcv
   replace hic : InB w6 (Ge (G2 + 1)) B2 cc.m := RdB.mono hic (fun k hk => by unfold Ge at *; omega)
   have k10 := Blk.new w6 42 #[.int .i64 cc.k, .int .i64 cc.r, .slice B2 cc.m.length cy, .int .i64 cc.s]
   have hq := (Below.refl w6.heap.size w6).alloc (Nat.le_refl _) (Obj.cells #[.int .i64 cc.k, .int .i64 cc.r, .slice B2 cc.m.length cy, .int .i64 cc.s] 42)
   go_upto_region 7 with fail
   replace hB := below_grows hB (Nat.le_refl _) hq
   replace k3 := k3.grows hq
   replace k4 := k4.grows hq
   replace k6 := k6.grows hq
   replace hix := hix.grows hq
   replace hic := hic.grows hq
   clear hq
   generalize World.alloc w6 _ = w7 at *
   generalize w6.heap.size = G10 at *
   cases sb
   ·have HE : Hid ((bl.take (n + 1)).foldl (bestStep (topP want) want) (zeroC, false) = (cc, true)) := Lib.hid (by rw [HS.out]; unfold bestStep; rw [if_pos (.inl rfl), HCC.out])
    clear HS HSC hix hcx
    have xc := k10.cell
    have x6 := k6.cell
    have hf6 := k6.frozen
    have y6 := ((((k6.set_ 0 (.int .i64 cc.k)).set_ 1 (.int .i64 cc.r)).set_ 2 (.slice B2 cc.m.length cy)).set_ 3 (.int .i64 cc.s))
    have yB := ((((hB.setCell (p := ⟨G2, 0, none⟩) l2 (.int .i64 cc.k)).setCell (p := ⟨G2, 1, none⟩) l2 (.int .i64 cc.r)).setCell (p := ⟨G2, 2, none⟩) l2 (.slice B2 cc.m.length cy)).setCell (p := ⟨G2, 3, none⟩) l2 (.int .i64 cc.s))
    have y3 := ((((k3.far (p := ⟨G2, 0, none⟩) e02 (.int .i64 cc.k)).far (p := ⟨G2, 1, none⟩) e02 (.int .i64 cc.r)).far (p := ⟨G2, 2, none⟩) e02 (.slice B2 cc.m.length cy)).far (p := ⟨G2, 3, none⟩) e02 (.int .i64 cc.s))
    have y4 := ((((k4.far (p := ⟨G2, 0, none⟩) e12 (.int .i64 cc.k)).far (p := ⟨G2, 1, none⟩) e12 (.int .i64 cc.r)).far (p := ⟨G2, 2, none⟩) e12 (.slice B2 cc.m.length cy)).far (p := ⟨G2, 3, none⟩) e12 (.int .i64 cc.s))
    have yI := RdB.grown hic (d_only_set (d_only_set (d_only_set (d_only_set (World.grownBy.refl _ (some G2)) 0 (.int .i64 cc.k)) 1 (.int .i64 cc.r)) 2 (.slice B2 cc.m.length cy)) 3 (.int .i64 cc.s)) (fun g e => by injection e with e; unfold Ge; omega)
    clear hic
    go_wp2
    go_roundw
    case rel => exact ⟨n + 1, cc, true, B2, cy, by omega, by go_num, rfl, HE, HOC, hcy, yI, y3, y4, y6, yB⟩
    case measure => simp [intOf]; omega
   have x3 := k3.cell
   have xc := k10.cell
   have x6 := k6.cell
   go_wp2_with fail
   refine (compare_any I B2 B ci cy cx want cc sc _ (iw.grows hB) hic.ints hix.ints hw HOC.out HSC.out).mono ?_
   by_cases h1 : cmpF want cc sc < 0
   ·have HE : Hid ((bl.take (n + 1)).foldl (bestStep (topP want) want) (zeroC, false) = (cc, true)) := Lib.hid (by rw [HS.out]; unfold bestStep; rw [HCC.out, if_pos (.inr h1)])
    have d3 : decide (cmpF want cc sc < 0) = true := by simpa using h1
    clear h1 HS HSC hcx
    generalize cmpF want cc sc = z at *
    rintro e w8 ⟨rfl, hq⟩
    replace hB := below_grows hB (Nat.le_refl _) hq
    replace k3 := k3.grows hq
    replace k4 := k4.grows hq
    replace k6 := k6.grows hq
    replace k10 := k10.grows hq
    replace hic := hic.grows hq
    clear hq x3 xc x6 hix
    have xc := k10.cell
    have x6 := k6.cell
    have hf6 := k6.frozen
    have y6 := ((((k6.set_ 0 (.int .i64 cc.k)).set_ 1 (.int .i64 cc.r)).set_ 2 (.slice B2 cc.m.length cy)).set_ 3 (.int .i64 cc.s))
    have yB := ((((hB.setCell (p := ⟨G2, 0, none⟩) l2 (.int .i64 cc.k)).setCell (p := ⟨G2, 1, none⟩) l2 (.int .i64 cc.r)).setCell (p := ⟨G2, 2, none⟩) l2 (.slice B2 cc.m.length cy)).setCell (p := ⟨G2, 3, none⟩) l2 (.int .i64 cc.s))
    have y3 := ((((k3.far (p := ⟨G2, 0, none⟩) e02 (.int .i64 cc.k)).far (p := ⟨G2, 1, none⟩) e02 (.int .i64 cc.r)).far (p := ⟨G2, 2, none⟩) e02 (.slice B2 cc.m.length cy)).far (p := ⟨G2, 3, none⟩) e02 (.int .i64 cc.s))
    have y4 := ((((k4.far (p := ⟨G2, 0, none⟩) e12 (.int .i64 cc.k)).far (p := ⟨G2, 1, none⟩) e12 (.int .i64 cc.r)).far (p := ⟨G2, 2, none⟩) e12 (.slice B2 cc.m.length cy)).far (p := ⟨G2, 3, none⟩) e12 (.int .i64 cc.s))
    have yI := RdB.grown hic (d_only_set (d_only_set (d_only_set (d_only_set (World.grownBy.refl _ (some G2)) 0 (.int .i64 cc.k)) 1 (.int .i64 cc.r)) 2 (.slice B2 cc.m.length cy)) 3 (.int .i64 cc.s)) (fun g e => by injection e with e; unfold Ge; omega)
    clear hic
    go_wp2
    go_roundw
    case rel => exact ⟨n + 1, cc, true, B2, cy, by omega, by go_num, rfl, HE, HOC, hcy, yI, y3, y4, y6, yB⟩
    case measure => simp [intOf]; omega
   ·have HE : Hid ((bl.take (n + 1)).foldl (bestStep (topP want) want) (zeroC, false) = (sc, true)) := Lib.hid (by rw [HS.out]; unfold bestStep; rw [HCC.out, if_neg (fun h => h.elim (by simp) h1)])
    have d3 : decide (cmpF want cc sc < 0) = false := by simpa using h1
    clear h1 HS
    generalize cmpF want cc sc = z at *
    rintro e w8 ⟨rfl, hq⟩
    replace hB := below_grows hB (Nat.le_refl _) hq
    replace k3 := k3.grows hq
    replace k4 := k4.grows hq
    replace k6 := k6.grows hq
    replace hix := hix.grows hq
    clear hq x3 xc x6
    go_wp2
    go_roundw
    case rel => exact ⟨n + 1, sc, true, B, cx, by omega, by go_num, rfl, HE, HSC, hcx, hix, k3, k4, k6, hB⟩
    case measure => simp [intOf]; omega
  ·obtain rfl : n = bl.length := by omega
   have HE : Hid (bestL (topP want) want l = (sc, sb)) := Lib.hid (by rw [HBL.out]; have := HF.out; rwa [List.take_length] at this)
   have x6 := k6.cell
   have x4 := k4.cell
   have hf4 := k4.frozen
   have y4 := ((((k4.set_ 0 (.int .i64 sc.k)).set_ 1 (.int .i64 sc.r)).set_ 2 (.slice B sc.m.length cx)).set_ 3 (.int .i64 sc.s))
   have yB := ((((hB.setCell (p := ⟨G1, 0, none⟩) l1 (.int .i64 sc.k)).setCell (p := ⟨G1, 1, none⟩) l1 (.int .i64 sc.r)).setCell (p := ⟨G1, 2, none⟩) l1 (.slice B sc.m.length cx)).setCell (p := ⟨G1, 3, none⟩) l1 (.int .i64 sc.s))
   have yI : InB _ (Ge w.heap.size) B sc.m := RdB.mono (RdB.grown hix (d_only_set (d_only_set (d_only_set (d_only_set (World.grownBy.refl _ (some G1)) 0 (.int .i64 sc.k)) 1 (.int .i64 sc.r)) 2 (.slice B sc.m.length cx)) 3 (.int .i64 sc.s)) (fun g e => by injection e with e; unfold Ge; omega)) (fun k hk => by unfold Ge at *; omega)
   have y6 := y4.cell
   clear k3 k4 k6
   go_wp2
   refine bodyPost_ret (v := .tuple #[.agg #[.int .i64 sc.k, .int .i64 sc.r, .slice B sc.m.length cx, .int .i64 sc.s], .bool sb]) (by simp [results, Tryz.results38, go_sem, y6]) rfl ⟨?_, yB⟩
   rw [HE.out]
   exact ⟨_, rfl, B, cx, rfl, hcx, yI⟩
end Go.Proofs.YtjbkjgmcfommgaaGreat

namespace Go.Proofs.YtjbkjgmcfommgaaGreat
open Go.RowKit
def inB (b : Bx) (c : Ch) : Bool := kindB b.k c.k && hasF b.r c.r && decide (c.m ∈ b.m) && hasF b.s c.s
def hasL (l : List Bx) (c : Ch) : Bool := (boxesF l).any fun b => inB b c
theorem inB_k {b : Bx} {c : Ch} (h : kindB b.k c.k = false) : inB b c = false := by unfold inB; rw [h]; rfl
theorem inB_r {b : Bx} {c : Ch} (h : hasF b.r c.r = false) : inB b c = false := by unfold inB; rw [h]; simp
theorem inB_m {b : Bx} {c : Ch} (h : c.m ∉ b.m) : inB b c = false := by unfold inB; rw [decide_eq_false h]; simp
theorem inB_s {b : Bx} {c : Ch} (h : hasF b.s c.s = false) : inB b c = false := by unfold inB; rw [h]; simp
theorem inB_yes {b : Bx} {c : Ch} (h1 : kindB b.k c.k = true) (h2 : hasF b.r c.r = true) (h3 : c.m ∈ b.m) (h4 : hasF b.s c.s = true) : inB b c = true := by unfold inB; rw [h1, h2, h4, decide_eq_true h3]; rfl
set_option maxHeartbeats 4000000 in
theorem has1b_any {G : Nat} {base : Nat → Prop} {I A1 A2 A3 : Option Addr} {ci c1 c2 c3 : Nat} {b : Bx} {x : Ch} {w : World} (kc : Blk w G 42 #[.int .i64 x.k, .int .i64 x.r, .slice I x.m.length ci, .int .i64 x.s]) (hp : BoxP w base b A1 c1 A2 c2 A3 c3) (hl : OKB b) (ix : Ints w I x.m) (hxm : x.m.length ≤ 9223372036854775807) :
 Calls Tryz.prog 73 #[.agg #[.int .i64 b.k, .slice A1 b.r.length c1, .slice A2 b.m.length c2, .slice A3 b.s.length c3], .pointer (some ⟨G, 0, none⟩)] w fun e w' => e = .returned (.bool (inB b x)) ∧ Grows w w' := by
 obtain ⟨hlr, hls, hlm, hlx⟩ := hl
 have HLM := Lib.hid hlx
 clear hlx
 have k2 := Blk.new w 61 #[.int .i64 b.k, .slice A1 b.r.length c1, .slice A2 b.m.length c2, .slice A3 b.s.length c3]
 have hB := (Below.refl w.heap.size w).alloc (Nat.le_refl _) (Obj.cells #[.int .i64 b.k, .slice A1 b.r.length c1, .slice A2 b.m.length c2, .slice A3 b.s.length c3] 61)
 go_enter Tryz.func73, Tryz.ntmps73
 go_upto_region 1 with fail
 replace kc := kc.grows hB
 generalize World.alloc w _ = w1 at *
 have x1 := kc.cell
 have x2 := k2.cell
 go_wp2_with fail
 refine (pkind_any b.k x.k A1 A2 A3 b.r.length c1 b.m.length c2 b.s.length c3 _).mono ?_
 cases hv : kindB b.k x.k
 ·have HE : Hid (inB b x = false) := Lib.hid (inB_k hv)
  clear hv
  rintro e w2 ⟨rfl, hq⟩
  replace hB := below_grows hB (Nat.le_refl _) hq
  clear hq x1 x2
  go_wp2
  go_ret
  exact ⟨ret_bool HE.out.symm, hB⟩
 have H1 := Lib.hid hv
 clear hv
 rintro e w2 ⟨rfl, hq⟩
 replace hB := below_grows hB (Nat.le_refl _) hq
 replace kc := kc.grows hq
 replace k2 := k2.grows hq
 clear hq x1 x2
 have x1 := kc.cell
 have x2 := k2.cell
 go_wp2_with fail
 refine (has_any A1 c1 b.r x.r _ (hp.r.grows hB).sps (by omega)).mono ?_
 cases hv : hasF b.r x.r
 ·have HE : Hid (inB b x = false) := Lib.hid (inB_r hv)
  clear hv
  rintro e w2 ⟨rfl, hq⟩
  replace hB := below_grows hB (Nat.le_refl _) hq
  clear hq x1 x2
  go_wp2
  go_ret
  exact ⟨ret_bool HE.out.symm, hB⟩
 have H2 := Lib.hid hv
 clear hv
 rintro e w2 ⟨rfl, hq⟩
 replace hB := below_grows hB (Nat.le_refl _) hq
 replace kc := kc.grows hq
 replace k2 := k2.grows hq
 clear hq x1 x2
 have x1 := kc.cell
 have x2 := k2.cell
 go_wp2_with fail
 refine (phasw_any A2 I c2 ci b.m x.m _ rfl (hp.m.grows hB) hlm HLM.out (ix.grows hB) hxm).mono ?_
 by_cases hv : x.m ∈ b.m
 case neg =>
  have HE : Hid (inB b x = false) := Lib.hid (inB_m hv)
  rw [decide_eq_false hv]
  clear hv
  rintro e w2 ⟨rfl, hq⟩
  replace hB := below_grows hB (Nat.le_refl _) hq
  clear hq x1 x2
  go_wp2
  go_ret
  exact ⟨ret_bool HE.out.symm, hB⟩
 have H3 := Lib.hid hv
 rw [decide_eq_true hv]
 clear hv
 rintro e w2 ⟨rfl, hq⟩
 replace hB := below_grows hB (Nat.le_refl _) hq
 replace kc := kc.grows hq
 replace k2 := k2.grows hq
 clear hq x1 x2
 have x1 := kc.cell
 have x2 := k2.cell
 go_wp2_with fail
 refine (has_any A3 c3 b.s x.s _ (hp.s.grows hB).sps (by omega)).mono ?_
 cases hv : hasF b.s x.s
 ·have HE : Hid (inB b x = false) := Lib.hid (inB_s hv)
  clear hv
  rintro e w2 ⟨rfl, hq⟩
  replace hB := below_grows hB (Nat.le_refl _) hq
  clear hq x1 x2
  go_wp2
  go_ret
  exact ⟨ret_bool HE.out.symm, hB⟩
 have HE : Hid (inB b x = true) := Lib.hid (inB_yes H1.out H2.out H3.out hv)
 clear hv
 rintro e w2 ⟨rfl, hq⟩
 replace hB := below_grows hB (Nat.le_refl _) hq
 clear hq x1 x2
 go_wp2
 go_ret
 exact ⟨ret_bool HE.out.symm, hB⟩
set_option maxHeartbeats 2000000 in
theorem idx_hasb (G : Nat) {n : Nat} (A : Option Addr) (c : Nat) (base : Nat → Prop) (l : List Bx) (p : Bx → Bool) (w : World) (hn : n = l.length) (h : Bxs w base A l) (hl : l.length ≤ 9223372036854775807)
 (hp : ∀ (x : Bx) (A1 A2 A3 : Option Addr) (c1 c2 c3 : Nat) (w1 : World), x ∈ l → Grows w w1 → BoxP w1 base x A1 c1 A2 c2 A3 c3 → Calls Tryz.prog 73 #[.agg #[.int .i64 x.k, .slice A1 x.r.length c1, .slice A2 x.m.length c2, .slice A3 x.s.length c3], .pointer (some ⟨G, 0, none⟩)] w1 fun e w' => e = .returned (.bool (p x)) ∧ Grows w1 w') :
 Calls Tryz.prog 90 #[.slice A n c, .func (.func 73) #[] #[.pointer (some ⟨G, 0, none⟩)]] w fun e w' => e = .returned (.int .i64 (placeZ (l.findIdx? p))) ∧ Grows w w' := by
 subst hn
 have HP := Lib.hid hp
 clear hp
 go_enter Tryz.func90, Tryz.ntmps90
 go_wp2_with fail
 go_loopw [8] (fun i wr => ∃ k : Nat, k ≤ l.length ∧ i = .int .i64 k ∧ Hid ((l.take k).findIdx? p = none) ∧ Grows w wr) (fun i _ => l.length - (intOf i).toNat)
 case atStart => exact ⟨0, by omega, rfl, Lib.hid rfl, Below.refl _ _⟩
 case round =>
  obtain ⟨k, hk, rfl, hf, hB⟩ := hrel
  by_cases hlt : k < l.length
  ·obtain ⟨ad, x, A1, c1, A2, c2, A3, c3, rfl, had, hx, hpx, q0, q1, q2, q3⟩ := (h.grows hB).elem hlt
   have HX := Lib.hid hx
   clear hx
   go_wp2_with fail
   refine (HP.out x A1 A2 A3 c1 c2 c3 _ (List.mem_of_getElem? HX.out) hB hpx).mono ?_
   rintro e w2 ⟨rfl, hq⟩
   replace hB := below_grows hB (Nat.le_refl _) hq
   clear hq q0 q1 q2 q3 hpx
   cases e : p x
   ·have HE := Lib.hid (idx_upU hf.out HX.out e)
    go_wp2
    go_roundw
    case rel => exact ⟨k + 1, by omega, by go_num, HE, hB⟩
    case measure => simp [intOf]; omega
   ·have HE := Lib.hid (idx_atU hf.out HX.out e)
    go_wp2
    go_ret
    rw [HE.out]
    exact ⟨rfl, hB⟩
  ·have HE : Hid (l.findIdx? p = none) := Lib.hid (by have := hf.out; rwa [List.take_of_length_le (by omega)] at this)
   go_wp2
   go_ret
   rw [HE.out]
   exact ⟨rfl, hB⟩
theorem cont_hasb (G : Nat) {n : Nat} (A : Option Addr) (c : Nat) (base : Nat → Prop) (l : List Bx) (p : Bx → Bool) (w : World) (hn : n = l.length) (h : Bxs w base A l) (hl : l.length ≤ 9223372036854775807)
 (hp : ∀ (x : Bx) (A1 A2 A3 : Option Addr) (c1 c2 c3 : Nat) (w1 : World), x ∈ l → Grows w w1 → BoxP w1 base x A1 c1 A2 c2 A3 c3 → Calls Tryz.prog 73 #[.agg #[.int .i64 x.k, .slice A1 x.r.length c1, .slice A2 x.m.length c2, .slice A3 x.s.length c3], .pointer (some ⟨G, 0, none⟩)] w1 fun e w' => e = .returned (.bool (p x)) ∧ Grows w1 w') :
 Calls Tryz.prog 58 #[.slice A n c, .func (.func 73) #[] #[.pointer (some ⟨G, 0, none⟩)]] w fun e w' => e = .returned (.bool (l.any p)) ∧ Grows w w' := by
 subst hn
 have HP := Lib.hid hp
 clear hp
 rw [← place_anyU]
 go_enter Tryz.func58, Tryz.ntmps58
 go_wp2_with fail
 refine (idx_hasb G A c base l p _ rfl h hl HP.out).mono ?_
 rintro e w2 ⟨rfl, hq⟩
 generalize hz : placeZ (l.findIdx? p) = z
 have HZ := Lib.hid hz
 clear hz
 go_wp2
 go_ret
 rw [HZ.out]
 exact ⟨rfl, hq⟩
theorem phaslw_any {base : Nat → Prop} {A I : Option Addr} {c ci : Nat} {l : List Bx} {x : Ch} {w : World} (h : Bxs w base A l) (hl : l.length ≤ 1000000) (hc : l.length ≤ c) (ho : ∀ b ∈ l, OKB b) (ix : Ints w I x.m) (hxm : x.m.length ≤ 9223372036854775807) :
 Calls Tryz.prog 42 #[.slice A l.length c, .agg #[.int .i64 x.k, .int .i64 x.r, .slice I x.m.length ci, .int .i64 x.s]] w fun e w' => e = .returned (.bool (hasL l x)) ∧ Grows w w' := by
 have HO := Lib.hid ho
 have HL : Hid (hasL l x = (boxesF l).any fun b => inB b x) := Lib.hid rfl
 clear ho
 have kc := Blk.new w 42 #[.int .i64 x.k, .int .i64 x.r, .slice I x.m.length ci, .int .i64 x.s]
 have hB := (Below.refl w.heap.size w).alloc (Nat.le_refl _) (Obj.cells #[.int .i64 x.k, .int .i64 x.r, .slice I x.m.length ci, .int .i64 x.s] 42)
 go_enter Tryz.func42, Tryz.ntmps42
 go_upto_region 1 with fail
 generalize World.alloc w _ = w1 at *
 go_wp2_with fail
 refine (pboxes_any A c base l _ (h.grows hB) hl HO.out hc).mono ?_
 have HOB := Lib.hid (boxes_ok HO.out)
 have hbl := boxes_len l
 generalize boxesF l = bl at *
 rintro e w4 ⟨⟨A4, c4, rfl, hc4, hbx⟩, hq⟩
 replace hB := below_grows hB (Nat.le_refl _) hq
 replace hbx := hbx.grows hq
 replace kc := kc.grows hq
 clear hq
 go_wp2_with fail
 refine (cont_hasb w.heap.size A4 c4 base bl (fun b => inB b x) _ rfl hbx (by omega) (fun b A1 A2 A3 c1 c2 c3 w2 hb hg hp => has1b_any (kc.grows hg) hp (HOB.out b hb) (ix.grows (below_grows hB (Nat.le_refl _) hg)) hxm)).mono ?_
 rintro e w5 ⟨rfl, hq⟩
 replace hB := below_grows hB (Nat.le_refl _) hq
 go_wp2
 go_ret
 rw [HL.out]
 exact ⟨rfl, hB⟩
def sameC (a b : Ch) : Bool := decide (a.s = b.s) && (decide (a.k = b.k) && decide (a.r = b.r) && decide (a.m = b.m))
theorem sameC_iff (a b : Ch) : sameC a b = decide (a = b) := by
 unfold sameC
 obtain ⟨k, r, m, s⟩ := a
 obtain ⟨k2, r2, m2, s2⟩ := b
 by_cases h1 : k = k2 <;> by_cases h2 : r = r2 <;> by_cases h3 : m = m2 <;> by_cases h4 : s = s2 <;> simp [h1, h2, h3, h4]
set_option maxHeartbeats 2000000 in
theorem samef_any {A B : Option Addr} {c d : Nat} {a b : Ch} {w : World} (ia : Ints w A a.m) (ib : Ints w B b.m) (ha : a.m.length ≤ 1000000) (hb : b.m.length ≤ 1000000) :
 Calls Tryz.prog 47 #[.agg #[.int .i64 a.k, .int .i64 a.r, .slice A a.m.length c], .agg #[.int .i64 b.k, .int .i64 b.r, .slice B b.m.length d]] w fun e w' => e = .returned (.bool (decide (a.k = b.k) && decide (a.r = b.r) && decide (a.m = b.m))) ∧ Grows w w' := by
 have k1 := (Blk.new w 40 #[.int .i64 a.k, .int .i64 a.r, .slice A a.m.length c]).alloc (Obj.cells #[.int .i64 b.k, .int .i64 b.r, .slice B b.m.length d] 40)
 have k2 := Blk.new (w.alloc (Obj.cells #[.int .i64 a.k, .int .i64 a.r, .slice A a.m.length c] 40)) 40 #[.int .i64 b.k, .int .i64 b.r, .slice B b.m.length d]
 have hB := ((Below.refl w.heap.size w).alloc (Nat.le_refl _) (Obj.cells #[.int .i64 a.k, .int .i64 a.r, .slice A a.m.length c] 40)).alloc (by simp) (Obj.cells #[.int .i64 b.k, .int .i64 b.r, .slice B b.m.length d] 40)
 go_enter Tryz.func47, Tryz.ntmps47
 go_upto_region 1 with fail
 have hs1 : (w.alloc (Obj.cells #[.int .i64 a.k, .int .i64 a.r, .slice A a.m.length c] 40)).heap.size = w.heap.size + 1 := by simp
 rw [hs1] at k2
 generalize World.alloc (World.alloc w _) _ = w2 at *
 generalize w.heap.size + 1 = G1 at *
 have x1 := k1.cell
 have x2 := k2.cell
 by_cases h1 : a.k = b.k
 case neg =>
  have HE : Hid ((decide (a.k = b.k) && decide (a.r = b.r) && decide (a.m = b.m)) = false) := Lib.hid (by rw [decide_eq_false h1]; rfl)
  have d1 : (a.k == b.k) = false := by simpa using h1
  clear h1
  go_wp2
  go_ret
  exact ⟨ret_bool HE.out.symm, hB⟩
 have d1 : (a.k == b.k) = true := by simpa using h1
 by_cases h2 : a.r = b.r
 case neg =>
  have HE : Hid ((decide (a.k = b.k) && decide (a.r = b.r) && decide (a.m = b.m)) = false) := Lib.hid (by rw [decide_eq_false h2]; simp)
  have d2 : (a.r == b.r) = false := by simpa using h2
  clear h1 h2
  go_wp2
  go_ret
  exact ⟨ret_bool HE.out.symm, hB⟩
 have d2 : (a.r == b.r) = true := by simpa using h2
 have HE : Hid ((decide (a.k = b.k) && decide (a.r = b.r) && decide (a.m = b.m)) = decide (a.m = b.m)) := Lib.hid (by rw [decide_eq_true h1, decide_eq_true h2]; rfl)
 clear h1 h2
 go_wp2_with fail
 refine (rsame6_any A B c d a.m b.m _ (ia.grows hB) (ib.grows hB) (by omega) (by omega)).mono ?_
 rintro e w3 ⟨rfl, hq⟩
 replace hB := below_grows hB (Nat.le_refl _) hq
 go_wp2
 go_ret
 exact ⟨ret_bool HE.out.symm, hB⟩
theorem samec_any {A B : Option Addr} {c d : Nat} {a b : Ch} {w : World} (ia : Ints w A a.m) (ib : Ints w B b.m) (ha : a.m.length ≤ 1000000) (hb : b.m.length ≤ 1000000) :
 Calls Tryz.prog 22 #[.agg #[.int .i64 a.k, .int .i64 a.r, .slice A a.m.length c, .int .i64 a.s], .agg #[.int .i64 b.k, .int .i64 b.r, .slice B b.m.length d, .int .i64 b.s]] w fun e w' => e = .returned (.bool (decide (a = b))) ∧ Grows w w' := by
 rw [← sameC_iff]
 have k1 := (Blk.new w 42 #[.int .i64 a.k, .int .i64 a.r, .slice A a.m.length c, .int .i64 a.s]).alloc (Obj.cells #[.int .i64 b.k, .int .i64 b.r, .slice B b.m.length d, .int .i64 b.s] 42)
 have k2 := Blk.new (w.alloc (Obj.cells #[.int .i64 a.k, .int .i64 a.r, .slice A a.m.length c, .int .i64 a.s] 42)) 42 #[.int .i64 b.k, .int .i64 b.r, .slice B b.m.length d, .int .i64 b.s]
 have hB := ((Below.refl w.heap.size w).alloc (Nat.le_refl _) (Obj.cells #[.int .i64 a.k, .int .i64 a.r, .slice A a.m.length c, .int .i64 a.s] 42)).alloc (by simp) (Obj.cells #[.int .i64 b.k, .int .i64 b.r, .slice B b.m.length d, .int .i64 b.s] 42)
 go_enter Tryz.func22, Tryz.ntmps22
 go_upto_region 1 with fail
 have hs1 : (w.alloc (Obj.cells #[.int .i64 a.k, .int .i64 a.r, .slice A a.m.length c, .int .i64 a.s] 42)).heap.size = w.heap.size + 1 := by simp
 rw [hs1] at k2
 generalize World.alloc (World.alloc w _) _ = w2 at *
 generalize w.heap.size + 1 = G1 at *
 have x1 := k1.cell
 have x2 := k2.cell
 by_cases h1 : a.s = b.s
 case neg =>
  have HE : Hid (sameC a b = false) := Lib.hid (by unfold sameC; rw [decide_eq_false h1]; rfl)
  have d1 : (a.s == b.s) = false := by simpa using h1
  clear h1
  go_wp2
  go_ret
  exact ⟨ret_bool HE.out.symm, hB⟩
 have d1 : (a.s == b.s) = true := by simpa using h1
 have HE : Hid (sameC a b = (decide (a.k = b.k) && decide (a.r = b.r) && decide (a.m = b.m))) := Lib.hid (by unfold sameC; rw [decide_eq_true h1]; rfl)
 clear h1
 go_wp2_with fail
 refine (samef_any (c := c) (d := d) (ia.grows hB) (ib.grows hB) ha hb).mono ?_
 rintro e w3 ⟨rfl, hq⟩
 replace hB := below_grows hB (Nat.le_refl _) hq
 go_wp2
 go_ret
 exact ⟨ret_bool HE.out.symm, hB⟩
end Go.Proofs.YtjbkjgmcfommgaaGreat

namespace Go.Proofs.YtjbkjgmcfommgaaGreat
open Go.RowKit
/-- How many of b's spans meet x. -/
def cutsN (x : Sp) (b : List Sp) : Nat := (b.filter fun y => decide (max x.1 y.1 ≤ min x.2 y.2)).length
def piecesN (a b : List Sp) : Nat := (a.map fun x => cutsN x b).sum
theorem cuts_len (x : Sp) (b : List Sp) : cutsN x b ≤ b.length := List.length_filter_le _ _
theorem cuts_next {x y : Sp} {b : List Sp} {k : Nat} (h : b[k]? = some y) : cutsN x (b.take (k + 1)) = cutsN x (b.take k) + (if max x.1 y.1 ≤ min x.2 y.2 then 1 else 0) := by
 unfold cutsN
 rw [take_snoc h, List.filter_append, List.length_append]
 congr 1
 by_cases h2 : max x.1 y.1 ≤ min x.2 y.2
 ·rw [if_pos h2, List.filter_cons_of_pos (by simpa using h2)]; rfl
 ·rw [if_neg h2, List.filter_cons_of_neg (by simpa using h2)]; rfl
theorem pieces_next {x : Sp} {a b : List Sp} {k : Nat} (h : a[k]? = some x) : piecesN (a.take (k + 1)) b = piecesN (a.take k) b + cutsN x b := by
 unfold piecesN
 rw [take_snoc h]
 simp
theorem pieces_len (a b : List Sp) : piecesN a b ≤ a.length * b.length := by
 unfold piecesN
 induction a with
 | nil => simp
 | cons x a ih =>
  have := cuts_len x b
  simp only [List.map_cons, List.sum_cons, List.length_cons]
  rw [Nat.add_mul]
  omega
theorem pieces_bd (a b : List Sp) (ha : a.length ≤ 1000000) (hb : b.length ≤ 1000000) : piecesN a b ≤ 1000000000000 := Nat.le_trans (pieces_len a b) (Nat.mul_le_mul ha hb)
set_option maxHeartbeats 8000000 in
theorem pieces_any (A B : Option Addr) (c d : Nat) (a b : List Sp) (w : World) (ha : Sps w A a) (hb : Sps w B b) (hl : a.length ≤ 1000000) (hl2 : b.length ≤ 1000000) :
 Calls Tryz.prog 121 #[.agg #[.slice A a.length c], .agg #[.slice B b.length d]] w fun e w' => e = .returned (.int .i64 (piecesN a b : Int)) ∧ Grows w w' := by
 have k2 := (Blk.new w 58 #[.slice A a.length c]).alloc (Obj.cells #[.slice B b.length d] 58)
 have k3 := Blk.new (w.alloc (Obj.cells #[.slice A a.length c] 58)) 58 #[.slice B b.length d]
 have hB := ((Below.refl w.heap.size w).alloc (Nat.le_refl _) (Obj.cells #[.slice A a.length c] 58)).alloc (by simp) (Obj.cells #[.slice B b.length d] 58)
 go_enter Tryz.func121, Tryz.ntmps121
 go_upto_region 2 with fail
 have hs1 : (w.alloc (Obj.cells #[.slice A a.length c] 58)).heap.size = w.heap.size + 1 := by simp
 rw [hs1] at k3
 generalize World.alloc (World.alloc w _) _ = w2 at *
 generalize w.heap.size + 1 = G1 at *
 have x2 := k2.cell 0
 have hB2 := hB
 clear hB
 go_wp2_with fail
 go_loopw [5, 13] (fun n i wr => ∃ (k z : Nat), k ≤ a.length ∧ i = .int .i64 k ∧ n = .int .i64 z ∧ Hid (piecesN (a.take k) b = z) ∧ Blk wr G1 58 #[.slice B b.length d] ∧ Below w.heap.size w wr) (fun _ i _ => a.length - (intOf i).toNat)
 case atStart => exact ⟨0, 0, by omega, rfl, rfl, Lib.hid rfl, k3, hB2⟩
 case round =>
  clear k3 x2 k2
  obtain ⟨k, z, hk, rfl, rfl, HZ, k3, hB⟩ := hrel
  by_cases hlt : k < a.length
  ·obtain ⟨ad, x, rfl, had, hx, q0, q1⟩ := (ha.grows hB).elem hlt
   have HX := Lib.hid (pieces_next (b := b) hx)
   have hzb := pieces_bd (a.take k) b (by rw [List.length_take]; omega) hl2
   rw [HZ.out] at hzb
   clear hx
   have k7 := Blk.new wr 86 #[.int .i64 x.1, .int .i64 x.2]
   have hq := (Below.refl wr.heap.size wr).alloc (Nat.le_refl _) (Obj.cells #[.int .i64 x.1, .int .i64 x.2] 86)
   go_upto_region 5 with fail
   replace hB := below_grows hB (Nat.le_refl _) hq
   replace k3 := k3.grows hq
   have l7 : G1 < wr.heap.size ∨ True := .inr trivial
   clear hq q0 q1 l7
   generalize World.alloc wr _ = w5 at *
   generalize wr.heap.size = G7 at *
   have x3 := k3.cell 0
   have hB5 := hB
   clear hB
   go_wp2_with fail
   go_loopw [5, 20] (fun n i wq => ∃ (j y : Nat), j ≤ b.length ∧ i = .int .i64 j ∧ n = .int .i64 ((z : Int) + (y : Int)) ∧ Hid (cutsN x (b.take j) = y) ∧ Blk wq G7 86 #[.int .i64 x.1, .int .i64 x.2] ∧ Blk wq G1 58 #[.slice B b.length d] ∧ Below w.heap.size w wq) (fun _ i _ => b.length - (intOf i).toNat)
   case atStart => exact ⟨0, 0, by omega, rfl, by simp, Lib.hid rfl, k7, k3, hB5⟩
   case round =>
    clear k7 k3 x3 hB5
    obtain ⟨j, y, hj, rfl, rfl, HY, k7, k3, hB⟩ := hrel
    by_cases hlt2 : j < b.length
    ·obtain ⟨ad2, v, rfl, had2, hv, q2, q3⟩ := (hb.grows hB).elem hlt2
     have HV := Lib.hid (cuts_next (x := x) hv)
     have hyb := cuts_len x (b.take j)
     rw [HY.out, List.length_take] at hyb
     clear hv
     have k9 := Blk.new wr 86 #[.int .i64 v.1, .int .i64 v.2]
     have hq := (Below.refl wr.heap.size wr).alloc (Nat.le_refl _) (Obj.cells #[.int .i64 v.1, .int .i64 v.2] 86)
     go_upto_region 8 with fail
     replace hB := below_grows hB (Nat.le_refl _) hq
     replace k3 := k3.grows hq
     replace k7 := k7.grows hq
     clear hq q2 q3
     generalize World.alloc wr _ = w9 at *
     generalize wr.heap.size = G9 at *
     have x7 := k7.cell
     have x9 := k9.cell
     refine wp_region_lit ?_
     iterate 4
      refine wpList_plain rfl (fun K hK => ?_)
      go_simp
      refine hK _ _ ?_
      clear hK K
     refine wpList_max2 rfl (.tmp 25) (.tmp 27) _ rfl .i64 _ _ rfl rfl ?_
     iterate 4
      refine wpList_plain rfl (fun K hK => ?_)
      go_simp
      refine hK _ _ ?_
      clear hK K
     refine wpList_min2 rfl (.tmp 30) (.tmp 32) _ rfl .i64 _ _ rfl rfl ?_
     generalize max x.1 v.1 = mx at *
     generalize min x.2 v.2 = mn at *
     by_cases hm : mx ≤ mn
     ·have HE : Hid (cutsN x (b.take (j + 1)) = y + 1) := Lib.hid (by rw [HV.out, HY.out, if_pos hm])
      have d1 : decide (mx ≤ mn) = true := by simpa using hm
      have hwz : IntKind.i64.wrap ((z : Int) + (y : Int) + 1) = (z : Int) + (y : Int) + 1 := IntWalk.i64_in _ (by omega)
      clear hm HV
      go_wp2
      go_roundw
      case rel => exact ⟨j + 1, y + 1, by omega, by go_num, congrArg (Value.int .i64) (by omega), HE, k7, k3, hB⟩
      case measure => simp [intOf]; omega
     ·have HE : Hid (cutsN x (b.take (j + 1)) = y) := Lib.hid (by rw [HV.out, HY.out, if_neg hm, Nat.add_zero])
      have d1 : decide (mx ≤ mn) = false := by simpa using hm
      clear hm HV
      go_wp2
      go_roundw
      case rel => exact ⟨j + 1, y, by omega, by go_num, rfl, HE, k7, k3, hB⟩
      case measure => simp [intOf]; omega
    ·have HE : Hid (piecesN (a.take (k + 1)) b = z + y) := Lib.hid (by rw [HX.out, HZ.out]; have := HY.out; rw [List.take_of_length_le (by omega)] at this; rw [this])
     go_wp2
     go_roundw
     case rel => exact ⟨k + 1, z + y, by omega, by go_num, congrArg (Value.int .i64) (by omega), HE, k3, hB⟩
     case measure => simp [intOf]; omega
  ·have HE : Hid (piecesN a b = z) := Lib.hid (by have := HZ.out; rwa [List.take_of_length_le (by omega)] at this)
   go_wp2
   go_ret
   rw [HE.out]
   exact ⟨rfl, hB⟩
end Go.Proofs.YtjbkjgmcfommgaaGreat

namespace Go.Proofs.YtjbkjgmcfommgaaGreat
open Go.RowKit
def ones (n : Int) : Int := (Lib.onesCount n.toNat : Int)
set_option maxRecDepth 4000 in
theorem ones64_any (n : Nat) (w : World) (h : n < 16) : Calls Tryz.prog 88 #[.int .u64 (n : Int)] w fun e w' => e = .returned (.int .i64 (Lib.onesCount n : Int)) ∧ Grows w w' := by
 have hB := Below.refl w.heap.size w
 go_enter Tryz.func88, Tryz.ntmps88
 go_wp2
 go_ret
 refine ⟨ret_int ?_, hB⟩
 clear hB
 match n, h with
 | 0, _ => decide +kernel
 | 1, _ => decide +kernel
 | 2, _ => decide +kernel
 | 3, _ => decide +kernel
 | 4, _ => decide +kernel
 | 5, _ => decide +kernel
 | 6, _ => decide +kernel
 | 7, _ => decide +kernel
 | 8, _ => decide +kernel
 | 9, _ => decide +kernel
 | 10, _ => decide +kernel
 | 11, _ => decide +kernel
 | 12, _ => decide +kernel
 | 13, _ => decide +kernel
 | 14, _ => decide +kernel
 | 15, _ => decide +kernel
 | n + 16, h => exact absurd h (by omega)
theorem ones_any (x : Int) (w : World) (h0 : 0 ≤ x) (h1 : x ≤ 15) : Calls Tryz.prog 55 #[.int .u64 x] w fun e w' => e = .returned (.int .i64 (ones x)) ∧ Grows w w' := by
 obtain ⟨n, rfl⟩ : ∃ n : Nat, x = (n : Int) := ⟨x.toNat, by omega⟩
 go_enter Tryz.func55, Tryz.ntmps55
 go_wp2_with fail
 refine (ones64_any n _ (by omega)).mono ?_
 rintro e w2 ⟨rfl, hq⟩
 go_wp2
 go_ret
 exact ⟨rfl, hq⟩
end Go.Proofs.YtjbkjgmcfommgaaGreat

namespace Go.Proofs.YtjbkjgmcfommgaaGreat
open Go.RowKit
section
variable {P : Program} {ops : Array Oper} {S : Ran → (Nat → Value) → World → Prop} {md : Region.Mode} {n N : Nat} {a0 : Act}
set_option maxRecDepth 100000 in
theorem listed_lt {listed : Array Bool} (hinv : HeadInv md ops n listed) {k : Nat} {o : Oper} (ho : ops[k]? = some o) (hl : listed.getD k false = true) : k < n := by
 rcases Nat.lt_or_ge k n with h | h
 ·exact h
 ·have := getD_both (hinv.tail k h (lt_of_get ho))
  rw [hl] at this
  cases this
set_option maxRecDepth 100000 in
theorem gent_agree (ok : MixOk md ops n N []) (hN : a0.tmps.size = N) {vs : Nat → Value} {listed : Array Bool} {a : Act} {w : World} (hinv : HeadInv md ops n listed) (inv : InvG S ops vs a0 listed a w) {i : Nat} {o : Oper} (hi : i < n) (ho : ops[i]? = some o) (hr : i ∈ Region.ready md ops listed) :
 ∀ t ∈ o.looksAt ops, (fin [] vs (ops.toList.take i) 0 a0).tmps[t]? = a.tmps[t]? := by
 intro t ht
 by_cases hex : ∃ (k : Nat) (o' : Oper), k < n ∧ ops[k]? = some o' ∧ o'.dst = some t
 ·obtain ⟨k, o', hk, ho', hd⟩ := hex
  obtain ⟨h1, _, h3⟩ := ok.look i o k o' t hi hk ho ho' hd ht
  have hlisted : listed.getD k false = true := by
   obtain ⟨oj, hoj, e, he, hb, hon⟩ := Region.waitsFor_spec h3
   obtain ⟨_, oi, hoi, hall⟩ := mem_ready.1 hr
   have : oj = oi := Option.some.inj (hoj.symm.trans hoi)
   subst this
   have := hall e he hb
   rwa [hon] at this
  have e1 := inv.calm k o' t ho' hd hlisted
  have hlt : t < a0.tmps.size := by rw [hN]; exact ok.bd k o' t hk ho' hd
  have e2 := fin_at (fl := []) (val := vs) (ops.toList.take i) 0 a0 k o' (take_get h1 ho') hd rfl hlt (by
   intro j oj hj hne hdj
   obtain ⟨hji, hoj⟩ := of_take_get hj
   exact ok.ne j oj k o' t (by omega) hk hoj ho' (Ne.symm hne) hdj hd)
  rw [Nat.zero_add] at e2
  rw [e1, e2]
 ·have e1 := inv.other t fun k o' ho' hl hd => hex ⟨k, o', listed_lt hinv ho' hl, ho', hd⟩
  have e2 := fin_other (fl := []) (val := vs) (ops.toList.take i) 0 a0 fun j oj hj _ hd => by
   obtain ⟨hji, hoj⟩ := of_take_get hj
   exact hex ⟨j, oj, by omega, hoj, hd⟩
  rw [e1, e2]
set_option maxRecDepth 100000 in
theorem inv_stepT (ok : MixOk md ops n N []) (hN : a0.tmps.size = N) {vs : Nat → Value} {listed : Array Bool} {a : Act} {w w' : World} (hinv : HeadInv md ops n listed) (inv : InvG S ops vs a0 listed a w) {i : Nat} {o : Oper} (hi : i < n) (ho : ops[i]? = some o) (hl : i < listed.size) {u : Value}
 (hs : S (ranOf (listed.setIfInBounds i true)) (setV vs i u) w') : InvG S ops (setV vs i u) a0 (listed.setIfInBounds i true) (a.put o.dst u) w' := by
 have key : ∀ k o' t, k < n → ops[k]? = some o' → o'.dst = some t → k ≠ i → (a.put o.dst u).tmps[t]? = a.tmps[t]? := by
  intro k o' t hk ho' hd hne
  exact put_get_ne fun e => ok.ne i o k o' t hi hk ho ho' hne e hd
 refine ⟨hs, (put_defers' _ _ _).trans inv.defers, (put_size _ _ _).trans inv.size, ?_, ?_⟩
 ·intro k o' t ho' hd hlk
  by_cases hki : k = i
  ·subst hki
   have : o' = o := Option.some.inj (ho'.symm.trans ho)
   subst this
   rw [hd, put_get_eq (by rw [inv.size, hN]; exact ok.bd k o' t hi ho' hd)]
   simp [setV]
  ·have hlk' : listed.getD k false = true := by rwa [getD_set_ne false (Ne.symm hki)] at hlk
   rw [key k o' t (listed_lt hinv ho' hlk') ho' hd hki, inv.calm k o' t ho' hd hlk']
   simp [setV, hki]
 ·intro t ht
  have h1 : o.dst ≠ some t := ht i o ho (by simp [hl])
  rw [put_get_ne h1]
  exact inv.other t fun k o' ho' hlk => ht k o' ho' (getD_set_true hlk)
set_option maxRecDepth 100000 in
theorem gent_run {Q : Exit → Act → World → Prop} (ok : MixOk md ops n N []) (hN : a0.tmps.size = N)
 (good : ∀ k o, k < n → ops[k]? = some o → ∀ vs L w, At md ops k L → S L vs w → GenOp P ops S k o (fin [] vs (ops.toList.take k) 0 a0) vs L w) (g : Nat)
 (H : ∀ listed a w vs, HeadInv md ops n listed → (∀ i, i < n → listed.getD i false = true) → InvG S ops vs a0 listed a w → wpAny P md ops Q g listed a w) :
 ∀ (f : Nat) (listed : Array Bool) (a : Act) (w : World) (vs : Nat → Value), ((List.range n).countP fun i => !listed.getD i false) ≤ f → HeadInv md ops n listed → InvG S ops vs a0 listed a w →
  wpAny P md ops Q (f + g) listed a w := by
 intro f
 induction f with
 | zero =>
  intro listed a w vs hc hinv inv
  rw [Nat.zero_add]
  refine H listed a w vs hinv (fun i hi => ?_) inv
  have h0 : ((List.range n).countP fun i => !listed.getD i false) = 0 := by omega
  rw [List.countP_eq_zero] at h0
  have := h0 i (List.mem_range.2 hi)
  simpa using this
 | succ f ih =>
  intro listed a w vs hc hinv inv
  by_cases hall : ∀ i, i < n → listed.getD i false = true
  ·exact wpAny_fuel g listed a w (H listed a w vs hinv hall inv) (f + 1)
  ·have hex : ∃ i, i < n ∧ listed.getD i false = false := by
    apply Classical.byContradiction
    intro hno
    exact hall fun i hi => by
     cases h : listed.getD i false
     ·exact absurd ⟨i, hi, h⟩ hno
     ·rfl
   obtain ⟨i0, hi0, hl0⟩ := hex
   have hsz : ∀ i, i < n → i < listed.size := fun i hi => by rw [hinv.size]; have := ok.le; omega
   have hready : Region.ready md ops listed ≠ [] := by
    have : ∀ d i, i ≤ d → i < n → listed.getD i false = false → ∃ j, j ∈ Region.ready md ops listed := by
     intro d
     induction d with
     | zero =>
      intro i hid hi hl
      obtain ⟨o, ho⟩ : ∃ o, ops[i]? = some o := ⟨ops[i]'(by have := ok.le; omega), by simp [show i < ops.size by have := ok.le; omega]⟩
      refine ⟨i, mem_ready.2 ⟨getD_in (hsz i hi) hl, o, ho, fun e he hb => ?_⟩⟩
      have := ok.back i o hi ho e he hb
      omega
     | succ d ihd =>
      intro i hid hi hl
      obtain ⟨o, ho⟩ : ∃ o, ops[i]? = some o := ⟨ops[i]'(by have := ok.le; omega), by simp [show i < ops.size by have := ok.le; omega]⟩
      by_cases hw : ∀ e ∈ o.after, Region.binds md e = true → listed.getD e.on false = true
      ·exact ⟨i, mem_ready.2 ⟨getD_in (hsz i hi) hl, o, ho, hw⟩⟩
      ·have : ∃ e ∈ o.after, Region.binds md e = true ∧ listed.getD e.on false = false := by
        apply Classical.byContradiction
        intro hno
        exact hw fun e he hb => by
         cases h : listed.getD e.on false
         ·exact absurd ⟨e, he, hb, h⟩ hno
         ·rfl
       obtain ⟨e, he, hb, hle⟩ := this
       have hlt := ok.back i o hi ho e he hb
       exact ihd e.on (by omega) (by omega) hle
    obtain ⟨j, hj⟩ := this i0 i0 (Nat.le_refl _) hi0 hl0
    intro h0
    rw [h0] at hj
    cases hj
   rw [show f + 1 + g = (f + g) + 1 by omega]
   refine ⟨fun h0 => absurd h0 hready, fun i hir => ?_⟩
   have hin : i < n := by
    rcases Nat.lt_or_ge i n with h | h
    ·exact h
    ·exfalso
     obtain ⟨_, oi, hoi, _⟩ := mem_ready.1 hir
     have hlt : i < ops.size := (Array.getElem?_eq_some_iff.1 hoi).1
     rcases ok.tail with ht | ⟨ht, hs, hch⟩
     ·omega
     ·exact tail_waits hs hch ht hinv _ i0 rfl hi0 (getD_in (hsz i0 hi0) hl0) i h hir
   obtain ⟨hun, o, ho, hwaits⟩ := mem_ready.1 hir
   have hunf : listed.getD i false = false := getD_both hun
   have hcnt : ((List.range n).countP fun j => !(listed.setIfInBounds i true).getD j false) ≤ f := by
    have := countP_lt (p := fun j => !listed.getD j false) (q := fun j => !(listed.setIfInBounds i true).getD j false) (List.range n) (List.mem_range.2 hin)
     (fun j _ hj => by
       simp only [Bool.not_eq_true'] at hj ⊢
       cases h : listed.getD j false
       ·rfl
       ·rw [getD_set_true h] at hj; cases hj) (by simp only [hunf, Bool.not_false]) (by simp [hsz i hin])
    omega
   have hinv' := hinv.set hir hin
   have hat : At md ops i (ranOf listed) := ⟨hunf, needs_ran hinv _ i o ho hwaits⟩
   have hag := gent_agree ok hN hinv inv hin ho hir
   have hg := good i o hin ho vs (ranOf listed) w hat inv.s
   have hs : ∀ cs b, o.op ≠ .select cs b := fun cs b => Region.noSelect_spec ok.sel i o cs b ho
   unfold GenOp at hg
   rw [run_agree (ops := ops) hs hag, wanted_agree hag] at hg
   refine gen_wpOp ho hg fun u w' hs' => ih _ _ _ _ hcnt hinv' (inv_stepT ok hN hinv inv hin ho (hsz i hin) ?_)
   rw [ranOf_set (hsz i hin)]
   exact hs'
end
def GenT (P : Program) (full : List Oper) (n : Nat) (S : Ran → (Nat → Value) → World → Prop) (E : Act → World → Prop) : List Oper → Nat → ((Nat → Value) → Act) → Prop
 | [], _, A => ∀ vs L w', (∀ k, k < n → L k = true) → S L vs w' → E (A vs) w'
 | o :: l, k, A => (∀ vs L w, At .any full.toArray k L → S L vs w → GenOp P full.toArray S k o (A vs) vs L w) ∧ GenT P full n S E l (k + 1) (fun vs => (A vs).put o.dst (vs k))
set_option maxRecDepth 100000 in
theorem genT_out {P : Program} {full : List Oper} {n : Nat} {S : Ran → (Nat → Value) → World → Prop} {E : Act → World → Prop} : ∀ (l : List Oper) (k : Nat) (A : (Nat → Value) → Act), GenT P full n S E l k A →
 (∀ j o, l[j]? = some o → ∀ vs L w, At .any full.toArray (k + j) L → S L vs w → GenOp P full.toArray S (k + j) o (fin [] vs (l.take j) k (A vs)) vs L w) ∧ ∀ vs L w', (∀ k, k < n → L k = true) → S L vs w' → E (fin [] vs l k (A vs)) w'
 | [], _, _, h => ⟨fun j o hj => by simp at hj, h⟩
 | o :: l, k, A, h => by
  obtain ⟨h1, h2⟩ := genT_out l (k + 1) _ h.2
  refine ⟨fun j o' hj => ?_, h2⟩
  cases j with
  | zero =>
   simp only [List.getElem?_cons_zero, Option.some.injEq] at hj
   subst hj
   exact h.1
  | succ j =>
   have := h1 j o' (by simpa using hj)
   rw [show k + 1 + j = k + (j + 1) by omega] at this
   exact this
set_option maxRecDepth 100000 in
theorem wp_region_genT {P : Program} {id : Nat} {Q : Exit → Act → World → Prop} {a : Act} {w : World} {l : List Oper} (S : Ran → (Nat → Value) → World → Prop) (n N : Nat) (hm : P.follows .mixedOrders = true) (hB : mixB .any l.toArray n N [] = true)
 (hN : a.tmps.size = N) (h0 : S (fun _ => false) (fun _ => undef) w.drew)
 (h : GenT P l n S (fun a' w' => wpList P l.toArray Q (l.drop n) a' w') (l.take n) 0 (fun _ => a)) : (Code.region id l.toArray true).wp P Q a w := by
 have ok := mixOk_of hB
 have hle : n ≤ l.length := by simpa using ok.le
 obtain ⟨h1, h2⟩ := genT_out (l.take n) 0 _ h
 refine wp_region_any hm ?_
 have inv0 : HeadInv .any l.toArray n (Array.replicate l.toArray.size false) :=
  ⟨by simp, fun j oj _ hl => (by rw [getD_replicate_false] at hl; cases hl), fun t _ ht => getD_in (by simpa using ht) (getD_replicate_false _ _)⟩
 have key := gent_run (md := .any) (Q := Q) (ops := l.toArray) (S := S) (a0 := a) ok hN (fun k o hk ho vs L w' hL hS => by
  have := h1 k o (by rw [List.getElem?_take, if_pos hk]; simpa using ho) vs L w'
  rw [Nat.zero_add, List.take_take, Nat.min_eq_left (by omega)] at this
  exact this hL hS) (l.length - n) (by
  intro listed b w' vs hinv hall inv
  refine (show l.length - n = (l.drop n).length by simp) ▸ wpAny_of_seq (l.drop n) n listed b w' (fun j => by simp [List.getElem?_drop]) ?_ ?_
  ·have hls : listed = (Array.replicate n true) ++ (Array.replicate (l.length - n) false) := by
    refine Array.ext (by simp [hinv.size]; omega) fun i h1 h2 => ?_
    have hsz : i < l.length := by have := hinv.size; simp at this; omega
    by_cases hin : i < n
    ·have := hall i hin
     rw [Array.getElem_append_left (by simpa using hin)]
     simpa [h1] using this
    ·have := hinv.tail i (by omega) (by simpa using hsz)
     rw [Array.getElem_append_right (by simp; omega)]
     simpa [h1] using this
   have := ok.seq
   rw [hls]
   simpa using this
  ·have he : b = fin [] vs (l.take n) 0 a := by
    refine act_ext (inv.defers.trans (fin_defers _ _ _).symm) (inv.size.trans (fin_size _ _ _).symm) fun t => ?_
    by_cases hex : ∃ (k : Nat) (o' : Oper), k < n ∧ l.toArray[k]? = some o' ∧ o'.dst = some t
    ·obtain ⟨k, o', hk, ho', hd⟩ := hex
     have e1 := inv.calm k o' t ho' hd (hall k hk)
     have e2 := fin_at (fl := []) (val := vs) (l.take n) 0 a k o' (by rw [List.getElem?_take, if_pos hk]; simpa using ho') hd rfl (by rw [hN]; exact ok.bd k o' t hk ho' hd) (by
      intro j oj hj hne hdj
      rw [List.getElem?_take] at hj
      split at hj
      ·rename_i hjn
       exact ok.ne j oj k o' t hjn hk (by simpa using hj) ho' (Ne.symm hne) hdj hd
      ·cases hj)
     rw [Nat.zero_add] at e2
     rw [e1, e2]
    ·have e1 := inv.other t fun k o' ho' hl hd => hex ⟨k, o', listed_lt hinv ho' hl, ho', hd⟩
     have e2 := fin_other (fl := []) (val := vs) (t := t) (l.take n) 0 a fun j oj hj _ hd => by
      rw [List.getElem?_take] at hj
      split at hj
      ·rename_i hjn
       exact hex ⟨j, oj, hjn, by simpa using hj, hd⟩
      ·cases hj
     rw [e1, e2]
   rw [he]
   exact h2 vs (ranOf listed) w' hall inv.s)
 have := key n (Array.replicate l.toArray.size false) a w.drew (fun _ => undef) (by
  have := List.countP_le_length (p := fun i => !(Array.replicate l.toArray.size false).getD i false) (l := List.range n)
  simpa using this) inv0 ⟨by rw [show ranOf (Array.replicate l.toArray.size false) = fun _ => false from funext fun k => getD_replicate_false _ _]; exact h0, rfl, rfl, fun k o t _ _ hl => (by rw [getD_replicate_false] at hl; cases hl), fun t _ => rfl⟩
 rw [show n + (l.length - n) = l.toArray.size by simp; omega] at this
 exact this
section
variable {P : Program} {full l : List Oper} {S : Ran → (Nat → Value) → World → Prop} {E : Act → World → Prop} {o : Oper} {k n : Nat} {A A' : (Nat → Value) → Act}
set_option maxRecDepth 100000 in
theorem gent_cons (hc : ∀ vs L w, At .any full.toArray k L → S L vs w → GenOp P full.toArray S k o (A vs) vs L w) (hA : ∀ vs, (A vs).put o.dst (vs k) = A' vs) (h : GenT P full n S E l (k + 1) A') : GenT P full n S E (o :: l) k A := by
 obtain rfl : (fun vs => (A vs).put o.dst (vs k)) = A' := funext hA
 exact ⟨hc, h⟩
set_option maxRecDepth 100000 in
theorem gent_consR (hc : ∀ vs L w, At .any full.toArray k L → S L vs w → GenOp P full.toArray S k o (A vs) vs L w) (h : GenT P full n S E l (k + 1) A') (hA : ∀ vs, (A vs).put o.dst (vs k) = A' vs := by intro vs; simp only [Act.put, List.setIfInBounds_toArray, List.set_cons_succ, List.set_cons_zero]; rfl) : GenT P full n S E (o :: l) k A := gent_cons hc hA h
set_option maxRecDepth 100000 in
theorem gent_nil (h : ∀ vs L w', (∀ k, k < n → L k = true) → S L vs w' → E (A vs) w') : GenT P full n S E [] k A := h
end
end Go.Proofs.YtjbkjgmcfommgaaGreat

namespace Go.Proofs.YtjbkjgmcfommgaaGreat
open Go.RowKit
set_option maxRecDepth 100000
/-- A span put into a row that is in order, behind those that begin no later. -/
theorem put_sorted {p q : List Sp} {x : Sp} (h : (p ++ q).Pairwise (fun x y => x.1 ≤ y.1)) (hp : ∀ y ∈ p, y.1 ≤ x.1) (hq : ∀ y ∈ q, x.1 ≤ y.1) : (p ++ [x] ++ q).Pairwise (fun x y => x.1 ≤ y.1) := by
 rw [List.append_assoc, List.pairwise_append]
 rw [List.pairwise_append] at h
 refine ⟨h.1, List.pairwise_cons.2 ⟨hq, h.2.1⟩, fun a ha b hb => ?_⟩
 rcases List.mem_cons.1 hb with rfl | hb
 ·exact hp a ha
 ·exact h.2.2 a ha b hb
theorem put_perm {p q t : List Sp} {x : Sp} (h : (p ++ q).Perm t) : (p ++ [x] ++ q).Perm (t ++ [x]) := by
 refine ((List.perm_append_comm (l₁ := p) (l₂ := [x])).append_right q).trans ?_
 rw [List.append_assoc]
 exact (List.perm_append_comm).trans (List.Perm.append_right _ h)
theorem gr_append_sp {o : Oper} {ev : Operand → Value} {w : World} {T : Value → World → Prop} (s x : Operand) (ho : o.op = .call { callee := .builtin .append, args := #[s, x], argTypes := #[56, 56] })
 {base : Nat} {v : Value} {l m : List Sp} {A : Option Addr} {c n : Nat} (hn : n = m.length) (hs : ev s = v) (hown : Own w base v l) (hx : ev x = .slice A n c) (hr : Sps w A m) (hlen : l.length + m.length ≤ 1000000) (hbase : base ≤ w.heap.size)
 (h : ∀ v' w', Own w' base v' (l ++ m) → w.grownBy w' v.ownBlock → T v' w') : genR Tryz.prog T ((execOp ev o).run Tryz.prog w) := by
 obtain ⟨i0, hi0, hi1, hi2, hi3, hi4⟩ := sinfo
 subst hn
 obtain ⟨v', w', hrun, h2, h3, h4⟩ := run_append_any (P := Tryz.prog) w base 56 o.type 86 i0 _ 2 16 Tryz.underlying56 hi0 hi3 hi1 hi2 hi4 (by omega) v l.length (scells l) hown w.heap.size A m.length c (scells m) hr (scells_one m) (by simp only [maxLen]; omega) (by omega) hbase
 unfold execOp
 simp only [ho, resolve, invoke, builtin, Sem.run_bind, Sem.run_pure, Result.andThen_ok, List.map_toArray, List.map_cons, List.map_nil, hs, hx, hrun]
 refine h v' w' ?_ h3
 unfold Own
 rw [scells_append, List.length_append]
 exact h2
set_option maxHeartbeats 16000000 in
theorem joined_any (A : Option Addr) (c : Nat) (l : List Sp) (w : World) (h : Sps w A l) (hl : l.length ≤ 10000) (hf : ∀ x ∈ l, fineS x = true) :
 Calls Tryz.prog 141 #[.slice A l.length c] w fun e w' => (∃ v, e = .returned v ∧ Own w' w.heap.size v (formS l)) ∧ Grows w w' := by
 go_enter Tryz.func141, Tryz.ntmps141
 go_wp2_with fail
 go_loopw [3, 13] (fun v i wr => ∃ (k : Nat) (d : List Sp), k ≤ l.length ∧ i = .int .i64 k ∧ d.Perm (l.take k) ∧ d.Pairwise (fun x y => x.1 ≤ y.1) ∧ Own wr w.heap.size v d ∧ Grows w wr) (fun _ i _ => l.length - (intOf i).toNat)
 case atStart => exact ⟨0, [], by omega, rfl, List.Perm.refl _, List.Pairwise.nil, own_nil _ _, Below.refl _ _⟩
 case round =>
  obtain ⟨k, d, hk, rfl, hp, hs, hown, hB⟩ := hrel
  have HPL := Lib.hid (show d.length = k by rw [hp.length_eq, List.length_take]; omega)
  by_cases hlt : k < l.length
  ·obtain ⟨ad, x, rfl, had, hx, c0, c1⟩ := (h.grows hB).elem hlt
   have HT : Hid (l.take (k + 1) = l.take k ++ [x]) := take_snoc hx
   have hxf := (fineS_iff x).1 (hf x (List.mem_of_getElem? hx))
   clear hx
   obtain ⟨A3, c3, rfl, hc3, hin, -⟩ := hown.read
   have k6 := Blk.new wr 86 #[.int .i64 x.1, .int .i64 x.2]
   have hq := (Below.refl wr.heap.size wr).alloc (Nat.le_refl _) (Obj.cells #[.int .i64 x.1, .int .i64 x.2] 86)
   replace hB := below_grows hB (Nat.le_refl _) hq
   replace hin := hin.grows hq
   have hdl : d.length ≤ 10000 := by have := HPL.out; omega
   clear hown
   go_upto_region 6 with fail
   clear c0 c1 hq
   generalize World.alloc wr _ = W0 at *
   generalize wr.heap.size = G6 at *
   have e0 := k6.cell 0
   have e1 := k6.cell 1
   go_loopw [7] (fun i W => ∃ m : Nat, m ≤ d.length ∧ i = .int .i64 m ∧ (∀ y ∈ d.drop m, x.1 ≤ y.1) ∧ Grows W0 W) (fun i _ => (intOf i).toNat)
   case atStart => exact ⟨d.length, Nat.le_refl _, rfl, by simp, Below.refl _ _⟩
   case round =>
    obtain ⟨m, hmd, rfl, hgt, hg⟩ := hrel
    have hg0 := hg
    replace hB := below_grows hB (Nat.le_refl _) hg
    replace hin := hin.grows hg
    replace k6 := k6.grows hg
    clear e0 e1 hg
    have e0 := k6.cell 0
    have e1 := k6.cell 1
    by_cases h0 : m = 0
    ·have hpos : decide ((0 : Int) < (m : Int)) = false := decide_eq_false (by omega)
     have hposN : ¬ 0 < m := by omega
     have HLE : Hid (∀ z ∈ d.take m, z.1 ≤ x.1) := Lib.hid (fun z hz => by rw [h0] at hz; simp at hz)
     clear h0
     go_upto_region 6 with fail
     go_region
     clear hpos hposN
     have hg := Grows.drew' wr
     generalize World.drew _ = W at *
     replace hB := below_grows hB (Nat.le_refl _) hg
     replace hin := hin.grows hg
     replace k6 := k6.grows hg
     clear e0 e1 hg
     have hdec : d.take m ++ d.drop m = d := List.take_append_drop _ _
     have HSO := Lib.hid (put_sorted (by rw [hdec]; exact hs) HLE.out hgt)
     have HPE := Lib.hid (put_perm (x := x) (t := l.take k) (by rw [hdec]; exact hp))
     clear HLE hdec hgt hs hp
     have hmc : m ≤ c3 := by omega
     go_upto_region 8 with fail
     obtain ⟨S, HI, HO⟩ := hideS fun (L : Ran) (vs : Nat → Value) (w' : World) => Grows W w' ∧ KnS [some (.slice A3 d.length c3), some (.int .i64 m), some (.slice A3 m c3), none, some (.agg #[.int .i64 x.1, .int .i64 x.2]), none, none, some (.slice A3 d.length c3), some (.int .i64 m), some (.slice (if c3 = m then A3 else A3.map (fun x => x.add (m * 2))) (d.length - m) (c3 - m)), none] L vs ∧ (L 3 = true → L 6 = false → Own w' W.heap.size (vs 3) (d.take m)) ∧ (L 5 = true → L 6 = false → ∃ gb, vs 5 = .slice (some ⟨gb, 0, none⟩) 1 1 ∧ Sps w' (some ⟨gb, 0, none⟩) [x]) ∧ (L 6 = true → L 10 = false → Own w' W.heap.size (vs 6) (d.take m ++ [x])) ∧ (L 10 = true → Own w' W.heap.size (vs 10) (d.take m ++ [x] ++ d.drop m)) ∧ (L 6 = true → L 3 = true ∧ L 5 = true) ∧ (L 10 = true → L 6 = true)
     refine wp_region_genT S 11 86 (by kernel_rfl) (by kernel_rfl) rfl ?_ ?_
     ·exact HI.out _ _ _ ⟨Grows.drew' _, kn_none _ _, (fun h => by cases h), (fun h => by cases h), (fun h => by cases h), (fun h => by cases h), (fun h => by cases h), (fun h => by cases h)⟩
     simp only [List.take_succ_cons, List.take_zero, List.drop_succ_cons, List.drop_zero]
     refine gent_consR (fun vs L w1 hL hw1 => ?_) ?_
     ·obtain ⟨q0, q1, q3, q5, q6, qa, h6, ha⟩ := HO.out _ _ _ hw1
      refine gen_plain rfl ?_
      go_simp
      exact gr_val (HI.out _ _ _ ⟨q0, kn_known q1 rfl, q3, q5, q6, qa, h6, ha⟩)
     refine gent_consR (fun vs L w1 hL hw1 => ?_) ?_
     ·obtain ⟨q0, q1, q3, q5, q6, qa, h6, ha⟩ := HO.out _ _ _ hw1
      refine gen_plain rfl ?_
      go_simp
      exact gr_val (HI.out _ _ _ ⟨q0, kn_known q1 rfl, q3, q5, q6, qa, h6, ha⟩)
     refine gent_consR (fun vs L w1 hL hw1 => ?_) ?_
     ·obtain ⟨q0, q1, q3, q5, q6, qa, h6, ha⟩ := HO.out _ _ _ hw1
      have l0 : L 0 = true := hL.need 0 (by kernel_rfl)
      have e0 := q1 0 _ rfl l0
      have l1 : L 1 = true := hL.need 1 (by kernel_rfl)
      have e1 := q1 1 _ rfl l1
      refine gen_plain rfl ?_
      simp only [e0, e1]
      go_simp
      exact gr_val (HI.out _ _ _ ⟨q0, kn_known q1 rfl, q3, q5, q6, qa, h6, ha⟩)
     refine gent_consR (fun vs L w1 hL hw1 => ?_) ?_
     ·obtain ⟨q0, q1, q3, q5, q6, qa, h6, ha⟩ := HO.out _ _ _ hw1
      have n3 : L 3 = false := hL.1
      have n6 : L 6 = false := by
       cases h : L 6
       ·rfl
       ·rw [(h6 h).1] at n3; cases n3
      have n10 : L 10 = false := by
       cases h : L 10
       ·rfl
       ·rw [ha h] at n6; cases n6
      have l2 : L 2 = true := hL.need 2 (by kernel_rfl)
      have e2 := q1 2 _ rfl l2
      refine gen_plain rfl ?_
      refine gr_append_sp (.const (.slice none 0 0)) (.tmp 36) rfl (m := d.take m) (by rw [List.length_take]; omega) rfl (own_nil w1 W.heap.size) e2 (sps_take (hin.grows q0) m) (by simp only [List.length_nil, List.length_take]; omega) q0.size ?_
      intro v3 w3 o3 g3
      have hg : Grows w1 w3 := (Below.refl _ _).grown g3 (Nat.le_refl _) (fun q hq => by cases hq)
      exact HI.out _ _ _ ⟨below_grows q0 (Nat.le_refl _) hg, kn_free q1 rfl, fun _ _ => o3, (fun h h0 => by obtain ⟨gb, e, s⟩ := q5 h h0; exact ⟨gb, e, s.grows hg⟩), (fun h _ => by rw [show L 6 = true from h] at n6; cases n6), (fun h => by rw [show L 10 = true from h] at n10; cases n10), (fun h => by rw [show L 6 = true from h] at n6; cases n6), (fun h => by rw [show L 10 = true from h] at n10; cases n10)⟩
     refine gent_consR (fun vs L w1 hL hw1 => ?_) ?_
     ·obtain ⟨q0, q1, q3, q5, q6, qa, h6, ha⟩ := HO.out _ _ _ hw1
      have e0 := (k6.grows q0).cell 0
      have e1 := (k6.grows q0).cell 1
      refine gen_plain rfl ?_
      go_simp
      exact gr_val (HI.out _ _ _ ⟨q0, kn_known q1 rfl, q3, q5, q6, qa, h6, ha⟩)
     refine gent_consR (fun vs L w1 hL hw1 => ?_) ?_
     ·obtain ⟨q0, q1, q3, q5, q6, qa, h6, ha⟩ := HO.out _ _ _ hw1
      have n5 : L 5 = false := hL.1
      have n6 : L 6 = false := by
       cases h : L 6
       ·rfl
       ·rw [(h6 h).2] at n5; cases n5
      have n10 : L 10 = false := by
       cases h : L 10
       ·rfl
       ·rw [ha h] at n6; cases n6
      have l4 : L 4 = true := hL.need 4 (by kernel_rfl)
      have e4 := q1 4 _ rfl l4
      refine gen_plain rfl ?_
      simp only [e4]
      go_simp
      have hg := (Below.refl w1.heap.size w1).alloc (Nat.le_refl _) (Obj.cells (csS x) 86)
      exact gr_val (HI.out _ _ _ ⟨below_grows q0 (Nat.le_refl _) hg, kn_free q1 rfl, (fun h h0 => (q3 h h0).grows hg), (fun _ _ => ⟨_, rfl, sps_lit w1 x⟩), (fun h _ => by rw [show L 6 = true from h] at n6; cases n6), (fun h => by rw [show L 10 = true from h] at n10; cases n10), (fun h => by rw [show L 6 = true from h] at n6; cases n6), (fun h => by rw [show L 10 = true from h] at n10; cases n10)⟩)
     refine gent_consR (fun vs L w1 hL hw1 => ?_) ?_
     ·obtain ⟨q0, q1, q3, q5, q6, qa, h6, ha⟩ := HO.out _ _ _ hw1
      have n6 : L 6 = false := hL.1
      have n10 : L 10 = false := by
       cases h : L 10
       ·rfl
       ·rw [ha h] at n6; cases n6
      have l3 : L 3 = true := hL.need 3 (by kernel_rfl)
      have l5 : L 5 = true := hL.need 5 (by kernel_rfl)
      have o3 := q3 l3 n6
      obtain ⟨gb, e5, s5⟩ := q5 l5 n6
      refine gen_plain rfl ?_
      refine gr_append_sp (.tmp 37) (.tmp 39) rfl (m := [x]) rfl rfl o3 e5 s5 (by simp only [List.length_take, List.length_cons, List.length_nil]; omega) q0.size ?_
      intro v3 w3 o6 g3
      have hg := o3.below q0 g3 q0.size
      exact HI.out _ _ _ ⟨hg, kn_free q1 rfl, (fun _ h => by cases h), (fun _ h => by cases h), fun _ _ => o6, (fun h => by rw [show L 10 = true from h] at n10; cases n10), fun _ => ⟨l3, l5⟩, (fun h => by rw [show L 10 = true from h] at n10; cases n10)⟩
     refine gent_consR (fun vs L w1 hL hw1 => ?_) ?_
     ·obtain ⟨q0, q1, q3, q5, q6, qa, h6, ha⟩ := HO.out _ _ _ hw1
      refine gen_plain rfl ?_
      go_simp
      exact gr_val (HI.out _ _ _ ⟨q0, kn_known q1 rfl, q3, q5, q6, qa, h6, ha⟩)
     refine gent_consR (fun vs L w1 hL hw1 => ?_) ?_
     ·obtain ⟨q0, q1, q3, q5, q6, qa, h6, ha⟩ := HO.out _ _ _ hw1
      refine gen_plain rfl ?_
      go_simp
      exact gr_val (HI.out _ _ _ ⟨q0, kn_known q1 rfl, q3, q5, q6, qa, h6, ha⟩)
     refine gent_consR (fun vs L w1 hL hw1 => ?_) ?_
     ·obtain ⟨q0, q1, q3, q5, q6, qa, h6, ha⟩ := HO.out _ _ _ hw1
      have l7 : L 7 = true := hL.need 7 (by kernel_rfl)
      have e7 := q1 7 _ rfl l7
      have l8 : L 8 = true := hL.need 8 (by kernel_rfl)
      have e8 := q1 8 _ rfl l8
      refine gen_plain rfl ?_
      simp only [e7, e8]
      go_simp
      exact gr_val (HI.out _ _ _ ⟨q0, kn_known q1 rfl, q3, q5, q6, qa, h6, ha⟩)
     refine gent_consR (fun vs L w1 hL hw1 => ?_) ?_
     ·obtain ⟨q0, q1, q3, q5, q6, qa, h6, ha⟩ := HO.out _ _ _ hw1
      have n10 : L 10 = false := hL.1
      have l6 : L 6 = true := hL.need 6 (by kernel_rfl)
      have o6 := q6 l6 n10
      have l9 : L 9 = true := hL.need 9 (by kernel_rfl)
      have e9 := q1 9 _ rfl l9
      refine gen_plain rfl ?_
      refine gr_append_sp (.tmp 40) (.tmp 43) rfl (m := d.drop m) (by simp) rfl o6 e9 (sps_drop (hin.grows q0) hmd hc3) (by simp only [List.length_append, List.length_take, List.length_drop, List.length_cons, List.length_nil]; omega) q0.size ?_
      intro v3 w3 o7 g3
      have hg := o6.below q0 g3 q0.size
      exact HI.out _ _ _ ⟨hg, kn_free q1 rfl, (fun h h0 => by rw [show L 6 = false from h0] at l6; cases l6), (fun h h0 => by rw [show L 6 = false from h0] at l6; cases l6), (fun _ h => by cases h), fun _ => o7, h6, fun _ => l6⟩
     refine gent_nil ?_
     intro vs L W2 hall hS
     obtain ⟨hq, -, -, -, -, qa, -, -⟩ := HO.out _ _ _ hS
     have hown2 := qa (hall 10 (by omega))
     clear hall hS HI HO qa
     have hown3 := hown2.mono hB.size
     have hB2 := below_grows hB (Nat.le_refl _) hq
     clear hown2 hq hin k6
     generalize vs 10 = v44 at *
     go_wp2
     go_roundw
     case rel => exact ⟨k + 1, d.take m ++ [x] ++ d.drop m, by omega, by go_num, by rw [HT.out]; exact HPE.out, HSO.out, hown3, hB2⟩
     case measure => simp [intOf]; omega
    obtain ⟨j, hj⟩ : ∃ j, m = j + 1 := ⟨m - 1, by omega⟩
    obtain ⟨ad3, y, rfl, had3, hy, d0, d1⟩ := hin.elem (k := j) (by omega)
    have HY : Hid (d.take m = d.take j ++ [y]) := Lib.hid (by rw [hj]; exact take_snoc hy)
    have HD : Hid (d.drop j = y :: d.drop m) := Lib.hid (by
     obtain ⟨hj2, hyy⟩ := List.getElem?_eq_some_iff.1 hy
     rw [← hyy, hj]
     exact List.drop_eq_getElem_cons hj2)
    clear hy
    have hidx : IntKind.i64.wrap ((m : Int) - 1) = (j : Int) := by rw [IntWalk.i64_in _ (by omega)]; omega
    have hjd : (j : Int) < (d.length : Int) := by omega
    have hpos : decide ((0 : Int) < (m : Int)) = true := decide_eq_true (by omega)
    have hposN : 0 < m := by omega
    have HJ := Lib.hid hj
    clear hj h0
    by_cases hxy : x.1 < y.1
    ·go_upto_region 6 with fail
     go_region
     have hg := Grows.drew' wr
     generalize World.drew _ = W at *
     clear d0 d1 e0 e1
     go_wp2
     go_roundw
     case rel =>
      refine ⟨j, by omega, by go_num, fun z hz => ?_, below_grows hg0 (Nat.le_refl _) hg⟩
      rw [HD.out] at hz
      rcases List.mem_cons.1 hz with rfl | hz
      ·omega
      ·exact hgt z hz
     case measure =>
      have := HJ.out
      simp [intOf]
      omega
    ·have HLE : Hid (∀ z ∈ d.take m, z.1 ≤ x.1) := Lib.hid (fun z hz => by
      rw [HY.out] at hz
      rcases List.mem_append.1 hz with hz | hz
      ·have := (List.pairwise_append.1 (show (d.take j ++ y :: d.drop m).Pairwise (fun x y => x.1 ≤ y.1) by rw [← HD.out, List.take_append_drop]; exact hs)).2.2 z hz y (by simp)
       omega
      ·rw [List.mem_singleton.1 hz]; omega)
     go_upto_region 6 with fail
     go_region
     clear hpos hposN hidx hjd HY HD HJ d0 d1
     have hg := Grows.drew' wr
     generalize World.drew _ = W at *
     replace hB := below_grows hB (Nat.le_refl _) hg
     replace hin := hin.grows hg
     replace k6 := k6.grows hg
     clear e0 e1 hg
     have hdec : d.take m ++ d.drop m = d := List.take_append_drop _ _
     have HSO := Lib.hid (put_sorted (by rw [hdec]; exact hs) HLE.out hgt)
     have HPE := Lib.hid (put_perm (x := x) (t := l.take k) (by rw [hdec]; exact hp))
     clear HLE hdec hgt hs hp
     have hmc : m ≤ c3 := by omega
     go_upto_region 8 with fail
     obtain ⟨S, HI, HO⟩ := hideS fun (L : Ran) (vs : Nat → Value) (w' : World) => Grows W w' ∧ KnS [some (.slice (some ad3) d.length c3), some (.int .i64 m), some (.slice (some ad3) m c3), none, some (.agg #[.int .i64 x.1, .int .i64 x.2]), none, none, some (.slice (some ad3) d.length c3), some (.int .i64 m), some (.slice (if c3 = m then (some ad3) else (some ad3).map (fun x => x.add (m * 2))) (d.length - m) (c3 - m)), none] L vs ∧ (L 3 = true → L 6 = false → Own w' W.heap.size (vs 3) (d.take m)) ∧ (L 5 = true → L 6 = false → ∃ gb, vs 5 = .slice (some ⟨gb, 0, none⟩) 1 1 ∧ Sps w' (some ⟨gb, 0, none⟩) [x]) ∧ (L 6 = true → L 10 = false → Own w' W.heap.size (vs 6) (d.take m ++ [x])) ∧ (L 10 = true → Own w' W.heap.size (vs 10) (d.take m ++ [x] ++ d.drop m)) ∧ (L 6 = true → L 3 = true ∧ L 5 = true) ∧ (L 10 = true → L 6 = true)
     refine wp_region_genT S 11 86 (by kernel_rfl) (by kernel_rfl) rfl ?_ ?_
     ·exact HI.out _ _ _ ⟨Grows.drew' _, kn_none _ _, (fun h => by cases h), (fun h => by cases h), (fun h => by cases h), (fun h => by cases h), (fun h => by cases h), (fun h => by cases h)⟩
     simp only [List.take_succ_cons, List.take_zero, List.drop_succ_cons, List.drop_zero]
     refine gent_consR (fun vs L w1 hL hw1 => ?_) ?_
     ·obtain ⟨q0, q1, q3, q5, q6, qa, h6, ha⟩ := HO.out _ _ _ hw1
      refine gen_plain rfl ?_
      go_simp
      exact gr_val (HI.out _ _ _ ⟨q0, kn_known q1 rfl, q3, q5, q6, qa, h6, ha⟩)
     refine gent_consR (fun vs L w1 hL hw1 => ?_) ?_
     ·obtain ⟨q0, q1, q3, q5, q6, qa, h6, ha⟩ := HO.out _ _ _ hw1
      refine gen_plain rfl ?_
      go_simp
      exact gr_val (HI.out _ _ _ ⟨q0, kn_known q1 rfl, q3, q5, q6, qa, h6, ha⟩)
     refine gent_consR (fun vs L w1 hL hw1 => ?_) ?_
     ·obtain ⟨q0, q1, q3, q5, q6, qa, h6, ha⟩ := HO.out _ _ _ hw1
      have l0 : L 0 = true := hL.need 0 (by kernel_rfl)
      have e0 := q1 0 _ rfl l0
      have l1 : L 1 = true := hL.need 1 (by kernel_rfl)
      have e1 := q1 1 _ rfl l1
      refine gen_plain rfl ?_
      simp only [e0, e1]
      go_simp
      exact gr_val (HI.out _ _ _ ⟨q0, kn_known q1 rfl, q3, q5, q6, qa, h6, ha⟩)
     refine gent_consR (fun vs L w1 hL hw1 => ?_) ?_
     ·obtain ⟨q0, q1, q3, q5, q6, qa, h6, ha⟩ := HO.out _ _ _ hw1
      have n3 : L 3 = false := hL.1
      have n6 : L 6 = false := by
       cases h : L 6
       ·rfl
       ·rw [(h6 h).1] at n3; cases n3
      have n10 : L 10 = false := by
       cases h : L 10
       ·rfl
       ·rw [ha h] at n6; cases n6
      have l2 : L 2 = true := hL.need 2 (by kernel_rfl)
      have e2 := q1 2 _ rfl l2
      refine gen_plain rfl ?_
      refine gr_append_sp (.const (.slice none 0 0)) (.tmp 36) rfl (m := d.take m) (by rw [List.length_take]; omega) rfl (own_nil w1 W.heap.size) e2 (sps_take (hin.grows q0) m) (by simp only [List.length_nil, List.length_take]; omega) q0.size ?_
      intro v3 w3 o3 g3
      have hg : Grows w1 w3 := (Below.refl _ _).grown g3 (Nat.le_refl _) (fun q hq => by cases hq)
      exact HI.out _ _ _ ⟨below_grows q0 (Nat.le_refl _) hg, kn_free q1 rfl, fun _ _ => o3, (fun h h0 => by obtain ⟨gb, e, s⟩ := q5 h h0; exact ⟨gb, e, s.grows hg⟩), (fun h _ => by rw [show L 6 = true from h] at n6; cases n6), (fun h => by rw [show L 10 = true from h] at n10; cases n10), (fun h => by rw [show L 6 = true from h] at n6; cases n6), (fun h => by rw [show L 10 = true from h] at n10; cases n10)⟩
     refine gent_consR (fun vs L w1 hL hw1 => ?_) ?_
     ·obtain ⟨q0, q1, q3, q5, q6, qa, h6, ha⟩ := HO.out _ _ _ hw1
      have e0 := (k6.grows q0).cell 0
      have e1 := (k6.grows q0).cell 1
      refine gen_plain rfl ?_
      go_simp
      exact gr_val (HI.out _ _ _ ⟨q0, kn_known q1 rfl, q3, q5, q6, qa, h6, ha⟩)
     refine gent_consR (fun vs L w1 hL hw1 => ?_) ?_
     ·obtain ⟨q0, q1, q3, q5, q6, qa, h6, ha⟩ := HO.out _ _ _ hw1
      have n5 : L 5 = false := hL.1
      have n6 : L 6 = false := by
       cases h : L 6
       ·rfl
       ·rw [(h6 h).2] at n5; cases n5
      have n10 : L 10 = false := by
       cases h : L 10
       ·rfl
       ·rw [ha h] at n6; cases n6
      have l4 : L 4 = true := hL.need 4 (by kernel_rfl)
      have e4 := q1 4 _ rfl l4
      refine gen_plain rfl ?_
      simp only [e4]
      go_simp
      have hg := (Below.refl w1.heap.size w1).alloc (Nat.le_refl _) (Obj.cells (csS x) 86)
      exact gr_val (HI.out _ _ _ ⟨below_grows q0 (Nat.le_refl _) hg, kn_free q1 rfl, (fun h h0 => (q3 h h0).grows hg), (fun _ _ => ⟨_, rfl, sps_lit w1 x⟩), (fun h _ => by rw [show L 6 = true from h] at n6; cases n6), (fun h => by rw [show L 10 = true from h] at n10; cases n10), (fun h => by rw [show L 6 = true from h] at n6; cases n6), (fun h => by rw [show L 10 = true from h] at n10; cases n10)⟩)
     refine gent_consR (fun vs L w1 hL hw1 => ?_) ?_
     ·obtain ⟨q0, q1, q3, q5, q6, qa, h6, ha⟩ := HO.out _ _ _ hw1
      have n6 : L 6 = false := hL.1
      have n10 : L 10 = false := by
       cases h : L 10
       ·rfl
       ·rw [ha h] at n6; cases n6
      have l3 : L 3 = true := hL.need 3 (by kernel_rfl)
      have l5 : L 5 = true := hL.need 5 (by kernel_rfl)
      have o3 := q3 l3 n6
      obtain ⟨gb, e5, s5⟩ := q5 l5 n6
      refine gen_plain rfl ?_
      refine gr_append_sp (.tmp 37) (.tmp 39) rfl (m := [x]) rfl rfl o3 e5 s5 (by simp only [List.length_take, List.length_cons, List.length_nil]; omega) q0.size ?_
      intro v3 w3 o6 g3
      have hg := o3.below q0 g3 q0.size
      exact HI.out _ _ _ ⟨hg, kn_free q1 rfl, (fun _ h => by cases h), (fun _ h => by cases h), fun _ _ => o6, (fun h => by rw [show L 10 = true from h] at n10; cases n10), fun _ => ⟨l3, l5⟩, (fun h => by rw [show L 10 = true from h] at n10; cases n10)⟩
     refine gent_consR (fun vs L w1 hL hw1 => ?_) ?_
     ·obtain ⟨q0, q1, q3, q5, q6, qa, h6, ha⟩ := HO.out _ _ _ hw1
      refine gen_plain rfl ?_
      go_simp
      exact gr_val (HI.out _ _ _ ⟨q0, kn_known q1 rfl, q3, q5, q6, qa, h6, ha⟩)
     refine gent_consR (fun vs L w1 hL hw1 => ?_) ?_
     ·obtain ⟨q0, q1, q3, q5, q6, qa, h6, ha⟩ := HO.out _ _ _ hw1
      refine gen_plain rfl ?_
      go_simp
      exact gr_val (HI.out _ _ _ ⟨q0, kn_known q1 rfl, q3, q5, q6, qa, h6, ha⟩)
     refine gent_consR (fun vs L w1 hL hw1 => ?_) ?_
     ·obtain ⟨q0, q1, q3, q5, q6, qa, h6, ha⟩ := HO.out _ _ _ hw1
      have l7 : L 7 = true := hL.need 7 (by kernel_rfl)
      have e7 := q1 7 _ rfl l7
      have l8 : L 8 = true := hL.need 8 (by kernel_rfl)
      have e8 := q1 8 _ rfl l8
      refine gen_plain rfl ?_
      simp only [e7, e8]
      go_simp
      exact gr_val (HI.out _ _ _ ⟨q0, kn_known q1 rfl, q3, q5, q6, qa, h6, ha⟩)
     refine gent_consR (fun vs L w1 hL hw1 => ?_) ?_
     ·obtain ⟨q0, q1, q3, q5, q6, qa, h6, ha⟩ := HO.out _ _ _ hw1
      have n10 : L 10 = false := hL.1
      have l6 : L 6 = true := hL.need 6 (by kernel_rfl)
      have o6 := q6 l6 n10
      have l9 : L 9 = true := hL.need 9 (by kernel_rfl)
      have e9 := q1 9 _ rfl l9
      refine gen_plain rfl ?_
      refine gr_append_sp (.tmp 40) (.tmp 43) rfl (m := d.drop m) (by simp) rfl o6 e9 (sps_drop (hin.grows q0) hmd hc3) (by simp only [List.length_append, List.length_take, List.length_drop, List.length_cons, List.length_nil]; omega) q0.size ?_
      intro v3 w3 o7 g3
      have hg := o6.below q0 g3 q0.size
      exact HI.out _ _ _ ⟨hg, kn_free q1 rfl, (fun h h0 => by rw [show L 6 = false from h0] at l6; cases l6), (fun h h0 => by rw [show L 6 = false from h0] at l6; cases l6), (fun _ h => by cases h), fun _ => o7, h6, fun _ => l6⟩
     refine gent_nil ?_
     intro vs L W2 hall hS
     obtain ⟨hq, -, -, -, -, qa, -, -⟩ := HO.out _ _ _ hS
     have hown2 := qa (hall 10 (by omega))
     clear hall hS HI HO qa
     have hown3 := hown2.mono hB.size
     have hB2 := below_grows hB (Nat.le_refl _) hq
     clear hown2 hq hin k6
     generalize vs 10 = v44 at *
     go_wp2
     go_roundw
     case rel => exact ⟨k + 1, d.take m ++ [x] ++ d.drop m, by omega, by go_num, by rw [HT.out]; exact HPE.out, HSO.out, hown3, hB2⟩
     case measure => simp [intOf]; omega
  ·have e : l.take k = l := List.take_of_length_le (by omega)
   rw [e] at hp
   clear e HPL
   obtain ⟨A3, c3, rfl, hc3, hin, -⟩ := hown.read
   have HPL := Lib.hid (show d.length = l.length from hp.length_eq)
   have hdl : d.length ≤ 10000 := by have := HPL.out; omega
   have hfd : ∀ x ∈ d, fineS x = true := fun x hx => hf x (hp.mem_iff.1 hx)
   clear hown
   have hB1 := hB
   clear hB
   go_upto_region 11 with fail
   generalize wr = W1 at *
   go_loopw [4, 48] (fun v i wr => ∃ j : Nat, j ≤ d.length ∧ i = .int .i64 j ∧ Own wr W1.heap.size v (mergeL (d.take j)) ∧ Grows W1 wr) (fun _ i _ => d.length - (intOf i).toNat)
   case atStart => exact ⟨0, by omega, rfl, own_nil _ _, Below.refl _ _⟩
   case round =>
    obtain ⟨k, hk, rfl, hown, hB⟩ := hrel
    by_cases hlt : k < d.length
    ·obtain ⟨ad, x, rfl, had, hx, c0, c1⟩ := (hin.grows hB).elem hlt
     have HX : Hid (mergeL (d.take (k + 1)) = mergeS (mergeL (d.take k)) x) := Lib.hid (by rw [take_snoc hx, mergeL_snoc])
     have hxf := (fineS_iff x).1 (hfd x (List.mem_of_getElem? hx))
     have hof := mergeL_fine (d.take k) fun z hz => hfd z (List.mem_of_mem_take hz)
     have hlen : (mergeL (d.take k)).length ≤ 100000 := Nat.le_trans (mergeL_len _) (by rw [List.length_take]; omega)
     generalize mergeL (d.take k) = out at *
     clear hx
     have hz := hB.size
     obtain ⟨A2, c2, rfl, hcap, hr, hge⟩ := hown.read
     have k5 := Blk.new wr 86 #[.int .i64 x.1, .int .i64 x.2]
     have hq := (Below.refl wr.heap.size wr).alloc (Nat.le_refl _) (Obj.cells #[.int .i64 x.1, .int .i64 x.2] 86)
     by_cases h0 : out.length = 0
     ·obtain rfl : out = [] := List.length_eq_zero_iff.1 h0
      go_upto_region 14 with fail
      go_region
      have hq6 := below_grows hq (Nat.le_refl _) (Grows.drew' _)
      replace k5 := k5.drew
      have hown6 := hown.grows hq6
      have hB6 := below_grows hB (Nat.le_refl _) hq6
      have hz6 := hB6.size
      generalize World.drew _ = w6 at *
      clear hq hq6
      have e0 := k5.cell 0
      have e1 := k5.cell 1
      go_upto_region 16 with fail
      refine wp_region_lit ?_
      iterate 3
       refine wpList_plain rfl (fun K hK => ?_)
       go_simp
       refine hK _ _ ?_
       clear hK K
      have hq8 := (Below.refl w6.heap.size w6).alloc (Nat.le_refl _) (Obj.cells #[.int .i64 x.1, .int .i64 x.2] 86)
      have hown8 := hown6.grows hq8
      have hB8 := below_grows hB6 (Nat.le_refl _) hq8
      refine wpList_append_sp rfl (.tmp 80) (.tmp 82) rfl (m := [x]) rfl rfl hown8 rfl (sps_lit w6 x) (by simp <;> omega) hB8.size ?_
      intro v3 w3 hown3 hgr3
      have hB3 := hown8.below hB8 hgr3 hB8.size
      clear hown hown6 hown8 hgr3 hq8 hB6 hB8 e0 e1 k5
      have e : mergeL (d.take (k + 1)) = [] ++ [x] := HX.out
      rw [← e] at hown3
      go_wp2
      go_roundw
      case rel => exact ⟨k + 1, by omega, by go_num, hown3, hB3⟩
      case measure => simp [intOf]; omega
     ·obtain ⟨q, y, rfl⟩ : ∃ q y, out = q ++ [y] := by
       cases hl : out.getLast? with
       | none => exact absurd (by rw [List.getLast?_eq_none_iff.1 hl]; rfl) h0
       | some y => exact ⟨out.dropLast, y, last_split hl⟩
      obtain ⟨ad2, y', rfl, had2, hy', d0, d1⟩ := hr.elem (k := q.length) (by simp)
      obtain rfl : y' = y := by simpa using hy'.symm
      have hyf := (fineS_iff y').1 (hof y' (by simp))
      have HM : Hid (mergeS (q ++ [y']) x = if x.1 ≤ y'.2 + 1 then q ++ [(y'.1, max y'.2 x.2)] else (q ++ [y']) ++ [x]) := Lib.hid (by unfold mergeS; rw [List.getLast?_concat]; simp only [List.dropLast_concat])
      clear hof hy' h0
      obtain ⟨g, rfl, hg1, hg2⟩ := hown.addr (by simp)
      have hn1 : (q ++ [y']).length = q.length + 1 := by simp
      rw [hn1] at hown hlen hcap ⊢
      have hpa : (⟨g, 0, none⟩ : Addr).add (q.length * 2) = ⟨g, q.length * 2, none⟩ := by
       unfold Addr.add
       split
       ·simp_all
       ·simp
      rw [hpa] at d0 d1
      simp only [] at d0 d1
      have hfz := (show Own wr W1.heap.size (.slice (some ⟨g, 0, none⟩) (q ++ [y']).length c2) (q ++ [y']) by rw [hn1]; exact hown).frozenAt (q.length * 2 + 1)
      have hidx : IntKind.i64.wrap (((q.length + 1 : Nat) : Int) - 1) = (q.length : Int) := by rw [IntWalk.i64_in _ (by omega)]; omega
      have hadd : IntKind.i64.wrap (x.1 - 1) = x.1 - 1 := IntWalk.i64_in _ (by omega)
      clear hr hge had2
      by_cases ht : x.1 ≤ y'.2 + 1
      ·have ht2 : x.1 - 1 ≤ y'.2 := by omega
       go_upto_region 14 with fail
       go_region
       go_upto_region 15 with fail
       go_region
       have hown2 : Own wr W1.heap.size (.slice (some ⟨g, 0, none⟩) (q ++ [y']).length c2) (q ++ [y']) := by rw [hn1]; exact hown
       have e : mergeL (d.take (k + 1)) = q ++ [(y'.1, max y'.2 x.2)] := by rw [HX.out, HM.out, if_pos ht]
       have HE := Lib.hid e
       clear e HX HM
       generalize (max y'.2 x.2) = z at *
       have h3 := hown2.setHi z
       have hb3 := hB.setCell (p := ⟨g, q.length * 2 + 1, none⟩) hg1 (.int .i64 z)
       rw [hn1] at h3
       generalize World.setCell wr _ _ = w3 at *
       have hg3 : Grows w3 ((w3.alloc (Obj.cells #[.int .i64 x.1, .int .i64 x.2] 86)).drew.drew) := below_grows (below_grows ((Below.refl w3.heap.size w3).alloc (Nat.le_refl _) (Obj.cells #[.int .i64 x.1, .int .i64 x.2] 86)) (Nat.le_refl _) (Grows.drew' _)) (Nat.le_refl _) (Grows.drew' _)
       replace h3 := h3.grows hg3
       replace hb3 := below_grows hb3 (Nat.le_refl _) hg3
       rw [← HE.out] at h3
       clear hown hown2 k5 hq d0 d1 hfz hidx hadd hg3
       generalize World.drew _ = w4 at *
       go_wp2
       go_roundw
       case rel => exact ⟨k + 1, by omega, by go_num, h3, hb3⟩
       case measure => simp [intOf]; omega
      ·have ht2 : ¬ x.1 - 1 ≤ y'.2 := by omega
       go_upto_region 14 with fail
       go_region
       have hq6 := below_grows hq (Nat.le_refl _) (Grows.drew' _)
       replace k5 := k5.drew
       have hown6 := hown.grows hq6
       have hB6 := below_grows hB (Nat.le_refl _) hq6
       have hz6 := hB6.size
       generalize World.drew _ = w6 at *
       clear hq hq6
       have e0 := k5.cell 0
       have e1 := k5.cell 1
       clear d0 d1 hfz hidx hadd
       go_upto_region 16 with fail
       refine wp_region_lit ?_
       iterate 3
        refine wpList_plain rfl (fun K hK => ?_)
        go_simp
        refine hK _ _ ?_
        clear hK K
       have hq8 := (Below.refl w6.heap.size w6).alloc (Nat.le_refl _) (Obj.cells #[.int .i64 x.1, .int .i64 x.2] 86)
       have hown8 := hown6.grows hq8
       have hB8 := below_grows hB6 (Nat.le_refl _) hq8
       refine wpList_append_sp rfl (.tmp 80) (.tmp 82) rfl (m := [x]) rfl rfl hown8 rfl (sps_lit w6 x) (by simp <;> omega) hB8.size ?_
       intro v3 w3 hown3 hgr3
       have hB3 := hown8.below hB8 hgr3 hB8.size
       clear hown hown6 hown8 hgr3 hq8 hB6 hB8 e0 e1 k5
       have e : mergeL (d.take (k + 1)) = (q ++ [y']) ++ [x] := by rw [HX.out, HM.out, if_neg ht]
       rw [← e] at hown3
       clear HX HM e
       go_wp2
       go_roundw
       case rel => exact ⟨k + 1, by omega, by go_num, hown3, hB3⟩
       case measure => simp [intOf]; omega
    ·have e : d.take k = d := List.take_of_length_le (by omega)
     rw [e, form_eq hf hp hs] at hown
     replace hown := hown.mono hB1.size
     have hB2 := below_grows hB1 (Nat.le_refl _) hB
     clear e
     go_wp2
     go_ret
     exact ⟨⟨_, rfl, hown⟩, hB2⟩
end Go.Proofs.YtjbkjgmcfommgaaGreat

namespace Go.Proofs.YtjbkjgmcfommgaaGreat
open Go.RowKit
/-- A property of a value that stays when the world grows. -/
abbrev GP := {P : World → Value → Prop // ∀ w w' v, P w v → Grows w w' → P w' v}
/-- The values that are described. -/
def DsS (DS : List (Option GP)) (L : Ran) (vs : Nat → Value) (w : World) : Prop := ∀ j P, DS[j]? = some (some P) → L j = true → P.1 w (vs j)
section
variable {DS : List (Option GP)} {L : Ran} {vs : Nat → Value} {w w' : World} {k : Nat} {u : Value}
set_option maxRecDepth 100000 in
theorem ds_none (DS : List (Option GP)) (vs : Nat → Value) (w : World) : DsS DS (fun _ => false) vs w := fun _ _ _ h => by cases h
set_option maxRecDepth 100000 in
theorem DsS.grows (h : DsS DS L vs w) (hg : Grows w w') : DsS DS L vs w' := fun j P hj hL => P.2 w w' (vs j) (h j P hj hL) hg
set_option maxRecDepth 100000 in
theorem ds_free (h : DsS DS L vs w) (hk : DS[k]? = some none) : DsS DS (upd L k) (setV vs k u) w := by
 intro j P hj hL
 unfold setV
 unfold upd at hL
 by_cases e : j = k
 ·subst e
  rw [hk] at hj
  cases hj
 ·rw [if_neg e] at hL ⊢
  exact h j P hj hL
set_option maxRecDepth 100000 in
theorem ds_put {P : GP} (h : DsS DS L vs w) (hk : DS[k]? = some (some P)) (hP : P.1 w u) : DsS DS (upd L k) (setV vs k u) w := by
 intro j P' hj hL
 unfold setV
 unfold upd at hL
 by_cases e : j = k
 ·subst e
  rw [hk] at hj
  injection hj with hj
  injection hj with hj
  subst hj
  rw [if_pos rfl]
  exact hP
 ·rw [if_neg e] at hL ⊢
  exact h j P' hj hL
end
end Go.Proofs.YtjbkjgmcfommgaaGreat

namespace Go.Proofs.YtjbkjgmcfommgaaGreat
open Go.RowKit
def DR (w : World) (B g : Nat) : Prop := ∃ l, Dice w B g l
theorem DR.grows {w w' : World} {B g : Nat} (h : DR w B g) (hg : Grows w w') : DR w' B g := by
 obtain ⟨l, h⟩ := h
 exact ⟨l, h.grows hg⟩
theorem DR.lt {w : World} {B g : Nat} (h : DR w B g) : g < w.heap.size := by
 obtain ⟨l, h⟩ := h
 exact h.lt
theorem DR.put {w : World} {B g : Nat} (h : DR w B g) {p : Addr} (hp : B ≤ p.block) (hg : g ≠ p.block) (u : Value) : DR (w.setCell p u) B g := by
 obtain ⟨l, h⟩ := h
 exact ⟨l, h.put hp hg u⟩
theorem DR.lo {w : World} {B g : Nat} (h : DR w B g) : B ≤ g := by
 obtain ⟨l, A, c, h⟩ := h
 exact h.lo
set_option maxHeartbeats 4000000 in
theorem rolls_any (B g : Nat) (n : Int) (w : World) (h : DR w B g) (hn : 1 ≤ n) (hn2 : n ≤ 9223372036854775807) :
 Calls Tryz.prog 25 #[.pointer (some ⟨g, 0, none⟩), .int .i64 n] w fun e w' => (∃ r, e = .returned (.int .i64 r) ∧ 0 ≤ r ∧ r < n) ∧ DR w' B g ∧ w.grownBy w' (some g) := by
 obtain ⟨l, h⟩ := h
 by_cases h2 : 2 ≤ n
 ·exact (roll_any B g l n w h h2 hn2).mono fun e w' ⟨he, hd, hg, _⟩ => ⟨⟨_, he, (rollV_bd l hn).1, (rollV_bd l hn).2⟩, ⟨_, hd⟩, hg⟩
 obtain rfl : n = 1 := by omega
 have h0 := h
 obtain ⟨A, c, h⟩ := h
 have x1 := h.blk.cell 0
 have d1 : decide ((1 : Int) ≤ 1) = true := by decide
 go_enter Tryz.func25, Tryz.ntmps25
 by_cases hl : l.length = 0
 ·have d2 : ((l.length : Int) == 0) = true := by simp only [beq_iff_eq]; omega
  clear hl h
  go_wp2
  go_ret
  exact ⟨⟨0, rfl, by omega, by omega⟩, ⟨l, h0⟩, World.grownBy.refl w _⟩
 ·have d2 : ((l.length : Int) == 0) = false := by simp only [beq_eq_false_iff_ne, ne_eq]; omega
  clear hl h
  go_wp2
  go_ret
  exact ⟨⟨0, rfl, by omega, by omega⟩, ⟨l, h0⟩, World.grownBy.refl w _⟩
set_option maxRecDepth 100000
theorem add_head (g k : Nat) : (⟨g, 0, none⟩ : Addr).add k = ⟨g, k, none⟩ := by unfold Addr.add; split <;> simp_all
def mapsL : List (List Int) := [[3], [1, 2], [1, 2, 3, 4, 5, 6], [2, 1], [1, 2, 7, 8], [4], [1, 3]]
theorem mapsL_ok : ∀ m ∈ mapsL, validM m = true ∧ 0 < m.length ∧ m.length ≤ 8 := by decide
theorem mapsL_len : mapsL.length = 7 := rfl
theorem inB_of {w : World} {A : Option Addr} {l : List Int} {n : Nat} (h : Ints w A l) (hA : ∀ ad, A = some ad → n ≤ ad.block) : InB w (Ge n) A l := ⟨h, fun _ ad e => hA ad e⟩
set_option maxHeartbeats 4000000 in
theorem maps_lit (w : World) : ∃ W A, Calls Tryz.prog 63 #[] w (fun e w' => e = .returned (.slice (some A) 7 7) ∧ w' = W) ∧ MapsR W (Ge w.heap.size) (some A) mapsL ∧ Grows w W := by
 have e0 : w.heap.size = w.heap.size + 0 := rfl
 obtain ⟨W1, hW1⟩ : ∃ W, W = w.alloc (Obj.cells #[.int .i64 3] 3) := ⟨_, rfl⟩
 have s1 : W1.heap.size = w.heap.size + 1 := by rw [hW1]; simp
 have i1 : Ints W1 (some ⟨w.heap.size, 0, none⟩) [3] := by rw [hW1]; exact ints_lits w [3] #[.int .i64 3] 3 rfl
 have g1 : Grows w W1 := by rw [hW1]; exact (Below.refl _ _).alloc (Nat.le_refl _) _
 obtain ⟨W2, hW2⟩ : ∃ W, W = W1.alloc (Obj.cells #[.int .i64 1, .int .i64 2] 3) := ⟨_, rfl⟩
 have s2 : W2.heap.size = w.heap.size + 2 := by rw [hW2]; simp [s1]
 have i2 : Ints W2 (some ⟨w.heap.size + 1, 0, none⟩) [1, 2] := by rw [← s1, hW2]; exact ints_lits W1 [1, 2] #[.int .i64 1, .int .i64 2] 3 rfl
 have g2 : Grows W1 W2 := by rw [hW2]; exact (Below.refl _ _).alloc (Nat.le_refl _) _
 obtain ⟨W3, hW3⟩ : ∃ W, W = W2.alloc (Obj.cells #[.int .i64 1, .int .i64 2, .int .i64 3, .int .i64 4, .int .i64 5, .int .i64 6] 3) := ⟨_, rfl⟩
 have s3 : W3.heap.size = w.heap.size + 3 := by rw [hW3]; simp [s2]
 have i3 : Ints W3 (some ⟨w.heap.size + 2, 0, none⟩) [1, 2, 3, 4, 5, 6] := by rw [← s2, hW3]; exact ints_lits W2 [1, 2, 3, 4, 5, 6] #[.int .i64 1, .int .i64 2, .int .i64 3, .int .i64 4, .int .i64 5, .int .i64 6] 3 rfl
 have g3 : Grows W2 W3 := by rw [hW3]; exact (Below.refl _ _).alloc (Nat.le_refl _) _
 obtain ⟨W4, hW4⟩ : ∃ W, W = W3.alloc (Obj.cells #[.int .i64 2, .int .i64 1] 3) := ⟨_, rfl⟩
 have s4 : W4.heap.size = w.heap.size + 4 := by rw [hW4]; simp [s3]
 have i4 : Ints W4 (some ⟨w.heap.size + 3, 0, none⟩) [2, 1] := by rw [← s3, hW4]; exact ints_lits W3 [2, 1] #[.int .i64 2, .int .i64 1] 3 rfl
 have g4 : Grows W3 W4 := by rw [hW4]; exact (Below.refl _ _).alloc (Nat.le_refl _) _
 obtain ⟨W5, hW5⟩ : ∃ W, W = W4.alloc (Obj.cells #[.int .i64 1, .int .i64 2, .int .i64 7, .int .i64 8] 3) := ⟨_, rfl⟩
 have s5 : W5.heap.size = w.heap.size + 5 := by rw [hW5]; simp [s4]
 have i5 : Ints W5 (some ⟨w.heap.size + 4, 0, none⟩) [1, 2, 7, 8] := by rw [← s4, hW5]; exact ints_lits W4 [1, 2, 7, 8] #[.int .i64 1, .int .i64 2, .int .i64 7, .int .i64 8] 3 rfl
 have g5 : Grows W4 W5 := by rw [hW5]; exact (Below.refl _ _).alloc (Nat.le_refl _) _
 obtain ⟨W6, hW6⟩ : ∃ W, W = W5.alloc (Obj.cells #[.int .i64 4] 3) := ⟨_, rfl⟩
 have s6 : W6.heap.size = w.heap.size + 6 := by rw [hW6]; simp [s5]
 have i6 : Ints W6 (some ⟨w.heap.size + 5, 0, none⟩) [4] := by rw [← s5, hW6]; exact ints_lits W5 [4] #[.int .i64 4] 3 rfl
 have g6 : Grows W5 W6 := by rw [hW6]; exact (Below.refl _ _).alloc (Nat.le_refl _) _
 obtain ⟨W7, hW7⟩ : ∃ W, W = W6.alloc (Obj.cells #[.int .i64 1, .int .i64 3] 3) := ⟨_, rfl⟩
 have s7 : W7.heap.size = w.heap.size + 7 := by rw [hW7]; simp [s6]
 have i7 : Ints W7 (some ⟨w.heap.size + 6, 0, none⟩) [1, 3] := by rw [← s6, hW7]; exact ints_lits W6 [1, 3] #[.int .i64 1, .int .i64 3] 3 rfl
 have g7 : Grows W6 W7 := by rw [hW7]; exact (Below.refl _ _).alloc (Nat.le_refl _) _
 obtain ⟨W8, hW8⟩ : ∃ W, W = W7.alloc (Obj.cells #[.slice (some ⟨w.heap.size, 0, none⟩) 1 1, .slice (some ⟨w.heap.size + 1, 0, none⟩) 2 2, .slice (some ⟨w.heap.size + 2, 0, none⟩) 6 6, .slice (some ⟨w.heap.size + 3, 0, none⟩) 2 2, .slice (some ⟨w.heap.size + 4, 0, none⟩) 4 4, .slice (some ⟨w.heap.size + 5, 0, none⟩) 1 1, .slice (some ⟨w.heap.size + 6, 0, none⟩) 2 2] 38) := ⟨_, rfl⟩
 have k8 : Blk W8 (w.heap.size + 7) 38 #[.slice (some ⟨w.heap.size, 0, none⟩) 1 1, .slice (some ⟨w.heap.size + 1, 0, none⟩) 2 2, .slice (some ⟨w.heap.size + 2, 0, none⟩) 6 6, .slice (some ⟨w.heap.size + 3, 0, none⟩) 2 2, .slice (some ⟨w.heap.size + 4, 0, none⟩) 4 4, .slice (some ⟨w.heap.size + 5, 0, none⟩) 1 1, .slice (some ⟨w.heap.size + 6, 0, none⟩) 2 2] := by rw [hW8, ← s7]; exact Blk.new _ _ _
 have g8 : Grows W7 W8 := by rw [hW8]; exact (Below.refl _ _).alloc (Nat.le_refl _) _
 have s8 : W8.heap.size = w.heap.size + 8 := by rw [hW8]; simp [s7]
 have j1 := (((((((i1.grows g2).grows g3).grows g4).grows g5).grows g6).grows g7).grows g8)
 have j2 := ((((((i2.grows g3).grows g4).grows g5).grows g6).grows g7).grows g8)
 have j3 := (((((i3.grows g4).grows g5).grows g6).grows g7).grows g8)
 have j4 := ((((i4.grows g5).grows g6).grows g7).grows g8)
 have j5 := (((i5.grows g6).grows g7).grows g8)
 have j6 := ((i6.grows g7).grows g8)
 have j7 := (i7.grows g8)
 have gA : Grows w W8 := (below_grows (below_grows (below_grows (below_grows (below_grows (below_grows (below_grows g1 (Nat.le_refl _) g2) (Nat.le_refl _) g3) (Nat.le_refl _) g4) (Nat.le_refl _) g5) (Nat.le_refl _) g6) (Nat.le_refl _) g7) (Nat.le_refl _) g8)
 refine ⟨W8, ⟨w.heap.size + 7, 0, none⟩, ?_, ?_, gA⟩
 ·clear gA k8 i1 i2 i3 i4 i5 i6 i7 j1 j2 j3 j4 j5 j6 j7 g1 g2 g3 g4 g5 g6 g7 g8 s1 s2 s3 s4 s5 s6 s7 s8 e0
  subst hW1 hW2 hW3 hW4 hW5 hW6 hW7 hW8
  go_enter Tryz.func63, Tryz.ntmps63
  go_wp2
  go_ret
  first
   | exact ⟨rfl, rfl⟩
   | (simp; done)
   | trace_state
 ·refine ⟨#[.slice (some ⟨w.heap.size, 0, none⟩) 1 1, .slice (some ⟨w.heap.size + 1, 0, none⟩) 2 2, .slice (some ⟨w.heap.size + 2, 0, none⟩) 6 6, .slice (some ⟨w.heap.size + 3, 0, none⟩) 2 2, .slice (some ⟨w.heap.size + 4, 0, none⟩) 4 4, .slice (some ⟨w.heap.size + 5, 0, none⟩) 1 1, .slice (some ⟨w.heap.size + 6, 0, none⟩) 2 2].toList, ⟨⟨rfl, fun _ => ⟨_, rfl, by rw [s8]; exact Nat.lt_of_lt_of_le (Nat.lt_succ_self _) (Nat.le_refl _), fun j u hu => ?_⟩⟩, fun _ ad e => by injection e with e; subst e; exact Nat.le_add_right _ 7⟩, fun i x hx => ?_⟩
  ·rw [add_head, k8.cell, ← Array.getElem?_toList]
   exact hu
  ·match i, hx with
   | 0, hx => (injection hx with hx; subst hx; exact ⟨_, _, rfl, Nat.le_refl _, inB_of j1 (fun ad e => by injection e with e; subst e; simp)⟩)
   | 1, hx => (injection hx with hx; subst hx; exact ⟨_, _, rfl, Nat.le_refl _, inB_of j2 (fun ad e => by injection e with e; subst e; simp)⟩)
   | 2, hx => (injection hx with hx; subst hx; exact ⟨_, _, rfl, Nat.le_refl _, inB_of j3 (fun ad e => by injection e with e; subst e; simp)⟩)
   | 3, hx => (injection hx with hx; subst hx; exact ⟨_, _, rfl, Nat.le_refl _, inB_of j4 (fun ad e => by injection e with e; subst e; simp)⟩)
   | 4, hx => (injection hx with hx; subst hx; exact ⟨_, _, rfl, Nat.le_refl _, inB_of j5 (fun ad e => by injection e with e; subst e; simp)⟩)
   | 5, hx => (injection hx with hx; subst hx; exact ⟨_, _, rfl, Nat.le_refl _, inB_of j6 (fun ad e => by injection e with e; subst e; simp)⟩)
   | 6, hx => (injection hx with hx; subst hx; exact ⟨_, _, rfl, Nat.le_refl _, inB_of j7 (fun ad e => by injection e with e; subst e; simp)⟩)
   | i + 7, hx => exact absurd (List.getElem?_eq_some_iff.1 hx).1 (by rw [mapsL_len]; omega)
end Go.Proofs.YtjbkjgmcfommgaaGreat

namespace Go.Proofs.YtjbkjgmcfommgaaGreat
open Go.RowKit
def Btw (a b : Nat) : Nat → Prop := fun k => a ≤ k ∧ k < b
def SetN (w : World) (n : Nat) (l : List Sp) (v : Value) : Prop := ∃ A c, v = .agg #[.slice A l.length c] ∧ l.length ≤ c ∧ Sps w A l ∧ ∀ ad, A = some ad → n ≤ ad.block
theorem setN_nil (w : World) (n : Nat) : SetN w n [] (.agg #[.slice none 0 0]) := ⟨none, 0, rfl, Nat.le_refl _, sps_nil w, fun ad e => by cases e⟩
set_option maxHeartbeats 8000000 in
theorem rmakeb_any (A : Option Addr) (c : Nat) (l : List Sp) (w : World) (h : Sps w A l) (hl : l.length ≤ 10000) :
 Calls Tryz.prog 117 #[.slice A l.length c] w fun e w' => (∃ v, e = .returned (.tuple #[v, .int .i64 (makeF l).2]) ∧ SetN w' w.heap.size (makeF l).1 v) ∧ Grows w w' := by
 have k2 := Blk.new w 58 #[.slice none 0 0]
 have hB := (Below.refl w.heap.size w).alloc (Nat.le_refl _) (Obj.cells #[.slice none 0 0] 58)
 have h1 := h.grows hB
 go_enter Tryz.func117, Tryz.ntmps117
 go_upto_region 1 with fail
 generalize World.alloc w _ = w1 at *
 go_wp2_with fail
 go_loopw [9] (fun i wr => ∃ k : Nat, k ≤ l.length ∧ i = .int .i64 k ∧ (l.take k).all fineS = true ∧ Grows w1 wr) (fun i _ => l.length - (intOf i).toNat)
 case atStart => exact ⟨0, by omega, rfl, rfl, Below.refl _ _⟩
 case round =>
  obtain ⟨k, hk, rfl, hall, hg⟩ := hrel
  by_cases hlt : k < l.length
  ·obtain ⟨ad, x, rfl, had, hx, c0, c1⟩ := (h1.grows hg).elem hlt
   have HX := Lib.hid (all_snoc hx)
   have HM : Hid (x ∈ l) := List.mem_of_getElem? hx
   clear hx
   have hq := (Below.refl wr.heap.size wr).alloc (Nat.le_refl _) (Obj.cells #[.int .i64 x.1, .int .i64 x.2] 86)
   replace hg := below_grows hg (Nat.le_refl _) hq
   clear hq
   have k5 := Blk.new wr 86 #[.int .i64 x.1, .int .i64 x.2]
   go_upto_region 4 with fail
   generalize World.alloc wr _ = w3 at *
   generalize wr.heap.size = G5 at *
   clear c0 c1
   have e0 := k5.cell 0
   have e1 := k5.cell 1
   by_cases h1 : x.1 < 0
   ·skip
    have hm : makeF l = ([], 2) := by
     unfold makeF
     rw [if_neg]
     intro ha
     have := List.all_eq_true.1 ha x HM.out
     rw [show fineS x = false by simp [fineS]; omega] at this
     cases this
    have k3 := k2.grows hg
    have x3 := k3.cell 0
    have f3 := k3.frozen 0
    have HE := Lib.hid hm
    clear hm
    go_wp2
    have k4 := k3.set_ 0 (.slice none 0 0)
    have hB4 := (below_grows hB (Nat.le_refl _) hg).setCell (p := ⟨w.heap.size, 0, none⟩) (Nat.le_refl _) (.slice none 0 0)
    generalize World.setCell _ _ _ = w5 at *
    have x4 : w5.cell? ⟨w.heap.size, 0, none⟩ = some (.slice none 0 0) := by rw [k4.cell]; rfl
    clear x3 f3 k3 k4
    refine bodyPost_ret (v := .tuple #[.agg #[.slice none 0 0], .int .i64 2]) (by simp [results, Tryz.results117, go_sem, x4]) rfl ⟨⟨_, by rw [HE.out], by rw [HE.out]; exact setN_nil _ _⟩, hB4⟩
   by_cases h2 : x.2 < x.1
   ·skip
    have hm : makeF l = ([], 2) := by
     unfold makeF
     rw [if_neg]
     intro ha
     have := List.all_eq_true.1 ha x HM.out
     rw [show fineS x = false by simp [fineS]; omega] at this
     cases this
    have k3 := k2.grows hg
    have x3 := k3.cell 0
    have f3 := k3.frozen 0
    have HE := Lib.hid hm
    clear hm
    go_wp2
    have k4 := k3.set_ 0 (.slice none 0 0)
    have hB4 := (below_grows hB (Nat.le_refl _) hg).setCell (p := ⟨w.heap.size, 0, none⟩) (Nat.le_refl _) (.slice none 0 0)
    generalize World.setCell _ _ _ = w5 at *
    have x4 : w5.cell? ⟨w.heap.size, 0, none⟩ = some (.slice none 0 0) := by rw [k4.cell]; rfl
    clear x3 f3 k3 k4
    refine bodyPost_ret (v := .tuple #[.agg #[.slice none 0 0], .int .i64 2]) (by simp [results, Tryz.results117, go_sem, x4]) rfl ⟨⟨_, by rw [HE.out], by rw [HE.out]; exact setN_nil _ _⟩, hB4⟩
   by_cases h3 : 2147483647 < x.2
   ·skip
    have hm : makeF l = ([], 2) := by
     unfold makeF
     rw [if_neg]
     intro ha
     have := List.all_eq_true.1 ha x HM.out
     rw [show fineS x = false by simp [fineS]; omega] at this
     cases this
    have k3 := k2.grows hg
    have x3 := k3.cell 0
    have f3 := k3.frozen 0
    have HE := Lib.hid hm
    clear hm
    go_wp2
    have k4 := k3.set_ 0 (.slice none 0 0)
    have hB4 := (below_grows hB (Nat.le_refl _) hg).setCell (p := ⟨w.heap.size, 0, none⟩) (Nat.le_refl _) (.slice none 0 0)
    generalize World.setCell _ _ _ = w5 at *
    have x4 : w5.cell? ⟨w.heap.size, 0, none⟩ = some (.slice none 0 0) := by rw [k4.cell]; rfl
    clear x3 f3 k3 k4
    refine bodyPost_ret (v := .tuple #[.agg #[.slice none 0 0], .int .i64 2]) (by simp [results, Tryz.results117, go_sem, x4]) rfl ⟨⟨_, by rw [HE.out], by rw [HE.out]; exact setN_nil _ _⟩, hB4⟩
   have HF : Hid (fineS x = true) := Lib.hid ((fineS_iff x).2 ⟨by omega, by omega, by omega⟩)
   go_wp2
   go_roundw
   case rel => exact ⟨k + 1, by omega, by go_num, by rw [HX.out, hall, HF.out]; rfl, hg⟩
   case measure => simp [intOf]; omega
  ·have e : l.take k = l := List.take_of_length_le (by omega)
   rw [e] at hall
   have hf : ∀ x ∈ l, fineS x = true := List.all_eq_true.1 hall
   have hm : makeF l = if 64 < (formS l).length then ([], 3) else (formS l, 0) := if_pos hall
   have HE := Lib.hid hm
   clear hm e hall
   go_wp2_with fail
   refine (joined_any A c l _ (h1.grows hg) (by omega) hf).mono ?_
   rintro e w2 ⟨⟨v, rfl, hown⟩, hq⟩
   have hg4 := below_grows hg (Nat.le_refl _) hq
   have hfl : (formS l).length ≤ 100000 := by have := (formS_forms hf).2.2; omega
   obtain ⟨A4, c4, rfl, hc4, hr4, hlo4⟩ := hown.read
   have HLO : Hid (∀ ad, A4 = some ad → w.heap.size ≤ ad.block) := Lib.hid fun ad e => Nat.le_trans (Nat.le_trans hB.size hg.size) (hlo4 ad e)
   clear hlo4
   clear hq hg hown
   generalize hfo : formS l = o at *
   clear hfo
   have k6 := Blk.new w2 58 #[.slice A4 o.length c4]
   have hq := (Below.refl w2.heap.size w2).alloc (Nat.le_refl _) (Obj.cells #[.slice A4 o.length c4] 58)
   replace hg4 := below_grows hg4 (Nat.le_refl _) hq
   replace hr4 := hr4.grows hq
   clear hq
   go_upto_region 8 with fail
   generalize World.alloc w2 _ = w3 at *
   generalize w2.heap.size = G6 at *
   have x6 := k6.cell 0
   have k3 := k2.grows hg4
   have x3 := k3.cell 0
   have f3 := k3.frozen 0
   by_cases h64 : 64 < o.length
   ·have hm : makeF l = ([], 3) := by rw [HE.out, if_pos h64]
    replace HE := Lib.hid hm
    clear hm
    go_wp2
    have k4 := k3.set_ 0 (.slice none 0 0)
    have hB4 := (below_grows hB (Nat.le_refl _) hg4).setCell (p := ⟨w.heap.size, 0, none⟩) (Nat.le_refl _) (.slice none 0 0)
    generalize World.setCell _ _ _ = w5 at *
    have x4 : w5.cell? ⟨w.heap.size, 0, none⟩ = some (.slice none 0 0) := by rw [k4.cell]; rfl
    clear x3 f3 k3 k4
    refine bodyPost_ret (v := .tuple #[.agg #[.slice none 0 0], .int .i64 3]) (by simp [results, Tryz.results117, go_sem, x4]) rfl ⟨⟨_, by rw [HE.out], by rw [HE.out]; exact setN_nil _ _⟩, hB4⟩
   ·have hm : makeF l = (o, 0) := by rw [HE.out, if_neg h64]
    replace HE := Lib.hid hm
    clear hm
    go_wp2
    have k4 := k3.set_ 0 (.slice A4 o.length c4)
    have hB4 := (below_grows hB (Nat.le_refl _) hg4).setCell (p := ⟨w.heap.size, 0, none⟩) (Nat.le_refl _) (.slice A4 o.length c4)
    have hr5 := hr4.setOther k3 (.slice A4 o.length c4)
    generalize World.setCell _ _ _ = w5 at *
    have x4 : w5.cell? ⟨w.heap.size, 0, none⟩ = some (.slice A4 o.length c4) := by rw [k4.cell]; rfl
    clear x3 f3 k3 k4
    refine bodyPost_ret (v := .tuple #[.agg #[.slice A4 o.length c4], .int .i64 0]) (by simp [results, Tryz.results117, go_sem, x4]) rfl ⟨⟨_, by rw [HE.out], by rw [HE.out]; exact ⟨A4, c4, rfl, hc4, hr5, HLO.out⟩⟩, hB4⟩
theorem only_own {a w w' : World} {g : Nat} {row : Option Nat} (h : a.grownBy w (some g)) (hg : w.grownBy w' row) (hr : ∀ q, row = some q → a.heap.size ≤ q) : a.grownBy w' (some g) :=
 ⟨hg.os.trans h.os, hg.tape.trans h.tape, hg.output.trans h.output, Nat.le_trans h.size hg.size, fun k hk hn => (hg.block k (Nat.lt_of_lt_of_le hk h.size) (fun e => by have := hr k e.symm; omega)).trans (h.block k hk hn)⟩
theorem only_trans {a w w' : World} {g : Nat} (h : a.grownBy w (some g)) (hg : w.grownBy w' (some g)) : a.grownBy w' (some g) :=
 ⟨hg.os.trans h.os, hg.tape.trans h.tape, hg.output.trans h.output, Nat.le_trans h.size hg.size, fun k hk hn => (hg.block k (Nat.lt_of_lt_of_le hk h.size) hn).trans (h.block k hk hn)⟩
theorem only_set {a w : World} {g : Nat} (h : a.grownBy w (some g)) {p : Addr} (hp : a.heap.size ≤ p.block) (u : Value) : a.grownBy (w.setCell p u) (some g) :=
 ⟨h.os, h.tape, h.output, by simpa [World.setCell] using h.size, fun k hk hn => (Below.heap_setCell w p u k (fun e => by omega)).trans (h.block k hk hn)⟩
theorem DR.grown {w w' : World} {B g : Nat} (h : DR w B g) {row : Option Nat} (hg : w.grownBy w' row) (hr : ∀ q, row = some q → g < q) : DR w' B g := by
 obtain ⟨l, A, c, h⟩ := h
 have hgl := h.blk.lt
 refine ⟨l, A, c, h.blk.grown hg (fun e => by have := hr g e.symm; omega), ?_, h.cap, h.lo, h.wf, h.len⟩
 refine Reads.keep h.bytes fun p hp => World.cell?_of_block (hg.block p.block (by have := h.lo; omega) (fun e => by have := hr _ e.symm; have := h.lo; omega))
theorem own_kept {w w' : World} {b : Nat} {v : Value} {l : List Sp} (h : Own w b v l) {g : Nat} (hg : w.grownBy w' (some g)) (hb : g < b) : Own w' b v l := by
 refine World.ownsRow.kept h hg ?_
 cases e : v.ownBlock with
 | none => exact .inl rfl
 | some q =>
  refine .inr fun e2 => ?_
  have := (World.ownsRow.lt h q e).1
  injection e2 with e2
  omega
set_option maxHeartbeats 4000000 in
theorem map_any (B g : Nat) (w : World) (h : DR w B g) : Calls Tryz.prog 36 #[.pointer (some ⟨g, 0, none⟩)] w fun e w' => (∃ m A c, e = .returned (.slice A (m : List Int).length c) ∧ m ∈ mapsL ∧ m.length ≤ c ∧ InB w' (Ge w.heap.size) A m) ∧ DR w' B g ∧ w.grownBy w' (some g) := by
 have hgl := h.lt
 obtain ⟨W, A, hcall, hm, hg⟩ := maps_lit w
 replace h := h.grows hg
 have hq := d_only_grows (World.grownBy.refl w (some g)) hg
 go_enter Tryz.func36, Tryz.ntmps36
 go_wp2_with fail
 refine hcall.mono ?_
 rintro e w1 ⟨rfl, rfl⟩
 clear hcall
 go_wp2_with fail
 refine (rolls_any B g 7 _ h (by omega) (by omega)).mono ?_
 rintro e w2 ⟨⟨r, rfl, hr0, hr1⟩, hD, hq2⟩
 replace hm := hm.grown hq2 (fun q e => by injection e with e; unfold Ge; omega)
 replace hq := only_trans hq hq2
 clear hq2 h hg
 obtain ⟨k, rfl⟩ : ∃ k : Nat, r = (k : Int) := ⟨r.toNat, by omega⟩
 obtain ⟨ad, x, C, cx, e1, had, hx, q0, hcx, hix⟩ := hm.elem (show k < mapsL.length by rw [mapsL_len]; omega)
 injection e1 with e1
 subst e1
 have HX := Lib.hid (List.mem_of_getElem? hx)
 clear hx
 go_wp2
 go_ret
 exact ⟨⟨x, C, cx, rfl, HX.out, hcx, hix⟩, hD, hq⟩
theorem forms_within {q : List Sp} {lo hi : Int} (hq : 0 < q.length) (hl : q.length ≤ 64) (hf : ∀ x ∈ q, fineS x = true ∧ lo ≤ x.1 ∧ x.2 ≤ hi) : makeF q = (formS q, 0) ∧ withinS (formS q) lo hi = true ∧ (formS q).length ≤ q.length := by
 have hf1 : ∀ x ∈ q, fineS x = true := fun x hx => (hf x hx).1
 have hF := formS_forms (l := q) hf1
 have hlen : (formS q).length ≤ 64 := Nat.le_trans hF.2.2 hl
 have hall : q.all fineS = true := List.all_eq_true.2 hf1
 have hok : okS (formS q) = true := by
  have hfine : ∀ x ∈ formS q, fineS x = true := mergeL_fine _ fun x hx => hf1 x ((sortS_perm q).mem_iff.1 hx)
  unfold okS
  rw [List.all_eq_true.2 hfine, (chainS_canon _ fun x hx => ((fineS_iff x).1 (hfine x hx)).2.1).2 hF.1, decide_eq_true hlen]
  rfl
 have hne : 0 < (formS q).length := by
  rcases Nat.eq_zero_or_pos (formS q).length with h0 | h0
  ·exfalso
   have e := List.eq_nil_of_length_eq_zero h0
   obtain ⟨x, hx⟩ : ∃ x, x ∈ q := ⟨q[0], List.getElem_mem hq⟩
   have hxf := (fineS_iff x).1 (hf1 x hx)
   have := (hF.2.1 x.1).2 ⟨x, hx, by omega, by omega⟩
   rw [e] at this
   exact mem_nil _ this
  ·exact h0
 have hin : ∀ x ∈ formS q, lo ≤ x.1 ∧ x.2 ≤ hi := by
  intro x hx
  have hxf := hF.1.1 x hx
  obtain ⟨y, hy, h1, h2⟩ := (hF.2.1 x.1).1 ⟨x, hx, by omega, by omega⟩
  obtain ⟨z, hz, h3, h4⟩ := (hF.2.1 x.2).1 ⟨x, hx, by omega, by omega⟩
  have := (hf y hy).2
  have := (hf z hz).2
  omega
 refine ⟨by unfold makeF; rw [if_pos hall, if_neg (by omega)], ?_, hF.2.2⟩
 unfold withinS
 rw [hok, decide_eq_true hne]
 have h1 : (formS q).headD (0, 0) ∈ formS q := by
  cases e : formS q with
  | nil => rw [e] at hne; simp at hne
  | cons x l => simp
 have h2 : (formS q).getLastD (0, 0) ∈ formS q := by
  cases e : formS q with
  | nil => rw [e] at hne; simp at hne
  | cons x l => rw [List.getLastD_cons]; exact List.getLastD_mem_cons
 simp only [Bool.true_and, Bool.and_eq_true, decide_eq_true_eq]
 exact ⟨(hin _ h1).1, (hin _ h2).2⟩
set_option maxHeartbeats 8000000 in
theorem set_any (B g : Nat) (A : Option Addr) (c : Nat) (l : List Sp) (lo hi : Int) (w : World) (h : DR w B g) (hl : SpB w (Ge (g + 1)) A l) (hn : 1 ≤ l.length) (hn2 : l.length ≤ 50) (hf : ∀ x ∈ l, fineS x = true ∧ lo ≤ x.1 ∧ x.2 ≤ hi) :
 Calls Tryz.prog 81 #[.pointer (some ⟨g, 0, none⟩), .slice A l.length c] w fun e w' => (∃ s A2 c2, e = .returned (.agg #[.slice A2 s.length c2]) ∧ (s : List Sp).length ≤ c2 ∧ s.length ≤ l.length ∧ SpB w' (Ge w.heap.size) A2 s ∧ withinS s lo hi = true) ∧ DR w' B g ∧ w.grownBy w' (some g) := by
 have HF := Lib.hid hf
 clear hf
 have hgl := h.lt
 have hBg := h.lo
 replace hl : RdB w (Btw (g + 1) w.heap.size) 2 A l.length (scells l) := ⟨hl.1, fun hn ad e => ⟨hl.2 hn ad e, (RdB.under hl).2 hn ad e⟩⟩
 have k4 := Blk.new w 58 #[.slice none 0 0]
 have hB := (Below.refl w.heap.size w).alloc (Nat.le_refl _) (Obj.cells #[.slice none 0 0] 58)
 go_enter Tryz.func81, Tryz.ntmps81
 go_upto_region 2 with fail
 have hD := h.grows hB
 have hO := d_only_grows (World.grownBy.refl w (some g)) hB
 replace hl := RdB.grows hl hB
 have hs1 : (w.alloc (Obj.cells #[.slice none 0 0] 58)).heap.size = w.heap.size + 1 := by simp
 have hsz1 := Nat.le_of_eq hs1.symm
 clear hs1
 clear hB h
 generalize World.alloc w _ = w1 at *
 go_wp2_with fail
 go_loopw [5, 12] (fun v i wr => ∃ (k : Nat) (q : List Sp), k ≤ l.length ∧ i = .int .i64 k ∧ Hid (∀ y ∈ q, y ∈ l) ∧ q.length ≤ k ∧ RdB wr (Btw (g + 1) w.heap.size) 2 A l.length (scells l) ∧ w.heap.size + 1 ≤ wr.heap.size ∧ Own wr (w.heap.size + 1) v q ∧ Blk wr w.heap.size 58 #[.slice none 0 0] ∧ DR wr B g ∧ w.grownBy wr (some g)) (fun _ i _ => l.length - (intOf i).toNat)
 case atStart => exact ⟨0, [], by omega, rfl, Lib.hid (by simp), by simp, hl, hsz1, own_nil _ _, k4, hD, hO⟩
 case round =>
  clear k4 hD hO hl hsz1
  obtain ⟨k, q, hk, rfl, HQ, hql, hl, hsz, ho, k4, hD, hO⟩ := hrel
  have hsl : Sps wr A l := hl.1
  by_cases hlt : k < l.length
  ·obtain ⟨ad, x, e1, had, hx, q0, q1⟩ := hsl.elem hlt
   subst e1
   have HX := Lib.hid (List.mem_of_getElem? hx)
   clear hx hsl
   have k7 := Blk.new wr 86 #[.int .i64 x.1, .int .i64 x.2]
   have hq := (Below.refl wr.heap.size wr).alloc (Nat.le_refl _) (Obj.cells #[.int .i64 x.1, .int .i64 x.2] 86)
   go_upto_region 5 with fail
   replace ho := ho.grows hq
   replace k4 := k4.grows hq
   replace hD := hD.grows hq
   replace hO := d_only_grows hO hq
   replace hl := RdB.grows hl hq
   have hsz5 := Nat.le_trans hsz hq.size
   have hG7 : g ≠ wr.heap.size := by omega
   clear hq q0 q1 hsz
   generalize World.alloc wr _ = w5 at *
   generalize wr.heap.size = G7 at *
   go_wp2_with fail
   refine (rolls_any B g 2 _ hD (by omega) (by omega)).mono ?_
   rintro e w6 ⟨⟨r, rfl, hr0, hr1⟩, hD6, hq⟩
   replace hD := hD6
   replace ho := own_kept ho hq (by omega)
   replace k4 := k4.grown hq (by intro e; injection e; omega)
   replace k7 := k7.grown hq (by intro e; injection e; omega)
   replace hO := only_trans hO hq
   replace hl := RdB.grown hl hq (fun q e => by injection e with e; unfold Btw; omega)
   have hsz6 := Nat.le_trans hsz5 hq.size
   clear hq hD6 hsz5
   by_cases h1 : r = 1
   case neg =>
    have d1 : (r == 1) = false := by simpa using h1
    clear h1
    go_wp2
    go_roundw
    case rel => exact ⟨k + 1, q, by omega, by go_num, HQ, by omega, hl, hsz6, ho, k4, hD, hO⟩
    case measure => simp [intOf]; omega
   have d1 : (r == 1) = true := by simpa using h1
   have x7 := k7.cell
   go_upto_region 6 with fail
   refine wp_region_lit ?_
   iterate 3
    refine wpList_plain rfl (fun K hK => ?_)
    go_simp
    refine hK _ _ ?_
    clear hK K
   have hr := sps_lit w6 x
   have hq := (Below.refl w6.heap.size w6).alloc (Nat.le_refl _) (Obj.cells (csS x) 86)
   have ho1 := ho.grows hq
   refine wpList_append_sp rfl (.tmp 19) (.tmp 21) rfl (l := q) (m := [x]) rfl rfl ho1 rfl hr (by simp only [List.length_cons, List.length_nil]; omega) (Nat.le_trans hsz6 hq.size) ?_
   intro v5 w12 ho2 hgr
   have hob := ho1.lt
   have hsz7 := hq.size
   replace k4 := (k4.grows hq).grown hgr (fun e => by have := (hob _ e.symm).1; omega)
   replace hD := (hD.grows hq).grown hgr (fun q e => by have := (hob q e).1; omega)
   replace hO := only_own (d_only_grows hO hq) hgr (fun q e => by have := (hob q e).1; omega)
   have hl2 := RdB.grown (RdB.grows hl hq) hgr (fun q e => by have := (hob q e).1; unfold Btw; omega)
   have hsz12 := Nat.le_trans hsz6 (Nat.le_trans hq.size hgr.size)
   have HQ2 : Hid (∀ y ∈ q ++ [x], y ∈ l) := Lib.hid (by
    intro y hy
    rcases List.mem_append.1 hy with hy | hy
    ·exact HQ.out y hy
    ·simp only [List.mem_singleton] at hy
     exact hy ▸ HX.out)
   have hql2 : (q ++ [x]).length ≤ k + 1 := by rw [List.length_append]; exact Nat.succ_le_succ hql
   clear hq hgr ho ho1 hr hob hsz7 hl HQ
   generalize q ++ [x] = q2 at *
   go_wp2
   go_roundw
   case rel => exact ⟨k + 1, q2, by omega, by go_num, HQ2, hql2, hl2, hsz12, ho2, k4, hD, hO⟩
   case measure => simp [intOf]; omega
  ·obtain rfl : k = l.length := by omega
   by_cases h0 : q.length = 0
   case neg =>
    have hq0 : 0 < q.length := by omega
    obtain ⟨A5, c5, e7, hc5, hs5, -⟩ := ho.read
    subst e7
    have d0 : ((q.length : Int) == 0) = false := by simp only [beq_eq_false_iff_ne, ne_eq]; omega
    clear h0 hl
    have hqL : q.length ≤ l.length := hql
    obtain ⟨hm, hwi, hl64⟩ := forms_within (lo := lo) (hi := hi) (q := q) hq0 (by omega) (fun x hx => HF.out x (HQ.out x hx))
    have HM := Lib.hid hm
    have HWI := Lib.hid hwi
    clear hm hwi ho
    have hw9 := hsz
    go_wp2_with fail
    refine (rmakeb_any A5 c5 q _ hs5 (by omega)).mono ?_
    rw [HM.out]
    generalize formS q = s at *
    rintro e w9 ⟨⟨v, rfl, A6, c6, rfl, hc6, hs6, hlo6⟩, hq⟩
    have hr6 : RdB w9 (Ge (w.heap.size + 1)) 2 A6 s.length (scells s) := ⟨hs6, fun _ ad e => Nat.le_trans hsz (hlo6 ad e)⟩
    replace k4 := k4.grows hq
    replace hD := hD.grows hq
    replace hO := d_only_grows hO hq
    have hsz9 := Nat.le_trans hsz hq.size
    clear hq hs6 hlo6 hsz hw9
    have k8 := Blk.new w9 58 #[.slice A6 s.length c6]
    have hq := (Below.refl w9.heap.size w9).alloc (Nat.le_refl _) (Obj.cells #[.slice A6 s.length c6] 58)
    go_upto_region 11 with fail
    replace k4 := k4.grows hq
    replace hD := hD.grows hq
    replace hO := d_only_grows hO hq
    replace hr6 := RdB.grows hr6 hq
    clear hq
    generalize World.alloc w9 _ = w10 at *
    generalize w9.heap.size = G8 at *
    have x8 := k8.cell 0
    have x4 := k4.cell 0
    have hf4 := k4.frozen
    have y4 := k4.set_ 0 (.slice A6 s.length c6)
    have yD := hD.put (p := ⟨w.heap.size, 0, none⟩) (Nat.le_trans hBg (Nat.le_of_lt hgl)) (Nat.ne_of_lt hgl) (.slice A6 s.length c6)
    have yO := only_set hO (p := ⟨w.heap.size, 0, none⟩) (Nat.le_refl _) (.slice A6 s.length c6)
    have yR := RdB.grown hr6 (d_only_set (World.grownBy.refl _ (some w.heap.size)) 0 (.slice A6 s.length c6)) (fun q e => by injection e with e; unfold Ge; omega)
    have y6 := y4.cell 0
    clear k4 k8 hD hO hr6
    go_wp2
    refine bodyPost_ret (v := .agg #[.slice A6 s.length c6]) (by simp [results, Tryz.results81, go_sem, y6]) rfl ⟨⟨s, A6, c6, rfl, hc6, Nat.le_trans hl64 hqL, RdB.mono yR (fun k hk => by unfold Ge at *; omega), HWI.out⟩, yD, yO⟩
   obtain rfl := List.eq_nil_of_length_eq_zero h0
   clear h0 HQ hql
   obtain ⟨A7, c7, e7, hc7, -, -⟩ := ho.read
   subst e7
   have d0 : ((([] : List Sp).length : Int) == 0) = true := rfl
   go_upto_region 9 with fail
   refine wp_region_lit ?_
   iterate 5
    refine BigFrame.wpList_want (by first | rfl | kernel_rfl) (fun K hK => ?_)
    go_simp
    refine hK _ _ ?_
    clear hK K
   refine BigFrame.wpList_want (by first | rfl | kernel_rfl) (fun K hK => ?_)
   go_simp
   refine (rolls_any B g (l.length : Int) _ hD (by omega) (by omega)).mono ?_
   rintro e w6 ⟨⟨r, rfl, hr0, hr1⟩, hD6, hq⟩
   refine hK _ _ ?_
   clear hK K
   replace hD := hD6
   replace ho := own_kept ho hq (by omega)
   replace k4 := k4.grown hq (by intro e; injection e; omega)
   replace hO := only_trans hO hq
   replace hl := RdB.grown hl hq (fun q e => by injection e with e; unfold Btw; omega)
   replace hsz := Nat.le_trans hsz hq.size
   clear hq hD6
   obtain ⟨j, rfl⟩ : ∃ j : Nat, r = (j : Int) := ⟨r.toNat, by omega⟩
   have hsl : Sps w6 A l := hl.1
   obtain ⟨ad, x, e1, had, hx, q0, q1⟩ := hsl.elem (show j < l.length by omega)
   subst e1
   have HX := Lib.hid (List.mem_of_getElem? hx)
   clear hx hsl
   iterate 3
    refine BigFrame.wpList_want (by first | rfl | kernel_rfl) (fun K hK => ?_)
    go_simp
    refine hK _ _ ?_
    clear hK K
   have hr := sps_lit w6 x
   have hq := (Below.refl w6.heap.size w6).alloc (Nat.le_refl _) (Obj.cells (csS x) 86)
   have ho1 := ho.grows hq
   refine wpList_append_sp rfl (.tmp 27) (.tmp 35) rfl (l := []) (m := [x]) rfl rfl ho1 rfl hr (by simp) (Nat.le_trans hsz hq.size) ?_
   intro v5 w12 ho2 hgr
   have hob := ho1.lt
   replace k4 := (k4.grows hq).grown hgr (fun e => by have := (hob _ e.symm).1; omega)
   have hsz7 := hq.size
   replace hD := (hD.grows hq).grown hgr (fun q e => by have := (hob q e).1; omega)
   replace hO := only_own (d_only_grows hO hq) hgr (fun q e => by have := (hob q e).1; omega)
   replace hsz := Nat.le_trans hsz (Nat.le_trans hq.size hgr.size)
   have HQ : Hid (∀ y ∈ [x], y ∈ l) := Lib.hid (by intro y hy; simp only [List.mem_singleton] at hy; exact hy ▸ HX.out)
   rw [List.nil_append] at ho2
   replace ho := ho2
   have hq0 : 0 < [x].length := by simp
   clear hq hgr ho1 hr hob hsz7 hl q0 q1 ho2
   have hqx : [x].length ≤ 50 := by simp
   have hqL : [x].length ≤ l.length := hn
   generalize [x] = qx at *
   skip
   obtain ⟨A5, c5, rfl, hc5, hs5, -⟩ := ho.read
   obtain ⟨hm, hwi, hl64⟩ := forms_within (lo := lo) (hi := hi) (q := qx) hq0 (by omega) (fun x hx => HF.out x (HQ.out x hx))
   have HM := Lib.hid hm
   have HWI := Lib.hid hwi
   clear hm hwi ho
   have hw9 := hsz
   go_wp2_with fail
   refine (rmakeb_any A5 c5 qx _ hs5 (by omega)).mono ?_
   rw [HM.out]
   generalize formS qx = s at *
   rintro e w9 ⟨⟨v, rfl, A6, c6, rfl, hc6, hs6, hlo6⟩, hq⟩
   have hr6 : RdB w9 (Ge (w.heap.size + 1)) 2 A6 s.length (scells s) := ⟨hs6, fun _ ad e => Nat.le_trans hsz (hlo6 ad e)⟩
   replace k4 := k4.grows hq
   replace hD := hD.grows hq
   replace hO := d_only_grows hO hq
   have hsz9 := Nat.le_trans hsz hq.size
   clear hq hs6 hlo6 hsz hw9
   have k8 := Blk.new w9 58 #[.slice A6 s.length c6]
   have hq := (Below.refl w9.heap.size w9).alloc (Nat.le_refl _) (Obj.cells #[.slice A6 s.length c6] 58)
   go_upto_region 11 with fail
   replace k4 := k4.grows hq
   replace hD := hD.grows hq
   replace hO := d_only_grows hO hq
   replace hr6 := RdB.grows hr6 hq
   clear hq
   generalize World.alloc w9 _ = w10 at *
   generalize w9.heap.size = G8 at *
   have x8 := k8.cell 0
   have x4 := k4.cell 0
   have hf4 := k4.frozen
   have y4 := k4.set_ 0 (.slice A6 s.length c6)
   have yD := hD.put (p := ⟨w.heap.size, 0, none⟩) (Nat.le_trans hBg (Nat.le_of_lt hgl)) (Nat.ne_of_lt hgl) (.slice A6 s.length c6)
   have yO := only_set hO (p := ⟨w.heap.size, 0, none⟩) (Nat.le_refl _) (.slice A6 s.length c6)
   have yR := RdB.grown hr6 (d_only_set (World.grownBy.refl _ (some w.heap.size)) 0 (.slice A6 s.length c6)) (fun q e => by injection e with e; unfold Ge; omega)
   have y6 := y4.cell 0
   clear k4 k8 hD hO hr6
   go_wp2
   refine bodyPost_ret (v := .agg #[.slice A6 s.length c6]) (by simp [results, Tryz.results81, go_sem, y6]) rfl ⟨⟨s, A6, c6, rfl, hc6, Nat.le_trans hl64 hqL, RdB.mono yR (fun k hk => by unfold Ge at *; omega), HWI.out⟩, yD, yO⟩
end Go.Proofs.YtjbkjgmcfommgaaGreat

namespace Go.Proofs.YtjbkjgmcfommgaaGreat
open Go.RowKit
def KP (k : Int) : Prop := 2 ≤ k ∧ k ≤ 254 ∧ k % 2 = 0
theorem kp_shl {r : Int} (h0 : 0 ≤ r) (h1 : r < 7) : KP (wrap64 (2 ^ (1 + r).toNat)) := by
 obtain ⟨n, rfl⟩ : ∃ n : Nat, r = (n : Int) := ⟨r.toNat, by omega⟩
 have hn : n < 7 := by omega
 unfold KP
 match n, hn with
 | 0, _ => decide +kernel
 | 1, _ => decide +kernel
 | 2, _ => decide +kernel
 | 3, _ => decide +kernel
 | 4, _ => decide +kernel
 | 5, _ => decide +kernel
 | 6, _ => decide +kernel
 | n + 7, h => exact absurd h (by omega)
theorem kp_or_ : ∀ a : Fin 256, ∀ b : Fin 256, a.val % 2 = 0 → b.val % 2 = 0 → 2 ≤ a.val → (2 ≤ a.val ||| b.val ∧ a.val ||| b.val ≤ 254 ∧ (a.val ||| b.val) % 2 = 0) := by
 intro a b ha hb h2
 have h3 : (a.val ||| b.val) < 2 ^ 8 := Nat.or_lt_two_pow a.isLt b.isLt
 have h4 := Nat.testBit_or a.val b.val 0
 rw [Nat.testBit_zero, Nat.testBit_zero, Nat.testBit_zero, decide_eq_false (show ¬ a.val % 2 = 1 by omega), decide_eq_false (show ¬ b.val % 2 = 1 by omega), Bool.or_false, decide_eq_false_iff_not] at h4
 have h5 : a.val ≤ a.val ||| b.val := Nat.left_le_or
 omega
theorem kp_or {a b : Int} (ha : KP a) (hb : KP b) : KP (bits .or .i64 a b) := by
 obtain ⟨n, rfl⟩ : ∃ n : Nat, a = (n : Int) := ⟨a.toNat, by unfold KP at ha; omega⟩
 obtain ⟨m, rfl⟩ : ∃ m : Nat, b = (m : Int) := ⟨b.toNat, by unfold KP at hb; omega⟩
 unfold KP at ha hb
 have h := kp_or_ ⟨n, by omega⟩ ⟨m, by omega⟩ (by simp only; omega) (by simp only; omega) (by simp only; omega)
 have e : bits .or .i64 (n : Int) (m : Int) = ((n ||| m : Nat) : Int) := by
  show IntKind.i64.wrap (((BitVec.ofInt 64 (n : Int)) ||| (BitVec.ofInt 64 (m : Int))).toNat : Int) = _
  have e1 : (BitVec.ofInt 64 (n : Int)).toNat = n := by rw [BitVec.toNat_ofInt]; omega
  have e2 : (BitVec.ofInt 64 (m : Int)).toNat = m := by rw [BitVec.toNat_ofInt]; omega
  rw [BitVec.toNat_or, e1, e2]
  exact IntWalk.i64_in _ (by simp only at h; omega)
 rw [e]
 unfold KP
 simp only at h
 omega
theorem kinds_of_ : ∀ n : Fin 256, n.val % 2 = 0 → 2 ≤ n.val → kindsOk (n.val : Int) = true := by decide +kernel
theorem kinds_of {k : Int} (h : KP k) : kindsOk k = true := by
 obtain ⟨n, rfl⟩ : ∃ n : Nat, k = (n : Int) := ⟨k.toNat, by unfold KP at h; omega⟩
 unfold KP at h
 exact kinds_of_ ⟨n, by omega⟩ (by simp only; omega) (by simp only; omega)
/-- A row of channel maps of one's own, apart from what its members take, which lies at or above lo. -/
def OwnM (w : World) (base lo : Nat) (v : Value) (ms : List (List Int)) : Prop :=
 ∃ vs, w.ownsRow base 38 1 v ms.length vs ∧ ∀ (i : Nat) (x : List Int), ms[i]? = some x → ∃ B c, vs[i]? = some (.slice B x.length c) ∧ x.length ≤ c ∧ InB w (Ge lo) B x ∧ (∀ ad, B = some ad → 0 < x.length → v.ownBlock ≠ some ad.block)
theorem InB.away {w w' : World} {ok : Nat → Prop} {B : Option Addr} {x : List Int} (h : InB w ok B x) {row : Option Nat} (hg : w.grownBy w' row) (hne : ∀ ad, B = some ad → 0 < x.length → row ≠ some ad.block) : InB w' ok B x := by
 refine ⟨⟨h.1.1, fun hn => ?_⟩, h.2⟩
 obtain ⟨ad, e, hb, hc⟩ := h.1.2 hn
 have hn2 : some ad.block ≠ row := fun e2 => hne ad e hn e2.symm
 exact ⟨ad, e, Nat.lt_of_lt_of_le hb hg.size, fun j u hu => (World.cell?_of_block (hg.block (ad.add j).block (by rw [block_of_add]; exact hb) (by rw [block_of_add]; exact hn2))).trans (hc j u hu)⟩
section
variable {w w' : World} {base lo g : Nat} {v : Value} {ms : List (List Int)}
theorem OwnM.nil : OwnM w base lo (.slice none 0 0) [] := ⟨[], World.ownsRow_nil w base _ 1, fun i x h => by simp at h⟩
theorem OwnM.grows (h : OwnM w base lo v ms) (hg : Grows w w') : OwnM w' base lo v ms := by
 obtain ⟨vs, h1, h2⟩ := h
 exact ⟨vs, own_grows h1 hg, fun i x hx => by obtain ⟨B, c, e, hc, hi, hn⟩ := h2 i x hx; exact ⟨B, c, e, hc, hi.grows hg, hn⟩⟩
theorem OwnM.only (h : OwnM w base lo v ms) (hg : w.grownBy w' (some g)) (hb : g < base) (hl : g < lo) : OwnM w' base lo v ms := by
 obtain ⟨vs, h1, h2⟩ := h
 refine ⟨vs, World.ownsRow.kept h1 hg ?_, fun i x hx => by obtain ⟨B, c, e, hc, hi, hn⟩ := h2 i x hx; exact ⟨B, c, e, hc, RdB.grown hi hg (fun q e => by injection e with e; unfold Ge; omega), hn⟩⟩
 cases e : v.ownBlock with
 | none => exact .inl rfl
 | some q =>
  refine .inr fun e2 => ?_
  have := (World.ownsRow.lt h1 q e).1
  injection e2 with e2
  omega
theorem OwnM.lt (h : OwnM w base lo v ms) : ∀ q, v.ownBlock = some q → base ≤ q ∧ q < w.heap.size := by
 obtain ⟨vs, h1, -⟩ := h
 exact World.ownsRow.lt h1
theorem OwnM.read (h : OwnM w base lo v ms) (hb : lo ≤ base) : ∃ A c, v = .slice A ms.length c ∧ ms.length ≤ c ∧ MapsR w (Ge lo) A ms := by
 obtain ⟨vs, h1, h2⟩ := h
 have hlt := World.ownsRow.lt h1
 rcases h1.2 with ⟨rfl, hn⟩ | ⟨q, cap, cur, rfl, hbq, hg, hnc, hm, hs, ht⟩
 ·have e := List.eq_nil_of_length_eq_zero hn
  subst e
  exact ⟨none, 0, rfl, Nat.le_refl _, MapsR.nil⟩
 ·refine ⟨_, cap, rfl, hnc, vs, ⟨Reads.of_own h1, fun _ ad e => ?_⟩, fun i x hx => by obtain ⟨B, c, e, hc, hi, _⟩ := h2 i x hx; exact ⟨B, c, e, hc, hi⟩⟩
  injection e with e
  subst e
  exact Nat.le_trans hb hbq
end
set_option maxRecDepth 100000 in
theorem ms_info : ∃ i : TypeInfo, Tryz.prog.info? 38 = some i ∧ i.size = 1 ∧ i.bytes = 24 ∧ i.zero = some (.slice none 0 0) ∧ (Value.slice none 0 0).cells.size = 1 := ⟨_, by first | exact Tryz.info38 | rfl, rfl, rfl, rfl, rfl⟩
theorem wpList_append_map {ops : Array Oper} {rest : List Oper} {o : Oper} {a : Act} {w : World} {Q : Exit → Act → World → Prop} (hgd : o.guard = none) (s x : Operand) (ho : o.op = .call { callee := .builtin .append, args := #[s, x], argTypes := #[59, 59] })
 {base lo : Nat} {v : Value} {ms : List (List Int)} {m : List Int} {A B : Option Addr} {c cm : Nat} (hs : a.eval s = v) (hown : OwnM w base lo v ms) (hx : a.eval x = .slice A 1 c) (hr : Reads w w.heap.size 1 A 1 [.slice B m.length cm]) (hlen : ms.length + 1 ≤ 1000000) (hbase : base ≤ w.heap.size)
 (hm : InB w (Ge lo) B m) (hcm : m.length ≤ cm) (hne : ∀ ad, B = some ad → 0 < m.length → v.ownBlock ≠ some ad.block)
 (h : ∀ v' w', OwnM w' base lo v' (ms ++ [m]) → w.grownBy w' v.ownBlock → wpList Tryz.prog ops Q rest (a.put o.dst v') w') : wpList Tryz.prog ops Q (o :: rest) a w := by
 obtain ⟨i0, hi0, hi1, hi2, hi3, hi4⟩ := ms_info
 obtain ⟨vs, h1, h2⟩ := hown
 refine wpList_append_any w hgd s x 59 ho base 38 i0 _ 1 24 Tryz.underlying59 hi0 hi3 hi1 hi2 hi4 (by omega) v ms.length vs hs h1 w.heap.size A 1 c [.slice B m.length cm] hx hr (by intro u hu; simp only [List.mem_singleton] at hu; subst hu; rfl) (by simp only [maxLen]; omega) (by omega) hbase fun v' w' h3 h4 h5 => h v' w' ⟨vs ++ [.slice B m.length cm], by rw [List.length_append]; exact h3, fun i y hy => ?_⟩ h4
 have hapart : ∀ (y : List Int) (C : Option Addr), InB w (Ge lo) C y → (∀ ad, C = some ad → 0 < y.length → v.ownBlock ≠ some ad.block) → ∀ ad, C = some ad → 0 < y.length → v'.ownBlock ≠ some ad.block := by
  intro y C hy hn ad e hl e2
  rcases h5 with h5 | h5
  ·exact hn ad e hl (h5 ▸ e2)
  ·rw [h5] at e2
   injection e2 with e2
   obtain ⟨ad0, e0, hb, _⟩ := hy.1.2 hl
   rw [e] at e0
   injection e0 with e0
   subst e0
   omega
 have hvl : vs.length = ms.length := by have := h1.1; omega
 by_cases hi : i < ms.length
 ·rw [List.getElem?_append_left hi] at hy
  obtain ⟨C, cy, e, hc, hi6, hn⟩ := h2 i y hy
  exact ⟨C, cy, by rw [List.getElem?_append_left (by omega)]; exact e, hc, hi6.away h4 hn, hapart y C hi6 hn⟩
 ·rw [List.getElem?_append_right (by omega)] at hy
  have hi0 : i - ms.length = 0 := by
   have := (List.getElem?_eq_some_iff.1 hy).1
   simp only [List.length_singleton] at this
   omega
  rw [hi0] at hy
  simp only [List.getElem?_cons_zero, Option.some.injEq] at hy
  subst hy
  exact ⟨B, cm, by rw [List.getElem?_append_right (by omega), show i - vs.length = 0 by omega]; rfl, hcm, hm.away h4 hne, hapart m B hm hne⟩
def simM (y m : List Int) : Bool := decide (y.length = m.length) && decide (y.headD 0 = m.headD 0)
theorem sim_self (m : List Int) : simM m m = true := by unfold simM; simp
theorem sim_next {ms : List (List Int)} {m y : List Int} {k : Nat} (h : ms[k]? = some y) : (ms.take (k + 1)).any (fun y => simM y m) = ((ms.take k).any (fun y => simM y m) || simM y m) := by
 rw [take_snoc h, List.any_append]
 simp
theorem sim_not {ms : List (List Int)} {m : List Int} (h : ms.any (fun y => simM y m) = false) : m ∉ ms := fun hm => by
 rw [List.any_eq_false] at h
 exact h m hm (sim_self m)
end Go.Proofs.YtjbkjgmcfommgaaGreat
