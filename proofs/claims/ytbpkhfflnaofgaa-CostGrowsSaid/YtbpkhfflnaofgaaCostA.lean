/-
  Contracts of layer 24 (cost), of the program and of the reference: what each function returns, and that it writes to no old memory.
-/
import Derived.Test.YtbpkhfflnaofgaaMill
namespace Go.Proofs.Ytbpkhfflnaofgaa
open Go.RowKit

def inB (low high n : Int) : Bool := decide (low ≤ n) && decide (n ≤ high)
theorem inB_true {low high n : Int} (h : inB low high n = true) : low ≤ n ∧ n ≤ high := by simpa [inB] using h
theorem inB_mk {low high n : Int} (h1 : low ≤ n) (h2 : n ≤ high) : inB low high n = true := by simp [inB, h1, h2]
def allIn (low high : Int) (l : List Int) : Bool := l.all (inB low high)
theorem allIn_snoc (low high : Int) (l : List Int) (x : Int) : allIn low high (l ++ [x]) = (allIn low high l && inB low high x) := by simp [allIn]
theorem allIn_not {low high : Int} {l : List Int} {k : Nat} {x : Int} (hx : l[k]? = some x) (h : inB low high x = false) : allIn low high l = false := by
  rw [allIn, List.all_eq_false]
  obtain ⟨hk, rfl⟩ := List.getElem?_eq_some_iff.1 hx
  exact ⟨_, List.getElem_mem hk, by simp [h]⟩

set_option maxHeartbeats 1000000 in
theorem within_any (low high : Int) (A : Option Addr) (c : Nat) (l : List Int) (w : World) (h : Ints w A l) (hl : l.length ≤ 9223372036854775807) :
    Calls Try.prog 16 #[.int .i64 low, .int .i64 high, .slice A l.length c] w fun e w' => e = .returned (.bool (allIn low high l)) ∧ w = w' := by
  go_enter Try.func16, Try.ntmps16
  go_wp2
  go_loop [11] (fun i => ∃ k : Nat, k ≤ l.length ∧ i = .int .i64 k ∧ Hid (allIn low high (l.take k) = true)) (fun i => l.length - (intOf i).toNat)
  case atStart => exact ⟨0, by omega, rfl, by simp [Hid, allIn]⟩
  case round =>
    obtain ⟨k, hk, rfl, hall⟩ := hrel
    by_cases hlt : k < l.length
    · obtain ⟨ad, x, rfl, _, hx, hc⟩ := h.at_ hlt
      have HX := Lib.hid hx
      clear hx
      go_wp2
      all_goals first
        | (go_ret; exact ⟨ret_bool (allIn_not HX.out (by simp [inB]; omega)).symm, rfl⟩)
        | (go_round
           case rel => exact ⟨k + 1, by omega, by go_num, by rw [take_snoc HX.out, allIn_snoc, hall.out, inB_mk (by omega) (by omega)]; rfl⟩
           case measure => simp [intOf]; omega)
    · have e : l.take k = l := List.take_of_length_le (by omega)
      have H2 : Hid (allIn low high l = true) := by rw [← e]; exact hall
      clear e
      go_wp2
      go_ret
      exact ⟨ret_bool H2.out.symm, rfl⟩
theorem ints_lit (w : World) (l : List Int) (t : TypeId) : Ints (w.alloc (.cells (l.map (Value.int .i64)).toArray t)) (some ⟨w.heap.size, 0, none⟩) l := by
  refine ⟨by simp, fun _ => ⟨_, rfl, by simp, fun j u hu => ?_⟩⟩
  have hadd : (⟨w.heap.size, 0, none⟩ : Addr).add j = ⟨w.heap.size, j, none⟩ := by unfold Addr.add; split <;> simp_all
  rw [hadd, (Blk.new w t _).cell j]
  simpa using hu
theorem within1 (low high a : Int) (w : World) (g : Nat) (hg : w.heap.size = g) : Calls Try.prog 16 #[.int .i64 low, .int .i64 high, .slice (some ⟨g, 0, none⟩) 1 1] (w.alloc (.cells #[.int .i64 a] 3)) fun e w' => e = .returned (.bool (inB low high a)) ∧ w.alloc (.cells #[.int .i64 a] 3) = w' := by
  subst hg
  have := within_any low high _ 1 [a] _ (ints_lit w [a] 3) (by simp)
  simpa [allIn] using this
theorem within2 (low high a b : Int) (w : World) (g : Nat) (hg : w.heap.size = g) : Calls Try.prog 16 #[.int .i64 low, .int .i64 high, .slice (some ⟨g, 0, none⟩) 2 2] (w.alloc (.cells #[.int .i64 a, .int .i64 b] 3)) fun e w' => e = .returned (.bool (inB low high a && inB low high b)) ∧ w.alloc (.cells #[.int .i64 a, .int .i64 b] 3) = w' := by
  subst hg
  have := within_any low high _ 2 [a, b] _ (ints_lit w [a, b] 3) (by simp)
  simpa [allIn] using this

theorem one_in : inB 1 8 1 = true := by decide
def okS (i o p : Int) : Bool := inB 1 8 i && inB 1 8 o && inB 16 8192 p
def streamF (i o p : Int) : Int := if okS i o p then 300 + (4 * i + i * o + 2 * o) * p else 0
def deviceF (c p : Int) : Int := if okS c 1 p then 400 + 8 * c * p else 0
def errF (b : Bool) : Int := if b then 0 else 2
theorem prod_bd {a b m n : Int} (h1 : 0 ≤ a) (h2 : a ≤ m) (h3 : 0 ≤ b) (h4 : b ≤ n) : 0 ≤ a * b ∧ a * b ≤ m * n :=
  ⟨Int.mul_nonneg h1 h3, Int.mul_le_mul h2 h4 h3 (by omega)⟩

set_option maxHeartbeats 1000000 in
theorem sizes_any (a b p : Int) (w : World) : Calls Try.prog 17 #[.int .i64 a, .int .i64 b, .int .i64 p] w fun e w' => e = .returned (.bool (okS a b p)) ∧ w = w' := by
  go_enter Try.func17, Try.ntmps17
  go_wp2
  all_goals (go_ret; refine ⟨ret_bool ?_, rfl⟩; simp_all [okS, inB]; try omega)

set_option maxHeartbeats 4000000 in
theorem stream_any (i o p : Int) (w : World) : Calls Try.prog 8 #[.int .i64 i, .int .i64 o, .int .i64 p] w fun e w' => e = .returned (.tuple #[.int .i64 (streamF i o p), .int .i64 (errF (okS i o p))]) ∧ Grows w w' := by
  cases ho : okS i o p
  · have hv : streamF i o p = 0 := by simp [streamF, ho]
    rw [hv]
    simp only [errF]
    have HO := Lib.hid ho
    clear ho hv
    go_enter Try.func8, Try.ntmps8
    go_wp2_with (first | (go_at_call 16; (with_reducible refine (within2 _ _ _ _ _ _ (by simp)).mono ?_); rintro e w' ⟨rfl, rfl⟩) | (go_at_call 16; (with_reducible refine (within1 _ _ _ _ _ (by simp)).mono ?_); rintro e w' ⟨rfl, rfl⟩))
    all_goals first
      | (go_ret2; exact ⟨rfl, by repeat (first | (with_reducible exact Below.refl _ _) | refine Below.alloc ?_ (by simp) _)⟩)
      | (exfalso; go_tidy; have h := HO.out; clear HO; simp_all [okS]; done)
  · have hv : streamF i o p = 300 + (4 * i + i * o + 2 * o) * p := by simp [streamF, ho]
    rw [hv]
    simp only [errF]
    simp only [okS, Bool.and_eq_true] at ho
    obtain ⟨⟨h1, h2⟩, h3⟩ := ho
    obtain ⟨g1, g2⟩ := inB_true h1
    obtain ⟨g5, g6⟩ := inB_true h3
    obtain ⟨g3, g4⟩ := inB_true h2
    obtain ⟨p1, p2⟩ := prod_bd (m := 8) (n := 8) (by omega : 0 ≤ i) g2 (by omega : 0 ≤ o) g4
    obtain ⟨p3, p4⟩ := prod_bd (m := 112) (n := 8192) (by omega : 0 ≤ 4 * i + i * o + 2 * o) (by omega) (by omega : 0 ≤ p) g6
    clear hv
    go_enter Try.func8, Try.ntmps8
    go_wp2_with (first | (go_at_call 16; (with_reducible refine (within2 _ _ _ _ _ _ (by simp)).mono ?_); rintro e w' ⟨rfl, rfl⟩) | (go_at_call 16; (with_reducible refine (within1 _ _ _ _ _ (by simp)).mono ?_); rintro e w' ⟨rfl, rfl⟩))
    go_ret2
    exact ⟨rfl, by repeat (first | (with_reducible exact Below.refl _ _) | refine Below.alloc ?_ (by simp) _)⟩

set_option maxHeartbeats 4000000 in
theorem rstream_any (i o p : Int) (w : World) : Calls Try.prog 9 #[.int .i64 i, .int .i64 o, .int .i64 p] w fun e w' => e = .returned (.tuple #[.int .i64 (streamF i o p), .int .i64 (errF (okS i o p))]) ∧ Grows w w' := by
  cases ho : okS i o p
  · have hv : streamF i o p = 0 := by simp [streamF, ho]
    rw [hv]
    simp only [errF]
    have HO := Lib.hid ho
    clear ho hv
    go_enter Try.func9, Try.ntmps9
    go_wp2_with (go_at_call 17; refine (sizes_any _ _ _ _).mono ?_; rintro e w' ⟨rfl, rfl⟩)
    all_goals first
      | (go_ret2; exact ⟨rfl, by repeat (first | (with_reducible exact Below.refl _ _) | refine Below.alloc ?_ (by simp) _)⟩)
      | (exfalso; go_tidy; have h := HO.out; clear HO; simp_all [okS]; done)
  · have hv : streamF i o p = 300 + (4 * i + i * o + 2 * o) * p := by simp [streamF, ho]
    rw [hv]
    simp only [errF]
    simp only [okS, Bool.and_eq_true] at ho
    obtain ⟨⟨h1, h2⟩, h3⟩ := ho
    obtain ⟨g1, g2⟩ := inB_true h1
    obtain ⟨g5, g6⟩ := inB_true h3
    have h4 : okS i o p = true := by simp [okS, h1, h2, h3]
    obtain ⟨g3, g4⟩ := inB_true h2
    obtain ⟨p1, p2⟩ := prod_bd (m := 8) (n := 8) (by omega : 0 ≤ i) g2 (by omega : 0 ≤ o) g4
    obtain ⟨p3, p4⟩ := prod_bd (m := 112) (n := 8192) (by omega : 0 ≤ 4 * i + i * o + 2 * o) (by omega) (by omega : 0 ≤ p) g6
    clear hv
    go_enter Try.func9, Try.ntmps9
    go_wp2_with (go_at_call 17; refine (sizes_any _ _ _ _).mono ?_; rintro e w' ⟨rfl, rfl⟩)
    go_ret2
    exact ⟨rfl, by repeat (first | (with_reducible exact Below.refl _ _) | refine Below.alloc ?_ (by simp) _)⟩

set_option maxHeartbeats 4000000 in
theorem device_any (i p : Int) (w : World) : Calls Try.prog 10 #[.int .i64 i, .int .i64 p] w fun e w' => e = .returned (.tuple #[.int .i64 (deviceF i p), .int .i64 (errF (okS i 1 p))]) ∧ Grows w w' := by
  cases ho : okS i 1 p
  · have hv : deviceF i p = 0 := by simp [deviceF, ho]
    rw [hv]
    simp only [errF]
    have HO := Lib.hid ho
    clear ho hv
    go_enter Try.func10, Try.ntmps10
    go_wp2_with (first | (go_at_call 16; (with_reducible refine (within2 _ _ _ _ _ _ (by simp)).mono ?_); rintro e w' ⟨rfl, rfl⟩) | (go_at_call 16; (with_reducible refine (within1 _ _ _ _ _ (by simp)).mono ?_); rintro e w' ⟨rfl, rfl⟩))
    all_goals first
      | (go_ret2; exact ⟨rfl, by repeat (first | (with_reducible exact Below.refl _ _) | refine Below.alloc ?_ (by simp) _)⟩)
      | (exfalso; go_tidy; have h := HO.out; clear HO; simp_all [okS, one_in]; done)
  · have hv : deviceF i p = 400 + 8 * i * p := by simp [deviceF, ho]
    rw [hv]
    simp only [errF]
    simp only [okS, Bool.and_eq_true] at ho
    obtain ⟨⟨h1, h2⟩, h3⟩ := ho
    obtain ⟨g1, g2⟩ := inB_true h1
    obtain ⟨g5, g6⟩ := inB_true h3
    obtain ⟨p3, p4⟩ := prod_bd (m := 64) (n := 8192) (by omega : 0 ≤ 8 * i) (by omega) (by omega : 0 ≤ p) g6
    clear hv
    go_enter Try.func10, Try.ntmps10
    go_wp2_with (first | (go_at_call 16; (with_reducible refine (within2 _ _ _ _ _ _ (by simp)).mono ?_); rintro e w' ⟨rfl, rfl⟩) | (go_at_call 16; (with_reducible refine (within1 _ _ _ _ _ (by simp)).mono ?_); rintro e w' ⟨rfl, rfl⟩))
    go_ret2
    exact ⟨rfl, by repeat (first | (with_reducible exact Below.refl _ _) | refine Below.alloc ?_ (by simp) _)⟩

set_option maxHeartbeats 4000000 in
theorem rdevice_any (i p : Int) (w : World) : Calls Try.prog 11 #[.int .i64 i, .int .i64 p] w fun e w' => e = .returned (.tuple #[.int .i64 (deviceF i p), .int .i64 (errF (okS i 1 p))]) ∧ Grows w w' := by
  cases ho : okS i 1 p
  · have hv : deviceF i p = 0 := by simp [deviceF, ho]
    rw [hv]
    simp only [errF]
    have HO := Lib.hid ho
    clear ho hv
    go_enter Try.func11, Try.ntmps11
    go_wp2_with (go_at_call 17; refine (sizes_any _ _ _ _).mono ?_; rintro e w' ⟨rfl, rfl⟩)
    all_goals first
      | (go_ret2; exact ⟨rfl, by repeat (first | (with_reducible exact Below.refl _ _) | refine Below.alloc ?_ (by simp) _)⟩)
      | (exfalso; go_tidy; have h := HO.out; clear HO; simp_all [okS]; done)
  · have hv : deviceF i p = 400 + 8 * i * p := by simp [deviceF, ho]
    rw [hv]
    simp only [errF]
    simp only [okS, Bool.and_eq_true] at ho
    obtain ⟨⟨h1, h2⟩, h3⟩ := ho
    obtain ⟨g1, g2⟩ := inB_true h1
    obtain ⟨g5, g6⟩ := inB_true h3
    have h4 : okS i 1 p = true := by simp [okS, h1, h2, h3]
    obtain ⟨p3, p4⟩ := prod_bd (m := 64) (n := 8192) (by omega : 0 ≤ 8 * i) (by omega) (by omega : 0 ≤ p) g6
    clear hv
    go_enter Try.func11, Try.ntmps11
    go_wp2_with (go_at_call 17; refine (sizes_any _ _ _ _).mono ?_; rintro e w' ⟨rfl, rfl⟩)
    go_ret2
    exact ⟨rfl, by repeat (first | (with_reducible exact Below.refl _ _) | refine Below.alloc ?_ (by simp) _)⟩

def clampF (n : Int) : Int := max 0 (min n 1099511627776)
def totF (l : List Int) : Int := l.foldl (fun s n => min (s + clampF n) 1099511627776) 0
theorem clampF_bd (n : Int) : 0 ≤ clampF n ∧ clampF n ≤ 1099511627776 := by unfold clampF; omega
theorem totF_snoc (l : List Int) (x : Int) : totF (l ++ [x]) = min (totF l + clampF x) 1099511627776 := by simp [totF]
theorem totF_bd (l : List Int) : 0 ≤ totF l ∧ totF l ≤ 1099511627776 := by
  unfold totF
  have : ∀ (l : List Int) (s : Int), 0 ≤ s → s ≤ 1099511627776 → 0 ≤ l.foldl (fun s n => min (s + clampF n) 1099511627776) s ∧ l.foldl (fun s n => min (s + clampF n) 1099511627776) s ≤ 1099511627776 := by
    intro l
    induction l with
    | nil => intro s h1 h2; exact ⟨h1, h2⟩
    | cons x l ih =>
      intro s h1 h2
      have := clampF_bd x
      exact ih _ (by show 0 ≤ min (s + clampF x) 1099511627776; omega) (by show min (s + clampF x) 1099511627776 ≤ 1099511627776; omega)
  exact this l 0 (by omega) (by omega)

set_option maxHeartbeats 2000000 in
theorem total_any (A : Option Addr) (c : Nat) (l : List Int) (w : World) (h : Ints w A l) (hl : l.length ≤ 9223372036854775807) :
    Calls Try.prog 12 #[.slice A l.length c] w fun e w' => e = .returned (.int .i64 (totF l)) ∧ w = w' := by
  go_enter Try.func12, Try.ntmps12
  go_wp2
  go_loop [3, 8] (fun s i => ∃ k : Nat, k ≤ l.length ∧ i = .int .i64 k ∧ s = .int .i64 (totF (l.take k))) (fun _ i => l.length - (intOf i).toNat)
  case atStart => exact ⟨0, by omega, rfl, rfl⟩
  case round =>
    obtain ⟨k, hk, rfl, rfl⟩ := hrel
    obtain ⟨b1, b2⟩ := totF_bd (l.take k)
    by_cases hlt : k < l.length
    · obtain ⟨ad, x, rfl, _, hx, hc⟩ := h.at_ hlt
      have HX : Hid (totF (l.take (k + 1)) = min (totF (l.take k) + clampF x) 1099511627776) := by rw [take_snoc hx]; exact totF_snoc _ _
      clear hx
      generalize totF (l.take k) = s at *
      go_wp2
      all_goals
        go_round
        case rel => exact ⟨k + 1, by omega, by go_num, by rw [HX.out]; refine congrArg (Value.int .i64) ?_; simp only [clampF]; omega⟩
        case measure => simp [intOf]; omega
    · have e : l.take k = l := List.take_of_length_le (by omega)
      rw [e] at b1 b2 ⊢
      clear e
      go_wp2
      go_ret
      exact ⟨rfl, rfl⟩

set_option maxHeartbeats 2000000 in
theorem rtotal_any (A : Option Addr) (c : Nat) (l : List Int) (w : World) (h : Ints w A l) (hl : l.length ≤ 9223372036854775807) :
    Calls Try.prog 13 #[.slice A l.length c] w fun e w' => e = .returned (.int .i64 (totF l)) ∧ w = w' := by
  go_enter Try.func13, Try.ntmps13
  go_wp2
  go_loop [3, 4] (fun s i => ∃ k : Nat, k ≤ l.length ∧ i = .int .i64 k ∧ s = .int .i64 (totF (l.take k))) (fun _ i => l.length - (intOf i).toNat)
  case atStart => exact ⟨0, by omega, rfl, rfl⟩
  case round =>
    obtain ⟨k, hk, rfl, rfl⟩ := hrel
    obtain ⟨b1, b2⟩ := totF_bd (l.take k)
    by_cases hlt : k < l.length
    · obtain ⟨ad, x, rfl, _, hx, hc⟩ := h.at_ hlt
      have HX : Hid (totF (l.take (k + 1)) = min (totF (l.take k) + clampF x) 1099511627776) := by rw [take_snoc hx]; exact totF_snoc _ _
      clear hx
      generalize totF (l.take k) = s at *
      go_wp2
      all_goals
        go_round
        case rel => exact ⟨k + 1, by omega, by go_num, by rw [HX.out]; refine congrArg (Value.int .i64) ?_; simp only [clampF]; omega⟩
        case measure => simp [intOf]; omega
    · have e : l.take k = l := List.take_of_length_le (by omega)
      rw [e] at b1 b2 ⊢
      clear e
      go_wp2
      go_ret
      exact ⟨rfl, rfl⟩

def okH (c k : Int) : Bool := inB 0 1099511627776 c && inB 1 1099511627776 k
def shareF (c k : Int) : Int := if okH c k then (c * 100 + k - 1) / k else 0

set_option maxHeartbeats 4000000 in
theorem share_any (c k : Int) (w : World) : Calls Try.prog 14 #[.int .i64 c, .int .i64 k] w fun e w' => e = .returned (.int .i64 (shareF c k)) ∧ Grows w w' := by
  cases ho : okH c k
  · have hv : shareF c k = 0 := by simp [shareF, ho]
    rw [hv]
    have HO := Lib.hid ho
    clear ho hv
    go_enter Try.func14, Try.ntmps14
    go_wp2_with (first | (go_at_call 16; (with_reducible refine (within2 _ _ _ _ _ _ (by simp)).mono ?_); rintro e w' ⟨rfl, rfl⟩) | (go_at_call 16; (with_reducible refine (within1 _ _ _ _ _ (by simp)).mono ?_); rintro e w' ⟨rfl, rfl⟩))
    all_goals first
      | (go_ret; exact ⟨rfl, by repeat (first | (with_reducible exact Below.refl _ _) | refine Below.alloc ?_ (by simp) _)⟩)
      | (exfalso; go_tidy; have h := HO.out; clear HO; simp_all [okH]; try omega; done)
  · have hv : shareF c k = (c * 100 + k - 1) / k := by simp [shareF, ho]
    rw [hv]
    simp only [okH, Bool.and_eq_true] at ho
    obtain ⟨h1, h2⟩ := ho
    obtain ⟨g1, g2⟩ := inB_true h1
    obtain ⟨g3, g4⟩ := inB_true h2
    clear hv
    go_enter Try.func14, Try.ntmps14
    go_wp2_with (first | (go_at_call 16; (with_reducible refine (within2 _ _ _ _ _ _ (by simp)).mono ?_); rintro e w' ⟨rfl, rfl⟩) | (go_at_call 16; (with_reducible refine (within1 _ _ _ _ _ (by simp)).mono ?_); rintro e w' ⟨rfl, rfl⟩))
    go_ret
    exact ⟨rfl, by repeat (first | (with_reducible exact Below.refl _ _) | refine Below.alloc ?_ (by simp) _)⟩

set_option maxHeartbeats 4000000 in
theorem rshare_any (c k : Int) (w : World) : Calls Try.prog 15 #[.int .i64 c, .int .i64 k] w fun e w' => e = .returned (.int .i64 (shareF c k)) ∧ Grows w w' := by
  cases ho : okH c k
  · have hv : shareF c k = 0 := by simp [shareF, ho]
    rw [hv]
    have HO := Lib.hid ho
    clear ho hv
    go_enter Try.func15, Try.ntmps15
    go_wp2_with fail
    all_goals first
      | (go_ret; exact ⟨rfl, by repeat (first | (with_reducible exact Below.refl _ _) | refine Below.alloc ?_ (by simp) _)⟩)
      | (exfalso; go_tidy; have h := HO.out; clear HO; simp_all [okH, inB]; try omega; done)
  · have hv : shareF c k = (c * 100 + k - 1) / k := by simp [shareF, ho]
    rw [hv]
    simp only [okH, Bool.and_eq_true] at ho
    obtain ⟨h1, h2⟩ := ho
    obtain ⟨g1, g2⟩ := inB_true h1
    obtain ⟨g3, g4⟩ := inB_true h2
    clear hv
    go_enter Try.func15, Try.ntmps15
    go_wp2_with fail
    go_ret
    exact ⟨rfl, by repeat (first | (with_reducible exact Below.refl _ _) | refine Below.alloc ?_ (by simp) _)⟩

end Go.Proofs.Ytbpkhfflnaofgaa
