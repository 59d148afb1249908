/-
  YtnbdpnlepcjmmaaGreatOfferChooses: shared parts, 2. Plain theorems.
-/
import Derived.Test.YtnbdpnlepcjmmaaGreatOfferChoosesK1
import Derived.Lib.BitFns
import Derived.Lib.MinMax
import Derived.Deep.DeepCutAuto
namespace Go.Proofs.YtnbdpnlepcjmmaaGreat
open Go.RowKit
def I64 (n : Int) : Prop := -9223372036854775808 ≤ n ∧ n ≤ 9223372036854775807
def closerF (want a b : Int) : Int := orZ [cmpZ (farD a want) (farD b want), cmpZ a b]
theorem closer_eq (want a b : Int) : closerF want a b = if cmpZ (farD a want) (farD b want) = 0 then cmpZ a b else cmpZ (farD a want) (farD b want) := by
 unfold closerF
 rw [orZ_cons, orZ_cons]
 by_cases h : cmpZ a b = 0
 ·rw [if_pos h, h]
  rfl
 ·rw [if_neg h]
def kindZ (want a b : Int) : Int := if a = b then 0 else if a = want ∨ (b ≠ want ∧ b < a) then -1 else 1
def lexZ : List Int → List Int → Int
 | [], [] => 0
 | [], _ :: _ => -1
 | _ :: _, [] => 1
 | x :: a, y :: b => if cmpZ x y = 0 then lexZ a b else cmpZ x y
def mapsF (want a b : List Int) : Int :=
 if decide (a = want) = decide (b = want) then orZ [cmpZ ((commonL want b).length : Int) ((commonL want a).length : Int), cmpZ (a.length : Int) (b.length : Int), lexZ a b] else if a = want then -1 else 1
structure Ch where
 k : Int
 r : Int
 m : List Int
 s : Int
deriving DecidableEq
def OKC (c : Ch) : Prop := I64 c.r ∧ I64 c.s ∧ c.m.length ≤ 1000000
def cmpL (want a b : Ch) : List Int := [kindZ want.k a.k b.k, closerF want.r a.r b.r, mapsF want.m a.m b.m, closerF want.s a.s b.s]
def cmpF (want a b : Ch) : Int := orZ (cmpL want a b)
theorem odist_any (a b : Int) (w : World) (ha : -9223372036854775808 ≤ a ∧ a ≤ 9223372036854775807) (hb : -9223372036854775808 ≤ b ∧ b ≤ 9223372036854775807) : Calls Tryz.prog 85 #[.int .i64 a, .int .i64 b] w fun e w' => e = .returned (.int .u64 (farD a b)) ∧ Grows w w' := by
 by_cases h1 : a < b
 ·have hu := u64_sub b a (by omega)
  have HE : Hid (farD a b = b - a) := Lib.hid (if_pos h1)
  go_enter Tryz.func85, Tryz.ntmps85
  go_wp2
  go_ret
  exact ⟨ret_int HE.out.symm, Below.refl _ _⟩
 ·have hu := u64_sub a b (by omega)
  have HE : Hid (farD a b = a - b) := Lib.hid (if_neg h1)
  go_enter Tryz.func85, Tryz.ntmps85
  go_wp2
  go_ret
  exact ⟨ret_int HE.out.symm, Below.refl _ _⟩
theorem raway10_any (a b : Int) (w : World) (ha : -9223372036854775808 ≤ a ∧ a ≤ 9223372036854775807) (hb : -9223372036854775808 ≤ b ∧ b ≤ 9223372036854775807) : Calls Tryz.prog 91 #[.int .i64 a, .int .i64 b] w fun e w' => e = .returned (.int .u64 (farD a b)) ∧ Grows w w' := by
 by_cases h1 : b < a
 ·have hu := u64_sub a b (by omega)
  have HE : Hid (farD a b = a - b) := Lib.hid (if_neg (by omega))
  go_enter Tryz.func91, Tryz.ntmps91
  go_wp2
  go_ret
  exact ⟨ret_int HE.out.symm, Below.refl _ _⟩
 ·have hu := u64_sub b a (by omega)
  have HE : Hid (farD a b = b - a) := Lib.hid (by unfold farD; split <;> omega)
  go_enter Tryz.func91, Tryz.ntmps91
  go_wp2
  go_ret
  exact ⟨ret_int HE.out.symm, Below.refl _ _⟩
theorem closer_any (want a b : Int) (w : World) (hw : I64 want) (ha : I64 a) (hb : I64 b) : Calls Tryz.prog 45 #[.int .i64 want, .int .i64 a, .int .i64 b] w fun e w' => e = .returned (.int .i64 (closerF want a b)) ∧ Grows w w' := by
 have hB := Below.refl w.heap.size w
 go_enter Tryz.func45, Tryz.ntmps45
 go_wp2_with fail
 refine (odist_any a want _ ha hw).mono ?_
 rintro e w1 ⟨rfl, hq⟩
 replace hB := below_grows hB (Nat.le_refl _) hq
 clear hq
 go_wp2_with fail
 refine (odist_any b want _ hb hw).mono ?_
 rintro e w2 ⟨rfl, hq⟩
 replace hB := below_grows hB (Nat.le_refl _) hq
 clear hq
 go_wp2_with fail
 refine (cmpu_any (farD a want) (farD b want) _).mono ?_
 rintro e w3 ⟨rfl, hq⟩
 replace hB := below_grows hB (Nat.le_refl _) hq
 clear hq
 go_wp2_with fail
 refine (cmpi_any a b _).mono ?_
 rintro e w4 ⟨rfl, hq⟩
 replace hB := below_grows hB (Nat.le_refl _) hq
 clear hq
 have hL := ints_lits w4 [cmpZ (farD a want) (farD b want), cmpZ a b] #[.int .i64 (cmpZ (farD a want) (farD b want)), .int .i64 (cmpZ a b)] 3 rfl
 replace hB := below_grows hB (Nat.le_refl _) ((Below.refl w4.heap.size w4).alloc (Nat.le_refl _) (Obj.cells #[.int .i64 (cmpZ (farD a want) (farD b want)), .int .i64 (cmpZ a b)] 3))
 go_wp2_with fail
 refine (or_any _ 2 [cmpZ (farD a want) (farD b want), cmpZ a b] _ hL (by simp)).mono ?_
 rintro e w5 ⟨rfl, hq⟩
 replace hB := below_grows hB (Nat.le_refl _) hq
 clear hq
 go_wp2
 go_ret
 exact ⟨rfl, hB⟩
set_option maxHeartbeats 4000000 in
theorem lex_any (A B : Option Addr) (c d : Nat) (a b : List Int) (w : World) (ha : Ints w A a) (hb : Ints w B b) (hl : a.length ≤ 9223372036854775807) (hl2 : b.length ≤ 9223372036854775807) :
 Calls Tryz.prog 89 #[.slice A a.length c, .slice B b.length d] w fun e w' => e = .returned (.int .i64 (lexZ a b)) ∧ Grows w w' := by
 go_enter Tryz.func89, Tryz.ntmps89
 go_wp2_with fail
 go_loopw [11] (fun i wr => ∃ k : Nat, k ≤ a.length ∧ k ≤ b.length ∧ i = .int .i64 k ∧ Hid (lexZ a b = lexZ (a.drop k) (b.drop k)) ∧ Grows w wr) (fun i _ => a.length - (intOf i).toNat)
 case atStart => exact ⟨0, by omega, by omega, rfl, Lib.hid rfl, Below.refl _ _⟩
 case round =>
  obtain ⟨k, hk, hk2, rfl, HF, hB⟩ := hrel
  by_cases hlt : k < a.length
  ·obtain ⟨ad, x, rfl, had, hx, q0⟩ := (ha.grows hB).at_ hlt
   by_cases hlt2 : k < b.length
   case neg =>
    have HE : Hid (lexZ a b = 1) := Lib.hid (by
     rw [HF.out, List.drop_eq_getElem_cons hlt, List.drop_of_length_le (show b.length ≤ k by omega)]
     rfl)
    have h1 : decide ((b.length : Int) ≤ (k : Int)) = true := by simp only [decide_eq_true_eq]; omega
    clear hx HF
    go_wp2
    go_ret
    exact ⟨ret_int HE.out.symm, hB⟩
   obtain ⟨ad2, y, rfl, had2, hy, q1⟩ := (hb.grows hB).at_ hlt2
   have HD : Hid (lexZ a b = if cmpZ x y = 0 then lexZ (a.drop (k + 1)) (b.drop (k + 1)) else cmpZ x y) := Lib.hid (by
    obtain ⟨_, e1⟩ := List.getElem?_eq_some_iff.1 hx
    obtain ⟨_, e2⟩ := List.getElem?_eq_some_iff.1 hy
    rw [HF.out, List.drop_eq_getElem_cons hlt, List.drop_eq_getElem_cons hlt2, e1, e2]
    rfl)
   have h1 : decide ((b.length : Int) ≤ (k : Int)) = false := by simp only [decide_eq_false_iff_not]; omega
   clear hx hy HF
   go_wp2_with fail
   refine (cmpi_any x y _).mono ?_
   rintro e w1 ⟨rfl, hq⟩
   replace hB := below_grows hB (Nat.le_refl _) hq
   clear hq q0 q1
   by_cases h0 : cmpZ x y = 0
   ·have HE : Hid (lexZ a b = lexZ (a.drop (k + 1)) (b.drop (k + 1))) := Lib.hid (by rw [HD.out, if_pos h0])
    clear HD
    rw [h0]
    clear h0
    go_wp2
    go_roundw
    case rel => exact ⟨k + 1, by omega, by omega, by go_num, HE, hB⟩
    case measure => simp [intOf]; omega
   ·have HE : Hid (lexZ a b = cmpZ x y) := Lib.hid (by rw [HD.out, if_neg h0])
    have hne : (cmpZ x y != 0) = true := by simpa using h0
    clear HD h0
    go_wp2
    go_ret
    exact ⟨ret_int HE.out.symm, hB⟩
  ·by_cases h2 : a.length < b.length
   ·have HE : Hid (lexZ a b = -1) := Lib.hid (by
     rw [HF.out, List.drop_of_length_le (show a.length ≤ k by omega), List.drop_eq_getElem_cons (show k < b.length by omega)]
     rfl)
    have h1 : decide ((a.length : Int) < (b.length : Int)) = true := by simp only [decide_eq_true_eq]; omega
    clear HF
    go_wp2
    go_ret
    exact ⟨ret_int HE.out.symm, hB⟩
   ·have HE : Hid (lexZ a b = 0) := Lib.hid (by
     rw [HF.out, List.drop_of_length_le (show a.length ≤ k by omega), List.drop_of_length_le (show b.length ≤ k by omega)]
     rfl)
    have h1 : decide ((a.length : Int) < (b.length : Int)) = false := by simp only [decide_eq_false_iff_not]; omega
    clear HF
    go_wp2
    go_ret
    exact ⟨ret_int HE.out.symm, hB⟩
set_option maxHeartbeats 8000000 in
theorem maps_any (I A B : Option Addr) (ci c d : Nat) (want a b : List Int) (w : World) (hi : Ints w I want) (ha : Ints w A a) (hb : Ints w B b) (hlw : want.length ≤ 1000000) (hl : a.length ≤ 9223372036854775807) (hl2 : b.length ≤ 9223372036854775807) :
 Calls Tryz.prog 47 #[.slice I want.length ci, .slice A a.length c, .slice B b.length d] w fun e w' => e = .returned (.int .i64 (mapsF want a b)) ∧ Grows w w' := by
 have hB := Below.refl w.heap.size w
 have hlw2 : want.length ≤ 9223372036854775807 := by omega
 go_enter Tryz.func47, Tryz.ntmps47
 go_wp2_with fail
 refine (psame_any A I c ci a want _ ha hi hl hlw2).mono ?_
 rintro e w1 ⟨rfl, hq⟩
 replace hB := below_grows hB (Nat.le_refl _) hq
 replace hi := hi.grows hq
 replace ha := ha.grows hq
 replace hb := hb.grows hq
 clear hq
 go_wp2_with fail
 refine (psame_any B I d ci b want _ hb hi hl2 hlw2).mono ?_
 rintro e w2 ⟨rfl, hq⟩
 replace hB := below_grows hB (Nat.le_refl _) hq
 replace hi := hi.grows hq
 replace ha := ha.grows hq
 replace hb := hb.grows hq
 clear hq
 by_cases e1 : a = want
 ·by_cases e2 : b = want
  ·have HE : Hid (mapsF want a b = orZ [cmpZ ((commonL want b).length : Int) ((commonL want a).length : Int), cmpZ (a.length : Int) (b.length : Int), lexZ a b]) := Lib.hid (by unfold mapsF; rw [if_pos (by simp [e1, e2])])
   rw [decide_eq_true e1, decide_eq_true e2]
   clear e1 e2
   go_wp2_with fail
   refine (pcommon_any I B ci d want b _ hi hb hlw hl2).mono ?_
   rintro e w3 ⟨⟨v3, rfl, ho3⟩, hq⟩
   replace hB := below_grows hB (Nat.le_refl _) hq
   replace hi := hi.grows hq
   replace ha := ha.grows hq
   replace hb := hb.grows hq
   clear hq
   obtain ⟨A3, c3, rfl, -, -⟩ := ho3.read
   clear ho3
   go_wp2_with fail
   refine (pcommon_any I A ci c want a _ hi ha hlw hl).mono ?_
   rintro e w4 ⟨⟨v4, rfl, ho4⟩, hq⟩
   replace hB := below_grows hB (Nat.le_refl _) hq
   replace hi := hi.grows hq
   replace ha := ha.grows hq
   replace hb := hb.grows hq
   clear hq
   obtain ⟨A4, c4, rfl, -, -⟩ := ho4.read
   clear ho4
   go_wp2_with fail
   refine (cmpi_any ((commonL want b).length : Int) ((commonL want a).length : Int) _).mono ?_
   rintro e w5 ⟨rfl, hq⟩
   replace hB := below_grows hB (Nat.le_refl _) hq
   replace hi := hi.grows hq
   replace ha := ha.grows hq
   replace hb := hb.grows hq
   clear hq
   go_wp2_with fail
   refine (cmpi_any (a.length : Int) (b.length : Int) _).mono ?_
   rintro e w6 ⟨rfl, hq⟩
   replace hB := below_grows hB (Nat.le_refl _) hq
   replace hi := hi.grows hq
   replace ha := ha.grows hq
   replace hb := hb.grows hq
   clear hq
   go_wp2_with fail
   refine (lex_any A B c d a b _ ha hb hl hl2).mono ?_
   rintro e w7 ⟨rfl, hq⟩
   replace hB := below_grows hB (Nat.le_refl _) hq
   replace hi := hi.grows hq
   replace ha := ha.grows hq
   replace hb := hb.grows hq
   clear hq
   generalize cmpZ ((commonL want b).length : Int) ((commonL want a).length : Int) = z1 at *
   generalize cmpZ (a.length : Int) (b.length : Int) = z2 at *
   generalize lexZ a b = z3 at *
   have hL := ints_lits w7 [z1, z2, z3] #[.int .i64 z1, .int .i64 z2, .int .i64 z3] 3 rfl
   replace hB := below_grows hB (Nat.le_refl _) ((Below.refl w7.heap.size w7).alloc (Nat.le_refl _) (Obj.cells #[.int .i64 z1, .int .i64 z2, .int .i64 z3] 3))
   go_wp2_with fail
   refine (or_any _ 3 [z1, z2, z3] _ hL (by simp)).mono ?_
   rintro e w8 ⟨rfl, hq⟩
   replace hB := below_grows hB (Nat.le_refl _) hq
   clear hq
   go_wp2
   go_ret
   exact ⟨ret_int HE.out.symm, hB⟩
  ·have HE : Hid (mapsF want a b = -1) := Lib.hid (by unfold mapsF; rw [if_neg (by simp [e1, e2]), if_pos e1])
   rw [decide_eq_true e1, decide_eq_false e2]
   clear e1 e2
   go_wp2
   go_ret
   exact ⟨ret_int HE.out.symm, hB⟩
 ·by_cases e2 : b = want
  ·have HE : Hid (mapsF want a b = 1) := Lib.hid (by unfold mapsF; rw [if_neg (by simp [e1, e2]), if_neg e1])
   rw [decide_eq_false e1, decide_eq_true e2]
   clear e1 e2
   go_wp2
   go_ret
   exact ⟨ret_int HE.out.symm, hB⟩
  ·have HE : Hid (mapsF want a b = orZ [cmpZ ((commonL want b).length : Int) ((commonL want a).length : Int), cmpZ (a.length : Int) (b.length : Int), lexZ a b]) := Lib.hid (by unfold mapsF; rw [if_pos (by simp [e1, e2])])
   rw [decide_eq_false e1, decide_eq_false e2]
   clear e1 e2
   go_wp2_with fail
   refine (pcommon_any I B ci d want b _ hi hb hlw hl2).mono ?_
   rintro e w3 ⟨⟨v3, rfl, ho3⟩, hq⟩
   replace hB := below_grows hB (Nat.le_refl _) hq
   replace hi := hi.grows hq
   replace ha := ha.grows hq
   replace hb := hb.grows hq
   clear hq
   obtain ⟨A3, c3, rfl, -, -⟩ := ho3.read
   clear ho3
   go_wp2_with fail
   refine (pcommon_any I A ci c want a _ hi ha hlw hl).mono ?_
   rintro e w4 ⟨⟨v4, rfl, ho4⟩, hq⟩
   replace hB := below_grows hB (Nat.le_refl _) hq
   replace hi := hi.grows hq
   replace ha := ha.grows hq
   replace hb := hb.grows hq
   clear hq
   obtain ⟨A4, c4, rfl, -, -⟩ := ho4.read
   clear ho4
   go_wp2_with fail
   refine (cmpi_any ((commonL want b).length : Int) ((commonL want a).length : Int) _).mono ?_
   rintro e w5 ⟨rfl, hq⟩
   replace hB := below_grows hB (Nat.le_refl _) hq
   replace hi := hi.grows hq
   replace ha := ha.grows hq
   replace hb := hb.grows hq
   clear hq
   go_wp2_with fail
   refine (cmpi_any (a.length : Int) (b.length : Int) _).mono ?_
   rintro e w6 ⟨rfl, hq⟩
   replace hB := below_grows hB (Nat.le_refl _) hq
   replace hi := hi.grows hq
   replace ha := ha.grows hq
   replace hb := hb.grows hq
   clear hq
   go_wp2_with fail
   refine (lex_any A B c d a b _ ha hb hl hl2).mono ?_
   rintro e w7 ⟨rfl, hq⟩
   replace hB := below_grows hB (Nat.le_refl _) hq
   replace hi := hi.grows hq
   replace ha := ha.grows hq
   replace hb := hb.grows hq
   clear hq
   generalize cmpZ ((commonL want b).length : Int) ((commonL want a).length : Int) = z1 at *
   generalize cmpZ (a.length : Int) (b.length : Int) = z2 at *
   generalize lexZ a b = z3 at *
   have hL := ints_lits w7 [z1, z2, z3] #[.int .i64 z1, .int .i64 z2, .int .i64 z3] 3 rfl
   replace hB := below_grows hB (Nat.le_refl _) ((Below.refl w7.heap.size w7).alloc (Nat.le_refl _) (Obj.cells #[.int .i64 z1, .int .i64 z2, .int .i64 z3] 3))
   go_wp2_with fail
   refine (or_any _ 3 [z1, z2, z3] _ hL (by simp)).mono ?_
   rintro e w8 ⟨rfl, hq⟩
   replace hB := below_grows hB (Nat.le_refl _) hq
   clear hq
   go_wp2
   go_ret
   exact ⟨ret_int HE.out.symm, hB⟩
theorem test1_any {I A B : Option Addr} {ci c d : Nat} {want a b : Ch} {Gw Ga Gb : Nat} {w : World} (kw : Blk w Gw 27 #[.int .i64 want.k, .int .i64 want.r, .slice I want.m.length ci, .int .i64 want.s]) (ka : Blk w Ga 27 #[.int .i64 a.k, .int .i64 a.r, .slice A a.m.length c, .int .i64 a.s]) (kb : Blk w Gb 27 #[.int .i64 b.k, .int .i64 b.r, .slice B b.m.length d, .int .i64 b.s]) : Calls Tryz.prog 43 #[.pointer (some ⟨Ga, 0, none⟩), .pointer (some ⟨Gb, 0, none⟩), .pointer (some ⟨Gw, 0, none⟩)] w fun e w' => e = .returned (.int .i64 (kindZ want.k a.k b.k)) ∧ Grows w w' := by
 have xw := kw.cell
 have xa := ka.cell
 have xb := kb.cell
 go_enter Tryz.func43, Tryz.ntmps43
 by_cases h1 : a.k = b.k
 ·have HE : Hid (kindZ want.k a.k b.k = 0) := Lib.hid (by unfold kindZ; rw [if_pos h1])
  have d1 : (a.k == b.k) = true := by simpa using h1
  clear h1
  go_wp2
  go_ret
  exact ⟨ret_int HE.out.symm, Below.refl _ _⟩
 have d1 : (a.k == b.k) = false := by simpa using h1
 by_cases h2 : a.k = want.k
 ·have HE : Hid (kindZ want.k a.k b.k = -1) := Lib.hid (by unfold kindZ; rw [if_neg h1, if_pos (.inl h2)])
  have d2 : (a.k == want.k) = true := by simpa using h2
  clear h1 h2
  go_wp2
  go_ret
  exact ⟨ret_int HE.out.symm, Below.refl _ _⟩
 have d2 : (a.k == want.k) = false := by simpa using h2
 by_cases h3 : b.k = want.k
 ·have HE : Hid (kindZ want.k a.k b.k = 1) := Lib.hid (by unfold kindZ; rw [if_neg h1, if_neg (by omega)])
  have d3 : (b.k != want.k) = false := by simpa using h3
  clear h1 h2 h3
  go_wp2
  go_ret
  exact ⟨ret_int HE.out.symm, Below.refl _ _⟩
 have d3 : (b.k != want.k) = true := by simpa using h3
 by_cases h4 : b.k < a.k
 ·have HE : Hid (kindZ want.k a.k b.k = -1) := Lib.hid (by unfold kindZ; rw [if_neg h1, if_pos (.inr ⟨h3, h4⟩)])
  have d4 : decide (b.k < a.k) = true := by simpa using h4
  clear h1 h2 h3 h4
  go_wp2
  go_ret
  exact ⟨ret_int HE.out.symm, Below.refl _ _⟩
 ·have HE : Hid (kindZ want.k a.k b.k = 1) := Lib.hid (by unfold kindZ; rw [if_neg h1, if_neg (by omega)])
  have d4 : decide (b.k < a.k) = false := by simpa using h4
  clear h1 h2 h3 h4
  go_wp2
  go_ret
  exact ⟨ret_int HE.out.symm, Below.refl _ _⟩
theorem test2_any {I A B : Option Addr} {ci c d : Nat} {want a b : Ch} {Gw Ga Gb : Nat} {w : World} (kw : Blk w Gw 27 #[.int .i64 want.k, .int .i64 want.r, .slice I want.m.length ci, .int .i64 want.s]) (ka : Blk w Ga 27 #[.int .i64 a.k, .int .i64 a.r, .slice A a.m.length c, .int .i64 a.s]) (kb : Blk w Gb 27 #[.int .i64 b.k, .int .i64 b.r, .slice B b.m.length d, .int .i64 b.s]) (hw : OKC want) (ha : OKC a) (hb : OKC b) : Calls Tryz.prog 44 #[.pointer (some ⟨Gw, 0, none⟩), .pointer (some ⟨Ga, 0, none⟩), .pointer (some ⟨Gb, 0, none⟩)] w fun e w' => e = .returned (.int .i64 (closerF want.r a.r b.r)) ∧ Grows w w' := by
 have xw := kw.cell
 have xa := ka.cell
 have xb := kb.cell
 go_enter Tryz.func44, Tryz.ntmps44
 go_wp2_with fail
 refine (closer_any want.r a.r b.r _ hw.1 ha.1 hb.1).mono ?_
 rintro e w1 ⟨rfl, hq⟩
 go_wp2
 go_ret
 exact ⟨rfl, hq⟩
theorem test3_any {I A B : Option Addr} {ci c d : Nat} {want a b : Ch} {Gw Ga Gb : Nat} {w : World} (kw : Blk w Gw 27 #[.int .i64 want.k, .int .i64 want.r, .slice I want.m.length ci, .int .i64 want.s]) (ka : Blk w Ga 27 #[.int .i64 a.k, .int .i64 a.r, .slice A a.m.length c, .int .i64 a.s]) (kb : Blk w Gb 27 #[.int .i64 b.k, .int .i64 b.r, .slice B b.m.length d, .int .i64 b.s]) (hw : OKC want) (ha : OKC a) (hb : OKC b) (iw : Ints w I want.m) (ia : Ints w A a.m) (ib : Ints w B b.m) : Calls Tryz.prog 46 #[.pointer (some ⟨Gw, 0, none⟩), .pointer (some ⟨Ga, 0, none⟩), .pointer (some ⟨Gb, 0, none⟩)] w fun e w' => e = .returned (.int .i64 (mapsF want.m a.m b.m)) ∧ Grows w w' := by
 have xw := kw.cell
 have xa := ka.cell
 have xb := kb.cell
 go_enter Tryz.func46, Tryz.ntmps46
 go_wp2_with fail
 refine (maps_any I A B ci c d want.m a.m b.m _ iw ia ib hw.2.2 (by have := ha.2.2; omega) (by have := hb.2.2; omega)).mono ?_
 rintro e w1 ⟨rfl, hq⟩
 go_wp2
 go_ret
 exact ⟨rfl, hq⟩
theorem test4_any {I A B : Option Addr} {ci c d : Nat} {want a b : Ch} {Gw Ga Gb : Nat} {w : World} (kw : Blk w Gw 27 #[.int .i64 want.k, .int .i64 want.r, .slice I want.m.length ci, .int .i64 want.s]) (ka : Blk w Ga 27 #[.int .i64 a.k, .int .i64 a.r, .slice A a.m.length c, .int .i64 a.s]) (kb : Blk w Gb 27 #[.int .i64 b.k, .int .i64 b.r, .slice B b.m.length d, .int .i64 b.s]) (hw : OKC want) (ha : OKC a) (hb : OKC b) : Calls Tryz.prog 48 #[.pointer (some ⟨Gw, 0, none⟩), .pointer (some ⟨Ga, 0, none⟩), .pointer (some ⟨Gb, 0, none⟩)] w fun e w' => e = .returned (.int .i64 (closerF want.s a.s b.s)) ∧ Grows w w' := by
 have xw := kw.cell
 have xa := ka.cell
 have xb := kb.cell
 go_enter Tryz.func48, Tryz.ntmps48
 go_wp2_with fail
 refine (closer_any want.s a.s b.s _ hw.2.1 ha.2.1 hb.2.1).mono ?_
 rintro e w1 ⟨rfl, hq⟩
 go_wp2
 go_ret
 exact ⟨rfl, hq⟩
set_option maxHeartbeats 8000000 in
theorem compare_any (I A B : Option Addr) (ci c d : Nat) (want a b : Ch) (w : World) (iw : Ints w I want.m) (ia : Ints w A a.m) (ib : Ints w B b.m) (hw : OKC want) (ha : OKC a) (hb : OKC b) :
 Calls Tryz.prog 16 #[.agg #[.int .i64 want.k, .int .i64 want.r, .slice I want.m.length ci, .int .i64 want.s], .agg #[.int .i64 a.k, .int .i64 a.r, .slice A a.m.length c, .int .i64 a.s], .agg #[.int .i64 b.k, .int .i64 b.r, .slice B b.m.length d, .int .i64 b.s]] w fun e w' => e = .returned (.int .i64 (cmpF want a b)) ∧ Grows w w' := by
 have k1 := ((Blk.new w 27 #[.int .i64 want.k, .int .i64 want.r, .slice I want.m.length ci, .int .i64 want.s]).alloc (Obj.cells #[.int .i64 a.k, .int .i64 a.r, .slice A a.m.length c, .int .i64 a.s] 27)).alloc (Obj.cells #[.int .i64 b.k, .int .i64 b.r, .slice B b.m.length d, .int .i64 b.s] 27)
 have k2 := (Blk.new (w.alloc (Obj.cells #[.int .i64 want.k, .int .i64 want.r, .slice I want.m.length ci, .int .i64 want.s] 27)) 27 #[.int .i64 a.k, .int .i64 a.r, .slice A a.m.length c, .int .i64 a.s]).alloc (Obj.cells #[.int .i64 b.k, .int .i64 b.r, .slice B b.m.length d, .int .i64 b.s] 27)
 have k3 := Blk.new ((w.alloc (Obj.cells #[.int .i64 want.k, .int .i64 want.r, .slice I want.m.length ci, .int .i64 want.s] 27)).alloc (Obj.cells #[.int .i64 a.k, .int .i64 a.r, .slice A a.m.length c, .int .i64 a.s] 27)) 27 #[.int .i64 b.k, .int .i64 b.r, .slice B b.m.length d, .int .i64 b.s]
 have hB := (((Below.refl w.heap.size w).alloc (Nat.le_refl _) (Obj.cells #[.int .i64 want.k, .int .i64 want.r, .slice I want.m.length ci, .int .i64 want.s] 27)).alloc (by simp) (Obj.cells #[.int .i64 a.k, .int .i64 a.r, .slice A a.m.length c, .int .i64 a.s] 27)).alloc (by simp; omega) (Obj.cells #[.int .i64 b.k, .int .i64 b.r, .slice B b.m.length d, .int .i64 b.s] 27)
 go_enter Tryz.func16, Tryz.ntmps16
 go_upto_region 1 with fail
 have hs1 : (w.alloc (Obj.cells #[.int .i64 want.k, .int .i64 want.r, .slice I want.m.length ci, .int .i64 want.s] 27)).heap.size = w.heap.size + 1 := by simp
 have hs2 : ((w.alloc (Obj.cells #[.int .i64 want.k, .int .i64 want.r, .slice I want.m.length ci, .int .i64 want.s] 27)).alloc (Obj.cells #[.int .i64 a.k, .int .i64 a.r, .slice A a.m.length c, .int .i64 a.s] 27)).heap.size = w.heap.size + 1 + 1 := by simp
 rw [hs1] at k2
 rw [hs2] at k3
 clear hs1 hs2
 replace iw := iw.grows hB
 replace ia := ia.grows hB
 replace ib := ib.grows hB
 generalize World.alloc (World.alloc (World.alloc w _) _) _ = w3 at *
 generalize hG1 : w.heap.size + 1 = Ga at *
 generalize hG2 : Ga + 1 = Gb at *
 clear hG1 hG2
 have k4 := Blk.new w3 70 #[.func (.func 43) #[] #[.pointer (some ⟨Ga, 0, none⟩), .pointer (some ⟨Gb, 0, none⟩), .pointer (some ⟨w.heap.size, 0, none⟩)], .func (.func 44) #[] #[.pointer (some ⟨w.heap.size, 0, none⟩), .pointer (some ⟨Ga, 0, none⟩), .pointer (some ⟨Gb, 0, none⟩)], .func (.func 46) #[] #[.pointer (some ⟨w.heap.size, 0, none⟩), .pointer (some ⟨Ga, 0, none⟩), .pointer (some ⟨Gb, 0, none⟩)], .func (.func 48) #[] #[.pointer (some ⟨w.heap.size, 0, none⟩), .pointer (some ⟨Ga, 0, none⟩), .pointer (some ⟨Gb, 0, none⟩)]]
 have hq := (Below.refl w3.heap.size w3).alloc (Nat.le_refl _) (Obj.cells #[.func (.func 43) #[] #[.pointer (some ⟨Ga, 0, none⟩), .pointer (some ⟨Gb, 0, none⟩), .pointer (some ⟨w.heap.size, 0, none⟩)], .func (.func 44) #[] #[.pointer (some ⟨w.heap.size, 0, none⟩), .pointer (some ⟨Ga, 0, none⟩), .pointer (some ⟨Gb, 0, none⟩)], .func (.func 46) #[] #[.pointer (some ⟨w.heap.size, 0, none⟩), .pointer (some ⟨Ga, 0, none⟩), .pointer (some ⟨Gb, 0, none⟩)], .func (.func 48) #[] #[.pointer (some ⟨w.heap.size, 0, none⟩), .pointer (some ⟨Ga, 0, none⟩), .pointer (some ⟨Gb, 0, none⟩)]] 70)
 go_upto_region 2 with fail
 replace k1 := k1.grows hq
 replace k2 := k2.grows hq
 replace k3 := k3.grows hq
 replace iw := iw.grows hq
 replace ia := ia.grows hq
 replace ib := ib.grows hq
 replace hB := below_grows hB (Nat.le_refl _) hq
 generalize World.alloc w3 _ = w4 at *
 generalize w3.heap.size = G4 at *
 clear hq
 go_wp2_with fail
 go_loopw [18] (fun i wr => ∃ k : Nat, k ≤ 4 ∧ i = .int .i64 k ∧ Hid (cmpF want a b = orZ ((cmpL want a b).drop k)) ∧ Grows w4 wr) (fun i _ => 4 - (intOf i).toNat)
 case atStart => exact ⟨0, by omega, rfl, Lib.hid rfl, Below.refl _ _⟩
 case round =>
  obtain ⟨k, hk, rfl, HF, hq⟩ := hrel
  have x4 := (k4.grows hq).cell
  match k, hk with
  | 0, _ =>
   have HD : Hid (cmpF want a b = if kindZ want.k a.k b.k = 0 then orZ ((cmpL want a b).drop 1) else kindZ want.k a.k b.k) := Lib.hid (by rw [HF.out]; exact orZ_cons _ _)
   clear HF
   simp only [Int.cast_ofNat_Int]
   go_wp2_with fail
   refine (test1_any (k1.grows hq) (k2.grows hq) (k3.grows hq)).mono ?_
   generalize kindZ want.k a.k b.k = z at HD ⊢
   rintro e w6 ⟨rfl, hq2⟩
   replace hq := below_grows hq (Nat.le_refl _) hq2
   clear hq2 x4
   by_cases h0 : z = 0
   ·have HE : Hid (cmpF want a b = orZ ((cmpL want a b).drop 1)) := Lib.hid (by rw [HD.out, if_pos h0])
    subst h0
    clear HD
    go_wp2
    go_roundw
    case rel => exact ⟨1, by omega, by go_num, HE, hq⟩
    case measure => simp [intOf]
   ·have HE : Hid (cmpF want a b = z) := Lib.hid (by rw [HD.out, if_neg h0])
    have hne : (z != 0) = true := by simpa using h0
    clear HD h0
    go_wp2
    go_ret
    exact ⟨ret_int HE.out.symm, below_grows hB (Nat.le_refl _) hq⟩
  | 1, _ =>
   have HD : Hid (cmpF want a b = if closerF want.r a.r b.r = 0 then orZ ((cmpL want a b).drop 2) else closerF want.r a.r b.r) := Lib.hid (by rw [HF.out]; exact orZ_cons _ _)
   clear HF
   simp only [Int.cast_ofNat_Int]
   go_wp2_with fail
   refine (test2_any (k1.grows hq) (k2.grows hq) (k3.grows hq) hw ha hb).mono ?_
   generalize closerF want.r a.r b.r = z at HD ⊢
   rintro e w6 ⟨rfl, hq2⟩
   replace hq := below_grows hq (Nat.le_refl _) hq2
   clear hq2 x4
   by_cases h0 : z = 0
   ·have HE : Hid (cmpF want a b = orZ ((cmpL want a b).drop 2)) := Lib.hid (by rw [HD.out, if_pos h0])
    subst h0
    clear HD
    go_wp2
    go_roundw
    case rel => exact ⟨2, by omega, by go_num, HE, hq⟩
    case measure => simp [intOf]
   ·have HE : Hid (cmpF want a b = z) := Lib.hid (by rw [HD.out, if_neg h0])
    have hne : (z != 0) = true := by simpa using h0
    clear HD h0
    go_wp2
    go_ret
    exact ⟨ret_int HE.out.symm, below_grows hB (Nat.le_refl _) hq⟩
  | 2, _ =>
   have HD : Hid (cmpF want a b = if mapsF want.m a.m b.m = 0 then orZ ((cmpL want a b).drop 3) else mapsF want.m a.m b.m) := Lib.hid (by rw [HF.out]; exact orZ_cons _ _)
   clear HF
   simp only [Int.cast_ofNat_Int]
   go_wp2_with fail
   refine (test3_any (k1.grows hq) (k2.grows hq) (k3.grows hq) hw ha hb (iw.grows hq) (ia.grows hq) (ib.grows hq)).mono ?_
   generalize mapsF want.m a.m b.m = z at HD ⊢
   rintro e w6 ⟨rfl, hq2⟩
   replace hq := below_grows hq (Nat.le_refl _) hq2
   clear hq2 x4
   by_cases h0 : z = 0
   ·have HE : Hid (cmpF want a b = orZ ((cmpL want a b).drop 3)) := Lib.hid (by rw [HD.out, if_pos h0])
    subst h0
    clear HD
    go_wp2
    go_roundw
    case rel => exact ⟨3, by omega, by go_num, HE, hq⟩
    case measure => simp [intOf]
   ·have HE : Hid (cmpF want a b = z) := Lib.hid (by rw [HD.out, if_neg h0])
    have hne : (z != 0) = true := by simpa using h0
    clear HD h0
    go_wp2
    go_ret
    exact ⟨ret_int HE.out.symm, below_grows hB (Nat.le_refl _) hq⟩
  | 3, _ =>
   have HD : Hid (cmpF want a b = if closerF want.s a.s b.s = 0 then orZ ((cmpL want a b).drop 4) else closerF want.s a.s b.s) := Lib.hid (by rw [HF.out]; exact orZ_cons _ _)
   clear HF
   simp only [Int.cast_ofNat_Int]
   go_wp2_with fail
   refine (test4_any (k1.grows hq) (k2.grows hq) (k3.grows hq) hw ha hb).mono ?_
   generalize closerF want.s a.s b.s = z at HD ⊢
   rintro e w6 ⟨rfl, hq2⟩
   replace hq := below_grows hq (Nat.le_refl _) hq2
   clear hq2 x4
   by_cases h0 : z = 0
   ·have HE : Hid (cmpF want a b = orZ ((cmpL want a b).drop 4)) := Lib.hid (by rw [HD.out, if_pos h0])
    subst h0
    clear HD
    go_wp2
    go_roundw
    case rel => exact ⟨4, by omega, by go_num, HE, hq⟩
    case measure => simp [intOf]
   ·have HE : Hid (cmpF want a b = z) := Lib.hid (by rw [HD.out, if_neg h0])
    have hne : (z != 0) = true := by simpa using h0
    clear HD h0
    go_wp2
    go_ret
    exact ⟨ret_int HE.out.symm, below_grows hB (Nat.le_refl _) hq⟩
  | 4, _ =>
   have HE : Hid (cmpF want a b = 0) := Lib.hid (by rw [HF.out]; rfl)
   clear HF
   simp only [Int.cast_ofNat_Int]
   go_wp2
   go_ret
   exact ⟨ret_int HE.out.symm, below_grows hB (Nat.le_refl _) hq⟩
end Go.Proofs.YtnbdpnlepcjmmaaGreat

namespace Go.Proofs.YtnbdpnlepcjmmaaGreat
open Go.RowKit
/-- The block that n elements at A take is one of those that base allows. -/
def Lo (base : Nat → Prop) (A : Option Addr) (n : Nat) : Prop := 0 < n → ∀ ad, A = some ad → base ad.block
def Ge (n : Nat) : Nat → Prop := fun k => n ≤ k
def Under (n : Nat) : Nat → Prop := fun k => k < n
def Bd (ok : Nat → Prop) (n : Nat) : Nat → Prop := fun k => ok k ∧ k < n
def RdB (w : World) (base : Nat → Prop) (size : Nat) (A : Option Addr) (n : Nat) (xs : List Value) : Prop := Reads w w.heap.size size A n xs ∧ Lo base A n
section
variable {w w' : World} {base : Nat → Prop} {size n : Nat} {A : Option Addr} {xs : List Value}
theorem RdB.nil : RdB w base size none 0 [] := ⟨Reads.none_, fun h => absurd h (by omega)⟩
theorem RdB.grows (h : RdB w base size A n xs) (hg : Grows w w') : RdB w' base size A n xs := ⟨Reads.grows h.1 hg, h.2⟩
theorem RdB.mono {b2 : Nat → Prop} (h : RdB w base size A n xs) (hb : ∀ k, base k → b2 k) : RdB w b2 size A n xs := ⟨h.1, fun hn ad e => hb _ (h.2 hn ad e)⟩
theorem RdB.grown (h : RdB w base size A n xs) {row : Option Nat} (hg : w.grownBy w' row) (hr : ∀ g, row = some g → ¬ base g) : RdB w' base size A n xs := by
 refine ⟨⟨h.1.1, fun hn => ?_⟩, h.2⟩
 obtain ⟨ad, e, hb, hc⟩ := h.1.2 hn
 have hlo := h.2 hn ad e
 have hne : some ad.block ≠ row := fun e2 => hr _ e2.symm hlo
 exact ⟨ad, e, Nat.lt_of_lt_of_le hb hg.size, fun j u hu => (World.cell?_of_block (hg.block (ad.add j).block (by rw [block_of_add]; exact hb) (by rw [block_of_add]; exact hne))).trans (hc j u hu)⟩
theorem RdB.drop {k cap : Nat} (h : RdB w base size A n xs) (hk : k ≤ n) (hc : n ≤ cap) : RdB w base size (if cap = k then A else A.map (·.add (k * size))) (n - k) (xs.drop (k * size)) := by
 refine ⟨Reads.cut h.1 hk hc, fun hn ad e => ?_⟩
 obtain ⟨ad0, e0, _⟩ := h.1.2 (by omega)
 have h0 := h.2 (by omega) ad0 e0
 subst e0
 split at e
 ·injection e with e; subst e; exact h0
 ·simp only [Option.map_some, Option.some.injEq] at e
  subst e
  rw [block_of_add]
  exact h0
theorem RdB.backU {m : Nat} {w : World} {w3 : World} (h : RdB w3 base size A n xs) (hu : ∀ k, base k → k < m) (hB : Below m w w3) (hm : m ≤ w.heap.size) : RdB w base size A n xs := by
 refine ⟨⟨h.1.1, fun hn => ?_⟩, h.2⟩
 obtain ⟨ad, e, _, hc⟩ := h.1.2 hn
 have hlo : ad.block < m := hu _ (h.2 hn ad e)
 exact ⟨ad, e, Nat.lt_of_lt_of_le hlo hm, fun j u hu => (hB.cell (p := ad.add j) (by rw [block_of_add]; exact hlo)).symm.trans (hc j u hu)⟩
theorem RdB.back {m : Nat} {w : World} {w3 : World} (h : RdB w3 (Under m) size A n xs) (hB : Below m w w3) (hm : m ≤ w.heap.size) : RdB w (Under m) size A n xs := RdB.backU h (fun _ h => h) hB hm
theorem RdB.under (h : RdB w base size A n xs) : RdB w (Under w.heap.size) size A n xs := ⟨h.1, fun hn ad e => by
 obtain ⟨ad0, e0, hb, _⟩ := h.1.2 hn
 rw [e0] at e
 injection e with e
 exact e ▸ hb⟩
theorem RdB.bd (h : RdB w base size A n xs) : RdB w (Bd base w.heap.size) size A n xs := ⟨h.1, fun hn ad e => ⟨h.2 hn ad e, h.under.2 hn ad e⟩⟩
theorem RdB.take {k : Nat} (h : RdB w base 1 A n xs) (hk : k ≤ n) : RdB w base 1 A k (xs.take k) := ⟨Reads.take_ h.1 hk, fun hn ad e => h.2 (by omega) ad e⟩
end
def InB (w : World) (base : Nat → Prop) (A : Option Addr) (l : List Int) : Prop := RdB w base 1 A l.length (l.map (Value.int .i64))
theorem InB.ints {w : World} {base : Nat → Prop} {A : Option Addr} {l : List Int} (h : InB w base A l) : Ints w A l := h.1
theorem InB.grows {w w' : World} {base : Nat → Prop} {A : Option Addr} {l : List Int} (h : InB w base A l) (hg : Grows w w') : InB w' base A l := RdB.grows h hg
theorem InB.mono {w : World} {base b2 : Nat → Prop} {A : Option Addr} {l : List Int} (h : InB w base A l) (hb : ∀ k, base k → b2 k) : InB w b2 A l := RdB.mono h hb
theorem InB.of_own {w : World} {base : Nat} {v : Value} {l : List Int} (h : OwnI w base v l) : ∃ A c, v = .slice A l.length c ∧ l.length ≤ c ∧ InB w (Ge base) A l := by
 obtain ⟨A, c, rfl, hc, hi⟩ := h.read
 refine ⟨A, c, rfl, hc, hi, fun hn ad e => ?_⟩
 subst e
 rcases h.2 with ⟨e2, _⟩ | ⟨g, cap, cur, e2, hb, _⟩
 ·injection e2 with e2; cases e2
 ·injection e2 with e2
  injection e2 with e2
  subst e2
  exact hb
def SpB (w : World) (base : Nat → Prop) (A : Option Addr) (l : List Sp) : Prop := RdB w base 2 A l.length (scells l)
theorem SpB.sps {w : World} {base : Nat → Prop} {A : Option Addr} {l : List Sp} (h : SpB w base A l) : Sps w A l := h.1
theorem SpB.grows {w w' : World} {base : Nat → Prop} {A : Option Addr} {l : List Sp} (h : SpB w base A l) (hg : Grows w w') : SpB w' base A l := RdB.grows h hg
theorem SpB.of_own {w : World} {base : Nat} {v : Value} {l : List Sp} (h : Own w base v l) : ∃ A c, v = .slice A l.length c ∧ l.length ≤ c ∧ SpB w (Ge base) A l := by
 obtain ⟨A, c, rfl, hc, hs, hlo⟩ := h.read
 exact ⟨A, c, rfl, hc, hs, fun _ ad e => hlo ad e⟩
/-- A slice of channel maps. -/
def MapsR (w : World) (base : Nat → Prop) (A : Option Addr) (m : List (List Int)) : Prop :=
 ∃ vs : List Value, RdB w base 1 A m.length vs ∧ ∀ (i : Nat) (x : List Int), m[i]? = some x → ∃ B c, vs[i]? = some (.slice B x.length c) ∧ x.length ≤ c ∧ InB w base B x
section
variable {w w' : World} {base : Nat → Prop} {A : Option Addr} {m : List (List Int)}
theorem MapsR.nil : MapsR w base none [] := ⟨[], RdB.nil, fun i x h => by simp at h⟩
theorem MapsR.grows (h : MapsR w base A m) (hg : Grows w w') : MapsR w' base A m := by
 obtain ⟨vs, h1, h2⟩ := h
 exact ⟨vs, h1.grows hg, fun i x hx => by obtain ⟨B, c, e, hc, hi⟩ := h2 i x hx; exact ⟨B, c, e, hc, hi.grows hg⟩⟩
theorem MapsR.mono {b2 : Nat → Prop} (h : MapsR w base A m) (hb : ∀ k, base k → b2 k) : MapsR w b2 A m := by
 obtain ⟨vs, h1, h2⟩ := h
 exact ⟨vs, h1.mono hb, fun i x hx => by obtain ⟨B, c, e, hc, hi⟩ := h2 i x hx; exact ⟨B, c, e, hc, RdB.mono hi hb⟩⟩
theorem MapsR.grown (h : MapsR w base A m) {row : Option Nat} (hg : w.grownBy w' row) (hr : ∀ g, row = some g → ¬ base g) : MapsR w' base A m := by
 obtain ⟨vs, h1, h2⟩ := h
 exact ⟨vs, h1.grown hg hr, fun i x hx => by obtain ⟨B, c, e, hc, hi⟩ := h2 i x hx; exact ⟨B, c, e, hc, RdB.grown hi hg hr⟩⟩
theorem MapsR.back {n : Nat} {w : World} {w3 : World} {A : Option Addr} {m : List (List Int)} (h : MapsR w3 (Under n) A m) (hB : Below n w w3) (hn : n ≤ w.heap.size) : MapsR w (Under n) A m := by
 obtain ⟨vs, h1, h2⟩ := h
 exact ⟨vs, h1.back hB hn, fun i x hx => by obtain ⟨B, c, e, hc, hi⟩ := h2 i x hx; exact ⟨B, c, e, hc, RdB.back hi hB hn⟩⟩
theorem MapsR.backU {n : Nat} {ok : Nat → Prop} {w : World} {w3 : World} {A : Option Addr} {m : List (List Int)} (h : MapsR w3 ok A m) (hu : ∀ k, ok k → k < n) (hB : Below n w w3) (hn : n ≤ w.heap.size) : MapsR w ok A m := by
 obtain ⟨vs, h1, h2⟩ := h
 exact ⟨vs, h1.backU hu hB hn, fun i x hx => by obtain ⟨B, c, e, hc, hi⟩ := h2 i x hx; exact ⟨B, c, e, hc, RdB.backU hi hu hB hn⟩⟩
theorem MapsR.under (h : MapsR w base A m) : MapsR w (Under w.heap.size) A m := by
 obtain ⟨vs, h1, h2⟩ := h
 exact ⟨vs, h1.under, fun i x hx => by obtain ⟨B, c, e, hc, hi⟩ := h2 i x hx; exact ⟨B, c, e, hc, RdB.under hi⟩⟩
theorem MapsR.bd (h : MapsR w base A m) : MapsR w (Bd base w.heap.size) A m := by
 obtain ⟨vs, h1, h2⟩ := h
 exact ⟨vs, h1.bd, fun i x hx => by obtain ⟨B, c, e, hc, hi⟩ := h2 i x hx; exact ⟨B, c, e, hc, RdB.bd hi⟩⟩
theorem MapsR.take (h : MapsR w base A m) {k : Nat} (hk : k ≤ m.length) : MapsR w base A (m.take k) := by
 obtain ⟨vs, h1, h2⟩ := h
 have e : (m.take k).length = k := by rw [List.length_take]; omega
 refine ⟨vs.take k, by rw [e]; exact h1.take hk, fun i x hx => ?_⟩
 have hik : i < k := by have := (List.getElem?_eq_some_iff.1 hx).1; omega
 rw [List.getElem?_take_of_lt hik] at hx
 obtain ⟨B, c, e, hc, hi⟩ := h2 i x hx
 exact ⟨B, c, by rw [List.getElem?_take_of_lt hik]; exact e, hc, hi⟩
theorem MapsR.elem (h : MapsR w base A m) {k : Nat} (hk : k < m.length) : ∃ ad x B c, A = some ad ∧ ad.block < w.heap.size ∧ m[k]? = some x ∧ w.cell? (ad.add k) = some (.slice B x.length c) ∧ x.length ≤ c ∧ InB w base B x := by
 obtain ⟨vs, h1, h2⟩ := h
 obtain ⟨ad, e, hb, hc⟩ := h1.1.2 (by omega)
 have hx := List.getElem?_eq_getElem hk
 obtain ⟨B, c, e2, hc2, hi⟩ := h2 k _ hx
 exact ⟨ad, _, B, c, e, hb, hx, hc k _ e2, hc2, hi⟩
end
structure Bx where
 k : Int
 r : List Sp
 m : List (List Int)
 s : List Sp
deriving DecidableEq
structure BoxP (w : World) (base : Nat → Prop) (b : Bx) (A1 : Option Addr) (c1 : Nat) (A2 : Option Addr) (c2 : Nat) (A3 : Option Addr) (c3 : Nat) : Prop where
 r : SpB w base A1 b.r
 m : MapsR w base A2 b.m
 s : SpB w base A3 b.s
 cr : b.r.length ≤ c1
 cm : b.m.length ≤ c2
 cs : b.s.length ≤ c3
def Bx.cs (b : Bx) (A1 : Option Addr) (c1 : Nat) (A2 : Option Addr) (c2 : Nat) (A3 : Option Addr) (c3 : Nat) : List Value := [.int .i64 b.k, .slice A1 b.r.length c1, .slice A2 b.m.length c2, .slice A3 b.s.length c3]
/-- A box as a value. -/
def BoxV (w : World) (base : Nat → Prop) (b : Bx) (v : Value) : Prop := ∃ A1 c1 A2 c2 A3 c3, v = .agg #[.int .i64 b.k, .slice A1 b.r.length c1, .slice A2 b.m.length c2, .slice A3 b.s.length c3] ∧ BoxP w base b A1 c1 A2 c2 A3 c3
/-- A slice of boxes. -/
def Bxs (w : World) (base : Nat → Prop) (A : Option Addr) (l : List Bx) : Prop :=
 ∃ vs : List Value, RdB w base 4 A l.length vs ∧ ∀ (i : Nat) (b : Bx), l[i]? = some b → ∃ A1 c1 A2 c2 A3 c3, BoxP w base b A1 c1 A2 c2 A3 c3 ∧ ∀ j < 4, vs[i * 4 + j]? = (b.cs A1 c1 A2 c2 A3 c3)[j]?
def CellsB (w : World) (p : Addr) (v0 v1 v2 v3 : Value) : Prop := w.cell? p = some v0 ∧ w.cell? { block := p.block, off := p.off + 1 } = some v1 ∧ w.cell? { block := p.block, off := p.off + 2 } = some v2 ∧ w.cell? { block := p.block, off := p.off + 3 } = some v3
theorem cellsB_of {w : World} {ad : Addr} {i : Nat} {cs : List Value} {v0 v1 v2 v3 : Value} (e : cs = [v0, v1, v2, v3]) (h : ∀ j < 4, ∀ u, cs[j]? = some u → w.cell? (ad.add (i * 4 + j)) = some u) : CellsB w (ad.add (i * 4)) v0 v1 v2 v3 := by
 subst e
 have e0 : (ad.add (i * 4)).add 0 = ad.add (i * 4) := by simp [Addr.add]
 have hj : ∀ j < 4, ∀ v, [v0, v1, v2, v3][j]? = some v → w.cell? ((ad.add (i * 4)).add j) = some v := fun j hj v hv => by rw [add_of_add]; exact h j hj v hv
 have ej : ∀ j, j ≠ 0 → (ad.add (i * 4)).add j = { block := (ad.add (i * 4)).block, off := (ad.add (i * 4)).off + j } := fun j hj0 => by
  generalize ad.add (i * 4) = p
  unfold Addr.add
  rw [if_neg hj0]
 refine ⟨by have := hj 0 (by omega) _ rfl; rwa [e0] at this, ?_, ?_, ?_⟩
 ·have := hj 1 (by omega) _ rfl; rwa [ej 1 (by omega)] at this
 ·have := hj 2 (by omega) _ rfl; rwa [ej 2 (by omega)] at this
 ·have := hj 3 (by omega) _ rfl; rwa [ej 3 (by omega)] at this
section
variable {w w' : World} {base : Nat → Prop} {A : Option Addr} {l : List Bx} {b : Bx} {A1 A2 A3 : Option Addr} {c1 c2 c3 : Nat} {v : Value}
theorem BoxP.grows (h : BoxP w base b A1 c1 A2 c2 A3 c3) (hg : Grows w w') : BoxP w' base b A1 c1 A2 c2 A3 c3 := ⟨h.r.grows hg, h.m.grows hg, h.s.grows hg, h.cr, h.cm, h.cs⟩
theorem BoxP.mono {b2 : Nat → Prop} (h : BoxP w base b A1 c1 A2 c2 A3 c3) (hb : ∀ k, base k → b2 k) : BoxP w b2 b A1 c1 A2 c2 A3 c3 := ⟨RdB.mono h.r hb, h.m.mono hb, RdB.mono h.s hb, h.cr, h.cm, h.cs⟩
theorem BoxP.grown (h : BoxP w base b A1 c1 A2 c2 A3 c3) {row : Option Nat} (hg : w.grownBy w' row) (hr : ∀ g, row = some g → ¬ base g) : BoxP w' base b A1 c1 A2 c2 A3 c3 := ⟨RdB.grown h.r hg hr, h.m.grown hg hr, RdB.grown h.s hg hr, h.cr, h.cm, h.cs⟩
theorem BoxP.under (h : BoxP w base b A1 c1 A2 c2 A3 c3) : BoxP w (Under w.heap.size) b A1 c1 A2 c2 A3 c3 := ⟨RdB.under h.r, h.m.under, RdB.under h.s, h.cr, h.cm, h.cs⟩
theorem BoxP.bd (h : BoxP w base b A1 c1 A2 c2 A3 c3) : BoxP w (Bd base w.heap.size) b A1 c1 A2 c2 A3 c3 := ⟨RdB.bd h.r, h.m.bd, RdB.bd h.s, h.cr, h.cm, h.cs⟩
theorem BoxV.grows (h : BoxV w base b v) (hg : Grows w w') : BoxV w' base b v := by
 obtain ⟨A1, c1, A2, c2, A3, c3, e, hp⟩ := h
 exact ⟨A1, c1, A2, c2, A3, c3, e, hp.grows hg⟩
theorem Bxs.nil : Bxs w base none [] := ⟨[], RdB.nil, fun i x h => by simp at h⟩
theorem Bxs.grows (h : Bxs w base A l) (hg : Grows w w') : Bxs w' base A l := by
 obtain ⟨vs, h1, h2⟩ := h
 exact ⟨vs, h1.grows hg, fun i x hx => by obtain ⟨A1, c1, A2, c2, A3, c3, hp, hc⟩ := h2 i x hx; exact ⟨A1, c1, A2, c2, A3, c3, hp.grows hg, hc⟩⟩
theorem Bxs.mono {b2 : Nat → Prop} (h : Bxs w base A l) (hb : ∀ k, base k → b2 k) : Bxs w b2 A l := by
 obtain ⟨vs, h1, h2⟩ := h
 exact ⟨vs, h1.mono hb, fun i x hx => by obtain ⟨A1, c1, A2, c2, A3, c3, hp, hc⟩ := h2 i x hx; exact ⟨A1, c1, A2, c2, A3, c3, hp.mono hb, hc⟩⟩
theorem Bxs.grown (h : Bxs w base A l) {row : Option Nat} (hg : w.grownBy w' row) (hr : ∀ g, row = some g → ¬ base g) : Bxs w' base A l := by
 obtain ⟨vs, h1, h2⟩ := h
 exact ⟨vs, h1.grown hg hr, fun i x hx => by obtain ⟨A1, c1, A2, c2, A3, c3, hp, hc⟩ := h2 i x hx; exact ⟨A1, c1, A2, c2, A3, c3, hp.grown hg hr, hc⟩⟩
theorem Bxs.back {n : Nat} {w : World} {w3 : World} {A : Option Addr} {l : List Bx} (h : Bxs w3 (Under n) A l) (hB : Below n w w3) (hn : n ≤ w.heap.size) : Bxs w (Under n) A l := by
 obtain ⟨vs, h1, h2⟩ := h
 exact ⟨vs, h1.back hB hn, fun i x hx => by obtain ⟨A1, c1, A2, c2, A3, c3, hp, hc⟩ := h2 i x hx; exact ⟨A1, c1, A2, c2, A3, c3, ⟨RdB.back hp.r hB hn, hp.m.back hB hn, RdB.back hp.s hB hn, hp.cr, hp.cm, hp.cs⟩, hc⟩⟩
theorem Bxs.backU {n : Nat} {ok : Nat → Prop} {w : World} {w3 : World} {A : Option Addr} {l : List Bx} (h : Bxs w3 ok A l) (hu : ∀ k, ok k → k < n) (hB : Below n w w3) (hn : n ≤ w.heap.size) : Bxs w ok A l := by
 obtain ⟨vs, h1, h2⟩ := h
 exact ⟨vs, h1.backU hu hB hn, fun i x hx => by obtain ⟨A1, c1, A2, c2, A3, c3, hp, hc⟩ := h2 i x hx; exact ⟨A1, c1, A2, c2, A3, c3, ⟨RdB.backU hp.r hu hB hn, hp.m.backU hu hB hn, RdB.backU hp.s hu hB hn, hp.cr, hp.cm, hp.cs⟩, hc⟩⟩
theorem Bxs.under (h : Bxs w base A l) : Bxs w (Under w.heap.size) A l := by
 obtain ⟨vs, h1, h2⟩ := h
 exact ⟨vs, h1.under, fun i x hx => by obtain ⟨A1, c1, A2, c2, A3, c3, hp, hc⟩ := h2 i x hx; exact ⟨A1, c1, A2, c2, A3, c3, hp.under, hc⟩⟩
theorem Bxs.bd (h : Bxs w base A l) : Bxs w (Bd base w.heap.size) A l := by
 obtain ⟨vs, h1, h2⟩ := h
 exact ⟨vs, h1.bd, fun i x hx => by obtain ⟨A1, c1, A2, c2, A3, c3, hp, hc⟩ := h2 i x hx; exact ⟨A1, c1, A2, c2, A3, c3, hp.bd, hc⟩⟩
theorem Bxs.drop (h : Bxs w base A l) {k cap : Nat} (hk : k ≤ l.length) (hc : l.length ≤ cap) : Bxs w base (if cap = k then A else A.map (·.add (k * 4))) (l.drop k) := by
 obtain ⟨vs, h1, h2⟩ := h
 refine ⟨vs.drop (k * 4), by rw [List.length_drop]; exact h1.drop hk hc, fun i x hx => ?_⟩
 rw [List.getElem?_drop] at hx
 obtain ⟨A1, c1, A2, c2, A3, c3, hp, hcc⟩ := h2 (k + i) x hx
 refine ⟨A1, c1, A2, c2, A3, c3, hp, fun j hj => ?_⟩
 rw [← hcc j hj, List.getElem?_drop]
 congr 1
 omega
theorem Bxs.elem (h : Bxs w base A l) {k : Nat} (hk : k < l.length) : ∃ ad b A1 c1 A2 c2 A3 c3, A = some ad ∧ ad.block < w.heap.size ∧ l[k]? = some b ∧ BoxP w base b A1 c1 A2 c2 A3 c3 ∧
 CellsB w (ad.add (k * 4)) (.int .i64 b.k) (.slice A1 b.r.length c1) (.slice A2 b.m.length c2) (.slice A3 b.s.length c3) := by
 obtain ⟨vs, h1, h2⟩ := h
 obtain ⟨ad, e, hb, hc⟩ := h1.1.2 (by omega)
 have hx := List.getElem?_eq_getElem hk
 obtain ⟨A1, c1, A2, c2, A3, c3, hp, hcc⟩ := h2 k _ hx
 exact ⟨ad, _, A1, c1, A2, c2, A3, c3, e, hb, hx, hp, cellsB_of rfl fun j hj u hu => hc _ u ((hcc j hj).trans hu)⟩
end
/-- All members are good, none is there twice: as far as place k. -/
def GoodU {α : Type} (p : α → Bool) (m : List α) (k : Nat) : Prop := (∀ y ∈ m.take k, p y = true) ∧ (m.take k).Nodup
def uniqOk {α : Type} [DecidableEq α] (p : α → Bool) (m : List α) : Bool := m.all p && decide m.Nodup
section
variable {α : Type} {p : α → Bool} {m : List α} {k : Nat} {x : α}
theorem good_zero : GoodU p m 0 := ⟨by simp, by simp⟩
theorem good_next (h : GoodU p m k) (hx : m[k]? = some x) (hp : p x = true) (hn : x ∉ m.take k) : GoodU p m (k + 1) := by
 unfold GoodU
 rw [take_snoc hx]
 refine ⟨fun y hy => ?_, ?_⟩
 ·rcases List.mem_append.1 hy with hy | hy
  ·exact h.1 y hy
  ·simp only [List.mem_singleton] at hy
   exact hy ▸ hp
 ·rw [List.nodup_append]
  refine ⟨h.2, by simp, fun a ha b hb => ?_⟩
  simp only [List.mem_singleton] at hb
  subst hb
  exact fun e => hn (e ▸ ha)
end
section
variable {α : Type} [DecidableEq α] {p : α → Bool} {m : List α} {k : Nat} {x : α}
theorem good_bad (hx : m[k]? = some x) (hp : p x = false) : uniqOk p m = false := by
 unfold uniqOk
 have : m.all p = false := by
  rw [List.all_eq_false]
  exact ⟨x, List.mem_of_getElem? hx, by simp [hp]⟩
 rw [this, Bool.false_and]
theorem good_twice (hx : m[k]? = some x) (hn : x ∈ m.take k) : uniqOk p m = false := by
 unfold uniqOk
 have : ¬ m.Nodup := fun h => by
  have h2 := (List.take_sublist (k + 1) m).nodup h
  rw [take_snoc hx, List.nodup_append] at h2
  exact h2.2.2 x hn x (by simp) rfl
 simp [this]
theorem good_end (h : GoodU p m k) (hk : m.length ≤ k) : uniqOk p m = true := by
 unfold GoodU at h
 rw [List.take_of_length_le hk] at h
 unfold uniqOk
 simp only [Bool.and_eq_true, List.all_eq_true, decide_eq_true_eq]
 exact h
end
theorem idx_first {m : List Int} {x : Int} {k : Nat} (hx : m[k]? = some x) : idxZ m x = (k : Int) ↔ x ∉ m.take k := by
 constructor
 ·intro h hm
  obtain ⟨j, hj, e⟩ := List.mem_take_iff_getElem.1 hm
  unfold idxZ at h
  split at h
  ·rename_i i ei
   obtain ⟨hi, h1, h2⟩ := List.findIdx?_eq_some_iff_getElem.1 ei
   have hji : ¬ j < i := fun hlt => by simpa [e] using h2 j hlt
   omega
  ·omega
 ·intro h
  exact idx_found (fun y hy e => h (e ▸ hy)) hx
def okP (p : Int) : Bool := decide (1 ≤ p) && decide (p ≤ 8)
def validM (m : List Int) : Bool := decide (1 ≤ m.length) && decide (m.length ≤ 8) && uniqOk okP m
def withinS (l : List Sp) (lo hi : Int) : Bool := okS l && decide (0 < l.length) && decide (lo ≤ (l.headD (0, 0)).1) && decide ((l.getLastD (0, 0)).2 ≤ hi)
def mapsOk (m : List (List Int)) : Bool := decide (1 ≤ m.length) && decide (m.length ≤ 16) && uniqOk validM m
end Go.Proofs.YtnbdpnlepcjmmaaGreat

namespace Go.Proofs.YtnbdpnlepcjmmaaGreat
open Go.RowKit
def placeZ (o : Option Nat) : Int := match o with | some k => (k : Int) | none => -1
section
variable {α : Type} {l : List α} {p : α → Bool} {k : Nat} {x : α}
theorem idx_upU (h : (l.take k).findIdx? p = none) (hx : l[k]? = some x) (hne : p x = false) : (l.take (k + 1)).findIdx? p = none := by
 rw [take_snoc hx]
 rw [List.findIdx?_eq_none_iff] at *
 intro y hy
 rcases List.mem_append.1 hy with hy | hy
 ·exact h y hy
 ·simp only [List.mem_singleton] at hy
  subst hy
  exact hne
theorem idx_atU (h : (l.take k).findIdx? p = none) (hx : l[k]? = some x) (he : p x = true) : l.findIdx? p = some k := by
 rw [List.findIdx?_eq_none_iff] at h
 rw [List.findIdx?_eq_some_iff_getElem]
 obtain ⟨hk, hx⟩ := List.getElem?_eq_some_iff.1 hx
 refine ⟨hk, by rw [hx]; exact he, fun j hj => ?_⟩
 have := h (l[j]'(by omega)) (by
  rw [List.mem_take_iff_getElem]
  exact ⟨j, by omega, rfl⟩)
 simp only [Bool.not_eq_true]
 exact this
theorem place_anyU (l : List α) (p : α → Bool) : decide (0 ≤ placeZ (l.findIdx? p)) = l.any p := by
 cases e : l.findIdx? p with
 | none =>
  rw [List.findIdx?_eq_none_iff] at e
  have : l.any p = false := by rw [List.any_eq_false]; exact fun x hx => by rw [e x hx]; simp
  rw [this]
  rfl
 | some k =>
  obtain ⟨hk, h1, _⟩ := List.findIdx?_eq_some_iff_getElem.1 e
  have : l.any p = true := List.any_eq_true.2 ⟨_, List.getElem_mem hk, h1⟩
  rw [this]
  simp [placeZ]
end
theorem any_eq_mem (l : List (List Int)) (m : List Int) : (l.any fun x => decide (x = m)) = decide (m ∈ l) := by
 by_cases h : m ∈ l
 ·rw [decide_eq_true h, List.any_eq_true]
  exact ⟨m, h, by simp⟩
 ·rw [decide_eq_false h, List.any_eq_false]
  intro x hx
  simp only [decide_eq_true_eq]
  exact fun e => h (e ▸ hx)
theorem any_not {α : Type} (l : List α) (p : α → Bool) : (!(l.any fun x => !p x)) = l.all p := by
 induction l with
 | nil => rfl
 | cons x l ih =>
  simp only [List.any_cons, List.all_cons, Bool.not_or, Bool.not_not]
  rw [ih]
set_option maxHeartbeats 4000000 in
theorem pvalidm_any (A : Option Addr) (c : Nat) (m : List Int) (w : World) (h : Ints w A m) (hl : m.length ≤ 1000000) (hc : m.length ≤ c) : Calls Tryz.prog 109 #[.slice A m.length c] w fun e w' => e = .returned (.bool (validM m)) ∧ Grows w w' := by
 have hB := Below.refl w.heap.size w
 go_enter Tryz.func109, Tryz.ntmps109
 by_cases h1 : m.length < 1
 ·have HE : Hid (validM m = false) := Lib.hid (by unfold validM; simp only [Bool.and_eq_false_iff, decide_eq_false_iff_not]; omega)
  have d1 : decide ((m.length : Int) < 1) = true := by simp only [decide_eq_true_eq]; omega
  clear h1
  go_wp2
  go_ret
  exact ⟨ret_bool HE.out.symm, hB⟩
 have d1 : decide ((m.length : Int) < 1) = false := by simp only [decide_eq_false_iff_not]; omega
 by_cases h2 : 8 < m.length
 ·have HE : Hid (validM m = false) := Lib.hid (by unfold validM; simp only [Bool.and_eq_false_iff, decide_eq_false_iff_not]; omega)
  have d2 : decide ((8 : Int) < (m.length : Int)) = true := by simp only [decide_eq_true_eq]; omega
  clear h1 h2
  go_wp2
  go_ret
  exact ⟨ret_bool HE.out.symm, hB⟩
 have d2 : decide ((8 : Int) < (m.length : Int)) = false := by simp only [decide_eq_false_iff_not]; omega
 have HV : Hid (validM m = uniqOk okP m) := Lib.hid (by unfold validM; rw [decide_eq_true (by omega : 1 ≤ m.length), decide_eq_true (by omega : m.length ≤ 8)]; rfl)
 clear h1 h2
 go_wp2_with fail
 clear hB
 go_loopw [15] (fun i wr => ∃ k : Nat, k ≤ m.length ∧ i = .int .i64 k ∧ Hid (GoodU okP m k) ∧ Grows w wr) (fun i _ => m.length - (intOf i).toNat)
 case atStart => exact ⟨0, by omega, rfl, Lib.hid good_zero, Below.refl _ _⟩
 case round =>
  obtain ⟨k, hk, rfl, HF, hB⟩ := hrel
  by_cases hlt : k < m.length
  ·obtain ⟨ad, x, rfl, had, hx, q0⟩ := (h.grows hB).at_ hlt
   have HX := Lib.hid hx
   clear hx
   by_cases h1 : x < 1
   ·have HE : Hid (validM m = false) := Lib.hid (by rw [HV.out]; exact good_bad HX.out (by unfold okP; rw [decide_eq_false (by omega), Bool.false_and]))
    have d3 : decide (x < 1) = true := by simpa using h1
    clear h1
    go_wp2
    go_ret
    exact ⟨ret_bool HE.out.symm, hB⟩
   have d3 : decide (x < 1) = false := by simpa using h1
   by_cases h2 : 8 < x
   ·have HE : Hid (validM m = false) := Lib.hid (by rw [HV.out]; exact good_bad HX.out (by unfold okP; rw [decide_eq_false (by omega : ¬ x ≤ 8), Bool.and_false]))
    have d4 : decide (8 < x) = true := by simpa using h2
    clear h1 h2
    go_wp2
    go_ret
    exact ⟨ret_bool HE.out.symm, hB⟩
   have d4 : decide (8 < x) = false := by simpa using h2
   have HOK : Hid (okP x = true) := Lib.hid (by unfold okP; rw [decide_eq_true (by omega), decide_eq_true (by omega)]; rfl)
   clear h1 h2
   have hkc : k ≤ c := by omega
   have hkl : (m.take k).length = k := by rw [List.length_take]; omega
   have htk := ints_take (h.grows hB) (Nat.le_of_lt hlt)
   have hcon := contains_any (some ad) c (m.take k) x wr htk (by omega)
   rw [hkl] at hcon
   have HC := Lib.hid hcon
   clear hcon
   go_wp2_with fail
   refine HC.out.mono ?_
   clear HC
   by_cases h5 : x ∈ m.take k
   ·have HE : Hid (validM m = false) := Lib.hid (by rw [HV.out]; exact good_twice HX.out h5)
    rw [decide_eq_true h5]
    clear h5
    rintro e w2 ⟨rfl, hq⟩
    replace hB := below_grows hB (Nat.le_refl _) hq
    clear hq
    go_wp2
    go_ret
    exact ⟨ret_bool HE.out.symm, hB⟩
   ·have HN : Hid (GoodU okP m (k + 1)) := Lib.hid (good_next HF.out HX.out HOK.out h5)
    rw [decide_eq_false h5]
    clear h5
    rintro e w2 ⟨rfl, hq⟩
    replace hB := below_grows hB (Nat.le_refl _) hq
    clear hq
    go_wp2
    go_roundw
    case rel => exact ⟨k + 1, by omega, by go_num, HN, hB⟩
    case measure => simp [intOf]; omega
  ·obtain rfl : k = m.length := by omega
   have HE : Hid (validM m = true) := Lib.hid (by rw [HV.out]; exact good_end HF.out (by omega))
   go_wp2
   go_ret
   exact ⟨ret_bool HE.out.symm, hB⟩
set_option maxHeartbeats 4000000 in
theorem rvalidm_any (A : Option Addr) (c : Nat) (m : List Int) (w : World) (h : Ints w A m) (hl : m.length ≤ 1000000) (_hc : m.length ≤ c) : Calls Tryz.prog 112 #[.slice A m.length c] w fun e w' => e = .returned (.bool (validM m)) ∧ Grows w w' := by
 have hB := Below.refl w.heap.size w
 go_enter Tryz.func112, Tryz.ntmps112
 go_wp2_with fail
 clear hB
 go_loopw [7] (fun i wr => ∃ k : Nat, k ≤ m.length ∧ i = .int .i64 k ∧ Hid (GoodU okP m k) ∧ Grows w wr) (fun i _ => m.length - (intOf i).toNat)
 case atStart => exact ⟨0, by omega, rfl, Lib.hid good_zero, Below.refl _ _⟩
 case round =>
  obtain ⟨k, hk, rfl, HF, hB⟩ := hrel
  by_cases hlt : k < m.length
  ·obtain ⟨ad, x, rfl, had, hx, q0⟩ := (h.grows hB).at_ hlt
   have HX := Lib.hid hx
   clear hx
   by_cases h1 : x < 1
   ·have HE : Hid (validM m = false) := Lib.hid (by unfold validM; rw [good_bad HX.out (by unfold okP; rw [decide_eq_false (by omega), Bool.false_and]), Bool.and_false])
    have d3 : decide (x < 1) = true := by simpa using h1
    clear h1
    go_wp2
    go_ret
    exact ⟨ret_bool HE.out.symm, hB⟩
   have d3 : decide (x < 1) = false := by simpa using h1
   by_cases h2 : 8 < x
   ·have HE : Hid (validM m = false) := Lib.hid (by unfold validM; rw [good_bad HX.out (by unfold okP; rw [decide_eq_false (by omega : ¬ x ≤ 8), Bool.and_false]), Bool.and_false])
    have d4 : decide (8 < x) = true := by simpa using h2
    clear h1 h2
    go_wp2
    go_ret
    exact ⟨ret_bool HE.out.symm, hB⟩
   have d4 : decide (8 < x) = false := by simpa using h2
   have HOK : Hid (okP x = true) := Lib.hid (by unfold okP; rw [decide_eq_true (by omega), decide_eq_true (by omega)]; rfl)
   clear h1 h2
   go_wp2_with fail
   refine (rindex6_any (some ad) c m x _ (h.grows hB) (by omega)).mono ?_
   rintro e w2 ⟨rfl, hq⟩
   replace hB := below_grows hB (Nat.le_refl _) hq
   clear hq q0
   by_cases h5 : x ∈ m.take k
   ·have HE : Hid (validM m = false) := Lib.hid (by unfold validM; rw [good_twice HX.out h5, Bool.and_false])
    have d5 : (idxZ m x != (k : Int)) = true := by simp only [bne_iff_ne, ne_eq]; exact fun e => (idx_first HX.out).1 e h5
    clear h5
    go_wp2
    go_ret
    exact ⟨ret_bool HE.out.symm, hB⟩
   ·have HN : Hid (GoodU okP m (k + 1)) := Lib.hid (good_next HF.out HX.out HOK.out h5)
    have d5 : (idxZ m x != (k : Int)) = false := by simp only [bne_eq_false_iff_eq]; exact (idx_first HX.out).2 h5
    clear h5
    go_wp2
    go_roundw
    case rel => exact ⟨k + 1, by omega, by go_num, HN, hB⟩
    case measure => simp [intOf]; omega
  ·obtain rfl : k = m.length := by omega
   by_cases h1 : m.length < 1
   ·have HE : Hid (validM m = false) := Lib.hid (by unfold validM; simp only [Bool.and_eq_false_iff, decide_eq_false_iff_not]; omega)
    have d1 : decide ((1 : Int) ≤ (m.length : Int)) = false := by simp only [decide_eq_false_iff_not]; omega
    go_wp2
    go_ret
    exact ⟨ret_bool HE.out.symm, hB⟩
   by_cases h2 : 8 < m.length
   ·have HE : Hid (validM m = false) := Lib.hid (by unfold validM; simp only [Bool.and_eq_false_iff, decide_eq_false_iff_not]; omega)
    have d1 : decide ((1 : Int) ≤ (m.length : Int)) = true := by simp only [decide_eq_true_eq]; omega
    have d2 : decide ((m.length : Int) ≤ 8) = false := by simp only [decide_eq_false_iff_not]; omega
    go_wp2
    go_ret
    exact ⟨ret_bool HE.out.symm, hB⟩
   have HE : Hid (validM m = true) := Lib.hid (by unfold validM; rw [good_end HF.out (by omega), decide_eq_true (by omega : 1 ≤ m.length), decide_eq_true (by omega : m.length ≤ 8)]; rfl)
   have d1 : decide ((1 : Int) ≤ (m.length : Int)) = true := by simp only [decide_eq_true_eq]; omega
   have d2 : decide ((m.length : Int) ≤ 8) = true := by simp only [decide_eq_true_eq]; omega
   go_wp2
   go_ret
   exact ⟨ret_bool HE.out.symm, hB⟩
set_option maxHeartbeats 2000000 in
theorem idx_hasm (G : Nat) {n : Nat} (A : Option Addr) (c : Nat) (base : Nat → Prop) (l : List (List Int)) (p : List Int → Bool) (w : World) (hn : n = l.length) (h : MapsR w base A l) (hl : l.length ≤ 9223372036854775807)
 (hp : ∀ (x : List Int) (B : Option Addr) (cx : Nat) (w1 : World), x ∈ l → Grows w w1 → InB w1 base B x → x.length ≤ cx → Calls Tryz.prog 106 #[.slice B x.length cx, .pointer (some ⟨G, 0, none⟩)] w1 fun e w' => e = .returned (.bool (p x)) ∧ Grows w1 w') :
 Calls Tryz.prog 126 #[.slice A n c, .func (.func 106) #[] #[.pointer (some ⟨G, 0, none⟩)]] w fun e w' => e = .returned (.int .i64 (placeZ (l.findIdx? p))) ∧ Grows w w' := by
 subst hn
 have HP := Lib.hid hp
 clear hp
 go_enter Tryz.func126, Tryz.ntmps126
 go_wp2_with fail
 go_loopw [8] (fun i wr => ∃ k : Nat, k ≤ l.length ∧ i = .int .i64 k ∧ Hid ((l.take k).findIdx? p = none) ∧ Grows w wr) (fun i _ => l.length - (intOf i).toNat)
 case atStart => exact ⟨0, by omega, rfl, Lib.hid rfl, Below.refl _ _⟩
 case round =>
  obtain ⟨k, hk, rfl, hf, hB⟩ := hrel
  by_cases hlt : k < l.length
  ·obtain ⟨ad, x, B, cx, rfl, had, hx, q0, hcx, hix⟩ := (h.grows hB).elem hlt
   have HX := Lib.hid hx
   clear hx
   go_wp2_with fail
   refine (HP.out x B cx _ (List.mem_of_getElem? HX.out) hB hix hcx).mono ?_
   rintro e w2 ⟨rfl, hq⟩
   replace hB := below_grows hB (Nat.le_refl _) hq
   clear hq q0 hix
   cases e : p x
   ·have HE := Lib.hid (idx_upU hf.out HX.out e)
    go_wp2
    go_roundw
    case rel => exact ⟨k + 1, by omega, by go_num, HE, hB⟩
    case measure => simp [intOf]; omega
   ·have HE := Lib.hid (idx_atU hf.out HX.out e)
    go_wp2
    go_ret
    rw [HE.out]
    exact ⟨rfl, hB⟩
  ·have HE : Hid (l.findIdx? p = none) := Lib.hid (by have := hf.out; rwa [List.take_of_length_le (by omega)] at this)
   go_wp2
   go_ret
   rw [HE.out]
   exact ⟨rfl, hB⟩
theorem cont_hasm (G : Nat) {n : Nat} (A : Option Addr) (c : Nat) (base : Nat → Prop) (l : List (List Int)) (p : List Int → Bool) (w : World) (hn : n = l.length) (h : MapsR w base A l) (hl : l.length ≤ 9223372036854775807)
 (hp : ∀ (x : List Int) (B : Option Addr) (cx : Nat) (w1 : World), x ∈ l → Grows w w1 → InB w1 base B x → x.length ≤ cx → Calls Tryz.prog 106 #[.slice B x.length cx, .pointer (some ⟨G, 0, none⟩)] w1 fun e w' => e = .returned (.bool (p x)) ∧ Grows w1 w') :
 Calls Tryz.prog 93 #[.slice A n c, .func (.func 106) #[] #[.pointer (some ⟨G, 0, none⟩)]] w fun e w' => e = .returned (.bool (l.any p)) ∧ Grows w w' := by
 subst hn
 have HP := Lib.hid hp
 clear hp
 rw [← place_anyU]
 go_enter Tryz.func93, Tryz.ntmps93
 go_wp2_with fail
 refine (idx_hasm G A c base l p _ rfl h hl HP.out).mono ?_
 rintro e w2 ⟨rfl, hq⟩
 generalize hz : placeZ (l.findIdx? p) = z
 have HZ := Lib.hid hz
 clear hz
 go_wp2
 go_ret
 rw [HZ.out]
 exact ⟨rfl, hq⟩
theorem has1_any {G : Nat} {M B : Option Addr} {cm cx : Nat} {m x : List Int} {w : World} (km : Blk w G 23 #[.slice M m.length cm]) (hm : Ints w M m) (hx : Ints w B x) (hlm : m.length ≤ 9223372036854775807) (hlx : x.length ≤ 9223372036854775807) :
 Calls Tryz.prog 106 #[.slice B x.length cx, .pointer (some ⟨G, 0, none⟩)] w fun e w' => e = .returned (.bool (decide (x = m))) ∧ Grows w w' := by
 have x1 := km.cell
 go_enter Tryz.func106, Tryz.ntmps106
 go_wp2_with fail
 refine (psame_any B M cx cm x m _ hx hm hlx hlm).mono ?_
 rintro e w1 ⟨rfl, hq⟩
 go_wp2
 go_ret
 exact ⟨rfl, hq⟩
theorem phas_any {n : Nat} {base : Nat → Prop} (A M : Option Addr) (c cm : Nat) (l : List (List Int)) (m : List Int) (w : World) (hn : n = l.length) (h : MapsR w base A l) (hl : l.length ≤ 1000000) (hls : ∀ x ∈ l, x.length ≤ 1000000) (hm : Ints w M m) (hlm : m.length ≤ 1000000) :
 Calls Tryz.prog 62 #[.slice A n c, .slice M m.length cm] w fun e w' => e = .returned (.bool (decide (m ∈ l))) ∧ Grows w w' := by
 subst hn
 have km := Blk.new w 23 #[.slice M m.length cm]
 have hB := (Below.refl w.heap.size w).alloc (Nat.le_refl _) (Obj.cells #[.slice M m.length cm] 23)
 have HLS := Lib.hid hls
 clear hls
 rw [← any_eq_mem]
 go_enter Tryz.func62, Tryz.ntmps62
 go_upto_region 1 with fail
 generalize World.alloc w _ = w1 at *
 go_wp2_with fail
 refine (cont_hasm w.heap.size A c base l (fun x => decide (x = m)) _ rfl (h.grows hB) (by omega) (fun x B cx w2 hx hg hi hc => has1_any (km.grows hg) (hm.grows (below_grows hB (Nat.le_refl _) hg)) hi.ints (by omega) (by have := HLS.out x hx; omega))).mono ?_
 rintro e w2 ⟨rfl, hq⟩
 replace hB := below_grows hB (Nat.le_refl _) hq
 go_wp2
 go_ret
 exact ⟨rfl, hB⟩
set_option maxHeartbeats 2000000 in
theorem rhas_any {n : Nat} {base : Nat → Prop} (A M : Option Addr) (c cm : Nat) (l : List (List Int)) (m : List Int) (w : World) (hn : n = l.length) (h : MapsR w base A l) (hl : l.length ≤ 1000000) (hls : ∀ x ∈ l, x.length ≤ 1000000) (hm : Ints w M m) (hlm : m.length ≤ 1000000) :
 Calls Tryz.prog 110 #[.slice A n c, .slice M m.length cm] w fun e w' => e = .returned (.bool (decide (m ∈ l))) ∧ Grows w w' := by
 subst hn
 have HLS := Lib.hid hls
 clear hls
 go_enter Tryz.func110, Tryz.ntmps110
 go_wp2_with fail
 go_loopw [9] (fun i wr => ∃ k : Nat, k ≤ l.length ∧ i = .int .i64 k ∧ Hid (m ∉ l.take k) ∧ Grows w wr) (fun i _ => l.length - (intOf i).toNat)
 case atStart => exact ⟨0, by omega, rfl, Lib.hid (by simp), Below.refl _ _⟩
 case round =>
  obtain ⟨k, hk, rfl, hf, hB⟩ := hrel
  by_cases hlt : k < l.length
  ·obtain ⟨ad, x, B, cx, rfl, had, hx, q0, hcx, hix⟩ := (h.grows hB).elem hlt
   have HX := Lib.hid hx
   clear hx
   go_wp2_with fail
   refine (rsame6_any B M cx cm x m _ hix.ints (hm.grows hB) (by have := HLS.out x (List.mem_of_getElem? HX.out); omega) (by omega)).mono ?_
   by_cases e1 : x = m
   ·have HE : Hid (decide (m ∈ l) = true) := Lib.hid (decide_eq_true (e1 ▸ List.mem_of_getElem? HX.out))
    rw [decide_eq_true e1]
    clear e1
    rintro e w2 ⟨rfl, hq⟩
    replace hB := below_grows hB (Nat.le_refl _) hq
    clear hq q0 hix
    go_wp2
    go_ret
    exact ⟨ret_bool HE.out.symm, hB⟩
   ·have HE : Hid (m ∉ l.take (k + 1)) := Lib.hid (by
     rw [take_snoc HX.out, List.mem_append, List.mem_singleton]
     exact fun h => h.elim hf.out fun h => e1 h.symm)
    rw [decide_eq_false e1]
    clear e1
    rintro e w2 ⟨rfl, hq⟩
    replace hB := below_grows hB (Nat.le_refl _) hq
    clear hq q0 hix
    go_wp2
    go_roundw
    case rel => exact ⟨k + 1, by omega, by go_num, HE, hB⟩
    case measure => simp [intOf]; omega
  ·have HE : Hid (decide (m ∈ l) = false) := Lib.hid (decide_eq_false (by have := hf.out; rwa [List.take_of_length_le (by omega)] at this))
   go_wp2
   go_ret
   exact ⟨ret_bool HE.out.symm, hB⟩
set_option maxHeartbeats 4000000 in
theorem pwithin_any (A : Option Addr) (c : Nat) (l : List Sp) (lo hi : Int) (w : World) (h : Sps w A l) (hl : l.length ≤ 1000000) :
 Calls Tryz.prog 108 #[.agg #[.slice A l.length c], .int .i64 lo, .int .i64 hi] w fun e w' => e = .returned (.bool (withinS l lo hi)) ∧ Grows w w' := by
 have k3 := Blk.new w 45 #[.slice A l.length c]
 have hB := (Below.refl w.heap.size w).alloc (Nat.le_refl _) (Obj.cells #[.slice A l.length c] 45)
 go_enter Tryz.func108, Tryz.ntmps108
 go_upto_region 1 with fail
 generalize World.alloc w _ = w1 at *
 have x1 := k3.cell 0
 by_cases h0 : l.length = 0
 ·have HE : Hid (withinS l lo hi = false) := Lib.hid (by unfold withinS; rw [decide_eq_false (by omega : ¬ 0 < l.length)]; simp)
  obtain rfl := List.eq_nil_of_length_eq_zero h0
  clear h0
  go_wp2
  go_ret
  exact ⟨ret_bool HE.out.symm, hB⟩
 have d1 : decide (0 < l.length) = true := by simp only [decide_eq_true_eq]; omega
 go_wp2_with fail
 refine (valid_any A c l _ (h.grows hB) (by omega)).mono ?_
 cases hv : okS l
 ·have HV := Lib.hid hv
  clear hv
  rintro e w2 ⟨rfl, hq⟩
  replace hB := below_grows hB (Nat.le_refl _) hq
  clear hq x1
  have HE : Hid (withinS l lo hi = false) := Lib.hid (by unfold withinS; rw [HV.out]; simp)
  go_wp2
  go_ret
  exact ⟨ret_bool HE.out.symm, hB⟩
 ·have HV := Lib.hid hv
  clear hv
  rintro e w2 ⟨rfl, hq⟩
  replace hB := below_grows hB (Nat.le_refl _) hq
  replace k3 := k3.grows hq
  clear hq x1
  have x1 := k3.cell 0
  obtain ⟨ad, x, rfl, had, hx, q0, q1⟩ := (h.grows hB).elem (show 0 < l.length by omega)
  obtain ⟨ad2, y, e2, had2, hy, p0, p1⟩ := (h.grows hB).elem (show l.length - 1 < l.length by omega)
  injection e2 with e2
  subst e2
  have e0 : ad.add (0 * 2) = ad := by simp [Addr.add]
  rw [e0] at q0 q1
  have hix : IntKind.i64.wrap ((l.length : Int) - 1) = ((l.length - 1 : Nat) : Int) := by rw [IntWalk.i64_in _ (by omega)]; omega
  have HW : Hid (withinS l lo hi = (decide (lo ≤ x.1) && decide (y.2 ≤ hi))) := Lib.hid (by
   unfold withinS
   rw [HV.out, decide_eq_true (by omega : 0 < l.length)]
   have e1 : l.headD (0, 0) = x := by
    cases l with
    | nil => simp at hx
    | cons z l => simpa using hx
   have e2 : l.getLastD (0, 0) = y := by
    rw [List.getLastD_eq_getLast?, List.getLast?_eq_getElem?, hy]
    rfl
   rw [e1, e2]
   simp)
  have hn2 : l.length - 1 < l.length := by omega
  generalize hN : l.length - 1 = N at *
  clear hx hy hN
  by_cases h3 : lo ≤ x.1
  case neg =>
   have HE : Hid (withinS l lo hi = false) := Lib.hid (by rw [HW.out, decide_eq_false h3, Bool.false_and])
   have d3 : decide (lo ≤ x.1) = false := by simpa using h3
   clear h3
   go_wp2
   go_ret
   exact ⟨ret_bool HE.out.symm, hB⟩
  have d3 : decide (lo ≤ x.1) = true := by simpa using h3
  by_cases h4 : y.2 ≤ hi
  ·have HE : Hid (withinS l lo hi = true) := Lib.hid (by rw [HW.out, d3, decide_eq_true h4]; rfl)
   have d4 : decide (y.2 ≤ hi) = true := by simpa using h4
   clear h3 h4
   go_wp2
   go_ret
   exact ⟨ret_bool HE.out.symm, hB⟩
  ·have HE : Hid (withinS l lo hi = false) := Lib.hid (by rw [HW.out, decide_eq_false h4, Bool.and_false])
   have d4 : decide (y.2 ≤ hi) = false := by simpa using h4
   clear h3 h4
   go_wp2
   go_ret
   exact ⟨ret_bool HE.out.symm, hB⟩
set_option maxHeartbeats 4000000 in
theorem rwithin_any (A : Option Addr) (c : Nat) (l : List Sp) (lo hi : Int) (w : World) (h : Sps w A l) (hl : l.length ≤ 1000000) :
 Calls Tryz.prog 113 #[.agg #[.slice A l.length c], .int .i64 lo, .int .i64 hi] w fun e w' => e = .returned (.bool (withinS l lo hi)) ∧ Grows w w' := by
 have k3 := Blk.new w 45 #[.slice A l.length c]
 have hB := (Below.refl w.heap.size w).alloc (Nat.le_refl _) (Obj.cells #[.slice A l.length c] 45)
 go_enter Tryz.func113, Tryz.ntmps113
 go_upto_region 1 with fail
 generalize World.alloc w _ = w1 at *
 have x1 := k3.cell 0
 go_wp2_with fail
 refine (rvalid_any A c l _ (h.grows hB) (by omega)).mono ?_
 cases hv : okS l
 ·have HV := Lib.hid hv
  clear hv
  rintro e w2 ⟨rfl, hq⟩
  replace hB := below_grows hB (Nat.le_refl _) hq
  clear hq x1
  have HE : Hid (withinS l lo hi = false) := Lib.hid (by unfold withinS; rw [HV.out]; simp)
  go_wp2
  go_ret
  exact ⟨ret_bool HE.out.symm, hB⟩
 ·have HV := Lib.hid hv
  clear hv
  rintro e w2 ⟨rfl, hq⟩
  replace hB := below_grows hB (Nat.le_refl _) hq
  replace k3 := k3.grows hq
  clear hq x1
  have x1 := k3.cell 0
  by_cases h0 : l.length = 0
  ·have HE : Hid (withinS l lo hi = false) := Lib.hid (by unfold withinS; rw [decide_eq_false (by omega : ¬ 0 < l.length)]; simp)
   obtain rfl := List.eq_nil_of_length_eq_zero h0
   clear h0
   go_wp2
   go_ret
   exact ⟨ret_bool HE.out.symm, hB⟩
  have d1 : decide (0 < l.length) = true := by simp only [decide_eq_true_eq]; omega
  obtain ⟨ad, x, rfl, had, hx, q0, q1⟩ := (h.grows hB).elem (show 0 < l.length by omega)
  obtain ⟨ad2, y, e2, had2, hy, p0, p1⟩ := (h.grows hB).elem (show l.length - 1 < l.length by omega)
  injection e2 with e2
  subst e2
  have e0 : ad.add (0 * 2) = ad := by simp [Addr.add]
  rw [e0] at q0 q1
  have hix : IntKind.i64.wrap ((l.length : Int) - 1) = ((l.length - 1 : Nat) : Int) := by rw [IntWalk.i64_in _ (by omega)]; omega
  have HW : Hid (withinS l lo hi = (decide (lo ≤ x.1) && decide (y.2 ≤ hi))) := Lib.hid (by
   unfold withinS
   rw [HV.out, decide_eq_true (by omega : 0 < l.length)]
   have e1 : l.headD (0, 0) = x := by
    cases l with
    | nil => simp at hx
    | cons z l => simpa using hx
   have e2 : l.getLastD (0, 0) = y := by
    rw [List.getLastD_eq_getLast?, List.getLast?_eq_getElem?, hy]
    rfl
   rw [e1, e2]
   simp)
  have hn2 : l.length - 1 < l.length := by omega
  generalize hN : l.length - 1 = N at *
  clear hx hy hN
  by_cases h3 : lo ≤ x.1
  case neg =>
   have HE : Hid (withinS l lo hi = false) := Lib.hid (by rw [HW.out, decide_eq_false h3, Bool.false_and])
   have d3 : decide (lo ≤ x.1) = false := by simpa using h3
   clear h3
   go_wp2
   go_ret
   exact ⟨ret_bool HE.out.symm, hB⟩
  have d3 : decide (lo ≤ x.1) = true := by simpa using h3
  by_cases h4 : y.2 ≤ hi
  ·have HE : Hid (withinS l lo hi = true) := Lib.hid (by rw [HW.out, d3, decide_eq_true h4]; rfl)
   have d4 : decide (y.2 ≤ hi) = true := by simpa using h4
   clear h3 h4
   go_wp2
   go_ret
   exact ⟨ret_bool HE.out.symm, hB⟩
  ·have HE : Hid (withinS l lo hi = false) := Lib.hid (by rw [HW.out, decide_eq_false h4, Bool.and_false])
   have d4 : decide (y.2 ≤ hi) = false := by simpa using h4
   clear h3 h4
   go_wp2
   go_ret
   exact ⟨ret_bool HE.out.symm, hB⟩
end Go.Proofs.YtnbdpnlepcjmmaaGreat

namespace Go.Proofs.YtnbdpnlepcjmmaaGreat
open Go.RowKit
def OKB (b : Bx) : Prop := b.r.length ≤ 1000000 ∧ b.s.length ≤ 1000000 ∧ b.m.length ≤ 1000000 ∧ ∀ x ∈ b.m, x.length ≤ 1000000
def kindsOk (k : Int) : Bool := (k != 0) && (bits .andNot .i64 k 254 == 0)
def fineB (b : Bx) : Bool := kindsOk b.k && withinS b.r 1000 768000 && withinS b.s 1 65536 && mapsOk b.m
def validL (l : List Bx) : Bool := decide (l.length ≤ 64) && l.all fineB
def boxesF (l : List Bx) : List Bx := if validL l = true then l else []
def kindB (b k : Int) : Bool := decide (1 ≤ k) && decide (k ≤ 7) && (bits .and .i64 (b / 2 ^ k.toNat) 1 == 1)
theorem kindsOk_zero {k : Int} (h : k = 0) : kindsOk k = false := by subst h; rfl
theorem kindsOk_bits {k : Int} (h : bits .andNot .i64 k 254 ≠ 0) : kindsOk k = false := by unfold kindsOk; rw [beq_eq_false_iff_ne.2 h, Bool.and_false]
theorem kindsOk_yes {k : Int} (h : k ≠ 0) (h2 : bits .andNot .i64 k 254 = 0) : kindsOk k = true := by unfold kindsOk; rw [h2, bne_iff_ne.2 h]; rfl
theorem fineB_m {b : Bx} (h : mapsOk b.m = false) : fineB b = false := by unfold fineB; rw [h, Bool.and_false]
theorem fineB_k {b : Bx} (h : kindsOk b.k = false) : fineB b = false := by unfold fineB; rw [h]; simp
theorem fineB_r {b : Bx} (h : withinS b.r 1000 768000 = false) : fineB b = false := by unfold fineB; rw [h]; simp
theorem fineB_s {b : Bx} (h : withinS b.s 1 65536 = false) : fineB b = false := by unfold fineB; rw [h]; simp
theorem fineB_yes {b : Bx} (h1 : kindsOk b.k = true) (h2 : withinS b.r 1000 768000 = true) (h3 : withinS b.s 1 65536 = true) (h4 : mapsOk b.m = true) : fineB b = true := by unfold fineB; rw [h1, h2, h3, h4]; rfl
theorem mapsOk_u {m : List (List Int)} (h : uniqOk validM m = false) : mapsOk m = false := by unfold mapsOk; rw [h, Bool.and_false]
theorem mapsOk_lo {m : List (List Int)} (h : m.length < 1) : mapsOk m = false := by unfold mapsOk; rw [decide_eq_false (by omega : ¬ 1 ≤ m.length)]; rfl
theorem mapsOk_hi {m : List (List Int)} (h : 16 < m.length) : mapsOk m = false := by unfold mapsOk; rw [decide_eq_false (by omega : ¬ m.length ≤ 16)]; simp
theorem mapsOk_yes {m : List (List Int)} (h1 : 1 ≤ m.length) (h2 : m.length ≤ 16) (h : uniqOk validM m = true) : mapsOk m = true := by unfold mapsOk; rw [h, decide_eq_true h1, decide_eq_true h2]; rfl
set_option maxHeartbeats 8000000 in
theorem pfine_any {A1 A2 A3 : Option Addr} {c1 c2 c3 : Nat} {base : Nat → Prop} {b : Bx} {w : World} (hp : BoxP w base b A1 c1 A2 c2 A3 c3) (hl : OKB b) : Calls Tryz.prog 66 #[.agg #[.int .i64 b.k, .slice A1 b.r.length c1, .slice A2 b.m.length c2, .slice A3 b.s.length c3]] w fun e w' => e = .returned (.bool (fineB b)) ∧ Grows w w' := by
 obtain ⟨hlr, hls, hlm, hlx⟩ := hl
 have HLM := Lib.hid hlx
 clear hlx
 have k1 := Blk.new w 48 #[.int .i64 b.k, .slice A1 b.r.length c1, .slice A2 b.m.length c2, .slice A3 b.s.length c3]
 have hB := (Below.refl w.heap.size w).alloc (Nat.le_refl _) (Obj.cells #[.int .i64 b.k, .slice A1 b.r.length c1, .slice A2 b.m.length c2, .slice A3 b.s.length c3] 48)
 go_enter Tryz.func66, Tryz.ntmps66
 go_upto_region 1 with fail
 generalize World.alloc w _ = w1 at *
 have x1 := k1.cell
 by_cases h0 : b.k = 0
 ·have HE : Hid (fineB b = false) := Lib.hid (fineB_k (kindsOk_zero h0))
  have d0 : (b.k == 0) = true := by simpa using h0
  clear h0
  go_wp2
  go_ret
  exact ⟨ret_bool HE.out.symm, hB⟩
 have d0 : (b.k == 0) = false := by simpa using h0
 by_cases h1 : bits .andNot .i64 b.k 254 = 0
 case neg =>
  have HE : Hid (fineB b = false) := Lib.hid (fineB_k (kindsOk_bits h1))
  have d1 : (bits .andNot .i64 b.k 254 != 0) = true := by simpa using h1
  clear h1 h0
  go_wp2
  go_ret
  exact ⟨ret_bool HE.out.symm, hB⟩
 have d1 : (bits .andNot .i64 b.k 254 != 0) = false := by simpa using h1
 have HK : Hid (kindsOk b.k = true) := Lib.hid (kindsOk_yes h0 h1)
 clear h0 h1
 go_wp2_with fail
 refine (pwithin_any A1 c1 b.r 1000 768000 _ (hp.r.grows hB).sps hlr).mono ?_
 cases hv : withinS b.r 1000 768000
 ·have HE : Hid (fineB b = false) := Lib.hid (fineB_r hv)
  clear hv
  rintro e w2 ⟨rfl, hq⟩
  replace hB := below_grows hB (Nat.le_refl _) hq
  clear hq x1
  go_wp2
  go_ret
  exact ⟨ret_bool HE.out.symm, hB⟩
 have HWr := Lib.hid hv
 clear hv
 rintro e w2 ⟨rfl, hq⟩
 replace hB := below_grows hB (Nat.le_refl _) hq
 replace k1 := k1.grows hq
 clear hq x1
 have x1 := k1.cell
 go_wp2_with fail
 refine (pwithin_any A3 c3 b.s 1 65536 _ (hp.s.grows hB).sps hls).mono ?_
 cases hv : withinS b.s 1 65536
 ·have HE : Hid (fineB b = false) := Lib.hid (fineB_s hv)
  clear hv
  rintro e w2 ⟨rfl, hq⟩
  replace hB := below_grows hB (Nat.le_refl _) hq
  clear hq x1
  go_wp2
  go_ret
  exact ⟨ret_bool HE.out.symm, hB⟩
 have HWs := Lib.hid hv
 clear hv
 rintro e w2 ⟨rfl, hq⟩
 replace hB := below_grows hB (Nat.le_refl _) hq
 replace k1 := k1.grows hq
 clear hq x1
 have x1 := k1.cell
 go_wp2_with fail
 go_loopw [29] (fun i wr => ∃ k : Nat, k ≤ b.m.length ∧ i = .int .i64 k ∧ Hid (GoodU validM b.m k) ∧ Blk wr w.heap.size 48 #[.int .i64 b.k, .slice A1 b.r.length c1, .slice A2 b.m.length c2, .slice A3 b.s.length c3] ∧ Below w.heap.size w wr) (fun i _ => b.m.length - (intOf i).toNat)
 case atStart => exact ⟨0, by omega, rfl, Lib.hid good_zero, k1, hB⟩
 case round =>
  clear k1 hB x1
  obtain ⟨k, hk, rfl, HF, k1, hB⟩ := hrel
  have x1 := k1.cell
  by_cases hlt : k < b.m.length
  ·obtain ⟨ad, x, B, cx, e2, had, hx, q0, hcx, hix⟩ := (hp.m.grows hB).elem hlt
   subst e2
   have HX := Lib.hid hx
   have hxl := HLM.out x (List.mem_of_getElem? hx)
   clear hx
   go_wp2_with fail
   refine (pvalidm_any B cx x _ hix.ints hxl hcx).mono ?_
   cases hv : validM x
   ·have HE : Hid (fineB b = false) := Lib.hid (fineB_m (mapsOk_u (good_bad HX.out hv)))
    clear hv
    rintro e w2 ⟨rfl, hq⟩
    replace hB := below_grows hB (Nat.le_refl _) hq
    clear hq x1 q0 hix
    go_wp2
    go_ret
    exact ⟨ret_bool HE.out.symm, hB⟩
   have HV := Lib.hid hv
   clear hv
   rintro e w2 ⟨rfl, hq⟩
   replace hB := below_grows hB (Nat.le_refl _) hq
   replace k1 := k1.grows hq
   replace hix := hix.grows hq
   clear hq x1 q0
   have x1 := k1.cell
   have hkc : k ≤ c2 := by have := hp.cm; omega
   have htk := MapsR.take (hp.m.grows hB) (Nat.le_of_lt hlt)
   have htl : k = (b.m.take k).length := by rw [List.length_take]; omega
   have HTL := Lib.hid htl
   clear htl
   go_wp2_with fail
   refine (phas_any (some ad) B c2 cx (b.m.take k) x _ HTL.out htk (by rw [List.length_take]; omega) (fun y hy => HLM.out y (List.mem_of_mem_take hy)) hix.ints hxl).mono ?_
   by_cases h5 : x ∈ b.m.take k
   ·have HE : Hid (fineB b = false) := Lib.hid (fineB_m (mapsOk_u (good_twice HX.out h5)))
    rw [decide_eq_true h5]
    clear h5
    rintro e w3 ⟨rfl, hq⟩
    replace hB := below_grows hB (Nat.le_refl _) hq
    clear hq x1 hix htk
    go_wp2
    go_ret
    exact ⟨ret_bool HE.out.symm, hB⟩
   ·have HN : Hid (GoodU validM b.m (k + 1)) := Lib.hid (good_next HF.out HX.out HV.out h5)
    rw [decide_eq_false h5]
    clear h5
    rintro e w3 ⟨rfl, hq⟩
    replace hB := below_grows hB (Nat.le_refl _) hq
    replace k1 := k1.grows hq
    clear hq x1 hix htk
    go_wp2
    go_roundw
    case rel => exact ⟨k + 1, by omega, by go_num, HN, k1, hB⟩
    case measure => simp [intOf]; omega
  ·obtain rfl : k = b.m.length := by omega
   have HU : Hid (uniqOk validM b.m = true) := Lib.hid (good_end HF.out (Nat.le_refl _))
   clear HF
   by_cases h1 : b.m.length < 1
   ·have HE : Hid (fineB b = false) := Lib.hid (fineB_m (mapsOk_lo h1))
    have d2 : decide ((1 : Int) ≤ (b.m.length : Int)) = false := by simp only [decide_eq_false_iff_not]; omega
    go_wp2
    go_ret
    exact ⟨ret_bool HE.out.symm, hB⟩
   have d2 : decide ((1 : Int) ≤ (b.m.length : Int)) = true := by simp only [decide_eq_true_eq]; omega
   by_cases h2 : 16 < b.m.length
   ·have HE : Hid (fineB b = false) := Lib.hid (fineB_m (mapsOk_hi h2))
    have d3 : decide ((b.m.length : Int) ≤ 16) = false := by simp only [decide_eq_false_iff_not]; omega
    go_wp2
    go_ret
    exact ⟨ret_bool HE.out.symm, hB⟩
   have d3 : decide ((b.m.length : Int) ≤ 16) = true := by simp only [decide_eq_true_eq]; omega
   have HE : Hid (fineB b = true) := Lib.hid (fineB_yes HK.out HWr.out HWs.out (mapsOk_yes (by omega) (by omega) HU.out))
   go_wp2
   go_ret
   exact ⟨ret_bool HE.out.symm, hB⟩
set_option maxHeartbeats 8000000 in
theorem rbox_any {A1 A2 A3 : Option Addr} {c1 c2 c3 : Nat} {base : Nat → Prop} {b : Bx} {w : World} (hp : BoxP w base b A1 c1 A2 c2 A3 c3) (hl : OKB b) : Calls Tryz.prog 71 #[.agg #[.int .i64 b.k, .slice A1 b.r.length c1, .slice A2 b.m.length c2, .slice A3 b.s.length c3]] w fun e w' => e = .returned (.bool (fineB b)) ∧ Grows w w' := by
 obtain ⟨hlr, hls, hlm, hlx⟩ := hl
 have HLM := Lib.hid hlx
 clear hlx
 have k1 := Blk.new w 48 #[.int .i64 b.k, .slice A1 b.r.length c1, .slice A2 b.m.length c2, .slice A3 b.s.length c3]
 have hB := (Below.refl w.heap.size w).alloc (Nat.le_refl _) (Obj.cells #[.int .i64 b.k, .slice A1 b.r.length c1, .slice A2 b.m.length c2, .slice A3 b.s.length c3] 48)
 go_enter Tryz.func71, Tryz.ntmps71
 go_upto_region 1 with fail
 generalize World.alloc w _ = w1 at *
 have x1 := k1.cell
 by_cases h0 : b.k = 0
 ·have HE : Hid (fineB b = false) := Lib.hid (fineB_k (kindsOk_zero h0))
  have d0 : (b.k == 0) = true := by simpa using h0
  clear h0
  go_wp2
  go_ret
  exact ⟨ret_bool HE.out.symm, hB⟩
 have d0 : (b.k == 0) = false := by simpa using h0
 by_cases h1 : bits .andNot .i64 b.k 254 = 0
 case neg =>
  have HE : Hid (fineB b = false) := Lib.hid (fineB_k (kindsOk_bits h1))
  have d1 : (bits .andNot .i64 b.k 254 != 0) = true := by simpa using h1
  clear h1 h0
  go_wp2
  go_ret
  exact ⟨ret_bool HE.out.symm, hB⟩
 have d1 : (bits .andNot .i64 b.k 254 != 0) = false := by simpa using h1
 have HK : Hid (kindsOk b.k = true) := Lib.hid (kindsOk_yes h0 h1)
 clear h0 h1
 by_cases h1 : b.m.length < 1
 ·have HE : Hid (fineB b = false) := Lib.hid (fineB_m (mapsOk_lo h1))
  have d2 : decide ((b.m.length : Int) < 1) = true := by simp only [decide_eq_true_eq]; omega
  go_wp2
  go_ret
  exact ⟨ret_bool HE.out.symm, hB⟩
 have d2 : decide ((b.m.length : Int) < 1) = false := by simp only [decide_eq_false_iff_not]; omega
 by_cases h2 : 16 < b.m.length
 ·have HE : Hid (fineB b = false) := Lib.hid (fineB_m (mapsOk_hi h2))
  have d3 : decide ((16 : Int) < (b.m.length : Int)) = true := by simp only [decide_eq_true_eq]; omega
  go_wp2
  go_ret
  exact ⟨ret_bool HE.out.symm, hB⟩
 have d3 : decide ((16 : Int) < (b.m.length : Int)) = false := by simp only [decide_eq_false_iff_not]; omega
 go_wp2_with fail
 go_loopw [29] (fun i wr => ∃ k : Nat, k ≤ b.m.length ∧ i = .int .i64 k ∧ Hid (GoodU validM b.m k) ∧ Blk wr w.heap.size 48 #[.int .i64 b.k, .slice A1 b.r.length c1, .slice A2 b.m.length c2, .slice A3 b.s.length c3] ∧ Below w.heap.size w wr) (fun i _ => b.m.length - (intOf i).toNat)
 case atStart => exact ⟨0, by omega, rfl, Lib.hid good_zero, k1, hB⟩
 case round =>
  clear k1 hB x1
  obtain ⟨k, hk, rfl, HF, k1, hB⟩ := hrel
  have x1 := k1.cell
  by_cases hlt : k < b.m.length
  ·obtain ⟨ad, x, B, cx, e2, had, hx, q0, hcx, hix⟩ := (hp.m.grows hB).elem hlt
   subst e2
   have HX := Lib.hid hx
   have hxl := HLM.out x (List.mem_of_getElem? hx)
   clear hx
   go_wp2_with fail
   refine (rvalidm_any B cx x _ hix.ints hxl hcx).mono ?_
   cases hv : validM x
   ·have HE : Hid (fineB b = false) := Lib.hid (fineB_m (mapsOk_u (good_bad HX.out hv)))
    clear hv
    rintro e w2 ⟨rfl, hq⟩
    replace hB := below_grows hB (Nat.le_refl _) hq
    clear hq x1 q0 hix
    go_wp2
    go_ret
    exact ⟨ret_bool HE.out.symm, hB⟩
   have HV := Lib.hid hv
   clear hv
   rintro e w2 ⟨rfl, hq⟩
   replace hB := below_grows hB (Nat.le_refl _) hq
   replace k1 := k1.grows hq
   replace hix := hix.grows hq
   clear hq x1 q0
   have x1 := k1.cell
   have hkc : k ≤ c2 := by have := hp.cm; omega
   have htk := MapsR.take (hp.m.grows hB) (Nat.le_of_lt hlt)
   have htl : k = (b.m.take k).length := by rw [List.length_take]; omega
   have HTL := Lib.hid htl
   clear htl
   go_wp2_with fail
   refine (rhas_any (some ad) B c2 cx (b.m.take k) x _ HTL.out htk (by rw [List.length_take]; omega) (fun y hy => HLM.out y (List.mem_of_mem_take hy)) hix.ints hxl).mono ?_
   by_cases h5 : x ∈ b.m.take k
   ·have HE : Hid (fineB b = false) := Lib.hid (fineB_m (mapsOk_u (good_twice HX.out h5)))
    rw [decide_eq_true h5]
    clear h5
    rintro e w3 ⟨rfl, hq⟩
    replace hB := below_grows hB (Nat.le_refl _) hq
    clear hq x1 hix htk
    go_wp2
    go_ret
    exact ⟨ret_bool HE.out.symm, hB⟩
   ·have HN : Hid (GoodU validM b.m (k + 1)) := Lib.hid (good_next HF.out HX.out HV.out h5)
    rw [decide_eq_false h5]
    clear h5
    rintro e w3 ⟨rfl, hq⟩
    replace hB := below_grows hB (Nat.le_refl _) hq
    replace k1 := k1.grows hq
    clear hq x1 hix htk
    go_wp2
    go_roundw
    case rel => exact ⟨k + 1, by omega, by go_num, HN, k1, hB⟩
    case measure => simp [intOf]; omega
  ·obtain rfl : k = b.m.length := by omega
   have HU : Hid (uniqOk validM b.m = true) := Lib.hid (good_end HF.out (Nat.le_refl _))
   clear HF
   go_wp2_with fail
   refine (rwithin_any A1 c1 b.r 1000 768000 _ (hp.r.grows hB).sps hlr).mono ?_
   cases hv : withinS b.r 1000 768000
   ·have HE : Hid (fineB b = false) := Lib.hid (fineB_r hv)
    clear hv
    rintro e w2 ⟨rfl, hq⟩
    replace hB := below_grows hB (Nat.le_refl _) hq
    clear hq x1
    go_wp2
    go_ret
    exact ⟨ret_bool HE.out.symm, hB⟩
   have HWr := Lib.hid hv
   clear hv
   rintro e w2 ⟨rfl, hq⟩
   replace hB := below_grows hB (Nat.le_refl _) hq
   replace k1 := k1.grows hq
   clear hq x1
   have x1 := k1.cell
   go_wp2_with fail
   refine (rwithin_any A3 c3 b.s 1 65536 _ (hp.s.grows hB).sps hls).mono ?_
   cases hv : withinS b.s 1 65536
   ·have HE : Hid (fineB b = false) := Lib.hid (fineB_s hv)
    clear hv
    rintro e w2 ⟨rfl, hq⟩
    replace hB := below_grows hB (Nat.le_refl _) hq
    clear hq x1
    go_wp2
    go_ret
    exact ⟨ret_bool HE.out.symm, hB⟩
   have HWs := Lib.hid hv
   clear hv
   rintro e w2 ⟨rfl, hq⟩
   replace hB := below_grows hB (Nat.le_refl _) hq
   replace k1 := k1.grows hq
   clear hq x1
   have x1 := k1.cell
   have HE : Hid (fineB b = true) := Lib.hid (fineB_yes HK.out HWr.out HWs.out (mapsOk_yes (by omega) (by omega) HU.out))
   go_wp2
   go_ret
   exact ⟨ret_bool HE.out.symm, hB⟩
set_option maxHeartbeats 2000000 in
theorem idx_nfine {n : Nat} (A : Option Addr) (c : Nat) (base : Nat → Prop) (l : List Bx) (p : Bx → Bool) (w : World) (hn : n = l.length) (h : Bxs w base A l) (hl : l.length ≤ 9223372036854775807)
 (hp : ∀ (x : Bx) (A1 A2 A3 : Option Addr) (c1 c2 c3 : Nat) (w1 : World), x ∈ l → Grows w w1 → BoxP w1 base x A1 c1 A2 c2 A3 c3 → Calls Tryz.prog 65 #[.agg #[.int .i64 x.k, .slice A1 x.r.length c1, .slice A2 x.m.length c2, .slice A3 x.s.length c3]] w1 fun e w' => e = .returned (.bool (p x)) ∧ Grows w1 w') :
 Calls Tryz.prog 102 #[.slice A n c, .func (.func 65) #[] #[]] w fun e w' => e = .returned (.int .i64 (placeZ (l.findIdx? p))) ∧ Grows w w' := by
 subst hn
 have HP := Lib.hid hp
 clear hp
 go_enter Tryz.func102, Tryz.ntmps102
 go_wp2_with fail
 go_loopw [8] (fun i wr => ∃ k : Nat, k ≤ l.length ∧ i = .int .i64 k ∧ Hid ((l.take k).findIdx? p = none) ∧ Grows w wr) (fun i _ => l.length - (intOf i).toNat)
 case atStart => exact ⟨0, by omega, rfl, Lib.hid rfl, Below.refl _ _⟩
 case round =>
  obtain ⟨k, hk, rfl, hf, hB⟩ := hrel
  by_cases hlt : k < l.length
  ·obtain ⟨ad, x, A1, c1, A2, c2, A3, c3, rfl, had, hx, hpx, q0, q1, q2, q3⟩ := (h.grows hB).elem hlt
   have HX := Lib.hid hx
   clear hx
   go_wp2_with fail
   refine (HP.out x A1 A2 A3 c1 c2 c3 _ (List.mem_of_getElem? HX.out) hB hpx).mono ?_
   rintro e w2 ⟨rfl, hq⟩
   replace hB := below_grows hB (Nat.le_refl _) hq
   clear hq q0 q1 q2 q3 hpx
   cases e : p x
   ·have HE := Lib.hid (idx_upU hf.out HX.out e)
    go_wp2
    go_roundw
    case rel => exact ⟨k + 1, by omega, by go_num, HE, hB⟩
    case measure => simp [intOf]; omega
   ·have HE := Lib.hid (idx_atU hf.out HX.out e)
    go_wp2
    go_ret
    rw [HE.out]
    exact ⟨rfl, hB⟩
  ·have HE : Hid (l.findIdx? p = none) := Lib.hid (by have := hf.out; rwa [List.take_of_length_le (by omega)] at this)
   go_wp2
   go_ret
   rw [HE.out]
   exact ⟨rfl, hB⟩
theorem cont_nfine {n : Nat} (A : Option Addr) (c : Nat) (base : Nat → Prop) (l : List Bx) (p : Bx → Bool) (w : World) (hn : n = l.length) (h : Bxs w base A l) (hl : l.length ≤ 9223372036854775807)
 (hp : ∀ (x : Bx) (A1 A2 A3 : Option Addr) (c1 c2 c3 : Nat) (w1 : World), x ∈ l → Grows w w1 → BoxP w1 base x A1 c1 A2 c2 A3 c3 → Calls Tryz.prog 65 #[.agg #[.int .i64 x.k, .slice A1 x.r.length c1, .slice A2 x.m.length c2, .slice A3 x.s.length c3]] w1 fun e w' => e = .returned (.bool (p x)) ∧ Grows w1 w') :
 Calls Tryz.prog 58 #[.slice A n c, .func (.func 65) #[] #[]] w fun e w' => e = .returned (.bool (l.any p)) ∧ Grows w w' := by
 subst hn
 have HP := Lib.hid hp
 clear hp
 rw [← place_anyU]
 go_enter Tryz.func58, Tryz.ntmps58
 go_wp2_with fail
 refine (idx_nfine A c base l p _ rfl h hl HP.out).mono ?_
 rintro e w2 ⟨rfl, hq⟩
 generalize hz : placeZ (l.findIdx? p) = z
 have HZ := Lib.hid hz
 clear hz
 go_wp2
 go_ret
 rw [HZ.out]
 exact ⟨rfl, hq⟩
theorem nfine_any {A1 A2 A3 : Option Addr} {c1 c2 c3 : Nat} {base : Nat → Prop} {b : Bx} {w : World} (hp : BoxP w base b A1 c1 A2 c2 A3 c3) (hl : OKB b) : Calls Tryz.prog 65 #[.agg #[.int .i64 b.k, .slice A1 b.r.length c1, .slice A2 b.m.length c2, .slice A3 b.s.length c3]] w fun e w' => e = .returned (.bool (!fineB b)) ∧ Grows w w' := by
 have k1 := Blk.new w 48 #[.int .i64 b.k, .slice A1 b.r.length c1, .slice A2 b.m.length c2, .slice A3 b.s.length c3]
 have hB := (Below.refl w.heap.size w).alloc (Nat.le_refl _) (Obj.cells #[.int .i64 b.k, .slice A1 b.r.length c1, .slice A2 b.m.length c2, .slice A3 b.s.length c3] 48)
 go_enter Tryz.func65, Tryz.ntmps65
 go_upto_region 1 with fail
 generalize World.alloc w _ = w1 at *
 have x1 := k1.cell
 go_wp2_with fail
 refine (pfine_any (hp.grows hB) hl).mono ?_
 cases hv : fineB b
 ·have HE : Hid ((!fineB b) = true) := Lib.hid (by rw [hv]; rfl)
  clear hv
  rintro e w2 ⟨rfl, hq⟩
  replace hB := below_grows hB (Nat.le_refl _) hq
  go_wp2
  go_ret
  exact ⟨ret_bool HE.out.symm, hB⟩
 ·have HE : Hid ((!fineB b) = false) := Lib.hid (by rw [hv]; rfl)
  clear hv
  rintro e w2 ⟨rfl, hq⟩
  replace hB := below_grows hB (Nat.le_refl _) hq
  go_wp2
  go_ret
  exact ⟨ret_bool HE.out.symm, hB⟩
theorem pvalidl_any (A : Option Addr) (c : Nat) (base : Nat → Prop) (l : List Bx) (w : World) (h : Bxs w base A l) (hl : l.length ≤ 1000000) (ho : ∀ b ∈ l, OKB b) : Calls Tryz.prog 25 #[.slice A l.length c] w fun e w' => e = .returned (.bool (validL l)) ∧ Grows w w' := by
 have HO := Lib.hid ho
 clear ho
 have hB := Below.refl w.heap.size w
 go_enter Tryz.func25, Tryz.ntmps25
 by_cases h1 : 64 < l.length
 ·have HE : Hid (validL l = false) := Lib.hid (by unfold validL; rw [decide_eq_false (by omega : ¬ l.length ≤ 64)]; rfl)
  have d1 : decide ((l.length : Int) ≤ 64) = false := by simp only [decide_eq_false_iff_not]; omega
  go_wp2
  go_ret
  exact ⟨ret_bool HE.out.symm, hB⟩
 have d1 : decide ((l.length : Int) ≤ 64) = true := by simp only [decide_eq_true_eq]; omega
 have HV : Hid (validL l = !(l.any fun x => !fineB x)) := Lib.hid (by unfold validL; rw [decide_eq_true (by omega : l.length ≤ 64), any_not]; rfl)
 go_wp2_with fail
 refine (cont_nfine A c base l (fun x => !fineB x) _ rfl h (by omega) (fun x A1 A2 A3 c1 c2 c3 w1 hx _ hp => nfine_any hp (HO.out x hx))).mono ?_
 cases hv : (l.any fun x => !fineB x)
 ·have HE : Hid (validL l = true) := Lib.hid (by rw [HV.out, hv]; rfl)
  clear hv
  rintro e w2 ⟨rfl, hq⟩
  replace hB := below_grows hB (Nat.le_refl _) hq
  go_wp2
  go_ret
  exact ⟨ret_bool HE.out.symm, hB⟩
 ·have HE : Hid (validL l = false) := Lib.hid (by rw [HV.out, hv]; rfl)
  clear hv
  rintro e w2 ⟨rfl, hq⟩
  replace hB := below_grows hB (Nat.le_refl _) hq
  go_wp2
  go_ret
  exact ⟨ret_bool HE.out.symm, hB⟩
set_option maxHeartbeats 4000000 in
theorem rvalidl_any (A : Option Addr) (c : Nat) (base : Nat → Prop) (l : List Bx) (w : World) (h : Bxs w base A l) (hl : l.length ≤ 1000000) (ho : ∀ b ∈ l, OKB b) : Calls Tryz.prog 29 #[.slice A l.length c] w fun e w' => e = .returned (.bool (validL l)) ∧ Grows w w' := by
 have HO := Lib.hid ho
 clear ho
 go_enter Tryz.func29, Tryz.ntmps29
 go_wp2_with fail
 go_loopw [7] (fun i wr => ∃ k : Nat, k ≤ l.length ∧ i = .int .i64 k ∧ Hid (∀ y ∈ l.take k, fineB y = true) ∧ Grows w wr) (fun i _ => l.length - (intOf i).toNat)
 case atStart => exact ⟨0, by omega, rfl, Lib.hid (by simp), Below.refl _ _⟩
 case round =>
  obtain ⟨k, hk, rfl, HF, hB⟩ := hrel
  by_cases hlt : k < l.length
  ·obtain ⟨ad, b, A1, c1, A2, c2, A3, c3, rfl, had, hx, hp, q0, q1, q2, q3⟩ := (h.grows hB).elem hlt
   have HX := Lib.hid hx
   clear hx
   have k1 := Blk.new wr 48 #[.int .i64 b.k, .slice A1 b.r.length c1, .slice A2 b.m.length c2, .slice A3 b.s.length c3]
   have hq := (Below.refl wr.heap.size wr).alloc (Nat.le_refl _) (Obj.cells #[.int .i64 b.k, .slice A1 b.r.length c1, .slice A2 b.m.length c2, .slice A3 b.s.length c3] 48)
   go_upto_region 4 with fail
   replace hB := below_grows hB (Nat.le_refl _) hq
   replace hp := hp.grows hq
   clear hq q0 q1 q2 q3
   generalize World.alloc wr _ = w1 at *
   have x1 := k1.cell
   go_wp2_with fail
   refine (rbox_any hp (HO.out b (List.mem_of_getElem? HX.out))).mono ?_
   cases hv : fineB b
   ·have HE : Hid (validL l = false) := Lib.hid (by
     unfold validL
     have : l.all fineB = false := by
      rw [List.all_eq_false]
      exact ⟨b, List.mem_of_getElem? HX.out, by simp [hv]⟩
     rw [this, Bool.and_false])
    clear hv
    rintro e w2 ⟨rfl, hq⟩
    replace hB := below_grows hB (Nat.le_refl _) hq
    clear hq x1 hp
    go_wp2
    go_ret
    exact ⟨ret_bool HE.out.symm, hB⟩
   ·have HN : Hid (∀ y ∈ l.take (k + 1), fineB y = true) := Lib.hid (by
     rw [take_snoc HX.out]
     intro y hy
     rcases List.mem_append.1 hy with hy | hy
     ·exact HF.out y hy
     ·simp only [List.mem_singleton] at hy
      exact hy ▸ hv)
    clear hv
    rintro e w2 ⟨rfl, hq⟩
    replace hB := below_grows hB (Nat.le_refl _) hq
    clear hq x1 hp
    go_wp2
    go_roundw
    case rel => exact ⟨k + 1, by omega, by go_num, HN, hB⟩
    case measure => simp [intOf]; omega
  ·have HA : Hid (l.all fineB = true) := Lib.hid (by
    rw [List.all_eq_true]
    have := HF.out
    rwa [List.take_of_length_le (by omega)] at this)
   by_cases h1 : 64 < l.length
   ·have HE : Hid (validL l = false) := Lib.hid (by unfold validL; rw [decide_eq_false (by omega : ¬ l.length ≤ 64)]; rfl)
    have d1 : decide ((l.length : Int) ≤ 64) = false := by simp only [decide_eq_false_iff_not]; omega
    go_wp2
    go_ret
    exact ⟨ret_bool HE.out.symm, hB⟩
   ·have HE : Hid (validL l = true) := Lib.hid (by unfold validL; rw [decide_eq_true (by omega : l.length ≤ 64), HA.out]; rfl)
    have d1 : decide ((l.length : Int) ≤ 64) = true := by simp only [decide_eq_true_eq]; omega
    go_wp2
    go_ret
    exact ⟨ret_bool HE.out.symm, hB⟩
theorem pboxes_any (A : Option Addr) (c : Nat) (base : Nat → Prop) (l : List Bx) (w : World) (h : Bxs w base A l) (hl : l.length ≤ 1000000) (ho : ∀ b ∈ l, OKB b) (hc : l.length ≤ c) : Calls Tryz.prog 38 #[.slice A l.length c] w fun e w' => (∃ A c, e = .returned (.slice A (boxesF l).length c) ∧ (boxesF l).length ≤ c ∧ Bxs w base A (boxesF l)) ∧ Grows w w' := by
 have HO := Lib.hid ho
 clear ho
 go_enter Tryz.func38, Tryz.ntmps38
 go_wp2_with fail
 refine (pvalidl_any A c base l _ h hl HO.out).mono ?_
 cases hv : validL l
 ·have HE : Hid (boxesF l = []) := Lib.hid (by unfold boxesF; rw [hv]; rfl)
  clear hv
  rintro e w2 ⟨rfl, hq⟩
  go_wp2
  go_ret
  rw [HE.out]
  exact ⟨⟨none, 0, rfl, Nat.le_refl _, Bxs.nil⟩, hq⟩
 ·have HE : Hid (boxesF l = l) := Lib.hid (by unfold boxesF; rw [hv]; rfl)
  clear hv
  rintro e w2 ⟨rfl, hq⟩
  go_wp2
  go_ret
  rw [HE.out]
  exact ⟨⟨A, c, rfl, hc, h⟩, hq⟩
theorem rlist_any (A : Option Addr) (c : Nat) (base : Nat → Prop) (l : List Bx) (w : World) (h : Bxs w base A l) (hl : l.length ≤ 1000000) (ho : ∀ b ∈ l, OKB b) (hc : l.length ≤ c) : Calls Tryz.prog 40 #[.slice A l.length c] w fun e w' => (∃ A c, e = .returned (.slice A (boxesF l).length c) ∧ (boxesF l).length ≤ c ∧ Bxs w base A (boxesF l)) ∧ Grows w w' := by
 have HO := Lib.hid ho
 clear ho
 go_enter Tryz.func40, Tryz.ntmps40
 go_wp2_with fail
 refine (rvalidl_any A c base l _ h hl HO.out).mono ?_
 cases hv : validL l
 ·have HE : Hid (boxesF l = []) := Lib.hid (by unfold boxesF; rw [hv]; rfl)
  clear hv
  rintro e w2 ⟨rfl, hq⟩
  go_wp2
  go_ret
  rw [HE.out]
  exact ⟨⟨none, 0, rfl, Nat.le_refl _, Bxs.nil⟩, hq⟩
 ·have HE : Hid (boxesF l = l) := Lib.hid (by unfold boxesF; rw [hv]; rfl)
  clear hv
  rintro e w2 ⟨rfl, hq⟩
  go_wp2
  go_ret
  rw [HE.out]
  exact ⟨⟨A, c, rfl, hc, h⟩, hq⟩
theorem rkind_any (k q : Int) (w : World) : Calls Tryz.prog 80 #[.int .i64 k, .int .i64 q] w fun e w' => e = .returned (.bool (kindB k q)) ∧ Grows w w' := by
 have hB := Below.refl w.heap.size w
 go_enter Tryz.func80, Tryz.ntmps80
 by_cases h1 : 1 ≤ q
 case neg =>
  have HE : Hid (kindB k q = false) := Lib.hid (by unfold kindB; rw [decide_eq_false h1]; rfl)
  have eh1 : decide (1 ≤ q) = false := by simpa using h1
  clear h1
  go_wp2
  go_ret
  exact ⟨ret_bool HE.out.symm, hB⟩
 have eh1 : decide (1 ≤ q) = true := by simpa using h1
 by_cases h2 : q ≤ 7
 case neg =>
  have HE : Hid (kindB k q = false) := Lib.hid (by unfold kindB; rw [decide_eq_false h2]; simp)
  have eh2 : decide (q ≤ 7) = false := by simpa using h2
  clear h2
  go_wp2
  go_ret
  exact ⟨ret_bool HE.out.symm, hB⟩
 have eh2 : decide (q ≤ 7) = true := by simpa using h2
 have HE : Hid (kindB k q = (bits .and .i64 (k / 2 ^ q.toNat) 1 == 1)) := Lib.hid (by unfold kindB; rw [eh1, eh2]; rfl)
 go_wp2
 go_ret
 exact ⟨ret_bool HE.out.symm, hB⟩
theorem pkind_any (k q : Int) (A1 A2 A3 : Option Addr) (n1 c1 n2 c2 n3 c3 : Nat) (w : World) : Calls Tryz.prog 60 #[.agg #[.int .i64 k, .slice A1 n1 c1, .slice A2 n2 c2, .slice A3 n3 c3], .int .i64 q] w fun e w' => e = .returned (.bool (kindB k q)) ∧ Grows w w' := by
 have hB := (Below.refl w.heap.size w).alloc (Nat.le_refl _) (Obj.cells #[.int .i64 k, .slice A1 n1 c1, .slice A2 n2 c2, .slice A3 n3 c3] 48)
 go_enter Tryz.func60, Tryz.ntmps60
 by_cases h1 : 1 ≤ q
 case neg =>
  have HE : Hid (kindB k q = false) := Lib.hid (by unfold kindB; rw [decide_eq_false h1]; rfl)
  have eh1 : decide (1 ≤ q) = false := by simpa using h1
  clear h1
  go_wp2
  go_ret
  exact ⟨ret_bool HE.out.symm, hB⟩
 have eh1 : decide (1 ≤ q) = true := by simpa using h1
 by_cases h2 : q ≤ 7
 case neg =>
  have HE : Hid (kindB k q = false) := Lib.hid (by unfold kindB; rw [decide_eq_false h2]; simp)
  have eh2 : decide (q ≤ 7) = false := by simpa using h2
  clear h2
  go_wp2
  go_ret
  exact ⟨ret_bool HE.out.symm, hB⟩
 have eh2 : decide (q ≤ 7) = true := by simpa using h2
 have HE : Hid (kindB k q = (bits .and .i64 (k / 2 ^ q.toNat) 1 == 1)) := Lib.hid (by unfold kindB; rw [eh1, eh2]; rfl)
 go_wp2
 go_ret
 exact ⟨ret_bool HE.out.symm, hB⟩
end Go.Proofs.YtnbdpnlepcjmmaaGreat

namespace Go.Proofs.YtnbdpnlepcjmmaaGreat
open Go.RowKit
theorem orZ3 (a b c : Int) : orZ [a, b, c] = if a = 0 then if b = 0 then c else b else a := by
 rw [orZ_cons, orZ_cons, orZ_cons]
 by_cases h : c = 0
 ·rw [if_pos h, h]; rfl
 ·rw [if_neg h]
theorem orZ4 (a b c d : Int) : orZ [a, b, c, d] = if a = 0 then if b = 0 then if c = 0 then d else c else b else a := by
 rw [orZ_cons, orZ3]
theorem order_any (a b : Int) (w : World) : Calls Tryz.prog 90 #[.int .u64 a, .int .u64 b] w fun e w' => e = .returned (.int .i64 (cmpZ a b)) ∧ Grows w w' := by
 have hB := Below.refl w.heap.size w
 go_enter Tryz.func90, Tryz.ntmps90
 by_cases h1 : a < b
 ·have HE : Hid (cmpZ a b = -1) := Lib.hid (if_pos h1)
  go_wp2
  go_ret
  exact ⟨ret_int HE.out.symm, hB⟩
 ·by_cases h2 : b < a
  ·have HE : Hid (cmpZ a b = 1) := Lib.hid (by unfold cmpZ; rw [if_neg h1, if_pos h2])
   go_wp2
   go_ret
   exact ⟨ret_int HE.out.symm, hB⟩
  ·have HE : Hid (cmpZ a b = 0) := Lib.hid (by unfold cmpZ; rw [if_neg h1, if_neg h2])
   go_wp2
   go_ret
   exact ⟨ret_int HE.out.symm, hB⟩
theorem nearer_any (want a b : Int) (w : World) (hw : I64 want) (ha : I64 a) (hb : I64 b) : Calls Tryz.prog 50 #[.int .i64 want, .int .i64 a, .int .i64 b] w fun e w' => e = .returned (.int .i64 (closerF want a b)) ∧ Grows w w' := by
 have hB := Below.refl w.heap.size w
 have HC := Lib.hid (closer_eq want a b)
 go_enter Tryz.func50, Tryz.ntmps50
 go_wp2_with fail
 refine (raway10_any a want _ ha hw).mono ?_
 rintro e w1 ⟨rfl, hq⟩
 replace hB := below_grows hB (Nat.le_refl _) hq
 clear hq
 go_wp2_with fail
 refine (raway10_any b want _ hb hw).mono ?_
 rintro e w2 ⟨rfl, hq⟩
 replace hB := below_grows hB (Nat.le_refl _) hq
 clear hq
 go_wp2_with fail
 refine (order_any (farD a want) (farD b want) _).mono ?_
 rintro e w3 ⟨rfl, hq⟩
 replace hB := below_grows hB (Nat.le_refl _) hq
 clear hq
 generalize cmpZ (farD a want) (farD b want) = z at *
 by_cases h0 : z = 0
 case neg =>
  have HE : Hid (closerF want a b = z) := Lib.hid (by rw [HC.out, if_neg h0])
  have hne : (z != 0) = true := by simpa using h0
  clear h0
  go_wp2
  go_ret
  exact ⟨ret_int HE.out.symm, hB⟩
 have HZ : Hid (closerF want a b = cmpZ a b) := Lib.hid (by rw [HC.out, if_pos h0])
 subst h0
 by_cases h1 : a < b
 ·have HE : Hid (closerF want a b = -1) := Lib.hid (by rw [HZ.out]; exact if_pos h1)
  go_wp2
  go_ret
  exact ⟨ret_int HE.out.symm, hB⟩
 ·by_cases h2 : b < a
  ·have HE : Hid (closerF want a b = 1) := Lib.hid (by rw [HZ.out]; unfold cmpZ; rw [if_neg h1, if_pos h2])
   go_wp2
   go_ret
   exact ⟨ret_int HE.out.symm, hB⟩
  ·have HE : Hid (closerF want a b = 0) := Lib.hid (by rw [HZ.out]; unfold cmpZ; rw [if_neg h1, if_neg h2])
   go_wp2
   go_ret
   exact ⟨ret_int HE.out.symm, hB⟩
theorem rkinds_any (want a b : Int) (w : World) : Calls Tryz.prog 49 #[.int .i64 want, .int .i64 a, .int .i64 b] w fun e w' => e = .returned (.int .i64 (kindZ want a b)) ∧ Grows w w' := by
 have hB := Below.refl w.heap.size w
 go_enter Tryz.func49, Tryz.ntmps49
 by_cases h1 : a = b
 ·have HE : Hid (kindZ want a b = 0) := Lib.hid (by unfold kindZ; rw [if_pos h1])
  have d1 : (a == b) = true := by simpa using h1
  clear h1
  go_wp2
  go_ret
  exact ⟨ret_int HE.out.symm, hB⟩
 have d1 : (a == b) = false := by simpa using h1
 by_cases h2 : a = want
 ·have HE : Hid (kindZ want a b = -1) := Lib.hid (by unfold kindZ; rw [if_neg h1, if_pos (.inl h2)])
  have d2 : (a == want) = true := by simpa using h2
  clear h1 h2
  go_wp2
  go_ret
  exact ⟨ret_int HE.out.symm, hB⟩
 have d2 : (a == want) = false := by simpa using h2
 by_cases h3 : b = want
 ·have HE : Hid (kindZ want a b = 1) := Lib.hid (by unfold kindZ; rw [if_neg h1, if_neg (by omega)])
  have d3 : (b != want) = false := by simpa using h3
  clear h1 h2 h3
  go_wp2
  go_ret
  exact ⟨ret_int HE.out.symm, hB⟩
 have d3 : (b != want) = true := by simpa using h3
 by_cases h4 : b < a
 ·have HE : Hid (kindZ want a b = -1) := Lib.hid (by unfold kindZ; rw [if_neg h1, if_pos (.inr ⟨h3, h4⟩)])
  have d4 : decide (b < a) = true := by simpa using h4
  clear h1 h2 h3 h4
  go_wp2
  go_ret
  exact ⟨ret_int HE.out.symm, hB⟩
 ·have HE : Hid (kindZ want a b = 1) := Lib.hid (by unfold kindZ; rw [if_neg h1, if_neg (by omega)])
  have d4 : decide (b < a) = false := by simpa using h4
  clear h1 h2 h3 h4
  go_wp2
  go_ret
  exact ⟨ret_int HE.out.symm, hB⟩
theorem cmpZ_self (a : Int) : cmpZ a a = 0 := by unfold cmpZ; simp
theorem cmpZ_eq {a b : Int} (h : cmpZ a b = 0) : a = b := by
 unfold cmpZ at h
 split at h
 ·omega
 ·split at h <;> omega
theorem cmpZ_zero {a b : Nat} (h : cmpZ (a : Int) (b : Int) = 0) : a = b := by have := cmpZ_eq h; omega
set_option maxHeartbeats 16000000 in
theorem rmaps_any (I A B : Option Addr) (ci c d : Nat) (want a b : List Int) (w : World) (hi : Ints w I want) (ha : Ints w A a) (hb : Ints w B b) (hlw : want.length ≤ 1000000) (hl : a.length ≤ 1000000) (hl2 : b.length ≤ 1000000) :
 Calls Tryz.prog 51 #[.slice I want.length ci, .slice A a.length c, .slice B b.length d] w fun e w' => e = .returned (.int .i64 (mapsF want a b)) ∧ Grows w w' := by
 have hB := Below.refl w.heap.size w
 replace hl : a.length ≤ 9223372036854775807 := by omega
 replace hl2 : b.length ≤ 9223372036854775807 := by omega
 have hlw2 : want.length ≤ 9223372036854775807 := by omega
 go_enter Tryz.func51, Tryz.ntmps51
 go_wp2_with fail
 refine (rsame6_any A I c ci a want _ ha hi hl hlw2).mono ?_
 rintro e w1 ⟨rfl, hq⟩
 replace hB := below_grows hB (Nat.le_refl _) hq
 replace hi := hi.grows hq
 replace ha := ha.grows hq
 replace hb := hb.grows hq
 clear hq
 go_wp2_with fail
 refine (rsame6_any B I d ci b want _ hb hi hl2 hlw2).mono ?_
 rintro e w2 ⟨rfl, hq⟩
 replace hB := below_grows hB (Nat.le_refl _) hq
 replace hi := hi.grows hq
 replace ha := ha.grows hq
 replace hb := hb.grows hq
 clear hq
 by_cases e1 : a = want
 ·by_cases e2 : b = want
  ·have HM : Hid (mapsF want a b = orZ [cmpZ ((commonL want b).length : Int) ((commonL want a).length : Int), cmpZ (a.length : Int) (b.length : Int), lexZ a b]) := Lib.hid (by unfold mapsF; rw [if_pos (by simp [e1, e2])])
   rw [decide_eq_true e1, decide_eq_true e2]
   clear e1 e2
   go_wp2_with fail
   refine (rcommon6_any I B ci d want b _ hi hb hlw hl2).mono ?_
   rintro e w3 ⟨⟨v3, rfl, ho3⟩, hq⟩
   replace hB := below_grows hB (Nat.le_refl _) hq
   replace hi := hi.grows hq
   replace ha := ha.grows hq
   replace hb := hb.grows hq
   clear hq
   obtain ⟨A3, c3, rfl, -, -⟩ := ho3.read
   clear ho3
   go_wp2_with fail
   refine (rcommon6_any I A ci c want a _ hi ha hlw hl).mono ?_
   rintro e w4 ⟨⟨v4, rfl, ho4⟩, hq⟩
   replace hB := below_grows hB (Nat.le_refl _) hq
   replace hi := hi.grows hq
   replace ha := ha.grows hq
   replace hb := hb.grows hq
   clear hq
   obtain ⟨A4, c4, rfl, -, -⟩ := ho4.read
   clear ho4
   have hx3 := common_len want b
   have hx4 := common_len want a
   generalize hn3 : (commonL want b).length = n3 at *
   generalize hn4 : (commonL want a).length = n4 at *
   clear hn3 hn4
   have u3 : IntKind.u64.wrap (n3 : Int) = n3 := IntWalk.u64_in _ (by omega)
   have u4 : IntKind.u64.wrap (n4 : Int) = n4 := IntWalk.u64_in _ (by omega)
   go_wp2_with fail
   refine (order_any (n3 : Int) (n4 : Int) _).mono ?_
   rintro e w5 ⟨rfl, hq⟩
   replace hB := below_grows hB (Nat.le_refl _) hq
   replace hi := hi.grows hq
   replace ha := ha.grows hq
   replace hb := hb.grows hq
   clear hq
   generalize cmpZ (n3 : Int) (n4 : Int) = z1 at *
   by_cases e3 : z1 = 0
   case neg =>
    have HE : Hid (mapsF want a b = z1) := Lib.hid (by rw [HM.out, orZ3, if_neg e3])
    have hne : (z1 != 0) = true := by simpa using e3
    clear e3
    go_wp2
    go_ret
    exact ⟨ret_int HE.out.symm, hB⟩
   subst e3
   have ua : IntKind.u64.wrap (a.length : Int) = a.length := IntWalk.u64_in _ (by omega)
   have ub : IntKind.u64.wrap (b.length : Int) = b.length := IntWalk.u64_in _ (by omega)
   go_wp2_with fail
   refine (order_any (a.length : Int) (b.length : Int) _).mono ?_
   rintro e w6 ⟨rfl, hq⟩
   replace hB := below_grows hB (Nat.le_refl _) hq
   replace hi := hi.grows hq
   replace ha := ha.grows hq
   replace hb := hb.grows hq
   clear hq
   by_cases e4 : cmpZ (a.length : Int) (b.length : Int) = 0
   case neg =>
    have HE : Hid (mapsF want a b = cmpZ (a.length : Int) (b.length : Int)) := Lib.hid (by rw [HM.out, orZ3, if_pos rfl, if_neg e4])
    have hne : (cmpZ (a.length : Int) (b.length : Int) != 0) = true := by simpa using e4
    clear e4
    go_wp2
    go_ret
    exact ⟨ret_int HE.out.symm, hB⟩
   have HL : Hid (a.length = b.length) := Lib.hid (cmpZ_zero e4)
   have HM2 : Hid (mapsF want a b = lexZ a b) := Lib.hid (by rw [HM.out, orZ3, if_pos rfl, if_pos e4])
   rw [e4]
   clear e4 ua ub u3 u4 hx3 hx4
   have hB6 := hB
   clear hB
   go_wp2_with fail
   go_loopw [48] (fun i wr => ∃ k : Nat, k ≤ a.length ∧ i = .int .i64 k ∧ Hid (lexZ a b = lexZ (a.drop k) (b.drop k)) ∧ Grows w6 wr) (fun i _ => a.length - (intOf i).toNat)
   case atStart => exact ⟨0, by omega, rfl, Lib.hid rfl, Below.refl _ _⟩
   case round =>
    obtain ⟨k, hk, rfl, HF, hB⟩ := hrel
    by_cases hlt : k < a.length
    ·have hlt2 : k < b.length := by have := HL.out; omega
     obtain ⟨ad, x, rfl, had, hx, q0⟩ := (ha.grows hB).at_ hlt
     obtain ⟨ad2, y, rfl, had2, hy, q1⟩ := (hb.grows hB).at_ hlt2
     have HD : Hid (lexZ a b = if cmpZ x y = 0 then lexZ (a.drop (k + 1)) (b.drop (k + 1)) else cmpZ x y) := Lib.hid (by
      obtain ⟨_, e1⟩ := List.getElem?_eq_some_iff.1 hx
      obtain ⟨_, e2⟩ := List.getElem?_eq_some_iff.1 hy
      rw [HF.out, List.drop_eq_getElem_cons hlt, List.drop_eq_getElem_cons hlt2, e1, e2]
      rfl)
     have HX := Lib.hid hx
     have HY := Lib.hid hy
     clear hx hy HF
     go_upto_region 15 with fail
     by_cases h0 : x = y
     ·have HE : Hid (lexZ a b = lexZ (a.drop (k + 1)) (b.drop (k + 1))) := Lib.hid (by rw [HD.out, if_pos (by rw [h0]; exact cmpZ_self y)])
      have hn : (x != y) = false := by simpa using h0
      clear HD h0
      go_quiet (fail)
      generalize hY : World.drewN wr _ = w9 at *
      have hq : Grows wr w9 := hY ▸ grows_drewN wr _
      clear hY
      replace hB := below_grows hB (Nat.le_refl _) hq
      clear hq q0 q1
      go_wp2
      go_roundw
      case rel => exact ⟨k + 1, by omega, by go_num, HE, hB⟩
      case measure => simp [intOf]; omega
     ·have hn : (x != y) = true := by simpa using h0
      have HV : Hid (mapsF want a b = cmpZ x y) := Lib.hid (by rw [HM2.out, HD.out, if_neg (fun e => h0 (cmpZ_eq e))])
      clear HD
      go_quiet (fail)
      generalize hY : World.drewN wr _ = w9 at *
      have hq : Grows wr w9 := hY ▸ grows_drewN wr _
      clear hY
      replace hB := below_grows hB (Nat.le_refl _) hq
      clear hq q0 q1
      obtain ⟨ad3, x3, e5, had3, hx3, q0⟩ := (ha.grows hB).at_ hlt
      obtain ⟨ad4, y4, e6, had4, hy4, q1⟩ := (hb.grows hB).at_ hlt2
      injection e5 with e5
      injection e6 with e6
      subst e5
      subst e6
      obtain rfl : x3 = x := by have h9 := HX.out; rw [hx3] at h9; injection h9
      obtain rfl : y4 = y := by have h9 := HY.out; rw [hy4] at h9; injection h9
      clear hx3 hy4
      go_upto_region 16 with fail
      by_cases h7 : x3 < y4
      ·have HE : Hid (mapsF want a b = -1) := Lib.hid (HV.out.trans (if_pos h7))
       have d7 : decide (x3 < y4) = true := by simpa using h7
       clear h7 h0
       go_quiet (fail)
       generalize hY : World.drewN w9 _ = w10 at *
       have hq : Grows w9 w10 := hY ▸ grows_drewN w9 _
       clear hY
       replace hB := below_grows hB (Nat.le_refl _) hq
       clear hq q0 q1
       go_wp2
       go_ret
       exact ⟨ret_int HE.out.symm, below_grows hB6 (Nat.le_refl _) hB⟩
      ·have HE : Hid (mapsF want a b = 1) := Lib.hid (HV.out.trans (by unfold cmpZ; rw [if_neg h7, if_pos (by omega)]))
       have d7 : decide (x3 < y4) = false := by simpa using h7
       clear h7 h0
       go_quiet (fail)
       generalize hY : World.drewN w9 _ = w10 at *
       have hq : Grows w9 w10 := hY ▸ grows_drewN w9 _
       clear hY
       replace hB := below_grows hB (Nat.le_refl _) hq
       clear hq q0 q1
       go_wp2
       go_ret
       exact ⟨ret_int HE.out.symm, below_grows hB6 (Nat.le_refl _) hB⟩
    ·have HE : Hid (mapsF want a b = 0) := Lib.hid (by
      rw [HM2.out, HF.out, List.drop_of_length_le (show a.length ≤ k by omega), List.drop_of_length_le (by have := HL.out; omega)]
      rfl)
     go_wp2
     go_ret
     exact ⟨ret_int HE.out.symm, below_grows hB6 (Nat.le_refl _) hB⟩
  ·have HE : Hid (mapsF want a b = -1) := Lib.hid (by unfold mapsF; rw [if_neg (by simp [e1, e2]), if_pos e1])
   rw [decide_eq_true e1, decide_eq_false e2]
   clear e1 e2
   go_wp2
   go_ret
   exact ⟨ret_int HE.out.symm, hB⟩
 ·by_cases e2 : b = want
  ·have HE : Hid (mapsF want a b = 1) := Lib.hid (by unfold mapsF; rw [if_neg (by simp [e1, e2]), if_neg e1])
   rw [decide_eq_false e1, decide_eq_true e2]
   clear e1 e2
   go_wp2
   go_ret
   exact ⟨ret_int HE.out.symm, hB⟩
  ·have HM : Hid (mapsF want a b = orZ [cmpZ ((commonL want b).length : Int) ((commonL want a).length : Int), cmpZ (a.length : Int) (b.length : Int), lexZ a b]) := Lib.hid (by unfold mapsF; rw [if_pos (by simp [e1, e2])])
   rw [decide_eq_false e1, decide_eq_false e2]
   clear e1 e2
   go_wp2_with fail
   refine (rcommon6_any I B ci d want b _ hi hb hlw hl2).mono ?_
   rintro e w3 ⟨⟨v3, rfl, ho3⟩, hq⟩
   replace hB := below_grows hB (Nat.le_refl _) hq
   replace hi := hi.grows hq
   replace ha := ha.grows hq
   replace hb := hb.grows hq
   clear hq
   obtain ⟨A3, c3, rfl, -, -⟩ := ho3.read
   clear ho3
   go_wp2_with fail
   refine (rcommon6_any I A ci c want a _ hi ha hlw hl).mono ?_
   rintro e w4 ⟨⟨v4, rfl, ho4⟩, hq⟩
   replace hB := below_grows hB (Nat.le_refl _) hq
   replace hi := hi.grows hq
   replace ha := ha.grows hq
   replace hb := hb.grows hq
   clear hq
   obtain ⟨A4, c4, rfl, -, -⟩ := ho4.read
   clear ho4
   have hx3 := common_len want b
   have hx4 := common_len want a
   generalize hn3 : (commonL want b).length = n3 at *
   generalize hn4 : (commonL want a).length = n4 at *
   clear hn3 hn4
   have u3 : IntKind.u64.wrap (n3 : Int) = n3 := IntWalk.u64_in _ (by omega)
   have u4 : IntKind.u64.wrap (n4 : Int) = n4 := IntWalk.u64_in _ (by omega)
   go_wp2_with fail
   refine (order_any (n3 : Int) (n4 : Int) _).mono ?_
   rintro e w5 ⟨rfl, hq⟩
   replace hB := below_grows hB (Nat.le_refl _) hq
   replace hi := hi.grows hq
   replace ha := ha.grows hq
   replace hb := hb.grows hq
   clear hq
   generalize cmpZ (n3 : Int) (n4 : Int) = z1 at *
   by_cases e3 : z1 = 0
   case neg =>
    have HE : Hid (mapsF want a b = z1) := Lib.hid (by rw [HM.out, orZ3, if_neg e3])
    have hne : (z1 != 0) = true := by simpa using e3
    clear e3
    go_wp2
    go_ret
    exact ⟨ret_int HE.out.symm, hB⟩
   subst e3
   have ua : IntKind.u64.wrap (a.length : Int) = a.length := IntWalk.u64_in _ (by omega)
   have ub : IntKind.u64.wrap (b.length : Int) = b.length := IntWalk.u64_in _ (by omega)
   go_wp2_with fail
   refine (order_any (a.length : Int) (b.length : Int) _).mono ?_
   rintro e w6 ⟨rfl, hq⟩
   replace hB := below_grows hB (Nat.le_refl _) hq
   replace hi := hi.grows hq
   replace ha := ha.grows hq
   replace hb := hb.grows hq
   clear hq
   by_cases e4 : cmpZ (a.length : Int) (b.length : Int) = 0
   case neg =>
    have HE : Hid (mapsF want a b = cmpZ (a.length : Int) (b.length : Int)) := Lib.hid (by rw [HM.out, orZ3, if_pos rfl, if_neg e4])
    have hne : (cmpZ (a.length : Int) (b.length : Int) != 0) = true := by simpa using e4
    clear e4
    go_wp2
    go_ret
    exact ⟨ret_int HE.out.symm, hB⟩
   have HL : Hid (a.length = b.length) := Lib.hid (cmpZ_zero e4)
   have HM2 : Hid (mapsF want a b = lexZ a b) := Lib.hid (by rw [HM.out, orZ3, if_pos rfl, if_pos e4])
   rw [e4]
   clear e4 ua ub u3 u4 hx3 hx4
   have hB6 := hB
   clear hB
   go_wp2_with fail
   go_loopw [48] (fun i wr => ∃ k : Nat, k ≤ a.length ∧ i = .int .i64 k ∧ Hid (lexZ a b = lexZ (a.drop k) (b.drop k)) ∧ Grows w6 wr) (fun i _ => a.length - (intOf i).toNat)
   case atStart => exact ⟨0, by omega, rfl, Lib.hid rfl, Below.refl _ _⟩
   case round =>
    obtain ⟨k, hk, rfl, HF, hB⟩ := hrel
    by_cases hlt : k < a.length
    ·have hlt2 : k < b.length := by have := HL.out; omega
     obtain ⟨ad, x, rfl, had, hx, q0⟩ := (ha.grows hB).at_ hlt
     obtain ⟨ad2, y, rfl, had2, hy, q1⟩ := (hb.grows hB).at_ hlt2
     have HD : Hid (lexZ a b = if cmpZ x y = 0 then lexZ (a.drop (k + 1)) (b.drop (k + 1)) else cmpZ x y) := Lib.hid (by
      obtain ⟨_, e1⟩ := List.getElem?_eq_some_iff.1 hx
      obtain ⟨_, e2⟩ := List.getElem?_eq_some_iff.1 hy
      rw [HF.out, List.drop_eq_getElem_cons hlt, List.drop_eq_getElem_cons hlt2, e1, e2]
      rfl)
     have HX := Lib.hid hx
     have HY := Lib.hid hy
     clear hx hy HF
     go_upto_region 15 with fail
     by_cases h0 : x = y
     ·have HE : Hid (lexZ a b = lexZ (a.drop (k + 1)) (b.drop (k + 1))) := Lib.hid (by rw [HD.out, if_pos (by rw [h0]; exact cmpZ_self y)])
      have hn : (x != y) = false := by simpa using h0
      clear HD h0
      go_quiet (fail)
      generalize hY : World.drewN wr _ = w9 at *
      have hq : Grows wr w9 := hY ▸ grows_drewN wr _
      clear hY
      replace hB := below_grows hB (Nat.le_refl _) hq
      clear hq q0 q1
      go_wp2
      go_roundw
      case rel => exact ⟨k + 1, by omega, by go_num, HE, hB⟩
      case measure => simp [intOf]; omega
     ·have hn : (x != y) = true := by simpa using h0
      have HV : Hid (mapsF want a b = cmpZ x y) := Lib.hid (by rw [HM2.out, HD.out, if_neg (fun e => h0 (cmpZ_eq e))])
      clear HD
      go_quiet (fail)
      generalize hY : World.drewN wr _ = w9 at *
      have hq : Grows wr w9 := hY ▸ grows_drewN wr _
      clear hY
      replace hB := below_grows hB (Nat.le_refl _) hq
      clear hq q0 q1
      obtain ⟨ad3, x3, e5, had3, hx3, q0⟩ := (ha.grows hB).at_ hlt
      obtain ⟨ad4, y4, e6, had4, hy4, q1⟩ := (hb.grows hB).at_ hlt2
      injection e5 with e5
      injection e6 with e6
      subst e5
      subst e6
      obtain rfl : x3 = x := by have h9 := HX.out; rw [hx3] at h9; injection h9
      obtain rfl : y4 = y := by have h9 := HY.out; rw [hy4] at h9; injection h9
      clear hx3 hy4
      go_upto_region 16 with fail
      by_cases h7 : x3 < y4
      ·have HE : Hid (mapsF want a b = -1) := Lib.hid (HV.out.trans (if_pos h7))
       have d7 : decide (x3 < y4) = true := by simpa using h7
       clear h7 h0
       go_quiet (fail)
       generalize hY : World.drewN w9 _ = w10 at *
       have hq : Grows w9 w10 := hY ▸ grows_drewN w9 _
       clear hY
       replace hB := below_grows hB (Nat.le_refl _) hq
       clear hq q0 q1
       go_wp2
       go_ret
       exact ⟨ret_int HE.out.symm, below_grows hB6 (Nat.le_refl _) hB⟩
      ·have HE : Hid (mapsF want a b = 1) := Lib.hid (HV.out.trans (by unfold cmpZ; rw [if_neg h7, if_pos (by omega)]))
       have d7 : decide (x3 < y4) = false := by simpa using h7
       clear h7 h0
       go_quiet (fail)
       generalize hY : World.drewN w9 _ = w10 at *
       have hq : Grows w9 w10 := hY ▸ grows_drewN w9 _
       clear hY
       replace hB := below_grows hB (Nat.le_refl _) hq
       clear hq q0 q1
       go_wp2
       go_ret
       exact ⟨ret_int HE.out.symm, below_grows hB6 (Nat.le_refl _) hB⟩
    ·have HE : Hid (mapsF want a b = 0) := Lib.hid (by
      rw [HM2.out, HF.out, List.drop_of_length_le (show a.length ≤ k by omega), List.drop_of_length_le (by have := HL.out; omega)]
      rfl)
     go_wp2
     go_ret
     exact ⟨ret_int HE.out.symm, below_grows hB6 (Nat.le_refl _) hB⟩
set_option maxHeartbeats 8000000 in
theorem rcompare_any (I A B : Option Addr) (ci c d : Nat) (want a b : Ch) (w : World) (iw : Ints w I want.m) (ia : Ints w A a.m) (ib : Ints w B b.m) (hw : OKC want) (ha : OKC a) (hb : OKC b) :
 Calls Tryz.prog 17 #[.agg #[.int .i64 want.k, .int .i64 want.r, .slice I want.m.length ci, .int .i64 want.s], .agg #[.int .i64 a.k, .int .i64 a.r, .slice A a.m.length c, .int .i64 a.s], .agg #[.int .i64 b.k, .int .i64 b.r, .slice B b.m.length d, .int .i64 b.s]] w fun e w' => e = .returned (.int .i64 (cmpF want a b)) ∧ Grows w w' := by
 have HC : Hid (cmpF want a b = _) := Lib.hid (orZ4 (kindZ want.k a.k b.k) (closerF want.r a.r b.r) (mapsF want.m a.m b.m) (closerF want.s a.s b.s))
 have k1 := ((Blk.new w 27 #[.int .i64 want.k, .int .i64 want.r, .slice I want.m.length ci, .int .i64 want.s]).alloc (Obj.cells #[.int .i64 a.k, .int .i64 a.r, .slice A a.m.length c, .int .i64 a.s] 27)).alloc (Obj.cells #[.int .i64 b.k, .int .i64 b.r, .slice B b.m.length d, .int .i64 b.s] 27)
 have k2 := (Blk.new (w.alloc (Obj.cells #[.int .i64 want.k, .int .i64 want.r, .slice I want.m.length ci, .int .i64 want.s] 27)) 27 #[.int .i64 a.k, .int .i64 a.r, .slice A a.m.length c, .int .i64 a.s]).alloc (Obj.cells #[.int .i64 b.k, .int .i64 b.r, .slice B b.m.length d, .int .i64 b.s] 27)
 have k3 := Blk.new ((w.alloc (Obj.cells #[.int .i64 want.k, .int .i64 want.r, .slice I want.m.length ci, .int .i64 want.s] 27)).alloc (Obj.cells #[.int .i64 a.k, .int .i64 a.r, .slice A a.m.length c, .int .i64 a.s] 27)) 27 #[.int .i64 b.k, .int .i64 b.r, .slice B b.m.length d, .int .i64 b.s]
 have hB := (((Below.refl w.heap.size w).alloc (Nat.le_refl _) (Obj.cells #[.int .i64 want.k, .int .i64 want.r, .slice I want.m.length ci, .int .i64 want.s] 27)).alloc (by simp) (Obj.cells #[.int .i64 a.k, .int .i64 a.r, .slice A a.m.length c, .int .i64 a.s] 27)).alloc (by simp; omega) (Obj.cells #[.int .i64 b.k, .int .i64 b.r, .slice B b.m.length d, .int .i64 b.s] 27)
 go_enter Tryz.func17, Tryz.ntmps17
 go_upto_region 1 with fail
 have hs1 : (w.alloc (Obj.cells #[.int .i64 want.k, .int .i64 want.r, .slice I want.m.length ci, .int .i64 want.s] 27)).heap.size = w.heap.size + 1 := by simp
 have hs2 : ((w.alloc (Obj.cells #[.int .i64 want.k, .int .i64 want.r, .slice I want.m.length ci, .int .i64 want.s] 27)).alloc (Obj.cells #[.int .i64 a.k, .int .i64 a.r, .slice A a.m.length c, .int .i64 a.s] 27)).heap.size = w.heap.size + 1 + 1 := by simp
 rw [hs1] at k2
 rw [hs2] at k3
 clear hs1 hs2
 replace iw := iw.grows hB
 replace ia := ia.grows hB
 replace ib := ib.grows hB
 generalize World.alloc (World.alloc (World.alloc w _) _) _ = w3 at *
 generalize hG1 : w.heap.size + 1 = Ga at *
 generalize hG2 : Ga + 1 = Gb at *
 clear hG1 hG2
 have x1 := k1.cell
 have x2 := k2.cell
 have x3 := k3.cell
 go_wp2_with fail
 refine (rkinds_any want.k a.k b.k _).mono ?_
 generalize kindZ want.k a.k b.k = z0 at *
 rintro e v0 ⟨rfl, hq⟩
 replace hB := below_grows hB (Nat.le_refl _) hq
 replace k1 := k1.grows hq
 replace k2 := k2.grows hq
 replace k3 := k3.grows hq
 replace iw := iw.grows hq
 replace ia := ia.grows hq
 replace ib := ib.grows hq
 clear hq x1 x2 x3
 by_cases h0 : z0 = 0
 case neg =>
  have HE : Hid (cmpF want a b = z0) := Lib.hid (by rw [HC.out]; simp [h0])
  have hne : (z0 != 0) = true := by simpa using h0
  clear h0
  go_wp2
  go_ret
  exact ⟨ret_int HE.out.symm, hB⟩
 subst h0
 have x1 := k1.cell
 have x2 := k2.cell
 have x3 := k3.cell
 go_wp2_with fail
 refine (nearer_any want.r a.r b.r _ hw.1 ha.1 hb.1).mono ?_
 generalize closerF want.r a.r b.r = z1 at *
 rintro e v1 ⟨rfl, hq⟩
 replace hB := below_grows hB (Nat.le_refl _) hq
 replace k1 := k1.grows hq
 replace k2 := k2.grows hq
 replace k3 := k3.grows hq
 replace iw := iw.grows hq
 replace ia := ia.grows hq
 replace ib := ib.grows hq
 clear hq x1 x2 x3
 by_cases h0 : z1 = 0
 case neg =>
  have HE : Hid (cmpF want a b = z1) := Lib.hid (by rw [HC.out]; simp [h0])
  have hne : (z1 != 0) = true := by simpa using h0
  clear h0
  go_wp2
  go_ret
  exact ⟨ret_int HE.out.symm, hB⟩
 subst h0
 have x1 := k1.cell
 have x2 := k2.cell
 have x3 := k3.cell
 go_wp2_with fail
 refine (rmaps_any I A B ci c d want.m a.m b.m _ iw ia ib hw.2.2 ha.2.2 hb.2.2).mono ?_
 generalize mapsF want.m a.m b.m = z2 at *
 rintro e v2 ⟨rfl, hq⟩
 replace hB := below_grows hB (Nat.le_refl _) hq
 replace k1 := k1.grows hq
 replace k2 := k2.grows hq
 replace k3 := k3.grows hq
 replace iw := iw.grows hq
 replace ia := ia.grows hq
 replace ib := ib.grows hq
 clear hq x1 x2 x3
 by_cases h0 : z2 = 0
 case neg =>
  have HE : Hid (cmpF want a b = z2) := Lib.hid (by rw [HC.out]; simp [h0])
  have hne : (z2 != 0) = true := by simpa using h0
  clear h0
  go_wp2
  go_ret
  exact ⟨ret_int HE.out.symm, hB⟩
 subst h0
 have x1 := k1.cell
 have x2 := k2.cell
 have x3 := k3.cell
 go_wp2_with fail
 refine (nearer_any want.s a.s b.s _ hw.2.1 ha.2.1 hb.2.1).mono ?_
 generalize closerF want.s a.s b.s = z3 at *
 rintro e v3 ⟨rfl, hq⟩
 replace hB := below_grows hB (Nat.le_refl _) hq
 replace k1 := k1.grows hq
 replace k2 := k2.grows hq
 replace k3 := k3.grows hq
 replace iw := iw.grows hq
 replace ia := ia.grows hq
 replace ib := ib.grows hq
 clear hq x1 x2 x3
 have HE : Hid (cmpF want a b = z3) := Lib.hid (by rw [HC.out]; simp)
 go_wp2
 go_ret
 exact ⟨ret_int HE.out.symm, hB⟩
theorem len64_any (x : Int) (w : World) (h0 : 0 ≤ x) (h1 : x ≤ 255) : Calls Tryz.prog 117 #[.int .u64 x] w fun e w' => e = .returned (.int .i64 (Lib.bitLen x.toNat)) ∧ Grows w w' := by
 have d1 : decide (4294967296 ≤ x) = false := by simp only [decide_eq_false_iff_not]; omega
 have d2 : decide (65536 ≤ x) = false := by simp only [decide_eq_false_iff_not]; omega
 have d3 : decide (256 ≤ x) = false := by simp only [decide_eq_false_iff_not]; omega
 have hB := Below.refl w.heap.size w
 go_enter Tryz.func117, Tryz.ntmps117
 go_wp2
 go_ret
 exact ⟨ret_int (by have h8 := Lib.bitLen_le8' x h0 h1; rw [Lib.len8_of x h0 h1]; unfold wrap64; omega), hB⟩
theorem len_any (x : Int) (w : World) (h0 : 0 ≤ x) (h1 : x ≤ 255) : Calls Tryz.prog 76 #[.int .u64 x] w fun e w' => e = .returned (.int .i64 (Lib.bitLen x.toNat)) ∧ Grows w w' := by
 go_enter Tryz.func76, Tryz.ntmps76
 go_wp2_with fail
 refine (len64_any x _ h0 h1).mono ?_
 rintro e w2 ⟨rfl, hq⟩
 go_wp2
 go_ret
 exact ⟨rfl, hq⟩
end Go.Proofs.YtnbdpnlepcjmmaaGreat

namespace Go.Proofs.YtnbdpnlepcjmmaaGreat
open Go.RowKit
def ChV (w : World) (base : Nat → Prop) (c : Ch) (v : Value) : Prop := ∃ A n, v = .agg #[.int .i64 c.k, .int .i64 c.r, .slice A c.m.length n, .int .i64 c.s] ∧ c.m.length ≤ n ∧ InB w base A c.m
theorem ChV.grows {w w' : World} {base : Nat → Prop} {c : Ch} {v : Value} (h : ChV w base c v) (hg : Grows w w') : ChV w' base c v := by
 obtain ⟨A, n, e, hn, hi⟩ := h
 exact ⟨A, n, e, hn, hi.grows hg⟩
def kUp (want b : Int) : Nat → Int
 | 0 => 0
 | n + 1 => if kindB b ((n : Int) + 1) = true ∧ (kUp want b n = 0 ∨ kindZ want ((n : Int) + 1) (kUp want b n) < 0) then (n : Int) + 1 else kUp want b n
def minUp (want : List Int) (ms : List (List Int)) : Nat → List Int
 | 0 => []
 | n + 1 => if n = 0 ∨ mapsF want (ms.getD n []) (minUp want ms n) < 0 then ms.getD n [] else minUp want ms n
def bestR (want : Ch) (b : Bx) : Ch := ⟨kUp want.k b.k 7, (nearF b.r want.r).1, minUp want.m b.m b.m.length, (nearF b.s want.s).1⟩
set_option maxHeartbeats 16000000 in
theorem rbest_any {A1 A2 A3 I : Option Addr} {c1 c2 c3 ci : Nat} {base : Nat → Prop} {b : Bx} {want : Ch} {w : World} (hp : BoxP w base b A1 c1 A2 c2 A3 c3) (hl : OKB b) (iw : Ints w I want.m) (hw : OKC want) :
 Calls Tryz.prog 41 #[.agg #[.int .i64 b.k, .slice A1 b.r.length c1, .slice A2 b.m.length c2, .slice A3 b.s.length c3], .agg #[.int .i64 want.k, .int .i64 want.r, .slice I want.m.length ci, .int .i64 want.s]] w fun e w' => (∃ v, e = .returned v ∧ ChV w' base (bestR want b) v) ∧ Grows w w' := by
 obtain ⟨hlr, hls, hlm, hlx⟩ := hl
 obtain ⟨hwr, hws, hwm⟩ := hw
 have HLM := Lib.hid hlx
 clear hlx
 have k2 := ((((Blk.new w 48 #[.int .i64 b.k, .slice A1 b.r.length c1, .slice A2 b.m.length c2, .slice A3 b.s.length c3]).alloc (Obj.cells #[.int .i64 want.k, .int .i64 want.r, .slice I want.m.length ci, .int .i64 want.s] 27)).alloc (Obj.cells #[.int .i64 0, .int .i64 0, .slice none 0 0, .int .i64 0] 27)).alloc (Obj.cells #[.int .i64 0, .int .i64 0, .slice none 0 0, .int .i64 0] 27))
 have k3 := (((Blk.new (w.alloc (Obj.cells #[.int .i64 b.k, .slice A1 b.r.length c1, .slice A2 b.m.length c2, .slice A3 b.s.length c3] 48)) 27 #[.int .i64 want.k, .int .i64 want.r, .slice I want.m.length ci, .int .i64 want.s]).alloc (Obj.cells #[.int .i64 0, .int .i64 0, .slice none 0 0, .int .i64 0] 27)).alloc (Obj.cells #[.int .i64 0, .int .i64 0, .slice none 0 0, .int .i64 0] 27))
 have k4 := ((Blk.new ((w.alloc (Obj.cells #[.int .i64 b.k, .slice A1 b.r.length c1, .slice A2 b.m.length c2, .slice A3 b.s.length c3] 48)).alloc (Obj.cells #[.int .i64 want.k, .int .i64 want.r, .slice I want.m.length ci, .int .i64 want.s] 27)) 27 #[.int .i64 0, .int .i64 0, .slice none 0 0, .int .i64 0]).alloc (Obj.cells #[.int .i64 0, .int .i64 0, .slice none 0 0, .int .i64 0] 27))
 have k5 := (Blk.new (((w.alloc (Obj.cells #[.int .i64 b.k, .slice A1 b.r.length c1, .slice A2 b.m.length c2, .slice A3 b.s.length c3] 48)).alloc (Obj.cells #[.int .i64 want.k, .int .i64 want.r, .slice I want.m.length ci, .int .i64 want.s] 27)).alloc (Obj.cells #[.int .i64 0, .int .i64 0, .slice none 0 0, .int .i64 0] 27)) 27 #[.int .i64 0, .int .i64 0, .slice none 0 0, .int .i64 0])
 have hB := (((((Below.refl w.heap.size w).alloc (Nat.le_refl _) (Obj.cells #[.int .i64 b.k, .slice A1 b.r.length c1, .slice A2 b.m.length c2, .slice A3 b.s.length c3] 48)).alloc (by simp) (Obj.cells #[.int .i64 want.k, .int .i64 want.r, .slice I want.m.length ci, .int .i64 want.s] 27)).alloc (by simp; omega) (Obj.cells #[.int .i64 0, .int .i64 0, .slice none 0 0, .int .i64 0] 27)).alloc (by simp; omega) (Obj.cells #[.int .i64 0, .int .i64 0, .slice none 0 0, .int .i64 0] 27))
 go_enter Tryz.func41, Tryz.ntmps41
 go_upto_region 2 with fail
 have hs1 : (w.alloc (Obj.cells #[.int .i64 b.k, .slice A1 b.r.length c1, .slice A2 b.m.length c2, .slice A3 b.s.length c3] 48)).heap.size = w.heap.size + 1 := by simp
 rw [hs1] at k3
 have hs2 : ((w.alloc (Obj.cells #[.int .i64 b.k, .slice A1 b.r.length c1, .slice A2 b.m.length c2, .slice A3 b.s.length c3] 48)).alloc (Obj.cells #[.int .i64 want.k, .int .i64 want.r, .slice I want.m.length ci, .int .i64 want.s] 27)).heap.size = w.heap.size + 1 + 1 := by simp
 rw [hs2] at k4
 have hs3 : (((w.alloc (Obj.cells #[.int .i64 b.k, .slice A1 b.r.length c1, .slice A2 b.m.length c2, .slice A3 b.s.length c3] 48)).alloc (Obj.cells #[.int .i64 want.k, .int .i64 want.r, .slice I want.m.length ci, .int .i64 want.s] 27)).alloc (Obj.cells #[.int .i64 0, .int .i64 0, .slice none 0 0, .int .i64 0] 27)).heap.size = w.heap.size + 1 + 1 + 1 := by simp
 rw [hs3] at k5
 clear hs1 hs2 hs3
 generalize World.alloc (World.alloc (World.alloc (World.alloc w _) _) _) _ = w4 at *
 generalize hG1 : w.heap.size + 1 = G1 at *
 have HG1 := Lib.hid hG1
 clear hG1
 generalize hG2 : G1 + 1 = G2 at *
 have HG2 := Lib.hid hG2
 clear hG2
 generalize hG3 : G2 + 1 = G3 at *
 have HG3 := Lib.hid hG3
 clear hG3
 have e03 : w.heap.size ≠ G3 := by have h1 := HG1.out; have h2 := HG2.out; have h3 := HG3.out; omega
 have e13 : G1 ≠ G3 := by have h2 := HG2.out; have h3 := HG3.out; omega
 have e23 : G2 ≠ G3 := by have h3 := HG3.out; omega
 have l2 : w.heap.size ≤ G2 := by have h1 := HG1.out; have h2 := HG2.out; omega
 have l3 : w.heap.size ≤ G3 := by have h1 := HG1.out; have h2 := HG2.out; have h3 := HG3.out; omega
 have hB4 := hB
 clear hB
 go_wp2_with fail
 go_loopw [6] (fun i wr => ∃ (n : Nat) (ck : Int), n ≤ 7 ∧ i = .int .i64 ((n : Int) + 1) ∧ Hid (kUp want.k b.k n = ck) ∧ Blk wr w.heap.size 48 #[.int .i64 b.k, .slice A1 b.r.length c1, .slice A2 b.m.length c2, .slice A3 b.s.length c3] ∧ Blk wr G1 27 #[.int .i64 want.k, .int .i64 want.r, .slice I want.m.length ci, .int .i64 want.s] ∧ Blk wr G2 27 #[.int .i64 0, .int .i64 0, .slice none 0 0, .int .i64 0] ∧ Blk wr G3 27 #[.int .i64 ck, .int .i64 0, .slice none 0 0, .int .i64 0] ∧ Below w.heap.size w wr) (fun i _ => 8 - (intOf i).toNat)
 case atStart => exact ⟨0, 0, by omega, rfl, Lib.hid rfl, k2, k3, k4, k5, hB4⟩
 case round =>
  clear k2 k3 k4 k5
  obtain ⟨n, ck, hn, rfl, HF, k2, k3, k4, k5, hB⟩ := hrel
  have HS : Hid (kUp want.k b.k (n + 1) = if kindB b.k ((n : Int) + 1) = true ∧ (ck = 0 ∨ kindZ want.k ((n : Int) + 1) ck < 0) then (n : Int) + 1 else ck) := Lib.hid (by rw [← HF.out]; rfl)
  have hwn : IntKind.i64.wrap ((n : Int) + 1 + 1) = ((n + 1 : Nat) : Int) + 1 := by rw [IntWalk.i64_in _ (by omega)]; omega
  by_cases hlt : n < 7
  ·have d1 : decide ((n : Int) + 1 ≤ 7) = true := by simp only [decide_eq_true_eq]; omega
   have x2 := k2.cell
   have x3 := k3.cell
   have x5 := k5.cell
   go_wp2_with fail
   refine (rkind_any b.k ((n : Int) + 1) _).mono ?_
   cases hv : kindB b.k ((n : Int) + 1)
   ·have HE : Hid (kUp want.k b.k (n + 1) = ck) := Lib.hid (by rw [HS.out, if_neg (by rw [hv]; simp)])
    clear hv HS
    rintro e w5 ⟨rfl, hq⟩
    replace hB := below_grows hB (Nat.le_refl _) hq
    replace k2 := k2.grows hq
    replace k3 := k3.grows hq
    replace k4 := k4.grows hq
    replace k5 := k5.grows hq
    clear hq x2 x3 x5
    go_wp2
    go_roundw
    case rel => exact ⟨n + 1, ck, by omega, by go_num, HE, k2, k3, k4, k5, hB⟩
    case measure => simp [intOf]; omega
   have HV := Lib.hid hv
   clear hv
   rintro e w5 ⟨rfl, hq⟩
   replace hB := below_grows hB (Nat.le_refl _) hq
   replace k2 := k2.grows hq
   replace k3 := k3.grows hq
   replace k4 := k4.grows hq
   replace k5 := k5.grows hq
   clear hq x2 x3 x5
   have hf5 := k5.frozen
   have x2 := k2.cell
   have x3 := k3.cell
   have x5 := k5.cell
   by_cases h0 : ck = 0
   ·have HE : Hid (kUp want.k b.k (n + 1) = (n : Int) + 1) := Lib.hid (by rw [HS.out, if_pos ⟨HV.out, .inl h0⟩])
    have d2 : (ck == 0) = true := by simpa using h0
    clear h0 HS
    have j2 := k2.far (p := ⟨G3, 0, none⟩) e03 (.int .i64 ((n : Int) + 1))
    have j3 := k3.far (p := ⟨G3, 0, none⟩) e13 (.int .i64 ((n : Int) + 1))
    have j4 := k4.far (p := ⟨G3, 0, none⟩) e23 (.int .i64 ((n : Int) + 1))
    have j5 := k5.set_ 0 (.int .i64 ((n : Int) + 1))
    have jB := hB.setCell (p := ⟨G3, 0, none⟩) l3 (.int .i64 ((n : Int) + 1))
    go_wp2
    go_roundw
    case rel => exact ⟨n + 1, (n : Int) + 1, by omega, by go_num, HE, j2, j3, j4, j5, jB⟩
    case measure => simp [intOf]; omega
   have d2 : (ck == 0) = false := by simpa using h0
   go_wp2_with fail
   refine (rkinds_any want.k ((n : Int) + 1) ck _).mono ?_
   by_cases h1 : kindZ want.k ((n : Int) + 1) ck < 0
   ·have HE : Hid (kUp want.k b.k (n + 1) = (n : Int) + 1) := Lib.hid (by rw [HS.out, if_pos ⟨HV.out, .inr h1⟩])
    have d3 : decide (kindZ want.k ((n : Int) + 1) ck < 0) = true := by simpa using h1
    clear h0 h1 HS
    generalize kindZ want.k ((n : Int) + 1) ck = z at *
    rintro e w6 ⟨rfl, hq⟩
    replace hB := below_grows hB (Nat.le_refl _) hq
    replace k2 := k2.grows hq
    replace k3 := k3.grows hq
    replace k4 := k4.grows hq
    replace k5 := k5.grows hq
    clear hq x2 x3 x5 hf5
    have hf5 := k5.frozen
    have x2 := k2.cell
    have x3 := k3.cell
    have x5 := k5.cell
    have j2 := k2.far (p := ⟨G3, 0, none⟩) e03 (.int .i64 ((n : Int) + 1))
    have j3 := k3.far (p := ⟨G3, 0, none⟩) e13 (.int .i64 ((n : Int) + 1))
    have j4 := k4.far (p := ⟨G3, 0, none⟩) e23 (.int .i64 ((n : Int) + 1))
    have j5 := k5.set_ 0 (.int .i64 ((n : Int) + 1))
    have jB := hB.setCell (p := ⟨G3, 0, none⟩) l3 (.int .i64 ((n : Int) + 1))
    go_wp2
    go_roundw
    case rel => exact ⟨n + 1, (n : Int) + 1, by omega, by go_num, HE, j2, j3, j4, j5, jB⟩
    case measure => simp [intOf]; omega
   ·have HE : Hid (kUp want.k b.k (n + 1) = ck) := Lib.hid (by rw [HS.out, if_neg (fun h => h.2.elim h0 h1)])
    have d3 : decide (kindZ want.k ((n : Int) + 1) ck < 0) = false := by simpa using h1
    clear h0 h1 HS
    generalize kindZ want.k ((n : Int) + 1) ck = z at *
    rintro e w6 ⟨rfl, hq⟩
    replace hB := below_grows hB (Nat.le_refl _) hq
    replace k2 := k2.grows hq
    replace k3 := k3.grows hq
    replace k4 := k4.grows hq
    replace k5 := k5.grows hq
    clear hq x2 x3 x5 hf5
    go_wp2
    go_roundw
    case rel => exact ⟨n + 1, ck, by omega, by go_num, HE, k2, k3, k4, k5, hB⟩
    case measure => simp [intOf]; omega
  obtain rfl : n = 7 := by omega
  clear HS hwn
  have d1 : decide (((7 : Nat) : Int) + 1 ≤ 7) = false := by decide
  have x2 := k2.cell
  have x3 := k3.cell
  have x5 := k5.cell
  go_wp2_with fail
  refine (rnear_any A1 c1 b.r want.r _ (hp.r.grows hB).sps (by omega) hwr).mono ?_
  generalize hnpr : nearF b.r want.r = pr at *
  have HNpr := Lib.hid hnpr
  clear hnpr
  rintro e w7 ⟨rfl, hq⟩
  replace hB := below_grows hB (Nat.le_refl _) hq
  replace k2 := k2.grows hq
  replace k3 := k3.grows hq
  replace k4 := k4.grows hq
  replace k5 := k5.grows hq
  clear hq x2 x3 x5
  have hf5 := k5.frozen
  have y5 := k5.cell
  replace k2 := k2.far (p := ⟨G3, 1, none⟩) e03 (.int .i64 pr.1)
  replace k3 := k3.far (p := ⟨G3, 1, none⟩) e13 (.int .i64 pr.1)
  replace k4 := k4.far (p := ⟨G3, 1, none⟩) e23 (.int .i64 pr.1)
  replace k5 := k5.set_ 1 (.int .i64 pr.1)
  replace hB := hB.setCell (p := ⟨G3, 1, none⟩) l3 (.int .i64 pr.1)
  have x2 := k2.cell
  have x3 := k3.cell
  have x5 := k5.cell
  go_wp2_with fail
  refine (rnear_any A3 c3 b.s want.s _ (hp.s.grows hB).sps (by omega) hws).mono ?_
  generalize hnps : nearF b.s want.s = ps at *
  have HNps := Lib.hid hnps
  clear hnps
  rintro e w8 ⟨rfl, hq⟩
  replace hB := below_grows hB (Nat.le_refl _) hq
  replace k2 := k2.grows hq
  replace k3 := k3.grows hq
  replace k4 := k4.grows hq
  replace k5 := k5.grows hq
  clear hq x2 x3 x5 hf5 y5
  have hf5 := k5.frozen
  have y5 := k5.cell
  replace k2 := k2.far (p := ⟨G3, 3, none⟩) e03 (.int .i64 ps.1)
  replace k3 := k3.far (p := ⟨G3, 3, none⟩) e13 (.int .i64 ps.1)
  replace k4 := k4.far (p := ⟨G3, 3, none⟩) e23 (.int .i64 ps.1)
  replace k5 := k5.set_ 3 (.int .i64 ps.1)
  replace hB := hB.setCell (p := ⟨G3, 3, none⟩) l3 (.int .i64 ps.1)
  have x2 := k2.cell
  have x3 := k3.cell
  have x5 := k5.cell
  have hB8 := hB
  clear hB
  go_wp2_with fail
  go_loopw [60] (fun i wr => ∃ (n : Nat) (x : List Int) (B : Option Addr) (cx : Nat), n ≤ b.m.length ∧ i = .int .i64 n ∧ Hid (minUp want.m b.m n = x) ∧ x.length ≤ 1000000 ∧ x.length ≤ cx ∧ InB w base B x ∧ Blk wr w.heap.size 48 #[.int .i64 b.k, .slice A1 b.r.length c1, .slice A2 b.m.length c2, .slice A3 b.s.length c3] ∧ Blk wr G1 27 #[.int .i64 want.k, .int .i64 want.r, .slice I want.m.length ci, .int .i64 want.s] ∧ Blk wr G2 27 #[.int .i64 0, .int .i64 0, .slice none 0 0, .int .i64 0] ∧ Blk wr G3 27 #[.int .i64 ck, .int .i64 pr.1, .slice B x.length cx, .int .i64 ps.1] ∧ Below w.heap.size w wr) (fun i _ => b.m.length - (intOf i).toNat)
  case atStart => exact ⟨0, [], none, 0, by omega, rfl, Lib.hid rfl, by simp, by simp, RdB.nil, k2, k3, k4, k5, hB8⟩
  case round =>
   clear k2 k3 k4 k5 x2 x3 x5 hf5 y5 hB8
   obtain ⟨n, x, B, cx, hn, rfl, HF2, hxl, hcx, hix, k2, k3, k4, k5, hB⟩ := hrel
   by_cases hlt : n < b.m.length
   ·obtain ⟨ad, y, B2, cy, e2, had, hy, q0, hcy, hiy⟩ := hp.m.elem hlt
    subst e2
    have q1 := (hB.cell (p := ad.add n) (by rw [block_of_add]; exact had)).trans q0
    have hyl := HLM.out y (List.mem_of_getElem? hy)
    have HS2 : Hid (minUp want.m b.m (n + 1) = if n = 0 ∨ mapsF want.m y x < 0 then y else x) := Lib.hid (by
     have e9 : b.m.getD n [] = y := by rw [List.getD_eq_getElem?_getD, hy]; rfl
     rw [← HF2.out, ← e9]
     rfl)
    clear hy q0
    have x2 := k2.cell
    have x3 := k3.cell
    have x5 := k5.cell
    have hf5 := k5.frozen
    by_cases h0 : n = 0
    ·have HE : Hid (minUp want.m b.m (n + 1) = y) := Lib.hid (by rw [HS2.out, if_pos (.inl h0)])
     have d2 : ((n : Int) == 0) = true := by simp only [beq_iff_eq]; omega
     clear h0 HS2 HF2
     replace k2 := k2.far (p := ⟨G3, 2, none⟩) e03 (.slice B2 y.length cy)
     replace k3 := k3.far (p := ⟨G3, 2, none⟩) e13 (.slice B2 y.length cy)
     replace k4 := k4.far (p := ⟨G3, 2, none⟩) e23 (.slice B2 y.length cy)
     replace k5 := k5.set_ 2 (.slice B2 y.length cy)
     replace hB := hB.setCell (p := ⟨G3, 2, none⟩) l3 (.slice B2 y.length cy)
     go_wp2
     go_roundw
     case rel => exact ⟨n + 1, y, B2, cy, by omega, by go_num, HE, hyl, hcy, hiy, k2, k3, k4, k5, hB⟩
     case measure => simp [intOf]; omega
    have d2 : ((n : Int) == 0) = false := by simp only [beq_eq_false_iff_ne, ne_eq]; omega
    go_wp2_with fail
    refine (rmaps_any I B2 B ci cy cx want.m y x _ (iw.grows hB) (hiy.grows hB).ints (hix.grows hB).ints hwm hyl hxl).mono ?_
    by_cases h1 : mapsF want.m y x < 0
    ·have HE : Hid (minUp want.m b.m (n + 1) = y) := Lib.hid (by rw [HS2.out, if_pos (.inr h1)])
     have d3 : decide (mapsF want.m y x < 0) = true := by simpa using h1
     clear h0 h1 HS2 HF2
     generalize mapsF want.m y x = z at *
     rintro e w9 ⟨rfl, hq⟩
     replace hB := below_grows hB (Nat.le_refl _) hq
     replace k2 := k2.grows hq
     replace k3 := k3.grows hq
     replace k4 := k4.grows hq
     replace k5 := k5.grows hq
     clear hq x2 x3 x5 hf5
     have x2 := k2.cell
     have x3 := k3.cell
     have x5 := k5.cell
     have hf5 := k5.frozen
     replace k2 := k2.far (p := ⟨G3, 2, none⟩) e03 (.slice B2 y.length cy)
     replace k3 := k3.far (p := ⟨G3, 2, none⟩) e13 (.slice B2 y.length cy)
     replace k4 := k4.far (p := ⟨G3, 2, none⟩) e23 (.slice B2 y.length cy)
     replace k5 := k5.set_ 2 (.slice B2 y.length cy)
     replace hB := hB.setCell (p := ⟨G3, 2, none⟩) l3 (.slice B2 y.length cy)
     go_wp2
     go_roundw
     case rel => exact ⟨n + 1, y, B2, cy, by omega, by go_num, HE, hyl, hcy, hiy, k2, k3, k4, k5, hB⟩
     case measure => simp [intOf]; omega
    ·have HE : Hid (minUp want.m b.m (n + 1) = x) := Lib.hid (by rw [HS2.out, if_neg (fun h => h.elim h0 h1)])
     have d3 : decide (mapsF want.m y x < 0) = false := by simpa using h1
     clear h0 h1 HS2 HF2
     generalize mapsF want.m y x = z at *
     rintro e w9 ⟨rfl, hq⟩
     replace hB := below_grows hB (Nat.le_refl _) hq
     replace k2 := k2.grows hq
     replace k3 := k3.grows hq
     replace k4 := k4.grows hq
     replace k5 := k5.grows hq
     clear hq x2 x3 x5 hf5
     go_wp2
     go_roundw
     case rel => exact ⟨n + 1, x, B, cx, by omega, by go_num, HE, hxl, hcx, hix, k2, k3, k4, k5, hB⟩
     case measure => simp [intOf]; omega
   ·obtain rfl : n = b.m.length := by omega
    have HE : Hid (bestR want b = ⟨ck, pr.1, x, ps.1⟩) := Lib.hid (by unfold bestR; rw [HF.out, HF2.out, HNpr.out, HNps.out])
    have x2 := k2.cell
    have x3 := k3.cell
    have x5 := k5.cell
    have x4 := k4.cell
    have hf4 := k4.frozen
    have y4 := ((((k4.set_ 0 (.int .i64 ck)).set_ 1 (.int .i64 pr.1)).set_ 2 (.slice B x.length cx)).set_ 3 (.int .i64 ps.1))
    have yB := ((((hB.setCell (p := ⟨G2, 0, none⟩) l2 (.int .i64 ck)).setCell (p := ⟨G2, 1, none⟩) l2 (.int .i64 pr.1)).setCell (p := ⟨G2, 2, none⟩) l2 (.slice B x.length cx)).setCell (p := ⟨G2, 3, none⟩) l2 (.int .i64 ps.1))
    have y5 := y4.cell
    clear k2 k3 k4 k5 x2 x3
    go_wp2
    refine bodyPost_ret (v := .agg #[.int .i64 ck, .int .i64 pr.1, .slice B x.length cx, .int .i64 ps.1]) (by simp [results, Tryz.results41, go_sem, y5]) rfl ⟨?_, yB⟩
    rw [HE.out]
    exact ⟨_, rfl, B, cx, rfl, hcx, hix.grows yB⟩
end Go.Proofs.YtnbdpnlepcjmmaaGreat

namespace Go.Proofs.YtnbdpnlepcjmmaaGreat
open Go.RowKit
theorem kinds_range {k : Int} (hk : I64 k) (h : kindsOk k = true) : 2 ≤ k ∧ k ≤ 254 ∧ k % 2 = 0 := by
 unfold kindsOk at h
 simp only [Bool.and_eq_true, bne_iff_ne, ne_eq, beq_iff_eq] at h
 obtain ⟨h0, h1⟩ := h
 have h2 : IntKind.i64.wrap (((BitVec.ofInt 64 k &&& ~~~BitVec.ofInt 64 254).toNat : Nat) : Int) = 0 := h1
 rw [IntWalk.i64_left] at h2
 unfold wrap64 at h2
 have hlt := (BitVec.ofInt 64 k &&& ~~~BitVec.ofInt 64 254).isLt
 have hz : (BitVec.ofInt 64 k &&& ~~~BitVec.ofInt 64 254).toNat = 0 := by omega
 have hz2 : BitVec.ofInt 64 k &&& ~~~BitVec.ofInt 64 254 = 0#64 := BitVec.eq_of_toNat_eq (by simpa using hz)
 have e : BitVec.ofInt 64 k = BitVec.ofInt 64 k &&& BitVec.ofInt 64 254 := by
  generalize BitVec.ofInt 64 k = v at *
  generalize BitVec.ofInt 64 254 = u at *
  ext i hi
  have := congrArg (fun x : BitVec 64 => x[i]) hz2
  simp only [BitVec.getElem_and, BitVec.getElem_not, BitVec.getElem_zero] at this
  rw [BitVec.getElem_and]
  revert this
  cases v[i] <;> cases u[i] <;> simp
 have e2 : (BitVec.ofInt 64 k).toNat = (BitVec.ofInt 64 k).toNat &&& 254 := by
  have := congrArg BitVec.toNat e
  rw [BitVec.toNat_and] at this
  exact this
 have h254 : (BitVec.ofInt 64 k).toNat ≤ 254 := by rw [e2]; exact Nat.and_le_right
 have hev : (BitVec.ofInt 64 k).toNat % 2 = 0 := by
  have h9 := Nat.testBit_and (BitVec.ofInt 64 k).toNat 254 0
  rw [Nat.testBit_zero, Nat.testBit_zero, Nat.testBit_zero, ← e2, show decide (254 % 2 = 1) = false from rfl, Bool.and_false, decide_eq_false_iff_not] at h9
  omega
 have hn : ((BitVec.ofInt 64 k).toNat : Int) = k % 18446744073709551616 := by
  rw [BitVec.toNat_ofInt]
  have := Int.emod_nonneg k (show (18446744073709551616 : Int) ≠ 0 by decide)
  rw [Int.toNat_of_nonneg (by simpa using this)]
  rfl
 unfold I64 at hk
 omega
def topK (want b : Int) : Int := if kindB b want = true then want else (Lib.bitLen b.toNat : Int) - 1
def topP (want : Ch) (b : Bx) : Ch := ⟨topK want.k b.k, (nearF b.r want.r).1, minUp want.m b.m b.m.length, (nearF b.s want.s).1⟩
set_option maxRecDepth 100000 in
set_option maxHeartbeats 4000000 in
theorem iclone_any (A : Option Addr) (c : Nat) (l : List Int) (w : World) (h : Ints w A l) (hl : l.length ≤ 1000000) :
 Calls Tryz.prog 68 #[.slice A l.length c] w fun e w' => (∃ v, e = .returned v ∧ OwnI w' w.heap.size v l) ∧ Grows w w' := by
 go_enter Tryz.func68, Tryz.ntmps68
 go_wp2_with fail
 rw [Lib.run_eql_slice_nil (P := Tryz.prog) w 23 3 _ _ _ _ _ Tryz.underlying23]
 rcases A with _ | ad
 ·have h0 : l.length = 0 := by
   rcases Nat.eq_zero_or_pos l.length with h0 | h0
   ·exact h0
   ·obtain ⟨ad, hh, _⟩ := h.2 h0
    cases hh
  obtain rfl : l = [] := List.length_eq_zero_iff.1 h0
  go_wp2
  go_ret
  exact ⟨⟨_, rfl, ownI_nil w w.heap.size⟩, Below.refl _ _⟩
 ·go_upto_region 3 with fail
  refine wp_region_lit ?_
  iterate 2
   refine wpList_plain rfl (fun K hK => ?_)
   go_simp
   refine hK _ _ ?_
   clear hK K
  have hB1 := (Below.refl w.heap.size w).alloc (Nat.le_refl _) (Obj.cells #[] 3)
  have how : OwnI (w.alloc (Obj.cells #[] 3)) w.heap.size (.slice (some ⟨w.heap.size, 0, none⟩) 0 0) [] := World.ownsRow_lit w #[] 0 (Nat.le_refl _) (by simp [maxLen]) rfl
  have h1 := h.grows hB1
  generalize hW : World.alloc w _ = w1 at *
  refine wpList_append_int rfl (.tmp 5) (.tmp 6) rfl (m := l) rfl rfl how rfl h1 (by simpa using hl) hB1.size ?_
  intro v' w2 hown hgr _
  have hB2 := how.below hB1 hgr hB1.size
  rw [List.nil_append] at hown
  clear how hgr h1 h hB1 hW
  go_wp2
  go_ret
  exact ⟨⟨_, rfl, hown⟩, hB2⟩
theorem top1_any {G : Nat} {I A B : Option Addr} {ci ca cb : Nat} {want : Ch} {x y : List Int} {w : World} (kw : Blk w G 27 #[.int .i64 want.k, .int .i64 want.r, .slice I want.m.length ci, .int .i64 want.s]) (iw : Ints w I want.m) (hx : Ints w A x) (hy : Ints w B y) (hlw : want.m.length ≤ 1000000) (hlx : x.length ≤ 9223372036854775807) (hly : y.length ≤ 9223372036854775807) :
 Calls Tryz.prog 79 #[.slice A x.length ca, .slice B y.length cb, .pointer (some ⟨G, 0, none⟩)] w fun e w' => e = .returned (.int .i64 (mapsF want.m x y)) ∧ Grows w w' := by
 have x1 := kw.cell
 go_enter Tryz.func79, Tryz.ntmps79
 go_wp2_with fail
 refine (maps_any I A B ci ca cb want.m x y _ iw hx hy hlw hlx hly).mono ?_
 rintro e w1 ⟨rfl, hq⟩
 go_wp2
 go_ret
 exact ⟨rfl, hq⟩
set_option maxHeartbeats 4000000 in
theorem minfunc_any {G : Nat} {base : Nat → Prop} {I A : Option Addr} {ci c : Nat} {want : Ch} {ms : List (List Int)} {w : World} (kw : Blk w G 27 #[.int .i64 want.k, .int .i64 want.r, .slice I want.m.length ci, .int .i64 want.s]) (iw : Ints w I want.m) (h : MapsR w base A ms) (hl0 : 0 < ms.length) (hl : ms.length ≤ 1000000) (hlw : want.m.length ≤ 1000000) (hlx : ∀ x ∈ ms, x.length ≤ 1000000) :
 Calls Tryz.prog 78 #[.slice A ms.length c, .func (.func 79) #[] #[.pointer (some ⟨G, 0, none⟩)]] w fun e w' => (∃ B cx, e = .returned (.slice B (minUp want.m ms ms.length).length cx) ∧ (minUp want.m ms ms.length).length ≤ cx ∧ InB w base B (minUp want.m ms ms.length) ∧ (minUp want.m ms ms.length).length ≤ 1000000) ∧ Grows w w' := by
 have HLX := Lib.hid hlx
 clear hlx
 obtain ⟨ad, x0, B0, cx0, e0, had, hx0, q0, hcx0, hi0⟩ := h.elem hl0
 subst e0
 have H0 : Hid (minUp want.m ms 1 = x0) := Lib.hid (by
  have e9 : ms.getD 0 [] = x0 := by rw [List.getD_eq_getElem?_getD, hx0]; rfl
  unfold minUp
  rw [if_pos (.inl rfl), e9])
 have hxl0 := HLX.out x0 (List.mem_of_getElem? hx0)
 have ea : ad.add 0 = ad := by simp [Addr.add]
 rw [ea] at q0
 have d0 : decide ((ms.length : Int) < 1) = false := by simp only [decide_eq_false_iff_not]; omega
 clear hx0 ea
 go_enter Tryz.func78, Tryz.ntmps78
 go_wp2_with fail
 go_loopw [5, 6] (fun m i wr => ∃ (n : Nat) (x : List Int) (B : Option Addr) (cx : Nat), 1 ≤ n ∧ n ≤ ms.length ∧ i = .int .i64 n ∧ m = .slice B x.length cx ∧ Hid (minUp want.m ms n = x) ∧ x.length ≤ 1000000 ∧ x.length ≤ cx ∧ InB w base B x ∧ Grows w wr) (fun _ i _ => ms.length - (intOf i).toNat)
 case atStart => exact ⟨1, x0, B0, cx0, by omega, by omega, rfl, rfl, H0, hxl0, hcx0, hi0, Below.refl _ _⟩
 case round =>
  obtain ⟨n, x, B, cx, hn1, hn, rfl, rfl, HF, hxl, hcx, hix, hB⟩ := hrel
  by_cases hlt : n < ms.length
  ·obtain ⟨ad2, y, B2, cy, e2, had2, hy, q1, hcy, hiy⟩ := h.elem hlt
   injection e2 with e2
   subst e2
   have q2 := (hB.cell (p := ad.add n) (by rw [block_of_add]; exact had)).trans q1
   have hyl := HLX.out y (List.mem_of_getElem? hy)
   have HS : Hid (minUp want.m ms (n + 1) = if n = 0 ∨ mapsF want.m y x < 0 then y else x) := Lib.hid (by
    have e9 : ms.getD n [] = y := by rw [List.getD_eq_getElem?_getD, hy]; rfl
    rw [← HF.out, ← e9]
    rfl)
   clear hy q1
   go_wp2_with fail
   refine (top1_any (kw.grows hB) (iw.grows hB) (hiy.grows hB).ints (hix.grows hB).ints hlw (by omega) (by omega)).mono ?_
   by_cases h1 : mapsF want.m y x < 0
   ·have HE : Hid (minUp want.m ms (n + 1) = y) := Lib.hid (by rw [HS.out, if_pos (.inr h1)])
    have d3 : decide (mapsF want.m y x < 0) = true := by simpa using h1
    clear h1 HS
    generalize mapsF want.m y x = z at *
    rintro e w9 ⟨rfl, hq⟩
    replace q2 := (hq.cell (p := ad.add n) (by rw [block_of_add]; exact Nat.lt_of_lt_of_le had hB.size)).trans q2
    replace hB := below_grows hB (Nat.le_refl _) hq
    clear hq
    go_wp2
    go_roundw
    case rel => exact ⟨n + 1, y, B2, cy, by omega, by omega, by go_num, rfl, HE, hyl, hcy, hiy, hB⟩
    case measure => simp [intOf]; omega
   ·have HE : Hid (minUp want.m ms (n + 1) = x) := Lib.hid (by rw [HS.out, if_neg (fun h => h.elim (by omega) h1)])
    have d3 : decide (mapsF want.m y x < 0) = false := by simpa using h1
    clear h1 HS
    generalize mapsF want.m y x = z at *
    rintro e w9 ⟨rfl, hq⟩
    replace hB := below_grows hB (Nat.le_refl _) hq
    clear hq
    go_wp2
    go_roundw
    case rel => exact ⟨n + 1, x, B, cx, by omega, by omega, by go_num, rfl, HE, hxl, hcx, hix, hB⟩
    case measure => simp [intOf]; omega
  ·obtain rfl : n = ms.length := by omega
   go_wp2
   go_ret
   rw [HF.out]
   exact ⟨⟨B, cx, rfl, hcx, hix, hxl⟩, hB⟩
end Go.Proofs.YtnbdpnlepcjmmaaGreat

namespace Go.Proofs.YtnbdpnlepcjmmaaGreat
open Go.RowKit
set_option maxHeartbeats 16000000 in
theorem ptop_any {A1 A2 A3 I : Option Addr} {c1 c2 c3 ci : Nat} {base : Nat → Prop} {b : Bx} {want : Ch} {w : World} (hp : BoxP w base b A1 c1 A2 c2 A3 c3) (hl : OKB b) (hk : I64 b.k) (hf : fineB b = true) (iw : Ints w I want.m) (hw : OKC want) :
 Calls Tryz.prog 39 #[.agg #[.int .i64 b.k, .slice A1 b.r.length c1, .slice A2 b.m.length c2, .slice A3 b.s.length c3], .agg #[.int .i64 want.k, .int .i64 want.r, .slice I want.m.length ci, .int .i64 want.s]] w fun e w' => (∃ v, e = .returned v ∧ ChV w' (Ge w.heap.size) (topP want b) v) ∧ Grows w w' := by
 obtain ⟨hlr, hls, hlm, hlx⟩ := hl
 obtain ⟨hwr, hws, hwm⟩ := hw
 have HLM := Lib.hid hlx
 clear hlx
 have hm0 : 0 < b.m.length := by
  unfold fineB mapsOk at hf
  simp only [Bool.and_eq_true, decide_eq_true_eq] at hf
  omega
 have hkr := kinds_range hk (by unfold fineB at hf; simp only [Bool.and_eq_true] at hf; exact hf.1.1.1)
 have hu : IntKind.u64.wrap b.k = b.k := IntWalk.u64_in _ (by omega)
 have HU := Lib.hid hu
 clear hf hk
 have k2 := (((Blk.new w 48 #[.int .i64 b.k, .slice A1 b.r.length c1, .slice A2 b.m.length c2, .slice A3 b.s.length c3]).alloc (Obj.cells #[.int .i64 want.k, .int .i64 want.r, .slice I want.m.length ci, .int .i64 want.s] 27)).alloc (Obj.cells #[.int .i64 0, .int .i64 0, .slice none 0 0, .int .i64 0] 27))
 have k3 := ((Blk.new (w.alloc (Obj.cells #[.int .i64 b.k, .slice A1 b.r.length c1, .slice A2 b.m.length c2, .slice A3 b.s.length c3] 48)) 27 #[.int .i64 want.k, .int .i64 want.r, .slice I want.m.length ci, .int .i64 want.s]).alloc (Obj.cells #[.int .i64 0, .int .i64 0, .slice none 0 0, .int .i64 0] 27))
 have k4 := (Blk.new ((w.alloc (Obj.cells #[.int .i64 b.k, .slice A1 b.r.length c1, .slice A2 b.m.length c2, .slice A3 b.s.length c3] 48)).alloc (Obj.cells #[.int .i64 want.k, .int .i64 want.r, .slice I want.m.length ci, .int .i64 want.s] 27)) 27 #[.int .i64 0, .int .i64 0, .slice none 0 0, .int .i64 0])
 have hB := ((((Below.refl w.heap.size w).alloc (Nat.le_refl _) (Obj.cells #[.int .i64 b.k, .slice A1 b.r.length c1, .slice A2 b.m.length c2, .slice A3 b.s.length c3] 48)).alloc (by simp) (Obj.cells #[.int .i64 want.k, .int .i64 want.r, .slice I want.m.length ci, .int .i64 want.s] 27)).alloc (by simp; omega) (Obj.cells #[.int .i64 0, .int .i64 0, .slice none 0 0, .int .i64 0] 27))
 go_enter Tryz.func39, Tryz.ntmps39
 go_upto_region 1 with fail
 have hs1 : (w.alloc (Obj.cells #[.int .i64 b.k, .slice A1 b.r.length c1, .slice A2 b.m.length c2, .slice A3 b.s.length c3] 48)).heap.size = w.heap.size + 1 := by simp
 rw [hs1] at k3
 have hs2 : ((w.alloc (Obj.cells #[.int .i64 b.k, .slice A1 b.r.length c1, .slice A2 b.m.length c2, .slice A3 b.s.length c3] 48)).alloc (Obj.cells #[.int .i64 want.k, .int .i64 want.r, .slice I want.m.length ci, .int .i64 want.s] 27)).heap.size = w.heap.size + 1 + 1 := by simp
 rw [hs2] at k4
 clear hs1 hs2
 generalize World.alloc (World.alloc (World.alloc w _) _) _ = w3 at *
 generalize hG1 : w.heap.size + 1 = G1 at *
 have HG1 := Lib.hid hG1
 clear hG1
 generalize hG2 : G1 + 1 = G2 at *
 have HG2 := Lib.hid hG2
 clear hG2
 have l2 : w.heap.size ≤ G2 := by have h1 := HG1.out; have h2 := HG2.out; omega
 have e03 : w.heap.size ≠ w3.heap.size := Nat.ne_of_lt k2.lt
 have e13 : G1 ≠ w3.heap.size := Nat.ne_of_lt k3.lt
 have e23 : G2 ≠ w3.heap.size := Nat.ne_of_lt k4.lt
 have e23l : G2 < w3.heap.size := k4.lt
 have l3 : w.heap.size ≤ w3.heap.size := hB.size
 have x3 := k3.cell
 have k5 := Blk.new w3 27 #[.int .i64 want.k, .int .i64 0, .slice none 0 0, .int .i64 0]
 have hq := (Below.refl w3.heap.size w3).alloc (Nat.le_refl _) (Obj.cells #[.int .i64 want.k, .int .i64 0, .slice none 0 0, .int .i64 0] 27)
 go_upto_region 2 with fail
 replace hB := below_grows hB (Nat.le_refl _) hq
 replace k2 := k2.grows hq
 replace k3 := k3.grows hq
 replace k4 := k4.grows hq
 clear hq x3
 generalize World.alloc w3 _ = w4 at *
 generalize w3.heap.size = G3 at *
 have x2 := k2.cell
 have x5 := k5.cell
 go_wp2_with fail
 refine (pkind_any b.k want.k A1 A2 A3 b.r.length c1 b.m.length c2 b.s.length c3 _).mono ?_
 cases hv : kindB b.k want.k
 ·have HK : Hid (topK want.k b.k = (Lib.bitLen b.k.toNat : Int) - 1) := Lib.hid (by unfold topK; rw [hv]; rfl)
  clear hv
  rintro e w5 ⟨rfl, hq⟩
  replace hB := below_grows hB (Nat.le_refl _) hq
  replace k2 := k2.grows hq
  replace k3 := k3.grows hq
  replace k4 := k4.grows hq
  replace k5 := k5.grows hq
  clear hq x2 x5
  have x2 := k2.cell
  have hu := HU.out
  go_wp2_with fail
  refine (len_any b.k _ (by omega) (by omega)).mono ?_
  have h8 := Lib.bitLen_le8' b.k (by omega) (by omega)
  generalize Lib.bitLen b.k.toNat = L at *
  have hwl : IntKind.i64.wrap ((L : Int) - 1) = (L : Int) - 1 := IntWalk.i64_in _ (by omega)
  rintro e w6 ⟨rfl, hq⟩
  replace hB := below_grows hB (Nat.le_refl _) hq
  replace k2 := k2.grows hq
  replace k3 := k3.grows hq
  replace k4 := k4.grows hq
  replace k5 := k5.grows hq
  clear hq x2 hu
  have hf5 := k5.frozen
  have y5 := k5.cell
  replace k2 := k2.far (p := ⟨G3, 0, none⟩) e03 (.int .i64 ((L : Int) - 1))
  replace k3 := k3.far (p := ⟨G3, 0, none⟩) e13 (.int .i64 ((L : Int) - 1))
  replace k4 := k4.far (p := ⟨G3, 0, none⟩) e23 (.int .i64 ((L : Int) - 1))
  replace k5 := k5.set_ 0 (.int .i64 ((L : Int) - 1))
  replace hB := hB.setCell (p := ⟨G3, 0, none⟩) l3 (.int .i64 ((L : Int) - 1))
  have x2 := k2.cell
  have x3 := k3.cell
  have x5 := k5.cell
  go_wp2_with fail
  refine (near_any A1 c1 b.r want.r _ (hp.r.grows hB).sps (by omega) hwr).mono ?_
  generalize hnpr : nearF b.r want.r = pr at *
  have HNpr := Lib.hid hnpr
  clear hnpr
  rintro e w7 ⟨rfl, hq⟩
  replace hB := below_grows hB (Nat.le_refl _) hq
  replace k2 := k2.grows hq
  replace k3 := k3.grows hq
  replace k4 := k4.grows hq
  replace k5 := k5.grows hq
  clear hq x2 x3 x5
  have hf5 := k5.frozen
  have y5 := k5.cell
  replace k2 := k2.far (p := ⟨G3, 1, none⟩) e03 (.int .i64 pr.1)
  replace k3 := k3.far (p := ⟨G3, 1, none⟩) e13 (.int .i64 pr.1)
  replace k4 := k4.far (p := ⟨G3, 1, none⟩) e23 (.int .i64 pr.1)
  replace k5 := k5.set_ 1 (.int .i64 pr.1)
  replace hB := hB.setCell (p := ⟨G3, 1, none⟩) l3 (.int .i64 pr.1)
  have x2 := k2.cell
  have x3 := k3.cell
  have x5 := k5.cell
  go_wp2_with fail
  refine (near_any A3 c3 b.s want.s _ (hp.s.grows hB).sps (by omega) hws).mono ?_
  generalize hnps : nearF b.s want.s = ps at *
  have HNps := Lib.hid hnps
  clear hnps
  rintro e w8 ⟨rfl, hq⟩
  replace hB := below_grows hB (Nat.le_refl _) hq
  replace k2 := k2.grows hq
  replace k3 := k3.grows hq
  replace k4 := k4.grows hq
  replace k5 := k5.grows hq
  clear hq x2 x3 x5 hf5 y5
  have hf5 := k5.frozen
  have y5 := k5.cell
  replace k2 := k2.far (p := ⟨G3, 3, none⟩) e03 (.int .i64 ps.1)
  replace k3 := k3.far (p := ⟨G3, 3, none⟩) e13 (.int .i64 ps.1)
  replace k4 := k4.far (p := ⟨G3, 3, none⟩) e23 (.int .i64 ps.1)
  replace k5 := k5.set_ 3 (.int .i64 ps.1)
  replace hB := hB.setCell (p := ⟨G3, 3, none⟩) l3 (.int .i64 ps.1)
  have x2 := k2.cell
  have x3 := k3.cell
  have x5 := k5.cell
  go_wp2_with fail
  refine (minfunc_any k3 (iw.grows hB) (hp.m.grows hB) hm0 hlm hwm HLM.out).mono ?_
  generalize hnm : minUp want.m b.m b.m.length = mm at *
  have HNM := Lib.hid hnm
  clear hnm
  rintro e w9 ⟨⟨B, cx, rfl, hcx, hix, hml⟩, hq⟩
  replace hB := below_grows hB (Nat.le_refl _) hq
  replace k2 := k2.grows hq
  replace k3 := k3.grows hq
  replace k4 := k4.grows hq
  replace k5 := k5.grows hq
  replace hix := hix.grows hq
  clear hq x2 x3 x5 hf5 y5
  have hlo := k5.lt
  go_wp2_with fail
  refine (iclone_any B cx mm _ hix.ints hml).mono ?_
  have hlo2 : w.heap.size ≤ w9.heap.size := hB.size
  have hg9 : ∀ u : World, Grows w9 u → Grows w9 u := fun _ h => h
  clear hg9
  rintro e w10 ⟨⟨v, rfl, hov⟩, hq⟩
  replace hB := below_grows hB (Nat.le_refl _) hq
  replace k2 := k2.grows hq
  replace k3 := k3.grows hq
  replace k4 := k4.grows hq
  replace k5 := k5.grows hq
  clear hq hix hcx
  obtain ⟨B2, cy, rfl, hcy, hiy⟩ := InB.of_own hov
  clear hov
  have hf5 := k5.frozen
  have y5 := k5.cell
  replace hiy := RdB.grown hiy (d_only_set (World.grownBy.refl _ (some G3)) 2 (.slice B2 mm.length cy)) (fun g e => by injection e with e; unfold Ge; omega)
  replace k2 := k2.far (p := ⟨G3, 2, none⟩) e03 (.slice B2 mm.length cy)
  replace k3 := k3.far (p := ⟨G3, 2, none⟩) e13 (.slice B2 mm.length cy)
  replace k4 := k4.far (p := ⟨G3, 2, none⟩) e23 (.slice B2 mm.length cy)
  replace k5 := k5.set_ 2 (.slice B2 mm.length cy)
  replace hB := hB.setCell (p := ⟨G3, 2, none⟩) l3 (.slice B2 mm.length cy)
  have x5 := k5.cell
  have x4 := k4.cell
  have hf4 := k4.frozen
  have y4 := ((((k4.set_ 0 (.int .i64 ((L : Int) - 1))).set_ 1 (.int .i64 pr.1)).set_ 2 (.slice B2 mm.length cy)).set_ 3 (.int .i64 ps.1))
  have yB := ((((hB.setCell (p := ⟨G2, 0, none⟩) l2 (.int .i64 ((L : Int) - 1))).setCell (p := ⟨G2, 1, none⟩) l2 (.int .i64 pr.1)).setCell (p := ⟨G2, 2, none⟩) l2 (.slice B2 mm.length cy)).setCell (p := ⟨G2, 3, none⟩) l2 (.int .i64 ps.1))
  have yI := RdB.mono (RdB.grown hiy (d_only_set (d_only_set (d_only_set (d_only_set (World.grownBy.refl _ (some G2)) 0 (.int .i64 ((L : Int) - 1))) 1 (.int .i64 pr.1)) 2 (.slice B2 mm.length cy)) 3 (.int .i64 ps.1)) (fun g e => by injection e with e; unfold Ge; omega)) (fun k hk => Nat.le_trans hlo2 hk)
  have HE : Hid (topP want b = ⟨((L : Int) - 1), pr.1, mm, ps.1⟩) := Lib.hid (by unfold topP; rw [HK.out, HNpr.out, HNps.out, HNM.out])
  have y6 := y4.cell
  clear k2 k3 k4 k5 hiy
  go_wp2
  refine bodyPost_ret (v := .agg #[.int .i64 ((L : Int) - 1), .int .i64 pr.1, .slice B2 mm.length cy, .int .i64 ps.1]) (by simp [results, Tryz.results39, go_sem, y6]) rfl ⟨?_, yB⟩
  rw [HE.out]
  exact ⟨_, rfl, B2, cy, rfl, hcy, yI⟩
 ·have HK : Hid (topK want.k b.k = want.k) := Lib.hid (by unfold topK; rw [hv]; rfl)
  clear hv
  rintro e w5 ⟨rfl, hq⟩
  replace hB := below_grows hB (Nat.le_refl _) hq
  replace k2 := k2.grows hq
  replace k3 := k3.grows hq
  replace k4 := k4.grows hq
  replace k5 := k5.grows hq
  clear hq x2 x5
  have x2 := k2.cell
  have x3 := k3.cell
  have x5 := k5.cell
  go_wp2_with fail
  refine (near_any A1 c1 b.r want.r _ (hp.r.grows hB).sps (by omega) hwr).mono ?_
  generalize hnpr : nearF b.r want.r = pr at *
  have HNpr := Lib.hid hnpr
  clear hnpr
  rintro e w7 ⟨rfl, hq⟩
  replace hB := below_grows hB (Nat.le_refl _) hq
  replace k2 := k2.grows hq
  replace k3 := k3.grows hq
  replace k4 := k4.grows hq
  replace k5 := k5.grows hq
  clear hq x2 x3 x5
  have hf5 := k5.frozen
  have y5 := k5.cell
  replace k2 := k2.far (p := ⟨G3, 1, none⟩) e03 (.int .i64 pr.1)
  replace k3 := k3.far (p := ⟨G3, 1, none⟩) e13 (.int .i64 pr.1)
  replace k4 := k4.far (p := ⟨G3, 1, none⟩) e23 (.int .i64 pr.1)
  replace k5 := k5.set_ 1 (.int .i64 pr.1)
  replace hB := hB.setCell (p := ⟨G3, 1, none⟩) l3 (.int .i64 pr.1)
  have x2 := k2.cell
  have x3 := k3.cell
  have x5 := k5.cell
  go_wp2_with fail
  refine (near_any A3 c3 b.s want.s _ (hp.s.grows hB).sps (by omega) hws).mono ?_
  generalize hnps : nearF b.s want.s = ps at *
  have HNps := Lib.hid hnps
  clear hnps
  rintro e w8 ⟨rfl, hq⟩
  replace hB := below_grows hB (Nat.le_refl _) hq
  replace k2 := k2.grows hq
  replace k3 := k3.grows hq
  replace k4 := k4.grows hq
  replace k5 := k5.grows hq
  clear hq x2 x3 x5 hf5 y5
  have hf5 := k5.frozen
  have y5 := k5.cell
  replace k2 := k2.far (p := ⟨G3, 3, none⟩) e03 (.int .i64 ps.1)
  replace k3 := k3.far (p := ⟨G3, 3, none⟩) e13 (.int .i64 ps.1)
  replace k4 := k4.far (p := ⟨G3, 3, none⟩) e23 (.int .i64 ps.1)
  replace k5 := k5.set_ 3 (.int .i64 ps.1)
  replace hB := hB.setCell (p := ⟨G3, 3, none⟩) l3 (.int .i64 ps.1)
  have x2 := k2.cell
  have x3 := k3.cell
  have x5 := k5.cell
  go_wp2_with fail
  refine (minfunc_any k3 (iw.grows hB) (hp.m.grows hB) hm0 hlm hwm HLM.out).mono ?_
  generalize hnm : minUp want.m b.m b.m.length = mm at *
  have HNM := Lib.hid hnm
  clear hnm
  rintro e w9 ⟨⟨B, cx, rfl, hcx, hix, hml⟩, hq⟩
  replace hB := below_grows hB (Nat.le_refl _) hq
  replace k2 := k2.grows hq
  replace k3 := k3.grows hq
  replace k4 := k4.grows hq
  replace k5 := k5.grows hq
  replace hix := hix.grows hq
  clear hq x2 x3 x5 hf5 y5
  have hlo := k5.lt
  go_wp2_with fail
  refine (iclone_any B cx mm _ hix.ints hml).mono ?_
  have hlo2 : w.heap.size ≤ w9.heap.size := hB.size
  have hg9 : ∀ u : World, Grows w9 u → Grows w9 u := fun _ h => h
  clear hg9
  rintro e w10 ⟨⟨v, rfl, hov⟩, hq⟩
  replace hB := below_grows hB (Nat.le_refl _) hq
  replace k2 := k2.grows hq
  replace k3 := k3.grows hq
  replace k4 := k4.grows hq
  replace k5 := k5.grows hq
  clear hq hix hcx
  obtain ⟨B2, cy, rfl, hcy, hiy⟩ := InB.of_own hov
  clear hov
  have hf5 := k5.frozen
  have y5 := k5.cell
  replace hiy := RdB.grown hiy (d_only_set (World.grownBy.refl _ (some G3)) 2 (.slice B2 mm.length cy)) (fun g e => by injection e with e; unfold Ge; omega)
  replace k2 := k2.far (p := ⟨G3, 2, none⟩) e03 (.slice B2 mm.length cy)
  replace k3 := k3.far (p := ⟨G3, 2, none⟩) e13 (.slice B2 mm.length cy)
  replace k4 := k4.far (p := ⟨G3, 2, none⟩) e23 (.slice B2 mm.length cy)
  replace k5 := k5.set_ 2 (.slice B2 mm.length cy)
  replace hB := hB.setCell (p := ⟨G3, 2, none⟩) l3 (.slice B2 mm.length cy)
  have x5 := k5.cell
  have x4 := k4.cell
  have hf4 := k4.frozen
  have y4 := ((((k4.set_ 0 (.int .i64 want.k)).set_ 1 (.int .i64 pr.1)).set_ 2 (.slice B2 mm.length cy)).set_ 3 (.int .i64 ps.1))
  have yB := ((((hB.setCell (p := ⟨G2, 0, none⟩) l2 (.int .i64 want.k)).setCell (p := ⟨G2, 1, none⟩) l2 (.int .i64 pr.1)).setCell (p := ⟨G2, 2, none⟩) l2 (.slice B2 mm.length cy)).setCell (p := ⟨G2, 3, none⟩) l2 (.int .i64 ps.1))
  have yI := RdB.mono (RdB.grown hiy (d_only_set (d_only_set (d_only_set (d_only_set (World.grownBy.refl _ (some G2)) 0 (.int .i64 want.k)) 1 (.int .i64 pr.1)) 2 (.slice B2 mm.length cy)) 3 (.int .i64 ps.1)) (fun g e => by injection e with e; unfold Ge; omega)) (fun k hk => Nat.le_trans hlo2 hk)
  have HE : Hid (topP want b = ⟨want.k, pr.1, mm, ps.1⟩) := Lib.hid (by unfold topP; rw [HK.out, HNpr.out, HNps.out, HNM.out])
  have y6 := y4.cell
  clear k2 k3 k4 k5 hiy
  go_wp2
  refine bodyPost_ret (v := .agg #[.int .i64 want.k, .int .i64 pr.1, .slice B2 mm.length cy, .int .i64 ps.1]) (by simp [results, Tryz.results39, go_sem, y6]) rfl ⟨?_, yB⟩
  rw [HE.out]
  exact ⟨_, rfl, B2, cy, rfl, hcy, yI⟩
end Go.Proofs.YtnbdpnlepcjmmaaGreat

namespace Go.Proofs.YtnbdpnlepcjmmaaGreat
open Go.RowKit
theorem near_i64 (l : List Sp) (n : Int) : I64 (nearF l n).1 := by
 have := near_bd n (spansF l) (spansF_fine l)
 unfold I64 nearF
 omega
theorem minUp_len (want : List Int) (ms : List (List Int)) (h : ∀ x ∈ ms, x.length ≤ 1000000) (n : Nat) : (minUp want ms n).length ≤ 1000000 := by
 have hg : ∀ k, (ms.getD k []).length ≤ 1000000 := fun k => by
  rw [List.getD_eq_getElem?_getD]
  cases e : ms[k]? with
  | none => simp
  | some x => exact h x (List.mem_of_getElem? e)
 induction n with
 | zero => simp [minUp]
 | succ n ih =>
  unfold minUp
  split
  ·exact hg n
  ·exact ih
theorem okc_bestR {want : Ch} {b : Bx} (h : OKB b) : OKC (bestR want b) := ⟨near_i64 _ _, near_i64 _ _, minUp_len _ _ h.2.2.2 _⟩
theorem okc_topP {want : Ch} {b : Bx} (h : OKB b) : OKC (topP want b) := ⟨near_i64 _ _, near_i64 _ _, minUp_len _ _ h.2.2.2 _⟩
def zeroC : Ch := ⟨0, 0, [], 0⟩
theorem okc_zero : OKC zeroC := ⟨by unfold I64 zeroC; decide, by unfold I64 zeroC; decide, by simp [zeroC]⟩
def bestStep (f : Bx → Ch) (want : Ch) (s : Ch × Bool) (b : Bx) : Ch × Bool := if s.2 = false ∨ cmpF want (f b) s.1 < 0 then (f b, true) else s
def bestL (f : Bx → Ch) (want : Ch) (l : List Bx) : Ch × Bool := (boxesF l).foldl (bestStep f want) (zeroC, false)
theorem boxes_ok {l : List Bx} (h : ∀ b ∈ l, OKB b) : ∀ b ∈ boxesF l, OKB b := by
 unfold boxesF
 split
 ·exact h
 ·simp
theorem boxes_mem {l : List Bx} {b : Bx} (h : b ∈ boxesF l) : b ∈ l ∧ fineB b = true := by
 unfold boxesF at h
 split at h
 ·rename_i hv
  refine ⟨h, ?_⟩
  unfold validL at hv
  simp only [Bool.and_eq_true, List.all_eq_true] at hv
  exact hv.2 b h
 ·simp at h
theorem boxes_len (l : List Bx) : (boxesF l).length ≤ 64 := by
 unfold boxesF
 split
 ·rename_i hv
  unfold validL at hv
  simp only [Bool.and_eq_true, decide_eq_true_eq] at hv
  exact hv.1
 ·simp
set_option maxHeartbeats 16000000 in
theorem rbestl_any {base : Nat → Prop} {A I : Option Addr} {c ci : Nat} {l : List Bx} {want : Ch} {w : World} (h : Bxs w base A l) (hl : l.length ≤ 1000000) (hc : l.length ≤ c) (ho : ∀ b ∈ l, OKB b) (iw : Ints w I want.m) (hw : OKC want) :
 Calls Tryz.prog 14 #[.slice A l.length c, .agg #[.int .i64 want.k, .int .i64 want.r, .slice I want.m.length ci, .int .i64 want.s]] w fun e w' => (∃ v, e = .returned (.tuple #[v, .bool (bestL (bestR want) want l).2]) ∧ ChV w' (Bd base w.heap.size) (bestL (bestR want) want l).1 v) ∧ Grows w w' := by
 have HO := Lib.hid ho
 clear ho
 have k3 := (((Blk.new w 27 #[.int .i64 want.k, .int .i64 want.r, .slice I want.m.length ci, .int .i64 want.s]).alloc (Obj.cells #[.int .i64 0, .int .i64 0, .slice none 0 0, .int .i64 0] 27)).alloc (Obj.cells #[.int .i64 0, .int .i64 0, .slice none 0 0, .int .i64 0] 27))
 have k4 := ((Blk.new (w.alloc (Obj.cells #[.int .i64 want.k, .int .i64 want.r, .slice I want.m.length ci, .int .i64 want.s] 27)) 27 #[.int .i64 0, .int .i64 0, .slice none 0 0, .int .i64 0]).alloc (Obj.cells #[.int .i64 0, .int .i64 0, .slice none 0 0, .int .i64 0] 27))
 have k6 := (Blk.new ((w.alloc (Obj.cells #[.int .i64 want.k, .int .i64 want.r, .slice I want.m.length ci, .int .i64 want.s] 27)).alloc (Obj.cells #[.int .i64 0, .int .i64 0, .slice none 0 0, .int .i64 0] 27)) 27 #[.int .i64 0, .int .i64 0, .slice none 0 0, .int .i64 0])
 have hB := ((((Below.refl w.heap.size w).alloc (Nat.le_refl _) (Obj.cells #[.int .i64 want.k, .int .i64 want.r, .slice I want.m.length ci, .int .i64 want.s] 27)).alloc (by simp) (Obj.cells #[.int .i64 0, .int .i64 0, .slice none 0 0, .int .i64 0] 27)).alloc (by simp; omega) (Obj.cells #[.int .i64 0, .int .i64 0, .slice none 0 0, .int .i64 0] 27))
 go_enter Tryz.func14, Tryz.ntmps14
 go_upto_region 3 with fail
 have hs1 : (w.alloc (Obj.cells #[.int .i64 want.k, .int .i64 want.r, .slice I want.m.length ci, .int .i64 want.s] 27)).heap.size = w.heap.size + 1 := by simp
 rw [hs1] at k4
 have hs2 : ((w.alloc (Obj.cells #[.int .i64 want.k, .int .i64 want.r, .slice I want.m.length ci, .int .i64 want.s] 27)).alloc (Obj.cells #[.int .i64 0, .int .i64 0, .slice none 0 0, .int .i64 0] 27)).heap.size = w.heap.size + 1 + 1 := by simp
 rw [hs2] at k6
 clear hs1 hs2
 generalize World.alloc (World.alloc (World.alloc w _) _) _ = w3 at *
 generalize hG1 : w.heap.size + 1 = G1 at *
 have HG1 := Lib.hid hG1
 clear hG1
 generalize hG2 : G1 + 1 = G2 at *
 have HG2 := Lib.hid hG2
 clear hG2
 have l1 : w.heap.size ≤ G1 := by have h1 := HG1.out; omega
 have l2 : w.heap.size ≤ G2 := by have h1 := HG1.out; have h2 := HG2.out; omega
 have e02 : w.heap.size ≠ G2 := by have h1 := HG1.out; have h2 := HG2.out; omega
 have e12 : G1 ≠ G2 := by have h2 := HG2.out; omega
 have e12l : G1 < G2 := by have h2 := HG2.out; omega
 go_wp2_with fail
 refine (rlist_any A c (Bd base w.heap.size) l _ (h.bd.grows hB) hl HO.out hc).mono ?_
 have HBL : Hid (bestL (bestR want) want l = (boxesF l).foldl (bestStep (bestR want) want) (zeroC, false)) := Lib.hid rfl
 have HOB := Lib.hid (boxes_ok HO.out)
 have HMB : Hid (∀ b ∈ boxesF l, b ∈ boxesF l) := Lib.hid fun _ h => h
 have hbl := boxes_len l
 generalize hls : boxesF l = bl at *
 have HLS := Lib.hid hls
 clear hls
 rintro e w4 ⟨⟨A4, c4, rfl, hc4, hbx3⟩, hq⟩
 have hbx := Bxs.backU hbx3 (fun _ h => h.2) hB (Nat.le_refl _)
 replace hB := below_grows hB (Nat.le_refl _) hq
 replace k3 := k3.grows hq
 replace k4 := k4.grows hq
 replace k6 := k6.grows hq
 clear hbx3 hq
 have HB4 := Lib.hid hB
 clear hB
 go_wp2_with fail
 go_loopw [7, 14] (fun q i wr => ∃ (n : Nat) (sc : Ch) (sb : Bool) (B : Option Addr) (cx : Nat), n ≤ bl.length ∧ i = .int .i64 n ∧ q = .bool sb ∧ Hid ((bl.take n).foldl (bestStep (bestR want) want) (zeroC, false) = (sc, sb)) ∧ Hid (OKC sc) ∧ sc.m.length ≤ cx ∧ InB w (Bd base w.heap.size) B sc.m ∧ Blk wr w.heap.size 27 #[.int .i64 want.k, .int .i64 want.r, .slice I want.m.length ci, .int .i64 want.s] ∧ Blk wr G1 27 #[.int .i64 0, .int .i64 0, .slice none 0 0, .int .i64 0] ∧ Blk wr G2 27 #[.int .i64 sc.k, .int .i64 sc.r, .slice B sc.m.length cx, .int .i64 sc.s] ∧ Below w.heap.size w wr) (fun _ i _ => bl.length - (intOf i).toNat)
 case atStart => exact ⟨0, zeroC, false, none, 0, by omega, rfl, rfl, Lib.hid rfl, Lib.hid okc_zero, by simp [zeroC], RdB.nil, k3, k4, k6, HB4.out⟩
 case round =>
  clear k3 k4 k6
  obtain ⟨n, sc, sb, B, cx, hn, rfl, rfl, HF, HSC, hcx, hix, k3, k4, k6, hB⟩ := hrel
  by_cases hlt : n < bl.length
  ·obtain ⟨ad, b, A1, c1, A2, c2, A3, c3, e1, had, hx, hp, q0, q1, q2, q3⟩ := (hbx.grows hB).elem hlt
   subst e1
   have HM := Lib.hid (HMB.out b (List.mem_of_getElem? hx))
   have HOb := Lib.hid (HOB.out b (List.mem_of_getElem? hx))
   have HS : Hid ((bl.take (n + 1)).foldl (bestStep (bestR want) want) (zeroC, false) = bestStep (bestR want) want (sc, sb) b) := Lib.hid (by rw [take_snoc hx, List.foldl_append, HF.out]; rfl)
   clear hx HF
   have k9 := Blk.new wr 48 #[.int .i64 b.k, .slice A1 b.r.length c1, .slice A2 b.m.length c2, .slice A3 b.s.length c3]
   have hq := (Below.refl wr.heap.size wr).alloc (Nat.le_refl _) (Obj.cells #[.int .i64 b.k, .slice A1 b.r.length c1, .slice A2 b.m.length c2, .slice A3 b.s.length c3] 48)
   go_upto_region 6 with fail
   replace hB := below_grows hB (Nat.le_refl _) hq
   replace k3 := k3.grows hq
   replace k4 := k4.grows hq
   replace k6 := k6.grows hq
   replace hp := hp.grows hq
   clear hq q0 q1 q2 q3
   generalize World.alloc wr _ = w5 at *
   generalize wr.heap.size = G9 at *
   have x9 := k9.cell
   have x3 := k3.cell
   have hlt5 := k6.lt
   go_wp2_with fail
   refine (rbest_any hp HOb.out (iw.grows hB) hw).mono ?_
   have HOC : Hid (OKC (bestR want b)) := Lib.hid (okc_bestR HOb.out)
   generalize hcc : bestR want b = cc at *
   have HCC := Lib.hid hcc
   clear hcc
   rintro e w6 ⟨⟨v, rfl, hcv⟩, hq⟩
   replace hB := below_grows hB (Nat.le_refl _) hq
   replace k3 := k3.grows hq
   replace k4 := k4.grows hq
   replace k6 := k6.grows hq
   clear hq x9 x3 k9 hp
   obtain ⟨B2, cy, rfl, hcy, hic⟩ := hcv
   replace hic : InB w (Bd base w.heap.size) B2 cc.m := RdB.backU hic (fun _ h => h.2) hB (Nat.le_refl _)
   have k10 := Blk.new w6 27 #[.int .i64 cc.k, .int .i64 cc.r, .slice B2 cc.m.length cy, .int .i64 cc.s]
   have hq := (Below.refl w6.heap.size w6).alloc (Nat.le_refl _) (Obj.cells #[.int .i64 cc.k, .int .i64 cc.r, .slice B2 cc.m.length cy, .int .i64 cc.s] 27)
   go_upto_region 7 with fail
   replace hB := below_grows hB (Nat.le_refl _) hq
   replace k3 := k3.grows hq
   replace k4 := k4.grows hq
   replace k6 := k6.grows hq
   clear hq
   generalize World.alloc w6 _ = w7 at *
   generalize w6.heap.size = G10 at *
   cases sb
   ·have HE : Hid ((bl.take (n + 1)).foldl (bestStep (bestR want) want) (zeroC, false) = (cc, true)) := Lib.hid (by rw [HS.out]; unfold bestStep; rw [if_pos (.inl rfl), HCC.out])
    clear HS HSC hix hcx
    have xc := k10.cell
    have x6 := k6.cell
    have hf6 := k6.frozen
    have y6 := ((((k6.set_ 0 (.int .i64 cc.k)).set_ 1 (.int .i64 cc.r)).set_ 2 (.slice B2 cc.m.length cy)).set_ 3 (.int .i64 cc.s))
    have yB := ((((hB.setCell (p := ⟨G2, 0, none⟩) l2 (.int .i64 cc.k)).setCell (p := ⟨G2, 1, none⟩) l2 (.int .i64 cc.r)).setCell (p := ⟨G2, 2, none⟩) l2 (.slice B2 cc.m.length cy)).setCell (p := ⟨G2, 3, none⟩) l2 (.int .i64 cc.s))
    have y3 := ((((k3.far (p := ⟨G2, 0, none⟩) e02 (.int .i64 cc.k)).far (p := ⟨G2, 1, none⟩) e02 (.int .i64 cc.r)).far (p := ⟨G2, 2, none⟩) e02 (.slice B2 cc.m.length cy)).far (p := ⟨G2, 3, none⟩) e02 (.int .i64 cc.s))
    have y4 := ((((k4.far (p := ⟨G2, 0, none⟩) e12 (.int .i64 cc.k)).far (p := ⟨G2, 1, none⟩) e12 (.int .i64 cc.r)).far (p := ⟨G2, 2, none⟩) e12 (.slice B2 cc.m.length cy)).far (p := ⟨G2, 3, none⟩) e12 (.int .i64 cc.s))
    go_wp2
    go_roundw
    case rel => exact ⟨n + 1, cc, true, B2, cy, by omega, by go_num, rfl, HE, HOC, hcy, hic, y3, y4, y6, yB⟩
    case measure => simp [intOf]; omega
   have x3 := k3.cell
   have xc := k10.cell
   have x6 := k6.cell
   go_wp2_with fail
   refine (rcompare_any I B2 B ci cy cx want cc sc _ (iw.grows hB) (hic.grows hB).ints (hix.grows hB).ints hw HOC.out HSC.out).mono ?_
   by_cases h1 : cmpF want cc sc < 0
   ·have HE : Hid ((bl.take (n + 1)).foldl (bestStep (bestR want) want) (zeroC, false) = (cc, true)) := Lib.hid (by rw [HS.out]; unfold bestStep; rw [HCC.out, if_pos (.inr h1)])
    have d3 : decide (cmpF want cc sc < 0) = true := by simpa using h1
    clear h1 HS HSC hcx
    generalize cmpF want cc sc = z at *
    rintro e w8 ⟨rfl, hq⟩
    replace hB := below_grows hB (Nat.le_refl _) hq
    replace k3 := k3.grows hq
    replace k4 := k4.grows hq
    replace k6 := k6.grows hq
    replace k10 := k10.grows hq
    clear hq x3 xc x6 hix
    have xc := k10.cell
    have x6 := k6.cell
    have hf6 := k6.frozen
    have y6 := ((((k6.set_ 0 (.int .i64 cc.k)).set_ 1 (.int .i64 cc.r)).set_ 2 (.slice B2 cc.m.length cy)).set_ 3 (.int .i64 cc.s))
    have yB := ((((hB.setCell (p := ⟨G2, 0, none⟩) l2 (.int .i64 cc.k)).setCell (p := ⟨G2, 1, none⟩) l2 (.int .i64 cc.r)).setCell (p := ⟨G2, 2, none⟩) l2 (.slice B2 cc.m.length cy)).setCell (p := ⟨G2, 3, none⟩) l2 (.int .i64 cc.s))
    have y3 := ((((k3.far (p := ⟨G2, 0, none⟩) e02 (.int .i64 cc.k)).far (p := ⟨G2, 1, none⟩) e02 (.int .i64 cc.r)).far (p := ⟨G2, 2, none⟩) e02 (.slice B2 cc.m.length cy)).far (p := ⟨G2, 3, none⟩) e02 (.int .i64 cc.s))
    have y4 := ((((k4.far (p := ⟨G2, 0, none⟩) e12 (.int .i64 cc.k)).far (p := ⟨G2, 1, none⟩) e12 (.int .i64 cc.r)).far (p := ⟨G2, 2, none⟩) e12 (.slice B2 cc.m.length cy)).far (p := ⟨G2, 3, none⟩) e12 (.int .i64 cc.s))
    go_wp2
    go_roundw
    case rel => exact ⟨n + 1, cc, true, B2, cy, by omega, by go_num, rfl, HE, HOC, hcy, hic, y3, y4, y6, yB⟩
    case measure => simp [intOf]; omega
   ·have HE : Hid ((bl.take (n + 1)).foldl (bestStep (bestR want) want) (zeroC, false) = (sc, true)) := Lib.hid (by rw [HS.out]; unfold bestStep; rw [HCC.out, if_neg (fun h => h.elim (by simp) h1)])
    have d3 : decide (cmpF want cc sc < 0) = false := by simpa using h1
    clear h1 HS
    generalize cmpF want cc sc = z at *
    rintro e w8 ⟨rfl, hq⟩
    replace hB := below_grows hB (Nat.le_refl _) hq
    replace k3 := k3.grows hq
    replace k4 := k4.grows hq
    replace k6 := k6.grows hq
    clear hq x3 xc x6
    go_wp2
    go_roundw
    case rel => exact ⟨n + 1, sc, true, B, cx, by omega, by go_num, rfl, HE, HSC, hcx, hix, k3, k4, k6, hB⟩
    case measure => simp [intOf]; omega
  ·obtain rfl : n = bl.length := by omega
   have HE : Hid (bestL (bestR want) want l = (sc, sb)) := Lib.hid (by rw [HBL.out]; have := HF.out; rwa [List.take_length] at this)
   have x6 := k6.cell
   have x4 := k4.cell
   have hf4 := k4.frozen
   have y4 := ((((k4.set_ 0 (.int .i64 sc.k)).set_ 1 (.int .i64 sc.r)).set_ 2 (.slice B sc.m.length cx)).set_ 3 (.int .i64 sc.s))
   have yB := ((((hB.setCell (p := ⟨G1, 0, none⟩) l1 (.int .i64 sc.k)).setCell (p := ⟨G1, 1, none⟩) l1 (.int .i64 sc.r)).setCell (p := ⟨G1, 2, none⟩) l1 (.slice B sc.m.length cx)).setCell (p := ⟨G1, 3, none⟩) l1 (.int .i64 sc.s))
   have yI : InB _ (Bd base w.heap.size) B sc.m := hix.grows yB
   have y6 := y4.cell
   clear k3 k4 k6
   go_wp2
   refine bodyPost_ret (v := .tuple #[.agg #[.int .i64 sc.k, .int .i64 sc.r, .slice B sc.m.length cx, .int .i64 sc.s], .bool sb]) (by simp [results, Tryz.results14, go_sem, y6]) rfl ⟨?_, yB⟩
   rw [HE.out]
   exact ⟨_, rfl, B, cx, rfl, hcx, yI⟩
set_option maxHeartbeats 16000000 in
theorem pbestl_any {base : Nat → Prop} {A I : Option Addr} {c ci : Nat} {l : List Bx} {want : Ch} {w : World} (h : Bxs w base A l) (hl : l.length ≤ 1000000) (hc : l.length ≤ c) (ho : ∀ b ∈ l, OKB b) (hk : ∀ b ∈ l, I64 b.k) (iw : Ints w I want.m) (hw : OKC want) :
 Calls Tryz.prog 13 #[.slice A l.length c, .agg #[.int .i64 want.k, .int .i64 want.r, .slice I want.m.length ci, .int .i64 want.s]] w fun e w' => (∃ v, e = .returned (.tuple #[v, .bool (bestL (topP want) want l).2]) ∧ ChV w' (Ge w.heap.size) (bestL (topP want) want l).1 v) ∧ Grows w w' := by
 have HO := Lib.hid ho
 clear ho
 have HK := Lib.hid hk
 clear hk
 have k3 := (((Blk.new w 27 #[.int .i64 want.k, .int .i64 want.r, .slice I want.m.length ci, .int .i64 want.s]).alloc (Obj.cells #[.int .i64 0, .int .i64 0, .slice none 0 0, .int .i64 0] 27)).alloc (Obj.cells #[.int .i64 0, .int .i64 0, .slice none 0 0, .int .i64 0] 27))
 have k4 := ((Blk.new (w.alloc (Obj.cells #[.int .i64 want.k, .int .i64 want.r, .slice I want.m.length ci, .int .i64 want.s] 27)) 27 #[.int .i64 0, .int .i64 0, .slice none 0 0, .int .i64 0]).alloc (Obj.cells #[.int .i64 0, .int .i64 0, .slice none 0 0, .int .i64 0] 27))
 have k6 := (Blk.new ((w.alloc (Obj.cells #[.int .i64 want.k, .int .i64 want.r, .slice I want.m.length ci, .int .i64 want.s] 27)).alloc (Obj.cells #[.int .i64 0, .int .i64 0, .slice none 0 0, .int .i64 0] 27)) 27 #[.int .i64 0, .int .i64 0, .slice none 0 0, .int .i64 0])
 have hB := ((((Below.refl w.heap.size w).alloc (Nat.le_refl _) (Obj.cells #[.int .i64 want.k, .int .i64 want.r, .slice I want.m.length ci, .int .i64 want.s] 27)).alloc (by simp) (Obj.cells #[.int .i64 0, .int .i64 0, .slice none 0 0, .int .i64 0] 27)).alloc (by simp; omega) (Obj.cells #[.int .i64 0, .int .i64 0, .slice none 0 0, .int .i64 0] 27))
 go_enter Tryz.func13, Tryz.ntmps13
 go_upto_region 3 with fail
 have hs1 : (w.alloc (Obj.cells #[.int .i64 want.k, .int .i64 want.r, .slice I want.m.length ci, .int .i64 want.s] 27)).heap.size = w.heap.size + 1 := by simp
 rw [hs1] at k4
 have hs2 : ((w.alloc (Obj.cells #[.int .i64 want.k, .int .i64 want.r, .slice I want.m.length ci, .int .i64 want.s] 27)).alloc (Obj.cells #[.int .i64 0, .int .i64 0, .slice none 0 0, .int .i64 0] 27)).heap.size = w.heap.size + 1 + 1 := by simp
 rw [hs2] at k6
 clear hs1 hs2
 generalize World.alloc (World.alloc (World.alloc w _) _) _ = w3 at *
 generalize hG1 : w.heap.size + 1 = G1 at *
 have HG1 := Lib.hid hG1
 clear hG1
 generalize hG2 : G1 + 1 = G2 at *
 have HG2 := Lib.hid hG2
 clear hG2
 have l1 : w.heap.size ≤ G1 := by have h1 := HG1.out; omega
 have l2 : w.heap.size ≤ G2 := by have h1 := HG1.out; have h2 := HG2.out; omega
 have e02 : w.heap.size ≠ G2 := by have h1 := HG1.out; have h2 := HG2.out; omega
 have e12 : G1 ≠ G2 := by have h2 := HG2.out; omega
 have e12l : G1 < G2 := by have h2 := HG2.out; omega
 go_wp2_with fail
 refine (pboxes_any A c (Bd base w.heap.size) l _ (h.bd.grows hB) hl HO.out hc).mono ?_
 have HBL : Hid (bestL (topP want) want l = (boxesF l).foldl (bestStep (topP want) want) (zeroC, false)) := Lib.hid rfl
 have HOB := Lib.hid (boxes_ok HO.out)
 have HMB : Hid (∀ b ∈ boxesF l, b ∈ boxesF l) := Lib.hid fun _ h => h
 have hbl := boxes_len l
 generalize hls : boxesF l = bl at *
 have HLS := Lib.hid hls
 clear hls
 rintro e w4 ⟨⟨A4, c4, rfl, hc4, hbx3⟩, hq⟩
 have hbx := Bxs.backU hbx3 (fun _ h => h.2) hB (Nat.le_refl _)
 replace hB := below_grows hB (Nat.le_refl _) hq
 replace k3 := k3.grows hq
 replace k4 := k4.grows hq
 replace k6 := k6.grows hq
 clear hbx3 hq
 have HB4 := Lib.hid hB
 clear hB
 go_wp2_with fail
 go_loopw [7, 14] (fun q i wr => ∃ (n : Nat) (sc : Ch) (sb : Bool) (B : Option Addr) (cx : Nat), n ≤ bl.length ∧ i = .int .i64 n ∧ q = .bool sb ∧ Hid ((bl.take n).foldl (bestStep (topP want) want) (zeroC, false) = (sc, sb)) ∧ Hid (OKC sc) ∧ sc.m.length ≤ cx ∧ InB wr (Ge (G2 + 1)) B sc.m ∧ Blk wr w.heap.size 27 #[.int .i64 want.k, .int .i64 want.r, .slice I want.m.length ci, .int .i64 want.s] ∧ Blk wr G1 27 #[.int .i64 0, .int .i64 0, .slice none 0 0, .int .i64 0] ∧ Blk wr G2 27 #[.int .i64 sc.k, .int .i64 sc.r, .slice B sc.m.length cx, .int .i64 sc.s] ∧ Below w.heap.size w wr) (fun _ i _ => bl.length - (intOf i).toNat)
 case atStart => exact ⟨0, zeroC, false, none, 0, by omega, rfl, rfl, Lib.hid rfl, Lib.hid okc_zero, by simp [zeroC], RdB.nil, k3, k4, k6, HB4.out⟩
 case round =>
  clear k3 k4 k6
  obtain ⟨n, sc, sb, B, cx, hn, rfl, rfl, HF, HSC, hcx, hix, k3, k4, k6, hB⟩ := hrel
  by_cases hlt : n < bl.length
  ·obtain ⟨ad, b, A1, c1, A2, c2, A3, c3, e1, had, hx, hp, q0, q1, q2, q3⟩ := (hbx.grows hB).elem hlt
   subst e1
   have HM := Lib.hid (HMB.out b (List.mem_of_getElem? hx))
   have HOb := Lib.hid (HOB.out b (List.mem_of_getElem? hx))
   have HS : Hid ((bl.take (n + 1)).foldl (bestStep (topP want) want) (zeroC, false) = bestStep (topP want) want (sc, sb) b) := Lib.hid (by rw [take_snoc hx, List.foldl_append, HF.out]; rfl)
   clear hx HF
   have k9 := Blk.new wr 48 #[.int .i64 b.k, .slice A1 b.r.length c1, .slice A2 b.m.length c2, .slice A3 b.s.length c3]
   have hq := (Below.refl wr.heap.size wr).alloc (Nat.le_refl _) (Obj.cells #[.int .i64 b.k, .slice A1 b.r.length c1, .slice A2 b.m.length c2, .slice A3 b.s.length c3] 48)
   go_upto_region 6 with fail
   replace hB := below_grows hB (Nat.le_refl _) hq
   replace k3 := k3.grows hq
   replace k4 := k4.grows hq
   replace k6 := k6.grows hq
   replace hp := hp.grows hq
   replace hix := hix.grows hq
   clear hq q0 q1 q2 q3
   generalize World.alloc wr _ = w5 at *
   generalize wr.heap.size = G9 at *
   have x9 := k9.cell
   have x3 := k3.cell
   have hlt5 := k6.lt
   go_wp2_with fail
   refine (ptop_any hp HOb.out (HK.out b (boxes_mem (HLS.out.symm ▸ HM.out)).1) (boxes_mem (HLS.out.symm ▸ HM.out)).2 (iw.grows hB) hw).mono ?_
   have HOC : Hid (OKC (topP want b)) := Lib.hid (okc_topP HOb.out)
   generalize hcc : topP want b = cc at *
   have HCC := Lib.hid hcc
   clear hcc
   rintro e w6 ⟨⟨v, rfl, hcv⟩, hq⟩
   replace hB := below_grows hB (Nat.le_refl _) hq
   replace k3 := k3.grows hq
   replace k4 := k4.grows hq
   replace k6 := k6.grows hq
   replace hix := hix.grows hq
   clear hq x9 x3 k9 hp
   obtain ⟨B2, cy, rfl, hcy, hic⟩ := hcv
   replace hic : InB w6 (Ge (G2 + 1)) B2 cc.m := RdB.mono hic (fun k hk => by unfold Ge at *; omega)
   have k10 := Blk.new w6 27 #[.int .i64 cc.k, .int .i64 cc.r, .slice B2 cc.m.length cy, .int .i64 cc.s]
   have hq := (Below.refl w6.heap.size w6).alloc (Nat.le_refl _) (Obj.cells #[.int .i64 cc.k, .int .i64 cc.r, .slice B2 cc.m.length cy, .int .i64 cc.s] 27)
   go_upto_region 7 with fail
   replace hB := below_grows hB (Nat.le_refl _) hq
   replace k3 := k3.grows hq
   replace k4 := k4.grows hq
   replace k6 := k6.grows hq
   replace hix := hix.grows hq
   replace hic := hic.grows hq
   clear hq
   generalize World.alloc w6 _ = w7 at *
   generalize w6.heap.size = G10 at *
   cases sb
   ·have HE : Hid ((bl.take (n + 1)).foldl (bestStep (topP want) want) (zeroC, false) = (cc, true)) := Lib.hid (by rw [HS.out]; unfold bestStep; rw [if_pos (.inl rfl), HCC.out])
    clear HS HSC hix hcx
    have xc := k10.cell
    have x6 := k6.cell
    have hf6 := k6.frozen
    have y6 := ((((k6.set_ 0 (.int .i64 cc.k)).set_ 1 (.int .i64 cc.r)).set_ 2 (.slice B2 cc.m.length cy)).set_ 3 (.int .i64 cc.s))
    have yB := ((((hB.setCell (p := ⟨G2, 0, none⟩) l2 (.int .i64 cc.k)).setCell (p := ⟨G2, 1, none⟩) l2 (.int .i64 cc.r)).setCell (p := ⟨G2, 2, none⟩) l2 (.slice B2 cc.m.length cy)).setCell (p := ⟨G2, 3, none⟩) l2 (.int .i64 cc.s))
    have y3 := ((((k3.far (p := ⟨G2, 0, none⟩) e02 (.int .i64 cc.k)).far (p := ⟨G2, 1, none⟩) e02 (.int .i64 cc.r)).far (p := ⟨G2, 2, none⟩) e02 (.slice B2 cc.m.length cy)).far (p := ⟨G2, 3, none⟩) e02 (.int .i64 cc.s))
    have y4 := ((((k4.far (p := ⟨G2, 0, none⟩) e12 (.int .i64 cc.k)).far (p := ⟨G2, 1, none⟩) e12 (.int .i64 cc.r)).far (p := ⟨G2, 2, none⟩) e12 (.slice B2 cc.m.length cy)).far (p := ⟨G2, 3, none⟩) e12 (.int .i64 cc.s))
    have yI := RdB.grown hic (d_only_set (d_only_set (d_only_set (d_only_set (World.grownBy.refl _ (some G2)) 0 (.int .i64 cc.k)) 1 (.int .i64 cc.r)) 2 (.slice B2 cc.m.length cy)) 3 (.int .i64 cc.s)) (fun g e => by injection e with e; unfold Ge; omega)
    clear hic
    go_wp2
    go_roundw
    case rel => exact ⟨n + 1, cc, true, B2, cy, by omega, by go_num, rfl, HE, HOC, hcy, yI, y3, y4, y6, yB⟩
    case measure => simp [intOf]; omega
   have x3 := k3.cell
   have xc := k10.cell
   have x6 := k6.cell
   go_wp2_with fail
   refine (compare_any I B2 B ci cy cx want cc sc _ (iw.grows hB) hic.ints hix.ints hw HOC.out HSC.out).mono ?_
   by_cases h1 : cmpF want cc sc < 0
   ·have HE : Hid ((bl.take (n + 1)).foldl (bestStep (topP want) want) (zeroC, false) = (cc, true)) := Lib.hid (by rw [HS.out]; unfold bestStep; rw [HCC.out, if_pos (.inr h1)])
    have d3 : decide (cmpF want cc sc < 0) = true := by simpa using h1
    clear h1 HS HSC hcx
    generalize cmpF want cc sc = z at *
    rintro e w8 ⟨rfl, hq⟩
    replace hB := below_grows hB (Nat.le_refl _) hq
    replace k3 := k3.grows hq
    replace k4 := k4.grows hq
    replace k6 := k6.grows hq
    replace k10 := k10.grows hq
    replace hic := hic.grows hq
    clear hq x3 xc x6 hix
    have xc := k10.cell
    have x6 := k6.cell
    have hf6 := k6.frozen
    have y6 := ((((k6.set_ 0 (.int .i64 cc.k)).set_ 1 (.int .i64 cc.r)).set_ 2 (.slice B2 cc.m.length cy)).set_ 3 (.int .i64 cc.s))
    have yB := ((((hB.setCell (p := ⟨G2, 0, none⟩) l2 (.int .i64 cc.k)).setCell (p := ⟨G2, 1, none⟩) l2 (.int .i64 cc.r)).setCell (p := ⟨G2, 2, none⟩) l2 (.slice B2 cc.m.length cy)).setCell (p := ⟨G2, 3, none⟩) l2 (.int .i64 cc.s))
    have y3 := ((((k3.far (p := ⟨G2, 0, none⟩) e02 (.int .i64 cc.k)).far (p := ⟨G2, 1, none⟩) e02 (.int .i64 cc.r)).far (p := ⟨G2, 2, none⟩) e02 (.slice B2 cc.m.length cy)).far (p := ⟨G2, 3, none⟩) e02 (.int .i64 cc.s))
    have y4 := ((((k4.far (p := ⟨G2, 0, none⟩) e12 (.int .i64 cc.k)).far (p := ⟨G2, 1, none⟩) e12 (.int .i64 cc.r)).far (p := ⟨G2, 2, none⟩) e12 (.slice B2 cc.m.length cy)).far (p := ⟨G2, 3, none⟩) e12 (.int .i64 cc.s))
    have yI := RdB.grown hic (d_only_set (d_only_set (d_only_set (d_only_set (World.grownBy.refl _ (some G2)) 0 (.int .i64 cc.k)) 1 (.int .i64 cc.r)) 2 (.slice B2 cc.m.length cy)) 3 (.int .i64 cc.s)) (fun g e => by injection e with e; unfold Ge; omega)
    clear hic
    go_wp2
    go_roundw
    case rel => exact ⟨n + 1, cc, true, B2, cy, by omega, by go_num, rfl, HE, HOC, hcy, yI, y3, y4, y6, yB⟩
    case measure => simp [intOf]; omega
   ·have HE : Hid ((bl.take (n + 1)).foldl (bestStep (topP want) want) (zeroC, false) = (sc, true)) := Lib.hid (by rw [HS.out]; unfold bestStep; rw [HCC.out, if_neg (fun h => h.elim (by simp) h1)])
    have d3 : decide (cmpF want cc sc < 0) = false := by simpa using h1
    clear h1 HS
    generalize cmpF want cc sc = z at *
    rintro e w8 ⟨rfl, hq⟩
    replace hB := below_grows hB (Nat.le_refl _) hq
    replace k3 := k3.grows hq
    replace k4 := k4.grows hq
    replace k6 := k6.grows hq
    replace hix := hix.grows hq
    clear hq x3 xc x6
    go_wp2
    go_roundw
    case rel => exact ⟨n + 1, sc, true, B, cx, by omega, by go_num, rfl, HE, HSC, hcx, hix, k3, k4, k6, hB⟩
    case measure => simp [intOf]; omega
  ·obtain rfl : n = bl.length := by omega
   have HE : Hid (bestL (topP want) want l = (sc, sb)) := Lib.hid (by rw [HBL.out]; have := HF.out; rwa [List.take_length] at this)
   have x6 := k6.cell
   have x4 := k4.cell
   have hf4 := k4.frozen
   have y4 := ((((k4.set_ 0 (.int .i64 sc.k)).set_ 1 (.int .i64 sc.r)).set_ 2 (.slice B sc.m.length cx)).set_ 3 (.int .i64 sc.s))
   have yB := ((((hB.setCell (p := ⟨G1, 0, none⟩) l1 (.int .i64 sc.k)).setCell (p := ⟨G1, 1, none⟩) l1 (.int .i64 sc.r)).setCell (p := ⟨G1, 2, none⟩) l1 (.slice B sc.m.length cx)).setCell (p := ⟨G1, 3, none⟩) l1 (.int .i64 sc.s))
   have yI : InB _ (Ge w.heap.size) B sc.m := RdB.mono (RdB.grown hix (d_only_set (d_only_set (d_only_set (d_only_set (World.grownBy.refl _ (some G1)) 0 (.int .i64 sc.k)) 1 (.int .i64 sc.r)) 2 (.slice B sc.m.length cx)) 3 (.int .i64 sc.s)) (fun g e => by injection e with e; unfold Ge; omega)) (fun k hk => by unfold Ge at *; omega)
   have y6 := y4.cell
   clear k3 k4 k6
   go_wp2
   refine bodyPost_ret (v := .tuple #[.agg #[.int .i64 sc.k, .int .i64 sc.r, .slice B sc.m.length cx, .int .i64 sc.s], .bool sb]) (by simp [results, Tryz.results13, go_sem, y6]) rfl ⟨?_, yB⟩
   rw [HE.out]
   exact ⟨_, rfl, B, cx, rfl, hcx, yI⟩
end Go.Proofs.YtnbdpnlepcjmmaaGreat

namespace Go.Proofs.YtnbdpnlepcjmmaaGreat
open Go.RowKit
def inB (b : Bx) (c : Ch) : Bool := kindB b.k c.k && hasF b.r c.r && decide (c.m ∈ b.m) && hasF b.s c.s
def hasL (l : List Bx) (c : Ch) : Bool := (boxesF l).any fun b => inB b c
theorem inB_k {b : Bx} {c : Ch} (h : kindB b.k c.k = false) : inB b c = false := by unfold inB; rw [h]; rfl
theorem inB_r {b : Bx} {c : Ch} (h : hasF b.r c.r = false) : inB b c = false := by unfold inB; rw [h]; simp
theorem inB_m {b : Bx} {c : Ch} (h : c.m ∉ b.m) : inB b c = false := by unfold inB; rw [decide_eq_false h]; simp
theorem inB_s {b : Bx} {c : Ch} (h : hasF b.s c.s = false) : inB b c = false := by unfold inB; rw [h]; simp
theorem inB_yes {b : Bx} {c : Ch} (h1 : kindB b.k c.k = true) (h2 : hasF b.r c.r = true) (h3 : c.m ∈ b.m) (h4 : hasF b.s c.s = true) : inB b c = true := by unfold inB; rw [h1, h2, h4, decide_eq_true h3]; rfl
set_option maxHeartbeats 4000000 in
theorem has1b_any {G : Nat} {base : Nat → Prop} {I A1 A2 A3 : Option Addr} {ci c1 c2 c3 : Nat} {b : Bx} {x : Ch} {w : World} (kc : Blk w G 27 #[.int .i64 x.k, .int .i64 x.r, .slice I x.m.length ci, .int .i64 x.s]) (hp : BoxP w base b A1 c1 A2 c2 A3 c3) (hl : OKB b) (ix : Ints w I x.m) (hxm : x.m.length ≤ 1000000) :
 Calls Tryz.prog 59 #[.agg #[.int .i64 b.k, .slice A1 b.r.length c1, .slice A2 b.m.length c2, .slice A3 b.s.length c3], .pointer (some ⟨G, 0, none⟩)] w fun e w' => e = .returned (.bool (inB b x)) ∧ Grows w w' := by
 obtain ⟨hlr, hls, hlm, hlx⟩ := hl
 have HLM := Lib.hid hlx
 clear hlx
 have k2 := Blk.new w 48 #[.int .i64 b.k, .slice A1 b.r.length c1, .slice A2 b.m.length c2, .slice A3 b.s.length c3]
 have hB := (Below.refl w.heap.size w).alloc (Nat.le_refl _) (Obj.cells #[.int .i64 b.k, .slice A1 b.r.length c1, .slice A2 b.m.length c2, .slice A3 b.s.length c3] 48)
 go_enter Tryz.func59, Tryz.ntmps59
 go_upto_region 1 with fail
 replace kc := kc.grows hB
 generalize World.alloc w _ = w1 at *
 have x1 := kc.cell
 have x2 := k2.cell
 go_wp2_with fail
 refine (pkind_any b.k x.k A1 A2 A3 b.r.length c1 b.m.length c2 b.s.length c3 _).mono ?_
 cases hv : kindB b.k x.k
 ·have HE : Hid (inB b x = false) := Lib.hid (inB_k hv)
  clear hv
  rintro e w2 ⟨rfl, hq⟩
  replace hB := below_grows hB (Nat.le_refl _) hq
  clear hq x1 x2
  go_wp2
  go_ret
  exact ⟨ret_bool HE.out.symm, hB⟩
 have H1 := Lib.hid hv
 clear hv
 rintro e w2 ⟨rfl, hq⟩
 replace hB := below_grows hB (Nat.le_refl _) hq
 replace kc := kc.grows hq
 replace k2 := k2.grows hq
 clear hq x1 x2
 have x1 := kc.cell
 have x2 := k2.cell
 go_wp2_with fail
 refine (has_any A1 c1 b.r x.r _ (hp.r.grows hB).sps (by omega)).mono ?_
 cases hv : hasF b.r x.r
 ·have HE : Hid (inB b x = false) := Lib.hid (inB_r hv)
  clear hv
  rintro e w2 ⟨rfl, hq⟩
  replace hB := below_grows hB (Nat.le_refl _) hq
  clear hq x1 x2
  go_wp2
  go_ret
  exact ⟨ret_bool HE.out.symm, hB⟩
 have H2 := Lib.hid hv
 clear hv
 rintro e w2 ⟨rfl, hq⟩
 replace hB := below_grows hB (Nat.le_refl _) hq
 replace kc := kc.grows hq
 replace k2 := k2.grows hq
 clear hq x1 x2
 have x1 := kc.cell
 have x2 := k2.cell
 go_wp2_with fail
 refine (phas_any A2 I c2 ci b.m x.m _ rfl (hp.m.grows hB) hlm HLM.out (ix.grows hB) hxm).mono ?_
 by_cases hv : x.m ∈ b.m
 case neg =>
  have HE : Hid (inB b x = false) := Lib.hid (inB_m hv)
  rw [decide_eq_false hv]
  clear hv
  rintro e w2 ⟨rfl, hq⟩
  replace hB := below_grows hB (Nat.le_refl _) hq
  clear hq x1 x2
  go_wp2
  go_ret
  exact ⟨ret_bool HE.out.symm, hB⟩
 have H3 := Lib.hid hv
 rw [decide_eq_true hv]
 clear hv
 rintro e w2 ⟨rfl, hq⟩
 replace hB := below_grows hB (Nat.le_refl _) hq
 replace kc := kc.grows hq
 replace k2 := k2.grows hq
 clear hq x1 x2
 have x1 := kc.cell
 have x2 := k2.cell
 go_wp2_with fail
 refine (has_any A3 c3 b.s x.s _ (hp.s.grows hB).sps (by omega)).mono ?_
 cases hv : hasF b.s x.s
 ·have HE : Hid (inB b x = false) := Lib.hid (inB_s hv)
  clear hv
  rintro e w2 ⟨rfl, hq⟩
  replace hB := below_grows hB (Nat.le_refl _) hq
  clear hq x1 x2
  go_wp2
  go_ret
  exact ⟨ret_bool HE.out.symm, hB⟩
 have HE : Hid (inB b x = true) := Lib.hid (inB_yes H1.out H2.out H3.out hv)
 clear hv
 rintro e w2 ⟨rfl, hq⟩
 replace hB := below_grows hB (Nat.le_refl _) hq
 clear hq x1 x2
 go_wp2
 go_ret
 exact ⟨ret_bool HE.out.symm, hB⟩
set_option maxHeartbeats 2000000 in
theorem idx_hasb (G : Nat) {n : Nat} (A : Option Addr) (c : Nat) (base : Nat → Prop) (l : List Bx) (p : Bx → Bool) (w : World) (hn : n = l.length) (h : Bxs w base A l) (hl : l.length ≤ 9223372036854775807)
 (hp : ∀ (x : Bx) (A1 A2 A3 : Option Addr) (c1 c2 c3 : Nat) (w1 : World), x ∈ l → Grows w w1 → BoxP w1 base x A1 c1 A2 c2 A3 c3 → Calls Tryz.prog 59 #[.agg #[.int .i64 x.k, .slice A1 x.r.length c1, .slice A2 x.m.length c2, .slice A3 x.s.length c3], .pointer (some ⟨G, 0, none⟩)] w1 fun e w' => e = .returned (.bool (p x)) ∧ Grows w1 w') :
 Calls Tryz.prog 102 #[.slice A n c, .func (.func 59) #[] #[.pointer (some ⟨G, 0, none⟩)]] w fun e w' => e = .returned (.int .i64 (placeZ (l.findIdx? p))) ∧ Grows w w' := by
 subst hn
 have HP := Lib.hid hp
 clear hp
 go_enter Tryz.func102, Tryz.ntmps102
 go_wp2_with fail
 go_loopw [8] (fun i wr => ∃ k : Nat, k ≤ l.length ∧ i = .int .i64 k ∧ Hid ((l.take k).findIdx? p = none) ∧ Grows w wr) (fun i _ => l.length - (intOf i).toNat)
 case atStart => exact ⟨0, by omega, rfl, Lib.hid rfl, Below.refl _ _⟩
 case round =>
  obtain ⟨k, hk, rfl, hf, hB⟩ := hrel
  by_cases hlt : k < l.length
  ·obtain ⟨ad, x, A1, c1, A2, c2, A3, c3, rfl, had, hx, hpx, q0, q1, q2, q3⟩ := (h.grows hB).elem hlt
   have HX := Lib.hid hx
   clear hx
   go_wp2_with fail
   refine (HP.out x A1 A2 A3 c1 c2 c3 _ (List.mem_of_getElem? HX.out) hB hpx).mono ?_
   rintro e w2 ⟨rfl, hq⟩
   replace hB := below_grows hB (Nat.le_refl _) hq
   clear hq q0 q1 q2 q3 hpx
   cases e : p x
   ·have HE := Lib.hid (idx_upU hf.out HX.out e)
    go_wp2
    go_roundw
    case rel => exact ⟨k + 1, by omega, by go_num, HE, hB⟩
    case measure => simp [intOf]; omega
   ·have HE := Lib.hid (idx_atU hf.out HX.out e)
    go_wp2
    go_ret
    rw [HE.out]
    exact ⟨rfl, hB⟩
  ·have HE : Hid (l.findIdx? p = none) := Lib.hid (by have := hf.out; rwa [List.take_of_length_le (by omega)] at this)
   go_wp2
   go_ret
   rw [HE.out]
   exact ⟨rfl, hB⟩
theorem cont_hasb (G : Nat) {n : Nat} (A : Option Addr) (c : Nat) (base : Nat → Prop) (l : List Bx) (p : Bx → Bool) (w : World) (hn : n = l.length) (h : Bxs w base A l) (hl : l.length ≤ 9223372036854775807)
 (hp : ∀ (x : Bx) (A1 A2 A3 : Option Addr) (c1 c2 c3 : Nat) (w1 : World), x ∈ l → Grows w w1 → BoxP w1 base x A1 c1 A2 c2 A3 c3 → Calls Tryz.prog 59 #[.agg #[.int .i64 x.k, .slice A1 x.r.length c1, .slice A2 x.m.length c2, .slice A3 x.s.length c3], .pointer (some ⟨G, 0, none⟩)] w1 fun e w' => e = .returned (.bool (p x)) ∧ Grows w1 w') :
 Calls Tryz.prog 58 #[.slice A n c, .func (.func 59) #[] #[.pointer (some ⟨G, 0, none⟩)]] w fun e w' => e = .returned (.bool (l.any p)) ∧ Grows w w' := by
 subst hn
 have HP := Lib.hid hp
 clear hp
 rw [← place_anyU]
 go_enter Tryz.func58, Tryz.ntmps58
 go_wp2_with fail
 refine (idx_hasb G A c base l p _ rfl h hl HP.out).mono ?_
 rintro e w2 ⟨rfl, hq⟩
 generalize hz : placeZ (l.findIdx? p) = z
 have HZ := Lib.hid hz
 clear hz
 go_wp2
 go_ret
 rw [HZ.out]
 exact ⟨rfl, hq⟩
theorem phasl_any {base : Nat → Prop} {A I : Option Addr} {c ci : Nat} {l : List Bx} {x : Ch} {w : World} (h : Bxs w base A l) (hl : l.length ≤ 1000000) (hc : l.length ≤ c) (ho : ∀ b ∈ l, OKB b) (ix : Ints w I x.m) (hxm : x.m.length ≤ 1000000) :
 Calls Tryz.prog 22 #[.slice A l.length c, .agg #[.int .i64 x.k, .int .i64 x.r, .slice I x.m.length ci, .int .i64 x.s]] w fun e w' => e = .returned (.bool (hasL l x)) ∧ Grows w w' := by
 have HO := Lib.hid ho
 have HL : Hid (hasL l x = (boxesF l).any fun b => inB b x) := Lib.hid rfl
 clear ho
 have kc := Blk.new w 27 #[.int .i64 x.k, .int .i64 x.r, .slice I x.m.length ci, .int .i64 x.s]
 have hB := (Below.refl w.heap.size w).alloc (Nat.le_refl _) (Obj.cells #[.int .i64 x.k, .int .i64 x.r, .slice I x.m.length ci, .int .i64 x.s] 27)
 go_enter Tryz.func22, Tryz.ntmps22
 go_upto_region 1 with fail
 generalize World.alloc w _ = w1 at *
 go_wp2_with fail
 refine (pboxes_any A c base l _ (h.grows hB) hl HO.out hc).mono ?_
 have HOB := Lib.hid (boxes_ok HO.out)
 have hbl := boxes_len l
 generalize boxesF l = bl at *
 rintro e w4 ⟨⟨A4, c4, rfl, hc4, hbx⟩, hq⟩
 replace hB := below_grows hB (Nat.le_refl _) hq
 replace hbx := hbx.grows hq
 replace kc := kc.grows hq
 clear hq
 go_wp2_with fail
 refine (cont_hasb w.heap.size A4 c4 base bl (fun b => inB b x) _ rfl hbx (by omega) (fun b A1 A2 A3 c1 c2 c3 w2 hb hg hp => has1b_any (kc.grows hg) hp (HOB.out b hb) (ix.grows (below_grows hB (Nat.le_refl _) hg)) hxm)).mono ?_
 rintro e w5 ⟨rfl, hq⟩
 replace hB := below_grows hB (Nat.le_refl _) hq
 go_wp2
 go_ret
 rw [HL.out]
 exact ⟨rfl, hB⟩
def sameC (a b : Ch) : Bool := decide (a.s = b.s) && (decide (a.k = b.k) && decide (a.r = b.r) && decide (a.m = b.m))
theorem sameC_iff (a b : Ch) : sameC a b = decide (a = b) := by
 unfold sameC
 obtain ⟨k, r, m, s⟩ := a
 obtain ⟨k2, r2, m2, s2⟩ := b
 by_cases h1 : k = k2 <;> by_cases h2 : r = r2 <;> by_cases h3 : m = m2 <;> by_cases h4 : s = s2 <;> simp [h1, h2, h3, h4]
set_option maxHeartbeats 2000000 in
theorem samef_any {A B : Option Addr} {c d : Nat} {a b : Ch} {w : World} (ia : Ints w A a.m) (ib : Ints w B b.m) (ha : a.m.length ≤ 1000000) (hb : b.m.length ≤ 1000000) :
 Calls Tryz.prog 42 #[.agg #[.int .i64 a.k, .int .i64 a.r, .slice A a.m.length c], .agg #[.int .i64 b.k, .int .i64 b.r, .slice B b.m.length d]] w fun e w' => e = .returned (.bool (decide (a.k = b.k) && decide (a.r = b.r) && decide (a.m = b.m))) ∧ Grows w w' := by
 have k1 := (Blk.new w 25 #[.int .i64 a.k, .int .i64 a.r, .slice A a.m.length c]).alloc (Obj.cells #[.int .i64 b.k, .int .i64 b.r, .slice B b.m.length d] 25)
 have k2 := Blk.new (w.alloc (Obj.cells #[.int .i64 a.k, .int .i64 a.r, .slice A a.m.length c] 25)) 25 #[.int .i64 b.k, .int .i64 b.r, .slice B b.m.length d]
 have hB := ((Below.refl w.heap.size w).alloc (Nat.le_refl _) (Obj.cells #[.int .i64 a.k, .int .i64 a.r, .slice A a.m.length c] 25)).alloc (by simp) (Obj.cells #[.int .i64 b.k, .int .i64 b.r, .slice B b.m.length d] 25)
 go_enter Tryz.func42, Tryz.ntmps42
 go_upto_region 1 with fail
 have hs1 : (w.alloc (Obj.cells #[.int .i64 a.k, .int .i64 a.r, .slice A a.m.length c] 25)).heap.size = w.heap.size + 1 := by simp
 rw [hs1] at k2
 generalize World.alloc (World.alloc w _) _ = w2 at *
 generalize w.heap.size + 1 = G1 at *
 have x1 := k1.cell
 have x2 := k2.cell
 by_cases h1 : a.k = b.k
 case neg =>
  have HE : Hid ((decide (a.k = b.k) && decide (a.r = b.r) && decide (a.m = b.m)) = false) := Lib.hid (by rw [decide_eq_false h1]; rfl)
  have d1 : (a.k == b.k) = false := by simpa using h1
  clear h1
  go_wp2
  go_ret
  exact ⟨ret_bool HE.out.symm, hB⟩
 have d1 : (a.k == b.k) = true := by simpa using h1
 by_cases h2 : a.r = b.r
 case neg =>
  have HE : Hid ((decide (a.k = b.k) && decide (a.r = b.r) && decide (a.m = b.m)) = false) := Lib.hid (by rw [decide_eq_false h2]; simp)
  have d2 : (a.r == b.r) = false := by simpa using h2
  clear h1 h2
  go_wp2
  go_ret
  exact ⟨ret_bool HE.out.symm, hB⟩
 have d2 : (a.r == b.r) = true := by simpa using h2
 have HE : Hid ((decide (a.k = b.k) && decide (a.r = b.r) && decide (a.m = b.m)) = decide (a.m = b.m)) := Lib.hid (by rw [decide_eq_true h1, decide_eq_true h2]; rfl)
 clear h1 h2
 go_wp2_with fail
 refine (rsame6_any A B c d a.m b.m _ (ia.grows hB) (ib.grows hB) (by omega) (by omega)).mono ?_
 rintro e w3 ⟨rfl, hq⟩
 replace hB := below_grows hB (Nat.le_refl _) hq
 go_wp2
 go_ret
 exact ⟨ret_bool HE.out.symm, hB⟩
theorem samec_any {A B : Option Addr} {c d : Nat} {a b : Ch} {w : World} (ia : Ints w A a.m) (ib : Ints w B b.m) (ha : a.m.length ≤ 1000000) (hb : b.m.length ≤ 1000000) :
 Calls Tryz.prog 15 #[.agg #[.int .i64 a.k, .int .i64 a.r, .slice A a.m.length c, .int .i64 a.s], .agg #[.int .i64 b.k, .int .i64 b.r, .slice B b.m.length d, .int .i64 b.s]] w fun e w' => e = .returned (.bool (decide (a = b))) ∧ Grows w w' := by
 rw [← sameC_iff]
 have k1 := (Blk.new w 27 #[.int .i64 a.k, .int .i64 a.r, .slice A a.m.length c, .int .i64 a.s]).alloc (Obj.cells #[.int .i64 b.k, .int .i64 b.r, .slice B b.m.length d, .int .i64 b.s] 27)
 have k2 := Blk.new (w.alloc (Obj.cells #[.int .i64 a.k, .int .i64 a.r, .slice A a.m.length c, .int .i64 a.s] 27)) 27 #[.int .i64 b.k, .int .i64 b.r, .slice B b.m.length d, .int .i64 b.s]
 have hB := ((Below.refl w.heap.size w).alloc (Nat.le_refl _) (Obj.cells #[.int .i64 a.k, .int .i64 a.r, .slice A a.m.length c, .int .i64 a.s] 27)).alloc (by simp) (Obj.cells #[.int .i64 b.k, .int .i64 b.r, .slice B b.m.length d, .int .i64 b.s] 27)
 go_enter Tryz.func15, Tryz.ntmps15
 go_upto_region 1 with fail
 have hs1 : (w.alloc (Obj.cells #[.int .i64 a.k, .int .i64 a.r, .slice A a.m.length c, .int .i64 a.s] 27)).heap.size = w.heap.size + 1 := by simp
 rw [hs1] at k2
 generalize World.alloc (World.alloc w _) _ = w2 at *
 generalize w.heap.size + 1 = G1 at *
 have x1 := k1.cell
 have x2 := k2.cell
 by_cases h1 : a.s = b.s
 case neg =>
  have HE : Hid (sameC a b = false) := Lib.hid (by unfold sameC; rw [decide_eq_false h1]; rfl)
  have d1 : (a.s == b.s) = false := by simpa using h1
  clear h1
  go_wp2
  go_ret
  exact ⟨ret_bool HE.out.symm, hB⟩
 have d1 : (a.s == b.s) = true := by simpa using h1
 have HE : Hid (sameC a b = (decide (a.k = b.k) && decide (a.r = b.r) && decide (a.m = b.m))) := Lib.hid (by unfold sameC; rw [decide_eq_true h1]; rfl)
 clear h1
 go_wp2_with fail
 refine (samef_any (c := c) (d := d) (ia.grows hB) (ib.grows hB) ha hb).mono ?_
 rintro e w3 ⟨rfl, hq⟩
 replace hB := below_grows hB (Nat.le_refl _) hq
 go_wp2
 go_ret
 exact ⟨ret_bool HE.out.symm, hB⟩
end Go.Proofs.YtnbdpnlepcjmmaaGreat

namespace Go.Proofs.YtnbdpnlepcjmmaaGreat
open Go.RowKit
/-- How many of b's spans meet x. -/
def cutsN (x : Sp) (b : List Sp) : Nat := (b.filter fun y => decide (max x.1 y.1 ≤ min x.2 y.2)).length
def piecesN (a b : List Sp) : Nat := (a.map fun x => cutsN x b).sum
theorem cuts_len (x : Sp) (b : List Sp) : cutsN x b ≤ b.length := List.length_filter_le _ _
theorem cuts_next {x y : Sp} {b : List Sp} {k : Nat} (h : b[k]? = some y) : cutsN x (b.take (k + 1)) = cutsN x (b.take k) + (if max x.1 y.1 ≤ min x.2 y.2 then 1 else 0) := by
 unfold cutsN
 rw [take_snoc h, List.filter_append, List.length_append]
 congr 1
 by_cases h2 : max x.1 y.1 ≤ min x.2 y.2
 ·rw [if_pos h2, List.filter_cons_of_pos (by simpa using h2)]; rfl
 ·rw [if_neg h2, List.filter_cons_of_neg (by simpa using h2)]; rfl
theorem pieces_next {x : Sp} {a b : List Sp} {k : Nat} (h : a[k]? = some x) : piecesN (a.take (k + 1)) b = piecesN (a.take k) b + cutsN x b := by
 unfold piecesN
 rw [take_snoc h]
 simp
theorem pieces_len (a b : List Sp) : piecesN a b ≤ a.length * b.length := by
 unfold piecesN
 induction a with
 | nil => simp
 | cons x a ih =>
  have := cuts_len x b
  simp only [List.map_cons, List.sum_cons, List.length_cons]
  rw [Nat.add_mul]
  omega
theorem pieces_bd (a b : List Sp) (ha : a.length ≤ 1000000) (hb : b.length ≤ 1000000) : piecesN a b ≤ 1000000000000 := Nat.le_trans (pieces_len a b) (Nat.mul_le_mul ha hb)
set_option maxHeartbeats 8000000 in
theorem pieces_any (A B : Option Addr) (c d : Nat) (a b : List Sp) (w : World) (ha : Sps w A a) (hb : Sps w B b) (hl : a.length ≤ 1000000) (hl2 : b.length ≤ 1000000) :
 Calls Tryz.prog 64 #[.agg #[.slice A a.length c], .agg #[.slice B b.length d]] w fun e w' => e = .returned (.int .i64 (piecesN a b : Int)) ∧ Grows w w' := by
 have k2 := (Blk.new w 45 #[.slice A a.length c]).alloc (Obj.cells #[.slice B b.length d] 45)
 have k3 := Blk.new (w.alloc (Obj.cells #[.slice A a.length c] 45)) 45 #[.slice B b.length d]
 have hB := ((Below.refl w.heap.size w).alloc (Nat.le_refl _) (Obj.cells #[.slice A a.length c] 45)).alloc (by simp) (Obj.cells #[.slice B b.length d] 45)
 go_enter Tryz.func64, Tryz.ntmps64
 go_upto_region 2 with fail
 have hs1 : (w.alloc (Obj.cells #[.slice A a.length c] 45)).heap.size = w.heap.size + 1 := by simp
 rw [hs1] at k3
 generalize World.alloc (World.alloc w _) _ = w2 at *
 generalize w.heap.size + 1 = G1 at *
 have x2 := k2.cell 0
 have hB2 := hB
 clear hB
 go_wp2_with fail
 go_loopw [5, 13] (fun n i wr => ∃ (k z : Nat), k ≤ a.length ∧ i = .int .i64 k ∧ n = .int .i64 z ∧ Hid (piecesN (a.take k) b = z) ∧ Blk wr G1 45 #[.slice B b.length d] ∧ Below w.heap.size w wr) (fun _ i _ => a.length - (intOf i).toNat)
 case atStart => exact ⟨0, 0, by omega, rfl, rfl, Lib.hid rfl, k3, hB2⟩
 case round =>
  clear k3 x2 k2
  obtain ⟨k, z, hk, rfl, rfl, HZ, k3, hB⟩ := hrel
  by_cases hlt : k < a.length
  ·obtain ⟨ad, x, rfl, had, hx, q0, q1⟩ := (ha.grows hB).elem hlt
   have HX := Lib.hid (pieces_next (b := b) hx)
   have hzb := pieces_bd (a.take k) b (by rw [List.length_take]; omega) hl2
   rw [HZ.out] at hzb
   clear hx
   have k7 := Blk.new wr 93 #[.int .i64 x.1, .int .i64 x.2]
   have hq := (Below.refl wr.heap.size wr).alloc (Nat.le_refl _) (Obj.cells #[.int .i64 x.1, .int .i64 x.2] 93)
   go_upto_region 5 with fail
   replace hB := below_grows hB (Nat.le_refl _) hq
   replace k3 := k3.grows hq
   have l7 : G1 < wr.heap.size ∨ True := .inr trivial
   clear hq q0 q1 l7
   generalize World.alloc wr _ = w5 at *
   generalize wr.heap.size = G7 at *
   have x3 := k3.cell 0
   have hB5 := hB
   clear hB
   go_wp2_with fail
   go_loopw [5, 20] (fun n i wq => ∃ (j y : Nat), j ≤ b.length ∧ i = .int .i64 j ∧ n = .int .i64 ((z : Int) + (y : Int)) ∧ Hid (cutsN x (b.take j) = y) ∧ Blk wq G7 93 #[.int .i64 x.1, .int .i64 x.2] ∧ Blk wq G1 45 #[.slice B b.length d] ∧ Below w.heap.size w wq) (fun _ i _ => b.length - (intOf i).toNat)
   case atStart => exact ⟨0, 0, by omega, rfl, by simp, Lib.hid rfl, k7, k3, hB5⟩
   case round =>
    clear k7 k3 x3 hB5
    obtain ⟨j, y, hj, rfl, rfl, HY, k7, k3, hB⟩ := hrel
    by_cases hlt2 : j < b.length
    ·obtain ⟨ad2, v, rfl, had2, hv, q2, q3⟩ := (hb.grows hB).elem hlt2
     have HV := Lib.hid (cuts_next (x := x) hv)
     have hyb := cuts_len x (b.take j)
     rw [HY.out, List.length_take] at hyb
     clear hv
     have k9 := Blk.new wr 93 #[.int .i64 v.1, .int .i64 v.2]
     have hq := (Below.refl wr.heap.size wr).alloc (Nat.le_refl _) (Obj.cells #[.int .i64 v.1, .int .i64 v.2] 93)
     go_upto_region 8 with fail
     replace hB := below_grows hB (Nat.le_refl _) hq
     replace k3 := k3.grows hq
     replace k7 := k7.grows hq
     clear hq q2 q3
     generalize World.alloc wr _ = w9 at *
     generalize wr.heap.size = G9 at *
     have x7 := k7.cell
     have x9 := k9.cell
     refine wp_region_lit ?_
     iterate 4
      refine wpList_plain rfl (fun K hK => ?_)
      go_simp
      refine hK _ _ ?_
      clear hK K
     refine wpList_max2 rfl (.tmp 25) (.tmp 27) _ rfl .i64 _ _ rfl rfl ?_
     iterate 4
      refine wpList_plain rfl (fun K hK => ?_)
      go_simp
      refine hK _ _ ?_
      clear hK K
     refine wpList_min2 rfl (.tmp 30) (.tmp 32) _ rfl .i64 _ _ rfl rfl ?_
     generalize max x.1 v.1 = mx at *
     generalize min x.2 v.2 = mn at *
     by_cases hm : mx ≤ mn
     ·have HE : Hid (cutsN x (b.take (j + 1)) = y + 1) := Lib.hid (by rw [HV.out, HY.out, if_pos hm])
      have d1 : decide (mx ≤ mn) = true := by simpa using hm
      have hwz : IntKind.i64.wrap ((z : Int) + (y : Int) + 1) = (z : Int) + (y : Int) + 1 := IntWalk.i64_in _ (by omega)
      clear hm HV
      go_wp2
      go_roundw
      case rel => exact ⟨j + 1, y + 1, by omega, by go_num, congrArg (Value.int .i64) (by omega), HE, k7, k3, hB⟩
      case measure => simp [intOf]; omega
     ·have HE : Hid (cutsN x (b.take (j + 1)) = y) := Lib.hid (by rw [HV.out, HY.out, if_neg hm, Nat.add_zero])
      have d1 : decide (mx ≤ mn) = false := by simpa using hm
      clear hm HV
      go_wp2
      go_roundw
      case rel => exact ⟨j + 1, y, by omega, by go_num, rfl, HE, k7, k3, hB⟩
      case measure => simp [intOf]; omega
    ·have HE : Hid (piecesN (a.take (k + 1)) b = z + y) := Lib.hid (by rw [HX.out, HZ.out]; have := HY.out; rw [List.take_of_length_le (by omega)] at this; rw [this])
     go_wp2
     go_roundw
     case rel => exact ⟨k + 1, z + y, by omega, by go_num, congrArg (Value.int .i64) (by omega), HE, k3, hB⟩
     case measure => simp [intOf]; omega
  ·have HE : Hid (piecesN a b = z) := Lib.hid (by have := HZ.out; rwa [List.take_of_length_le (by omega)] at this)
   go_wp2
   go_ret
   rw [HE.out]
   exact ⟨rfl, hB⟩
set_option maxHeartbeats 2000000 in
theorem idx_meetm (G : Nat) {n : Nat} (A : Option Addr) (c : Nat) (base : Nat → Prop) (l : List (List Int)) (p : List Int → Bool) (w : World) (hn : n = l.length) (h : MapsR w base A l) (hl : l.length ≤ 9223372036854775807)
 (hp : ∀ (x : List Int) (B : Option Addr) (cx : Nat) (w1 : World), x ∈ l → Grows w w1 → InB w1 base B x → x.length ≤ cx → Calls Tryz.prog 94 #[.slice B x.length cx, .pointer (some ⟨G, 0, none⟩)] w1 fun e w' => e = .returned (.bool (p x)) ∧ Grows w1 w') :
 Calls Tryz.prog 126 #[.slice A n c, .func (.func 94) #[] #[.pointer (some ⟨G, 0, none⟩)]] w fun e w' => e = .returned (.int .i64 (placeZ (l.findIdx? p))) ∧ Grows w w' := by
 subst hn
 have HP := Lib.hid hp
 clear hp
 go_enter Tryz.func126, Tryz.ntmps126
 go_wp2_with fail
 go_loopw [8] (fun i wr => ∃ k : Nat, k ≤ l.length ∧ i = .int .i64 k ∧ Hid ((l.take k).findIdx? p = none) ∧ Grows w wr) (fun i _ => l.length - (intOf i).toNat)
 case atStart => exact ⟨0, by omega, rfl, Lib.hid rfl, Below.refl _ _⟩
 case round =>
  obtain ⟨k, hk, rfl, hf, hB⟩ := hrel
  by_cases hlt : k < l.length
  ·obtain ⟨ad, x, B, cx, rfl, had, hx, q0, hcx, hix⟩ := (h.grows hB).elem hlt
   have HX := Lib.hid hx
   clear hx
   go_wp2_with fail
   refine (HP.out x B cx _ (List.mem_of_getElem? HX.out) hB hix hcx).mono ?_
   rintro e w2 ⟨rfl, hq⟩
   replace hB := below_grows hB (Nat.le_refl _) hq
   clear hq q0 hix
   cases e : p x
   ·have HE := Lib.hid (idx_upU hf.out HX.out e)
    go_wp2
    go_roundw
    case rel => exact ⟨k + 1, by omega, by go_num, HE, hB⟩
    case measure => simp [intOf]; omega
   ·have HE := Lib.hid (idx_atU hf.out HX.out e)
    go_wp2
    go_ret
    rw [HE.out]
    exact ⟨rfl, hB⟩
  ·have HE : Hid (l.findIdx? p = none) := Lib.hid (by have := hf.out; rwa [List.take_of_length_le (by omega)] at this)
   go_wp2
   go_ret
   rw [HE.out]
   exact ⟨rfl, hB⟩
theorem cont_meetm (G : Nat) {n : Nat} (A : Option Addr) (c : Nat) (base : Nat → Prop) (l : List (List Int)) (p : List Int → Bool) (w : World) (hn : n = l.length) (h : MapsR w base A l) (hl : l.length ≤ 9223372036854775807)
 (hp : ∀ (x : List Int) (B : Option Addr) (cx : Nat) (w1 : World), x ∈ l → Grows w w1 → InB w1 base B x → x.length ≤ cx → Calls Tryz.prog 94 #[.slice B x.length cx, .pointer (some ⟨G, 0, none⟩)] w1 fun e w' => e = .returned (.bool (p x)) ∧ Grows w1 w') :
 Calls Tryz.prog 93 #[.slice A n c, .func (.func 94) #[] #[.pointer (some ⟨G, 0, none⟩)]] w fun e w' => e = .returned (.bool (l.any p)) ∧ Grows w w' := by
 subst hn
 have HP := Lib.hid hp
 clear hp
 rw [← place_anyU]
 go_enter Tryz.func93, Tryz.ntmps93
 go_wp2_with fail
 refine (idx_meetm G A c base l p _ rfl h hl HP.out).mono ?_
 rintro e w2 ⟨rfl, hq⟩
 generalize hz : placeZ (l.findIdx? p) = z
 have HZ := Lib.hid hz
 clear hz
 go_wp2
 go_ret
 rw [HZ.out]
 exact ⟨rfl, hq⟩
theorem meet1_any {G : Nat} {base : Nat → Prop} {A1 A2 A3 B : Option Addr} {c1 c2 c3 cx : Nat} {b : Bx} {x : List Int} {w : World} (kb : Blk w G 48 #[.int .i64 b.k, .slice A1 b.r.length c1, .slice A2 b.m.length c2, .slice A3 b.s.length c3]) (hm : MapsR w base A2 b.m) (hl : OKB b) (hx : Ints w B x) (hlx : x.length ≤ 1000000) :
 Calls Tryz.prog 94 #[.slice B x.length cx, .pointer (some ⟨G, 0, none⟩)] w fun e w' => e = .returned (.bool (decide (x ∈ b.m))) ∧ Grows w w' := by
 have x1 := kb.cell
 go_enter Tryz.func94, Tryz.ntmps94
 go_wp2_with fail
 refine (phas_any A2 B c2 cx b.m x _ rfl hm hl.2.2.1 hl.2.2.2 hx hlx).mono ?_
 rintro e w1 ⟨rfl, hq⟩
 go_wp2
 go_ret
 exact ⟨rfl, hq⟩
def meetM (a b : Bx) : Bool := a.m.any fun x => decide (x ∈ b.m)
/-- In which dimensions two boxes have something in common. -/
def commonF (a b : Bx) : Int := (if bits .and .i64 a.k b.k = 0 then 0 else 1) + (if piecesN a.r b.r = 0 then 0 else 2) + (if meetM a b = true then 4 else 0) + (if piecesN a.s b.s = 0 then 0 else 8)
set_option maxHeartbeats 32000000 in
theorem common_any {A1 A2 A3 B1 B2 B3 : Option Addr} {c1 c2 c3 d1 d2 d3 : Nat} {ba bb : Nat → Prop} {a b : Bx} {w : World} (hpa : BoxP w ba a A1 c1 A2 c2 A3 c3) (hpb : BoxP w bb b B1 d1 B2 d2 B3 d3) (hla : OKB a) (hlb : OKB b) :
 Calls Tryz.prog 53 #[.agg #[.int .i64 a.k, .slice A1 a.r.length c1, .slice A2 a.m.length c2, .slice A3 a.s.length c3], .agg #[.int .i64 b.k, .slice B1 b.r.length d1, .slice B2 b.m.length d2, .slice B3 b.s.length d3]] w fun e w' => e = .returned (.int .i64 (commonF a b)) ∧ Grows w w' := by
 have ka := ((Blk.new w 48 #[.int .i64 a.k, .slice A1 a.r.length c1, .slice A2 a.m.length c2, .slice A3 a.s.length c3]).alloc (Obj.cells #[.int .i64 b.k, .slice B1 b.r.length d1, .slice B2 b.m.length d2, .slice B3 b.s.length d3] 48))
 have kb := (Blk.new (w.alloc (Obj.cells #[.int .i64 a.k, .slice A1 a.r.length c1, .slice A2 a.m.length c2, .slice A3 a.s.length c3] 48)) 48 #[.int .i64 b.k, .slice B1 b.r.length d1, .slice B2 b.m.length d2, .slice B3 b.s.length d3])
 have hB := (((Below.refl w.heap.size w).alloc (Nat.le_refl _) (Obj.cells #[.int .i64 a.k, .slice A1 a.r.length c1, .slice A2 a.m.length c2, .slice A3 a.s.length c3] 48)).alloc (by simp) (Obj.cells #[.int .i64 b.k, .slice B1 b.r.length d1, .slice B2 b.m.length d2, .slice B3 b.s.length d3] 48))
 go_enter Tryz.func53, Tryz.ntmps53
 go_upto_region 2 with fail
 have hs1 : (w.alloc (Obj.cells #[.int .i64 a.k, .slice A1 a.r.length c1, .slice A2 a.m.length c2, .slice A3 a.s.length c3] 48)).heap.size = w.heap.size + 1 := by simp
 rw [hs1] at kb
 clear hs1
 generalize World.alloc (World.alloc w _) _ = w2 at *
 generalize hG1 : w.heap.size + 1 = G1 at *
 have HG1 := Lib.hid hG1
 clear hG1
 have xa := ka.cell
 have xb := kb.cell
 by_cases h1 : bits .and .i64 a.k b.k = 0
 ·have e1 : (bits .and .i64 a.k b.k != 0) = false := by simpa using h1
  have HK := Lib.hid h1
  clear h1
  clear xa xb
  have xa := ka.cell
  have xb := kb.cell
  go_wp2_with fail
  refine (pieces_any A1 B1 c1 d1 a.r b.r _ (hpa.r.grows hB).sps (hpb.r.grows hB).sps hla.1 hlb.1).mono ?_
  by_cases h2 : piecesN a.r b.r = 0
  ·rintro e w3 ⟨rfl, hq⟩
   replace hB := below_grows hB (Nat.le_refl _) hq
   replace ka := ka.grows hq
   replace kb := kb.grows hq
   clear hq
   rw [h2]
   clear xa xb
   have xa := ka.cell
   have xb := kb.cell
   go_wp2_with fail
   refine (cont_meetm G1 A2 c2 ba a.m (fun x => decide (x ∈ b.m)) _ rfl (hpa.m.grows hB) (by have := hla.2.2.1; omega) (fun x B cx w2 hx hg hi hc => meet1_any (kb.grows hg) (hpb.m.grows (below_grows hB (Nat.le_refl _) hg)) hlb hi.ints (hla.2.2.2 x hx))).mono ?_
   cases h3 : (a.m.any fun x => decide (x ∈ b.m))
   ·have HM : meetM a b = false := h3
    clear h3
    rintro e w3 ⟨rfl, hq⟩
    replace hB := below_grows hB (Nat.le_refl _) hq
    replace ka := ka.grows hq
    replace kb := kb.grows hq
    clear hq
    clear xa xb
    have xa := ka.cell
    have xb := kb.cell
    go_wp2_with fail
    refine (pieces_any A3 B3 c3 d3 a.s b.s _ (hpa.s.grows hB).sps (hpb.s.grows hB).sps hla.2.1 hlb.2.1).mono ?_
    by_cases h4 : piecesN a.s b.s = 0
    ·rintro e w4 ⟨rfl, hq⟩
     replace hB := below_grows hB (Nat.le_refl _) hq
     replace ka := ka.grows hq
     replace kb := kb.grows hq
     clear hq
     rw [h4]
     clear xa xb
     have HE : Hid (commonF a b = 0) := Lib.hid (by unfold commonF; rw [if_pos HK.out, if_pos h2, if_neg (by rw [HM]; decide), if_pos h4]; rfl)
     go_wp2
     go_ret
     exact ⟨ret_int HE.out.symm, hB⟩
    ·rintro e w4 ⟨rfl, hq⟩
     replace hB := below_grows hB (Nat.le_refl _) hq
     replace ka := ka.grows hq
     replace kb := kb.grows hq
     clear hq
     have e4 : decide (0 < (piecesN a.s b.s : Int)) = true := by simp only [decide_eq_true_eq]; omega
     have e5 : decide (0 < piecesN a.s b.s) = true := by simp only [decide_eq_true_eq]; omega
     clear xa xb
     have o8 : bits .or .i64 0 8 = 8 := by decide
     have HE : Hid (commonF a b = 8) := Lib.hid (by unfold commonF; rw [if_pos HK.out, if_pos h2, if_neg (by rw [HM]; decide), if_neg h4]; rfl)
     go_wp2
     go_ret
     exact ⟨ret_int HE.out.symm, hB⟩
   ·have HM : meetM a b = true := h3
    clear h3
    rintro e w3 ⟨rfl, hq⟩
    replace hB := below_grows hB (Nat.le_refl _) hq
    replace ka := ka.grows hq
    replace kb := kb.grows hq
    clear hq
    clear xa xb
    have o4 : bits .or .i64 0 4 = 4 := by decide
    have xa := ka.cell
    have xb := kb.cell
    go_wp2_with fail
    refine (pieces_any A3 B3 c3 d3 a.s b.s _ (hpa.s.grows hB).sps (hpb.s.grows hB).sps hla.2.1 hlb.2.1).mono ?_
    by_cases h4 : piecesN a.s b.s = 0
    ·rintro e w4 ⟨rfl, hq⟩
     replace hB := below_grows hB (Nat.le_refl _) hq
     replace ka := ka.grows hq
     replace kb := kb.grows hq
     clear hq
     rw [h4]
     clear xa xb
     have HE : Hid (commonF a b = 4) := Lib.hid (by unfold commonF; rw [if_pos HK.out, if_pos h2, if_pos HM, if_pos h4]; rfl)
     go_wp2
     go_ret
     exact ⟨ret_int HE.out.symm, hB⟩
    ·rintro e w4 ⟨rfl, hq⟩
     replace hB := below_grows hB (Nat.le_refl _) hq
     replace ka := ka.grows hq
     replace kb := kb.grows hq
     clear hq
     have e4 : decide (0 < (piecesN a.s b.s : Int)) = true := by simp only [decide_eq_true_eq]; omega
     have e5 : decide (0 < piecesN a.s b.s) = true := by simp only [decide_eq_true_eq]; omega
     clear xa xb
     have o8 : bits .or .i64 4 8 = 12 := by decide
     have HE : Hid (commonF a b = 12) := Lib.hid (by unfold commonF; rw [if_pos HK.out, if_pos h2, if_pos HM, if_neg h4]; rfl)
     go_wp2
     go_ret
     exact ⟨ret_int HE.out.symm, hB⟩
  ·rintro e w3 ⟨rfl, hq⟩
   replace hB := below_grows hB (Nat.le_refl _) hq
   replace ka := ka.grows hq
   replace kb := kb.grows hq
   clear hq
   have e2 : decide (0 < (piecesN a.r b.r : Int)) = true := by simp only [decide_eq_true_eq]; omega
   have e3 : decide (0 < piecesN a.r b.r) = true := by simp only [decide_eq_true_eq]; omega
   clear xa xb
   have o2 : bits .or .i64 0 2 = 2 := by decide
   have xa := ka.cell
   have xb := kb.cell
   go_wp2_with fail
   refine (cont_meetm G1 A2 c2 ba a.m (fun x => decide (x ∈ b.m)) _ rfl (hpa.m.grows hB) (by have := hla.2.2.1; omega) (fun x B cx w2 hx hg hi hc => meet1_any (kb.grows hg) (hpb.m.grows (below_grows hB (Nat.le_refl _) hg)) hlb hi.ints (hla.2.2.2 x hx))).mono ?_
   cases h3 : (a.m.any fun x => decide (x ∈ b.m))
   ·have HM : meetM a b = false := h3
    clear h3
    rintro e w3 ⟨rfl, hq⟩
    replace hB := below_grows hB (Nat.le_refl _) hq
    replace ka := ka.grows hq
    replace kb := kb.grows hq
    clear hq
    clear xa xb
    have xa := ka.cell
    have xb := kb.cell
    go_wp2_with fail
    refine (pieces_any A3 B3 c3 d3 a.s b.s _ (hpa.s.grows hB).sps (hpb.s.grows hB).sps hla.2.1 hlb.2.1).mono ?_
    by_cases h4 : piecesN a.s b.s = 0
    ·rintro e w4 ⟨rfl, hq⟩
     replace hB := below_grows hB (Nat.le_refl _) hq
     replace ka := ka.grows hq
     replace kb := kb.grows hq
     clear hq
     rw [h4]
     clear xa xb
     have HE : Hid (commonF a b = 2) := Lib.hid (by unfold commonF; rw [if_pos HK.out, if_neg h2, if_neg (by rw [HM]; decide), if_pos h4]; rfl)
     go_wp2
     go_ret
     exact ⟨ret_int HE.out.symm, hB⟩
    ·rintro e w4 ⟨rfl, hq⟩
     replace hB := below_grows hB (Nat.le_refl _) hq
     replace ka := ka.grows hq
     replace kb := kb.grows hq
     clear hq
     have e4 : decide (0 < (piecesN a.s b.s : Int)) = true := by simp only [decide_eq_true_eq]; omega
     have e5 : decide (0 < piecesN a.s b.s) = true := by simp only [decide_eq_true_eq]; omega
     clear xa xb
     have o8 : bits .or .i64 2 8 = 10 := by decide
     have HE : Hid (commonF a b = 10) := Lib.hid (by unfold commonF; rw [if_pos HK.out, if_neg h2, if_neg (by rw [HM]; decide), if_neg h4]; rfl)
     go_wp2
     go_ret
     exact ⟨ret_int HE.out.symm, hB⟩
   ·have HM : meetM a b = true := h3
    clear h3
    rintro e w3 ⟨rfl, hq⟩
    replace hB := below_grows hB (Nat.le_refl _) hq
    replace ka := ka.grows hq
    replace kb := kb.grows hq
    clear hq
    clear xa xb
    have o4 : bits .or .i64 2 4 = 6 := by decide
    have xa := ka.cell
    have xb := kb.cell
    go_wp2_with fail
    refine (pieces_any A3 B3 c3 d3 a.s b.s _ (hpa.s.grows hB).sps (hpb.s.grows hB).sps hla.2.1 hlb.2.1).mono ?_
    by_cases h4 : piecesN a.s b.s = 0
    ·rintro e w4 ⟨rfl, hq⟩
     replace hB := below_grows hB (Nat.le_refl _) hq
     replace ka := ka.grows hq
     replace kb := kb.grows hq
     clear hq
     rw [h4]
     clear xa xb
     have HE : Hid (commonF a b = 6) := Lib.hid (by unfold commonF; rw [if_pos HK.out, if_neg h2, if_pos HM, if_pos h4]; rfl)
     go_wp2
     go_ret
     exact ⟨ret_int HE.out.symm, hB⟩
    ·rintro e w4 ⟨rfl, hq⟩
     replace hB := below_grows hB (Nat.le_refl _) hq
     replace ka := ka.grows hq
     replace kb := kb.grows hq
     clear hq
     have e4 : decide (0 < (piecesN a.s b.s : Int)) = true := by simp only [decide_eq_true_eq]; omega
     have e5 : decide (0 < piecesN a.s b.s) = true := by simp only [decide_eq_true_eq]; omega
     clear xa xb
     have o8 : bits .or .i64 6 8 = 14 := by decide
     have HE : Hid (commonF a b = 14) := Lib.hid (by unfold commonF; rw [if_pos HK.out, if_neg h2, if_pos HM, if_neg h4]; rfl)
     go_wp2
     go_ret
     exact ⟨ret_int HE.out.symm, hB⟩
 ·have e1 : (bits .and .i64 a.k b.k != 0) = true := by simpa using h1
  have HK := Lib.hid h1
  clear h1
  clear xa xb
  have o1 : bits .or .i64 0 1 = 1 := by decide
  have xa := ka.cell
  have xb := kb.cell
  go_wp2_with fail
  refine (pieces_any A1 B1 c1 d1 a.r b.r _ (hpa.r.grows hB).sps (hpb.r.grows hB).sps hla.1 hlb.1).mono ?_
  by_cases h2 : piecesN a.r b.r = 0
  ·rintro e w3 ⟨rfl, hq⟩
   replace hB := below_grows hB (Nat.le_refl _) hq
   replace ka := ka.grows hq
   replace kb := kb.grows hq
   clear hq
   rw [h2]
   clear xa xb
   have xa := ka.cell
   have xb := kb.cell
   go_wp2_with fail
   refine (cont_meetm G1 A2 c2 ba a.m (fun x => decide (x ∈ b.m)) _ rfl (hpa.m.grows hB) (by have := hla.2.2.1; omega) (fun x B cx w2 hx hg hi hc => meet1_any (kb.grows hg) (hpb.m.grows (below_grows hB (Nat.le_refl _) hg)) hlb hi.ints (hla.2.2.2 x hx))).mono ?_
   cases h3 : (a.m.any fun x => decide (x ∈ b.m))
   ·have HM : meetM a b = false := h3
    clear h3
    rintro e w3 ⟨rfl, hq⟩
    replace hB := below_grows hB (Nat.le_refl _) hq
    replace ka := ka.grows hq
    replace kb := kb.grows hq
    clear hq
    clear xa xb
    have xa := ka.cell
    have xb := kb.cell
    go_wp2_with fail
    refine (pieces_any A3 B3 c3 d3 a.s b.s _ (hpa.s.grows hB).sps (hpb.s.grows hB).sps hla.2.1 hlb.2.1).mono ?_
    by_cases h4 : piecesN a.s b.s = 0
    ·rintro e w4 ⟨rfl, hq⟩
     replace hB := below_grows hB (Nat.le_refl _) hq
     replace ka := ka.grows hq
     replace kb := kb.grows hq
     clear hq
     rw [h4]
     clear xa xb
     have HE : Hid (commonF a b = 1) := Lib.hid (by unfold commonF; rw [if_neg HK.out, if_pos h2, if_neg (by rw [HM]; decide), if_pos h4]; rfl)
     go_wp2
     go_ret
     exact ⟨ret_int HE.out.symm, hB⟩
    ·rintro e w4 ⟨rfl, hq⟩
     replace hB := below_grows hB (Nat.le_refl _) hq
     replace ka := ka.grows hq
     replace kb := kb.grows hq
     clear hq
     have e4 : decide (0 < (piecesN a.s b.s : Int)) = true := by simp only [decide_eq_true_eq]; omega
     have e5 : decide (0 < piecesN a.s b.s) = true := by simp only [decide_eq_true_eq]; omega
     clear xa xb
     have o8 : bits .or .i64 1 8 = 9 := by decide
     have HE : Hid (commonF a b = 9) := Lib.hid (by unfold commonF; rw [if_neg HK.out, if_pos h2, if_neg (by rw [HM]; decide), if_neg h4]; rfl)
     go_wp2
     go_ret
     exact ⟨ret_int HE.out.symm, hB⟩
   ·have HM : meetM a b = true := h3
    clear h3
    rintro e w3 ⟨rfl, hq⟩
    replace hB := below_grows hB (Nat.le_refl _) hq
    replace ka := ka.grows hq
    replace kb := kb.grows hq
    clear hq
    clear xa xb
    have o4 : bits .or .i64 1 4 = 5 := by decide
    have xa := ka.cell
    have xb := kb.cell
    go_wp2_with fail
    refine (pieces_any A3 B3 c3 d3 a.s b.s _ (hpa.s.grows hB).sps (hpb.s.grows hB).sps hla.2.1 hlb.2.1).mono ?_
    by_cases h4 : piecesN a.s b.s = 0
    ·rintro e w4 ⟨rfl, hq⟩
     replace hB := below_grows hB (Nat.le_refl _) hq
     replace ka := ka.grows hq
     replace kb := kb.grows hq
     clear hq
     rw [h4]
     clear xa xb
     have HE : Hid (commonF a b = 5) := Lib.hid (by unfold commonF; rw [if_neg HK.out, if_pos h2, if_pos HM, if_pos h4]; rfl)
     go_wp2
     go_ret
     exact ⟨ret_int HE.out.symm, hB⟩
    ·rintro e w4 ⟨rfl, hq⟩
     replace hB := below_grows hB (Nat.le_refl _) hq
     replace ka := ka.grows hq
     replace kb := kb.grows hq
     clear hq
     have e4 : decide (0 < (piecesN a.s b.s : Int)) = true := by simp only [decide_eq_true_eq]; omega
     have e5 : decide (0 < piecesN a.s b.s) = true := by simp only [decide_eq_true_eq]; omega
     clear xa xb
     have o8 : bits .or .i64 5 8 = 13 := by decide
     have HE : Hid (commonF a b = 13) := Lib.hid (by unfold commonF; rw [if_neg HK.out, if_pos h2, if_pos HM, if_neg h4]; rfl)
     go_wp2
     go_ret
     exact ⟨ret_int HE.out.symm, hB⟩
  ·rintro e w3 ⟨rfl, hq⟩
   replace hB := below_grows hB (Nat.le_refl _) hq
   replace ka := ka.grows hq
   replace kb := kb.grows hq
   clear hq
   have e2 : decide (0 < (piecesN a.r b.r : Int)) = true := by simp only [decide_eq_true_eq]; omega
   have e3 : decide (0 < piecesN a.r b.r) = true := by simp only [decide_eq_true_eq]; omega
   clear xa xb
   have o2 : bits .or .i64 1 2 = 3 := by decide
   have xa := ka.cell
   have xb := kb.cell
   go_wp2_with fail
   refine (cont_meetm G1 A2 c2 ba a.m (fun x => decide (x ∈ b.m)) _ rfl (hpa.m.grows hB) (by have := hla.2.2.1; omega) (fun x B cx w2 hx hg hi hc => meet1_any (kb.grows hg) (hpb.m.grows (below_grows hB (Nat.le_refl _) hg)) hlb hi.ints (hla.2.2.2 x hx))).mono ?_
   cases h3 : (a.m.any fun x => decide (x ∈ b.m))
   ·have HM : meetM a b = false := h3
    clear h3
    rintro e w3 ⟨rfl, hq⟩
    replace hB := below_grows hB (Nat.le_refl _) hq
    replace ka := ka.grows hq
    replace kb := kb.grows hq
    clear hq
    clear xa xb
    have xa := ka.cell
    have xb := kb.cell
    go_wp2_with fail
    refine (pieces_any A3 B3 c3 d3 a.s b.s _ (hpa.s.grows hB).sps (hpb.s.grows hB).sps hla.2.1 hlb.2.1).mono ?_
    by_cases h4 : piecesN a.s b.s = 0
    ·rintro e w4 ⟨rfl, hq⟩
     replace hB := below_grows hB (Nat.le_refl _) hq
     replace ka := ka.grows hq
     replace kb := kb.grows hq
     clear hq
     rw [h4]
     clear xa xb
     have HE : Hid (commonF a b = 3) := Lib.hid (by unfold commonF; rw [if_neg HK.out, if_neg h2, if_neg (by rw [HM]; decide), if_pos h4]; rfl)
     go_wp2
     go_ret
     exact ⟨ret_int HE.out.symm, hB⟩
    ·rintro e w4 ⟨rfl, hq⟩
     replace hB := below_grows hB (Nat.le_refl _) hq
     replace ka := ka.grows hq
     replace kb := kb.grows hq
     clear hq
     have e4 : decide (0 < (piecesN a.s b.s : Int)) = true := by simp only [decide_eq_true_eq]; omega
     have e5 : decide (0 < piecesN a.s b.s) = true := by simp only [decide_eq_true_eq]; omega
     clear xa xb
     have o8 : bits .or .i64 3 8 = 11 := by decide
     have HE : Hid (commonF a b = 11) := Lib.hid (by unfold commonF; rw [if_neg HK.out, if_neg h2, if_neg (by rw [HM]; decide), if_neg h4]; rfl)
     go_wp2
     go_ret
     exact ⟨ret_int HE.out.symm, hB⟩
   ·have HM : meetM a b = true := h3
    clear h3
    rintro e w3 ⟨rfl, hq⟩
    replace hB := below_grows hB (Nat.le_refl _) hq
    replace ka := ka.grows hq
    replace kb := kb.grows hq
    clear hq
    clear xa xb
    have o4 : bits .or .i64 3 4 = 7 := by decide
    have xa := ka.cell
    have xb := kb.cell
    go_wp2_with fail
    refine (pieces_any A3 B3 c3 d3 a.s b.s _ (hpa.s.grows hB).sps (hpb.s.grows hB).sps hla.2.1 hlb.2.1).mono ?_
    by_cases h4 : piecesN a.s b.s = 0
    ·rintro e w4 ⟨rfl, hq⟩
     replace hB := below_grows hB (Nat.le_refl _) hq
     replace ka := ka.grows hq
     replace kb := kb.grows hq
     clear hq
     rw [h4]
     clear xa xb
     have HE : Hid (commonF a b = 7) := Lib.hid (by unfold commonF; rw [if_neg HK.out, if_neg h2, if_pos HM, if_pos h4]; rfl)
     go_wp2
     go_ret
     exact ⟨ret_int HE.out.symm, hB⟩
    ·rintro e w4 ⟨rfl, hq⟩
     replace hB := below_grows hB (Nat.le_refl _) hq
     replace ka := ka.grows hq
     replace kb := kb.grows hq
     clear hq
     have e4 : decide (0 < (piecesN a.s b.s : Int)) = true := by simp only [decide_eq_true_eq]; omega
     have e5 : decide (0 < piecesN a.s b.s) = true := by simp only [decide_eq_true_eq]; omega
     clear xa xb
     have o8 : bits .or .i64 7 8 = 15 := by decide
     have HE : Hid (commonF a b = 15) := Lib.hid (by unfold commonF; rw [if_neg HK.out, if_neg h2, if_pos HM, if_neg h4]; rfl)
     go_wp2
     go_ret
     exact ⟨ret_int HE.out.symm, hB⟩
end Go.Proofs.YtnbdpnlepcjmmaaGreat

namespace Go.Proofs.YtnbdpnlepcjmmaaGreat
open Go.RowKit
def meets (set : Int) (x y : Bx) : Bool := bits .and .i64 (commonF x y) set == set
def metF (l m : List Bx) (set : Int) : Bool := l.any fun x => m.any fun y => meets set x y
theorem met_no {l m : List Bx} {set : Int} (h : ∀ x ∈ l, ∀ y ∈ m, meets set x y = false) : metF l m set = false := by
 unfold metF
 rw [List.any_eq_false]
 intro x hx
 simp only [Bool.not_eq_true]
 rw [List.any_eq_false]
 intro y hy
 rw [h x hx y hy]
 decide
theorem met_yes {l m : List Bx} {set : Int} {x y : Bx} (hx : x ∈ l) (hy : y ∈ m) (h : meets set x y = true) : metF l m set = true := by
 unfold metF
 rw [List.any_eq_true]
 exact ⟨x, hx, List.any_eq_true.2 ⟨y, hy, h⟩⟩
def ones (n : Int) : Int := (Lib.onesCount n.toNat : Int)
def blUp (l m : List Bx) : Nat → Int
 | 0 => 15
 | n + 1 => if decide (ones ((n : Int) + 1) < ones (blUp l m n)) && !metF l m ((n : Int) + 1) then (n : Int) + 1 else blUp l m n
def blameF (a b : List Bx) : Int := if boxesF a = [] ∨ boxesF b = [] then 15 else if metF (boxesF a) (boxesF b) 15 = true then 0 else blUp (boxesF a) (boxesF b) 14
theorem blUp_bd (l m : List Bx) (n : Nat) (h : n ≤ 14) : 1 ≤ blUp l m n ∧ blUp l m n ≤ 15 := by
 induction n with
 | zero => exact ⟨show (1 : Int) ≤ 15 by decide, show (15 : Int) ≤ 15 by decide⟩
 | succ n ih =>
  unfold blUp
  split
  ·omega
  ·exact ih (by omega)
set_option maxRecDepth 4000 in
theorem ones64_any (n : Nat) (w : World) (h : n < 16) : Calls Tryz.prog 96 #[.int .u64 (n : Int)] w fun e w' => e = .returned (.int .i64 (Lib.onesCount n : Int)) ∧ Grows w w' := by
 have hB := Below.refl w.heap.size w
 go_enter Tryz.func96, Tryz.ntmps96
 go_wp2
 go_ret
 refine ⟨ret_int ?_, hB⟩
 clear hB
 match n, h with
 | 0, _ => decide +kernel
 | 1, _ => decide +kernel
 | 2, _ => decide +kernel
 | 3, _ => decide +kernel
 | 4, _ => decide +kernel
 | 5, _ => decide +kernel
 | 6, _ => decide +kernel
 | 7, _ => decide +kernel
 | 8, _ => decide +kernel
 | 9, _ => decide +kernel
 | 10, _ => decide +kernel
 | 11, _ => decide +kernel
 | 12, _ => decide +kernel
 | 13, _ => decide +kernel
 | 14, _ => decide +kernel
 | 15, _ => decide +kernel
 | n + 16, h => exact absurd h (by omega)
theorem ones_any (x : Int) (w : World) (h0 : 0 ≤ x) (h1 : x ≤ 15) : Calls Tryz.prog 54 #[.int .u64 x] w fun e w' => e = .returned (.int .i64 (ones x)) ∧ Grows w w' := by
 obtain ⟨n, rfl⟩ : ∃ n : Nat, x = (n : Int) := ⟨x.toNat, by omega⟩
 go_enter Tryz.func54, Tryz.ntmps54
 go_wp2_with fail
 refine (ones64_any n _ (by omega)).mono ?_
 rintro e w2 ⟨rfl, hq⟩
 go_wp2
 go_ret
 exact ⟨rfl, hq⟩
set_option maxHeartbeats 8000000 in
theorem met_any {base bb : Nat → Prop} {A B : Option Addr} {c d G5 G6 : Nat} {l m : List Bx} (set : Int) {w : World} (k5 : Blk w G5 22 #[.slice A l.length c]) (k6 : Blk w G6 22 #[.slice B m.length d]) (h : Bxs w base A l) (hm : Bxs w bb B m) (hl : l.length ≤ 1000000) (hl2 : m.length ≤ 1000000) (ho : ∀ b ∈ l, OKB b) (ho2 : ∀ b ∈ m, OKB b) :
 Calls Tryz.prog 52 #[.int .i64 set, .pointer (some ⟨G5, 0, none⟩), .pointer (some ⟨G6, 0, none⟩)] w fun e w' => e = .returned (.bool (metF l m set)) ∧ Grows w w' := by
 have HO := Lib.hid ho
 have HO2 := Lib.hid ho2
 clear ho ho2
 have x5 := k5.cell 0
 go_enter Tryz.func52, Tryz.ntmps52
 go_wp2_with fail
 go_loopw [11] (fun i wr => ∃ k : Nat, k ≤ l.length ∧ i = .int .i64 k ∧ Hid (∀ x ∈ l.take k, ∀ y ∈ m, meets set x y = false) ∧ Blk wr G5 22 #[.slice A l.length c] ∧ Blk wr G6 22 #[.slice B m.length d] ∧ Grows w wr) (fun i _ => l.length - (intOf i).toNat)
 case atStart => exact ⟨0, by omega, rfl, Lib.hid (by simp), k5, k6, Below.refl _ _⟩
 case round =>
  clear k5 k6 x5
  obtain ⟨k, hk, rfl, HF, k5, k6, hB⟩ := hrel
  by_cases hlt : k < l.length
  ·obtain ⟨ad, x, A1, c1, A2, c2, A3, c3, e1, had, hx, hp, q0, q1, q2, q3⟩ := (h.grows hB).elem hlt
   subst e1
   have HX := Lib.hid hx
   clear hx
   have k7 := Blk.new wr 48 #[.int .i64 x.k, .slice A1 x.r.length c1, .slice A2 x.m.length c2, .slice A3 x.s.length c3]
   have hq := (Below.refl wr.heap.size wr).alloc (Nat.le_refl _) (Obj.cells #[.int .i64 x.k, .slice A1 x.r.length c1, .slice A2 x.m.length c2, .slice A3 x.s.length c3] 48)
   go_upto_region 4 with fail
   replace hB := below_grows hB (Nat.le_refl _) hq
   replace k5 := k5.grows hq
   replace k6 := k6.grows hq
   replace hp := hp.grows hq
   clear hq q0 q1 q2 q3
   generalize World.alloc wr _ = w5 at *
   generalize wr.heap.size = G7 at *
   have x6 := k6.cell 0
   have hB5 := hB
   clear hB
   go_wp2_with fail
   go_loopw [17] (fun i wq => ∃ j : Nat, j ≤ m.length ∧ i = .int .i64 j ∧ Hid (∀ y ∈ m.take j, meets set x y = false) ∧ Blk wq G5 22 #[.slice (some ad) l.length c] ∧ Blk wq G6 22 #[.slice B m.length d] ∧ Blk wq G7 48 #[.int .i64 x.k, .slice A1 x.r.length c1, .slice A2 x.m.length c2, .slice A3 x.s.length c3] ∧ Grows w5 wq) (fun i _ => m.length - (intOf i).toNat)
   case atStart => exact ⟨0, by omega, rfl, Lib.hid (by simp), k5, k6, k7, Below.refl _ _⟩
   case round =>
    clear k5 k6 k7 x6
    obtain ⟨j, hj, rfl, HG, k5, k6, k7, hg⟩ := hrel
    have hB := below_grows hB5 (Nat.le_refl _) hg
    by_cases hlt2 : j < m.length
    ·obtain ⟨ad2, y, B1, d1, B2, d2, B3, d3, e2, had2, hy, hp2, q0, q1, q2, q3⟩ := (hm.grows hB).elem hlt2
     subst e2
     have HY := Lib.hid hy
     clear hy
     have k8 := Blk.new wr 48 #[.int .i64 y.k, .slice B1 y.r.length d1, .slice B2 y.m.length d2, .slice B3 y.s.length d3]
     have hq := (Below.refl wr.heap.size wr).alloc (Nat.le_refl _) (Obj.cells #[.int .i64 y.k, .slice B1 y.r.length d1, .slice B2 y.m.length d2, .slice B3 y.s.length d3] 48)
     go_upto_region 7 with fail
     replace hg := below_grows hg (Nat.le_refl _) hq
     replace k5 := k5.grows hq
     replace k6 := k6.grows hq
     replace k7 := k7.grows hq
     replace hp2 := hp2.grows hq
     clear hq q0 q1 q2 q3 hB
     generalize World.alloc wr _ = w6 at *
     generalize wr.heap.size = G8 at *
     have x7 := k7.cell
     have x8 := k8.cell
     go_wp2_with fail
     refine (common_any (hp.grows hg) hp2 (HO.out x (List.mem_of_getElem? HX.out)) (HO2.out y (List.mem_of_getElem? HY.out))).mono ?_
     cases hv : meets set x y
     ·have HN : Hid (∀ z ∈ m.take (j + 1), meets set x z = false) := Lib.hid (by
       rw [take_snoc HY.out]
       intro z hz
       rcases List.mem_append.1 hz with hz | hz
       ·exact HG.out z hz
       ·simp only [List.mem_singleton] at hz
        exact hz ▸ hv)
      have d1 : (bits .and .i64 (commonF x y) set == set) = false := hv
      clear hv
      generalize commonF x y = cf at *
      rintro e w7 ⟨rfl, hq⟩
      replace hg := below_grows hg (Nat.le_refl _) hq
      replace k5 := k5.grows hq
      replace k6 := k6.grows hq
      replace k7 := k7.grows hq
      clear hq x7 x8 k8 hp2
      go_wp2
      go_roundw
      case rel => exact ⟨j + 1, by omega, by go_num, HN, k5, k6, k7, hg⟩
      case measure => simp [intOf]; omega
     ·have HE : Hid (metF l m set = true) := Lib.hid (met_yes (List.mem_of_getElem? HX.out) (List.mem_of_getElem? HY.out) hv)
      have d1 : (bits .and .i64 (commonF x y) set == set) = true := hv
      clear hv
      generalize commonF x y = cf at *
      rintro e w7 ⟨rfl, hq⟩
      replace hg := below_grows hg (Nat.le_refl _) hq
      clear hq x7 x8 k8 hp2
      go_wp2
      go_ret
      exact ⟨ret_bool HE.out.symm, below_grows hB5 (Nat.le_refl _) hg⟩
    ·have HE : Hid (∀ x ∈ l.take (k + 1), ∀ y ∈ m, meets set x y = false) := Lib.hid (by
      rw [take_snoc HX.out]
      intro z hz y hy
      rcases List.mem_append.1 hz with hz | hz
      ·exact HF.out z hz y hy
      ·simp only [List.mem_singleton] at hz
       subst hz
       have := HG.out
       rw [List.take_of_length_le (by omega)] at this
       exact this y hy)
     go_wp2
     go_roundw
     case rel => exact ⟨k + 1, by omega, by go_num, HE, k5, k6, hB⟩
     case measure => simp [intOf]; omega
  ·have HE : Hid (metF l m set = false) := Lib.hid (met_no (by have := HF.out; rwa [List.take_of_length_le (by omega)] at this))
   go_wp2
   go_ret
   exact ⟨ret_bool HE.out.symm, hB⟩
set_option maxHeartbeats 8000000 in
theorem blame_any {base bb : Nat → Prop} {A B : Option Addr} {c d : Nat} {l m : List Bx} {w : World} (h : Bxs w base A l) (hm : Bxs w bb B m) (hl : l.length ≤ 1000000) (hl2 : m.length ≤ 1000000) (hc : l.length ≤ c) (hd : m.length ≤ d) (ho : ∀ b ∈ l, OKB b) (ho2 : ∀ b ∈ m, OKB b) :
 Calls Tryz.prog 18 #[.slice A l.length c, .slice B m.length d] w fun e w' => e = .returned (.int .i64 (blameF l m)) ∧ Grows w w' := by
 have HO := Lib.hid ho
 have HO2 := Lib.hid ho2
 clear ho ho2
 have HF : Hid (blameF l m = if boxesF l = [] ∨ boxesF m = [] then 15 else if metF (boxesF l) (boxesF m) 15 = true then 0 else blUp (boxesF l) (boxesF m) 14) := Lib.hid rfl
 have hB := Below.refl w.heap.size w
 go_enter Tryz.func18, Tryz.ntmps18
 go_wp2_with fail
 refine (pboxes_any A c base l _ h hl HO.out hc).mono ?_
 rintro e w1 ⟨⟨A1, c1, rfl, hc1, hx⟩, hq⟩
 replace hB := below_grows hB (Nat.le_refl _) hq
 replace hx := hx.grows hq
 replace hm := hm.grows hq
 clear hq h
 go_wp2_with fail
 refine (pboxes_any B d bb m _ hm hl2 HO2.out hd).mono ?_
 rintro e w2 ⟨⟨A2, c2, rfl, hc2, hy⟩, hq⟩
 replace hB := below_grows hB (Nat.le_refl _) hq
 replace hx := hx.grows hq
 replace hy := hy.grows hq
 clear hq hm
 have HO3 := Lib.hid (boxes_ok HO.out)
 have HO4 := Lib.hid (boxes_ok HO2.out)
 have hb1 := boxes_len l
 have hb2 := boxes_len m
 generalize boxesF l = lx at *
 generalize boxesF m = ly at *
 go_upto_region 2 with fail
 have k5 := (Blk.new w2 22 #[.slice A1 lx.length c1]).alloc (Obj.cells #[.slice A2 ly.length c2] 22)
 have k6 := Blk.new (w2.alloc (Obj.cells #[.slice A1 lx.length c1] 22)) 22 #[.slice A2 ly.length c2]
 have hq := ((Below.refl w2.heap.size w2).alloc (Nat.le_refl _) (Obj.cells #[.slice A1 lx.length c1] 22)).alloc (by simp) (Obj.cells #[.slice A2 ly.length c2] 22)
 have hs1 : (w2.alloc (Obj.cells #[.slice A1 lx.length c1] 22)).heap.size = w2.heap.size + 1 := by simp
 rw [hs1] at k6
 clear hs1
 replace hB := below_grows hB (Nat.le_refl _) hq
 replace hx := hx.grows hq
 replace hy := hy.grows hq
 clear hq
 generalize World.alloc (World.alloc w2 _) _ = w3 at *
 generalize w2.heap.size + 1 = G6 at *
 generalize w2.heap.size = G5 at *
 have x5 := k5.cell 0
 have x6 := k6.cell 0
 by_cases h1 : lx.length = 0
 ·obtain rfl := List.eq_nil_of_length_eq_zero h1
  have HE : Hid (blameF l m = 15) := Lib.hid (by rw [HF.out, if_pos (.inl rfl)])
  clear h1
  go_wp2
  go_ret
  exact ⟨ret_int HE.out.symm, hB⟩
 have d1 : ((lx.length : Int) == 0) = false := by simp only [beq_eq_false_iff_ne, ne_eq]; omega
 by_cases h2 : ly.length = 0
 ·obtain rfl := List.eq_nil_of_length_eq_zero h2
  have HE : Hid (blameF l m = 15) := Lib.hid (by rw [HF.out, if_pos (.inr rfl)])
  clear h1 h2
  go_wp2
  go_ret
  exact ⟨ret_int HE.out.symm, hB⟩
 have d2 : ((ly.length : Int) == 0) = false := by simp only [beq_eq_false_iff_ne, ne_eq]; omega
 have HF2 : Hid (blameF l m = if metF lx ly 15 = true then 0 else blUp lx ly 14) := Lib.hid (by
  rw [HF.out, if_neg]
  rintro (e | e)
  ·exact h1 (by rw [e]; rfl)
  ·exact h2 (by rw [e]; rfl))
 clear h1 h2 HF
 go_wp2_with fail
 refine (met_any 15 k5 k6 hx hy (by omega) (by omega) HO3.out HO4.out).mono ?_
 cases hv : metF lx ly 15
 case true =>
  have HE : Hid (blameF l m = 0) := Lib.hid (by rw [HF2.out, if_pos hv])
  clear hv
  rintro e w4 ⟨rfl, hq⟩
  replace hB := below_grows hB (Nat.le_refl _) hq
  go_wp2
  go_ret
  exact ⟨ret_int HE.out.symm, hB⟩
 have HE : Hid (blameF l m = blUp lx ly 14) := Lib.hid (by rw [HF2.out, if_neg (by rw [hv]; decide)])
 clear hv HF2
 rintro e w4 ⟨rfl, hq⟩
 replace hB := below_grows hB (Nat.le_refl _) hq
 replace hx := hx.grows hq
 replace hy := hy.grows hq
 replace k5 := k5.grows hq
 replace k6 := k6.grows hq
 clear hq x5 x6
 have hB4 := hB
 clear hB
 go_wp2_with fail
 go_loopw [8, 9] (fun b i wr => ∃ (n : Nat) (z : Int), n ≤ 14 ∧ i = .int .i64 ((n : Int) + 1) ∧ b = .int .i64 z ∧ Hid (blUp lx ly n = z) ∧ Grows w4 wr) (fun _ i _ => 16 - (intOf i).toNat)
 case atStart => exact ⟨0, 15, by omega, rfl, rfl, Lib.hid rfl, Below.refl _ _⟩
 case round =>
  obtain ⟨n, z, hn, rfl, rfl, HZ, hg⟩ := hrel
  have hzb := blUp_bd lx ly n hn
  rw [HZ.out] at hzb
  have HS : Hid (blUp lx ly (n + 1) = if decide (ones ((n : Int) + 1) < ones z) && !metF lx ly ((n : Int) + 1) then (n : Int) + 1 else z) := Lib.hid (by rw [← HZ.out]; rfl)
  by_cases hlt : n < 14
  ·have d3 : decide ((n : Int) + 1 < 15) = true := by simp only [decide_eq_true_eq]; omega
   have u1 : IntKind.u64.wrap ((n : Int) + 1) = (n : Int) + 1 := IntWalk.u64_in _ (by omega)
   have u2 : IntKind.u64.wrap z = z := IntWalk.u64_in _ (by omega)
   have hwn : IntKind.i64.wrap ((n : Int) + 1 + 1) = ((n + 1 : Nat) : Int) + 1 := by rw [IntWalk.i64_in _ (by omega)]; omega
   go_wp2_with fail
   refine (ones_any ((n : Int) + 1) _ (by omega) (by omega)).mono ?_
   rintro e w5 ⟨rfl, hq⟩
   replace hg := below_grows hg (Nat.le_refl _) hq
   clear hq
   go_wp2_with fail
   refine (ones_any z _ (by omega) (by omega)).mono ?_
   rintro e w6 ⟨rfl, hq⟩
   replace hg := below_grows hg (Nat.le_refl _) hq
   clear hq
   by_cases h1 : ones ((n : Int) + 1) < ones z
   case neg =>
    have HN : Hid (blUp lx ly (n + 1) = z) := Lib.hid (by rw [HS.out, decide_eq_false h1]; rfl)
    have d4 : decide (ones ((n : Int) + 1) < ones z) = false := by simpa using h1
    clear h1 HS
    go_wp2
    go_roundw
    case rel => exact ⟨n + 1, z, by omega, by go_num, rfl, HN, hg⟩
    case measure => simp [intOf]; omega
   have d4 : decide (ones ((n : Int) + 1) < ones z) = true := by simpa using h1
   go_wp2_with fail
   refine (met_any ((n : Int) + 1) (k5.grows hg) (k6.grows hg) (hx.grows hg) (hy.grows hg) (by omega) (by omega) HO3.out HO4.out).mono ?_
   cases hv : metF lx ly ((n : Int) + 1)
   ·have HN : Hid (blUp lx ly (n + 1) = (n : Int) + 1) := Lib.hid (by rw [HS.out, d4, hv]; rfl)
    clear hv h1 HS
    rintro e w7 ⟨rfl, hq⟩
    replace hg := below_grows hg (Nat.le_refl _) hq
    clear hq
    go_wp2
    go_roundw
    case rel => exact ⟨n + 1, (n : Int) + 1, by omega, by go_num, rfl, HN, hg⟩
    case measure => simp [intOf]; omega
   ·have HN : Hid (blUp lx ly (n + 1) = z) := Lib.hid (by rw [HS.out, d4, hv]; rfl)
    clear hv h1 HS
    rintro e w7 ⟨rfl, hq⟩
    replace hg := below_grows hg (Nat.le_refl _) hq
    clear hq
    go_wp2
    go_roundw
    case rel => exact ⟨n + 1, z, by omega, by go_num, rfl, HN, hg⟩
    case measure => simp [intOf]; omega
  ·obtain rfl : n = 14 := by omega
   have HE2 : Hid (blameF l m = z) := Lib.hid (HE.out.trans HZ.out)
   have d3 : decide (((14 : Nat) : Int) + 1 < 15) = false := by decide
   go_wp2
   go_ret
   exact ⟨ret_int HE2.out.symm, below_grows hB4 (Nat.le_refl _) hg⟩
end Go.Proofs.YtnbdpnlepcjmmaaGreat

namespace Go.Proofs.YtnbdpnlepcjmmaaGreat
open Go.RowKit
section
variable {P : Program} {ops : Array Oper} {S : Ran → (Nat → Value) → World → Prop} {md : Region.Mode} {n N : Nat} {a0 : Act}
set_option maxRecDepth 100000 in
theorem listed_lt {listed : Array Bool} (hinv : HeadInv md ops n listed) {k : Nat} {o : Oper} (ho : ops[k]? = some o) (hl : listed.getD k false = true) : k < n := by
 rcases Nat.lt_or_ge k n with h | h
 ·exact h
 ·have := getD_both (hinv.tail k h (lt_of_get ho))
  rw [hl] at this
  cases this
set_option maxRecDepth 100000 in
theorem gent_agree (ok : MixOk md ops n N []) (hN : a0.tmps.size = N) {vs : Nat → Value} {listed : Array Bool} {a : Act} {w : World} (hinv : HeadInv md ops n listed) (inv : InvG S ops vs a0 listed a w) {i : Nat} {o : Oper} (hi : i < n) (ho : ops[i]? = some o) (hr : i ∈ Region.ready md ops listed) :
 ∀ t ∈ o.looksAt ops, (fin [] vs (ops.toList.take i) 0 a0).tmps[t]? = a.tmps[t]? := by
 intro t ht
 by_cases hex : ∃ (k : Nat) (o' : Oper), k < n ∧ ops[k]? = some o' ∧ o'.dst = some t
 ·obtain ⟨k, o', hk, ho', hd⟩ := hex
  obtain ⟨h1, _, h3⟩ := ok.look i o k o' t hi hk ho ho' hd ht
  have hlisted : listed.getD k false = true := by
   obtain ⟨oj, hoj, e, he, hb, hon⟩ := Region.waitsFor_spec h3
   obtain ⟨_, oi, hoi, hall⟩ := mem_ready.1 hr
   have : oj = oi := Option.some.inj (hoj.symm.trans hoi)
   subst this
   have := hall e he hb
   rwa [hon] at this
  have e1 := inv.calm k o' t ho' hd hlisted
  have hlt : t < a0.tmps.size := by rw [hN]; exact ok.bd k o' t hk ho' hd
  have e2 := fin_at (fl := []) (val := vs) (ops.toList.take i) 0 a0 k o' (take_get h1 ho') hd rfl hlt (by
   intro j oj hj hne hdj
   obtain ⟨hji, hoj⟩ := of_take_get hj
   exact ok.ne j oj k o' t (by omega) hk hoj ho' (Ne.symm hne) hdj hd)
  rw [Nat.zero_add] at e2
  rw [e1, e2]
 ·have e1 := inv.other t fun k o' ho' hl hd => hex ⟨k, o', listed_lt hinv ho' hl, ho', hd⟩
  have e2 := fin_other (fl := []) (val := vs) (ops.toList.take i) 0 a0 fun j oj hj _ hd => by
   obtain ⟨hji, hoj⟩ := of_take_get hj
   exact hex ⟨j, oj, by omega, hoj, hd⟩
  rw [e1, e2]
set_option maxRecDepth 100000 in
theorem inv_stepT (ok : MixOk md ops n N []) (hN : a0.tmps.size = N) {vs : Nat → Value} {listed : Array Bool} {a : Act} {w w' : World} (hinv : HeadInv md ops n listed) (inv : InvG S ops vs a0 listed a w) {i : Nat} {o : Oper} (hi : i < n) (ho : ops[i]? = some o) (hl : i < listed.size) {u : Value}
 (hs : S (ranOf (listed.setIfInBounds i true)) (setV vs i u) w') : InvG S ops (setV vs i u) a0 (listed.setIfInBounds i true) (a.put o.dst u) w' := by
 have key : ∀ k o' t, k < n → ops[k]? = some o' → o'.dst = some t → k ≠ i → (a.put o.dst u).tmps[t]? = a.tmps[t]? := by
  intro k o' t hk ho' hd hne
  exact put_get_ne fun e => ok.ne i o k o' t hi hk ho ho' hne e hd
 refine ⟨hs, (put_defers' _ _ _).trans inv.defers, (put_size _ _ _).trans inv.size, ?_, ?_⟩
 ·intro k o' t ho' hd hlk
  by_cases hki : k = i
  ·subst hki
   have : o' = o := Option.some.inj (ho'.symm.trans ho)
   subst this
   rw [hd, put_get_eq (by rw [inv.size, hN]; exact ok.bd k o' t hi ho' hd)]
   simp [setV]
  ·have hlk' : listed.getD k false = true := by rwa [getD_set_ne false (Ne.symm hki)] at hlk
   rw [key k o' t (listed_lt hinv ho' hlk') ho' hd hki, inv.calm k o' t ho' hd hlk']
   simp [setV, hki]
 ·intro t ht
  have h1 : o.dst ≠ some t := ht i o ho (by simp [hl])
  rw [put_get_ne h1]
  exact inv.other t fun k o' ho' hlk => ht k o' ho' (getD_set_true hlk)
set_option maxRecDepth 100000 in
theorem gent_run {Q : Exit → Act → World → Prop} (ok : MixOk md ops n N []) (hN : a0.tmps.size = N)
 (good : ∀ k o, k < n → ops[k]? = some o → ∀ vs L w, At md ops k L → S L vs w → GenOp P ops S k o (fin [] vs (ops.toList.take k) 0 a0) vs L w) (g : Nat)
 (H : ∀ listed a w vs, HeadInv md ops n listed → (∀ i, i < n → listed.getD i false = true) → InvG S ops vs a0 listed a w → wpAny P md ops Q g listed a w) :
 ∀ (f : Nat) (listed : Array Bool) (a : Act) (w : World) (vs : Nat → Value), ((List.range n).countP fun i => !listed.getD i false) ≤ f → HeadInv md ops n listed → InvG S ops vs a0 listed a w →
  wpAny P md ops Q (f + g) listed a w := by
 intro f
 induction f with
 | zero =>
  intro listed a w vs hc hinv inv
  rw [Nat.zero_add]
  refine H listed a w vs hinv (fun i hi => ?_) inv
  have h0 : ((List.range n).countP fun i => !listed.getD i false) = 0 := by omega
  rw [List.countP_eq_zero] at h0
  have := h0 i (List.mem_range.2 hi)
  simpa using this
 | succ f ih =>
  intro listed a w vs hc hinv inv
  by_cases hall : ∀ i, i < n → listed.getD i false = true
  ·exact wpAny_fuel g listed a w (H listed a w vs hinv hall inv) (f + 1)
  ·have hex : ∃ i, i < n ∧ listed.getD i false = false := by
    apply Classical.byContradiction
    intro hno
    exact hall fun i hi => by
     cases h : listed.getD i false
     ·exact absurd ⟨i, hi, h⟩ hno
     ·rfl
   obtain ⟨i0, hi0, hl0⟩ := hex
   have hsz : ∀ i, i < n → i < listed.size := fun i hi => by rw [hinv.size]; have := ok.le; omega
   have hready : Region.ready md ops listed ≠ [] := by
    have : ∀ d i, i ≤ d → i < n → listed.getD i false = false → ∃ j, j ∈ Region.ready md ops listed := by
     intro d
     induction d with
     | zero =>
      intro i hid hi hl
      obtain ⟨o, ho⟩ : ∃ o, ops[i]? = some o := ⟨ops[i]'(by have := ok.le; omega), by simp [show i < ops.size by have := ok.le; omega]⟩
      refine ⟨i, mem_ready.2 ⟨getD_in (hsz i hi) hl, o, ho, fun e he hb => ?_⟩⟩
      have := ok.back i o hi ho e he hb
      omega
     | succ d ihd =>
      intro i hid hi hl
      obtain ⟨o, ho⟩ : ∃ o, ops[i]? = some o := ⟨ops[i]'(by have := ok.le; omega), by simp [show i < ops.size by have := ok.le; omega]⟩
      by_cases hw : ∀ e ∈ o.after, Region.binds md e = true → listed.getD e.on false = true
      ·exact ⟨i, mem_ready.2 ⟨getD_in (hsz i hi) hl, o, ho, hw⟩⟩
      ·have : ∃ e ∈ o.after, Region.binds md e = true ∧ listed.getD e.on false = false := by
        apply Classical.byContradiction
        intro hno
        exact hw fun e he hb => by
         cases h : listed.getD e.on false
         ·exact absurd ⟨e, he, hb, h⟩ hno
         ·rfl
       obtain ⟨e, he, hb, hle⟩ := this
       have hlt := ok.back i o hi ho e he hb
       exact ihd e.on (by omega) (by omega) hle
    obtain ⟨j, hj⟩ := this i0 i0 (Nat.le_refl _) hi0 hl0
    intro h0
    rw [h0] at hj
    cases hj
   rw [show f + 1 + g = (f + g) + 1 by omega]
   refine ⟨fun h0 => absurd h0 hready, fun i hir => ?_⟩
   have hin : i < n := by
    rcases Nat.lt_or_ge i n with h | h
    ·exact h
    ·exfalso
     obtain ⟨_, oi, hoi, _⟩ := mem_ready.1 hir
     have hlt : i < ops.size := (Array.getElem?_eq_some_iff.1 hoi).1
     rcases ok.tail with ht | ⟨ht, hs, hch⟩
     ·omega
     ·exact tail_waits hs hch ht hinv _ i0 rfl hi0 (getD_in (hsz i0 hi0) hl0) i h hir
   obtain ⟨hun, o, ho, hwaits⟩ := mem_ready.1 hir
   have hunf : listed.getD i false = false := getD_both hun
   have hcnt : ((List.range n).countP fun j => !(listed.setIfInBounds i true).getD j false) ≤ f := by
    have := countP_lt (p := fun j => !listed.getD j false) (q := fun j => !(listed.setIfInBounds i true).getD j false) (List.range n) (List.mem_range.2 hin)
     (fun j _ hj => by
       simp only [Bool.not_eq_true'] at hj ⊢
       cases h : listed.getD j false
       ·rfl
       ·rw [getD_set_true h] at hj; cases hj) (by simp only [hunf, Bool.not_false]) (by simp [hsz i hin])
    omega
   have hinv' := hinv.set hir hin
   have hat : At md ops i (ranOf listed) := ⟨hunf, needs_ran hinv _ i o ho hwaits⟩
   have hag := gent_agree ok hN hinv inv hin ho hir
   have hg := good i o hin ho vs (ranOf listed) w hat inv.s
   have hs : ∀ cs b, o.op ≠ .select cs b := fun cs b => Region.noSelect_spec ok.sel i o cs b ho
   unfold GenOp at hg
   rw [run_agree (ops := ops) hs hag, wanted_agree hag] at hg
   refine gen_wpOp ho hg fun u w' hs' => ih _ _ _ _ hcnt hinv' (inv_stepT ok hN hinv inv hin ho (hsz i hin) ?_)
   rw [ranOf_set (hsz i hin)]
   exact hs'
end
def GenT (P : Program) (full : List Oper) (n : Nat) (S : Ran → (Nat → Value) → World → Prop) (E : Act → World → Prop) : List Oper → Nat → ((Nat → Value) → Act) → Prop
 | [], _, A => ∀ vs L w', (∀ k, k < n → L k = true) → S L vs w' → E (A vs) w'
 | o :: l, k, A => (∀ vs L w, At .any full.toArray k L → S L vs w → GenOp P full.toArray S k o (A vs) vs L w) ∧ GenT P full n S E l (k + 1) (fun vs => (A vs).put o.dst (vs k))
set_option maxRecDepth 100000 in
theorem genT_out {P : Program} {full : List Oper} {n : Nat} {S : Ran → (Nat → Value) → World → Prop} {E : Act → World → Prop} : ∀ (l : List Oper) (k : Nat) (A : (Nat → Value) → Act), GenT P full n S E l k A →
 (∀ j o, l[j]? = some o → ∀ vs L w, At .any full.toArray (k + j) L → S L vs w → GenOp P full.toArray S (k + j) o (fin [] vs (l.take j) k (A vs)) vs L w) ∧ ∀ vs L w', (∀ k, k < n → L k = true) → S L vs w' → E (fin [] vs l k (A vs)) w'
 | [], _, _, h => ⟨fun j o hj => by simp at hj, h⟩
 | o :: l, k, A, h => by
  obtain ⟨h1, h2⟩ := genT_out l (k + 1) _ h.2
  refine ⟨fun j o' hj => ?_, h2⟩
  cases j with
  | zero =>
   simp only [List.getElem?_cons_zero, Option.some.injEq] at hj
   subst hj
   exact h.1
  | succ j =>
   have := h1 j o' (by simpa using hj)
   rw [show k + 1 + j = k + (j + 1) by omega] at this
   exact this
set_option maxRecDepth 100000 in
theorem wp_region_genT {P : Program} {id : Nat} {Q : Exit → Act → World → Prop} {a : Act} {w : World} {l : List Oper} (S : Ran → (Nat → Value) → World → Prop) (n N : Nat) (hm : P.follows .mixedOrders = true) (hB : mixB .any l.toArray n N [] = true)
 (hN : a.tmps.size = N) (h0 : S (fun _ => false) (fun _ => undef) w.drew)
 (h : GenT P l n S (fun a' w' => wpList P l.toArray Q (l.drop n) a' w') (l.take n) 0 (fun _ => a)) : (Code.region id l.toArray true).wp P Q a w := by
 have ok := mixOk_of hB
 have hle : n ≤ l.length := by simpa using ok.le
 obtain ⟨h1, h2⟩ := genT_out (l.take n) 0 _ h
 refine wp_region_any hm ?_
 have inv0 : HeadInv .any l.toArray n (Array.replicate l.toArray.size false) :=
  ⟨by simp, fun j oj _ hl => (by rw [getD_replicate_false] at hl; cases hl), fun t _ ht => getD_in (by simpa using ht) (getD_replicate_false _ _)⟩
 have key := gent_run (md := .any) (Q := Q) (ops := l.toArray) (S := S) (a0 := a) ok hN (fun k o hk ho vs L w' hL hS => by
  have := h1 k o (by rw [List.getElem?_take, if_pos hk]; simpa using ho) vs L w'
  rw [Nat.zero_add, List.take_take, Nat.min_eq_left (by omega)] at this
  exact this hL hS) (l.length - n) (by
  intro listed b w' vs hinv hall inv
  refine (show l.length - n = (l.drop n).length by simp) ▸ wpAny_of_seq (l.drop n) n listed b w' (fun j => by simp [List.getElem?_drop]) ?_ ?_
  ·have hls : listed = (Array.replicate n true) ++ (Array.replicate (l.length - n) false) := by
    refine Array.ext (by simp [hinv.size]; omega) fun i h1 h2 => ?_
    have hsz : i < l.length := by have := hinv.size; simp at this; omega
    by_cases hin : i < n
    ·have := hall i hin
     rw [Array.getElem_append_left (by simpa using hin)]
     simpa [h1] using this
    ·have := hinv.tail i (by omega) (by simpa using hsz)
     rw [Array.getElem_append_right (by simp; omega)]
     simpa [h1] using this
   have := ok.seq
   rw [hls]
   simpa using this
  ·have he : b = fin [] vs (l.take n) 0 a := by
    refine act_ext (inv.defers.trans (fin_defers _ _ _).symm) (inv.size.trans (fin_size _ _ _).symm) fun t => ?_
    by_cases hex : ∃ (k : Nat) (o' : Oper), k < n ∧ l.toArray[k]? = some o' ∧ o'.dst = some t
    ·obtain ⟨k, o', hk, ho', hd⟩ := hex
     have e1 := inv.calm k o' t ho' hd (hall k hk)
     have e2 := fin_at (fl := []) (val := vs) (l.take n) 0 a k o' (by rw [List.getElem?_take, if_pos hk]; simpa using ho') hd rfl (by rw [hN]; exact ok.bd k o' t hk ho' hd) (by
      intro j oj hj hne hdj
      rw [List.getElem?_take] at hj
      split at hj
      ·rename_i hjn
       exact ok.ne j oj k o' t hjn hk (by simpa using hj) ho' (Ne.symm hne) hdj hd
      ·cases hj)
     rw [Nat.zero_add] at e2
     rw [e1, e2]
    ·have e1 := inv.other t fun k o' ho' hl hd => hex ⟨k, o', listed_lt hinv ho' hl, ho', hd⟩
     have e2 := fin_other (fl := []) (val := vs) (t := t) (l.take n) 0 a fun j oj hj _ hd => by
      rw [List.getElem?_take] at hj
      split at hj
      ·rename_i hjn
       exact hex ⟨j, oj, hjn, by simpa using hj, hd⟩
      ·cases hj
     rw [e1, e2]
   rw [he]
   exact h2 vs (ranOf listed) w' hall inv.s)
 have := key n (Array.replicate l.toArray.size false) a w.drew (fun _ => undef) (by
  have := List.countP_le_length (p := fun i => !(Array.replicate l.toArray.size false).getD i false) (l := List.range n)
  simpa using this) inv0 ⟨by rw [show ranOf (Array.replicate l.toArray.size false) = fun _ => false from funext fun k => getD_replicate_false _ _]; exact h0, rfl, rfl, fun k o t _ _ hl => (by rw [getD_replicate_false] at hl; cases hl), fun t _ => rfl⟩
 rw [show n + (l.length - n) = l.toArray.size by simp; omega] at this
 exact this
section
variable {P : Program} {full l : List Oper} {S : Ran → (Nat → Value) → World → Prop} {E : Act → World → Prop} {o : Oper} {k n : Nat} {A A' : (Nat → Value) → Act}
set_option maxRecDepth 100000 in
theorem gent_cons (hc : ∀ vs L w, At .any full.toArray k L → S L vs w → GenOp P full.toArray S k o (A vs) vs L w) (hA : ∀ vs, (A vs).put o.dst (vs k) = A' vs) (h : GenT P full n S E l (k + 1) A') : GenT P full n S E (o :: l) k A := by
 obtain rfl : (fun vs => (A vs).put o.dst (vs k)) = A' := funext hA
 exact ⟨hc, h⟩
set_option maxRecDepth 100000 in
theorem gent_consR (hc : ∀ vs L w, At .any full.toArray k L → S L vs w → GenOp P full.toArray S k o (A vs) vs L w) (h : GenT P full n S E l (k + 1) A') (hA : ∀ vs, (A vs).put o.dst (vs k) = A' vs := by intro vs; simp only [Act.put, List.setIfInBounds_toArray, List.set_cons_succ, List.set_cons_zero]; rfl) : GenT P full n S E (o :: l) k A := gent_cons hc hA h
set_option maxRecDepth 100000 in
theorem gent_nil (h : ∀ vs L w', (∀ k, k < n → L k = true) → S L vs w' → E (A vs) w') : GenT P full n S E [] k A := h
end
end Go.Proofs.YtnbdpnlepcjmmaaGreat
