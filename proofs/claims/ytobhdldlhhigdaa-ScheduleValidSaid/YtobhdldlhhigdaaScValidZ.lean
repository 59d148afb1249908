/-
  ScheduleValid, for every input: the law returns true, and each argument reads behind the call as it read before. No condition.
-/
import Derived.Test.YtobhdldlhhigdaaScValidK5
import Derived.Deep.DeepCutAuto
import Derived.Deep.CutBlock
namespace Go.Proofs.Ytobhdldlhhigdaa
open Go.RowKit Go.Maps
set_option maxRecDepth 100000
section
variable {ns ls l : List Q4} {cs : List Int} {wk : Int}
def UpTo (ns ls : List Q4) (W : Int → Int) (wk : Int) (l : List Q4) (t : Nat) : Prop := ∀ j s, j < t → l[j]? = some s → slotOk ns ls W wk l j s = true
theorem valid_all (hp : probB ns ls cs wk = true) (hl : l.length = ns.length) (h : UpTo ns ls (wOf ns cs) wk l l.length) : validS ns ls cs wk l = true := by
 unfold validS allOk
 rw [hp, Bool.true_and, hl]
 simp only [beq_self_eq_true, Bool.true_and, List.all_eq_true, List.mem_range]
 intro j hj
 have hx := List.getElem?_eq_getElem (l := l) (i := j) (by omega)
 have hg : l.getD j q0 = l[j] := by rw [List.getD_eq_getElem?_getD, hx]; rfl
 rw [hg]
 exact h j _ (by omega) hx
theorem upto_succ {W : Int → Int} {t : Nat} {s : Q4} (h : UpTo ns ls W wk l t) (hx : l[t]? = some s) (h1 : oneOk ns W wk l t s = true) (h2 : readyS ls l s.a s.c = true) (h3 : (l.take t).all (fun v => !overQ v s) = true) : UpTo ns ls W wk l (t + 1) := by
 intro j x hj hjx
 by_cases e : j = t
 ·subst e
  rw [hx] at hjx
  injection hjx with hjx
  subst hjx
  rw [slotOk_split, h1, h2, h3]
  rfl
 ·exact h j x (by omega) hjx
theorem not_valid_ready {t : Nat} {s : Q4} (hp : probB ns ls cs wk = true) (hl : l.length = ns.length) (hx : l[t]? = some s) (h : readyS ls l s.a s.c = false) : validS ns ls cs wk l = false := by
 cases e : validS ns ls cs wk l
 ·rfl
 ·have := (((valid_iff hp hl).1 e).2 t s hx).1
  rw [h] at this
  cases this
theorem not_valid_over {t u : Nat} {s v : Q4} (hp : probB ns ls cs wk = true) (hl : l.length = ns.length) (hx : l[t]? = some s) (hu : l[u]? = some v) (hne : u ≠ t) (h : overQ v s = true) : validS ns ls cs wk l = false := by
 cases e : validS ns ls cs wk l
 ·rfl
 ·have := (((valid_iff hp hl).1 e).2 t s hx).2 u v hne hu
  rw [h] at this
  cases this
end
set_option maxHeartbeats 16000000 in
theorem rvalid25_any {A A2 A3 A4 : Option Addr} {c2 : Nat} {ns ls l : List Q4} {cs : List Int} {w : World} (c c3 c4 : Nat) (wi : Int) (h : GOK w A A2 c2 ns ls) (h3 : Ints w A3 cs) (hl3 : cs.length ≤ 9223372036854775807) (h4 : Qs w A4 l) (hl4 : l.length ≤ 9223372036854775807) (ho4 : ∀ s ∈ l, OK4 s) :
 Calls Try.prog 24 #[.agg #[.slice A ns.length c, .slice A2 ls.length c2], .slice A3 cs.length c3, .int .i64 wi, .slice A4 l.length c4] w fun e w' => e = .returned (.bool (validS ns ls cs wi l)) ∧ Grows w w' := by
 have hnl := h.nl
 have k1 := Blk.new w 26 #[.slice A ns.length c, .slice A2 ls.length c2]
 have hB := (Below.refl w.heap.size w).alloc (Nat.le_refl _) (Obj.cells #[.slice A ns.length c, .slice A2 ls.length c2] 26)
 go_enter Try.func24, Try.ntmps24
 go_upto_region 1 with fail
 generalize World.alloc w _ = w1 at *
 have x1 := k1.cell
 go_wp2_with fail
 refine (rproblem_any c c3 wi (h.grows hB) (h3.grows hB) hl3).mono ?_
 cases hp : probB ns ls cs wi
 ·have HE : Hid (validS ns ls cs wi l = false) := Lib.hid (by simp [validS, hp])
  rintro e w2 ⟨rfl, hq⟩
  replace hB := below_grows hB (Nat.le_refl _) hq
  clear hq x1
  go_wp2
  go_ret
  rw [HE.out]
  exact ⟨rfl, hB⟩
 rintro e w0 ⟨rfl, hq⟩
 have HP := Lib.hid hp
 have hln := (valid_len (prob_iff.1 hp).1).1
 have HCS := Lib.hid (okW_len (prob_iff.1 hp).2.1)
 clear hp
 replace hB := below_grows hB (Nat.le_refl _) hq
 replace k1 := k1.grows hq
 clear hq x1
 have x1 := k1.cell
 by_cases hll : l.length = ns.length
 case neg =>
  have HE : Hid (validS ns ls cs wi l = false) := Lib.hid (by simp [validS, hll])
  have hlen2 : ((l.length : Int) != (ns.length : Int)) = true := by
   simp only [bne_iff_ne, ne_eq]
   omega
  go_wp2
  go_ret
  rw [HE.out]
  exact ⟨rfl, hB⟩
 have hlen2 : ((l.length : Int) != (ns.length : Int)) = false := by
  simp only [bne_eq_false_iff_eq]
  omega
 have HL := Lib.hid hll
 have hl64 : l.length ≤ 64 := by omega
 clear hll
 go_upto_region 3 with fail
 clear x1 hlen2
 go_wp2_with fail
 go_loopw [9] (fun i wr => ∃ t : Nat, t ≤ l.length ∧ i = .int .i64 t ∧ Hid (UpTo ns ls (wOf ns cs) wi l t) ∧ Blk wr w.heap.size 26 #[.slice A ns.length c, .slice A2 ls.length c2] ∧ Below w.heap.size w wr) (fun i _ => l.length - (intOf i).toNat)
 case atStart => exact ⟨0, by omega, rfl, Lib.hid (fun j s hj _ => absurd hj (by omega)), k1, hB⟩
 case round =>
  clear k1 hB
  obtain ⟨t, ht, rfl, HF, k1, hB⟩ := hrel
  by_cases hlt : t < l.length
  ·obtain ⟨ad, s, e1, had, hx, q0, q1, q2, q3⟩ := (h4.grows hB).elem hlt
   subst e1
   have HX := Lib.hid hx
   have HI4 := Lib.hid (ho4 s (List.mem_of_getElem? hx))
   clear hx
   have k10 := Blk.new wr 53 #[.int .i64 s.a, .int .i64 s.b, .int .i64 s.c, .int .i64 s.d]
   have hq := (Below.refl wr.heap.size wr).alloc (Nat.le_refl _) (Obj.cells #[.int .i64 s.a, .int .i64 s.b, .int .i64 s.c, .int .i64 s.d] 53)
   go_upto_region 7 with fail
   clear q0 q1 q2 q3
   replace hB := below_grows hB (Nat.le_refl _) hq
   replace k1 := k1.grows hq
   clear hq
   generalize World.alloc wr _ = w6 at *
   generalize wr.heap.size = G10 at *
   obtain ⟨pz, hpz⟩ : ∃ pz, placeV (placeN ns s.a) = pz := ⟨_, rfl⟩
   have HPZ := Lib.hid hpz
   clear hpz
   have x1 := k1.cell
   have x10 := k10.cell
   go_wp2_with fail
   refine (rplace_is A A2 c c2 ls.length ns s.a pz _ (h.n.grows hB) h.nl HPZ.out).mono ?_
   rintro e w7 ⟨rfl, hq⟩
   replace hB := below_grows hB (Nat.le_refl _) hq
   replace k1 := k1.grows hq
   replace k10 := k10.grows hq
   clear hq x1 x10
   go_upto_region 8 with fail
   cases hpn : (placeN ns s.a).isSome
   case false =>
    have HE : Hid (validS ns ls cs wi l = false) := Lib.hid (not_valid_one HP.out HL.out HX.out (by unfold oneOk; simp [hpn]))
    have hz : pz = -1 := by rw [← HPZ.out]; exact placeV_none hpn
    subst hz
    have dd0 : decide ((-1 : Int) < 0) = true := rfl
    clear hpn
    obtain ⟨S, HI, HO⟩ := hideS fun (L : Ran) (vs : Nat → Value) (w' : World) => Grows w7 w' ∧ KnS [some (.int .i64 (-1)), some (.bool true), some (.bool true), none, none, none, none, none, none, some (.bool true), some (.bool true), none, none, none, some (.bool true), some (.bool true), none, none, none, none, some (.bool true), some (.bool true), none, none, none, some (.bool true), some (.bool true), none, none, none, none, none, some (.bool true), some (.bool true), none, none, none, none, none, none, none, none, none, none, some (.bool true), some (.bool true), none, none, none, none, none, none, none, none, some (.bool true)] L vs
    refine wp_region_genW S 128 (by kernel_rfl) (by kernel_rfl) rfl ?_ ?_
    ·exact HI.out _ _ _ ⟨Grows.drew' _, kn_none _ _⟩
    refine gen_consR (fun vs L w1 hL hw1 => ?_) ?_
    ·obtain ⟨q0, q1⟩ := HO.out _ _ _ hw1
     refine gen_plain rfl ?_
     go_simp
     exact gr_val (HI.out _ _ _ ⟨q0, kn_known q1 rfl⟩)
    refine gen_consR (fun vs L w1 hL hw1 => ?_) ?_
    ·obtain ⟨q0, q1⟩ := HO.out _ _ _ hw1
     refine gen_plain rfl ?_
     have l0 : L 0 = true := hL.need 0 (by kernel_rfl)
     have e0 := q1 0 _ rfl l0
     simp only [e0]
     go_simp
     exact gr_val (HI.out _ _ _ ⟨q0, kn_known q1 rfl⟩)
    refine gen_consR (fun vs L w1 hL hw1 => ?_) ?_
    ·obtain ⟨q0, q1⟩ := HO.out _ _ _ hw1
     refine gen_plain rfl ?_
     have l1 : L 1 = true := hL.need 1 (by kernel_rfl)
     have e1 := q1 1 _ rfl l1
     simp only [e1]
     go_simp
     exact gr_val (HI.out _ _ _ ⟨q0, kn_known q1 rfl⟩)
    refine gen_consR (fun vs L w1 hL hw1 => ?_) ?_
    ·obtain ⟨q0, q1⟩ := HO.out _ _ _ hw1
     have l2 : L 2 = true := hL.need 2 (by kernel_rfl)
     have e2 := q1 2 _ rfl l2
     refine gen_no ?_ ?_
     ·simp only [e2]
      rfl
     ·exact HI.out _ _ _ ⟨q0, kn_free q1 rfl⟩
    refine gen_consR (fun vs L w1 hL hw1 => ?_) ?_
    ·obtain ⟨q0, q1⟩ := HO.out _ _ _ hw1
     have l2 : L 2 = true := hL.need 2 (by kernel_rfl)
     have e2 := q1 2 _ rfl l2
     refine gen_no ?_ ?_
     ·simp only [e2]
      rfl
     ·exact HI.out _ _ _ ⟨q0, kn_free q1 rfl⟩
    refine gen_consR (fun vs L w1 hL hw1 => ?_) ?_
    ·obtain ⟨q0, q1⟩ := HO.out _ _ _ hw1
     have l2 : L 2 = true := hL.need 2 (by kernel_rfl)
     have e2 := q1 2 _ rfl l2
     refine gen_no ?_ ?_
     ·simp only [e2]
      rfl
     ·exact HI.out _ _ _ ⟨q0, kn_free q1 rfl⟩
    refine gen_consR (fun vs L w1 hL hw1 => ?_) ?_
    ·obtain ⟨q0, q1⟩ := HO.out _ _ _ hw1
     have l2 : L 2 = true := hL.need 2 (by kernel_rfl)
     have e2 := q1 2 _ rfl l2
     refine gen_no ?_ ?_
     ·simp only [e2]
      rfl
     ·exact HI.out _ _ _ ⟨q0, kn_free q1 rfl⟩
    refine gen_consR (fun vs L w1 hL hw1 => ?_) ?_
    ·obtain ⟨q0, q1⟩ := HO.out _ _ _ hw1
     have l2 : L 2 = true := hL.need 2 (by kernel_rfl)
     have e2 := q1 2 _ rfl l2
     refine gen_no ?_ ?_
     ·simp only [e2]
      rfl
     ·exact HI.out _ _ _ ⟨q0, kn_free q1 rfl⟩
    refine gen_consR (fun vs L w1 hL hw1 => ?_) ?_
    ·obtain ⟨q0, q1⟩ := HO.out _ _ _ hw1
     have l2 : L 2 = true := hL.need 2 (by kernel_rfl)
     have e2 := q1 2 _ rfl l2
     refine gen_no ?_ ?_
     ·simp only [e2]
      rfl
     ·exact HI.out _ _ _ ⟨q0, kn_free q1 rfl⟩
    refine gen_consR (fun vs L w1 hL hw1 => ?_) ?_
    ·obtain ⟨q0, q1⟩ := HO.out _ _ _ hw1
     refine gen_plain rfl ?_
     have l2 : L 2 = true := hL.need 2 (by kernel_rfl)
     have e2 := q1 2 _ rfl l2
     simp only [e2]
     go_simp
     exact gr_val (HI.out _ _ _ ⟨q0, kn_known q1 rfl⟩)
    refine gen_consR (fun vs L w1 hL hw1 => ?_) ?_
    ·obtain ⟨q0, q1⟩ := HO.out _ _ _ hw1
     refine gen_plain rfl ?_
     have l9 : L 9 = true := hL.need 9 (by kernel_rfl)
     have e9 := q1 9 _ rfl l9
     simp only [e9]
     go_simp
     exact gr_val (HI.out _ _ _ ⟨q0, kn_known q1 rfl⟩)
    refine gen_consR (fun vs L w1 hL hw1 => ?_) ?_
    ·obtain ⟨q0, q1⟩ := HO.out _ _ _ hw1
     have l10 : L 10 = true := hL.need 10 (by kernel_rfl)
     have e10 := q1 10 _ rfl l10
     refine gen_no ?_ ?_
     ·simp only [e10]
      rfl
     ·exact HI.out _ _ _ ⟨q0, kn_free q1 rfl⟩
    refine gen_consR (fun vs L w1 hL hw1 => ?_) ?_
    ·obtain ⟨q0, q1⟩ := HO.out _ _ _ hw1
     have l10 : L 10 = true := hL.need 10 (by kernel_rfl)
     have e10 := q1 10 _ rfl l10
     refine gen_no ?_ ?_
     ·simp only [e10]
      rfl
     ·exact HI.out _ _ _ ⟨q0, kn_free q1 rfl⟩
    refine gen_consR (fun vs L w1 hL hw1 => ?_) ?_
    ·obtain ⟨q0, q1⟩ := HO.out _ _ _ hw1
     have l10 : L 10 = true := hL.need 10 (by kernel_rfl)
     have e10 := q1 10 _ rfl l10
     refine gen_no ?_ ?_
     ·simp only [e10]
      rfl
     ·exact HI.out _ _ _ ⟨q0, kn_free q1 rfl⟩
    refine gen_consR (fun vs L w1 hL hw1 => ?_) ?_
    ·obtain ⟨q0, q1⟩ := HO.out _ _ _ hw1
     refine gen_plain rfl ?_
     have l10 : L 10 = true := hL.need 10 (by kernel_rfl)
     have e10 := q1 10 _ rfl l10
     simp only [e10]
     go_simp
     exact gr_val (HI.out _ _ _ ⟨q0, kn_known q1 rfl⟩)
    refine gen_consR (fun vs L w1 hL hw1 => ?_) ?_
    ·obtain ⟨q0, q1⟩ := HO.out _ _ _ hw1
     refine gen_plain rfl ?_
     have l14 : L 14 = true := hL.need 14 (by kernel_rfl)
     have e14 := q1 14 _ rfl l14
     simp only [e14]
     go_simp
     exact gr_val (HI.out _ _ _ ⟨q0, kn_known q1 rfl⟩)
    refine gen_consR (fun vs L w1 hL hw1 => ?_) ?_
    ·obtain ⟨q0, q1⟩ := HO.out _ _ _ hw1
     have l15 : L 15 = true := hL.need 15 (by kernel_rfl)
     have e15 := q1 15 _ rfl l15
     refine gen_no ?_ ?_
     ·simp only [e15]
      rfl
     ·exact HI.out _ _ _ ⟨q0, kn_free q1 rfl⟩
    refine gen_consR (fun vs L w1 hL hw1 => ?_) ?_
    ·obtain ⟨q0, q1⟩ := HO.out _ _ _ hw1
     have l15 : L 15 = true := hL.need 15 (by kernel_rfl)
     have e15 := q1 15 _ rfl l15
     refine gen_no ?_ ?_
     ·simp only [e15]
      rfl
     ·exact HI.out _ _ _ ⟨q0, kn_free q1 rfl⟩
    refine gen_consR (fun vs L w1 hL hw1 => ?_) ?_
    ·obtain ⟨q0, q1⟩ := HO.out _ _ _ hw1
     have l15 : L 15 = true := hL.need 15 (by kernel_rfl)
     have e15 := q1 15 _ rfl l15
     refine gen_no ?_ ?_
     ·simp only [e15]
      rfl
     ·exact HI.out _ _ _ ⟨q0, kn_free q1 rfl⟩
    refine gen_consR (fun vs L w1 hL hw1 => ?_) ?_
    ·obtain ⟨q0, q1⟩ := HO.out _ _ _ hw1
     have l15 : L 15 = true := hL.need 15 (by kernel_rfl)
     have e15 := q1 15 _ rfl l15
     refine gen_no ?_ ?_
     ·simp only [e15]
      rfl
     ·exact HI.out _ _ _ ⟨q0, kn_free q1 rfl⟩
    refine gen_consR (fun vs L w1 hL hw1 => ?_) ?_
    ·obtain ⟨q0, q1⟩ := HO.out _ _ _ hw1
     refine gen_plain rfl ?_
     have l15 : L 15 = true := hL.need 15 (by kernel_rfl)
     have e15 := q1 15 _ rfl l15
     simp only [e15]
     go_simp
     exact gr_val (HI.out _ _ _ ⟨q0, kn_known q1 rfl⟩)
    refine gen_consR (fun vs L w1 hL hw1 => ?_) ?_
    ·obtain ⟨q0, q1⟩ := HO.out _ _ _ hw1
     refine gen_plain rfl ?_
     have l20 : L 20 = true := hL.need 20 (by kernel_rfl)
     have e20 := q1 20 _ rfl l20
     simp only [e20]
     go_simp
     exact gr_val (HI.out _ _ _ ⟨q0, kn_known q1 rfl⟩)
    refine gen_consR (fun vs L w1 hL hw1 => ?_) ?_
    ·obtain ⟨q0, q1⟩ := HO.out _ _ _ hw1
     have l21 : L 21 = true := hL.need 21 (by kernel_rfl)
     have e21 := q1 21 _ rfl l21
     refine gen_no ?_ ?_
     ·simp only [e21]
      rfl
     ·exact HI.out _ _ _ ⟨q0, kn_free q1 rfl⟩
    refine gen_consR (fun vs L w1 hL hw1 => ?_) ?_
    ·obtain ⟨q0, q1⟩ := HO.out _ _ _ hw1
     have l21 : L 21 = true := hL.need 21 (by kernel_rfl)
     have e21 := q1 21 _ rfl l21
     refine gen_no ?_ ?_
     ·simp only [e21]
      rfl
     ·exact HI.out _ _ _ ⟨q0, kn_free q1 rfl⟩
    refine gen_consR (fun vs L w1 hL hw1 => ?_) ?_
    ·obtain ⟨q0, q1⟩ := HO.out _ _ _ hw1
     have l21 : L 21 = true := hL.need 21 (by kernel_rfl)
     have e21 := q1 21 _ rfl l21
     refine gen_no ?_ ?_
     ·simp only [e21]
      rfl
     ·exact HI.out _ _ _ ⟨q0, kn_free q1 rfl⟩
    refine gen_consR (fun vs L w1 hL hw1 => ?_) ?_
    ·obtain ⟨q0, q1⟩ := HO.out _ _ _ hw1
     refine gen_plain rfl ?_
     have l21 : L 21 = true := hL.need 21 (by kernel_rfl)
     have e21 := q1 21 _ rfl l21
     simp only [e21]
     go_simp
     exact gr_val (HI.out _ _ _ ⟨q0, kn_known q1 rfl⟩)
    refine gen_consR (fun vs L w1 hL hw1 => ?_) ?_
    ·obtain ⟨q0, q1⟩ := HO.out _ _ _ hw1
     refine gen_plain rfl ?_
     have l25 : L 25 = true := hL.need 25 (by kernel_rfl)
     have e25 := q1 25 _ rfl l25
     simp only [e25]
     go_simp
     exact gr_val (HI.out _ _ _ ⟨q0, kn_known q1 rfl⟩)
    refine gen_consR (fun vs L w1 hL hw1 => ?_) ?_
    ·obtain ⟨q0, q1⟩ := HO.out _ _ _ hw1
     have l26 : L 26 = true := hL.need 26 (by kernel_rfl)
     have e26 := q1 26 _ rfl l26
     refine gen_no ?_ ?_
     ·simp only [e26]
      rfl
     ·exact HI.out _ _ _ ⟨q0, kn_free q1 rfl⟩
    refine gen_consR (fun vs L w1 hL hw1 => ?_) ?_
    ·obtain ⟨q0, q1⟩ := HO.out _ _ _ hw1
     have l26 : L 26 = true := hL.need 26 (by kernel_rfl)
     have e26 := q1 26 _ rfl l26
     refine gen_no ?_ ?_
     ·simp only [e26]
      rfl
     ·exact HI.out _ _ _ ⟨q0, kn_free q1 rfl⟩
    refine gen_consR (fun vs L w1 hL hw1 => ?_) ?_
    ·obtain ⟨q0, q1⟩ := HO.out _ _ _ hw1
     have l26 : L 26 = true := hL.need 26 (by kernel_rfl)
     have e26 := q1 26 _ rfl l26
     refine gen_no ?_ ?_
     ·simp only [e26]
      rfl
     ·exact HI.out _ _ _ ⟨q0, kn_free q1 rfl⟩
    refine gen_consR (fun vs L w1 hL hw1 => ?_) ?_
    ·obtain ⟨q0, q1⟩ := HO.out _ _ _ hw1
     have l26 : L 26 = true := hL.need 26 (by kernel_rfl)
     have e26 := q1 26 _ rfl l26
     refine gen_no ?_ ?_
     ·simp only [e26]
      rfl
     ·exact HI.out _ _ _ ⟨q0, kn_free q1 rfl⟩
    refine gen_consR (fun vs L w1 hL hw1 => ?_) ?_
    ·obtain ⟨q0, q1⟩ := HO.out _ _ _ hw1
     have l26 : L 26 = true := hL.need 26 (by kernel_rfl)
     have e26 := q1 26 _ rfl l26
     refine gen_no ?_ ?_
     ·simp only [e26]
      rfl
     ·exact HI.out _ _ _ ⟨q0, kn_free q1 rfl⟩
    refine gen_consR (fun vs L w1 hL hw1 => ?_) ?_
    ·obtain ⟨q0, q1⟩ := HO.out _ _ _ hw1
     refine gen_plain rfl ?_
     have l26 : L 26 = true := hL.need 26 (by kernel_rfl)
     have e26 := q1 26 _ rfl l26
     simp only [e26]
     go_simp
     exact gr_val (HI.out _ _ _ ⟨q0, kn_known q1 rfl⟩)
    refine gen_consR (fun vs L w1 hL hw1 => ?_) ?_
    ·obtain ⟨q0, q1⟩ := HO.out _ _ _ hw1
     refine gen_plain rfl ?_
     have l32 : L 32 = true := hL.need 32 (by kernel_rfl)
     have e32 := q1 32 _ rfl l32
     simp only [e32]
     go_simp
     exact gr_val (HI.out _ _ _ ⟨q0, kn_known q1 rfl⟩)
    refine gen_consR (fun vs L w1 hL hw1 => ?_) ?_
    ·obtain ⟨q0, q1⟩ := HO.out _ _ _ hw1
     have l33 : L 33 = true := hL.need 33 (by kernel_rfl)
     have e33 := q1 33 _ rfl l33
     refine gen_no ?_ ?_
     ·simp only [e33]
      rfl
     ·exact HI.out _ _ _ ⟨q0, kn_free q1 rfl⟩
    refine gen_consR (fun vs L w1 hL hw1 => ?_) ?_
    ·obtain ⟨q0, q1⟩ := HO.out _ _ _ hw1
     have l33 : L 33 = true := hL.need 33 (by kernel_rfl)
     have e33 := q1 33 _ rfl l33
     refine gen_no ?_ ?_
     ·simp only [e33]
      rfl
     ·exact HI.out _ _ _ ⟨q0, kn_free q1 rfl⟩
    refine gen_consR (fun vs L w1 hL hw1 => ?_) ?_
    ·obtain ⟨q0, q1⟩ := HO.out _ _ _ hw1
     have l33 : L 33 = true := hL.need 33 (by kernel_rfl)
     have e33 := q1 33 _ rfl l33
     refine gen_no ?_ ?_
     ·simp only [e33]
      rfl
     ·exact HI.out _ _ _ ⟨q0, kn_free q1 rfl⟩
    refine gen_consR (fun vs L w1 hL hw1 => ?_) ?_
    ·obtain ⟨q0, q1⟩ := HO.out _ _ _ hw1
     have l33 : L 33 = true := hL.need 33 (by kernel_rfl)
     have e33 := q1 33 _ rfl l33
     refine gen_no ?_ ?_
     ·simp only [e33]
      rfl
     ·exact HI.out _ _ _ ⟨q0, kn_free q1 rfl⟩
    refine gen_consR (fun vs L w1 hL hw1 => ?_) ?_
    ·obtain ⟨q0, q1⟩ := HO.out _ _ _ hw1
     have l33 : L 33 = true := hL.need 33 (by kernel_rfl)
     have e33 := q1 33 _ rfl l33
     refine gen_no ?_ ?_
     ·simp only [e33]
      rfl
     ·exact HI.out _ _ _ ⟨q0, kn_free q1 rfl⟩
    refine gen_consR (fun vs L w1 hL hw1 => ?_) ?_
    ·obtain ⟨q0, q1⟩ := HO.out _ _ _ hw1
     have l33 : L 33 = true := hL.need 33 (by kernel_rfl)
     have e33 := q1 33 _ rfl l33
     refine gen_no ?_ ?_
     ·simp only [e33]
      rfl
     ·exact HI.out _ _ _ ⟨q0, kn_free q1 rfl⟩
    refine gen_consR (fun vs L w1 hL hw1 => ?_) ?_
    ·obtain ⟨q0, q1⟩ := HO.out _ _ _ hw1
     have l33 : L 33 = true := hL.need 33 (by kernel_rfl)
     have e33 := q1 33 _ rfl l33
     refine gen_no ?_ ?_
     ·simp only [e33]
      rfl
     ·exact HI.out _ _ _ ⟨q0, kn_free q1 rfl⟩
    refine gen_consR (fun vs L w1 hL hw1 => ?_) ?_
    ·obtain ⟨q0, q1⟩ := HO.out _ _ _ hw1
     have l33 : L 33 = true := hL.need 33 (by kernel_rfl)
     have e33 := q1 33 _ rfl l33
     refine gen_no ?_ ?_
     ·simp only [e33]
      rfl
     ·exact HI.out _ _ _ ⟨q0, kn_free q1 rfl⟩
    refine gen_consR (fun vs L w1 hL hw1 => ?_) ?_
    ·obtain ⟨q0, q1⟩ := HO.out _ _ _ hw1
     have l33 : L 33 = true := hL.need 33 (by kernel_rfl)
     have e33 := q1 33 _ rfl l33
     refine gen_no ?_ ?_
     ·simp only [e33]
      rfl
     ·exact HI.out _ _ _ ⟨q0, kn_free q1 rfl⟩
    refine gen_consR (fun vs L w1 hL hw1 => ?_) ?_
    ·obtain ⟨q0, q1⟩ := HO.out _ _ _ hw1
     have l33 : L 33 = true := hL.need 33 (by kernel_rfl)
     have e33 := q1 33 _ rfl l33
     refine gen_no ?_ ?_
     ·simp only [e33]
      rfl
     ·exact HI.out _ _ _ ⟨q0, kn_free q1 rfl⟩
    refine gen_consR (fun vs L w1 hL hw1 => ?_) ?_
    ·obtain ⟨q0, q1⟩ := HO.out _ _ _ hw1
     refine gen_plain rfl ?_
     have l33 : L 33 = true := hL.need 33 (by kernel_rfl)
     have e33 := q1 33 _ rfl l33
     simp only [e33]
     go_simp
     exact gr_val (HI.out _ _ _ ⟨q0, kn_known q1 rfl⟩)
    refine gen_consR (fun vs L w1 hL hw1 => ?_) ?_
    ·obtain ⟨q0, q1⟩ := HO.out _ _ _ hw1
     refine gen_plain rfl ?_
     have l44 : L 44 = true := hL.need 44 (by kernel_rfl)
     have e44 := q1 44 _ rfl l44
     simp only [e44]
     go_simp
     exact gr_val (HI.out _ _ _ ⟨q0, kn_known q1 rfl⟩)
    refine gen_consR (fun vs L w1 hL hw1 => ?_) ?_
    ·obtain ⟨q0, q1⟩ := HO.out _ _ _ hw1
     have l45 : L 45 = true := hL.need 45 (by kernel_rfl)
     have e45 := q1 45 _ rfl l45
     refine gen_no ?_ ?_
     ·simp only [e45]
      rfl
     ·exact HI.out _ _ _ ⟨q0, kn_free q1 rfl⟩
    refine gen_consR (fun vs L w1 hL hw1 => ?_) ?_
    ·obtain ⟨q0, q1⟩ := HO.out _ _ _ hw1
     have l45 : L 45 = true := hL.need 45 (by kernel_rfl)
     have e45 := q1 45 _ rfl l45
     refine gen_no ?_ ?_
     ·simp only [e45]
      rfl
     ·exact HI.out _ _ _ ⟨q0, kn_free q1 rfl⟩
    refine gen_consR (fun vs L w1 hL hw1 => ?_) ?_
    ·obtain ⟨q0, q1⟩ := HO.out _ _ _ hw1
     have l45 : L 45 = true := hL.need 45 (by kernel_rfl)
     have e45 := q1 45 _ rfl l45
     refine gen_no ?_ ?_
     ·simp only [e45]
      rfl
     ·exact HI.out _ _ _ ⟨q0, kn_free q1 rfl⟩
    refine gen_consR (fun vs L w1 hL hw1 => ?_) ?_
    ·obtain ⟨q0, q1⟩ := HO.out _ _ _ hw1
     have l45 : L 45 = true := hL.need 45 (by kernel_rfl)
     have e45 := q1 45 _ rfl l45
     refine gen_no ?_ ?_
     ·simp only [e45]
      rfl
     ·exact HI.out _ _ _ ⟨q0, kn_free q1 rfl⟩
    refine gen_consR (fun vs L w1 hL hw1 => ?_) ?_
    ·obtain ⟨q0, q1⟩ := HO.out _ _ _ hw1
     have l45 : L 45 = true := hL.need 45 (by kernel_rfl)
     have e45 := q1 45 _ rfl l45
     refine gen_no ?_ ?_
     ·simp only [e45]
      rfl
     ·exact HI.out _ _ _ ⟨q0, kn_free q1 rfl⟩
    refine gen_consR (fun vs L w1 hL hw1 => ?_) ?_
    ·obtain ⟨q0, q1⟩ := HO.out _ _ _ hw1
     have l45 : L 45 = true := hL.need 45 (by kernel_rfl)
     have e45 := q1 45 _ rfl l45
     refine gen_no ?_ ?_
     ·simp only [e45]
      rfl
     ·exact HI.out _ _ _ ⟨q0, kn_free q1 rfl⟩
    refine gen_consR (fun vs L w1 hL hw1 => ?_) ?_
    ·obtain ⟨q0, q1⟩ := HO.out _ _ _ hw1
     have l45 : L 45 = true := hL.need 45 (by kernel_rfl)
     have e45 := q1 45 _ rfl l45
     refine gen_no ?_ ?_
     ·simp only [e45]
      rfl
     ·exact HI.out _ _ _ ⟨q0, kn_free q1 rfl⟩
    refine gen_consR (fun vs L w1 hL hw1 => ?_) ?_
    ·obtain ⟨q0, q1⟩ := HO.out _ _ _ hw1
     have l45 : L 45 = true := hL.need 45 (by kernel_rfl)
     have e45 := q1 45 _ rfl l45
     refine gen_no ?_ ?_
     ·simp only [e45]
      rfl
     ·exact HI.out _ _ _ ⟨q0, kn_free q1 rfl⟩
    refine gen_consR (fun vs L w1 hL hw1 => ?_) ?_
    ·obtain ⟨q0, q1⟩ := HO.out _ _ _ hw1
     refine gen_plain rfl ?_
     have l45 : L 45 = true := hL.need 45 (by kernel_rfl)
     have e45 := q1 45 _ rfl l45
     simp only [e45]
     go_simp
     exact gr_val (HI.out _ _ _ ⟨q0, kn_known q1 rfl⟩)
    refine gen_nil ?_
    intro vs L W6 hall hS
    obtain ⟨hq, q1⟩ := HO.out _ _ _ hS
    have eX54 := q1 54 _ rfl (hall 54 (by simp))
    clear hall hS HI HO q1
    simp only [eX54]
    replace hB := below_grows hB (Nat.le_refl _) hq
    replace k1 := k1.grows hq
    clear hq
    go_wp2
    go_ret
    rw [HE.out]
    exact ⟨rfl, hB⟩
   obtain ⟨p, np, hpp, hpv, -, -, hpl⟩ := placeV_some hpn
   have hz : pz = (p : Int) := by rw [← HPZ.out]; exact hpv
   subst hz
   have HKP := Lib.hid hpp
   clear hpn hpp hpv
   have dd0 : decide ((p : Int) < 0) = false := by simp
   obtain ⟨z2, hz2⟩ : ∃ z2, placeV (placeN l s.a) = z2 := ⟨_, rfl⟩
   by_cases b1 : z2 = (t : Int)
   case neg =>
    have HZ2 := Lib.hid hz2
    have dd1 : (z2 != (t : Int)) = true := by simpa using b1
    have HE : Hid (validS ns ls cs wi l = false) := Lib.hid (by
     refine not_valid_one HP.out HL.out HX.out ?_
     cases he : oneOk ns (wOf ns cs) wi l t s
     ·rfl
     ·exfalso
      have := (one_place he).2
      rw [this] at hz2
      exact b1 hz2.symm)
    clear b1 hz2
    obtain ⟨S, HI, HO⟩ := hideS fun (L : Ran) (vs : Nat → Value) (w' : World) => Grows w7 w' ∧ KnS [some (.int .i64 (p : Int)), some (.bool false), some (.bool false), some (.slice (some ad) l.length c4), some (.pointer (some ⟨G10, 0, none⟩)), some (.int .i64 s.a), some (.int .i64 z2), some (.int .i64 (t : Int)), some (.bool true), some (.bool true), some (.bool true), none, none, none, some (.bool true), some (.bool true), none, none, none, none, some (.bool true), some (.bool true), none, none, none, some (.bool true), some (.bool true), none, none, none, none, none, some (.bool true), some (.bool true), none, none, none, none, none, none, none, none, none, none, some (.bool true), some (.bool true), none, none, none, none, none, none, none, none, some (.bool true)] L vs
    refine wp_region_genW S 128 (by kernel_rfl) (by kernel_rfl) rfl ?_ ?_
    ·exact HI.out _ _ _ ⟨Grows.drew' _, kn_none _ _⟩
    refine gen_consR (fun vs L w1 hL hw1 => ?_) ?_
    ·obtain ⟨q0, q1⟩ := HO.out _ _ _ hw1
     refine gen_plain rfl ?_
     go_simp
     exact gr_val (HI.out _ _ _ ⟨q0, kn_known q1 rfl⟩)
    refine gen_consR (fun vs L w1 hL hw1 => ?_) ?_
    ·obtain ⟨q0, q1⟩ := HO.out _ _ _ hw1
     refine gen_plain rfl ?_
     have l0 : L 0 = true := hL.need 0 (by kernel_rfl)
     have e0 := q1 0 _ rfl l0
     simp only [e0]
     go_simp
     exact gr_val (HI.out _ _ _ ⟨q0, kn_known q1 rfl⟩)
    refine gen_consR (fun vs L w1 hL hw1 => ?_) ?_
    ·obtain ⟨q0, q1⟩ := HO.out _ _ _ hw1
     refine gen_plain rfl ?_
     have l1 : L 1 = true := hL.need 1 (by kernel_rfl)
     have e1 := q1 1 _ rfl l1
     simp only [e1]
     go_simp
     exact gr_val (HI.out _ _ _ ⟨q0, kn_known q1 rfl⟩)
    refine gen_consR (fun vs L w1 hL hw1 => ?_) ?_
    ·obtain ⟨q0, q1⟩ := HO.out _ _ _ hw1
     have l2 : L 2 = true := hL.need 2 (by kernel_rfl)
     have e2 := q1 2 _ rfl l2
     refine gen_yes ?_ ?_
     ·simp only [e2]
      rfl
     go_simp
     exact gr_val (HI.out _ _ _ ⟨q0, kn_known q1 rfl⟩)
    refine gen_consR (fun vs L w1 hL hw1 => ?_) ?_
    ·obtain ⟨q0, q1⟩ := HO.out _ _ _ hw1
     have l2 : L 2 = true := hL.need 2 (by kernel_rfl)
     have e2 := q1 2 _ rfl l2
     refine gen_yes ?_ ?_
     ·simp only [e2]
      rfl
     go_simp
     exact gr_val (HI.out _ _ _ ⟨q0, kn_known q1 rfl⟩)
    refine gen_consR (fun vs L w1 hL hw1 => ?_) ?_
    ·obtain ⟨q0, q1⟩ := HO.out _ _ _ hw1
     have l2 : L 2 = true := hL.need 2 (by kernel_rfl)
     have e2 := q1 2 _ rfl l2
     refine gen_yes ?_ ?_
     ·simp only [e2]
      rfl
     have l4 : L 4 = true := hL.need 4 (by kernel_rfl)
     have e4 := q1 4 _ rfl l4
     have x := (k10.grows q0).cell 0
     simp only [e4]
     go_simp
     exact gr_val (HI.out _ _ _ ⟨q0, kn_known q1 rfl⟩)
    refine gen_consR (fun vs L w1 hL hw1 => ?_) ?_
    ·obtain ⟨q0, q1⟩ := HO.out _ _ _ hw1
     have l2 : L 2 = true := hL.need 2 (by kernel_rfl)
     have e2 := q1 2 _ rfl l2
     refine gen_yes ?_ ?_
     ·simp only [e2]
      rfl
     have l3 : L 3 = true := hL.need 3 (by kernel_rfl)
     have e3 := q1 3 _ rfl l3
     have l5 : L 5 = true := hL.need 5 (by kernel_rfl)
     have e5 := q1 5 _ rfl l5
     simp only [e3, e5]
     go_simp
     refine gr_call ?_
     refine (slot_is (some ad) c4 l s.a z2 w1 (h4.grows (below_grows hB (Nat.le_refl _) q0)) hl4 HZ2.out).mono ?_
     rintro e w2 ⟨rfl, hg⟩
     exact ⟨_, rfl, HI.out _ _ _ ⟨below_grows q0 (Nat.le_refl _) hg, kn_known q1 rfl⟩⟩
    refine gen_consR (fun vs L w1 hL hw1 => ?_) ?_
    ·obtain ⟨q0, q1⟩ := HO.out _ _ _ hw1
     have l2 : L 2 = true := hL.need 2 (by kernel_rfl)
     have e2 := q1 2 _ rfl l2
     refine gen_yes ?_ ?_
     ·simp only [e2]
      rfl
     go_simp
     exact gr_val (HI.out _ _ _ ⟨q0, kn_known q1 rfl⟩)
    refine gen_consR (fun vs L w1 hL hw1 => ?_) ?_
    ·obtain ⟨q0, q1⟩ := HO.out _ _ _ hw1
     have l2 : L 2 = true := hL.need 2 (by kernel_rfl)
     have e2 := q1 2 _ rfl l2
     refine gen_yes ?_ ?_
     ·simp only [e2]
      rfl
     have l6 : L 6 = true := hL.need 6 (by kernel_rfl)
     have e6 := q1 6 _ rfl l6
     have l7 : L 7 = true := hL.need 7 (by kernel_rfl)
     have e7 := q1 7 _ rfl l7
     simp only [e6, e7]
     go_simp
     exact gr_val (HI.out _ _ _ ⟨q0, kn_known q1 rfl⟩)
    refine gen_consR (fun vs L w1 hL hw1 => ?_) ?_
    ·obtain ⟨q0, q1⟩ := HO.out _ _ _ hw1
     refine gen_plain rfl ?_
     have l2 : L 2 = true := hL.need 2 (by kernel_rfl)
     have e2 := q1 2 _ rfl l2
     have l8 : L 8 = true := hL.need 8 (by kernel_rfl)
     have e8 := q1 8 _ rfl l8
     simp only [e2, e8]
     go_simp
     exact gr_val (HI.out _ _ _ ⟨q0, kn_known q1 rfl⟩)
    refine gen_consR (fun vs L w1 hL hw1 => ?_) ?_
    ·obtain ⟨q0, q1⟩ := HO.out _ _ _ hw1
     refine gen_plain rfl ?_
     have l9 : L 9 = true := hL.need 9 (by kernel_rfl)
     have e9 := q1 9 _ rfl l9
     simp only [e9]
     go_simp
     exact gr_val (HI.out _ _ _ ⟨q0, kn_known q1 rfl⟩)
    refine gen_consR (fun vs L w1 hL hw1 => ?_) ?_
    ·obtain ⟨q0, q1⟩ := HO.out _ _ _ hw1
     have l10 : L 10 = true := hL.need 10 (by kernel_rfl)
     have e10 := q1 10 _ rfl l10
     refine gen_no ?_ ?_
     ·simp only [e10]
      rfl
     ·exact HI.out _ _ _ ⟨q0, kn_free q1 rfl⟩
    refine gen_consR (fun vs L w1 hL hw1 => ?_) ?_
    ·obtain ⟨q0, q1⟩ := HO.out _ _ _ hw1
     have l10 : L 10 = true := hL.need 10 (by kernel_rfl)
     have e10 := q1 10 _ rfl l10
     refine gen_no ?_ ?_
     ·simp only [e10]
      rfl
     ·exact HI.out _ _ _ ⟨q0, kn_free q1 rfl⟩
    refine gen_consR (fun vs L w1 hL hw1 => ?_) ?_
    ·obtain ⟨q0, q1⟩ := HO.out _ _ _ hw1
     have l10 : L 10 = true := hL.need 10 (by kernel_rfl)
     have e10 := q1 10 _ rfl l10
     refine gen_no ?_ ?_
     ·simp only [e10]
      rfl
     ·exact HI.out _ _ _ ⟨q0, kn_free q1 rfl⟩
    refine gen_consR (fun vs L w1 hL hw1 => ?_) ?_
    ·obtain ⟨q0, q1⟩ := HO.out _ _ _ hw1
     refine gen_plain rfl ?_
     have l10 : L 10 = true := hL.need 10 (by kernel_rfl)
     have e10 := q1 10 _ rfl l10
     simp only [e10]
     go_simp
     exact gr_val (HI.out _ _ _ ⟨q0, kn_known q1 rfl⟩)
    refine gen_consR (fun vs L w1 hL hw1 => ?_) ?_
    ·obtain ⟨q0, q1⟩ := HO.out _ _ _ hw1
     refine gen_plain rfl ?_
     have l14 : L 14 = true := hL.need 14 (by kernel_rfl)
     have e14 := q1 14 _ rfl l14
     simp only [e14]
     go_simp
     exact gr_val (HI.out _ _ _ ⟨q0, kn_known q1 rfl⟩)
    refine gen_consR (fun vs L w1 hL hw1 => ?_) ?_
    ·obtain ⟨q0, q1⟩ := HO.out _ _ _ hw1
     have l15 : L 15 = true := hL.need 15 (by kernel_rfl)
     have e15 := q1 15 _ rfl l15
     refine gen_no ?_ ?_
     ·simp only [e15]
      rfl
     ·exact HI.out _ _ _ ⟨q0, kn_free q1 rfl⟩
    refine gen_consR (fun vs L w1 hL hw1 => ?_) ?_
    ·obtain ⟨q0, q1⟩ := HO.out _ _ _ hw1
     have l15 : L 15 = true := hL.need 15 (by kernel_rfl)
     have e15 := q1 15 _ rfl l15
     refine gen_no ?_ ?_
     ·simp only [e15]
      rfl
     ·exact HI.out _ _ _ ⟨q0, kn_free q1 rfl⟩
    refine gen_consR (fun vs L w1 hL hw1 => ?_) ?_
    ·obtain ⟨q0, q1⟩ := HO.out _ _ _ hw1
     have l15 : L 15 = true := hL.need 15 (by kernel_rfl)
     have e15 := q1 15 _ rfl l15
     refine gen_no ?_ ?_
     ·simp only [e15]
      rfl
     ·exact HI.out _ _ _ ⟨q0, kn_free q1 rfl⟩
    refine gen_consR (fun vs L w1 hL hw1 => ?_) ?_
    ·obtain ⟨q0, q1⟩ := HO.out _ _ _ hw1
     have l15 : L 15 = true := hL.need 15 (by kernel_rfl)
     have e15 := q1 15 _ rfl l15
     refine gen_no ?_ ?_
     ·simp only [e15]
      rfl
     ·exact HI.out _ _ _ ⟨q0, kn_free q1 rfl⟩
    refine gen_consR (fun vs L w1 hL hw1 => ?_) ?_
    ·obtain ⟨q0, q1⟩ := HO.out _ _ _ hw1
     refine gen_plain rfl ?_
     have l15 : L 15 = true := hL.need 15 (by kernel_rfl)
     have e15 := q1 15 _ rfl l15
     simp only [e15]
     go_simp
     exact gr_val (HI.out _ _ _ ⟨q0, kn_known q1 rfl⟩)
    refine gen_consR (fun vs L w1 hL hw1 => ?_) ?_
    ·obtain ⟨q0, q1⟩ := HO.out _ _ _ hw1
     refine gen_plain rfl ?_
     have l20 : L 20 = true := hL.need 20 (by kernel_rfl)
     have e20 := q1 20 _ rfl l20
     simp only [e20]
     go_simp
     exact gr_val (HI.out _ _ _ ⟨q0, kn_known q1 rfl⟩)
    refine gen_consR (fun vs L w1 hL hw1 => ?_) ?_
    ·obtain ⟨q0, q1⟩ := HO.out _ _ _ hw1
     have l21 : L 21 = true := hL.need 21 (by kernel_rfl)
     have e21 := q1 21 _ rfl l21
     refine gen_no ?_ ?_
     ·simp only [e21]
      rfl
     ·exact HI.out _ _ _ ⟨q0, kn_free q1 rfl⟩
    refine gen_consR (fun vs L w1 hL hw1 => ?_) ?_
    ·obtain ⟨q0, q1⟩ := HO.out _ _ _ hw1
     have l21 : L 21 = true := hL.need 21 (by kernel_rfl)
     have e21 := q1 21 _ rfl l21
     refine gen_no ?_ ?_
     ·simp only [e21]
      rfl
     ·exact HI.out _ _ _ ⟨q0, kn_free q1 rfl⟩
    refine gen_consR (fun vs L w1 hL hw1 => ?_) ?_
    ·obtain ⟨q0, q1⟩ := HO.out _ _ _ hw1
     have l21 : L 21 = true := hL.need 21 (by kernel_rfl)
     have e21 := q1 21 _ rfl l21
     refine gen_no ?_ ?_
     ·simp only [e21]
      rfl
     ·exact HI.out _ _ _ ⟨q0, kn_free q1 rfl⟩
    refine gen_consR (fun vs L w1 hL hw1 => ?_) ?_
    ·obtain ⟨q0, q1⟩ := HO.out _ _ _ hw1
     refine gen_plain rfl ?_
     have l21 : L 21 = true := hL.need 21 (by kernel_rfl)
     have e21 := q1 21 _ rfl l21
     simp only [e21]
     go_simp
     exact gr_val (HI.out _ _ _ ⟨q0, kn_known q1 rfl⟩)
    refine gen_consR (fun vs L w1 hL hw1 => ?_) ?_
    ·obtain ⟨q0, q1⟩ := HO.out _ _ _ hw1
     refine gen_plain rfl ?_
     have l25 : L 25 = true := hL.need 25 (by kernel_rfl)
     have e25 := q1 25 _ rfl l25
     simp only [e25]
     go_simp
     exact gr_val (HI.out _ _ _ ⟨q0, kn_known q1 rfl⟩)
    refine gen_consR (fun vs L w1 hL hw1 => ?_) ?_
    ·obtain ⟨q0, q1⟩ := HO.out _ _ _ hw1
     have l26 : L 26 = true := hL.need 26 (by kernel_rfl)
     have e26 := q1 26 _ rfl l26
     refine gen_no ?_ ?_
     ·simp only [e26]
      rfl
     ·exact HI.out _ _ _ ⟨q0, kn_free q1 rfl⟩
    refine gen_consR (fun vs L w1 hL hw1 => ?_) ?_
    ·obtain ⟨q0, q1⟩ := HO.out _ _ _ hw1
     have l26 : L 26 = true := hL.need 26 (by kernel_rfl)
     have e26 := q1 26 _ rfl l26
     refine gen_no ?_ ?_
     ·simp only [e26]
      rfl
     ·exact HI.out _ _ _ ⟨q0, kn_free q1 rfl⟩
    refine gen_consR (fun vs L w1 hL hw1 => ?_) ?_
    ·obtain ⟨q0, q1⟩ := HO.out _ _ _ hw1
     have l26 : L 26 = true := hL.need 26 (by kernel_rfl)
     have e26 := q1 26 _ rfl l26
     refine gen_no ?_ ?_
     ·simp only [e26]
      rfl
     ·exact HI.out _ _ _ ⟨q0, kn_free q1 rfl⟩
    refine gen_consR (fun vs L w1 hL hw1 => ?_) ?_
    ·obtain ⟨q0, q1⟩ := HO.out _ _ _ hw1
     have l26 : L 26 = true := hL.need 26 (by kernel_rfl)
     have e26 := q1 26 _ rfl l26
     refine gen_no ?_ ?_
     ·simp only [e26]
      rfl
     ·exact HI.out _ _ _ ⟨q0, kn_free q1 rfl⟩
    refine gen_consR (fun vs L w1 hL hw1 => ?_) ?_
    ·obtain ⟨q0, q1⟩ := HO.out _ _ _ hw1
     have l26 : L 26 = true := hL.need 26 (by kernel_rfl)
     have e26 := q1 26 _ rfl l26
     refine gen_no ?_ ?_
     ·simp only [e26]
      rfl
     ·exact HI.out _ _ _ ⟨q0, kn_free q1 rfl⟩
    refine gen_consR (fun vs L w1 hL hw1 => ?_) ?_
    ·obtain ⟨q0, q1⟩ := HO.out _ _ _ hw1
     refine gen_plain rfl ?_
     have l26 : L 26 = true := hL.need 26 (by kernel_rfl)
     have e26 := q1 26 _ rfl l26
     simp only [e26]
     go_simp
     exact gr_val (HI.out _ _ _ ⟨q0, kn_known q1 rfl⟩)
    refine gen_consR (fun vs L w1 hL hw1 => ?_) ?_
    ·obtain ⟨q0, q1⟩ := HO.out _ _ _ hw1
     refine gen_plain rfl ?_
     have l32 : L 32 = true := hL.need 32 (by kernel_rfl)
     have e32 := q1 32 _ rfl l32
     simp only [e32]
     go_simp
     exact gr_val (HI.out _ _ _ ⟨q0, kn_known q1 rfl⟩)
    refine gen_consR (fun vs L w1 hL hw1 => ?_) ?_
    ·obtain ⟨q0, q1⟩ := HO.out _ _ _ hw1
     have l33 : L 33 = true := hL.need 33 (by kernel_rfl)
     have e33 := q1 33 _ rfl l33
     refine gen_no ?_ ?_
     ·simp only [e33]
      rfl
     ·exact HI.out _ _ _ ⟨q0, kn_free q1 rfl⟩
    refine gen_consR (fun vs L w1 hL hw1 => ?_) ?_
    ·obtain ⟨q0, q1⟩ := HO.out _ _ _ hw1
     have l33 : L 33 = true := hL.need 33 (by kernel_rfl)
     have e33 := q1 33 _ rfl l33
     refine gen_no ?_ ?_
     ·simp only [e33]
      rfl
     ·exact HI.out _ _ _ ⟨q0, kn_free q1 rfl⟩
    refine gen_consR (fun vs L w1 hL hw1 => ?_) ?_
    ·obtain ⟨q0, q1⟩ := HO.out _ _ _ hw1
     have l33 : L 33 = true := hL.need 33 (by kernel_rfl)
     have e33 := q1 33 _ rfl l33
     refine gen_no ?_ ?_
     ·simp only [e33]
      rfl
     ·exact HI.out _ _ _ ⟨q0, kn_free q1 rfl⟩
    refine gen_consR (fun vs L w1 hL hw1 => ?_) ?_
    ·obtain ⟨q0, q1⟩ := HO.out _ _ _ hw1
     have l33 : L 33 = true := hL.need 33 (by kernel_rfl)
     have e33 := q1 33 _ rfl l33
     refine gen_no ?_ ?_
     ·simp only [e33]
      rfl
     ·exact HI.out _ _ _ ⟨q0, kn_free q1 rfl⟩
    refine gen_consR (fun vs L w1 hL hw1 => ?_) ?_
    ·obtain ⟨q0, q1⟩ := HO.out _ _ _ hw1
     have l33 : L 33 = true := hL.need 33 (by kernel_rfl)
     have e33 := q1 33 _ rfl l33
     refine gen_no ?_ ?_
     ·simp only [e33]
      rfl
     ·exact HI.out _ _ _ ⟨q0, kn_free q1 rfl⟩
    refine gen_consR (fun vs L w1 hL hw1 => ?_) ?_
    ·obtain ⟨q0, q1⟩ := HO.out _ _ _ hw1
     have l33 : L 33 = true := hL.need 33 (by kernel_rfl)
     have e33 := q1 33 _ rfl l33
     refine gen_no ?_ ?_
     ·simp only [e33]
      rfl
     ·exact HI.out _ _ _ ⟨q0, kn_free q1 rfl⟩
    refine gen_consR (fun vs L w1 hL hw1 => ?_) ?_
    ·obtain ⟨q0, q1⟩ := HO.out _ _ _ hw1
     have l33 : L 33 = true := hL.need 33 (by kernel_rfl)
     have e33 := q1 33 _ rfl l33
     refine gen_no ?_ ?_
     ·simp only [e33]
      rfl
     ·exact HI.out _ _ _ ⟨q0, kn_free q1 rfl⟩
    refine gen_consR (fun vs L w1 hL hw1 => ?_) ?_
    ·obtain ⟨q0, q1⟩ := HO.out _ _ _ hw1
     have l33 : L 33 = true := hL.need 33 (by kernel_rfl)
     have e33 := q1 33 _ rfl l33
     refine gen_no ?_ ?_
     ·simp only [e33]
      rfl
     ·exact HI.out _ _ _ ⟨q0, kn_free q1 rfl⟩
    refine gen_consR (fun vs L w1 hL hw1 => ?_) ?_
    ·obtain ⟨q0, q1⟩ := HO.out _ _ _ hw1
     have l33 : L 33 = true := hL.need 33 (by kernel_rfl)
     have e33 := q1 33 _ rfl l33
     refine gen_no ?_ ?_
     ·simp only [e33]
      rfl
     ·exact HI.out _ _ _ ⟨q0, kn_free q1 rfl⟩
    refine gen_consR (fun vs L w1 hL hw1 => ?_) ?_
    ·obtain ⟨q0, q1⟩ := HO.out _ _ _ hw1
     have l33 : L 33 = true := hL.need 33 (by kernel_rfl)
     have e33 := q1 33 _ rfl l33
     refine gen_no ?_ ?_
     ·simp only [e33]
      rfl
     ·exact HI.out _ _ _ ⟨q0, kn_free q1 rfl⟩
    refine gen_consR (fun vs L w1 hL hw1 => ?_) ?_
    ·obtain ⟨q0, q1⟩ := HO.out _ _ _ hw1
     refine gen_plain rfl ?_
     have l33 : L 33 = true := hL.need 33 (by kernel_rfl)
     have e33 := q1 33 _ rfl l33
     simp only [e33]
     go_simp
     exact gr_val (HI.out _ _ _ ⟨q0, kn_known q1 rfl⟩)
    refine gen_consR (fun vs L w1 hL hw1 => ?_) ?_
    ·obtain ⟨q0, q1⟩ := HO.out _ _ _ hw1
     refine gen_plain rfl ?_
     have l44 : L 44 = true := hL.need 44 (by kernel_rfl)
     have e44 := q1 44 _ rfl l44
     simp only [e44]
     go_simp
     exact gr_val (HI.out _ _ _ ⟨q0, kn_known q1 rfl⟩)
    refine gen_consR (fun vs L w1 hL hw1 => ?_) ?_
    ·obtain ⟨q0, q1⟩ := HO.out _ _ _ hw1
     have l45 : L 45 = true := hL.need 45 (by kernel_rfl)
     have e45 := q1 45 _ rfl l45
     refine gen_no ?_ ?_
     ·simp only [e45]
      rfl
     ·exact HI.out _ _ _ ⟨q0, kn_free q1 rfl⟩
    refine gen_consR (fun vs L w1 hL hw1 => ?_) ?_
    ·obtain ⟨q0, q1⟩ := HO.out _ _ _ hw1
     have l45 : L 45 = true := hL.need 45 (by kernel_rfl)
     have e45 := q1 45 _ rfl l45
     refine gen_no ?_ ?_
     ·simp only [e45]
      rfl
     ·exact HI.out _ _ _ ⟨q0, kn_free q1 rfl⟩
    refine gen_consR (fun vs L w1 hL hw1 => ?_) ?_
    ·obtain ⟨q0, q1⟩ := HO.out _ _ _ hw1
     have l45 : L 45 = true := hL.need 45 (by kernel_rfl)
     have e45 := q1 45 _ rfl l45
     refine gen_no ?_ ?_
     ·simp only [e45]
      rfl
     ·exact HI.out _ _ _ ⟨q0, kn_free q1 rfl⟩
    refine gen_consR (fun vs L w1 hL hw1 => ?_) ?_
    ·obtain ⟨q0, q1⟩ := HO.out _ _ _ hw1
     have l45 : L 45 = true := hL.need 45 (by kernel_rfl)
     have e45 := q1 45 _ rfl l45
     refine gen_no ?_ ?_
     ·simp only [e45]
      rfl
     ·exact HI.out _ _ _ ⟨q0, kn_free q1 rfl⟩
    refine gen_consR (fun vs L w1 hL hw1 => ?_) ?_
    ·obtain ⟨q0, q1⟩ := HO.out _ _ _ hw1
     have l45 : L 45 = true := hL.need 45 (by kernel_rfl)
     have e45 := q1 45 _ rfl l45
     refine gen_no ?_ ?_
     ·simp only [e45]
      rfl
     ·exact HI.out _ _ _ ⟨q0, kn_free q1 rfl⟩
    refine gen_consR (fun vs L w1 hL hw1 => ?_) ?_
    ·obtain ⟨q0, q1⟩ := HO.out _ _ _ hw1
     have l45 : L 45 = true := hL.need 45 (by kernel_rfl)
     have e45 := q1 45 _ rfl l45
     refine gen_no ?_ ?_
     ·simp only [e45]
      rfl
     ·exact HI.out _ _ _ ⟨q0, kn_free q1 rfl⟩
    refine gen_consR (fun vs L w1 hL hw1 => ?_) ?_
    ·obtain ⟨q0, q1⟩ := HO.out _ _ _ hw1
     have l45 : L 45 = true := hL.need 45 (by kernel_rfl)
     have e45 := q1 45 _ rfl l45
     refine gen_no ?_ ?_
     ·simp only [e45]
      rfl
     ·exact HI.out _ _ _ ⟨q0, kn_free q1 rfl⟩
    refine gen_consR (fun vs L w1 hL hw1 => ?_) ?_
    ·obtain ⟨q0, q1⟩ := HO.out _ _ _ hw1
     have l45 : L 45 = true := hL.need 45 (by kernel_rfl)
     have e45 := q1 45 _ rfl l45
     refine gen_no ?_ ?_
     ·simp only [e45]
      rfl
     ·exact HI.out _ _ _ ⟨q0, kn_free q1 rfl⟩
    refine gen_consR (fun vs L w1 hL hw1 => ?_) ?_
    ·obtain ⟨q0, q1⟩ := HO.out _ _ _ hw1
     refine gen_plain rfl ?_
     have l45 : L 45 = true := hL.need 45 (by kernel_rfl)
     have e45 := q1 45 _ rfl l45
     simp only [e45]
     go_simp
     exact gr_val (HI.out _ _ _ ⟨q0, kn_known q1 rfl⟩)
    refine gen_nil ?_
    intro vs L W6 hall hS
    obtain ⟨hq, q1⟩ := HO.out _ _ _ hS
    have eX54 := q1 54 _ rfl (hall 54 (by simp))
    clear hall hS HI HO q1
    simp only [eX54]
    replace hB := below_grows hB (Nat.le_refl _) hq
    replace k1 := k1.grows hq
    clear hq
    go_wp2
    go_ret
    rw [HE.out]
    exact ⟨rfl, hB⟩
   subst b1
   have HZ2 := Lib.hid hz2
   have HPL : Hid (placeN l s.a = some t) := Lib.hid (by
    cases e : placeN l s.a with
    | none => rw [e] at hz2; exact absurd hz2 (by show ¬ (-1 : Int) = (t : Int); omega)
    | some k =>
     rw [e] at hz2
     have h9 : (k : Int) = (t : Int) := hz2
     have h8 : k = t := by omega
     rw [h8])
   clear hz2
   have dd1 : ((t : Int) != (t : Int)) = false := by simp
   by_cases b2 : s.b < 0
   case pos =>
    have dd2 : decide (s.b < 0) = true := by simpa using b2
    have HE : Hid (validS ns ls cs wi l = false) := Lib.hid (by
     refine not_valid_one HP.out HL.out HX.out ?_
     cases he : oneOk ns (wOf ns cs) wi l t s
     ·rfl
     ·exfalso
      unfold oneOk at he
      simp only [Bool.and_eq_true, decide_eq_true_eq, beq_iff_eq] at he
      omega)
    clear b2
    obtain ⟨S, HI, HO⟩ := hideS fun (L : Ran) (vs : Nat → Value) (w' : World) => Grows w7 w' ∧ KnS [some (.int .i64 (p : Int)), some (.bool false), some (.bool false), some (.slice (some ad) l.length c4), some (.pointer (some ⟨G10, 0, none⟩)), some (.int .i64 s.a), some (.int .i64 (t : Int)), some (.int .i64 (t : Int)), some (.bool false), some (.bool false), some (.bool false), some (.pointer (some ⟨G10, 1, none⟩)), some (.int .i64 s.b), some (.bool true), some (.bool true), some (.bool true), none, none, none, none, some (.bool true), some (.bool true), none, none, none, some (.bool true), some (.bool true), none, none, none, none, none, some (.bool true), some (.bool true), none, none, none, none, none, none, none, none, none, none, some (.bool true), some (.bool true), none, none, none, none, none, none, none, none, some (.bool true)] L vs
    refine wp_region_genW S 128 (by kernel_rfl) (by kernel_rfl) rfl ?_ ?_
    ·exact HI.out _ _ _ ⟨Grows.drew' _, kn_none _ _⟩
    refine gen_consR (fun vs L w1 hL hw1 => ?_) ?_
    ·obtain ⟨q0, q1⟩ := HO.out _ _ _ hw1
     refine gen_plain rfl ?_
     go_simp
     exact gr_val (HI.out _ _ _ ⟨q0, kn_known q1 rfl⟩)
    refine gen_consR (fun vs L w1 hL hw1 => ?_) ?_
    ·obtain ⟨q0, q1⟩ := HO.out _ _ _ hw1
     refine gen_plain rfl ?_
     have l0 : L 0 = true := hL.need 0 (by kernel_rfl)
     have e0 := q1 0 _ rfl l0
     simp only [e0]
     go_simp
     exact gr_val (HI.out _ _ _ ⟨q0, kn_known q1 rfl⟩)
    refine gen_consR (fun vs L w1 hL hw1 => ?_) ?_
    ·obtain ⟨q0, q1⟩ := HO.out _ _ _ hw1
     refine gen_plain rfl ?_
     have l1 : L 1 = true := hL.need 1 (by kernel_rfl)
     have e1 := q1 1 _ rfl l1
     simp only [e1]
     go_simp
     exact gr_val (HI.out _ _ _ ⟨q0, kn_known q1 rfl⟩)
    refine gen_consR (fun vs L w1 hL hw1 => ?_) ?_
    ·obtain ⟨q0, q1⟩ := HO.out _ _ _ hw1
     have l2 : L 2 = true := hL.need 2 (by kernel_rfl)
     have e2 := q1 2 _ rfl l2
     refine gen_yes ?_ ?_
     ·simp only [e2]
      rfl
     go_simp
     exact gr_val (HI.out _ _ _ ⟨q0, kn_known q1 rfl⟩)
    refine gen_consR (fun vs L w1 hL hw1 => ?_) ?_
    ·obtain ⟨q0, q1⟩ := HO.out _ _ _ hw1
     have l2 : L 2 = true := hL.need 2 (by kernel_rfl)
     have e2 := q1 2 _ rfl l2
     refine gen_yes ?_ ?_
     ·simp only [e2]
      rfl
     go_simp
     exact gr_val (HI.out _ _ _ ⟨q0, kn_known q1 rfl⟩)
    refine gen_consR (fun vs L w1 hL hw1 => ?_) ?_
    ·obtain ⟨q0, q1⟩ := HO.out _ _ _ hw1
     have l2 : L 2 = true := hL.need 2 (by kernel_rfl)
     have e2 := q1 2 _ rfl l2
     refine gen_yes ?_ ?_
     ·simp only [e2]
      rfl
     have l4 : L 4 = true := hL.need 4 (by kernel_rfl)
     have e4 := q1 4 _ rfl l4
     have x := (k10.grows q0).cell 0
     simp only [e4]
     go_simp
     exact gr_val (HI.out _ _ _ ⟨q0, kn_known q1 rfl⟩)
    refine gen_consR (fun vs L w1 hL hw1 => ?_) ?_
    ·obtain ⟨q0, q1⟩ := HO.out _ _ _ hw1
     have l2 : L 2 = true := hL.need 2 (by kernel_rfl)
     have e2 := q1 2 _ rfl l2
     refine gen_yes ?_ ?_
     ·simp only [e2]
      rfl
     have l3 : L 3 = true := hL.need 3 (by kernel_rfl)
     have e3 := q1 3 _ rfl l3
     have l5 : L 5 = true := hL.need 5 (by kernel_rfl)
     have e5 := q1 5 _ rfl l5
     simp only [e3, e5]
     go_simp
     refine gr_call ?_
     refine (slot_is (some ad) c4 l s.a (t : Int) w1 (h4.grows (below_grows hB (Nat.le_refl _) q0)) hl4 HZ2.out).mono ?_
     rintro e w2 ⟨rfl, hg⟩
     exact ⟨_, rfl, HI.out _ _ _ ⟨below_grows q0 (Nat.le_refl _) hg, kn_known q1 rfl⟩⟩
    refine gen_consR (fun vs L w1 hL hw1 => ?_) ?_
    ·obtain ⟨q0, q1⟩ := HO.out _ _ _ hw1
     have l2 : L 2 = true := hL.need 2 (by kernel_rfl)
     have e2 := q1 2 _ rfl l2
     refine gen_yes ?_ ?_
     ·simp only [e2]
      rfl
     go_simp
     exact gr_val (HI.out _ _ _ ⟨q0, kn_known q1 rfl⟩)
    refine gen_consR (fun vs L w1 hL hw1 => ?_) ?_
    ·obtain ⟨q0, q1⟩ := HO.out _ _ _ hw1
     have l2 : L 2 = true := hL.need 2 (by kernel_rfl)
     have e2 := q1 2 _ rfl l2
     refine gen_yes ?_ ?_
     ·simp only [e2]
      rfl
     have l6 : L 6 = true := hL.need 6 (by kernel_rfl)
     have e6 := q1 6 _ rfl l6
     have l7 : L 7 = true := hL.need 7 (by kernel_rfl)
     have e7 := q1 7 _ rfl l7
     simp only [e6, e7]
     go_simp
     exact gr_val (HI.out _ _ _ ⟨q0, kn_known q1 rfl⟩)
    refine gen_consR (fun vs L w1 hL hw1 => ?_) ?_
    ·obtain ⟨q0, q1⟩ := HO.out _ _ _ hw1
     refine gen_plain rfl ?_
     have l2 : L 2 = true := hL.need 2 (by kernel_rfl)
     have e2 := q1 2 _ rfl l2
     have l8 : L 8 = true := hL.need 8 (by kernel_rfl)
     have e8 := q1 8 _ rfl l8
     simp only [e2, e8]
     go_simp
     exact gr_val (HI.out _ _ _ ⟨q0, kn_known q1 rfl⟩)
    refine gen_consR (fun vs L w1 hL hw1 => ?_) ?_
    ·obtain ⟨q0, q1⟩ := HO.out _ _ _ hw1
     refine gen_plain rfl ?_
     have l9 : L 9 = true := hL.need 9 (by kernel_rfl)
     have e9 := q1 9 _ rfl l9
     simp only [e9]
     go_simp
     exact gr_val (HI.out _ _ _ ⟨q0, kn_known q1 rfl⟩)
    refine gen_consR (fun vs L w1 hL hw1 => ?_) ?_
    ·obtain ⟨q0, q1⟩ := HO.out _ _ _ hw1
     have l10 : L 10 = true := hL.need 10 (by kernel_rfl)
     have e10 := q1 10 _ rfl l10
     refine gen_yes ?_ ?_
     ·simp only [e10]
      rfl
     go_simp
     exact gr_val (HI.out _ _ _ ⟨q0, kn_known q1 rfl⟩)
    refine gen_consR (fun vs L w1 hL hw1 => ?_) ?_
    ·obtain ⟨q0, q1⟩ := HO.out _ _ _ hw1
     have l10 : L 10 = true := hL.need 10 (by kernel_rfl)
     have e10 := q1 10 _ rfl l10
     refine gen_yes ?_ ?_
     ·simp only [e10]
      rfl
     have l11 : L 11 = true := hL.need 11 (by kernel_rfl)
     have e11 := q1 11 _ rfl l11
     have x := (k10.grows q0).cell 1
     simp only [e11]
     go_simp
     exact gr_val (HI.out _ _ _ ⟨q0, kn_known q1 rfl⟩)
    refine gen_consR (fun vs L w1 hL hw1 => ?_) ?_
    ·obtain ⟨q0, q1⟩ := HO.out _ _ _ hw1
     have l10 : L 10 = true := hL.need 10 (by kernel_rfl)
     have e10 := q1 10 _ rfl l10
     refine gen_yes ?_ ?_
     ·simp only [e10]
      rfl
     have l12 : L 12 = true := hL.need 12 (by kernel_rfl)
     have e12 := q1 12 _ rfl l12
     simp only [e12]
     go_simp
     exact gr_val (HI.out _ _ _ ⟨q0, kn_known q1 rfl⟩)
    refine gen_consR (fun vs L w1 hL hw1 => ?_) ?_
    ·obtain ⟨q0, q1⟩ := HO.out _ _ _ hw1
     refine gen_plain rfl ?_
     have l10 : L 10 = true := hL.need 10 (by kernel_rfl)
     have e10 := q1 10 _ rfl l10
     have l13 : L 13 = true := hL.need 13 (by kernel_rfl)
     have e13 := q1 13 _ rfl l13
     simp only [e10, e13]
     go_simp
     exact gr_val (HI.out _ _ _ ⟨q0, kn_known q1 rfl⟩)
    refine gen_consR (fun vs L w1 hL hw1 => ?_) ?_
    ·obtain ⟨q0, q1⟩ := HO.out _ _ _ hw1
     refine gen_plain rfl ?_
     have l14 : L 14 = true := hL.need 14 (by kernel_rfl)
     have e14 := q1 14 _ rfl l14
     simp only [e14]
     go_simp
     exact gr_val (HI.out _ _ _ ⟨q0, kn_known q1 rfl⟩)
    refine gen_consR (fun vs L w1 hL hw1 => ?_) ?_
    ·obtain ⟨q0, q1⟩ := HO.out _ _ _ hw1
     have l15 : L 15 = true := hL.need 15 (by kernel_rfl)
     have e15 := q1 15 _ rfl l15
     refine gen_no ?_ ?_
     ·simp only [e15]
      rfl
     ·exact HI.out _ _ _ ⟨q0, kn_free q1 rfl⟩
    refine gen_consR (fun vs L w1 hL hw1 => ?_) ?_
    ·obtain ⟨q0, q1⟩ := HO.out _ _ _ hw1
     have l15 : L 15 = true := hL.need 15 (by kernel_rfl)
     have e15 := q1 15 _ rfl l15
     refine gen_no ?_ ?_
     ·simp only [e15]
      rfl
     ·exact HI.out _ _ _ ⟨q0, kn_free q1 rfl⟩
    refine gen_consR (fun vs L w1 hL hw1 => ?_) ?_
    ·obtain ⟨q0, q1⟩ := HO.out _ _ _ hw1
     have l15 : L 15 = true := hL.need 15 (by kernel_rfl)
     have e15 := q1 15 _ rfl l15
     refine gen_no ?_ ?_
     ·simp only [e15]
      rfl
     ·exact HI.out _ _ _ ⟨q0, kn_free q1 rfl⟩
    refine gen_consR (fun vs L w1 hL hw1 => ?_) ?_
    ·obtain ⟨q0, q1⟩ := HO.out _ _ _ hw1
     have l15 : L 15 = true := hL.need 15 (by kernel_rfl)
     have e15 := q1 15 _ rfl l15
     refine gen_no ?_ ?_
     ·simp only [e15]
      rfl
     ·exact HI.out _ _ _ ⟨q0, kn_free q1 rfl⟩
    refine gen_consR (fun vs L w1 hL hw1 => ?_) ?_
    ·obtain ⟨q0, q1⟩ := HO.out _ _ _ hw1
     refine gen_plain rfl ?_
     have l15 : L 15 = true := hL.need 15 (by kernel_rfl)
     have e15 := q1 15 _ rfl l15
     simp only [e15]
     go_simp
     exact gr_val (HI.out _ _ _ ⟨q0, kn_known q1 rfl⟩)
    refine gen_consR (fun vs L w1 hL hw1 => ?_) ?_
    ·obtain ⟨q0, q1⟩ := HO.out _ _ _ hw1
     refine gen_plain rfl ?_
     have l20 : L 20 = true := hL.need 20 (by kernel_rfl)
     have e20 := q1 20 _ rfl l20
     simp only [e20]
     go_simp
     exact gr_val (HI.out _ _ _ ⟨q0, kn_known q1 rfl⟩)
    refine gen_consR (fun vs L w1 hL hw1 => ?_) ?_
    ·obtain ⟨q0, q1⟩ := HO.out _ _ _ hw1
     have l21 : L 21 = true := hL.need 21 (by kernel_rfl)
     have e21 := q1 21 _ rfl l21
     refine gen_no ?_ ?_
     ·simp only [e21]
      rfl
     ·exact HI.out _ _ _ ⟨q0, kn_free q1 rfl⟩
    refine gen_consR (fun vs L w1 hL hw1 => ?_) ?_
    ·obtain ⟨q0, q1⟩ := HO.out _ _ _ hw1
     have l21 : L 21 = true := hL.need 21 (by kernel_rfl)
     have e21 := q1 21 _ rfl l21
     refine gen_no ?_ ?_
     ·simp only [e21]
      rfl
     ·exact HI.out _ _ _ ⟨q0, kn_free q1 rfl⟩
    refine gen_consR (fun vs L w1 hL hw1 => ?_) ?_
    ·obtain ⟨q0, q1⟩ := HO.out _ _ _ hw1
     have l21 : L 21 = true := hL.need 21 (by kernel_rfl)
     have e21 := q1 21 _ rfl l21
     refine gen_no ?_ ?_
     ·simp only [e21]
      rfl
     ·exact HI.out _ _ _ ⟨q0, kn_free q1 rfl⟩
    refine gen_consR (fun vs L w1 hL hw1 => ?_) ?_
    ·obtain ⟨q0, q1⟩ := HO.out _ _ _ hw1
     refine gen_plain rfl ?_
     have l21 : L 21 = true := hL.need 21 (by kernel_rfl)
     have e21 := q1 21 _ rfl l21
     simp only [e21]
     go_simp
     exact gr_val (HI.out _ _ _ ⟨q0, kn_known q1 rfl⟩)
    refine gen_consR (fun vs L w1 hL hw1 => ?_) ?_
    ·obtain ⟨q0, q1⟩ := HO.out _ _ _ hw1
     refine gen_plain rfl ?_
     have l25 : L 25 = true := hL.need 25 (by kernel_rfl)
     have e25 := q1 25 _ rfl l25
     simp only [e25]
     go_simp
     exact gr_val (HI.out _ _ _ ⟨q0, kn_known q1 rfl⟩)
    refine gen_consR (fun vs L w1 hL hw1 => ?_) ?_
    ·obtain ⟨q0, q1⟩ := HO.out _ _ _ hw1
     have l26 : L 26 = true := hL.need 26 (by kernel_rfl)
     have e26 := q1 26 _ rfl l26
     refine gen_no ?_ ?_
     ·simp only [e26]
      rfl
     ·exact HI.out _ _ _ ⟨q0, kn_free q1 rfl⟩
    refine gen_consR (fun vs L w1 hL hw1 => ?_) ?_
    ·obtain ⟨q0, q1⟩ := HO.out _ _ _ hw1
     have l26 : L 26 = true := hL.need 26 (by kernel_rfl)
     have e26 := q1 26 _ rfl l26
     refine gen_no ?_ ?_
     ·simp only [e26]
      rfl
     ·exact HI.out _ _ _ ⟨q0, kn_free q1 rfl⟩
    refine gen_consR (fun vs L w1 hL hw1 => ?_) ?_
    ·obtain ⟨q0, q1⟩ := HO.out _ _ _ hw1
     have l26 : L 26 = true := hL.need 26 (by kernel_rfl)
     have e26 := q1 26 _ rfl l26
     refine gen_no ?_ ?_
     ·simp only [e26]
      rfl
     ·exact HI.out _ _ _ ⟨q0, kn_free q1 rfl⟩
    refine gen_consR (fun vs L w1 hL hw1 => ?_) ?_
    ·obtain ⟨q0, q1⟩ := HO.out _ _ _ hw1
     have l26 : L 26 = true := hL.need 26 (by kernel_rfl)
     have e26 := q1 26 _ rfl l26
     refine gen_no ?_ ?_
     ·simp only [e26]
      rfl
     ·exact HI.out _ _ _ ⟨q0, kn_free q1 rfl⟩
    refine gen_consR (fun vs L w1 hL hw1 => ?_) ?_
    ·obtain ⟨q0, q1⟩ := HO.out _ _ _ hw1
     have l26 : L 26 = true := hL.need 26 (by kernel_rfl)
     have e26 := q1 26 _ rfl l26
     refine gen_no ?_ ?_
     ·simp only [e26]
      rfl
     ·exact HI.out _ _ _ ⟨q0, kn_free q1 rfl⟩
    refine gen_consR (fun vs L w1 hL hw1 => ?_) ?_
    ·obtain ⟨q0, q1⟩ := HO.out _ _ _ hw1
     refine gen_plain rfl ?_
     have l26 : L 26 = true := hL.need 26 (by kernel_rfl)
     have e26 := q1 26 _ rfl l26
     simp only [e26]
     go_simp
     exact gr_val (HI.out _ _ _ ⟨q0, kn_known q1 rfl⟩)
    refine gen_consR (fun vs L w1 hL hw1 => ?_) ?_
    ·obtain ⟨q0, q1⟩ := HO.out _ _ _ hw1
     refine gen_plain rfl ?_
     have l32 : L 32 = true := hL.need 32 (by kernel_rfl)
     have e32 := q1 32 _ rfl l32
     simp only [e32]
     go_simp
     exact gr_val (HI.out _ _ _ ⟨q0, kn_known q1 rfl⟩)
    refine gen_consR (fun vs L w1 hL hw1 => ?_) ?_
    ·obtain ⟨q0, q1⟩ := HO.out _ _ _ hw1
     have l33 : L 33 = true := hL.need 33 (by kernel_rfl)
     have e33 := q1 33 _ rfl l33
     refine gen_no ?_ ?_
     ·simp only [e33]
      rfl
     ·exact HI.out _ _ _ ⟨q0, kn_free q1 rfl⟩
    refine gen_consR (fun vs L w1 hL hw1 => ?_) ?_
    ·obtain ⟨q0, q1⟩ := HO.out _ _ _ hw1
     have l33 : L 33 = true := hL.need 33 (by kernel_rfl)
     have e33 := q1 33 _ rfl l33
     refine gen_no ?_ ?_
     ·simp only [e33]
      rfl
     ·exact HI.out _ _ _ ⟨q0, kn_free q1 rfl⟩
    refine gen_consR (fun vs L w1 hL hw1 => ?_) ?_
    ·obtain ⟨q0, q1⟩ := HO.out _ _ _ hw1
     have l33 : L 33 = true := hL.need 33 (by kernel_rfl)
     have e33 := q1 33 _ rfl l33
     refine gen_no ?_ ?_
     ·simp only [e33]
      rfl
     ·exact HI.out _ _ _ ⟨q0, kn_free q1 rfl⟩
    refine gen_consR (fun vs L w1 hL hw1 => ?_) ?_
    ·obtain ⟨q0, q1⟩ := HO.out _ _ _ hw1
     have l33 : L 33 = true := hL.need 33 (by kernel_rfl)
     have e33 := q1 33 _ rfl l33
     refine gen_no ?_ ?_
     ·simp only [e33]
      rfl
     ·exact HI.out _ _ _ ⟨q0, kn_free q1 rfl⟩
    refine gen_consR (fun vs L w1 hL hw1 => ?_) ?_
    ·obtain ⟨q0, q1⟩ := HO.out _ _ _ hw1
     have l33 : L 33 = true := hL.need 33 (by kernel_rfl)
     have e33 := q1 33 _ rfl l33
     refine gen_no ?_ ?_
     ·simp only [e33]
      rfl
     ·exact HI.out _ _ _ ⟨q0, kn_free q1 rfl⟩
    refine gen_consR (fun vs L w1 hL hw1 => ?_) ?_
    ·obtain ⟨q0, q1⟩ := HO.out _ _ _ hw1
     have l33 : L 33 = true := hL.need 33 (by kernel_rfl)
     have e33 := q1 33 _ rfl l33
     refine gen_no ?_ ?_
     ·simp only [e33]
      rfl
     ·exact HI.out _ _ _ ⟨q0, kn_free q1 rfl⟩
    refine gen_consR (fun vs L w1 hL hw1 => ?_) ?_
    ·obtain ⟨q0, q1⟩ := HO.out _ _ _ hw1
     have l33 : L 33 = true := hL.need 33 (by kernel_rfl)
     have e33 := q1 33 _ rfl l33
     refine gen_no ?_ ?_
     ·simp only [e33]
      rfl
     ·exact HI.out _ _ _ ⟨q0, kn_free q1 rfl⟩
    refine gen_consR (fun vs L w1 hL hw1 => ?_) ?_
    ·obtain ⟨q0, q1⟩ := HO.out _ _ _ hw1
     have l33 : L 33 = true := hL.need 33 (by kernel_rfl)
     have e33 := q1 33 _ rfl l33
     refine gen_no ?_ ?_
     ·simp only [e33]
      rfl
     ·exact HI.out _ _ _ ⟨q0, kn_free q1 rfl⟩
    refine gen_consR (fun vs L w1 hL hw1 => ?_) ?_
    ·obtain ⟨q0, q1⟩ := HO.out _ _ _ hw1
     have l33 : L 33 = true := hL.need 33 (by kernel_rfl)
     have e33 := q1 33 _ rfl l33
     refine gen_no ?_ ?_
     ·simp only [e33]
      rfl
     ·exact HI.out _ _ _ ⟨q0, kn_free q1 rfl⟩
    refine gen_consR (fun vs L w1 hL hw1 => ?_) ?_
    ·obtain ⟨q0, q1⟩ := HO.out _ _ _ hw1
     have l33 : L 33 = true := hL.need 33 (by kernel_rfl)
     have e33 := q1 33 _ rfl l33
     refine gen_no ?_ ?_
     ·simp only [e33]
      rfl
     ·exact HI.out _ _ _ ⟨q0, kn_free q1 rfl⟩
    refine gen_consR (fun vs L w1 hL hw1 => ?_) ?_
    ·obtain ⟨q0, q1⟩ := HO.out _ _ _ hw1
     refine gen_plain rfl ?_
     have l33 : L 33 = true := hL.need 33 (by kernel_rfl)
     have e33 := q1 33 _ rfl l33
     simp only [e33]
     go_simp
     exact gr_val (HI.out _ _ _ ⟨q0, kn_known q1 rfl⟩)
    refine gen_consR (fun vs L w1 hL hw1 => ?_) ?_
    ·obtain ⟨q0, q1⟩ := HO.out _ _ _ hw1
     refine gen_plain rfl ?_
     have l44 : L 44 = true := hL.need 44 (by kernel_rfl)
     have e44 := q1 44 _ rfl l44
     simp only [e44]
     go_simp
     exact gr_val (HI.out _ _ _ ⟨q0, kn_known q1 rfl⟩)
    refine gen_consR (fun vs L w1 hL hw1 => ?_) ?_
    ·obtain ⟨q0, q1⟩ := HO.out _ _ _ hw1
     have l45 : L 45 = true := hL.need 45 (by kernel_rfl)
     have e45 := q1 45 _ rfl l45
     refine gen_no ?_ ?_
     ·simp only [e45]
      rfl
     ·exact HI.out _ _ _ ⟨q0, kn_free q1 rfl⟩
    refine gen_consR (fun vs L w1 hL hw1 => ?_) ?_
    ·obtain ⟨q0, q1⟩ := HO.out _ _ _ hw1
     have l45 : L 45 = true := hL.need 45 (by kernel_rfl)
     have e45 := q1 45 _ rfl l45
     refine gen_no ?_ ?_
     ·simp only [e45]
      rfl
     ·exact HI.out _ _ _ ⟨q0, kn_free q1 rfl⟩
    refine gen_consR (fun vs L w1 hL hw1 => ?_) ?_
    ·obtain ⟨q0, q1⟩ := HO.out _ _ _ hw1
     have l45 : L 45 = true := hL.need 45 (by kernel_rfl)
     have e45 := q1 45 _ rfl l45
     refine gen_no ?_ ?_
     ·simp only [e45]
      rfl
     ·exact HI.out _ _ _ ⟨q0, kn_free q1 rfl⟩
    refine gen_consR (fun vs L w1 hL hw1 => ?_) ?_
    ·obtain ⟨q0, q1⟩ := HO.out _ _ _ hw1
     have l45 : L 45 = true := hL.need 45 (by kernel_rfl)
     have e45 := q1 45 _ rfl l45
     refine gen_no ?_ ?_
     ·simp only [e45]
      rfl
     ·exact HI.out _ _ _ ⟨q0, kn_free q1 rfl⟩
    refine gen_consR (fun vs L w1 hL hw1 => ?_) ?_
    ·obtain ⟨q0, q1⟩ := HO.out _ _ _ hw1
     have l45 : L 45 = true := hL.need 45 (by kernel_rfl)
     have e45 := q1 45 _ rfl l45
     refine gen_no ?_ ?_
     ·simp only [e45]
      rfl
     ·exact HI.out _ _ _ ⟨q0, kn_free q1 rfl⟩
    refine gen_consR (fun vs L w1 hL hw1 => ?_) ?_
    ·obtain ⟨q0, q1⟩ := HO.out _ _ _ hw1
     have l45 : L 45 = true := hL.need 45 (by kernel_rfl)
     have e45 := q1 45 _ rfl l45
     refine gen_no ?_ ?_
     ·simp only [e45]
      rfl
     ·exact HI.out _ _ _ ⟨q0, kn_free q1 rfl⟩
    refine gen_consR (fun vs L w1 hL hw1 => ?_) ?_
    ·obtain ⟨q0, q1⟩ := HO.out _ _ _ hw1
     have l45 : L 45 = true := hL.need 45 (by kernel_rfl)
     have e45 := q1 45 _ rfl l45
     refine gen_no ?_ ?_
     ·simp only [e45]
      rfl
     ·exact HI.out _ _ _ ⟨q0, kn_free q1 rfl⟩
    refine gen_consR (fun vs L w1 hL hw1 => ?_) ?_
    ·obtain ⟨q0, q1⟩ := HO.out _ _ _ hw1
     have l45 : L 45 = true := hL.need 45 (by kernel_rfl)
     have e45 := q1 45 _ rfl l45
     refine gen_no ?_ ?_
     ·simp only [e45]
      rfl
     ·exact HI.out _ _ _ ⟨q0, kn_free q1 rfl⟩
    refine gen_consR (fun vs L w1 hL hw1 => ?_) ?_
    ·obtain ⟨q0, q1⟩ := HO.out _ _ _ hw1
     refine gen_plain rfl ?_
     have l45 : L 45 = true := hL.need 45 (by kernel_rfl)
     have e45 := q1 45 _ rfl l45
     simp only [e45]
     go_simp
     exact gr_val (HI.out _ _ _ ⟨q0, kn_known q1 rfl⟩)
    refine gen_nil ?_
    intro vs L W6 hall hS
    obtain ⟨hq, q1⟩ := HO.out _ _ _ hS
    have eX54 := q1 54 _ rfl (hall 54 (by simp))
    clear hall hS HI HO q1
    simp only [eX54]
    replace hB := below_grows hB (Nat.le_refl _) hq
    replace k1 := k1.grows hq
    clear hq
    go_wp2
    go_ret
    rw [HE.out]
    exact ⟨rfl, hB⟩
   have dd2 : decide (s.b < 0) = false := by simpa using b2
   by_cases b3 : wi ≤ s.b
   case pos =>
    have dd3 : decide (wi ≤ s.b) = true := by simpa using b3
    have HE : Hid (validS ns ls cs wi l = false) := Lib.hid (by
     refine not_valid_one HP.out HL.out HX.out ?_
     cases he : oneOk ns (wOf ns cs) wi l t s
     ·rfl
     ·exfalso
      unfold oneOk at he
      simp only [Bool.and_eq_true, decide_eq_true_eq, beq_iff_eq] at he
      omega)
    clear b3
    obtain ⟨S, HI, HO⟩ := hideS fun (L : Ran) (vs : Nat → Value) (w' : World) => Grows w7 w' ∧ KnS [some (.int .i64 (p : Int)), some (.bool false), some (.bool false), some (.slice (some ad) l.length c4), some (.pointer (some ⟨G10, 0, none⟩)), some (.int .i64 s.a), some (.int .i64 (t : Int)), some (.int .i64 (t : Int)), some (.bool false), some (.bool false), some (.bool false), some (.pointer (some ⟨G10, 1, none⟩)), some (.int .i64 s.b), some (.bool false), some (.bool false), some (.bool false), some (.pointer (some ⟨G10, 1, none⟩)), some (.int .i64 s.b), some (.int .i64 wi), some (.bool true), some (.bool true), some (.bool true), none, none, none, some (.bool true), some (.bool true), none, none, none, none, none, some (.bool true), some (.bool true), none, none, none, none, none, none, none, none, none, none, some (.bool true), some (.bool true), none, none, none, none, none, none, none, none, some (.bool true)] L vs
    refine wp_region_genW S 128 (by kernel_rfl) (by kernel_rfl) rfl ?_ ?_
    ·exact HI.out _ _ _ ⟨Grows.drew' _, kn_none _ _⟩
    refine gen_consR (fun vs L w1 hL hw1 => ?_) ?_
    ·obtain ⟨q0, q1⟩ := HO.out _ _ _ hw1
     refine gen_plain rfl ?_
     go_simp
     exact gr_val (HI.out _ _ _ ⟨q0, kn_known q1 rfl⟩)
    refine gen_consR (fun vs L w1 hL hw1 => ?_) ?_
    ·obtain ⟨q0, q1⟩ := HO.out _ _ _ hw1
     refine gen_plain rfl ?_
     have l0 : L 0 = true := hL.need 0 (by kernel_rfl)
     have e0 := q1 0 _ rfl l0
     simp only [e0]
     go_simp
     exact gr_val (HI.out _ _ _ ⟨q0, kn_known q1 rfl⟩)
    refine gen_consR (fun vs L w1 hL hw1 => ?_) ?_
    ·obtain ⟨q0, q1⟩ := HO.out _ _ _ hw1
     refine gen_plain rfl ?_
     have l1 : L 1 = true := hL.need 1 (by kernel_rfl)
     have e1 := q1 1 _ rfl l1
     simp only [e1]
     go_simp
     exact gr_val (HI.out _ _ _ ⟨q0, kn_known q1 rfl⟩)
    refine gen_consR (fun vs L w1 hL hw1 => ?_) ?_
    ·obtain ⟨q0, q1⟩ := HO.out _ _ _ hw1
     have l2 : L 2 = true := hL.need 2 (by kernel_rfl)
     have e2 := q1 2 _ rfl l2
     refine gen_yes ?_ ?_
     ·simp only [e2]
      rfl
     go_simp
     exact gr_val (HI.out _ _ _ ⟨q0, kn_known q1 rfl⟩)
    refine gen_consR (fun vs L w1 hL hw1 => ?_) ?_
    ·obtain ⟨q0, q1⟩ := HO.out _ _ _ hw1
     have l2 : L 2 = true := hL.need 2 (by kernel_rfl)
     have e2 := q1 2 _ rfl l2
     refine gen_yes ?_ ?_
     ·simp only [e2]
      rfl
     go_simp
     exact gr_val (HI.out _ _ _ ⟨q0, kn_known q1 rfl⟩)
    refine gen_consR (fun vs L w1 hL hw1 => ?_) ?_
    ·obtain ⟨q0, q1⟩ := HO.out _ _ _ hw1
     have l2 : L 2 = true := hL.need 2 (by kernel_rfl)
     have e2 := q1 2 _ rfl l2
     refine gen_yes ?_ ?_
     ·simp only [e2]
      rfl
     have l4 : L 4 = true := hL.need 4 (by kernel_rfl)
     have e4 := q1 4 _ rfl l4
     have x := (k10.grows q0).cell 0
     simp only [e4]
     go_simp
     exact gr_val (HI.out _ _ _ ⟨q0, kn_known q1 rfl⟩)
    refine gen_consR (fun vs L w1 hL hw1 => ?_) ?_
    ·obtain ⟨q0, q1⟩ := HO.out _ _ _ hw1
     have l2 : L 2 = true := hL.need 2 (by kernel_rfl)
     have e2 := q1 2 _ rfl l2
     refine gen_yes ?_ ?_
     ·simp only [e2]
      rfl
     have l3 : L 3 = true := hL.need 3 (by kernel_rfl)
     have e3 := q1 3 _ rfl l3
     have l5 : L 5 = true := hL.need 5 (by kernel_rfl)
     have e5 := q1 5 _ rfl l5
     simp only [e3, e5]
     go_simp
     refine gr_call ?_
     refine (slot_is (some ad) c4 l s.a (t : Int) w1 (h4.grows (below_grows hB (Nat.le_refl _) q0)) hl4 HZ2.out).mono ?_
     rintro e w2 ⟨rfl, hg⟩
     exact ⟨_, rfl, HI.out _ _ _ ⟨below_grows q0 (Nat.le_refl _) hg, kn_known q1 rfl⟩⟩
    refine gen_consR (fun vs L w1 hL hw1 => ?_) ?_
    ·obtain ⟨q0, q1⟩ := HO.out _ _ _ hw1
     have l2 : L 2 = true := hL.need 2 (by kernel_rfl)
     have e2 := q1 2 _ rfl l2
     refine gen_yes ?_ ?_
     ·simp only [e2]
      rfl
     go_simp
     exact gr_val (HI.out _ _ _ ⟨q0, kn_known q1 rfl⟩)
    refine gen_consR (fun vs L w1 hL hw1 => ?_) ?_
    ·obtain ⟨q0, q1⟩ := HO.out _ _ _ hw1
     have l2 : L 2 = true := hL.need 2 (by kernel_rfl)
     have e2 := q1 2 _ rfl l2
     refine gen_yes ?_ ?_
     ·simp only [e2]
      rfl
     have l6 : L 6 = true := hL.need 6 (by kernel_rfl)
     have e6 := q1 6 _ rfl l6
     have l7 : L 7 = true := hL.need 7 (by kernel_rfl)
     have e7 := q1 7 _ rfl l7
     simp only [e6, e7]
     go_simp
     exact gr_val (HI.out _ _ _ ⟨q0, kn_known q1 rfl⟩)
    refine gen_consR (fun vs L w1 hL hw1 => ?_) ?_
    ·obtain ⟨q0, q1⟩ := HO.out _ _ _ hw1
     refine gen_plain rfl ?_
     have l2 : L 2 = true := hL.need 2 (by kernel_rfl)
     have e2 := q1 2 _ rfl l2
     have l8 : L 8 = true := hL.need 8 (by kernel_rfl)
     have e8 := q1 8 _ rfl l8
     simp only [e2, e8]
     go_simp
     exact gr_val (HI.out _ _ _ ⟨q0, kn_known q1 rfl⟩)
    refine gen_consR (fun vs L w1 hL hw1 => ?_) ?_
    ·obtain ⟨q0, q1⟩ := HO.out _ _ _ hw1
     refine gen_plain rfl ?_
     have l9 : L 9 = true := hL.need 9 (by kernel_rfl)
     have e9 := q1 9 _ rfl l9
     simp only [e9]
     go_simp
     exact gr_val (HI.out _ _ _ ⟨q0, kn_known q1 rfl⟩)
    refine gen_consR (fun vs L w1 hL hw1 => ?_) ?_
    ·obtain ⟨q0, q1⟩ := HO.out _ _ _ hw1
     have l10 : L 10 = true := hL.need 10 (by kernel_rfl)
     have e10 := q1 10 _ rfl l10
     refine gen_yes ?_ ?_
     ·simp only [e10]
      rfl
     go_simp
     exact gr_val (HI.out _ _ _ ⟨q0, kn_known q1 rfl⟩)
    refine gen_consR (fun vs L w1 hL hw1 => ?_) ?_
    ·obtain ⟨q0, q1⟩ := HO.out _ _ _ hw1
     have l10 : L 10 = true := hL.need 10 (by kernel_rfl)
     have e10 := q1 10 _ rfl l10
     refine gen_yes ?_ ?_
     ·simp only [e10]
      rfl
     have l11 : L 11 = true := hL.need 11 (by kernel_rfl)
     have e11 := q1 11 _ rfl l11
     have x := (k10.grows q0).cell 1
     simp only [e11]
     go_simp
     exact gr_val (HI.out _ _ _ ⟨q0, kn_known q1 rfl⟩)
    refine gen_consR (fun vs L w1 hL hw1 => ?_) ?_
    ·obtain ⟨q0, q1⟩ := HO.out _ _ _ hw1
     have l10 : L 10 = true := hL.need 10 (by kernel_rfl)
     have e10 := q1 10 _ rfl l10
     refine gen_yes ?_ ?_
     ·simp only [e10]
      rfl
     have l12 : L 12 = true := hL.need 12 (by kernel_rfl)
     have e12 := q1 12 _ rfl l12
     simp only [e12]
     go_simp
     exact gr_val (HI.out _ _ _ ⟨q0, kn_known q1 rfl⟩)
    refine gen_consR (fun vs L w1 hL hw1 => ?_) ?_
    ·obtain ⟨q0, q1⟩ := HO.out _ _ _ hw1
     refine gen_plain rfl ?_
     have l10 : L 10 = true := hL.need 10 (by kernel_rfl)
     have e10 := q1 10 _ rfl l10
     have l13 : L 13 = true := hL.need 13 (by kernel_rfl)
     have e13 := q1 13 _ rfl l13
     simp only [e10, e13]
     go_simp
     exact gr_val (HI.out _ _ _ ⟨q0, kn_known q1 rfl⟩)
    refine gen_consR (fun vs L w1 hL hw1 => ?_) ?_
    ·obtain ⟨q0, q1⟩ := HO.out _ _ _ hw1
     refine gen_plain rfl ?_
     have l14 : L 14 = true := hL.need 14 (by kernel_rfl)
     have e14 := q1 14 _ rfl l14
     simp only [e14]
     go_simp
     exact gr_val (HI.out _ _ _ ⟨q0, kn_known q1 rfl⟩)
    refine gen_consR (fun vs L w1 hL hw1 => ?_) ?_
    ·obtain ⟨q0, q1⟩ := HO.out _ _ _ hw1
     have l15 : L 15 = true := hL.need 15 (by kernel_rfl)
     have e15 := q1 15 _ rfl l15
     refine gen_yes ?_ ?_
     ·simp only [e15]
      rfl
     go_simp
     exact gr_val (HI.out _ _ _ ⟨q0, kn_known q1 rfl⟩)
    refine gen_consR (fun vs L w1 hL hw1 => ?_) ?_
    ·obtain ⟨q0, q1⟩ := HO.out _ _ _ hw1
     have l15 : L 15 = true := hL.need 15 (by kernel_rfl)
     have e15 := q1 15 _ rfl l15
     refine gen_yes ?_ ?_
     ·simp only [e15]
      rfl
     have l16 : L 16 = true := hL.need 16 (by kernel_rfl)
     have e16 := q1 16 _ rfl l16
     have x := (k10.grows q0).cell 1
     simp only [e16]
     go_simp
     exact gr_val (HI.out _ _ _ ⟨q0, kn_known q1 rfl⟩)
    refine gen_consR (fun vs L w1 hL hw1 => ?_) ?_
    ·obtain ⟨q0, q1⟩ := HO.out _ _ _ hw1
     have l15 : L 15 = true := hL.need 15 (by kernel_rfl)
     have e15 := q1 15 _ rfl l15
     refine gen_yes ?_ ?_
     ·simp only [e15]
      rfl
     go_simp
     exact gr_val (HI.out _ _ _ ⟨q0, kn_known q1 rfl⟩)
    refine gen_consR (fun vs L w1 hL hw1 => ?_) ?_
    ·obtain ⟨q0, q1⟩ := HO.out _ _ _ hw1
     have l15 : L 15 = true := hL.need 15 (by kernel_rfl)
     have e15 := q1 15 _ rfl l15
     refine gen_yes ?_ ?_
     ·simp only [e15]
      rfl
     have l17 : L 17 = true := hL.need 17 (by kernel_rfl)
     have e17 := q1 17 _ rfl l17
     have l18 : L 18 = true := hL.need 18 (by kernel_rfl)
     have e18 := q1 18 _ rfl l18
     simp only [e17, e18]
     go_simp
     exact gr_val (HI.out _ _ _ ⟨q0, kn_known q1 rfl⟩)
    refine gen_consR (fun vs L w1 hL hw1 => ?_) ?_
    ·obtain ⟨q0, q1⟩ := HO.out _ _ _ hw1
     refine gen_plain rfl ?_
     have l15 : L 15 = true := hL.need 15 (by kernel_rfl)
     have e15 := q1 15 _ rfl l15
     have l19 : L 19 = true := hL.need 19 (by kernel_rfl)
     have e19 := q1 19 _ rfl l19
     simp only [e15, e19]
     go_simp
     exact gr_val (HI.out _ _ _ ⟨q0, kn_known q1 rfl⟩)
    refine gen_consR (fun vs L w1 hL hw1 => ?_) ?_
    ·obtain ⟨q0, q1⟩ := HO.out _ _ _ hw1
     refine gen_plain rfl ?_
     have l20 : L 20 = true := hL.need 20 (by kernel_rfl)
     have e20 := q1 20 _ rfl l20
     simp only [e20]
     go_simp
     exact gr_val (HI.out _ _ _ ⟨q0, kn_known q1 rfl⟩)
    refine gen_consR (fun vs L w1 hL hw1 => ?_) ?_
    ·obtain ⟨q0, q1⟩ := HO.out _ _ _ hw1
     have l21 : L 21 = true := hL.need 21 (by kernel_rfl)
     have e21 := q1 21 _ rfl l21
     refine gen_no ?_ ?_
     ·simp only [e21]
      rfl
     ·exact HI.out _ _ _ ⟨q0, kn_free q1 rfl⟩
    refine gen_consR (fun vs L w1 hL hw1 => ?_) ?_
    ·obtain ⟨q0, q1⟩ := HO.out _ _ _ hw1
     have l21 : L 21 = true := hL.need 21 (by kernel_rfl)
     have e21 := q1 21 _ rfl l21
     refine gen_no ?_ ?_
     ·simp only [e21]
      rfl
     ·exact HI.out _ _ _ ⟨q0, kn_free q1 rfl⟩
    refine gen_consR (fun vs L w1 hL hw1 => ?_) ?_
    ·obtain ⟨q0, q1⟩ := HO.out _ _ _ hw1
     have l21 : L 21 = true := hL.need 21 (by kernel_rfl)
     have e21 := q1 21 _ rfl l21
     refine gen_no ?_ ?_
     ·simp only [e21]
      rfl
     ·exact HI.out _ _ _ ⟨q0, kn_free q1 rfl⟩
    refine gen_consR (fun vs L w1 hL hw1 => ?_) ?_
    ·obtain ⟨q0, q1⟩ := HO.out _ _ _ hw1
     refine gen_plain rfl ?_
     have l21 : L 21 = true := hL.need 21 (by kernel_rfl)
     have e21 := q1 21 _ rfl l21
     simp only [e21]
     go_simp
     exact gr_val (HI.out _ _ _ ⟨q0, kn_known q1 rfl⟩)
    refine gen_consR (fun vs L w1 hL hw1 => ?_) ?_
    ·obtain ⟨q0, q1⟩ := HO.out _ _ _ hw1
     refine gen_plain rfl ?_
     have l25 : L 25 = true := hL.need 25 (by kernel_rfl)
     have e25 := q1 25 _ rfl l25
     simp only [e25]
     go_simp
     exact gr_val (HI.out _ _ _ ⟨q0, kn_known q1 rfl⟩)
    refine gen_consR (fun vs L w1 hL hw1 => ?_) ?_
    ·obtain ⟨q0, q1⟩ := HO.out _ _ _ hw1
     have l26 : L 26 = true := hL.need 26 (by kernel_rfl)
     have e26 := q1 26 _ rfl l26
     refine gen_no ?_ ?_
     ·simp only [e26]
      rfl
     ·exact HI.out _ _ _ ⟨q0, kn_free q1 rfl⟩
    refine gen_consR (fun vs L w1 hL hw1 => ?_) ?_
    ·obtain ⟨q0, q1⟩ := HO.out _ _ _ hw1
     have l26 : L 26 = true := hL.need 26 (by kernel_rfl)
     have e26 := q1 26 _ rfl l26
     refine gen_no ?_ ?_
     ·simp only [e26]
      rfl
     ·exact HI.out _ _ _ ⟨q0, kn_free q1 rfl⟩
    refine gen_consR (fun vs L w1 hL hw1 => ?_) ?_
    ·obtain ⟨q0, q1⟩ := HO.out _ _ _ hw1
     have l26 : L 26 = true := hL.need 26 (by kernel_rfl)
     have e26 := q1 26 _ rfl l26
     refine gen_no ?_ ?_
     ·simp only [e26]
      rfl
     ·exact HI.out _ _ _ ⟨q0, kn_free q1 rfl⟩
    refine gen_consR (fun vs L w1 hL hw1 => ?_) ?_
    ·obtain ⟨q0, q1⟩ := HO.out _ _ _ hw1
     have l26 : L 26 = true := hL.need 26 (by kernel_rfl)
     have e26 := q1 26 _ rfl l26
     refine gen_no ?_ ?_
     ·simp only [e26]
      rfl
     ·exact HI.out _ _ _ ⟨q0, kn_free q1 rfl⟩
    refine gen_consR (fun vs L w1 hL hw1 => ?_) ?_
    ·obtain ⟨q0, q1⟩ := HO.out _ _ _ hw1
     have l26 : L 26 = true := hL.need 26 (by kernel_rfl)
     have e26 := q1 26 _ rfl l26
     refine gen_no ?_ ?_
     ·simp only [e26]
      rfl
     ·exact HI.out _ _ _ ⟨q0, kn_free q1 rfl⟩
    refine gen_consR (fun vs L w1 hL hw1 => ?_) ?_
    ·obtain ⟨q0, q1⟩ := HO.out _ _ _ hw1
     refine gen_plain rfl ?_
     have l26 : L 26 = true := hL.need 26 (by kernel_rfl)
     have e26 := q1 26 _ rfl l26
     simp only [e26]
     go_simp
     exact gr_val (HI.out _ _ _ ⟨q0, kn_known q1 rfl⟩)
    refine gen_consR (fun vs L w1 hL hw1 => ?_) ?_
    ·obtain ⟨q0, q1⟩ := HO.out _ _ _ hw1
     refine gen_plain rfl ?_
     have l32 : L 32 = true := hL.need 32 (by kernel_rfl)
     have e32 := q1 32 _ rfl l32
     simp only [e32]
     go_simp
     exact gr_val (HI.out _ _ _ ⟨q0, kn_known q1 rfl⟩)
    refine gen_consR (fun vs L w1 hL hw1 => ?_) ?_
    ·obtain ⟨q0, q1⟩ := HO.out _ _ _ hw1
     have l33 : L 33 = true := hL.need 33 (by kernel_rfl)
     have e33 := q1 33 _ rfl l33
     refine gen_no ?_ ?_
     ·simp only [e33]
      rfl
     ·exact HI.out _ _ _ ⟨q0, kn_free q1 rfl⟩
    refine gen_consR (fun vs L w1 hL hw1 => ?_) ?_
    ·obtain ⟨q0, q1⟩ := HO.out _ _ _ hw1
     have l33 : L 33 = true := hL.need 33 (by kernel_rfl)
     have e33 := q1 33 _ rfl l33
     refine gen_no ?_ ?_
     ·simp only [e33]
      rfl
     ·exact HI.out _ _ _ ⟨q0, kn_free q1 rfl⟩
    refine gen_consR (fun vs L w1 hL hw1 => ?_) ?_
    ·obtain ⟨q0, q1⟩ := HO.out _ _ _ hw1
     have l33 : L 33 = true := hL.need 33 (by kernel_rfl)
     have e33 := q1 33 _ rfl l33
     refine gen_no ?_ ?_
     ·simp only [e33]
      rfl
     ·exact HI.out _ _ _ ⟨q0, kn_free q1 rfl⟩
    refine gen_consR (fun vs L w1 hL hw1 => ?_) ?_
    ·obtain ⟨q0, q1⟩ := HO.out _ _ _ hw1
     have l33 : L 33 = true := hL.need 33 (by kernel_rfl)
     have e33 := q1 33 _ rfl l33
     refine gen_no ?_ ?_
     ·simp only [e33]
      rfl
     ·exact HI.out _ _ _ ⟨q0, kn_free q1 rfl⟩
    refine gen_consR (fun vs L w1 hL hw1 => ?_) ?_
    ·obtain ⟨q0, q1⟩ := HO.out _ _ _ hw1
     have l33 : L 33 = true := hL.need 33 (by kernel_rfl)
     have e33 := q1 33 _ rfl l33
     refine gen_no ?_ ?_
     ·simp only [e33]
      rfl
     ·exact HI.out _ _ _ ⟨q0, kn_free q1 rfl⟩
    refine gen_consR (fun vs L w1 hL hw1 => ?_) ?_
    ·obtain ⟨q0, q1⟩ := HO.out _ _ _ hw1
     have l33 : L 33 = true := hL.need 33 (by kernel_rfl)
     have e33 := q1 33 _ rfl l33
     refine gen_no ?_ ?_
     ·simp only [e33]
      rfl
     ·exact HI.out _ _ _ ⟨q0, kn_free q1 rfl⟩
    refine gen_consR (fun vs L w1 hL hw1 => ?_) ?_
    ·obtain ⟨q0, q1⟩ := HO.out _ _ _ hw1
     have l33 : L 33 = true := hL.need 33 (by kernel_rfl)
     have e33 := q1 33 _ rfl l33
     refine gen_no ?_ ?_
     ·simp only [e33]
      rfl
     ·exact HI.out _ _ _ ⟨q0, kn_free q1 rfl⟩
    refine gen_consR (fun vs L w1 hL hw1 => ?_) ?_
    ·obtain ⟨q0, q1⟩ := HO.out _ _ _ hw1
     have l33 : L 33 = true := hL.need 33 (by kernel_rfl)
     have e33 := q1 33 _ rfl l33
     refine gen_no ?_ ?_
     ·simp only [e33]
      rfl
     ·exact HI.out _ _ _ ⟨q0, kn_free q1 rfl⟩
    refine gen_consR (fun vs L w1 hL hw1 => ?_) ?_
    ·obtain ⟨q0, q1⟩ := HO.out _ _ _ hw1
     have l33 : L 33 = true := hL.need 33 (by kernel_rfl)
     have e33 := q1 33 _ rfl l33
     refine gen_no ?_ ?_
     ·simp only [e33]
      rfl
     ·exact HI.out _ _ _ ⟨q0, kn_free q1 rfl⟩
    refine gen_consR (fun vs L w1 hL hw1 => ?_) ?_
    ·obtain ⟨q0, q1⟩ := HO.out _ _ _ hw1
     have l33 : L 33 = true := hL.need 33 (by kernel_rfl)
     have e33 := q1 33 _ rfl l33
     refine gen_no ?_ ?_
     ·simp only [e33]
      rfl
     ·exact HI.out _ _ _ ⟨q0, kn_free q1 rfl⟩
    refine gen_consR (fun vs L w1 hL hw1 => ?_) ?_
    ·obtain ⟨q0, q1⟩ := HO.out _ _ _ hw1
     refine gen_plain rfl ?_
     have l33 : L 33 = true := hL.need 33 (by kernel_rfl)
     have e33 := q1 33 _ rfl l33
     simp only [e33]
     go_simp
     exact gr_val (HI.out _ _ _ ⟨q0, kn_known q1 rfl⟩)
    refine gen_consR (fun vs L w1 hL hw1 => ?_) ?_
    ·obtain ⟨q0, q1⟩ := HO.out _ _ _ hw1
     refine gen_plain rfl ?_
     have l44 : L 44 = true := hL.need 44 (by kernel_rfl)
     have e44 := q1 44 _ rfl l44
     simp only [e44]
     go_simp
     exact gr_val (HI.out _ _ _ ⟨q0, kn_known q1 rfl⟩)
    refine gen_consR (fun vs L w1 hL hw1 => ?_) ?_
    ·obtain ⟨q0, q1⟩ := HO.out _ _ _ hw1
     have l45 : L 45 = true := hL.need 45 (by kernel_rfl)
     have e45 := q1 45 _ rfl l45
     refine gen_no ?_ ?_
     ·simp only [e45]
      rfl
     ·exact HI.out _ _ _ ⟨q0, kn_free q1 rfl⟩
    refine gen_consR (fun vs L w1 hL hw1 => ?_) ?_
    ·obtain ⟨q0, q1⟩ := HO.out _ _ _ hw1
     have l45 : L 45 = true := hL.need 45 (by kernel_rfl)
     have e45 := q1 45 _ rfl l45
     refine gen_no ?_ ?_
     ·simp only [e45]
      rfl
     ·exact HI.out _ _ _ ⟨q0, kn_free q1 rfl⟩
    refine gen_consR (fun vs L w1 hL hw1 => ?_) ?_
    ·obtain ⟨q0, q1⟩ := HO.out _ _ _ hw1
     have l45 : L 45 = true := hL.need 45 (by kernel_rfl)
     have e45 := q1 45 _ rfl l45
     refine gen_no ?_ ?_
     ·simp only [e45]
      rfl
     ·exact HI.out _ _ _ ⟨q0, kn_free q1 rfl⟩
    refine gen_consR (fun vs L w1 hL hw1 => ?_) ?_
    ·obtain ⟨q0, q1⟩ := HO.out _ _ _ hw1
     have l45 : L 45 = true := hL.need 45 (by kernel_rfl)
     have e45 := q1 45 _ rfl l45
     refine gen_no ?_ ?_
     ·simp only [e45]
      rfl
     ·exact HI.out _ _ _ ⟨q0, kn_free q1 rfl⟩
    refine gen_consR (fun vs L w1 hL hw1 => ?_) ?_
    ·obtain ⟨q0, q1⟩ := HO.out _ _ _ hw1
     have l45 : L 45 = true := hL.need 45 (by kernel_rfl)
     have e45 := q1 45 _ rfl l45
     refine gen_no ?_ ?_
     ·simp only [e45]
      rfl
     ·exact HI.out _ _ _ ⟨q0, kn_free q1 rfl⟩
    refine gen_consR (fun vs L w1 hL hw1 => ?_) ?_
    ·obtain ⟨q0, q1⟩ := HO.out _ _ _ hw1
     have l45 : L 45 = true := hL.need 45 (by kernel_rfl)
     have e45 := q1 45 _ rfl l45
     refine gen_no ?_ ?_
     ·simp only [e45]
      rfl
     ·exact HI.out _ _ _ ⟨q0, kn_free q1 rfl⟩
    refine gen_consR (fun vs L w1 hL hw1 => ?_) ?_
    ·obtain ⟨q0, q1⟩ := HO.out _ _ _ hw1
     have l45 : L 45 = true := hL.need 45 (by kernel_rfl)
     have e45 := q1 45 _ rfl l45
     refine gen_no ?_ ?_
     ·simp only [e45]
      rfl
     ·exact HI.out _ _ _ ⟨q0, kn_free q1 rfl⟩
    refine gen_consR (fun vs L w1 hL hw1 => ?_) ?_
    ·obtain ⟨q0, q1⟩ := HO.out _ _ _ hw1
     have l45 : L 45 = true := hL.need 45 (by kernel_rfl)
     have e45 := q1 45 _ rfl l45
     refine gen_no ?_ ?_
     ·simp only [e45]
      rfl
     ·exact HI.out _ _ _ ⟨q0, kn_free q1 rfl⟩
    refine gen_consR (fun vs L w1 hL hw1 => ?_) ?_
    ·obtain ⟨q0, q1⟩ := HO.out _ _ _ hw1
     refine gen_plain rfl ?_
     have l45 : L 45 = true := hL.need 45 (by kernel_rfl)
     have e45 := q1 45 _ rfl l45
     simp only [e45]
     go_simp
     exact gr_val (HI.out _ _ _ ⟨q0, kn_known q1 rfl⟩)
    refine gen_nil ?_
    intro vs L W6 hall hS
    obtain ⟨hq, q1⟩ := HO.out _ _ _ hS
    have eX54 := q1 54 _ rfl (hall 54 (by simp))
    clear hall hS HI HO q1
    simp only [eX54]
    replace hB := below_grows hB (Nat.le_refl _) hq
    replace k1 := k1.grows hq
    clear hq
    go_wp2
    go_ret
    rw [HE.out]
    exact ⟨rfl, hB⟩
   have dd3 : decide (wi ≤ s.b) = false := by simpa using b3
   by_cases b4 : s.c < 0
   case pos =>
    have dd4 : decide (s.c < 0) = true := by simpa using b4
    have HE : Hid (validS ns ls cs wi l = false) := Lib.hid (by
     refine not_valid_one HP.out HL.out HX.out ?_
     cases he : oneOk ns (wOf ns cs) wi l t s
     ·rfl
     ·exfalso
      unfold oneOk at he
      simp only [Bool.and_eq_true, decide_eq_true_eq, beq_iff_eq] at he
      omega)
    clear b4
    obtain ⟨S, HI, HO⟩ := hideS fun (L : Ran) (vs : Nat → Value) (w' : World) => Grows w7 w' ∧ KnS [some (.int .i64 (p : Int)), some (.bool false), some (.bool false), some (.slice (some ad) l.length c4), some (.pointer (some ⟨G10, 0, none⟩)), some (.int .i64 s.a), some (.int .i64 (t : Int)), some (.int .i64 (t : Int)), some (.bool false), some (.bool false), some (.bool false), some (.pointer (some ⟨G10, 1, none⟩)), some (.int .i64 s.b), some (.bool false), some (.bool false), some (.bool false), some (.pointer (some ⟨G10, 1, none⟩)), some (.int .i64 s.b), some (.int .i64 wi), some (.bool false), some (.bool false), some (.bool false), some (.pointer (some ⟨G10, 2, none⟩)), some (.int .i64 s.c), some (.bool true), some (.bool true), some (.bool true), none, none, none, none, none, some (.bool true), some (.bool true), none, none, none, none, none, none, none, none, none, none, some (.bool true), some (.bool true), none, none, none, none, none, none, none, none, some (.bool true)] L vs
    refine wp_region_genW S 128 (by kernel_rfl) (by kernel_rfl) rfl ?_ ?_
    ·exact HI.out _ _ _ ⟨Grows.drew' _, kn_none _ _⟩
    refine gen_consR (fun vs L w1 hL hw1 => ?_) ?_
    ·obtain ⟨q0, q1⟩ := HO.out _ _ _ hw1
     refine gen_plain rfl ?_
     go_simp
     exact gr_val (HI.out _ _ _ ⟨q0, kn_known q1 rfl⟩)
    refine gen_consR (fun vs L w1 hL hw1 => ?_) ?_
    ·obtain ⟨q0, q1⟩ := HO.out _ _ _ hw1
     refine gen_plain rfl ?_
     have l0 : L 0 = true := hL.need 0 (by kernel_rfl)
     have e0 := q1 0 _ rfl l0
     simp only [e0]
     go_simp
     exact gr_val (HI.out _ _ _ ⟨q0, kn_known q1 rfl⟩)
    refine gen_consR (fun vs L w1 hL hw1 => ?_) ?_
    ·obtain ⟨q0, q1⟩ := HO.out _ _ _ hw1
     refine gen_plain rfl ?_
     have l1 : L 1 = true := hL.need 1 (by kernel_rfl)
     have e1 := q1 1 _ rfl l1
     simp only [e1]
     go_simp
     exact gr_val (HI.out _ _ _ ⟨q0, kn_known q1 rfl⟩)
    refine gen_consR (fun vs L w1 hL hw1 => ?_) ?_
    ·obtain ⟨q0, q1⟩ := HO.out _ _ _ hw1
     have l2 : L 2 = true := hL.need 2 (by kernel_rfl)
     have e2 := q1 2 _ rfl l2
     refine gen_yes ?_ ?_
     ·simp only [e2]
      rfl
     go_simp
     exact gr_val (HI.out _ _ _ ⟨q0, kn_known q1 rfl⟩)
    refine gen_consR (fun vs L w1 hL hw1 => ?_) ?_
    ·obtain ⟨q0, q1⟩ := HO.out _ _ _ hw1
     have l2 : L 2 = true := hL.need 2 (by kernel_rfl)
     have e2 := q1 2 _ rfl l2
     refine gen_yes ?_ ?_
     ·simp only [e2]
      rfl
     go_simp
     exact gr_val (HI.out _ _ _ ⟨q0, kn_known q1 rfl⟩)
    refine gen_consR (fun vs L w1 hL hw1 => ?_) ?_
    ·obtain ⟨q0, q1⟩ := HO.out _ _ _ hw1
     have l2 : L 2 = true := hL.need 2 (by kernel_rfl)
     have e2 := q1 2 _ rfl l2
     refine gen_yes ?_ ?_
     ·simp only [e2]
      rfl
     have l4 : L 4 = true := hL.need 4 (by kernel_rfl)
     have e4 := q1 4 _ rfl l4
     have x := (k10.grows q0).cell 0
     simp only [e4]
     go_simp
     exact gr_val (HI.out _ _ _ ⟨q0, kn_known q1 rfl⟩)
    refine gen_consR (fun vs L w1 hL hw1 => ?_) ?_
    ·obtain ⟨q0, q1⟩ := HO.out _ _ _ hw1
     have l2 : L 2 = true := hL.need 2 (by kernel_rfl)
     have e2 := q1 2 _ rfl l2
     refine gen_yes ?_ ?_
     ·simp only [e2]
      rfl
     have l3 : L 3 = true := hL.need 3 (by kernel_rfl)
     have e3 := q1 3 _ rfl l3
     have l5 : L 5 = true := hL.need 5 (by kernel_rfl)
     have e5 := q1 5 _ rfl l5
     simp only [e3, e5]
     go_simp
     refine gr_call ?_
     refine (slot_is (some ad) c4 l s.a (t : Int) w1 (h4.grows (below_grows hB (Nat.le_refl _) q0)) hl4 HZ2.out).mono ?_
     rintro e w2 ⟨rfl, hg⟩
     exact ⟨_, rfl, HI.out _ _ _ ⟨below_grows q0 (Nat.le_refl _) hg, kn_known q1 rfl⟩⟩
    refine gen_consR (fun vs L w1 hL hw1 => ?_) ?_
    ·obtain ⟨q0, q1⟩ := HO.out _ _ _ hw1
     have l2 : L 2 = true := hL.need 2 (by kernel_rfl)
     have e2 := q1 2 _ rfl l2
     refine gen_yes ?_ ?_
     ·simp only [e2]
      rfl
     go_simp
     exact gr_val (HI.out _ _ _ ⟨q0, kn_known q1 rfl⟩)
    refine gen_consR (fun vs L w1 hL hw1 => ?_) ?_
    ·obtain ⟨q0, q1⟩ := HO.out _ _ _ hw1
     have l2 : L 2 = true := hL.need 2 (by kernel_rfl)
     have e2 := q1 2 _ rfl l2
     refine gen_yes ?_ ?_
     ·simp only [e2]
      rfl
     have l6 : L 6 = true := hL.need 6 (by kernel_rfl)
     have e6 := q1 6 _ rfl l6
     have l7 : L 7 = true := hL.need 7 (by kernel_rfl)
     have e7 := q1 7 _ rfl l7
     simp only [e6, e7]
     go_simp
     exact gr_val (HI.out _ _ _ ⟨q0, kn_known q1 rfl⟩)
    refine gen_consR (fun vs L w1 hL hw1 => ?_) ?_
    ·obtain ⟨q0, q1⟩ := HO.out _ _ _ hw1
     refine gen_plain rfl ?_
     have l2 : L 2 = true := hL.need 2 (by kernel_rfl)
     have e2 := q1 2 _ rfl l2
     have l8 : L 8 = true := hL.need 8 (by kernel_rfl)
     have e8 := q1 8 _ rfl l8
     simp only [e2, e8]
     go_simp
     exact gr_val (HI.out _ _ _ ⟨q0, kn_known q1 rfl⟩)
    refine gen_consR (fun vs L w1 hL hw1 => ?_) ?_
    ·obtain ⟨q0, q1⟩ := HO.out _ _ _ hw1
     refine gen_plain rfl ?_
     have l9 : L 9 = true := hL.need 9 (by kernel_rfl)
     have e9 := q1 9 _ rfl l9
     simp only [e9]
     go_simp
     exact gr_val (HI.out _ _ _ ⟨q0, kn_known q1 rfl⟩)
    refine gen_consR (fun vs L w1 hL hw1 => ?_) ?_
    ·obtain ⟨q0, q1⟩ := HO.out _ _ _ hw1
     have l10 : L 10 = true := hL.need 10 (by kernel_rfl)
     have e10 := q1 10 _ rfl l10
     refine gen_yes ?_ ?_
     ·simp only [e10]
      rfl
     go_simp
     exact gr_val (HI.out _ _ _ ⟨q0, kn_known q1 rfl⟩)
    refine gen_consR (fun vs L w1 hL hw1 => ?_) ?_
    ·obtain ⟨q0, q1⟩ := HO.out _ _ _ hw1
     have l10 : L 10 = true := hL.need 10 (by kernel_rfl)
     have e10 := q1 10 _ rfl l10
     refine gen_yes ?_ ?_
     ·simp only [e10]
      rfl
     have l11 : L 11 = true := hL.need 11 (by kernel_rfl)
     have e11 := q1 11 _ rfl l11
     have x := (k10.grows q0).cell 1
     simp only [e11]
     go_simp
     exact gr_val (HI.out _ _ _ ⟨q0, kn_known q1 rfl⟩)
    refine gen_consR (fun vs L w1 hL hw1 => ?_) ?_
    ·obtain ⟨q0, q1⟩ := HO.out _ _ _ hw1
     have l10 : L 10 = true := hL.need 10 (by kernel_rfl)
     have e10 := q1 10 _ rfl l10
     refine gen_yes ?_ ?_
     ·simp only [e10]
      rfl
     have l12 : L 12 = true := hL.need 12 (by kernel_rfl)
     have e12 := q1 12 _ rfl l12
     simp only [e12]
     go_simp
     exact gr_val (HI.out _ _ _ ⟨q0, kn_known q1 rfl⟩)
    refine gen_consR (fun vs L w1 hL hw1 => ?_) ?_
    ·obtain ⟨q0, q1⟩ := HO.out _ _ _ hw1
     refine gen_plain rfl ?_
     have l10 : L 10 = true := hL.need 10 (by kernel_rfl)
     have e10 := q1 10 _ rfl l10
     have l13 : L 13 = true := hL.need 13 (by kernel_rfl)
     have e13 := q1 13 _ rfl l13
     simp only [e10, e13]
     go_simp
     exact gr_val (HI.out _ _ _ ⟨q0, kn_known q1 rfl⟩)
    refine gen_consR (fun vs L w1 hL hw1 => ?_) ?_
    ·obtain ⟨q0, q1⟩ := HO.out _ _ _ hw1
     refine gen_plain rfl ?_
     have l14 : L 14 = true := hL.need 14 (by kernel_rfl)
     have e14 := q1 14 _ rfl l14
     simp only [e14]
     go_simp
     exact gr_val (HI.out _ _ _ ⟨q0, kn_known q1 rfl⟩)
    refine gen_consR (fun vs L w1 hL hw1 => ?_) ?_
    ·obtain ⟨q0, q1⟩ := HO.out _ _ _ hw1
     have l15 : L 15 = true := hL.need 15 (by kernel_rfl)
     have e15 := q1 15 _ rfl l15
     refine gen_yes ?_ ?_
     ·simp only [e15]
      rfl
     go_simp
     exact gr_val (HI.out _ _ _ ⟨q0, kn_known q1 rfl⟩)
    refine gen_consR (fun vs L w1 hL hw1 => ?_) ?_
    ·obtain ⟨q0, q1⟩ := HO.out _ _ _ hw1
     have l15 : L 15 = true := hL.need 15 (by kernel_rfl)
     have e15 := q1 15 _ rfl l15
     refine gen_yes ?_ ?_
     ·simp only [e15]
      rfl
     have l16 : L 16 = true := hL.need 16 (by kernel_rfl)
     have e16 := q1 16 _ rfl l16
     have x := (k10.grows q0).cell 1
     simp only [e16]
     go_simp
     exact gr_val (HI.out _ _ _ ⟨q0, kn_known q1 rfl⟩)
    refine gen_consR (fun vs L w1 hL hw1 => ?_) ?_
    ·obtain ⟨q0, q1⟩ := HO.out _ _ _ hw1
     have l15 : L 15 = true := hL.need 15 (by kernel_rfl)
     have e15 := q1 15 _ rfl l15
     refine gen_yes ?_ ?_
     ·simp only [e15]
      rfl
     go_simp
     exact gr_val (HI.out _ _ _ ⟨q0, kn_known q1 rfl⟩)
    refine gen_consR (fun vs L w1 hL hw1 => ?_) ?_
    ·obtain ⟨q0, q1⟩ := HO.out _ _ _ hw1
     have l15 : L 15 = true := hL.need 15 (by kernel_rfl)
     have e15 := q1 15 _ rfl l15
     refine gen_yes ?_ ?_
     ·simp only [e15]
      rfl
     have l17 : L 17 = true := hL.need 17 (by kernel_rfl)
     have e17 := q1 17 _ rfl l17
     have l18 : L 18 = true := hL.need 18 (by kernel_rfl)
     have e18 := q1 18 _ rfl l18
     simp only [e17, e18]
     go_simp
     exact gr_val (HI.out _ _ _ ⟨q0, kn_known q1 rfl⟩)
    refine gen_consR (fun vs L w1 hL hw1 => ?_) ?_
    ·obtain ⟨q0, q1⟩ := HO.out _ _ _ hw1
     refine gen_plain rfl ?_
     have l15 : L 15 = true := hL.need 15 (by kernel_rfl)
     have e15 := q1 15 _ rfl l15
     have l19 : L 19 = true := hL.need 19 (by kernel_rfl)
     have e19 := q1 19 _ rfl l19
     simp only [e15, e19]
     go_simp
     exact gr_val (HI.out _ _ _ ⟨q0, kn_known q1 rfl⟩)
    refine gen_consR (fun vs L w1 hL hw1 => ?_) ?_
    ·obtain ⟨q0, q1⟩ := HO.out _ _ _ hw1
     refine gen_plain rfl ?_
     have l20 : L 20 = true := hL.need 20 (by kernel_rfl)
     have e20 := q1 20 _ rfl l20
     simp only [e20]
     go_simp
     exact gr_val (HI.out _ _ _ ⟨q0, kn_known q1 rfl⟩)
    refine gen_consR (fun vs L w1 hL hw1 => ?_) ?_
    ·obtain ⟨q0, q1⟩ := HO.out _ _ _ hw1
     have l21 : L 21 = true := hL.need 21 (by kernel_rfl)
     have e21 := q1 21 _ rfl l21
     refine gen_yes ?_ ?_
     ·simp only [e21]
      rfl
     go_simp
     exact gr_val (HI.out _ _ _ ⟨q0, kn_known q1 rfl⟩)
    refine gen_consR (fun vs L w1 hL hw1 => ?_) ?_
    ·obtain ⟨q0, q1⟩ := HO.out _ _ _ hw1
     have l21 : L 21 = true := hL.need 21 (by kernel_rfl)
     have e21 := q1 21 _ rfl l21
     refine gen_yes ?_ ?_
     ·simp only [e21]
      rfl
     have l22 : L 22 = true := hL.need 22 (by kernel_rfl)
     have e22 := q1 22 _ rfl l22
     have x := (k10.grows q0).cell 2
     simp only [e22]
     go_simp
     exact gr_val (HI.out _ _ _ ⟨q0, kn_known q1 rfl⟩)
    refine gen_consR (fun vs L w1 hL hw1 => ?_) ?_
    ·obtain ⟨q0, q1⟩ := HO.out _ _ _ hw1
     have l21 : L 21 = true := hL.need 21 (by kernel_rfl)
     have e21 := q1 21 _ rfl l21
     refine gen_yes ?_ ?_
     ·simp only [e21]
      rfl
     have l23 : L 23 = true := hL.need 23 (by kernel_rfl)
     have e23 := q1 23 _ rfl l23
     simp only [e23]
     go_simp
     exact gr_val (HI.out _ _ _ ⟨q0, kn_known q1 rfl⟩)
    refine gen_consR (fun vs L w1 hL hw1 => ?_) ?_
    ·obtain ⟨q0, q1⟩ := HO.out _ _ _ hw1
     refine gen_plain rfl ?_
     have l21 : L 21 = true := hL.need 21 (by kernel_rfl)
     have e21 := q1 21 _ rfl l21
     have l24 : L 24 = true := hL.need 24 (by kernel_rfl)
     have e24 := q1 24 _ rfl l24
     simp only [e21, e24]
     go_simp
     exact gr_val (HI.out _ _ _ ⟨q0, kn_known q1 rfl⟩)
    refine gen_consR (fun vs L w1 hL hw1 => ?_) ?_
    ·obtain ⟨q0, q1⟩ := HO.out _ _ _ hw1
     refine gen_plain rfl ?_
     have l25 : L 25 = true := hL.need 25 (by kernel_rfl)
     have e25 := q1 25 _ rfl l25
     simp only [e25]
     go_simp
     exact gr_val (HI.out _ _ _ ⟨q0, kn_known q1 rfl⟩)
    refine gen_consR (fun vs L w1 hL hw1 => ?_) ?_
    ·obtain ⟨q0, q1⟩ := HO.out _ _ _ hw1
     have l26 : L 26 = true := hL.need 26 (by kernel_rfl)
     have e26 := q1 26 _ rfl l26
     refine gen_no ?_ ?_
     ·simp only [e26]
      rfl
     ·exact HI.out _ _ _ ⟨q0, kn_free q1 rfl⟩
    refine gen_consR (fun vs L w1 hL hw1 => ?_) ?_
    ·obtain ⟨q0, q1⟩ := HO.out _ _ _ hw1
     have l26 : L 26 = true := hL.need 26 (by kernel_rfl)
     have e26 := q1 26 _ rfl l26
     refine gen_no ?_ ?_
     ·simp only [e26]
      rfl
     ·exact HI.out _ _ _ ⟨q0, kn_free q1 rfl⟩
    refine gen_consR (fun vs L w1 hL hw1 => ?_) ?_
    ·obtain ⟨q0, q1⟩ := HO.out _ _ _ hw1
     have l26 : L 26 = true := hL.need 26 (by kernel_rfl)
     have e26 := q1 26 _ rfl l26
     refine gen_no ?_ ?_
     ·simp only [e26]
      rfl
     ·exact HI.out _ _ _ ⟨q0, kn_free q1 rfl⟩
    refine gen_consR (fun vs L w1 hL hw1 => ?_) ?_
    ·obtain ⟨q0, q1⟩ := HO.out _ _ _ hw1
     have l26 : L 26 = true := hL.need 26 (by kernel_rfl)
     have e26 := q1 26 _ rfl l26
     refine gen_no ?_ ?_
     ·simp only [e26]
      rfl
     ·exact HI.out _ _ _ ⟨q0, kn_free q1 rfl⟩
    refine gen_consR (fun vs L w1 hL hw1 => ?_) ?_
    ·obtain ⟨q0, q1⟩ := HO.out _ _ _ hw1
     have l26 : L 26 = true := hL.need 26 (by kernel_rfl)
     have e26 := q1 26 _ rfl l26
     refine gen_no ?_ ?_
     ·simp only [e26]
      rfl
     ·exact HI.out _ _ _ ⟨q0, kn_free q1 rfl⟩
    refine gen_consR (fun vs L w1 hL hw1 => ?_) ?_
    ·obtain ⟨q0, q1⟩ := HO.out _ _ _ hw1
     refine gen_plain rfl ?_
     have l26 : L 26 = true := hL.need 26 (by kernel_rfl)
     have e26 := q1 26 _ rfl l26
     simp only [e26]
     go_simp
     exact gr_val (HI.out _ _ _ ⟨q0, kn_known q1 rfl⟩)
    refine gen_consR (fun vs L w1 hL hw1 => ?_) ?_
    ·obtain ⟨q0, q1⟩ := HO.out _ _ _ hw1
     refine gen_plain rfl ?_
     have l32 : L 32 = true := hL.need 32 (by kernel_rfl)
     have e32 := q1 32 _ rfl l32
     simp only [e32]
     go_simp
     exact gr_val (HI.out _ _ _ ⟨q0, kn_known q1 rfl⟩)
    refine gen_consR (fun vs L w1 hL hw1 => ?_) ?_
    ·obtain ⟨q0, q1⟩ := HO.out _ _ _ hw1
     have l33 : L 33 = true := hL.need 33 (by kernel_rfl)
     have e33 := q1 33 _ rfl l33
     refine gen_no ?_ ?_
     ·simp only [e33]
      rfl
     ·exact HI.out _ _ _ ⟨q0, kn_free q1 rfl⟩
    refine gen_consR (fun vs L w1 hL hw1 => ?_) ?_
    ·obtain ⟨q0, q1⟩ := HO.out _ _ _ hw1
     have l33 : L 33 = true := hL.need 33 (by kernel_rfl)
     have e33 := q1 33 _ rfl l33
     refine gen_no ?_ ?_
     ·simp only [e33]
      rfl
     ·exact HI.out _ _ _ ⟨q0, kn_free q1 rfl⟩
    refine gen_consR (fun vs L w1 hL hw1 => ?_) ?_
    ·obtain ⟨q0, q1⟩ := HO.out _ _ _ hw1
     have l33 : L 33 = true := hL.need 33 (by kernel_rfl)
     have e33 := q1 33 _ rfl l33
     refine gen_no ?_ ?_
     ·simp only [e33]
      rfl
     ·exact HI.out _ _ _ ⟨q0, kn_free q1 rfl⟩
    refine gen_consR (fun vs L w1 hL hw1 => ?_) ?_
    ·obtain ⟨q0, q1⟩ := HO.out _ _ _ hw1
     have l33 : L 33 = true := hL.need 33 (by kernel_rfl)
     have e33 := q1 33 _ rfl l33
     refine gen_no ?_ ?_
     ·simp only [e33]
      rfl
     ·exact HI.out _ _ _ ⟨q0, kn_free q1 rfl⟩
    refine gen_consR (fun vs L w1 hL hw1 => ?_) ?_
    ·obtain ⟨q0, q1⟩ := HO.out _ _ _ hw1
     have l33 : L 33 = true := hL.need 33 (by kernel_rfl)
     have e33 := q1 33 _ rfl l33
     refine gen_no ?_ ?_
     ·simp only [e33]
      rfl
     ·exact HI.out _ _ _ ⟨q0, kn_free q1 rfl⟩
    refine gen_consR (fun vs L w1 hL hw1 => ?_) ?_
    ·obtain ⟨q0, q1⟩ := HO.out _ _ _ hw1
     have l33 : L 33 = true := hL.need 33 (by kernel_rfl)
     have e33 := q1 33 _ rfl l33
     refine gen_no ?_ ?_
     ·simp only [e33]
      rfl
     ·exact HI.out _ _ _ ⟨q0, kn_free q1 rfl⟩
    refine gen_consR (fun vs L w1 hL hw1 => ?_) ?_
    ·obtain ⟨q0, q1⟩ := HO.out _ _ _ hw1
     have l33 : L 33 = true := hL.need 33 (by kernel_rfl)
     have e33 := q1 33 _ rfl l33
     refine gen_no ?_ ?_
     ·simp only [e33]
      rfl
     ·exact HI.out _ _ _ ⟨q0, kn_free q1 rfl⟩
    refine gen_consR (fun vs L w1 hL hw1 => ?_) ?_
    ·obtain ⟨q0, q1⟩ := HO.out _ _ _ hw1
     have l33 : L 33 = true := hL.need 33 (by kernel_rfl)
     have e33 := q1 33 _ rfl l33
     refine gen_no ?_ ?_
     ·simp only [e33]
      rfl
     ·exact HI.out _ _ _ ⟨q0, kn_free q1 rfl⟩
    refine gen_consR (fun vs L w1 hL hw1 => ?_) ?_
    ·obtain ⟨q0, q1⟩ := HO.out _ _ _ hw1
     have l33 : L 33 = true := hL.need 33 (by kernel_rfl)
     have e33 := q1 33 _ rfl l33
     refine gen_no ?_ ?_
     ·simp only [e33]
      rfl
     ·exact HI.out _ _ _ ⟨q0, kn_free q1 rfl⟩
    refine gen_consR (fun vs L w1 hL hw1 => ?_) ?_
    ·obtain ⟨q0, q1⟩ := HO.out _ _ _ hw1
     have l33 : L 33 = true := hL.need 33 (by kernel_rfl)
     have e33 := q1 33 _ rfl l33
     refine gen_no ?_ ?_
     ·simp only [e33]
      rfl
     ·exact HI.out _ _ _ ⟨q0, kn_free q1 rfl⟩
    refine gen_consR (fun vs L w1 hL hw1 => ?_) ?_
    ·obtain ⟨q0, q1⟩ := HO.out _ _ _ hw1
     refine gen_plain rfl ?_
     have l33 : L 33 = true := hL.need 33 (by kernel_rfl)
     have e33 := q1 33 _ rfl l33
     simp only [e33]
     go_simp
     exact gr_val (HI.out _ _ _ ⟨q0, kn_known q1 rfl⟩)
    refine gen_consR (fun vs L w1 hL hw1 => ?_) ?_
    ·obtain ⟨q0, q1⟩ := HO.out _ _ _ hw1
     refine gen_plain rfl ?_
     have l44 : L 44 = true := hL.need 44 (by kernel_rfl)
     have e44 := q1 44 _ rfl l44
     simp only [e44]
     go_simp
     exact gr_val (HI.out _ _ _ ⟨q0, kn_known q1 rfl⟩)
    refine gen_consR (fun vs L w1 hL hw1 => ?_) ?_
    ·obtain ⟨q0, q1⟩ := HO.out _ _ _ hw1
     have l45 : L 45 = true := hL.need 45 (by kernel_rfl)
     have e45 := q1 45 _ rfl l45
     refine gen_no ?_ ?_
     ·simp only [e45]
      rfl
     ·exact HI.out _ _ _ ⟨q0, kn_free q1 rfl⟩
    refine gen_consR (fun vs L w1 hL hw1 => ?_) ?_
    ·obtain ⟨q0, q1⟩ := HO.out _ _ _ hw1
     have l45 : L 45 = true := hL.need 45 (by kernel_rfl)
     have e45 := q1 45 _ rfl l45
     refine gen_no ?_ ?_
     ·simp only [e45]
      rfl
     ·exact HI.out _ _ _ ⟨q0, kn_free q1 rfl⟩
    refine gen_consR (fun vs L w1 hL hw1 => ?_) ?_
    ·obtain ⟨q0, q1⟩ := HO.out _ _ _ hw1
     have l45 : L 45 = true := hL.need 45 (by kernel_rfl)
     have e45 := q1 45 _ rfl l45
     refine gen_no ?_ ?_
     ·simp only [e45]
      rfl
     ·exact HI.out _ _ _ ⟨q0, kn_free q1 rfl⟩
    refine gen_consR (fun vs L w1 hL hw1 => ?_) ?_
    ·obtain ⟨q0, q1⟩ := HO.out _ _ _ hw1
     have l45 : L 45 = true := hL.need 45 (by kernel_rfl)
     have e45 := q1 45 _ rfl l45
     refine gen_no ?_ ?_
     ·simp only [e45]
      rfl
     ·exact HI.out _ _ _ ⟨q0, kn_free q1 rfl⟩
    refine gen_consR (fun vs L w1 hL hw1 => ?_) ?_
    ·obtain ⟨q0, q1⟩ := HO.out _ _ _ hw1
     have l45 : L 45 = true := hL.need 45 (by kernel_rfl)
     have e45 := q1 45 _ rfl l45
     refine gen_no ?_ ?_
     ·simp only [e45]
      rfl
     ·exact HI.out _ _ _ ⟨q0, kn_free q1 rfl⟩
    refine gen_consR (fun vs L w1 hL hw1 => ?_) ?_
    ·obtain ⟨q0, q1⟩ := HO.out _ _ _ hw1
     have l45 : L 45 = true := hL.need 45 (by kernel_rfl)
     have e45 := q1 45 _ rfl l45
     refine gen_no ?_ ?_
     ·simp only [e45]
      rfl
     ·exact HI.out _ _ _ ⟨q0, kn_free q1 rfl⟩
    refine gen_consR (fun vs L w1 hL hw1 => ?_) ?_
    ·obtain ⟨q0, q1⟩ := HO.out _ _ _ hw1
     have l45 : L 45 = true := hL.need 45 (by kernel_rfl)
     have e45 := q1 45 _ rfl l45
     refine gen_no ?_ ?_
     ·simp only [e45]
      rfl
     ·exact HI.out _ _ _ ⟨q0, kn_free q1 rfl⟩
    refine gen_consR (fun vs L w1 hL hw1 => ?_) ?_
    ·obtain ⟨q0, q1⟩ := HO.out _ _ _ hw1
     have l45 : L 45 = true := hL.need 45 (by kernel_rfl)
     have e45 := q1 45 _ rfl l45
     refine gen_no ?_ ?_
     ·simp only [e45]
      rfl
     ·exact HI.out _ _ _ ⟨q0, kn_free q1 rfl⟩
    refine gen_consR (fun vs L w1 hL hw1 => ?_) ?_
    ·obtain ⟨q0, q1⟩ := HO.out _ _ _ hw1
     refine gen_plain rfl ?_
     have l45 : L 45 = true := hL.need 45 (by kernel_rfl)
     have e45 := q1 45 _ rfl l45
     simp only [e45]
     go_simp
     exact gr_val (HI.out _ _ _ ⟨q0, kn_known q1 rfl⟩)
    refine gen_nil ?_
    intro vs L W6 hall hS
    obtain ⟨hq, q1⟩ := HO.out _ _ _ hS
    have eX54 := q1 54 _ rfl (hall 54 (by simp))
    clear hall hS HI HO q1
    simp only [eX54]
    replace hB := below_grows hB (Nat.le_refl _) hq
    replace k1 := k1.grows hq
    clear hq
    go_wp2
    go_ret
    rw [HE.out]
    exact ⟨rfl, hB⟩
   have dd4 : decide (s.c < 0) = false := by simpa using b4
   by_cases b5 : s.d < s.c
   case pos =>
    have dd5 : decide (s.d < s.c) = true := by simpa using b5
    have HE : Hid (validS ns ls cs wi l = false) := Lib.hid (by
     refine not_valid_one HP.out HL.out HX.out ?_
     cases he : oneOk ns (wOf ns cs) wi l t s
     ·rfl
     ·exfalso
      unfold oneOk at he
      simp only [Bool.and_eq_true, decide_eq_true_eq, beq_iff_eq] at he
      omega)
    clear b5
    obtain ⟨S, HI, HO⟩ := hideS fun (L : Ran) (vs : Nat → Value) (w' : World) => Grows w7 w' ∧ KnS [some (.int .i64 (p : Int)), some (.bool false), some (.bool false), some (.slice (some ad) l.length c4), some (.pointer (some ⟨G10, 0, none⟩)), some (.int .i64 s.a), some (.int .i64 (t : Int)), some (.int .i64 (t : Int)), some (.bool false), some (.bool false), some (.bool false), some (.pointer (some ⟨G10, 1, none⟩)), some (.int .i64 s.b), some (.bool false), some (.bool false), some (.bool false), some (.pointer (some ⟨G10, 1, none⟩)), some (.int .i64 s.b), some (.int .i64 wi), some (.bool false), some (.bool false), some (.bool false), some (.pointer (some ⟨G10, 2, none⟩)), some (.int .i64 s.c), some (.bool false), some (.bool false), some (.bool false), some (.pointer (some ⟨G10, 3, none⟩)), some (.int .i64 s.d), some (.pointer (some ⟨G10, 2, none⟩)), some (.int .i64 s.c), some (.bool true), some (.bool true), some (.bool true), none, none, none, none, none, none, none, none, none, none, some (.bool true), some (.bool true), none, none, none, none, none, none, none, none, some (.bool true)] L vs
    refine wp_region_genW S 128 (by kernel_rfl) (by kernel_rfl) rfl ?_ ?_
    ·exact HI.out _ _ _ ⟨Grows.drew' _, kn_none _ _⟩
    refine gen_consR (fun vs L w1 hL hw1 => ?_) ?_
    ·obtain ⟨q0, q1⟩ := HO.out _ _ _ hw1
     refine gen_plain rfl ?_
     go_simp
     exact gr_val (HI.out _ _ _ ⟨q0, kn_known q1 rfl⟩)
    refine gen_consR (fun vs L w1 hL hw1 => ?_) ?_
    ·obtain ⟨q0, q1⟩ := HO.out _ _ _ hw1
     refine gen_plain rfl ?_
     have l0 : L 0 = true := hL.need 0 (by kernel_rfl)
     have e0 := q1 0 _ rfl l0
     simp only [e0]
     go_simp
     exact gr_val (HI.out _ _ _ ⟨q0, kn_known q1 rfl⟩)
    refine gen_consR (fun vs L w1 hL hw1 => ?_) ?_
    ·obtain ⟨q0, q1⟩ := HO.out _ _ _ hw1
     refine gen_plain rfl ?_
     have l1 : L 1 = true := hL.need 1 (by kernel_rfl)
     have e1 := q1 1 _ rfl l1
     simp only [e1]
     go_simp
     exact gr_val (HI.out _ _ _ ⟨q0, kn_known q1 rfl⟩)
    refine gen_consR (fun vs L w1 hL hw1 => ?_) ?_
    ·obtain ⟨q0, q1⟩ := HO.out _ _ _ hw1
     have l2 : L 2 = true := hL.need 2 (by kernel_rfl)
     have e2 := q1 2 _ rfl l2
     refine gen_yes ?_ ?_
     ·simp only [e2]
      rfl
     go_simp
     exact gr_val (HI.out _ _ _ ⟨q0, kn_known q1 rfl⟩)
    refine gen_consR (fun vs L w1 hL hw1 => ?_) ?_
    ·obtain ⟨q0, q1⟩ := HO.out _ _ _ hw1
     have l2 : L 2 = true := hL.need 2 (by kernel_rfl)
     have e2 := q1 2 _ rfl l2
     refine gen_yes ?_ ?_
     ·simp only [e2]
      rfl
     go_simp
     exact gr_val (HI.out _ _ _ ⟨q0, kn_known q1 rfl⟩)
    refine gen_consR (fun vs L w1 hL hw1 => ?_) ?_
    ·obtain ⟨q0, q1⟩ := HO.out _ _ _ hw1
     have l2 : L 2 = true := hL.need 2 (by kernel_rfl)
     have e2 := q1 2 _ rfl l2
     refine gen_yes ?_ ?_
     ·simp only [e2]
      rfl
     have l4 : L 4 = true := hL.need 4 (by kernel_rfl)
     have e4 := q1 4 _ rfl l4
     have x := (k10.grows q0).cell 0
     simp only [e4]
     go_simp
     exact gr_val (HI.out _ _ _ ⟨q0, kn_known q1 rfl⟩)
    refine gen_consR (fun vs L w1 hL hw1 => ?_) ?_
    ·obtain ⟨q0, q1⟩ := HO.out _ _ _ hw1
     have l2 : L 2 = true := hL.need 2 (by kernel_rfl)
     have e2 := q1 2 _ rfl l2
     refine gen_yes ?_ ?_
     ·simp only [e2]
      rfl
     have l3 : L 3 = true := hL.need 3 (by kernel_rfl)
     have e3 := q1 3 _ rfl l3
     have l5 : L 5 = true := hL.need 5 (by kernel_rfl)
     have e5 := q1 5 _ rfl l5
     simp only [e3, e5]
     go_simp
     refine gr_call ?_
     refine (slot_is (some ad) c4 l s.a (t : Int) w1 (h4.grows (below_grows hB (Nat.le_refl _) q0)) hl4 HZ2.out).mono ?_
     rintro e w2 ⟨rfl, hg⟩
     exact ⟨_, rfl, HI.out _ _ _ ⟨below_grows q0 (Nat.le_refl _) hg, kn_known q1 rfl⟩⟩
    refine gen_consR (fun vs L w1 hL hw1 => ?_) ?_
    ·obtain ⟨q0, q1⟩ := HO.out _ _ _ hw1
     have l2 : L 2 = true := hL.need 2 (by kernel_rfl)
     have e2 := q1 2 _ rfl l2
     refine gen_yes ?_ ?_
     ·simp only [e2]
      rfl
     go_simp
     exact gr_val (HI.out _ _ _ ⟨q0, kn_known q1 rfl⟩)
    refine gen_consR (fun vs L w1 hL hw1 => ?_) ?_
    ·obtain ⟨q0, q1⟩ := HO.out _ _ _ hw1
     have l2 : L 2 = true := hL.need 2 (by kernel_rfl)
     have e2 := q1 2 _ rfl l2
     refine gen_yes ?_ ?_
     ·simp only [e2]
      rfl
     have l6 : L 6 = true := hL.need 6 (by kernel_rfl)
     have e6 := q1 6 _ rfl l6
     have l7 : L 7 = true := hL.need 7 (by kernel_rfl)
     have e7 := q1 7 _ rfl l7
     simp only [e6, e7]
     go_simp
     exact gr_val (HI.out _ _ _ ⟨q0, kn_known q1 rfl⟩)
    refine gen_consR (fun vs L w1 hL hw1 => ?_) ?_
    ·obtain ⟨q0, q1⟩ := HO.out _ _ _ hw1
     refine gen_plain rfl ?_
     have l2 : L 2 = true := hL.need 2 (by kernel_rfl)
     have e2 := q1 2 _ rfl l2
     have l8 : L 8 = true := hL.need 8 (by kernel_rfl)
     have e8 := q1 8 _ rfl l8
     simp only [e2, e8]
     go_simp
     exact gr_val (HI.out _ _ _ ⟨q0, kn_known q1 rfl⟩)
    refine gen_consR (fun vs L w1 hL hw1 => ?_) ?_
    ·obtain ⟨q0, q1⟩ := HO.out _ _ _ hw1
     refine gen_plain rfl ?_
     have l9 : L 9 = true := hL.need 9 (by kernel_rfl)
     have e9 := q1 9 _ rfl l9
     simp only [e9]
     go_simp
     exact gr_val (HI.out _ _ _ ⟨q0, kn_known q1 rfl⟩)
    refine gen_consR (fun vs L w1 hL hw1 => ?_) ?_
    ·obtain ⟨q0, q1⟩ := HO.out _ _ _ hw1
     have l10 : L 10 = true := hL.need 10 (by kernel_rfl)
     have e10 := q1 10 _ rfl l10
     refine gen_yes ?_ ?_
     ·simp only [e10]
      rfl
     go_simp
     exact gr_val (HI.out _ _ _ ⟨q0, kn_known q1 rfl⟩)
    refine gen_consR (fun vs L w1 hL hw1 => ?_) ?_
    ·obtain ⟨q0, q1⟩ := HO.out _ _ _ hw1
     have l10 : L 10 = true := hL.need 10 (by kernel_rfl)
     have e10 := q1 10 _ rfl l10
     refine gen_yes ?_ ?_
     ·simp only [e10]
      rfl
     have l11 : L 11 = true := hL.need 11 (by kernel_rfl)
     have e11 := q1 11 _ rfl l11
     have x := (k10.grows q0).cell 1
     simp only [e11]
     go_simp
     exact gr_val (HI.out _ _ _ ⟨q0, kn_known q1 rfl⟩)
    refine gen_consR (fun vs L w1 hL hw1 => ?_) ?_
    ·obtain ⟨q0, q1⟩ := HO.out _ _ _ hw1
     have l10 : L 10 = true := hL.need 10 (by kernel_rfl)
     have e10 := q1 10 _ rfl l10
     refine gen_yes ?_ ?_
     ·simp only [e10]
      rfl
     have l12 : L 12 = true := hL.need 12 (by kernel_rfl)
     have e12 := q1 12 _ rfl l12
     simp only [e12]
     go_simp
     exact gr_val (HI.out _ _ _ ⟨q0, kn_known q1 rfl⟩)
    refine gen_consR (fun vs L w1 hL hw1 => ?_) ?_
    ·obtain ⟨q0, q1⟩ := HO.out _ _ _ hw1
     refine gen_plain rfl ?_
     have l10 : L 10 = true := hL.need 10 (by kernel_rfl)
     have e10 := q1 10 _ rfl l10
     have l13 : L 13 = true := hL.need 13 (by kernel_rfl)
     have e13 := q1 13 _ rfl l13
     simp only [e10, e13]
     go_simp
     exact gr_val (HI.out _ _ _ ⟨q0, kn_known q1 rfl⟩)
    refine gen_consR (fun vs L w1 hL hw1 => ?_) ?_
    ·obtain ⟨q0, q1⟩ := HO.out _ _ _ hw1
     refine gen_plain rfl ?_
     have l14 : L 14 = true := hL.need 14 (by kernel_rfl)
     have e14 := q1 14 _ rfl l14
     simp only [e14]
     go_simp
     exact gr_val (HI.out _ _ _ ⟨q0, kn_known q1 rfl⟩)
    refine gen_consR (fun vs L w1 hL hw1 => ?_) ?_
    ·obtain ⟨q0, q1⟩ := HO.out _ _ _ hw1
     have l15 : L 15 = true := hL.need 15 (by kernel_rfl)
     have e15 := q1 15 _ rfl l15
     refine gen_yes ?_ ?_
     ·simp only [e15]
      rfl
     go_simp
     exact gr_val (HI.out _ _ _ ⟨q0, kn_known q1 rfl⟩)
    refine gen_consR (fun vs L w1 hL hw1 => ?_) ?_
    ·obtain ⟨q0, q1⟩ := HO.out _ _ _ hw1
     have l15 : L 15 = true := hL.need 15 (by kernel_rfl)
     have e15 := q1 15 _ rfl l15
     refine gen_yes ?_ ?_
     ·simp only [e15]
      rfl
     have l16 : L 16 = true := hL.need 16 (by kernel_rfl)
     have e16 := q1 16 _ rfl l16
     have x := (k10.grows q0).cell 1
     simp only [e16]
     go_simp
     exact gr_val (HI.out _ _ _ ⟨q0, kn_known q1 rfl⟩)
    refine gen_consR (fun vs L w1 hL hw1 => ?_) ?_
    ·obtain ⟨q0, q1⟩ := HO.out _ _ _ hw1
     have l15 : L 15 = true := hL.need 15 (by kernel_rfl)
     have e15 := q1 15 _ rfl l15
     refine gen_yes ?_ ?_
     ·simp only [e15]
      rfl
     go_simp
     exact gr_val (HI.out _ _ _ ⟨q0, kn_known q1 rfl⟩)
    refine gen_consR (fun vs L w1 hL hw1 => ?_) ?_
    ·obtain ⟨q0, q1⟩ := HO.out _ _ _ hw1
     have l15 : L 15 = true := hL.need 15 (by kernel_rfl)
     have e15 := q1 15 _ rfl l15
     refine gen_yes ?_ ?_
     ·simp only [e15]
      rfl
     have l17 : L 17 = true := hL.need 17 (by kernel_rfl)
     have e17 := q1 17 _ rfl l17
     have l18 : L 18 = true := hL.need 18 (by kernel_rfl)
     have e18 := q1 18 _ rfl l18
     simp only [e17, e18]
     go_simp
     exact gr_val (HI.out _ _ _ ⟨q0, kn_known q1 rfl⟩)
    refine gen_consR (fun vs L w1 hL hw1 => ?_) ?_
    ·obtain ⟨q0, q1⟩ := HO.out _ _ _ hw1
     refine gen_plain rfl ?_
     have l15 : L 15 = true := hL.need 15 (by kernel_rfl)
     have e15 := q1 15 _ rfl l15
     have l19 : L 19 = true := hL.need 19 (by kernel_rfl)
     have e19 := q1 19 _ rfl l19
     simp only [e15, e19]
     go_simp
     exact gr_val (HI.out _ _ _ ⟨q0, kn_known q1 rfl⟩)
    refine gen_consR (fun vs L w1 hL hw1 => ?_) ?_
    ·obtain ⟨q0, q1⟩ := HO.out _ _ _ hw1
     refine gen_plain rfl ?_
     have l20 : L 20 = true := hL.need 20 (by kernel_rfl)
     have e20 := q1 20 _ rfl l20
     simp only [e20]
     go_simp
     exact gr_val (HI.out _ _ _ ⟨q0, kn_known q1 rfl⟩)
    refine gen_consR (fun vs L w1 hL hw1 => ?_) ?_
    ·obtain ⟨q0, q1⟩ := HO.out _ _ _ hw1
     have l21 : L 21 = true := hL.need 21 (by kernel_rfl)
     have e21 := q1 21 _ rfl l21
     refine gen_yes ?_ ?_
     ·simp only [e21]
      rfl
     go_simp
     exact gr_val (HI.out _ _ _ ⟨q0, kn_known q1 rfl⟩)
    refine gen_consR (fun vs L w1 hL hw1 => ?_) ?_
    ·obtain ⟨q0, q1⟩ := HO.out _ _ _ hw1
     have l21 : L 21 = true := hL.need 21 (by kernel_rfl)
     have e21 := q1 21 _ rfl l21
     refine gen_yes ?_ ?_
     ·simp only [e21]
      rfl
     have l22 : L 22 = true := hL.need 22 (by kernel_rfl)
     have e22 := q1 22 _ rfl l22
     have x := (k10.grows q0).cell 2
     simp only [e22]
     go_simp
     exact gr_val (HI.out _ _ _ ⟨q0, kn_known q1 rfl⟩)
    refine gen_consR (fun vs L w1 hL hw1 => ?_) ?_
    ·obtain ⟨q0, q1⟩ := HO.out _ _ _ hw1
     have l21 : L 21 = true := hL.need 21 (by kernel_rfl)
     have e21 := q1 21 _ rfl l21
     refine gen_yes ?_ ?_
     ·simp only [e21]
      rfl
     have l23 : L 23 = true := hL.need 23 (by kernel_rfl)
     have e23 := q1 23 _ rfl l23
     simp only [e23]
     go_simp
     exact gr_val (HI.out _ _ _ ⟨q0, kn_known q1 rfl⟩)
    refine gen_consR (fun vs L w1 hL hw1 => ?_) ?_
    ·obtain ⟨q0, q1⟩ := HO.out _ _ _ hw1
     refine gen_plain rfl ?_
     have l21 : L 21 = true := hL.need 21 (by kernel_rfl)
     have e21 := q1 21 _ rfl l21
     have l24 : L 24 = true := hL.need 24 (by kernel_rfl)
     have e24 := q1 24 _ rfl l24
     simp only [e21, e24]
     go_simp
     exact gr_val (HI.out _ _ _ ⟨q0, kn_known q1 rfl⟩)
    refine gen_consR (fun vs L w1 hL hw1 => ?_) ?_
    ·obtain ⟨q0, q1⟩ := HO.out _ _ _ hw1
     refine gen_plain rfl ?_
     have l25 : L 25 = true := hL.need 25 (by kernel_rfl)
     have e25 := q1 25 _ rfl l25
     simp only [e25]
     go_simp
     exact gr_val (HI.out _ _ _ ⟨q0, kn_known q1 rfl⟩)
    refine gen_consR (fun vs L w1 hL hw1 => ?_) ?_
    ·obtain ⟨q0, q1⟩ := HO.out _ _ _ hw1
     have l26 : L 26 = true := hL.need 26 (by kernel_rfl)
     have e26 := q1 26 _ rfl l26
     refine gen_yes ?_ ?_
     ·simp only [e26]
      rfl
     go_simp
     exact gr_val (HI.out _ _ _ ⟨q0, kn_known q1 rfl⟩)
    refine gen_consR (fun vs L w1 hL hw1 => ?_) ?_
    ·obtain ⟨q0, q1⟩ := HO.out _ _ _ hw1
     have l26 : L 26 = true := hL.need 26 (by kernel_rfl)
     have e26 := q1 26 _ rfl l26
     refine gen_yes ?_ ?_
     ·simp only [e26]
      rfl
     have l27 : L 27 = true := hL.need 27 (by kernel_rfl)
     have e27 := q1 27 _ rfl l27
     have x := (k10.grows q0).cell 3
     simp only [e27]
     go_simp
     exact gr_val (HI.out _ _ _ ⟨q0, kn_known q1 rfl⟩)
    refine gen_consR (fun vs L w1 hL hw1 => ?_) ?_
    ·obtain ⟨q0, q1⟩ := HO.out _ _ _ hw1
     have l26 : L 26 = true := hL.need 26 (by kernel_rfl)
     have e26 := q1 26 _ rfl l26
     refine gen_yes ?_ ?_
     ·simp only [e26]
      rfl
     go_simp
     exact gr_val (HI.out _ _ _ ⟨q0, kn_known q1 rfl⟩)
    refine gen_consR (fun vs L w1 hL hw1 => ?_) ?_
    ·obtain ⟨q0, q1⟩ := HO.out _ _ _ hw1
     have l26 : L 26 = true := hL.need 26 (by kernel_rfl)
     have e26 := q1 26 _ rfl l26
     refine gen_yes ?_ ?_
     ·simp only [e26]
      rfl
     have l29 : L 29 = true := hL.need 29 (by kernel_rfl)
     have e29 := q1 29 _ rfl l29
     have x := (k10.grows q0).cell 2
     simp only [e29]
     go_simp
     exact gr_val (HI.out _ _ _ ⟨q0, kn_known q1 rfl⟩)
    refine gen_consR (fun vs L w1 hL hw1 => ?_) ?_
    ·obtain ⟨q0, q1⟩ := HO.out _ _ _ hw1
     have l26 : L 26 = true := hL.need 26 (by kernel_rfl)
     have e26 := q1 26 _ rfl l26
     refine gen_yes ?_ ?_
     ·simp only [e26]
      rfl
     have l28 : L 28 = true := hL.need 28 (by kernel_rfl)
     have e28 := q1 28 _ rfl l28
     have l30 : L 30 = true := hL.need 30 (by kernel_rfl)
     have e30 := q1 30 _ rfl l30
     simp only [e28, e30]
     go_simp
     exact gr_val (HI.out _ _ _ ⟨q0, kn_known q1 rfl⟩)
    refine gen_consR (fun vs L w1 hL hw1 => ?_) ?_
    ·obtain ⟨q0, q1⟩ := HO.out _ _ _ hw1
     refine gen_plain rfl ?_
     have l26 : L 26 = true := hL.need 26 (by kernel_rfl)
     have e26 := q1 26 _ rfl l26
     have l31 : L 31 = true := hL.need 31 (by kernel_rfl)
     have e31 := q1 31 _ rfl l31
     simp only [e26, e31]
     go_simp
     exact gr_val (HI.out _ _ _ ⟨q0, kn_known q1 rfl⟩)
    refine gen_consR (fun vs L w1 hL hw1 => ?_) ?_
    ·obtain ⟨q0, q1⟩ := HO.out _ _ _ hw1
     refine gen_plain rfl ?_
     have l32 : L 32 = true := hL.need 32 (by kernel_rfl)
     have e32 := q1 32 _ rfl l32
     simp only [e32]
     go_simp
     exact gr_val (HI.out _ _ _ ⟨q0, kn_known q1 rfl⟩)
    refine gen_consR (fun vs L w1 hL hw1 => ?_) ?_
    ·obtain ⟨q0, q1⟩ := HO.out _ _ _ hw1
     have l33 : L 33 = true := hL.need 33 (by kernel_rfl)
     have e33 := q1 33 _ rfl l33
     refine gen_no ?_ ?_
     ·simp only [e33]
      rfl
     ·exact HI.out _ _ _ ⟨q0, kn_free q1 rfl⟩
    refine gen_consR (fun vs L w1 hL hw1 => ?_) ?_
    ·obtain ⟨q0, q1⟩ := HO.out _ _ _ hw1
     have l33 : L 33 = true := hL.need 33 (by kernel_rfl)
     have e33 := q1 33 _ rfl l33
     refine gen_no ?_ ?_
     ·simp only [e33]
      rfl
     ·exact HI.out _ _ _ ⟨q0, kn_free q1 rfl⟩
    refine gen_consR (fun vs L w1 hL hw1 => ?_) ?_
    ·obtain ⟨q0, q1⟩ := HO.out _ _ _ hw1
     have l33 : L 33 = true := hL.need 33 (by kernel_rfl)
     have e33 := q1 33 _ rfl l33
     refine gen_no ?_ ?_
     ·simp only [e33]
      rfl
     ·exact HI.out _ _ _ ⟨q0, kn_free q1 rfl⟩
    refine gen_consR (fun vs L w1 hL hw1 => ?_) ?_
    ·obtain ⟨q0, q1⟩ := HO.out _ _ _ hw1
     have l33 : L 33 = true := hL.need 33 (by kernel_rfl)
     have e33 := q1 33 _ rfl l33
     refine gen_no ?_ ?_
     ·simp only [e33]
      rfl
     ·exact HI.out _ _ _ ⟨q0, kn_free q1 rfl⟩
    refine gen_consR (fun vs L w1 hL hw1 => ?_) ?_
    ·obtain ⟨q0, q1⟩ := HO.out _ _ _ hw1
     have l33 : L 33 = true := hL.need 33 (by kernel_rfl)
     have e33 := q1 33 _ rfl l33
     refine gen_no ?_ ?_
     ·simp only [e33]
      rfl
     ·exact HI.out _ _ _ ⟨q0, kn_free q1 rfl⟩
    refine gen_consR (fun vs L w1 hL hw1 => ?_) ?_
    ·obtain ⟨q0, q1⟩ := HO.out _ _ _ hw1
     have l33 : L 33 = true := hL.need 33 (by kernel_rfl)
     have e33 := q1 33 _ rfl l33
     refine gen_no ?_ ?_
     ·simp only [e33]
      rfl
     ·exact HI.out _ _ _ ⟨q0, kn_free q1 rfl⟩
    refine gen_consR (fun vs L w1 hL hw1 => ?_) ?_
    ·obtain ⟨q0, q1⟩ := HO.out _ _ _ hw1
     have l33 : L 33 = true := hL.need 33 (by kernel_rfl)
     have e33 := q1 33 _ rfl l33
     refine gen_no ?_ ?_
     ·simp only [e33]
      rfl
     ·exact HI.out _ _ _ ⟨q0, kn_free q1 rfl⟩
    refine gen_consR (fun vs L w1 hL hw1 => ?_) ?_
    ·obtain ⟨q0, q1⟩ := HO.out _ _ _ hw1
     have l33 : L 33 = true := hL.need 33 (by kernel_rfl)
     have e33 := q1 33 _ rfl l33
     refine gen_no ?_ ?_
     ·simp only [e33]
      rfl
     ·exact HI.out _ _ _ ⟨q0, kn_free q1 rfl⟩
    refine gen_consR (fun vs L w1 hL hw1 => ?_) ?_
    ·obtain ⟨q0, q1⟩ := HO.out _ _ _ hw1
     have l33 : L 33 = true := hL.need 33 (by kernel_rfl)
     have e33 := q1 33 _ rfl l33
     refine gen_no ?_ ?_
     ·simp only [e33]
      rfl
     ·exact HI.out _ _ _ ⟨q0, kn_free q1 rfl⟩
    refine gen_consR (fun vs L w1 hL hw1 => ?_) ?_
    ·obtain ⟨q0, q1⟩ := HO.out _ _ _ hw1
     have l33 : L 33 = true := hL.need 33 (by kernel_rfl)
     have e33 := q1 33 _ rfl l33
     refine gen_no ?_ ?_
     ·simp only [e33]
      rfl
     ·exact HI.out _ _ _ ⟨q0, kn_free q1 rfl⟩
    refine gen_consR (fun vs L w1 hL hw1 => ?_) ?_
    ·obtain ⟨q0, q1⟩ := HO.out _ _ _ hw1
     refine gen_plain rfl ?_
     have l33 : L 33 = true := hL.need 33 (by kernel_rfl)
     have e33 := q1 33 _ rfl l33
     simp only [e33]
     go_simp
     exact gr_val (HI.out _ _ _ ⟨q0, kn_known q1 rfl⟩)
    refine gen_consR (fun vs L w1 hL hw1 => ?_) ?_
    ·obtain ⟨q0, q1⟩ := HO.out _ _ _ hw1
     refine gen_plain rfl ?_
     have l44 : L 44 = true := hL.need 44 (by kernel_rfl)
     have e44 := q1 44 _ rfl l44
     simp only [e44]
     go_simp
     exact gr_val (HI.out _ _ _ ⟨q0, kn_known q1 rfl⟩)
    refine gen_consR (fun vs L w1 hL hw1 => ?_) ?_
    ·obtain ⟨q0, q1⟩ := HO.out _ _ _ hw1
     have l45 : L 45 = true := hL.need 45 (by kernel_rfl)
     have e45 := q1 45 _ rfl l45
     refine gen_no ?_ ?_
     ·simp only [e45]
      rfl
     ·exact HI.out _ _ _ ⟨q0, kn_free q1 rfl⟩
    refine gen_consR (fun vs L w1 hL hw1 => ?_) ?_
    ·obtain ⟨q0, q1⟩ := HO.out _ _ _ hw1
     have l45 : L 45 = true := hL.need 45 (by kernel_rfl)
     have e45 := q1 45 _ rfl l45
     refine gen_no ?_ ?_
     ·simp only [e45]
      rfl
     ·exact HI.out _ _ _ ⟨q0, kn_free q1 rfl⟩
    refine gen_consR (fun vs L w1 hL hw1 => ?_) ?_
    ·obtain ⟨q0, q1⟩ := HO.out _ _ _ hw1
     have l45 : L 45 = true := hL.need 45 (by kernel_rfl)
     have e45 := q1 45 _ rfl l45
     refine gen_no ?_ ?_
     ·simp only [e45]
      rfl
     ·exact HI.out _ _ _ ⟨q0, kn_free q1 rfl⟩
    refine gen_consR (fun vs L w1 hL hw1 => ?_) ?_
    ·obtain ⟨q0, q1⟩ := HO.out _ _ _ hw1
     have l45 : L 45 = true := hL.need 45 (by kernel_rfl)
     have e45 := q1 45 _ rfl l45
     refine gen_no ?_ ?_
     ·simp only [e45]
      rfl
     ·exact HI.out _ _ _ ⟨q0, kn_free q1 rfl⟩
    refine gen_consR (fun vs L w1 hL hw1 => ?_) ?_
    ·obtain ⟨q0, q1⟩ := HO.out _ _ _ hw1
     have l45 : L 45 = true := hL.need 45 (by kernel_rfl)
     have e45 := q1 45 _ rfl l45
     refine gen_no ?_ ?_
     ·simp only [e45]
      rfl
     ·exact HI.out _ _ _ ⟨q0, kn_free q1 rfl⟩
    refine gen_consR (fun vs L w1 hL hw1 => ?_) ?_
    ·obtain ⟨q0, q1⟩ := HO.out _ _ _ hw1
     have l45 : L 45 = true := hL.need 45 (by kernel_rfl)
     have e45 := q1 45 _ rfl l45
     refine gen_no ?_ ?_
     ·simp only [e45]
      rfl
     ·exact HI.out _ _ _ ⟨q0, kn_free q1 rfl⟩
    refine gen_consR (fun vs L w1 hL hw1 => ?_) ?_
    ·obtain ⟨q0, q1⟩ := HO.out _ _ _ hw1
     have l45 : L 45 = true := hL.need 45 (by kernel_rfl)
     have e45 := q1 45 _ rfl l45
     refine gen_no ?_ ?_
     ·simp only [e45]
      rfl
     ·exact HI.out _ _ _ ⟨q0, kn_free q1 rfl⟩
    refine gen_consR (fun vs L w1 hL hw1 => ?_) ?_
    ·obtain ⟨q0, q1⟩ := HO.out _ _ _ hw1
     have l45 : L 45 = true := hL.need 45 (by kernel_rfl)
     have e45 := q1 45 _ rfl l45
     refine gen_no ?_ ?_
     ·simp only [e45]
      rfl
     ·exact HI.out _ _ _ ⟨q0, kn_free q1 rfl⟩
    refine gen_consR (fun vs L w1 hL hw1 => ?_) ?_
    ·obtain ⟨q0, q1⟩ := HO.out _ _ _ hw1
     refine gen_plain rfl ?_
     have l45 : L 45 = true := hL.need 45 (by kernel_rfl)
     have e45 := q1 45 _ rfl l45
     simp only [e45]
     go_simp
     exact gr_val (HI.out _ _ _ ⟨q0, kn_known q1 rfl⟩)
    refine gen_nil ?_
    intro vs L W6 hall hS
    obtain ⟨hq, q1⟩ := HO.out _ _ _ hS
    have eX54 := q1 54 _ rfl (hall 54 (by simp))
    clear hall hS HI HO q1
    simp only [eX54]
    replace hB := below_grows hB (Nat.le_refl _) hq
    replace k1 := k1.grows hq
    clear hq
    go_wp2
    go_ret
    rw [HE.out]
    exact ⟨rfl, hB⟩
   have dd5 : decide (s.d < s.c) = false := by simpa using b5
   obtain ⟨ad3, z, e3, had3, hz3, p0⟩ := (h3.grows hB).at_ (k := p) (by have := HCS.out; omega)
   have had3 : ad3.block < w7.heap.size := had3
   subst e3
   have hkc : p < cs.length := by have := HCS.out; omega
   have HWZ : Hid (wOf ns cs s.a = z) := Lib.hid (by
    rw [wOf_at HKP.out, List.getD_eq_getElem?_getD, hz3]
    rfl)
   have hwr : IntKind.i64.wrap (s.d - s.c) = s.d - s.c := by
    obtain ⟨h1, h2⟩ := HI4.out.2.2.2
    exact IntWalk.i64_in _ (by omega)
   clear hz3
   by_cases b6 : s.d - s.c = z
   case neg =>
    have dd6 : (s.d - s.c != z) = true := by simpa using b6
    have HE : Hid (validS ns ls cs wi l = false) := Lib.hid (not_valid_one HP.out HL.out HX.out (by
     unfold oneOk
     rw [HWZ.out]
     simp [b6]))
    clear b6
    obtain ⟨S, HI, HO⟩ := hideS fun (L : Ran) (vs : Nat → Value) (w' : World) => Grows w7 w' ∧ KnS [some (.int .i64 (p : Int)), some (.bool false), some (.bool false), some (.slice (some ad) l.length c4), some (.pointer (some ⟨G10, 0, none⟩)), some (.int .i64 s.a), some (.int .i64 (t : Int)), some (.int .i64 (t : Int)), some (.bool false), some (.bool false), some (.bool false), some (.pointer (some ⟨G10, 1, none⟩)), some (.int .i64 s.b), some (.bool false), some (.bool false), some (.bool false), some (.pointer (some ⟨G10, 1, none⟩)), some (.int .i64 s.b), some (.int .i64 wi), some (.bool false), some (.bool false), some (.bool false), some (.pointer (some ⟨G10, 2, none⟩)), some (.int .i64 s.c), some (.bool false), some (.bool false), some (.bool false), some (.pointer (some ⟨G10, 3, none⟩)), some (.int .i64 s.d), some (.pointer (some ⟨G10, 2, none⟩)), some (.int .i64 s.c), some (.bool false), some (.bool false), some (.bool false), some (.pointer (some ⟨G10, 3, none⟩)), some (.int .i64 s.d), some (.pointer (some ⟨G10, 2, none⟩)), some (.int .i64 s.c), some (.int .i64 (s.d - s.c)), some (.slice (some ad3) cs.length c3), some (.int .i64 (p : Int)), some (.pointer (some (ad3.add p))), some (.int .i64 z), some (.bool true), some (.bool true), some (.bool true), none, none, none, none, none, none, none, none, some (.bool true)] L vs
    refine wp_region_genW S 128 (by kernel_rfl) (by kernel_rfl) rfl ?_ ?_
    ·exact HI.out _ _ _ ⟨Grows.drew' _, kn_none _ _⟩
    refine gen_consR (fun vs L w1 hL hw1 => ?_) ?_
    ·obtain ⟨q0, q1⟩ := HO.out _ _ _ hw1
     refine gen_plain rfl ?_
     go_simp
     exact gr_val (HI.out _ _ _ ⟨q0, kn_known q1 rfl⟩)
    refine gen_consR (fun vs L w1 hL hw1 => ?_) ?_
    ·obtain ⟨q0, q1⟩ := HO.out _ _ _ hw1
     refine gen_plain rfl ?_
     have l0 : L 0 = true := hL.need 0 (by kernel_rfl)
     have e0 := q1 0 _ rfl l0
     simp only [e0]
     go_simp
     exact gr_val (HI.out _ _ _ ⟨q0, kn_known q1 rfl⟩)
    refine gen_consR (fun vs L w1 hL hw1 => ?_) ?_
    ·obtain ⟨q0, q1⟩ := HO.out _ _ _ hw1
     refine gen_plain rfl ?_
     have l1 : L 1 = true := hL.need 1 (by kernel_rfl)
     have e1 := q1 1 _ rfl l1
     simp only [e1]
     go_simp
     exact gr_val (HI.out _ _ _ ⟨q0, kn_known q1 rfl⟩)
    refine gen_consR (fun vs L w1 hL hw1 => ?_) ?_
    ·obtain ⟨q0, q1⟩ := HO.out _ _ _ hw1
     have l2 : L 2 = true := hL.need 2 (by kernel_rfl)
     have e2 := q1 2 _ rfl l2
     refine gen_yes ?_ ?_
     ·simp only [e2]
      rfl
     go_simp
     exact gr_val (HI.out _ _ _ ⟨q0, kn_known q1 rfl⟩)
    refine gen_consR (fun vs L w1 hL hw1 => ?_) ?_
    ·obtain ⟨q0, q1⟩ := HO.out _ _ _ hw1
     have l2 : L 2 = true := hL.need 2 (by kernel_rfl)
     have e2 := q1 2 _ rfl l2
     refine gen_yes ?_ ?_
     ·simp only [e2]
      rfl
     go_simp
     exact gr_val (HI.out _ _ _ ⟨q0, kn_known q1 rfl⟩)
    refine gen_consR (fun vs L w1 hL hw1 => ?_) ?_
    ·obtain ⟨q0, q1⟩ := HO.out _ _ _ hw1
     have l2 : L 2 = true := hL.need 2 (by kernel_rfl)
     have e2 := q1 2 _ rfl l2
     refine gen_yes ?_ ?_
     ·simp only [e2]
      rfl
     have l4 : L 4 = true := hL.need 4 (by kernel_rfl)
     have e4 := q1 4 _ rfl l4
     have x := (k10.grows q0).cell 0
     simp only [e4]
     go_simp
     exact gr_val (HI.out _ _ _ ⟨q0, kn_known q1 rfl⟩)
    refine gen_consR (fun vs L w1 hL hw1 => ?_) ?_
    ·obtain ⟨q0, q1⟩ := HO.out _ _ _ hw1
     have l2 : L 2 = true := hL.need 2 (by kernel_rfl)
     have e2 := q1 2 _ rfl l2
     refine gen_yes ?_ ?_
     ·simp only [e2]
      rfl
     have l3 : L 3 = true := hL.need 3 (by kernel_rfl)
     have e3 := q1 3 _ rfl l3
     have l5 : L 5 = true := hL.need 5 (by kernel_rfl)
     have e5 := q1 5 _ rfl l5
     simp only [e3, e5]
     go_simp
     refine gr_call ?_
     refine (slot_is (some ad) c4 l s.a (t : Int) w1 (h4.grows (below_grows hB (Nat.le_refl _) q0)) hl4 HZ2.out).mono ?_
     rintro e w2 ⟨rfl, hg⟩
     exact ⟨_, rfl, HI.out _ _ _ ⟨below_grows q0 (Nat.le_refl _) hg, kn_known q1 rfl⟩⟩
    refine gen_consR (fun vs L w1 hL hw1 => ?_) ?_
    ·obtain ⟨q0, q1⟩ := HO.out _ _ _ hw1
     have l2 : L 2 = true := hL.need 2 (by kernel_rfl)
     have e2 := q1 2 _ rfl l2
     refine gen_yes ?_ ?_
     ·simp only [e2]
      rfl
     go_simp
     exact gr_val (HI.out _ _ _ ⟨q0, kn_known q1 rfl⟩)
    refine gen_consR (fun vs L w1 hL hw1 => ?_) ?_
    ·obtain ⟨q0, q1⟩ := HO.out _ _ _ hw1
     have l2 : L 2 = true := hL.need 2 (by kernel_rfl)
     have e2 := q1 2 _ rfl l2
     refine gen_yes ?_ ?_
     ·simp only [e2]
      rfl
     have l6 : L 6 = true := hL.need 6 (by kernel_rfl)
     have e6 := q1 6 _ rfl l6
     have l7 : L 7 = true := hL.need 7 (by kernel_rfl)
     have e7 := q1 7 _ rfl l7
     simp only [e6, e7]
     go_simp
     exact gr_val (HI.out _ _ _ ⟨q0, kn_known q1 rfl⟩)
    refine gen_consR (fun vs L w1 hL hw1 => ?_) ?_
    ·obtain ⟨q0, q1⟩ := HO.out _ _ _ hw1
     refine gen_plain rfl ?_
     have l2 : L 2 = true := hL.need 2 (by kernel_rfl)
     have e2 := q1 2 _ rfl l2
     have l8 : L 8 = true := hL.need 8 (by kernel_rfl)
     have e8 := q1 8 _ rfl l8
     simp only [e2, e8]
     go_simp
     exact gr_val (HI.out _ _ _ ⟨q0, kn_known q1 rfl⟩)
    refine gen_consR (fun vs L w1 hL hw1 => ?_) ?_
    ·obtain ⟨q0, q1⟩ := HO.out _ _ _ hw1
     refine gen_plain rfl ?_
     have l9 : L 9 = true := hL.need 9 (by kernel_rfl)
     have e9 := q1 9 _ rfl l9
     simp only [e9]
     go_simp
     exact gr_val (HI.out _ _ _ ⟨q0, kn_known q1 rfl⟩)
    refine gen_consR (fun vs L w1 hL hw1 => ?_) ?_
    ·obtain ⟨q0, q1⟩ := HO.out _ _ _ hw1
     have l10 : L 10 = true := hL.need 10 (by kernel_rfl)
     have e10 := q1 10 _ rfl l10
     refine gen_yes ?_ ?_
     ·simp only [e10]
      rfl
     go_simp
     exact gr_val (HI.out _ _ _ ⟨q0, kn_known q1 rfl⟩)
    refine gen_consR (fun vs L w1 hL hw1 => ?_) ?_
    ·obtain ⟨q0, q1⟩ := HO.out _ _ _ hw1
     have l10 : L 10 = true := hL.need 10 (by kernel_rfl)
     have e10 := q1 10 _ rfl l10
     refine gen_yes ?_ ?_
     ·simp only [e10]
      rfl
     have l11 : L 11 = true := hL.need 11 (by kernel_rfl)
     have e11 := q1 11 _ rfl l11
     have x := (k10.grows q0).cell 1
     simp only [e11]
     go_simp
     exact gr_val (HI.out _ _ _ ⟨q0, kn_known q1 rfl⟩)
    refine gen_consR (fun vs L w1 hL hw1 => ?_) ?_
    ·obtain ⟨q0, q1⟩ := HO.out _ _ _ hw1
     have l10 : L 10 = true := hL.need 10 (by kernel_rfl)
     have e10 := q1 10 _ rfl l10
     refine gen_yes ?_ ?_
     ·simp only [e10]
      rfl
     have l12 : L 12 = true := hL.need 12 (by kernel_rfl)
     have e12 := q1 12 _ rfl l12
     simp only [e12]
     go_simp
     exact gr_val (HI.out _ _ _ ⟨q0, kn_known q1 rfl⟩)
    refine gen_consR (fun vs L w1 hL hw1 => ?_) ?_
    ·obtain ⟨q0, q1⟩ := HO.out _ _ _ hw1
     refine gen_plain rfl ?_
     have l10 : L 10 = true := hL.need 10 (by kernel_rfl)
     have e10 := q1 10 _ rfl l10
     have l13 : L 13 = true := hL.need 13 (by kernel_rfl)
     have e13 := q1 13 _ rfl l13
     simp only [e10, e13]
     go_simp
     exact gr_val (HI.out _ _ _ ⟨q0, kn_known q1 rfl⟩)
    refine gen_consR (fun vs L w1 hL hw1 => ?_) ?_
    ·obtain ⟨q0, q1⟩ := HO.out _ _ _ hw1
     refine gen_plain rfl ?_
     have l14 : L 14 = true := hL.need 14 (by kernel_rfl)
     have e14 := q1 14 _ rfl l14
     simp only [e14]
     go_simp
     exact gr_val (HI.out _ _ _ ⟨q0, kn_known q1 rfl⟩)
    refine gen_consR (fun vs L w1 hL hw1 => ?_) ?_
    ·obtain ⟨q0, q1⟩ := HO.out _ _ _ hw1
     have l15 : L 15 = true := hL.need 15 (by kernel_rfl)
     have e15 := q1 15 _ rfl l15
     refine gen_yes ?_ ?_
     ·simp only [e15]
      rfl
     go_simp
     exact gr_val (HI.out _ _ _ ⟨q0, kn_known q1 rfl⟩)
    refine gen_consR (fun vs L w1 hL hw1 => ?_) ?_
    ·obtain ⟨q0, q1⟩ := HO.out _ _ _ hw1
     have l15 : L 15 = true := hL.need 15 (by kernel_rfl)
     have e15 := q1 15 _ rfl l15
     refine gen_yes ?_ ?_
     ·simp only [e15]
      rfl
     have l16 : L 16 = true := hL.need 16 (by kernel_rfl)
     have e16 := q1 16 _ rfl l16
     have x := (k10.grows q0).cell 1
     simp only [e16]
     go_simp
     exact gr_val (HI.out _ _ _ ⟨q0, kn_known q1 rfl⟩)
    refine gen_consR (fun vs L w1 hL hw1 => ?_) ?_
    ·obtain ⟨q0, q1⟩ := HO.out _ _ _ hw1
     have l15 : L 15 = true := hL.need 15 (by kernel_rfl)
     have e15 := q1 15 _ rfl l15
     refine gen_yes ?_ ?_
     ·simp only [e15]
      rfl
     go_simp
     exact gr_val (HI.out _ _ _ ⟨q0, kn_known q1 rfl⟩)
    refine gen_consR (fun vs L w1 hL hw1 => ?_) ?_
    ·obtain ⟨q0, q1⟩ := HO.out _ _ _ hw1
     have l15 : L 15 = true := hL.need 15 (by kernel_rfl)
     have e15 := q1 15 _ rfl l15
     refine gen_yes ?_ ?_
     ·simp only [e15]
      rfl
     have l17 : L 17 = true := hL.need 17 (by kernel_rfl)
     have e17 := q1 17 _ rfl l17
     have l18 : L 18 = true := hL.need 18 (by kernel_rfl)
     have e18 := q1 18 _ rfl l18
     simp only [e17, e18]
     go_simp
     exact gr_val (HI.out _ _ _ ⟨q0, kn_known q1 rfl⟩)
    refine gen_consR (fun vs L w1 hL hw1 => ?_) ?_
    ·obtain ⟨q0, q1⟩ := HO.out _ _ _ hw1
     refine gen_plain rfl ?_
     have l15 : L 15 = true := hL.need 15 (by kernel_rfl)
     have e15 := q1 15 _ rfl l15
     have l19 : L 19 = true := hL.need 19 (by kernel_rfl)
     have e19 := q1 19 _ rfl l19
     simp only [e15, e19]
     go_simp
     exact gr_val (HI.out _ _ _ ⟨q0, kn_known q1 rfl⟩)
    refine gen_consR (fun vs L w1 hL hw1 => ?_) ?_
    ·obtain ⟨q0, q1⟩ := HO.out _ _ _ hw1
     refine gen_plain rfl ?_
     have l20 : L 20 = true := hL.need 20 (by kernel_rfl)
     have e20 := q1 20 _ rfl l20
     simp only [e20]
     go_simp
     exact gr_val (HI.out _ _ _ ⟨q0, kn_known q1 rfl⟩)
    refine gen_consR (fun vs L w1 hL hw1 => ?_) ?_
    ·obtain ⟨q0, q1⟩ := HO.out _ _ _ hw1
     have l21 : L 21 = true := hL.need 21 (by kernel_rfl)
     have e21 := q1 21 _ rfl l21
     refine gen_yes ?_ ?_
     ·simp only [e21]
      rfl
     go_simp
     exact gr_val (HI.out _ _ _ ⟨q0, kn_known q1 rfl⟩)
    refine gen_consR (fun vs L w1 hL hw1 => ?_) ?_
    ·obtain ⟨q0, q1⟩ := HO.out _ _ _ hw1
     have l21 : L 21 = true := hL.need 21 (by kernel_rfl)
     have e21 := q1 21 _ rfl l21
     refine gen_yes ?_ ?_
     ·simp only [e21]
      rfl
     have l22 : L 22 = true := hL.need 22 (by kernel_rfl)
     have e22 := q1 22 _ rfl l22
     have x := (k10.grows q0).cell 2
     simp only [e22]
     go_simp
     exact gr_val (HI.out _ _ _ ⟨q0, kn_known q1 rfl⟩)
    refine gen_consR (fun vs L w1 hL hw1 => ?_) ?_
    ·obtain ⟨q0, q1⟩ := HO.out _ _ _ hw1
     have l21 : L 21 = true := hL.need 21 (by kernel_rfl)
     have e21 := q1 21 _ rfl l21
     refine gen_yes ?_ ?_
     ·simp only [e21]
      rfl
     have l23 : L 23 = true := hL.need 23 (by kernel_rfl)
     have e23 := q1 23 _ rfl l23
     simp only [e23]
     go_simp
     exact gr_val (HI.out _ _ _ ⟨q0, kn_known q1 rfl⟩)
    refine gen_consR (fun vs L w1 hL hw1 => ?_) ?_
    ·obtain ⟨q0, q1⟩ := HO.out _ _ _ hw1
     refine gen_plain rfl ?_
     have l21 : L 21 = true := hL.need 21 (by kernel_rfl)
     have e21 := q1 21 _ rfl l21
     have l24 : L 24 = true := hL.need 24 (by kernel_rfl)
     have e24 := q1 24 _ rfl l24
     simp only [e21, e24]
     go_simp
     exact gr_val (HI.out _ _ _ ⟨q0, kn_known q1 rfl⟩)
    refine gen_consR (fun vs L w1 hL hw1 => ?_) ?_
    ·obtain ⟨q0, q1⟩ := HO.out _ _ _ hw1
     refine gen_plain rfl ?_
     have l25 : L 25 = true := hL.need 25 (by kernel_rfl)
     have e25 := q1 25 _ rfl l25
     simp only [e25]
     go_simp
     exact gr_val (HI.out _ _ _ ⟨q0, kn_known q1 rfl⟩)
    refine gen_consR (fun vs L w1 hL hw1 => ?_) ?_
    ·obtain ⟨q0, q1⟩ := HO.out _ _ _ hw1
     have l26 : L 26 = true := hL.need 26 (by kernel_rfl)
     have e26 := q1 26 _ rfl l26
     refine gen_yes ?_ ?_
     ·simp only [e26]
      rfl
     go_simp
     exact gr_val (HI.out _ _ _ ⟨q0, kn_known q1 rfl⟩)
    refine gen_consR (fun vs L w1 hL hw1 => ?_) ?_
    ·obtain ⟨q0, q1⟩ := HO.out _ _ _ hw1
     have l26 : L 26 = true := hL.need 26 (by kernel_rfl)
     have e26 := q1 26 _ rfl l26
     refine gen_yes ?_ ?_
     ·simp only [e26]
      rfl
     have l27 : L 27 = true := hL.need 27 (by kernel_rfl)
     have e27 := q1 27 _ rfl l27
     have x := (k10.grows q0).cell 3
     simp only [e27]
     go_simp
     exact gr_val (HI.out _ _ _ ⟨q0, kn_known q1 rfl⟩)
    refine gen_consR (fun vs L w1 hL hw1 => ?_) ?_
    ·obtain ⟨q0, q1⟩ := HO.out _ _ _ hw1
     have l26 : L 26 = true := hL.need 26 (by kernel_rfl)
     have e26 := q1 26 _ rfl l26
     refine gen_yes ?_ ?_
     ·simp only [e26]
      rfl
     go_simp
     exact gr_val (HI.out _ _ _ ⟨q0, kn_known q1 rfl⟩)
    refine gen_consR (fun vs L w1 hL hw1 => ?_) ?_
    ·obtain ⟨q0, q1⟩ := HO.out _ _ _ hw1
     have l26 : L 26 = true := hL.need 26 (by kernel_rfl)
     have e26 := q1 26 _ rfl l26
     refine gen_yes ?_ ?_
     ·simp only [e26]
      rfl
     have l29 : L 29 = true := hL.need 29 (by kernel_rfl)
     have e29 := q1 29 _ rfl l29
     have x := (k10.grows q0).cell 2
     simp only [e29]
     go_simp
     exact gr_val (HI.out _ _ _ ⟨q0, kn_known q1 rfl⟩)
    refine gen_consR (fun vs L w1 hL hw1 => ?_) ?_
    ·obtain ⟨q0, q1⟩ := HO.out _ _ _ hw1
     have l26 : L 26 = true := hL.need 26 (by kernel_rfl)
     have e26 := q1 26 _ rfl l26
     refine gen_yes ?_ ?_
     ·simp only [e26]
      rfl
     have l28 : L 28 = true := hL.need 28 (by kernel_rfl)
     have e28 := q1 28 _ rfl l28
     have l30 : L 30 = true := hL.need 30 (by kernel_rfl)
     have e30 := q1 30 _ rfl l30
     simp only [e28, e30]
     go_simp
     exact gr_val (HI.out _ _ _ ⟨q0, kn_known q1 rfl⟩)
    refine gen_consR (fun vs L w1 hL hw1 => ?_) ?_
    ·obtain ⟨q0, q1⟩ := HO.out _ _ _ hw1
     refine gen_plain rfl ?_
     have l26 : L 26 = true := hL.need 26 (by kernel_rfl)
     have e26 := q1 26 _ rfl l26
     have l31 : L 31 = true := hL.need 31 (by kernel_rfl)
     have e31 := q1 31 _ rfl l31
     simp only [e26, e31]
     go_simp
     exact gr_val (HI.out _ _ _ ⟨q0, kn_known q1 rfl⟩)
    refine gen_consR (fun vs L w1 hL hw1 => ?_) ?_
    ·obtain ⟨q0, q1⟩ := HO.out _ _ _ hw1
     refine gen_plain rfl ?_
     have l32 : L 32 = true := hL.need 32 (by kernel_rfl)
     have e32 := q1 32 _ rfl l32
     simp only [e32]
     go_simp
     exact gr_val (HI.out _ _ _ ⟨q0, kn_known q1 rfl⟩)
    refine gen_consR (fun vs L w1 hL hw1 => ?_) ?_
    ·obtain ⟨q0, q1⟩ := HO.out _ _ _ hw1
     have l33 : L 33 = true := hL.need 33 (by kernel_rfl)
     have e33 := q1 33 _ rfl l33
     refine gen_yes ?_ ?_
     ·simp only [e33]
      rfl
     go_simp
     exact gr_val (HI.out _ _ _ ⟨q0, kn_known q1 rfl⟩)
    refine gen_consR (fun vs L w1 hL hw1 => ?_) ?_
    ·obtain ⟨q0, q1⟩ := HO.out _ _ _ hw1
     have l33 : L 33 = true := hL.need 33 (by kernel_rfl)
     have e33 := q1 33 _ rfl l33
     refine gen_yes ?_ ?_
     ·simp only [e33]
      rfl
     have l34 : L 34 = true := hL.need 34 (by kernel_rfl)
     have e34 := q1 34 _ rfl l34
     have x := (k10.grows q0).cell 3
     simp only [e34]
     go_simp
     exact gr_val (HI.out _ _ _ ⟨q0, kn_known q1 rfl⟩)
    refine gen_consR (fun vs L w1 hL hw1 => ?_) ?_
    ·obtain ⟨q0, q1⟩ := HO.out _ _ _ hw1
     have l33 : L 33 = true := hL.need 33 (by kernel_rfl)
     have e33 := q1 33 _ rfl l33
     refine gen_yes ?_ ?_
     ·simp only [e33]
      rfl
     go_simp
     exact gr_val (HI.out _ _ _ ⟨q0, kn_known q1 rfl⟩)
    refine gen_consR (fun vs L w1 hL hw1 => ?_) ?_
    ·obtain ⟨q0, q1⟩ := HO.out _ _ _ hw1
     have l33 : L 33 = true := hL.need 33 (by kernel_rfl)
     have e33 := q1 33 _ rfl l33
     refine gen_yes ?_ ?_
     ·simp only [e33]
      rfl
     have l36 : L 36 = true := hL.need 36 (by kernel_rfl)
     have e36 := q1 36 _ rfl l36
     have x := (k10.grows q0).cell 2
     simp only [e36]
     go_simp
     exact gr_val (HI.out _ _ _ ⟨q0, kn_known q1 rfl⟩)
    refine gen_consR (fun vs L w1 hL hw1 => ?_) ?_
    ·obtain ⟨q0, q1⟩ := HO.out _ _ _ hw1
     have l33 : L 33 = true := hL.need 33 (by kernel_rfl)
     have e33 := q1 33 _ rfl l33
     refine gen_yes ?_ ?_
     ·simp only [e33]
      rfl
     have l35 : L 35 = true := hL.need 35 (by kernel_rfl)
     have e35 := q1 35 _ rfl l35
     have l37 : L 37 = true := hL.need 37 (by kernel_rfl)
     have e37 := q1 37 _ rfl l37
     simp only [e35, e37]
     go_simp
     exact gr_val (HI.out _ _ _ ⟨q0, kn_known q1 rfl⟩)
    refine gen_consR (fun vs L w1 hL hw1 => ?_) ?_
    ·obtain ⟨q0, q1⟩ := HO.out _ _ _ hw1
     have l33 : L 33 = true := hL.need 33 (by kernel_rfl)
     have e33 := q1 33 _ rfl l33
     refine gen_yes ?_ ?_
     ·simp only [e33]
      rfl
     go_simp
     exact gr_val (HI.out _ _ _ ⟨q0, kn_known q1 rfl⟩)
    refine gen_consR (fun vs L w1 hL hw1 => ?_) ?_
    ·obtain ⟨q0, q1⟩ := HO.out _ _ _ hw1
     have l33 : L 33 = true := hL.need 33 (by kernel_rfl)
     have e33 := q1 33 _ rfl l33
     refine gen_yes ?_ ?_
     ·simp only [e33]
      rfl
     go_simp
     exact gr_val (HI.out _ _ _ ⟨q0, kn_known q1 rfl⟩)
    refine gen_consR (fun vs L w1 hL hw1 => ?_) ?_
    ·obtain ⟨q0, q1⟩ := HO.out _ _ _ hw1
     have l33 : L 33 = true := hL.need 33 (by kernel_rfl)
     have e33 := q1 33 _ rfl l33
     refine gen_yes ?_ ?_
     ·simp only [e33]
      rfl
     have l39 : L 39 = true := hL.need 39 (by kernel_rfl)
     have e39 := q1 39 _ rfl l39
     have l40 : L 40 = true := hL.need 40 (by kernel_rfl)
     have e40 := q1 40 _ rfl l40
     simp only [e39, e40]
     go_simp
     exact gr_val (HI.out _ _ _ ⟨q0, kn_known q1 rfl⟩)
    refine gen_consR (fun vs L w1 hL hw1 => ?_) ?_
    ·obtain ⟨q0, q1⟩ := HO.out _ _ _ hw1
     have l33 : L 33 = true := hL.need 33 (by kernel_rfl)
     have e33 := q1 33 _ rfl l33
     refine gen_yes ?_ ?_
     ·simp only [e33]
      rfl
     have l41 : L 41 = true := hL.need 41 (by kernel_rfl)
     have e41 := q1 41 _ rfl l41
     simp only [e41]
     have x := q0.cell (p := ad3.add p) (by rw [block_of_add]; exact had3)
     rw [p0] at x
     go_simp
     exact gr_val (HI.out _ _ _ ⟨q0, kn_known q1 rfl⟩)
    refine gen_consR (fun vs L w1 hL hw1 => ?_) ?_
    ·obtain ⟨q0, q1⟩ := HO.out _ _ _ hw1
     have l33 : L 33 = true := hL.need 33 (by kernel_rfl)
     have e33 := q1 33 _ rfl l33
     refine gen_yes ?_ ?_
     ·simp only [e33]
      rfl
     have l38 : L 38 = true := hL.need 38 (by kernel_rfl)
     have e38 := q1 38 _ rfl l38
     have l42 : L 42 = true := hL.need 42 (by kernel_rfl)
     have e42 := q1 42 _ rfl l42
     simp only [e38, e42]
     go_simp
     exact gr_val (HI.out _ _ _ ⟨q0, kn_known q1 rfl⟩)
    refine gen_consR (fun vs L w1 hL hw1 => ?_) ?_
    ·obtain ⟨q0, q1⟩ := HO.out _ _ _ hw1
     refine gen_plain rfl ?_
     have l33 : L 33 = true := hL.need 33 (by kernel_rfl)
     have e33 := q1 33 _ rfl l33
     have l43 : L 43 = true := hL.need 43 (by kernel_rfl)
     have e43 := q1 43 _ rfl l43
     simp only [e33, e43]
     go_simp
     exact gr_val (HI.out _ _ _ ⟨q0, kn_known q1 rfl⟩)
    refine gen_consR (fun vs L w1 hL hw1 => ?_) ?_
    ·obtain ⟨q0, q1⟩ := HO.out _ _ _ hw1
     refine gen_plain rfl ?_
     have l44 : L 44 = true := hL.need 44 (by kernel_rfl)
     have e44 := q1 44 _ rfl l44
     simp only [e44]
     go_simp
     exact gr_val (HI.out _ _ _ ⟨q0, kn_known q1 rfl⟩)
    refine gen_consR (fun vs L w1 hL hw1 => ?_) ?_
    ·obtain ⟨q0, q1⟩ := HO.out _ _ _ hw1
     have l45 : L 45 = true := hL.need 45 (by kernel_rfl)
     have e45 := q1 45 _ rfl l45
     refine gen_no ?_ ?_
     ·simp only [e45]
      rfl
     ·exact HI.out _ _ _ ⟨q0, kn_free q1 rfl⟩
    refine gen_consR (fun vs L w1 hL hw1 => ?_) ?_
    ·obtain ⟨q0, q1⟩ := HO.out _ _ _ hw1
     have l45 : L 45 = true := hL.need 45 (by kernel_rfl)
     have e45 := q1 45 _ rfl l45
     refine gen_no ?_ ?_
     ·simp only [e45]
      rfl
     ·exact HI.out _ _ _ ⟨q0, kn_free q1 rfl⟩
    refine gen_consR (fun vs L w1 hL hw1 => ?_) ?_
    ·obtain ⟨q0, q1⟩ := HO.out _ _ _ hw1
     have l45 : L 45 = true := hL.need 45 (by kernel_rfl)
     have e45 := q1 45 _ rfl l45
     refine gen_no ?_ ?_
     ·simp only [e45]
      rfl
     ·exact HI.out _ _ _ ⟨q0, kn_free q1 rfl⟩
    refine gen_consR (fun vs L w1 hL hw1 => ?_) ?_
    ·obtain ⟨q0, q1⟩ := HO.out _ _ _ hw1
     have l45 : L 45 = true := hL.need 45 (by kernel_rfl)
     have e45 := q1 45 _ rfl l45
     refine gen_no ?_ ?_
     ·simp only [e45]
      rfl
     ·exact HI.out _ _ _ ⟨q0, kn_free q1 rfl⟩
    refine gen_consR (fun vs L w1 hL hw1 => ?_) ?_
    ·obtain ⟨q0, q1⟩ := HO.out _ _ _ hw1
     have l45 : L 45 = true := hL.need 45 (by kernel_rfl)
     have e45 := q1 45 _ rfl l45
     refine gen_no ?_ ?_
     ·simp only [e45]
      rfl
     ·exact HI.out _ _ _ ⟨q0, kn_free q1 rfl⟩
    refine gen_consR (fun vs L w1 hL hw1 => ?_) ?_
    ·obtain ⟨q0, q1⟩ := HO.out _ _ _ hw1
     have l45 : L 45 = true := hL.need 45 (by kernel_rfl)
     have e45 := q1 45 _ rfl l45
     refine gen_no ?_ ?_
     ·simp only [e45]
      rfl
     ·exact HI.out _ _ _ ⟨q0, kn_free q1 rfl⟩
    refine gen_consR (fun vs L w1 hL hw1 => ?_) ?_
    ·obtain ⟨q0, q1⟩ := HO.out _ _ _ hw1
     have l45 : L 45 = true := hL.need 45 (by kernel_rfl)
     have e45 := q1 45 _ rfl l45
     refine gen_no ?_ ?_
     ·simp only [e45]
      rfl
     ·exact HI.out _ _ _ ⟨q0, kn_free q1 rfl⟩
    refine gen_consR (fun vs L w1 hL hw1 => ?_) ?_
    ·obtain ⟨q0, q1⟩ := HO.out _ _ _ hw1
     have l45 : L 45 = true := hL.need 45 (by kernel_rfl)
     have e45 := q1 45 _ rfl l45
     refine gen_no ?_ ?_
     ·simp only [e45]
      rfl
     ·exact HI.out _ _ _ ⟨q0, kn_free q1 rfl⟩
    refine gen_consR (fun vs L w1 hL hw1 => ?_) ?_
    ·obtain ⟨q0, q1⟩ := HO.out _ _ _ hw1
     refine gen_plain rfl ?_
     have l45 : L 45 = true := hL.need 45 (by kernel_rfl)
     have e45 := q1 45 _ rfl l45
     simp only [e45]
     go_simp
     exact gr_val (HI.out _ _ _ ⟨q0, kn_known q1 rfl⟩)
    refine gen_nil ?_
    intro vs L W6 hall hS
    obtain ⟨hq, q1⟩ := HO.out _ _ _ hS
    have eX54 := q1 54 _ rfl (hall 54 (by simp))
    clear hall hS HI HO q1
    simp only [eX54]
    replace hB := below_grows hB (Nat.le_refl _) hq
    replace k1 := k1.grows hq
    clear hq
    go_wp2
    go_ret
    rw [HE.out]
    exact ⟨rfl, hB⟩
   have dd6 : (s.d - s.c != z) = false := by simpa using b6
   have HONE : Hid (oneOk ns (wOf ns cs) wi l t s = true) := Lib.hid (by
    unfold oneOk
    rw [HKP.out, HPL.out, HWZ.out]
    simp only [Bool.and_eq_true, beq_iff_eq, decide_eq_true_eq]
    exact ⟨⟨⟨⟨⟨⟨rfl, by first | trivial | rfl⟩, by omega⟩, by omega⟩, by omega⟩, by omega⟩, b6⟩)
   clear b6
   cases hrd : readyS ls l s.a s.c
   case false =>
    have HRD := Lib.hid hrd
    have HE : Hid (validS ns ls cs wi l = false) := Lib.hid (not_valid_ready HP.out HL.out HX.out hrd)
    clear hrd
    obtain ⟨S, HI, HO⟩ := hideS fun (L : Ran) (vs : Nat → Value) (w' : World) => Grows w7 w' ∧ KnS [some (.int .i64 (p : Int)), some (.bool false), some (.bool false), some (.slice (some ad) l.length c4), some (.pointer (some ⟨G10, 0, none⟩)), some (.int .i64 s.a), some (.int .i64 (t : Int)), some (.int .i64 (t : Int)), some (.bool false), some (.bool false), some (.bool false), some (.pointer (some ⟨G10, 1, none⟩)), some (.int .i64 s.b), some (.bool false), some (.bool false), some (.bool false), some (.pointer (some ⟨G10, 1, none⟩)), some (.int .i64 s.b), some (.int .i64 wi), some (.bool false), some (.bool false), some (.bool false), some (.pointer (some ⟨G10, 2, none⟩)), some (.int .i64 s.c), some (.bool false), some (.bool false), some (.bool false), some (.pointer (some ⟨G10, 3, none⟩)), some (.int .i64 s.d), some (.pointer (some ⟨G10, 2, none⟩)), some (.int .i64 s.c), some (.bool false), some (.bool false), some (.bool false), some (.pointer (some ⟨G10, 3, none⟩)), some (.int .i64 s.d), some (.pointer (some ⟨G10, 2, none⟩)), some (.int .i64 s.c), some (.int .i64 (s.d - s.c)), some (.slice (some ad3) cs.length c3), some (.int .i64 (p : Int)), some (.pointer (some (ad3.add p))), some (.int .i64 z), some (.bool false), some (.bool false), some (.bool false), some (.agg #[.slice A ns.length c, .slice A2 ls.length c2]), some (.slice (some ad) l.length c4), some (.pointer (some ⟨G10, 0, none⟩)), some (.int .i64 s.a), some (.pointer (some ⟨G10, 2, none⟩)), some (.int .i64 s.c), some (.bool false), some (.bool true), some (.bool true)] L vs
    refine wp_region_genW S 128 (by kernel_rfl) (by kernel_rfl) rfl ?_ ?_
    ·exact HI.out _ _ _ ⟨Grows.drew' _, kn_none _ _⟩
    refine gen_consR (fun vs L w1 hL hw1 => ?_) ?_
    ·obtain ⟨q0, q1⟩ := HO.out _ _ _ hw1
     refine gen_plain rfl ?_
     go_simp
     exact gr_val (HI.out _ _ _ ⟨q0, kn_known q1 rfl⟩)
    refine gen_consR (fun vs L w1 hL hw1 => ?_) ?_
    ·obtain ⟨q0, q1⟩ := HO.out _ _ _ hw1
     refine gen_plain rfl ?_
     have l0 : L 0 = true := hL.need 0 (by kernel_rfl)
     have e0 := q1 0 _ rfl l0
     simp only [e0]
     go_simp
     exact gr_val (HI.out _ _ _ ⟨q0, kn_known q1 rfl⟩)
    refine gen_consR (fun vs L w1 hL hw1 => ?_) ?_
    ·obtain ⟨q0, q1⟩ := HO.out _ _ _ hw1
     refine gen_plain rfl ?_
     have l1 : L 1 = true := hL.need 1 (by kernel_rfl)
     have e1 := q1 1 _ rfl l1
     simp only [e1]
     go_simp
     exact gr_val (HI.out _ _ _ ⟨q0, kn_known q1 rfl⟩)
    refine gen_consR (fun vs L w1 hL hw1 => ?_) ?_
    ·obtain ⟨q0, q1⟩ := HO.out _ _ _ hw1
     have l2 : L 2 = true := hL.need 2 (by kernel_rfl)
     have e2 := q1 2 _ rfl l2
     refine gen_yes ?_ ?_
     ·simp only [e2]
      rfl
     go_simp
     exact gr_val (HI.out _ _ _ ⟨q0, kn_known q1 rfl⟩)
    refine gen_consR (fun vs L w1 hL hw1 => ?_) ?_
    ·obtain ⟨q0, q1⟩ := HO.out _ _ _ hw1
     have l2 : L 2 = true := hL.need 2 (by kernel_rfl)
     have e2 := q1 2 _ rfl l2
     refine gen_yes ?_ ?_
     ·simp only [e2]
      rfl
     go_simp
     exact gr_val (HI.out _ _ _ ⟨q0, kn_known q1 rfl⟩)
    refine gen_consR (fun vs L w1 hL hw1 => ?_) ?_
    ·obtain ⟨q0, q1⟩ := HO.out _ _ _ hw1
     have l2 : L 2 = true := hL.need 2 (by kernel_rfl)
     have e2 := q1 2 _ rfl l2
     refine gen_yes ?_ ?_
     ·simp only [e2]
      rfl
     have l4 : L 4 = true := hL.need 4 (by kernel_rfl)
     have e4 := q1 4 _ rfl l4
     have x := (k10.grows q0).cell 0
     simp only [e4]
     go_simp
     exact gr_val (HI.out _ _ _ ⟨q0, kn_known q1 rfl⟩)
    refine gen_consR (fun vs L w1 hL hw1 => ?_) ?_
    ·obtain ⟨q0, q1⟩ := HO.out _ _ _ hw1
     have l2 : L 2 = true := hL.need 2 (by kernel_rfl)
     have e2 := q1 2 _ rfl l2
     refine gen_yes ?_ ?_
     ·simp only [e2]
      rfl
     have l3 : L 3 = true := hL.need 3 (by kernel_rfl)
     have e3 := q1 3 _ rfl l3
     have l5 : L 5 = true := hL.need 5 (by kernel_rfl)
     have e5 := q1 5 _ rfl l5
     simp only [e3, e5]
     go_simp
     refine gr_call ?_
     refine (slot_is (some ad) c4 l s.a (t : Int) w1 (h4.grows (below_grows hB (Nat.le_refl _) q0)) hl4 HZ2.out).mono ?_
     rintro e w2 ⟨rfl, hg⟩
     exact ⟨_, rfl, HI.out _ _ _ ⟨below_grows q0 (Nat.le_refl _) hg, kn_known q1 rfl⟩⟩
    refine gen_consR (fun vs L w1 hL hw1 => ?_) ?_
    ·obtain ⟨q0, q1⟩ := HO.out _ _ _ hw1
     have l2 : L 2 = true := hL.need 2 (by kernel_rfl)
     have e2 := q1 2 _ rfl l2
     refine gen_yes ?_ ?_
     ·simp only [e2]
      rfl
     go_simp
     exact gr_val (HI.out _ _ _ ⟨q0, kn_known q1 rfl⟩)
    refine gen_consR (fun vs L w1 hL hw1 => ?_) ?_
    ·obtain ⟨q0, q1⟩ := HO.out _ _ _ hw1
     have l2 : L 2 = true := hL.need 2 (by kernel_rfl)
     have e2 := q1 2 _ rfl l2
     refine gen_yes ?_ ?_
     ·simp only [e2]
      rfl
     have l6 : L 6 = true := hL.need 6 (by kernel_rfl)
     have e6 := q1 6 _ rfl l6
     have l7 : L 7 = true := hL.need 7 (by kernel_rfl)
     have e7 := q1 7 _ rfl l7
     simp only [e6, e7]
     go_simp
     exact gr_val (HI.out _ _ _ ⟨q0, kn_known q1 rfl⟩)
    refine gen_consR (fun vs L w1 hL hw1 => ?_) ?_
    ·obtain ⟨q0, q1⟩ := HO.out _ _ _ hw1
     refine gen_plain rfl ?_
     have l2 : L 2 = true := hL.need 2 (by kernel_rfl)
     have e2 := q1 2 _ rfl l2
     have l8 : L 8 = true := hL.need 8 (by kernel_rfl)
     have e8 := q1 8 _ rfl l8
     simp only [e2, e8]
     go_simp
     exact gr_val (HI.out _ _ _ ⟨q0, kn_known q1 rfl⟩)
    refine gen_consR (fun vs L w1 hL hw1 => ?_) ?_
    ·obtain ⟨q0, q1⟩ := HO.out _ _ _ hw1
     refine gen_plain rfl ?_
     have l9 : L 9 = true := hL.need 9 (by kernel_rfl)
     have e9 := q1 9 _ rfl l9
     simp only [e9]
     go_simp
     exact gr_val (HI.out _ _ _ ⟨q0, kn_known q1 rfl⟩)
    refine gen_consR (fun vs L w1 hL hw1 => ?_) ?_
    ·obtain ⟨q0, q1⟩ := HO.out _ _ _ hw1
     have l10 : L 10 = true := hL.need 10 (by kernel_rfl)
     have e10 := q1 10 _ rfl l10
     refine gen_yes ?_ ?_
     ·simp only [e10]
      rfl
     go_simp
     exact gr_val (HI.out _ _ _ ⟨q0, kn_known q1 rfl⟩)
    refine gen_consR (fun vs L w1 hL hw1 => ?_) ?_
    ·obtain ⟨q0, q1⟩ := HO.out _ _ _ hw1
     have l10 : L 10 = true := hL.need 10 (by kernel_rfl)
     have e10 := q1 10 _ rfl l10
     refine gen_yes ?_ ?_
     ·simp only [e10]
      rfl
     have l11 : L 11 = true := hL.need 11 (by kernel_rfl)
     have e11 := q1 11 _ rfl l11
     have x := (k10.grows q0).cell 1
     simp only [e11]
     go_simp
     exact gr_val (HI.out _ _ _ ⟨q0, kn_known q1 rfl⟩)
    refine gen_consR (fun vs L w1 hL hw1 => ?_) ?_
    ·obtain ⟨q0, q1⟩ := HO.out _ _ _ hw1
     have l10 : L 10 = true := hL.need 10 (by kernel_rfl)
     have e10 := q1 10 _ rfl l10
     refine gen_yes ?_ ?_
     ·simp only [e10]
      rfl
     have l12 : L 12 = true := hL.need 12 (by kernel_rfl)
     have e12 := q1 12 _ rfl l12
     simp only [e12]
     go_simp
     exact gr_val (HI.out _ _ _ ⟨q0, kn_known q1 rfl⟩)
    refine gen_consR (fun vs L w1 hL hw1 => ?_) ?_
    ·obtain ⟨q0, q1⟩ := HO.out _ _ _ hw1
     refine gen_plain rfl ?_
     have l10 : L 10 = true := hL.need 10 (by kernel_rfl)
     have e10 := q1 10 _ rfl l10
     have l13 : L 13 = true := hL.need 13 (by kernel_rfl)
     have e13 := q1 13 _ rfl l13
     simp only [e10, e13]
     go_simp
     exact gr_val (HI.out _ _ _ ⟨q0, kn_known q1 rfl⟩)
    refine gen_consR (fun vs L w1 hL hw1 => ?_) ?_
    ·obtain ⟨q0, q1⟩ := HO.out _ _ _ hw1
     refine gen_plain rfl ?_
     have l14 : L 14 = true := hL.need 14 (by kernel_rfl)
     have e14 := q1 14 _ rfl l14
     simp only [e14]
     go_simp
     exact gr_val (HI.out _ _ _ ⟨q0, kn_known q1 rfl⟩)
    refine gen_consR (fun vs L w1 hL hw1 => ?_) ?_
    ·obtain ⟨q0, q1⟩ := HO.out _ _ _ hw1
     have l15 : L 15 = true := hL.need 15 (by kernel_rfl)
     have e15 := q1 15 _ rfl l15
     refine gen_yes ?_ ?_
     ·simp only [e15]
      rfl
     go_simp
     exact gr_val (HI.out _ _ _ ⟨q0, kn_known q1 rfl⟩)
    refine gen_consR (fun vs L w1 hL hw1 => ?_) ?_
    ·obtain ⟨q0, q1⟩ := HO.out _ _ _ hw1
     have l15 : L 15 = true := hL.need 15 (by kernel_rfl)
     have e15 := q1 15 _ rfl l15
     refine gen_yes ?_ ?_
     ·simp only [e15]
      rfl
     have l16 : L 16 = true := hL.need 16 (by kernel_rfl)
     have e16 := q1 16 _ rfl l16
     have x := (k10.grows q0).cell 1
     simp only [e16]
     go_simp
     exact gr_val (HI.out _ _ _ ⟨q0, kn_known q1 rfl⟩)
    refine gen_consR (fun vs L w1 hL hw1 => ?_) ?_
    ·obtain ⟨q0, q1⟩ := HO.out _ _ _ hw1
     have l15 : L 15 = true := hL.need 15 (by kernel_rfl)
     have e15 := q1 15 _ rfl l15
     refine gen_yes ?_ ?_
     ·simp only [e15]
      rfl
     go_simp
     exact gr_val (HI.out _ _ _ ⟨q0, kn_known q1 rfl⟩)
    refine gen_consR (fun vs L w1 hL hw1 => ?_) ?_
    ·obtain ⟨q0, q1⟩ := HO.out _ _ _ hw1
     have l15 : L 15 = true := hL.need 15 (by kernel_rfl)
     have e15 := q1 15 _ rfl l15
     refine gen_yes ?_ ?_
     ·simp only [e15]
      rfl
     have l17 : L 17 = true := hL.need 17 (by kernel_rfl)
     have e17 := q1 17 _ rfl l17
     have l18 : L 18 = true := hL.need 18 (by kernel_rfl)
     have e18 := q1 18 _ rfl l18
     simp only [e17, e18]
     go_simp
     exact gr_val (HI.out _ _ _ ⟨q0, kn_known q1 rfl⟩)
    refine gen_consR (fun vs L w1 hL hw1 => ?_) ?_
    ·obtain ⟨q0, q1⟩ := HO.out _ _ _ hw1
     refine gen_plain rfl ?_
     have l15 : L 15 = true := hL.need 15 (by kernel_rfl)
     have e15 := q1 15 _ rfl l15
     have l19 : L 19 = true := hL.need 19 (by kernel_rfl)
     have e19 := q1 19 _ rfl l19
     simp only [e15, e19]
     go_simp
     exact gr_val (HI.out _ _ _ ⟨q0, kn_known q1 rfl⟩)
    refine gen_consR (fun vs L w1 hL hw1 => ?_) ?_
    ·obtain ⟨q0, q1⟩ := HO.out _ _ _ hw1
     refine gen_plain rfl ?_
     have l20 : L 20 = true := hL.need 20 (by kernel_rfl)
     have e20 := q1 20 _ rfl l20
     simp only [e20]
     go_simp
     exact gr_val (HI.out _ _ _ ⟨q0, kn_known q1 rfl⟩)
    refine gen_consR (fun vs L w1 hL hw1 => ?_) ?_
    ·obtain ⟨q0, q1⟩ := HO.out _ _ _ hw1
     have l21 : L 21 = true := hL.need 21 (by kernel_rfl)
     have e21 := q1 21 _ rfl l21
     refine gen_yes ?_ ?_
     ·simp only [e21]
      rfl
     go_simp
     exact gr_val (HI.out _ _ _ ⟨q0, kn_known q1 rfl⟩)
    refine gen_consR (fun vs L w1 hL hw1 => ?_) ?_
    ·obtain ⟨q0, q1⟩ := HO.out _ _ _ hw1
     have l21 : L 21 = true := hL.need 21 (by kernel_rfl)
     have e21 := q1 21 _ rfl l21
     refine gen_yes ?_ ?_
     ·simp only [e21]
      rfl
     have l22 : L 22 = true := hL.need 22 (by kernel_rfl)
     have e22 := q1 22 _ rfl l22
     have x := (k10.grows q0).cell 2
     simp only [e22]
     go_simp
     exact gr_val (HI.out _ _ _ ⟨q0, kn_known q1 rfl⟩)
    refine gen_consR (fun vs L w1 hL hw1 => ?_) ?_
    ·obtain ⟨q0, q1⟩ := HO.out _ _ _ hw1
     have l21 : L 21 = true := hL.need 21 (by kernel_rfl)
     have e21 := q1 21 _ rfl l21
     refine gen_yes ?_ ?_
     ·simp only [e21]
      rfl
     have l23 : L 23 = true := hL.need 23 (by kernel_rfl)
     have e23 := q1 23 _ rfl l23
     simp only [e23]
     go_simp
     exact gr_val (HI.out _ _ _ ⟨q0, kn_known q1 rfl⟩)
    refine gen_consR (fun vs L w1 hL hw1 => ?_) ?_
    ·obtain ⟨q0, q1⟩ := HO.out _ _ _ hw1
     refine gen_plain rfl ?_
     have l21 : L 21 = true := hL.need 21 (by kernel_rfl)
     have e21 := q1 21 _ rfl l21
     have l24 : L 24 = true := hL.need 24 (by kernel_rfl)
     have e24 := q1 24 _ rfl l24
     simp only [e21, e24]
     go_simp
     exact gr_val (HI.out _ _ _ ⟨q0, kn_known q1 rfl⟩)
    refine gen_consR (fun vs L w1 hL hw1 => ?_) ?_
    ·obtain ⟨q0, q1⟩ := HO.out _ _ _ hw1
     refine gen_plain rfl ?_
     have l25 : L 25 = true := hL.need 25 (by kernel_rfl)
     have e25 := q1 25 _ rfl l25
     simp only [e25]
     go_simp
     exact gr_val (HI.out _ _ _ ⟨q0, kn_known q1 rfl⟩)
    refine gen_consR (fun vs L w1 hL hw1 => ?_) ?_
    ·obtain ⟨q0, q1⟩ := HO.out _ _ _ hw1
     have l26 : L 26 = true := hL.need 26 (by kernel_rfl)
     have e26 := q1 26 _ rfl l26
     refine gen_yes ?_ ?_
     ·simp only [e26]
      rfl
     go_simp
     exact gr_val (HI.out _ _ _ ⟨q0, kn_known q1 rfl⟩)
    refine gen_consR (fun vs L w1 hL hw1 => ?_) ?_
    ·obtain ⟨q0, q1⟩ := HO.out _ _ _ hw1
     have l26 : L 26 = true := hL.need 26 (by kernel_rfl)
     have e26 := q1 26 _ rfl l26
     refine gen_yes ?_ ?_
     ·simp only [e26]
      rfl
     have l27 : L 27 = true := hL.need 27 (by kernel_rfl)
     have e27 := q1 27 _ rfl l27
     have x := (k10.grows q0).cell 3
     simp only [e27]
     go_simp
     exact gr_val (HI.out _ _ _ ⟨q0, kn_known q1 rfl⟩)
    refine gen_consR (fun vs L w1 hL hw1 => ?_) ?_
    ·obtain ⟨q0, q1⟩ := HO.out _ _ _ hw1
     have l26 : L 26 = true := hL.need 26 (by kernel_rfl)
     have e26 := q1 26 _ rfl l26
     refine gen_yes ?_ ?_
     ·simp only [e26]
      rfl
     go_simp
     exact gr_val (HI.out _ _ _ ⟨q0, kn_known q1 rfl⟩)
    refine gen_consR (fun vs L w1 hL hw1 => ?_) ?_
    ·obtain ⟨q0, q1⟩ := HO.out _ _ _ hw1
     have l26 : L 26 = true := hL.need 26 (by kernel_rfl)
     have e26 := q1 26 _ rfl l26
     refine gen_yes ?_ ?_
     ·simp only [e26]
      rfl
     have l29 : L 29 = true := hL.need 29 (by kernel_rfl)
     have e29 := q1 29 _ rfl l29
     have x := (k10.grows q0).cell 2
     simp only [e29]
     go_simp
     exact gr_val (HI.out _ _ _ ⟨q0, kn_known q1 rfl⟩)
    refine gen_consR (fun vs L w1 hL hw1 => ?_) ?_
    ·obtain ⟨q0, q1⟩ := HO.out _ _ _ hw1
     have l26 : L 26 = true := hL.need 26 (by kernel_rfl)
     have e26 := q1 26 _ rfl l26
     refine gen_yes ?_ ?_
     ·simp only [e26]
      rfl
     have l28 : L 28 = true := hL.need 28 (by kernel_rfl)
     have e28 := q1 28 _ rfl l28
     have l30 : L 30 = true := hL.need 30 (by kernel_rfl)
     have e30 := q1 30 _ rfl l30
     simp only [e28, e30]
     go_simp
     exact gr_val (HI.out _ _ _ ⟨q0, kn_known q1 rfl⟩)
    refine gen_consR (fun vs L w1 hL hw1 => ?_) ?_
    ·obtain ⟨q0, q1⟩ := HO.out _ _ _ hw1
     refine gen_plain rfl ?_
     have l26 : L 26 = true := hL.need 26 (by kernel_rfl)
     have e26 := q1 26 _ rfl l26
     have l31 : L 31 = true := hL.need 31 (by kernel_rfl)
     have e31 := q1 31 _ rfl l31
     simp only [e26, e31]
     go_simp
     exact gr_val (HI.out _ _ _ ⟨q0, kn_known q1 rfl⟩)
    refine gen_consR (fun vs L w1 hL hw1 => ?_) ?_
    ·obtain ⟨q0, q1⟩ := HO.out _ _ _ hw1
     refine gen_plain rfl ?_
     have l32 : L 32 = true := hL.need 32 (by kernel_rfl)
     have e32 := q1 32 _ rfl l32
     simp only [e32]
     go_simp
     exact gr_val (HI.out _ _ _ ⟨q0, kn_known q1 rfl⟩)
    refine gen_consR (fun vs L w1 hL hw1 => ?_) ?_
    ·obtain ⟨q0, q1⟩ := HO.out _ _ _ hw1
     have l33 : L 33 = true := hL.need 33 (by kernel_rfl)
     have e33 := q1 33 _ rfl l33
     refine gen_yes ?_ ?_
     ·simp only [e33]
      rfl
     go_simp
     exact gr_val (HI.out _ _ _ ⟨q0, kn_known q1 rfl⟩)
    refine gen_consR (fun vs L w1 hL hw1 => ?_) ?_
    ·obtain ⟨q0, q1⟩ := HO.out _ _ _ hw1
     have l33 : L 33 = true := hL.need 33 (by kernel_rfl)
     have e33 := q1 33 _ rfl l33
     refine gen_yes ?_ ?_
     ·simp only [e33]
      rfl
     have l34 : L 34 = true := hL.need 34 (by kernel_rfl)
     have e34 := q1 34 _ rfl l34
     have x := (k10.grows q0).cell 3
     simp only [e34]
     go_simp
     exact gr_val (HI.out _ _ _ ⟨q0, kn_known q1 rfl⟩)
    refine gen_consR (fun vs L w1 hL hw1 => ?_) ?_
    ·obtain ⟨q0, q1⟩ := HO.out _ _ _ hw1
     have l33 : L 33 = true := hL.need 33 (by kernel_rfl)
     have e33 := q1 33 _ rfl l33
     refine gen_yes ?_ ?_
     ·simp only [e33]
      rfl
     go_simp
     exact gr_val (HI.out _ _ _ ⟨q0, kn_known q1 rfl⟩)
    refine gen_consR (fun vs L w1 hL hw1 => ?_) ?_
    ·obtain ⟨q0, q1⟩ := HO.out _ _ _ hw1
     have l33 : L 33 = true := hL.need 33 (by kernel_rfl)
     have e33 := q1 33 _ rfl l33
     refine gen_yes ?_ ?_
     ·simp only [e33]
      rfl
     have l36 : L 36 = true := hL.need 36 (by kernel_rfl)
     have e36 := q1 36 _ rfl l36
     have x := (k10.grows q0).cell 2
     simp only [e36]
     go_simp
     exact gr_val (HI.out _ _ _ ⟨q0, kn_known q1 rfl⟩)
    refine gen_consR (fun vs L w1 hL hw1 => ?_) ?_
    ·obtain ⟨q0, q1⟩ := HO.out _ _ _ hw1
     have l33 : L 33 = true := hL.need 33 (by kernel_rfl)
     have e33 := q1 33 _ rfl l33
     refine gen_yes ?_ ?_
     ·simp only [e33]
      rfl
     have l35 : L 35 = true := hL.need 35 (by kernel_rfl)
     have e35 := q1 35 _ rfl l35
     have l37 : L 37 = true := hL.need 37 (by kernel_rfl)
     have e37 := q1 37 _ rfl l37
     simp only [e35, e37]
     go_simp
     exact gr_val (HI.out _ _ _ ⟨q0, kn_known q1 rfl⟩)
    refine gen_consR (fun vs L w1 hL hw1 => ?_) ?_
    ·obtain ⟨q0, q1⟩ := HO.out _ _ _ hw1
     have l33 : L 33 = true := hL.need 33 (by kernel_rfl)
     have e33 := q1 33 _ rfl l33
     refine gen_yes ?_ ?_
     ·simp only [e33]
      rfl
     go_simp
     exact gr_val (HI.out _ _ _ ⟨q0, kn_known q1 rfl⟩)
    refine gen_consR (fun vs L w1 hL hw1 => ?_) ?_
    ·obtain ⟨q0, q1⟩ := HO.out _ _ _ hw1
     have l33 : L 33 = true := hL.need 33 (by kernel_rfl)
     have e33 := q1 33 _ rfl l33
     refine gen_yes ?_ ?_
     ·simp only [e33]
      rfl
     go_simp
     exact gr_val (HI.out _ _ _ ⟨q0, kn_known q1 rfl⟩)
    refine gen_consR (fun vs L w1 hL hw1 => ?_) ?_
    ·obtain ⟨q0, q1⟩ := HO.out _ _ _ hw1
     have l33 : L 33 = true := hL.need 33 (by kernel_rfl)
     have e33 := q1 33 _ rfl l33
     refine gen_yes ?_ ?_
     ·simp only [e33]
      rfl
     have l39 : L 39 = true := hL.need 39 (by kernel_rfl)
     have e39 := q1 39 _ rfl l39
     have l40 : L 40 = true := hL.need 40 (by kernel_rfl)
     have e40 := q1 40 _ rfl l40
     simp only [e39, e40]
     go_simp
     exact gr_val (HI.out _ _ _ ⟨q0, kn_known q1 rfl⟩)
    refine gen_consR (fun vs L w1 hL hw1 => ?_) ?_
    ·obtain ⟨q0, q1⟩ := HO.out _ _ _ hw1
     have l33 : L 33 = true := hL.need 33 (by kernel_rfl)
     have e33 := q1 33 _ rfl l33
     refine gen_yes ?_ ?_
     ·simp only [e33]
      rfl
     have l41 : L 41 = true := hL.need 41 (by kernel_rfl)
     have e41 := q1 41 _ rfl l41
     simp only [e41]
     have x := q0.cell (p := ad3.add p) (by rw [block_of_add]; exact had3)
     rw [p0] at x
     go_simp
     exact gr_val (HI.out _ _ _ ⟨q0, kn_known q1 rfl⟩)
    refine gen_consR (fun vs L w1 hL hw1 => ?_) ?_
    ·obtain ⟨q0, q1⟩ := HO.out _ _ _ hw1
     have l33 : L 33 = true := hL.need 33 (by kernel_rfl)
     have e33 := q1 33 _ rfl l33
     refine gen_yes ?_ ?_
     ·simp only [e33]
      rfl
     have l38 : L 38 = true := hL.need 38 (by kernel_rfl)
     have e38 := q1 38 _ rfl l38
     have l42 : L 42 = true := hL.need 42 (by kernel_rfl)
     have e42 := q1 42 _ rfl l42
     simp only [e38, e42]
     go_simp
     exact gr_val (HI.out _ _ _ ⟨q0, kn_known q1 rfl⟩)
    refine gen_consR (fun vs L w1 hL hw1 => ?_) ?_
    ·obtain ⟨q0, q1⟩ := HO.out _ _ _ hw1
     refine gen_plain rfl ?_
     have l33 : L 33 = true := hL.need 33 (by kernel_rfl)
     have e33 := q1 33 _ rfl l33
     have l43 : L 43 = true := hL.need 43 (by kernel_rfl)
     have e43 := q1 43 _ rfl l43
     simp only [e33, e43]
     go_simp
     exact gr_val (HI.out _ _ _ ⟨q0, kn_known q1 rfl⟩)
    refine gen_consR (fun vs L w1 hL hw1 => ?_) ?_
    ·obtain ⟨q0, q1⟩ := HO.out _ _ _ hw1
     refine gen_plain rfl ?_
     have l44 : L 44 = true := hL.need 44 (by kernel_rfl)
     have e44 := q1 44 _ rfl l44
     simp only [e44]
     go_simp
     exact gr_val (HI.out _ _ _ ⟨q0, kn_known q1 rfl⟩)
    refine gen_consR (fun vs L w1 hL hw1 => ?_) ?_
    ·obtain ⟨q0, q1⟩ := HO.out _ _ _ hw1
     have l45 : L 45 = true := hL.need 45 (by kernel_rfl)
     have e45 := q1 45 _ rfl l45
     refine gen_yes ?_ ?_
     ·simp only [e45]
      rfl
     have x := (k1.grows q0).cell 
     go_simp
     exact gr_val (HI.out _ _ _ ⟨q0, kn_known q1 rfl⟩)
    refine gen_consR (fun vs L w1 hL hw1 => ?_) ?_
    ·obtain ⟨q0, q1⟩ := HO.out _ _ _ hw1
     have l45 : L 45 = true := hL.need 45 (by kernel_rfl)
     have e45 := q1 45 _ rfl l45
     refine gen_yes ?_ ?_
     ·simp only [e45]
      rfl
     go_simp
     exact gr_val (HI.out _ _ _ ⟨q0, kn_known q1 rfl⟩)
    refine gen_consR (fun vs L w1 hL hw1 => ?_) ?_
    ·obtain ⟨q0, q1⟩ := HO.out _ _ _ hw1
     have l45 : L 45 = true := hL.need 45 (by kernel_rfl)
     have e45 := q1 45 _ rfl l45
     refine gen_yes ?_ ?_
     ·simp only [e45]
      rfl
     go_simp
     exact gr_val (HI.out _ _ _ ⟨q0, kn_known q1 rfl⟩)
    refine gen_consR (fun vs L w1 hL hw1 => ?_) ?_
    ·obtain ⟨q0, q1⟩ := HO.out _ _ _ hw1
     have l45 : L 45 = true := hL.need 45 (by kernel_rfl)
     have e45 := q1 45 _ rfl l45
     refine gen_yes ?_ ?_
     ·simp only [e45]
      rfl
     have l48 : L 48 = true := hL.need 48 (by kernel_rfl)
     have e48 := q1 48 _ rfl l48
     have x := (k10.grows q0).cell 0
     simp only [e48]
     go_simp
     exact gr_val (HI.out _ _ _ ⟨q0, kn_known q1 rfl⟩)
    refine gen_consR (fun vs L w1 hL hw1 => ?_) ?_
    ·obtain ⟨q0, q1⟩ := HO.out _ _ _ hw1
     have l45 : L 45 = true := hL.need 45 (by kernel_rfl)
     have e45 := q1 45 _ rfl l45
     refine gen_yes ?_ ?_
     ·simp only [e45]
      rfl
     go_simp
     exact gr_val (HI.out _ _ _ ⟨q0, kn_known q1 rfl⟩)
    refine gen_consR (fun vs L w1 hL hw1 => ?_) ?_
    ·obtain ⟨q0, q1⟩ := HO.out _ _ _ hw1
     have l45 : L 45 = true := hL.need 45 (by kernel_rfl)
     have e45 := q1 45 _ rfl l45
     refine gen_yes ?_ ?_
     ·simp only [e45]
      rfl
     have l50 : L 50 = true := hL.need 50 (by kernel_rfl)
     have e50 := q1 50 _ rfl l50
     have x := (k10.grows q0).cell 2
     simp only [e50]
     go_simp
     exact gr_val (HI.out _ _ _ ⟨q0, kn_known q1 rfl⟩)
    refine gen_consR (fun vs L w1 hL hw1 => ?_) ?_
    ·obtain ⟨q0, q1⟩ := HO.out _ _ _ hw1
     have l45 : L 45 = true := hL.need 45 (by kernel_rfl)
     have e45 := q1 45 _ rfl l45
     refine gen_yes ?_ ?_
     ·simp only [e45]
      rfl
     have l46 : L 46 = true := hL.need 46 (by kernel_rfl)
     have e46 := q1 46 _ rfl l46
     have l47 : L 47 = true := hL.need 47 (by kernel_rfl)
     have e47 := q1 47 _ rfl l47
     have l49 : L 49 = true := hL.need 49 (by kernel_rfl)
     have e49 := q1 49 _ rfl l49
     have l51 : L 51 = true := hL.need 51 (by kernel_rfl)
     have e51 := q1 51 _ rfl l51
     simp only [e46, e47, e49, e51]
     go_simp
     refine gr_call ?_
     refine (ready_is c c4 s.a s.c false w1 (h.grows (below_grows hB (Nat.le_refl _) q0)) (h4.grows (below_grows hB (Nat.le_refl _) q0)) hl4 HRD.out).mono ?_
     rintro e w2 ⟨rfl, hg⟩
     exact ⟨_, rfl, HI.out _ _ _ ⟨below_grows q0 (Nat.le_refl _) hg, kn_known q1 rfl⟩⟩
    refine gen_consR (fun vs L w1 hL hw1 => ?_) ?_
    ·obtain ⟨q0, q1⟩ := HO.out _ _ _ hw1
     have l45 : L 45 = true := hL.need 45 (by kernel_rfl)
     have e45 := q1 45 _ rfl l45
     refine gen_yes ?_ ?_
     ·simp only [e45]
      rfl
     have l52 : L 52 = true := hL.need 52 (by kernel_rfl)
     have e52 := q1 52 _ rfl l52
     simp only [e52]
     go_simp
     exact gr_val (HI.out _ _ _ ⟨q0, kn_known q1 rfl⟩)
    refine gen_consR (fun vs L w1 hL hw1 => ?_) ?_
    ·obtain ⟨q0, q1⟩ := HO.out _ _ _ hw1
     refine gen_plain rfl ?_
     have l45 : L 45 = true := hL.need 45 (by kernel_rfl)
     have e45 := q1 45 _ rfl l45
     have l53 : L 53 = true := hL.need 53 (by kernel_rfl)
     have e53 := q1 53 _ rfl l53
     simp only [e45, e53]
     go_simp
     exact gr_val (HI.out _ _ _ ⟨q0, kn_known q1 rfl⟩)
    refine gen_nil ?_
    intro vs L W6 hall hS
    obtain ⟨hq, q1⟩ := HO.out _ _ _ hS
    have eX54 := q1 54 _ rfl (hall 54 (by simp))
    clear hall hS HI HO q1
    simp only [eX54]
    replace hB := below_grows hB (Nat.le_refl _) hq
    replace k1 := k1.grows hq
    clear hq
    go_wp2
    go_ret
    rw [HE.out]
    exact ⟨rfl, hB⟩
   have HRD := Lib.hid hrd
   clear hrd
   obtain ⟨S, HI, HO⟩ := hideS fun (L : Ran) (vs : Nat → Value) (w' : World) => Grows w7 w' ∧ KnS [some (.int .i64 (p : Int)), some (.bool false), some (.bool false), some (.slice (some ad) l.length c4), some (.pointer (some ⟨G10, 0, none⟩)), some (.int .i64 s.a), some (.int .i64 (t : Int)), some (.int .i64 (t : Int)), some (.bool false), some (.bool false), some (.bool false), some (.pointer (some ⟨G10, 1, none⟩)), some (.int .i64 s.b), some (.bool false), some (.bool false), some (.bool false), some (.pointer (some ⟨G10, 1, none⟩)), some (.int .i64 s.b), some (.int .i64 wi), some (.bool false), some (.bool false), some (.bool false), some (.pointer (some ⟨G10, 2, none⟩)), some (.int .i64 s.c), some (.bool false), some (.bool false), some (.bool false), some (.pointer (some ⟨G10, 3, none⟩)), some (.int .i64 s.d), some (.pointer (some ⟨G10, 2, none⟩)), some (.int .i64 s.c), some (.bool false), some (.bool false), some (.bool false), some (.pointer (some ⟨G10, 3, none⟩)), some (.int .i64 s.d), some (.pointer (some ⟨G10, 2, none⟩)), some (.int .i64 s.c), some (.int .i64 (s.d - s.c)), some (.slice (some ad3) cs.length c3), some (.int .i64 (p : Int)), some (.pointer (some (ad3.add p))), some (.int .i64 z), some (.bool false), some (.bool false), some (.bool false), some (.agg #[.slice A ns.length c, .slice A2 ls.length c2]), some (.slice (some ad) l.length c4), some (.pointer (some ⟨G10, 0, none⟩)), some (.int .i64 s.a), some (.pointer (some ⟨G10, 2, none⟩)), some (.int .i64 s.c), some (.bool true), some (.bool false), some (.bool false)] L vs
   refine wp_region_genW S 128 (by kernel_rfl) (by kernel_rfl) rfl ?_ ?_
   ·exact HI.out _ _ _ ⟨Grows.drew' _, kn_none _ _⟩
   refine gen_consR (fun vs L w1 hL hw1 => ?_) ?_
   ·obtain ⟨q0, q1⟩ := HO.out _ _ _ hw1
    refine gen_plain rfl ?_
    go_simp
    exact gr_val (HI.out _ _ _ ⟨q0, kn_known q1 rfl⟩)
   refine gen_consR (fun vs L w1 hL hw1 => ?_) ?_
   ·obtain ⟨q0, q1⟩ := HO.out _ _ _ hw1
    refine gen_plain rfl ?_
    have l0 : L 0 = true := hL.need 0 (by kernel_rfl)
    have e0 := q1 0 _ rfl l0
    simp only [e0]
    go_simp
    exact gr_val (HI.out _ _ _ ⟨q0, kn_known q1 rfl⟩)
   refine gen_consR (fun vs L w1 hL hw1 => ?_) ?_
   ·obtain ⟨q0, q1⟩ := HO.out _ _ _ hw1
    refine gen_plain rfl ?_
    have l1 : L 1 = true := hL.need 1 (by kernel_rfl)
    have e1 := q1 1 _ rfl l1
    simp only [e1]
    go_simp
    exact gr_val (HI.out _ _ _ ⟨q0, kn_known q1 rfl⟩)
   refine gen_consR (fun vs L w1 hL hw1 => ?_) ?_
   ·obtain ⟨q0, q1⟩ := HO.out _ _ _ hw1
    have l2 : L 2 = true := hL.need 2 (by kernel_rfl)
    have e2 := q1 2 _ rfl l2
    refine gen_yes ?_ ?_
    ·simp only [e2]
     rfl
    go_simp
    exact gr_val (HI.out _ _ _ ⟨q0, kn_known q1 rfl⟩)
   refine gen_consR (fun vs L w1 hL hw1 => ?_) ?_
   ·obtain ⟨q0, q1⟩ := HO.out _ _ _ hw1
    have l2 : L 2 = true := hL.need 2 (by kernel_rfl)
    have e2 := q1 2 _ rfl l2
    refine gen_yes ?_ ?_
    ·simp only [e2]
     rfl
    go_simp
    exact gr_val (HI.out _ _ _ ⟨q0, kn_known q1 rfl⟩)
   refine gen_consR (fun vs L w1 hL hw1 => ?_) ?_
   ·obtain ⟨q0, q1⟩ := HO.out _ _ _ hw1
    have l2 : L 2 = true := hL.need 2 (by kernel_rfl)
    have e2 := q1 2 _ rfl l2
    refine gen_yes ?_ ?_
    ·simp only [e2]
     rfl
    have l4 : L 4 = true := hL.need 4 (by kernel_rfl)
    have e4 := q1 4 _ rfl l4
    have x := (k10.grows q0).cell 0
    simp only [e4]
    go_simp
    exact gr_val (HI.out _ _ _ ⟨q0, kn_known q1 rfl⟩)
   refine gen_consR (fun vs L w1 hL hw1 => ?_) ?_
   ·obtain ⟨q0, q1⟩ := HO.out _ _ _ hw1
    have l2 : L 2 = true := hL.need 2 (by kernel_rfl)
    have e2 := q1 2 _ rfl l2
    refine gen_yes ?_ ?_
    ·simp only [e2]
     rfl
    have l3 : L 3 = true := hL.need 3 (by kernel_rfl)
    have e3 := q1 3 _ rfl l3
    have l5 : L 5 = true := hL.need 5 (by kernel_rfl)
    have e5 := q1 5 _ rfl l5
    simp only [e3, e5]
    go_simp
    refine gr_call ?_
    refine (slot_is (some ad) c4 l s.a (t : Int) w1 (h4.grows (below_grows hB (Nat.le_refl _) q0)) hl4 HZ2.out).mono ?_
    rintro e w2 ⟨rfl, hg⟩
    exact ⟨_, rfl, HI.out _ _ _ ⟨below_grows q0 (Nat.le_refl _) hg, kn_known q1 rfl⟩⟩
   refine gen_consR (fun vs L w1 hL hw1 => ?_) ?_
   ·obtain ⟨q0, q1⟩ := HO.out _ _ _ hw1
    have l2 : L 2 = true := hL.need 2 (by kernel_rfl)
    have e2 := q1 2 _ rfl l2
    refine gen_yes ?_ ?_
    ·simp only [e2]
     rfl
    go_simp
    exact gr_val (HI.out _ _ _ ⟨q0, kn_known q1 rfl⟩)
   refine gen_consR (fun vs L w1 hL hw1 => ?_) ?_
   ·obtain ⟨q0, q1⟩ := HO.out _ _ _ hw1
    have l2 : L 2 = true := hL.need 2 (by kernel_rfl)
    have e2 := q1 2 _ rfl l2
    refine gen_yes ?_ ?_
    ·simp only [e2]
     rfl
    have l6 : L 6 = true := hL.need 6 (by kernel_rfl)
    have e6 := q1 6 _ rfl l6
    have l7 : L 7 = true := hL.need 7 (by kernel_rfl)
    have e7 := q1 7 _ rfl l7
    simp only [e6, e7]
    go_simp
    exact gr_val (HI.out _ _ _ ⟨q0, kn_known q1 rfl⟩)
   refine gen_consR (fun vs L w1 hL hw1 => ?_) ?_
   ·obtain ⟨q0, q1⟩ := HO.out _ _ _ hw1
    refine gen_plain rfl ?_
    have l2 : L 2 = true := hL.need 2 (by kernel_rfl)
    have e2 := q1 2 _ rfl l2
    have l8 : L 8 = true := hL.need 8 (by kernel_rfl)
    have e8 := q1 8 _ rfl l8
    simp only [e2, e8]
    go_simp
    exact gr_val (HI.out _ _ _ ⟨q0, kn_known q1 rfl⟩)
   refine gen_consR (fun vs L w1 hL hw1 => ?_) ?_
   ·obtain ⟨q0, q1⟩ := HO.out _ _ _ hw1
    refine gen_plain rfl ?_
    have l9 : L 9 = true := hL.need 9 (by kernel_rfl)
    have e9 := q1 9 _ rfl l9
    simp only [e9]
    go_simp
    exact gr_val (HI.out _ _ _ ⟨q0, kn_known q1 rfl⟩)
   refine gen_consR (fun vs L w1 hL hw1 => ?_) ?_
   ·obtain ⟨q0, q1⟩ := HO.out _ _ _ hw1
    have l10 : L 10 = true := hL.need 10 (by kernel_rfl)
    have e10 := q1 10 _ rfl l10
    refine gen_yes ?_ ?_
    ·simp only [e10]
     rfl
    go_simp
    exact gr_val (HI.out _ _ _ ⟨q0, kn_known q1 rfl⟩)
   refine gen_consR (fun vs L w1 hL hw1 => ?_) ?_
   ·obtain ⟨q0, q1⟩ := HO.out _ _ _ hw1
    have l10 : L 10 = true := hL.need 10 (by kernel_rfl)
    have e10 := q1 10 _ rfl l10
    refine gen_yes ?_ ?_
    ·simp only [e10]
     rfl
    have l11 : L 11 = true := hL.need 11 (by kernel_rfl)
    have e11 := q1 11 _ rfl l11
    have x := (k10.grows q0).cell 1
    simp only [e11]
    go_simp
    exact gr_val (HI.out _ _ _ ⟨q0, kn_known q1 rfl⟩)
   refine gen_consR (fun vs L w1 hL hw1 => ?_) ?_
   ·obtain ⟨q0, q1⟩ := HO.out _ _ _ hw1
    have l10 : L 10 = true := hL.need 10 (by kernel_rfl)
    have e10 := q1 10 _ rfl l10
    refine gen_yes ?_ ?_
    ·simp only [e10]
     rfl
    have l12 : L 12 = true := hL.need 12 (by kernel_rfl)
    have e12 := q1 12 _ rfl l12
    simp only [e12]
    go_simp
    exact gr_val (HI.out _ _ _ ⟨q0, kn_known q1 rfl⟩)
   refine gen_consR (fun vs L w1 hL hw1 => ?_) ?_
   ·obtain ⟨q0, q1⟩ := HO.out _ _ _ hw1
    refine gen_plain rfl ?_
    have l10 : L 10 = true := hL.need 10 (by kernel_rfl)
    have e10 := q1 10 _ rfl l10
    have l13 : L 13 = true := hL.need 13 (by kernel_rfl)
    have e13 := q1 13 _ rfl l13
    simp only [e10, e13]
    go_simp
    exact gr_val (HI.out _ _ _ ⟨q0, kn_known q1 rfl⟩)
   refine gen_consR (fun vs L w1 hL hw1 => ?_) ?_
   ·obtain ⟨q0, q1⟩ := HO.out _ _ _ hw1
    refine gen_plain rfl ?_
    have l14 : L 14 = true := hL.need 14 (by kernel_rfl)
    have e14 := q1 14 _ rfl l14
    simp only [e14]
    go_simp
    exact gr_val (HI.out _ _ _ ⟨q0, kn_known q1 rfl⟩)
   refine gen_consR (fun vs L w1 hL hw1 => ?_) ?_
   ·obtain ⟨q0, q1⟩ := HO.out _ _ _ hw1
    have l15 : L 15 = true := hL.need 15 (by kernel_rfl)
    have e15 := q1 15 _ rfl l15
    refine gen_yes ?_ ?_
    ·simp only [e15]
     rfl
    go_simp
    exact gr_val (HI.out _ _ _ ⟨q0, kn_known q1 rfl⟩)
   refine gen_consR (fun vs L w1 hL hw1 => ?_) ?_
   ·obtain ⟨q0, q1⟩ := HO.out _ _ _ hw1
    have l15 : L 15 = true := hL.need 15 (by kernel_rfl)
    have e15 := q1 15 _ rfl l15
    refine gen_yes ?_ ?_
    ·simp only [e15]
     rfl
    have l16 : L 16 = true := hL.need 16 (by kernel_rfl)
    have e16 := q1 16 _ rfl l16
    have x := (k10.grows q0).cell 1
    simp only [e16]
    go_simp
    exact gr_val (HI.out _ _ _ ⟨q0, kn_known q1 rfl⟩)
   refine gen_consR (fun vs L w1 hL hw1 => ?_) ?_
   ·obtain ⟨q0, q1⟩ := HO.out _ _ _ hw1
    have l15 : L 15 = true := hL.need 15 (by kernel_rfl)
    have e15 := q1 15 _ rfl l15
    refine gen_yes ?_ ?_
    ·simp only [e15]
     rfl
    go_simp
    exact gr_val (HI.out _ _ _ ⟨q0, kn_known q1 rfl⟩)
   refine gen_consR (fun vs L w1 hL hw1 => ?_) ?_
   ·obtain ⟨q0, q1⟩ := HO.out _ _ _ hw1
    have l15 : L 15 = true := hL.need 15 (by kernel_rfl)
    have e15 := q1 15 _ rfl l15
    refine gen_yes ?_ ?_
    ·simp only [e15]
     rfl
    have l17 : L 17 = true := hL.need 17 (by kernel_rfl)
    have e17 := q1 17 _ rfl l17
    have l18 : L 18 = true := hL.need 18 (by kernel_rfl)
    have e18 := q1 18 _ rfl l18
    simp only [e17, e18]
    go_simp
    exact gr_val (HI.out _ _ _ ⟨q0, kn_known q1 rfl⟩)
   refine gen_consR (fun vs L w1 hL hw1 => ?_) ?_
   ·obtain ⟨q0, q1⟩ := HO.out _ _ _ hw1
    refine gen_plain rfl ?_
    have l15 : L 15 = true := hL.need 15 (by kernel_rfl)
    have e15 := q1 15 _ rfl l15
    have l19 : L 19 = true := hL.need 19 (by kernel_rfl)
    have e19 := q1 19 _ rfl l19
    simp only [e15, e19]
    go_simp
    exact gr_val (HI.out _ _ _ ⟨q0, kn_known q1 rfl⟩)
   refine gen_consR (fun vs L w1 hL hw1 => ?_) ?_
   ·obtain ⟨q0, q1⟩ := HO.out _ _ _ hw1
    refine gen_plain rfl ?_
    have l20 : L 20 = true := hL.need 20 (by kernel_rfl)
    have e20 := q1 20 _ rfl l20
    simp only [e20]
    go_simp
    exact gr_val (HI.out _ _ _ ⟨q0, kn_known q1 rfl⟩)
   refine gen_consR (fun vs L w1 hL hw1 => ?_) ?_
   ·obtain ⟨q0, q1⟩ := HO.out _ _ _ hw1
    have l21 : L 21 = true := hL.need 21 (by kernel_rfl)
    have e21 := q1 21 _ rfl l21
    refine gen_yes ?_ ?_
    ·simp only [e21]
     rfl
    go_simp
    exact gr_val (HI.out _ _ _ ⟨q0, kn_known q1 rfl⟩)
   refine gen_consR (fun vs L w1 hL hw1 => ?_) ?_
   ·obtain ⟨q0, q1⟩ := HO.out _ _ _ hw1
    have l21 : L 21 = true := hL.need 21 (by kernel_rfl)
    have e21 := q1 21 _ rfl l21
    refine gen_yes ?_ ?_
    ·simp only [e21]
     rfl
    have l22 : L 22 = true := hL.need 22 (by kernel_rfl)
    have e22 := q1 22 _ rfl l22
    have x := (k10.grows q0).cell 2
    simp only [e22]
    go_simp
    exact gr_val (HI.out _ _ _ ⟨q0, kn_known q1 rfl⟩)
   refine gen_consR (fun vs L w1 hL hw1 => ?_) ?_
   ·obtain ⟨q0, q1⟩ := HO.out _ _ _ hw1
    have l21 : L 21 = true := hL.need 21 (by kernel_rfl)
    have e21 := q1 21 _ rfl l21
    refine gen_yes ?_ ?_
    ·simp only [e21]
     rfl
    have l23 : L 23 = true := hL.need 23 (by kernel_rfl)
    have e23 := q1 23 _ rfl l23
    simp only [e23]
    go_simp
    exact gr_val (HI.out _ _ _ ⟨q0, kn_known q1 rfl⟩)
   refine gen_consR (fun vs L w1 hL hw1 => ?_) ?_
   ·obtain ⟨q0, q1⟩ := HO.out _ _ _ hw1
    refine gen_plain rfl ?_
    have l21 : L 21 = true := hL.need 21 (by kernel_rfl)
    have e21 := q1 21 _ rfl l21
    have l24 : L 24 = true := hL.need 24 (by kernel_rfl)
    have e24 := q1 24 _ rfl l24
    simp only [e21, e24]
    go_simp
    exact gr_val (HI.out _ _ _ ⟨q0, kn_known q1 rfl⟩)
   refine gen_consR (fun vs L w1 hL hw1 => ?_) ?_
   ·obtain ⟨q0, q1⟩ := HO.out _ _ _ hw1
    refine gen_plain rfl ?_
    have l25 : L 25 = true := hL.need 25 (by kernel_rfl)
    have e25 := q1 25 _ rfl l25
    simp only [e25]
    go_simp
    exact gr_val (HI.out _ _ _ ⟨q0, kn_known q1 rfl⟩)
   refine gen_consR (fun vs L w1 hL hw1 => ?_) ?_
   ·obtain ⟨q0, q1⟩ := HO.out _ _ _ hw1
    have l26 : L 26 = true := hL.need 26 (by kernel_rfl)
    have e26 := q1 26 _ rfl l26
    refine gen_yes ?_ ?_
    ·simp only [e26]
     rfl
    go_simp
    exact gr_val (HI.out _ _ _ ⟨q0, kn_known q1 rfl⟩)
   refine gen_consR (fun vs L w1 hL hw1 => ?_) ?_
   ·obtain ⟨q0, q1⟩ := HO.out _ _ _ hw1
    have l26 : L 26 = true := hL.need 26 (by kernel_rfl)
    have e26 := q1 26 _ rfl l26
    refine gen_yes ?_ ?_
    ·simp only [e26]
     rfl
    have l27 : L 27 = true := hL.need 27 (by kernel_rfl)
    have e27 := q1 27 _ rfl l27
    have x := (k10.grows q0).cell 3
    simp only [e27]
    go_simp
    exact gr_val (HI.out _ _ _ ⟨q0, kn_known q1 rfl⟩)
   refine gen_consR (fun vs L w1 hL hw1 => ?_) ?_
   ·obtain ⟨q0, q1⟩ := HO.out _ _ _ hw1
    have l26 : L 26 = true := hL.need 26 (by kernel_rfl)
    have e26 := q1 26 _ rfl l26
    refine gen_yes ?_ ?_
    ·simp only [e26]
     rfl
    go_simp
    exact gr_val (HI.out _ _ _ ⟨q0, kn_known q1 rfl⟩)
   refine gen_consR (fun vs L w1 hL hw1 => ?_) ?_
   ·obtain ⟨q0, q1⟩ := HO.out _ _ _ hw1
    have l26 : L 26 = true := hL.need 26 (by kernel_rfl)
    have e26 := q1 26 _ rfl l26
    refine gen_yes ?_ ?_
    ·simp only [e26]
     rfl
    have l29 : L 29 = true := hL.need 29 (by kernel_rfl)
    have e29 := q1 29 _ rfl l29
    have x := (k10.grows q0).cell 2
    simp only [e29]
    go_simp
    exact gr_val (HI.out _ _ _ ⟨q0, kn_known q1 rfl⟩)
   refine gen_consR (fun vs L w1 hL hw1 => ?_) ?_
   ·obtain ⟨q0, q1⟩ := HO.out _ _ _ hw1
    have l26 : L 26 = true := hL.need 26 (by kernel_rfl)
    have e26 := q1 26 _ rfl l26
    refine gen_yes ?_ ?_
    ·simp only [e26]
     rfl
    have l28 : L 28 = true := hL.need 28 (by kernel_rfl)
    have e28 := q1 28 _ rfl l28
    have l30 : L 30 = true := hL.need 30 (by kernel_rfl)
    have e30 := q1 30 _ rfl l30
    simp only [e28, e30]
    go_simp
    exact gr_val (HI.out _ _ _ ⟨q0, kn_known q1 rfl⟩)
   refine gen_consR (fun vs L w1 hL hw1 => ?_) ?_
   ·obtain ⟨q0, q1⟩ := HO.out _ _ _ hw1
    refine gen_plain rfl ?_
    have l26 : L 26 = true := hL.need 26 (by kernel_rfl)
    have e26 := q1 26 _ rfl l26
    have l31 : L 31 = true := hL.need 31 (by kernel_rfl)
    have e31 := q1 31 _ rfl l31
    simp only [e26, e31]
    go_simp
    exact gr_val (HI.out _ _ _ ⟨q0, kn_known q1 rfl⟩)
   refine gen_consR (fun vs L w1 hL hw1 => ?_) ?_
   ·obtain ⟨q0, q1⟩ := HO.out _ _ _ hw1
    refine gen_plain rfl ?_
    have l32 : L 32 = true := hL.need 32 (by kernel_rfl)
    have e32 := q1 32 _ rfl l32
    simp only [e32]
    go_simp
    exact gr_val (HI.out _ _ _ ⟨q0, kn_known q1 rfl⟩)
   refine gen_consR (fun vs L w1 hL hw1 => ?_) ?_
   ·obtain ⟨q0, q1⟩ := HO.out _ _ _ hw1
    have l33 : L 33 = true := hL.need 33 (by kernel_rfl)
    have e33 := q1 33 _ rfl l33
    refine gen_yes ?_ ?_
    ·simp only [e33]
     rfl
    go_simp
    exact gr_val (HI.out _ _ _ ⟨q0, kn_known q1 rfl⟩)
   refine gen_consR (fun vs L w1 hL hw1 => ?_) ?_
   ·obtain ⟨q0, q1⟩ := HO.out _ _ _ hw1
    have l33 : L 33 = true := hL.need 33 (by kernel_rfl)
    have e33 := q1 33 _ rfl l33
    refine gen_yes ?_ ?_
    ·simp only [e33]
     rfl
    have l34 : L 34 = true := hL.need 34 (by kernel_rfl)
    have e34 := q1 34 _ rfl l34
    have x := (k10.grows q0).cell 3
    simp only [e34]
    go_simp
    exact gr_val (HI.out _ _ _ ⟨q0, kn_known q1 rfl⟩)
   refine gen_consR (fun vs L w1 hL hw1 => ?_) ?_
   ·obtain ⟨q0, q1⟩ := HO.out _ _ _ hw1
    have l33 : L 33 = true := hL.need 33 (by kernel_rfl)
    have e33 := q1 33 _ rfl l33
    refine gen_yes ?_ ?_
    ·simp only [e33]
     rfl
    go_simp
    exact gr_val (HI.out _ _ _ ⟨q0, kn_known q1 rfl⟩)
   refine gen_consR (fun vs L w1 hL hw1 => ?_) ?_
   ·obtain ⟨q0, q1⟩ := HO.out _ _ _ hw1
    have l33 : L 33 = true := hL.need 33 (by kernel_rfl)
    have e33 := q1 33 _ rfl l33
    refine gen_yes ?_ ?_
    ·simp only [e33]
     rfl
    have l36 : L 36 = true := hL.need 36 (by kernel_rfl)
    have e36 := q1 36 _ rfl l36
    have x := (k10.grows q0).cell 2
    simp only [e36]
    go_simp
    exact gr_val (HI.out _ _ _ ⟨q0, kn_known q1 rfl⟩)
   refine gen_consR (fun vs L w1 hL hw1 => ?_) ?_
   ·obtain ⟨q0, q1⟩ := HO.out _ _ _ hw1
    have l33 : L 33 = true := hL.need 33 (by kernel_rfl)
    have e33 := q1 33 _ rfl l33
    refine gen_yes ?_ ?_
    ·simp only [e33]
     rfl
    have l35 : L 35 = true := hL.need 35 (by kernel_rfl)
    have e35 := q1 35 _ rfl l35
    have l37 : L 37 = true := hL.need 37 (by kernel_rfl)
    have e37 := q1 37 _ rfl l37
    simp only [e35, e37]
    go_simp
    exact gr_val (HI.out _ _ _ ⟨q0, kn_known q1 rfl⟩)
   refine gen_consR (fun vs L w1 hL hw1 => ?_) ?_
   ·obtain ⟨q0, q1⟩ := HO.out _ _ _ hw1
    have l33 : L 33 = true := hL.need 33 (by kernel_rfl)
    have e33 := q1 33 _ rfl l33
    refine gen_yes ?_ ?_
    ·simp only [e33]
     rfl
    go_simp
    exact gr_val (HI.out _ _ _ ⟨q0, kn_known q1 rfl⟩)
   refine gen_consR (fun vs L w1 hL hw1 => ?_) ?_
   ·obtain ⟨q0, q1⟩ := HO.out _ _ _ hw1
    have l33 : L 33 = true := hL.need 33 (by kernel_rfl)
    have e33 := q1 33 _ rfl l33
    refine gen_yes ?_ ?_
    ·simp only [e33]
     rfl
    go_simp
    exact gr_val (HI.out _ _ _ ⟨q0, kn_known q1 rfl⟩)
   refine gen_consR (fun vs L w1 hL hw1 => ?_) ?_
   ·obtain ⟨q0, q1⟩ := HO.out _ _ _ hw1
    have l33 : L 33 = true := hL.need 33 (by kernel_rfl)
    have e33 := q1 33 _ rfl l33
    refine gen_yes ?_ ?_
    ·simp only [e33]
     rfl
    have l39 : L 39 = true := hL.need 39 (by kernel_rfl)
    have e39 := q1 39 _ rfl l39
    have l40 : L 40 = true := hL.need 40 (by kernel_rfl)
    have e40 := q1 40 _ rfl l40
    simp only [e39, e40]
    go_simp
    exact gr_val (HI.out _ _ _ ⟨q0, kn_known q1 rfl⟩)
   refine gen_consR (fun vs L w1 hL hw1 => ?_) ?_
   ·obtain ⟨q0, q1⟩ := HO.out _ _ _ hw1
    have l33 : L 33 = true := hL.need 33 (by kernel_rfl)
    have e33 := q1 33 _ rfl l33
    refine gen_yes ?_ ?_
    ·simp only [e33]
     rfl
    have l41 : L 41 = true := hL.need 41 (by kernel_rfl)
    have e41 := q1 41 _ rfl l41
    simp only [e41]
    have x := q0.cell (p := ad3.add p) (by rw [block_of_add]; exact had3)
    rw [p0] at x
    go_simp
    exact gr_val (HI.out _ _ _ ⟨q0, kn_known q1 rfl⟩)
   refine gen_consR (fun vs L w1 hL hw1 => ?_) ?_
   ·obtain ⟨q0, q1⟩ := HO.out _ _ _ hw1
    have l33 : L 33 = true := hL.need 33 (by kernel_rfl)
    have e33 := q1 33 _ rfl l33
    refine gen_yes ?_ ?_
    ·simp only [e33]
     rfl
    have l38 : L 38 = true := hL.need 38 (by kernel_rfl)
    have e38 := q1 38 _ rfl l38
    have l42 : L 42 = true := hL.need 42 (by kernel_rfl)
    have e42 := q1 42 _ rfl l42
    simp only [e38, e42]
    go_simp
    exact gr_val (HI.out _ _ _ ⟨q0, kn_known q1 rfl⟩)
   refine gen_consR (fun vs L w1 hL hw1 => ?_) ?_
   ·obtain ⟨q0, q1⟩ := HO.out _ _ _ hw1
    refine gen_plain rfl ?_
    have l33 : L 33 = true := hL.need 33 (by kernel_rfl)
    have e33 := q1 33 _ rfl l33
    have l43 : L 43 = true := hL.need 43 (by kernel_rfl)
    have e43 := q1 43 _ rfl l43
    simp only [e33, e43]
    go_simp
    exact gr_val (HI.out _ _ _ ⟨q0, kn_known q1 rfl⟩)
   refine gen_consR (fun vs L w1 hL hw1 => ?_) ?_
   ·obtain ⟨q0, q1⟩ := HO.out _ _ _ hw1
    refine gen_plain rfl ?_
    have l44 : L 44 = true := hL.need 44 (by kernel_rfl)
    have e44 := q1 44 _ rfl l44
    simp only [e44]
    go_simp
    exact gr_val (HI.out _ _ _ ⟨q0, kn_known q1 rfl⟩)
   refine gen_consR (fun vs L w1 hL hw1 => ?_) ?_
   ·obtain ⟨q0, q1⟩ := HO.out _ _ _ hw1
    have l45 : L 45 = true := hL.need 45 (by kernel_rfl)
    have e45 := q1 45 _ rfl l45
    refine gen_yes ?_ ?_
    ·simp only [e45]
     rfl
    have x := (k1.grows q0).cell 
    go_simp
    exact gr_val (HI.out _ _ _ ⟨q0, kn_known q1 rfl⟩)
   refine gen_consR (fun vs L w1 hL hw1 => ?_) ?_
   ·obtain ⟨q0, q1⟩ := HO.out _ _ _ hw1
    have l45 : L 45 = true := hL.need 45 (by kernel_rfl)
    have e45 := q1 45 _ rfl l45
    refine gen_yes ?_ ?_
    ·simp only [e45]
     rfl
    go_simp
    exact gr_val (HI.out _ _ _ ⟨q0, kn_known q1 rfl⟩)
   refine gen_consR (fun vs L w1 hL hw1 => ?_) ?_
   ·obtain ⟨q0, q1⟩ := HO.out _ _ _ hw1
    have l45 : L 45 = true := hL.need 45 (by kernel_rfl)
    have e45 := q1 45 _ rfl l45
    refine gen_yes ?_ ?_
    ·simp only [e45]
     rfl
    go_simp
    exact gr_val (HI.out _ _ _ ⟨q0, kn_known q1 rfl⟩)
   refine gen_consR (fun vs L w1 hL hw1 => ?_) ?_
   ·obtain ⟨q0, q1⟩ := HO.out _ _ _ hw1
    have l45 : L 45 = true := hL.need 45 (by kernel_rfl)
    have e45 := q1 45 _ rfl l45
    refine gen_yes ?_ ?_
    ·simp only [e45]
     rfl
    have l48 : L 48 = true := hL.need 48 (by kernel_rfl)
    have e48 := q1 48 _ rfl l48
    have x := (k10.grows q0).cell 0
    simp only [e48]
    go_simp
    exact gr_val (HI.out _ _ _ ⟨q0, kn_known q1 rfl⟩)
   refine gen_consR (fun vs L w1 hL hw1 => ?_) ?_
   ·obtain ⟨q0, q1⟩ := HO.out _ _ _ hw1
    have l45 : L 45 = true := hL.need 45 (by kernel_rfl)
    have e45 := q1 45 _ rfl l45
    refine gen_yes ?_ ?_
    ·simp only [e45]
     rfl
    go_simp
    exact gr_val (HI.out _ _ _ ⟨q0, kn_known q1 rfl⟩)
   refine gen_consR (fun vs L w1 hL hw1 => ?_) ?_
   ·obtain ⟨q0, q1⟩ := HO.out _ _ _ hw1
    have l45 : L 45 = true := hL.need 45 (by kernel_rfl)
    have e45 := q1 45 _ rfl l45
    refine gen_yes ?_ ?_
    ·simp only [e45]
     rfl
    have l50 : L 50 = true := hL.need 50 (by kernel_rfl)
    have e50 := q1 50 _ rfl l50
    have x := (k10.grows q0).cell 2
    simp only [e50]
    go_simp
    exact gr_val (HI.out _ _ _ ⟨q0, kn_known q1 rfl⟩)
   refine gen_consR (fun vs L w1 hL hw1 => ?_) ?_
   ·obtain ⟨q0, q1⟩ := HO.out _ _ _ hw1
    have l45 : L 45 = true := hL.need 45 (by kernel_rfl)
    have e45 := q1 45 _ rfl l45
    refine gen_yes ?_ ?_
    ·simp only [e45]
     rfl
    have l46 : L 46 = true := hL.need 46 (by kernel_rfl)
    have e46 := q1 46 _ rfl l46
    have l47 : L 47 = true := hL.need 47 (by kernel_rfl)
    have e47 := q1 47 _ rfl l47
    have l49 : L 49 = true := hL.need 49 (by kernel_rfl)
    have e49 := q1 49 _ rfl l49
    have l51 : L 51 = true := hL.need 51 (by kernel_rfl)
    have e51 := q1 51 _ rfl l51
    simp only [e46, e47, e49, e51]
    go_simp
    refine gr_call ?_
    refine (ready_is c c4 s.a s.c true w1 (h.grows (below_grows hB (Nat.le_refl _) q0)) (h4.grows (below_grows hB (Nat.le_refl _) q0)) hl4 HRD.out).mono ?_
    rintro e w2 ⟨rfl, hg⟩
    exact ⟨_, rfl, HI.out _ _ _ ⟨below_grows q0 (Nat.le_refl _) hg, kn_known q1 rfl⟩⟩
   refine gen_consR (fun vs L w1 hL hw1 => ?_) ?_
   ·obtain ⟨q0, q1⟩ := HO.out _ _ _ hw1
    have l45 : L 45 = true := hL.need 45 (by kernel_rfl)
    have e45 := q1 45 _ rfl l45
    refine gen_yes ?_ ?_
    ·simp only [e45]
     rfl
    have l52 : L 52 = true := hL.need 52 (by kernel_rfl)
    have e52 := q1 52 _ rfl l52
    simp only [e52]
    go_simp
    exact gr_val (HI.out _ _ _ ⟨q0, kn_known q1 rfl⟩)
   refine gen_consR (fun vs L w1 hL hw1 => ?_) ?_
   ·obtain ⟨q0, q1⟩ := HO.out _ _ _ hw1
    refine gen_plain rfl ?_
    have l45 : L 45 = true := hL.need 45 (by kernel_rfl)
    have e45 := q1 45 _ rfl l45
    have l53 : L 53 = true := hL.need 53 (by kernel_rfl)
    have e53 := q1 53 _ rfl l53
    simp only [e45, e53]
    go_simp
    exact gr_val (HI.out _ _ _ ⟨q0, kn_known q1 rfl⟩)
   refine gen_nil ?_
   intro vs L W6 hall hS
   obtain ⟨hq, q1⟩ := HO.out _ _ _ hS
   have eX54 := q1 54 _ rfl (hall 54 (by simp))
   clear hall hS HI HO q1
   simp only [eX54]
   replace hB := below_grows hB (Nat.le_refl _) hq
   replace k1 := k1.grows hq
   replace k10 := k10.grows hq
   clear hq p0 hwr had3 dd0 dd1 dd2 dd3 dd4 dd5 dd6 b2 b3 b4 b5
   go_wp2_with fail
   go_loopw [12] (fun i wr => ∃ u : Nat, u ≤ t ∧ i = .int .i64 u ∧ Hid ((l.take u).all (fun v => !overQ v s) = true) ∧ Blk wr G10 53 #[.int .i64 s.a, .int .i64 s.b, .int .i64 s.c, .int .i64 s.d] ∧ Blk wr w.heap.size 26 #[.slice A ns.length c, .slice A2 ls.length c2] ∧ Below w.heap.size w wr) (fun i _ => t - (intOf i).toNat)
   case atStart => exact ⟨0, by omega, rfl, Lib.hid rfl, k10, k1, hB⟩
   case round =>
    clear k1 k10 hB
    obtain ⟨u, hu, rfl, HA, k10, k1, hB⟩ := hrel
    by_cases hut : u < t
    ·obtain ⟨ad4, v, e4, had4, hv, y0, y1, y2, y3⟩ := (h4.grows hB).elem (show u < l.length by omega)
     injection e4 with e4
     subst e4
     have HU := Lib.hid hv
     have hul : u < l.length := by omega
     clear hv
     have x10 := k10.cell
     go_upto_region 13 with fail
     by_cases b1 : v.b = s.b
     case neg =>
      have dd1 : (v.b == s.b) = false := by simpa using b1
      have HA2 : Hid ((l.take (u + 1)).all (fun v => !overQ v s) = true) := Lib.hid (by rw [take_snoc HU.out, List.all_append, HA.out]; unfold overQ; simp [b1])
      go_quiet (fail)
      generalize hY : World.drewN wr _ = w9 at *
      have hq : Grows wr w9 := hY ▸ grows_drewN wr _
      clear hY
      replace hB := below_grows hB (Nat.le_refl _) hq
      replace k1 := k1.grows hq
      replace k10 := k10.grows hq
      clear hq x10 y0 y1 y2 y3
      go_wp2
      go_roundw
      case rel => exact ⟨u + 1, by omega, by go_num, HA2, k10, k1, hB⟩
      case measure => simp [intOf]; omega
     have dd1 : (v.b == s.b) = true := by simpa using b1
     by_cases b2 : s.c < v.d
     case neg =>
      have dd2 : decide (s.c < v.d) = false := by simpa using b2
      have HA2 : Hid ((l.take (u + 1)).all (fun v => !overQ v s) = true) := Lib.hid (by rw [take_snoc HU.out, List.all_append, HA.out]; unfold overQ; simp [b2])
      go_quiet (fail)
      generalize hY : World.drewN wr _ = w9 at *
      have hq : Grows wr w9 := hY ▸ grows_drewN wr _
      clear hY
      replace hB := below_grows hB (Nat.le_refl _) hq
      replace k1 := k1.grows hq
      replace k10 := k10.grows hq
      clear hq x10 y0 y1 y2 y3
      go_wp2
      go_roundw
      case rel => exact ⟨u + 1, by omega, by go_num, HA2, k10, k1, hB⟩
      case measure => simp [intOf]; omega
     have dd2 : decide (s.c < v.d) = true := by simpa using b2
     by_cases b3 : v.c < s.d
     case neg =>
      have dd3 : decide (v.c < s.d) = false := by simpa using b3
      have HA2 : Hid ((l.take (u + 1)).all (fun v => !overQ v s) = true) := Lib.hid (by rw [take_snoc HU.out, List.all_append, HA.out]; unfold overQ; simp [b3])
      go_quiet (fail)
      generalize hY : World.drewN wr _ = w9 at *
      have hq : Grows wr w9 := hY ▸ grows_drewN wr _
      clear hY
      replace hB := below_grows hB (Nat.le_refl _) hq
      replace k1 := k1.grows hq
      replace k10 := k10.grows hq
      clear hq x10 y0 y1 y2 y3
      go_wp2
      go_roundw
      case rel => exact ⟨u + 1, by omega, by go_num, HA2, k10, k1, hB⟩
      case measure => simp [intOf]; omega
     have dd3 : decide (v.c < s.d) = true := by simpa using b3
     have HE : Hid (validS ns ls cs wi l = false) := Lib.hid (not_valid_over HP.out HL.out HX.out HU.out (by omega) (by unfold overQ; rw [dd1, dd2, dd3]; rfl))
     clear b1
     go_quiet (fail)
     generalize hY : World.drewN wr _ = w9 at *
     have hq : Grows wr w9 := hY ▸ grows_drewN wr _
     clear hY
     replace hB := below_grows hB (Nat.le_refl _) hq
     replace k1 := k1.grows hq
     replace k10 := k10.grows hq
     clear hq x10 y0 y1 y2 y3
     go_wp2
     go_ret
     rw [HE.out]
     exact ⟨rfl, hB⟩
    ·obtain rfl : u = t := by omega
     have HF2 : Hid (UpTo ns ls (wOf ns cs) wi l (u + 1)) := Lib.hid (upto_succ HF.out HX.out HONE.out HRD.out HA.out)
     go_wp2
     go_roundw
     case rel => exact ⟨u + 1, by omega, by go_num, HF2, k1, hB⟩
     case measure => simp [intOf]; omega
  ·obtain rfl : t = l.length := by omega
   have HE : Hid (validS ns ls cs wi l = true) := Lib.hid (valid_all HP.out HL.out HF.out)
   go_wp2
   go_ret
   rw [HE.out]
   exact ⟨rfl, hB⟩
end Go.Proofs.Ytobhdldlhhigdaa

namespace Go.Proofs.Ytobhdldlhhigdaa
open Go.ChangeShapes Go.WideShapes Go.ChangeAt Go.RowKit
theorem okW_of {ns : List Q4} {cs : List Int} (h : cs.length = ns.length) (hr : ∀ x ∈ cs, 0 ≤ x ∧ x < 12) : okW ns cs = true := by
 unfold okW
 have : cs.any badW = false := by
  rw [List.any_eq_false]
  intro x hx
  have := hr x hx
  simp only [badW, Bool.or_eq_true, decide_eq_true_eq]
  omega
 rw [this, h]
 simp
namespace ScheduleValid
set_option maxRecDepth 100000 in
set_option maxHeartbeats 32000000 in
theorem walk (A0 A1 : Option Addr) (c0 c1 : Nat) (il : List Int) (sl : List Q4) (wi what at_ : Int) (w : World) (hI0 : Ints w A0 il) (hil : il.length ≤ 9223372036854775807) (hS : Qs w A1 sl) (hsl : sl.length ≤ 9223372036854775807) (hso : ∀ s ∈ sl, OK4 s) :
 Calls Try.prog 6 #[.slice A0 il.length c0, .slice A1 sl.length c1, .int .i64 wi, .int .i64 what, .int .i64 at_] w fun e w' => e = .returned (.bool true) ∧ Below w.heap.size w w' := by
 have hB := Below.refl w.heap.size w
 have HSO1 := Lib.hid hso
 clear hso
 go_enter Try.func6, Try.ntmps6
 go_wp2_with fail
 refine (sane_any _).mono ?_
 rintro e w2 ⟨rfl, hq⟩
 replace hB := below_grows hB (Nat.le_refl _) hq
 clear hq
 by_cases ha : 12 < sl.length
 ·have ha2 : decide ((12 : Int) < (sl.length : Int)) = true := by simp only [decide_eq_true_eq]; omega
  go_wp2
  go_ret
  exact ⟨rfl, hB⟩
 have ha2 : decide ((12 : Int) < (sl.length : Int)) = false := by simp only [decide_eq_false_iff_not]; omega
 go_wp2_with fail
 refine (new_deck A0 c0 il _ (hI0.grows hB) hil).mono ?_
 rintro e w6 ⟨rfl, hD, hq⟩
 have hgd := hB.size
 replace hB := below_grows hB (Nat.le_refl _) hq
 clear hq
 go_wp2_with fail
 refine (graph_any _ A0 c0 il 0 _ hD).mono ?_
 rintro e w7 ⟨⟨v1, v2, v3, ns, ls, cs, k', rfl, hn, hl2, hi3, hv, hcl, hcr, hn8, hD3⟩, hq⟩
 replace hB := hB.grown hq hB.size (fun q e => by injection e; omega)
 clear hq hD hD3 hgd
 obtain ⟨A5, c5, A6, c6, rfl, rfl, hc5, hok⟩ := gok_of hn hl2 hv
 obtain ⟨A7, c7, rfl, hc7, hci⟩ := hi3.read
 have hlcs : cs.length ≤ 9223372036854775807 := by omega
 have HV := Lib.hid hv
 have HW : Hid (okW ns cs = true) := Lib.hid (okW_of hcl hcr)
 have HCL := Lib.hid hcl
 have HCR := Lib.hid hcr
 clear hv hcl hcr hn hl2 hi3
 have k8 := Blk.new w7 26 #[.slice A5 ns.length c5, .slice A6 ls.length c6]
 have hq := (Below.refl w7.heap.size w7).alloc (Nat.le_refl _) (Obj.cells #[.slice A5 ns.length c5, .slice A6 ls.length c6] 26)
 go_upto_region 6 with fail
 replace hB := below_grows hB (Nat.le_refl _) hq
 replace hok := hok.grows hq
 replace hci := hci.grows hq
 clear hq
 generalize World.alloc w7 _ = w8 at *
 generalize w7.heap.size = G8 at *
 clear ha ha2
 have x8 := k8.cell
 go_wp2_with fail
 refine (mod_any wi 4 _ (by omega) (by omega)).mono ?_
 rintro e w9 ⟨rfl, rfl⟩
 have hwb : 0 ≤ wi % 4 ∧ wi % 4 < 4 := by omega
 obtain ⟨wn, hwn⟩ : ∃ wn : Nat, 1 + wi % 4 = (wn : Int) := ⟨(1 + wi % 4).toNat, by omega⟩
 have hwr : IntKind.i64.wrap (1 + wi % 4) = (wn : Int) := by rw [IntWalk.i64_in _ (by omega)]; exact hwn
 have hwn1 : 1 ≤ wn ∧ wn ≤ 4 := by omega
 clear hwb hwn
 go_upto_region 7 with fail
 clear hwr
 have HP : Hid (probB ns ls cs (wn : Int) = true) := Lib.hid (prob_iff.2 ⟨HV.out, HW.out, by omega, by omega⟩)
 have HL0 : Hid (compL ns ls cs (wn : Int) = compG ns ls cs wn) := Lib.hid (by unfold compL; rw [if_pos HP.out, Int.toNat_natCast])
 have hl0 := compL_len ns ls cs (wn : Int)
 go_wp2_with fail
 refine (rcomp_is c5 c7 (wn : Int) hok hci hlcs).mono ?_
 rintro e w20 ⟨⟨B20, d20, rfl, hr20⟩, hq⟩
 replace hB := below_grows hB (Nat.le_refl _) hq
 replace k8 := k8.grows hq
 replace hok := hok.grows hq
 replace hci := hci.grows hq
 clear hq x8
 rw [HL0.out] at hr20 hl0
 rw [HL0.out]
 have HO4 : Hid (∀ s ∈ compG ns ls cs wn, OK4 s) := Lib.hid (comp_ok4 HP.out)
 generalize compG ns ls cs wn = L0 at *
 generalize compE ns ls cs (wn : Int) = ce at *
 go_upto_region 8 with fail
 clear HL0
 generalize w20 = w10 at *
 refine wp_region_lit ?_
 iterate 1
  refine wpList_plain rfl (fun K hK => ?_)
  go_simp
  refine hK _ _ ?_
  clear hK K
 have ho := ownS_empty w10 w10.heap.size (Nat.le_refl _)
 have hq := (Below.refl w10.heap.size w10).alloc (Nat.le_refl _) (Obj.cells #[] 53)
 iterate 1
  refine wpList_plain rfl (fun K hK => ?_)
  go_simp
  refine hK _ _ ?_
  clear hK K
 refine wpList_append_slot rfl (.tmp 41) (.tmp 42) rfl (l := []) (m := L0) rfl rfl ho rfl (hr20.grows hq) (by simp only [List.length_nil]; omega) hq.size ?_
 intro v5 w12 ho2 hgr
 rw [List.nil_append] at ho2
 have hG := ho.below hq hgr hq.size
 clear hq hgr ho
 have ho := ho2
 clear ho2
 have hB10 := hB
 have hw12 := hG.size
 obtain ⟨A20, cl0, hv5, -, hqy⟩ := ho.read
 subst hv5
 go_upto_if 46 with fail
 go_cut [16] (fun v wx => ∃ (A : Option Addr) (c : Nat) (L : List Q4), v = .slice A L.length c ∧ Qs wx A L ∧ L.length ≤ 64 ∧ Hid (∀ s ∈ L, OK4 s) ∧ Below w10.heap.size w10 wx)
 case first =>
  by_cases h0 : L0.length = 0
  ·obtain rfl := List.eq_nil_of_length_eq_zero h0
   clear h0
   go_wp2
   go_meet
   exact ⟨_, _, [], rfl, hqy, by simp, HO4, hG⟩
  obtain ⟨g, cl, e, hbg, hclL⟩ := ho.form (by omega)
  injection e with e1 e2 e3
  subst e1
  subst e3
  have h02 : decide (0 < L0.length) = true := by simp only [decide_eq_true_eq]; omega
  have hkb := Int.emod_nonneg at_ (show (L0.length : Int) ≠ 0 by omega)
  have hkb2 := Int.emod_lt_of_pos at_ (show 0 < (L0.length : Int) by omega)
  obtain ⟨k, hk⟩ : ∃ k : Nat, at_ % (L0.length : Int) = (k : Int) := ⟨(at_ % (L0.length : Int)).toNat, by omega⟩
  rw [hk] at hkb hkb2
  have hkl : k < L0.length := by omega
  go_wp2_with fail
  refine (mod_any at_ (L0.length : Int) _ (by omega) (by omega)).mono ?_
  rw [hk]
  clear hk hkb hkb2
  rintro e w13 ⟨rfl, rfl⟩
  obtain ⟨s, hs⟩ : ∃ s, L0[k]? = some s := ⟨_, List.getElem?_eq_getElem hkl⟩
  have HS := Lib.hid hs
  have HSO := Lib.hid (HO4.out s (List.mem_of_getElem? hs))
  clear hs
  have hf := ho.frozen
  obtain ⟨q0, q1, q2, q3⟩ := ho.cells rfl HS.out
  go_wp2_with fail
  refine (mod_any what 7 _ (by omega) (by omega)).mono ?_
  rintro e w14 ⟨rfl, rfl⟩
  generalize what % 7 = z at *
  by_cases z0 : z = 0
  ·have d0 : (z == 0) = true := by simpa using z0
   clear z0
   go_upto_region 13 with fail
   refine wp_region_step (fun p w' => Below w10.heap.size w10 w' ∧ (p = 0 → OwnS w' w10.heap.size (.slice (some ⟨g, 0, none⟩) L0.length cl0) L0) ∧ (p = 1 → OwnS w' w10.heap.size (.slice (some ⟨g, 0, none⟩) L0.length cl0) (L0.set k (s.put 2 (IntKind.i64.wrap (s.c - 1))))) ∧ (2 ≤ p → OwnS w' w10.heap.size (.slice (some ⟨g, 0, none⟩) L0.length cl0) (L0.set k ((s.put 2 (IntKind.i64.wrap (s.c - 1))).put 3 (IntKind.i64.wrap (s.d - 1)))))) [14, 17] 18 154 (by kernel_rfl) (by kernel_rfl) rfl ?_ ?_ ?_
   ·exact fun p w1 w2 ⟨h0, h1, h2, h3⟩ hg => ⟨below_grows h0 (Nat.le_refl _) hg, fun h => (h1 h).grows hg, fun h => (h2 h).grows hg, fun h => (h3 h).grows hg⟩
   ·exact ⟨below_grows hG (Nat.le_refl _) (Grows.drew' _), fun _ => ho.grows (Grows.drew' _), fun h => by omega, fun h => by omega⟩
   simp only [List.take_succ_cons, List.take_zero, List.drop_succ_cons, List.drop_zero]
   refine st_plain rfl rfl (v := ?_) (a' := ?_) (fun w1 hw1 => ?_) ?_ ?_
   rotate_left 2
   ·obtain ⟨p, -⟩ := hw1
    go_simp
    exact calm_val
   ·simp only [Act.put, List.setIfInBounds_toArray, List.set_cons_succ, List.set_cons_zero]
    rfl
   refine st_plain rfl rfl (v := ?_) (a' := ?_) (fun w1 hw1 => ?_) ?_ ?_
   rotate_left 2
   ·obtain ⟨p, -⟩ := hw1
    go_simp
    exact calm_val
   ·simp only [Act.put, List.setIfInBounds_toArray, List.set_cons_succ, List.set_cons_zero]
    rfl
   refine st_plain rfl rfl (v := ?_) (a' := ?_) (fun w1 hw1 => ?_) ?_ ?_
   rotate_left 2
   ·obtain ⟨p, -⟩ := hw1
    go_simp
    exact calm_val
   ·simp only [Act.put, List.setIfInBounds_toArray, List.set_cons_succ, List.set_cons_zero]
    rfl
   refine st_plain rfl rfl (v := ?_) (a' := ?_) (fun w1 hw1 => ?_) ?_ ?_
   rotate_left 2
   ·obtain ⟨p, -⟩ := hw1
    go_simp
    exact calm_val
   ·simp only [Act.put, List.setIfInBounds_toArray, List.set_cons_succ, List.set_cons_zero]
    rfl
   refine st_plain rfl rfl (v := ?_) (a' := ?_) (fun w1 hw1 => ?_) ?_ ?_
   rotate_left 2
   ·obtain ⟨p, -⟩ := hw1
    go_simp
    exact calm_val
   ·simp only [Act.put, List.setIfInBounds_toArray, List.set_cons_succ, List.set_cons_zero]
    rfl
   refine st_upto (j := 0) (by kernel_rfl) rfl rfl (v := ?_) (a' := ?_) (fun w1 hw1 => ?_) ?_ ?_
   rotate_left 2
   ·obtain ⟨p, hp, -, h1, -, -⟩ := hw1
    have ho1 := h1 (by omega)
    obtain ⟨q0, q1, q2, q3⟩ := ho1.cells rfl HS.out
    go_simp
    exact calm_val
   ·simp only [Act.put, List.setIfInBounds_toArray, List.set_cons_succ, List.set_cons_zero]
    rfl
   refine st_plain rfl rfl (v := ?_) (a' := ?_) (fun w1 hw1 => ?_) ?_ ?_
   rotate_left 2
   ·obtain ⟨p, -⟩ := hw1
    go_simp
    exact calm_val
   ·simp only [Act.put, List.setIfInBounds_toArray, List.set_cons_succ, List.set_cons_zero]
    rfl
   refine st_plain rfl rfl (v := ?_) (a' := ?_) (fun w1 hw1 => ?_) ?_ ?_
   rotate_left 2
   ·obtain ⟨p, -⟩ := hw1
    go_simp
    exact calm_val
   ·simp only [Act.put, List.setIfInBounds_toArray, List.set_cons_succ, List.set_cons_zero]
    rfl
   refine st_plain rfl rfl (v := ?_) (a' := ?_) (fun w1 hw1 => ?_) ?_ ?_
   rotate_left 2
   ·obtain ⟨p, -⟩ := hw1
    go_simp
    exact calm_val
   ·simp only [Act.put, List.setIfInBounds_toArray, List.set_cons_succ, List.set_cons_zero]
    rfl
   refine st_plain rfl rfl (v := ?_) (a' := ?_) (fun w1 hw1 => ?_) ?_ ?_
   rotate_left 2
   ·obtain ⟨p, -⟩ := hw1
    go_simp
    exact calm_val
   ·simp only [Act.put, List.setIfInBounds_toArray, List.set_cons_succ, List.set_cons_zero]
    rfl
   refine st_upto (j := 0) (by kernel_rfl) rfl rfl (v := ?_) (a' := ?_) (fun w1 hw1 => ?_) ?_ ?_
   rotate_left 2
   ·obtain ⟨p, hp, -, h1, -, -⟩ := hw1
    have ho1 := h1 (by omega)
    obtain ⟨q0, q1, q2, q3⟩ := ho1.cells rfl HS.out
    go_simp
    exact calm_val
   ·simp only [Act.put, List.setIfInBounds_toArray, List.set_cons_succ, List.set_cons_zero]
    rfl
   refine st_plain rfl rfl (v := ?_) (a' := ?_) (fun w1 hw1 => ?_) ?_ ?_
   rotate_left 2
   ·obtain ⟨p, -⟩ := hw1
    go_simp
    exact calm_val
   ·simp only [Act.put, List.setIfInBounds_toArray, List.set_cons_succ, List.set_cons_zero]
    rfl
   refine st_plain rfl rfl (v := ?_) (a' := ?_) (fun w1 hw1 => ?_) ?_ ?_
   rotate_left 2
   ·obtain ⟨p, -⟩ := hw1
    go_simp
    exact calm_val
   ·simp only [Act.put, List.setIfInBounds_toArray, List.set_cons_succ, List.set_cons_zero]
    rfl
   refine st_plain rfl rfl (v := ?_) (a' := ?_) (fun w1 hw1 => ?_) ?_ ?_
   rotate_left 2
   ·obtain ⟨p, -⟩ := hw1
    go_simp
    exact calm_val
   ·simp only [Act.put, List.setIfInBounds_toArray, List.set_cons_succ, List.set_cons_zero]
    rfl
   refine st_step (j := 0) rfl rfl (v := undef) (a' := ?_) (fun w1 hw1 => ?_) ?_ ?_
   rotate_left 1
   ·obtain ⟨hb, h1, -, -⟩ := hw1
    have ho1 := h1 rfl
    have hf := ho1.frozen
    obtain ⟨q0, q1, q2, q3⟩ := ho1.cells rfl HS.out
    go_simp
    refine step_skip ?_
    exact ⟨hb.setCell (p := ⟨g, k * 4 + 2, none⟩) hbg _, ho1.put rfl HS.out (by omega) _⟩
   ·rfl
   refine st_plain rfl rfl (v := ?_) (a' := ?_) (fun w1 hw1 => ?_) ?_ ?_
   rotate_left 2
   ·obtain ⟨p, -⟩ := hw1
    go_simp
    exact calm_val
   ·simp only [Act.put, List.setIfInBounds_toArray, List.set_cons_succ, List.set_cons_zero]
    rfl
   refine st_plain rfl rfl (v := ?_) (a' := ?_) (fun w1 hw1 => ?_) ?_ ?_
   rotate_left 2
   ·obtain ⟨p, -⟩ := hw1
    go_simp
    exact calm_val
   ·simp only [Act.put, List.setIfInBounds_toArray, List.set_cons_succ, List.set_cons_zero]
    rfl
   refine st_step (j := 1) rfl rfl (v := undef) (a' := ?_) (fun w1 hw1 => ?_) ?_ ?_
   rotate_left 1
   ·obtain ⟨hb, -, h1, -⟩ := hw1
    have ho1 := h1 rfl
    have hf := ho1.frozen
    obtain ⟨q0, q1, q2, q3⟩ := ho1.cells (List.length_set).symm (get_set HS.out)
    go_simp
    refine step_skip ?_
    have ho2 := ho1.put (j := 3) (List.length_set).symm (get_set HS.out) (by omega) (IntKind.i64.wrap (s.d - 1))
    rw [List.set_set] at ho2
    exact ⟨hb.setCell (p := ⟨g, k * 4 + 3, none⟩) hbg _, ho2⟩
   ·rfl
   refine st_done ?_
   rintro w11 ⟨hb, -, -, h3⟩
   have ho2 := h3 (Nat.le_refl 2)
   go_wp2
   go_meet
   refine ⟨_, _, _, by rw [List.length_set], ho2.qs, by rw [List.length_set]; omega, Lib.hid (ok4_set HO4.out (ok4_put (ok4_put HSO.out 2 (in_wrapk _)) 3 (in_wrapk _))), hb⟩
  have d0 : (z == 0) = false := by simpa using z0
  clear z0
  by_cases z1 : z = 1
  ·have d1 : (z == 1) = true := by simpa using z1
   clear z1
   go_upto_region 15 with fail
   go_wp2
   go_meet
   exact ⟨_, _, _, by rw [List.length_set], (ho.put (j := 3) rfl HS.out (by omega) _).qs, by rw [List.length_set]; omega, Lib.hid (ok4_set HO4.out (ok4_put HSO.out 3 (in_wrap _))), hG.setCell (p := ⟨g, k * 4 + 3, none⟩) hbg _⟩
  have d1 : (z == 1) = false := by simpa using z1
  clear z1
  by_cases z2 : z = 2
  ·have d2 : (z == 2) = true := by simpa using z2
   clear z2
   go_wp2_with fail
   refine (mod_any at_ 5 _ (by omega) (by omega)).mono ?_
   rintro e w15 ⟨rfl, rfl⟩
   have hm5 : In64 (at_ % 5) := by unfold In64; omega
   go_wp2
   go_meet
   exact ⟨_, _, _, by rw [List.length_set], (ho.put (j := 1) rfl HS.out (by omega) _).qs, by rw [List.length_set]; omega, Lib.hid (ok4_set HO4.out (ok4_put HSO.out 1 hm5)), hG.setCell (p := ⟨g, k * 4 + 1, none⟩) hbg _⟩
  have d2 : (z == 2) = false := by simpa using z2
  clear z2
  by_cases z3 : z = 3
  ·have d3 : (z == 3) = true := by simpa using z3
   clear z3
   go_upto_region 19 with fail
   go_wp2
   go_meet
   exact ⟨_, _, _, by rw [List.length_set], (ho.put (j := 0) rfl HS.out (by omega) _).qs, by rw [List.length_set]; omega, Lib.hid (ok4_set HO4.out (ok4_put HSO.out 0 (in_wrap _))), hG.setCell (p := ⟨g, k * 4 + 0, none⟩) hbg _⟩
  have d3 : (z == 3) = false := by simpa using z3
  clear z3
  by_cases z4 : z = 4
  ·have d4 : (z == 4) = true := by simpa using z4
   clear z4
   go_upto_region 21 with fail
   refine wp_region_step (fun p w' => Below w10.heap.size w10 w' ∧ (p = 0 → OwnS w' w10.heap.size (.slice (some ⟨g, 0, none⟩) L0.length cl0) L0) ∧ (p = 1 → OwnS w' w10.heap.size (.slice (some ⟨g, 0, none⟩) L0.length cl0) (L0.set k (s.put 2 (IntKind.i64.wrap (s.c + 7))))) ∧ (2 ≤ p → OwnS w' w10.heap.size (.slice (some ⟨g, 0, none⟩) L0.length cl0) (L0.set k ((s.put 2 (IntKind.i64.wrap (s.c + 7))).put 3 (IntKind.i64.wrap (s.d + 7)))))) [14, 17] 18 154 (by kernel_rfl) (by kernel_rfl) rfl ?_ ?_ ?_
   ·exact fun p w1 w2 ⟨h0, h1, h2, h3⟩ hg => ⟨below_grows h0 (Nat.le_refl _) hg, fun h => (h1 h).grows hg, fun h => (h2 h).grows hg, fun h => (h3 h).grows hg⟩
   ·exact ⟨below_grows hG (Nat.le_refl _) (Grows.drew' _), fun _ => ho.grows (Grows.drew' _), fun h => by omega, fun h => by omega⟩
   simp only [List.take_succ_cons, List.take_zero, List.drop_succ_cons, List.drop_zero]
   refine st_plain rfl rfl (v := ?_) (a' := ?_) (fun w1 hw1 => ?_) ?_ ?_
   rotate_left 2
   ·obtain ⟨p, -⟩ := hw1
    go_simp
    exact calm_val
   ·simp only [Act.put, List.setIfInBounds_toArray, List.set_cons_succ, List.set_cons_zero]
    rfl
   refine st_plain rfl rfl (v := ?_) (a' := ?_) (fun w1 hw1 => ?_) ?_ ?_
   rotate_left 2
   ·obtain ⟨p, -⟩ := hw1
    go_simp
    exact calm_val
   ·simp only [Act.put, List.setIfInBounds_toArray, List.set_cons_succ, List.set_cons_zero]
    rfl
   refine st_plain rfl rfl (v := ?_) (a' := ?_) (fun w1 hw1 => ?_) ?_ ?_
   rotate_left 2
   ·obtain ⟨p, -⟩ := hw1
    go_simp
    exact calm_val
   ·simp only [Act.put, List.setIfInBounds_toArray, List.set_cons_succ, List.set_cons_zero]
    rfl
   refine st_plain rfl rfl (v := ?_) (a' := ?_) (fun w1 hw1 => ?_) ?_ ?_
   rotate_left 2
   ·obtain ⟨p, -⟩ := hw1
    go_simp
    exact calm_val
   ·simp only [Act.put, List.setIfInBounds_toArray, List.set_cons_succ, List.set_cons_zero]
    rfl
   refine st_plain rfl rfl (v := ?_) (a' := ?_) (fun w1 hw1 => ?_) ?_ ?_
   rotate_left 2
   ·obtain ⟨p, -⟩ := hw1
    go_simp
    exact calm_val
   ·simp only [Act.put, List.setIfInBounds_toArray, List.set_cons_succ, List.set_cons_zero]
    rfl
   refine st_upto (j := 0) (by kernel_rfl) rfl rfl (v := ?_) (a' := ?_) (fun w1 hw1 => ?_) ?_ ?_
   rotate_left 2
   ·obtain ⟨p, hp, -, h1, -, -⟩ := hw1
    have ho1 := h1 (by omega)
    obtain ⟨q0, q1, q2, q3⟩ := ho1.cells rfl HS.out
    go_simp
    exact calm_val
   ·simp only [Act.put, List.setIfInBounds_toArray, List.set_cons_succ, List.set_cons_zero]
    rfl
   refine st_plain rfl rfl (v := ?_) (a' := ?_) (fun w1 hw1 => ?_) ?_ ?_
   rotate_left 2
   ·obtain ⟨p, -⟩ := hw1
    go_simp
    exact calm_val
   ·simp only [Act.put, List.setIfInBounds_toArray, List.set_cons_succ, List.set_cons_zero]
    rfl
   refine st_plain rfl rfl (v := ?_) (a' := ?_) (fun w1 hw1 => ?_) ?_ ?_
   rotate_left 2
   ·obtain ⟨p, -⟩ := hw1
    go_simp
    exact calm_val
   ·simp only [Act.put, List.setIfInBounds_toArray, List.set_cons_succ, List.set_cons_zero]
    rfl
   refine st_plain rfl rfl (v := ?_) (a' := ?_) (fun w1 hw1 => ?_) ?_ ?_
   rotate_left 2
   ·obtain ⟨p, -⟩ := hw1
    go_simp
    exact calm_val
   ·simp only [Act.put, List.setIfInBounds_toArray, List.set_cons_succ, List.set_cons_zero]
    rfl
   refine st_plain rfl rfl (v := ?_) (a' := ?_) (fun w1 hw1 => ?_) ?_ ?_
   rotate_left 2
   ·obtain ⟨p, -⟩ := hw1
    go_simp
    exact calm_val
   ·simp only [Act.put, List.setIfInBounds_toArray, List.set_cons_succ, List.set_cons_zero]
    rfl
   refine st_upto (j := 0) (by kernel_rfl) rfl rfl (v := ?_) (a' := ?_) (fun w1 hw1 => ?_) ?_ ?_
   rotate_left 2
   ·obtain ⟨p, hp, -, h1, -, -⟩ := hw1
    have ho1 := h1 (by omega)
    obtain ⟨q0, q1, q2, q3⟩ := ho1.cells rfl HS.out
    go_simp
    exact calm_val
   ·simp only [Act.put, List.setIfInBounds_toArray, List.set_cons_succ, List.set_cons_zero]
    rfl
   refine st_plain rfl rfl (v := ?_) (a' := ?_) (fun w1 hw1 => ?_) ?_ ?_
   rotate_left 2
   ·obtain ⟨p, -⟩ := hw1
    go_simp
    exact calm_val
   ·simp only [Act.put, List.setIfInBounds_toArray, List.set_cons_succ, List.set_cons_zero]
    rfl
   refine st_plain rfl rfl (v := ?_) (a' := ?_) (fun w1 hw1 => ?_) ?_ ?_
   rotate_left 2
   ·obtain ⟨p, -⟩ := hw1
    go_simp
    exact calm_val
   ·simp only [Act.put, List.setIfInBounds_toArray, List.set_cons_succ, List.set_cons_zero]
    rfl
   refine st_plain rfl rfl (v := ?_) (a' := ?_) (fun w1 hw1 => ?_) ?_ ?_
   rotate_left 2
   ·obtain ⟨p, -⟩ := hw1
    go_simp
    exact calm_val
   ·simp only [Act.put, List.setIfInBounds_toArray, List.set_cons_succ, List.set_cons_zero]
    rfl
   refine st_step (j := 0) rfl rfl (v := undef) (a' := ?_) (fun w1 hw1 => ?_) ?_ ?_
   rotate_left 1
   ·obtain ⟨hb, h1, -, -⟩ := hw1
    have ho1 := h1 rfl
    have hf := ho1.frozen
    obtain ⟨q0, q1, q2, q3⟩ := ho1.cells rfl HS.out
    go_simp
    refine step_skip ?_
    exact ⟨hb.setCell (p := ⟨g, k * 4 + 2, none⟩) hbg _, ho1.put rfl HS.out (by omega) _⟩
   ·rfl
   refine st_plain rfl rfl (v := ?_) (a' := ?_) (fun w1 hw1 => ?_) ?_ ?_
   rotate_left 2
   ·obtain ⟨p, -⟩ := hw1
    go_simp
    exact calm_val
   ·simp only [Act.put, List.setIfInBounds_toArray, List.set_cons_succ, List.set_cons_zero]
    rfl
   refine st_plain rfl rfl (v := ?_) (a' := ?_) (fun w1 hw1 => ?_) ?_ ?_
   rotate_left 2
   ·obtain ⟨p, -⟩ := hw1
    go_simp
    exact calm_val
   ·simp only [Act.put, List.setIfInBounds_toArray, List.set_cons_succ, List.set_cons_zero]
    rfl
   refine st_step (j := 1) rfl rfl (v := undef) (a' := ?_) (fun w1 hw1 => ?_) ?_ ?_
   rotate_left 1
   ·obtain ⟨hb, -, h1, -⟩ := hw1
    have ho1 := h1 rfl
    have hf := ho1.frozen
    obtain ⟨q0, q1, q2, q3⟩ := ho1.cells (List.length_set).symm (get_set HS.out)
    go_simp
    refine step_skip ?_
    have ho2 := ho1.put (j := 3) (List.length_set).symm (get_set HS.out) (by omega) (IntKind.i64.wrap (s.d + 7))
    rw [List.set_set] at ho2
    exact ⟨hb.setCell (p := ⟨g, k * 4 + 3, none⟩) hbg _, ho2⟩
   ·rfl
   refine st_done ?_
   rintro w11 ⟨hb, -, -, h3⟩
   have ho2 := h3 (Nat.le_refl 2)
   go_wp2
   go_meet
   refine ⟨_, _, _, by rw [List.length_set], ho2.qs, by rw [List.length_set]; omega, Lib.hid (ok4_set HO4.out (ok4_put (ok4_put HSO.out 2 (in_wrapk _)) 3 (in_wrapk _))), hb⟩
  have d4 : (z == 4) = false := by simpa using z4
  clear z4
  by_cases z5 : z = 5
  ·have d5 : (z == 5) = true := by simpa using z5
   clear z5
   have h1c : 1 ≤ cl0 := by omega
   have h1l : 1 ≤ L0.length := by omega
   have hqd := qs_drop (ho.qs) h1l hclL
   by_cases c1 : cl0 = 1
   ·rw [if_pos c1] at hqd
    go_wp2
    go_meet
    exact ⟨_, _, L0.drop 1, by rw [List.length_drop], hqd, by rw [List.length_drop]; omega, Lib.hid (ok4_drop HO4.out), hG⟩
   ·have eA : Option.map (fun x : Addr => x.add (1 * 4)) (some ⟨g, 0, none⟩) = some ⟨g, 4, none⟩ := rfl
    rw [if_neg c1, eA] at hqd
    go_wp2
    go_meet
    exact ⟨_, _, L0.drop 1, by rw [List.length_drop], hqd, by rw [List.length_drop]; omega, Lib.hid (ok4_drop HO4.out), hG⟩
  have d5 : (z == 5) = false := by simpa using z5
  clear z5
  go_wp2
  go_meet
  exact ⟨_, _, _, rfl, ho.qs, by omega, HO4, hG⟩
 case rest =>
  clear hqy ho hG
  obtain ⟨A21, c21, L1, rfl, hq21, hl21, HO21, hG⟩ := hcut
  replace hB := below_grows hB (Nat.le_refl _) hG
  replace k8 := k8.grows hG
  replace hok := hok.grows hG
  replace hci := hci.grows hG
  replace hr20 := hr20.grows hG
  have hsW := hS.grows hB
  clear hG
  go_upto_region 24 with fail
  have kz := Blk.new wc 33 #[.slice B20 L0.length d20, .slice A21 L1.length c21, .slice A1 sl.length c1]
  have hq := (Below.refl wc.heap.size wc).alloc (Nat.le_refl _) (Obj.cells #[.slice B20 L0.length d20, .slice A21 L1.length c21, .slice A1 sl.length c1] 33)
  go_upto_region 25 with fail
  replace hB := below_grows hB (Nat.le_refl _) hq
  replace k8 := k8.grows hq
  replace hok := hok.grows hq
  replace hci := hci.grows hq
  replace hr20 := hr20.grows hq
  replace hsW := hsW.grows hq
  replace hq21 := hq21.grows hq
  clear hq
  generalize World.alloc wc _ = w13 at *
  generalize wc.heap.size = GZ at *
  go_loopw [125] (fun i wr => ∃ k : Nat, k ≤ 3 ∧ i = .int .i64 k ∧ Below w13.heap.size w13 wr) (fun i _ => 3 - (intOf i).toNat)
  case atStart => exact ⟨0, by omega, rfl, Below.refl _ _⟩
  case round =>
   obtain ⟨k, hk, rfl, hB13⟩ := hrel
   by_cases hlt : k < 3
   ·obtain ⟨A9, c9, L9, hc9, hq9, hl9, HO9⟩ : ∃ (A : Option Addr) (c : Nat) (L : List Q4), w13.cell? ⟨GZ, k, none⟩ = some (.slice A L.length c) ∧ Qs w13 A L ∧ L.length ≤ 9223372036854775807 ∧ Hid (∀ s ∈ L, OK4 s) := by
     match k, hlt with
     | 0, _ => exact ⟨B20, d20, L0, kz.cell 0, hr20, by omega, HO4⟩
     | 1, _ => exact ⟨A21, c21, L1, kz.cell 1, hq21, by omega, HO21⟩
     | 2, _ => exact ⟨A1, c1, sl, kz.cell 2, hsW, hsl, HSO1⟩
    have hc9b : wr.cell? ⟨GZ, k, none⟩ = some (.slice A9 L9.length c9) := (hB13.cell (p := ⟨GZ, k, none⟩) kz.lt).trans hc9
    have kr := k8.grows hB13
    have x8 := kr.cell
    go_upto_region 27 with fail
    obtain ⟨S, HI, HO⟩ := hideS fun (L : Ran) (vs : Nat → Value) (w' : World) => Grows wr w' ∧ KnS [some (.agg #[.slice A5 ns.length c5, .slice A6 ls.length c6]), some (.slice A7 cs.length c7), some (.int .i64 (wn : Int)), some (.slice A9 L9.length c9), some (.bool (validS ns ls cs (wn : Int) L9)), some (.agg #[.slice A5 ns.length c5, .slice A6 ls.length c6]), some (.slice A7 cs.length c7), some (.int .i64 (wn : Int)), some (.slice A9 L9.length c9), some (.bool (validS ns ls cs (wn : Int) L9)), some (.bool false), some (.bool false), some (.agg #[.slice A5 ns.length c5, .slice A6 ls.length c6]), some (.slice A7 cs.length c7), some (.int .i64 wi), some (.slice A9 L9.length c9), some (.bool (validS ns ls cs wi L9)), some (.agg #[.slice A5 ns.length c5, .slice A6 ls.length c6]), some (.slice A7 cs.length c7), some (.int .i64 wi), some (.slice A9 L9.length c9), some (.bool (validS ns ls cs wi L9)), some (.bool false), some (.bool false)] L vs
    refine wp_region_genW S 154 (by kernel_rfl) (by kernel_rfl) rfl ?_ ?_
    ·exact HI.out _ _ _ ⟨Grows.drew' _, kn_none _ _⟩
    refine gen_consR (fun vs L w1 hL hw1 => ?_) ?_
    ·obtain ⟨q0, q1⟩ := HO.out _ _ _ hw1
     refine gen_plain rfl ?_
     have x := (kr.grows q0).cell 
     go_simp
     exact gr_val (HI.out _ _ _ ⟨q0, kn_known q1 rfl⟩)
    refine gen_consR (fun vs L w1 hL hw1 => ?_) ?_
    ·obtain ⟨q0, q1⟩ := HO.out _ _ _ hw1
     refine gen_plain rfl ?_
     go_simp
     exact gr_val (HI.out _ _ _ ⟨q0, kn_known q1 rfl⟩)
    refine gen_consR (fun vs L w1 hL hw1 => ?_) ?_
    ·obtain ⟨q0, q1⟩ := HO.out _ _ _ hw1
     refine gen_plain rfl ?_
     go_simp
     exact gr_val (HI.out _ _ _ ⟨q0, kn_known q1 rfl⟩)
    refine gen_consR (fun vs L w1 hL hw1 => ?_) ?_
    ·obtain ⟨q0, q1⟩ := HO.out _ _ _ hw1
     refine gen_plain rfl ?_
     go_simp
     exact gr_val (HI.out _ _ _ ⟨q0, kn_known q1 rfl⟩)
    refine gen_consR (fun vs L w1 hL hw1 => ?_) ?_
    ·obtain ⟨q0, q1⟩ := HO.out _ _ _ hw1
     refine gen_plain rfl ?_
     have l0 : L 0 = true := hL.need 0 (by kernel_rfl)
     have e0 := q1 0 _ rfl l0
     have l1 : L 1 = true := hL.need 1 (by kernel_rfl)
     have e1 := q1 1 _ rfl l1
     have l2 : L 2 = true := hL.need 2 (by kernel_rfl)
     have e2 := q1 2 _ rfl l2
     have l3 : L 3 = true := hL.need 3 (by kernel_rfl)
     have e3 := q1 3 _ rfl l3
     simp only [e0, e1, e2, e3]
     go_simp
     refine gr_call ?_
     refine (pvalid25_any c5 c7 c9 (wn : Int) (hok.grows (below_grows hB13 (Nat.le_refl _) q0)) (hci.grows (below_grows hB13 (Nat.le_refl _) q0)) hlcs (hq9.grows (below_grows hB13 (Nat.le_refl _) q0)) hl9 HO9.out).mono ?_
     rintro e w2 ⟨rfl, hg⟩
     exact ⟨_, rfl, HI.out _ _ _ ⟨below_grows q0 (Nat.le_refl _) hg, kn_known q1 rfl⟩⟩
    refine gen_consR (fun vs L w1 hL hw1 => ?_) ?_
    ·obtain ⟨q0, q1⟩ := HO.out _ _ _ hw1
     refine gen_plain rfl ?_
     have x := (kr.grows q0).cell 
     go_simp
     exact gr_val (HI.out _ _ _ ⟨q0, kn_known q1 rfl⟩)
    refine gen_consR (fun vs L w1 hL hw1 => ?_) ?_
    ·obtain ⟨q0, q1⟩ := HO.out _ _ _ hw1
     refine gen_plain rfl ?_
     go_simp
     exact gr_val (HI.out _ _ _ ⟨q0, kn_known q1 rfl⟩)
    refine gen_consR (fun vs L w1 hL hw1 => ?_) ?_
    ·obtain ⟨q0, q1⟩ := HO.out _ _ _ hw1
     refine gen_plain rfl ?_
     go_simp
     exact gr_val (HI.out _ _ _ ⟨q0, kn_known q1 rfl⟩)
    refine gen_consR (fun vs L w1 hL hw1 => ?_) ?_
    ·obtain ⟨q0, q1⟩ := HO.out _ _ _ hw1
     refine gen_plain rfl ?_
     go_simp
     exact gr_val (HI.out _ _ _ ⟨q0, kn_known q1 rfl⟩)
    refine gen_consR (fun vs L w1 hL hw1 => ?_) ?_
    ·obtain ⟨q0, q1⟩ := HO.out _ _ _ hw1
     refine gen_plain rfl ?_
     have l5 : L 5 = true := hL.need 5 (by kernel_rfl)
     have e5 := q1 5 _ rfl l5
     have l6 : L 6 = true := hL.need 6 (by kernel_rfl)
     have e6 := q1 6 _ rfl l6
     have l7 : L 7 = true := hL.need 7 (by kernel_rfl)
     have e7 := q1 7 _ rfl l7
     have l8 : L 8 = true := hL.need 8 (by kernel_rfl)
     have e8 := q1 8 _ rfl l8
     simp only [e5, e6, e7, e8]
     go_simp
     refine gr_call ?_
     refine (rvalid25_any c5 c7 c9 (wn : Int) (hok.grows (below_grows hB13 (Nat.le_refl _) q0)) (hci.grows (below_grows hB13 (Nat.le_refl _) q0)) hlcs (hq9.grows (below_grows hB13 (Nat.le_refl _) q0)) hl9 HO9.out).mono ?_
     rintro e w2 ⟨rfl, hg⟩
     exact ⟨_, rfl, HI.out _ _ _ ⟨below_grows q0 (Nat.le_refl _) hg, kn_known q1 rfl⟩⟩
    refine gen_consR (fun vs L w1 hL hw1 => ?_) ?_
    ·obtain ⟨q0, q1⟩ := HO.out _ _ _ hw1
     refine gen_plain rfl ?_
     have l4 : L 4 = true := hL.need 4 (by kernel_rfl)
     have e4 := q1 4 _ rfl l4
     have l9 : L 9 = true := hL.need 9 (by kernel_rfl)
     have e9 := q1 9 _ rfl l9
     simp only [e4, e9]
     go_simp
     exact gr_val (HI.out _ _ _ ⟨q0, kn_known q1 rfl⟩)
    refine gen_consR (fun vs L w1 hL hw1 => ?_) ?_
    ·obtain ⟨q0, q1⟩ := HO.out _ _ _ hw1
     refine gen_plain rfl ?_
     have l10 : L 10 = true := hL.need 10 (by kernel_rfl)
     have e10 := q1 10 _ rfl l10
     simp only [e10]
     go_simp
     exact gr_val (HI.out _ _ _ ⟨q0, kn_known q1 rfl⟩)
    refine gen_consR (fun vs L w1 hL hw1 => ?_) ?_
    ·obtain ⟨q0, q1⟩ := HO.out _ _ _ hw1
     have l11 : L 11 = true := hL.need 11 (by kernel_rfl)
     have e11 := q1 11 _ rfl l11
     refine gen_yes ?_ ?_
     ·simp only [e11]
      rfl
     have x := (kr.grows q0).cell 
     go_simp
     exact gr_val (HI.out _ _ _ ⟨q0, kn_known q1 rfl⟩)
    refine gen_consR (fun vs L w1 hL hw1 => ?_) ?_
    ·obtain ⟨q0, q1⟩ := HO.out _ _ _ hw1
     have l11 : L 11 = true := hL.need 11 (by kernel_rfl)
     have e11 := q1 11 _ rfl l11
     refine gen_yes ?_ ?_
     ·simp only [e11]
      rfl
     go_simp
     exact gr_val (HI.out _ _ _ ⟨q0, kn_known q1 rfl⟩)
    refine gen_consR (fun vs L w1 hL hw1 => ?_) ?_
    ·obtain ⟨q0, q1⟩ := HO.out _ _ _ hw1
     have l11 : L 11 = true := hL.need 11 (by kernel_rfl)
     have e11 := q1 11 _ rfl l11
     refine gen_yes ?_ ?_
     ·simp only [e11]
      rfl
     go_simp
     exact gr_val (HI.out _ _ _ ⟨q0, kn_known q1 rfl⟩)
    refine gen_consR (fun vs L w1 hL hw1 => ?_) ?_
    ·obtain ⟨q0, q1⟩ := HO.out _ _ _ hw1
     have l11 : L 11 = true := hL.need 11 (by kernel_rfl)
     have e11 := q1 11 _ rfl l11
     refine gen_yes ?_ ?_
     ·simp only [e11]
      rfl
     go_simp
     exact gr_val (HI.out _ _ _ ⟨q0, kn_known q1 rfl⟩)
    refine gen_consR (fun vs L w1 hL hw1 => ?_) ?_
    ·obtain ⟨q0, q1⟩ := HO.out _ _ _ hw1
     have l11 : L 11 = true := hL.need 11 (by kernel_rfl)
     have e11 := q1 11 _ rfl l11
     refine gen_yes ?_ ?_
     ·simp only [e11]
      rfl
     have l12 : L 12 = true := hL.need 12 (by kernel_rfl)
     have e12 := q1 12 _ rfl l12
     have l13 : L 13 = true := hL.need 13 (by kernel_rfl)
     have e13 := q1 13 _ rfl l13
     have l14 : L 14 = true := hL.need 14 (by kernel_rfl)
     have e14 := q1 14 _ rfl l14
     have l15 : L 15 = true := hL.need 15 (by kernel_rfl)
     have e15 := q1 15 _ rfl l15
     simp only [e12, e13, e14, e15]
     go_simp
     refine gr_call ?_
     refine (pvalid25_any c5 c7 c9 wi (hok.grows (below_grows hB13 (Nat.le_refl _) q0)) (hci.grows (below_grows hB13 (Nat.le_refl _) q0)) hlcs (hq9.grows (below_grows hB13 (Nat.le_refl _) q0)) hl9 HO9.out).mono ?_
     rintro e w2 ⟨rfl, hg⟩
     exact ⟨_, rfl, HI.out _ _ _ ⟨below_grows q0 (Nat.le_refl _) hg, kn_known q1 rfl⟩⟩
    refine gen_consR (fun vs L w1 hL hw1 => ?_) ?_
    ·obtain ⟨q0, q1⟩ := HO.out _ _ _ hw1
     have l11 : L 11 = true := hL.need 11 (by kernel_rfl)
     have e11 := q1 11 _ rfl l11
     refine gen_yes ?_ ?_
     ·simp only [e11]
      rfl
     have x := (kr.grows q0).cell 
     go_simp
     exact gr_val (HI.out _ _ _ ⟨q0, kn_known q1 rfl⟩)
    refine gen_consR (fun vs L w1 hL hw1 => ?_) ?_
    ·obtain ⟨q0, q1⟩ := HO.out _ _ _ hw1
     have l11 : L 11 = true := hL.need 11 (by kernel_rfl)
     have e11 := q1 11 _ rfl l11
     refine gen_yes ?_ ?_
     ·simp only [e11]
      rfl
     go_simp
     exact gr_val (HI.out _ _ _ ⟨q0, kn_known q1 rfl⟩)
    refine gen_consR (fun vs L w1 hL hw1 => ?_) ?_
    ·obtain ⟨q0, q1⟩ := HO.out _ _ _ hw1
     have l11 : L 11 = true := hL.need 11 (by kernel_rfl)
     have e11 := q1 11 _ rfl l11
     refine gen_yes ?_ ?_
     ·simp only [e11]
      rfl
     go_simp
     exact gr_val (HI.out _ _ _ ⟨q0, kn_known q1 rfl⟩)
    refine gen_consR (fun vs L w1 hL hw1 => ?_) ?_
    ·obtain ⟨q0, q1⟩ := HO.out _ _ _ hw1
     have l11 : L 11 = true := hL.need 11 (by kernel_rfl)
     have e11 := q1 11 _ rfl l11
     refine gen_yes ?_ ?_
     ·simp only [e11]
      rfl
     go_simp
     exact gr_val (HI.out _ _ _ ⟨q0, kn_known q1 rfl⟩)
    refine gen_consR (fun vs L w1 hL hw1 => ?_) ?_
    ·obtain ⟨q0, q1⟩ := HO.out _ _ _ hw1
     have l11 : L 11 = true := hL.need 11 (by kernel_rfl)
     have e11 := q1 11 _ rfl l11
     refine gen_yes ?_ ?_
     ·simp only [e11]
      rfl
     have l17 : L 17 = true := hL.need 17 (by kernel_rfl)
     have e17 := q1 17 _ rfl l17
     have l18 : L 18 = true := hL.need 18 (by kernel_rfl)
     have e18 := q1 18 _ rfl l18
     have l19 : L 19 = true := hL.need 19 (by kernel_rfl)
     have e19 := q1 19 _ rfl l19
     have l20 : L 20 = true := hL.need 20 (by kernel_rfl)
     have e20 := q1 20 _ rfl l20
     simp only [e17, e18, e19, e20]
     go_simp
     refine gr_call ?_
     refine (rvalid25_any c5 c7 c9 wi (hok.grows (below_grows hB13 (Nat.le_refl _) q0)) (hci.grows (below_grows hB13 (Nat.le_refl _) q0)) hlcs (hq9.grows (below_grows hB13 (Nat.le_refl _) q0)) hl9 HO9.out).mono ?_
     rintro e w2 ⟨rfl, hg⟩
     exact ⟨_, rfl, HI.out _ _ _ ⟨below_grows q0 (Nat.le_refl _) hg, kn_known q1 rfl⟩⟩
    refine gen_consR (fun vs L w1 hL hw1 => ?_) ?_
    ·obtain ⟨q0, q1⟩ := HO.out _ _ _ hw1
     have l11 : L 11 = true := hL.need 11 (by kernel_rfl)
     have e11 := q1 11 _ rfl l11
     refine gen_yes ?_ ?_
     ·simp only [e11]
      rfl
     have l16 : L 16 = true := hL.need 16 (by kernel_rfl)
     have e16 := q1 16 _ rfl l16
     have l21 : L 21 = true := hL.need 21 (by kernel_rfl)
     have e21 := q1 21 _ rfl l21
     simp only [e16, e21]
     go_simp
     exact gr_val (HI.out _ _ _ ⟨q0, kn_known q1 rfl⟩)
    refine gen_consR (fun vs L w1 hL hw1 => ?_) ?_
    ·obtain ⟨q0, q1⟩ := HO.out _ _ _ hw1
     refine gen_plain rfl ?_
     have l11 : L 11 = true := hL.need 11 (by kernel_rfl)
     have e11 := q1 11 _ rfl l11
     have l22 : L 22 = true := hL.need 22 (by kernel_rfl)
     have e22 := q1 22 _ rfl l22
     simp only [e11, e22]
     go_simp
     exact gr_val (HI.out _ _ _ ⟨q0, kn_known q1 rfl⟩)
    refine gen_nil ?_
    intro vs L W6 hall hS
    obtain ⟨hq, q1⟩ := HO.out _ _ _ hS
    have eX23 := q1 23 _ rfl (hall 23 (by simp))
    clear hall hS HI HO q1
    simp only [eX23]
    replace hB13 := below_grows hB13 (Nat.le_refl _) hq
    go_wp2
    go_roundw
    case rel => exact ⟨k + 1, by omega, by go_num, hB13⟩
    case measure => simp [intOf]; omega
   ·go_wp2
    go_ret
    exact ⟨rfl, below_grows hB (Nat.le_refl _) hB13⟩
end ScheduleValid
namespace ScheduleValid
set_option maxRecDepth 100000 in
theorem contract (H : Type) (enc : TypeId × Value → H) (W : World) (base : Nat) (args : Array Value) (ds gs : List (DataW H)) (before : List MemPlace)
 (hval0 : ∀ (j : Nat) t v, Try.f6.params[j]? = some t → args[j]? = some v → Value.okWide Try.prog W .any base t v)
 (hW : DataW.Whole enc Try.prog Try.f6.params.toList Rows.scheduleValidSpec.vars false W args.toList ds gs before)
 (hsz0 : (DataW.weightsEach Try.prog (Try.f6.params.toList ++ Rows.scheduleValidSpec.plain.varTypes Try.prog) (ds ++ gs)).all (· ≤ reachBytes) = true) :
 Calls Try.prog 6 args W fun e W' => ∃ v, e = .returned v ∧ Rows.scheduleValidSpec.post enc Try.prog Try.f6 false true false false W args v W' := by
 have key : Calls Try.prog 6 args W fun e W' => e = .returned (.bool true) ∧ Below W.heap.size W W' := by
  have hval : ∀ (j : Nat) t v, Try.f6.params[j]? = some t → args[j]? = some v → Value.okWide Try.prog W .any base t v := hval0
  obtain ⟨p, q, hA0, hV, hbe, hfz, hnd⟩ := hW
  have hA : DataW.TrodAll enc Try.prog W 0 (fun _ => true) true Try.f6.params.toList args.toList ds p := hA0
  rw [Try.params6] at hA hval
  clear hA0 hval0
  obtain ⟨v0, vs0, d0, ds0, p0, q0, hargs, rfl, rfl, h0, r0⟩ := trodAll_cons hA
  obtain ⟨v1, vs1, d1, ds1, p1, q1, rfl, rfl, rfl, h1, r1⟩ := trodAll_cons r0
  obtain ⟨v2, vs2, d2, ds2, p2, q2, rfl, rfl, rfl, h2, r2⟩ := trodAll_cons r1
  obtain ⟨v3, vs3, d3, ds3, p3, q3, rfl, rfl, rfl, h3, r3⟩ := trodAll_cons r2
  obtain ⟨v4, vs4, d4, ds4, p4, q4, rfl, rfl, rfl, h4, r4⟩ := trodAll_cons r3
  obtain ⟨rfl, rfl, rfl⟩ := trodAll_nil r4
  obtain rfl : args = #[v0, v1, v2, v3, v4] := by cases args; simp_all
  obtain ⟨rfl, rfl⟩ := trodVars_none hV
  have hsz : (DataW.weightsEach Try.prog (Try.f6.params.toList ++ Rows.scheduleValidSpec.plain.varTypes Try.prog) ([d0, d1, d2, d3, d4] ++ [])).all (· ≤ reachBytes) = true := hsz0
  rw [Try.params6] at hsz
  clear hsz0
  obtain ⟨A0, c0, il0, rfl, hI0, hm0, hc0⟩ := open_slice_ints Try.underlying22 Try.underlying3 (by kernel_rfl) (hval 0 22 v0 rfl rfl) h0
  obtain ⟨A1, c1, sl, rfl, hS, hm1, -, hso⟩ := open_slots (hval 1 33 v1 rfl rfl) h1
  obtain ⟨a2, rfl, rfl, rfl, w2⟩ := open_int Try.underlying3 (hval 2 3 v2 rfl rfl) h2
  obtain ⟨a3, rfl, rfl, rfl, w3⟩ := open_int Try.underlying3 (hval 3 3 v3 rfl rfl) h3
  obtain ⟨a4, rfl, rfl, rfl, w4⟩ := open_int Try.underlying3 (hval 4 3 v4 rfl rfl) h4
  exact ScheduleValid.walk A0 A1 c0 c1 il0 sl a2 a3 a4 W hI0 (by unfold maxLen at hm0; omega) hS (by unfold maxLen at hm1; omega) hso
 refine key.mono fun e W' ⟨he, hb⟩ => ⟨_, he, law_post laid_out hW ?_ rfl (by kernel_rfl) Try.underlying4 ?_ hb⟩
 ·rw [Try.params6]
  intro t ht
  simp only [List.mem_cons, List.not_mem_nil, or_false] at ht
  rcases ht with rfl | rfl | rfl | rfl | rfl <;> exact ⟨by kernel_rfl, of_decide_eq_true (by kernel_rfl)⟩
 ·rw [Try.params6]
  intro ds hl
  match ds, hl with
  | [_, _, _, _, _], _ => rfl
set_option maxRecDepth 100000 in
theorem lifted (os : Os) (started : os.Started) (H : Type) (enc : TypeId × Value → H) :
 ReturnsInHanded {} Try.checked os 6 .any (Rows.scheduleValidSpec.pre6 enc Try.prog Try.f6 Rows.scheduleValidRow.domain false) (Rows.scheduleValidSpec.post enc Try.prog Try.f6 false true false false) := by
 refine returnsInHanded_of_change_sized (C := Try.checked) own_knob started (by kernel_rfl) Try.func6
  (ChangeSpec.witness6 (enc := enc) (C := Try.checked) false ⟨#[], #[.slice none 0 0, .slice none 0 0, .int .i64 0, .int .i64 0, .int .i64 0], []⟩ 8 (by kernel_rfl) (by kernel_rfl) (by kernel_rfl) (by kernel_rfl)) ?_
 intro W base args ds gs before hval0 hW _ hsz0 _
 exact contract H enc W base args ds gs before hval0 hW hsz0
theorem over : Rows.scheduleValidRow.holds Try.pinned (OpenSpec.ofChange Rows.scheduleValidSpec) :=
 OpenClaim.holds_of_wide 6 Try.f6 rfl rfl rfl rfl rfl rfl rfl ⟨rfl, rfl, rfl, rfl, rfl⟩ rfl rfl rfl rfl rfl (by kernel_rfl) Try.func6 (by kernel_rfl)
  (of_decide_eq_true (by kernel_rfl)) (by unfold Func.isWrapper; first | (rw [if_pos (by decide +kernel)]; kernel_rfl) | (rw [if_neg (by decide +kernel)]; exact ⟨rfl, rfl⟩))
  (fun os started H enc _ => lifted os started H enc)
/-- The given statement. -/
theorem proved : Rows.ScheduleValidSaid := over
end ScheduleValid
#print axioms ScheduleValid.proved
