/-
  LatencyGrows, for every input: the law returns true, and each argument reads behind the call as it read before. No condition.
-/
import Derived.Test.YtmokpiacioeohaaGrZ
import Derived.Test.YtmokpiacioeohaaLatB
import Derived.Test.YtmokpiacioeohaaOpen
import Derived.Test.YtmokpiacioeohaaSlice
import Derived.Test.YtmokpiacioeohaaSliceK
import Derived.Deep.DeepCutAuto
import Derived.Deep.CutBlock
namespace Go.Proofs.Ytmokpiacioeohaa
open Go.ChangeShapes Go.WideShapes Go.ChangeAt Go.RowKit
theorem open_j {H : Type} {enc : TypeId × Value → H} {w : World} {base : Nat} {spare : Nat → Bool} {held : Bool} {r : Reach} {b0 : Nat} {v : Value} {d : DataW H} {p : List MemPlace} (hv : Value.okWide Try.prog w r b0 27 v)
    (h : DataW.Trod enc Try.prog w base spare held 27 v d p) : ∃ m r d g p t l : Int, v = .agg #[.int .i64 m, .int .i64 r, .int .i64 d, .int .i64 g, .int .i64 p, .int .i64 t, .int .i64 l] := by
  obtain ⟨l, rfl, hl, _⟩ := open_ints_agg (k := .i64) (n := 7) (t := 27) (fs := Try.prog.fieldsOf 27) (by kernel_rfl) (by kernel_rfl) (by kernel_rfl) (by kernel_rfl) (by kernel_rfl) hv h
  match l, hl with
  | [a0, a1, a2, a3, a4, a5, a6], _ => exact ⟨a0, a1, a2, a3, a4, a5, a6, rfl⟩
/-- The place of a node, 0 if there is none. -/
theorem lplace_is (A A2 : Option Addr) (c c2 m : Nat) (ns : List Q4) (id : Int) (z : Nat) (w : World) (h : Qs w A ns) (hl : ns.length ≤ 9223372036854775807) (hz : placeN ns id = some z) :
    Calls Try.prog 19 #[.agg #[.slice A ns.length c, .slice A2 m c2], .int .i64 id] w fun e w' => e = .returned (.int .i64 (z : Int)) ∧ Grows w w' := by
  have HZ := Lib.hid hz
  clear hz
  have k1 := Blk.new w 40 #[.slice A ns.length c, .slice A2 m c2]
  have hB := (Below.refl w.heap.size w).alloc (Nat.le_refl _) (Obj.cells #[.slice A ns.length c, .slice A2 m c2] 40)
  go_enter Try.func19, Try.ntmps19
  go_upto_region 1 with fail
  generalize World.alloc w _ = w1 at *
  have x1 := k1.cell
  have h1 := h.grows hB
  go_wp2_with fail
  go_loop [9] (fun i => ∃ k : Nat, k ≤ ns.length ∧ i = .int .i64 k ∧ Hid (placeN (ns.take k) id = none)) (fun i => ns.length - (intOf i).toNat)
  case atStart => exact ⟨0, by omega, rfl, Lib.hid rfl⟩
  case round =>
    obtain ⟨k, hk, rfl, HF⟩ := hrel
    by_cases hlt : k < ns.length
    · obtain ⟨ad, x, e1, had, hx, q0, q1, q2, q3⟩ := h1.elem hlt
      subst e1
      have HX := Lib.hid hx
      clear hx
      by_cases he : x.a = id
      · have HE : Hid ((z : Int) = (k : Int)) := Lib.hid (by
          have := place_at HF.out HX.out he
          rw [HZ.out] at this
          injection this with this
          omega)
        subst he
        go_wp2
        go_ret
        exact ⟨ret_int HE.out.symm, hB⟩
      · have HF2 : Hid (placeN (ns.take (k + 1)) id = none) := Lib.hid (place_up HF.out HX.out he)
        have he2 : (x.a == id) = false := by simpa using he
        go_wp2
        go_round
        case rel => exact ⟨k + 1, by omega, by go_num, HF2⟩
        case measure => simp [intOf]; omega
    · exfalso
      have h9 := HF.out
      rw [List.take_of_length_le (by omega), HZ.out] at h9
      cases h9
theorem total_is (a b c d e T : Int) (w : World) (h : totalF a b c d e = T) : Calls Try.prog 13 #[.agg #[.int .i64 a, .int .i64 b, .int .i64 c, .int .i64 d, .int .i64 e]] w fun r w' => r = .returned (.int .i64 T) ∧ Grows w w' := by
  subst h
  exact total_any a b c d e w
theorem frames_bd {n a b : Int} (h0 : 0 ≤ n) (h1 : n ≤ 6000) (h2 : 1000 ≤ a) (h3 : a ≤ 200000) (h4 : 1000 ≤ b) (h5 : b ≤ 200000) : 0 ≤ framesF n a b ∧ framesF n a b ≤ 2000000000 ∧ framesF n a b = (n * b + a - 1) / a := by
  have hall : (manyB n && rateB a && rateB b) = true := by
    simp only [manyB, rateB, Bool.and_eq_true, decide_eq_true_eq]
    omega
  have e : framesF n a b = (n * b + a - 1) / a := by rw [framesF, if_pos hall]
  have hm : 0 ≤ n * b := Int.mul_nonneg h0 (by omega)
  have hm2 : n * b ≤ 6000 * 200000 := Int.mul_le_mul h1 h5 (by omega) (by omega)
  have d0 : 0 ≤ (n * b + a - 1) / a := Int.ediv_nonneg (by omega) (by omega)
  have d1 : (n * b + a - 1) / a ≤ n * b + a - 1 := Int.ediv_le_self _ (by omega)
  rw [e]
  omega
theorem frames_mono {n n' a b : Int} (h0 : 0 ≤ n) (hn : n ≤ n') (h1 : n' ≤ 6000) (h2 : 1000 ≤ a) (h3 : a ≤ 200000) (h4 : 1000 ≤ b) (h5 : b ≤ 200000) : framesF n a b ≤ framesF n' a b := by
  rw [(frames_bd h0 (by omega) h2 h3 h4 h5).2.2, (frames_bd (by omega) h1 h2 h3 h4 h5).2.2]
  refine Int.ediv_le_ediv (by omega) ?_
  have : n * b ≤ n' * b := Int.mul_le_mul_of_nonneg_right hn (by omega)
  omega
theorem okJ_of {m r d g p t l : Int} (hm : 1000 ≤ m ∧ m ≤ 200000) (hr : 1000 ≤ r ∧ r ≤ 200000) (hd : 1000 ≤ d ∧ d ≤ 200000) (hg : 0 ≤ g ∧ g ≤ 6000) (hp : 16 ≤ p ∧ p ≤ 6000) (ht : 0 ≤ t ∧ t ≤ 6000) (hl : 0 ≤ l ∧ l ≤ 6000) : okJ m r d g p t l = true := by
  simp only [okJ, rateB, manyB, Bool.and_eq_true, decide_eq_true_eq]
  omega
theorem total_of {a b c d e : Int} (ha : 0 ≤ a ∧ a ≤ 2000000000) (hb : 0 ≤ b ∧ b ≤ 2000000000) (hc : 0 ≤ c ∧ c ≤ 2000000000) (hd : 0 ≤ d ∧ d ≤ 2000000000) (he : 0 ≤ e ∧ e ≤ 2000000000) : totalF a b c d e = a + b + c + d + e := by
  unfold totalF
  rw [if_pos]
  simp only [manyB, Bool.and_eq_true, decide_eq_true_eq]
  omega
namespace LatencyGrows
theorem okW_of {ns : List Q4} {cs : List Int} (h : cs.length = ns.length) (hr : ∀ x ∈ cs, 0 ≤ x ∧ x < 12) : okW ns cs = true := by
  unfold okW
  have : cs.any badW = false := by
    rw [List.any_eq_false]
    intro x hx
    have := hr x hx
    simp only [badW, Bool.or_eq_true, decide_eq_true_eq]
    omega
  rw [this, h]
  simp
theorem long_pos {ns ls : List Q4} {cs : List Int} {x : Q4} (h : validG ns ls = true) (hw : okW ns cs = true) (hx : x ∈ ls) : ∃ v, longG ns ls cs x.a x.c = (v, 0) ∧ wOf ns cs x.a + wOf ns cs x.c ≤ v := by
  obtain ⟨⟨na, fa⟩, ⟨nc, fc⟩⟩ := ends_node (((okK_iff ns ls).1 (valid_parts.1 h).2.2.2.1).1 x hx)
  have pa : (placeN ns x.a).isSome = true := by rw [← (find_some fa).2]; exact place_in (find_some fa).1
  have pc : (placeN ns x.c).isSome = true := by rw [← (find_some fc).2]; exact place_in (find_some fc).1
  have ho : x.c ∈ orderL ns ls := by
    rw [← (find_some fc).2]
    exact (order_full ((okN_iff ns).1 (valid_parts.1 h).2.2.1).2).1 (valid_parts.1 h).2.2.2.2 _ (find_some fc).1
  obtain ⟨v, h1, h2⟩ := long_link (W := wOf ns cs) hx ho
  exact ⟨v, by rw [long_yes h hw pa pc, h1], h2⟩
set_option maxRecDepth 100000 in
set_option maxHeartbeats 20000000 in
theorem walk (m r d g p t l : Int) (A0 : Option Addr) (c0 : Nat) (il : List Int) (q : Int) (w : World) (hI0 : Ints w A0 il) (hil : il.length ≤ 9223372036854775807) (hq8 : 0 ≤ q ∧ q ≤ 255) :
    Calls Try.prog 6 #[.agg #[.int .i64 m, .int .i64 r, .int .i64 d, .int .i64 g, .int .i64 p, .int .i64 t, .int .i64 l], .slice A0 il.length c0, .int .u8 q] w fun e w' => e = .returned (.bool true) ∧ Below w.heap.size w w' := by
  go_enter Try.func6, Try.ntmps6
  go_wp2_with fail
  refine (sane_any _).mono ?_
  rintro e w1 ⟨rfl, hb⟩
  have k3 : Blk w1 w.heap.size 27 #[.int .i64 m, .int .i64 r, .int .i64 d, .int .i64 g, .int .i64 p, .int .i64 t, .int .i64 l] := Blk.grows (Blk.new _ _ _) hb
  have hb0 : Below w.heap.size w w1 := Below.trans ((Below.refl _ _).alloc (Nat.le_refl _) _) (hb.mono (by simp))
  clear hb
  go_upto_region 3 with fail
  refine wp_region_mix (fun w' => Below w.heap.size w w' ∧ Blk w' w.heap.size 27 #[.int .i64 m, .int .i64 r, .int .i64 d, .int .i64 g, .int .i64 p, .int .i64 t, .int .i64 l])
    [(26, fun v w' => ∃ b, v = .pointer (some ⟨b, 0, none⟩) ∧ w.heap.size < b ∧ Blk w' b 27 #[.int .i64 0, .int .i64 0, .int .i64 0, .int .i64 0, .int .i64 0, .int .i64 0, .int .i64 0])] 27 160 (by kernel_rfl) (by kernel_rfl) rfl ?_ ?_ ?_ ?_
  · exact fun w1 w2 ⟨h1, h2⟩ hg => ⟨below_grows h1 (Nat.le_refl _) hg, h2.grows hg⟩
  · exact float_one fun v w1 w2 ⟨b, h1, h2, h3⟩ hg => ⟨b, h1, h2, h3.grows hg⟩
  · exact ⟨hb0.drew, k3.drew⟩
  clear k3 hb0
  simp only [List.take_succ_cons, List.take_zero, List.drop_succ_cons, List.drop_zero]
  iterate 26
    refine calm_plain rfl rfl (v := ?_) (a' := ?_) (fun w1 hw1 => ?_) ?_ ?_
    rotate_left 2
    · obtain ⟨hb, hk1⟩ := hw1
      have c1 := hk1.cell
      go_simp
      first | exact calm_val | (refine calm_quiet ?_; refine mod_any _ _ _ ?_ ?_ <;> omega)
    · simp only [Act.put, List.setIfInBounds_toArray, List.set_cons_succ, List.set_cons_zero]
      rfl
  refine calm_float rfl rfl (fun w1 hw1 => ?_) ?_
  · have hlt := hw1.2.lt
    go_simp
    exact ⟨⟨w1.heap.size, rfl, hlt, Blk.new _ _ _⟩, (Below.refl _ _).alloc (Nat.le_refl _) _⟩
  refine calm_done (end_one rfl ?_)
  rintro v w2 ⟨hB, -⟩ ⟨b, rfl, hbb, k7⟩
  simp only [Act.put, List.setIfInBounds_toArray]
  have x7 := k7.cell
  have f7 := k7.frozen
  go_upto_region 4 with fail
  generalize hW : World.setCell (World.setCell (World.setCell (World.setCell (World.setCell (World.setCell (World.setCell w2 _ _) _ _) _ _) _ _) _ _) _ _) _ _ = w3
  have hB3 : Below w.heap.size w w3 := by
    rw [← hW]
    iterate 7 refine Below.setCell ?_ (Nat.le_of_lt hbb) _
    exact hB
  have y7 : Blk w3 b 27 #[.int .i64 (8000 + m % 100000), .int .i64 (1000 + r % 100000), .int .i64 (1000 + d % 100000), .int .i64 (g % 5000), .int .i64 (16 + p % 500), .int .i64 (t % 5000), .int .i64 (l % 5000)] := by rw [← hW]; exact ((((((k7.set_ 0 _).set_ 1 _).set_ 2 _).set_ 3 _).set_ 4 _).set_ 5 _).set_ 6 _
  clear hW x7 f7 k7 hB
  have hm1 : 1000 ≤ 8000 + m % 100000 ∧ 8000 + m % 100000 ≤ 200000 := by omega
  have hr1 : 1000 ≤ 1000 + r % 100000 ∧ 1000 + r % 100000 ≤ 200000 := by omega
  have hd1 : 1000 ≤ 1000 + d % 100000 ∧ 1000 + d % 100000 ≤ 200000 := by omega
  have hg1 : 0 ≤ g % 5000 ∧ g % 5000 ≤ 5000 := by omega
  have hp1 : 16 ≤ 16 + p % 500 ∧ 16 + p % 500 ≤ 600 := by omega
  have ht1 : 0 ≤ t % 5000 ∧ t % 5000 ≤ 5000 := by omega
  have hl1 : 0 ≤ l % 5000 ∧ l % 5000 ≤ 5000 := by omega
  generalize 8000 + m % 100000 = m1 at *
  generalize 1000 + r % 100000 = r1 at *
  generalize 1000 + d % 100000 = d1 at *
  generalize g % 5000 = g1 at *
  generalize 16 + p % 500 = p1 at *
  generalize t % 5000 = t1 at *
  generalize l % 5000 = l1 at *
  have x7 := y7.cell
  go_wp2_with fail
  refine (of_any_yes m1 r1 d1 g1 p1 t1 l1 _ (okJ_of hm1 hr1 hd1 (by omega) (by omega) (by omega) (by omega))).mono ?_
  rintro e w4 ⟨rfl, hq⟩
  replace hB3 := below_grows hB3 (Nat.le_refl _) hq
  replace y7 := y7.grows hq
  clear hq x7
  have v0 := frames_bd (n := g1) (a := r1) (b := m1) (by omega) (by omega) (by omega) (by omega) (by omega) (by omega)
  have v1 := frames_bd (n := 2) (a := r1) (b := m1) (by omega) (by omega) (by omega) (by omega) (by omega) (by omega)
  have v4 := frames_bd (n := l1) (a := d1) (b := m1) (by omega) (by omega) (by omega) (by omega) (by omega) (by omega)
  generalize ha0 : framesF g1 r1 m1 = a0 at *
  generalize ha1 : framesF 2 r1 m1 = a1 at *
  generalize ha4 : framesF l1 d1 m1 = a4 at *
  have HA0 := Lib.hid ha0
  have HA1 := Lib.hid ha1
  have HA4 := Lib.hid ha4
  obtain ⟨T1, hT1⟩ : ∃ T, totalF a0 a1 p1 t1 a4 = T := ⟨_, rfl⟩
  have HT1 := Lib.hid hT1
  rw [total_of (by omega) (by omega) (by omega) (by omega) (by omega)] at hT1
  have HS1 : Hid (T1 = a0 + a1 + p1 + t1 + a4) := Lib.hid hT1.symm
  have hT2 : p1 + t1 ≤ T1 ∧ T1 ≤ 10000000000 := by omega
  clear ha0 ha1 ha4 hT1 v0 v1 v4
  have k8 := Blk.new w4 29 #[.int .i64 a0, .int .i64 a1, .int .i64 p1, .int .i64 t1, .int .i64 a4]
  have hq := (Below.refl w4.heap.size w4).alloc (Nat.le_refl _) (Obj.cells #[.int .i64 a0, .int .i64 a1, .int .i64 p1, .int .i64 t1, .int .i64 a4] 29)
  go_upto_region 5 with fail
  have k7 := y7.grows hq
  have hB := below_grows hB3 (Nat.le_refl _) hq
  clear hq hB3 y7
  generalize World.alloc w4 _ = w5 at *
  generalize w4.heap.size = G8 at *
  have hw5 : IntKind.i64.wrap (p1 + t1) = p1 + t1 := IntWalk.i64_in _ (by omega)
  have hc5 : decide (T1 < p1 + t1) = false := by simp; omega
  obtain ⟨S, HI, HO⟩ : ∃ S : Ran → (Nat → Value) → World → Prop, Hid (∀ L vs w', (Grows w5 w' ∧ KnS [some (.int .i64 0), some (.bool false), some (.bool false), some (.agg #[.int .i64 a0, .int .i64 a1, .int .i64 p1, .int .i64 t1, .int .i64 a4]), some (.int .i64 T1), some (.pointer (some ⟨b, 4, none⟩)), some (.int .i64 p1), some (.pointer (some ⟨b, 5, none⟩)), some (.int .i64 t1), some (.int .i64 (p1 + t1)), some (.bool false), some (.bool false)] L vs) → S L vs w') ∧ Hid (∀ L vs w', S L vs w' → (Grows w5 w' ∧ KnS [some (.int .i64 0), some (.bool false), some (.bool false), some (.agg #[.int .i64 a0, .int .i64 a1, .int .i64 p1, .int .i64 t1, .int .i64 a4]), some (.int .i64 T1), some (.pointer (some ⟨b, 4, none⟩)), some (.int .i64 p1), some (.pointer (some ⟨b, 5, none⟩)), some (.int .i64 t1), some (.int .i64 (p1 + t1)), some (.bool false), some (.bool false)] L vs)) := ⟨fun L vs w' => Grows w5 w' ∧ KnS [some (.int .i64 0), some (.bool false), some (.bool false), some (.agg #[.int .i64 a0, .int .i64 a1, .int .i64 p1, .int .i64 t1, .int .i64 a4]), some (.int .i64 T1), some (.pointer (some ⟨b, 4, none⟩)), some (.int .i64 p1), some (.pointer (some ⟨b, 5, none⟩)), some (.int .i64 t1), some (.int .i64 (p1 + t1)), some (.bool false), some (.bool false)] L vs, fun _ _ _ h => h, fun _ _ _ h => h⟩
  refine wp_region_genW S 160 (by kernel_rfl) (by kernel_rfl) rfl ?_ ?_
  · exact HI.out _ _ _ ⟨Grows.drew' _, kn_none _ _⟩
  refine gen_cons (A' := ?_) (fun vs L w1 hL hw1 => ?_) ?_ ?_
  rotate_left 1
  · obtain ⟨q0, q1⟩ := HO.out _ _ _ hw1
    refine gen_plain rfl ?_
    go_simp
    exact gr_val (HI.out _ _ _ ⟨q0, kn_known q1 rfl⟩)
  · intro vs
    simp only [Act.put, List.setIfInBounds_toArray, List.set_cons_succ, List.set_cons_zero]
    rfl
  refine gen_cons (A' := ?_) (fun vs L w1 hL hw1 => ?_) ?_ ?_
  rotate_left 1
  · obtain ⟨q0, q1⟩ := HO.out _ _ _ hw1
    refine gen_plain rfl ?_
    have l0 : L 0 = true := hL.need 0 (by kernel_rfl)
    have e0 := q1 0 _ rfl l0
    simp only [e0]
    go_simp
    exact gr_val (HI.out _ _ _ ⟨q0, kn_known q1 rfl⟩)
  · intro vs
    simp only [Act.put, List.setIfInBounds_toArray, List.set_cons_succ, List.set_cons_zero]
    rfl
  refine gen_cons (A' := ?_) (fun vs L w1 hL hw1 => ?_) ?_ ?_
  rotate_left 1
  · obtain ⟨q0, q1⟩ := HO.out _ _ _ hw1
    refine gen_plain rfl ?_
    have l1 : L 1 = true := hL.need 1 (by kernel_rfl)
    have e1 := q1 1 _ rfl l1
    simp only [e1]
    go_simp
    exact gr_val (HI.out _ _ _ ⟨q0, kn_known q1 rfl⟩)
  · intro vs
    simp only [Act.put, List.setIfInBounds_toArray, List.set_cons_succ, List.set_cons_zero]
    rfl
  refine gen_cons (A' := ?_) (fun vs L w1 hL hw1 => ?_) ?_ ?_
  rotate_left 1
  · obtain ⟨q0, q1⟩ := HO.out _ _ _ hw1
    have l2 : L 2 = true := hL.need 2 (by kernel_rfl)
    have e2 := q1 2 _ rfl l2
    refine gen_yes ?_ ?_
    · simp only [e2]
      rfl
    have x := (k8.grows q0).cell 
    go_simp
    exact gr_val (HI.out _ _ _ ⟨q0, kn_known q1 rfl⟩)
  · intro vs
    simp only [Act.put, List.setIfInBounds_toArray, List.set_cons_succ, List.set_cons_zero]
    rfl
  refine gen_cons (A' := ?_) (fun vs L w1 hL hw1 => ?_) ?_ ?_
  rotate_left 1
  · obtain ⟨q0, q1⟩ := HO.out _ _ _ hw1
    have l2 : L 2 = true := hL.need 2 (by kernel_rfl)
    have e2 := q1 2 _ rfl l2
    refine gen_yes ?_ ?_
    · simp only [e2]
      rfl
    have l3 : L 3 = true := hL.need 3 (by kernel_rfl)
    have e3 := q1 3 _ rfl l3
    simp only [e3]
    go_simp
    refine gr_call ?_
    refine (total_is a0 a1 p1 t1 a4 T1 w1 HT1.out).mono ?_
    rintro e w2 ⟨rfl, hg⟩
    exact ⟨_, rfl, HI.out _ _ _ ⟨below_grows q0 (Nat.le_refl _) hg, kn_known q1 rfl⟩⟩
  · intro vs
    simp only [Act.put, List.setIfInBounds_toArray, List.set_cons_succ, List.set_cons_zero]
    rfl
  refine gen_cons (A' := ?_) (fun vs L w1 hL hw1 => ?_) ?_ ?_
  rotate_left 1
  · obtain ⟨q0, q1⟩ := HO.out _ _ _ hw1
    have l2 : L 2 = true := hL.need 2 (by kernel_rfl)
    have e2 := q1 2 _ rfl l2
    refine gen_yes ?_ ?_
    · simp only [e2]
      rfl
    go_simp
    exact gr_val (HI.out _ _ _ ⟨q0, kn_known q1 rfl⟩)
  · intro vs
    simp only [Act.put, List.setIfInBounds_toArray, List.set_cons_succ, List.set_cons_zero]
    rfl
  refine gen_cons (A' := ?_) (fun vs L w1 hL hw1 => ?_) ?_ ?_
  rotate_left 1
  · obtain ⟨q0, q1⟩ := HO.out _ _ _ hw1
    have l2 : L 2 = true := hL.need 2 (by kernel_rfl)
    have e2 := q1 2 _ rfl l2
    refine gen_yes ?_ ?_
    · simp only [e2]
      rfl
    have l5 : L 5 = true := hL.need 5 (by kernel_rfl)
    have e5 := q1 5 _ rfl l5
    have x := (k7.grows q0).cell 4
    simp only [e5]
    go_simp
    exact gr_val (HI.out _ _ _ ⟨q0, kn_known q1 rfl⟩)
  · intro vs
    simp only [Act.put, List.setIfInBounds_toArray, List.set_cons_succ, List.set_cons_zero]
    rfl
  refine gen_cons (A' := ?_) (fun vs L w1 hL hw1 => ?_) ?_ ?_
  rotate_left 1
  · obtain ⟨q0, q1⟩ := HO.out _ _ _ hw1
    have l2 : L 2 = true := hL.need 2 (by kernel_rfl)
    have e2 := q1 2 _ rfl l2
    refine gen_yes ?_ ?_
    · simp only [e2]
      rfl
    go_simp
    exact gr_val (HI.out _ _ _ ⟨q0, kn_known q1 rfl⟩)
  · intro vs
    simp only [Act.put, List.setIfInBounds_toArray, List.set_cons_succ, List.set_cons_zero]
    rfl
  refine gen_cons (A' := ?_) (fun vs L w1 hL hw1 => ?_) ?_ ?_
  rotate_left 1
  · obtain ⟨q0, q1⟩ := HO.out _ _ _ hw1
    have l2 : L 2 = true := hL.need 2 (by kernel_rfl)
    have e2 := q1 2 _ rfl l2
    refine gen_yes ?_ ?_
    · simp only [e2]
      rfl
    have l7 : L 7 = true := hL.need 7 (by kernel_rfl)
    have e7 := q1 7 _ rfl l7
    have x := (k7.grows q0).cell 5
    simp only [e7]
    go_simp
    exact gr_val (HI.out _ _ _ ⟨q0, kn_known q1 rfl⟩)
  · intro vs
    simp only [Act.put, List.setIfInBounds_toArray, List.set_cons_succ, List.set_cons_zero]
    rfl
  refine gen_cons (A' := ?_) (fun vs L w1 hL hw1 => ?_) ?_ ?_
  rotate_left 1
  · obtain ⟨q0, q1⟩ := HO.out _ _ _ hw1
    have l2 : L 2 = true := hL.need 2 (by kernel_rfl)
    have e2 := q1 2 _ rfl l2
    refine gen_yes ?_ ?_
    · simp only [e2]
      rfl
    have l6 : L 6 = true := hL.need 6 (by kernel_rfl)
    have e6 := q1 6 _ rfl l6
    have l8 : L 8 = true := hL.need 8 (by kernel_rfl)
    have e8 := q1 8 _ rfl l8
    simp only [e6, e8]
    go_simp
    exact gr_val (HI.out _ _ _ ⟨q0, kn_known q1 rfl⟩)
  · intro vs
    simp only [Act.put, List.setIfInBounds_toArray, List.set_cons_succ, List.set_cons_zero]
    rfl
  refine gen_cons (A' := ?_) (fun vs L w1 hL hw1 => ?_) ?_ ?_
  rotate_left 1
  · obtain ⟨q0, q1⟩ := HO.out _ _ _ hw1
    have l2 : L 2 = true := hL.need 2 (by kernel_rfl)
    have e2 := q1 2 _ rfl l2
    refine gen_yes ?_ ?_
    · simp only [e2]
      rfl
    have l4 : L 4 = true := hL.need 4 (by kernel_rfl)
    have e4 := q1 4 _ rfl l4
    have l9 : L 9 = true := hL.need 9 (by kernel_rfl)
    have e9 := q1 9 _ rfl l9
    simp only [e4, e9]
    go_simp
    exact gr_val (HI.out _ _ _ ⟨q0, kn_known q1 rfl⟩)
  · intro vs
    simp only [Act.put, List.setIfInBounds_toArray, List.set_cons_succ, List.set_cons_zero]
    rfl
  refine gen_cons (A' := ?_) (fun vs L w1 hL hw1 => ?_) ?_ ?_
  rotate_left 1
  · obtain ⟨q0, q1⟩ := HO.out _ _ _ hw1
    refine gen_plain rfl ?_
    have l2 : L 2 = true := hL.need 2 (by kernel_rfl)
    have e2 := q1 2 _ rfl l2
    have l10 : L 10 = true := hL.need 10 (by kernel_rfl)
    have e10 := q1 10 _ rfl l10
    simp only [e2, e10]
    go_simp
    exact gr_val (HI.out _ _ _ ⟨q0, kn_known q1 rfl⟩)
  · intro vs
    simp only [Act.put, List.setIfInBounds_toArray, List.set_cons_succ, List.set_cons_zero]
    rfl
  refine gen_nil ?_
  intro vs L W6 hall hS
  obtain ⟨hq, q1⟩ := HO.out _ _ _ hS
  have eX11 := q1 11 _ rfl (hall 11 (by simp))
  clear hall hS HI HO q1
  simp only [eX11]
  clear eX11 hw5 hc5
  replace hB := below_grows hB (Nat.le_refl _) hq
  replace k7 := k7.grows hq
  replace k8 := k8.grows hq
  clear hq
  simp only [Nat.zero_add, Nat.reduceAdd]
  generalize W6 = w6 at *
  have hq0 := hq8.1
  have hq1 := hq8.2
  clear hq8
  go_wp2_with fail
  go_loopw [10] (fun i wr => ∃ k : Nat, k ≤ 4 ∧ i = .int .i64 k ∧ Below w.heap.size w wr ∧ Blk wr b 27 #[.int .i64 m1, .int .i64 r1, .int .i64 d1, .int .i64 g1, .int .i64 p1, .int .i64 t1, .int .i64 l1] ∧ Blk wr G8 29 #[.int .i64 a0, .int .i64 a1, .int .i64 p1, .int .i64 t1, .int .i64 a4]) (fun i _ => 4 - (intOf i).toNat)
  case atStart => exact ⟨0, by omega, rfl, hB, k7, k8⟩
  case round =>
    clear hB k7 k8
    obtain ⟨k, hk, rfl, hB, k7, k8⟩ := hrel
    match k, hk with
    | 0, _ =>
      simp only [Int.cast_ofNat_Int]
      have k11 := Blk.new wr 27 #[.int .i64 m1, .int .i64 r1, .int .i64 d1, .int .i64 g1, .int .i64 p1, .int .i64 t1, .int .i64 l1]
      have hq := (Below.refl wr.heap.size wr).alloc (Nat.le_refl _) (Obj.cells #[.int .i64 m1, .int .i64 r1, .int .i64 d1, .int .i64 g1, .int .i64 p1, .int .i64 t1, .int .i64 l1] 27)
      have x7 := k7.cell
      go_upto_region 11 with fail
      clear x7
      have hlt11 := k8.lt
      have hlt7 := k7.lt
      have hge11 := hB.size
      replace hB := below_grows hB (Nat.le_refl _) hq
      replace k7 := k7.grows hq
      replace k8 := k8.grows hq
      clear hq
      generalize World.alloc wr _ = w6 at *
      generalize wr.heap.size = G11 at *
      have x11 := k11.cell
      have f11 := k11.frozen
      go_upto_region 19 with fail
      replace k11 := k11.set_ 3 (.int .i64 (g1 + q))
      replace hB := hB.setCell (p := ⟨G11, 3, none⟩) hge11 (.int .i64 (g1 + q))
      replace k7 := k7.far (p := ⟨G11, 3, none⟩) (by simp; omega) (.int .i64 (g1 + q))
      replace k8 := k8.far (p := ⟨G11, 3, none⟩) (by simp; omega) (.int .i64 (g1 + q))
      clear x11 f11
      generalize World.setCell w6 _ _ = w7 at *
      replace k11 : Blk w7 G11 27 #[.int .i64 m1, .int .i64 r1, .int .i64 d1, .int .i64 (g1 + q), .int .i64 p1, .int .i64 t1, .int .i64 l1] := by simpa using k11
      have x11 := k11.cell
      go_wp2_with fail
      refine (of_any_yes m1 r1 d1 (g1 + q) p1 t1 l1 _ (okJ_of (by omega) (by omega) (by omega) (by omega) (by omega) (by omega) (by omega))).mono ?_
      rintro e w8 ⟨rfl, hq⟩
      replace hB := below_grows hB (Nat.le_refl _) hq
      replace k7 := k7.grows hq
      replace k8 := k8.grows hq
      clear hq x11 k11
      generalize hb0 : framesF (g1 + q) r1 m1 = b0
      generalize hb1 : framesF 2 r1 m1 = b1
      generalize hb4 : framesF l1 d1 m1 = b4
      obtain ⟨T2, hT2⟩ : ∃ T, totalF b0 b1 p1 t1 b4 = T := ⟨_, rfl⟩
      have hle : T1 ≤ T2 := by
        have u0 := frames_mono (n := g1) (n' := (g1 + q)) (a := r1) (b := m1) (by omega) (by omega) (by omega) (by omega) (by omega) (by omega) (by omega)
        have u4 := frames_mono (n := l1) (n' := l1) (a := d1) (b := m1) (by omega) (by omega) (by omega) (by omega) (by omega) (by omega) (by omega)
        have v0 := frames_bd (n := (g1 + q)) (a := r1) (b := m1) (by omega) (by omega) (by omega) (by omega) (by omega) (by omega)
        have v1 := frames_bd (n := 2) (a := r1) (b := m1) (by omega) (by omega) (by omega) (by omega) (by omega) (by omega)
        have v4 := frames_bd (n := l1) (a := d1) (b := m1) (by omega) (by omega) (by omega) (by omega) (by omega) (by omega)
        have s1 := HS1.out
        rw [← HA0.out, ← HA1.out, ← HA4.out] at s1
        rw [hb0] at u0 v0
        rw [hb1] at v1 s1
        rw [hb4] at u4 v4
        rw [← hT2, total_of (by omega) (by omega) (by omega) (by omega) (by omega)]
        omega
      have HT2 := Lib.hid hT2
      clear hT2 hb0 hb1 hb4
      have k12 := Blk.new w8 29 #[.int .i64 b0, .int .i64 b1, .int .i64 p1, .int .i64 t1, .int .i64 b4]
      have hq := (Below.refl w8.heap.size w8).alloc (Nat.le_refl _) (Obj.cells #[.int .i64 b0, .int .i64 b1, .int .i64 p1, .int .i64 t1, .int .i64 b4] 29)
      go_upto_region 20 with fail
      replace hB := below_grows hB (Nat.le_refl _) hq
      replace k7 := k7.grows hq
      replace k8 := k8.grows hq
      clear hq
      generalize World.alloc w8 _ = w9 at *
      generalize w8.heap.size = G12 at *
      have hc20 : decide (T2 < T1) = false := by simp; omega
      obtain ⟨S, HI, HO⟩ : ∃ S : Ran → (Nat → Value) → World → Prop, Hid (∀ L vs w', (Grows w9 w' ∧ KnS [some (.int .i64 0), some (.bool false), some (.bool false), some (.agg #[.int .i64 b0, .int .i64 b1, .int .i64 p1, .int .i64 t1, .int .i64 b4]), some (.int .i64 T2), some (.agg #[.int .i64 a0, .int .i64 a1, .int .i64 p1, .int .i64 t1, .int .i64 a4]), some (.int .i64 T1), some (.bool false), some (.bool false)] L vs) → S L vs w') ∧ Hid (∀ L vs w', S L vs w' → (Grows w9 w' ∧ KnS [some (.int .i64 0), some (.bool false), some (.bool false), some (.agg #[.int .i64 b0, .int .i64 b1, .int .i64 p1, .int .i64 t1, .int .i64 b4]), some (.int .i64 T2), some (.agg #[.int .i64 a0, .int .i64 a1, .int .i64 p1, .int .i64 t1, .int .i64 a4]), some (.int .i64 T1), some (.bool false), some (.bool false)] L vs)) := ⟨fun L vs w' => Grows w9 w' ∧ KnS [some (.int .i64 0), some (.bool false), some (.bool false), some (.agg #[.int .i64 b0, .int .i64 b1, .int .i64 p1, .int .i64 t1, .int .i64 b4]), some (.int .i64 T2), some (.agg #[.int .i64 a0, .int .i64 a1, .int .i64 p1, .int .i64 t1, .int .i64 a4]), some (.int .i64 T1), some (.bool false), some (.bool false)] L vs, fun _ _ _ h => h, fun _ _ _ h => h⟩
      refine wp_region_genW S 160 (by kernel_rfl) (by kernel_rfl) rfl ?_ ?_
      · exact HI.out _ _ _ ⟨Grows.drew' _, kn_none _ _⟩
      refine gen_cons (A' := ?_) (fun vs L w1 hL hw1 => ?_) ?_ ?_
      rotate_left 1
      · obtain ⟨q0, q1⟩ := HO.out _ _ _ hw1
        refine gen_plain rfl ?_
        go_simp
        exact gr_val (HI.out _ _ _ ⟨q0, kn_known q1 rfl⟩)
      · intro vs
        simp only [Act.put, List.setIfInBounds_toArray, List.set_cons_succ, List.set_cons_zero]
        rfl
      refine gen_cons (A' := ?_) (fun vs L w1 hL hw1 => ?_) ?_ ?_
      rotate_left 1
      · obtain ⟨q0, q1⟩ := HO.out _ _ _ hw1
        refine gen_plain rfl ?_
        have l0 : L 0 = true := hL.need 0 (by kernel_rfl)
        have e0 := q1 0 _ rfl l0
        simp only [e0]
        go_simp
        exact gr_val (HI.out _ _ _ ⟨q0, kn_known q1 rfl⟩)
      · intro vs
        simp only [Act.put, List.setIfInBounds_toArray, List.set_cons_succ, List.set_cons_zero]
        rfl
      refine gen_cons (A' := ?_) (fun vs L w1 hL hw1 => ?_) ?_ ?_
      rotate_left 1
      · obtain ⟨q0, q1⟩ := HO.out _ _ _ hw1
        refine gen_plain rfl ?_
        have l1 : L 1 = true := hL.need 1 (by kernel_rfl)
        have e1 := q1 1 _ rfl l1
        simp only [e1]
        go_simp
        exact gr_val (HI.out _ _ _ ⟨q0, kn_known q1 rfl⟩)
      · intro vs
        simp only [Act.put, List.setIfInBounds_toArray, List.set_cons_succ, List.set_cons_zero]
        rfl
      refine gen_cons (A' := ?_) (fun vs L w1 hL hw1 => ?_) ?_ ?_
      rotate_left 1
      · obtain ⟨q0, q1⟩ := HO.out _ _ _ hw1
        have l2 : L 2 = true := hL.need 2 (by kernel_rfl)
        have e2 := q1 2 _ rfl l2
        refine gen_yes ?_ ?_
        · simp only [e2]
          rfl
        have x := (k12.grows q0).cell 
        go_simp
        exact gr_val (HI.out _ _ _ ⟨q0, kn_known q1 rfl⟩)
      · intro vs
        simp only [Act.put, List.setIfInBounds_toArray, List.set_cons_succ, List.set_cons_zero]
        rfl
      refine gen_cons (A' := ?_) (fun vs L w1 hL hw1 => ?_) ?_ ?_
      rotate_left 1
      · obtain ⟨q0, q1⟩ := HO.out _ _ _ hw1
        have l2 : L 2 = true := hL.need 2 (by kernel_rfl)
        have e2 := q1 2 _ rfl l2
        refine gen_yes ?_ ?_
        · simp only [e2]
          rfl
        have l3 : L 3 = true := hL.need 3 (by kernel_rfl)
        have e3 := q1 3 _ rfl l3
        simp only [e3]
        go_simp
        refine gr_call ?_
        refine (total_is b0 b1 p1 t1 b4 T2 w1 HT2.out).mono ?_
        rintro e w2 ⟨rfl, hg⟩
        exact ⟨_, rfl, HI.out _ _ _ ⟨below_grows q0 (Nat.le_refl _) hg, kn_known q1 rfl⟩⟩
      · intro vs
        simp only [Act.put, List.setIfInBounds_toArray, List.set_cons_succ, List.set_cons_zero]
        rfl
      refine gen_cons (A' := ?_) (fun vs L w1 hL hw1 => ?_) ?_ ?_
      rotate_left 1
      · obtain ⟨q0, q1⟩ := HO.out _ _ _ hw1
        have l2 : L 2 = true := hL.need 2 (by kernel_rfl)
        have e2 := q1 2 _ rfl l2
        refine gen_yes ?_ ?_
        · simp only [e2]
          rfl
        have x := (k8.grows q0).cell 
        go_simp
        exact gr_val (HI.out _ _ _ ⟨q0, kn_known q1 rfl⟩)
      · intro vs
        simp only [Act.put, List.setIfInBounds_toArray, List.set_cons_succ, List.set_cons_zero]
        rfl
      refine gen_cons (A' := ?_) (fun vs L w1 hL hw1 => ?_) ?_ ?_
      rotate_left 1
      · obtain ⟨q0, q1⟩ := HO.out _ _ _ hw1
        have l2 : L 2 = true := hL.need 2 (by kernel_rfl)
        have e2 := q1 2 _ rfl l2
        refine gen_yes ?_ ?_
        · simp only [e2]
          rfl
        have l5 : L 5 = true := hL.need 5 (by kernel_rfl)
        have e5 := q1 5 _ rfl l5
        simp only [e5]
        go_simp
        refine gr_call ?_
        refine (total_is a0 a1 p1 t1 a4 T1 w1 HT1.out).mono ?_
        rintro e w2 ⟨rfl, hg⟩
        exact ⟨_, rfl, HI.out _ _ _ ⟨below_grows q0 (Nat.le_refl _) hg, kn_known q1 rfl⟩⟩
      · intro vs
        simp only [Act.put, List.setIfInBounds_toArray, List.set_cons_succ, List.set_cons_zero]
        rfl
      refine gen_cons (A' := ?_) (fun vs L w1 hL hw1 => ?_) ?_ ?_
      rotate_left 1
      · obtain ⟨q0, q1⟩ := HO.out _ _ _ hw1
        have l2 : L 2 = true := hL.need 2 (by kernel_rfl)
        have e2 := q1 2 _ rfl l2
        refine gen_yes ?_ ?_
        · simp only [e2]
          rfl
        have l4 : L 4 = true := hL.need 4 (by kernel_rfl)
        have e4 := q1 4 _ rfl l4
        have l6 : L 6 = true := hL.need 6 (by kernel_rfl)
        have e6 := q1 6 _ rfl l6
        simp only [e4, e6]
        go_simp
        exact gr_val (HI.out _ _ _ ⟨q0, kn_known q1 rfl⟩)
      · intro vs
        simp only [Act.put, List.setIfInBounds_toArray, List.set_cons_succ, List.set_cons_zero]
        rfl
      refine gen_cons (A' := ?_) (fun vs L w1 hL hw1 => ?_) ?_ ?_
      rotate_left 1
      · obtain ⟨q0, q1⟩ := HO.out _ _ _ hw1
        refine gen_plain rfl ?_
        have l2 : L 2 = true := hL.need 2 (by kernel_rfl)
        have e2 := q1 2 _ rfl l2
        have l7 : L 7 = true := hL.need 7 (by kernel_rfl)
        have e7 := q1 7 _ rfl l7
        simp only [e2, e7]
        go_simp
        exact gr_val (HI.out _ _ _ ⟨q0, kn_known q1 rfl⟩)
      · intro vs
        simp only [Act.put, List.setIfInBounds_toArray, List.set_cons_succ, List.set_cons_zero]
        rfl
      refine gen_nil ?_
      intro vs L W6 hall hS
      obtain ⟨hq, q1⟩ := HO.out _ _ _ hS
      have eX8 := q1 8 _ rfl (hall 8 (by simp))
      clear hall hS HI HO q1
      simp only [eX8]
      clear eX8 hc20
      replace hB := below_grows hB (Nat.le_refl _) hq
      replace k7 := k7.grows hq
      replace k8 := k8.grows hq
      clear hq k12
      go_wp2
      go_roundw
      case rel => exact ⟨1, by omega, rfl, hB, k7, k8⟩
      case measure => simp [intOf]
    | 1, _ =>
      simp only [Int.cast_ofNat_Int]
      have k11 := Blk.new wr 27 #[.int .i64 m1, .int .i64 r1, .int .i64 d1, .int .i64 g1, .int .i64 p1, .int .i64 t1, .int .i64 l1]
      have hq := (Below.refl wr.heap.size wr).alloc (Nat.le_refl _) (Obj.cells #[.int .i64 m1, .int .i64 r1, .int .i64 d1, .int .i64 g1, .int .i64 p1, .int .i64 t1, .int .i64 l1] 27)
      have x7 := k7.cell
      go_upto_region 11 with fail
      clear x7
      have hlt11 := k8.lt
      have hlt7 := k7.lt
      have hge11 := hB.size
      replace hB := below_grows hB (Nat.le_refl _) hq
      replace k7 := k7.grows hq
      replace k8 := k8.grows hq
      clear hq
      generalize World.alloc wr _ = w6 at *
      generalize wr.heap.size = G11 at *
      have x11 := k11.cell
      have f11 := k11.frozen
      go_upto_region 19 with fail
      replace k11 := k11.set_ 5 (.int .i64 (t1 + q))
      replace hB := hB.setCell (p := ⟨G11, 5, none⟩) hge11 (.int .i64 (t1 + q))
      replace k7 := k7.far (p := ⟨G11, 5, none⟩) (by simp; omega) (.int .i64 (t1 + q))
      replace k8 := k8.far (p := ⟨G11, 5, none⟩) (by simp; omega) (.int .i64 (t1 + q))
      clear x11 f11
      generalize World.setCell w6 _ _ = w7 at *
      replace k11 : Blk w7 G11 27 #[.int .i64 m1, .int .i64 r1, .int .i64 d1, .int .i64 g1, .int .i64 p1, .int .i64 (t1 + q), .int .i64 l1] := by simpa using k11
      have x11 := k11.cell
      go_wp2_with fail
      refine (of_any_yes m1 r1 d1 g1 p1 (t1 + q) l1 _ (okJ_of (by omega) (by omega) (by omega) (by omega) (by omega) (by omega) (by omega))).mono ?_
      rintro e w8 ⟨rfl, hq⟩
      replace hB := below_grows hB (Nat.le_refl _) hq
      replace k7 := k7.grows hq
      replace k8 := k8.grows hq
      clear hq x11 k11
      generalize hb0 : framesF g1 r1 m1 = b0
      generalize hb1 : framesF 2 r1 m1 = b1
      generalize hb4 : framesF l1 d1 m1 = b4
      obtain ⟨T2, hT2⟩ : ∃ T, totalF b0 b1 p1 (t1 + q) b4 = T := ⟨_, rfl⟩
      have hle : T1 ≤ T2 := by
        have u0 := frames_mono (n := g1) (n' := g1) (a := r1) (b := m1) (by omega) (by omega) (by omega) (by omega) (by omega) (by omega) (by omega)
        have u4 := frames_mono (n := l1) (n' := l1) (a := d1) (b := m1) (by omega) (by omega) (by omega) (by omega) (by omega) (by omega) (by omega)
        have v0 := frames_bd (n := g1) (a := r1) (b := m1) (by omega) (by omega) (by omega) (by omega) (by omega) (by omega)
        have v1 := frames_bd (n := 2) (a := r1) (b := m1) (by omega) (by omega) (by omega) (by omega) (by omega) (by omega)
        have v4 := frames_bd (n := l1) (a := d1) (b := m1) (by omega) (by omega) (by omega) (by omega) (by omega) (by omega)
        have s1 := HS1.out
        rw [← HA0.out, ← HA1.out, ← HA4.out] at s1
        rw [hb0] at u0 v0
        rw [hb1] at v1 s1
        rw [hb4] at u4 v4
        rw [← hT2, total_of (by omega) (by omega) (by omega) (by omega) (by omega)]
        omega
      have HT2 := Lib.hid hT2
      clear hT2 hb0 hb1 hb4
      have k12 := Blk.new w8 29 #[.int .i64 b0, .int .i64 b1, .int .i64 p1, .int .i64 (t1 + q), .int .i64 b4]
      have hq := (Below.refl w8.heap.size w8).alloc (Nat.le_refl _) (Obj.cells #[.int .i64 b0, .int .i64 b1, .int .i64 p1, .int .i64 (t1 + q), .int .i64 b4] 29)
      go_upto_region 20 with fail
      replace hB := below_grows hB (Nat.le_refl _) hq
      replace k7 := k7.grows hq
      replace k8 := k8.grows hq
      clear hq
      generalize World.alloc w8 _ = w9 at *
      generalize w8.heap.size = G12 at *
      have hc20 : decide (T2 < T1) = false := by simp; omega
      obtain ⟨S, HI, HO⟩ : ∃ S : Ran → (Nat → Value) → World → Prop, Hid (∀ L vs w', (Grows w9 w' ∧ KnS [some (.int .i64 0), some (.bool false), some (.bool false), some (.agg #[.int .i64 b0, .int .i64 b1, .int .i64 p1, .int .i64 (t1 + q), .int .i64 b4]), some (.int .i64 T2), some (.agg #[.int .i64 a0, .int .i64 a1, .int .i64 p1, .int .i64 t1, .int .i64 a4]), some (.int .i64 T1), some (.bool false), some (.bool false)] L vs) → S L vs w') ∧ Hid (∀ L vs w', S L vs w' → (Grows w9 w' ∧ KnS [some (.int .i64 0), some (.bool false), some (.bool false), some (.agg #[.int .i64 b0, .int .i64 b1, .int .i64 p1, .int .i64 (t1 + q), .int .i64 b4]), some (.int .i64 T2), some (.agg #[.int .i64 a0, .int .i64 a1, .int .i64 p1, .int .i64 t1, .int .i64 a4]), some (.int .i64 T1), some (.bool false), some (.bool false)] L vs)) := ⟨fun L vs w' => Grows w9 w' ∧ KnS [some (.int .i64 0), some (.bool false), some (.bool false), some (.agg #[.int .i64 b0, .int .i64 b1, .int .i64 p1, .int .i64 (t1 + q), .int .i64 b4]), some (.int .i64 T2), some (.agg #[.int .i64 a0, .int .i64 a1, .int .i64 p1, .int .i64 t1, .int .i64 a4]), some (.int .i64 T1), some (.bool false), some (.bool false)] L vs, fun _ _ _ h => h, fun _ _ _ h => h⟩
      refine wp_region_genW S 160 (by kernel_rfl) (by kernel_rfl) rfl ?_ ?_
      · exact HI.out _ _ _ ⟨Grows.drew' _, kn_none _ _⟩
      refine gen_cons (A' := ?_) (fun vs L w1 hL hw1 => ?_) ?_ ?_
      rotate_left 1
      · obtain ⟨q0, q1⟩ := HO.out _ _ _ hw1
        refine gen_plain rfl ?_
        go_simp
        exact gr_val (HI.out _ _ _ ⟨q0, kn_known q1 rfl⟩)
      · intro vs
        simp only [Act.put, List.setIfInBounds_toArray, List.set_cons_succ, List.set_cons_zero]
        rfl
      refine gen_cons (A' := ?_) (fun vs L w1 hL hw1 => ?_) ?_ ?_
      rotate_left 1
      · obtain ⟨q0, q1⟩ := HO.out _ _ _ hw1
        refine gen_plain rfl ?_
        have l0 : L 0 = true := hL.need 0 (by kernel_rfl)
        have e0 := q1 0 _ rfl l0
        simp only [e0]
        go_simp
        exact gr_val (HI.out _ _ _ ⟨q0, kn_known q1 rfl⟩)
      · intro vs
        simp only [Act.put, List.setIfInBounds_toArray, List.set_cons_succ, List.set_cons_zero]
        rfl
      refine gen_cons (A' := ?_) (fun vs L w1 hL hw1 => ?_) ?_ ?_
      rotate_left 1
      · obtain ⟨q0, q1⟩ := HO.out _ _ _ hw1
        refine gen_plain rfl ?_
        have l1 : L 1 = true := hL.need 1 (by kernel_rfl)
        have e1 := q1 1 _ rfl l1
        simp only [e1]
        go_simp
        exact gr_val (HI.out _ _ _ ⟨q0, kn_known q1 rfl⟩)
      · intro vs
        simp only [Act.put, List.setIfInBounds_toArray, List.set_cons_succ, List.set_cons_zero]
        rfl
      refine gen_cons (A' := ?_) (fun vs L w1 hL hw1 => ?_) ?_ ?_
      rotate_left 1
      · obtain ⟨q0, q1⟩ := HO.out _ _ _ hw1
        have l2 : L 2 = true := hL.need 2 (by kernel_rfl)
        have e2 := q1 2 _ rfl l2
        refine gen_yes ?_ ?_
        · simp only [e2]
          rfl
        have x := (k12.grows q0).cell 
        go_simp
        exact gr_val (HI.out _ _ _ ⟨q0, kn_known q1 rfl⟩)
      · intro vs
        simp only [Act.put, List.setIfInBounds_toArray, List.set_cons_succ, List.set_cons_zero]
        rfl
      refine gen_cons (A' := ?_) (fun vs L w1 hL hw1 => ?_) ?_ ?_
      rotate_left 1
      · obtain ⟨q0, q1⟩ := HO.out _ _ _ hw1
        have l2 : L 2 = true := hL.need 2 (by kernel_rfl)
        have e2 := q1 2 _ rfl l2
        refine gen_yes ?_ ?_
        · simp only [e2]
          rfl
        have l3 : L 3 = true := hL.need 3 (by kernel_rfl)
        have e3 := q1 3 _ rfl l3
        simp only [e3]
        go_simp
        refine gr_call ?_
        refine (total_is b0 b1 p1 (t1 + q) b4 T2 w1 HT2.out).mono ?_
        rintro e w2 ⟨rfl, hg⟩
        exact ⟨_, rfl, HI.out _ _ _ ⟨below_grows q0 (Nat.le_refl _) hg, kn_known q1 rfl⟩⟩
      · intro vs
        simp only [Act.put, List.setIfInBounds_toArray, List.set_cons_succ, List.set_cons_zero]
        rfl
      refine gen_cons (A' := ?_) (fun vs L w1 hL hw1 => ?_) ?_ ?_
      rotate_left 1
      · obtain ⟨q0, q1⟩ := HO.out _ _ _ hw1
        have l2 : L 2 = true := hL.need 2 (by kernel_rfl)
        have e2 := q1 2 _ rfl l2
        refine gen_yes ?_ ?_
        · simp only [e2]
          rfl
        have x := (k8.grows q0).cell 
        go_simp
        exact gr_val (HI.out _ _ _ ⟨q0, kn_known q1 rfl⟩)
      · intro vs
        simp only [Act.put, List.setIfInBounds_toArray, List.set_cons_succ, List.set_cons_zero]
        rfl
      refine gen_cons (A' := ?_) (fun vs L w1 hL hw1 => ?_) ?_ ?_
      rotate_left 1
      · obtain ⟨q0, q1⟩ := HO.out _ _ _ hw1
        have l2 : L 2 = true := hL.need 2 (by kernel_rfl)
        have e2 := q1 2 _ rfl l2
        refine gen_yes ?_ ?_
        · simp only [e2]
          rfl
        have l5 : L 5 = true := hL.need 5 (by kernel_rfl)
        have e5 := q1 5 _ rfl l5
        simp only [e5]
        go_simp
        refine gr_call ?_
        refine (total_is a0 a1 p1 t1 a4 T1 w1 HT1.out).mono ?_
        rintro e w2 ⟨rfl, hg⟩
        exact ⟨_, rfl, HI.out _ _ _ ⟨below_grows q0 (Nat.le_refl _) hg, kn_known q1 rfl⟩⟩
      · intro vs
        simp only [Act.put, List.setIfInBounds_toArray, List.set_cons_succ, List.set_cons_zero]
        rfl
      refine gen_cons (A' := ?_) (fun vs L w1 hL hw1 => ?_) ?_ ?_
      rotate_left 1
      · obtain ⟨q0, q1⟩ := HO.out _ _ _ hw1
        have l2 : L 2 = true := hL.need 2 (by kernel_rfl)
        have e2 := q1 2 _ rfl l2
        refine gen_yes ?_ ?_
        · simp only [e2]
          rfl
        have l4 : L 4 = true := hL.need 4 (by kernel_rfl)
        have e4 := q1 4 _ rfl l4
        have l6 : L 6 = true := hL.need 6 (by kernel_rfl)
        have e6 := q1 6 _ rfl l6
        simp only [e4, e6]
        go_simp
        exact gr_val (HI.out _ _ _ ⟨q0, kn_known q1 rfl⟩)
      · intro vs
        simp only [Act.put, List.setIfInBounds_toArray, List.set_cons_succ, List.set_cons_zero]
        rfl
      refine gen_cons (A' := ?_) (fun vs L w1 hL hw1 => ?_) ?_ ?_
      rotate_left 1
      · obtain ⟨q0, q1⟩ := HO.out _ _ _ hw1
        refine gen_plain rfl ?_
        have l2 : L 2 = true := hL.need 2 (by kernel_rfl)
        have e2 := q1 2 _ rfl l2
        have l7 : L 7 = true := hL.need 7 (by kernel_rfl)
        have e7 := q1 7 _ rfl l7
        simp only [e2, e7]
        go_simp
        exact gr_val (HI.out _ _ _ ⟨q0, kn_known q1 rfl⟩)
      · intro vs
        simp only [Act.put, List.setIfInBounds_toArray, List.set_cons_succ, List.set_cons_zero]
        rfl
      refine gen_nil ?_
      intro vs L W6 hall hS
      obtain ⟨hq, q1⟩ := HO.out _ _ _ hS
      have eX8 := q1 8 _ rfl (hall 8 (by simp))
      clear hall hS HI HO q1
      simp only [eX8]
      clear eX8 hc20
      replace hB := below_grows hB (Nat.le_refl _) hq
      replace k7 := k7.grows hq
      replace k8 := k8.grows hq
      clear hq k12
      go_wp2
      go_roundw
      case rel => exact ⟨2, by omega, rfl, hB, k7, k8⟩
      case measure => simp [intOf]
    | 2, _ =>
      simp only [Int.cast_ofNat_Int]
      have k11 := Blk.new wr 27 #[.int .i64 m1, .int .i64 r1, .int .i64 d1, .int .i64 g1, .int .i64 p1, .int .i64 t1, .int .i64 l1]
      have hq := (Below.refl wr.heap.size wr).alloc (Nat.le_refl _) (Obj.cells #[.int .i64 m1, .int .i64 r1, .int .i64 d1, .int .i64 g1, .int .i64 p1, .int .i64 t1, .int .i64 l1] 27)
      have x7 := k7.cell
      go_upto_region 11 with fail
      clear x7
      have hlt11 := k8.lt
      have hlt7 := k7.lt
      have hge11 := hB.size
      replace hB := below_grows hB (Nat.le_refl _) hq
      replace k7 := k7.grows hq
      replace k8 := k8.grows hq
      clear hq
      generalize World.alloc wr _ = w6 at *
      generalize wr.heap.size = G11 at *
      have x11 := k11.cell
      have f11 := k11.frozen
      go_upto_region 19 with fail
      replace k11 := k11.set_ 6 (.int .i64 (l1 + q))
      replace hB := hB.setCell (p := ⟨G11, 6, none⟩) hge11 (.int .i64 (l1 + q))
      replace k7 := k7.far (p := ⟨G11, 6, none⟩) (by simp; omega) (.int .i64 (l1 + q))
      replace k8 := k8.far (p := ⟨G11, 6, none⟩) (by simp; omega) (.int .i64 (l1 + q))
      clear x11 f11
      generalize World.setCell w6 _ _ = w7 at *
      replace k11 : Blk w7 G11 27 #[.int .i64 m1, .int .i64 r1, .int .i64 d1, .int .i64 g1, .int .i64 p1, .int .i64 t1, .int .i64 (l1 + q)] := by simpa using k11
      have x11 := k11.cell
      go_wp2_with fail
      refine (of_any_yes m1 r1 d1 g1 p1 t1 (l1 + q) _ (okJ_of (by omega) (by omega) (by omega) (by omega) (by omega) (by omega) (by omega))).mono ?_
      rintro e w8 ⟨rfl, hq⟩
      replace hB := below_grows hB (Nat.le_refl _) hq
      replace k7 := k7.grows hq
      replace k8 := k8.grows hq
      clear hq x11 k11
      generalize hb0 : framesF g1 r1 m1 = b0
      generalize hb1 : framesF 2 r1 m1 = b1
      generalize hb4 : framesF (l1 + q) d1 m1 = b4
      obtain ⟨T2, hT2⟩ : ∃ T, totalF b0 b1 p1 t1 b4 = T := ⟨_, rfl⟩
      have hle : T1 ≤ T2 := by
        have u0 := frames_mono (n := g1) (n' := g1) (a := r1) (b := m1) (by omega) (by omega) (by omega) (by omega) (by omega) (by omega) (by omega)
        have u4 := frames_mono (n := l1) (n' := (l1 + q)) (a := d1) (b := m1) (by omega) (by omega) (by omega) (by omega) (by omega) (by omega) (by omega)
        have v0 := frames_bd (n := g1) (a := r1) (b := m1) (by omega) (by omega) (by omega) (by omega) (by omega) (by omega)
        have v1 := frames_bd (n := 2) (a := r1) (b := m1) (by omega) (by omega) (by omega) (by omega) (by omega) (by omega)
        have v4 := frames_bd (n := (l1 + q)) (a := d1) (b := m1) (by omega) (by omega) (by omega) (by omega) (by omega) (by omega)
        have s1 := HS1.out
        rw [← HA0.out, ← HA1.out, ← HA4.out] at s1
        rw [hb0] at u0 v0
        rw [hb1] at v1 s1
        rw [hb4] at u4 v4
        rw [← hT2, total_of (by omega) (by omega) (by omega) (by omega) (by omega)]
        omega
      have HT2 := Lib.hid hT2
      clear hT2 hb0 hb1 hb4
      have k12 := Blk.new w8 29 #[.int .i64 b0, .int .i64 b1, .int .i64 p1, .int .i64 t1, .int .i64 b4]
      have hq := (Below.refl w8.heap.size w8).alloc (Nat.le_refl _) (Obj.cells #[.int .i64 b0, .int .i64 b1, .int .i64 p1, .int .i64 t1, .int .i64 b4] 29)
      go_upto_region 20 with fail
      replace hB := below_grows hB (Nat.le_refl _) hq
      replace k7 := k7.grows hq
      replace k8 := k8.grows hq
      clear hq
      generalize World.alloc w8 _ = w9 at *
      generalize w8.heap.size = G12 at *
      have hc20 : decide (T2 < T1) = false := by simp; omega
      obtain ⟨S, HI, HO⟩ : ∃ S : Ran → (Nat → Value) → World → Prop, Hid (∀ L vs w', (Grows w9 w' ∧ KnS [some (.int .i64 0), some (.bool false), some (.bool false), some (.agg #[.int .i64 b0, .int .i64 b1, .int .i64 p1, .int .i64 t1, .int .i64 b4]), some (.int .i64 T2), some (.agg #[.int .i64 a0, .int .i64 a1, .int .i64 p1, .int .i64 t1, .int .i64 a4]), some (.int .i64 T1), some (.bool false), some (.bool false)] L vs) → S L vs w') ∧ Hid (∀ L vs w', S L vs w' → (Grows w9 w' ∧ KnS [some (.int .i64 0), some (.bool false), some (.bool false), some (.agg #[.int .i64 b0, .int .i64 b1, .int .i64 p1, .int .i64 t1, .int .i64 b4]), some (.int .i64 T2), some (.agg #[.int .i64 a0, .int .i64 a1, .int .i64 p1, .int .i64 t1, .int .i64 a4]), some (.int .i64 T1), some (.bool false), some (.bool false)] L vs)) := ⟨fun L vs w' => Grows w9 w' ∧ KnS [some (.int .i64 0), some (.bool false), some (.bool false), some (.agg #[.int .i64 b0, .int .i64 b1, .int .i64 p1, .int .i64 t1, .int .i64 b4]), some (.int .i64 T2), some (.agg #[.int .i64 a0, .int .i64 a1, .int .i64 p1, .int .i64 t1, .int .i64 a4]), some (.int .i64 T1), some (.bool false), some (.bool false)] L vs, fun _ _ _ h => h, fun _ _ _ h => h⟩
      refine wp_region_genW S 160 (by kernel_rfl) (by kernel_rfl) rfl ?_ ?_
      · exact HI.out _ _ _ ⟨Grows.drew' _, kn_none _ _⟩
      refine gen_cons (A' := ?_) (fun vs L w1 hL hw1 => ?_) ?_ ?_
      rotate_left 1
      · obtain ⟨q0, q1⟩ := HO.out _ _ _ hw1
        refine gen_plain rfl ?_
        go_simp
        exact gr_val (HI.out _ _ _ ⟨q0, kn_known q1 rfl⟩)
      · intro vs
        simp only [Act.put, List.setIfInBounds_toArray, List.set_cons_succ, List.set_cons_zero]
        rfl
      refine gen_cons (A' := ?_) (fun vs L w1 hL hw1 => ?_) ?_ ?_
      rotate_left 1
      · obtain ⟨q0, q1⟩ := HO.out _ _ _ hw1
        refine gen_plain rfl ?_
        have l0 : L 0 = true := hL.need 0 (by kernel_rfl)
        have e0 := q1 0 _ rfl l0
        simp only [e0]
        go_simp
        exact gr_val (HI.out _ _ _ ⟨q0, kn_known q1 rfl⟩)
      · intro vs
        simp only [Act.put, List.setIfInBounds_toArray, List.set_cons_succ, List.set_cons_zero]
        rfl
      refine gen_cons (A' := ?_) (fun vs L w1 hL hw1 => ?_) ?_ ?_
      rotate_left 1
      · obtain ⟨q0, q1⟩ := HO.out _ _ _ hw1
        refine gen_plain rfl ?_
        have l1 : L 1 = true := hL.need 1 (by kernel_rfl)
        have e1 := q1 1 _ rfl l1
        simp only [e1]
        go_simp
        exact gr_val (HI.out _ _ _ ⟨q0, kn_known q1 rfl⟩)
      · intro vs
        simp only [Act.put, List.setIfInBounds_toArray, List.set_cons_succ, List.set_cons_zero]
        rfl
      refine gen_cons (A' := ?_) (fun vs L w1 hL hw1 => ?_) ?_ ?_
      rotate_left 1
      · obtain ⟨q0, q1⟩ := HO.out _ _ _ hw1
        have l2 : L 2 = true := hL.need 2 (by kernel_rfl)
        have e2 := q1 2 _ rfl l2
        refine gen_yes ?_ ?_
        · simp only [e2]
          rfl
        have x := (k12.grows q0).cell 
        go_simp
        exact gr_val (HI.out _ _ _ ⟨q0, kn_known q1 rfl⟩)
      · intro vs
        simp only [Act.put, List.setIfInBounds_toArray, List.set_cons_succ, List.set_cons_zero]
        rfl
      refine gen_cons (A' := ?_) (fun vs L w1 hL hw1 => ?_) ?_ ?_
      rotate_left 1
      · obtain ⟨q0, q1⟩ := HO.out _ _ _ hw1
        have l2 : L 2 = true := hL.need 2 (by kernel_rfl)
        have e2 := q1 2 _ rfl l2
        refine gen_yes ?_ ?_
        · simp only [e2]
          rfl
        have l3 : L 3 = true := hL.need 3 (by kernel_rfl)
        have e3 := q1 3 _ rfl l3
        simp only [e3]
        go_simp
        refine gr_call ?_
        refine (total_is b0 b1 p1 t1 b4 T2 w1 HT2.out).mono ?_
        rintro e w2 ⟨rfl, hg⟩
        exact ⟨_, rfl, HI.out _ _ _ ⟨below_grows q0 (Nat.le_refl _) hg, kn_known q1 rfl⟩⟩
      · intro vs
        simp only [Act.put, List.setIfInBounds_toArray, List.set_cons_succ, List.set_cons_zero]
        rfl
      refine gen_cons (A' := ?_) (fun vs L w1 hL hw1 => ?_) ?_ ?_
      rotate_left 1
      · obtain ⟨q0, q1⟩ := HO.out _ _ _ hw1
        have l2 : L 2 = true := hL.need 2 (by kernel_rfl)
        have e2 := q1 2 _ rfl l2
        refine gen_yes ?_ ?_
        · simp only [e2]
          rfl
        have x := (k8.grows q0).cell 
        go_simp
        exact gr_val (HI.out _ _ _ ⟨q0, kn_known q1 rfl⟩)
      · intro vs
        simp only [Act.put, List.setIfInBounds_toArray, List.set_cons_succ, List.set_cons_zero]
        rfl
      refine gen_cons (A' := ?_) (fun vs L w1 hL hw1 => ?_) ?_ ?_
      rotate_left 1
      · obtain ⟨q0, q1⟩ := HO.out _ _ _ hw1
        have l2 : L 2 = true := hL.need 2 (by kernel_rfl)
        have e2 := q1 2 _ rfl l2
        refine gen_yes ?_ ?_
        · simp only [e2]
          rfl
        have l5 : L 5 = true := hL.need 5 (by kernel_rfl)
        have e5 := q1 5 _ rfl l5
        simp only [e5]
        go_simp
        refine gr_call ?_
        refine (total_is a0 a1 p1 t1 a4 T1 w1 HT1.out).mono ?_
        rintro e w2 ⟨rfl, hg⟩
        exact ⟨_, rfl, HI.out _ _ _ ⟨below_grows q0 (Nat.le_refl _) hg, kn_known q1 rfl⟩⟩
      · intro vs
        simp only [Act.put, List.setIfInBounds_toArray, List.set_cons_succ, List.set_cons_zero]
        rfl
      refine gen_cons (A' := ?_) (fun vs L w1 hL hw1 => ?_) ?_ ?_
      rotate_left 1
      · obtain ⟨q0, q1⟩ := HO.out _ _ _ hw1
        have l2 : L 2 = true := hL.need 2 (by kernel_rfl)
        have e2 := q1 2 _ rfl l2
        refine gen_yes ?_ ?_
        · simp only [e2]
          rfl
        have l4 : L 4 = true := hL.need 4 (by kernel_rfl)
        have e4 := q1 4 _ rfl l4
        have l6 : L 6 = true := hL.need 6 (by kernel_rfl)
        have e6 := q1 6 _ rfl l6
        simp only [e4, e6]
        go_simp
        exact gr_val (HI.out _ _ _ ⟨q0, kn_known q1 rfl⟩)
      · intro vs
        simp only [Act.put, List.setIfInBounds_toArray, List.set_cons_succ, List.set_cons_zero]
        rfl
      refine gen_cons (A' := ?_) (fun vs L w1 hL hw1 => ?_) ?_ ?_
      rotate_left 1
      · obtain ⟨q0, q1⟩ := HO.out _ _ _ hw1
        refine gen_plain rfl ?_
        have l2 : L 2 = true := hL.need 2 (by kernel_rfl)
        have e2 := q1 2 _ rfl l2
        have l7 : L 7 = true := hL.need 7 (by kernel_rfl)
        have e7 := q1 7 _ rfl l7
        simp only [e2, e7]
        go_simp
        exact gr_val (HI.out _ _ _ ⟨q0, kn_known q1 rfl⟩)
      · intro vs
        simp only [Act.put, List.setIfInBounds_toArray, List.set_cons_succ, List.set_cons_zero]
        rfl
      refine gen_nil ?_
      intro vs L W6 hall hS
      obtain ⟨hq, q1⟩ := HO.out _ _ _ hS
      have eX8 := q1 8 _ rfl (hall 8 (by simp))
      clear hall hS HI HO q1
      simp only [eX8]
      clear eX8 hc20
      replace hB := below_grows hB (Nat.le_refl _) hq
      replace k7 := k7.grows hq
      replace k8 := k8.grows hq
      clear hq k12
      go_wp2
      go_roundw
      case rel => exact ⟨3, by omega, rfl, hB, k7, k8⟩
      case measure => simp [intOf]
    | 3, _ =>
      simp only [Int.cast_ofNat_Int]
      have k11 := Blk.new wr 27 #[.int .i64 m1, .int .i64 r1, .int .i64 d1, .int .i64 g1, .int .i64 p1, .int .i64 t1, .int .i64 l1]
      have hq := (Below.refl wr.heap.size wr).alloc (Nat.le_refl _) (Obj.cells #[.int .i64 m1, .int .i64 r1, .int .i64 d1, .int .i64 g1, .int .i64 p1, .int .i64 t1, .int .i64 l1] 27)
      have x7 := k7.cell
      go_upto_region 11 with fail
      clear x7
      have hlt11 := k8.lt
      have hlt7 := k7.lt
      have hge11 := hB.size
      replace hB := below_grows hB (Nat.le_refl _) hq
      replace k7 := k7.grows hq
      replace k8 := k8.grows hq
      clear hq
      generalize World.alloc wr _ = w6 at *
      generalize wr.heap.size = G11 at *
      have x11 := k11.cell
      have f11 := k11.frozen
      go_upto_region 19 with fail
      replace k11 := k11.set_ 4 (.int .i64 (p1 + q))
      replace hB := hB.setCell (p := ⟨G11, 4, none⟩) hge11 (.int .i64 (p1 + q))
      replace k7 := k7.far (p := ⟨G11, 4, none⟩) (by simp; omega) (.int .i64 (p1 + q))
      replace k8 := k8.far (p := ⟨G11, 4, none⟩) (by simp; omega) (.int .i64 (p1 + q))
      clear x11 f11
      generalize World.setCell w6 _ _ = w7 at *
      replace k11 : Blk w7 G11 27 #[.int .i64 m1, .int .i64 r1, .int .i64 d1, .int .i64 g1, .int .i64 (p1 + q), .int .i64 t1, .int .i64 l1] := by simpa using k11
      have x11 := k11.cell
      go_wp2_with fail
      refine (of_any_yes m1 r1 d1 g1 (p1 + q) t1 l1 _ (okJ_of (by omega) (by omega) (by omega) (by omega) (by omega) (by omega) (by omega))).mono ?_
      rintro e w8 ⟨rfl, hq⟩
      replace hB := below_grows hB (Nat.le_refl _) hq
      replace k7 := k7.grows hq
      replace k8 := k8.grows hq
      clear hq x11 k11
      generalize hb0 : framesF g1 r1 m1 = b0
      generalize hb1 : framesF 2 r1 m1 = b1
      generalize hb4 : framesF l1 d1 m1 = b4
      obtain ⟨T2, hT2⟩ : ∃ T, totalF b0 b1 (p1 + q) t1 b4 = T := ⟨_, rfl⟩
      have hle : T1 ≤ T2 := by
        have u0 := frames_mono (n := g1) (n' := g1) (a := r1) (b := m1) (by omega) (by omega) (by omega) (by omega) (by omega) (by omega) (by omega)
        have u4 := frames_mono (n := l1) (n' := l1) (a := d1) (b := m1) (by omega) (by omega) (by omega) (by omega) (by omega) (by omega) (by omega)
        have v0 := frames_bd (n := g1) (a := r1) (b := m1) (by omega) (by omega) (by omega) (by omega) (by omega) (by omega)
        have v1 := frames_bd (n := 2) (a := r1) (b := m1) (by omega) (by omega) (by omega) (by omega) (by omega) (by omega)
        have v4 := frames_bd (n := l1) (a := d1) (b := m1) (by omega) (by omega) (by omega) (by omega) (by omega) (by omega)
        have s1 := HS1.out
        rw [← HA0.out, ← HA1.out, ← HA4.out] at s1
        rw [hb0] at u0 v0
        rw [hb1] at v1 s1
        rw [hb4] at u4 v4
        rw [← hT2, total_of (by omega) (by omega) (by omega) (by omega) (by omega)]
        omega
      have HT2 := Lib.hid hT2
      clear hT2 hb0 hb1 hb4
      have k12 := Blk.new w8 29 #[.int .i64 b0, .int .i64 b1, .int .i64 (p1 + q), .int .i64 t1, .int .i64 b4]
      have hq := (Below.refl w8.heap.size w8).alloc (Nat.le_refl _) (Obj.cells #[.int .i64 b0, .int .i64 b1, .int .i64 (p1 + q), .int .i64 t1, .int .i64 b4] 29)
      go_upto_region 20 with fail
      replace hB := below_grows hB (Nat.le_refl _) hq
      replace k7 := k7.grows hq
      replace k8 := k8.grows hq
      clear hq
      generalize World.alloc w8 _ = w9 at *
      generalize w8.heap.size = G12 at *
      have hc20 : decide (T2 < T1) = false := by simp; omega
      obtain ⟨S, HI, HO⟩ : ∃ S : Ran → (Nat → Value) → World → Prop, Hid (∀ L vs w', (Grows w9 w' ∧ KnS [some (.int .i64 0), some (.bool false), some (.bool false), some (.agg #[.int .i64 b0, .int .i64 b1, .int .i64 (p1 + q), .int .i64 t1, .int .i64 b4]), some (.int .i64 T2), some (.agg #[.int .i64 a0, .int .i64 a1, .int .i64 p1, .int .i64 t1, .int .i64 a4]), some (.int .i64 T1), some (.bool false), some (.bool false)] L vs) → S L vs w') ∧ Hid (∀ L vs w', S L vs w' → (Grows w9 w' ∧ KnS [some (.int .i64 0), some (.bool false), some (.bool false), some (.agg #[.int .i64 b0, .int .i64 b1, .int .i64 (p1 + q), .int .i64 t1, .int .i64 b4]), some (.int .i64 T2), some (.agg #[.int .i64 a0, .int .i64 a1, .int .i64 p1, .int .i64 t1, .int .i64 a4]), some (.int .i64 T1), some (.bool false), some (.bool false)] L vs)) := ⟨fun L vs w' => Grows w9 w' ∧ KnS [some (.int .i64 0), some (.bool false), some (.bool false), some (.agg #[.int .i64 b0, .int .i64 b1, .int .i64 (p1 + q), .int .i64 t1, .int .i64 b4]), some (.int .i64 T2), some (.agg #[.int .i64 a0, .int .i64 a1, .int .i64 p1, .int .i64 t1, .int .i64 a4]), some (.int .i64 T1), some (.bool false), some (.bool false)] L vs, fun _ _ _ h => h, fun _ _ _ h => h⟩
      refine wp_region_genW S 160 (by kernel_rfl) (by kernel_rfl) rfl ?_ ?_
      · exact HI.out _ _ _ ⟨Grows.drew' _, kn_none _ _⟩
      refine gen_cons (A' := ?_) (fun vs L w1 hL hw1 => ?_) ?_ ?_
      rotate_left 1
      · obtain ⟨q0, q1⟩ := HO.out _ _ _ hw1
        refine gen_plain rfl ?_
        go_simp
        exact gr_val (HI.out _ _ _ ⟨q0, kn_known q1 rfl⟩)
      · intro vs
        simp only [Act.put, List.setIfInBounds_toArray, List.set_cons_succ, List.set_cons_zero]
        rfl
      refine gen_cons (A' := ?_) (fun vs L w1 hL hw1 => ?_) ?_ ?_
      rotate_left 1
      · obtain ⟨q0, q1⟩ := HO.out _ _ _ hw1
        refine gen_plain rfl ?_
        have l0 : L 0 = true := hL.need 0 (by kernel_rfl)
        have e0 := q1 0 _ rfl l0
        simp only [e0]
        go_simp
        exact gr_val (HI.out _ _ _ ⟨q0, kn_known q1 rfl⟩)
      · intro vs
        simp only [Act.put, List.setIfInBounds_toArray, List.set_cons_succ, List.set_cons_zero]
        rfl
      refine gen_cons (A' := ?_) (fun vs L w1 hL hw1 => ?_) ?_ ?_
      rotate_left 1
      · obtain ⟨q0, q1⟩ := HO.out _ _ _ hw1
        refine gen_plain rfl ?_
        have l1 : L 1 = true := hL.need 1 (by kernel_rfl)
        have e1 := q1 1 _ rfl l1
        simp only [e1]
        go_simp
        exact gr_val (HI.out _ _ _ ⟨q0, kn_known q1 rfl⟩)
      · intro vs
        simp only [Act.put, List.setIfInBounds_toArray, List.set_cons_succ, List.set_cons_zero]
        rfl
      refine gen_cons (A' := ?_) (fun vs L w1 hL hw1 => ?_) ?_ ?_
      rotate_left 1
      · obtain ⟨q0, q1⟩ := HO.out _ _ _ hw1
        have l2 : L 2 = true := hL.need 2 (by kernel_rfl)
        have e2 := q1 2 _ rfl l2
        refine gen_yes ?_ ?_
        · simp only [e2]
          rfl
        have x := (k12.grows q0).cell 
        go_simp
        exact gr_val (HI.out _ _ _ ⟨q0, kn_known q1 rfl⟩)
      · intro vs
        simp only [Act.put, List.setIfInBounds_toArray, List.set_cons_succ, List.set_cons_zero]
        rfl
      refine gen_cons (A' := ?_) (fun vs L w1 hL hw1 => ?_) ?_ ?_
      rotate_left 1
      · obtain ⟨q0, q1⟩ := HO.out _ _ _ hw1
        have l2 : L 2 = true := hL.need 2 (by kernel_rfl)
        have e2 := q1 2 _ rfl l2
        refine gen_yes ?_ ?_
        · simp only [e2]
          rfl
        have l3 : L 3 = true := hL.need 3 (by kernel_rfl)
        have e3 := q1 3 _ rfl l3
        simp only [e3]
        go_simp
        refine gr_call ?_
        refine (total_is b0 b1 (p1 + q) t1 b4 T2 w1 HT2.out).mono ?_
        rintro e w2 ⟨rfl, hg⟩
        exact ⟨_, rfl, HI.out _ _ _ ⟨below_grows q0 (Nat.le_refl _) hg, kn_known q1 rfl⟩⟩
      · intro vs
        simp only [Act.put, List.setIfInBounds_toArray, List.set_cons_succ, List.set_cons_zero]
        rfl
      refine gen_cons (A' := ?_) (fun vs L w1 hL hw1 => ?_) ?_ ?_
      rotate_left 1
      · obtain ⟨q0, q1⟩ := HO.out _ _ _ hw1
        have l2 : L 2 = true := hL.need 2 (by kernel_rfl)
        have e2 := q1 2 _ rfl l2
        refine gen_yes ?_ ?_
        · simp only [e2]
          rfl
        have x := (k8.grows q0).cell 
        go_simp
        exact gr_val (HI.out _ _ _ ⟨q0, kn_known q1 rfl⟩)
      · intro vs
        simp only [Act.put, List.setIfInBounds_toArray, List.set_cons_succ, List.set_cons_zero]
        rfl
      refine gen_cons (A' := ?_) (fun vs L w1 hL hw1 => ?_) ?_ ?_
      rotate_left 1
      · obtain ⟨q0, q1⟩ := HO.out _ _ _ hw1
        have l2 : L 2 = true := hL.need 2 (by kernel_rfl)
        have e2 := q1 2 _ rfl l2
        refine gen_yes ?_ ?_
        · simp only [e2]
          rfl
        have l5 : L 5 = true := hL.need 5 (by kernel_rfl)
        have e5 := q1 5 _ rfl l5
        simp only [e5]
        go_simp
        refine gr_call ?_
        refine (total_is a0 a1 p1 t1 a4 T1 w1 HT1.out).mono ?_
        rintro e w2 ⟨rfl, hg⟩
        exact ⟨_, rfl, HI.out _ _ _ ⟨below_grows q0 (Nat.le_refl _) hg, kn_known q1 rfl⟩⟩
      · intro vs
        simp only [Act.put, List.setIfInBounds_toArray, List.set_cons_succ, List.set_cons_zero]
        rfl
      refine gen_cons (A' := ?_) (fun vs L w1 hL hw1 => ?_) ?_ ?_
      rotate_left 1
      · obtain ⟨q0, q1⟩ := HO.out _ _ _ hw1
        have l2 : L 2 = true := hL.need 2 (by kernel_rfl)
        have e2 := q1 2 _ rfl l2
        refine gen_yes ?_ ?_
        · simp only [e2]
          rfl
        have l4 : L 4 = true := hL.need 4 (by kernel_rfl)
        have e4 := q1 4 _ rfl l4
        have l6 : L 6 = true := hL.need 6 (by kernel_rfl)
        have e6 := q1 6 _ rfl l6
        simp only [e4, e6]
        go_simp
        exact gr_val (HI.out _ _ _ ⟨q0, kn_known q1 rfl⟩)
      · intro vs
        simp only [Act.put, List.setIfInBounds_toArray, List.set_cons_succ, List.set_cons_zero]
        rfl
      refine gen_cons (A' := ?_) (fun vs L w1 hL hw1 => ?_) ?_ ?_
      rotate_left 1
      · obtain ⟨q0, q1⟩ := HO.out _ _ _ hw1
        refine gen_plain rfl ?_
        have l2 : L 2 = true := hL.need 2 (by kernel_rfl)
        have e2 := q1 2 _ rfl l2
        have l7 : L 7 = true := hL.need 7 (by kernel_rfl)
        have e7 := q1 7 _ rfl l7
        simp only [e2, e7]
        go_simp
        exact gr_val (HI.out _ _ _ ⟨q0, kn_known q1 rfl⟩)
      · intro vs
        simp only [Act.put, List.setIfInBounds_toArray, List.set_cons_succ, List.set_cons_zero]
        rfl
      refine gen_nil ?_
      intro vs L W6 hall hS
      obtain ⟨hq, q1⟩ := HO.out _ _ _ hS
      have eX8 := q1 8 _ rfl (hall 8 (by simp))
      clear hall hS HI HO q1
      simp only [eX8]
      clear eX8 hc20
      replace hB := below_grows hB (Nat.le_refl _) hq
      replace k7 := k7.grows hq
      replace k8 := k8.grows hq
      clear hq k12
      go_wp2
      go_roundw
      case rel => exact ⟨4, by omega, rfl, hB, k7, k8⟩
      case measure => simp [intOf]
    | 4, _ =>
      simp only [Int.cast_ofNat_Int]
      clear HA0 HA1 HA4 HT1 HS1
      go_wp2_with fail
      have hge := hB.size
      refine (new_deck A0 c0 il _ (hI0.grows hB) hil).mono ?_
      rintro e w6 ⟨rfl, hD, hq⟩
      replace hB := below_grows hB (Nat.le_refl _) hq
      clear hq k7 k8
      generalize wr.heap.size = gd at *
      go_wp2_with fail
      refine (graph_any gd A0 c0 il 0 _ hD).mono ?_
      rintro e w7 ⟨⟨v1, v2, v3, ns, ls, cs, k', rfl, hn, hl2, hi3, hv, hcl, hcr, hn8, hD3⟩, hq⟩
      replace hB := hB.grown hq hB.size (fun q e => by injection e; omega)
      clear hq hD hD3
      obtain ⟨A1, c1, A2, c2, rfl, rfl, hc1, hok⟩ := gok_of hn hl2 hv
      obtain ⟨A3, c3, rfl, hc3, hci⟩ := hi3.read
      have hlcs : cs.length ≤ 8 := by omega
      have HV := Lib.hid hv
      have HW : Hid (okW ns cs = true) := Lib.hid (okW_of hcl hcr)
      have HCL := Lib.hid hcl
      have HCR := Lib.hid hcr
      have hln := (valid_len hv).2
      clear hv hcl hcr hn hl2 hi3
      have k14 := Blk.new w7 40 #[.slice A1 ns.length c1, .slice A2 ls.length c2]
      have hq := (Below.refl w7.heap.size w7).alloc (Nat.le_refl _) (Obj.cells #[.slice A1 ns.length c1, .slice A2 ls.length c2] 40)
      go_upto_region 23 with fail
      replace hB := below_grows hB (Nat.le_refl _) hq
      replace hok := hok.grows hq
      replace hci := hci.grows hq
      clear hq
      generalize World.alloc w7 _ = w8 at *
      generalize w7.heap.size = G14 at *
      have x14 := k14.cell
      go_wp2_with fail
      clear x14
      go_loopw [124] (fun i wr => ∃ j : Nat, j ≤ ls.length ∧ i = .int .i64 j ∧ Below w.heap.size w wr ∧ Blk wr G14 40 #[.slice A1 ns.length c1, .slice A2 ls.length c2] ∧ GOK wr A1 A2 c2 ns ls ∧ Ints wr A3 cs) (fun i _ => ls.length - (intOf i).toNat)
      case atStart => exact ⟨0, by omega, rfl, hB, k14, hok, hci⟩
      case round =>
        clear hB k14 hok hci
        obtain ⟨j, hj, rfl, hB, k14, hok, hci⟩ := hrel
        by_cases hlt : j < ls.length
        · obtain ⟨ad, x, e1, had, hx, q0, q1, q2, q3⟩ := hok.l.elem hlt
          subst e1
          have HX := Lib.hid hx
          obtain ⟨v, hv1, hv2⟩ := long_pos HV.out HW.out (List.mem_of_getElem? hx)
          obtain ⟨⟨na, fa⟩, ⟨nc, fc⟩⟩ := ends_node (((okK_iff ns ls).1 (valid_parts.1 HV.out).2.2.2.1).1 x (List.mem_of_getElem? hx))
          obtain ⟨ka, n1, pa1, -, -, -, hka⟩ := placeV_some (ns := ns) (x := x.a) (by rw [← (find_some fa).2]; exact place_in (find_some fa).1)
          obtain ⟨kc, n2, pc1, -, -, -, hkc⟩ := placeV_some (ns := ns) (x := x.c) (by rw [← (find_some fc).2]; exact place_in (find_some fc).1)
          have HPA := Lib.hid pa1
          have HPC := Lib.hid pc1
          have hia := (hok.li x (List.mem_of_getElem? hx)).1
          have hic := (hok.li x (List.mem_of_getElem? hx)).2
          obtain ⟨wa, hwa⟩ : ∃ wa, cs[ka]? = some wa := ⟨_, List.getElem?_eq_getElem (by have := HCL.out; omega)⟩
          obtain ⟨wc, hwc⟩ : ∃ wc, cs[kc]? = some wc := ⟨_, List.getElem?_eq_getElem (by have := HCL.out; omega)⟩
          have hwa2 := HCR.out wa (List.mem_of_getElem? hwa)
          have hwc2 := HCR.out wc (List.mem_of_getElem? hwc)
          have hvs : wa + wc ≤ v := by
            rw [wOf_at pa1, wOf_at pc1, List.getD_eq_getElem?_getD, List.getD_eq_getElem?_getD, hwa, hwc] at hv2
            exact hv2
          have hkal : ka < cs.length := (List.getElem?_eq_some_iff.1 hwa).1
          have hkcl : kc < cs.length := (List.getElem?_eq_some_iff.1 hwc).1
          have HR := Lib.hid hv1
          have Hia := Lib.hid hia
          have Hic := Lib.hid hic
          have HWA := Lib.hid hwa
          have HWC := Lib.hid hwc
          clear hx hv1 hv2 fa fc pa1 pc1 hia hic hwa hwc
          have k17 := Blk.new wr 52 #[.int .i64 x.a, .int .i64 x.b, .int .i64 x.c, .int .i64 x.d]
          have hq := (Below.refl wr.heap.size wr).alloc (Nat.le_refl _) (Obj.cells #[.int .i64 x.a, .int .i64 x.b, .int .i64 x.c, .int .i64 x.d] 52)
          go_upto_region 26 with fail
          clear q0 q1 q2 q3
          replace hB := below_grows hB (Nat.le_refl _) hq
          replace hok := hok.grows hq
          replace hci := hci.grows hq
          replace k14 := k14.grows hq
          clear hq
          generalize World.alloc wr _ = w8 at *
          generalize wr.heap.size = G17 at *
          have x14 := k14.cell
          have x17 := k17.cell
          go_wp2_with fail
          refine (plong_any x.a x.c hok hci (by omega) Hia.out Hic.out).mono ?_
          rw [HR.out]
          rintro e w9 ⟨rfl, hq⟩
          replace hB := below_grows hB (Nat.le_refl _) hq
          replace hok := hok.grows hq
          replace hci := hci.grows hq
          replace k14 := k14.grows hq
          replace k17 := k17.grows hq
          clear hq x14 x17
          simp only []
          obtain ⟨ad3, wa', e3, had3, hwa, ewa⟩ := hci.at_ hkal
          obtain ⟨ad4, wc', e4, -, hwc, ewc⟩ := hci.at_ hkcl
          subst e3
          injection e4 with e4
          subst e4
          rw [HWA.out] at hwa
          rw [HWC.out] at hwc
          injection hwa with hwa
          injection hwc with hwc
          subst hwa
          subst hwc
          go_upto_region 27 with fail
          have hw27 : IntKind.i64.wrap (wa + wc) = wa + wc := IntWalk.i64_in _ (by omega)
          have hc27 : decide (v < wa + wc) = false := by simp; omega
          obtain ⟨S, HI, HO⟩ : ∃ S : Ran → (Nat → Value) → World → Prop, Hid (∀ L vs w', (Grows w9 w' ∧ KnS [some (.int .i64 0), some (.bool false), some (.bool false), some (.int .i64 v), some (.slice (some ad3) cs.length c3), some (.agg #[.slice A1 ns.length c1, .slice (some ad) ls.length c2]), some (.pointer (some ⟨G17, 0, none⟩)), some (.int .i64 x.a), some (.int .i64 (ka : Int)), some (.pointer (some (ad3.add ka))), some (.int .i64 wa), some (.slice (some ad3) cs.length c3), some (.agg #[.slice A1 ns.length c1, .slice (some ad) ls.length c2]), some (.pointer (some ⟨G17, 2, none⟩)), some (.int .i64 x.c), some (.int .i64 (kc : Int)), some (.pointer (some (ad3.add kc))), some (.int .i64 wc), some (.int .i64 (wa + wc)), some (.bool false), some (.bool false)] L vs) → S L vs w') ∧ Hid (∀ L vs w', S L vs w' → (Grows w9 w' ∧ KnS [some (.int .i64 0), some (.bool false), some (.bool false), some (.int .i64 v), some (.slice (some ad3) cs.length c3), some (.agg #[.slice A1 ns.length c1, .slice (some ad) ls.length c2]), some (.pointer (some ⟨G17, 0, none⟩)), some (.int .i64 x.a), some (.int .i64 (ka : Int)), some (.pointer (some (ad3.add ka))), some (.int .i64 wa), some (.slice (some ad3) cs.length c3), some (.agg #[.slice A1 ns.length c1, .slice (some ad) ls.length c2]), some (.pointer (some ⟨G17, 2, none⟩)), some (.int .i64 x.c), some (.int .i64 (kc : Int)), some (.pointer (some (ad3.add kc))), some (.int .i64 wc), some (.int .i64 (wa + wc)), some (.bool false), some (.bool false)] L vs)) := ⟨fun L vs w' => Grows w9 w' ∧ KnS [some (.int .i64 0), some (.bool false), some (.bool false), some (.int .i64 v), some (.slice (some ad3) cs.length c3), some (.agg #[.slice A1 ns.length c1, .slice (some ad) ls.length c2]), some (.pointer (some ⟨G17, 0, none⟩)), some (.int .i64 x.a), some (.int .i64 (ka : Int)), some (.pointer (some (ad3.add ka))), some (.int .i64 wa), some (.slice (some ad3) cs.length c3), some (.agg #[.slice A1 ns.length c1, .slice (some ad) ls.length c2]), some (.pointer (some ⟨G17, 2, none⟩)), some (.int .i64 x.c), some (.int .i64 (kc : Int)), some (.pointer (some (ad3.add kc))), some (.int .i64 wc), some (.int .i64 (wa + wc)), some (.bool false), some (.bool false)] L vs, fun _ _ _ h => h, fun _ _ _ h => h⟩
          refine wp_region_genW S 160 (by kernel_rfl) (by kernel_rfl) rfl ?_ ?_
          · exact HI.out _ _ _ ⟨Grows.drew' _, kn_none _ _⟩
          refine gen_cons (A' := ?_) (fun vs L w1 hL hw1 => ?_) ?_ ?_
          rotate_left 1
          · obtain ⟨q0, q1⟩ := HO.out _ _ _ hw1
            refine gen_plain rfl ?_
            go_simp
            exact gr_val (HI.out _ _ _ ⟨q0, kn_known q1 rfl⟩)
          · intro vs
            simp only [Act.put, List.setIfInBounds_toArray, List.set_cons_succ, List.set_cons_zero]
            rfl
          refine gen_cons (A' := ?_) (fun vs L w1 hL hw1 => ?_) ?_ ?_
          rotate_left 1
          · obtain ⟨q0, q1⟩ := HO.out _ _ _ hw1
            refine gen_plain rfl ?_
            have l0 : L 0 = true := hL.need 0 (by kernel_rfl)
            have e0 := q1 0 _ rfl l0
            simp only [e0]
            go_simp
            exact gr_val (HI.out _ _ _ ⟨q0, kn_known q1 rfl⟩)
          · intro vs
            simp only [Act.put, List.setIfInBounds_toArray, List.set_cons_succ, List.set_cons_zero]
            rfl
          refine gen_cons (A' := ?_) (fun vs L w1 hL hw1 => ?_) ?_ ?_
          rotate_left 1
          · obtain ⟨q0, q1⟩ := HO.out _ _ _ hw1
            refine gen_plain rfl ?_
            have l1 : L 1 = true := hL.need 1 (by kernel_rfl)
            have e1 := q1 1 _ rfl l1
            simp only [e1]
            go_simp
            exact gr_val (HI.out _ _ _ ⟨q0, kn_known q1 rfl⟩)
          · intro vs
            simp only [Act.put, List.setIfInBounds_toArray, List.set_cons_succ, List.set_cons_zero]
            rfl
          refine gen_cons (A' := ?_) (fun vs L w1 hL hw1 => ?_) ?_ ?_
          rotate_left 1
          · obtain ⟨q0, q1⟩ := HO.out _ _ _ hw1
            have l2 : L 2 = true := hL.need 2 (by kernel_rfl)
            have e2 := q1 2 _ rfl l2
            refine gen_yes ?_ ?_
            · simp only [e2]
              rfl
            go_simp
            exact gr_val (HI.out _ _ _ ⟨q0, kn_known q1 rfl⟩)
          · intro vs
            simp only [Act.put, List.setIfInBounds_toArray, List.set_cons_succ, List.set_cons_zero]
            rfl
          refine gen_cons (A' := ?_) (fun vs L w1 hL hw1 => ?_) ?_ ?_
          rotate_left 1
          · obtain ⟨q0, q1⟩ := HO.out _ _ _ hw1
            have l2 : L 2 = true := hL.need 2 (by kernel_rfl)
            have e2 := q1 2 _ rfl l2
            refine gen_yes ?_ ?_
            · simp only [e2]
              rfl
            go_simp
            exact gr_val (HI.out _ _ _ ⟨q0, kn_known q1 rfl⟩)
          · intro vs
            simp only [Act.put, List.setIfInBounds_toArray, List.set_cons_succ, List.set_cons_zero]
            rfl
          refine gen_cons (A' := ?_) (fun vs L w1 hL hw1 => ?_) ?_ ?_
          rotate_left 1
          · obtain ⟨q0, q1⟩ := HO.out _ _ _ hw1
            have l2 : L 2 = true := hL.need 2 (by kernel_rfl)
            have e2 := q1 2 _ rfl l2
            refine gen_yes ?_ ?_
            · simp only [e2]
              rfl
            have x := (k14.grows q0).cell 
            go_simp
            exact gr_val (HI.out _ _ _ ⟨q0, kn_known q1 rfl⟩)
          · intro vs
            simp only [Act.put, List.setIfInBounds_toArray, List.set_cons_succ, List.set_cons_zero]
            rfl
          refine gen_cons (A' := ?_) (fun vs L w1 hL hw1 => ?_) ?_ ?_
          rotate_left 1
          · obtain ⟨q0, q1⟩ := HO.out _ _ _ hw1
            have l2 : L 2 = true := hL.need 2 (by kernel_rfl)
            have e2 := q1 2 _ rfl l2
            refine gen_yes ?_ ?_
            · simp only [e2]
              rfl
            go_simp
            exact gr_val (HI.out _ _ _ ⟨q0, kn_known q1 rfl⟩)
          · intro vs
            simp only [Act.put, List.setIfInBounds_toArray, List.set_cons_succ, List.set_cons_zero]
            rfl
          refine gen_cons (A' := ?_) (fun vs L w1 hL hw1 => ?_) ?_ ?_
          rotate_left 1
          · obtain ⟨q0, q1⟩ := HO.out _ _ _ hw1
            have l2 : L 2 = true := hL.need 2 (by kernel_rfl)
            have e2 := q1 2 _ rfl l2
            refine gen_yes ?_ ?_
            · simp only [e2]
              rfl
            have l6 : L 6 = true := hL.need 6 (by kernel_rfl)
            have e6 := q1 6 _ rfl l6
            have x := (k17.grows q0).cell 0
            simp only [e6]
            go_simp
            exact gr_val (HI.out _ _ _ ⟨q0, kn_known q1 rfl⟩)
          · intro vs
            simp only [Act.put, List.setIfInBounds_toArray, List.set_cons_succ, List.set_cons_zero]
            rfl
          refine gen_cons (A' := ?_) (fun vs L w1 hL hw1 => ?_) ?_ ?_
          rotate_left 1
          · obtain ⟨q0, q1⟩ := HO.out _ _ _ hw1
            have l2 : L 2 = true := hL.need 2 (by kernel_rfl)
            have e2 := q1 2 _ rfl l2
            refine gen_yes ?_ ?_
            · simp only [e2]
              rfl
            have l5 : L 5 = true := hL.need 5 (by kernel_rfl)
            have e5 := q1 5 _ rfl l5
            have l7 : L 7 = true := hL.need 7 (by kernel_rfl)
            have e7 := q1 7 _ rfl l7
            simp only [e5, e7]
            go_simp
            refine gr_call ?_
            refine (lplace_is A1 (some ad) c1 c2 ls.length ns x.a ka w1 (hok.n.grows q0) hok.nl HPA.out).mono ?_
            rintro e w2 ⟨rfl, hg⟩
            exact ⟨_, rfl, HI.out _ _ _ ⟨below_grows q0 (Nat.le_refl _) hg, kn_known q1 rfl⟩⟩
          · intro vs
            simp only [Act.put, List.setIfInBounds_toArray, List.set_cons_succ, List.set_cons_zero]
            rfl
          refine gen_cons (A' := ?_) (fun vs L w1 hL hw1 => ?_) ?_ ?_
          rotate_left 1
          · obtain ⟨q0, q1⟩ := HO.out _ _ _ hw1
            have l2 : L 2 = true := hL.need 2 (by kernel_rfl)
            have e2 := q1 2 _ rfl l2
            refine gen_yes ?_ ?_
            · simp only [e2]
              rfl
            have l4 : L 4 = true := hL.need 4 (by kernel_rfl)
            have e4 := q1 4 _ rfl l4
            have l8 : L 8 = true := hL.need 8 (by kernel_rfl)
            have e8 := q1 8 _ rfl l8
            simp only [e4, e8]
            go_simp
            exact gr_val (HI.out _ _ _ ⟨q0, kn_known q1 rfl⟩)
          · intro vs
            simp only [Act.put, List.setIfInBounds_toArray, List.set_cons_succ, List.set_cons_zero]
            rfl
          refine gen_cons (A' := ?_) (fun vs L w1 hL hw1 => ?_) ?_ ?_
          rotate_left 1
          · obtain ⟨q0, q1⟩ := HO.out _ _ _ hw1
            have l2 : L 2 = true := hL.need 2 (by kernel_rfl)
            have e2 := q1 2 _ rfl l2
            refine gen_yes ?_ ?_
            · simp only [e2]
              rfl
            have l9 : L 9 = true := hL.need 9 (by kernel_rfl)
            have e9 := q1 9 _ rfl l9
            simp only [e9]
            have x := q0.cell (p := ad3.add ka) (by rw [block_of_add]; exact had3)
            rw [ewa] at x
            go_simp
            exact gr_val (HI.out _ _ _ ⟨q0, kn_known q1 rfl⟩)
          · intro vs
            simp only [Act.put, List.setIfInBounds_toArray, List.set_cons_succ, List.set_cons_zero]
            rfl
          refine gen_cons (A' := ?_) (fun vs L w1 hL hw1 => ?_) ?_ ?_
          rotate_left 1
          · obtain ⟨q0, q1⟩ := HO.out _ _ _ hw1
            have l2 : L 2 = true := hL.need 2 (by kernel_rfl)
            have e2 := q1 2 _ rfl l2
            refine gen_yes ?_ ?_
            · simp only [e2]
              rfl
            go_simp
            exact gr_val (HI.out _ _ _ ⟨q0, kn_known q1 rfl⟩)
          · intro vs
            simp only [Act.put, List.setIfInBounds_toArray, List.set_cons_succ, List.set_cons_zero]
            rfl
          refine gen_cons (A' := ?_) (fun vs L w1 hL hw1 => ?_) ?_ ?_
          rotate_left 1
          · obtain ⟨q0, q1⟩ := HO.out _ _ _ hw1
            have l2 : L 2 = true := hL.need 2 (by kernel_rfl)
            have e2 := q1 2 _ rfl l2
            refine gen_yes ?_ ?_
            · simp only [e2]
              rfl
            have x := (k14.grows q0).cell 
            go_simp
            exact gr_val (HI.out _ _ _ ⟨q0, kn_known q1 rfl⟩)
          · intro vs
            simp only [Act.put, List.setIfInBounds_toArray, List.set_cons_succ, List.set_cons_zero]
            rfl
          refine gen_cons (A' := ?_) (fun vs L w1 hL hw1 => ?_) ?_ ?_
          rotate_left 1
          · obtain ⟨q0, q1⟩ := HO.out _ _ _ hw1
            have l2 : L 2 = true := hL.need 2 (by kernel_rfl)
            have e2 := q1 2 _ rfl l2
            refine gen_yes ?_ ?_
            · simp only [e2]
              rfl
            go_simp
            exact gr_val (HI.out _ _ _ ⟨q0, kn_known q1 rfl⟩)
          · intro vs
            simp only [Act.put, List.setIfInBounds_toArray, List.set_cons_succ, List.set_cons_zero]
            rfl
          refine gen_cons (A' := ?_) (fun vs L w1 hL hw1 => ?_) ?_ ?_
          rotate_left 1
          · obtain ⟨q0, q1⟩ := HO.out _ _ _ hw1
            have l2 : L 2 = true := hL.need 2 (by kernel_rfl)
            have e2 := q1 2 _ rfl l2
            refine gen_yes ?_ ?_
            · simp only [e2]
              rfl
            have l13 : L 13 = true := hL.need 13 (by kernel_rfl)
            have e13 := q1 13 _ rfl l13
            have x := (k17.grows q0).cell 2
            simp only [e13]
            go_simp
            exact gr_val (HI.out _ _ _ ⟨q0, kn_known q1 rfl⟩)
          · intro vs
            simp only [Act.put, List.setIfInBounds_toArray, List.set_cons_succ, List.set_cons_zero]
            rfl
          refine gen_cons (A' := ?_) (fun vs L w1 hL hw1 => ?_) ?_ ?_
          rotate_left 1
          · obtain ⟨q0, q1⟩ := HO.out _ _ _ hw1
            have l2 : L 2 = true := hL.need 2 (by kernel_rfl)
            have e2 := q1 2 _ rfl l2
            refine gen_yes ?_ ?_
            · simp only [e2]
              rfl
            have l12 : L 12 = true := hL.need 12 (by kernel_rfl)
            have e12 := q1 12 _ rfl l12
            have l14 : L 14 = true := hL.need 14 (by kernel_rfl)
            have e14 := q1 14 _ rfl l14
            simp only [e12, e14]
            go_simp
            refine gr_call ?_
            refine (lplace_is A1 (some ad) c1 c2 ls.length ns x.c kc w1 (hok.n.grows q0) hok.nl HPC.out).mono ?_
            rintro e w2 ⟨rfl, hg⟩
            exact ⟨_, rfl, HI.out _ _ _ ⟨below_grows q0 (Nat.le_refl _) hg, kn_known q1 rfl⟩⟩
          · intro vs
            simp only [Act.put, List.setIfInBounds_toArray, List.set_cons_succ, List.set_cons_zero]
            rfl
          refine gen_cons (A' := ?_) (fun vs L w1 hL hw1 => ?_) ?_ ?_
          rotate_left 1
          · obtain ⟨q0, q1⟩ := HO.out _ _ _ hw1
            have l2 : L 2 = true := hL.need 2 (by kernel_rfl)
            have e2 := q1 2 _ rfl l2
            refine gen_yes ?_ ?_
            · simp only [e2]
              rfl
            have l11 : L 11 = true := hL.need 11 (by kernel_rfl)
            have e11 := q1 11 _ rfl l11
            have l15 : L 15 = true := hL.need 15 (by kernel_rfl)
            have e15 := q1 15 _ rfl l15
            simp only [e11, e15]
            go_simp
            exact gr_val (HI.out _ _ _ ⟨q0, kn_known q1 rfl⟩)
          · intro vs
            simp only [Act.put, List.setIfInBounds_toArray, List.set_cons_succ, List.set_cons_zero]
            rfl
          refine gen_cons (A' := ?_) (fun vs L w1 hL hw1 => ?_) ?_ ?_
          rotate_left 1
          · obtain ⟨q0, q1⟩ := HO.out _ _ _ hw1
            have l2 : L 2 = true := hL.need 2 (by kernel_rfl)
            have e2 := q1 2 _ rfl l2
            refine gen_yes ?_ ?_
            · simp only [e2]
              rfl
            have l16 : L 16 = true := hL.need 16 (by kernel_rfl)
            have e16 := q1 16 _ rfl l16
            simp only [e16]
            have x := q0.cell (p := ad3.add kc) (by rw [block_of_add]; exact had3)
            rw [ewc] at x
            go_simp
            exact gr_val (HI.out _ _ _ ⟨q0, kn_known q1 rfl⟩)
          · intro vs
            simp only [Act.put, List.setIfInBounds_toArray, List.set_cons_succ, List.set_cons_zero]
            rfl
          refine gen_cons (A' := ?_) (fun vs L w1 hL hw1 => ?_) ?_ ?_
          rotate_left 1
          · obtain ⟨q0, q1⟩ := HO.out _ _ _ hw1
            have l2 : L 2 = true := hL.need 2 (by kernel_rfl)
            have e2 := q1 2 _ rfl l2
            refine gen_yes ?_ ?_
            · simp only [e2]
              rfl
            have l10 : L 10 = true := hL.need 10 (by kernel_rfl)
            have e10 := q1 10 _ rfl l10
            have l17 : L 17 = true := hL.need 17 (by kernel_rfl)
            have e17 := q1 17 _ rfl l17
            simp only [e10, e17]
            go_simp
            exact gr_val (HI.out _ _ _ ⟨q0, kn_known q1 rfl⟩)
          · intro vs
            simp only [Act.put, List.setIfInBounds_toArray, List.set_cons_succ, List.set_cons_zero]
            rfl
          refine gen_cons (A' := ?_) (fun vs L w1 hL hw1 => ?_) ?_ ?_
          rotate_left 1
          · obtain ⟨q0, q1⟩ := HO.out _ _ _ hw1
            have l2 : L 2 = true := hL.need 2 (by kernel_rfl)
            have e2 := q1 2 _ rfl l2
            refine gen_yes ?_ ?_
            · simp only [e2]
              rfl
            have l3 : L 3 = true := hL.need 3 (by kernel_rfl)
            have e3 := q1 3 _ rfl l3
            have l18 : L 18 = true := hL.need 18 (by kernel_rfl)
            have e18 := q1 18 _ rfl l18
            simp only [e3, e18]
            go_simp
            exact gr_val (HI.out _ _ _ ⟨q0, kn_known q1 rfl⟩)
          · intro vs
            simp only [Act.put, List.setIfInBounds_toArray, List.set_cons_succ, List.set_cons_zero]
            rfl
          refine gen_cons (A' := ?_) (fun vs L w1 hL hw1 => ?_) ?_ ?_
          rotate_left 1
          · obtain ⟨q0, q1⟩ := HO.out _ _ _ hw1
            refine gen_plain rfl ?_
            have l2 : L 2 = true := hL.need 2 (by kernel_rfl)
            have e2 := q1 2 _ rfl l2
            have l19 : L 19 = true := hL.need 19 (by kernel_rfl)
            have e19 := q1 19 _ rfl l19
            simp only [e2, e19]
            go_simp
            exact gr_val (HI.out _ _ _ ⟨q0, kn_known q1 rfl⟩)
          · intro vs
            simp only [Act.put, List.setIfInBounds_toArray, List.set_cons_succ, List.set_cons_zero]
            rfl
          refine gen_nil ?_
          intro vs L W6 hall hS
          obtain ⟨hq, q1⟩ := HO.out _ _ _ hS
          have eX20 := q1 20 _ rfl (hall 20 (by simp))
          clear hall hS HI HO q1
          simp only [eX20]
          clear eX20 hw27 hc27
          replace hB := below_grows hB (Nat.le_refl _) hq
          replace hok := hok.grows hq
          replace hci := hci.grows hq
          replace k14 := k14.grows hq
          clear hq ewa ewc k17
          go_wp2
          go_roundw
          case rel => exact ⟨j + 1, by omega, by go_num, hB, k14, hok, hci⟩
          case measure => simp [intOf]; omega
        · go_wp2
          go_ret
          exact ⟨rfl, hB⟩
end LatencyGrows
namespace LatencyGrows
set_option maxRecDepth 100000 in
theorem contract (H : Type) (enc : TypeId × Value → H) (W : World) (base : Nat) (args : Array Value) (ds gs : List (DataW H)) (before : List MemPlace)
    (hval0 : ∀ (j : Nat) t v, Try.f6.params[j]? = some t → args[j]? = some v → Value.okWide Try.prog W .any base t v)
    (hW : DataW.Whole enc Try.prog Try.f6.params.toList Rows.latencyGrowsSpec.vars false W args.toList ds gs before)
    (hsz0 : (DataW.weightsEach Try.prog (Try.f6.params.toList ++ Rows.latencyGrowsSpec.plain.varTypes Try.prog) (ds ++ gs)).all (· ≤ reachBytes) = true) :
    Calls Try.prog 6 args W fun e W' => ∃ v, e = .returned v ∧ Rows.latencyGrowsSpec.post enc Try.prog Try.f6 false true false false W args v W' := by
  have key : Calls Try.prog 6 args W fun e W' => e = .returned (.bool true) ∧ Below W.heap.size W W' := by
    have hval : ∀ (j : Nat) t v, Try.f6.params[j]? = some t → args[j]? = some v → Value.okWide Try.prog W .any base t v := hval0
    obtain ⟨p, q, hA0, hV, hbe, hfz, hnd⟩ := hW
    have hA : DataW.TrodAll enc Try.prog W 0 (fun _ => true) true Try.f6.params.toList args.toList ds p := hA0
    rw [Try.params6] at hA hval
    clear hA0 hval0
    obtain ⟨v0, vs0, d0, ds0, p0, q0, hargs, rfl, rfl, h0, r0⟩ := trodAll_cons hA
    obtain ⟨v1, vs1, d1, ds1, p1, q1, rfl, rfl, rfl, h1, r1⟩ := trodAll_cons r0
    obtain ⟨v2, vs2, d2, ds2, p2, q2, rfl, rfl, rfl, h2, r2⟩ := trodAll_cons r1
    obtain ⟨rfl, rfl, rfl⟩ := trodAll_nil r2
    obtain rfl : args = #[v0, v1, v2] := by cases args; simp_all
    obtain ⟨rfl, rfl⟩ := trodVars_none hV
    have hsz : (DataW.weightsEach Try.prog (Try.f6.params.toList ++ Rows.latencyGrowsSpec.plain.varTypes Try.prog) ([d0, d1, d2] ++ [])).all (· ≤ reachBytes) = true := hsz0
    rw [Try.params6] at hsz
    clear hsz0
    obtain ⟨m, r, d, g, p, t, l, rfl⟩ := open_j (hval 0 27 v0 rfl rfl) h0
    obtain ⟨A0, c0, il, rfl, hI0, hm0, hc0⟩ := open_slice_ints Try.underlying36 Try.underlying3 (by kernel_rfl) (hval 1 36 v1 rfl rfl) h1
    obtain ⟨a2, rfl, rfl, rfl, w2⟩ := open_int Try.underlying5 (hval 2 5 v2 rfl rfl) h2
    exact LatencyGrows.walk m r d g p t l A0 c0 il a2 W hI0 (by unfold maxLen at hm0; omega) (u8_bd w2)
  refine key.mono fun e W' ⟨he, hb⟩ => ⟨_, he, law_post laid_out hW ?_ rfl (by kernel_rfl) Try.underlying4 ?_ hb⟩
  · rw [Try.params6]
    intro t ht
    simp only [List.mem_cons, List.not_mem_nil, or_false] at ht
    rcases ht with rfl | rfl | rfl <;> exact ⟨by kernel_rfl, of_decide_eq_true (by kernel_rfl)⟩
  · rw [Try.params6]
    intro ds hl
    match ds, hl with
    | [_, _, _], _ => rfl

set_option maxRecDepth 100000 in
theorem lifted (os : Os) (started : os.Started) (H : Type) (enc : TypeId × Value → H) :
    ReturnsInHanded {} Try.checked os 6 .any (Rows.latencyGrowsSpec.pre6 enc Try.prog Try.f6 Rows.latencyGrowsRow.domain false) (Rows.latencyGrowsSpec.post enc Try.prog Try.f6 false true false false) := by
  refine returnsInHanded_of_change_sized (C := Try.checked) own_knob started (by kernel_rfl) Try.func6
    (ChangeSpec.witness6 (enc := enc) (C := Try.checked) false ⟨#[], #[.agg #[.int .i64 0, .int .i64 0, .int .i64 0, .int .i64 0, .int .i64 0, .int .i64 0, .int .i64 0], .slice none 0 0, .int .u8 0], []⟩ 8 (by kernel_rfl) (by kernel_rfl) (by kernel_rfl) (by kernel_rfl)) ?_
  intro W base args ds gs before hval0 hW _ hsz0 _
  exact contract H enc W base args ds gs before hval0 hW hsz0

theorem over : Rows.latencyGrowsRow.holds Try.pinned (OpenSpec.ofChange Rows.latencyGrowsSpec) :=
  OpenClaim.holds_of_wide 6 Try.f6 rfl rfl rfl rfl rfl rfl rfl ⟨rfl, rfl, rfl, rfl, rfl⟩ rfl rfl rfl rfl rfl (by kernel_rfl) Try.func6 (by kernel_rfl)
    (of_decide_eq_true (by kernel_rfl)) (by unfold Func.isWrapper; first | (rw [if_pos (by decide +kernel)]; kernel_rfl) | (rw [if_neg (by decide +kernel)]; exact ⟨rfl, rfl⟩))
    (fun os started H enc _ => lifted os started H enc)

/-- The given statement. -/
theorem proved : Rows.LatencyGrowsSaid := over
end LatencyGrows
#print axioms LatencyGrows.proved
end Go.Proofs.Ytmokpiacioeohaa
