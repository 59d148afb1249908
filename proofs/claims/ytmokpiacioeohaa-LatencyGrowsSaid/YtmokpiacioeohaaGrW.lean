/-
  Graphs: the longest path, of the reference. Plain contract.
-/
import Derived.Test.YtmokpiacioeohaaGrV
import Derived.Deep.QuietTactic
import Derived.BigQuiet
namespace Go.Proofs.Ytmokpiacioeohaa
open Go.RowKit Go.Maps
/-- The sums as an array, by the places of the nodes: -1 where there is none. -/
def arrL (ns : List Q4) (S : Int → Option Int) : List Int := ns.map fun n => (S n.a).getD (-1)
theorem arr_len (ns : List Q4) (S : Int → Option Int) : (arrL ns S).length = ns.length := by simp [arrL]
theorem arr_at {ns : List Q4} (S : Int → Option Int) {k : Nat} {n : Q4} (hx : ns[k]? = some n) : (arrL ns S)[k]? = some ((S n.a).getD (-1)) := by
  unfold arrL
  rw [List.getElem?_map, hx]
  rfl
theorem arr_set {ns : List Q4} (h : ns.Pairwise fun x y => x.a < y.a) (S : Int → Option Int) {k : Nat} {n : Q4} (hx : ns[k]? = some n) (v : Int) : (arrL ns S).set k v = arrL ns (fun y => if y = n.a then some v else S y) := by
  obtain ⟨hk, hx2⟩ := List.getElem?_eq_some_iff.1 hx
  apply List.ext_getElem?
  intro i
  rw [List.getElem?_set, arr_len]
  by_cases hi : i < ns.length
  · obtain ⟨m, hm⟩ : ∃ m, ns[i]? = some m := ⟨_, List.getElem?_eq_getElem hi⟩
    rw [arr_at _ hm, arr_at _ hm]
    obtain ⟨_, hm2⟩ := List.getElem?_eq_some_iff.1 hm
    by_cases e : k = i
    · subst e
      rw [hx] at hm
      injection hm with hm
      subst hm
      simp [hk]
    · rw [if_neg e]
      have : m.a ≠ n.a := by
        rw [← hm2, ← hx2]
        rcases Nat.lt_or_gt_of_ne e with h1 | h1
        · have := List.pairwise_iff_getElem.1 h k i hk hi h1
          omega
        · have := List.pairwise_iff_getElem.1 h i k hi hk h1
          omega
      rw [if_neg this]
  · have h1 : (arrL ns S)[i]? = none := List.getElem?_eq_none (by rw [arr_len]; omega)
    have h2 : (arrL ns (fun y => if y = n.a then some v else S y))[i]? = none := List.getElem?_eq_none (by rw [arr_len]; omega)
    rw [h1, h2]
    split
    · rename_i e
      omega
    · rfl
def fillL (n k : Nat) : List Int := List.replicate k (-1) ++ List.replicate (n - k) 0
theorem fill_len {n k : Nat} (h : k ≤ n) : (fillL n k).length = n := by simp [fillL]; omega
theorem fill_set {n k : Nat} (h : k < n) : (fillL n k).set k (-1) = fillL n (k + 1) := by
  unfold fillL
  rw [List.set_append_right _ _ (by simp), List.length_replicate, Nat.sub_self, show n - k = (n - (k + 1)) + 1 by omega, List.replicate_succ, List.set_cons_zero, List.replicate_succ', List.append_assoc]
  rfl
theorem fill_end (ns : List Q4) (k : Nat) (h : ns.length ≤ k) (h2 : k ≤ ns.length) : fillL ns.length k = arrL ns (fun _ => none) := by
  unfold fillL arrL
  rw [show ns.length - k = 0 by omega, show k = ns.length by omega]
  simp [List.map_const']
theorem max_neg {o : Option Int} {v : Int} (h : 0 ≤ v) : max (o.getD (-1)) v = max (o.getD 0) v := by
  cases o with
  | none => simp only [Option.getD_none]; omega
  | some t => rfl
theorem placeV_some {ns : List Q4} {x : Int} (h : (placeN ns x).isSome = true) : ∃ k n, placeN ns x = some k ∧ placeV (placeN ns x) = (k : Int) ∧ ns[k]? = some n ∧ n.a = x ∧ k < ns.length := by
  obtain ⟨k, hk⟩ := Option.isSome_iff_exists.1 h
  obtain ⟨n, h1, h2⟩ := placeN_some hk
  exact ⟨k, n, hk, by rw [hk]; rfl, h1, h2, (List.getElem?_eq_some_iff.1 h1).1⟩
theorem placeV_none {ns : List Q4} {x : Int} (h : (placeN ns x).isSome = false) : placeV (placeN ns x) = -1 := by
  cases e : placeN ns x with
  | none => rfl
  | some k => rw [e] at h; cases h
theorem wOf_at {ns : List Q4} {ws : List Int} {x : Int} {k : Nat} (h : placeN ns x = some k) : wOf ns ws x = ws.getD k 0 := by
  unfold wOf
  rw [h]
/-- An array of integers in a block of its own. -/
def ArrI (w : World) (base g : Nat) (n : Nat) (l : List Int) : Prop := l.length = n ∧ OwnI w base (.slice (some ⟨g, 0, none⟩) n n) l
section
variable {w w' : World} {base g n : Nat} {l : List Int}
theorem ArrI.own (h : ArrI w base g n l) : w.ownsRow base 3 1 (.slice (some ⟨g, 0, none⟩) n n) n (l.map (Value.int .i64)) := by
  have := h.2
  unfold OwnI at this
  rwa [h.1] at this
theorem ArrI.of (hl : l.length = n) (h : w.ownsRow base 3 1 (.slice (some ⟨g, 0, none⟩) n n) n (l.map (Value.int .i64))) : ArrI w base g n l := by
  refine ⟨hl, ?_⟩
  unfold OwnI
  rw [hl]
  exact h
theorem ArrI.cell (h : ArrI w base g n l) {k : Nat} {x : Int} (hx : l[k]? = some x) : w.cell? ⟨g, k, none⟩ = some (.int .i64 x) := by
  have hk := (List.getElem?_eq_some_iff.1 hx).1
  rw [h.own.cellAt k (by have := h.1; omega), List.getElem?_map, hx]
  rfl
theorem ArrI.frozen (h : ArrI w base g n l) (k : Nat) : w.frozen? ⟨g, k, none⟩ = false := h.own.frozenAt k
theorem ArrI.put (h : ArrI w base g n l) (k : Nat) (v : Int) : ArrI (w.setCell ⟨g, k, none⟩ (.int .i64 v)) base g n (l.set k v) ∧ w.grownBy (w.setCell ⟨g, k, none⟩ (.int .i64 v)) (some g) := by
  obtain ⟨h1, h2⟩ := h.own.stored k (.int .i64 v)
  refine ⟨ArrI.of (by rw [List.length_set]; exact h.1) ?_, h2⟩
  rw [← List.map_set] at h1
  exact h1
theorem ArrI.grows (h : ArrI w base g n l) (hg : Grows w w') : ArrI w' base g n l := ⟨h.1, h.2.grows hg⟩
theorem ArrI.lt (h : ArrI w base g n l) : base ≤ g ∧ g < w.heap.size := World.ownsRow.lt h.own g rfl
theorem ArrI.mono (h : ArrI w base g n l) {base' : Nat} (hb : base' ≤ base) : ArrI w base' g n l := ⟨h.1, h.2.mono hb⟩
theorem ArrI.kept (h : ArrI w base g n l) {row : Option Nat} (hg : w.grownBy w' row) (hne : some g ≠ row) : ArrI w' base g n l := ⟨h.1, World.ownsRow.kept h.2 hg (.inr hne)⟩
theorem ArrI.ne_blk (h : ArrI w base g n l) {g' : Nat} {t : TypeId} {cs : Array Value} (hb : Blk w g' t cs) (hne : 3 ≠ t) : some g' ≠ some g := fun e => own_blk_ne h.own hb hne e.symm
end
theorem made_zero (w : World) (base g n : Nat) (h : w.ownsRow base 3 1 (.slice (some ⟨g, 0, none⟩) n n) n (madeCells (Value.int .i64 0).cells (n * 1)).toList) : ArrI w base g n (List.replicate n 0) := by
  refine ArrI.of (by simp) ?_
  have e : (madeCells (Value.int .i64 0).cells (n * 1)).toList = (List.replicate n (0 : Int)).map (Value.int .i64) := by
    simp [madeCells, Value.cells, Nat.mod_one, List.map_const']
  rw [← e]
  exact h
theorem place_is (A A2 : Option Addr) (c c2 m : Nat) (ns : List Q4) (id : Int) (z : Int) (w : World) (h : Qs w A ns) (hl : ns.length ≤ 9223372036854775807) (hz : placeV (placeN ns id) = z) :
    Calls Try.prog 34 #[.agg #[.slice A ns.length c, .slice A2 m c2], .int .i64 id] w fun e w' => e = .returned (.int .i64 z) ∧ Grows w w' := by
  subst hz
  exact place_any A A2 c c2 m ns id w h hl
theorem grows_drewN (w : World) (n : Nat) : Grows w (w.drewN n) := ⟨rfl, rfl, rfl, Nat.le_refl _, fun _ _ => rfl⟩
theorem mid_sb0 {W : Int → Int} (hW : WB W) {ls : List Q4} {od : List Int} {a : Int} (hl : ls.length ≤ 256) (ho : od.length ≤ 64) : SB (longS W ls od a) 100000000000000000 := (sb_at hW hl od).mono (by omega)
set_option maxRecDepth 100000 in
set_option maxHeartbeats 16000000 in
theorem rlong_any {A A2 A3 : Option Addr} {c c2 c3 : Nat} {ns ls : List Q4} {ws : List Int} {w : World} (a b : Int) (h : GOK w A A2 c2 ns ls) (h3 : Ints w A3 ws) (hl3 : ws.length ≤ 9223372036854775807) :
    Calls Try.prog 18 #[.agg #[.slice A ns.length c, .slice A2 ls.length c2], .slice A3 ws.length c3, .int .i64 a, .int .i64 b] w fun e w' => e = .returned (.tuple #[.int .i64 (longG ns ls ws a b).1, .int .i64 (longG ns ls ws a b).2]) ∧ Grows w w' := by
  have hnl := h.nl
  have k1 := Blk.new w 40 #[.slice A ns.length c, .slice A2 ls.length c2]
  have hB := (Below.refl w.heap.size w).alloc (Nat.le_refl _) (Obj.cells #[.slice A ns.length c, .slice A2 ls.length c2] 40)
  go_enter Try.func18, Try.ntmps18
  go_upto_region 1 with fail
  generalize World.alloc w _ = w1 at *
  have x1 := k1.cell
  go_wp2_with fail
  refine (rvalid_is (h.grows hB)).mono ?_
  cases hv : validG ns ls
  · have HL := Lib.hid (long_no1 (ws := ws) (a := a) (b := b) hv)
    clear hv
    rintro e w2 ⟨rfl, hq⟩
    replace hB := below_grows hB (Nat.le_refl _) hq
    clear hq x1
    go_wp2
    go_ret2
    rw [HL.out]
    exact ⟨rfl, hB⟩
  rintro e w2 ⟨rfl, hq⟩
  have HV := Lib.hid hv
  clear hv
  replace hB := below_grows hB (Nat.le_refl _) hq
  replace k1 := k1.grows hq
  clear hq x1
  have x1 := k1.cell
  by_cases hlen : ws.length = ns.length
  case neg =>
    have HL : Hid (longG ns ls ws a b = (0, 1)) := Lib.hid (long_no2 (by simp [okW, hlen]))
    have hlen2 : ((ws.length : Int) != (ns.length : Int)) = true := by
      simp only [bne_iff_ne, ne_eq]
      omega
    go_wp2
    go_ret2
    rw [HL.out]
    exact ⟨rfl, hB⟩
  have hlen2 : ((ws.length : Int) != (ns.length : Int)) = false := by
    simp only [bne_eq_false_iff_eq]
    omega
  have HLen := Lib.hid hlen
  have hln := (valid_len HV.out).1
  have hLs := (valid_len HV.out).2
  have hlw : ws.length ≤ ns.length := by omega
  have hlw2 : ns.length ≤ ws.length := by omega
  clear hlen
  go_wp2_with fail
  clear x1 hlen2
  go_loop [10] (fun i => ∃ k : Nat, k ≤ ws.length ∧ i = .int .i64 k ∧ Hid ((ws.take k).any badW = false)) (fun i => ws.length - (intOf i).toNat)
  case atStart => exact ⟨0, by omega, rfl, Lib.hid rfl⟩
  case round =>
    obtain ⟨k, hk, rfl, HA⟩ := hrel
    by_cases hlt : k < ws.length
    · obtain ⟨ad, x, e1, had, hx, q0⟩ := (h3.grows hB).at_ hlt
      subst e1
      have HX := Lib.hid hx
      clear hx
      by_cases hb1 : x < 0
      · have HL : Hid (longG ns ls ws a b = (0, 1)) := Lib.hid (long_no2 (by
          have : ws.any badW = true := List.any_eq_true.2 ⟨x, List.mem_of_getElem? HX.out, by simp [badW, hb1]⟩
          simp [okW, this]))
        go_wp2
        go_ret2
        rw [HL.out]
        exact ⟨rfl, hB⟩
      by_cases hb2 : 1099511627776 < x
      · have HL : Hid (longG ns ls ws a b = (0, 1)) := Lib.hid (long_no2 (by
          have : ws.any badW = true := List.any_eq_true.2 ⟨x, List.mem_of_getElem? HX.out, by simp [badW, hb2]⟩
          simp [okW, this]))
        go_wp2
        go_ret2
        rw [HL.out]
        exact ⟨rfl, hB⟩
      have HA2 : Hid ((ws.take (k + 1)).any badW = false) := Lib.hid (by
        rw [take_snoc HX.out, List.any_append, HA.out]
        simp [badW, hb1, hb2])
      go_wp2
      go_round
      case rel => exact ⟨k + 1, by omega, by go_num, HA2⟩
      case measure => simp [intOf]; omega
    · have HW : Hid (okW ns ws = true) := Lib.hid (by
        have := HA.out
        rw [List.take_of_length_le (by omega)] at this
        simp [okW, this, HLen.out])
      clear HA
      go_upto_region 8 with fail
      generalize w2 = w3 at *
      obtain ⟨S, HI, HO⟩ : ∃ S : Ran → (Nat → Value) → World → Prop, Hid (∀ L vs w', (Grows w3 w' ∧ KnS [some (.agg #[.slice A ns.length c, .slice A2 ls.length c2]), some (.int .i64 a), some (.int .i64 (placeV (placeN ns a))), some (.agg #[.slice A ns.length c, .slice A2 ls.length c2]), some (.int .i64 b), some (.int .i64 (placeV (placeN ns b))), some (.int .i64 (placeV (placeN ns a))), some (.int .i64 (placeV (placeN ns b)))] L vs) → S L vs w') ∧ Hid (∀ L vs w', S L vs w' → (Grows w3 w' ∧ KnS [some (.agg #[.slice A ns.length c, .slice A2 ls.length c2]), some (.int .i64 a), some (.int .i64 (placeV (placeN ns a))), some (.agg #[.slice A ns.length c, .slice A2 ls.length c2]), some (.int .i64 b), some (.int .i64 (placeV (placeN ns b))), some (.int .i64 (placeV (placeN ns a))), some (.int .i64 (placeV (placeN ns b)))] L vs)) := ⟨fun L vs w' => Grows w3 w' ∧ KnS [some (.agg #[.slice A ns.length c, .slice A2 ls.length c2]), some (.int .i64 a), some (.int .i64 (placeV (placeN ns a))), some (.agg #[.slice A ns.length c, .slice A2 ls.length c2]), some (.int .i64 b), some (.int .i64 (placeV (placeN ns b))), some (.int .i64 (placeV (placeN ns a))), some (.int .i64 (placeV (placeN ns b)))] L vs, fun _ _ _ h => h, fun _ _ _ h => h⟩
      refine wp_region_genW S 158 (by kernel_rfl) (by kernel_rfl) rfl ?_ ?_
      · exact HI.out _ _ _ ⟨Grows.drew' _, kn_none _ _⟩
      refine gen_cons (A' := ?_) (fun vs L w1 hL hw1 => ?_) ?_ ?_
      rotate_left 1
      · obtain ⟨q0, q1⟩ := HO.out _ _ _ hw1
        refine gen_plain rfl ?_
        have x := (k1.grows q0).cell 
        go_simp
        exact gr_val (HI.out _ _ _ ⟨q0, kn_known q1 rfl⟩)
      · intro vs
        simp only [Act.put, List.setIfInBounds_toArray, List.set_cons_succ, List.set_cons_zero]
        rfl
      refine gen_cons (A' := ?_) (fun vs L w1 hL hw1 => ?_) ?_ ?_
      rotate_left 1
      · obtain ⟨q0, q1⟩ := HO.out _ _ _ hw1
        refine gen_plain rfl ?_
        go_simp
        exact gr_val (HI.out _ _ _ ⟨q0, kn_known q1 rfl⟩)
      · intro vs
        simp only [Act.put, List.setIfInBounds_toArray, List.set_cons_succ, List.set_cons_zero]
        rfl
      refine gen_cons (A' := ?_) (fun vs L w1 hL hw1 => ?_) ?_ ?_
      rotate_left 1
      · obtain ⟨q0, q1⟩ := HO.out _ _ _ hw1
        refine gen_plain rfl ?_
        have l0 : L 0 = true := hL.need 0 (by kernel_rfl)
        have e0 := q1 0 _ rfl l0
        have l1 : L 1 = true := hL.need 1 (by kernel_rfl)
        have e1 := q1 1 _ rfl l1
        simp only [e0, e1]
        go_simp
        refine gr_call ?_
        refine (place_any A A2 c c2 ls.length ns a w1 (h.n.grows (below_grows hB (Nat.le_refl _) q0)) h.nl).mono ?_
        rintro e w2 ⟨rfl, hg⟩
        exact ⟨_, rfl, HI.out _ _ _ ⟨below_grows q0 (Nat.le_refl _) hg, kn_known q1 rfl⟩⟩
      · intro vs
        simp only [Act.put, List.setIfInBounds_toArray, List.set_cons_succ, List.set_cons_zero]
        rfl
      refine gen_cons (A' := ?_) (fun vs L w1 hL hw1 => ?_) ?_ ?_
      rotate_left 1
      · obtain ⟨q0, q1⟩ := HO.out _ _ _ hw1
        refine gen_plain rfl ?_
        have x := (k1.grows q0).cell 
        go_simp
        exact gr_val (HI.out _ _ _ ⟨q0, kn_known q1 rfl⟩)
      · intro vs
        simp only [Act.put, List.setIfInBounds_toArray, List.set_cons_succ, List.set_cons_zero]
        rfl
      refine gen_cons (A' := ?_) (fun vs L w1 hL hw1 => ?_) ?_ ?_
      rotate_left 1
      · obtain ⟨q0, q1⟩ := HO.out _ _ _ hw1
        refine gen_plain rfl ?_
        go_simp
        exact gr_val (HI.out _ _ _ ⟨q0, kn_known q1 rfl⟩)
      · intro vs
        simp only [Act.put, List.setIfInBounds_toArray, List.set_cons_succ, List.set_cons_zero]
        rfl
      refine gen_cons (A' := ?_) (fun vs L w1 hL hw1 => ?_) ?_ ?_
      rotate_left 1
      · obtain ⟨q0, q1⟩ := HO.out _ _ _ hw1
        refine gen_plain rfl ?_
        have l3 : L 3 = true := hL.need 3 (by kernel_rfl)
        have e3 := q1 3 _ rfl l3
        have l4 : L 4 = true := hL.need 4 (by kernel_rfl)
        have e4 := q1 4 _ rfl l4
        simp only [e3, e4]
        go_simp
        refine gr_call ?_
        refine (place_any A A2 c c2 ls.length ns b w1 (h.n.grows (below_grows hB (Nat.le_refl _) q0)) h.nl).mono ?_
        rintro e w2 ⟨rfl, hg⟩
        exact ⟨_, rfl, HI.out _ _ _ ⟨below_grows q0 (Nat.le_refl _) hg, kn_known q1 rfl⟩⟩
      · intro vs
        simp only [Act.put, List.setIfInBounds_toArray, List.set_cons_succ, List.set_cons_zero]
        rfl
      refine gen_cons (A' := ?_) (fun vs L w1 hL hw1 => ?_) ?_ ?_
      rotate_left 1
      · obtain ⟨q0, q1⟩ := HO.out _ _ _ hw1
        refine gen_plain rfl ?_
        have l2 : L 2 = true := hL.need 2 (by kernel_rfl)
        have e2 := q1 2 _ rfl l2
        simp only [e2]
        go_simp
        exact gr_val (HI.out _ _ _ ⟨q0, kn_known q1 rfl⟩)
      · intro vs
        simp only [Act.put, List.setIfInBounds_toArray, List.set_cons_succ, List.set_cons_zero]
        rfl
      refine gen_cons (A' := ?_) (fun vs L w1 hL hw1 => ?_) ?_ ?_
      rotate_left 1
      · obtain ⟨q0, q1⟩ := HO.out _ _ _ hw1
        refine gen_plain rfl ?_
        have l5 : L 5 = true := hL.need 5 (by kernel_rfl)
        have e5 := q1 5 _ rfl l5
        simp only [e5]
        go_simp
        exact gr_val (HI.out _ _ _ ⟨q0, kn_known q1 rfl⟩)
      · intro vs
        simp only [Act.put, List.setIfInBounds_toArray, List.set_cons_succ, List.set_cons_zero]
        rfl
      refine gen_nil ?_
      intro vs L W6 hall hS
      obtain ⟨hq, q1⟩ := HO.out _ _ _ hS
      have eX7 := q1 7 _ rfl (hall 7 (by simp))
      have eX6 := q1 6 _ rfl (hall 6 (by simp))
      clear hall hS HI HO q1
      simp only [eX7, eX6]
      replace hB := below_grows hB (Nat.le_refl _) hq
      replace k1 := k1.grows hq
      clear hq
      clear eX6 eX7
      simp only [Nat.zero_add, Nat.reduceAdd]
      generalize W6 = w4 at *
      cases hpa : (placeN ns a).isSome
      case false =>
        have HL := Lib.hid (long_no3 HV.out HW.out (.inl hpa) (b := b))
        have HP := Lib.hid (placeV_none hpa)
        clear hpa
        rw [HP.out]
        generalize placeV (placeN ns b) = zb at *
        go_wp2
        go_ret2
        rw [HL.out]
        exact ⟨rfl, hB⟩
      obtain ⟨ka, na, pa1, pa2, hna, hna2, hka⟩ := placeV_some hpa
      rw [pa2]
      cases hpb : (placeN ns b).isSome
      case false =>
        have HL := Lib.hid (long_no3 HV.out HW.out (.inr hpb) (a := a))
        have HP := Lib.hid (placeV_none hpb)
        clear hpa hpb pa1 pa2 hna hna2
        rw [HP.out]
        go_wp2
        go_ret2
        rw [HL.out]
        exact ⟨rfl, hB⟩
      obtain ⟨kb, nb, pb1, pb2, hnb, hnb2, hkb⟩ := placeV_some hpb
      rw [pb2]
      have HL := Lib.hid (long_yes HV.out HW.out hpa hpb)
      have HNa : Hid (ns[ka]? = some na ∧ na.a = a ∧ placeN ns a = some ka) := Lib.hid ⟨hna, hna2, pa1⟩
      have HNb : Hid (ns[kb]? = some nb ∧ nb.a = b ∧ placeN ns b = some kb) := Lib.hid ⟨hnb, hnb2, pb1⟩
      clear hpa hpb pa1 pa2 hna hna2 pb1 pb2 hnb hnb2
      have x1 := k1.cell
      go_wp2_with fail
      refine (rorder_yes (h.grows hB) HV.out).mono ?_
      rintro e w5 ⟨⟨v, rfl, ho⟩, hq⟩
      replace ho := ho.mono hB.size
      replace hB := below_grows hB (Nat.le_refl _) hq
      replace k1 := k1.grows hq
      clear hq x1
      generalize hod : orderL ns ls = od at *
      have HOD := Lib.hid hod
      clear hod
      have hol : od.length ≤ 64 := by rw [← HOD.out]; exact order_len64 HV.out
      obtain ⟨A4, c4, rfl, hc4, -⟩ := ho.read
      go_upto_region 12 with fail
      have x1 := k1.cell 0
      refine wp_region_lit ?_
      iterate 3
        refine wpList_plain rfl (fun K hK => ?_)
        go_simp
        refine hK _ _ ?_
        clear hK K
      obtain ⟨i0, hi0, hi1, hi2, hi3, hi4⟩ := iinfo
      refine wpList_make_full _ rfl (.tmp 69) (.tmp 69) 36 rfl w.heap.size 3 i0 (.int .i64 0) 1 Try.underlying36 hi0 hi3 hi1 .i64 .i64 ns.length ns.length ns.length rfl rfl rfl rfl (by rw [hi2]; omega) (by simp only [maxLen]; omega) hB.size ?_
      intro w6 hz hg6
      have hS := made_zero _ _ _ _ hz
      have hge : w.heap.size ≤ w5.heap.size := hB.size
      have ho0 := ho
      have hq : Grows w5 w6 := (Below.refl _ _).grown hg6 (Nat.le_refl _) (fun q e => by cases e)
      replace hB := below_grows hB (Nat.le_refl _) hq
      replace k1 := k1.grows hq
      replace ho := ho.grows hq
      have hno : Value.ownBlock (.slice A4 od.length c4) ≠ some w5.heap.size := fun e => by
        have := World.ownsRow.lt ho0 _ e
        omega
      generalize w5.heap.size = Gs at *
      clear hz hg6 hi0 hi1 hi2 hi3 hi4 x1 hq ho0 w5
      have HNO := Lib.hid hno
      clear hno
      have HA : Hid (ns.Pairwise fun x y => x.a < y.a) := Lib.hid (okN_asc (valid_parts.1 HV.out).2.2.1)
      go_wp2_with fail
      go_loopw [16] (fun i wr => ∃ k : Nat, k ≤ ns.length ∧ i = .int .i64 k ∧ ArrI wr w.heap.size Gs ns.length (fillL ns.length k) ∧ OwnI wr w.heap.size (.slice A4 od.length c4) od ∧ Blk wr w.heap.size 40 #[.slice A ns.length c, .slice A2 ls.length c2] ∧ Below w.heap.size w wr) (fun i _ => ns.length - (intOf i).toNat)
      case atStart => exact ⟨0, by omega, rfl, by simpa [fillL] using hS, ho, k1, hB⟩
      case round =>
        clear hS ho k1 hB
        obtain ⟨k, hk, rfl, hS, ho, k1, hB⟩ := hrel
        by_cases hlt : k < ns.length
        · have hfz := hS.frozen k
          obtain ⟨x, hx⟩ : ∃ x, (fillL ns.length k)[k]? = some x := ⟨_, List.getElem?_eq_getElem (by rw [fill_len hk]; exact hlt)⟩
          have hcl := hS.cell hx
          clear hx
          obtain ⟨hS2, hg2⟩ := hS.put k (-1)
          rw [fill_set hlt] at hS2
          have ho2 : OwnI _ w.heap.size _ od := World.ownsRow.kept ho hg2 (.inr HNO.out)
          have k12 := k1.grown hg2 (hS.ne_blk k1 (by decide))
          have hB2 := hB.grown hg2 hB.size (fun q e => by injection e with e; subst e; exact hge)
          go_wp2
          go_roundw
          case rel => exact ⟨k + 1, by omega, by go_num, hS2, ho2, k12, hB2⟩
          case measure => simp [intOf]; omega
        · rw [fill_end ns k (by omega) hk] at hS
          obtain ⟨ad3, z, e3, had3, hz, p0⟩ := (h3.grows hB).at_ (k := ka) (by omega)
          subst e3
          have HZ : Hid (wOf ns ws a = z) := Lib.hid (by rw [wOf_at HNa.out.2.2, List.getD_eq_getElem?_getD, hz]; rfl)
          clear hz
          have hkw : ka < ws.length := by omega
          have hfz := hS.frozen ka
          have hcl := hS.cell (arr_at (fun _ => none) HNa.out.1)
          obtain ⟨hS2, hg2⟩ := hS.put ka z
          have e0 : (arrL ns (fun _ => none)).set ka z = arrL ns (startL (wOf ns ws) a) := by
            rw [arr_set HA.out _ HNa.out.1, HNa.out.2.1]
            unfold startL
            rw [HZ.out]
          rw [e0] at hS2
          clear e0
          have ho2 : OwnI _ w.heap.size _ od := World.ownsRow.kept ho hg2 (.inr HNO.out)
          have k12 := k1.grown hg2 (hS.ne_blk k1 (by decide))
          have hB2 := hB.grown hg2 hB.size (fun q e => by injection e with e; subst e; exact hge)
          clear hS hg2 ho k1 hB
          go_upto_region 18 with fail
          clear p0 hfz hcl
          generalize World.setCell wr _ _ = w7 at *
          go_wp2_with fail
          have HWB := Lib.hid (wb_of HW.out)
          go_loopw [17] (fun i wr => ∃ k : Nat, k ≤ od.length ∧ i = .int .i64 k ∧ ArrI wr w.heap.size Gs ns.length (arrL ns (stS (wOf ns ws) ls od a k)) ∧ OwnI wr w.heap.size (.slice A4 od.length c4) od ∧ Blk wr w.heap.size 40 #[.slice A ns.length c, .slice A2 ls.length c2] ∧ Below w.heap.size w wr) (fun i _ => od.length - (intOf i).toNat)
          case atStart => exact ⟨0, by omega, rfl, hS2, ho2, k12, hB2⟩
          case round =>
            clear hS2 ho2 k12 hB2
            obtain ⟨k, hk, rfl, hS, ho, k1, hB⟩ := hrel
            by_cases hlt : k < od.length
            · obtain ⟨ad, id, e1, had, hx, p0⟩ := ho.ints.at_ hlt
              subst e1
              have HX := Lib.hid hx
              obtain ⟨ni, hni, hni2⟩ := order_mem (ns := ns) (ls := ls) (i := id) (by rw [HOD.out]; exact List.mem_of_getElem? hx)
              obtain ⟨ki, n0, pi1, pi2, hn0, hn02, hki⟩ := placeV_some (ns := ns) (x := id) (by rw [← hni2]; exact place_in hni)
              have HPI := Lib.hid pi2
              have HNI : Hid (ns[ki]? = some n0 ∧ n0.a = id ∧ placeN ns id = some ki) := Lib.hid ⟨hn0, hn02, pi1⟩
              clear hx hni hni2 pi1 pi2 hn0 hn02
              go_upto_region 21 with fail
              generalize wr = w8 at *
              obtain ⟨S, HI, HO⟩ : ∃ S : Ran → (Nat → Value) → World → Prop, Hid (∀ L vs w', (Grows w8 w' ∧ KnS [some (.agg #[.slice A ns.length c, .slice A2 ls.length c2]), some (.slice (some ad) od.length c4), some (.int .i64 (k : Int)), some (.pointer (some (ad.add k))), some (.int .i64 id), some (.int .i64 (ki : Int)), some (.int .i64 (ki : Int))] L vs) → S L vs w') ∧ Hid (∀ L vs w', S L vs w' → (Grows w8 w' ∧ KnS [some (.agg #[.slice A ns.length c, .slice A2 ls.length c2]), some (.slice (some ad) od.length c4), some (.int .i64 (k : Int)), some (.pointer (some (ad.add k))), some (.int .i64 id), some (.int .i64 (ki : Int)), some (.int .i64 (ki : Int))] L vs)) := ⟨fun L vs w' => Grows w8 w' ∧ KnS [some (.agg #[.slice A ns.length c, .slice A2 ls.length c2]), some (.slice (some ad) od.length c4), some (.int .i64 (k : Int)), some (.pointer (some (ad.add k))), some (.int .i64 id), some (.int .i64 (ki : Int)), some (.int .i64 (ki : Int))] L vs, fun _ _ _ h => h, fun _ _ _ h => h⟩
              refine wp_region_genW S 158 (by kernel_rfl) (by kernel_rfl) rfl ?_ ?_
              · exact HI.out _ _ _ ⟨Grows.drew' _, kn_none _ _⟩
              refine gen_cons (A' := ?_) (fun vs L w1 hL hw1 => ?_) ?_ ?_
              rotate_left 1
              · obtain ⟨q0, q1⟩ := HO.out _ _ _ hw1
                refine gen_plain rfl ?_
                have x := (k1.grows q0).cell 
                go_simp
                exact gr_val (HI.out _ _ _ ⟨q0, kn_known q1 rfl⟩)
              · intro vs
                simp only [Act.put, List.setIfInBounds_toArray, List.set_cons_succ, List.set_cons_zero]
                rfl
              refine gen_cons (A' := ?_) (fun vs L w1 hL hw1 => ?_) ?_ ?_
              rotate_left 1
              · obtain ⟨q0, q1⟩ := HO.out _ _ _ hw1
                refine gen_plain rfl ?_
                go_simp
                exact gr_val (HI.out _ _ _ ⟨q0, kn_known q1 rfl⟩)
              · intro vs
                simp only [Act.put, List.setIfInBounds_toArray, List.set_cons_succ, List.set_cons_zero]
                rfl
              refine gen_cons (A' := ?_) (fun vs L w1 hL hw1 => ?_) ?_ ?_
              rotate_left 1
              · obtain ⟨q0, q1⟩ := HO.out _ _ _ hw1
                refine gen_plain rfl ?_
                go_simp
                exact gr_val (HI.out _ _ _ ⟨q0, kn_known q1 rfl⟩)
              · intro vs
                simp only [Act.put, List.setIfInBounds_toArray, List.set_cons_succ, List.set_cons_zero]
                rfl
              refine gen_cons (A' := ?_) (fun vs L w1 hL hw1 => ?_) ?_ ?_
              rotate_left 1
              · obtain ⟨q0, q1⟩ := HO.out _ _ _ hw1
                refine gen_plain rfl ?_
                have l1 : L 1 = true := hL.need 1 (by kernel_rfl)
                have e1 := q1 1 _ rfl l1
                have l2 : L 2 = true := hL.need 2 (by kernel_rfl)
                have e2 := q1 2 _ rfl l2
                simp only [e1, e2]
                go_simp
                exact gr_val (HI.out _ _ _ ⟨q0, kn_known q1 rfl⟩)
              · intro vs
                simp only [Act.put, List.setIfInBounds_toArray, List.set_cons_succ, List.set_cons_zero]
                rfl
              refine gen_cons (A' := ?_) (fun vs L w1 hL hw1 => ?_) ?_ ?_
              rotate_left 1
              · obtain ⟨q0, q1⟩ := HO.out _ _ _ hw1
                refine gen_plain rfl ?_
                have l3 : L 3 = true := hL.need 3 (by kernel_rfl)
                have e3 := q1 3 _ rfl l3
                simp only [e3]
                have x := q0.cell (p := ad.add k) (by rw [block_of_add]; exact had)
                rw [p0] at x
                go_simp
                exact gr_val (HI.out _ _ _ ⟨q0, kn_known q1 rfl⟩)
              · intro vs
                simp only [Act.put, List.setIfInBounds_toArray, List.set_cons_succ, List.set_cons_zero]
                rfl
              refine gen_cons (A' := ?_) (fun vs L w1 hL hw1 => ?_) ?_ ?_
              rotate_left 1
              · obtain ⟨q0, q1⟩ := HO.out _ _ _ hw1
                refine gen_plain rfl ?_
                have l0 : L 0 = true := hL.need 0 (by kernel_rfl)
                have e0 := q1 0 _ rfl l0
                have l4 : L 4 = true := hL.need 4 (by kernel_rfl)
                have e4 := q1 4 _ rfl l4
                simp only [e0, e4]
                go_simp
                refine gr_call ?_
                refine (place_is A A2 c c2 ls.length ns id ki w1 (h.n.grows (below_grows hB (Nat.le_refl _) q0)) h.nl HPI.out).mono ?_
                rintro e w2 ⟨rfl, hg⟩
                exact ⟨_, rfl, HI.out _ _ _ ⟨below_grows q0 (Nat.le_refl _) hg, kn_known q1 rfl⟩⟩
              · intro vs
                simp only [Act.put, List.setIfInBounds_toArray, List.set_cons_succ, List.set_cons_zero]
                rfl
              refine gen_cons (A' := ?_) (fun vs L w1 hL hw1 => ?_) ?_ ?_
              rotate_left 1
              · obtain ⟨q0, q1⟩ := HO.out _ _ _ hw1
                refine gen_plain rfl ?_
                have l5 : L 5 = true := hL.need 5 (by kernel_rfl)
                have e5 := q1 5 _ rfl l5
                simp only [e5]
                go_simp
                exact gr_val (HI.out _ _ _ ⟨q0, kn_known q1 rfl⟩)
              · intro vs
                simp only [Act.put, List.setIfInBounds_toArray, List.set_cons_succ, List.set_cons_zero]
                rfl
              refine gen_nil ?_
              intro vs L W6 hall hS
              obtain ⟨hq, q1⟩ := HO.out _ _ _ hS
              have eX6 := q1 6 _ rfl (hall 6 (by simp))
              clear hall hS HI HO q1
              simp only [eX6]
              clear eX6
              simp only [Nat.zero_add, Nat.reduceAdd]
              have hp0 := hq.cell (p := ad.add k) (by rw [block_of_add]; exact had)
              rw [p0] at hp0
              replace hB := below_grows hB (Nat.le_refl _) hq
              replace k1 := k1.grows hq
              replace ho := ho.grows hq
              replace hS := hS.grows hq
              clear hq p0 hp0
              have x1 := k1.cell
              go_wp2_with fail
              clear x1
              go_loopw [19] (fun i wr => ∃ j : Nat, j ≤ ls.length ∧ i = .int .i64 j ∧ ArrI wr w.heap.size Gs ns.length (arrL ns (midS (wOf ns ws) ls od a k id ls j)) ∧ OwnI wr w.heap.size (.slice (some ad) od.length c4) od ∧ Blk wr w.heap.size 40 #[.slice A ns.length c, .slice A2 ls.length c2] ∧ Below w.heap.size w wr) (fun i _ => ls.length - (intOf i).toNat)
              case atStart => exact ⟨0, by omega, rfl, hS, ho, k1, hB⟩
              case round =>
                clear hS ho k1 hB
                obtain ⟨j, hj, rfl, hS, ho, k1, hB⟩ := hrel
                by_cases hlt2 : j < ls.length
                · obtain ⟨ad2, l, e2, had2, hx2, q0, q1, q2, q3⟩ := (h.grows hB).l.elem hlt2
                  obtain ⟨ad2', l', e2', -, hx2', hp⟩ := h.l.addr hlt2
                  subst e2
                  injection e2' with e2'
                  subst e2'
                  rw [hx2] at hx2'
                  injection hx2' with hx2'
                  subst hx2'
                  have HX2 := Lib.hid hx2
                  obtain ⟨nl, hnl1⟩ := (ends_node (((okK_iff ns ls).1 (valid_parts.1 HV.out).2.2.2.1).1 l (List.mem_of_getElem? hx2))).1
                  obtain ⟨hnl2, hnl3⟩ := find_some hnl1
                  obtain ⟨pl, n1, pl1, pl2, hn1, hn12, hpl⟩ := placeV_some (ns := ns) (x := l.a) (by rw [← hnl3]; exact place_in hnl2)
                  have HPL := Lib.hid pl2
                  have HNL : Hid (ns[pl]? = some n1 ∧ n1.a = l.a ∧ placeN ns l.a = some pl) := Lib.hid ⟨hn1, hn12, pl1⟩
                  clear hx2 hnl1 hnl2 hnl3 pl1 pl2 hn1 hn12 q0 q1 q2 q3
                  have x1 := k1.cell
                  go_upto_region 25 with fail
                  clear x1
                  generalize wr = w9 at *
                  obtain ⟨S, HI, HO⟩ : ∃ S : Ran → (Nat → Value) → World → Prop, Hid (∀ L vs w', (Grows w9 w' ∧ KnS [some (.agg #[.slice A ns.length c, .slice (some ad2) ls.length c2]), some (.pointer (some ⟨w.heap.size, 1, none⟩)), some (.slice (some ad2) ls.length c2), some (.int .i64 (j : Int)), some (.pointer (some (ad2.add (j * 4)))), some (.pointer (some (ad2.add (j * 4)))), some (.int .i64 l.a), some (.int .i64 (pl : Int)), some (.int .i64 (pl : Int))] L vs) → S L vs w') ∧ Hid (∀ L vs w', S L vs w' → (Grows w9 w' ∧ KnS [some (.agg #[.slice A ns.length c, .slice (some ad2) ls.length c2]), some (.pointer (some ⟨w.heap.size, 1, none⟩)), some (.slice (some ad2) ls.length c2), some (.int .i64 (j : Int)), some (.pointer (some (ad2.add (j * 4)))), some (.pointer (some (ad2.add (j * 4)))), some (.int .i64 l.a), some (.int .i64 (pl : Int)), some (.int .i64 (pl : Int))] L vs)) := ⟨fun L vs w' => Grows w9 w' ∧ KnS [some (.agg #[.slice A ns.length c, .slice (some ad2) ls.length c2]), some (.pointer (some ⟨w.heap.size, 1, none⟩)), some (.slice (some ad2) ls.length c2), some (.int .i64 (j : Int)), some (.pointer (some (ad2.add (j * 4)))), some (.pointer (some (ad2.add (j * 4)))), some (.int .i64 l.a), some (.int .i64 (pl : Int)), some (.int .i64 (pl : Int))] L vs, fun _ _ _ h => h, fun _ _ _ h => h⟩
                  refine wp_region_genW S 158 (by kernel_rfl) (by kernel_rfl) rfl ?_ ?_
                  · exact HI.out _ _ _ ⟨Grows.drew' _, kn_none _ _⟩
                  refine gen_cons (A' := ?_) (fun vs L w1 hL hw1 => ?_) ?_ ?_
                  rotate_left 1
                  · obtain ⟨q0, q1⟩ := HO.out _ _ _ hw1
                    refine gen_plain rfl ?_
                    have x := (k1.grows q0).cell 
                    go_simp
                    exact gr_val (HI.out _ _ _ ⟨q0, kn_known q1 rfl⟩)
                  · intro vs
                    simp only [Act.put, List.setIfInBounds_toArray, List.set_cons_succ, List.set_cons_zero]
                    rfl
                  refine gen_cons (A' := ?_) (fun vs L w1 hL hw1 => ?_) ?_ ?_
                  rotate_left 1
                  · obtain ⟨q0, q1⟩ := HO.out _ _ _ hw1
                    refine gen_plain rfl ?_
                    go_simp
                    exact gr_val (HI.out _ _ _ ⟨q0, kn_known q1 rfl⟩)
                  · intro vs
                    simp only [Act.put, List.setIfInBounds_toArray, List.set_cons_succ, List.set_cons_zero]
                    rfl
                  refine gen_cons (A' := ?_) (fun vs L w1 hL hw1 => ?_) ?_ ?_
                  rotate_left 1
                  · obtain ⟨q0, q1⟩ := HO.out _ _ _ hw1
                    refine gen_plain rfl ?_
                    have l1 : L 1 = true := hL.need 1 (by kernel_rfl)
                    have e1 := q1 1 _ rfl l1
                    have x := (k1.grows q0).cell 1
                    simp only [e1]
                    go_simp
                    exact gr_val (HI.out _ _ _ ⟨q0, kn_known q1 rfl⟩)
                  · intro vs
                    simp only [Act.put, List.setIfInBounds_toArray, List.set_cons_succ, List.set_cons_zero]
                    rfl
                  refine gen_cons (A' := ?_) (fun vs L w1 hL hw1 => ?_) ?_ ?_
                  rotate_left 1
                  · obtain ⟨q0, q1⟩ := HO.out _ _ _ hw1
                    refine gen_plain rfl ?_
                    go_simp
                    exact gr_val (HI.out _ _ _ ⟨q0, kn_known q1 rfl⟩)
                  · intro vs
                    simp only [Act.put, List.setIfInBounds_toArray, List.set_cons_succ, List.set_cons_zero]
                    rfl
                  refine gen_cons (A' := ?_) (fun vs L w1 hL hw1 => ?_) ?_ ?_
                  rotate_left 1
                  · obtain ⟨q0, q1⟩ := HO.out _ _ _ hw1
                    refine gen_plain rfl ?_
                    have l2 : L 2 = true := hL.need 2 (by kernel_rfl)
                    have e2 := q1 2 _ rfl l2
                    have l3 : L 3 = true := hL.need 3 (by kernel_rfl)
                    have e3 := q1 3 _ rfl l3
                    simp only [e2, e3]
                    go_simp
                    exact gr_val (HI.out _ _ _ ⟨q0, kn_known q1 rfl⟩)
                  · intro vs
                    simp only [Act.put, List.setIfInBounds_toArray, List.set_cons_succ, List.set_cons_zero]
                    rfl
                  refine gen_cons (A' := ?_) (fun vs L w1 hL hw1 => ?_) ?_ ?_
                  rotate_left 1
                  · obtain ⟨q0, q1⟩ := HO.out _ _ _ hw1
                    refine gen_plain rfl ?_
                    have l4 : L 4 = true := hL.need 4 (by kernel_rfl)
                    have e4 := q1 4 _ rfl l4
                    simp only [e4]
                    go_simp
                    exact gr_val (HI.out _ _ _ ⟨q0, kn_known q1 rfl⟩)
                  · intro vs
                    simp only [Act.put, List.setIfInBounds_toArray, List.set_cons_succ, List.set_cons_zero]
                    rfl
                  refine gen_cons (A' := ?_) (fun vs L w1 hL hw1 => ?_) ?_ ?_
                  rotate_left 1
                  · obtain ⟨q0, q1⟩ := HO.out _ _ _ hw1
                    refine gen_plain rfl ?_
                    have l5 : L 5 = true := hL.need 5 (by kernel_rfl)
                    have e5 := q1 5 _ rfl l5
                    simp only [e5]
                    obtain ⟨y0, y1, y2, y3⟩ := hp _ (below_grows hB (Nat.le_refl _) q0)
                    go_simp
                    exact gr_val (HI.out _ _ _ ⟨q0, kn_known q1 rfl⟩)
                  · intro vs
                    simp only [Act.put, List.setIfInBounds_toArray, List.set_cons_succ, List.set_cons_zero]
                    rfl
                  refine gen_cons (A' := ?_) (fun vs L w1 hL hw1 => ?_) ?_ ?_
                  rotate_left 1
                  · obtain ⟨q0, q1⟩ := HO.out _ _ _ hw1
                    refine gen_plain rfl ?_
                    have l0 : L 0 = true := hL.need 0 (by kernel_rfl)
                    have e0 := q1 0 _ rfl l0
                    have l6 : L 6 = true := hL.need 6 (by kernel_rfl)
                    have e6 := q1 6 _ rfl l6
                    simp only [e0, e6]
                    go_simp
                    refine gr_call ?_
                    refine (place_is A (some ad2) c c2 ls.length ns l.a pl w1 (h.n.grows (below_grows hB (Nat.le_refl _) q0)) h.nl HPL.out).mono ?_
                    rintro e w2 ⟨rfl, hg⟩
                    exact ⟨_, rfl, HI.out _ _ _ ⟨below_grows q0 (Nat.le_refl _) hg, kn_known q1 rfl⟩⟩
                  · intro vs
                    simp only [Act.put, List.setIfInBounds_toArray, List.set_cons_succ, List.set_cons_zero]
                    rfl
                  refine gen_cons (A' := ?_) (fun vs L w1 hL hw1 => ?_) ?_ ?_
                  rotate_left 1
                  · obtain ⟨q0, q1⟩ := HO.out _ _ _ hw1
                    refine gen_plain rfl ?_
                    have l7 : L 7 = true := hL.need 7 (by kernel_rfl)
                    have e7 := q1 7 _ rfl l7
                    simp only [e7]
                    go_simp
                    exact gr_val (HI.out _ _ _ ⟨q0, kn_known q1 rfl⟩)
                  · intro vs
                    simp only [Act.put, List.setIfInBounds_toArray, List.set_cons_succ, List.set_cons_zero]
                    rfl
                  refine gen_nil ?_
                  intro vs L W6 hall hS
                  obtain ⟨hq, q1⟩ := HO.out _ _ _ hS
                  have eX8 := q1 8 _ rfl (hall 8 (by simp))
                  clear hall hS HI HO q1
                  simp only [eX8]
                  clear eX8
                  simp only [Nat.zero_add, Nat.reduceAdd]
                  replace hB := below_grows hB (Nat.le_refl _) hq
                  replace k1 := k1.grows hq
                  replace ho := ho.grows hq
                  replace hS := hS.grows hq
                  clear hq
                  generalize W6 = w10 at *
                  go_upto_region 26 with fail
                  obtain ⟨q0, q1, q2, q3⟩ := hp _ hB
                  obtain ⟨ad4, id', e4, -, hx4, p0⟩ := ho.ints.at_ hlt
                  injection e4 with e4
                  subst e4
                  rw [HX.out] at hx4
                  injection hx4 with hx4
                  subst hx4
                  obtain ⟨sv, hsv⟩ : ∃ sv, (midS (wOf ns ws) ls od a k id ls j l.a).getD (-1) = sv := ⟨_, rfl⟩
                  have hcl := hS.cell (arr_at _ HNL.out.1)
                  rw [HNL.out.2.1, hsv] at hcl
                  have HSV := Lib.hid hsv
                  clear hsv
                  have x1 := k1.cell 1
                  cases e2 : l.c == id
                  · have HS : Hid (midS (wOf ns ws) ls od a k id ls (j + 1) = midS (wOf ns ws) ls od a k id ls j) := Lib.hid (by
                      rw [mid_some HX2.out, relax_ne]
                      simpa using e2)
                    rw [← HS.out] at hS
                    have hfz := hS.frozen pl
                    go_quiet (fail)
                    generalize hY : World.drewN w10 _ = w11 at *
                    have hq : Grows w10 w11 := hY ▸ grows_drewN w10 _
                    clear hY
                    replace hB := below_grows hB (Nat.le_refl _) hq
                    replace k1 := k1.grows hq
                    replace ho := ho.grows hq
                    replace hS := hS.grows hq
                    clear hq
                    clear q0 q1 q2 q3 p0 hcl x1 hfz
                    go_wp2
                    go_roundw
                    case rel => exact ⟨j + 1, by omega, by go_num, hS, ho, k1, hB⟩
                    case measure => simp [intOf]; omega
                  · have HE : Hid (l.c = id) := Lib.hid (by simpa using e2)
                    have hsb := mid_sb HWB.out (a := a) (od := od) (k := k) (id := id) (il := ls) (j := j) hLs hol hLs
                    by_cases hs0 : 0 ≤ sv
                    case neg =>
                      have HS : Hid (midS (wOf ns ws) ls od a k id ls (j + 1) = midS (wOf ns ws) ls od a k id ls j) := Lib.hid (by
                        refine mid_none HX2.out HE.out ?_
                        cases e5 : midS (wOf ns ws) ls od a k id ls j l.a with
                        | none => rfl
                        | some s =>
                          have h1 := (hsb _ _ e5).1
                          have h2 := HSV.out
                          rw [e5] at h2
                          simp only [Option.getD_some] at h2
                          omega)
                      rw [← HS.out] at hS
                      clear hsb
                      go_quiet (fail)
                      generalize hY : World.drewN w10 _ = w11 at *
                      have hq : Grows w10 w11 := hY ▸ grows_drewN w10 _
                      clear hY
                      replace hB := below_grows hB (Nat.le_refl _) hq
                      replace k1 := k1.grows hq
                      replace ho := ho.grows hq
                      replace hS := hS.grows hq
                      clear hq
                      clear q0 q1 q2 q3 p0 hcl x1
                      go_wp2
                      go_roundw
                      case rel => exact ⟨j + 1, by omega, by go_num, hS, ho, k1, hB⟩
                      case measure => simp [intOf]; omega
                    have hs := Lib.hid (show midS (wOf ns ws) ls od a k id ls j l.a = some sv by
                      cases e5 : midS (wOf ns ws) ls od a k id ls j l.a with
                      | none =>
                        have h2 := HSV.out
                        rw [e5] at h2
                        simp only [Option.getD_none] at h2
                        omega
                      | some s =>
                        have h2 := HSV.out
                        rw [e5] at h2
                        exact congrArg some h2)
                    have hs1 := hsb _ _ hs.out
                    clear hsb
                    go_quiet (fail)
                    generalize hY : World.drewN w10 _ = w11 at *
                    have hq : Grows w10 w11 := hY ▸ grows_drewN w10 _
                    clear hY
                    replace hB := below_grows hB (Nat.le_refl _) hq
                    replace k1 := k1.grows hq
                    replace ho := ho.grows hq
                    replace hS := hS.grows hq
                    clear hq
                    clear q0 q1 q2 q3 p0 hcl x1
                    obtain ⟨tv, htv⟩ : ∃ tv, (midS (wOf ns ws) ls od a k id ls j id).getD (-1) = tv := ⟨_, rfl⟩
                    obtain ⟨ad6, wid, e6, had6, hz6, p6⟩ := (h3.grows hB).at_ (k := ki) (by omega)
                    injection e6 with e6
                    subst e6
                    have HWI : Hid (wOf ns ws id = wid) := Lib.hid (by rw [wOf_at HNI.out.2.2, List.getD_eq_getElem?_getD, hz6]; rfl)
                    clear hz6
                    have hw1 : 0 ≤ wid ∧ wid ≤ 1099511627776 := HWI.out ▸ HWB.out id
                    have hkw2 : ki < ws.length := by omega
                    have hcl := hS.cell (arr_at _ HNL.out.1)
                    rw [HNL.out.2.1, HSV.out] at hcl
                    have hcl2 := hS.cell (arr_at _ HNI.out.1)
                    rw [HNI.out.2.1, htv] at hcl2
                    have HS : Hid ((arrL ns (midS (wOf ns ws) ls od a k id ls j)).set ki (max tv (sv + wid)) = arrL ns (midS (wOf ns ws) ls od a k id ls (j + 1))) := Lib.hid (by
                      rw [arr_set HA.out _ HNI.out.1, HNI.out.2.1, mid_some HX2.out, relax_of _ _ _ _ HE.out, hs.out, ← htv, max_neg (by omega), HWI.out])
                    have HTV := Lib.hid htv
                    clear htv
                    have hwr : IntKind.i64.wrap (sv + wid) = sv + wid := IntWalk.i64_in _ (by omega)
                    have hfz := hS.frozen ki
                    by_cases hmx : tv < sv + wid
                    · have hmv : max tv (sv + wid) = sv + wid := by omega
                      rw [hmv] at HS
                      clear hmv
                      go_upto_region 27 with fail
                      go_still_tail 17, (by kernel_rfl)
                      have hq := Grows.drew' w11
                      change wpList _ _ _ _ _ w11.drew
                      generalize w11.drew = w12 at *
                      replace hB := below_grows hB (Nat.le_refl _) hq
                      replace k1 := k1.grows hq
                      replace ho := ho.grows hq
                      replace hS := hS.grows hq
                      clear hq p6 hcl hcl2 hwr
                      have hfz := hS.frozen ki
                      have hcl2 := hS.cell (arr_at _ HNI.out.1)
                      refine wpList_plain rfl (fun K hK => ?_)
                      go_simp
                      refine hK _ _ ?_
                      clear hK K
                      obtain ⟨hS2, hg2⟩ := hS.put ki (sv + wid)
                      rw [HS.out] at hS2
                      have ho2 : OwnI _ w.heap.size _ od := World.ownsRow.kept ho hg2 (.inr HNO.out)
                      have k12 := k1.grown hg2 (hS.ne_blk k1 (by decide))
                      have hB2 := hB.grown hg2 hB.size (fun q e => by injection e with e; subst e; exact hge)
                      go_wp2
                      go_roundw
                      case rel => exact ⟨j + 1, by omega, by go_num, hS2, ho2, k12, hB2⟩
                      case measure => simp [intOf]; omega
                    · have hmv : max tv (sv + wid) = tv := by omega
                      rw [hmv] at HS
                      clear hmv
                      go_upto_region 27 with fail
                      go_still_tail 17, (by kernel_rfl)
                      have hq := Grows.drew' w11
                      change wpList _ _ _ _ _ w11.drew
                      generalize w11.drew = w12 at *
                      replace hB := below_grows hB (Nat.le_refl _) hq
                      replace k1 := k1.grows hq
                      replace ho := ho.grows hq
                      replace hS := hS.grows hq
                      clear hq p6 hcl hcl2 hwr
                      have hfz := hS.frozen ki
                      have hcl2 := hS.cell (arr_at _ HNI.out.1)
                      refine wpList_plain rfl (fun K hK => ?_)
                      go_simp
                      refine hK _ _ ?_
                      clear hK K
                      obtain ⟨hS2, hg2⟩ := hS.put ki (tv)
                      rw [HS.out] at hS2
                      have ho2 : OwnI _ w.heap.size _ od := World.ownsRow.kept ho hg2 (.inr HNO.out)
                      have k12 := k1.grown hg2 (hS.ne_blk k1 (by decide))
                      have hB2 := hB.grown hg2 hB.size (fun q e => by injection e with e; subst e; exact hge)
                      go_wp2
                      go_roundw
                      case rel => exact ⟨j + 1, by omega, by go_num, hS2, ho2, k12, hB2⟩
                      case measure => simp [intOf]; omega
                · have HS : Hid (midS (wOf ns ws) ls od a k id ls j = stS (wOf ns ws) ls od a (k + 1)) := Lib.hid (by
                    unfold midS stS
                    rw [fold_snoc HX.out, show ls.take j = ls from List.take_of_length_le (by omega)]
                    rfl)
                  rw [HS.out] at hS
                  have x1 := k1.cell
                  go_wp2
                  go_roundw
                  case rel => exact ⟨k + 1, by omega, by go_num, hS, ho, k1, hB⟩
                  case measure => simp [intOf]; omega
            · have HS : Hid (stS (wOf ns ws) ls od a k = longS (wOf ns ws) ls od a) := Lib.hid (by unfold stS longS; rw [List.take_of_length_le (by omega)])
              rw [HS.out] at hS
              have hcl := hS.cell (arr_at _ HNb.out.1)
              rw [HNb.out.2.1] at hcl
              cases hs : longS (wOf ns ws) ls od a b with
              | none =>
                rw [hs] at HL hcl
                clear hs
                go_wp2
                go_ret2
                rw [HL.out]
                exact ⟨rfl, hB⟩
              | some s =>
                have hs0 := (mid_sb0 HWB.out (a := a) (od := od) hLs hol) b s hs
                rw [hs] at HL hcl
                clear hs
                simp only [Option.getD_some] at hcl
                go_wp2
                go_ret2
                rw [HL.out]
                exact ⟨rfl, hB⟩
end Go.Proofs.Ytmokpiacioeohaa
