/-
  YtjbkjgmcfommgaaGreatNegotiateChooses: shared parts, 4. Plain theorems.
-/
import Derived.Test.YtjbkjgmcfommgaaGreatNegotiateChoosesK3
import Derived.Deep.Fields
import Derived.Deep.Slices
import Derived.Deep.DeepCutAuto
namespace Go.Proofs.YtjbkjgmcfommgaaGreat
open Go.RowKit
def Bwx (a g b : Nat) : Nat → Prop := fun k => a ≤ k ∧ k ≠ g ∧ k < b
/-- Spans do not lie in a box. -/
theorem sp_ne_box {w : World} {A : Option Addr} {l : List Sp} (h : Sps w A l) {g : Nat} {t : TypeId} {x : Int} {P Q R : Option Addr} {n1 d1 n2 d2 n3 d3 : Nat} (hb : Blk w g t #[.int .i64 x, .slice P n1 d1, .slice Q n2 d2, .slice R n3 d3]) (ad : Addr) (ha : A = some ad) (hl : 0 < l.length) : ad.block ≠ g := by
  intro he
  obtain ⟨ad', y, e, _, _, hc⟩ := h.at_ hl
  rw [ha] at e
  injection e with e
  subst e
  have h1 := hc 1 _ rfl
  have e1 : ad.add (0 * 2 + 1) = ⟨ad.block, ad.off + 1, none⟩ := by unfold Addr.add; rw [if_neg (by omega)]
  rw [e1, he, hb.cell] at h1
  have key : ∀ o : Nat, #[Value.int .i64 x, .slice P n1 d1, .slice Q n2 d2, .slice R n3 d3][o + 1]? ≠ some (.int .i64 y.2) := by
    intro o
    rcases o with _ | _ | _ | k
    · simp
    · simp
    · simp
    · rw [Array.getElem?_eq_none (by simp)]
      simp
  exact key _ h1
set_option maxHeartbeats 64000000 in
set_option maxRecDepth 10000 in
theorem both_any {ba bb : Nat → Prop} {a b : Bx} {A1 A2 A3 B1 B2 B3 : Option Addr} {c1 c2 c3 d1 d2 d3 : Nat} {w : World} (hpa : BoxP w ba a A1 c1 A2 c2 A3 c3) (hpb : BoxP w bb b B1 d1 B2 d2 B3 d3) (hla : OKB a) (hlb : OKB b) :
    Calls Tryz.prog 120 #[.agg #[.int .i64 a.k, .slice A1 a.r.length c1, .slice A2 a.m.length c2, .slice A3 a.s.length c3], .agg #[.int .i64 b.k, .slice B1 b.r.length d1, .slice B2 b.m.length d2, .slice B3 b.s.length d3]] w fun e w' => (∃ v, e = .returned (.tuple #[v, .bool (someB (bothF a b))]) ∧ BoxV w' (Ge w.heap.size) (bothF a b) v) ∧ Grows w w' := by
  obtain ⟨har, has_, ham, hax⟩ := hla
  obtain ⟨hbr, hbs, hbm, hbx⟩ := hlb
  have HAX := Lib.hid hax
  have HBX := Lib.hid hbx
  clear hax hbx
  have ka := ((Blk.new w 61 #[.int .i64 a.k, .slice A1 a.r.length c1, .slice A2 a.m.length c2, .slice A3 a.s.length c3]).alloc (Obj.cells #[.int .i64 b.k, .slice B1 b.r.length d1, .slice B2 b.m.length d2, .slice B3 b.s.length d3] 61)).alloc (Obj.cells #[.int .i64 0, .slice none 0 0, .slice none 0 0, .slice none 0 0] 61)
  have kb := (blk_new_at (X := w.alloc (Obj.cells #[.int .i64 a.k, .slice A1 a.r.length c1, .slice A2 a.m.length c2, .slice A3 a.s.length c3] 61)) (n := w.heap.size + 1) (t := 61) (cs := #[.int .i64 b.k, .slice B1 b.r.length d1, .slice B2 b.m.length d2, .slice B3 b.s.length d3]) (by simp)).alloc (Obj.cells #[.int .i64 0, .slice none 0 0, .slice none 0 0, .slice none 0 0] 61)
  have k4 := blk_new_at (X := (w.alloc (Obj.cells #[.int .i64 a.k, .slice A1 a.r.length c1, .slice A2 a.m.length c2, .slice A3 a.s.length c3] 61)).alloc (Obj.cells #[.int .i64 b.k, .slice B1 b.r.length d1, .slice B2 b.m.length d2, .slice B3 b.s.length d3] 61)) (n := w.heap.size + 2) (t := 61) (cs := #[.int .i64 0, .slice none 0 0, .slice none 0 0, .slice none 0 0]) (by simp)
  have hB := (((Below.refl w.heap.size w).alloc (Nat.le_refl _) (Obj.cells #[.int .i64 a.k, .slice A1 a.r.length c1, .slice A2 a.m.length c2, .slice A3 a.s.length c3] 61)).alloc (by simp) (Obj.cells #[.int .i64 b.k, .slice B1 b.r.length d1, .slice B2 b.m.length d2, .slice B3 b.s.length d3] 61)).alloc (by simp; omega) (Obj.cells #[.int .i64 0, .slice none 0 0, .slice none 0 0, .slice none 0 0] 61)
  have CR := fun (w0 : World) (h1 : Sps w0 A1 a.r) (h2 : Sps w0 B1 b.r) => inter_own A1 c1 a.r B1 d1 b.r w0 h1 (by omega) h2 (by omega)
  have CZ := fun (w0 : World) (h1 : Sps w0 A3 a.s) (h2 : Sps w0 B3 b.s) => inter_own A3 c3 a.s B3 d3 b.s w0 h1 (by omega) h2 (by omega)
  have HF : Hid (bothF a b = ⟨(bits .and .i64 a.k b.k), (interF (spansF a.r) (spansF b.r)).take 64, a.m.filter (fun x => decide (x ∈ b.m)), (interF (spansF a.s) (spansF b.s)).take 64⟩) := Lib.hid rfl
  generalize (interF (spansF a.r) (spansF b.r)).take 64 = R at *
  generalize (interF (spansF a.s) (spansF b.s)).take 64 = Z at *
  have HCR := Lib.hid CR
  have HCZ := Lib.hid CZ
  clear CR CZ
  have hpar := hpa.r.sps
  have hpbr := hpb.r.sps
  have hpas := hpa.s.sps
  have hpbs := hpb.s.sps
  go_enter Tryz.func120, Tryz.ntmps120
  go_upto_region 1 with fail
  generalize World.alloc (World.alloc (World.alloc w _) _) _ = w1 at *
  have l4 := k4.lt
  obtain ⟨S, HI, HO⟩ := hideS fun (L : Ran) (vs : Nat → Value) (w' : World) => ((Below w.heap.size w w' ∧ Blk w' w.heap.size 61 #[.int .i64 a.k, .slice A1 a.r.length c1, .slice A2 a.m.length c2, .slice A3 a.s.length c3] ∧ Blk w' (w.heap.size + 1) 61 #[.int .i64 b.k, .slice B1 b.r.length d1, .slice B2 b.m.length d2, .slice B3 b.s.length d3] ∧ Blk w' (w.heap.size + 2) 61 #[.int .i64 0, .slice none 0 0, .slice none 0 0, .slice none 0 0] ∧ w.heap.size + 3 ≤ w'.heap.size) ∧ KnS [some (.pointer (some ⟨w.heap.size, 0, none⟩)), some (.int .i64 a.k), some (.pointer (some ⟨w.heap.size + 1, 0, none⟩)), some (.int .i64 b.k), some (.int .i64 (bits .and .i64 a.k b.k)), some (.pointer (some ⟨w.heap.size, 1, none⟩)), some (.agg #[.slice A1 a.r.length c1]), some (.pointer (some ⟨w.heap.size + 1, 1, none⟩)), some (.agg #[.slice B1 b.r.length d1]), none, some (.pointer (some ⟨w.heap.size, 3, none⟩)), some (.agg #[.slice A3 a.s.length c3]), some (.pointer (some ⟨w.heap.size + 1, 3, none⟩)), some (.agg #[.slice B3 b.s.length d3]), none, none, none] L vs ∧ (L 9 = true → ∃ (A : Option Addr) (c : Nat), vs 9 = .agg #[.slice A R.length c] ∧ R.length ≤ c ∧ SpB w' (Ge (w.heap.size + 3)) A R) ∧ (L 14 = true → ∃ (A : Option Addr) (c : Nat), vs 14 = .agg #[.slice A Z.length c] ∧ Z.length ≤ c ∧ SpB w' (Ge (w.heap.size + 3)) A Z) ∧ (L 15 = true → ∃ (A : Option Addr) (c : Nat) (B : Option Addr) (d : Nat), vs 15 = .agg #[.int .i64 (bits .and .i64 a.k b.k), .slice A R.length c, .slice none 0 0, .slice B Z.length d] ∧ R.length ≤ c ∧ SpB w' (Ge (w.heap.size + 3)) A R ∧ Z.length ≤ d ∧ SpB w' (Ge (w.heap.size + 3)) B Z) ∧ (L 16 = true → ∃ g : Nat, vs 16 = .pointer (some ⟨g, 0, none⟩) ∧ w.heap.size + 3 ≤ g ∧ Blk w' g 61 #[.int .i64 0, .slice none 0 0, .slice none 0 0, .slice none 0 0]))
  refine wp_region_genT S 17 68 (by kernel_rfl) (by kernel_rfl) rfl ?_ ?_
  · have hg := Grows.drew' w1
    exact HI.out _ _ _ ⟨⟨below_grows hB (Nat.le_refl _) hg, ka.grows hg, kb.grows hg, k4.grows hg, Nat.le_trans l4 hg.size⟩, kn_none _ _, (fun h => by cases h), (fun h => by cases h), (fun h => by cases h), (fun h => by cases h)⟩
  simp only [List.take_succ_cons, List.take_zero, List.drop_succ_cons, List.drop_zero]
  refine gent_consR (fun vs L w1 hL hw1 => ?_) ?_
  · obtain ⟨⟨qB, qa, qb, q4, qh⟩, q1, q9, q14, q15, q16⟩ := HO.out _ _ _ hw1
    refine gen_plain rfl ?_
    go_simp
    exact gr_val (HI.out _ _ _ ⟨⟨qB, qa, qb, q4, qh⟩, kn_known q1 rfl, q9, q14, q15, q16⟩)
  refine gent_consR (fun vs L w1 hL hw1 => ?_) ?_
  · obtain ⟨⟨qB, qa, qb, q4, qh⟩, q1, q9, q14, q15, q16⟩ := HO.out _ _ _ hw1
    have l0 : L 0 = true := hL.need 0 (by kernel_rfl)
    have e0 := q1 0 _ rfl l0
    have xc := qa.cell 0
    refine gen_plain rfl ?_
    simp only [e0]
    go_simp
    exact gr_val (HI.out _ _ _ ⟨⟨qB, qa, qb, q4, qh⟩, kn_known q1 rfl, q9, q14, q15, q16⟩)
  refine gent_consR (fun vs L w1 hL hw1 => ?_) ?_
  · obtain ⟨⟨qB, qa, qb, q4, qh⟩, q1, q9, q14, q15, q16⟩ := HO.out _ _ _ hw1
    refine gen_plain rfl ?_
    go_simp
    exact gr_val (HI.out _ _ _ ⟨⟨qB, qa, qb, q4, qh⟩, kn_known q1 rfl, q9, q14, q15, q16⟩)
  refine gent_consR (fun vs L w1 hL hw1 => ?_) ?_
  · obtain ⟨⟨qB, qa, qb, q4, qh⟩, q1, q9, q14, q15, q16⟩ := HO.out _ _ _ hw1
    have l2 : L 2 = true := hL.need 2 (by kernel_rfl)
    have e2 := q1 2 _ rfl l2
    have xc := qb.cell 0
    refine gen_plain rfl ?_
    simp only [e2]
    go_simp
    exact gr_val (HI.out _ _ _ ⟨⟨qB, qa, qb, q4, qh⟩, kn_known q1 rfl, q9, q14, q15, q16⟩)
  refine gent_consR (fun vs L w1 hL hw1 => ?_) ?_
  · obtain ⟨⟨qB, qa, qb, q4, qh⟩, q1, q9, q14, q15, q16⟩ := HO.out _ _ _ hw1
    have l1 : L 1 = true := hL.need 1 (by kernel_rfl)
    have e1 := q1 1 _ rfl l1
    have l3 : L 3 = true := hL.need 3 (by kernel_rfl)
    have e3 := q1 3 _ rfl l3
    refine gen_plain rfl ?_
    simp only [e1, e3]
    go_simp
    exact gr_val (HI.out _ _ _ ⟨⟨qB, qa, qb, q4, qh⟩, kn_known q1 rfl, q9, q14, q15, q16⟩)
  refine gent_consR (fun vs L w1 hL hw1 => ?_) ?_
  · obtain ⟨⟨qB, qa, qb, q4, qh⟩, q1, q9, q14, q15, q16⟩ := HO.out _ _ _ hw1
    refine gen_plain rfl ?_
    go_simp
    exact gr_val (HI.out _ _ _ ⟨⟨qB, qa, qb, q4, qh⟩, kn_known q1 rfl, q9, q14, q15, q16⟩)
  refine gent_consR (fun vs L w1 hL hw1 => ?_) ?_
  · obtain ⟨⟨qB, qa, qb, q4, qh⟩, q1, q9, q14, q15, q16⟩ := HO.out _ _ _ hw1
    have l5 : L 5 = true := hL.need 5 (by kernel_rfl)
    have e5 := q1 5 _ rfl l5
    have xc := qa.cell 1
    refine gen_plain rfl ?_
    simp only [e5]
    go_simp
    exact gr_val (HI.out _ _ _ ⟨⟨qB, qa, qb, q4, qh⟩, kn_known q1 rfl, q9, q14, q15, q16⟩)
  refine gent_consR (fun vs L w1 hL hw1 => ?_) ?_
  · obtain ⟨⟨qB, qa, qb, q4, qh⟩, q1, q9, q14, q15, q16⟩ := HO.out _ _ _ hw1
    refine gen_plain rfl ?_
    go_simp
    exact gr_val (HI.out _ _ _ ⟨⟨qB, qa, qb, q4, qh⟩, kn_known q1 rfl, q9, q14, q15, q16⟩)
  refine gent_consR (fun vs L w1 hL hw1 => ?_) ?_
  · obtain ⟨⟨qB, qa, qb, q4, qh⟩, q1, q9, q14, q15, q16⟩ := HO.out _ _ _ hw1
    have l7 : L 7 = true := hL.need 7 (by kernel_rfl)
    have e7 := q1 7 _ rfl l7
    have xc := qb.cell 1
    refine gen_plain rfl ?_
    simp only [e7]
    go_simp
    exact gr_val (HI.out _ _ _ ⟨⟨qB, qa, qb, q4, qh⟩, kn_known q1 rfl, q9, q14, q15, q16⟩)
  refine gent_consR (fun vs L w1 hL hw1 => ?_) ?_
  · obtain ⟨⟨qB, qa, qb, q4, qh⟩, q1, q9, q14, q15, q16⟩ := HO.out _ _ _ hw1
    have l6 : L 6 = true := hL.need 6 (by kernel_rfl)
    have e6 := q1 6 _ rfl l6
    have l8 : L 8 = true := hL.need 8 (by kernel_rfl)
    have e8 := q1 8 _ rfl l8
    refine gen_plain rfl ?_
    simp only [e6, e8]
    go_simp
    refine gr_call ?_
    refine (HCR.out _ (hpar.grows qB) (hpbr.grows qB)).mono ?_
    rintro e wc ⟨⟨A5, c5, rfl, hc5, hr5⟩, hg⟩
    exact ⟨_, rfl, HI.out _ _ _ ⟨⟨below_grows qB (Nat.le_refl _) hg, qa.grows hg, qb.grows hg, q4.grows hg, Nat.le_trans qh hg.size⟩, kn_free q1 rfl, (fun _ => ⟨A5, c5, rfl, hc5, RdB.mono hr5 (fun k hk => by unfold Ge at *; omega)⟩), (fun h => by obtain ⟨A, c, e, hc, hr⟩ := q14 h; exact ⟨A, c, e, hc, hr.grows hg⟩), (fun h => by obtain ⟨A, c, B, d, e, hc, hr, hd, hs⟩ := q15 h; exact ⟨A, c, B, d, e, hc, hr.grows hg, hd, hs.grows hg⟩), (fun h => by obtain ⟨g, e, hg2, hk⟩ := q16 h; exact ⟨g, e, hg2, hk.grows hg⟩)⟩⟩
  refine gent_consR (fun vs L w1 hL hw1 => ?_) ?_
  · obtain ⟨⟨qB, qa, qb, q4, qh⟩, q1, q9, q14, q15, q16⟩ := HO.out _ _ _ hw1
    refine gen_plain rfl ?_
    go_simp
    exact gr_val (HI.out _ _ _ ⟨⟨qB, qa, qb, q4, qh⟩, kn_known q1 rfl, q9, q14, q15, q16⟩)
  refine gent_consR (fun vs L w1 hL hw1 => ?_) ?_
  · obtain ⟨⟨qB, qa, qb, q4, qh⟩, q1, q9, q14, q15, q16⟩ := HO.out _ _ _ hw1
    have l10 : L 10 = true := hL.need 10 (by kernel_rfl)
    have e10 := q1 10 _ rfl l10
    have xc := qa.cell 3
    refine gen_plain rfl ?_
    simp only [e10]
    go_simp
    exact gr_val (HI.out _ _ _ ⟨⟨qB, qa, qb, q4, qh⟩, kn_known q1 rfl, q9, q14, q15, q16⟩)
  refine gent_consR (fun vs L w1 hL hw1 => ?_) ?_
  · obtain ⟨⟨qB, qa, qb, q4, qh⟩, q1, q9, q14, q15, q16⟩ := HO.out _ _ _ hw1
    refine gen_plain rfl ?_
    go_simp
    exact gr_val (HI.out _ _ _ ⟨⟨qB, qa, qb, q4, qh⟩, kn_known q1 rfl, q9, q14, q15, q16⟩)
  refine gent_consR (fun vs L w1 hL hw1 => ?_) ?_
  · obtain ⟨⟨qB, qa, qb, q4, qh⟩, q1, q9, q14, q15, q16⟩ := HO.out _ _ _ hw1
    have l12 : L 12 = true := hL.need 12 (by kernel_rfl)
    have e12 := q1 12 _ rfl l12
    have xc := qb.cell 3
    refine gen_plain rfl ?_
    simp only [e12]
    go_simp
    exact gr_val (HI.out _ _ _ ⟨⟨qB, qa, qb, q4, qh⟩, kn_known q1 rfl, q9, q14, q15, q16⟩)
  refine gent_consR (fun vs L w1 hL hw1 => ?_) ?_
  · obtain ⟨⟨qB, qa, qb, q4, qh⟩, q1, q9, q14, q15, q16⟩ := HO.out _ _ _ hw1
    have l11 : L 11 = true := hL.need 11 (by kernel_rfl)
    have e11 := q1 11 _ rfl l11
    have l13 : L 13 = true := hL.need 13 (by kernel_rfl)
    have e13 := q1 13 _ rfl l13
    refine gen_plain rfl ?_
    simp only [e11, e13]
    go_simp
    refine gr_call ?_
    refine (HCZ.out _ (hpas.grows qB) (hpbs.grows qB)).mono ?_
    rintro e wc ⟨⟨A5, c5, rfl, hc5, hr5⟩, hg⟩
    exact ⟨_, rfl, HI.out _ _ _ ⟨⟨below_grows qB (Nat.le_refl _) hg, qa.grows hg, qb.grows hg, q4.grows hg, Nat.le_trans qh hg.size⟩, kn_free q1 rfl, (fun h => by obtain ⟨A, c, e, hc, hr⟩ := q9 h; exact ⟨A, c, e, hc, hr.grows hg⟩), (fun _ => ⟨A5, c5, rfl, hc5, RdB.mono hr5 (fun k hk => by unfold Ge at *; omega)⟩), (fun h => by obtain ⟨A, c, B, d, e, hc, hr, hd, hs⟩ := q15 h; exact ⟨A, c, B, d, e, hc, hr.grows hg, hd, hs.grows hg⟩), (fun h => by obtain ⟨g, e, hg2, hk⟩ := q16 h; exact ⟨g, e, hg2, hk.grows hg⟩)⟩⟩
  refine gent_consR (fun vs L w1 hL hw1 => ?_) ?_
  · obtain ⟨⟨qB, qa, qb, q4, qh⟩, q1, q9, q14, q15, q16⟩ := HO.out _ _ _ hw1
    have l4 : L 4 = true := hL.need 4 (by kernel_rfl)
    have e4 := q1 4 _ rfl l4
    have l9 : L 9 = true := hL.need 9 (by kernel_rfl)
    have l14 : L 14 = true := hL.need 14 (by kernel_rfl)
    obtain ⟨A5, c5, e9, hc5, hr5⟩ := q9 l9
    obtain ⟨A6, c6, e14, hc6, hr6⟩ := q14 l14
    refine gen_plain rfl ?_
    simp only [e4, e9, e14]
    go_simp
    exact gr_val (HI.out _ _ _ ⟨⟨qB, qa, qb, q4, qh⟩, kn_free q1 rfl, q9, q14, (fun _ => ⟨A5, c5, A6, c6, rfl, hc5, hr5, hc6, hr6⟩), q16⟩)
  refine gent_consR (fun vs L w1 hL hw1 => ?_) ?_
  · obtain ⟨⟨qB, qa, qb, q4, qh⟩, q1, q9, q14, q15, q16⟩ := HO.out _ _ _ hw1
    refine gen_plain rfl ?_
    go_simp
    have hg := (Below.refl w1.heap.size w1).alloc (Nat.le_refl _) (Obj.cells #[.int .i64 0, .slice none 0 0, .slice none 0 0, .slice none 0 0] 61)
    have hk := Blk.new w1 61 #[.int .i64 0, .slice none 0 0, .slice none 0 0, .slice none 0 0]
    exact gr_val (HI.out _ _ _ ⟨⟨below_grows qB (Nat.le_refl _) hg, qa.grows hg, qb.grows hg, q4.grows hg, Nat.le_trans qh hg.size⟩, kn_free q1 rfl, (fun h => by obtain ⟨A, c, e, hc, hr⟩ := q9 h; exact ⟨A, c, e, hc, hr.grows hg⟩), (fun h => by obtain ⟨A, c, e, hc, hr⟩ := q14 h; exact ⟨A, c, e, hc, hr.grows hg⟩), (fun h => by obtain ⟨A, c, B, d, e, hc, hr, hd, hs⟩ := q15 h; exact ⟨A, c, B, d, e, hc, hr.grows hg, hd, hs.grows hg⟩), (fun _ => ⟨w1.heap.size, rfl, qh, hk⟩)⟩)
  refine gent_nil ?_
  intro vs L W2 hall hS
  obtain ⟨⟨hB2, ka2, kb2, k42, hh2⟩, q1, -, -, q15, q16⟩ := HO.out _ _ _ hS
  obtain ⟨A5, c5, A6, c6, e15, hc5, hr, hc6, hs⟩ := q15 (hall 15 (by omega))
  obtain ⟨G, e16, hG, kG⟩ := q16 (hall 16 (by omega))
  have e0 := q1 0 _ rfl (hall 0 (by omega))
  have e1 := q1 1 _ rfl (hall 1 (by omega))
  have e2 := q1 2 _ rfl (hall 2 (by omega))
  have e3 := q1 3 _ rfl (hall 3 (by omega))
  have e4 := q1 4 _ rfl (hall 4 (by omega))
  have e5 := q1 5 _ rfl (hall 5 (by omega))
  have e6 := q1 6 _ rfl (hall 6 (by omega))
  have e7 := q1 7 _ rfl (hall 7 (by omega))
  have e8 := q1 8 _ rfl (hall 8 (by omega))
  have e10 := q1 10 _ rfl (hall 10 (by omega))
  have e11 := q1 11 _ rfl (hall 11 (by omega))
  have e12 := q1 12 _ rfl (hall 12 (by omega))
  have e13 := q1 13 _ rfl (hall 13 (by omega))
  clear hall hS HI HO q1 q15 q16 hB ka kb k4 l4
  simp only [e0, e1, e2, e3, e4, e5, e6, e7, e8, e10, e11, e12, e13, e15, e16]
  clear e0 e1 e2 e3 e4 e5 e6 e7 e8 e10 e11 e12 e13 e15 e16
  generalize vs 9 = y9 at *
  generalize vs 14 = y14 at *
  clear vs
  have hB := hB2
  have ka := ka2
  have kb := kb2
  have k4 := k42
  clear hB2 ka2 kb2 k42
  have l4 := kG.lt
  replace hr : RdB W2 (Bwx (w.heap.size + 3) G W2.heap.size) 2 A5 R.length (scells R) := ⟨hr.1, fun hn ad e => ⟨hr.2 hn ad e, sp_ne_box hr.1 kG ad e hn, (RdB.under hr).2 hn ad e⟩⟩
  replace hs : RdB W2 (Bwx (w.heap.size + 3) G W2.heap.size) 2 A6 Z.length (scells Z) := ⟨hs.1, fun hn ad e => ⟨hs.2 hn ad e, sp_ne_box hs.1 kG ad e hn, (RdB.under hs).2 hn ad e⟩⟩
  have y3 := kG.cell
  have hf3 := kG.frozen
  have ka2 := ((((ka.far (p := ⟨G, 0, none⟩) (show w.heap.size ≠ G by omega) (.int .i64 (bits .and .i64 a.k b.k))).far (p := ⟨G, 1, none⟩) (show w.heap.size ≠ G by omega) (.slice A5 R.length c5)).far (p := ⟨G, 2, none⟩) (show w.heap.size ≠ G by omega) (.slice none 0 0)).far (p := ⟨G, 3, none⟩) (show w.heap.size ≠ G by omega) (.slice A6 Z.length c6))
  have kb2 := ((((kb.far (p := ⟨G, 0, none⟩) (show w.heap.size + 1 ≠ G by omega) (.int .i64 (bits .and .i64 a.k b.k))).far (p := ⟨G, 1, none⟩) (show w.heap.size + 1 ≠ G by omega) (.slice A5 R.length c5)).far (p := ⟨G, 2, none⟩) (show w.heap.size + 1 ≠ G by omega) (.slice none 0 0)).far (p := ⟨G, 3, none⟩) (show w.heap.size + 1 ≠ G by omega) (.slice A6 Z.length c6))
  have k42 := ((((k4.far (p := ⟨G, 0, none⟩) (show w.heap.size + 2 ≠ G by omega) (.int .i64 (bits .and .i64 a.k b.k))).far (p := ⟨G, 1, none⟩) (show w.heap.size + 2 ≠ G by omega) (.slice A5 R.length c5)).far (p := ⟨G, 2, none⟩) (show w.heap.size + 2 ≠ G by omega) (.slice none 0 0)).far (p := ⟨G, 3, none⟩) (show w.heap.size + 2 ≠ G by omega) (.slice A6 Z.length c6))
  have kG2 := ((((kG.set_ 0 (.int .i64 (bits .and .i64 a.k b.k))).set_ 1 (.slice A5 R.length c5)).set_ 2 (.slice none 0 0)).set_ 3 (.slice A6 Z.length c6))
  have hB2 := ((((hB.setCell (p := ⟨G, 0, none⟩) (show w.heap.size ≤ G by omega) (.int .i64 (bits .and .i64 a.k b.k))).setCell (p := ⟨G, 1, none⟩) (show w.heap.size ≤ G by omega) (.slice A5 R.length c5)).setCell (p := ⟨G, 2, none⟩) (show w.heap.size ≤ G by omega) (.slice none 0 0)).setCell (p := ⟨G, 3, none⟩) (show w.heap.size ≤ G by omega) (.slice A6 Z.length c6))
  have hr2 := RdB.grown hr (d_only_set (d_only_set (d_only_set (d_only_set (World.grownBy.refl _ (some G)) 0 (.int .i64 (bits .and .i64 a.k b.k))) 1 (.slice A5 R.length c5)) 2 (.slice none 0 0)) 3 (.slice A6 Z.length c6)) (fun q e => by injection e with e; unfold Bwx; omega)
  have hs2 := RdB.grown hs (d_only_set (d_only_set (d_only_set (d_only_set (World.grownBy.refl _ (some G)) 0 (.int .i64 (bits .and .i64 a.k b.k))) 1 (.slice A5 R.length c5)) 2 (.slice none 0 0)) 3 (.slice A6 Z.length c6)) (fun q e => by injection e with e; unfold Bwx; omega)
  have hw2 : W2.heap.size ≤ (((((W2.setCell ⟨G, 0, none⟩ (.int .i64 (bits .and .i64 a.k b.k))).setCell ⟨G, 1, none⟩ (.slice A5 R.length c5)).setCell ⟨G, 2, none⟩ (.slice none 0 0)).setCell ⟨G, 3, none⟩ (.slice A6 Z.length c6))).heap.size := by simp [World.setCell]
  clear hB ka kb k4 kG hr hs
  go_upto_region 2 with fail
  have hB := hB2
  have ka := ka2
  have kb := kb2
  have k4 := k42
  have kG : Blk _ G 61 #[.int .i64 (bits .and .i64 a.k b.k), .slice A5 R.length c5, .slice none 0 0, .slice A6 Z.length c6] := kG2
  have hr := hr2
  have hs := hs2
  clear hB2 ka2 kb2 k42 kG2 hr2 hs2 y3 hf3
  generalize World.setCell (World.setCell (World.setCell (World.setCell W2 _ _) _ _) _ _) _ _ = w7 at *
  obtain ⟨b2, hb2⟩ : ∃ b2, b2 = W2.heap.size := ⟨_, rfl⟩
  rw [← hb2] at hr hs l4 hw2
  have hb3 := hw2
  clear hw2 hb2 hh2
  have xa := ka.cell
  go_wp2_with fail
  clear xa
  go_loopw [28] (fun i wr => ∃ (k : Nat) (V : Value), k ≤ a.m.length ∧ i = .int .i64 k ∧ b2 ≤ wr.heap.size ∧ OwnMq wr b2 (Ge b2) V ((a.m.take k).filter fun x => decide (x ∈ b.m)) ∧ RdB wr (Bwx (w.heap.size + 3) G b2) 2 A5 R.length (scells R) ∧ RdB wr (Bwx (w.heap.size + 3) G b2) 2 A6 Z.length (scells Z) ∧ Blk wr w.heap.size 61 #[.int .i64 a.k, .slice A1 a.r.length c1, .slice A2 a.m.length c2, .slice A3 a.s.length c3] ∧ Blk wr (w.heap.size + 1) 61 #[.int .i64 b.k, .slice B1 b.r.length d1, .slice B2 b.m.length d2, .slice B3 b.s.length d3] ∧ Blk wr (w.heap.size + 2) 61 #[.int .i64 0, .slice none 0 0, .slice none 0 0, .slice none 0 0] ∧ Blk wr G 61 #[.int .i64 (bits .and .i64 a.k b.k), .slice A5 R.length c5, V, .slice A6 Z.length c6] ∧ Below w.heap.size w wr) (fun i _ => a.m.length - (intOf i).toNat)
  case atStart => exact ⟨0, _, by omega, rfl, hb3, OwnMq.nil, hr, hs, ka, kb, k4, kG, hB⟩
  case round =>
    clear hr hs ka kb k4 kG hB hb3
    obtain ⟨k, V, hk, rfl, hb3, ho, hr, hs, ka, kb, k4, kG, hB⟩ := hrel
    obtain ⟨A2', c2', rfl, hc2', -⟩ := ho.read
    by_cases hlt : k < a.m.length
    · obtain ⟨ad, x, B0, cm, e1, had, hx, q0, hcm, hix⟩ := hpa.m.elem hlt
      replace q0 := (hB.cell (p := ad.add k) (by rw [block_of_add]; exact had)).trans q0
      subst e1
      have HX := Lib.hid (filter_next (p := fun x => decide (x ∈ b.m)) hx)
      have hxl : x.length ≤ 1000000 := HAX.out x (List.mem_of_getElem? hx)
      have hkl : ((a.m.take k).filter fun x => decide (x ∈ b.m)).length + 1 ≤ 1000000 := by
        have := List.length_filter_le (fun x => decide (x ∈ b.m)) (a.m.take k)
        rw [List.length_take] at this
        omega
      clear hx
      generalize ((a.m.take k).filter fun x => decide (x ∈ b.m)) = ms at *
      have xb := kb.cell
      go_wp2_with fail
      refine (phas_any B2 B0 d2 cm b.m x _ rfl (hpb.m.grows hB) hbm HBX.out (hix.ints.grows hB) hxl).mono ?_
      by_cases h5 : x ∈ b.m
      case neg =>
        have HT : Hid ((a.m.take (k + 1)).filter (fun x => decide (x ∈ b.m)) = ms) := Lib.hid (by rw [HX.out, decide_eq_false h5, if_neg (by decide), List.append_nil])
        rw [decide_eq_false h5]
        clear h5 HX
        rintro e w3 ⟨rfl, hg⟩
        replace hB := below_grows hB (Nat.le_refl _) hg
        replace ka := ka.grows hg
        replace kb := kb.grows hg
        replace k4 := k4.grows hg
        replace kG := kG.grows hg
        replace ho := ho.grows hg
        replace hr := RdB.grows hr hg
        replace hs := RdB.grows hs hg
        replace hb3 := Nat.le_trans hb3 hg.size
        clear hg xb q0
        go_wp2
        go_roundw
        case rel => exact ⟨k + 1, _, by omega, by go_num, hb3, by rw [HT.out]; exact ho, hr, hs, ka, kb, k4, kG, hB⟩
        case measure => simp [intOf]; omega
      have HT : Hid ((a.m.take (k + 1)).filter (fun x => decide (x ∈ b.m)) = ms ++ [x]) := Lib.hid (by rw [HX.out, decide_eq_true h5, if_pos rfl])
      rw [decide_eq_true h5]
      clear h5 HX
      rintro e w3 ⟨rfl, hg⟩
      have qB := below_grows hB (Nat.le_refl _) hg
      have qa := ka.grows hg
      have qb := kb.grows hg
      have q4 := k4.grows hg
      have qG := kG.grows hg
      replace ho := ho.grows hg
      have qr := RdB.grows hr hg
      have qs := RdB.grows hs hg
      have qh := Nat.le_trans hb3 hg.size
      clear hg xb q0 hB ka kb k4 kG hr hs hb3
      go_upto_region 6 with fail
      have q4b := q4
      clear q4
      obtain ⟨S, HI, HO⟩ := hideS fun (L : Ran) (vs : Nat → Value) (w' : World) => ((Below w.heap.size w w' ∧ RdB w' (Bwx (w.heap.size + 3) G b2) 2 A5 R.length (scells R) ∧ RdB w' (Bwx (w.heap.size + 3) G b2) 2 A6 Z.length (scells Z) ∧ Blk w' w.heap.size 61 #[.int .i64 a.k, .slice A1 a.r.length c1, .slice (some ad) a.m.length c2, .slice A3 a.s.length c3] ∧ Blk w' (w.heap.size + 1) 61 #[.int .i64 b.k, .slice B1 b.r.length d1, .slice B2 b.m.length d2, .slice B3 b.s.length d3] ∧ Blk w' (w.heap.size + 2) 61 #[.int .i64 0, .slice none 0 0, .slice none 0 0, .slice none 0 0] ∧ Blk w' G 61 #[.int .i64 (bits .and .i64 a.k b.k), .slice A5 R.length c5, .slice A2' ms.length c2', .slice A6 Z.length c6] ∧ b2 ≤ w'.heap.size) ∧ KnS [some (.pointer (some ⟨G, 2, none⟩)), some (Value.slice A2' ms.length c2'), some (.slice B0 x.length cm), none, none, none] L vs ∧ (L 5 = true → L 4 = true) ∧ (L 4 = true → L 3 = true) ∧ (L 5 = false → OwnMq w' b2 (Ge b2) (Value.slice A2' ms.length c2') (ms)) ∧ (L 3 = true → L 5 = false → ∃ (B : Option Addr) (cx : Nat), vs 3 = .slice B x.length cx ∧ x.length ≤ cx ∧ InB w' (Ge b2) B x ∧ ∀ ad, B = some ad → 0 < x.length → (Value.slice A2' ms.length c2' : Value).ownBlock ≠ some ad.block) ∧ (L 4 = true → L 5 = false → ∃ gb : Nat, vs 4 = .slice (some ⟨gb, 0, none⟩) 1 1 ∧ Blk w' gb 38 #[vs 3]) ∧ (L 5 = true → OwnMq w' b2 (Ge b2) (vs 5) (ms ++ [x])))
      refine wp_region_genT S 6 68 (by kernel_rfl) (by kernel_rfl) rfl ?_ ?_
      · have hg := Grows.drew' w3
        exact HI.out _ _ _ ⟨⟨below_grows qB (Nat.le_refl _) hg, RdB.grows qr hg, RdB.grows qs hg, qa.grows hg, qb.grows hg, q4b.grows hg, qG.grows hg, Nat.le_trans qh hg.size⟩, kn_none _ _, (fun h => by cases h), (fun h => by cases h), (fun _ => ho.grows hg), (fun h => by cases h), (fun h => by cases h), (fun h => by cases h)⟩
      simp only [List.take_succ_cons, List.take_zero, List.drop_succ_cons, List.drop_zero]
      refine gent_consR (fun vs L w1 hL hw1 => ?_) ?_
      · obtain ⟨⟨qB, qr, qs, qa, qb, q4b, qG, qh⟩, q1, c5, c4, o5, q3, q4, q5⟩ := HO.out _ _ _ hw1
        refine gen_plain rfl ?_
        go_simp
        exact gr_val (HI.out _ _ _ ⟨⟨qB, qr, qs, qa, qb, q4b, qG, qh⟩, kn_known q1 rfl, c5, c4, o5, q3, q4, q5⟩)
      refine gent_consR (fun vs L w1 hL hw1 => ?_) ?_
      · obtain ⟨⟨qB, qr, qs, qa, qb, q4b, qG, qh⟩, q1, c5, c4, o5, q3, q4, q5⟩ := HO.out _ _ _ hw1
        have l0 : L 0 = true := hL.need 0 (by kernel_rfl)
        have e0 := q1 0 _ rfl l0
        have xc := qG.cell 2
        refine gen_plain rfl ?_
        simp only [e0]
        go_simp
        exact gr_val (HI.out _ _ _ ⟨⟨qB, qr, qs, qa, qb, q4b, qG, qh⟩, kn_known q1 rfl, c5, c4, o5, q3, q4, q5⟩)
      refine gent_consR (fun vs L w1 hL hw1 => ?_) ?_
      · obtain ⟨⟨qB, qr, qs, qa, qb, q4b, qG, qh⟩, q1, c5, c4, o5, q3, q4, q5⟩ := HO.out _ _ _ hw1
        refine gen_plain rfl ?_
        go_simp
        exact gr_val (HI.out _ _ _ ⟨⟨qB, qr, qs, qa, qb, q4b, qG, qh⟩, kn_known q1 rfl, c5, c4, o5, q3, q4, q5⟩)
      refine gent_consR (fun vs L w1 hL hw1 => ?_) ?_
      · obtain ⟨⟨qB, qr, qs, qa, qb, q4b, qG, qh⟩, q1, c5, c4, o5, q3, q4, q5⟩ := HO.out _ _ _ hw1
        have n3 : L 3 = false := hL.1
        have n4 : L 4 = false := by
          cases h : L 4
          · rfl
          · rw [c4 h] at n3; cases n3
        have n5 : L 5 = false := by
          cases h : L 5
          · rfl
          · rw [c5 h] at n4; cases n4
        have l2 : L 2 = true := hL.need 2 (by kernel_rfl)
        have e2 := q1 2 _ rfl l2
        refine gen_plain rfl ?_
        simp only [e2]
        go_simp
        refine gr_call ?_
        refine (iclone_any B0 cm x _ (hix.ints.grows qB) hxl).mono ?_
        rintro e wc ⟨⟨v, rfl, hown⟩, hg⟩
        obtain ⟨B, cx, rfl, hcx, hib⟩ := InB.of_own hown
        have hlt := (o5 n5).lt
        have hap : ∀ ad, B = some ad → 0 < x.length → (Value.slice A2' ms.length c2' : Value).ownBlock ≠ some ad.block := fun ad e hl e2 => by
          have h8 := (hlt _ e2).2
          have h9 := hib.2 hl ad e
          unfold Ge at h9
          omega
        exact ⟨_, rfl, HI.out _ _ _ ⟨⟨below_grows qB (Nat.le_refl _) hg, RdB.grows qr hg, RdB.grows qs hg, qa.grows hg, qb.grows hg, q4b.grows hg, qG.grows hg, Nat.le_trans qh hg.size⟩, kn_free q1 rfl, c5, (fun _ => rfl), (fun _ => (o5 n5).grows hg), (fun _ _ => ⟨B, cx, rfl, hcx, hib.mono (fun k hk => by unfold Ge at *; omega), hap⟩), (fun h => by rw [show L 4 = true from h] at n4; cases n4), (fun h => by rw [show L 5 = true from h] at n5; cases n5)⟩⟩
      refine gent_consR (fun vs L w1 hL hw1 => ?_) ?_
      · obtain ⟨⟨qB, qr, qs, qa, qb, q4b, qG, qh⟩, q1, c5, c4, o5, q3, q4, q5⟩ := HO.out _ _ _ hw1
        have n4 : L 4 = false := hL.1
        have n5 : L 5 = false := by
          cases h : L 5
          · rfl
          · rw [c5 h] at n4; cases n4
        have l3 : L 3 = true := hL.need 3 (by kernel_rfl)
        obtain ⟨B, cx, e3, hcx, hib, hap⟩ := q3 l3 n5
        refine gen_plain rfl ?_
        simp only [e3]
        go_simp
        have hg := (Below.refl w1.heap.size w1).alloc (Nat.le_refl _) (Obj.cells #[.slice B x.length cx] 38)
        have hk := Blk.new w1 38 #[.slice B x.length cx]
        exact gr_val (HI.out _ _ _ ⟨⟨below_grows qB (Nat.le_refl _) hg, RdB.grows qr hg, RdB.grows qs hg, qa.grows hg, qb.grows hg, q4b.grows hg, qG.grows hg, Nat.le_trans qh hg.size⟩, kn_free q1 rfl, (fun _ => rfl), (fun _ => l3), (fun _ => (o5 n5).grows hg), (fun _ _ => ⟨B, cx, e3, hcx, hib.grows hg, hap⟩), (fun _ _ => ⟨w1.heap.size, rfl, by rw [show setV vs 4 _ 3 = vs 3 from rfl, e3]; exact hk⟩), (fun h => by rw [show L 5 = true from h] at n5; cases n5)⟩)
      refine gent_consR (fun vs L w1 hL hw1 => ?_) ?_
      · obtain ⟨⟨qB, qr, qs, qa, qb, q4b, qG, qh⟩, q1, c5, c4, o5, q3, q4, q5⟩ := HO.out _ _ _ hw1
        have n5 : L 5 = false := hL.1
        have l4 : L 4 = true := hL.need 4 (by kernel_rfl)
        have l3 := c4 l4
        have l1 : L 1 = true := hL.need 1 (by kernel_rfl)
        have e1 := q1 1 _ rfl l1
        obtain ⟨B, cx, e3, hcx, hib, hap⟩ := q3 l3 n5
        obtain ⟨gb, e4, hk⟩ := q4 l4 n5
        rw [e3] at hk
        have o6 := o5 n5
        have hob := o6.lt
        refine gen_plain rfl ?_
        have hrd : Reads w1 w1.heap.size 1 (some ⟨gb, 0, none⟩) 1 [.slice B x.length cx] := ⟨rfl, fun _ => ⟨_, rfl, hk.lt, fun j u hu => by rw [add_head, hk.cell, ← Array.getElem?_toList]; exact hu⟩⟩
        refine gr_append_mapq (.tmp 37) (.tmp 40) rfl e1 o6 e4 hrd (by omega) qh hib hcx hap ?_
        intro v3 w3 o7 g3
        exact HI.out _ _ _ ⟨⟨qB.grown g3 qB.size (fun q e => by have := (hob q e).1; omega), RdB.grown qr g3 (fun q e => by have := (hob q e).1; unfold Bwx; omega), RdB.grown qs g3 (fun q e => by have := (hob q e).1; unfold Bwx; omega), qa.grown g3 (fun e => by have := (hob _ e.symm).1; omega), qb.grown g3 (fun e => by have := (hob _ e.symm).1; omega), q4b.grown g3 (fun e => by have := (hob _ e.symm).1; omega), qG.grown g3 (fun e => by have := (hob _ e.symm).1; omega), Nat.le_trans qh g3.size⟩, kn_free q1 rfl, (fun _ => l4), c4, (fun h => by cases h), (fun _ h => by cases h), (fun _ h => by cases h), (fun _ => o7)⟩
      refine gent_nil ?_
      intro vs L W2 hall hS
      obtain ⟨⟨qB, qr, qs, qa, qb, q4b, qG, qh⟩, q1, -, -, -, -, -, q5⟩ := HO.out _ _ _ hS
      have ho := q5 (hall 5 (by omega))
      have e0 := q1 0 _ rfl (hall 0 (by omega))
      have e1 := q1 1 _ rfl (hall 1 (by omega))
      have e2 := q1 2 _ rfl (hall 2 (by omega))
      clear hall hS HI HO q1 q5
      simp only [e0, e1, e2]
      obtain ⟨A7, c7, e7, hc7, -⟩ := ho.read
      rw [e7] at ho
      simp only [e7]
      clear e7 e0 e1 e2
      generalize vs 3 = y3 at *
      generalize vs 4 = y4 at *
      clear vs
      generalize ms ++ [x] = ms2 at *
      have y3 := qG.cell
      have hf3 := qG.frozen
      replace qB := qB.setCell (p := ⟨G, 2, none⟩) (show w.heap.size ≤ G by omega) (.slice A7 ms2.length c7)
      replace qa := qa.far (p := ⟨G, 2, none⟩) (show w.heap.size ≠ G by omega) (.slice A7 ms2.length c7)
      replace qb := qb.far (p := ⟨G, 2, none⟩) (show w.heap.size + 1 ≠ G by omega) (.slice A7 ms2.length c7)
      replace q4b := q4b.far (p := ⟨G, 2, none⟩) (show w.heap.size + 2 ≠ G by omega) (.slice A7 ms2.length c7)
      replace qG := qG.set_ 2 (.slice A7 ms2.length c7)
      replace qr := RdB.grown qr (d_only_set (World.grownBy.refl _ (some G)) 2 (.slice A7 ms2.length c7)) (fun q e => by injection e with e; unfold Bwx; omega)
      replace qs := RdB.grown qs (d_only_set (World.grownBy.refl _ (some G)) 2 (.slice A7 ms2.length c7)) (fun q e => by injection e with e; unfold Bwx; omega)
      replace ho := ho.only (d_only_set (World.grownBy.refl _ (some G)) 2 (.slice A7 ms2.length c7)) (by omega) (by unfold Ge; omega)
      have qh2 : b2 ≤ (W2.setCell ⟨G, 2, none⟩ (.slice A7 ms2.length c7)).heap.size := by simpa [World.setCell] using qh
      clear qh
      have qh := qh2
      clear qh2
      go_wp2
      generalize World.setCell W2 _ _ = w8 at *
      go_wp2
      go_roundw
      case rel => exact ⟨k + 1, _, by omega, by go_num, qh, by rw [HT.out]; exact ho, qr, qs, qa, qb, q4b, qG, qB⟩
      case measure => simp [intOf]; omega
    · rw [List.take_of_length_le (by omega)] at *
      have HF2 := HF.out
      generalize (a.m.filter fun x => decide (x ∈ b.m)) = ms at *
      obtain ⟨A9, c9, e9, hc9, hmr⟩ := ho.read
      injection e9 with e9 _ e10
      subst e9
      subst e10
      have HV : Hid (someB (bothF a b) = (((bits .and .i64 a.k b.k) != 0) && decide (0 < ms.length) && decide (0 < R.length) && decide (0 < Z.length))) := Lib.hid (by rw [HF2]; rfl)
      clear HF2
      generalize (bits .and .i64 a.k b.k) = K at *
      have xG := kG.cell
      have x4 := k4.cell
      have hf4 := k4.frozen
      have HRES : Hid (∀ w9 : World, Blk w9 (w.heap.size + 2) 61 #[.int .i64 K, .slice A5 R.length c5, .slice A2' ms.length c2', .slice A6 Z.length c6] → RdB w9 (Bwx (w.heap.size + 3) G b2) 2 A5 R.length (scells R) → RdB w9 (Bwx (w.heap.size + 3) G b2) 2 A6 Z.length (scells Z) → MapsR w9 (fun k => Ge b2 k ∨ b2 ≤ k) A2' ms → BoxV w9 (Ge w.heap.size) (bothF a b) (.agg #[.int .i64 K, .slice A5 R.length c5, .slice A2' ms.length c2', .slice A6 Z.length c6])) := Lib.hid (fun w9 _ yR yS yM => by
        rw [HF.out]
        exact ⟨A5, c5, A2', c2', A6, c6, rfl, ⟨RdB.mono yR (fun k hk => by unfold Bwx at hk; unfold Ge; omega), yM.mono (fun k hk => by unfold Ge at *; omega), RdB.mono yS (fun k hk => by unfold Bwx at hk; unfold Ge; omega), hc5, hc9, hc6⟩⟩)
      have y0 := Blk.drew ((((k4.set_ 0 (.int .i64 K)).set_ 1 (.slice A5 R.length c5)).set_ 2 (.slice A2' ms.length c2')).set_ 3 (.slice A6 Z.length c6))
      have yB := below_grows ((((hB.setCell (p := ⟨w.heap.size + 2, 0, none⟩) (show w.heap.size ≤ w.heap.size + 2 by omega) (.int .i64 K)).setCell (p := ⟨w.heap.size + 2, 1, none⟩) (show w.heap.size ≤ w.heap.size + 2 by omega) (.slice A5 R.length c5)).setCell (p := ⟨w.heap.size + 2, 2, none⟩) (show w.heap.size ≤ w.heap.size + 2 by omega) (.slice A2' ms.length c2')).setCell (p := ⟨w.heap.size + 2, 3, none⟩) (show w.heap.size ≤ w.heap.size + 2 by omega) (.slice A6 Z.length c6)) (Nat.le_refl _) (Grows.drew' _)
      have yR := RdB.grows (RdB.grown hr (d_only_set (d_only_set (d_only_set (d_only_set (World.grownBy.refl _ (some (w.heap.size + 2))) 0 (.int .i64 K)) 1 (.slice A5 R.length c5)) 2 (.slice A2' ms.length c2')) 3 (.slice A6 Z.length c6)) (fun q e => by injection e with e; unfold Bwx; omega)) (Grows.drew' _)
      have yS := RdB.grows (RdB.grown hs (d_only_set (d_only_set (d_only_set (d_only_set (World.grownBy.refl _ (some (w.heap.size + 2))) 0 (.int .i64 K)) 1 (.slice A5 R.length c5)) 2 (.slice A2' ms.length c2')) 3 (.slice A6 Z.length c6)) (fun q e => by injection e with e; unfold Bwx; omega)) (Grows.drew' _)
      have yM := MapsR.grows (MapsR.grown hmr (d_only_set (d_only_set (d_only_set (d_only_set (World.grownBy.refl _ (some (w.heap.size + 2))) 0 (.int .i64 K)) 1 (.slice A5 R.length c5)) 2 (.slice A2' ms.length c2')) 3 (.slice A6 Z.length c6)) (fun q e => by injection e with e; unfold Ge; omega)) (Grows.drew' _)
      have y6 := y0.cell
      clear ka kb k4 kG hr hs hmr ho hB
      go_upto_region 8 with fail
      by_cases h1 : K = 0
      case pos =>
        have HE : Hid (someB (bothF a b) = false) := Lib.hid (by rw [HV.out, h1]; rfl)
        have dk : (K != 0) = false := by simpa using h1
        clear h1
        go_region
        go_wp2
        refine bodyPost_ret (v := .tuple #[.agg #[.int .i64 K, .slice A5 R.length c5, .slice A2' ms.length c2', .slice A6 Z.length c6], .bool false]) (by simp [results, Tryz.results120, go_sem, y6]) rfl ⟨⟨_, by rw [HE.out], HRES.out _ y0 yR yS yM⟩, yB⟩
      have dk : (K != 0) = true := by simpa using h1
      clear h1
      by_cases h2 : 0 < R.length
      case neg =>
        have HE : Hid (someB (bothF a b) = false) := Lib.hid (by rw [HV.out, decide_eq_false h2]; simp)
        have d2 : decide (0 < (R.length : Int)) = false := by simp only [decide_eq_false_iff_not]; omega
        have d3 : decide (0 < R.length) = false := by simpa using h2
        clear h2
        go_region
        go_wp2
        refine bodyPost_ret (v := .tuple #[.agg #[.int .i64 K, .slice A5 R.length c5, .slice A2' ms.length c2', .slice A6 Z.length c6], .bool false]) (by simp [results, Tryz.results120, go_sem, y6]) rfl ⟨⟨_, by rw [HE.out], HRES.out _ y0 yR yS yM⟩, yB⟩
      have HR1 := Lib.hid (decide_eq_true h2)
      have d2 : decide (0 < (R.length : Int)) = true := by simp only [decide_eq_true_eq]; omega
      have d3 : decide (0 < R.length) = true := by simpa using h2
      clear h2
      by_cases h2 : 0 < ms.length
      case neg =>
        have HE : Hid (someB (bothF a b) = false) := Lib.hid (by rw [HV.out, decide_eq_false h2]; simp)
        have d4 : decide (0 < (ms.length : Int)) = false := by simp only [decide_eq_false_iff_not]; omega
        have d5 : decide (0 < ms.length) = false := by simpa using h2
        clear h2
        go_region
        go_wp2
        refine bodyPost_ret (v := .tuple #[.agg #[.int .i64 K, .slice A5 R.length c5, .slice A2' ms.length c2', .slice A6 Z.length c6], .bool false]) (by simp [results, Tryz.results120, go_sem, y6]) rfl ⟨⟨_, by rw [HE.out], HRES.out _ y0 yR yS yM⟩, yB⟩
      have HM1 := Lib.hid (decide_eq_true h2)
      have d4 : decide (0 < (ms.length : Int)) = true := by simp only [decide_eq_true_eq]; omega
      have d5 : decide (0 < ms.length) = true := by simpa using h2
      clear h2
      by_cases h2 : 0 < Z.length
      case neg =>
        have HE : Hid (someB (bothF a b) = false) := Lib.hid (by rw [HV.out, decide_eq_false h2]; simp)
        have d6 : decide (0 < (Z.length : Int)) = false := by simp only [decide_eq_false_iff_not]; omega
        have d7 : decide (0 < Z.length) = false := by simpa using h2
        clear h2
        go_region
        go_wp2
        refine bodyPost_ret (v := .tuple #[.agg #[.int .i64 K, .slice A5 R.length c5, .slice A2' ms.length c2', .slice A6 Z.length c6], .bool false]) (by simp [results, Tryz.results120, go_sem, y6]) rfl ⟨⟨_, by rw [HE.out], HRES.out _ y0 yR yS yM⟩, yB⟩
      have HE : Hid (someB (bothF a b) = true) := Lib.hid (by rw [HV.out, dk, HM1.out, HR1.out, decide_eq_true h2]; rfl)
      have d6 : decide (0 < (Z.length : Int)) = true := by simp only [decide_eq_true_eq]; omega
      have d7 : decide (0 < Z.length) = true := by simpa using h2
      clear h2
      go_region
      go_wp2
      refine bodyPost_ret (v := .tuple #[.agg #[.int .i64 K, .slice A5 R.length c5, .slice A2' ms.length c2', .slice A6 Z.length c6], .bool true]) (by simp [results, Tryz.results120, go_sem, y6]) rfl ⟨⟨_, by rw [HE.out], HRES.out _ y0 yR yS yM⟩, yB⟩
end Go.Proofs.YtjbkjgmcfommgaaGreat


namespace Go.Proofs.YtjbkjgmcfommgaaGreat
open Go.RowKit
theorem OwnBq.lower {w : World} {base base2 : Nat} {ok ok2 : Nat → Prop} {v : Value} {l : List Bx} (h : OwnBq w base ok v l) (hb : base2 ≤ base) (hk : ∀ k, ok k → ok2 k) : OwnBq w base2 ok2 v l := by
  obtain ⟨vs, h1, h2⟩ := h
  exact ⟨vs, ⟨h1.1, h1.2.imp id fun ⟨g, cap, cur, e, hg, r⟩ => ⟨g, cap, cur, e, by omega, r⟩⟩, fun i x hx => by obtain ⟨A1, c1, A2, c2, A3, c3, hp, hc⟩ := h2 i x hx; exact ⟨A1, c1, A2, c2, A3, c3, hp.mono (fun k hk2 => ⟨hk k hk2.1, hk2.2⟩), hc⟩⟩
set_option maxHeartbeats 32000000 in
set_option maxRecDepth 10000 in
theorem reduce_any {base : Nat → Prop} {A : Option Addr} {c n : Nat} {l : List Bx} {w : World} (hn : n = l.length) (h : Bxs w base A l) (hl : l.length ≤ 100000) (ho : ∀ b ∈ l, OKB b) :
    Calls Tryz.prog 50 #[.slice A n c] w fun e w' => (∃ v, e = .returned v ∧ OwnBq w' w.heap.size (Ge w.heap.size) v (reduceL l)) ∧ Grows w w' := by
  subst hn
  have HO := Lib.hid ho
  clear ho
  go_enter Tryz.func50, Tryz.ntmps50
  have hB := Below.refl w.heap.size w
  have HR : Hid (reduceL l = keepUp l l.length) := Lib.hid rfl
  go_wp2_with fail
  go_loopw [3, 11] (fun v i wr => ∃ k : Nat, k ≤ l.length ∧ i = .int .i64 k ∧ OwnBq wr w.heap.size (Ge w.heap.size) v (keepUp l k) ∧ Below w.heap.size w wr) (fun _ i _ => l.length - (intOf i).toNat)
  case atStart => exact ⟨0, by omega, rfl, OwnBq.nil, hB⟩
  case round =>
    clear hB
    obtain ⟨k, hk, rfl, hw, hB⟩ := hrel
    by_cases hlt : k < l.length
    · obtain ⟨ad, b, A1, c1, A2, c2, A3, c3, e1, had, hx, hp, q0, q1, q2, q3⟩ := (h.grows hB).elem hlt
      subst e1
      have HX := Lib.hid hx
      clear hx
      have hob := HO.out b (List.mem_of_getElem? HX.out)
      have hkl : (keepUp l k).length + 1 ≤ 1000000 := by have := keep_len l k; omega
      have k5 := Blk.new wr 61 #[.int .i64 b.k, .slice A1 b.r.length c1, .slice A2 b.m.length c2, .slice A3 b.s.length c3]
      have hq := (Below.refl wr.heap.size wr).alloc (Nat.le_refl _) (Obj.cells #[.int .i64 b.k, .slice A1 b.r.length c1, .slice A2 b.m.length c2, .slice A3 b.s.length c3] 61)
      go_upto_region 5 with fail
      replace hB := below_grows hB (Nat.le_refl _) hq
      replace hw := hw.grows hq
      replace hp := hp.grows hq
      clear hq q0 q1 q2 q3
      generalize World.alloc wr _ = w5 at *
      generalize wr.heap.size = G5 at *
      go_wp2_with fail
      go_loopw [6, 18] (fun t i wq => ∃ j : Nat, j ≤ l.length ∧ i = .int .i64 j ∧ t = .bool (dropUp l k b j) ∧ Blk wq G5 61 #[.int .i64 b.k, .slice A1 b.r.length c1, .slice A2 b.m.length c2, .slice A3 b.s.length c3] ∧ Grows w5 wq) (fun _ i _ => l.length - (intOf i).toNat)
      case atStart => exact ⟨0, by omega, rfl, rfl, k5, Below.refl _ _⟩
      case round =>
        clear k5
        obtain ⟨j, hj, rfl, rfl, k5, hg⟩ := hrel
        by_cases hjt : j < l.length
        · have hB2 := below_grows hB (Nat.le_refl _) hg
          obtain ⟨ad2, z, B1, d1, B2, d2, B3, d3, e2, had2, hy, hp2, q0, q1, q2, q3⟩ := (h.grows hB2).elem hjt
          have HY := Lib.hid (drop_next (i := k) (b := b) hy)
          have hoz := HO.out z (List.mem_of_getElem? hy)
          have e3 := e2
          injection e3 with e3
          subst e3
          clear e2 hy
          have k8 := Blk.new wr 61 #[.int .i64 z.k, .slice B1 z.r.length d1, .slice B2 z.m.length d2, .slice B3 z.s.length d3]
          have hq := (Below.refl wr.heap.size wr).alloc (Nat.le_refl _) (Obj.cells #[.int .i64 z.k, .slice B1 z.r.length d1, .slice B2 z.m.length d2, .slice B3 z.s.length d3] 61)
          go_upto_region 9 with fail
          replace hg := below_grows hg (Nat.le_refl _) hq
          replace k5 := k5.grows hq
          replace hp2 := hp2.grows hq
          clear hq q0 q1 q2 q3 hB2
          generalize World.alloc wr _ = w6 at *
          generalize wr.heap.size = G8 at *
          have hpb := hp.grows hg
          cases hv : dropUp l k b j
          case true =>
            have HE : Hid (dropUp l k b (j + 1) = true) := Lib.hid (by rw [HY.out, hv]; rfl)
            clear hv HY
            go_wp2
            go_roundw
            case rel => exact ⟨j + 1, by omega, by go_num, by rw [HE.out], k5, hg⟩
            case measure => simp [intOf]; omega
          have HV : Hid (dropUp l k b (j + 1) = dropAt k b j z) := Lib.hid (by rw [HY.out, hv]; rfl)
          clear hv HY
          by_cases hjk : j = k
          case pos =>
            have HE : Hid (dropUp l k b (j + 1) = false) := Lib.hid (by rw [HV.out]; exact (hjk ▸ dropAt_self j b z))
            clear HV
            have dn : ((j : Int) != (k : Int)) = false := by simp only [bne_eq_false_iff_eq]; omega
            clear hjk
            go_wp2
            go_roundw
            case rel => exact ⟨j + 1, by omega, by go_num, by rw [HE.out], k5, hg⟩
            case measure => simp [intOf]; omega
          have dn : ((j : Int) != (k : Int)) = true := by simp only [bne_iff_ne, ne_eq]; omega
          have x5 := k5.cell
          have x8 := k8.cell
          go_wp2_with fail
          refine (pinsb_any hpb hp2 hob hoz).mono ?_
          cases hv : insideB b z
          case false =>
            have HE : Hid (dropUp l k b (j + 1) = false) := Lib.hid (by rw [HV.out]; exact dropAt_not hv)
            clear HV
            clear hv
            rintro e w7 ⟨rfl, hq⟩
            replace hg := below_grows hg (Nat.le_refl _) hq
            replace k5 := k5.grows hq
            clear hq x5 x8 k8 hp2 hpb
            go_wp2
            go_roundw
            case rel => exact ⟨j + 1, by omega, by go_num, by rw [HE.out], k5, hg⟩
            case measure => simp [intOf]; omega
          rintro e w7 ⟨rfl, hq⟩
          replace hg := below_grows hg (Nat.le_refl _) hq
          replace k5 := k5.grows hq
          replace k8 := k8.grows hq
          replace hp2 := hp2.grows hq
          replace hpb := hpb.grows hq
          clear hq x5 x8
          have x5 := k5.cell
          have x8 := k8.cell
          by_cases hjl : j < k
          case pos =>
            have HE : Hid (dropUp l k b (j + 1) = true) := Lib.hid (by rw [HV.out]; exact dropAt_lt hjk hv hjl)
            clear HV
            have dl : decide ((j : Int) < (k : Int)) = true := by simp only [decide_eq_true_eq]; omega
            have dl2 : decide (j < k) = true := by simpa using hjl
            clear hv hjl hjk
            go_wp2
            go_roundw
            case rel => exact ⟨j + 1, by omega, by go_num, by rw [HE.out], k5, hg⟩
            case measure => simp [intOf]; omega
          have dl : decide ((j : Int) < (k : Int)) = false := by simp only [decide_eq_false_iff_not]; omega
          have dl2 : decide (j < k) = false := by simpa using hjl
          have HD : Hid (dropAt k b j z = !insideB z b) := Lib.hid (dropAt_ge hjk hv hjl)
          clear hv hjl
          go_wp2_with fail
          refine (pinsb_any hp2 hpb hoz hob).mono ?_
          cases hv : insideB z b
          case false =>
            have HE : Hid (dropUp l k b (j + 1) = true) := Lib.hid (by rw [HV.out]; exact (by rw [HD.out, hv]; rfl))
            clear HV
            clear hv HD
            rintro e w8 ⟨rfl, hq⟩
            replace hg := below_grows hg (Nat.le_refl _) hq
            replace k5 := k5.grows hq
            clear hq x5 x8 k8 hp2 hpb
            go_wp2
            go_roundw
            case rel => exact ⟨j + 1, by omega, by go_num, by rw [HE.out], k5, hg⟩
            case measure => simp [intOf]; omega
          have HE : Hid (dropUp l k b (j + 1) = false) := Lib.hid (by rw [HV.out]; exact (by rw [HD.out, hv]; rfl))
          clear HV
          clear hv HD
          rintro e w8 ⟨rfl, hq⟩
          replace hg := below_grows hg (Nat.le_refl _) hq
          replace k5 := k5.grows hq
          clear hq x5 x8 k8 hp2 hpb
          go_wp2
          go_roundw
          case rel => exact ⟨j + 1, by omega, by go_num, by rw [HE.out], k5, hg⟩
          case measure => simp [intOf]; omega
        · have HK := Lib.hid (keep_next HX.out)
          obtain rfl : j = l.length := by omega
          have hB2 := below_grows hB (Nat.le_refl _) hg
          replace hw := hw.grows hg
          cases hv : dropUp l k b l.length
          case true =>
            have HK2 : Hid (keepUp l (k + 1) = keepUp l k) := Lib.hid (by rw [HK.out, if_pos hv, List.append_nil])
            clear hv HK
            go_wp2
            go_roundw
            case rel => exact ⟨k + 1, by omega, by go_num, by rw [HK2.out]; exact hw, hB2⟩
            case measure => simp [intOf]; omega
          have HK2 : Hid (keepUp l (k + 1) = keepUp l k ++ [b]) := Lib.hid (by rw [HK.out, if_neg (by rw [hv]; decide)])
          clear hv HK
          have x5 := k5.cell
          generalize keepUp l k = ks at *
          go_upto_region 12 with fail
          refine wp_region_lit ?_
          iterate 2
            refine wpList_plain rfl (fun K hK => ?_)
            go_simp
            refine hK _ _ ?_
            clear hK K
          refine wpList_plain rfl (fun K hK => ?_)
          go_simp
          have hown := hw.lt
          refine (copied_any (hp.grows hg) hob).mono ?_
          rintro e wb ⟨⟨v2, rfl, E1, f1, E2, f2, E3, f3, rfl, hpn⟩, hq⟩
          refine hK _ _ ?_
          clear hK K
          replace hpn : BoxP wb (Aq (Ge w.heap.size) _) b E1 f1 E2 f2 E3 f3 := hpn.mono fun k hk => ⟨by unfold Ge at *; have := hB2.size; omega, fun e => by have := (hown _ e).2; unfold Ge at hk; omega⟩
          replace hw := hw.grows hq
          have hB3 := below_grows hB2 (Nat.le_refl _) hq
          have hown2 := hw.lt
          clear hq hown k5 x5 hp hg hB hB2
          refine wpList_plain rfl (fun K hK => ?_)
          go_simp
          refine hK _ _ ?_
          clear hK K
          have hL := bxs_lit hpn ⟨by unfold Ge; exact hB3.size, fun e => by have := (hown2 _ e).2; omega⟩
          have hq := (Below.refl wb.heap.size wb).alloc (Nat.le_refl _) (Obj.cells #[.int .i64 b.k, .slice E1 b.r.length f1, .slice E2 b.m.length f2, .slice E3 b.s.length f3] 61)
          replace hw := hw.grows hq
          replace hB3 := below_grows hB3 (Nat.le_refl _) hq
          have hown3 := hw.lt
          clear hq hpn hown2
          refine wpList_append_boxesq rfl (.tmp 48) (.tmp 51) rfl (m := [b]) rfl rfl hw rfl hL (by simp only [List.length_singleton]; omega) hB3.size ?_
          intro v5 w12 ho2 hgr _
          replace hB3 := hB3.grown hgr hB3.size (fun q e => (hown3 q e).1)
          clear hown3 hgr hw hL
          generalize ks ++ [b] = ks2 at *
          go_wp2
          go_roundw
          case rel => exact ⟨k + 1, by omega, by go_num, by rw [HK2.out]; exact ho2, hB3⟩
          case measure => simp [intOf]; omega
    · obtain rfl : k = l.length := by omega
      go_wp2
      go_ret
      rw [HR.out]
      exact ⟨⟨_, rfl, hw⟩, hB⟩
set_option maxHeartbeats 32000000 in
set_option maxRecDepth 10000 in
theorem preduce_any {base : Nat → Prop} {A : Option Addr} {c n : Nat} {l : List Bx} {w : World} (hn : n = l.length) (h : Bxs w base A l) (hl : l.length ≤ 100000) (ho : ∀ b ∈ l, OKB b) :
    Calls Tryz.prog 27 #[.slice A n c] w fun e w' => (∃ v, e = .returned (.tuple #[v, .int .i64 (reduceF l).2]) ∧ OwnBq w' w.heap.size (Ge w.heap.size) v (reduceF l).1) ∧ Grows w w' := by
  subst hn
  have HO := Lib.hid ho
  clear ho
  go_enter Tryz.func27, Tryz.ntmps27
  go_wp2_with fail
  refine (pvalidl_any A c base l _ h (by omega) HO.out).mono ?_
  cases hv : validL l
  · have HE : Hid (reduceF l = ([], 1)) := Lib.hid (if_neg (by rw [hv]; decide))
    clear hv
    rintro e w2 ⟨rfl, hq⟩
    go_wp2
    refine bodyPost_ret (v := .tuple #[.slice none 0 0, .int .i64 1]) (by simp [results, Tryz.results27, go_sem]) rfl ?_
    rw [HE.out]
    exact ⟨⟨_, rfl, OwnBq.nil⟩, hq⟩
  · have HE : Hid (reduceF l = (reduceL l, 0)) := Lib.hid (if_pos hv)
    clear hv
    rintro e w2 ⟨rfl, hq⟩
    go_wp2_with fail
    refine (reduce_any rfl (h.grows hq) hl HO.out).mono ?_
    rintro e w3 ⟨⟨v, rfl, hw⟩, hq2⟩
    have hs := hq.size
    go_wp2
    refine bodyPost_ret (v := .tuple #[v, .int .i64 0]) (by simp [results, Tryz.results27, go_sem]) rfl ?_
    rw [HE.out]
    exact ⟨⟨_, rfl, hw.lower hs (fun k hk => by unfold Ge at *; omega)⟩, below_grows hq (Nat.le_refl _) hq2⟩
end Go.Proofs.YtjbkjgmcfommgaaGreat


namespace Go.Proofs.YtjbkjgmcfommgaaGreat
open Go.RowKit
theorem Bxs.elemB {w wr : World} {base : Nat → Prop} {A : Option Addr} {l : List Bx} (h : Bxs w base A l) (hB : Grows w wr) {k : Nat} (hk : k < l.length) : ∃ ad b A1 c1 A2 c2 A3 c3, A = some ad ∧ ad.block < wr.heap.size ∧ l[k]? = some b ∧ BoxP w base b A1 c1 A2 c2 A3 c3 ∧
    CellsB wr (ad.add (k * 4)) (.int .i64 b.k) (.slice A1 b.r.length c1) (.slice A2 b.m.length c2) (.slice A3 b.s.length c3) := by
  obtain ⟨ad, b, A1, c1, A2, c2, A3, c3, e1, had, hx, hp, q0, q1, q2, q3⟩ := h.elem hk
  refine ⟨ad, b, A1, c1, A2, c2, A3, c3, e1, Nat.lt_of_lt_of_le had hB.size, hx, hp, ?_, ?_, ?_, ?_⟩
  · exact (hB.cell (p := ad.add (k * 4)) (by rw [block_of_add]; exact had)).trans q0
  · exact (hB.cell (p := ⟨(ad.add (k * 4)).block, (ad.add (k * 4)).off + 1, none⟩) (by simp only [block_of_add]; exact had)).trans q1
  · exact (hB.cell (p := ⟨(ad.add (k * 4)).block, (ad.add (k * 4)).off + 2, none⟩) (by simp only [block_of_add]; exact had)).trans q2
  · exact (hB.cell (p := ⟨(ad.add (k * 4)).block, (ad.add (k * 4)).off + 3, none⟩) (by simp only [block_of_add]; exact had)).trans q3
theorem okb_both {x y : Bx} (hx : OKB x) : OKB (bothF x y) := by
  obtain ⟨h1, h2, h3, h4⟩ := hx
  refine ⟨?_, ?_, ?_, fun m hm => ?_⟩
  · have : (bothF x y).r.length ≤ 64 := List.length_take_le _ _
    omega
  · have : (bothF x y).s.length ≤ 64 := List.length_take_le _ _
    omega
  · have : (bothF x y).m.length ≤ x.m.length := List.length_filter_le _ _
    omega
  · exact h4 m (List.mem_filter.1 hm).1
theorem okb_snoc {l : List Bx} {z : Bx} (h : ∀ b ∈ l, OKB b) (hz : OKB z) : ∀ b ∈ l ++ [z], OKB b := fun b hb => (List.mem_append.1 hb).elim (h b) fun h => by simp only [List.mem_singleton] at h; exact h ▸ hz
theorem int_stop {a b : List Bx} {k j : Nat} {x y : Bx} {out0 out : List Bx} (hx : a[k]? = some x) (hy : b[j]? = some y) (hk : (a.take k).foldl (intRow b) (some []) = some out0) (hj : (b.take j).foldl (intStep x) (some out0) = some out) (hn : intStep x (some out) y = none) : intF a b = none :=
  fold_stop (intRow_none b) hx (by rw [hk]; exact fold_stop (intStep_none x) hy (by rw [hj]; exact hn))
theorem prod_stop {d : Int} {a b : List Bx} {k j : Nat} {x y : Bx} {out0 out : List Bx} (hx : a[k]? = some x) (hy : b[j]? = some y) (hk : (a.take k).foldl (prodRow d b) (some []) = some out0) (hj : (b.take j).foldl (prodStep d x) (some out0) = some out) (hn : prodStep d x (some out) y = none) : prodF d a b = none :=
  fold_stop (prodRow_none d b) hx (by rw [hk]; exact fold_stop (prodStep_none d x) hy (by rw [hj]; exact hn))
theorem interP_bad {a b : List Bx} (h : ¬ (validL a = true ∧ validL b = true)) : interP a b = ([], 1) := if_neg h
theorem interP_lim {a b : List Bx} (h1 : validL a = true) (h2 : validL b = true) (h : intF a b = none) : interP a b = ([], 3) := by unfold interP; rw [if_pos ⟨h1, h2⟩, h]
theorem interP_ok {a b : List Bx} {out : List Bx} (h1 : validL a = true) (h2 : validL b = true) (h : intF a b = some out) : interP a b = (reduceL out, 0) := by unfold interP; rw [if_pos ⟨h1, h2⟩, h]
set_option maxHeartbeats 64000000 in
set_option maxRecDepth 10000 in
theorem pinter_any {ba bb : Nat → Prop} {A B : Option Addr} {c d n m : Nat} {a b : List Bx} {w : World} (hn : n = a.length) (hm : m = b.length) (ha : Bxs w ba A a) (hb : Bxs w bb B b) (hla : a.length ≤ 100000) (hlb : b.length ≤ 100000) (hoa : ∀ x ∈ a, OKB x) (hob : ∀ x ∈ b, OKB x) :
    Calls Tryz.prog 84 #[.slice A n c, .slice B m d] w fun e w' => (∃ v, e = .returned (.tuple #[v, .int .i64 (interP a b).2]) ∧ OwnBq w' w.heap.size (Ge w.heap.size) v (interP a b).1) ∧ Grows w w' := by
  subst hn hm
  have HOA := Lib.hid hoa
  have HOB := Lib.hid hob
  clear hoa hob
  have hB := Below.refl w.heap.size w
  go_enter Tryz.func84, Tryz.ntmps84
  go_wp2_with fail
  refine (pvalidl_any A c ba a _ ha (by omega) HOA.out).mono ?_
  cases hv : validL a
  · have HE : Hid (interP a b = ([], 1)) := Lib.hid (interP_bad (fun h => by rw [hv] at h; cases h.1))
    clear hv
    rintro e w2 ⟨rfl, hq⟩
    replace hB := below_grows hB (Nat.le_refl _) hq
    go_wp2
    refine bodyPost_ret (v := .tuple #[.slice none 0 0, .int .i64 1]) (by simp [results, Tryz.results84, go_sem]) rfl ?_
    rw [HE.out]
    exact ⟨⟨_, rfl, OwnBq.nil⟩, hB⟩
  have HVA := Lib.hid hv
  clear hv
  rintro e w2 ⟨rfl, hq⟩
  replace hB := below_grows hB (Nat.le_refl _) hq
  clear hq
  go_wp2_with fail
  refine (pvalidl_any B d bb b _ (hb.grows hB) (by omega) HOB.out).mono ?_
  cases hv : validL b
  · have HE : Hid (interP a b = ([], 1)) := Lib.hid (interP_bad (fun h => by rw [hv] at h; cases h.2))
    clear hv
    rintro e w3 ⟨rfl, hq⟩
    replace hB := below_grows hB (Nat.le_refl _) hq
    go_wp2
    refine bodyPost_ret (v := .tuple #[.slice none 0 0, .int .i64 1]) (by simp [results, Tryz.results84, go_sem]) rfl ?_
    rw [HE.out]
    exact ⟨⟨_, rfl, OwnBq.nil⟩, hB⟩
  have HVB := Lib.hid hv
  clear hv
  rintro e w3 ⟨rfl, hq⟩
  replace hB := below_grows hB (Nat.le_refl _) hq
  clear hq
  go_wp2_with fail
  go_loopw [6, 23] (fun v i wr => ∃ (k : Nat) (out : List Bx), k ≤ a.length ∧ i = .int .i64 k ∧ Hid ((a.take k).foldl (intRow b) (some []) = some out) ∧ Hid (∀ z ∈ out, OKB z) ∧ out.length ≤ 64 ∧ OwnBq wr w.heap.size (Ge w.heap.size) v out ∧ Below w.heap.size w wr) (fun _ i _ => a.length - (intOf i).toNat)
  case atStart => exact ⟨0, [], by omega, rfl, Lib.hid rfl, Lib.hid (fun z hz => by cases hz), by simp, OwnBq.nil, hB⟩
  case round =>
    clear hB
    obtain ⟨k, out0, hk, rfl, HK, HOO, hol, hw, hB⟩ := hrel
    by_cases hlt : k < a.length
    · obtain ⟨ad, x, A1, c1, A2, c2, A3, c3, e1, had, hx, hpx, q0, q1, q2, q3⟩ := ha.elemB hB hlt
      subst e1
      have HX := Lib.hid hx
      have hox := HOA.out x (List.mem_of_getElem? hx)
      clear hx
      have k8 := Blk.new wr 61 #[.int .i64 x.k, .slice A1 x.r.length c1, .slice A2 x.m.length c2, .slice A3 x.s.length c3]
      have hne := fun e => Nat.lt_irrefl _ (hw.lt _ e).2
      have hq := (Below.refl wr.heap.size wr).alloc (Nat.le_refl _) (Obj.cells #[.int .i64 x.k, .slice A1 x.r.length c1, .slice A2 x.m.length c2, .slice A3 x.s.length c3] 61)
      go_upto_region 7 with fail
      replace hB := below_grows hB (Nat.le_refl _) hq
      replace hw := hw.grows hq
      clear hq q0 q1 q2 q3
      generalize World.alloc wr _ = w5 at *
      generalize wr.heap.size = G8 at *
      have hB5 := hB
      clear hB
      go_wp2_with fail
      go_loopw [6, 29] (fun v i wq => ∃ (j : Nat) (out : List Bx), j ≤ b.length ∧ i = .int .i64 j ∧ Hid ((b.take j).foldl (intStep x) (some out0) = some out) ∧ Hid (∀ z ∈ out, OKB z) ∧ out.length ≤ 64 ∧ OwnBq wq w.heap.size (Ge w.heap.size) v out ∧ v.ownBlock ≠ some G8 ∧ Blk wq G8 61 #[.int .i64 x.k, .slice A1 x.r.length c1, .slice A2 x.m.length c2, .slice A3 x.s.length c3] ∧ Below w.heap.size w wq) (fun _ i _ => b.length - (intOf i).toNat)
      case atStart => exact ⟨0, out0, by omega, rfl, Lib.hid rfl, HOO, hol, hw, hne, k8, hB5⟩
      case round =>
        clear hw k8 hB5 HOO hol hne
        obtain ⟨j, out, hj, rfl, HJ, HOO, hol, hw, hne, k8, hB⟩ := hrel
        by_cases hjt : j < b.length
        · obtain ⟨ad2, y, B1, d1, B2, d2, B3, d3, e2, had2, hy, hpy, q0, q1, q2, q3⟩ := hb.elemB hB hjt
          subst e2
          have HY := Lib.hid hy
          have hoy := HOB.out y (List.mem_of_getElem? hy)
          clear hy
          have k10 := Blk.new wr 61 #[.int .i64 y.k, .slice B1 y.r.length d1, .slice B2 y.m.length d2, .slice B3 y.s.length d3]
          have hq := (Below.refl wr.heap.size wr).alloc (Nat.le_refl _) (Obj.cells #[.int .i64 y.k, .slice B1 y.r.length d1, .slice B2 y.m.length d2, .slice B3 y.s.length d3] 61)
          go_upto_region 10 with fail
          replace hB := below_grows hB (Nat.le_refl _) hq
          replace hw := hw.grows hq
          replace k8 := k8.grows hq
          clear hq q0 q1 q2 q3
          generalize World.alloc wr _ = w6 at *
          generalize wr.heap.size = G10 at *
          have x8 := k8.cell
          have x10 := k10.cell
          have hown := hw.lt
          go_wp2_with fail
          refine (both_any (hpx.grows hB) (hpy.grows hB) hox hoy).mono ?_
          have hoz := okb_both (y := y) hox
          have hsb : Hid (someB (bothF x y) = someB (bothF x y)) := Lib.hid rfl
          cases hs : someB (bothF x y)
          case false =>
            have HN : Hid ((b.take (j + 1)).foldl (intStep x) (some out0) = some out) := Lib.hid (by rw [fold_next HY.out, HJ.out]; exact intStep_no hs)
            clear hs hsb
            generalize bothF x y = z at *
            rintro e w7 ⟨⟨v2, rfl, E1, f1, E2, f2, E3, f3, rfl, hpz⟩, hq⟩
            replace hB := below_grows hB (Nat.le_refl _) hq
            replace hw := hw.grows hq
            replace k8 := k8.grows hq
            clear hq x8 x10 k10 hpz hown
            have hq := (Below.refl w7.heap.size w7).alloc (Nat.le_refl _) (Obj.cells #[.int .i64 z.k, .slice E1 z.r.length f1, .slice E2 z.m.length f2, .slice E3 z.s.length f3] 61)
            replace hB := below_grows hB (Nat.le_refl _) hq
            replace hw := hw.grows hq
            replace k8 := k8.grows hq
            go_upto_region 11 with fail
            clear hq
            generalize World.alloc w7 _ = w8 at *
            go_wp2
            go_roundw
            case rel => exact ⟨j + 1, out, by omega, by go_num, HN, HOO, hol, hw, hne, k8, hB⟩
            case measure => simp [intOf]; omega
          have HS := Lib.hid hs
          clear hs hsb
          have HZ : Hid (∀ w9 v2, BoxV w9 (Ge w6.heap.size) (bothF x y) v2 → ∃ z, z = bothF x y ∧ BoxV w9 (Ge w6.heap.size) z v2) := Lib.hid (fun _ _ h => ⟨_, rfl, h⟩)
          rintro e w7 ⟨⟨v2, rfl, hbv⟩, hq⟩
          obtain ⟨z, hz, E1, f1, E2, f2, E3, f3, rfl, hpz⟩ := HZ.out _ _ hbv
          rw [← hz] at hoz
          have HZE := Lib.hid hz
          clear hz hbv HZ
          replace hpz : BoxP w7 (Aq (Ge w.heap.size) _) z E1 f1 E2 f2 E3 f3 := hpz.mono fun k hk => ⟨by unfold Ge at *; have := hB.size; omega, fun e => by have := (hown _ e).2; unfold Ge at hk; omega⟩
          replace hB := below_grows hB (Nat.le_refl _) hq
          replace hw := hw.grows hq
          replace k8 := k8.grows hq
          replace k10 := k10.grows hq
          clear hq x8 x10 hown
          have k11 := Blk.new w7 61 #[.int .i64 z.k, .slice E1 z.r.length f1, .slice E2 z.m.length f2, .slice E3 z.s.length f3]
          have hq := (Below.refl w7.heap.size w7).alloc (Nat.le_refl _) (Obj.cells #[.int .i64 z.k, .slice E1 z.r.length f1, .slice E2 z.m.length f2, .slice E3 z.s.length f3] 61)
          replace hB := below_grows hB (Nat.le_refl _) hq
          replace hw := hw.grows hq
          replace k8 := k8.grows hq
          replace k10 := k10.grows hq
          replace hpz := hpz.grows hq
          go_upto_region 11 with fail
          clear hq
          generalize World.alloc w7 _ = w8 at *
          generalize w7.heap.size = G11 at *
          have x8 := k8.cell
          have x10 := k10.cell
          go_wp2_with fail
          refine (pieces_any A1 B1 c1 d1 x.r y.r _ (hpx.r.grows hB).sps (hpy.r.grows hB).sps hox.1 hoy.1).mono ?_
          by_cases h1 : 64 < piecesN x.r y.r
          case pos =>
            have dp : decide ((64 : Int) < (piecesN x.r y.r : Int)) = true := by simp only [decide_eq_true_eq]; omega
            have dp2 : decide (64 < piecesN x.r y.r) = true := by simpa using h1
            have HE : Hid (interP a b = ([], 3)) := Lib.hid (interP_lim HVA.out HVB.out (int_stop HX.out HY.out HK.out HJ.out (intStep_stop HS.out (.inl h1))))
            clear h1
            rintro e w9 ⟨rfl, hq⟩
            replace hB := below_grows hB (Nat.le_refl _) hq
            clear hq x8 x10
            go_wp2
            refine bodyPost_ret (v := .tuple #[.slice none 0 0, .int .i64 3]) (by simp [results, Tryz.results84, go_sem]) rfl ?_
            rw [HE.out]
            exact ⟨⟨_, rfl, OwnBq.nil⟩, hB⟩
          have HP1 := Lib.hid h1
          have dp : decide ((64 : Int) < (piecesN x.r y.r : Int)) = false := by simp only [decide_eq_false_iff_not]; omega
          have dp2 : decide (64 < piecesN x.r y.r) = false := by simpa using h1
          clear h1
          rintro e w9 ⟨rfl, hq⟩
          replace hB := below_grows hB (Nat.le_refl _) hq
          replace hw := hw.grows hq
          replace k8 := k8.grows hq
          replace k10 := k10.grows hq
          replace k11 := k11.grows hq
          replace hpz := hpz.grows hq
          clear hq x8 x10
          have x8 := k8.cell
          have x10 := k10.cell
          go_wp2_with fail
          refine (pieces_any A3 B3 c3 d3 x.s y.s _ (hpx.s.grows hB).sps (hpy.s.grows hB).sps hox.2.1 hoy.2.1).mono ?_
          by_cases h1 : 64 < piecesN x.s y.s
          case pos =>
            have ds : decide ((64 : Int) < (piecesN x.s y.s : Int)) = true := by simp only [decide_eq_true_eq]; omega
            have ds2 : decide (64 < piecesN x.s y.s) = true := by simpa using h1
            have HE : Hid (interP a b = ([], 3)) := Lib.hid (interP_lim HVA.out HVB.out (int_stop HX.out HY.out HK.out HJ.out (intStep_stop HS.out (.inr (.inl h1)))))
            clear h1
            rintro e w9 ⟨rfl, hq⟩
            replace hB := below_grows hB (Nat.le_refl _) hq
            clear hq x8 x10
            go_wp2
            refine bodyPost_ret (v := .tuple #[.slice none 0 0, .int .i64 3]) (by simp [results, Tryz.results84, go_sem]) rfl ?_
            rw [HE.out]
            exact ⟨⟨_, rfl, OwnBq.nil⟩, hB⟩
          have HP2 := Lib.hid h1
          have ds : decide ((64 : Int) < (piecesN x.s y.s : Int)) = false := by simp only [decide_eq_false_iff_not]; omega
          have ds2 : decide (64 < piecesN x.s y.s) = false := by simpa using h1
          clear h1
          rintro e w10 ⟨rfl, hq⟩
          replace hB := below_grows hB (Nat.le_refl _) hq
          replace hw := hw.grows hq
          replace k8 := k8.grows hq
          replace k11 := k11.grows hq
          replace hpz := hpz.grows hq
          clear hq x8 x10 k10
          obtain ⟨A9, c9, rfl, hc9, -⟩ := hw.read
          by_cases h1 : out.length = 64
          case pos =>
            have dq : ((out.length : Int) == 64) = true := by simp only [beq_iff_eq]; omega
            have HE : Hid (interP a b = ([], 3)) := Lib.hid (interP_lim HVA.out HVB.out (int_stop HX.out HY.out HK.out HJ.out (intStep_stop HS.out (.inr (.inr h1)))))
            clear h1
            go_wp2
            refine bodyPost_ret (v := .tuple #[.slice none 0 0, .int .i64 3]) (by simp [results, Tryz.results84, go_sem]) rfl ?_
            rw [HE.out]
            exact ⟨⟨_, rfl, OwnBq.nil⟩, hB⟩
          have dq : ((out.length : Int) == 64) = false := by simp only [beq_eq_false_iff_ne, ne_eq]; omega
          have HN : Hid ((b.take (j + 1)).foldl (intStep x) (some out0) = some (out ++ [z])) := Lib.hid (by rw [fold_next HY.out, HJ.out, HZE.out]; exact intStep_yes HS.out HP1.out HP2.out h1)
          have hol2 : (out ++ [z]).length ≤ 64 := by rw [List.length_append, List.length_singleton]; omega
          have HOO2 := Lib.hid (okb_snoc HOO.out hoz)
          clear h1 HJ
          have x11 := k11.cell
          go_upto_region 14 with fail
          refine wp_region_lit ?_
          iterate 3
            refine wpList_plain rfl (fun K hK => ?_)
            go_simp
            refine hK _ _ ?_
            clear hK K
          have hown := hw.lt
          have hL := bxs_lit hpz ⟨by unfold Ge; exact hB.size, fun e => by have := (hown _ e).2; omega⟩
          have hq := (Below.refl w10.heap.size w10).alloc (Nat.le_refl _) (Obj.cells #[.int .i64 z.k, .slice E1 z.r.length f1, .slice E2 z.m.length f2, .slice E3 z.s.length f3] 61)
          replace hw := hw.grows hq
          replace hB := below_grows hB (Nat.le_refl _) hq
          replace k8 := k8.grows hq
          have hown3 := hw.lt
          clear hq hpz hown x11 k11
          refine wpList_append_boxesq rfl (.tmp 60) (.tmp 62) rfl (m := [z]) rfl rfl hw rfl hL (by simp only [List.length_singleton]; omega) hB.size ?_
          intro v5 w12 ho2 hgr hv5
          have hne2 : v5.ownBlock ≠ some G8 := by
            rcases hv5 with e | e
            · rw [e]; exact hne
            · rw [e]; intro e2; injection e2 with e2; have := k8.lt; omega
          replace hB := hB.grown hgr hB.size (fun q e => (hown3 q e).1)
          replace k8 := k8.grown hgr (fun e => hne e.symm)
          clear hown3 hgr hw hL
          generalize out ++ [z] = out2 at *
          go_wp2
          go_roundw
          case rel => exact ⟨j + 1, out2, by omega, by go_num, HN, HOO2, hol2, ho2, hne2, k8, hB⟩
          case measure => simp [intOf]; omega
        · have HN : Hid ((a.take (k + 1)).foldl (intRow b) (some []) = some out) := Lib.hid (by rw [fold_next HX.out, HK.out]; have := HJ.out; rwa [List.take_of_length_le (by omega)] at this)
          go_wp2
          go_roundw
          case rel => exact ⟨k + 1, out, by omega, by go_num, HN, HOO, hol, hw, hB⟩
          case measure => simp [intOf]; omega
    · have HE : Hid (interP a b = (reduceL out0, 0)) := Lib.hid (interP_ok HVA.out HVB.out (by have := HK.out; rwa [List.take_of_length_le (by omega)] at this))
      obtain ⟨A9, c9, rfl, hc9, hxo⟩ := hw.read
      go_wp2_with fail
      refine (reduce_any rfl hxo (by omega) HOO.out).mono ?_
      rintro e w3 ⟨⟨v, rfl, hw2⟩, hq2⟩
      have hs := hB.size
      replace hB := below_grows hB (Nat.le_refl _) hq2
      go_wp2
      refine bodyPost_ret (v := .tuple #[v, .int .i64 0]) (by simp [results, Tryz.results84, go_sem]) rfl ?_
      rw [HE.out]
      exact ⟨⟨_, rfl, hw2.lower hs (fun k hk => by unfold Ge at *; omega)⟩, hB⟩
end Go.Proofs.YtjbkjgmcfommgaaGreat


namespace Go.Proofs.YtjbkjgmcfommgaaGreat
open Go.RowKit
/-- Reduced lists. -/
theorem drop_iff {l : List Bx} {i : Nat} {b : Bx} : ∀ n, dropUp l i b n = true ↔ ∃ j c, j < n ∧ l[j]? = some c ∧ dropAt i b j c = true := by
  intro n
  induction n with
  | zero => exact ⟨fun h => (by cases h), fun ⟨j, c, h, _⟩ => (by omega)⟩
  | succ n ih =>
    show (dropUp l i b n || (match l[n]? with | some c => dropAt i b n c | none => false)) = true ↔ _
    rw [Bool.or_eq_true, ih]
    constructor
    · rintro (⟨j, c, h1, h2, h3⟩ | h)
      · exact ⟨j, c, by omega, h2, h3⟩
      · cases e : l[n]? with
        | none => rw [e] at h; cases h
        | some c => rw [e] at h; exact ⟨n, c, by omega, e, h⟩
    · rintro ⟨j, c, h1, h2, h3⟩
      by_cases hj : j = n
      · subst hj
        exact Or.inr (by rw [h2]; exact h3)
      · exact Or.inl ⟨j, c, by omega, h2, h3⟩
theorem dropAt_iff {i j : Nat} {b c : Bx} : dropAt i b j c = true ↔ j ≠ i ∧ insideB b c = true ∧ (j < i ∨ insideB c b = false) := by
  unfold dropAt
  simp only [Bool.and_eq_true, Bool.or_eq_true, decide_eq_true_eq, Bool.not_eq_true', and_assoc]
/-- Box j makes box i fall away. -/
def Dom (l : List Bx) (i j : Nat) : Bool := match l[i]?, l[j]? with | some b, some c => dropAt i b j c | _, _ => false
theorem dom_iff {l : List Bx} {i j : Nat} : Dom l i j = true ↔ ∃ b c, l[i]? = some b ∧ l[j]? = some c ∧ j ≠ i ∧ insideB b c = true ∧ (j < i ∨ insideB c b = false) := by
  unfold Dom
  constructor
  · intro h
    cases e : l[i]? with
    | none => rw [e] at h; cases h
    | some b =>
      cases e2 : l[j]? with
      | none => rw [e, e2] at h; cases h
      | some c => rw [e, e2] at h; exact ⟨b, c, rfl, rfl, dropAt_iff.1 h⟩
  · rintro ⟨b, c, e, e2, h⟩
    rw [e, e2]
    exact dropAt_iff.2 h
theorem dom_trans {l : List Bx} {i j k : Nat} (h1 : Dom l i j = true) (h2 : Dom l j k = true) : Dom l i k = true := by
  obtain ⟨b, c, e1, e2, n1, i1, o1⟩ := dom_iff.1 h1
  obtain ⟨c', d, e3, e4, n2, i2, o2⟩ := dom_iff.1 h2
  rw [e2] at e3
  injection e3 with e3
  subst e3
  have h3 := insB_trans i1 i2
  have key : k < i ∨ insideB d b = false := by
    by_cases hdb : insideB d b = true
    · have c1 : insideB c b = true := insB_trans i2 hdb
      have c2 : insideB d c = true := insB_trans hdb i1
      rcases o1 with o1 | o1
      · rcases o2 with o2 | o2
        · exact .inl (by omega)
        · rw [c2] at o2; cases o2
      · rw [c1] at o1; cases o1
    · exact .inr (by simpa using hdb)
  refine dom_iff.2 ⟨b, d, e1, e4, fun e => ?_, h3, key⟩
  subst e
  rw [e1] at e4
  injection e4 with e4
  subst e4
  rcases key with h | h
  · omega
  · rw [insB_self] at h; cases h
theorem dom_irr (l : List Bx) (i : Nat) : Dom l i i = false := by
  cases h : Dom l i i
  · rfl
  · obtain ⟨_, _, _, _, n, _⟩ := dom_iff.1 h
    exact absurd rfl n
theorem count_lt {α : Type} {p q : α → Bool} : ∀ {l : List α} {x : α}, (∀ y, p y = true → q y = true) → x ∈ l → q x = true → p x = false → l.countP p < l.countP q
  | [], x, _, hx, _, _ => by cases hx
  | y :: l, x, h, hx, h1, h2 => by
    rw [List.countP_cons, List.countP_cons]
    have hm := List.countP_mono_left (l := l) (fun z _ => h z)
    rcases List.mem_cons.1 hx with e | hx
    · subst e
      rw [h1, h2]
      simp
      omega
    · have := count_lt h hx h1 h2
      by_cases hp : p y = true
      · rw [hp, h y hp]
        simp
        exact this
      · have hp2 : p y = false := by simpa using hp
        simp only [hp2, Bool.false_eq_true, if_false]
        omega
theorem keep_in {l : List Bx} {i : Nat} {b : Bx} (hi : l[i]? = some b) (hd : dropUp l i b l.length = false) : ∀ n, i < n → b ∈ keepUp l n := by
  intro n
  induction n with
  | zero => exact fun h => by omega
  | succ n ih =>
    intro h
    show b ∈ keepUp l n ++ (match l[n]? with | some b => if dropUp l n b l.length = true then [] else [b] | none => [])
    by_cases e : i = n
    · subst e
      rw [hi]
      refine List.mem_append_right _ ?_
      show b ∈ if dropUp l i b l.length = true then [] else [b]
      rw [if_neg (by rw [hd]; decide)]
      exact List.mem_singleton.2 rfl
    · exact List.mem_append_left _ (ih (by omega))
theorem drop_dom {l : List Bx} {i : Nat} {b : Bx} (hi : l[i]? = some b) : dropUp l i b l.length = true ↔ ∃ j, Dom l i j = true := by
  rw [drop_iff]
  constructor
  · rintro ⟨j, c, _, h2, h3⟩
    exact ⟨j, by unfold Dom; rw [hi, h2]; exact h3⟩
  · rintro ⟨j, h⟩
    obtain ⟨b', c, e1, e2, h3⟩ := dom_iff.1 h
    rw [hi] at e1
    injection e1 with e1
    subst e1
    exact ⟨j, c, (List.getElem?_eq_some_iff.1 e2).1, e2, dropAt_iff.2 h3⟩
theorem reduce_top_ {l : List Bx} : ∀ (m i : Nat) (b : Bx), (List.range l.length).countP (Dom l i) ≤ m → l[i]? = some b → ∃ c ∈ reduceL l, insideB b c = true := by
  intro m
  induction m with
  | zero =>
    intro i b hm hi
    refine ⟨b, keep_in hi ?_ l.length (List.getElem?_eq_some_iff.1 hi).1, insB_self b⟩
    cases h : dropUp l i b l.length
    · rfl
    · obtain ⟨j, hj⟩ := (drop_dom hi).1 h
      obtain ⟨_, c, _, e2, _⟩ := dom_iff.1 hj
      have : 0 < (List.range l.length).countP (Dom l i) := List.countP_pos_iff.2 ⟨j, List.mem_range.2 (List.getElem?_eq_some_iff.1 e2).1, hj⟩
      omega
  | succ m ih =>
    intro i b hm hi
    cases h : dropUp l i b l.length
    · exact ⟨b, keep_in hi h l.length (List.getElem?_eq_some_iff.1 hi).1, insB_self b⟩
    · obtain ⟨j, hj⟩ := (drop_dom hi).1 h
      obtain ⟨b', c, e1, e2, _, hin, _⟩ := dom_iff.1 hj
      rw [hi] at e1
      injection e1 with e1
      subst e1
      have hlt := count_lt (l := List.range l.length) (p := Dom l j) (q := Dom l i) (x := j) (fun y hy => dom_trans hj hy) (List.mem_range.2 (List.getElem?_eq_some_iff.1 e2).1) hj (dom_irr l j)
      obtain ⟨d, hd, h2⟩ := ih j c (by omega) e2
      exact ⟨d, hd, insB_trans hin h2⟩
/-- Each box lies in one that stays. -/
theorem reduce_top {l : List Bx} {b : Bx} (hb : b ∈ l) : ∃ c ∈ reduceL l, insideB b c = true := by
  obtain ⟨i, hi⟩ := List.mem_iff_getElem?.1 hb
  exact reduce_top_ _ i b (Nat.le_refl _) hi
theorem reduce_nil {l : List Bx} : reduceL l = [] ↔ l = [] := by
  constructor
  · intro h
    cases l with
    | nil => rfl
    | cons b l =>
      obtain ⟨c, hc, _⟩ := reduce_top (List.mem_cons_self .. : b ∈ b :: l)
      rw [h] at hc
      cases hc
  · intro h
    subst h
    rfl
/-- Lists whose boxes are good: FL. -/
def FL (l : List Bx) : Prop := (∀ b ∈ l, FB b) ∧ l.length ≤ 64
theorem FL.valid {l : List Bx} (h : FL l) : validL l = true := by
  unfold validL
  rw [Bool.and_eq_true, decide_eq_true_eq, List.all_eq_true]
  exact ⟨h.2, fun b hb => (h.1 b hb).1⟩
theorem FL.boxes {l : List Bx} (h : FL l) : boxesF l = l := if_pos h.valid
theorem FL.of_valid {l : List Bx} (h : validL l = true) (hk : ∀ b ∈ l, I64 b.k) : FL l := by
  unfold validL at h
  rw [Bool.and_eq_true, decide_eq_true_eq, List.all_eq_true] at h
  exact ⟨fun b hb => ⟨h.2 b hb, hk b hb⟩, h.1⟩
theorem FL.reduce {l : List Bx} (h : FL l) : FL (reduceL l) := ⟨fun b hb => h.1 b (reduce_mem b hb), Nat.le_trans (reduce_len l) h.2⟩
theorem FL.has {l : List Bx} (h : FL l) (c : Ch) : hasL l c = true ↔ ∃ b ∈ l, inB b c = true := by
  unfold hasL
  rw [h.boxes, List.any_eq_true]
theorem has_reduce {l : List Bx} (h : FL l) (c : Ch) : hasL (reduceL l) c = hasL l c := by
  rw [Bool.eq_iff_iff, h.reduce.has, h.has]
  constructor
  · rintro ⟨b, hb, hc⟩
    exact ⟨b, reduce_mem b hb, hc⟩
  · rintro ⟨b, hb, hc⟩
    obtain ⟨d, hd, hi⟩ := reduce_top hb
    exact ⟨d, hd, insB_has (h.1 b hb) (h.1 d (reduce_mem d hd)) hi hc⟩
/-- Products. -/
theorem len_cuts (x : Sp) (b : List Sp) : (cutsS x b).length = cutsN x b := by
  unfold cutsS cutsN
  induction b with
  | nil => rfl
  | cons y b ih =>
    rw [List.flatMap_cons, List.length_append, ih, List.filter_cons]
    unfold cutS
    by_cases h : max x.1 y.1 ≤ min x.2 y.2
    · rw [if_pos h, decide_eq_true h, if_pos rfl, List.length_cons]
      simp
      omega
    · rw [if_neg h, decide_eq_false h, if_neg (by decide), List.length_nil, Nat.zero_add]
theorem len_inter (a b : List Sp) : (interF a b).length = piecesN a b := by
  unfold piecesN
  induction a with
  | nil => rfl
  | cons x a ih =>
    have : interF (x :: a) b = cutsS x b ++ interF a b := rfl
    rw [this, List.length_append, ih, List.map_cons, List.sum_cons, len_cuts]
theorem FB.r {b : Bx} (h : FB b) : okS b.r = true := (fineB_parts h.1).2.1.1
theorem FB.s {b : Bx} (h : FB b) : okS b.s = true := (fineB_parts h.1).2.2.1.1
theorem FB.r0 {b : Bx} (h : FB b) : 0 < b.r.length := (fineB_parts h.1).2.1.2
theorem FB.s0 {b : Bx} (h : FB b) : 0 < b.s.length := (fineB_parts h.1).2.2.1.2
theorem FB.m0 {b : Bx} (h : FB b) : 0 < b.m.length := (fineB_parts h.1).2.2.2
theorem FB.k0 {b : Bx} (h : FB b) : b.k ≠ 0 := by
  have := kinds_range h.2 (fineB_parts h.1).1
  omega
theorem FB.sr {b : Bx} (h : FB b) : spansF b.r = b.r := ok_spans h.r
theorem FB.ss {b : Bx} (h : FB b) : spansF b.s = b.s := ok_spans h.s
theorem fineB_all {b : Bx} : fineB b = true ↔ kindsOk b.k = true ∧ withinS b.r 1000 768000 = true ∧ withinS b.s 1 65536 = true ∧ mapsOk b.m = true := by
  unfold fineB
  simp only [Bool.and_eq_true, and_assoc]
theorem maps_iff {m : List (List Int)} : mapsOk m = true ↔ 1 ≤ m.length ∧ m.length ≤ 16 ∧ (∀ x ∈ m, validM x = true) ∧ m.Nodup := by
  unfold mapsOk uniqOk
  simp only [Bool.and_eq_true, decide_eq_true_eq, List.all_eq_true, and_assoc]
theorem maps_sub {m n : List (List Int)} (h : mapsOk m = true) (hs : n.Sublist m) (hn : 0 < n.length) : mapsOk n = true := by
  obtain ⟨h1, h2, h3, h4⟩ := maps_iff.1 h
  exact maps_iff.2 ⟨hn, Nat.le_trans hs.length_le h2, fun x hx => h3 x (hs.subset hx), hs.nodup h4⟩
/-- Whether a choice is in a box in some dimensions. -/
def inD (d : Int) (y : Bx) (c : Ch) : Bool := (!bitZ d 1 || kindB y.k c.k) && (!bitZ d 2 || hasF y.r c.r) && (!bitZ d 4 || decide (c.m ∈ y.m)) && (!bitZ d 8 || hasF y.s c.s)
theorem bit15 : bitZ 15 1 = true ∧ bitZ 15 2 = true ∧ bitZ 15 4 = true ∧ bitZ 15 8 = true := by decide
theorem some_iff {z : Bx} : someB z = true ↔ z.k ≠ 0 ∧ 0 < z.m.length ∧ 0 < z.r.length ∧ 0 < z.s.length := by
  unfold someB
  simp only [Bool.and_eq_true, decide_eq_true_eq, bne_iff_ne, ne_eq, and_assoc]
theorem many_iff {d : Int} {z : Bx} : manyB d z = false ↔ (bitZ d 2 = true → z.r.length ≤ 64) ∧ (bitZ d 8 = true → z.s.length ≤ 64) := by
  unfold manyB
  cases bitZ d 2 <;> cases bitZ d 8 <;> simp
theorem dims_fine {d : Int} {x y : Bx} (hx : FB x) (hy : FB y) (h : someB (dimsF d x y) = true) (hm : manyB d (dimsF d x y) = false) : FB (dimsF d x y) := by
  obtain ⟨s1, s2, s3, s4⟩ := some_iff.1 h
  obtain ⟨m1, m2⟩ := many_iff.1 hm
  obtain ⟨f1, f2, f3, f4⟩ := fineB_all.1 hx.1
  obtain ⟨g1, g2, g3, g4⟩ := fineB_all.1 hy.1
  unfold dimsF at *
  simp only [hx.sr, hx.ss, hy.sr, hy.ss] at *
  have hk : kindsOk (if bitZ d 1 = true then bits .and .i64 x.k y.k else x.k) = true ∧ I64 (if bitZ d 1 = true then bits .and .i64 x.k y.k else x.k) := by
    by_cases hb : bitZ d 1 = true
    · rw [if_pos hb] at s1 ⊢
      exact kinds_and hx.2 hy.2 f1 g1 s1
    · rw [if_neg hb]
      exact ⟨f1, hx.2⟩
  refine ⟨fineB_all.2 ⟨hk.1, ?_, ?_, ?_⟩, hk.2⟩
  · show withinS (if bitZ d 2 = true then interF x.r y.r else x.r) _ _ = true
    by_cases hb : bitZ d 2 = true
    · rw [if_pos hb] at s3 m1 ⊢
      exact within_inter f2 hy.r s3 (m1 hb)
    · rw [if_neg hb]
      exact f2
  · show withinS (if bitZ d 8 = true then interF x.s y.s else x.s) _ _ = true
    by_cases hb : bitZ d 8 = true
    · rw [if_pos hb] at s4 m2 ⊢
      exact within_inter f3 hy.s s4 (m2 hb)
    · rw [if_neg hb]
      exact f3
  · show mapsOk (if bitZ d 4 = true then x.m.filter (fun z => decide (z ∈ y.m)) else x.m) = true
    by_cases hb : bitZ d 4 = true
    · rw [if_pos hb] at s2 ⊢
      exact maps_sub f4 List.filter_sublist s2
    · rw [if_neg hb]
      exact f4
theorem dims_in {d : Int} {x y : Bx} (hx : FB x) (hy : FB y) (hm : manyB d (dimsF d x y) = false) (c : Ch) : inB (dimsF d x y) c = (inB x c && inD d y c) := by
  obtain ⟨m1, m2⟩ := many_iff.1 hm
  have e1 : kindB (dimsF d x y).k c.k = (kindB x.k c.k && (!bitZ d 1 || kindB y.k c.k)) := by
    show kindB (if bitZ d 1 = true then bits .and .i64 x.k y.k else x.k) c.k = _
    cases hb : bitZ d 1
    · simp
    · rw [if_pos rfl, kind_and hx.kr hy.kr]
      simp
  have e2 : hasF (dimsF d x y).r c.r = (hasF x.r c.r && (!bitZ d 2 || hasF y.r c.r)) := by
    have e : (dimsF d x y).r = if bitZ d 2 = true then interF (spansF x.r) (spansF y.r) else x.r := rfl
    rw [e] at m1 ⊢
    cases hb : bitZ d 2
    · simp
    · rw [hb] at m1
      rw [if_pos rfl, hx.sr, hy.sr] at *
      rw [has_inter2 hx.r hy.r (m1 rfl)]
      simp
  have e3 : decide (c.m ∈ (dimsF d x y).m) = (decide (c.m ∈ x.m) && (!bitZ d 4 || decide (c.m ∈ y.m))) := by
    show decide (c.m ∈ (if bitZ d 4 = true then x.m.filter (fun z => decide (z ∈ y.m)) else x.m)) = _
    cases hb : bitZ d 4
    · simp
    · rw [if_pos rfl]
      simp [List.mem_filter]
  have e4 : hasF (dimsF d x y).s c.s = (hasF x.s c.s && (!bitZ d 8 || hasF y.s c.s)) := by
    have e : (dimsF d x y).s = if bitZ d 8 = true then interF (spansF x.s) (spansF y.s) else x.s := rfl
    rw [e] at m2 ⊢
    cases hb : bitZ d 8
    · simp
    · rw [hb] at m2
      rw [if_pos rfl, hx.ss, hy.ss] at *
      rw [has_inter2 hx.s hy.s (m2 rfl)]
      simp
  unfold inB inD
  rw [e1, e2, e3, e4]
  generalize kindB x.k c.k = a1
  generalize hasF x.r c.r = a2
  generalize decide (c.m ∈ x.m) = a3
  generalize hasF x.s c.s = a4
  generalize (!bitZ d 1 || kindB y.k c.k) = b1
  generalize (!bitZ d 2 || hasF y.r c.r) = b2
  generalize (!bitZ d 4 || decide (c.m ∈ y.m)) = b3
  generalize (!bitZ d 8 || hasF y.s c.s) = b4
  cases a1 <;> cases a2 <;> cases a3 <;> cases a4 <;> cases b1 <;> cases b2 <;> cases b3 <;> cases b4 <;> rfl
def pairsL (a b : List Bx) : List (Bx × Bx) := a.flatMap fun x => b.map fun y => (x, y)
theorem mem_pairs {a b : List Bx} {p : Bx × Bx} : p ∈ pairsL a b ↔ p.1 ∈ a ∧ p.2 ∈ b := by
  unfold pairsL
  rw [List.mem_flatMap]
  constructor
  · rintro ⟨x, hx, h⟩
    obtain ⟨y, hy, e⟩ := List.mem_map.1 h
    subst e
    exact ⟨hx, hy⟩
  · rintro ⟨h1, h2⟩
    exact ⟨p.1, h1, List.mem_map.2 ⟨p.2, h2, rfl⟩⟩
theorem pairs_len (a b : List Bx) : (pairsL a b).length = a.length * b.length := by
  unfold pairsL
  induction a with
  | nil => simp
  | cons x a ih =>
    rw [List.flatMap_cons, List.length_append, ih, List.length_map, List.length_cons, Nat.succ_mul]
    omega
theorem prod_pairs (d : Int) (a b : List Bx) : ∀ s, a.foldl (prodRow d b) s = (pairsL a b).foldl (fun s p => prodStep d p.1 s p.2) s := by
  unfold pairsL
  induction a with
  | nil => exact fun s => rfl
  | cons x a ih =>
    intro s
    rw [List.foldl_cons, ih, List.flatMap_cons, List.foldl_append, List.foldl_map]
    rfl
def candL (d : Int) (ps : List (Bx × Bx)) : List Bx := (ps.map fun p => dimsF d p.1 p.2).filter someB
theorem prod_cand (d : Int) : ∀ (ps : List (Bx × Bx)) (out : List Bx), out.length ≤ 64 → (∀ z ∈ candL d ps, manyB d z = false) → out.length + (candL d ps).length ≤ 64 → ps.foldl (fun s p => prodStep d p.1 s p.2) (some out) = some (out ++ candL d ps) := by
  intro ps
  induction ps with
  | nil => intro out _ _ _; simp [candL]
  | cons p ps ih =>
    intro out h1 h2 h3
    rw [List.foldl_cons]
    by_cases hs : someB (dimsF d p.1 p.2) = true
    · have e : candL d (p :: ps) = dimsF d p.1 p.2 :: candL d ps := by unfold candL; rw [List.map_cons, List.filter_cons, if_pos hs]
      rw [e] at h2 h3 ⊢
      rw [List.length_cons] at h3
      rw [prodStep_yes hs (h2 _ (List.mem_cons_self ..)) (by omega), ih _ (by rw [List.length_append, List.length_singleton]; omega) (fun z hz => h2 z (List.mem_cons_of_mem _ hz)) (by rw [List.length_append, List.length_singleton]; omega)]
      simp
    · have hs2 : someB (dimsF d p.1 p.2) = false := by simpa using hs
      have e : candL d (p :: ps) = candL d ps := by unfold candL; rw [List.map_cons, List.filter_cons, if_neg hs]
      rw [e] at h2 h3 ⊢
      rw [prodStep_no hs2, ih out h1 h2 h3]
theorem prod_out (d : Int) : ∀ (ps : List (Bx × Bx)) (out r : List Bx), out.length ≤ 64 → ps.foldl (fun s p => prodStep d p.1 s p.2) (some out) = some r → r = out ++ candL d ps ∧ (∀ z ∈ candL d ps, manyB d z = false) ∧ r.length ≤ 64 := by
  intro ps
  induction ps with
  | nil => intro out r h h1; injection h1 with h1; subst h1; exact ⟨by simp [candL], fun z hz => (by cases hz), h⟩
  | cons p ps ih =>
    intro out r h h1
    rw [List.foldl_cons] at h1
    by_cases hs : someB (dimsF d p.1 p.2) = true
    · have e : candL d (p :: ps) = dimsF d p.1 p.2 :: candL d ps := by unfold candL; rw [List.map_cons, List.filter_cons, if_pos hs]
      by_cases hm : manyB d (dimsF d p.1 p.2) = true ∨ 64 ≤ out.length
      · rw [prodStep_stop hs hm, fold_none (fun x => prodStep_none d x.1 x.2)] at h1
        cases h1
      · have hm1 : manyB d (dimsF d p.1 p.2) = false := by
          cases e : manyB d (dimsF d p.1 p.2)
          · rfl
          · exact absurd (.inl e) hm
        have hm2 : out.length < 64 := by
          rcases Nat.lt_or_ge out.length 64 with h | h
          · exact h
          · exact absurd (.inr h) hm
        rw [prodStep_yes hs hm1 hm2] at h1
        obtain ⟨i1, i2, i3⟩ := ih _ r (by rw [List.length_append, List.length_singleton]; omega) h1
        rw [e]
        refine ⟨by rw [i1]; simp, fun z hz => ?_, i3⟩
        rcases List.mem_cons.1 hz with rfl | hz
        · exact hm1
        · exact i2 z hz
    · have hs2 : someB (dimsF d p.1 p.2) = false := by simpa using hs
      have e : candL d (p :: ps) = candL d ps := by unfold candL; rw [List.map_cons, List.filter_cons, if_neg hs]
      rw [prodStep_no hs2] at h1
      rw [e]
      exact ih out r h h1
theorem mem_cand {d : Int} {a b : List Bx} {z : Bx} : z ∈ candL d (pairsL a b) ↔ ∃ x ∈ a, ∃ y ∈ b, z = dimsF d x y ∧ someB z = true := by
  unfold candL
  rw [List.mem_filter, List.mem_map]
  constructor
  · rintro ⟨⟨p, hp, rfl⟩, hs⟩
    obtain ⟨h1, h2⟩ := mem_pairs.1 hp
    exact ⟨p.1, h1, p.2, h2, rfl, hs⟩
  · rintro ⟨x, hx, y, hy, rfl, hs⟩
    exact ⟨⟨(x, y), mem_pairs.2 ⟨hx, hy⟩, rfl⟩, hs⟩
theorem cand_len (d : Int) (a b : List Bx) : (candL d (pairsL a b)).length ≤ a.length * b.length := by
  rw [← pairs_len]
  unfold candL
  refine Nat.le_trans (List.length_filter_le _ _) ?_
  rw [List.length_map]
  exact Nat.le_refl _
/-- What a product is, if it is one. -/
theorem prod_some {d : Int} {a b r : List Bx} (h : prodF d a b = some r) : r = candL d (pairsL a b) ∧ (∀ z ∈ r, manyB d z = false) ∧ r.length ≤ 64 := by
  unfold prodF at h
  rw [prod_pairs] at h
  obtain ⟨h1, h2, h3⟩ := prod_out d _ [] r (by simp) h
  rw [List.nil_append] at h1
  exact ⟨h1, fun z hz => h2 z (h1 ▸ hz), h3⟩
theorem prod_is {d : Int} {a b : List Bx} (h1 : ∀ x ∈ a, ∀ y ∈ b, someB (dimsF d x y) = true → manyB d (dimsF d x y) = false) (h2 : (candL d (pairsL a b)).length ≤ 64) : prodF d a b = some (candL d (pairsL a b)) := by
  unfold prodF
  rw [prod_pairs, prod_cand d _ [] (by simp) (fun z hz => ?_) (by simpa using h2), List.nil_append]
  obtain ⟨x, hx, y, hy, rfl, hs⟩ := mem_cand.1 hz
  exact h1 x hx y hy hs
theorem prod_fine {d : Int} {a b r : List Bx} (ha : FL a) (hb : FL b) (h : prodF d a b = some r) : FL r := by
  obtain ⟨h1, h2, h3⟩ := prod_some h
  refine ⟨fun z hz => ?_, h3⟩
  have hm := h2 z hz
  rw [h1] at hz
  obtain ⟨x, hx, y, hy, rfl, hs⟩ := mem_cand.1 hz
  exact dims_fine (ha.1 x hx) (hb.1 y hy) hs hm
theorem mem_head {l : List Sp} (hc : Canon l) (h : 0 < l.length) : ∃ n, Mem l n := by
  cases l with
  | nil => simp at h
  | cons z l => exact ⟨z.1, z, List.mem_cons_self .., Int.le_refl _, hc.1 z (List.mem_cons_self ..)⟩
theorem kind_zero (k : Int) : kindB 0 k = false := by
  cases h : kindB 0 k
  · rfl
  · obtain ⟨h1, h2⟩ := kindB_rng h
    obtain ⟨j, rfl⟩ : ∃ j : Nat, k = (j : Int) := ⟨k.toNat, by omega⟩
    have := kind_bit (n := 0) (k := j) (by omega) (by omega)
    rw [show ((0 : Nat) : Int) = 0 from rfl] at this
    rw [this] at h
    simp at h
theorem dims_some {d : Int} {x y : Bx} (hx : FB x) (hy : FB y) {c : Ch} (h1 : inB x c = true) (h2 : inD d y c = true) : someB (dimsF d x y) = true := by
  obtain ⟨x1, x2, x3, x4⟩ := inB_iff.1 h1
  unfold inD at h2
  simp only [Bool.and_eq_true, Bool.or_eq_true, Bool.not_eq_true', decide_eq_true_eq] at h2
  obtain ⟨⟨⟨y1, y2⟩, y3⟩, y4⟩ := h2
  refine some_iff.2 ⟨?_, ?_, ?_, ?_⟩
  · show (if bitZ d 1 = true then bits .and .i64 x.k y.k else x.k) ≠ 0
    cases hb : bitZ d 1
    · exact hx.k0
    · rw [hb] at y1
      rw [if_pos rfl]
      intro e
      have := kind_and hx.kr hy.kr c.k
      rw [e, x1, y1.resolve_left (by decide), kind_zero] at this
      cases this
  · show 0 < (if bitZ d 4 = true then x.m.filter (fun z => decide (z ∈ y.m)) else x.m).length
    cases hb : bitZ d 4
    · exact hx.m0
    · rw [hb] at y3
      rw [if_pos rfl]
      exact List.length_pos_of_mem (List.mem_filter.2 ⟨x3, decide_eq_true (y3.resolve_left (by decide))⟩)
  · show 0 < (if bitZ d 2 = true then interF (spansF x.r) (spansF y.r) else x.r).length
    cases hb : bitZ d 2
    · exact hx.r0
    · rw [hb] at y2
      rw [if_pos rfl, hx.sr, hy.sr]
      obtain ⟨z, hz, _⟩ := (mem_inter x.r y.r c.r).2 ⟨(hasF_iff hx.r c.r).1 x2, (hasF_iff hy.r c.r).1 (y2.resolve_left (by decide))⟩
      exact List.length_pos_of_mem hz
  · show 0 < (if bitZ d 8 = true then interF (spansF x.s) (spansF y.s) else x.s).length
    cases hb : bitZ d 8
    · exact hx.s0
    · rw [hb] at y4
      rw [if_pos rfl, hx.ss, hy.ss]
      obtain ⟨z, hz, _⟩ := (mem_inter x.s y.s c.s).2 ⟨(hasF_iff hx.s c.s).1 x4, (hasF_iff hy.s c.s).1 (y4.resolve_left (by decide))⟩
      exact List.length_pos_of_mem hz
theorem some_has {d : Int} {x y : Bx} (hx : FB x) (hy : FB y) (h : someB (dimsF d x y) = true) : ∃ c, inB x c = true ∧ inD d y c = true := by
  obtain ⟨s1, s2, s3, s4⟩ := some_iff.1 h
  obtain ⟨k, hk1, hk2⟩ : ∃ k, kindB x.k k = true ∧ (!bitZ d 1 || kindB y.k k) = true := by
    have s1 : (if bitZ d 1 = true then bits .and .i64 x.k y.k else x.k) ≠ 0 := s1
    cases hb : bitZ d 1
    · exact ⟨_, topK_in hx.2 (fineB_all.1 hx.1).1 0, rfl⟩
    · rw [hb, if_pos rfl] at s1
      obtain ⟨k1, k2⟩ := kinds_and hx.2 hy.2 (fineB_all.1 hx.1).1 (fineB_all.1 hy.1).1 s1
      have := topK_in k2 k1 0
      rw [kind_and hx.kr hy.kr, Bool.and_eq_true] at this
      exact ⟨_, this.1, by rw [this.2]; rfl⟩
  obtain ⟨m, hm1, hm2⟩ : ∃ m, m ∈ x.m ∧ (!bitZ d 4 || decide (m ∈ y.m)) = true := by
    have s2 : 0 < (if bitZ d 4 = true then x.m.filter (fun z => decide (z ∈ y.m)) else x.m).length := s2
    obtain ⟨m, hm⟩ := List.exists_mem_of_length_pos s2
    cases hb : bitZ d 4
    · rw [hb, if_neg (by decide)] at hm
      exact ⟨m, hm, rfl⟩
    · rw [hb, if_pos rfl] at hm
      obtain ⟨h1, h2⟩ := List.mem_filter.1 hm
      exact ⟨m, h1, by rw [h2]; rfl⟩
  obtain ⟨r, hr1, hr2⟩ : ∃ r, hasF x.r r = true ∧ (!bitZ d 2 || hasF y.r r) = true := by
    have s3 : 0 < (if bitZ d 2 = true then interF (spansF x.r) (spansF y.r) else x.r).length := s3
    cases hb : bitZ d 2
    · obtain ⟨n, hn⟩ := mem_head (ok_canon hx.r) hx.r0
      exact ⟨n, (hasF_iff hx.r n).2 hn, rfl⟩
    · rw [hb, if_pos rfl, hx.sr, hy.sr] at s3
      obtain ⟨n, hn⟩ := mem_head (inter_form _ _ (ok_canon hx.r) (ok_canon hy.r)).1 s3
      obtain ⟨n1, n2⟩ := (mem_inter _ _ n).1 hn
      exact ⟨n, (hasF_iff hx.r n).2 n1, by rw [(hasF_iff hy.r n).2 n2]; rfl⟩
  obtain ⟨s, hs1, hs2⟩ : ∃ s, hasF x.s s = true ∧ (!bitZ d 8 || hasF y.s s) = true := by
    have s4 : 0 < (if bitZ d 8 = true then interF (spansF x.s) (spansF y.s) else x.s).length := s4
    cases hb : bitZ d 8
    · obtain ⟨n, hn⟩ := mem_head (ok_canon hx.s) hx.s0
      exact ⟨n, (hasF_iff hx.s n).2 hn, rfl⟩
    · rw [hb, if_pos rfl, hx.ss, hy.ss] at s4
      obtain ⟨n, hn⟩ := mem_head (inter_form _ _ (ok_canon hx.s) (ok_canon hy.s)).1 s4
      obtain ⟨n1, n2⟩ := (mem_inter _ _ n).1 hn
      exact ⟨n, (hasF_iff hx.s n).2 n1, by rw [(hasF_iff hy.s n).2 n2]; rfl⟩
  refine ⟨⟨k, r, m, s⟩, inB_iff.2 ⟨hk1, hr1, hm1, hs1⟩, ?_⟩
  unfold inD
  rw [hk2, hr2, hm2, hs2]
  rfl
theorem prod_has {d : Int} {a b r : List Bx} (ha : FL a) (hb : FL b) (h : prodF d a b = some r) (c : Ch) : hasL r c = true ↔ ∃ x ∈ a, ∃ y ∈ b, inB x c = true ∧ inD d y c = true := by
  obtain ⟨h1, h2, h3⟩ := prod_some h
  rw [(prod_fine ha hb h).has]
  constructor
  · rintro ⟨z, hz, hc⟩
    have hm := h2 z hz
    rw [h1] at hz
    obtain ⟨x, hx, y, hy, rfl, hs⟩ := mem_cand.1 hz
    rw [dims_in (ha.1 x hx) (hb.1 y hy) hm, Bool.and_eq_true] at hc
    exact ⟨x, hx, y, hy, hc⟩
  · rintro ⟨x, hx, y, hy, hc1, hc2⟩
    by_cases hs : someB (dimsF d x y) = true
    · have hz : dimsF d x y ∈ r := h1 ▸ mem_cand.2 ⟨x, hx, y, hy, rfl, hs⟩
      refine ⟨_, hz, ?_⟩
      rw [dims_in (ha.1 x hx) (hb.1 y hy) (h2 _ hz), hc1, hc2]
      rfl
    · exfalso
      refine hs (dims_some (ha.1 x hx) (hb.1 y hy) hc1 hc2)
/-- The program's product. -/
theorem both_some {x y : Bx} : someB (bothF x y) = someB (dimsF 15 x y) := by
  have e : dimsF 15 x y = ⟨bits .and .i64 x.k y.k, interF (spansF x.r) (spansF y.r), x.m.filter (fun z => decide (z ∈ y.m)), interF (spansF x.s) (spansF y.s)⟩ := by
    unfold dimsF
    rw [if_pos bit15.1, if_pos bit15.2.1, if_pos bit15.2.2.1, if_pos bit15.2.2.2]
  rw [e, Bool.eq_iff_iff, some_iff, some_iff]
  unfold bothF
  simp only [List.length_take]
  constructor
  · rintro ⟨h1, h2, h3, h4⟩
    exact ⟨h1, h2, by omega, by omega⟩
  · rintro ⟨h1, h2, h3, h4⟩
    exact ⟨h1, h2, by omega, by omega⟩
theorem dims15 (x y : Bx) : dimsF 15 x y = ⟨bits .and .i64 x.k y.k, interF (spansF x.r) (spansF y.r), x.m.filter (fun z => decide (z ∈ y.m)), interF (spansF x.s) (spansF y.s)⟩ := by
  unfold dimsF
  rw [if_pos bit15.1, if_pos bit15.2.1, if_pos bit15.2.2.1, if_pos bit15.2.2.2]
theorem int_step {x y : Bx} (hx : FB x) (hy : FB y) {out : List Bx} (ho : out.length ≤ 64) : intStep x (some out) y = prodStep 15 x (some out) y := by
  by_cases hs : someB (dimsF 15 x y) = true
  · have hs2 : someB (bothF x y) = true := by rw [both_some]; exact hs
    have em : manyB 15 (dimsF 15 x y) = true ↔ 64 < piecesN x.r y.r ∨ 64 < piecesN x.s y.s := by
      unfold manyB
      rw [dims15, bit15.2.1, bit15.2.2.2, ← len_inter, ← len_inter]
      simp only [hx.sr, hx.ss, hy.sr, hy.ss]
      simp
    by_cases hm : manyB 15 (dimsF 15 x y) = true ∨ 64 ≤ out.length
    · rw [prodStep_stop hs hm, intStep_stop hs2]
      rcases hm with h | h
      · exact (em.1 h).elim .inl fun h => .inr (.inl h)
      · exact .inr (.inr (by omega))
    · have h1 : ¬ 64 < piecesN x.r y.r := fun h => hm (.inl (em.2 (.inl h)))
      have h2 : ¬ 64 < piecesN x.s y.s := fun h => hm (.inl (em.2 (.inr h)))
      have h3 : out.length < 64 := by
        rcases Nat.lt_or_ge out.length 64 with h | h
        · exact h
        · exact absurd (.inr h) hm
      have h4 : manyB 15 (dimsF 15 x y) = false := by
        cases e : manyB 15 (dimsF 15 x y)
        · rfl
        · exact absurd (.inl e) hm
      rw [prodStep_yes hs h4 h3, intStep_yes hs2 h1 h2 (by omega)]
      have e : bothF x y = dimsF 15 x y := by
        rw [dims15]
        unfold bothF
        rw [hx.sr, hx.ss, hy.sr, hy.ss, List.take_of_length_le (by rw [len_inter]; omega), List.take_of_length_le (by rw [len_inter]; omega)]
      rw [e]
  · have hs1 : someB (dimsF 15 x y) = false := by simpa using hs
    rw [prodStep_no hs1, intStep_no (by rw [both_some]; exact hs1)]
theorem int_row {x : Bx} (hx : FB x) : ∀ (b out : List Bx), (∀ y ∈ b, FB y) → out.length ≤ 64 → b.foldl (intStep x) (some out) = b.foldl (prodStep 15 x) (some out) ∧ ∀ r, b.foldl (prodStep 15 x) (some out) = some r → r.length ≤ 64 := by
  intro b
  induction b with
  | nil => intro out _ h; exact ⟨rfl, fun r hr => by injection hr with hr; exact hr ▸ h⟩
  | cons y b ih =>
    intro out hb ho
    rw [List.foldl_cons, List.foldl_cons, int_step hx (hb y (List.mem_cons_self ..)) ho]
    cases e : prodStep 15 x (some out) y with
    | none =>
      rw [fold_none (intStep_none x), fold_none (prodStep_none 15 x)]
      exact ⟨rfl, fun r hr => by cases hr⟩
    | some o2 =>
      refine ih o2 (fun y hy => hb y (List.mem_cons_of_mem _ hy)) ?_
      by_cases hs : someB (dimsF 15 x y) = true
      · by_cases hm : manyB 15 (dimsF 15 x y) = true ∨ 64 ≤ out.length
        · rw [prodStep_stop hs hm] at e
          cases e
        · have h4 : manyB 15 (dimsF 15 x y) = false := by
            cases e : manyB 15 (dimsF 15 x y)
            · rfl
            · exact absurd (.inl e) hm
          have h3 : out.length < 64 := by
            rcases Nat.lt_or_ge out.length 64 with h | h
            · exact h
            · exact absurd (.inr h) hm
          rw [prodStep_yes hs h4 h3] at e
          injection e with e
          rw [← e, List.length_append, List.length_singleton]
          omega
      · rw [prodStep_no (by simpa using hs)] at e
        injection e with e
        exact e ▸ ho
theorem int_prod {a b : List Bx} (ha : ∀ x ∈ a, FB x) (hb : ∀ y ∈ b, FB y) : intF a b = prodF 15 a b := by
  unfold intF prodF
  have key : ∀ (a out : List Bx), (∀ x ∈ a, FB x) → out.length ≤ 64 → a.foldl (intRow b) (some out) = a.foldl (prodRow 15 b) (some out) := by
    intro a
    induction a with
    | nil => exact fun _ _ _ => rfl
    | cons x a ih =>
      intro out ha ho
      obtain ⟨k1, k2⟩ := int_row (ha x (List.mem_cons_self ..)) b out hb ho
      rw [List.foldl_cons, List.foldl_cons]
      show a.foldl (intRow b) (b.foldl (intStep x) (some out)) = a.foldl (prodRow 15 b) (b.foldl (prodStep 15 x) (some out))
      rw [k1]
      cases e : b.foldl (prodStep 15 x) (some out) with
      | none => rw [fold_none (intRow_none b), fold_none (prodRow_none 15 b)]
      | some r => exact ih r (fun x hx => ha x (List.mem_cons_of_mem _ hx)) (k2 r e)
  exact key a [] ha (by simp)
/-- The intersection of the program is that of the reference. -/
theorem inter_same {a b : List Bx} (ha : ∀ x ∈ a, I64 x.k) (hb : ∀ x ∈ b, I64 x.k) : interP a b = interR a b := by
  unfold interP interR
  by_cases hv : validL a = true ∧ validL b = true
  · rw [if_pos hv, if_pos hv]
    have fa := FL.of_valid hv.1 ha
    have fb := FL.of_valid hv.2 hb
    rw [int_prod fa.1 fb.1]
    unfold productF
    cases e : prodF 15 a b with
    | none => rfl
    | some r =>
      show (reduceL r, (0 : Int)) = reduceF r
      unfold reduceF
      rw [if_pos (prod_fine fa fb e).valid]
  · rw [if_neg hv, if_neg hv]
/-- Few boxes with few spans: no limit is reached. -/
def Small (a : List Bx) : Prop := ∀ b ∈ a, b.r.length ≤ 30 ∧ b.s.length ≤ 30
theorem small_prod {d : Int} {a b : List Bx} (ha : FL a) (hb : FL b) (sa : Small a) (sb : Small b) (hl : a.length * b.length ≤ 64) : prodF d a b = some (candL d (pairsL a b)) := by
  refine prod_is (fun x hx y hy _ => ?_) (Nat.le_trans (cand_len d a b) hl)
  have fx := ha.1 x hx
  have fy := hb.1 y hy
  obtain ⟨x1, x2⟩ := sa x hx
  obtain ⟨y1, y2⟩ := sb y hy
  refine many_iff.2 ⟨fun hb => ?_, fun hb => ?_⟩
  · show (if bitZ d 2 = true then interF (spansF x.r) (spansF y.r) else x.r).length ≤ 64
    rw [if_pos hb, fx.sr, fy.sr]
    have := (inter_form _ _ (ok_canon fx.r) (ok_canon fy.r)).2.1
    omega
  · show (if bitZ d 8 = true then interF (spansF x.s) (spansF y.s) else x.s).length ≤ 64
    rw [if_pos hb, fx.ss, fy.ss]
    have := (inter_form _ _ (ok_canon fx.s) (ok_canon fy.s)).2.1
    omega
end Go.Proofs.YtjbkjgmcfommgaaGreat


namespace Go.Proofs.YtjbkjgmcfommgaaGreat
open Go.RowKit
theorem one_any (n : Int) (w : World) : Calls Tryz.prog 69 #[.int .i64 n] w fun e w' => (∃ A, e = .returned (.agg #[.slice A 1 1]) ∧ SpB w' (Ge w.heap.size) A [(n, n)]) ∧ Grows w w' := by
  have k2 := (Blk.new w 58 #[.slice (some ⟨w.heap.size + 1, 0, none⟩) 1 1]).alloc (Obj.cells (csS (n, n)) 86)
  have hS := sps_lit (w.alloc (Obj.cells #[.slice (some ⟨w.heap.size + 1, 0, none⟩) 1 1] 58)) (n, n)
  have hB := ((Below.refl w.heap.size w).alloc (Nat.le_refl _) (Obj.cells #[.slice (some ⟨w.heap.size + 1, 0, none⟩) 1 1] 58)).alloc (by simp) (Obj.cells (csS (n, n)) 86)
  have hs1 : (w.alloc (Obj.cells #[.slice (some ⟨w.heap.size + 1, 0, none⟩) 1 1] 58)).heap.size = w.heap.size + 1 := by simp
  have hx := k2.cell
  rw [hs1] at hS
  go_enter Tryz.func69, Tryz.ntmps69
  unfold csS at *
  go_wp2
  exact bodyPost_ret (v := .agg #[.slice (some ⟨w.heap.size + 1, 0, none⟩) 1 1]) (by simp [results, Tryz.results69, go_sem, hx]) rfl ⟨⟨_, rfl, hS, fun _ ad e => by injection e with e; subst e; exact Nat.le_succ _⟩, hB⟩
end Go.Proofs.YtjbkjgmcfommgaaGreat


namespace Go.Proofs.YtjbkjgmcfommgaaGreat
open Go.RowKit
theorem shl_small_ : ∀ n : Fin 8, wrap64 (2 ^ n.val) = 2 ^ n.val := by decide +kernel
theorem shl_small {k : Int} (h0 : 0 ≤ k) (h7 : k ≤ 7) : IntKind.i64.wrap (2 ^ k.toNat) = 2 ^ k.toNat := (IntWalk.i64_left _).trans <| shl_small_ ⟨k.toNat, by omega⟩
theorem maps_one {w : World} {ok : Nat → Prop} {g : Nat} {B : Option Addr} {cx : Nat} {m : List Int} (hk : Blk w g 38 #[.slice B m.length cx]) (hg : ok g) (hi : InB w ok B m) (hc : m.length ≤ cx) : MapsR w ok (some ⟨g, 0, none⟩) [m] := by
  refine ⟨[.slice B m.length cx], ⟨⟨rfl, fun _ => ⟨_, rfl, hk.lt, fun j u hu => by rw [add_head, hk.cell, ← Array.getElem?_toList]; exact hu⟩⟩, fun _ ad e => by injection e with e; subst e; exact hg⟩, fun i y hy => ?_⟩
  have hi0 : i = 0 := by
    have := (List.getElem?_eq_some_iff.1 hy).1
    simp only [List.length_singleton] at this
    omega
  subst hi0
  simp only [List.getElem?_cons_zero, Option.some.injEq] at hy
  subst hy
  exact ⟨B, cx, rfl, hc, hi⟩
theorem okb_one {x : Ch} (K : Int) (h : x.m.length ≤ 1000000) : OKB ⟨K, [(x.r, x.r)], [x.m], [(x.s, x.s)]⟩ := ⟨by simp, by simp, by simp, fun y hy => by simp only [List.mem_singleton] at hy; subst hy; exact h⟩
theorem bxs_one2 {w : World} {ok : Nat → Prop} {z : Bx} {A1 A2 A3 : Option Addr} {c1 c2 c3 : Nat} {cs : Array Value} (hp : BoxP w ok z A1 c1 A2 c2 A3 c3) (hw : ok w.heap.size) (hc : cs = #[.int .i64 z.k, .slice A1 z.r.length c1, .slice A2 z.m.length c2, .slice A3 z.s.length c3]) : Bxs (w.alloc (.cells cs 61)) ok (some ⟨w.heap.size, 0, none⟩) [z] := by
  subst hc
  exact bxs_lit hp hw
set_option maxHeartbeats 64000000 in
set_option maxRecDepth 10000 in
theorem psingle_any {I : Option Addr} {ci : Nat} {x : Ch} {w : World} (ix : Ints w I x.m) (hci : x.m.length ≤ ci) (hxm : x.m.length ≤ 1000000) :
    Calls Tryz.prog 39 #[.agg #[.int .i64 x.k, .int .i64 x.r, .slice I x.m.length ci, .int .i64 x.s]] w fun e w' => (∃ A c, e = .returned (.slice A (singleF x).length c) ∧ (singleF x).length ≤ c ∧ Bxs w' (Ge w.heap.size) A (singleF x)) ∧ Grows w w' := by
  have k1 := Blk.new w 42 #[.int .i64 x.k, .int .i64 x.r, .slice I x.m.length ci, .int .i64 x.s]
  have hB := (Below.refl w.heap.size w).alloc (Nat.le_refl _) (Obj.cells #[.int .i64 x.k, .int .i64 x.r, .slice I x.m.length ci, .int .i64 x.s] 42)
  go_enter Tryz.func39, Tryz.ntmps39
  go_upto_region 1 with fail
  generalize World.alloc w _ = w1 at *
  have x1 := k1.cell
  by_cases h1 : x.k < 1
  · have HE : Hid (singleF x = []) := Lib.hid (if_neg (fun h => by omega))
    have d1 : decide (x.k < 1) = true := by simpa using h1
    clear h1
    go_wp2
    go_ret
    rw [HE.out]
    exact ⟨⟨none, 0, rfl, Nat.le_refl _, Bxs.nil⟩, hB⟩
  have d1 : decide (x.k < 1) = false := by simpa using h1
  by_cases h2 : 7 < x.k
  · have HE : Hid (singleF x = []) := Lib.hid (if_neg (fun h => by omega))
    have d2 : decide (7 < x.k) = true := by simpa using h2
    clear h1 h2
    go_wp2
    go_ret
    rw [HE.out]
    exact ⟨⟨none, 0, rfl, Nat.le_refl _, Bxs.nil⟩, hB⟩
  have d2 : decide (7 < x.k) = false := by simpa using h2
  have hk1 : 1 ≤ x.k := by omega
  have hk7 : x.k ≤ 7 := by omega
  have hk0 : 0 ≤ x.k := by omega
  have hK0 := shl_small hk0 hk7
  obtain ⟨K, hK⟩ : ∃ K, IntKind.i64.wrap (2 ^ x.k.toNat) = K := ⟨_, rfl⟩
  have HK : Hid (2 ^ x.k.toNat = K) := Lib.hid (hK0.symm.trans hK)
  have HS : Hid (singleF x = if fineB ⟨K, [(x.r, x.r)], [x.m], [(x.s, x.s)]⟩ = true then [⟨K, [(x.r, x.r)], [x.m], [(x.s, x.s)]⟩] else []) := Lib.hid (by
    unfold singleF oneB
    rw [HK.out]
    by_cases hf : fineB ⟨K, [(x.r, x.r)], [x.m], [(x.s, x.s)]⟩ = true
    · rw [if_pos ⟨hk1, hk7, hf⟩, if_pos hf]
    · rw [if_neg (fun h => hf h.2.2), if_neg hf])
  clear h1 h2 hK0
  go_upto_region 3 with fail
  obtain ⟨S, HI, HO⟩ := hideS fun (L : Ran) (vs : Nat → Value) (w' : World) => ((Below w.heap.size w w' ∧ Blk w' w.heap.size 42 #[.int .i64 x.k, .int .i64 x.r, .slice I x.m.length ci, .int .i64 x.s]) ∧ KnS [some (.pointer (some ⟨w.heap.size, 0, none⟩)), some (.pointer (some ⟨w.heap.size, 0, none⟩)), some (.int .i64 x.k), some (.int .i64 K), some (.pointer (some ⟨w.heap.size, 0, none⟩)), some (.pointer (some ⟨w.heap.size, 1, none⟩)), some (.int .i64 x.r), none, some (.pointer (some ⟨w.heap.size, 0, none⟩)), some (.pointer (some ⟨w.heap.size, 2, none⟩)), some (.slice I x.m.length ci), none, none, some (.pointer (some ⟨w.heap.size, 3, none⟩)), some (.int .i64 x.s), none, none, none] L vs ∧ (L 7 = true → ∃ (A : Option Addr), vs 7 = .agg #[.slice A 1 1] ∧ SpB w' (Ge w.heap.size) A [(x.r, x.r)]) ∧ (L 11 = true → OwnI w' w.heap.size (vs 11) x.m) ∧ (L 12 = true → ∃ (g : Nat) (mv : Value), vs 12 = .slice (some ⟨g, 0, none⟩) 1 1 ∧ Blk w' g 38 #[mv] ∧ w.heap.size ≤ g ∧ OwnI w' w.heap.size mv x.m) ∧ (L 15 = true → ∃ (A : Option Addr), vs 15 = .agg #[.slice A 1 1] ∧ SpB w' (Ge w.heap.size) A [(x.s, x.s)]) ∧ (L 16 = true → ∃ (A1 : Option Addr) (g : Nat) (mv : Value) (A3 : Option Addr), vs 16 = .agg #[.int .i64 K, .slice A1 1 1, .slice (some ⟨g, 0, none⟩) 1 1, .slice A3 1 1] ∧ SpB w' (Ge w.heap.size) A1 [(x.r, x.r)] ∧ SpB w' (Ge w.heap.size) A3 [(x.s, x.s)] ∧ Blk w' g 38 #[mv] ∧ w.heap.size ≤ g ∧ OwnI w' w.heap.size mv x.m) ∧ (L 17 = true → ∃ g : Nat, vs 17 = .pointer (some ⟨g, 0, none⟩) ∧ Blk w' g 61 #[.int .i64 0, .slice none 0 0, .slice none 0 0, .slice none 0 0] ∧ w.heap.size ≤ g))
  refine wp_region_genT S 18 36 (by kernel_rfl) (by kernel_rfl) rfl ?_ ?_
  · have hg := Grows.drew' w1
    exact HI.out _ _ _ ⟨⟨below_grows hB (Nat.le_refl _) hg, k1.grows hg⟩, kn_none _ _, (fun h => by cases h), (fun h => by cases h), (fun h => by cases h), (fun h => by cases h), (fun h => by cases h), (fun h => by cases h)⟩
  simp only [List.take_succ_cons, List.take_zero, List.drop_succ_cons, List.drop_zero]
  refine gent_consR (fun vs L w1 hL hw1 => ?_) ?_
  · obtain ⟨⟨qB, qk⟩, q1, q7, q11, qm, qs, qb, qz⟩ := HO.out _ _ _ hw1
    refine gen_plain rfl ?_
    go_simp
    exact gr_val (HI.out _ _ _ ⟨⟨qB, qk⟩, kn_known q1 rfl, q7, q11, qm, qs, qb, qz⟩)
  refine gent_consR (fun vs L w1 hL hw1 => ?_) ?_
  · obtain ⟨⟨qB, qk⟩, q1, q7, q11, qm, qs, qb, qz⟩ := HO.out _ _ _ hw1
    have l0 : L 0 = true := hL.need 0 (by kernel_rfl)
    have e0 := q1 0 _ rfl l0
    refine gen_plain rfl ?_
    simp only [e0]
    go_simp
    exact gr_val (HI.out _ _ _ ⟨⟨qB, qk⟩, kn_known q1 rfl, q7, q11, qm, qs, qb, qz⟩)
  refine gent_consR (fun vs L w1 hL hw1 => ?_) ?_
  · obtain ⟨⟨qB, qk⟩, q1, q7, q11, qm, qs, qb, qz⟩ := HO.out _ _ _ hw1
    have l1 : L 1 = true := hL.need 1 (by kernel_rfl)
    have e1 := q1 1 _ rfl l1
    have xc := qk.cell 0
    refine gen_plain rfl ?_
    simp only [e1]
    go_simp
    exact gr_val (HI.out _ _ _ ⟨⟨qB, qk⟩, kn_known q1 rfl, q7, q11, qm, qs, qb, qz⟩)
  refine gent_consR (fun vs L w1 hL hw1 => ?_) ?_
  · obtain ⟨⟨qB, qk⟩, q1, q7, q11, qm, qs, qb, qz⟩ := HO.out _ _ _ hw1
    have l2 : L 2 = true := hL.need 2 (by kernel_rfl)
    have e2 := q1 2 _ rfl l2
    refine gen_plain rfl ?_
    simp only [e2]
    go_simp
    exact gr_val (HI.out _ _ _ ⟨⟨qB, qk⟩, kn_known q1 rfl, q7, q11, qm, qs, qb, qz⟩)
  refine gent_consR (fun vs L w1 hL hw1 => ?_) ?_
  · obtain ⟨⟨qB, qk⟩, q1, q7, q11, qm, qs, qb, qz⟩ := HO.out _ _ _ hw1
    refine gen_plain rfl ?_
    go_simp
    exact gr_val (HI.out _ _ _ ⟨⟨qB, qk⟩, kn_known q1 rfl, q7, q11, qm, qs, qb, qz⟩)
  refine gent_consR (fun vs L w1 hL hw1 => ?_) ?_
  · obtain ⟨⟨qB, qk⟩, q1, q7, q11, qm, qs, qb, qz⟩ := HO.out _ _ _ hw1
    have l4 : L 4 = true := hL.need 4 (by kernel_rfl)
    have e4 := q1 4 _ rfl l4
    refine gen_plain rfl ?_
    simp only [e4]
    go_simp
    exact gr_val (HI.out _ _ _ ⟨⟨qB, qk⟩, kn_known q1 rfl, q7, q11, qm, qs, qb, qz⟩)
  refine gent_consR (fun vs L w1 hL hw1 => ?_) ?_
  · obtain ⟨⟨qB, qk⟩, q1, q7, q11, qm, qs, qb, qz⟩ := HO.out _ _ _ hw1
    have l5 : L 5 = true := hL.need 5 (by kernel_rfl)
    have e5 := q1 5 _ rfl l5
    have xc := qk.cell 1
    refine gen_plain rfl ?_
    simp only [e5]
    go_simp
    exact gr_val (HI.out _ _ _ ⟨⟨qB, qk⟩, kn_known q1 rfl, q7, q11, qm, qs, qb, qz⟩)
  refine gent_consR (fun vs L w1 hL hw1 => ?_) ?_
  · obtain ⟨⟨qB, qk⟩, q1, q7, q11, qm, qs, qb, qz⟩ := HO.out _ _ _ hw1
    have l6 : L 6 = true := hL.need 6 (by kernel_rfl)
    have e6 := q1 6 _ rfl l6
    refine gen_plain rfl ?_
    simp only [e6]
    go_simp
    refine gr_call ?_
    refine (one_any _ _).mono ?_
    rintro e wc ⟨⟨A5, rfl, hr5⟩, hg⟩
    have hsz := qB.size
    exact ⟨_, rfl, HI.out _ _ _ ⟨⟨below_grows qB (Nat.le_refl _) hg, qk.grows hg⟩, kn_free q1 rfl, (fun _ => ⟨A5, rfl, RdB.mono hr5 (fun k hk => by unfold Ge at *; omega)⟩), (fun h => (q11 h).grows hg), (fun h => by obtain ⟨g, mv, e, hk, hl, ho⟩ := qm h; exact ⟨g, mv, e, hk.grows hg, hl, ho.grows hg⟩), (fun h => by obtain ⟨A, e, hr⟩ := qs h; exact ⟨A, e, hr.grows hg⟩), (fun h => by obtain ⟨A1, g, mv, A3, e, hr, hs, hk, hl, ho⟩ := qb h; exact ⟨A1, g, mv, A3, e, hr.grows hg, hs.grows hg, hk.grows hg, hl, ho.grows hg⟩), (fun h => by obtain ⟨g, e, hk, hl⟩ := qz h; exact ⟨g, e, hk.grows hg, hl⟩)⟩⟩
  refine gent_consR (fun vs L w1 hL hw1 => ?_) ?_
  · obtain ⟨⟨qB, qk⟩, q1, q7, q11, qm, qs, qb, qz⟩ := HO.out _ _ _ hw1
    refine gen_plain rfl ?_
    go_simp
    exact gr_val (HI.out _ _ _ ⟨⟨qB, qk⟩, kn_known q1 rfl, q7, q11, qm, qs, qb, qz⟩)
  refine gent_consR (fun vs L w1 hL hw1 => ?_) ?_
  · obtain ⟨⟨qB, qk⟩, q1, q7, q11, qm, qs, qb, qz⟩ := HO.out _ _ _ hw1
    have l8 : L 8 = true := hL.need 8 (by kernel_rfl)
    have e8 := q1 8 _ rfl l8
    refine gen_plain rfl ?_
    simp only [e8]
    go_simp
    exact gr_val (HI.out _ _ _ ⟨⟨qB, qk⟩, kn_known q1 rfl, q7, q11, qm, qs, qb, qz⟩)
  refine gent_consR (fun vs L w1 hL hw1 => ?_) ?_
  · obtain ⟨⟨qB, qk⟩, q1, q7, q11, qm, qs, qb, qz⟩ := HO.out _ _ _ hw1
    have l9 : L 9 = true := hL.need 9 (by kernel_rfl)
    have e9 := q1 9 _ rfl l9
    have xc := qk.cell 2
    refine gen_plain rfl ?_
    simp only [e9]
    go_simp
    exact gr_val (HI.out _ _ _ ⟨⟨qB, qk⟩, kn_known q1 rfl, q7, q11, qm, qs, qb, qz⟩)
  refine gent_consR (fun vs L w1 hL hw1 => ?_) ?_
  · obtain ⟨⟨qB, qk⟩, q1, q7, q11, qm, qs, qb, qz⟩ := HO.out _ _ _ hw1
    have l10 : L 10 = true := hL.need 10 (by kernel_rfl)
    have e10 := q1 10 _ rfl l10
    refine gen_plain rfl ?_
    simp only [e10]
    go_simp
    refine gr_call ?_
    refine (iclone_any I ci x.m _ (ix.grows qB) hxm).mono ?_
    rintro e wc ⟨⟨v, rfl, hown⟩, hg⟩
    have hsz := qB.size
    exact ⟨_, rfl, HI.out _ _ _ ⟨⟨below_grows qB (Nat.le_refl _) hg, qk.grows hg⟩, kn_free q1 rfl, (fun h => by obtain ⟨A, e, hr⟩ := q7 h; exact ⟨A, e, hr.grows hg⟩), (fun _ => hown.mono hsz), (fun h => by obtain ⟨g, mv, e, hk, hl, ho⟩ := qm h; exact ⟨g, mv, e, hk.grows hg, hl, ho.grows hg⟩), (fun h => by obtain ⟨A, e, hr⟩ := qs h; exact ⟨A, e, hr.grows hg⟩), (fun h => by obtain ⟨A1, g, mv, A3, e, hr, hs, hk, hl, ho⟩ := qb h; exact ⟨A1, g, mv, A3, e, hr.grows hg, hs.grows hg, hk.grows hg, hl, ho.grows hg⟩), (fun h => by obtain ⟨g, e, hk, hl⟩ := qz h; exact ⟨g, e, hk.grows hg, hl⟩)⟩⟩
  refine gent_consR (fun vs L w1 hL hw1 => ?_) ?_
  · obtain ⟨⟨qB, qk⟩, q1, q7, q11, qm, qs, qb, qz⟩ := HO.out _ _ _ hw1
    have l11 : L 11 = true := hL.need 11 (by kernel_rfl)
    have ho := q11 l11
    obtain ⟨B, cx, ev, hcx, -⟩ := ho.read
    rw [ev] at ho
    refine gen_plain rfl ?_
    simp only [ev]
    go_simp
    have hg := (Below.refl w1.heap.size w1).alloc (Nat.le_refl _) (Obj.cells #[.slice B x.m.length cx] 38)
    have hk := Blk.new w1 38 #[.slice B x.m.length cx]
    exact gr_val (HI.out _ _ _ ⟨⟨below_grows qB (Nat.le_refl _) hg, qk.grows hg⟩, kn_free q1 rfl, (fun h => by obtain ⟨A, e, hr⟩ := q7 h; exact ⟨A, e, hr.grows hg⟩), (fun h => (q11 h).grows hg), (fun _ => ⟨w1.heap.size, _, rfl, hk, qB.size, ho.grows hg⟩), (fun h => by obtain ⟨A, e, hr⟩ := qs h; exact ⟨A, e, hr.grows hg⟩), (fun h => by obtain ⟨A1, g, mv, A3, e, hr, hs, hk, hl, ho⟩ := qb h; exact ⟨A1, g, mv, A3, e, hr.grows hg, hs.grows hg, hk.grows hg, hl, ho.grows hg⟩), (fun h => by obtain ⟨g, e, hk, hl⟩ := qz h; exact ⟨g, e, hk.grows hg, hl⟩)⟩)
  refine gent_consR (fun vs L w1 hL hw1 => ?_) ?_
  · obtain ⟨⟨qB, qk⟩, q1, q7, q11, qm, qs, qb, qz⟩ := HO.out _ _ _ hw1
    refine gen_plain rfl ?_
    go_simp
    exact gr_val (HI.out _ _ _ ⟨⟨qB, qk⟩, kn_known q1 rfl, q7, q11, qm, qs, qb, qz⟩)
  refine gent_consR (fun vs L w1 hL hw1 => ?_) ?_
  · obtain ⟨⟨qB, qk⟩, q1, q7, q11, qm, qs, qb, qz⟩ := HO.out _ _ _ hw1
    have l13 : L 13 = true := hL.need 13 (by kernel_rfl)
    have e13 := q1 13 _ rfl l13
    have xc := qk.cell 3
    refine gen_plain rfl ?_
    simp only [e13]
    go_simp
    exact gr_val (HI.out _ _ _ ⟨⟨qB, qk⟩, kn_known q1 rfl, q7, q11, qm, qs, qb, qz⟩)
  refine gent_consR (fun vs L w1 hL hw1 => ?_) ?_
  · obtain ⟨⟨qB, qk⟩, q1, q7, q11, qm, qs, qb, qz⟩ := HO.out _ _ _ hw1
    have l14 : L 14 = true := hL.need 14 (by kernel_rfl)
    have e14 := q1 14 _ rfl l14
    refine gen_plain rfl ?_
    simp only [e14]
    go_simp
    refine gr_call ?_
    refine (one_any _ _).mono ?_
    rintro e wc ⟨⟨A5, rfl, hr5⟩, hg⟩
    have hsz := qB.size
    exact ⟨_, rfl, HI.out _ _ _ ⟨⟨below_grows qB (Nat.le_refl _) hg, qk.grows hg⟩, kn_free q1 rfl, (fun h => by obtain ⟨A, e, hr⟩ := q7 h; exact ⟨A, e, hr.grows hg⟩), (fun h => (q11 h).grows hg), (fun h => by obtain ⟨g, mv, e, hk, hl, ho⟩ := qm h; exact ⟨g, mv, e, hk.grows hg, hl, ho.grows hg⟩), (fun _ => ⟨A5, rfl, RdB.mono hr5 (fun k hk => by unfold Ge at *; omega)⟩), (fun h => by obtain ⟨A1, g, mv, A3, e, hr, hs, hk, hl, ho⟩ := qb h; exact ⟨A1, g, mv, A3, e, hr.grows hg, hs.grows hg, hk.grows hg, hl, ho.grows hg⟩), (fun h => by obtain ⟨g, e, hk, hl⟩ := qz h; exact ⟨g, e, hk.grows hg, hl⟩)⟩⟩
  refine gent_consR (fun vs L w1 hL hw1 => ?_) ?_
  · obtain ⟨⟨qB, qk⟩, q1, q7, q11, qm, qs, qb, qz⟩ := HO.out _ _ _ hw1
    have l3 : L 3 = true := hL.need 3 (by kernel_rfl)
    have e3 := q1 3 _ rfl l3
    have l7 : L 7 = true := hL.need 7 (by kernel_rfl)
    have lm : L 12 = true := hL.need 12 (by kernel_rfl)
    have ls : L 15 = true := hL.need 15 (by kernel_rfl)
    obtain ⟨A1, e7, hr⟩ := q7 l7
    obtain ⟨g, mv, em, hk, hl, ho⟩ := qm lm
    obtain ⟨A3, es, hs⟩ := qs ls
    refine gen_plain rfl ?_
    simp only [e3, e7, em, es]
    go_simp
    exact gr_val (HI.out _ _ _ ⟨⟨qB, qk⟩, kn_free q1 rfl, q7, q11, qm, qs, (fun _ => ⟨A1, g, mv, A3, rfl, hr, hs, hk, hl, ho⟩), qz⟩)
  refine gent_consR (fun vs L w1 hL hw1 => ?_) ?_
  · obtain ⟨⟨qB, qk⟩, q1, q7, q11, qm, qs, qb, qz⟩ := HO.out _ _ _ hw1
    refine gen_plain rfl ?_
    go_simp
    have hg := (Below.refl w1.heap.size w1).alloc (Nat.le_refl _) (Obj.cells #[.int .i64 0, .slice none 0 0, .slice none 0 0, .slice none 0 0] 61)
    have hk := Blk.new w1 61 #[.int .i64 0, .slice none 0 0, .slice none 0 0, .slice none 0 0]
    exact gr_val (HI.out _ _ _ ⟨⟨below_grows qB (Nat.le_refl _) hg, qk.grows hg⟩, kn_free q1 rfl, (fun h => by obtain ⟨A, e, hr⟩ := q7 h; exact ⟨A, e, hr.grows hg⟩), (fun h => (q11 h).grows hg), (fun h => by obtain ⟨g, mv, e, hk, hl, ho⟩ := qm h; exact ⟨g, mv, e, hk.grows hg, hl, ho.grows hg⟩), (fun h => by obtain ⟨A, e, hr⟩ := qs h; exact ⟨A, e, hr.grows hg⟩), (fun h => by obtain ⟨A1, g, mv, A3, e, hr, hs, hk, hl, ho⟩ := qb h; exact ⟨A1, g, mv, A3, e, hr.grows hg, hs.grows hg, hk.grows hg, hl, ho.grows hg⟩), (fun _ => ⟨w1.heap.size, rfl, hk, qB.size⟩)⟩)
  refine gent_nil ?_
  intro vs L W2 hall hS
  obtain ⟨⟨hB2, qk⟩, q1, -, -, -, -, qb, qz⟩ := HO.out _ _ _ hS
  obtain ⟨A1, gm, mv, A3, eb, hr, hs, hm, hl, ho⟩ := qb (hall 16 (by omega))
  obtain ⟨G, ez, hG, hlG⟩ := qz (hall 17 (by omega))
  have e0 := q1 0 _ rfl (hall 0 (by omega))
  have e1 := q1 1 _ rfl (hall 1 (by omega))
  have e2 := q1 2 _ rfl (hall 2 (by omega))
  have e3 := q1 3 _ rfl (hall 3 (by omega))
  have e4 := q1 4 _ rfl (hall 4 (by omega))
  have e5 := q1 5 _ rfl (hall 5 (by omega))
  have e6 := q1 6 _ rfl (hall 6 (by omega))
  have e8 := q1 8 _ rfl (hall 8 (by omega))
  have e9 := q1 9 _ rfl (hall 9 (by omega))
  have e10 := q1 10 _ rfl (hall 10 (by omega))
  have e13 := q1 13 _ rfl (hall 13 (by omega))
  have e14 := q1 14 _ rfl (hall 14 (by omega))
  clear hall hS HI HO q1 qb qz hB k1 x1 qk
  simp only [e0, e1, e2, e3, e4, e5, e6, e8, e9, e10, e13, e14, eb, ez]
  clear e0 e1 e2 e3 e4 e5 e6 e8 e9 e10 e13 e14 eb ez
  have hgm : gm ≠ G := hm.ne_ hG (by decide)
  have hmG := own_blk_ne ho hG (by decide)
  have hr2 : RdB W2 (fun k => w.heap.size ≤ k ∧ k ≠ G) 2 A1 1 (scells [(x.r, x.r)]) := ⟨hr.1, fun hn ad e => ⟨hr.2 hn ad e, sp_ne_box hr.1 hG ad e hn⟩⟩
  have hs2 : RdB W2 (fun k => w.heap.size ≤ k ∧ k ≠ G) 2 A3 1 (scells [(x.s, x.s)]) := ⟨hs.1, fun hn ad e => ⟨hs.2 hn ad e, sp_ne_box hs.1 hG ad e hn⟩⟩
  have y3 := hG.cell
  have hf3 := hG.frozen
  have k3 := ((((hG.set_ 0 (.int .i64 K)).set_ 1 (.slice A1 1 1)).set_ 2 (.slice (some ⟨gm, 0, none⟩) 1 1)).set_ 3 (.slice A3 1 1))
  have hB := ((((hB2.setCell (p := ⟨G, 0, none⟩) (show w.heap.size ≤ G by omega) (.int .i64 K)).setCell (p := ⟨G, 1, none⟩) (show w.heap.size ≤ G by omega) (.slice A1 1 1)).setCell (p := ⟨G, 2, none⟩) (show w.heap.size ≤ G by omega) (.slice (some ⟨gm, 0, none⟩) 1 1)).setCell (p := ⟨G, 3, none⟩) (show w.heap.size ≤ G by omega) (.slice A3 1 1))
  replace hr2 := RdB.grown hr2 (d_only_set (d_only_set (d_only_set (d_only_set (World.grownBy.refl _ (some G)) 0 (.int .i64 K)) 1 (.slice A1 1 1)) 2 (.slice (some ⟨gm, 0, none⟩) 1 1)) 3 (.slice A3 1 1)) (fun q e => by injection e with e; omega)
  replace hs2 := RdB.grown hs2 (d_only_set (d_only_set (d_only_set (d_only_set (World.grownBy.refl _ (some G)) 0 (.int .i64 K)) 1 (.slice A1 1 1)) 2 (.slice (some ⟨gm, 0, none⟩) 1 1)) 3 (.slice A3 1 1)) (fun q e => by injection e with e; omega)
  replace hm := hm.grown (d_only_set (d_only_set (d_only_set (d_only_set (World.grownBy.refl _ (some G)) 0 (.int .i64 K)) 1 (.slice A1 1 1)) 2 (.slice (some ⟨gm, 0, none⟩) 1 1)) 3 (.slice A3 1 1)) (by intro e; injection e; omega)
  have ho2 : OwnI _ w.heap.size mv x.m := World.ownsRow.kept ho (d_only_set (d_only_set (d_only_set (d_only_set (World.grownBy.refl _ (some G)) 0 (.int .i64 K)) 1 (.slice A1 1 1)) 2 (.slice (some ⟨gm, 0, none⟩) 1 1)) 3 (.slice A3 1 1)) (.inr hmG)
  clear hr hs hG hB2 ho hmG
  go_upto_region 4 with fail
  clear y3 hf3
  generalize World.setCell (World.setCell (World.setCell (World.setCell W2 _ _) _ _) _ _) _ _ = w4 at *
  have k3 : Blk w4 G 61 #[.int .i64 K, .slice A1 1 1, .slice (some ⟨gm, 0, none⟩) 1 1, .slice A3 1 1] := k3
  obtain ⟨B, cx, rfl, hcx, hib⟩ := InB.of_own ho2
  have hmr : MapsR w4 (Ge w.heap.size) (some ⟨gm, 0, none⟩) [x.m] := maps_one hm hl hib hcx
  have hp : BoxP w4 (Ge w.heap.size) ⟨K, [(x.r, x.r)], [x.m], [(x.s, x.s)]⟩ A1 1 (some ⟨gm, 0, none⟩) 1 A3 1 := ⟨RdB.mono hr2 (fun k hk => hk.1), hmr, RdB.mono hs2 (fun k hk => hk.1), Nat.le_refl _, Nat.le_refl _, Nat.le_refl _⟩
  have hok : OKB ⟨K, [(x.r, x.r)], [x.m], [(x.s, x.s)]⟩ := okb_one K hxm
  clear hr2 hs2 hm ho2 hib hmr
  have x3 := k3.cell
  obtain ⟨z, hz⟩ : ∃ z : Bx, z = ⟨K, [(x.r, x.r)], [x.m], [(x.s, x.s)]⟩ := ⟨_, rfl⟩
  have hcon := (pfine_any hp hok)
  rw [← hz] at hcon hp hok
  have HSZ : Hid (singleF x = if fineB z = true then [z] else []) := Lib.hid (by rw [hz]; exact HS.out)
  have HZC : Hid ((#[.int .i64 K, .slice A1 1 1, .slice (some ⟨gm, 0, none⟩) 1 1, .slice A3 1 1] : Array Value) = #[.int .i64 z.k, .slice A1 z.r.length 1, .slice (some ⟨gm, 0, none⟩) z.m.length 1, .slice A3 z.s.length 1]) := Lib.hid (by rw [hz]; rfl)
  rw [← HZC.out] at hcon
  have HC := Lib.hid hcon
  clear hcon hz
  go_wp2_with fail
  refine HC.out.mono ?_
  cases hv : fineB z
  · have HE : Hid (singleF x = []) := Lib.hid (by rw [HSZ.out, if_neg (by rw [hv]; decide)])
    clear hv
    rintro e w5 ⟨rfl, hq⟩
    replace hB := below_grows hB (Nat.le_refl _) hq
    go_wp2
    go_ret
    rw [HE.out]
    exact ⟨⟨none, 0, rfl, Nat.le_refl _, Bxs.nil⟩, hB⟩
  · have HE : Hid (singleF x = [z]) := Lib.hid (by rw [HSZ.out, if_pos hv])
    clear hv
    rintro e w5 ⟨rfl, hq⟩
    replace hB := below_grows hB (Nat.le_refl _) hq
    replace k3 := k3.grows hq
    replace hp := hp.grows hq
    clear hq x3
    have x3 := k3.cell
    have hL := bxs_one2 hp (show Ge w.heap.size w5.heap.size from hB.size) HZC.out
    have hq := (Below.refl w5.heap.size w5).alloc (Nat.le_refl _) (Obj.cells #[.int .i64 K, .slice A1 1 1, .slice (some ⟨gm, 0, none⟩) 1 1, .slice A3 1 1] 61)
    have hB6 := below_grows hB (Nat.le_refl _) hq
    clear hq hB
    go_wp2
    go_ret
    rw [HE.out]
    exact ⟨⟨_, 1, rfl, Nat.le_refl _, hL⟩, hB6⟩
end Go.Proofs.YtjbkjgmcfommgaaGreat


namespace Go.Proofs.YtjbkjgmcfommgaaGreat
open Go.ChangeShapes Go.WideShapes Go.RowKit Go.Deep
section
variable {H : Type} {enc : TypeId × Value → H} {P : Program} {w : World} {base : Nat} {spare : Nat → Bool} {held : Bool} {r : Reach} {b0 : Nat}
end
theorem i64_bd {n : Int} (h : (Lit.int .i64 n).wf = true) : -9223372036854775808 ≤ n ∧ n ≤ 9223372036854775807 := by
 simpa [Lit.wf, IntKind.min, IntKind.max, IntKind.signed, IntKind.bits] using h
end Go.Proofs.YtjbkjgmcfommgaaGreat

namespace Go.Proofs.YtjbkjgmcfommgaaGreat
open Go.ChangeShapes Go.WideShapes Go.RowKit Go.Deep
set_option maxRecDepth 100000 in
/-- A slice of ints among the arguments. -/
theorem open_slice_kind {H : Type} {enc : TypeId × Value → H} {P : Program} {w : World} {r : Reach} {b0 : Nat} {k : IntKind} {t e : TypeId} {v : Value} {d : DataW H} {p : List MemPlace} (ht : P.underlying t = some (.slice e)) (he : P.underlying e = some (.int k)) (hc : P.cellsOf e = 1)
 (hv : Value.okWide P w r b0 t v) (h : DataW.Trod enc P w 0 (fun _ => true) true t v d p) :
 ∃ (A : Option Addr) (c : Nat) (l : List Int), v = .slice A l.length c ∧ Reads w w.heap.size 1 A l.length (l.map (Value.int k)) ∧ l.length ≤ maxLen ∧ l.length ≤ c ∧ ∀ x ∈ l, (Lit.int k x).wf = true := by
 obtain ⟨a0, len, cap, rfl⟩ := okWide_slice ht hv
 obtain ⟨fuel, hf⟩ := h
 rcases open_ints ht he hc hf with ⟨hcs, _⟩ | ⟨a, len', cap', zs, hcs, _, hl, hm, hz, _, hcell, hwz⟩
 ·simp [Value.cells] at hcs
  obtain ⟨rfl, rfl, rfl⟩ := hcs
  exact ⟨none, 0, [], rfl, ⟨by simp, fun h => absurd h (by simp)⟩, by simp, by simp, by simp⟩
 ·simp [Value.cells] at hcs
  obtain ⟨rfl, rfl, rfl⟩ := hcs
  simp only [if_true] at hz
  have hlen : (zs.take len).length = len := by simp; omega
  refine ⟨some a, cap, zs.take len, by rw [hlen], ⟨by simp, fun _ => ⟨a, rfl, ?_, fun j u hu => ?_⟩⟩, by omega, by omega, fun x hx => hwz x (List.mem_of_mem_take hx)⟩
  ·have h0 : 0 < zs.length := by
    rename_i hpos
    rw [hlen] at hpos
    omega
   have := hcell 0 h0
   have hb : (a.add 0).block = a.block := block_of_add a 0
   rw [← hb]
   exact World.block_lt_of_cell? w _ this
  ·rw [List.getElem?_map] at hu
   obtain ⟨x, hx, rfl⟩ := Option.map_eq_some_iff.1 hu
   have hj : j < len := by
    have := (List.getElem?_eq_some_iff.1 hx).1
    rw [hlen] at this
    exact this
   rw [hcell j (by omega)]
   rw [List.getElem?_take, if_pos hj] at hx
   rw [List.getD_eq_getElem?_getD, hx]
   rfl
set_option maxRecDepth 100000 in
theorem u8_bd {n : Int} (h : (Lit.int .u8 n).wf = true) : 0 ≤ n ∧ n ≤ 255 := by
 simpa [Lit.wf, IntKind.min, IntKind.max, IntKind.signed, IntKind.bits] using h
end Go.Proofs.YtjbkjgmcfommgaaGreat

namespace Go.Proofs.YtjbkjgmcfommgaaGreat
open Go.RowKit
theorem validM_len {m : List Int} (h : validM m = true) : m.length ≤ 8 := by
  unfold validM at h
  simp only [Bool.and_eq_true, decide_eq_true_eq] at h
  exact h.1.2
theorem okb_fine {b : Bx} (h : FB b) : OKB b := by
  obtain ⟨f1, f2, f3, f4⟩ := fineB_all.1 h.1
  obtain ⟨g1, g2, g3, g4⟩ := maps_iff.1 f4
  have h1 := ((okS_iff b.r).1 h.r).2.2
  have h2 := ((okS_iff b.s).1 h.s).2.2
  exact ⟨by omega, by omega, by omega, fun x hx => by have := validM_len (g3 x hx); omega⟩
theorem FL.okb {l : List Bx} (h : FL l) : ∀ b ∈ l, OKB b := fun b hb => okb_fine (h.1 b hb)
end Go.Proofs.YtjbkjgmcfommgaaGreat


namespace Go.Proofs.YtjbkjgmcfommgaaGreat
open Go.RowKit
/-- A box with the dimensions in d, the others those of x. -/
def blendB (d : Int) (x y : Bx) : Bx := ⟨if bitZ d 1 = true then y.k else x.k, if bitZ d 2 = true then y.r else x.r, if bitZ d 4 = true then y.m else x.m, if bitZ d 8 = true then y.s else x.s⟩
theorem mix_fine {d : Int} {x y : Bx} (hx : FB x) (hy : FB y) : FB (blendB d x y) := by
  obtain ⟨f1, f2, f3, f4⟩ := fineB_all.1 hx.1
  obtain ⟨g1, g2, g3, g4⟩ := fineB_all.1 hy.1
  refine ⟨fineB_all.2 ⟨?_, ?_, ?_, ?_⟩, ?_⟩
  · show kindsOk (if bitZ d 1 = true then y.k else x.k) = true
    split <;> assumption
  · show withinS (if bitZ d 2 = true then y.r else x.r) _ _ = true
    split <;> assumption
  · show withinS (if bitZ d 8 = true then y.s else x.s) _ _ = true
    split <;> assumption
  · show mapsOk (if bitZ d 4 = true then y.m else x.m) = true
    split <;> assumption
  · show I64 (if bitZ d 1 = true then y.k else x.k)
    split
    · exact hy.2
    · exact hx.2
/-- Whether some pair has something in common in all of d. -/
def metD (d : Int) (a b : List Bx) : Bool := a.any fun x => b.any fun y => someB (dimsF d x y)
theorem met_zero {a b : List Bx} (ha : FL a) (_hb : FL b) (h1 : a ≠ []) (h2 : b ≠ []) : metD 0 a b = true := by
  obtain ⟨x, hx⟩ := List.exists_mem_of_ne_nil a h1
  obtain ⟨y, hy⟩ := List.exists_mem_of_ne_nil b h2
  have fx := ha.1 x hx
  refine List.any_eq_true.2 ⟨x, hx, List.any_eq_true.2 ⟨y, hy, ?_⟩⟩
  have : dimsF 0 x y = x := by
    unfold dimsF
    rw [if_neg (by decide), if_neg (by decide), if_neg (by decide), if_neg (by decide)]
  rw [this]
  exact some_iff.2 ⟨fx.k0, fx.m0, fx.r0, fx.s0⟩
end Go.Proofs.YtjbkjgmcfommgaaGreat


namespace Go.Proofs.YtjbkjgmcfommgaaGreat
open Go.RowKit
end Go.Proofs.YtjbkjgmcfommgaaGreat


namespace Go.Proofs.YtjbkjgmcfommgaaGreat
open Go.RowKit
theorem kUp_is (w b : Int) : ∀ n : Nat, n ≤ 7 → (kUp w b n = 0 ∧ ∀ y : Int, 1 ≤ y → y ≤ n → kindB b y = false) ∨ (1 ≤ kUp w b n ∧ kUp w b n ≤ n ∧ kindB b (kUp w b n) = true ∧ ∀ y : Int, 1 ≤ y → y ≤ n → kindB b y = true → kindZ w (kUp w b n) y ≤ 0) := by
 intro n
 induction n with
 | zero => exact fun _ => .inl ⟨rfl, fun y h1 h2 => by omega⟩
 | succ n ih =>
  intro hn
  have i := ih (by omega)
  have en : ((n + 1 : Nat) : Int) = (n : Int) + 1 := by omega
  have e : kUp w b (n + 1) = if kindB b ((n : Int) + 1) = true ∧ (kUp w b n = 0 ∨ kindZ w ((n : Int) + 1) (kUp w b n) < 0) then (n : Int) + 1 else kUp w b n := rfl
  have ht := tot_kindZ w
  by_cases hc : kindB b ((n : Int) + 1) = true ∧ (kUp w b n = 0 ∨ kindZ w ((n : Int) + 1) (kUp w b n) < 0)
  ·rw [e, if_pos hc]
   obtain ⟨h1, h2⟩ := hc
   refine .inr ⟨by omega, by omega, h1, fun y y1 y2 hy => ?_⟩
   by_cases hyn : y = (n : Int) + 1
   ·rw [hyn, ht.self]
    exact Int.le_refl _
   ·rcases i with ⟨i1, i2⟩ | ⟨i1, i2, i3, i4⟩
    ·rw [i2 y y1 (by omega)] at hy
     cases hy
    ·have := i4 y y1 (by omega) hy
     have h2 : kindZ w ((n : Int) + 1) (kUp w b n) < 0 := h2.elim (fun h => by omega) id
     exact ht.trans _ _ _ (by omega) this
  ·rw [e, if_neg hc]
   rcases i with ⟨i1, i2⟩ | ⟨i1, i2, i3, i4⟩
   ·refine .inl ⟨i1, fun y y1 y2 => ?_⟩
    by_cases hyn : y = (n : Int) + 1
    ·cases hv : kindB b y
     ·rfl
     ·rw [hyn] at hv
      exact absurd ⟨hv, .inl i1⟩ hc
    ·exact i2 y y1 (by omega)
   ·refine .inr ⟨i1, by omega, i3, fun y y1 y2 hy => ?_⟩
    by_cases hyn : y = (n : Int) + 1
    ·rw [hyn] at hy
     have h3 : ¬ kindZ w ((n : Int) + 1) (kUp w b n) < 0 := fun h => hc ⟨hy, .inr h⟩
     have := ht.anti ((n : Int) + 1) (kUp w b n)
     rw [hyn]
     omega
    ·exact i4 y y1 (by omega) hy
theorem topK_kUp {b : Int} (hb : I64 b) (h : kindsOk b = true) (w : Int) : topK w b = kUp w b 7 := by
 have h1 := topK_in hb h w
 obtain ⟨r1, r2⟩ := kindB_rng h1
 rcases kUp_is w b 7 (by omega) with ⟨i1, i2⟩ | ⟨i1, i2, i3, i4⟩
 ·rw [i2 _ r1 (by omega)] at h1
  cases h1
 ·have h2 := i4 _ r1 (by omega) h1
  have h3 := topK_least hb h w _ i3
  have ht := (tot_kindZ w).anti (topK w b) (kUp w b 7)
  exact kindZ_zero.1 (show kindZ w (topK w b) (kUp w b 7) = 0 by omega)
theorem top_best {b : Bx} (h : fineB b = true) (hk : I64 b.k) (w : Ch) : topP w b = bestR w b := by
 unfold topP bestR
 rw [topK_kUp hk (fineB_parts h).1]
theorem best_same {l : List Bx} (hk : ∀ b ∈ l, I64 b.k) (w : Ch) : bestL (topP w) w l = bestL (bestR w) w l := by
 unfold bestL
 have key : ∀ (m : List Bx) (s : Ch × Bool), (∀ b ∈ m, fineB b = true ∧ I64 b.k) → m.foldl (bestStep (topP w) w) s = m.foldl (bestStep (bestR w) w) s := by
  intro m
  induction m with
  | nil => exact fun _ _ => rfl
  | cons b m ih =>
   intro s h
   rw [List.foldl_cons, List.foldl_cons]
   have e : bestStep (topP w) w s b = bestStep (bestR w) w s b := by
    unfold bestStep
    rw [top_best (h b (List.mem_cons_self ..)).1 (h b (List.mem_cons_self ..)).2]
   rw [e]
   exact ih _ (fun x hx => h x (List.mem_cons_of_mem _ hx))
 exact key _ _ (fun b hb => ⟨(boxes_mem hb).2, hk b (boxes_mem hb).1⟩)
/-- The order in which the reference looks at sets of dimensions. -/
def masksL : List Int := [1, 2, 4, 8, 3, 5, 6, 9, 10, 12, 7, 11, 13, 14, 15]
def keyM (s : Int) : Int := ones s * 16 + s
theorem masks_sorted : masksL.Pairwise (fun a b => keyM a < keyM b) := by decide +kernel
theorem masks_all : ∀ s : Fin 16, 1 ≤ s.val → (s.val : Int) ∈ masksL := by decide +kernel
theorem masks_rng : ∀ z ∈ masksL, ∃ s : Fin 16, z = (s.val : Int) ∧ 1 ≤ s.val := by decide +kernel
theorem key_inj : ∀ s t : Fin 16, keyM (s.val : Int) = keyM (t.val : Int) → s = t := by decide +kernel
theorem find_least {p : Int → Bool} {z : Int} {m : List Int} (hs : m.Pairwise (fun a b => keyM a < keyM b)) (h : m.find? p = some z) : z ∈ m ∧ p z = true ∧ ∀ y ∈ m, p y = true → keyM z ≤ keyM y := by
 induction m with
 | nil => cases h
 | cons x m ih =>
  rw [List.pairwise_cons] at hs
  rw [List.find?_cons] at h
  cases hp : p x
  ·rw [hp] at h
   obtain ⟨h1, h2, h3⟩ := ih hs.2 h
   refine ⟨List.mem_cons_of_mem _ h1, h2, fun y hy hpy => ?_⟩
   rcases List.mem_cons.1 hy with rfl | hy
   ·rw [hp] at hpy
    cases hpy
   ·exact h3 y hy hpy
  ·rw [hp] at h
   injection h with h
   subst h
   refine ⟨List.mem_cons_self .., hp, fun y hy _ => ?_⟩
   rcases List.mem_cons.1 hy with rfl | hy
   ·exact Int.le_refl _
   ·exact Int.le_of_lt (hs.1 y hy)
end Go.Proofs.YtjbkjgmcfommgaaGreat

namespace Go.Proofs.YtjbkjgmcfommgaaGreat
open Go.RowKit
theorem and_same {k : Int} (h : KR k) : bits .and .i64 k k = k := by
 obtain ⟨n, rfl⟩ : ∃ n : Nat, k = (n : Int) := ⟨k.toNat, by unfold KR at h; omega⟩
 rw [and_nat (by unfold KR at h; omega) (by unfold KR at h; omega), Nat.and_self]
theorem mix_dims {d : Int} {x y : Bx} (hx : FB x) : dimsF 15 x (blendB d x y) = dimsF d x y := by
 rw [dims15]
 have e1 : bits .and .i64 x.k (blendB d x y).k = if bitZ d 1 = true then bits .and .i64 x.k y.k else x.k := by
  show bits .and .i64 x.k (if bitZ d 1 = true then y.k else x.k) = _
  split
  ·rfl
  ·exact and_same hx.kr
 have e2 : interF (spansF x.r) (spansF (blendB d x y).r) = if bitZ d 2 = true then interF (spansF x.r) (spansF y.r) else x.r := by
  show interF (spansF x.r) (spansF (if bitZ d 2 = true then y.r else x.r)) = _
  split
  ·rfl
  ·rw [hx.sr, inter_self2 hx.r]
 have e3 : x.m.filter (fun z => decide (z ∈ (blendB d x y).m)) = if bitZ d 4 = true then x.m.filter (fun z => decide (z ∈ y.m)) else x.m := by
  show x.m.filter (fun z => decide (z ∈ (if bitZ d 4 = true then y.m else x.m))) = _
  split
  ·rfl
  ·exact List.filter_eq_self.2 (fun a ha => decide_eq_true ha)
 have e4 : interF (spansF x.s) (spansF (blendB d x y).s) = if bitZ d 8 = true then interF (spansF x.s) (spansF y.s) else x.s := by
  show interF (spansF x.s) (spansF (if bitZ d 8 = true then y.s else x.s)) = _
  split
  ·rfl
  ·rw [hx.ss, inter_self2 hx.s]
 rw [e1, e2, e3, e4]
 rfl
theorem many15 {d : Int} {x y : Bx} (hx : FB x) : manyB 15 (dimsF d x y) = manyB d (dimsF d x y) := by
 have h1 := ((okS_iff x.r).1 hx.r).2.2
 have h2 := ((okS_iff x.s).1 hx.s).2.2
 have key : ∀ e : Bool, ((e && decide (64 < (if e = true then interF (spansF x.r) (spansF y.r) else x.r).length)) = decide (64 < (if e = true then interF (spansF x.r) (spansF y.r) else x.r).length)) ∧ ((e && decide (64 < (if e = true then interF (spansF x.s) (spansF y.s) else x.s).length)) = decide (64 < (if e = true then interF (spansF x.s) (spansF y.s) else x.s).length)) := by
  intro e
  cases e
  ·refine ⟨?_, ?_⟩
   ·show false = decide (64 < x.r.length)
    rw [decide_eq_false (by omega)]
   ·show false = decide (64 < x.s.length)
    rw [decide_eq_false (by omega)]
  ·exact ⟨rfl, rfl⟩
 show ((bitZ 15 2 && decide (64 < (if bitZ d 2 = true then interF (spansF x.r) (spansF y.r) else x.r).length)) || (bitZ 15 8 && decide (64 < (if bitZ d 8 = true then interF (spansF x.s) (spansF y.s) else x.s).length))) = ((bitZ d 2 && decide (64 < (if bitZ d 2 = true then interF (spansF x.r) (spansF y.r) else x.r).length)) || (bitZ d 8 && decide (64 < (if bitZ d 8 = true then interF (spansF x.s) (spansF y.s) else x.s).length)))
 rw [(key (bitZ d 2)).1, (key (bitZ d 8)).2, bit15.2.1, bit15.2.2.2, Bool.true_and, Bool.true_and]
theorem reduce_one (b : Bx) : reduceL [b] = [b] := by
 show keepUp [b] 0 ++ (match ([b] : List Bx)[0]? with | some c => if dropUp [b] 0 c 1 = true then [] else [c] | none => []) = [b]
 have e : dropUp [b] 0 b 1 = false := by
  show (dropUp [b] 0 b 0 || (match ([b] : List Bx)[0]? with | some c => dropAt 0 b 0 c | none => false)) = false
  show (false || dropAt 0 b 0 b) = false
  rw [dropAt_self, Bool.false_or]
 show [] ++ (if dropUp [b] 0 b 1 = true then [] else [b]) = [b]
 rw [if_neg (by rw [e]; simp)]
 rfl
/-- meet of the program. -/
def meetF (d : Int) (x y : Bx) : List Bx × Int := interP [x] [blendB d x y]
theorem meet_is {d : Int} {x y : Bx} (hx : FB x) (hy : FB y) : meetF d x y = if someB (dimsF d x y) = true then (if manyB d (dimsF d x y) = true then ([], 3) else ([dimsF d x y], 0)) else ([], 0) := by
 have hz := mix_fine (d := d) hx hy
 have h1 : FL [x] := ⟨fun b hb => by simp only [List.mem_singleton] at hb; exact hb ▸ hx, by simp⟩
 have h2 : FL [blendB d x y] := ⟨fun b hb => by simp only [List.mem_singleton] at hb; exact hb ▸ hz, by simp⟩
 have e0 : meetF d x y = interR [x] [blendB d x y] := inter_same (fun b hb => (h1.1 b hb).2) (fun b hb => (h2.1 b hb).2)
 have e : interR [x] [blendB d x y] = productF 15 [x] [blendB d x y] := if_pos ⟨h1.valid, h2.valid⟩
 have ep : prodF 15 [x] [blendB d x y] = prodStep 15 x (some []) (blendB d x y) := rfl
 have em := mix_dims (d := d) (y := y) hx
 rw [e0, e]
 unfold productF
 rw [ep]
 cases hs : someB (dimsF d x y)
 ·rw [prodStep_no (by rw [em]; exact hs), if_neg (by simp)]
  rfl
 ·rw [if_pos rfl]
  cases hm : manyB d (dimsF d x y)
  ·rw [prodStep_yes (by rw [em]; exact hs) (by rw [em, many15 hx]; exact hm) (by simp), if_neg (by simp), em]
   have hf : FL [dimsF d x y] := ⟨fun b hb => by simp only [List.mem_singleton] at hb; exact hb ▸ dims_fine hx hy hs hm, by simp⟩
   show reduceF ([] ++ [dimsF d x y]) = _
   unfold reduceF
   rw [List.nil_append, if_pos hf.valid, reduce_one]
  ·rw [prodStep_stop (by rw [em]; exact hs) (.inl (by rw [em, many15 hx]; exact hm)), if_pos rfl]
/-- Each dimension by itself. -/
theorem some_bits {n : Int} {x y : Bx} (hx : FB x) : someB (dimsF n x y) = ((!bitZ n 1 || someB (dimsF 1 x y)) && (!bitZ n 2 || someB (dimsF 2 x y)) && (!bitZ n 4 || someB (dimsF 4 x y)) && (!bitZ n 8 || someB (dimsF 8 x y))) := by
 have key : ∀ n : Int, someB (dimsF n x y) = ((!bitZ n 1 || (bits .and .i64 x.k y.k != 0)) && (!bitZ n 4 || decide (0 < (x.m.filter (fun z => decide (z ∈ y.m))).length)) && (!bitZ n 2 || decide (0 < (interF (spansF x.r) (spansF y.r)).length)) && (!bitZ n 8 || decide (0 < (interF (spansF x.s) (spansF y.s)).length))) := by
  intro n
  have a1 : ((if bitZ n 1 = true then bits .and .i64 x.k y.k else x.k) != 0) = (!bitZ n 1 || (bits .and .i64 x.k y.k != 0)) := by
   cases bitZ n 1
   ·have : (x.k != 0) = true := bne_iff_ne.2 hx.k0
    simpa using this
   ·rfl
  have a2 : decide (0 < (if bitZ n 4 = true then x.m.filter (fun z => decide (z ∈ y.m)) else x.m).length) = (!bitZ n 4 || decide (0 < (x.m.filter (fun z => decide (z ∈ y.m))).length)) := by
   cases bitZ n 4
   ·exact decide_eq_true hx.m0
   ·rfl
  have a3 : decide (0 < (if bitZ n 2 = true then interF (spansF x.r) (spansF y.r) else x.r).length) = (!bitZ n 2 || decide (0 < (interF (spansF x.r) (spansF y.r)).length)) := by
   cases bitZ n 2
   ·exact decide_eq_true hx.r0
   ·rfl
  have a4 : decide (0 < (if bitZ n 8 = true then interF (spansF x.s) (spansF y.s) else x.s).length) = (!bitZ n 8 || decide (0 < (interF (spansF x.s) (spansF y.s)).length)) := by
   cases bitZ n 8
   ·exact decide_eq_true hx.s0
   ·rfl
  show (((if bitZ n 1 = true then bits .and .i64 x.k y.k else x.k) != 0) && decide (0 < (if bitZ n 4 = true then x.m.filter (fun z => decide (z ∈ y.m)) else x.m).length) && decide (0 < (if bitZ n 2 = true then interF (spansF x.r) (spansF y.r) else x.r).length) && decide (0 < (if bitZ n 8 = true then interF (spansF x.s) (spansF y.s) else x.s).length)) = _
  rw [a1, a2, a3, a4]
 have b1 : bitZ 1 1 = true ∧ bitZ 1 2 = false ∧ bitZ 1 4 = false ∧ bitZ 1 8 = false := by decide
 have b2 : bitZ 2 1 = false ∧ bitZ 2 2 = true ∧ bitZ 2 4 = false ∧ bitZ 2 8 = false := by decide
 have b4 : bitZ 4 1 = false ∧ bitZ 4 2 = false ∧ bitZ 4 4 = true ∧ bitZ 4 8 = false := by decide
 have b8 : bitZ 8 1 = false ∧ bitZ 8 2 = false ∧ bitZ 8 4 = false ∧ bitZ 8 8 = true := by decide
 rw [key n, key 1, key 2, key 4, key 8]
 obtain ⟨p1, p2, p3, p4⟩ := b1
 obtain ⟨q1, q2, q3, q4⟩ := b2
 obtain ⟨r1, r2, r3, r4⟩ := b4
 obtain ⟨s1, s2, s3, s4⟩ := b8
 rw [p1, p2, p3, p4, q1, q2, q3, q4, r1, r2, r3, r4, s1, s2, s3, s4]
 generalize (bits .and .i64 x.k y.k != 0) = c1
 generalize decide (0 < (x.m.filter (fun z => decide (z ∈ y.m))).length) = c2
 generalize decide (0 < (interF (spansF x.r) (spansF y.r)).length) = c3
 generalize decide (0 < (interF (spansF x.s) (spansF y.s)).length) = c4
 cases bitZ n 1 <;> cases bitZ n 2 <;> cases bitZ n 4 <;> cases bitZ n 8 <;> cases c1 <;> cases c2 <;> cases c3 <;> cases c4 <;> rfl
/-- shared of the program, after n of its rounds. -/
def shF (x y : Bx) : Nat → Int
 | 0 => 0
 | n + 1 => if someB (dimsF (2 ^ n) x y) = true then bits .or .i64 (shF x y n) (2 ^ n) else shF x y n
def shB (c1 c2 c3 c4 : Bool) : Int := (if c1 then 1 else 0) + (if c2 then 2 else 0) + (if c3 then 4 else 0) + (if c4 then 8 else 0)
theorem sh_is (x y : Bx) : shF x y 4 = shB (someB (dimsF 1 x y)) (someB (dimsF 2 x y)) (someB (dimsF 4 x y)) (someB (dimsF 8 x y)) := by
 show (if someB (dimsF 8 x y) = true then bits .or .i64 (if someB (dimsF 4 x y) = true then bits .or .i64 (if someB (dimsF 2 x y) = true then bits .or .i64 (if someB (dimsF 1 x y) = true then bits .or .i64 0 1 else 0) 2 else (if someB (dimsF 1 x y) = true then bits .or .i64 0 1 else 0)) 4 else (if someB (dimsF 2 x y) = true then bits .or .i64 (if someB (dimsF 1 x y) = true then bits .or .i64 0 1 else 0) 2 else (if someB (dimsF 1 x y) = true then bits .or .i64 0 1 else 0))) 8 else (if someB (dimsF 4 x y) = true then bits .or .i64 (if someB (dimsF 2 x y) = true then bits .or .i64 (if someB (dimsF 1 x y) = true then bits .or .i64 0 1 else 0) 2 else (if someB (dimsF 1 x y) = true then bits .or .i64 0 1 else 0)) 4 else (if someB (dimsF 2 x y) = true then bits .or .i64 (if someB (dimsF 1 x y) = true then bits .or .i64 0 1 else 0) 2 else (if someB (dimsF 1 x y) = true then bits .or .i64 0 1 else 0)))) = _
 cases someB (dimsF 1 x y) <;> cases someB (dimsF 2 x y) <;> cases someB (dimsF 4 x y) <;> cases someB (dimsF 8 x y) <;> decide +kernel
/-- What a pair is worth in blame. -/
def worth (d : Int) (p : Bx × Bx) : Int := bits .or .i64 (shF p.1 p.2 4) (bits .andNot .i64 15 d)
def metG (d : Int) (ps : List (Bx × Bx)) (s : Int) : Bool := ps.any fun p => bits .and .i64 (worth d p) s == s
theorem worth_fin : ∀ (c1 c2 c3 c4 : Bool) (d s : Fin 16), (bits .and .i64 (bits .or .i64 (shB c1 c2 c3 c4) (bits .andNot .i64 15 (d.val : Int))) (s.val : Int) == (s.val : Int)) = ((!bitZ (bits .and .i64 (s.val : Int) (d.val : Int)) 1 || c1) && (!bitZ (bits .and .i64 (s.val : Int) (d.val : Int)) 2 || c2) && (!bitZ (bits .and .i64 (s.val : Int) (d.val : Int)) 4 || c3) && (!bitZ (bits .and .i64 (s.val : Int) (d.val : Int)) 8 || c4)) := by decide +kernel
theorem met_pairs {d : Int} {a b : List Bx} : metD d a b = (pairsL a b).any fun p => someB (dimsF d p.1 p.2) := by
 unfold metD pairsL
 rw [Bool.eq_iff_iff, List.any_eq_true, List.any_eq_true]
 constructor
 ·rintro ⟨x, hx, h⟩
  obtain ⟨y, hy, h⟩ := List.any_eq_true.1 h
  exact ⟨(x, y), List.mem_flatMap.2 ⟨x, hx, List.mem_map.2 ⟨y, hy, rfl⟩⟩, h⟩
 ·rintro ⟨p, hp, h⟩
  obtain ⟨x, hx, hp⟩ := List.mem_flatMap.1 hp
  obtain ⟨y, hy, rfl⟩ := List.mem_map.1 hp
  exact ⟨x, hx, List.any_eq_true.2 ⟨y, hy, h⟩⟩
theorem metG_is {d s : Fin 16} {a b : List Bx} (ha : FL a) : metG (d.val : Int) (pairsL a b) (s.val : Int) = metD (bits .and .i64 (s.val : Int) (d.val : Int)) a b := by
 rw [met_pairs]
 unfold metG
 rw [Bool.eq_iff_iff, List.any_eq_true, List.any_eq_true]
 have key : ∀ p ∈ pairsL a b, (bits .and .i64 (worth (d.val : Int) p) (s.val : Int) == (s.val : Int)) = someB (dimsF (bits .and .i64 (s.val : Int) (d.val : Int)) p.1 p.2) := by
  intro p hp
  have hx := ha.1 _ (mem_pairs.1 hp).1
  unfold worth
  rw [sh_is, worth_fin, some_bits (n := bits .and .i64 (s.val : Int) (d.val : Int)) hx]
 exact ⟨fun ⟨p, hp, h⟩ => ⟨p, hp, by rw [← key p hp]; exact h⟩, fun ⟨p, hp, h⟩ => ⟨p, hp, by rw [key p hp]; exact h⟩⟩
/-- The least set that is not met. -/
def blG (f : Int → Bool) : Nat → Int
 | 0 => 15
 | n + 1 => if (decide (ones ((n : Int) + 1) < ones (blG f n)) && !f ((n : Int) + 1)) = true then (n : Int) + 1 else blG f n
theorem blG_least (f : Int → Bool) : ∀ n, n ≤ 14 → (blG f n = 15 ∨ ∃ s : Nat, blG f n = (s : Int) ∧ 1 ≤ s ∧ s ≤ n ∧ f (s : Int) = false) ∧ (∀ s : Nat, 1 ≤ s → s ≤ n → f (s : Int) = false → ones (blG f n) < ones (s : Int) ∨ (ones (blG f n) = ones (s : Int) ∧ blG f n ≤ (s : Int))) := by
 intro n
 induction n with
 | zero => exact fun _ => ⟨.inl rfl, fun s h1 h2 => by omega⟩
 | succ n ih =>
  intro h
  obtain ⟨i1, i2⟩ := ih (by omega)
  have e : blG f (n + 1) = if (decide (ones ((n : Int) + 1) < ones (blG f n)) && !f ((n : Int) + 1)) = true then (n : Int) + 1 else blG f n := rfl
  have en : ((n + 1 : Nat) : Int) = (n : Int) + 1 := by omega
  have o15 : ∀ s : Fin 15, ones (s.val : Int) < ones 15 := by decide +kernel
  rw [e]
  by_cases hc : (decide (ones ((n : Int) + 1) < ones (blG f n)) && !f ((n : Int) + 1)) = true
  ·rw [if_pos hc]
   rw [Bool.and_eq_true, decide_eq_true_eq, Bool.not_eq_true'] at hc
   refine ⟨.inr ⟨n + 1, en.symm, by omega, by omega, by rw [en]; exact hc.2⟩, fun s h1 h2 h3 => ?_⟩
   by_cases hs : s = n + 1
   ·subst hs
    rw [en]
    exact .inr ⟨rfl, Int.le_refl _⟩
   ·have := i2 s h1 (by omega) h3
    left
    omega
  ·rw [if_neg hc]
   refine ⟨i1.imp id fun ⟨s, h1, h2, h3, h4⟩ => ⟨s, h1, h2, by omega, h4⟩, fun s h1 h2 h3 => ?_⟩
   by_cases hs : s = n + 1
   ·subst hs
    rw [en] at h3 ⊢
    rw [h3, Bool.not_false, Bool.and_true, decide_eq_true_eq] at hc
    rcases i1 with i1 | ⟨t, t1, t2, t3, -⟩
    ·have := o15 ⟨n + 1, by omega⟩
     rw [i1] at hc
     have this : ones ((n + 1 : Nat) : Int) < ones 15 := this
     rw [en] at this
     exact absurd this hc
    ·by_cases ho : ones (blG f n) = ones ((n : Int) + 1)
     ·exact .inr ⟨ho, by omega⟩
     ·left
      omega
   ·exact i2 s h1 (by omega) h3
def ngBlame (d : Int) (a b : List Bx) : Int := blG (metG d (pairsL a b)) 14
/-- The reference's: the first set of d that is not met. -/
def masksD (d : Int) : List Int := masksL.filter fun s => bits .andNot .i64 s d == 0
def apartD (d : Int) (a b : List Bx) : Int := ((masksD d).find? fun s => !metD s a b).getD 0
theorem sub_fin : ∀ (d s : Fin 16), ∃ t : Fin 16, bits .and .i64 (s.val : Int) (d.val : Int) = (t.val : Int) ∧ bits .andNot .i64 (t.val : Int) (d.val : Int) = 0 ∧ keyM (t.val : Int) ≤ keyM (s.val : Int) ∧ bits .and .i64 (t.val : Int) (d.val : Int) = (t.val : Int) := by decide +kernel
theorem sub_own : ∀ (d s : Fin 16), bits .andNot .i64 (s.val : Int) (d.val : Int) = 0 → bits .and .i64 (s.val : Int) (d.val : Int) = (s.val : Int) := by decide +kernel
theorem own_fin : ∀ d : Fin 16, bits .andNot .i64 (d.val : Int) (d.val : Int) = 0 := by decide +kernel
theorem ng_blame {d : Fin 16} {a b : List Bx} (ha : FL a) (hb : FL b) (h1 : a ≠ []) (h2 : b ≠ []) (hd : metD (d.val : Int) a b = false) : ngBlame (d.val : Int) a b = apartD (d.val : Int) a b := by
 have hsort : (masksD (d.val : Int)).Pairwise (fun a b => keyM a < keyM b) := masks_sorted.sublist List.filter_sublist
 have hin : ∀ s : Fin 16, 1 ≤ s.val → bits .andNot .i64 (s.val : Int) (d.val : Int) = 0 → (s.val : Int) ∈ masksD (d.val : Int) := fun s hs h => List.mem_filter.2 ⟨masks_all s hs, by rw [h]; rfl⟩
 have hd0 : 1 ≤ d.val := by
  rcases Nat.eq_zero_or_pos d.val with h | h
  ·rw [h] at hd
   have := met_zero ha hb h1 h2
   rw [show ((0 : Nat) : Int) = 0 from rfl, this] at hd
   cases hd
  ·exact h
 obtain ⟨b1, b2⟩ := blG_least (metG (d.val : Int) (pairsL a b)) 14 (Nat.le_refl _)
 -- a set that is not met, in d
 have good : ∀ s : Fin 16, metG (d.val : Int) (pairsL a b) (s.val : Int) = false → ∃ t : Fin 16, 1 ≤ t.val ∧ bits .andNot .i64 (t.val : Int) (d.val : Int) = 0 ∧ keyM (t.val : Int) ≤ keyM (s.val : Int) ∧ metD (t.val : Int) a b = false := by
  intro s hs
  rw [metG_is ha] at hs
  obtain ⟨t, t1, t2, t3, -⟩ := sub_fin d s
  rw [t1] at hs
  refine ⟨t, ?_, t2, t3, hs⟩
  rcases Nat.eq_zero_or_pos t.val with h | h
  ·rw [h] at hs
   have := met_zero ha hb h1 h2
   rw [show ((0 : Nat) : Int) = 0 from rfl, this] at hs
   cases hs
  ·exact h
 -- what is blamed by the program: some r, not met
 have k15 : ∀ t : Fin 16, keyM (t.val : Int) ≤ keyM 15 := by decide +kernel
 have least : ∀ s : Fin 16, 1 ≤ s.val → metG (d.val : Int) (pairsL a b) (s.val : Int) = false → keyM (blG (metG (d.val : Int) (pairsL a b)) 14) ≤ keyM (s.val : Int) := by
  intro s hs hm
  by_cases h15 : s.val = 15
  ·rcases b1 with h | ⟨t, e, t1, t2, t3⟩
   ·rw [h, h15]
    exact Int.le_refl _
   ·rw [e, h15]
    exact k15 ⟨t, by omega⟩
  ·have := b2 s.val hs (by omega) hm
   unfold keyM
   have e2 : ∀ t : Fin 16, (t.val : Int) ≤ 15 := by intro t; omega
   rcases b1 with h | ⟨t, e, t1, t2, t3⟩ <;> omega
 obtain ⟨r, hr, r1, r2⟩ : ∃ r : Fin 16, blG (metG (d.val : Int) (pairsL a b)) 14 = (r.val : Int) ∧ 1 ≤ r.val ∧ metG (d.val : Int) (pairsL a b) (r.val : Int) = false := by
  rcases b1 with h | ⟨s, e, s1, s2, s3⟩
  ·refine ⟨15, h, by decide, ?_⟩
   -- then nothing lesser is unmet; d itself is unmet, so d = 15
   have hdm : metG (d.val : Int) (pairsL a b) (d.val : Int) = false := by
    rw [metG_is ha, sub_own d d (own_fin d)]
    exact hd
   have hl := least d hd0 hdm
   rw [h] at hl
   have := k15 d
   have e : keyM (d.val : Int) = keyM (((15 : Fin 16).val : Nat) : Int) := by
    show keyM (d.val : Int) = keyM 15
    omega
   have := key_inj d 15 e
   subst this
   exact hdm
  ·exact ⟨⟨s, by omega⟩, e, s1, s3⟩
 -- it lies in d, and is the least of those
 obtain ⟨t, t1, t2, t3, t4⟩ := good r r2
 have htm : metG (d.val : Int) (pairsL a b) (t.val : Int) = false := by
  rw [metG_is ha, sub_own d t t2]
  exact t4
 have hl := least t t1 htm
 rw [hr] at hl
 have := key_inj t r (by omega)
 subst this
 unfold ngBlame apartD
 rw [hr]
 have hmem := hin t t1 t2
 cases hf : (masksD (d.val : Int)).find? fun s => !metD s a b with
 | none =>
  have := List.find?_eq_none.1 hf _ hmem
  rw [t4] at this
  exact absurd rfl this
 | some z =>
  obtain ⟨z1, z2, z3⟩ := find_least hsort hf
  obtain ⟨z4, z5⟩ := List.mem_filter.1 z1
  obtain ⟨s, rfl, s1⟩ := masks_rng z z4
  have k1 := z3 _ hmem (by rw [t4]; rfl)
  have hs2 : metD (s.val : Int) a b = false := by simpa using z2
  have hs3 : bits .andNot .i64 (s.val : Int) (d.val : Int) = 0 := by simpa using z5
  have hsm : metG (d.val : Int) (pairsL a b) (s.val : Int) = false := by
   rw [metG_is ha, sub_own d s hs3]
   exact hs2
  have k2 := least s s1 hsm
  rw [hr] at k2
  have := key_inj s t (by omega)
  show (t.val : Int) = (s.val : Int)
  rw [this]
end Go.Proofs.YtjbkjgmcfommgaaGreat

namespace Go.Proofs.YtjbkjgmcfommgaaGreat
open Go.RowKit
/-- A port. -/
structure Pt where
 b : List Bx
 v : Int
deriving DecidableEq
def noPt : Pt := ⟨[], 0⟩
def portOk (p : Pt) : Bool := decide (p.b.length ≤ 8) && validL p.b && decide (0 ≤ p.v) && decide (p.v ≤ 15)
def validC (l : List Pt) : Bool := l.all portOk && decide (1 ≤ l.length) && decide (l.length ≤ 16)
/-- The dimensions that are not converted behind a port. -/
def keptD (p : Pt) : Int := bits .andNot .i64 15 p.v
abbrev FwR := List (List Bx) × (Int × Int) × Int
def fwStep (l : List Pt) (k : Nat) (p : Pt) (s : FwR) : FwR :=
 if p.b.length = 0 then ([], ((k : Int), 15), 13)
 else if k = 0 then (s.1 ++ [(reduceF p.b).1], (0, 0), 0)
 else if (productF (keptD (l.getD (k - 1) noPt)) p.b (s.1.getD (k - 1) [])).2 ≠ 0 then ([], (0, 0), (productF (keptD (l.getD (k - 1) noPt)) p.b (s.1.getD (k - 1) [])).2)
 else if (productF (keptD (l.getD (k - 1) noPt)) p.b (s.1.getD (k - 1) [])).1.length = 0 then ([], ((k : Int), apartD (keptD (l.getD (k - 1) noPt)) p.b (s.1.getD (k - 1) [])), 13)
 else (s.1 ++ [(productF (keptD (l.getD (k - 1) noPt)) p.b (s.1.getD (k - 1) [])).1], (0, 0), 0)
def fwUp (l : List Pt) : Nat → FwR
 | 0 => ([], (0, 0), 0)
 | k + 1 => if (fwUp l k).2.2 ≠ 0 then fwUp l k else match l[k]? with | some p => fwStep l k p (fwUp l k) | none => fwUp l k
def forwardF (l : List Pt) : FwR := if validC l = true then fwUp l l.length else ([], (0, 0), 1)
theorem fw_next {l : List Pt} {k : Nat} {p : Pt} (h : l[k]? = some p) (hs : (fwUp l k).2.2 = 0) : fwUp l (k + 1) = fwStep l k p (fwUp l k) := by
 show (if (fwUp l k).2.2 ≠ 0 then fwUp l k else match l[k]? with | some p => fwStep l k p (fwUp l k) | none => fwUp l k) = _
 rw [if_neg (fun hh => hh hs), h]
theorem fw_stop {l : List Pt} {k : Nat} (hs : (fwUp l k).2.2 ≠ 0) : ∀ n, k ≤ n → fwUp l n = fwUp l k := by
 intro n hn
 induction n with
 | zero =>
  obtain rfl : k = 0 := by omega
  rfl
 | succ n ih =>
  rcases Nat.eq_or_lt_of_le hn with e | h
  ·rw [e]
  ·have := ih (by omega)
   show (if (fwUp l n).2.2 ≠ 0 then fwUp l n else _) = _
   rw [if_pos (by rw [this]; exact hs), this]
/-- Whether two choices agree in some dimensions. -/
def agD (d : Int) (a b : Ch) : Bool := (!bitZ d 1 || decide (a.k = b.k)) && (!bitZ d 2 || decide (a.r = b.r)) && (!bitZ d 4 || decide (a.m = b.m)) && (!bitZ d 8 || decide (a.s = b.s))
theorem agD_iff {d : Int} {a b : Ch} : agD d a b = true ↔ (bitZ d 1 = true → a.k = b.k) ∧ (bitZ d 2 = true → a.r = b.r) ∧ (bitZ d 4 = true → a.m = b.m) ∧ (bitZ d 8 = true → a.s = b.s) := by
 unfold agD
 cases bitZ d 1 <;> cases bitZ d 2 <;> cases bitZ d 4 <;> cases bitZ d 8 <;> simp [and_assoc]
theorem agD_comm (d : Int) (a b : Ch) : agD d a b = agD d b a := by
 rw [Bool.eq_iff_iff, agD_iff, agD_iff]
 exact ⟨fun ⟨h1, h2, h3, h4⟩ => ⟨fun h => (h1 h).symm, fun h => (h2 h).symm, fun h => (h3 h).symm, fun h => (h4 h).symm⟩, fun ⟨h1, h2, h3, h4⟩ => ⟨fun h => (h1 h).symm, fun h => (h2 h).symm, fun h => (h3 h).symm, fun h => (h4 h).symm⟩⟩
theorem fb_has {y : Bx} (h : FB y) : ∃ c, inB y c = true := by
 obtain ⟨c, c1, -⟩ := some_has h h (d := 0) (by
  have : dimsF 0 y y = y := by
   unfold dimsF
   rw [if_neg (by decide), if_neg (by decide), if_neg (by decide), if_neg (by decide)]
  rw [this]
  exact some_iff.2 ⟨h.k0, h.m0, h.r0, h.s0⟩)
 exact ⟨c, c1⟩
theorem inD_iff {d : Int} {y : Bx} {c : Ch} (h : FB y) : inD d y c = true ↔ ∃ e, inB y e = true ∧ agD d e c = true := by
 have hd : inD d y c = true ↔ (bitZ d 1 = true → kindB y.k c.k = true) ∧ (bitZ d 2 = true → hasF y.r c.r = true) ∧ (bitZ d 4 = true → c.m ∈ y.m) ∧ (bitZ d 8 = true → hasF y.s c.s = true) := by
  unfold inD
  cases bitZ d 1 <;> cases bitZ d 2 <;> cases bitZ d 4 <;> cases bitZ d 8 <;> simp [and_assoc]
 rw [hd]
 constructor
 ·rintro ⟨h1, h2, h3, h4⟩
  obtain ⟨e, he⟩ := fb_has h
  obtain ⟨e1, e2, e3, e4⟩ := inB_iff.1 he
  refine ⟨⟨if bitZ d 1 = true then c.k else e.k, if bitZ d 2 = true then c.r else e.r, if bitZ d 4 = true then c.m else e.m, if bitZ d 8 = true then c.s else e.s⟩, inB_iff.2 ⟨?_, ?_, ?_, ?_⟩, agD_iff.2 ⟨fun h => if_pos h, fun h => if_pos h, fun h => if_pos h, fun h => if_pos h⟩⟩
  ·show kindB y.k (if bitZ d 1 = true then c.k else e.k) = true
   split
   ·exact h1 ‹_›
   ·exact e1
  ·show hasF y.r (if bitZ d 2 = true then c.r else e.r) = true
   split
   ·exact h2 ‹_›
   ·exact e2
  ·show (if bitZ d 4 = true then c.m else e.m) ∈ y.m
   split
   ·exact h3 ‹_›
   ·exact e3
  ·show hasF y.s (if bitZ d 8 = true then c.s else e.s) = true
   split
   ·exact h4 ‹_›
   ·exact e4
 ·rintro ⟨e, he, ha⟩
  obtain ⟨e1, e2, e3, e4⟩ := inB_iff.1 he
  obtain ⟨a1, a2, a3, a4⟩ := agD_iff.1 ha
  exact ⟨fun h => a1 h ▸ e1, fun h => a2 h ▸ e2, fun h => a3 h ▸ e3, fun h => a4 h ▸ e4⟩
theorem prod_reach {d : Int} {a b r : List Bx} (ha : FL a) (hb : FL b) (h : prodF d a b = some r) (c : Ch) : hasL r c = true ↔ hasL a c = true ∧ ∃ e, hasL b e = true ∧ agD d e c = true := by
 rw [prod_has ha hb h, ha.has]
 constructor
 ·rintro ⟨x, hx, y, hy, h1, h2⟩
  obtain ⟨e, e1, e2⟩ := (inD_iff (hb.1 y hy)).1 h2
  exact ⟨⟨x, hx, h1⟩, e, hb.has e |>.2 ⟨y, hy, e1⟩, e2⟩
 ·rintro ⟨⟨x, hx, h1⟩, e, he, ha2⟩
  obtain ⟨y, hy, e1⟩ := (hb.has e).1 he
  exact ⟨x, hx, y, hy, h1, (inD_iff (hb.1 y hy)).2 ⟨e, e1, ha2⟩⟩
/-- Which choices are reached at port i. -/
def Rch (l : List Pt) : Nat → Ch → Prop
 | 0, c => hasL (l.getD 0 noPt).b c = true
 | i + 1, c => hasL (l.getD (i + 1) noPt).b c = true ∧ ∃ e, Rch l i e ∧ agD (keptD (l.getD i noPt)) e c = true
theorem fl_has {a : List Bx} (ha : FL a) : (∃ c, hasL a c = true) ↔ a ≠ [] := by
 constructor
 ·rintro ⟨c, h⟩ rfl
  obtain ⟨b, hb, -⟩ := (FL.has ⟨by simp, by simp⟩ c).1 h
  cases hb
 ·intro h
  obtain ⟨x, hx⟩ := List.exists_mem_of_ne_nil a h
  obtain ⟨c, hc⟩ := fb_has (ha.1 x hx)
  exact ⟨c, (ha.has c).2 ⟨x, hx, hc⟩⟩
/-- A product that reached no limit. -/
theorem prodF_cases {d : Int} {a b : List Bx} (ha : FL a) (hb : FL b) : productF d a b = ([], 3) ∨ ((productF d a b).2 = 0 ∧ FL (productF d a b).1 ∧ ∀ c, hasL (productF d a b).1 c = true ↔ hasL a c = true ∧ ∃ e, hasL b e = true ∧ agD d e c = true) := by
 unfold productF
 cases h : prodF d a b with
 | none => exact .inl rfl
 | some r =>
  right
  have hf := prod_fine ha hb h
  have e : reduceF r = (reduceL r, 0) := if_pos hf.valid
  show (reduceF r).2 = 0 ∧ FL (reduceF r).1 ∧ _
  rw [e]
  refine ⟨rfl, hf.reduce, fun c => ?_⟩
  show hasL (reduceF r).1 c = true ↔ _
  rw [e]
  show hasL (reduceL r) c = true ↔ _
  rw [has_reduce hf]
  exact prod_reach ha hb h c
theorem fl_port {p : Pt} (h : portOk p = true) (hk : ∀ b ∈ p.b, I64 b.k) : FL p.b := by
 unfold portOk at h
 simp only [Bool.and_eq_true, decide_eq_true_eq] at h
 exact FL.of_valid h.1.1.2 hk
theorem kept_fin : ∀ v : Fin 16, ∃ d : Fin 16, bits .andNot .i64 15 (v.val : Int) = (d.val : Int) := by decide +kernel
theorem kept_nat {p : Pt} (h : portOk p = true) : ∃ d : Fin 16, keptD p = (d.val : Int) := by
 unfold portOk at h
 simp only [Bool.and_eq_true, decide_eq_true_eq] at h
 obtain ⟨d, hd⟩ := kept_fin ⟨p.v.toNat, by omega⟩
 refine ⟨d, ?_⟩
 unfold keptD
 have : p.v = ((p.v.toNat : Nat) : Int) := by omega
 rw [this]
 exact hd
/-- What holds of Forward up to a port: all is well, and what is reached is reached; or it has stopped. -/
theorem fw_is {l : List Pt} (hv : ∀ p ∈ l, portOk p = true) (hk : ∀ p ∈ l, ∀ b ∈ p.b, I64 b.k) : ∀ n, n ≤ l.length →
 ((fwUp l n).2 = ((0, 0), 0) ∧ (fwUp l n).1.length = n ∧ ∀ i, i < n → FL ((fwUp l n).1.getD i []) ∧ (fwUp l n).1.getD i [] ≠ [] ∧ ∀ c, hasL ((fwUp l n).1.getD i []) c = true ↔ Rch l i c) ∨
 fwUp l n = ([], (0, 0), 3) ∨
 ∃ (k : Nat) (d : Int), k < n ∧ fwUp l n = ([], ((k : Int), d), 13) ∧ (fwUp l k).2.2 = 0 ∧ ∀ c, ¬ Rch l k c := by
 intro n
 induction n with
 | zero => exact fun _ => .inl ⟨rfl, rfl, fun i hi => absurd hi (by omega)⟩
 | succ n ih =>
  intro hn
  obtain ⟨p, hp⟩ : ∃ p, l[n]? = some p := ⟨_, List.getElem?_eq_getElem (by omega)⟩
  have hpm := List.mem_of_getElem? hp
  have hpd : l.getD n noPt = p := by rw [List.getD_eq_getElem?_getD, hp]; rfl
  have hfp := fl_port (hv p hpm) (hk p hpm)
  rcases ih (by omega) with ⟨h1, h2, h3⟩ | h1 | ⟨k, d, h1, h2, h3, h4⟩
  ·have e := fw_next hp (by rw [h1])
   generalize hs : fwUp l n = s at *
   by_cases hb : p.b.length = 0
   ·right; right
    refine ⟨n, 15, by omega, by rw [e]; unfold fwStep; rw [if_pos hb], by rw [hs, h1], fun c hc => ?_⟩
    have hc : hasL p.b c = true := by
     cases n with
     | zero => exact hpd ▸ hc
     | succ m => exact hpd ▸ hc.1
    rw [List.eq_nil_of_length_eq_zero hb] at hc
    obtain ⟨b, hb, -⟩ := (FL.has ⟨by simp, by simp⟩ c).1 hc
    cases hb
   ·cases n with
    | zero =>
     left
     have es : s = ([], (0, 0), 0) := hs.symm
     have e2 : fwUp l (0 + 1) = ([(reduceF p.b).1], (0, 0), 0) := by
      rw [e]
      unfold fwStep
      rw [if_neg hb, if_pos rfl, es]
      rfl
     have er : reduceF p.b = (reduceL p.b, 0) := if_pos hfp.valid
     rw [e2]
     refine ⟨rfl, rfl, fun i hi => ?_⟩
     obtain rfl : i = 0 := by omega
     show FL (reduceF p.b).1 ∧ (reduceF p.b).1 ≠ [] ∧ ∀ c, hasL (reduceF p.b).1 c = true ↔ Rch l 0 c
     rw [er]
     refine ⟨hfp.reduce, fun h => hb (by rw [reduce_nil.1 h]; rfl), fun c => ?_⟩
     rw [has_reduce hfp]
     show _ ↔ hasL (l.getD 0 noPt).b c = true
     rw [hpd]
    | succ m =>
     obtain ⟨g1, g2, g3⟩ := h3 m (by omega)
     have hr : ∀ c, Rch l (m + 1) c ↔ hasL p.b c = true ∧ ∃ e, hasL (s.1.getD m []) e = true ∧ agD (keptD (l.getD m noPt)) e c = true := by
      intro c
      show (hasL (l.getD (m + 1) noPt).b c = true ∧ ∃ e, Rch l m e ∧ agD (keptD (l.getD m noPt)) e c = true) ↔ _
      rw [hpd]
      exact ⟨fun ⟨a1, q, a2, a3⟩ => ⟨a1, q, (g3 q).2 a2, a3⟩, fun ⟨a1, q, a2, a3⟩ => ⟨a1, q, (g3 q).1 a2, a3⟩⟩
     have es : fwUp l (m + 1 + 1) = if (productF (keptD (l.getD m noPt)) p.b (s.1.getD m [])).2 ≠ 0 then ([], (0, 0), (productF (keptD (l.getD m noPt)) p.b (s.1.getD m [])).2)
      else if (productF (keptD (l.getD m noPt)) p.b (s.1.getD m [])).1.length = 0 then ([], (((m + 1 : Nat) : Int), apartD (keptD (l.getD m noPt)) p.b (s.1.getD m [])), 13)
      else (s.1 ++ [(productF (keptD (l.getD m noPt)) p.b (s.1.getD m [])).1], (0, 0), 0) := by
      rw [e]
      unfold fwStep
      rw [if_neg hb, if_neg (by omega)]
      rfl
     rcases prodF_cases (d := keptD (l.getD m noPt)) hfp g1 with hq | ⟨q1, q2, q3⟩
     ·right; left
      rw [es, hq]
      rfl
     ·rw [if_neg (by rw [q1]; simp)] at es
      by_cases hq : (productF (keptD (l.getD m noPt)) p.b (s.1.getD m [])).1.length = 0
      ·right; right
       rw [if_pos hq] at es
       refine ⟨m + 1, _, by omega, es, by rw [hs, h1], fun c hc => ?_⟩
       have := (q3 c).2 ((hr c).1 hc)
       rw [List.eq_nil_of_length_eq_zero hq] at this
       obtain ⟨b, hb, -⟩ := (FL.has ⟨by simp, by simp⟩ c).1 this
       cases hb
      ·left
       rw [if_neg hq] at es
       rw [es]
       generalize (productF (keptD (l.getD m noPt)) p.b (s.1.getD m [])).1 = Q at *
       refine ⟨rfl, by show (s.1 ++ [Q]).length = _; rw [List.length_append, h2]; rfl, fun i hi => ?_⟩
       show FL ((s.1 ++ [Q]).getD i []) ∧ (s.1 ++ [Q]).getD i [] ≠ [] ∧ ∀ c, hasL ((s.1 ++ [Q]).getD i []) c = true ↔ Rch l i c
       by_cases him : i = m + 1
       ·subst him
        have eg : ∀ z : List Bx, (s.1 ++ [z]).getD (m + 1) [] = z := fun z => by
         rw [List.getD_eq_getElem?_getD, List.getElem?_append_right (by omega), h2, Nat.sub_self]
         rfl
        rw [eg]
        exact ⟨q2, fun h => hq (by rw [h]; rfl), fun c => (q3 c).trans (hr c).symm⟩
       ·have eg : ∀ z : List Bx, (s.1 ++ [z]).getD i [] = s.1.getD i [] := fun z => by
         rw [List.getD_eq_getElem?_getD, List.getElem?_append_left (by omega), ← List.getD_eq_getElem?_getD]
        rw [eg]
        exact h3 i (by omega)
  ·right; left
   rw [fw_stop (by rw [h1]; simp) (n + 1) (by omega), h1]
  ·right; right
   exact ⟨k, d, by omega, by rw [fw_stop (by rw [h2]; simp) (n + 1) (by omega), h2], h3, h4⟩
end Go.Proofs.YtjbkjgmcfommgaaGreat

namespace Go.Proofs.YtjbkjgmcfommgaaGreat
open Go.RowKit
/-- A slice of ports. -/
def Pts (w : World) (ok : Nat → Prop) (A : Option Addr) (l : List Pt) : Prop :=
 ∃ vs : List Value, RdB w ok 2 A l.length vs ∧ ∀ (i : Nat) (p : Pt), l[i]? = some p → ∃ B c, Bxs w ok B p.b ∧ p.b.length ≤ c ∧ vs[i * 2]? = some (.slice B p.b.length c) ∧ vs[i * 2 + 1]? = some (.int .i64 p.v)
section
variable {w w' wr : World} {ok : Nat → Prop} {A : Option Addr} {l : List Pt}
theorem Pts.nil : Pts w ok none [] := ⟨[], RdB.nil, fun i x h => by simp at h⟩
theorem Pts.grows (h : Pts w ok A l) (hg : Grows w w') : Pts w' ok A l := by
 obtain ⟨vs, h1, h2⟩ := h
 exact ⟨vs, h1.grows hg, fun i p hp => by obtain ⟨B, c, hb, r⟩ := h2 i p hp; exact ⟨B, c, hb.grows hg, r⟩⟩
theorem Pts.mono {b2 : Nat → Prop} (h : Pts w ok A l) (hb : ∀ k, ok k → b2 k) : Pts w b2 A l := by
 obtain ⟨vs, h1, h2⟩ := h
 exact ⟨vs, h1.mono hb, fun i p hp => by obtain ⟨B, c, hx, r⟩ := h2 i p hp; exact ⟨B, c, hx.mono hb, r⟩⟩
theorem Pts.grown (h : Pts w ok A l) {row : Option Nat} (hg : w.grownBy w' row) (hr : ∀ g, row = some g → ¬ ok g) : Pts w' ok A l := by
 obtain ⟨vs, h1, h2⟩ := h
 exact ⟨vs, h1.grown hg hr, fun i p hp => by obtain ⟨B, c, hx, r⟩ := h2 i p hp; exact ⟨B, c, hx.grown hg hr, r⟩⟩
theorem Pts.under (h : Pts w ok A l) : Pts w (Under w.heap.size) A l := by
 obtain ⟨vs, h1, h2⟩ := h
 exact ⟨vs, h1.under, fun i p hp => by obtain ⟨B, c, hx, r⟩ := h2 i p hp; exact ⟨B, c, hx.under, r⟩⟩
theorem Pts.bd (h : Pts w ok A l) : Pts w (Bd ok w.heap.size) A l := by
 obtain ⟨vs, h1, h2⟩ := h
 exact ⟨vs, h1.bd, fun i p hp => by obtain ⟨B, c, hx, r⟩ := h2 i p hp; exact ⟨B, c, hx.bd, r⟩⟩
/-- The first ones of a slice of ports. -/
theorem Pts.take (h : Pts w ok A l) {k : Nat} (hk : k ≤ l.length) : Pts w ok A (l.take k) := by
 obtain ⟨vs, h1, h2⟩ := h
 have e : (l.take k).length = k := by rw [List.length_take]; omega
 obtain ⟨⟨hlen, hr⟩, hlo⟩ := h1
 have hk2 : RdB w ok 2 A k (vs.take (k * 2)) := ⟨⟨by rw [List.length_take]; omega, fun hk0 => by
  obtain ⟨ad, e, lt, hc⟩ := hr (by omega)
  exact ⟨ad, e, lt, fun j u hu => hc j u (by
   rw [List.getElem?_take] at hu
   split at hu
   ·exact hu
   ·cases hu)⟩⟩, fun hk0 ad e => hlo (by omega) ad e⟩
 refine ⟨vs.take (k * 2), by rw [e]; exact hk2, fun i p hp => ?_⟩
 have hik : i < k := by have := (List.getElem?_eq_some_iff.1 hp).1; omega
 rw [List.getElem?_take_of_lt hik] at hp
 obtain ⟨B, c, hb, hc, r1, r2⟩ := h2 i p hp
 exact ⟨B, c, hb, hc, by rw [List.getElem?_take_of_lt (by omega)]; exact r1, by rw [List.getElem?_take_of_lt (by omega)]; exact r2⟩
theorem Pts.elem (h : Pts w ok A l) (hB : Grows w wr) {k : Nat} (hk : k < l.length) : ∃ ad p B c, A = some ad ∧ ad.block < wr.heap.size ∧ l[k]? = some p ∧ Bxs w ok B p.b ∧ p.b.length ≤ c ∧ wr.cell? (ad.add (k * 2)) = some (.slice B p.b.length c) ∧ wr.cell? { block := (ad.add (k * 2)).block, off := (ad.add (k * 2)).off + 1 } = some (.int .i64 p.v) := by
 obtain ⟨vs, h1, h2⟩ := h
 obtain ⟨ad, e, hb, hc⟩ := (Reads.grows h1.1 hB).2 (by omega)
 have hx := List.getElem?_eq_getElem hk
 obtain ⟨B, c, hx2, hc2, r1, r2⟩ := h2 k _ hx
 refine ⟨ad, _, B, c, e, hb, hx, hx2, hc2, hc _ _ r1, ?_⟩
 have := hc _ _ r2
 have e2 : ad.add (k * 2 + 1) = { block := (ad.add (k * 2)).block, off := (ad.add (k * 2)).off + 1 } := by
  rw [← add_of_add]
  generalize ad.add (k * 2) = q
  unfold Addr.add
  rw [if_neg (by omega)]
 rwa [e2] at this
end
end Go.Proofs.YtjbkjgmcfommgaaGreat

namespace Go.Proofs.YtjbkjgmcfommgaaGreat
open Go.RowKit
end Go.Proofs.YtjbkjgmcfommgaaGreat


namespace Go.Proofs.YtjbkjgmcfommgaaGreat
open Go.RowKit
def Dk (n : Nat) (ba : Nat → Prop) : Nat → Prop := fun k => (ba k ∧ k < n) ∨ n + 4 ≤ k
set_option maxHeartbeats 64000000 in
set_option maxRecDepth 10000 in
theorem rdims_any {ba bb : Nat → Prop} {a b : Bx} {A1 A2 A3 B1 B2 B3 : Option Addr} {c1 c2 c3 d1 d2 d3 : Nat} {w : World} (hpa : BoxP w ba a A1 c1 A2 c2 A3 c3) (hpb : BoxP w bb b B1 d1 B2 d2 B3 d3) (hla : OKB a) (hlb : OKB b) (d : Int) :
    Calls Tryz.prog 41 #[.agg #[.int .i64 a.k, .slice A1 a.r.length c1, .slice A2 a.m.length c2, .slice A3 a.s.length c3], .agg #[.int .i64 b.k, .slice B1 b.r.length d1, .slice B2 b.m.length d2, .slice B3 b.s.length d3], .int .i64 d] w fun e w' => (∃ v, e = .returned (.tuple #[v, .bool (someB (dimsF d a b)), .bool (manyB d (dimsF d a b))]) ∧ BoxV w' (Dk w.heap.size ba) (dimsF d a b) v) ∧ Grows w w' := by
  obtain ⟨har, has_, ham, hax⟩ := hla
  obtain ⟨hbr, hbs, hbm, hbx⟩ := hlb
  have HAX := Lib.hid hax
  have HBX := Lib.hid hbx
  clear hax hbx
  have ka := ((Blk.new w 61 #[.int .i64 a.k, .slice A1 a.r.length c1, .slice A2 a.m.length c2, .slice A3 a.s.length c3]).alloc (Obj.cells #[.int .i64 b.k, .slice B1 b.r.length d1, .slice B2 b.m.length d2, .slice B3 b.s.length d3] 61)).alloc (Obj.cells #[.int .i64 0, .slice none 0 0, .slice none 0 0, .slice none 0 0] 61)
  have kb := (blk_new_at (X := w.alloc (Obj.cells #[.int .i64 a.k, .slice A1 a.r.length c1, .slice A2 a.m.length c2, .slice A3 a.s.length c3] 61)) (n := w.heap.size + 1) (t := 61) (cs := #[.int .i64 b.k, .slice B1 b.r.length d1, .slice B2 b.m.length d2, .slice B3 b.s.length d3]) (by simp)).alloc (Obj.cells #[.int .i64 0, .slice none 0 0, .slice none 0 0, .slice none 0 0] 61)
  have k4 := blk_new_at (X := (w.alloc (Obj.cells #[.int .i64 a.k, .slice A1 a.r.length c1, .slice A2 a.m.length c2, .slice A3 a.s.length c3] 61)).alloc (Obj.cells #[.int .i64 b.k, .slice B1 b.r.length d1, .slice B2 b.m.length d2, .slice B3 b.s.length d3] 61)) (n := w.heap.size + 2) (t := 61) (cs := #[.int .i64 0, .slice none 0 0, .slice none 0 0, .slice none 0 0]) (by simp)
  have hB := (((Below.refl w.heap.size w).alloc (Nat.le_refl _) (Obj.cells #[.int .i64 a.k, .slice A1 a.r.length c1, .slice A2 a.m.length c2, .slice A3 a.s.length c3] 61)).alloc (by simp) (Obj.cells #[.int .i64 b.k, .slice B1 b.r.length d1, .slice B2 b.m.length d2, .slice B3 b.s.length d3] 61)).alloc (by simp; omega) (Obj.cells #[.int .i64 0, .slice none 0 0, .slice none 0 0, .slice none 0 0] 61)
  have hs3 : (((w.alloc (Obj.cells #[.int .i64 a.k, .slice A1 a.r.length c1, .slice A2 a.m.length c2, .slice A3 a.s.length c3] 61)).alloc (Obj.cells #[.int .i64 b.k, .slice B1 b.r.length d1, .slice B2 b.m.length d2, .slice B3 b.s.length d3] 61)).alloc (Obj.cells #[.int .i64 0, .slice none 0 0, .slice none 0 0, .slice none 0 0] 61)).heap.size = w.heap.size + 3 := by simp
  have HK : Hid ((dimsF d a b).k = if bitZ d 1 = true then bits .and .i64 a.k b.k else a.k) := Lib.hid rfl
  have HR : Hid ((dimsF d a b).r = if bitZ d 2 = true then interF (spansF a.r) (spansF b.r) else a.r) := Lib.hid rfl
  have HM : Hid ((dimsF d a b).m = if bitZ d 4 = true then a.m.filter (fun x => decide (x ∈ b.m)) else a.m) := Lib.hid rfl
  have HZ : Hid ((dimsF d a b).s = if bitZ d 8 = true then interF (spansF a.s) (spansF b.s) else a.s) := Lib.hid rfl
  have HSB : Hid (someB (dimsF d a b) = (((dimsF d a b).k != 0) && decide (0 < (dimsF d a b).m.length) && decide (0 < (dimsF d a b).r.length) && decide (0 < (dimsF d a b).s.length))) := Lib.hid rfl
  have HMB : Hid (manyB d (dimsF d a b) = ((bitZ d 2 && decide (64 < (dimsF d a b).r.length)) || (bitZ d 8 && decide (64 < (dimsF d a b).s.length)))) := Lib.hid rfl
  generalize dimsF d a b = z at *
  go_enter Tryz.func41, Tryz.ntmps41
  go_upto_region 1 with fail
  generalize World.alloc (World.alloc (World.alloc w _) _) _ = w1 at *
  have xa := ka.cell
  have k9 := Blk.new w1 61 #[.int .i64 a.k, .slice A1 a.r.length c1, .slice A2 a.m.length c2, .slice A3 a.s.length c3]
  rw [hs3] at k9
  have hq := (Below.refl w1.heap.size w1).alloc (Nat.le_refl _) (Obj.cells #[.int .i64 a.k, .slice A1 a.r.length c1, .slice A2 a.m.length c2, .slice A3 a.s.length c3] 61)
  go_upto_region 2 with fail
  try rw [hs3]
  replace hB := below_grows hB (Nat.le_refl _) hq
  replace ka := ka.grows hq
  replace kb := kb.grows hq
  replace k4 := k4.grows hq
  clear hq xa hs3
  generalize World.alloc w1 _ = w2 at *
  generalize hq9 : w.heap.size + 3 = q9 at *
  go_upto_if 16 with fail
  go_cut [] (fun wx => (Below w.heap.size w wx ∧ Blk wx w.heap.size 61 #[.int .i64 a.k, .slice A1 a.r.length c1, .slice A2 a.m.length c2, .slice A3 a.s.length c3] ∧ Blk wx (w.heap.size + 1) 61 #[.int .i64 b.k, .slice B1 b.r.length d1, .slice B2 b.m.length d2, .slice B3 b.s.length d3] ∧ Blk wx (w.heap.size + 2) 61 #[.int .i64 0, .slice none 0 0, .slice none 0 0, .slice none 0 0]) ∧ Blk wx q9 61 #[.int .i64 z.k, .slice A1 a.r.length c1, .slice A2 a.m.length c2, .slice A3 a.s.length c3])
  case first =>
    cases hb : bitZ d 1
    · have e1 : (bits .and .i64 d 1 != 0) = false := hb
      have HE : Hid (z.k = a.k) := Lib.hid (by rw [HK.out, hb]; rfl)
      clear hb
      go_wp2
      go_meet
      exact ⟨⟨hB, ka, kb, k4⟩, by rw [HE.out]; exact k9⟩
    · have e1 : (bits .and .i64 d 1 != 0) = true := hb
      have HE : Hid (z.k = bits .and .i64 a.k b.k) := Lib.hid (by rw [HK.out, hb]; rfl)
      clear hb
      have xa := ka.cell
      have xb := kb.cell
      have x9 := k9.cell
      have f9 := k9.frozen
      go_wp2
      go_meet
      exact ⟨⟨hB.setCell (p := ⟨q9, 0, none⟩) (show w.heap.size ≤ q9 by omega) _, ka.far (p := ⟨q9, 0, none⟩) (show w.heap.size ≠ q9 by omega) _, kb.far (p := ⟨q9, 0, none⟩) (show w.heap.size + 1 ≠ q9 by omega) _, k4.far (p := ⟨q9, 0, none⟩) (show w.heap.size + 2 ≠ q9 by omega) _⟩, by rw [HE.out]; exact k9.set_ 0 _⟩
  case rest =>
  obtain ⟨⟨hB2, ka2, kb2, k42⟩, k92⟩ := hcut
  clear hB ka kb k4 k9
  have hB := hB2
  have ka := ka2
  have kb := kb2
  have k4 := k42
  have k9 := k92
  clear hB2 ka2 kb2 k42 k92
  generalize wc = w3 at *
  have hpm : MapsR w (Dk w.heap.size ba) A2 a.m := hpa.m.bd.mono (fun k hk => Or.inl hk)
  have hpr : RdB w (Dk w.heap.size ba) 2 A1 a.r.length (scells a.r) := RdB.mono (RdB.bd hpa.r) (fun k hk => Or.inl hk)
  have hps : RdB w (Dk w.heap.size ba) 2 A3 a.s.length (scells a.s) := RdB.mono (RdB.bd hpa.s) (fun k hk => Or.inl hk)
  go_upto_if 25 with fail
  go_cut [] (fun wx => (Below w.heap.size w wx ∧ Blk wx w.heap.size 61 #[.int .i64 a.k, .slice A1 a.r.length c1, .slice A2 a.m.length c2, .slice A3 a.s.length c3] ∧ Blk wx (w.heap.size + 1) 61 #[.int .i64 b.k, .slice B1 b.r.length d1, .slice B2 b.m.length d2, .slice B3 b.s.length d3] ∧ Blk wx (w.heap.size + 2) 61 #[.int .i64 0, .slice none 0 0, .slice none 0 0, .slice none 0 0]) ∧ ∃ (A6 : Option Addr) (c6 : Nat), Blk wx q9 61 #[.int .i64 z.k, .slice A1 a.r.length c1, .slice A6 z.m.length c6, .slice A3 a.s.length c3] ∧ z.m.length ≤ c6 ∧ MapsR wx (Dk w.heap.size ba) A6 z.m)
  case first =>
    cases hb : bitZ d 4
    · have e1 : (bits .and .i64 d 4 != 0) = false := hb
      have HE : Hid (z.m = a.m) := Lib.hid (by rw [HM.out, hb]; rfl)
      clear hb
      go_wp2
      go_meet
      exact ⟨⟨hB, ka, kb, k4⟩, A2, c2, by rw [HE.out]; exact k9, by rw [HE.out]; exact hpa.cm, by rw [HE.out]; exact hpm.grows hB⟩
    · have e1 : (bits .and .i64 d 4 != 0) = true := hb
      rw [e1]
      have HE : Hid (z.m = a.m.filter (fun x => decide (x ∈ b.m))) := Lib.hid (by rw [HM.out, hb]; rfl)
      clear hb
      have x9 := k9.cell
      have f9 := k9.frozen
      go_upto_region 6 with fail
      replace hB := hB.setCell (p := ⟨q9, 2, none⟩) (show w.heap.size ≤ q9 by omega) (.slice none 0 0)
      replace ka := ka.far (p := ⟨q9, 2, none⟩) (show w.heap.size ≠ q9 by omega) (.slice none 0 0)
      replace kb := kb.far (p := ⟨q9, 2, none⟩) (show w.heap.size + 1 ≠ q9 by omega) (.slice none 0 0)
      replace k4 := k4.far (p := ⟨q9, 2, none⟩) (show w.heap.size + 2 ≠ q9 by omega) (.slice none 0 0)
      have k9n := k9.set_ 2 (.slice none 0 0)
      clear x9 f9 k9
      generalize World.setCell w3 _ _ = w4 at *
      have k9 : Blk w4 q9 61 #[.int .i64 z.k, .slice A1 a.r.length c1, .slice none 0 0, .slice A3 a.s.length c3] := k9n
      clear k9n
      obtain ⟨b2, hb2⟩ : ∃ b2, b2 = w4.heap.size := ⟨_, rfl⟩
      have hb3 : b2 ≤ w4.heap.size := by omega
      have hl9 : q9 < b2 := by have := k9.lt; omega
      clear hb2
      have xa := ka.cell
      go_wp2_with fail
      clear xa
      go_loopw [30] (fun i wr => ∃ (k : Nat) (V : Value), k ≤ a.m.length ∧ i = .int .i64 k ∧ b2 ≤ wr.heap.size ∧ OwnMq wr b2 (Bd ba w.heap.size) V ((a.m.take k).filter fun x => decide (x ∈ b.m)) ∧ (Below w.heap.size w wr ∧ Blk wr w.heap.size 61 #[.int .i64 a.k, .slice A1 a.r.length c1, .slice A2 a.m.length c2, .slice A3 a.s.length c3] ∧ Blk wr (w.heap.size + 1) 61 #[.int .i64 b.k, .slice B1 b.r.length d1, .slice B2 b.m.length d2, .slice B3 b.s.length d3] ∧ Blk wr (w.heap.size + 2) 61 #[.int .i64 0, .slice none 0 0, .slice none 0 0, .slice none 0 0]) ∧ Blk wr q9 61 #[.int .i64 z.k, .slice A1 a.r.length c1, V, .slice A3 a.s.length c3]) (fun i _ => a.m.length - (intOf i).toNat)
      case atStart => exact ⟨0, _, by omega, rfl, hb3, OwnMq.nil, ⟨hB, ka, kb, k4⟩, k9⟩
      case round =>
        clear ka kb k4 k9 hB hb3
        obtain ⟨k, V, hk, rfl, hb3, ho, ⟨hB, ka, kb, k4⟩, k9⟩ := hrel
        obtain ⟨A2', c2', rfl, hc2', -⟩ := ho.read
        by_cases hlt : k < a.m.length
        · obtain ⟨ad, x, B0, cm, ea, had, hx, q0, hcm, hix⟩ := hpa.m.bd.elem hlt
          replace q0 := (hB.cell (p := ad.add k) (by rw [block_of_add]; exact had)).trans q0
          subst ea
          have HX := Lib.hid (filter_next (p := fun x => decide (x ∈ b.m)) hx)
          have hxl : x.length ≤ 1000000 := HAX.out x (List.mem_of_getElem? hx)
          have hkl : ((a.m.take k).filter fun x => decide (x ∈ b.m)).length + 1 ≤ 1000000 := by
            have := List.length_filter_le (fun x => decide (x ∈ b.m)) (a.m.take k)
            rw [List.length_take] at this
            omega
          clear hx
          generalize ((a.m.take k).filter fun x => decide (x ∈ b.m)) = ms at *
          have xb := kb.cell
          go_wp2_with fail
          refine (rhas_any B2 B0 d2 cm b.m x _ rfl (hpb.m.grows hB) hbm HBX.out (hix.ints.grows hB) hxl).mono ?_
          by_cases h5 : x ∈ b.m
          case neg =>
            have HT : Hid ((a.m.take (k + 1)).filter (fun x => decide (x ∈ b.m)) = ms) := Lib.hid (by rw [HX.out, decide_eq_false h5, if_neg (by decide), List.append_nil])
            rw [decide_eq_false h5]
            clear h5 HX
            rintro e w5 ⟨rfl, hg⟩
            replace hB := below_grows hB (Nat.le_refl _) hg
            replace ka := ka.grows hg
            replace kb := kb.grows hg
            replace k4 := k4.grows hg
            replace k9 := k9.grows hg
            replace ho := ho.grows hg
            replace hb3 := Nat.le_trans hb3 hg.size
            clear hg xb q0
            go_wp2
            go_roundw
            case rel => exact ⟨k + 1, _, by omega, by go_num, hb3, by rw [HT.out]; exact ho, ⟨hB, ka, kb, k4⟩, k9⟩
            case measure => simp [intOf]; omega
          have HT : Hid ((a.m.take (k + 1)).filter (fun x => decide (x ∈ b.m)) = ms ++ [x]) := Lib.hid (by rw [HX.out, decide_eq_true h5, if_pos rfl])
          rw [decide_eq_true h5]
          clear h5 HX
          rintro e w5 ⟨rfl, hg⟩
          replace hB := below_grows hB (Nat.le_refl _) hg
          replace ka := ka.grows hg
          replace kb := kb.grows hg
          replace k4 := k4.grows hg
          replace k9 := k9.grows hg
          replace ho := ho.grows hg
          replace hb3 := Nat.le_trans hb3 hg.size
          clear hg xb q0
          have x9 := k9.cell
          go_upto_region 10 with fail
          refine wp_region_lit ?_
          iterate 4
            refine wpList_plain rfl (fun K hK => ?_)
            go_simp
            refine hK _ _ ?_
            clear hK K
          have hk0 := Blk.new w5 38 #[.slice B0 x.length cm]
          have hq := (Below.refl w5.heap.size w5).alloc (Nat.le_refl _) (Obj.cells #[.slice B0 x.length cm] 38)
          have hrd : Reads (w5.alloc (Obj.cells #[.slice B0 x.length cm] 38)) (w5.alloc (Obj.cells #[.slice B0 x.length cm] 38)).heap.size 1 (some ⟨w5.heap.size, 0, none⟩) 1 [.slice B0 x.length cm] := ⟨rfl, fun _ => ⟨_, rfl, hk0.lt, fun j u hu => by rw [add_head, hk0.cell, ← Array.getElem?_toList]; exact hu⟩⟩
          replace hB := below_grows hB (Nat.le_refl _) hq
          replace ka := ka.grows hq
          replace kb := kb.grows hq
          replace k4 := k4.grows hq
          replace k9 := k9.grows hq
          replace ho := ho.grows hq
          replace hb3 := Nat.le_trans hb3 hq.size
          have hix2 := InB.grows hix hB
          have hol := ho.lt
          clear hq hk0 x9
          refine wpList_append_mapq rfl (.tmp 39) (.tmp 41) rfl rfl ho rfl hrd (by omega) hb3 hix2 hcm (fun ad e hl e2 => by have := (hol _ e2).1; have := (hix.2 hl ad e).2; omega) ?_
          intro v6 w6 ho2 hgr
          replace hB := hB.grown hgr hB.size (fun q e => by have := (hol q e).1; omega)
          replace ka := ka.grown hgr (fun e => by have := (hol _ e.symm).1; omega)
          replace kb := kb.grown hgr (fun e => by have := (hol _ e.symm).1; omega)
          replace k4 := k4.grown hgr (fun e => by have := (hol _ e.symm).1; omega)
          replace k9 := k9.grown hgr (fun e => by have := (hol _ e.symm).1; omega)
          replace hb3 := Nat.le_trans hb3 hgr.size
          clear hrd hgr ho hol hix2
          generalize ms ++ [x] = ms2 at *
          obtain ⟨A8, c8, rfl, hc8, -⟩ := ho2.read
          have y9 := k9.cell
          have f9 := k9.frozen
          replace hB := hB.setCell (p := ⟨q9, 2, none⟩) (show w.heap.size ≤ q9 by omega) (.slice A8 ms2.length c8)
          replace ka := ka.far (p := ⟨q9, 2, none⟩) (show w.heap.size ≠ q9 by omega) (.slice A8 ms2.length c8)
          replace kb := kb.far (p := ⟨q9, 2, none⟩) (show w.heap.size + 1 ≠ q9 by omega) (.slice A8 ms2.length c8)
          replace k4 := k4.far (p := ⟨q9, 2, none⟩) (show w.heap.size + 2 ≠ q9 by omega) (.slice A8 ms2.length c8)
          have k9n := k9.set_ 2 (.slice A8 ms2.length c8)
          have ho3 := ho2.only (d_only_set (World.grownBy.refl _ (some q9)) 2 (.slice A8 ms2.length c8)) (by omega) (by unfold Bd; omega)
          have hb4 : b2 ≤ (w6.setCell ⟨q9, 2, none⟩ (.slice A8 ms2.length c8)).heap.size := by simpa [World.setCell] using hb3
          clear k9 ho2 hb3
          go_wp2
          go_roundw
          case rel => exact ⟨k + 1, _, by omega, by go_num, hb4, by rw [HT.out]; exact ho3, ⟨hB, ka, kb, k4⟩, k9n⟩
          case measure => simp [intOf]; omega
        · rw [List.take_of_length_le (by omega)] at *
          obtain ⟨A9, c9, e9, hc9, hmr⟩ := ho.read
          injection e9 with e9 _ e10
          subst e9
          subst e10
          clear ho
          rw [← HE.out] at hc9 hmr k9
          go_wp2
          go_meet
          exact ⟨⟨hB, ka, kb, k4⟩, A2', c2', k9, hc9, hmr.mono (fun k hk => hk.elim (fun h => Or.inl h) (fun h => Or.inr (by omega)))⟩
  case rest =>
  obtain ⟨⟨hB2, ka2, kb2, k42⟩, A6, c6, k92, hc6, hmr⟩ := hcut
  clear hB ka kb k4 k9
  have hB := hB2
  have ka := ka2
  have kb := kb2
  have k4 := k42
  have k9 := k92
  clear hB2 ka2 kb2 k42 k92
  generalize wc = w4 at *
  go_upto_if 47 with fail
  go_cut [12] (fun v wx => v = .bool (bitZ d 2 && decide (64 < z.r.length)) ∧ (Below w.heap.size w wx ∧ Blk wx w.heap.size 61 #[.int .i64 a.k, .slice A1 a.r.length c1, .slice A2 a.m.length c2, .slice A3 a.s.length c3] ∧ Blk wx (w.heap.size + 1) 61 #[.int .i64 b.k, .slice B1 b.r.length d1, .slice B2 b.m.length d2, .slice B3 b.s.length d3] ∧ Blk wx (w.heap.size + 2) 61 #[.int .i64 0, .slice none 0 0, .slice none 0 0, .slice none 0 0]) ∧ ∃ (A5 : Option Addr) (c5 : Nat), Blk wx q9 61 #[.int .i64 z.k, .slice A5 z.r.length c5, .slice A6 z.m.length c6, .slice A3 a.s.length c3] ∧ z.r.length ≤ c5 ∧ RdB wx (Dk w.heap.size ba) 2 A5 z.r.length (scells z.r) ∧ MapsR wx (Dk w.heap.size ba) A6 z.m)
  case first =>
    cases hb : bitZ d 2
    · have e1 : (bits .and .i64 d 2 != 0) = false := hb
      have HE : Hid (z.r = a.r) := Lib.hid (by rw [HR.out, hb]; rfl)
      have HBB := Lib.hid hb
      clear hb
      go_wp2
      go_meet
      exact ⟨by rw [HBB.out]; rfl, ⟨hB, ka, kb, k4⟩, A1, c1, by rw [HE.out]; exact k9, by rw [HE.out]; exact hpa.cr, by rw [HE.out]; exact RdB.grows hpr hB, hmr⟩
    · have e1 : (bits .and .i64 d 2 != 0) = true := hb
      have HE : Hid (interF (spansF a.r) (spansF b.r) = z.r) := Lib.hid (by rw [HR.out, hb]; rfl)
      have HBB := Lib.hid hb
      clear hb
      have xa := ka.cell
      have xb := kb.cell
      go_wp2_with fail
      refine (all_any A1 c1 a.r B1 d1 b.r _ (hpa.r.grows hB).sps (by omega) (hpb.r.grows hB).sps (by omega)).mono ?_
      rw [HE.out]
      rintro e w5 ⟨⟨v, rfl, hown⟩, hq⟩
      obtain ⟨A5, c5, rfl, hc5, hr5⟩ := SpB.of_own hown
      have hl9 := k9.lt
      replace hr5 : RdB w5 (Dk w.heap.size ba) 2 A5 z.r.length (scells z.r) := RdB.mono hr5 (fun k hk => by unfold Ge at hk; unfold Dk; omega)
      replace hB := below_grows hB (Nat.le_refl _) hq
      replace ka := ka.grows hq
      replace kb := kb.grows hq
      replace k4 := k4.grows hq
      replace k9 := k9.grows hq
      replace hmr := hmr.grows hq
      clear hq hown xa xb hl9
      have x9 := k9.cell
      have f9 := k9.frozen
      go_upto_region 15 with fail
      replace hB := hB.setCell (p := ⟨q9, 1, none⟩) (show w.heap.size ≤ q9 by omega) (.slice A5 z.r.length c5)
      replace ka := ka.far (p := ⟨q9, 1, none⟩) (show w.heap.size ≠ q9 by omega) (.slice A5 z.r.length c5)
      replace kb := kb.far (p := ⟨q9, 1, none⟩) (show w.heap.size + 1 ≠ q9 by omega) (.slice A5 z.r.length c5)
      replace k4 := k4.far (p := ⟨q9, 1, none⟩) (show w.heap.size + 2 ≠ q9 by omega) (.slice A5 z.r.length c5)
      have k9n := k9.set_ 1 (.slice A5 z.r.length c5)
      have hch := d_only_set (World.grownBy.refl w5 (some q9)) 1 (.slice A5 z.r.length c5)
      replace hr5 := RdB.grown hr5 hch (fun q e hh => by injection e with e; unfold Dk at hh; omega)
      replace hmr := hmr.grown hch (fun q e hh => by injection e with e; unfold Dk at hh; omega)
      clear hch
      clear x9 f9 k9
      generalize World.setCell w5 _ _ = w6 at *
      have x9 : ∀ i, w6.cell? ⟨q9, i, none⟩ = #[.int .i64 z.k, .slice A5 z.r.length c5, .slice A6 z.m.length c6, .slice A3 a.s.length c3][i]? := k9n.cell
      go_wp2
      go_meet
      exact ⟨by rw [HBB.out, Bool.true_and]; exact congrArg Value.bool (by rw [Bool.eq_iff_iff, decide_eq_true_eq, decide_eq_true_eq]; omega), ⟨hB, ka, kb, k4⟩, A5, c5, k9n, hc5, hr5, hmr⟩
  case rest =>
  obtain ⟨rfl, ⟨hB2, ka2, kb2, k42⟩, A5, c5, k92, hc5, hr5, hmr2⟩ := hcut
  clear hB ka kb k4 k9 hmr
  have hB := hB2
  have ka := ka2
  have kb := kb2
  have k4 := k42
  have k9 := k92
  have hmr := hmr2
  clear hB2 ka2 kb2 k42 k92 hmr2
  generalize wc = w5 at *
  generalize hM1 : (bitZ d 2 && decide (64 < z.r.length)) = M1 at *
  have HM1 := Lib.hid hM1
  clear hM1
  go_upto_if 65 with fail
  go_cut [12] (fun v wx => v = .bool (manyB d z) ∧ (Below w.heap.size w wx ∧ Blk wx w.heap.size 61 #[.int .i64 a.k, .slice A1 a.r.length c1, .slice A2 a.m.length c2, .slice A3 a.s.length c3] ∧ Blk wx (w.heap.size + 1) 61 #[.int .i64 b.k, .slice B1 b.r.length d1, .slice B2 b.m.length d2, .slice B3 b.s.length d3] ∧ Blk wx (w.heap.size + 2) 61 #[.int .i64 0, .slice none 0 0, .slice none 0 0, .slice none 0 0]) ∧ ∃ (A7 : Option Addr) (c7 : Nat), Blk wx q9 61 #[.int .i64 z.k, .slice A5 z.r.length c5, .slice A6 z.m.length c6, .slice A7 z.s.length c7] ∧ z.s.length ≤ c7 ∧ RdB wx (Dk w.heap.size ba) 2 A7 z.s.length (scells z.s) ∧ RdB wx (Dk w.heap.size ba) 2 A5 z.r.length (scells z.r) ∧ MapsR wx (Dk w.heap.size ba) A6 z.m)
  case first =>
    cases hb : bitZ d 8
    · have e1 : (bits .and .i64 d 8 != 0) = false := hb
      have HE : Hid (z.s = a.s) := Lib.hid (by rw [HZ.out, hb]; rfl)
      have HBB := Lib.hid hb
      clear hb
      go_wp2
      go_meet
      exact ⟨by rw [HMB.out, HBB.out]; simp, ⟨hB, ka, kb, k4⟩, A3, c3, by rw [HE.out]; exact k9, by rw [HE.out]; exact hpa.cs, by rw [HE.out]; exact RdB.grows hps hB, hr5, hmr⟩
    · have e1 : (bits .and .i64 d 8 != 0) = true := hb
      have HE : Hid (interF (spansF a.s) (spansF b.s) = z.s) := Lib.hid (by rw [HZ.out, hb]; rfl)
      have HBB := Lib.hid hb
      clear hb
      have xa := ka.cell
      have xb := kb.cell
      go_wp2_with fail
      refine (all_any A3 c3 a.s B3 d3 b.s _ (hpa.s.grows hB).sps (by omega) (hpb.s.grows hB).sps (by omega)).mono ?_
      rw [HE.out]
      rintro e w6 ⟨⟨v, rfl, hown⟩, hq⟩
      obtain ⟨A7, c7, rfl, hc7, hr7⟩ := SpB.of_own hown
      have hl9 := k9.lt
      replace hr7 : RdB w6 (Dk w.heap.size ba) 2 A7 z.s.length (scells z.s) := RdB.mono hr7 (fun k hk => by unfold Ge at hk; unfold Dk; omega)
      replace hB := below_grows hB (Nat.le_refl _) hq
      replace ka := ka.grows hq
      replace kb := kb.grows hq
      replace k4 := k4.grows hq
      replace k9 := k9.grows hq
      replace hmr := hmr.grows hq
      replace hr5 := RdB.grows hr5 hq
      clear hq hown xa xb hl9
      have x9 := k9.cell
      have f9 := k9.frozen
      go_upto_region 18 with fail
      replace hB := hB.setCell (p := ⟨q9, 3, none⟩) (show w.heap.size ≤ q9 by omega) (.slice A7 z.s.length c7)
      replace ka := ka.far (p := ⟨q9, 3, none⟩) (show w.heap.size ≠ q9 by omega) (.slice A7 z.s.length c7)
      replace kb := kb.far (p := ⟨q9, 3, none⟩) (show w.heap.size + 1 ≠ q9 by omega) (.slice A7 z.s.length c7)
      replace k4 := k4.far (p := ⟨q9, 3, none⟩) (show w.heap.size + 2 ≠ q9 by omega) (.slice A7 z.s.length c7)
      have k9n := k9.set_ 3 (.slice A7 z.s.length c7)
      have hch := d_only_set (World.grownBy.refl w6 (some q9)) 3 (.slice A7 z.s.length c7)
      replace hr7 := RdB.grown hr7 hch (fun q e hh => by injection e with e; unfold Dk at hh; omega)
      replace hr5 := RdB.grown hr5 hch (fun q e hh => by injection e with e; unfold Dk at hh; omega)
      replace hmr := hmr.grown hch (fun q e hh => by injection e with e; unfold Dk at hh; omega)
      clear hch
      clear x9 f9 k9
      generalize World.setCell w6 _ _ = w7 at *
      have x9 : ∀ i, w7.cell? ⟨q9, i, none⟩ = #[.int .i64 z.k, .slice A5 z.r.length c5, .slice A6 z.m.length c6, .slice A7 z.s.length c7][i]? := k9n.cell
      have HMV : Hid (manyB d z = (M1 || decide (64 < z.s.length))) := Lib.hid (by rw [HMB.out, HBB.out, Bool.true_and])
      cases M1
      · have HMV2 : Hid (Value.bool (decide (64 < (z.s.length : Int))) = .bool (manyB d z)) := Lib.hid (by rw [HMV.out, Bool.false_or]; exact congrArg Value.bool (by rw [Bool.eq_iff_iff, decide_eq_true_eq, decide_eq_true_eq]; omega))
        go_wp2
        go_meet
        exact ⟨HMV2.out, ⟨hB, ka, kb, k4⟩, A7, c7, k9n, hc7, hr7, hr5, hmr⟩
      · have HMV2 : Hid (Value.bool true = .bool (manyB d z)) := Lib.hid (by rw [HMV.out]; rfl)
        go_wp2
        go_meet
        exact ⟨HMV2.out, ⟨hB, ka, kb, k4⟩, A7, c7, k9n, hc7, hr7, hr5, hmr⟩
  case rest =>
  obtain ⟨rfl, ⟨hB2, ka2, kb2, k42⟩, A7, c7, k92, hc7, hs7, hr52, hmr2⟩ := hcut
  clear hB ka kb k4 k9 hmr hr5
  have hB := hB2
  have k4 := k42
  have k9 := k92
  have hmr := hmr2
  have hr := hr52
  have hs := hs7
  clear hB2 ka2 kb2 k42 k92 hmr2 hr52 hs7
  generalize wc = w6 at *
  have HV := HSB.out
  have x9 := k9.cell
  have x4 := k4.cell
  have hf4 := k4.frozen
  have HRES : Hid (∀ w9 : World, RdB w9 (Dk w.heap.size ba) 2 A5 z.r.length (scells z.r) → RdB w9 (Dk w.heap.size ba) 2 A7 z.s.length (scells z.s) → MapsR w9 (Dk w.heap.size ba) A6 z.m → BoxV w9 (Dk w.heap.size ba) z (.agg #[.int .i64 z.k, .slice A5 z.r.length c5, .slice A6 z.m.length c6, .slice A7 z.s.length c7])) := Lib.hid (fun w9 yR yS yM => ⟨A5, c5, A6, c6, A7, c7, rfl, ⟨yR, yM, yS, hc5, hc6, hc7⟩⟩)
  have y0 := Blk.drew ((((k4.set_ 0 (.int .i64 z.k)).set_ 1 (.slice A5 z.r.length c5)).set_ 2 (.slice A6 z.m.length c6)).set_ 3 (.slice A7 z.s.length c7))
  have yB := below_grows ((((hB.setCell (p := ⟨w.heap.size + 2, 0, none⟩) (show w.heap.size ≤ w.heap.size + 2 by omega) (.int .i64 z.k)).setCell (p := ⟨w.heap.size + 2, 1, none⟩) (show w.heap.size ≤ w.heap.size + 2 by omega) (.slice A5 z.r.length c5)).setCell (p := ⟨w.heap.size + 2, 2, none⟩) (show w.heap.size ≤ w.heap.size + 2 by omega) (.slice A6 z.m.length c6)).setCell (p := ⟨w.heap.size + 2, 3, none⟩) (show w.heap.size ≤ w.heap.size + 2 by omega) (.slice A7 z.s.length c7)) (Nat.le_refl _) (Grows.drew' _)
  have yR := RdB.grows (RdB.grown hr (d_only_set (d_only_set (d_only_set (d_only_set (World.grownBy.refl _ (some (w.heap.size + 2))) 0 (.int .i64 z.k)) 1 (.slice A5 z.r.length c5)) 2 (.slice A6 z.m.length c6)) 3 (.slice A7 z.s.length c7)) (fun q e hh => by injection e with e; unfold Dk at hh; omega)) (Grows.drew' _)
  have yS := RdB.grows (RdB.grown hs (d_only_set (d_only_set (d_only_set (d_only_set (World.grownBy.refl _ (some (w.heap.size + 2))) 0 (.int .i64 z.k)) 1 (.slice A5 z.r.length c5)) 2 (.slice A6 z.m.length c6)) 3 (.slice A7 z.s.length c7)) (fun q e hh => by injection e with e; unfold Dk at hh; omega)) (Grows.drew' _)
  have yM := MapsR.grows (MapsR.grown hmr (d_only_set (d_only_set (d_only_set (d_only_set (World.grownBy.refl _ (some (w.heap.size + 2))) 0 (.int .i64 z.k)) 1 (.slice A5 z.r.length c5)) 2 (.slice A6 z.m.length c6)) 3 (.slice A7 z.s.length c7)) (fun q e hh => by injection e with e; unfold Dk at hh; omega)) (Grows.drew' _)
  have y6 := y0.cell
  clear k4 k9 hr hs hmr hB
  go_upto_region 19 with fail
  by_cases h1 : z.k = 0
  case pos =>
    have HE : Hid (someB z = false) := Lib.hid (by rw [HV, h1]; rfl)
    have dk : (z.k != 0) = false := by simpa using h1
    clear h1 HV
    go_region
    go_wp2
    refine bodyPost_ret (v := .tuple #[.agg #[.int .i64 z.k, .slice A5 z.r.length c5, .slice A6 z.m.length c6, .slice A7 z.s.length c7], .bool false, .bool (manyB d z)]) (by simp [results, Tryz.results41, go_sem, y6]) rfl ⟨⟨_, by rw [HE.out], HRES.out _ yR yS yM⟩, yB⟩
  have dk : (z.k != 0) = true := by simpa using h1
  clear h1
  by_cases h2 : 0 < z.m.length
  case neg =>
    have HE : Hid (someB z = false) := Lib.hid (by rw [HV, decide_eq_false h2]; simp)
    have dm1 : decide (0 < (z.m.length : Int)) = false := by simp only [decide_eq_false_iff_not]; omega
    have dm2 : decide (0 < z.m.length) = false := by simpa using h2
    clear h2 HV
    go_region
    go_wp2
    refine bodyPost_ret (v := .tuple #[.agg #[.int .i64 z.k, .slice A5 z.r.length c5, .slice A6 z.m.length c6, .slice A7 z.s.length c7], .bool false, .bool (manyB d z)]) (by simp [results, Tryz.results41, go_sem, y6]) rfl ⟨⟨_, by rw [HE.out], HRES.out _ yR yS yM⟩, yB⟩
  have dm1 : decide (0 < (z.m.length : Int)) = true := by simp only [decide_eq_true_eq]; omega
  have dm2 : decide (0 < z.m.length) = true := by simpa using h2
  clear h2
  by_cases h2 : 0 < z.r.length
  case neg =>
    have HE : Hid (someB z = false) := Lib.hid (by rw [HV, decide_eq_false h2]; simp)
    have dr1 : decide (0 < (z.r.length : Int)) = false := by simp only [decide_eq_false_iff_not]; omega
    have dr2 : decide (0 < z.r.length) = false := by simpa using h2
    clear h2 HV
    go_region
    go_wp2
    refine bodyPost_ret (v := .tuple #[.agg #[.int .i64 z.k, .slice A5 z.r.length c5, .slice A6 z.m.length c6, .slice A7 z.s.length c7], .bool false, .bool (manyB d z)]) (by simp [results, Tryz.results41, go_sem, y6]) rfl ⟨⟨_, by rw [HE.out], HRES.out _ yR yS yM⟩, yB⟩
  have dr1 : decide (0 < (z.r.length : Int)) = true := by simp only [decide_eq_true_eq]; omega
  have dr2 : decide (0 < z.r.length) = true := by simpa using h2
  clear h2
  by_cases h2 : 0 < z.s.length
  case neg =>
    have HE : Hid (someB z = false) := Lib.hid (by rw [HV, decide_eq_false h2]; simp)
    have ds1 : decide (0 < (z.s.length : Int)) = false := by simp only [decide_eq_false_iff_not]; omega
    have ds2 : decide (0 < z.s.length) = false := by simpa using h2
    clear h2 HV
    go_region
    go_wp2
    refine bodyPost_ret (v := .tuple #[.agg #[.int .i64 z.k, .slice A5 z.r.length c5, .slice A6 z.m.length c6, .slice A7 z.s.length c7], .bool false, .bool (manyB d z)]) (by simp [results, Tryz.results41, go_sem, y6]) rfl ⟨⟨_, by rw [HE.out], HRES.out _ yR yS yM⟩, yB⟩
  have ds1 : decide (0 < (z.s.length : Int)) = true := by simp only [decide_eq_true_eq]; omega
  have ds2 : decide (0 < z.s.length) = true := by simpa using h2
  clear h2
  have HE : Hid (someB z = true) := Lib.hid (by rw [HV, dk, dm2, dr2, ds2]; rfl)
  clear HV
  go_region
  go_wp2
  refine bodyPost_ret (v := .tuple #[.agg #[.int .i64 z.k, .slice A5 z.r.length c5, .slice A6 z.m.length c6, .slice A7 z.s.length c7], .bool true, .bool (manyB d z)]) (by simp [results, Tryz.results41, go_sem, y6]) rfl ⟨⟨_, by rw [HE.out], HRES.out _ yR yS yM⟩, yB⟩
end Go.Proofs.YtjbkjgmcfommgaaGreat


namespace Go.Proofs.YtjbkjgmcfommgaaGreat
open Go.RowKit
theorem all_next {α : Type} {l : List α} {p : α → Bool} {k : Nat} {x : α} (h : l[k]? = some x) : (l.take (k + 1)).all p = ((l.take k).all p && p x) := by
 rw [take_snoc h, List.all_append, List.all_cons, List.all_nil, Bool.and_true]
set_option maxHeartbeats 16000000 in
theorem nvalid_any {ok : Nat → Prop} {A : Option Addr} {c n : Nat} {l : List Pt} {w : World} (hn : n = l.length) (h : Pts w ok A l) (hl : l.length ≤ 1000000) (ho : ∀ p ∈ l, (∀ b ∈ p.b, OKB b) ∧ p.b.length ≤ 1000000) :
 Calls Tryz.prog 12 #[.slice A n c] w fun e w' => e = .returned (.bool (validC l)) ∧ Grows w w' := by
 subst hn
 have HO := Lib.hid ho
 clear ho
 have HV : Hid (validC l = (l.all portOk && decide (1 ≤ l.length) && decide (l.length ≤ 16))) := Lib.hid rfl
 have hB := Below.refl w.heap.size w
 go_enter Tryz.func12, Tryz.ntmps12
 go_wp2_with fail
 go_loopw [7] (fun i wr => ∃ k : Nat, k ≤ l.length ∧ i = .int .i64 k ∧ Hid ((l.take k).all portOk = true) ∧ Below w.heap.size w wr) (fun i _ => l.length - (intOf i).toNat)
 case atStart => exact ⟨0, by omega, rfl, Lib.hid rfl, hB⟩
 case round =>
  clear hB
  obtain ⟨k, hk, rfl, HK, hB⟩ := hrel
  by_cases hlt : k < l.length
  ·obtain ⟨ad, p, B, cp, e1, had, hp, hbx, hcp, q0, q1⟩ := h.elem hB hlt
   subst e1
   have HP := Lib.hid hp
   obtain ⟨ob, ol⟩ := HO.out p (List.mem_of_getElem? hp)
   have HOB := Lib.hid ob
   clear hp ob
   have HNO : Hid (portOk p = false → validC l = false) := Lib.hid (fun hf => by
    rw [HV.out, Bool.and_assoc]
    have : l.all portOk = false := List.all_eq_false.2 ⟨p, List.mem_of_getElem? HP.out, by rw [hf]; simp⟩
    rw [this, Bool.false_and])
   have HYE : Hid (portOk p = true → (l.take (k + 1)).all portOk = true) := Lib.hid (fun hf => by rw [all_next HP.out, HK.out, hf]; rfl)
   have HPO : Hid (portOk p = (decide (p.b.length ≤ 8) && validL p.b && decide (0 ≤ p.v) && decide (p.v ≤ 15))) := Lib.hid rfl
   have k8 := Blk.new wr 47 #[.slice B p.b.length cp, .int .i64 p.v]
   have hq := (Below.refl wr.heap.size wr).alloc (Nat.le_refl _) (Obj.cells #[.slice B p.b.length cp, .int .i64 p.v] 47)
   go_upto_region 4 with fail
   replace hB := below_grows hB (Nat.le_refl _) hq
   clear hq q0 q1
   generalize World.alloc wr _ = w5 at *
   generalize wr.heap.size = G8 at *
   have x8 := k8.cell
   by_cases h1 : p.b.length ≤ 8
   case neg =>
    have HE : Hid (validC l = false) := Lib.hid (HNO.out (by rw [HPO.out, decide_eq_false h1]; rfl))
    have e1 : decide ((8 : Int) < (p.b.length : Int)) = true := by simp only [decide_eq_true_eq]; omega
    have e2 : decide (8 < p.b.length) = true := by simp only [decide_eq_true_eq]; omega
    clear h1
    go_wp2
    go_ret
    exact ⟨ret_bool HE.out.symm, hB⟩
   have e1 : decide ((8 : Int) < (p.b.length : Int)) = false := by simp only [decide_eq_false_iff_not]; omega
   have e2 : decide (8 < p.b.length) = false := by simp only [decide_eq_false_iff_not]; omega
   go_wp2_with fail
   refine (pvalidl_any B cp ok p.b _ (hbx.grows hB) (by omega) HOB.out).mono ?_
   rintro e w6 ⟨rfl, hq⟩
   replace hB := below_grows hB (Nat.le_refl _) hq
   replace k8 := k8.grows hq
   clear hq x8
   have x8 := k8.cell
   cases hv : validL p.b
   ·have HE : Hid (validC l = false) := Lib.hid (HNO.out (by rw [HPO.out, hv, Bool.and_false]; rfl))
    clear hv
    go_wp2
    go_ret
    exact ⟨ret_bool HE.out.symm, hB⟩
   by_cases h2 : 0 ≤ p.v
   case neg =>
    have HE : Hid (validC l = false) := Lib.hid (HNO.out (by rw [HPO.out, decide_eq_false h2, Bool.and_false]; rfl))
    have e3 : decide (p.v < 0) = true := by simp only [decide_eq_true_eq]; omega
    clear h2 hv
    go_wp2
    go_ret
    exact ⟨ret_bool HE.out.symm, hB⟩
   have e3 : decide (p.v < 0) = false := by simp only [decide_eq_false_iff_not]; omega
   by_cases h3 : p.v ≤ 15
   case neg =>
    have HE : Hid (validC l = false) := Lib.hid (HNO.out (by rw [HPO.out, decide_eq_false h3, Bool.and_false]))
    have e4 : decide (15 < p.v) = true := by simp only [decide_eq_true_eq]; omega
    clear h2 h3 hv
    go_wp2
    go_ret
    exact ⟨ret_bool HE.out.symm, hB⟩
   have e4 : decide (15 < p.v) = false := by simp only [decide_eq_false_iff_not]; omega
   have HE := Lib.hid (HYE.out (by rw [HPO.out, hv, decide_eq_true h1, decide_eq_true h2, decide_eq_true h3]; rfl))
   clear h1 h2 h3 hv
   go_wp2
   go_roundw
   case rel => exact ⟨k + 1, by omega, by go_num, HE, hB⟩
   case measure => simp [intOf]; omega
  ·have HA : Hid (validC l = (decide (1 ≤ l.length) && decide (l.length ≤ 16))) := Lib.hid (by
    have := HK.out
    rw [List.take_of_length_le (by omega)] at this
    rw [HV.out, this, Bool.true_and])
   by_cases h1 : 1 ≤ l.length
   ·have e1 : decide ((1 : Int) ≤ (l.length : Int)) = true := by simp only [decide_eq_true_eq]; omega
    have e2 : decide ((l.length : Int) ≤ 16) = decide (l.length ≤ 16) := by rw [decide_eq_decide]; omega
    have HE : Hid (validC l = decide (l.length ≤ 16)) := Lib.hid (by rw [HA.out, decide_eq_true h1, Bool.true_and])
    clear h1
    go_wp2
    go_ret
    exact ⟨ret_bool (by first | exact HE.out.symm | (rw [HE.out, decide_eq_decide]; omega)), hB⟩
   ·have e1 : decide ((1 : Int) ≤ (l.length : Int)) = false := by simp only [decide_eq_false_iff_not]; omega
    have HE : Hid (validC l = false) := Lib.hid (by rw [HA.out, decide_eq_false h1]; rfl)
    clear h1
    go_wp2
    go_ret
    exact ⟨ret_bool HE.out.symm, hB⟩
set_option maxHeartbeats 32000000 in
set_option maxRecDepth 10000 in
theorem with_any {ba bb : Nat → Prop} {x y : Bx} {A1 A2 A3 B1 B2 B3 : Option Addr} {c1 c2 c3 d1 d2 d3 : Nat} {w : World} (dd : Int) (hpx : BoxP w ba x A1 c1 A2 c2 A3 c3) (hpy : BoxP w bb y B1 d1 B2 d2 B3 d3) :
 Calls Tryz.prog 85 #[.agg #[.int .i64 x.k, .slice A1 x.r.length c1, .slice A2 x.m.length c2, .slice A3 x.s.length c3], .agg #[.int .i64 y.k, .slice B1 y.r.length d1, .slice B2 y.m.length d2, .slice B3 y.s.length d3], .int .i64 dd] w fun e w' => (∃ v, e = .returned v ∧ BoxV w (fun _ => True) (blendB dd x y) v) ∧ Grows w w' := by
 have k3 := ((Blk.new w 61 #[.int .i64 x.k, .slice A1 x.r.length c1, .slice A2 x.m.length c2, .slice A3 x.s.length c3]).alloc (Obj.cells #[.int .i64 y.k, .slice B1 y.r.length d1, .slice B2 y.m.length d2, .slice B3 y.s.length d3] 61)).alloc (Obj.cells #[.int .i64 0, .slice none 0 0, .slice none 0 0, .slice none 0 0] 61)
 have k4 := (blk_new_at (X := w.alloc (Obj.cells #[.int .i64 x.k, .slice A1 x.r.length c1, .slice A2 x.m.length c2, .slice A3 x.s.length c3] 61)) (n := w.heap.size + 1) (t := 61) (cs := #[.int .i64 y.k, .slice B1 y.r.length d1, .slice B2 y.m.length d2, .slice B3 y.s.length d3]) (by simp)).alloc (Obj.cells #[.int .i64 0, .slice none 0 0, .slice none 0 0, .slice none 0 0] 61)
 have k6 := blk_new_at (X := (w.alloc (Obj.cells #[.int .i64 x.k, .slice A1 x.r.length c1, .slice A2 x.m.length c2, .slice A3 x.s.length c3] 61)).alloc (Obj.cells #[.int .i64 y.k, .slice B1 y.r.length d1, .slice B2 y.m.length d2, .slice B3 y.s.length d3] 61)) (n := w.heap.size + 2) (t := 61) (cs := #[.int .i64 0, .slice none 0 0, .slice none 0 0, .slice none 0 0]) (by simp)
 have hB := (((Below.refl w.heap.size w).alloc (Nat.le_refl _) (Obj.cells #[.int .i64 x.k, .slice A1 x.r.length c1, .slice A2 x.m.length c2, .slice A3 x.s.length c3] 61)).alloc (by simp) (Obj.cells #[.int .i64 y.k, .slice B1 y.r.length d1, .slice B2 y.m.length d2, .slice B3 y.s.length d3] 61)).alloc (by simp; omega) (Obj.cells #[.int .i64 0, .slice none 0 0, .slice none 0 0, .slice none 0 0] 61)
 have HK : Hid ((blendB dd x y).k = if bitZ dd 1 = true then y.k else x.k) := Lib.hid rfl
 have HR : Hid ((blendB dd x y).r = if bitZ dd 2 = true then y.r else x.r) := Lib.hid rfl
 have HM : Hid ((blendB dd x y).m = if bitZ dd 4 = true then y.m else x.m) := Lib.hid rfl
 have HS : Hid ((blendB dd x y).s = if bitZ dd 8 = true then y.s else x.s) := Lib.hid rfl
 generalize blendB dd x y = z at *
 go_enter Tryz.func85, Tryz.ntmps85
 go_upto_region 1 with fail
 generalize World.alloc (World.alloc (World.alloc w _) _) _ = w1 at *
 try rw [show w.heap.size + 1 + 1 = w.heap.size + 2 from rfl]
 generalize hq6 : w.heap.size + 2 = q6 at *
 generalize hq4 : w.heap.size + 1 = q4 at *
 generalize hq3 : w.heap.size = q3 at *
 have HQ4 : q4 ≠ q3 := by omega
 have HQ6 : q6 ≠ q3 := by omega
 have HL6 : q3 ≤ q6 := by omega
 clear hq4 hq6
 go_upto_if 9 with fail
 go_cut [] (fun wx => (Below q3 w wx ∧ Blk wx q4 61 #[.int .i64 y.k, .slice B1 y.r.length d1, .slice B2 y.m.length d2, .slice B3 y.s.length d3] ∧ Blk wx q6 61 #[.int .i64 0, .slice none 0 0, .slice none 0 0, .slice none 0 0]) ∧ Blk wx q3 61 #[.int .i64 z.k, .slice A1 x.r.length c1, .slice A2 x.m.length c2, .slice A3 x.s.length c3])
 case first =>
  cases hb : bitZ dd 1
  ·have e1 : (bits .and .i64 dd 1 != 0) = false := hb
   have HE : Hid (z.k = x.k) := Lib.hid (by rw [HK.out, hb]; rfl)
   clear hb
   go_wp2
   go_meet
   exact ⟨⟨hB, k4, k6⟩, by rw [HE.out]; exact k3⟩
  ·have e1 : (bits .and .i64 dd 1 != 0) = true := hb
   have HE : Hid (z.k = y.k) := Lib.hid (by rw [HK.out, hb]; rfl)
   clear hb
   have x4 := k4.cell
   have x3 := k3.cell
   have f3_ := k3.frozen
   go_wp2
   go_meet
   exact ⟨⟨hB.setCell (p := ⟨q3, 0, none⟩) (Nat.le_refl _) _, k4.far (p := ⟨q3, 0, none⟩) HQ4 _, k6.far (p := ⟨q3, 0, none⟩) HQ6 _⟩, by rw [HE.out]; exact k3.set_ 0 (.int .i64 y.k)⟩
 case rest =>
 obtain ⟨⟨hB2, k42, k62⟩, k32⟩ := hcut
 clear hB k3 k4 k6
 have hB := hB2
 have k4 := k42
 have k6 := k62
 have k3 := k32
 clear hB2 k42 k62 k32
 generalize wc = w20 at *
 go_upto_if 15 with fail
 go_cut [] (fun wx => (Below q3 w wx ∧ Blk wx q4 61 #[.int .i64 y.k, .slice B1 y.r.length d1, .slice B2 y.m.length d2, .slice B3 y.s.length d3] ∧ Blk wx q6 61 #[.int .i64 0, .slice none 0 0, .slice none 0 0, .slice none 0 0]) ∧ ∃ (C1 : Option Addr) (f1 : Nat), Blk wx q3 61 #[.int .i64 z.k, .slice C1 z.r.length f1, .slice A2 x.m.length c2, .slice A3 x.s.length c3] ∧ z.r.length ≤ f1 ∧ RdB w (fun _ => True) 2 C1 z.r.length (scells z.r))
 case first =>
  cases hb : bitZ dd 2
  ·have e1 : (bits .and .i64 dd 2 != 0) = false := hb
   have HE : Hid (z.r = x.r) := Lib.hid (by rw [HR.out, hb]; rfl)
   clear hb
   go_wp2
   go_meet
   exact ⟨⟨hB, k4, k6⟩, A1, c1, by rw [HE.out]; exact k3, by rw [HE.out]; exact hpx.cr, by rw [HE.out]; exact RdB.mono hpx.r (fun _ _ => trivial)⟩
  ·have e1 : (bits .and .i64 dd 2 != 0) = true := hb
   have HE : Hid (z.r = y.r) := Lib.hid (by rw [HR.out, hb]; rfl)
   clear hb
   have x4 := k4.cell
   have x3 := k3.cell
   have f3_ := k3.frozen
   go_wp2
   go_meet
   exact ⟨⟨hB.setCell (p := ⟨q3, 1, none⟩) (Nat.le_refl _) _, k4.far (p := ⟨q3, 1, none⟩) HQ4 _, k6.far (p := ⟨q3, 1, none⟩) HQ6 _⟩, B1, d1, by rw [HE.out]; exact k3.set_ 1 (.slice B1 y.r.length d1), by rw [HE.out]; exact hpy.cr, by rw [HE.out]; exact RdB.mono hpy.r (fun _ _ => trivial)⟩
 case rest =>
 obtain ⟨⟨hB2, k42, k62⟩, C1, f1, k32, hle1, hrd1⟩ := hcut
 clear hB k3 k4 k6
 have hB := hB2
 have k4 := k42
 have k6 := k62
 have k3 := k32
 clear hB2 k42 k62 k32
 generalize wc = w21 at *
 go_upto_if 21 with fail
 go_cut [] (fun wx => (Below q3 w wx ∧ Blk wx q4 61 #[.int .i64 y.k, .slice B1 y.r.length d1, .slice B2 y.m.length d2, .slice B3 y.s.length d3] ∧ Blk wx q6 61 #[.int .i64 0, .slice none 0 0, .slice none 0 0, .slice none 0 0]) ∧ ∃ (C2 : Option Addr) (f2 : Nat), Blk wx q3 61 #[.int .i64 z.k, .slice C1 z.r.length f1, .slice C2 z.m.length f2, .slice A3 x.s.length c3] ∧ z.m.length ≤ f2 ∧ MapsR w (fun _ => True) C2 z.m)
 case first =>
  cases hb : bitZ dd 4
  ·have e1 : (bits .and .i64 dd 4 != 0) = false := hb
   have HE : Hid (z.m = x.m) := Lib.hid (by rw [HM.out, hb]; rfl)
   clear hb
   go_wp2
   go_meet
   exact ⟨⟨hB, k4, k6⟩, A2, c2, by rw [HE.out]; exact k3, by rw [HE.out]; exact hpx.cm, by rw [HE.out]; exact hpx.m.mono (fun _ _ => trivial)⟩
  ·have e1 : (bits .and .i64 dd 4 != 0) = true := hb
   have HE : Hid (z.m = y.m) := Lib.hid (by rw [HM.out, hb]; rfl)
   clear hb
   have x4 := k4.cell
   have x3 := k3.cell
   have f3_ := k3.frozen
   go_wp2
   go_meet
   exact ⟨⟨hB.setCell (p := ⟨q3, 2, none⟩) (Nat.le_refl _) _, k4.far (p := ⟨q3, 2, none⟩) HQ4 _, k6.far (p := ⟨q3, 2, none⟩) HQ6 _⟩, B2, d2, by rw [HE.out]; exact k3.set_ 2 (.slice B2 y.m.length d2), by rw [HE.out]; exact hpy.cm, by rw [HE.out]; exact hpy.m.mono (fun _ _ => trivial)⟩
 case rest =>
 obtain ⟨⟨hB2, k42, k62⟩, C2, f2, k32, hle2, hrd2⟩ := hcut
 clear hB k3 k4 k6
 have hB := hB2
 have k4 := k42
 have k6 := k62
 have k3 := k32
 clear hB2 k42 k62 k32
 generalize wc = w22 at *
 go_upto_if 27 with fail
 go_cut [] (fun wx => (Below q3 w wx ∧ Blk wx q4 61 #[.int .i64 y.k, .slice B1 y.r.length d1, .slice B2 y.m.length d2, .slice B3 y.s.length d3] ∧ Blk wx q6 61 #[.int .i64 0, .slice none 0 0, .slice none 0 0, .slice none 0 0]) ∧ ∃ (C3 : Option Addr) (f3 : Nat), Blk wx q3 61 #[.int .i64 z.k, .slice C1 z.r.length f1, .slice C2 z.m.length f2, .slice C3 z.s.length f3] ∧ z.s.length ≤ f3 ∧ RdB w (fun _ => True) 2 C3 z.s.length (scells z.s))
 case first =>
  cases hb : bitZ dd 8
  ·have e1 : (bits .and .i64 dd 8 != 0) = false := hb
   have HE : Hid (z.s = x.s) := Lib.hid (by rw [HS.out, hb]; rfl)
   clear hb
   go_wp2
   go_meet
   exact ⟨⟨hB, k4, k6⟩, A3, c3, by rw [HE.out]; exact k3, by rw [HE.out]; exact hpx.cs, by rw [HE.out]; exact RdB.mono hpx.s (fun _ _ => trivial)⟩
  ·have e1 : (bits .and .i64 dd 8 != 0) = true := hb
   have HE : Hid (z.s = y.s) := Lib.hid (by rw [HS.out, hb]; rfl)
   clear hb
   have x4 := k4.cell
   have x3 := k3.cell
   have f3_ := k3.frozen
   go_wp2
   go_meet
   exact ⟨⟨hB.setCell (p := ⟨q3, 3, none⟩) (Nat.le_refl _) _, k4.far (p := ⟨q3, 3, none⟩) HQ4 _, k6.far (p := ⟨q3, 3, none⟩) HQ6 _⟩, B3, d3, by rw [HE.out]; exact k3.set_ 3 (.slice B3 y.s.length d3), by rw [HE.out]; exact hpy.cs, by rw [HE.out]; exact RdB.mono hpy.s (fun _ _ => trivial)⟩
 case rest =>
 obtain ⟨⟨hB2, k42, k62⟩, C3, f3, k32, hle3, hrd3⟩ := hcut
 clear hB k3 k4 k6
 have hB := hB2
 have k4 := k42
 have k6 := k62
 have k3 := k32
 clear hB2 k42 k62 k32
 generalize wc = w23 at *
 have x3 := k3.cell
 have x6 := k6.cell
 have f6 := k6.frozen
 have y0 := ((((k6.set_ 0 (.int .i64 z.k)).set_ 1 (.slice C1 z.r.length f1)).set_ 2 (.slice C2 z.m.length f2)).set_ 3 (.slice C3 z.s.length f3))
 have yB := ((((hB.setCell (p := ⟨q6, 0, none⟩) HL6 (.int .i64 z.k)).setCell (p := ⟨q6, 1, none⟩) HL6 (.slice C1 z.r.length f1)).setCell (p := ⟨q6, 2, none⟩) HL6 (.slice C2 z.m.length f2)).setCell (p := ⟨q6, 3, none⟩) HL6 (.slice C3 z.s.length f3))
 have y6 := y0.cell
 clear k3 k4 k6 y0 hB
 rw [← hq3] at yB
 have yG : Grows w _ := yB
 go_wp2
 refine bodyPost_ret (v := .agg #[.int .i64 z.k, .slice C1 z.r.length f1, .slice C2 z.m.length f2, .slice C3 z.s.length f3]) (by simp [results, Tryz.results85, go_sem, y6]) rfl ⟨⟨_, rfl, C1, f1, C2, f2, C3, f3, rfl, ⟨hrd1, hrd2, hrd3, hle1, hle2, hle3⟩⟩, yG⟩
end Go.Proofs.YtjbkjgmcfommgaaGreat

namespace Go.Proofs.YtjbkjgmcfommgaaGreat
open Go.RowKit
def PsB (s : List Bx) : GP := ⟨fun w v => ∃ A c, v = .slice A s.length c ∧ Bxs w (fun _ => True) A s, fun w w' v h hg => by obtain ⟨A, c, e, hx⟩ := h; exact ⟨A, c, e, hx.grows hg⟩⟩
def PsV (z : Bx) : GP := ⟨fun w v => BoxV w (fun _ => True) z v, fun w w' v h hg => h.grows hg⟩
def PsT (n : Nat) (s : List Bx) (e : Int) : GP := ⟨fun w v => ∃ A c, v = .tuple #[.slice A s.length c, .int .i64 e] ∧ s.length ≤ c ∧ Bxs w (Ge n) A s, fun w w' v h hg => by obtain ⟨A, c, e, hc, hx⟩ := h; exact ⟨A, c, e, hc, hx.grows hg⟩⟩
def PsN (n : Nat) (s : List Bx) : GP := ⟨fun w v => ∃ A c, v = .slice A s.length c ∧ s.length ≤ c ∧ Bxs w (Ge n) A s, fun w w' v h hg => by obtain ⟨A, c, e, hc, hx⟩ := h; exact ⟨A, c, e, hc, hx.grows hg⟩⟩
set_option maxHeartbeats 32000000 in
set_option maxRecDepth 10000 in
theorem meet_any {ba bb : Nat → Prop} {x y : Bx} {A1 A2 A3 B1 B2 B3 : Option Addr} {c1 c2 c3 d1 d2 d3 : Nat} {w : World} (dd : Int) (hpx : BoxP w ba x A1 c1 A2 c2 A3 c3) (hpy : BoxP w bb y B1 d1 B2 d2 B3 d3) (hx : FB x) (hy : FB y) :
 Calls Tryz.prog 51 #[.agg #[.int .i64 x.k, .slice A1 x.r.length c1, .slice A2 x.m.length c2, .slice A3 x.s.length c3], .agg #[.int .i64 y.k, .slice B1 y.r.length d1, .slice B2 y.m.length d2, .slice B3 y.s.length d3], .int .i64 dd] w fun e w' => (∃ A c, e = .returned (.tuple #[.slice A (meetF dd x y).1.length c, .int .i64 (meetF dd x y).2]) ∧ (meetF dd x y).1.length ≤ c ∧ Bxs w' (Ge w.heap.size) A (meetF dd x y).1) ∧ Grows w w' := by
 have hox := okb_fine hx
 have hoz := okb_fine (mix_fine (d := dd) hx hy)
 have HW := Lib.hid (fun (w0 : World) (h : Grows w w0) => with_any (w := w0) dd (hpx.grows h) (hpy.grows h))
 have HP := Lib.hid (fun (w0 : World) (A B : Option Addr) (c d : Nat) (h1 : Bxs w0 (fun _ => True) A [x]) (h2 : Bxs w0 (fun _ => True) B [blendB dd x y]) => pinter_any (w := w0) (c := c) (d := d) rfl rfl h1 h2 (by simp) (by simp) (fun z hz => by simp only [List.mem_singleton] at hz; exact hz ▸ hox) (fun z hz => by simp only [List.mem_singleton] at hz; exact hz ▸ hoz))
 have HM : Hid (interP [x] [blendB dd x y] = meetF dd x y) := Lib.hid rfl
 rw [HM.out] at HP
 generalize meetF dd x y = mt at *
 generalize blendB dd x y = z at *
 obtain ⟨ml, me⟩ := mt
 clear hox hoz hpy hy hx HM
 have k3 := ((Blk.new w 61 #[.int .i64 x.k, .slice A1 x.r.length c1, .slice A2 x.m.length c2, .slice A3 x.s.length c3]).alloc (Obj.cells #[.int .i64 y.k, .slice B1 y.r.length d1, .slice B2 y.m.length d2, .slice B3 y.s.length d3] 61))
 have k4 := (Blk.new (w.alloc (Obj.cells #[.int .i64 x.k, .slice A1 x.r.length c1, .slice A2 x.m.length c2, .slice A3 x.s.length c3] 61)) 61 #[.int .i64 y.k, .slice B1 y.r.length d1, .slice B2 y.m.length d2, .slice B3 y.s.length d3])
 have hB := (((Below.refl w.heap.size w).alloc (Nat.le_refl _) (Obj.cells #[.int .i64 x.k, .slice A1 x.r.length c1, .slice A2 x.m.length c2, .slice A3 x.s.length c3] 61)).alloc (by simp) (Obj.cells #[.int .i64 y.k, .slice B1 y.r.length d1, .slice B2 y.m.length d2, .slice B3 y.s.length d3] 61))
 go_enter Tryz.func51, Tryz.ntmps51
 go_upto_region 1 with fail
 have hs1 : (w.alloc (Obj.cells #[.int .i64 x.k, .slice A1 x.r.length c1, .slice A2 x.m.length c2, .slice A3 x.s.length c3] 61)).heap.size = w.heap.size + 1 := by simp
 rw [hs1] at k4
 clear hs1
 generalize World.alloc (World.alloc w _) _ = w2 at *
 generalize hq4 : w.heap.size + 1 = q4 at *
 clear hq4
 obtain ⟨S, HI, HO⟩ := hideS fun (L : Ran) (vs : Nat → Value) (w' : World) => (Grows w2 w' ∧ KnS [some (.agg #[.int .i64 x.k, .slice A1 x.r.length c1, .slice A2 x.m.length c2, .slice A3 x.s.length c3]), none, some (.agg #[.int .i64 x.k, .slice A1 x.r.length c1, .slice A2 x.m.length c2, .slice A3 x.s.length c3]), some (.agg #[.int .i64 y.k, .slice B1 y.r.length d1, .slice B2 y.m.length d2, .slice B3 y.s.length d3]), some (.int .i64 dd), none, none, none, none, some (.int .i64 me)] L vs ∧ DsS [none, some (PsB [x]), none, none, none, some (PsV z), some (PsB [z]), some (PsT w.heap.size ml me), some (PsN w.heap.size ml), none] L vs w')
 refine wp_region_genT S 10 18 (by kernel_rfl) (by kernel_rfl) rfl ?_ ?_
 ·exact HI.out _ _ _ ⟨Grows.drew' _, kn_none _ _, ds_none _ _ _⟩
 simp only [List.take_succ_cons, List.take_zero, List.drop_succ_cons, List.drop_zero]
 refine gent_consR (fun vs L w1 hL hw1 => ?_) ?_
 ·obtain ⟨q0, q1, q2⟩ := HO.out _ _ _ hw1
  refine gen_plain rfl ?_
  have xb := (k3.grows q0).cell
  go_simp
  exact gr_val (HI.out _ _ _ ⟨q0, kn_known q1 rfl, ds_free q2 rfl⟩)
 refine gent_consR (fun vs L w1 hL hw1 => ?_) ?_
 ·obtain ⟨q0, q1, q2⟩ := HO.out _ _ _ hw1
  refine gen_plain rfl ?_
  have l0 : L 0 = true := hL.need 0 (by kernel_rfl)
  have e0 := q1 0 _ rfl l0
  simp only [e0]
  go_simp
  have hg := (Below.refl w1.heap.size w1).alloc (Nat.le_refl _) (Obj.cells #[.int .i64 x.k, .slice A1 x.r.length c1, .slice A2 x.m.length c2, .slice A3 x.s.length c3] 61)
  exact gr_val (HI.out _ _ _ ⟨below_grows q0 (Nat.le_refl _) hg, kn_free q1 rfl, ds_put (q2.grows hg) rfl ⟨_, _, rfl, bxs_one2 ((hpx.mono (b2 := fun _ => True) (fun _ _ => trivial)).grows (below_grows hB (Nat.le_refl _) q0)) trivial rfl⟩⟩)
 refine gent_consR (fun vs L w1 hL hw1 => ?_) ?_
 ·obtain ⟨q0, q1, q2⟩ := HO.out _ _ _ hw1
  refine gen_plain rfl ?_
  have xb := (k3.grows q0).cell
  go_simp
  exact gr_val (HI.out _ _ _ ⟨q0, kn_known q1 rfl, ds_free q2 rfl⟩)
 refine gent_consR (fun vs L w1 hL hw1 => ?_) ?_
 ·obtain ⟨q0, q1, q2⟩ := HO.out _ _ _ hw1
  refine gen_plain rfl ?_
  have xb := (k4.grows q0).cell
  go_simp
  exact gr_val (HI.out _ _ _ ⟨q0, kn_known q1 rfl, ds_free q2 rfl⟩)
 refine gent_consR (fun vs L w1 hL hw1 => ?_) ?_
 ·obtain ⟨q0, q1, q2⟩ := HO.out _ _ _ hw1
  refine gen_plain rfl ?_
  go_simp
  exact gr_val (HI.out _ _ _ ⟨q0, kn_known q1 rfl, ds_free q2 rfl⟩)
 refine gent_consR (fun vs L w1 hL hw1 => ?_) ?_
 ·obtain ⟨q0, q1, q2⟩ := HO.out _ _ _ hw1
  refine gen_plain rfl ?_
  have l2 : L 2 = true := hL.need 2 (by kernel_rfl)
  have e2 := q1 2 _ rfl l2
  have l3 : L 3 = true := hL.need 3 (by kernel_rfl)
  have e3 := q1 3 _ rfl l3
  have l4 : L 4 = true := hL.need 4 (by kernel_rfl)
  have e4 := q1 4 _ rfl l4
  simp only [e2, e3, e4]
  go_simp
  refine gr_call ?_
  refine (HW.out _ (below_grows hB (Nat.le_refl _) q0)).mono ?_
  rintro e w3 ⟨⟨v, rfl, hv⟩, hg⟩
  exact ⟨_, rfl, HI.out _ _ _ ⟨below_grows q0 (Nat.le_refl _) hg, kn_free q1 rfl, ds_put (q2.grows hg) rfl (hv.grows hg)⟩⟩
 refine gent_consR (fun vs L w1 hL hw1 => ?_) ?_
 ·obtain ⟨q0, q1, q2⟩ := HO.out _ _ _ hw1
  refine gen_plain rfl ?_
  have l5 : L 5 = true := hL.need 5 (by kernel_rfl)
  obtain ⟨E1, f1, E2, f2, E3, f3, e5, hpz⟩ := q2 5 _ rfl l5
  simp only [e5]
  go_simp
  have hg := (Below.refl w1.heap.size w1).alloc (Nat.le_refl _) (Obj.cells #[.int .i64 z.k, .slice E1 z.r.length f1, .slice E2 z.m.length f2, .slice E3 z.s.length f3] 61)
  exact gr_val (HI.out _ _ _ ⟨below_grows q0 (Nat.le_refl _) hg, kn_free q1 rfl, ds_put (q2.grows hg) rfl ⟨_, _, rfl, bxs_one2 hpz trivial rfl⟩⟩)
 refine gent_consR (fun vs L w1 hL hw1 => ?_) ?_
 ·obtain ⟨q0, q1, q2⟩ := HO.out _ _ _ hw1
  refine gen_plain rfl ?_
  have l1 : L 1 = true := hL.need 1 (by kernel_rfl)
  have l6 : L 6 = true := hL.need 6 (by kernel_rfl)
  obtain ⟨Aa, ca, ea, ha⟩ := q2 1 _ rfl l1
  obtain ⟨Ab, cb, eb, hb⟩ := q2 6 _ rfl l6
  simp only [ea, eb]
  go_simp
  refine gr_call ?_
  have hcon := HP.out _ Aa Ab ca cb ha hb
  refine hcon.mono ?_
  rintro e w3 ⟨⟨v, rfl, hw⟩, hg⟩
  obtain ⟨A9, c9, rfl, hc9, hx9⟩ := hw.read
  have hsz := (below_grows hB (Nat.le_refl _) q0).size
  exact ⟨_, rfl, HI.out _ _ _ ⟨below_grows q0 (Nat.le_refl _) hg, kn_free q1 rfl, ds_put (q2.grows hg) rfl ⟨A9, c9, rfl, hc9, hx9.mono (fun k hk => by unfold Ge at *; omega)⟩⟩⟩
 refine gent_consR (fun vs L w1 hL hw1 => ?_) ?_
 ·obtain ⟨q0, q1, q2⟩ := HO.out _ _ _ hw1
  refine gen_plain rfl ?_
  have l7 : L 7 = true := hL.need 7 (by kernel_rfl)
  obtain ⟨A9, c9, e7, hc9, hx9⟩ := q2 7 _ rfl l7
  simp only [e7]
  go_simp
  exact gr_val (HI.out _ _ _ ⟨q0, kn_free q1 rfl, ds_put q2 rfl ⟨A9, c9, rfl, hc9, hx9⟩⟩)
 refine gent_consR (fun vs L w1 hL hw1 => ?_) ?_
 ·obtain ⟨q0, q1, q2⟩ := HO.out _ _ _ hw1
  refine gen_plain rfl ?_
  have l7 : L 7 = true := hL.need 7 (by kernel_rfl)
  obtain ⟨A9, c9, e7, hc9, hx9⟩ := q2 7 _ rfl l7
  simp only [e7]
  go_simp
  exact gr_val (HI.out _ _ _ ⟨q0, kn_known q1 rfl, ds_free q2 rfl⟩)
 refine gent_nil ?_
 intro vs L W2 hall hS
 obtain ⟨q0, q1, q2⟩ := HO.out _ _ _ hS
 have e9 := q1 9 _ rfl (hall 9 (by omega))
 obtain ⟨A9, c9, e8, hc9, hx9⟩ := q2 8 _ rfl (hall 8 (by omega))
 have hB3 := below_grows hB (Nat.le_refl _) q0
 clear hall hS HI HO q1 q2 q0 hB k3 k4
 simp only [e9, e8]
 go_wp2
 refine bodyPost_ret (v := .tuple #[.slice A9 ml.length c9, .int .i64 me]) (by simp [results, Tryz.results51, go_sem]) rfl ?_
 exact ⟨⟨A9, c9, rfl, hc9, hx9⟩, hB3⟩
end Go.Proofs.YtjbkjgmcfommgaaGreat

namespace Go.Proofs.YtjbkjgmcfommgaaGreat
open Go.RowKit
theorem meet_cases {d : Int} {x y : Bx} (hx : FB x) (hy : FB y) : (someB (dimsF d x y) = false ∧ meetF d x y = ([], 0)) ∨ (someB (dimsF d x y) = true ∧ (meetF d x y = ([], 3) ∨ meetF d x y = ([dimsF d x y], 0))) := by
 rw [meet_is hx hy]
 cases someB (dimsF d x y)
 ·exact .inl ⟨rfl, rfl⟩
 ·cases manyB d (dimsF d x y)
  ·exact .inr ⟨rfl, .inr rfl⟩
  ·exact .inr ⟨rfl, .inl rfl⟩
theorem pow_step {j : Nat} {d : Int} (h : d = 2 ^ j) (hj : j < 4) : 1 ≤ d ∧ d ≤ 8 ∧ d * 2 = 2 ^ (j + 1) := by
 have : j = 0 ∨ j = 1 ∨ j = 2 ∨ j = 3 := by omega
 rcases this with rfl | rfl | rfl | rfl <;> subst h <;> decide
theorem sh_next (x y : Bx) (n : Nat) : shF x y (n + 1) = if someB (dimsF (2 ^ n) x y) = true then bits .or .i64 (shF x y n) (2 ^ n) else shF x y n := rfl
set_option maxHeartbeats 32000000 in
set_option maxRecDepth 10000 in
theorem shared_any {ba bb : Nat → Prop} {x y : Bx} {A1 A2 A3 B1 B2 B3 : Option Addr} {c1 c2 c3 d1 d2 d3 : Nat} {w : World} (hpx : BoxP w ba x A1 c1 A2 c2 A3 c3) (hpy : BoxP w bb y B1 d1 B2 d2 B3 d3) (hx : FB x) (hy : FB y) :
 Calls Tryz.prog 52 #[.agg #[.int .i64 x.k, .slice A1 x.r.length c1, .slice A2 x.m.length c2, .slice A3 x.s.length c3], .agg #[.int .i64 y.k, .slice B1 y.r.length d1, .slice B2 y.m.length d2, .slice B3 y.s.length d3]] w fun e w' => e = .returned (.int .i64 (shF x y 4)) ∧ Grows w w' := by
 have HM := Lib.hid (fun (w0 : World) (d : Int) (h : Grows w w0) => meet_any (w := w0) d (hpx.grows h) (hpy.grows h) hx hy)
 have HC := Lib.hid (fun (d : Int) => meet_cases (d := d) hx hy)
 have HN := Lib.hid (sh_next x y)
 have k2 := ((Blk.new w 61 #[.int .i64 x.k, .slice A1 x.r.length c1, .slice A2 x.m.length c2, .slice A3 x.s.length c3]).alloc (Obj.cells #[.int .i64 y.k, .slice B1 y.r.length d1, .slice B2 y.m.length d2, .slice B3 y.s.length d3] 61))
 have k3 := (Blk.new (w.alloc (Obj.cells #[.int .i64 x.k, .slice A1 x.r.length c1, .slice A2 x.m.length c2, .slice A3 x.s.length c3] 61)) 61 #[.int .i64 y.k, .slice B1 y.r.length d1, .slice B2 y.m.length d2, .slice B3 y.s.length d3])
 have hB := (((Below.refl w.heap.size w).alloc (Nat.le_refl _) (Obj.cells #[.int .i64 x.k, .slice A1 x.r.length c1, .slice A2 x.m.length c2, .slice A3 x.s.length c3] 61)).alloc (by simp) (Obj.cells #[.int .i64 y.k, .slice B1 y.r.length d1, .slice B2 y.m.length d2, .slice B3 y.s.length d3] 61))
 clear hx hy hpx hpy
 go_enter Tryz.func52, Tryz.ntmps52
 go_upto_region 1 with fail
 have hs1 : (w.alloc (Obj.cells #[.int .i64 x.k, .slice A1 x.r.length c1, .slice A2 x.m.length c2, .slice A3 x.s.length c3] 61)).heap.size = w.heap.size + 1 := by simp
 rw [hs1] at k3
 clear hs1
 generalize World.alloc (World.alloc w _) _ = w2 at *
 generalize hq3 : w.heap.size + 1 = q3 at *
 clear hq3
 go_wp2_with fail
 go_loopw [5, 6] (fun v i wr => ∃ (j : Nat) (d : Int), j ≤ 4 ∧ Hid (d = 2 ^ j) ∧ v = .int .i64 (shF x y j) ∧ i = .int .i64 d ∧ Blk wr w.heap.size 61 #[.int .i64 x.k, .slice A1 x.r.length c1, .slice A2 x.m.length c2, .slice A3 x.s.length c3] ∧ Blk wr q3 61 #[.int .i64 y.k, .slice B1 y.r.length d1, .slice B2 y.m.length d2, .slice B3 y.s.length d3] ∧ Below w.heap.size w wr) (fun _ i _ => 17 - (intOf i).toNat)
 case atStart => exact ⟨0, 1, by omega, Lib.hid rfl, rfl, rfl, k2, k3, hB⟩
 case round =>
  clear k2 k3 hB
  obtain ⟨j, d, hj, HD, rfl, rfl, k2, k3, hB⟩ := hrel
  by_cases hlt : j < 4
  ·obtain ⟨p1, p8, p2⟩ := pow_step HD.out hlt
   have e0 : decide (d ≤ 15) = true := by simp only [decide_eq_true_eq]; omega
   have hwd : IntKind.i64.wrap (d * 2) = d * 2 := IntWalk.i64_in _ (by omega)
   have HP2 := Lib.hid p2
   have HS : Hid (shF x y (j + 1) = if someB (dimsF d x y) = true then bits .or .i64 (shF x y j) d else shF x y j) := Lib.hid (by rw [HN.out, ← HD.out])
   clear p2
   have x2 := k2.cell
   have x3 := k3.cell
   go_wp2_with fail
   have hcon := HM.out _ d hB
   clear x2 x3
   rcases HC.out d with ⟨hs, hm⟩ | ⟨hs, hm | hm⟩
   ·rw [hm] at hcon
    have HE : Hid (shF x y (j + 1) = shF x y j) := Lib.hid (by rw [HS.out, hs, if_neg (by simp)])
    clear hs hm HS
    refine hcon.mono ?_
    rintro e w3 ⟨⟨A, c, rfl, hc, -⟩, hq⟩
    replace hB := below_grows hB (Nat.le_refl _) hq
    replace k2 := k2.grows hq
    replace k3 := k3.grows hq
    clear hq hcon
    go_wp2
    go_roundw
    case rel => exact ⟨j + 1, d * 2, by omega, HP2, by rw [HE.out], by go_num, k2, k3, hB⟩
    case measure => simp [intOf]; omega
   ·rw [hm] at hcon
    have HE : Hid (shF x y (j + 1) = bits .or .i64 (shF x y j) d) := Lib.hid (by rw [HS.out, hs, if_pos rfl])
    clear hs hm HS
    refine hcon.mono ?_
    rintro e w3 ⟨⟨A, c, rfl, hc, -⟩, hq⟩
    replace hB := below_grows hB (Nat.le_refl _) hq
    replace k2 := k2.grows hq
    replace k3 := k3.grows hq
    clear hq hcon
    go_wp2
    go_roundw
    case rel => exact ⟨j + 1, d * 2, by omega, HP2, by rw [HE.out], by go_num, k2, k3, hB⟩
    case measure => simp [intOf]; omega
   ·rw [hm] at hcon
    have HE : Hid (shF x y (j + 1) = bits .or .i64 (shF x y j) d) := Lib.hid (by rw [HS.out, hs, if_pos rfl])
    clear hs hm HS
    refine hcon.mono ?_
    rintro e w3 ⟨⟨A, c, rfl, hc, -⟩, hq⟩
    replace hB := below_grows hB (Nat.le_refl _) hq
    replace k2 := k2.grows hq
    replace k3 := k3.grows hq
    clear hq hcon
    go_wp2
    go_roundw
    case rel => exact ⟨j + 1, d * 2, by omega, HP2, by rw [HE.out], by go_num, k2, k3, hB⟩
    case measure => simp [intOf]; omega
  ·obtain rfl : j = 4 := by omega
   have hd16 : d = 16 := HD.out
   subst hd16
   go_wp2
   go_ret
   exact ⟨rfl, hB⟩
end Go.Proofs.YtjbkjgmcfommgaaGreat

namespace Go.Proofs.YtjbkjgmcfommgaaGreat
open Go.RowKit
theorem prodn_lim {d : Int} {a b : List Bx} (h : prodF d a b = none) : productF d a b = ([], 3) := by unfold productF; rw [h]
theorem prodn_ok {d : Int} {a b out : List Bx} (h : prodF d a b = some out) : productF d a b = reduceF out := by unfold productF; rw [h]
theorem fb_snoc {l : List Bx} {z : Bx} (h : ∀ b ∈ l, OKB b) (hz : OKB z) : ∀ b ∈ l ++ [z], OKB b := okb_snoc h hz
theorem meet_three {d : Int} {x y : Bx} (hx : FB x) (hy : FB y) : (someB (dimsF d x y) = false ∧ meetF d x y = ([], 0)) ∨ (someB (dimsF d x y) = true ∧ manyB d (dimsF d x y) = true ∧ meetF d x y = ([], 3)) ∨ (someB (dimsF d x y) = true ∧ manyB d (dimsF d x y) = false ∧ meetF d x y = ([dimsF d x y], 0) ∧ OKB (dimsF d x y)) := by
 rw [meet_is hx hy]
 cases hs : someB (dimsF d x y)
 ·exact .inl ⟨rfl, rfl⟩
 ·cases hm : manyB d (dimsF d x y)
  ·exact .inr (.inr ⟨rfl, rfl, rfl, okb_fine (dims_fine hx hy hs hm)⟩)
  ·exact .inr (.inl ⟨rfl, rfl, rfl⟩)
set_option maxHeartbeats 64000000 in
set_option maxRecDepth 10000 in
theorem reach_any {ba bb : Nat → Prop} {A B : Option Addr} {c d n m : Nat} {a b : List Bx} {w : World} (dd : Int) (hn : n = a.length) (hm : m = b.length) (ha : Bxs w ba A a) (hb : Bxs w bb B b) (hla : a.length ≤ 100000) (hlb : b.length ≤ 100000) (hoa : ∀ x ∈ a, FB x) (hob : ∀ x ∈ b, FB x) :
 Calls Tryz.prog 28 #[.slice A n c, .slice B m d, .int .i64 dd] w fun e w' => (∃ v, e = .returned (.tuple #[v, .int .i64 (productF dd a b).2]) ∧ OwnBq w' w.heap.size (Ge w.heap.size) v (productF dd a b).1) ∧ Grows w w' := by
 subst hn hm
 have HOA := Lib.hid hoa
 have HOB := Lib.hid hob
 clear hoa hob
 have hB := Below.refl w.heap.size w
 go_enter Tryz.func28, Tryz.ntmps28
 go_wp2_with fail
 go_loopw [8, 17] (fun v i wr => ∃ (k : Nat) (out : List Bx), k ≤ a.length ∧ i = .int .i64 k ∧ Hid ((a.take k).foldl (prodRow dd b) (some []) = some out) ∧ Hid (∀ z ∈ out, OKB z) ∧ out.length ≤ 64 ∧ OwnBq wr w.heap.size (Ge w.heap.size) v out ∧ Below w.heap.size w wr) (fun _ i _ => a.length - (intOf i).toNat)
 case atStart => exact ⟨0, [], by omega, rfl, Lib.hid rfl, Lib.hid (fun z hz => by cases hz), by simp, OwnBq.nil, hB⟩
 case round =>
  clear hB
  obtain ⟨k, out0, hk, rfl, HK, HOO, hol, hw, hB⟩ := hrel
  by_cases hlt : k < a.length
  ·obtain ⟨ad, x, A1, c1, A2, c2, A3, c3, e1, had, hx, hpx, q0, q1, q2, q3⟩ := ha.elemB hB hlt
   subst e1
   have HX := Lib.hid hx
   have hox := HOA.out x (List.mem_of_getElem? hx)
   clear hx
   have k8 := Blk.new wr 61 #[.int .i64 x.k, .slice A1 x.r.length c1, .slice A2 x.m.length c2, .slice A3 x.s.length c3]
   have hne := fun e => Nat.lt_irrefl _ (hw.lt _ e).2
   have hq := (Below.refl wr.heap.size wr).alloc (Nat.le_refl _) (Obj.cells #[.int .i64 x.k, .slice A1 x.r.length c1, .slice A2 x.m.length c2, .slice A3 x.s.length c3] 61)
   go_upto_region 5 with fail
   replace hB := below_grows hB (Nat.le_refl _) hq
   replace hw := hw.grows hq
   clear hq q0 q1 q2 q3
   generalize World.alloc wr _ = w5 at *
   generalize wr.heap.size = G8 at *
   have hB5 := hB
   clear hB
   go_wp2_with fail
   go_loopw [8, 23] (fun v i wq => ∃ (j : Nat) (out : List Bx), j ≤ b.length ∧ i = .int .i64 j ∧ Hid ((b.take j).foldl (prodStep dd x) (some out0) = some out) ∧ Hid (∀ z ∈ out, OKB z) ∧ out.length ≤ 64 ∧ OwnBq wq w.heap.size (Ge w.heap.size) v out ∧ v.ownBlock ≠ some G8 ∧ Blk wq G8 61 #[.int .i64 x.k, .slice A1 x.r.length c1, .slice A2 x.m.length c2, .slice A3 x.s.length c3] ∧ Below w.heap.size w wq) (fun _ i _ => b.length - (intOf i).toNat)
   case atStart => exact ⟨0, out0, by omega, rfl, Lib.hid rfl, HOO, hol, hw, hne, k8, hB5⟩
   case round =>
    clear hw k8 hB5 HOO hol hne
    obtain ⟨j, out, hj, rfl, HJ, HOO, hol, hw, hne, k8, hB⟩ := hrel
    by_cases hjt : j < b.length
    ·obtain ⟨ad2, y, B1, d1, B2, d2, B3, d3, e2, had2, hy, hpy, q0, q1, q2, q3⟩ := hb.elemB hB hjt
     subst e2
     have HY := Lib.hid hy
     have hoy := HOB.out y (List.mem_of_getElem? hy)
     clear hy
     have k10 := Blk.new wr 61 #[.int .i64 y.k, .slice B1 y.r.length d1, .slice B2 y.m.length d2, .slice B3 y.s.length d3]
     have hq := (Below.refl wr.heap.size wr).alloc (Nat.le_refl _) (Obj.cells #[.int .i64 y.k, .slice B1 y.r.length d1, .slice B2 y.m.length d2, .slice B3 y.s.length d3] 61)
     go_upto_region 8 with fail
     replace hB := below_grows hB (Nat.le_refl _) hq
     replace hw := hw.grows hq
     replace k8 := k8.grows hq
     clear hq q0 q1 q2 q3
     generalize World.alloc wr _ = w6 at *
     generalize wr.heap.size = G10 at *
     have x8 := k8.cell
     have x10 := k10.cell
     have hown := hw.lt
     go_wp2_with fail
     have hcon := meet_any dd (hpx.grows hB) (hpy.grows hB) hox hoy
     clear x8 x10 k10
     rcases meet_three (d := dd) hox hoy with ⟨hs, hm⟩ | ⟨hs, hm2, hm⟩ | ⟨hs, hm2, hm, hoz⟩
     ·have HN : Hid ((b.take (j + 1)).foldl (prodStep dd x) (some out0) = some out) := Lib.hid (by rw [fold_next HY.out, HJ.out]; exact prodStep_no hs)
      clear hs
      rw [hm] at hcon
      refine hcon.mono ?_
      rintro e w7 ⟨⟨A9, c9, rfl, hc9, hx9⟩, hq⟩
      replace hx9 : Bxs w7 (Aq (Ge w.heap.size) _) A9 _ := hx9.mono fun k hk => ⟨by have h8 := hB.size; unfold Ge at *; omega, fun e => by have h9 := (hown _ e).2; unfold Ge at hk; omega⟩
      replace hB := below_grows hB (Nat.le_refl _) hq
      replace hw := hw.grows hq
      replace k8 := k8.grows hq
      clear hq hcon hown hm
      go_upto_region 11 with fail
      refine wp_region_lit ?_
      iterate 2
       refine wpList_plain rfl (fun K hK => ?_)
       go_simp
       refine hK _ _ ?_
       clear hK K
      have hown3 := hw.lt
      refine wpList_append_boxesq rfl (.tmp 37) (.tmp 38) rfl (m := []) rfl rfl hw rfl hx9 (by simp only [List.length_nil]; omega) hB.size ?_
      intro v5 w12 ho2 hgr hv5
      have hne2 : v5.ownBlock ≠ some G8 := by
       rcases hv5 with e | e
       ·rw [e]; exact hne
       ·rw [e]; intro e2; injection e2 with e2; have := k8.lt; omega
      replace hB := hB.grown hgr hB.size (fun q e => (hown3 q e).1)
      replace k8 := k8.grown hgr (fun e => hne e.symm)
      clear hown3 hgr hw hx9
      rw [List.append_nil] at ho2
      obtain ⟨A7, c7, rfl, hc7, -⟩ := ho2.read
      have dq : decide ((64 : Int) < (out.length : Int)) = false := by simp only [decide_eq_false_iff_not]; omega
      have dq2 : decide (64 < out.length) = false := by simp only [decide_eq_false_iff_not]; omega
      go_wp2
      go_roundw
      case rel => exact ⟨j + 1, out, by omega, by go_num, HN, HOO, hol, ho2, hne2, k8, hB⟩
      case measure => simp [intOf]; omega
     ·have HE : Hid (productF dd a b = ([], 3)) := Lib.hid (prodn_lim (prod_stop HX.out HY.out HK.out HJ.out (prodStep_stop hs (.inl hm2))))
      clear hs hm2
      rw [hm] at hcon
      refine hcon.mono ?_
      rintro e w7 ⟨⟨A9, c9, rfl, hc9, hx9⟩, hq⟩
      replace hx9 : Bxs w7 (Aq (Ge w.heap.size) _) A9 _ := hx9.mono fun k hk => ⟨by have h8 := hB.size; unfold Ge at *; omega, fun e => by have h9 := (hown _ e).2; unfold Ge at hk; omega⟩
      replace hB := below_grows hB (Nat.le_refl _) hq
      replace hw := hw.grows hq
      replace k8 := k8.grows hq
      clear hq hcon hown hm
      clear hx9
      go_wp2
      refine bodyPost_ret (v := .tuple #[.slice none 0 0, .int .i64 3]) (by simp [results, Tryz.results28, go_sem]) rfl ?_
      rw [HE.out]
      exact ⟨⟨_, rfl, OwnBq.nil⟩, hB⟩
     ·have HN0 : Hid (out.length < 64 → (b.take (j + 1)).foldl (prodStep dd x) (some out0) = some (out ++ [dimsF dd x y])) := Lib.hid (fun h => by rw [fold_next HY.out, HJ.out]; exact prodStep_yes hs hm2 h)
      have HE0 : Hid (64 ≤ out.length → productF dd a b = ([], 3)) := Lib.hid (fun h => prodn_lim (prod_stop HX.out HY.out HK.out HJ.out (prodStep_stop hs (.inr h))))
      have HOO2 := Lib.hid (fb_snoc HOO.out hoz)
      clear hs hm2
      generalize dimsF dd x y = z at *
      rw [hm] at hcon
      refine hcon.mono ?_
      rintro e w7 ⟨⟨A9, c9, rfl, hc9, hx9⟩, hq⟩
      replace hx9 : Bxs w7 (Aq (Ge w.heap.size) _) A9 _ := hx9.mono fun k hk => ⟨by have h8 := hB.size; unfold Ge at *; omega, fun e => by have h9 := (hown _ e).2; unfold Ge at hk; omega⟩
      replace hB := below_grows hB (Nat.le_refl _) hq
      replace hw := hw.grows hq
      replace k8 := k8.grows hq
      clear hq hcon hown hm
      go_upto_region 11 with fail
      refine wp_region_lit ?_
      iterate 2
       refine wpList_plain rfl (fun K hK => ?_)
       go_simp
       refine hK _ _ ?_
       clear hK K
      have hown3 := hw.lt
      refine wpList_append_boxesq rfl (.tmp 37) (.tmp 38) rfl (m := [z]) rfl rfl hw rfl hx9 (by simp only [List.length_singleton]; omega) hB.size ?_
      intro v5 w12 ho2 hgr hv5
      have hne2 : v5.ownBlock ≠ some G8 := by
       rcases hv5 with e | e
       ·rw [e]; exact hne
       ·rw [e]; intro e2; injection e2 with e2; have := k8.lt; omega
      replace hB := hB.grown hgr hB.size (fun q e => (hown3 q e).1)
      replace k8 := k8.grown hgr (fun e => hne e.symm)
      clear hown3 hgr hw hx9
      have hlen2 : (out ++ [z]).length = out.length + 1 := by rw [List.length_append, List.length_singleton]
      generalize out ++ [z] = out2 at *
      obtain ⟨A7, c7, rfl, hc7, -⟩ := ho2.read
      have HL2 := Lib.hid hlen2
      by_cases h1 : 64 ≤ out.length
      ·have HE := Lib.hid (HE0.out h1)
       have dq : decide ((64 : Int) < (out2.length : Int)) = true := by simp only [decide_eq_true_eq]; omega
       have dq2 : decide (64 < out2.length) = true := by simp only [decide_eq_true_eq]; omega
       clear h1 hlen2
       go_wp2
       refine bodyPost_ret (v := .tuple #[.slice none 0 0, .int .i64 3]) (by simp [results, Tryz.results28, go_sem]) rfl ?_
       rw [HE.out]
       exact ⟨⟨_, rfl, OwnBq.nil⟩, hB⟩
      ·have HN := Lib.hid (HN0.out (by omega))
       have hol2 : out2.length ≤ 64 := by omega
       have dq : decide ((64 : Int) < (out2.length : Int)) = false := by simp only [decide_eq_false_iff_not]; omega
       have dq2 : decide (64 < out2.length) = false := by simp only [decide_eq_false_iff_not]; omega
       clear h1 hlen2
       go_wp2
       go_roundw
       case rel => exact ⟨j + 1, out2, by omega, by go_num, HN, HOO2, hol2, ho2, hne2, k8, hB⟩
       case measure => simp [intOf]; omega
    ·have HN : Hid ((a.take (k + 1)).foldl (prodRow dd b) (some []) = some out) := Lib.hid (by rw [fold_next HX.out, HK.out]; have := HJ.out; rwa [List.take_of_length_le (by omega)] at this)
     go_wp2
     go_roundw
     case rel => exact ⟨k + 1, out, by omega, by go_num, HN, HOO, hol, hw, hB⟩
     case measure => simp [intOf]; omega
  ·have HE : Hid (productF dd a b = reduceF out0) := Lib.hid (prodn_ok (by have := HK.out; rwa [List.take_of_length_le (by omega)] at this))
   obtain ⟨A9, c9, rfl, hc9, hxo⟩ := hw.read
   go_wp2_with fail
   refine (preduce_any rfl hxo (by omega) HOO.out).mono ?_
   rintro e w3 ⟨⟨v, rfl, hw2⟩, hq2⟩
   have hs := hB.size
   replace hB := below_grows hB (Nat.le_refl _) hq2
   go_wp2
   refine bodyPost_ret (v := .tuple #[v, .int .i64 (reduceF out0).2]) (by simp [results, Tryz.results28, go_sem]) rfl ?_
   rw [HE.out]
   exact ⟨⟨_, rfl, hw2.lower hs (fun k hk => by unfold Ge at *; omega)⟩, hB⟩
end Go.Proofs.YtjbkjgmcfommgaaGreat

namespace Go.Proofs.YtjbkjgmcfommgaaGreat
open Go.RowKit
theorem bl1_any {G : Nat} (p s : Int) {w : World} (kG : Blk w G 3 #[.int .i64 s]) :
 Calls Tryz.prog 54 #[.int .i64 p, .pointer (some ⟨G, 0, none⟩)] w fun e w' => e = .returned (.bool (bits .and .i64 p s == s)) ∧ Grows w w' := by
 have hB := Below.refl w.heap.size w
 have x0 := kG.cell
 go_enter Tryz.func54, Tryz.ntmps54
 go_wp2
 go_ret
 exact ⟨rfl, hB⟩
set_option maxHeartbeats 4000000 in
theorem idx_bl (G : Nat) {n : Nat} (A : Option Addr) (c : Nat) (l : List Int) (s : Int) (w : World) (kG : Blk w G 3 #[.int .i64 s]) (hn : n = l.length) (h : Ints w A l) (hl : l.length ≤ 9223372036854775807) :
 Calls Tryz.prog 86 #[.slice A n c, .func (.func 54) #[] #[.pointer (some ⟨G, 0, none⟩)]] w fun e w' => e = .returned (.int .i64 (placeZ (l.findIdx? fun p => bits .and .i64 p s == s))) ∧ Grows w w' := by
 subst hn
 go_enter Tryz.func86, Tryz.ntmps86
 go_wp2_with fail
 go_loopw [8] (fun i wr => ∃ k : Nat, k ≤ l.length ∧ i = .int .i64 k ∧ Hid ((l.take k).findIdx? (fun p => bits .and .i64 p s == s) = none) ∧ Grows w wr) (fun i _ => l.length - (intOf i).toNat)
 case atStart => exact ⟨0, by omega, rfl, Lib.hid rfl, Below.refl _ _⟩
 case round =>
  obtain ⟨k, hk, rfl, hf, hB⟩ := hrel
  by_cases hlt : k < l.length
  ·obtain ⟨ad, x, rfl, had, hx, q0⟩ := (h.grows hB).at_ hlt
   have HX := Lib.hid hx
   clear hx
   go_wp2_with fail
   refine (bl1_any x s (kG.grows hB)).mono ?_
   rintro e w2 ⟨rfl, hq⟩
   replace hB := below_grows hB (Nat.le_refl _) hq
   clear hq q0
   cases e : (bits .and .i64 x s == s)
   ·have HE := Lib.hid (idx_upU hf.out HX.out e)
    go_wp2
    go_roundw
    case rel => exact ⟨k + 1, by omega, by go_num, HE, hB⟩
    case measure => simp [intOf]; omega
   ·have HE := Lib.hid (idx_atU hf.out HX.out e)
    go_wp2
    go_ret
    rw [HE.out]
    exact ⟨rfl, hB⟩
  ·have HE : Hid (l.findIdx? (fun p => bits .and .i64 p s == s) = none) := Lib.hid (by have := hf.out; rwa [List.take_of_length_le (by omega)] at this)
   go_wp2
   go_ret
   rw [HE.out]
   exact ⟨rfl, hB⟩
theorem cont_bl (G : Nat) {n : Nat} (A : Option Addr) (c : Nat) (l : List Int) (s : Int) (w : World) (kG : Blk w G 3 #[.int .i64 s]) (hn : n = l.length) (h : Ints w A l) (hl : l.length ≤ 9223372036854775807) :
 Calls Tryz.prog 53 #[.slice A n c, .func (.func 54) #[] #[.pointer (some ⟨G, 0, none⟩)]] w fun e w' => e = .returned (.bool (l.any fun p => bits .and .i64 p s == s)) ∧ Grows w w' := by
 subst hn
 rw [← place_anyU]
 go_enter Tryz.func53, Tryz.ntmps53
 go_wp2_with fail
 refine (idx_bl G A c l s _ kG rfl h hl).mono ?_
 rintro e w2 ⟨rfl, hq⟩
 generalize hz : placeZ (l.findIdx? fun p => bits .and .i64 p s == s) = z
 have HZ := Lib.hid hz
 clear hz
 go_wp2
 go_ret
 rw [HZ.out]
 exact ⟨rfl, hq⟩
end Go.Proofs.YtjbkjgmcfommgaaGreat

namespace Go.Proofs.YtjbkjgmcfommgaaGreat
open Go.RowKit
def worthL (d : Int) (a b : List Bx) : List Int := (pairsL a b).map (worth d)
theorem worth_snoc {d : Int} {a b : List Bx} {k : Nat} {x : Bx} (h : a[k]? = some x) : worthL d (a.take (k + 1)) b = worthL d (a.take k) b ++ b.map fun y => worth d (x, y) := by
 unfold worthL pairsL
 rw [take_snoc h, List.flatMap_append, List.map_append]
 congr 1
 simp
theorem worth_row {d : Int} {b : List Bx} {k : Nat} {x y : Bx} (h : b[k]? = some y) : (b.take (k + 1)).map (fun y => worth d (x, y)) = (b.take k).map (fun y => worth d (x, y)) ++ [worth d (x, y)] := by
 rw [take_snoc h, List.map_append]
 rfl
theorem worth_len (d : Int) (a b : List Bx) : (worthL d a b).length = a.length * b.length := by
 unfold worthL
 rw [List.length_map, pairs_len]
theorem worth_any (d : Int) (a b : List Bx) (s : Int) : ((worthL d a b).any fun p => bits .and .i64 p s == s) = metG d (pairsL a b) s := by
 unfold worthL metG
 rw [List.any_map]
 rfl
theorem blG_bd (f : Int → Bool) (n : Nat) (h : n ≤ 14) : 1 ≤ blG f n ∧ blG f n ≤ 15 := by
 rcases (blG_least f n h).1 with e | ⟨s, e, h1, h2, -⟩ <;> rw [e] <;> omega
def ptrN (w : World) (v : Value) : Nat := match v with
 | .pointer (some ad) => (match w.cell? ad with | some u => (intOf u).toNat | none => 0)
 | _ => 0
theorem ptrN_blk {w : World} {G : Nat} {t : TypeId} {s : Int} (k : Blk w G t #[.int .i64 s]) : ptrN w (.pointer (some ⟨G, 0, none⟩)) = s.toNat := by
 show (match w.cell? ⟨G, 0, none⟩ with | some u => (intOf u).toNat | none => 0) = _
 rw [k.cell 0]
 rfl
theorem ptr_less {p q : Nat} {s : Int} (h : p = s.toNat) (h2 : q = (s + 1).toNat) (h1 : 1 ≤ s) (h3 : s ≤ 14) : 16 - q < 16 - p := by omega
set_option maxHeartbeats 64000000 in
set_option maxRecDepth 10000 in
theorem nblame_any {ba bb : Nat → Prop} {A B : Option Addr} {c d n m : Nat} {a b : List Bx} {w : World} (dd : Int) (hn : n = a.length) (hm : m = b.length) (ha : Bxs w ba A a) (hb : Bxs w bb B b) (hla : a.length ≤ 64) (hlb : b.length ≤ 64) (hoa : ∀ x ∈ a, FB x) (hob : ∀ x ∈ b, FB x) :
 Calls Tryz.prog 29 #[.slice A n c, .slice B m d, .int .i64 dd] w fun e w' => e = .returned (.int .i64 (ngBlame dd a b)) ∧ Grows w w' := by
 subst hn hm
 have HOA := Lib.hid hoa
 have HOB := Lib.hid hob
 clear hoa hob
 have hB := Below.refl w.heap.size w
 go_enter Tryz.func29, Tryz.ntmps29
 go_wp2_with fail
 go_loopw [7, 17] (fun v i wr => ∃ k : Nat, k ≤ a.length ∧ i = .int .i64 k ∧ OwnI wr w.heap.size v (worthL dd (a.take k) b) ∧ Below w.heap.size w wr) (fun _ i _ => a.length - (intOf i).toNat)
 case atStart => exact ⟨0, by omega, rfl, ownI_nil _ _, hB⟩
 case round =>
  clear hB
  obtain ⟨k, hk, rfl, ho, hB⟩ := hrel
  by_cases hlt : k < a.length
  ·obtain ⟨ad, x, A1, c1, A2, c2, A3, c3, e1, had, hx, hpx, q0, q1, q2, q3⟩ := ha.elemB hB hlt
   subst e1
   have HX := Lib.hid hx
   have hox := HOA.out x (List.mem_of_getElem? hx)
   have HWS := Lib.hid (worth_snoc (d := dd) (b := b) hx)
   have hwl : (worthL dd (a.take k) b).length ≤ 4096 := by
    rw [worth_len, List.length_take]
    exact Nat.le_trans (Nat.mul_le_mul (Nat.le_trans (Nat.min_le_right _ _) hla) hlb) (by omega)
   generalize worthL dd (a.take k) b = L0 at *
   clear hx
   have k8 := Blk.new wr 61 #[.int .i64 x.k, .slice A1 x.r.length c1, .slice A2 x.m.length c2, .slice A3 x.s.length c3]
   have hne : ∀ v, OwnI wr w.heap.size v L0 → v.ownBlock ≠ some wr.heap.size := fun v h e => Nat.lt_irrefl _ (h.lt _ e).2
   have hne := hne _ ho
   have hq := (Below.refl wr.heap.size wr).alloc (Nat.le_refl _) (Obj.cells #[.int .i64 x.k, .slice A1 x.r.length c1, .slice A2 x.m.length c2, .slice A3 x.s.length c3] 61)
   go_upto_region 5 with fail
   replace hB := below_grows hB (Nat.le_refl _) hq
   replace ho := ho.grows hq
   clear hq q0 q1 q2 q3
   generalize World.alloc wr _ = w5 at *
   generalize wr.heap.size = G8 at *
   have hB5 := hB
   clear hB
   go_wp2_with fail
   go_loopw [7, 23] (fun v i wq => ∃ j : Nat, j ≤ b.length ∧ i = .int .i64 j ∧ OwnI wq w.heap.size v (L0 ++ (b.take j).map fun y => worth dd (x, y)) ∧ v.ownBlock ≠ some G8 ∧ Blk wq G8 61 #[.int .i64 x.k, .slice A1 x.r.length c1, .slice A2 x.m.length c2, .slice A3 x.s.length c3] ∧ Below w.heap.size w wq) (fun _ i _ => b.length - (intOf i).toNat)
   case atStart => exact ⟨0, by omega, rfl, by rw [List.take_zero, List.map_nil, List.append_nil]; exact ho, hne, k8, hB5⟩
   case round =>
    clear ho k8 hB5 hne
    obtain ⟨j, hj, rfl, ho, hne, k8, hB⟩ := hrel
    by_cases hjt : j < b.length
    ·obtain ⟨ad2, y, B1, d1, B2, d2, B3, d3, e2, had2, hy, hpy, q0, q1, q2, q3⟩ := hb.elemB hB hjt
     subst e2
     have hoy := HOB.out y (List.mem_of_getElem? hy)
     have HR := Lib.hid (worth_row (d := dd) (x := x) hy)
     have hrl : (L0 ++ (b.take j).map fun y => worth dd (x, y)).length ≤ 5000 := by rw [List.length_append, List.length_map, List.length_take]; omega
     have HW : Hid (worth dd (x, y) = bits .or .i64 (shF x y 4) (bits .andNot .i64 15 dd)) := Lib.hid rfl
     have HN : Hid ((L0 ++ (b.take (j + 1)).map fun y => worth dd (x, y)) = (L0 ++ (b.take j).map fun y => worth dd (x, y)) ++ [worth dd (x, y)]) := Lib.hid (by rw [HR.out, List.append_assoc])
     generalize (L0 ++ (b.take j).map fun y => worth dd (x, y)) = q at *
     clear hy
     have k10 := Blk.new wr 61 #[.int .i64 y.k, .slice B1 y.r.length d1, .slice B2 y.m.length d2, .slice B3 y.s.length d3]
     have hq := (Below.refl wr.heap.size wr).alloc (Nat.le_refl _) (Obj.cells #[.int .i64 y.k, .slice B1 y.r.length d1, .slice B2 y.m.length d2, .slice B3 y.s.length d3] 61)
     go_upto_region 8 with fail
     replace hB := below_grows hB (Nat.le_refl _) hq
     replace ho := ho.grows hq
     replace k8 := k8.grows hq
     clear hq q0 q1 q2 q3
     generalize World.alloc wr _ = w6 at *
     generalize wr.heap.size = G10 at *
     have x8 := k8.cell
     have x10 := k10.cell
     refine wp_region_lit ?_
     iterate 3
      refine wpList_plain rfl (fun K hK => ?_)
      go_simp
      refine hK _ _ ?_
      clear hK K
     refine wpList_plain rfl (fun K hK => ?_)
     go_simp
     refine (shared_any (hpx.grows hB) (hpy.grows hB) hox hoy).mono ?_
     rintro e w7 ⟨rfl, hq⟩
     refine hK _ _ ?_
     clear hK K
     replace hB := below_grows hB (Nat.le_refl _) hq
     replace ho := ho.grows hq
     replace k8 := k8.grows hq
     clear hq x8 x10 k10
     iterate 3
      refine wpList_plain rfl (fun K hK => ?_)
      go_simp
      refine hK _ _ ?_
      clear hK K
     rw [← HW.out]
     generalize worth dd (x, y) = wt at *
     have hr := ints_lits w7 [wt] #[.int .i64 wt] 3 rfl
     have hq := (Below.refl w7.heap.size w7).alloc (Nat.le_refl _) (Obj.cells #[.int .i64 wt] 3)
     iterate 1
      refine wpList_plain rfl (fun K hK => ?_)
      go_simp
      refine hK _ _ ?_
      clear hK K
     have ho1 := ho.grows hq
     replace k8 := k8.grows hq
     have hown3 := ho1.lt
     refine wpList_append_int rfl (.tmp 27) (.tmp 34) rfl (l := q) (m := [wt]) rfl rfl ho1 rfl hr (by simp only [List.length_cons, List.length_nil]; omega) (Nat.le_trans hB.size hq.size) ?_
     intro v5 w12 ho2 hgr hv5
     have hne2 : v5.ownBlock ≠ some G8 := by
      rcases hv5 with e | e
      ·rw [e]; exact hne
      ·rw [e]; intro e2; injection e2 with e2; have := k8.lt; omega
     have hB2 := ho1.below (below_grows hB (Nat.le_refl _) hq) hgr (Nat.le_trans hB.size hq.size)
     replace k8 := k8.grown hgr (fun e => hne e.symm)
     clear hq hgr ho ho1 hB hr hown3
     rw [← HN.out] at ho2
     go_wp2
     go_roundw
     case rel => exact ⟨j + 1, by omega, by go_num, ho2, hne2, k8, hB2⟩
     case measure => simp [intOf]; omega
    ·have HL : Hid (worthL dd (a.take (k + 1)) b = L0 ++ (b.take j).map fun y => worth dd (x, y)) := Lib.hid (by rw [HWS.out, List.take_of_length_le (by omega)])
     rw [← HL.out] at ho
     go_wp2
     go_roundw
     case rel => exact ⟨k + 1, by omega, by go_num, ho, hB⟩
     case measure => simp [intOf]; omega
  ·rw [List.take_of_length_le (by omega)] at ho
   obtain ⟨Ap, cp, rfl, hcp, hip⟩ := ho.read
   have HNG : Hid (ngBlame dd a b = blG (metG dd (pairsL a b)) 14) := Lib.hid rfl
   have HMET := Lib.hid (fun s => worth_any dd a b s)
   have hpl : (worthL dd a b).length ≤ 4096 := by
    rw [worth_len]
    exact Nat.le_trans (Nat.mul_le_mul hla hlb) (by omega)
   generalize worthL dd a b = pl at *
   generalize metG dd (pairsL a b) = f at *
   clear ho
   have kG := Blk.new wr 3 #[.int .i64 1]
   have hq := (Below.refl wr.heap.size wr).alloc (Nat.le_refl _) (Obj.cells #[.int .i64 1] 3)
   go_wp2_with fail
   have hBS := hB
   have hipS := hip
   clear hB hip
   generalize hwS : wr = wS at *
   clear hwS
   go_loopw [12, 13] (fun bv pv wq => ∃ (n G : Nat) (s z : Int), n ≤ 14 ∧ Hid (s = (n : Int) + 1) ∧ pv = .pointer (some ⟨G, 0, none⟩) ∧ bv = .int .i64 z ∧ Hid (blG f n = z) ∧ wS.heap.size ≤ G ∧ Blk wq G 3 #[.int .i64 s] ∧ Grows wS wq) (fun _ p wq => 16 - ptrN wq p)
   case atStart => exact ⟨0, _, 1, 15, by omega, Lib.hid rfl, rfl, rfl, Lib.hid rfl, Nat.le_refl _, kG, hq⟩
   case round =>
    clear kG hq
    obtain ⟨n, G, s, z, hn, HS, rfl, rfl, HZ, hG, kG, hg⟩ := hrel
    have hmu : ptrN wr (.pointer (some ⟨G, 0, none⟩)) = s.toNat := ptrN_blk kG
    have HMU := Lib.hid hmu
    clear hmu
    have hsb : s = (n : Int) + 1 := HS.out
    have hs1 : 1 ≤ s := by omega
    have hzb := blG_bd f n hn
    rw [HZ.out] at hzb
    have HST : Hid (blG f (n + 1) = if (decide (ones s < ones z) && !f s) = true then s else z) := Lib.hid (by rw [hsb, ← HZ.out]; rfl)
    by_cases hlt : n < 14
    ·have hs14 : s ≤ 14 := by omega
     have HN1 : Hid (s + 1 = ((n + 1 : Nat) : Int) + 1) := Lib.hid (by omega)
     clear hsb
     have d3 : decide (s < 15) = true := by simp only [decide_eq_true_eq]; omega
     have u1 : IntKind.u64.wrap s = s := IntWalk.u64_in _ (by omega)
     have u2 : IntKind.u64.wrap z = z := IntWalk.u64_in _ (by omega)
     have hws : IntKind.i64.wrap (s + 1) = s + 1 := IntWalk.i64_in _ (by omega)
     have xG := kG.cell
     go_wp2_with fail
     have hcon := cont_bl G Ap cp pl s _ kG rfl (hipS.grows hg) (by omega)
     rw [HMET.out s] at hcon
     clear xG
     refine hcon.mono ?_
     rintro e w5 ⟨rfl, hq⟩
     replace hg := below_grows hg (Nat.le_refl _) hq
     replace kG := kG.grows hq
     clear hq hcon
     cases hv : f s
     ·have hstep : Hid (blG f (n + 1) = if ones s < ones z then s else z) := Lib.hid (by
       rw [HST.out, hv]
       by_cases h1 : ones s < ones z
       ·rw [if_pos h1, decide_eq_true h1]; rfl
       ·rw [if_neg h1, decide_eq_false h1]; rfl)
      clear hv HST
      have xG := kG.cell
      go_wp2_with fail
      refine (ones_any s _ (by omega) (by omega)).mono ?_
      rintro e w6 ⟨rfl, hq⟩
      replace hg := below_grows hg (Nat.le_refl _) hq
      replace kG := kG.grows hq
      clear hq xG
      go_wp2_with fail
      refine (ones_any z _ (by omega) (by omega)).mono ?_
      rintro e w7 ⟨rfl, hq⟩
      replace hg := below_grows hg (Nat.le_refl _) hq
      replace kG := kG.grows hq
      clear hq
      by_cases h1 : ones s < ones z
      ·have d4 : decide (ones s < ones z) = true := by simpa using h1
       have HZ2 : Hid (blG f (n + 1) = s) := Lib.hid (by rw [hstep.out, if_pos h1])
       clear h1
       have xG := kG.cell
       have lG := hg.size
       have kN := Blk.new w7 3 #[.int .i64 s]
       have hq := (Below.refl w7.heap.size w7).alloc (Nat.le_refl _) (Obj.cells #[.int .i64 s] 3)
       go_upto_region 14 with fail
       replace hg := below_grows hg (Nat.le_refl _) hq
       clear hq xG kG
       generalize World.alloc w7 _ = w8 at *
       generalize w7.heap.size = G2 at *
       have xN := kN.cell
       have fN := kN.frozen
       have kN2 := kN.set_ 0 (.int .i64 (s + 1))
       have hg2 := hg.setCell (p := ⟨G2, 0, none⟩) lG (.int .i64 (s + 1))
       clear hg kN
       go_wp2
       go_roundw
       case rel => exact ⟨n + 1, G2, s + 1, s, by omega, HN1, rfl, rfl, HZ2, lG, kN2, hg2⟩
       case measure => exact ptr_less (HMU.out) (ptrN_blk kN2) hs1 hs14
      ·have d4 : decide (ones s < ones z) = false := by simpa using h1
       have HZ2 : Hid (blG f (n + 1) = z) := Lib.hid (by rw [hstep.out, if_neg h1])
       clear h1
       have xG := kG.cell
       have lG := hg.size
       have kN := Blk.new w7 3 #[.int .i64 s]
       have hq := (Below.refl w7.heap.size w7).alloc (Nat.le_refl _) (Obj.cells #[.int .i64 s] 3)
       go_upto_region 14 with fail
       replace hg := below_grows hg (Nat.le_refl _) hq
       clear hq xG kG
       generalize World.alloc w7 _ = w8 at *
       generalize w7.heap.size = G2 at *
       have xN := kN.cell
       have fN := kN.frozen
       have kN2 := kN.set_ 0 (.int .i64 (s + 1))
       have hg2 := hg.setCell (p := ⟨G2, 0, none⟩) lG (.int .i64 (s + 1))
       clear hg kN
       go_wp2
       go_roundw
       case rel => exact ⟨n + 1, G2, s + 1, z, by omega, HN1, rfl, rfl, HZ2, lG, kN2, hg2⟩
       case measure => exact ptr_less (HMU.out) (ptrN_blk kN2) hs1 hs14
     ·have HZ2 : Hid (blG f (n + 1) = z) := Lib.hid (by rw [HST.out, hv, Bool.not_true, Bool.and_false, if_neg (by simp)])
      clear hv HST
      have xG := kG.cell
      have lG := hg.size
      have kN := Blk.new w5 3 #[.int .i64 s]
      have hq := (Below.refl w5.heap.size w5).alloc (Nat.le_refl _) (Obj.cells #[.int .i64 s] 3)
      go_upto_region 14 with fail
      replace hg := below_grows hg (Nat.le_refl _) hq
      clear hq xG kG
      generalize World.alloc w5 _ = w8 at *
      generalize w5.heap.size = G2 at *
      have xN := kN.cell
      have fN := kN.frozen
      have kN2 := kN.set_ 0 (.int .i64 (s + 1))
      have hg2 := hg.setCell (p := ⟨G2, 0, none⟩) lG (.int .i64 (s + 1))
      clear hg kN
      go_wp2
      go_roundw
      case rel => exact ⟨n + 1, G2, s + 1, z, by omega, HN1, rfl, rfl, HZ2, lG, kN2, hg2⟩
      case measure => exact ptr_less (HMU.out) (ptrN_blk kN2) hs1 hs14
    ·obtain rfl : n = 14 := by omega
     have hs15 : s = 15 := by omega
     subst hs15
     have HE : Hid (ngBlame dd a b = z) := Lib.hid (HNG.out.trans HZ.out)
     have xG := kG.cell
     have hB := below_grows hBS (Nat.le_refl _) hg
     go_wp2
     go_ret
     exact ⟨ret_int HE.out.symm, hB⟩
end Go.Proofs.YtjbkjgmcfommgaaGreat

namespace Go.Proofs.YtjbkjgmcfommgaaGreat
open Go.RowKit
set_option maxRecDepth 100000 in
theorem lb_info : ∃ i : TypeInfo, Tryz.prog.info? 45 = some i ∧ i.size = 1 ∧ i.bytes = 24 ∧ i.zero = some (.slice none 0 0) ∧ (Value.slice none 0 0).cells.size = 1 := ⟨_, by first | exact Tryz.info45 | rfl, rfl, rfl, rfl, rfl⟩
theorem Bxs.aq {w w' : World} {ok : Nat → Prop} {v v' : Value} {B : Option Addr} {x : List Bx} (h : Bxs w (Aq ok v) B x) (hg : w.grownBy w' v.ownBlock) (hv : v'.ownBlock = v.ownBlock ∨ v'.ownBlock = some w.heap.size) : Bxs w' (Aq ok v') B x :=
 (h.bd.grown hg (fun g e hh => hh.1.2 e)).mono (fun k hk => ⟨hk.1.1, fun e => by
   rcases hv with e2 | e2
   ·exact hk.1.2 (e2 ▸ e)
   ·rw [e2] at e
    injection e with e
    have := hk.2
    omega⟩)
/-- A row of slices of boxes of one's own, apart from what its members take. -/
def OwnLq (w : World) (base : Nat) (ok : Nat → Prop) (v : Value) (ls : List (List Bx)) : Prop :=
 ∃ vs, w.ownsRow base 45 1 v ls.length vs ∧ ∀ (i : Nat) (x : List Bx), ls[i]? = some x → ∃ B c, vs[i]? = some (.slice B x.length c) ∧ x.length ≤ c ∧ Bxs w (Aq ok v) B x
section
variable {w w' : World} {base : Nat} {ok : Nat → Prop} {v : Value} {ls : List (List Bx)}
theorem OwnLq.nil : OwnLq w base ok (.slice none 0 0) [] := ⟨[], World.ownsRow_nil w base _ 1, fun i x h => by simp at h⟩
theorem OwnLq.grows (h : OwnLq w base ok v ls) (hg : Grows w w') : OwnLq w' base ok v ls := by
 obtain ⟨vs, h1, h2⟩ := h
 exact ⟨vs, own_grows h1 hg, fun i x hx => by obtain ⟨B, c, e, hc, hi⟩ := h2 i x hx; exact ⟨B, c, e, hc, hi.grows hg⟩⟩
theorem OwnLq.lt (h : OwnLq w base ok v ls) : ∀ q, v.ownBlock = some q → base ≤ q ∧ q < w.heap.size := by
 obtain ⟨vs, h1, -⟩ := h
 exact World.ownsRow.lt h1
/-- A row of lists, read: its header, its elements. -/
theorem OwnLq.read (h : OwnLq w base ok v ls) : ∃ A c, v = .slice A ls.length c ∧ ls.length ≤ c ∧ ∃ vs, Reads w w.heap.size 1 A ls.length vs ∧ ∀ (i : Nat) (x : List Bx), ls[i]? = some x → ∃ B c, vs[i]? = some (.slice B x.length c) ∧ x.length ≤ c ∧ Bxs w (Aq ok v) B x := by
 obtain ⟨vs, h1, h2⟩ := h
 rcases h1.2 with ⟨rfl, hn⟩ | ⟨q, cap, cur, rfl, hbq, hg, hnc, hm, hs, ht⟩
 ·have e := List.eq_nil_of_length_eq_zero hn
  subst e
  exact ⟨none, 0, rfl, Nat.le_refl _, [], Reads.none_, fun i x h => by simp at h⟩
 ·exact ⟨_, cap, rfl, hnc, vs, Reads.of_own h1, h2⟩
end
theorem wpList_append_lq {ops : Array Oper} {rest : List Oper} {o : Oper} {a : Act} {w : World} {Q : Exit → Act → World → Prop} (hgd : o.guard = none) (s x : Operand) (ho : o.op = .call { callee := .builtin .append, args := #[s, x], argTypes := #[30, 30] })
 {base : Nat} {ok : Nat → Prop} {v : Value} {ls : List (List Bx)} {m : List Bx} {A B : Option Addr} {c cm : Nat} (hs : a.eval s = v) (hown : OwnLq w base ok v ls) (hx : a.eval x = .slice A 1 c) (hr : Reads w w.heap.size 1 A 1 [.slice B m.length cm]) (hlen : ls.length + 1 ≤ 1000000) (hbase : base ≤ w.heap.size)
 (hm : Bxs w (Aq ok v) B m) (hcm : m.length ≤ cm)
 (h : ∀ v' w', OwnLq w' base ok v' (ls ++ [m]) → w.grownBy w' v.ownBlock → (v'.ownBlock = v.ownBlock ∨ v'.ownBlock = some w.heap.size) → wpList Tryz.prog ops Q rest (a.put o.dst v') w') : wpList Tryz.prog ops Q (o :: rest) a w := by
 obtain ⟨i0, hi0, hi1, hi2, hi3, hi4⟩ := lb_info
 obtain ⟨vs, h1, h2⟩ := hown
 refine wpList_append_any w hgd s x 30 ho base 45 i0 _ 1 24 Tryz.underlying30 hi0 hi3 hi1 hi2 hi4 (by omega) v ls.length vs hs h1 w.heap.size A 1 c [.slice B m.length cm] hx hr (by intro u hu; simp only [List.mem_singleton] at hu; subst hu; rfl) (by simp only [maxLen]; omega) (by omega) hbase fun v' w' h3 h4 h5 => h v' w' ⟨vs ++ [.slice B m.length cm], by rw [List.length_append]; exact h3, fun i y hy => ?_⟩ h4 h5
 have hvl : vs.length = ls.length := by have := h1.1; omega
 by_cases hi : i < ls.length
 ·rw [List.getElem?_append_left hi] at hy
  obtain ⟨C, cy, e, hc, hi6⟩ := h2 i y hy
  exact ⟨C, cy, by rw [List.getElem?_append_left (by omega)]; exact e, hc, hi6.aq h4 h5⟩
 ·rw [List.getElem?_append_right (by omega)] at hy
  have hi0 : i - ls.length = 0 := by
   have := (List.getElem?_eq_some_iff.1 hy).1
   simp only [List.length_singleton] at this
   omega
  rw [hi0] at hy
  simp only [List.getElem?_cons_zero, Option.some.injEq] at hy
  subst hy
  exact ⟨B, cm, by rw [List.getElem?_append_right (by omega), show i - vs.length = 0 by omega]; rfl, hcm, hm.aq h4 h5⟩
end Go.Proofs.YtjbkjgmcfommgaaGreat

namespace Go.Proofs.YtjbkjgmcfommgaaGreat
open Go.RowKit
theorem one_fin : ∀ k : Fin 8, 1 ≤ k.val → kindsOk (2 ^ k.val : Int) = true ∧ I64 (2 ^ k.val : Int) ∧ ∀ j : Fin 8, kindB (2 ^ k.val : Int) (j.val : Int) = decide (j.val = k.val) := by
  unfold I64
  decide +kernel
theorem one_kind {k : Int} (h1 : 1 ≤ k) (h7 : k ≤ 7) : kindsOk (2 ^ k.toNat : Int) = true ∧ I64 (2 ^ k.toNat : Int) ∧ ∀ j, kindB (2 ^ k.toNat : Int) j = decide (j = k) := by
  obtain ⟨n, rfl⟩ : ∃ n : Nat, k = (n : Int) := ⟨k.toNat, by omega⟩
  obtain ⟨a1, a2, a3⟩ := one_fin ⟨n, by omega⟩ (by show 1 ≤ n; omega)
  refine ⟨a1, a2, fun j => ?_⟩
  by_cases hj : 1 ≤ j ∧ j ≤ 7
  · obtain ⟨i, rfl⟩ : ∃ i : Nat, j = (i : Int) := ⟨j.toNat, by omega⟩
    have := a3 ⟨i, by omega⟩
    refine this.trans ?_
    rw [Bool.eq_iff_iff, decide_eq_true_eq, decide_eq_true_eq]
    show i = n ↔ (i : Int) = (n : Int)
    omega
  · rw [kind_out hj, decide_eq_false (by omega)]
theorem one_span {r n : Int} (h : okS [(r, r)] = true) : hasF [(r, r)] n = decide (n = r) := by
  rw [Bool.eq_iff_iff, hasF_iff h, decide_eq_true_eq, mem_cons]
  constructor
  · rintro (h | h)
    · have : r ≤ n ∧ n ≤ r := h
      omega
    · exact absurd h (mem_nil n)
  · rintro rfl
    exact .inl ⟨Int.le_refl _, Int.le_refl _⟩
theorem one_has {c : Ch} (h : fineB (oneB c) = true) (h1 : 1 ≤ c.k) (h7 : c.k ≤ 7) (d : Ch) : inB (oneB c) d = decide (d = c) := by
  obtain ⟨f1, f2, f3, f4⟩ := fineB_all.1 h
  have e : inB (oneB c) d = (kindB (2 ^ c.k.toNat : Int) d.k && hasF [(c.r, c.r)] d.r && decide (d.m ∈ [c.m]) && hasF [(c.s, c.s)] d.s) := rfl
  rw [e, (one_kind h1 h7).2.2, one_span (within_iff.1 f2).1, one_span (within_iff.1 f3).1, Bool.eq_iff_iff]
  simp only [Bool.and_eq_true, decide_eq_true_eq, List.mem_singleton]
  obtain ⟨k, r, m, s⟩ := c
  obtain ⟨k2, r2, m2, s2⟩ := d
  simp only [Ch.mk.injEq]
  constructor
  · rintro ⟨⟨⟨h1, h2⟩, h3⟩, h4⟩
    exact ⟨h1, h2, h3, h4⟩
  · rintro ⟨h1, h2, h3, h4⟩
    exact ⟨⟨⟨h1, h2⟩, h3⟩, h4⟩
theorem span_one {n lo hi : Int} (h0 : 0 ≤ n) (h1 : lo ≤ n) (h2 : n ≤ hi) (h3 : n ≤ 2147483647) : withinS [(n, n)] lo hi = true := by
  refine within_iff.2 ⟨(okS_iff _).2 ⟨fun x hx => ?_, ?_, by simp⟩, by simp, fun x hx => ?_⟩
  · simp only [List.mem_singleton] at hx
    subst hx
    exact (fineS_iff _).2 ⟨h0, Int.le_refl _, h3⟩
  · exact canon_cons.2 ⟨Int.le_refl _, (fun y hy => (by cases hy)), canon_nil⟩
  · simp only [List.mem_singleton] at hx
    subst hx
    exact ⟨h1, h2⟩
theorem one_fine {x : Bx} (hx : FB x) {c : Ch} (h : inB x c = true) : 1 ≤ c.k ∧ c.k ≤ 7 ∧ fineB (oneB c) = true := by
  obtain ⟨i1, i2, i3, i4⟩ := inB_iff.1 h
  obtain ⟨k1, k7⟩ := kindB_rng i1
  obtain ⟨f1, f2, f3, f4⟩ := fineB_all.1 hx.1
  obtain ⟨g1, g2, g3, g4⟩ := maps_iff.1 f4
  obtain ⟨-, -, wr⟩ := within_iff.1 f2
  obtain ⟨-, -, ws⟩ := within_iff.1 f3
  refine ⟨k1, k7, fineB_all.2 ⟨(one_kind k1 k7).1, ?_, ?_, maps_iff.2 ⟨Nat.le_refl _, by simp [oneB], fun y hy => ?_, by simp [oneB]⟩⟩⟩
  · obtain ⟨z, hz, z1, z2⟩ := (hasF_iff hx.r c.r).1 i2
    have := wr z hz
    exact span_one (by omega) (by omega) (by omega) (by omega)
  · obtain ⟨z, hz, z1, z2⟩ := (hasF_iff hx.s c.s).1 i4
    have := ws z hz
    exact span_one (by omega) (by omega) (by omega) (by omega)
  · have hy : y ∈ [c.m] := hy
    simp only [List.mem_singleton] at hy
    exact hy ▸ g3 c.m i3
theorem fl_single (c : Ch) : FL (singleF c) ∧ Small (singleF c) ∧ (singleF c).length ≤ 1 := by
  unfold singleF
  split
  · rename_i h
    refine ⟨⟨fun b hb => ?_, by simp⟩, fun b hb => ?_, by simp⟩
    · simp only [List.mem_singleton] at hb
      subst hb
      exact ⟨h.2.2, (one_kind h.1 h.2.1).2.1⟩
    · simp only [List.mem_singleton] at hb
      subst hb
      exact ⟨by simp [oneB], by simp [oneB]⟩
  · exact ⟨⟨fun b hb => (by cases hb), by simp⟩, fun b hb => (by cases hb), by simp⟩
end Go.Proofs.YtjbkjgmcfommgaaGreat

