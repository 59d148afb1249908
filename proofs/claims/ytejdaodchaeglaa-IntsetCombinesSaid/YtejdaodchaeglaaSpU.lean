/-
  Layer 9: the plain law of intersections and unions of sets that are in form. No program in sight.
-/
import Derived.Test.YtejdaodchaeglaaSpT
import Derived.Test.YtejdaodchaeglaaSpS
import Derived.Test.YtejdaodchaeglaaSpM
import Derived.Test.YtejdaodchaeglaaSetNear
namespace Go.Proofs.Ytejdaodchaeglaa
/-- The union and the intersection of two sets. -/
def unionL (a b : List Sp) : List Sp := formS (a ++ b)
def FineL (l : List Sp) : Prop := ∀ x ∈ l, fineS x = true
theorem ok_fine {l : List Sp} (h : okS l = true) : FineL l := ((okS_iff l).1 h).1
theorem ok_canon {l : List Sp} (h : okS l = true) : Canon l := ((okS_iff l).1 h).2.1
theorem ok_spans {l : List Sp} (h : okS l = true) : spansF l = l := if_pos h
theorem fine_app {a b : List Sp} (ha : FineL a) (hb : FineL b) : FineL (a ++ b) := fun x hx => (List.mem_append.1 hx).elim (ha x) (hb x)
theorem union_fine {a b : List Sp} (ha : FineL a) (hb : FineL b) : FineL (unionL a b) := form_fine (fine_app ha hb)
theorem union_canon {a b : List Sp} (ha : FineL a) (hb : FineL b) : Canon (unionL a b) := (formS_forms (fine_app ha hb)).1
theorem union_mem {a b : List Sp} (ha : FineL a) (hb : FineL b) (n : Int) : Mem (unionL a b) n ↔ Mem a n ∨ Mem b n :=
  ((formS_forms (fine_app ha hb)).2.1 n).trans (mem_append a b n)
theorem union_len {a b : List Sp} (ha : FineL a) (hb : FineL b) : (unionL a b).length ≤ a.length + b.length := by
  have := (formS_forms (fine_app ha hb)).2.2
  rwa [List.length_append] at this
theorem union_ok {a b : List Sp} (ha : FineL a) (hb : FineL b) (h : a.length + b.length ≤ 64) : okS (unionL a b) = true :=
  (okS_iff _).2 ⟨union_fine ha hb, union_canon ha hb, Nat.le_trans (union_len ha hb) h⟩
theorem inter_fine {a b : List Sp} (ha : FineL a) : FineL (interF a b) := by
  intro z hz
  unfold interF at hz
  obtain ⟨x, hx, hz⟩ := List.mem_flatMap.1 hz
  obtain ⟨y, hy, hz⟩ := List.mem_flatMap.1 hz
  unfold cutS at hz
  have hf := (fineS_iff x).1 (ha x hx)
  split at hz
  · simp only [List.mem_cons, List.not_mem_nil, or_false] at hz
    subst hz
    rw [fineS_iff]
    simp only []
    omega
  · cases hz
theorem inter_ok {a b : List Sp} (ha : okS a = true) (hb : okS b = true) (h : a.length + b.length ≤ 64) : okS (interF a b) = true :=
  (okS_iff _).2 ⟨inter_fine (ok_fine ha), (inter_form a b (ok_canon ha) (ok_canon hb)).1, Nat.le_trans (inter_form a b (ok_canon ha) (ok_canon hb)).2.1 h⟩
theorem inter_val {a b : List Sp} (ha : okS a = true) (hb : okS b = true) (h : a.length + b.length ≤ 64) : (interF (spansF a) (spansF b)).take 64 = interF a b := by
  rw [ok_spans ha, ok_spans hb]
  exact List.take_of_length_le (Nat.le_trans (inter_form a b (ok_canon ha) (ok_canon hb)).2.1 h)
theorem uni_val {a b : List Sp} (ha : okS a = true) (hb : okS b = true) (h : a.length + b.length ≤ 64) : uniF a b = (unionL a b, 0) := by
  unfold uniF
  rw [ok_spans ha, ok_spans hb]
  have := union_len (ok_fine ha) (ok_fine hb)
  rw [if_neg (by unfold unionL at this; omega)]
  rfl
/-- A span whose numbers are all in a set lies inside one of its spans. -/
theorem span_in {l : List Sp} (hl : Canon l) {lo hi : Int} (h0 : lo ≤ hi) (h : ∀ n, lo ≤ n → n ≤ hi → Mem l n) : ∃ y ∈ l, y.1 ≤ lo ∧ hi ≤ y.2 := by
  obtain ⟨y, hy, h1, h2⟩ := h lo (Int.le_refl _) h0
  refine ⟨y, hy, h1, ?_⟩
  apply Classical.byContradiction
  intro hn
  obtain ⟨z, hz, h3, h4⟩ := h (y.2 + 1) (by omega) (by omega)
  have hne : y ≠ z := by rintro rfl; omega
  have hp := hl.2
  have key : ∀ (l : List Sp), l.Pairwise (fun x y => x.2 + 1 < y.1) → y ∈ l → z ∈ l → y.2 + 1 < z.1 ∨ z.2 + 1 < y.1 := by
    intro l
    induction l with
    | nil => intro _ h; cases h
    | cons x l ih =>
      intro hp hy hz
      obtain ⟨hx, hp⟩ := List.pairwise_cons.1 hp
      rcases List.mem_cons.1 hy with ey | hy
      · rcases List.mem_cons.1 hz with ez | hz
        · exact absurd (ey.trans ez.symm) hne
        · rw [ey]; exact .inl (hx z hz)
      · rcases List.mem_cons.1 hz with ez | hz
        · rw [ez]; exact .inr (hx y hy)
        · exact ih hp hy hz
  have := key l hp hy hz
  omega
theorem inside_of {a b : List Sp} (ha : okS a = true) (hb : okS b = true) (h : ∀ n, Mem a n → Mem b n) : insideF a b = true := by
  unfold insideF
  rw [ok_spans ha, ok_spans hb, List.all_eq_true]
  intro z hz
  obtain ⟨y, hy, h1, h2⟩ := span_in (ok_canon hb) ((ok_canon ha).1 z hz) fun n h1 h2 => h n ⟨z, hz, h1, h2⟩
  rw [List.any_eq_true]
  exact ⟨y, hy, by simp [insP, h1, h2]⟩
theorem same_of {a b : List Sp} (ha : Canon a) (hb : Canon b) (h : ∀ n, Mem a n ↔ Mem b n) : a = b := canon_unique ha hb h
theorem has_inter {a b : List Sp} (ha : okS a = true) (hb : okS b = true) (h : a.length + b.length ≤ 64) (n : Int) : hasF (interF a b) n = (hasF a n && hasF b n) := by
  rw [Bool.eq_iff_iff, Bool.and_eq_true, hasF_iff (inter_ok ha hb h), hasF_iff ha, hasF_iff hb, mem_inter]
theorem has_union {a b : List Sp} (ha : okS a = true) (hb : okS b = true) (h : a.length + b.length ≤ 64) (n : Int) : hasF (unionL a b) n = (hasF a n || hasF b n) := by
  rw [Bool.eq_iff_iff, Bool.or_eq_true, hasF_iff (union_ok (ok_fine ha) (ok_fine hb) h), hasF_iff ha, hasF_iff hb, union_mem (ok_fine ha) (ok_fine hb)]
theorem inside_inter {a b : List Sp} (ha : okS a = true) (hb : okS b = true) (h : a.length + b.length ≤ 64) : insideF (interF a b) a = true :=
  inside_of (inter_ok ha hb h) ha fun n hn => ((mem_inter a b n).1 hn).1
theorem inside_union {a b : List Sp} (ha : okS a = true) (hb : okS b = true) (h : a.length + b.length ≤ 64) : insideF b (unionL a b) = true :=
  inside_of hb (union_ok (ok_fine ha) (ok_fine hb) h) fun n hn => (union_mem (ok_fine ha) (ok_fine hb) n).2 (.inr hn)
section
variable {a b c : List Sp} (ha : okS a = true) (hb : okS b = true) (hc : okS c = true)
include ha hb
theorem union_comm : unionL a b = unionL b a :=
  same_of (union_canon (ok_fine ha) (ok_fine hb)) (union_canon (ok_fine hb) (ok_fine ha)) fun n => by
    rw [union_mem (ok_fine ha) (ok_fine hb), union_mem (ok_fine hb) (ok_fine ha)]; exact Or.comm
theorem inter_comm : interF a b = interF b a :=
  same_of (inter_form a b (ok_canon ha) (ok_canon hb)).1 (inter_form b a (ok_canon hb) (ok_canon ha)).1 fun n => by rw [mem_inter, mem_inter]; exact And.comm
omit hb in
theorem union_absorb : unionL a (interF a b) = a :=
  same_of (union_canon (ok_fine ha) (inter_fine (ok_fine ha))) (ok_canon ha) fun n => by
    rw [union_mem (ok_fine ha) (inter_fine (ok_fine ha)), mem_inter]
    exact ⟨fun h => h.elim id And.left, .inl⟩
theorem inter_absorb : interF a (unionL a b) = a :=
  same_of (inter_form a _ (ok_canon ha) (union_canon (ok_fine ha) (ok_fine hb))).1 (ok_canon ha) fun n => by
    rw [mem_inter, union_mem (ok_fine ha) (ok_fine hb)]
    exact ⟨And.left, fun h => ⟨h, .inl h⟩⟩
omit hb in
theorem inter_self : interF a a = a :=
  same_of (inter_form a a (ok_canon ha) (ok_canon ha)).1 (ok_canon ha) fun n => by rw [mem_inter]; exact and_self_iff
include hc
theorem union_assoc : unionL (unionL a b) c = unionL a (unionL b c) := by
  have fa := ok_fine ha
  have fb := ok_fine hb
  have fc := ok_fine hc
  refine same_of (union_canon (union_fine fa fb) fc) (union_canon fa (union_fine fb fc)) fun n => ?_
  rw [union_mem (union_fine fa fb) fc, union_mem fa fb, union_mem fa (union_fine fb fc), union_mem fb fc]
  exact or_assoc
theorem inter_assoc : interF (interF a b) c = interF a (interF b c) := by
  have ca := ok_canon ha
  have cb := ok_canon hb
  have cc := ok_canon hc
  refine same_of (inter_form _ c (inter_form a b ca cb).1 cc).1 (inter_form a _ ca (inter_form b c cb cc).1).1 fun n => ?_
  rw [mem_inter, mem_inter, mem_inter, mem_inter]
  exact and_assoc
end
end Go.Proofs.Ytejdaodchaeglaa
