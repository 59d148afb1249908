/-
  RecorderCounts, the plain law: two recorders that are told the same glitches, one that keeps few and one that keeps all.
-/
import Derived.Test.YtbohbapheofpiaaRgN
namespace Go.Proofs.Ytbohbapheofpiaa
open Go.RowKit
theorem joinF_ok {x g y : Gl} (h : joinF x g = some y) : okG y = true := by
  obtain ⟨k, a, q, s, d, f⟩ := x
  obtain ⟨k2, a2, q2, s2, d2, f2⟩ := g
  unfold joinF at h
  split at h
  · rename_i hc
    injection h with h
    subst h
    simp only [okG, kinG, Bool.and_eq_true, Bool.or_eq_true, beq_iff_eq, decide_eq_true_eq] at hc ⊢
    omega
  · cases h
theorem addG_ok {l : List Gl} {g : Gl} (hl : ∀ x ∈ l, okG x = true) (hg : okG g = true) : ∀ x ∈ addG l g, okG x = true := by
  unfold addG
  split
  · split
    · rename_i y hy
      intro x hx
      rcases List.mem_append.1 hx with h | h
      · exact hl x (List.dropLast_subset _ h)
      · rw [List.mem_singleton.1 h]
        exact joinF_ok hy
    · intro x hx
      rcases List.mem_append.1 hx with h | h
      · exact hl x h
      · rw [List.mem_singleton.1 h]
        exact hg
  · intro x hx
    rw [List.mem_singleton.1 hx]
    exact hg
theorem addG_front (p l : List Gl) (g : Gl) (h : l = [] → p = []) : addG (p ++ l) g = p ++ addG l g := by
  by_cases hl : l = []
  · subst hl
    rw [h rfl]
    rfl
  · have e : (p ++ l).getLast? = l.getLast? := by
      rw [List.getLast?_append]
      cases hh : l.getLast? with
      | none => exact absurd (List.getLast?_eq_none_iff.1 hh) hl
      | some x => rfl
    unfold addG
    rw [e]
    cases hh : l.getLast? with
    | none => exact absurd (List.getLast?_eq_none_iff.1 hh) hl
    | some x =>
      simp only []
      cases joinF x g with
      | none => simp
      | some y => simp only []; rw [List.dropLast_append_of_ne_nil hl, List.append_assoc]
theorem addG_len1 (l : List Gl) (g : Gl) : (addG l g).length ≤ l.length + 1 ∧ 1 ≤ (addG l g).length := by
  unfold addG
  split
  · split <;> simp <;> omega
  · simp
theorem lastG_len (lim : Int) (l : List Gl) (h : 1 ≤ lim) : ((lastG lim l).length : Int) ≤ lim ∧ (1 ≤ l.length → 1 ≤ (lastG lim l).length) := by
  unfold lastG
  rw [List.length_drop]
  omega
/-- The two recorders behind n glitches. -/
def Pair (n : Nat) (a b : Rec) : Prop :=
  a.ok = true ∧ b.ok = true ∧ b.lim = 256 ∧ a.c = b.c ∧ a.fr = b.fr ∧ b.l.length ≤ n ∧ ∃ p, b.l = p ++ a.l ∧ (a.l = [] → p = [])
theorem pair_new (m : Int) (h : 1 ≤ m ∧ m ≤ 6) : Pair 0 ⟨m, [], fun _ => 0, 0, fun _ => 0⟩ ⟨256, [], fun _ => 0, 0, fun _ => 0⟩ := by
  refine ⟨(okR_iff _ _ _ _ _).2 ⟨h.1, by simp only []; omega, by simp only [List.length_nil]; omega, by simp, rfl, fun _ _ => rfl, fun _ _ => rfl⟩, (okR_iff _ _ _ _ _).2 ⟨by decide, by decide, by decide, by simp, rfl, fun _ _ => rfl, fun _ _ => rfl⟩, rfl, rfl, rfl, Nat.le_refl _, [], rfl, fun _ => rfl⟩
theorem outT_up {n m : Int} (h : outT n = false) (hm : 0 ≤ m) : outT (min (n + m) 1099511627776) = false := by
  simp [outT] at h ⊢
  omega
theorem note_ok {R : Rec} {g : Gl} (hR : R.ok = true) (hg : okG g = true) : noteF R g = (⟨R.lim, lastG R.lim (addG R.l g), bAdd R.c g.k.toNat, min (R.fr + g.f) 1099511627776, R.b⟩, 0) ∧ (noteF R g).1.ok = true := by
  have e : noteF R g = (⟨R.lim, lastG R.lim (addG R.l g), bAdd R.c g.k.toNat, min (R.fr + g.f) 1099511627776, R.b⟩, 0) := by
    unfold noteF
    rw [if_pos hR, if_pos hg]
  refine ⟨e, ?_⟩
  rw [e]
  obtain ⟨h1, h2, h3, h4, h5, h6, h7⟩ := (okR_iff _ _ _ _ _).1 hR
  have hf : 0 ≤ g.f := by
    obtain ⟨k, a, q, s, d, f⟩ := g
    have := okG_bd hg
    simp only []
    omega
  refine (okR_iff _ _ _ _ _).2 ⟨h1, h2, (lastG_len _ _ h1).1, fun x hx => addG_ok h4 hg x (List.mem_of_mem_drop hx), outT_up h5 hf, fun i hi => ?_, h7⟩
  simp only [bAdd, upB]
  split
  · rename_i e
    exact outT_up (by rw [← e]; exact h6 i hi) (by omega)
  · exact h6 i hi
theorem pair_note {n : Nat} {a b : Rec} {g : Gl} (h : Pair n a b) (hn : n < 30) (hg : okG g = true) : (noteF a g).2 = 0 ∧ (noteF b g).2 = 0 ∧ Pair (n + 1) (noteF a g).1 (noteF b g).1 := by
  obtain ⟨ha, hb, hlim, hc, hf, hlen, p, hp, hpe⟩ := h
  obtain ⟨ea, oa⟩ := note_ok ha hg
  obtain ⟨eb, ob⟩ := note_ok hb hg
  have la := addG_len1 a.l g
  have hlim1 : 1 ≤ a.lim := ((okR_iff _ _ _ _ _).1 ha).1
  have hbl : addG b.l g = p ++ addG a.l g := by rw [hp]; exact addG_front p a.l g hpe
  have lb := addG_len1 b.l g
  have hkeep : lastG 256 (addG b.l g) = addG b.l g := by
    unfold lastG
    rw [show (((addG b.l g).length : Int) - 256).toNat = 0 by omega]
    rfl
  have hne := (lastG_len a.lim (addG a.l g) hlim1).2 la.2
  refine ⟨by rw [ea], by rw [eb], oa, ob, by rw [eb]; exact hlim, by rw [ea, eb]; simp only [hc], by rw [ea, eb]; simp only [hf], ?_, p ++ (addG a.l g).take ((addG a.l g).length - a.lim).toNat, ?_, ?_⟩
  · rw [eb]
    simp only [hlim, hkeep]
    omega
  · rw [ea, eb]
    simp only [hlim]
    rw [hkeep, hbl, List.append_assoc]
    congr 1
    exact (List.take_append_drop _ _).symm
  · rw [ea]
    simp only []
    intro h0
    rw [h0] at hne
    simp at hne
/-- What the law looks at. -/
theorem pair_says {n : Nat} {a b : Rec} (h : Pair n a b) : (a.l.length : Int) ≤ a.lim ∧ a.c = b.c ∧ a.fr = b.fr ∧ b.l.length ≤ n ∧ ∃ k : Nat, b.l.length = k + a.l.length ∧ b.l.drop k = a.l := by
  obtain ⟨ha, hb, hlim, hc, hf, hlen, p, hp, -⟩ := h
  refine ⟨((okR_iff _ _ _ _ _).1 ha).2.2.1, hc, hf, hlen, p.length, by rw [hp, List.length_append], by rw [hp]; simp⟩
end Go.Proofs.Ytbohbapheofpiaa
