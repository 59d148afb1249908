/-
  Layer 9: spans sorted by the library. Plain contract, over the kit's own contract of the library's sort.
-/
import Derived.Test.YtejdaodchaeglaaSpB
import Derived.Test.YtejdaodchaeglaaSortNine
import Derived.Lib.RowBridge
namespace Go.Proofs.Ytejdaodchaeglaa
open Go.RowKit Go.Sort Go.Shelf Go.Lib
/-- A span that is in the range. -/
abbrev FSp := {x : Sp // fineS x = true}
instance : Inhabited FSp := ⟨⟨(0, 0), rfl⟩⟩
def encF (x : FSp) : List Value := lsS x.1
def cfF (x y : FSp) : Int := x.1.1 - y.1.1
theorem flat_eq (d : Array FSp) : (flatK encF 2 d).toList = scells (d.toList.map (·.1)) := by
  have hs : (flatK encF 2 d).size = d.size * 2 := size_flatK _ _ _
  apply List.ext_getElem?
  intro t
  by_cases ht : t < d.size * 2
  · have hd : t / 2 < d.size := by omega
    have h1 := get_flatK encF 2 d t ht
    rw [getElem!_pos (flatK encF 2 d) t (by rw [hs]; exact ht)] at h1
    rw [List.getElem?_eq_getElem (by simpa [hs] using ht), Array.getElem_toList, h1, getElem!_pos d _ hd]
    have h2 := scells_at (d.toList.map (·.1)) (t / 2) d[t / 2].1 (by rw [List.getElem?_map, Array.getElem?_toList, Array.getElem?_eq_getElem hd]; rfl) (t % 2) (by omega)
    rw [show t / 2 * 2 + t % 2 = t by omega] at h2
    rw [h2]
    unfold encF
    have h3 : t % 2 < (lsS d[t / 2].1).length := by simp [lsS]; omega
    rw [getElem!_pos (lsS d[t / 2].1) (t % 2) h3, List.getElem?_eq_getElem h3]
  · rw [List.getElem?_eq_none (by simp [hs]; omega), List.getElem?_eq_none (by rw [scells_len]; simp; omega)]
theorem ltF (x y : FSp) : ltOf cfF x y = decide (x.1.1 < y.1.1) := by
  unfold ltOf cfF
  rw [decide_eq_decide]
  omega
theorem swoF : SWO (ltOf cfF) where
  irrefl x := by rw [ltF]; simp
  trans x y z h1 h2 := by rw [ltF, decide_eq_true_eq] at *; omega
  ntrans x y z h1 h2 := by rw [ltF, decide_eq_false_iff_not] at *; omega
theorem cmp_any (x y : FSp) (W : World) : Calls Try.prog 30 #[.agg #[.int .i64 x.1.1, .int .i64 x.1.2], .agg #[.int .i64 y.1.1, .int .i64 y.1.2]] W fun e w' => e = .returned (.int .i64 (cfF x y)) ∧ ∃ q os', w' = grow (W.drewN q) os' := by
  have hx := (fineS_iff x.1).1 x.2
  have hy := (fineS_iff y.1).1 y.2
  have hw : IntKind.i64.wrap (x.1.1 - y.1.1) = cfF x y := IntWalk.i64_in _ (by omega)
  go_enter Try.func30, Try.ntmps30
  go_wp2
  go_ret
  exact ⟨rfl, 0, _, by rw [alloc_eq_grow, alloc_eq_grow, grow_grow]; rfl⟩
theorem own_setCells {base g cap : Nat} {n : Nat} : ∀ (vs : List Value) (o : Nat) (xs : List Value) (w : World), o + vs.length ≤ xs.length → w.ownsRow base 40 2 (.slice (some ⟨g, 0, none⟩) n cap) n xs →
    (w.setCells g o vs).ownsRow base 40 2 (.slice (some ⟨g, 0, none⟩) n cap) n (xs.take o ++ vs ++ xs.drop (o + vs.length)) := by
  intro vs
  induction vs with
  | nil => intro o xs w _ h; simpa [World.setCells] using h
  | cons v r ih =>
    intro o xs w hl h
    simp only [List.length_cons] at hl
    have h1 := ih (o + 1) (xs.set o v) (w.setCell ⟨g, o, none⟩ v) (by simp; omega) (World.ownsRow.stored h o v).1
    have e : (xs.set o v).take (o + 1) ++ r ++ (xs.set o v).drop (o + 1 + r.length) = xs.take o ++ v :: r ++ xs.drop (o + (v :: r).length) := by
      rw [List.drop_set_of_lt (by omega), List.take_succ_eq_append_getElem (by simp; omega), List.take_set_of_le (Nat.le_refl _)]
      simp [Nat.add_comm, Nat.add_left_comm]
    rw [e] at h1
    exact h1
theorem holds_own {w : World} {base g cap : Nat} {l : List Sp} (d : Array FSp) (hd : d.toList.map (·.1) = l) (h : Own w base (.slice (some ⟨g, 0, none⟩) l.length cap) l) : HoldsK encF 2 w g 0 d := by
  intro j hj
  have hs : (flatK encF 2 d).size = d.size * 2 := size_flatK _ _ _
  have hr := Reads.of_own h
  have hsz : d.size = l.length := by rw [← hd]; simp
  obtain ⟨ad, e, _, hc⟩ := hr.2 (by omega)
  injection e with e
  subst e
  have ha : (⟨g, 0, none⟩ : Addr).add j = ⟨g, 0 + j, none⟩ := by
    unfold Addr.add
    split
    · simp_all
    · rfl
  refine ⟨?_, by rw [Nat.zero_add]; exact Own.frozenAt h j⟩
  rw [← ha]
  refine hc j _ ?_
  rw [← hd, ← flat_eq, Array.getElem?_toList, getElem!_pos (flatK encF 2 d) j hj, Array.getElem?_eq_getElem hj]
  rfl
theorem grown_sort {w : World} {g n : Nat} {d : Array FSp} {os : Array Obj} : w.grownBy (sortWorldK encF 2 w g 0 n d os) (some g) := by
  refine ⟨rfl, rfl, rfl, ?_, fun j hj hne => ?_⟩
  · unfold sortWorldK
    rw [size_grow, size_putRowK]
    exact Nat.le_add_right _ _
  · have hne2 : ¬ g = j := fun e => hne (by rw [e])
    unfold sortWorldK grow putRowK putRow mapBlock
    simp only []
    rw [Array.getElem?_append_left (by simpa using hj), Array.getElem?_modify, if_neg hne2]
    rfl
theorem own_sort {w : World} {base g cap n : Nat} {l : List Sp} {d d' : Array FSp} {os : Array Obj} (hd : d.toList.map (·.1) = l) (hs : d'.size = d.size) (h : Own w base (.slice (some ⟨g, 0, none⟩) l.length cap) l) :
    Own (sortWorldK encF 2 w g 0 n d' os) base (.slice (some ⟨g, 0, none⟩) l.length cap) (d'.toList.map (·.1)) := by
  have hH := holds_own d hd h
  have e1 : putRowK encF 2 (Sort.ahead w n) g 0 d' = (w.drewN n).setCells g 0 (scells (d'.toList.map (·.1))) := by
    have := putRow_eq_setCells id w g 0 (flatK encF 2 d) (flatK encF 2 d').toList n hH (by simp [size_flatK, hs])
    rw [List.map_id, flat_eq] at this
    rw [← this, ← flat_eq]
    rfl
  have hlen : (d'.toList.map (fun x : FSp => x.1)).length = l.length := by rw [← hd]; simp [hs]
  unfold sortWorldK
  rw [e1]
  have h2 : (w.drewN n).ownsRow base 40 2 (.slice (some ⟨g, 0, none⟩) l.length cap) l.length (scells l) := h
  have h3 := own_setCells (scells (d'.toList.map (·.1))) 0 (scells l) (w.drewN n) (by rw [scells_len, scells_len, hlen]; omega) h2
  rw [List.take_zero, List.nil_append, Nat.zero_add, List.drop_of_length_le (by rw [scells_len, scells_len, hlen]; omega), List.append_nil] at h3
  have hg : Grows ((w.drewN n).setCells g 0 (scells (d'.toList.map (·.1)))) (grow ((w.drewN n).setCells g 0 (scells (d'.toList.map (·.1)))) os) := by
    refine ⟨rfl, rfl, rfl, by rw [size_grow]; exact Nat.le_add_right _ _, fun j hj => ?_⟩
    unfold grow
    simp only []
    rw [Array.getElem?_append_left hj]
  have h4 := h3.kept (grown_none2 hg) (.inr (by simp [Value.ownBlock]))
  unfold Own
  rw [hlen]
  exact h4
theorem sort_pos (base g cap : Nat) (l : List Sp) (w : World) (hf : ∀ x ∈ l, fineS x = true) (h : Own w base (.slice (some ⟨g, 0, none⟩) l.length cap) l) (hg : g < w.heap.size) (hl : l.length ≤ 1000000) :
    Calls Try.prog 29 #[.slice (some ⟨g, 0, none⟩) l.length cap, .func (.func 30) #[] #[]] w fun e w' => e = .returned (.tuple #[]) ∧ ∃ d : List Sp, d.Perm l ∧ d.Pairwise (fun x y => x.1 ≤ y.1) ∧ Own w' base (.slice (some ⟨g, 0, none⟩) l.length cap) d ∧ w.grownBy w' (some g) := by
  obtain ⟨d, hd⟩ : ∃ d : Array FSp, d.toList.map (·.1) = l := ⟨(l.attach.map fun x => (⟨x.1, hf x.1 x.2⟩ : FSp)).toArray, by simp only [List.map_map, Function.comp_def]; exact List.attach_map_subtype_val l⟩
  have hsz : d.size = l.length := by rw [← hd]; simp
  have eg : ∀ args w, (callFunc 30 args).run Try.prog w = .ok (.enter 30 args) w := enters_of Try.func30 (by kernel_rfl) rfl
  have hcon := AnyQ.slices_SortFunc sortSp 2 Try.isAgg40 Try.sizeOf40 encF (fun _ => rfl) (fun x v hv => by simp [encF, lsS] at hv; rcases hv with rfl | rfl <;> rfl) cfF swoF 30 #[] g 0 cap d w eg (fun _ _ _ _ x y => cmp_any x y _) (holds_own d hd h) hg (by omega)
  change Calls Try.prog 29 _ _ _ at hcon
  rw [hsz] at hcon
  refine hcon.mono ?_
  rintro e w' ⟨rfl, d', n, os, hp, hso, rfl⟩
  refine ⟨rfl, d'.toList.map (·.1), ?_, ?_, own_sort hd hp.1 h, grown_sort⟩
  · have := hp.2.2
    rw [← hsz, show d.extract 0 d.size = d by simp, show d'.extract 0 d.size = d' by rw [← hp.1]; simp] at this
    rw [← hd]
    exact this.map _
  · rw [List.pairwise_iff_getElem]
    intro i j hi hj hij
    have hi' : i < d'.size := by simpa using hi
    have hj' : j < d'.size := by simpa using hj
    have := hso i j (Nat.zero_le _) hij (by have := hp.1; omega)
    rw [ltF, decide_eq_false_iff_not, getElem!_pos d' i hi', getElem!_pos d' j hj'] at this
    simp only [List.getElem_map, Array.getElem_toList]
    omega
end Go.Proofs.Ytejdaodchaeglaa
