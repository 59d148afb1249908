/-
  Layer 38: the maker of recorders for the laws: some recorder, that lies where nothing else writes. Plain contract.
-/
import Derived.Test.YtbohbapheofpiaaRgF
import Derived.Test.YtbohbapheofpiaaGlF
import Derived.Test.YtbohbapheofpiaaGen
namespace Go.Proofs.Ytbohbapheofpiaa
open Go.RowKit
theorem gls_cell {w : World} {A : Option Addr} {l : List Gl} (h : Gls w A l) (hl : 0 < l.length) {ad : Addr} (ha : A = some ad) : ∃ g : Gl, ∀ j v, g.cs[j]? = some v → w.cell? (ad.add j) = some v := by
  obtain ⟨ad', g, e, _, _, hc⟩ := h.at_ hl
  rw [ha] at e
  injection e with e
  subst e
  exact ⟨g, fun j v hv => by have := hc j v hv; simpa using this⟩
theorem addr_add (ad : Addr) (j : Nat) (hj : j ≠ 0) : ad.add j = ⟨ad.block, ad.off + j, none⟩ := by
  unfold Addr.add
  rw [if_neg hj]
theorem gls_ne_small {w : World} {A : Option Addr} {l : List Gl} (h : Gls w A l) {g : Nat} {t : TypeId} {cs : Array Value} (hb : Blk w g t cs) (hs : cs.size ≤ 5) (ad : Addr) (ha : A = some ad) (hl : 0 < l.length) : ad.block ≠ g := by
  intro he
  obtain ⟨x, hx⟩ := gls_cell h hl ha
  have h5 := hx 5 _ rfl
  rw [addr_add ad 5 (by omega), he, hb.cell, Array.getElem?_eq_none (by omega)] at h5
  cases h5
theorem rcV_no (lim : Int) (A : Option Addr) (n cp : Nat) (c : Nat → Int) (fr : Int) (b : Nat → Int) (j : Nat) (d : Int) : (rcV lim (.slice A n cp) c fr b)[j]? ≠ some (.int .u64 d) := by
  by_cases hj : j < 32
  · have h : j = 0 ∨ j = 1 ∨ j = 2 ∨ j = 3 ∨ j = 4 ∨ j = 5 ∨ j = 6 ∨ j = 7 ∨ j = 8 ∨ j = 9 ∨ j = 10 ∨ j = 11 ∨ j = 12 ∨ j = 13 ∨ j = 14 ∨ j = 15 ∨ j = 16 ∨ j = 17 ∨ j = 18 ∨ j = 19 ∨ j = 20 ∨ j = 21 ∨ j = 22 ∨ j = 23 ∨ j = 24 ∨ j = 25 ∨ j = 26 ∨ j = 27 ∨ j = 28 ∨ j = 29 ∨ j = 30 ∨ j = 31 := by omega
    rcases h with rfl | rfl | rfl | rfl | rfl | rfl | rfl | rfl | rfl | rfl | rfl | rfl | rfl | rfl | rfl | rfl | rfl | rfl | rfl | rfl | rfl | rfl | rfl | rfl | rfl | rfl | rfl | rfl | rfl | rfl | rfl | rfl <;> simp [rcV]
  · rw [Array.getElem?_eq_none (by rw [rcV_size]; omega)]
    simp
theorem gls_ne_row {w : World} {A : Option Addr} {l : List Gl} (h : Gls w A l) {g : Nat} {t : TypeId} {lim : Int} {A' : Option Addr} {n cp : Nat} {c : Nat → Int} {fr : Int} {b : Nat → Int} (hb : Blk w g t (rcV lim (.slice A' n cp) c fr b)) (ad : Addr) (ha : A = some ad) (hl : 0 < l.length) : ad.block ≠ g := by
  intro he
  obtain ⟨x, hx⟩ := gls_cell h hl ha
  have h4 := hx 4 _ rfl
  rw [addr_add ad 4 (by omega), he, hb.cell] at h4
  exact rcV_no _ _ _ _ _ _ _ _ _ h4
theorem gls_grown {w w' : World} {A : Option Addr} {l : List Gl} (h : Gls w A l) {g : Nat} (hg : w.grownBy w' (some g)) (hne : ∀ ad, A = some ad → 0 < l.length → ad.block ≠ g) : Gls w' A l := by
  refine ⟨h.1, fun hn => ?_⟩
  obtain ⟨ad, e, hb, hc⟩ := h.2 hn
  have hn' := hne ad e hn
  exact ⟨ad, e, Nat.lt_of_lt_of_le hb hg.size, fun j u hu => (World.cell?_of_block (hg.block (ad.add j).block (by rw [block_of_add]; exact hb) (fun ee => hn' (by injection ee with ee; rw [← ee, block_of_add])))).trans (hc j u hu)⟩
theorem gls_row {w : World} {A : Option Addr} {l : List Gl} (h : Gls w A l) {g : Nat} (hne : ∀ ad, A = some ad → 0 < l.length → ad.block ≠ g) (cs : Array Value) : Gls (w.setRow g cs) A l := by
  refine ⟨h.1, fun hn => ?_⟩
  obtain ⟨ad, e, hb, hc⟩ := h.2 hn
  have hn' := hne ad e hn
  refine ⟨ad, e, by simpa [World.setRow] using hb, fun j u' hu => Eq.trans (World.cell?_of_block ?_) (hc j u' hu)⟩
  have hne : ¬ g = (ad.add j).block := by rw [block_of_add]; exact fun e => hn' e.symm
  simp [World.setRow, Array.getElem?_modify, hne]
theorem addG_len (l : List Gl) (g : Gl) : (addG l g).length ≤ l.length + 1 := by
  unfold addG
  cases l.getLast? with
  | none => simp
  | some x =>
    simp only []
    split
    · simp only [List.length_append, List.length_dropLast, List.length_singleton]; omega
    · simp
theorem noteF_len (R : Rec) (g : Gl) : (noteF R g).1.l.length ≤ R.l.length + 1 := by
  unfold noteF
  split
  · split
    · have := addG_len R.l g
      simp only [lastG, List.length_drop]
      omega
    · simp [Rec.zero]
  · simp [Rec.zero]
theorem measF_len (R : Rec) (n : Int) : (measF R n).1.l.length ≤ R.l.length := by
  unfold measF
  split
  · split
    · simp [Rec.zero]
    · exact Nat.le_refl _
  · simp [Rec.zero]
theorem gr_load_row {P : Program} {o : Oper} {ev : Operand → Value} {w : World} {g : Nat} {t ty : TypeId} {cs : Array Value} {d : TypeDesc} {T : Value → World → Prop} (p : Operand) (ho : o.op = .load ty p) (hp : ev p = .pointer (some ⟨g, 0, none⟩)) (hb : Blk w g t cs)
    (hu : P.underlying ty = some d) (hd : (match d with | .struct _ | .array _ _ => true | _ => false) = true) (hi : (P.info? ty).map (·.size) = some cs.size) (h : T (.agg cs) w) :
    genR P T ((execOp ev o).run P w) := by
  have hl := run_loadVar_row (P := P) w g t ty cs (0, 0) d hb hu hd hi
  unfold execOp
  simp only [ho, Instr.loadAt, Instr.sureAddr, Sem.run_bind, Sem.run_pure, Result.andThen_ok, hp, hl]
  exact gr_val h
theorem gr_store_row {P : Program} {o : Oper} {ev : Operand → Value} {w : World} {g : Nat} {t ty : TypeId} {cs old : Array Value} {T : Value → World → Prop} (p v : Operand) (ho : o.op = .store ty p v) (hp : ev p = .pointer (some ⟨g, 0, none⟩)) (hv : ev v = .agg cs) (hb : Blk w g t old)
    (hi : (P.info? ty).map (·.size) = some cs.size) (hs : old.size = cs.size) (h1 : cs.all (·.oneCell') = true) (h : T undef (w.setRow g cs)) :
    genR P T ((execOp ev o).run P w) := by
  have hl := run_storeVar_row (P := P) w g t ty old cs hb hi hs h1
  unfold execOp
  simp only [ho, Instr.storeAt, Instr.sureAddr, Sem.run_bind, Sem.run_pure, Result.andThen_ok, hp, hv, hl]
  exact gr_skip h
set_option maxHeartbeats 16000000 in
theorem made_any (A : Option Addr) (cp : Nat) (l : List Int) (w : World) (hI : Ints w A l) (hl : l.length ≤ 9223372036854775807) :
    Calls Try.prog 12 #[.slice A l.length cp] w fun e w' => (∃ R v, e = .returned v ∧ RecV w' R v ∧ R.l.length ≤ 14) ∧ Grows w w' := by
  have hzs : ∀ (v : Value) (lim fr : Int) (c b : Nat → Int), (#[.int .i64 0, .slice none 0 0, .int .i64 0, .int .i64 0, .int .i64 0, .int .i64 0, .int .i64 0, .int .i64 0, .int .i64 0, .int .i64 0, .int .i64 0, .int .i64 0, .int .i64 0, .int .i64 0, .int .i64 0, .int .i64 0, .int .i64 0, .int .i64 0, .int .i64 0, .int .i64 0, .int .i64 0, .int .i64 0, .int .i64 0, .int .i64 0, .int .i64 0, .int .i64 0, .int .i64 0, .int .i64 0, .int .i64 0, .int .i64 0, .int .i64 0, .int .i64 0] : Array Value).size = (rcV lim v c fr b).size := fun _ _ _ _ _ => rfl
  have k2 := Blk.new w 28 #[.int .i64 0, .slice none 0 0, .int .i64 0, .int .i64 0, .int .i64 0, .int .i64 0, .int .i64 0, .int .i64 0, .int .i64 0, .int .i64 0, .int .i64 0, .int .i64 0, .int .i64 0, .int .i64 0, .int .i64 0, .int .i64 0, .int .i64 0, .int .i64 0, .int .i64 0, .int .i64 0, .int .i64 0, .int .i64 0, .int .i64 0, .int .i64 0, .int .i64 0, .int .i64 0, .int .i64 0, .int .i64 0, .int .i64 0, .int .i64 0, .int .i64 0, .int .i64 0]
  have hB := (Below.refl w.heap.size w).alloc (Nat.le_refl _) (Obj.cells #[.int .i64 0, .slice none 0 0, .int .i64 0, .int .i64 0, .int .i64 0, .int .i64 0, .int .i64 0, .int .i64 0, .int .i64 0, .int .i64 0, .int .i64 0, .int .i64 0, .int .i64 0, .int .i64 0, .int .i64 0, .int .i64 0, .int .i64 0, .int .i64 0, .int .i64 0, .int .i64 0, .int .i64 0, .int .i64 0, .int .i64 0, .int .i64 0, .int .i64 0, .int .i64 0, .int .i64 0, .int .i64 0, .int .i64 0, .int .i64 0, .int .i64 0, .int .i64 0] 28)
  have hI1 := hI.grows hB
  go_enter Try.func12, Try.ntmps12
  go_upto_region 1 with fail
  generalize World.alloc w _ = w1 at *
  go_wp2_with fail
  refine (new_deck A cp l _ hI1 hl).mono ?_
  rintro e w2 ⟨rfl, hd, hq⟩
  have hgd : w.heap.size < w1.heap.size := k2.lt
  replace k2 := k2.grows hq
  replace hB := below_grows hB (Nat.le_refl _) hq
  clear hq hI1
  generalize w1.heap.size = gd at *
  go_upto_region 2 with fail
  refine wp_region_lit ?_
  iterate 1
    refine wpList_plain rfl (fun K hK => ?_)
    go_simp
    refine hK _ _ ?_
    clear hK K
  refine wpList_plain rfl (fun K hK => ?_)
  go_simp
  have b5 := nextV_bd l 0 (n := 5) (by omega)
  refine (range_any gd A cp l 0 1 5 _ hd (by omega) (by omega) (by omega)).mono ?_
  rintro e w3 ⟨rfl, hd2, hq⟩
  refine hK _ _ ?_
  clear hK K
  simp only [show (5 : Int) - 1 + 1 = 5 by omega]
  replace k2 := k2.grown hq (by intro e; injection e with e; omega)
  replace hB := hB.grown hq hB.size (fun q hq' => by injection hq' with hq'; omega)
  clear hq hd
  refine wpList_plain rfl (fun K hK => ?_)
  go_simp
  refine (rnewR (1 + nextV l 0 5) _).mono ?_
  rw [show newF (1 + nextV l 0 5) = (⟨1 + nextV l 0 5, [], fun _ => 0, 0, fun _ => 0⟩, 0) from if_pos (by omega)]
  rintro e w4 ⟨⟨v, rfl, A1, cp1, rfl, hgl⟩, hq⟩
  simp only [] at hgl ⊢
  refine hK _ _ ?_
  clear hK K
  replace k2 := k2.grows hq
  replace hd2 := hd2.grows hq
  replace hB := below_grows hB (Nat.le_refl _) hq
  clear hq
  iterate 3
    refine wpList_plain rfl (fun K hK => ?_)
    go_simp
    refine hK _ _ ?_
    clear hK K
  have k4 := Blk.new w4 28 #[.int .i64 0, .slice none 0 0, .int .i64 0, .int .i64 0, .int .i64 0, .int .i64 0, .int .i64 0, .int .i64 0, .int .i64 0, .int .i64 0, .int .i64 0, .int .i64 0, .int .i64 0, .int .i64 0, .int .i64 0, .int .i64 0, .int .i64 0, .int .i64 0, .int .i64 0, .int .i64 0, .int .i64 0, .int .i64 0, .int .i64 0, .int .i64 0, .int .i64 0, .int .i64 0, .int .i64 0, .int .i64 0, .int .i64 0, .int .i64 0, .int .i64 0, .int .i64 0]
  have hz4 := hd2.blk.lt
  have hz2 := k2.lt
  have hz3 := hB.size
  iterate 1
    refine wpList_plain rfl (fun K hK => ?_)
    go_simp
    refine hK _ _ ?_
    clear hK K
  replace k2 := k2.alloc (Obj.cells #[.int .i64 0, .slice none 0 0, .int .i64 0, .int .i64 0, .int .i64 0, .int .i64 0, .int .i64 0, .int .i64 0, .int .i64 0, .int .i64 0, .int .i64 0, .int .i64 0, .int .i64 0, .int .i64 0, .int .i64 0, .int .i64 0, .int .i64 0, .int .i64 0, .int .i64 0, .int .i64 0, .int .i64 0, .int .i64 0, .int .i64 0, .int .i64 0, .int .i64 0, .int .i64 0, .int .i64 0, .int .i64 0, .int .i64 0, .int .i64 0, .int .i64 0, .int .i64 0] 28)
  replace hd2 := hd2.grows ((Below.refl w4.heap.size w4).alloc (Nat.le_refl _) (Obj.cells #[.int .i64 0, .slice none 0 0, .int .i64 0, .int .i64 0, .int .i64 0, .int .i64 0, .int .i64 0, .int .i64 0, .int .i64 0, .int .i64 0, .int .i64 0, .int .i64 0, .int .i64 0, .int .i64 0, .int .i64 0, .int .i64 0, .int .i64 0, .int .i64 0, .int .i64 0, .int .i64 0, .int .i64 0, .int .i64 0, .int .i64 0, .int .i64 0, .int .i64 0, .int .i64 0, .int .i64 0, .int .i64 0, .int .i64 0, .int .i64 0, .int .i64 0, .int .i64 0] 28))
  replace hgl := hgl.grows ((Below.refl w4.heap.size w4).alloc (Nat.le_refl _) (Obj.cells #[.int .i64 0, .slice none 0 0, .int .i64 0, .int .i64 0, .int .i64 0, .int .i64 0, .int .i64 0, .int .i64 0, .int .i64 0, .int .i64 0, .int .i64 0, .int .i64 0, .int .i64 0, .int .i64 0, .int .i64 0, .int .i64 0, .int .i64 0, .int .i64 0, .int .i64 0, .int .i64 0, .int .i64 0, .int .i64 0, .int .i64 0, .int .i64 0, .int .i64 0, .int .i64 0, .int .i64 0, .int .i64 0, .int .i64 0, .int .i64 0, .int .i64 0, .int .i64 0] 28))
  replace hB := hB.alloc hB.size (Obj.cells #[.int .i64 0, .slice none 0 0, .int .i64 0, .int .i64 0, .int .i64 0, .int .i64 0, .int .i64 0, .int .i64 0, .int .i64 0, .int .i64 0, .int .i64 0, .int .i64 0, .int .i64 0, .int .i64 0, .int .i64 0, .int .i64 0, .int .i64 0, .int .i64 0, .int .i64 0, .int .i64 0, .int .i64 0, .int .i64 0, .int .i64 0, .int .i64 0, .int .i64 0, .int .i64 0, .int .i64 0, .int .i64 0, .int .i64 0, .int .i64 0, .int .i64 0, .int .i64 0] 28)
  generalize w4.heap.size = G4 at *
  generalize World.alloc w4 _ = w5 at *
  refine wpList_store_row (cs := (rcV (1 + nextV l 0 5) (.slice A1 ([] : List Gl).length cp1) (fun _ => 0) 0 (fun _ => 0))) rfl _ _ rfl rfl rfl rfl k4 (rcV_info _ _ _ _ _) (hzs _ _ _ _ _) (rcV_one _ _ _ _ _ _ _) ?_
  replace k4 := k4.row (cs := (rcV (1 + nextV l 0 5) (.slice A1 ([] : List Gl).length cp1) (fun _ => 0) 0 (fun _ => 0)))
  replace k2 := k2.row_far (g := G4) (cs' := (rcV (1 + nextV l 0 5) (.slice A1 ([] : List Gl).length cp1) (fun _ => 0) 0 (fun _ => 0))) (by omega)
  replace hd2 := deck_row hd2 (g' := G4) hz4 (rcV (1 + nextV l 0 5) (.slice A1 ([] : List Gl).length cp1) (fun _ => 0) 0 (fun _ => 0))
  replace hB := below_row hB (g := G4) hz3 (rcV (1 + nextV l 0 5) (.slice A1 ([] : List Gl).length cp1) (fun _ => 0) 0 (fun _ => 0))
  replace hgl := gls_row hgl (g := G4) (fun ad _ h => absurd h (by simp)) (rcV (1 + nextV l 0 5) (.slice A1 ([] : List Gl).length cp1) (fun _ => 0) 0 (fun _ => 0))
  generalize World.setRow _ _ _ = w6 at *
  go_wp2_with fail
  refine (next_any gd A cp l _ 14 _ hd2 (by omega) (by omega)).mono ?_
  rintro e w7 ⟨rfl, hd, hq⟩
  replace k2 := k2.grown hq (by intro e; injection e with e; omega)
  replace k4 := k4.grown hq (by intro e; injection e with e; omega)
  replace hgl := gls_grown hgl hq (fun ad _ h => absurd h (by simp))
  replace hB := hB.grown hq hB.size (fun q hq' => by injection hq' with hq'; omega)
  clear hq hd2
  have b14 := nextV_bd l (nextK l 0) (n := 14) (by omega)
  obtain ⟨j0, hj0⟩ : ∃ j0 : Nat, nextV l (nextK l 0) 14 = j0 := ⟨(nextV l (nextK l 0) 14).toNat, by omega⟩
  rw [hj0] at b14 ⊢
  clear hj0
  go_upto_region 4 with fail
  go_loopw [6] (fun i wr => ∃ (j kk : Nat) (R : Rec) (A1 : Option Addr) (cp1 : Nat), i = .int .i64 j ∧ R.l.length + j ≤ 14 ∧ Below w.heap.size w wr ∧ Deck wr gd A cp l kk ∧ Blk wr w.heap.size 28 #[.int .i64 0, .slice none 0 0, .int .i64 0, .int .i64 0, .int .i64 0, .int .i64 0, .int .i64 0, .int .i64 0, .int .i64 0, .int .i64 0, .int .i64 0, .int .i64 0, .int .i64 0, .int .i64 0, .int .i64 0, .int .i64 0, .int .i64 0, .int .i64 0, .int .i64 0, .int .i64 0, .int .i64 0, .int .i64 0, .int .i64 0, .int .i64 0, .int .i64 0, .int .i64 0, .int .i64 0, .int .i64 0, .int .i64 0, .int .i64 0, .int .i64 0, .int .i64 0] ∧ Blk wr G4 28 (rcV R.lim (.slice A1 R.l.length cp1) R.c R.fr R.b) ∧ Gls wr A1 R.l) (fun i _ => (intOf i).toNat)
  case atStart => exact ⟨j0, _, ⟨1 + nextV l 0 5, [], fun _ => 0, 0, fun _ => 0⟩, A1, cp1, rfl, by simp; omega, hB, hd, k2, k4, hgl⟩
  case round =>
    clear hB hd k2 k4 hgl b5 b14
    obtain ⟨j, kk, R, A1, cp1, rfl, hlen, hB, hd, k2, k4, hgl⟩ := hrel
    by_cases hpos : 0 < j
    · obtain ⟨j, rfl⟩ : ∃ i, j = i + 1 := ⟨j - 1, by omega⟩
      have hpi : decide ((0 : Int) < ((j + 1 : Nat) : Int)) = true := decide_eq_true (by omega)
      go_wp2_with fail
      have b3 := nextV_bd l kk (n := 3) (by omega)
      refine (next_any gd A cp l kk 3 _ hd (by omega) (by omega)).mono ?_
      rintro e w7 ⟨rfl, hd2, hq⟩
      have hng := gls_ne_small hgl hd.blk (by simp)
      replace k2 := k2.grown hq (by intro e; injection e with e; omega)
      replace k4 := k4.grown hq (by intro e; injection e with e; omega)
      replace hgl := gls_grown hgl hq hng
      replace hB := hB.grown hq hB.size (fun q hq' => by injection hq' with hq'; omega)
      clear hq hng
      generalize hkk : nextK l kk = k5 at *
      clear hkk hd
      generalize nextV l kk 3 = n3 at *
      have hd := hd2
      clear hd2
      generalize k5 = kk at *
      by_cases hz : n3 = 0
      · subst hz
        obtain ⟨R2, er, hR⟩ : ∃ R2 er, measF R (nextV l kk 5000) = (R2, er) := ⟨_, _, rfl⟩
        have hlen2 : R2.l.length ≤ R.l.length := by have := measF_len R (nextV l kk 5000); rw [hR] at this; exact this
        have bn := nextV_bd l kk (n := 5000) (by omega)
        have hM : ∀ (w1 : World), Gls w1 A1 R.l → Calls Try.prog 24 #[.agg (rcV R.lim (.slice A1 R.l.length cp1) R.c R.fr R.b), .int .i64 (nextV l kk 5000)] w1 fun e w' => (∃ v', e = .returned (.tuple #[v', .int .i64 er]) ∧ RecV w' R2 v') ∧ Grows w1 w' := fun w1 h => by
          have := rmeasR R _ (nextV l kk 5000) w1 ⟨A1, cp1, rfl, h⟩ (by omega) (by omega)
          rw [hR] at this
          exact this
        clear hR
        go_upto_region 7 with fail
        obtain ⟨S, HI, HO⟩ : ∃ S : Ran → (Nat → Value) → World → Prop, Hid (∀ L vs w', (Below w.heap.size w w' ∧ Deck w' gd A cp l (if L 2 then nextK l kk else kk) ∧ Blk w' w.heap.size 28 #[.int .i64 0, .slice none 0 0, .int .i64 0, .int .i64 0, .int .i64 0, .int .i64 0, .int .i64 0, .int .i64 0, .int .i64 0, .int .i64 0, .int .i64 0, .int .i64 0, .int .i64 0, .int .i64 0, .int .i64 0, .int .i64 0, .int .i64 0, .int .i64 0, .int .i64 0, .int .i64 0, .int .i64 0, .int .i64 0, .int .i64 0, .int .i64 0, .int .i64 0, .int .i64 0, .int .i64 0, .int .i64 0, .int .i64 0, .int .i64 0, .int .i64 0, .int .i64 0] ∧ KnS [some (.agg (rcV R.lim (.slice A1 R.l.length cp1) R.c R.fr R.b)), some (.pointer (some ⟨gd, 0, none⟩)), some (.int .i64 (nextV l kk 5000)), none, none, none, none, none] L vs ∧ Gls w' A1 R.l ∧ (L 7 = true → L 0 = true) ∧ (if L 7 then True else Blk w' G4 28 (rcV R.lim (.slice A1 R.l.length cp1) R.c R.fr R.b)) ∧ (L 3 = true → ∃ A2 c2, Gls w' A2 R2.l ∧ vs 3 = .tuple #[.agg (rcV R2.lim (.slice A2 R2.l.length c2) R2.c R2.fr R2.b), .int .i64 er] ∧ (L 4 = true → vs 4 = vs 3) ∧ (L 5 = true → vs 5 = .agg (rcV R2.lim (.slice A2 R2.l.length c2) R2.c R2.fr R2.b)) ∧ (L 7 = true → Blk w' G4 28 (rcV R2.lim (.slice A2 R2.l.length c2) R2.c R2.fr R2.b))) ∧ (L 3 = true → L 2 = true) ∧ (L 4 = true → L 3 = true) ∧ (L 5 = true → L 4 = true) ∧ (L 7 = true → L 5 = true)) → S L vs w') ∧ Hid (∀ L vs w', S L vs w' → (Below w.heap.size w w' ∧ Deck w' gd A cp l (if L 2 then nextK l kk else kk) ∧ Blk w' w.heap.size 28 #[.int .i64 0, .slice none 0 0, .int .i64 0, .int .i64 0, .int .i64 0, .int .i64 0, .int .i64 0, .int .i64 0, .int .i64 0, .int .i64 0, .int .i64 0, .int .i64 0, .int .i64 0, .int .i64 0, .int .i64 0, .int .i64 0, .int .i64 0, .int .i64 0, .int .i64 0, .int .i64 0, .int .i64 0, .int .i64 0, .int .i64 0, .int .i64 0, .int .i64 0, .int .i64 0, .int .i64 0, .int .i64 0, .int .i64 0, .int .i64 0, .int .i64 0, .int .i64 0] ∧ KnS [some (.agg (rcV R.lim (.slice A1 R.l.length cp1) R.c R.fr R.b)), some (.pointer (some ⟨gd, 0, none⟩)), some (.int .i64 (nextV l kk 5000)), none, none, none, none, none] L vs ∧ Gls w' A1 R.l ∧ (L 7 = true → L 0 = true) ∧ (if L 7 then True else Blk w' G4 28 (rcV R.lim (.slice A1 R.l.length cp1) R.c R.fr R.b)) ∧ (L 3 = true → ∃ A2 c2, Gls w' A2 R2.l ∧ vs 3 = .tuple #[.agg (rcV R2.lim (.slice A2 R2.l.length c2) R2.c R2.fr R2.b), .int .i64 er] ∧ (L 4 = true → vs 4 = vs 3) ∧ (L 5 = true → vs 5 = .agg (rcV R2.lim (.slice A2 R2.l.length c2) R2.c R2.fr R2.b)) ∧ (L 7 = true → Blk w' G4 28 (rcV R2.lim (.slice A2 R2.l.length c2) R2.c R2.fr R2.b))) ∧ (L 3 = true → L 2 = true) ∧ (L 4 = true → L 3 = true) ∧ (L 5 = true → L 4 = true) ∧ (L 7 = true → L 5 = true))) := ⟨fun L vs w' => Below w.heap.size w w' ∧ Deck w' gd A cp l (if L 2 then nextK l kk else kk) ∧ Blk w' w.heap.size 28 #[.int .i64 0, .slice none 0 0, .int .i64 0, .int .i64 0, .int .i64 0, .int .i64 0, .int .i64 0, .int .i64 0, .int .i64 0, .int .i64 0, .int .i64 0, .int .i64 0, .int .i64 0, .int .i64 0, .int .i64 0, .int .i64 0, .int .i64 0, .int .i64 0, .int .i64 0, .int .i64 0, .int .i64 0, .int .i64 0, .int .i64 0, .int .i64 0, .int .i64 0, .int .i64 0, .int .i64 0, .int .i64 0, .int .i64 0, .int .i64 0, .int .i64 0, .int .i64 0] ∧ KnS [some (.agg (rcV R.lim (.slice A1 R.l.length cp1) R.c R.fr R.b)), some (.pointer (some ⟨gd, 0, none⟩)), some (.int .i64 (nextV l kk 5000)), none, none, none, none, none] L vs ∧ Gls w' A1 R.l ∧ (L 7 = true → L 0 = true) ∧ (if L 7 then True else Blk w' G4 28 (rcV R.lim (.slice A1 R.l.length cp1) R.c R.fr R.b)) ∧ (L 3 = true → ∃ A2 c2, Gls w' A2 R2.l ∧ vs 3 = .tuple #[.agg (rcV R2.lim (.slice A2 R2.l.length c2) R2.c R2.fr R2.b), .int .i64 er] ∧ (L 4 = true → vs 4 = vs 3) ∧ (L 5 = true → vs 5 = .agg (rcV R2.lim (.slice A2 R2.l.length c2) R2.c R2.fr R2.b)) ∧ (L 7 = true → Blk w' G4 28 (rcV R2.lim (.slice A2 R2.l.length c2) R2.c R2.fr R2.b))) ∧ (L 3 = true → L 2 = true) ∧ (L 4 = true → L 3 = true) ∧ (L 5 = true → L 4 = true) ∧ (L 7 = true → L 5 = true), fun _ _ _ h => h, fun _ _ _ h => h⟩
        refine wp_region_genW S 39 (by kernel_rfl) (by kernel_rfl) rfl ?_ ?_
        · exact HI.out _ _ _ ⟨below_grows hB (Nat.le_refl _) (Grows.drew' _), by simpa using hd.grows (Grows.drew' _), k2.drew, kn_none _ _, hgl.grows (Grows.drew' _), (fun h => by cases h), by simpa using k4.drew, (fun h => by cases h), (fun h => by cases h), (fun h => by cases h), (fun h => by cases h), (fun h => by cases h)⟩
        refine gen_cons (A' := ?_) (fun vs L w1 hL hw1 => ?_) ?_ ?_
        rotate_left 1
        · obtain ⟨q0, q1, q2, q3, q4, q5, q6, q7, q8, q9, qa, qb⟩ := HO.out _ _ _ hw1
          have n0 : L 0 = false := hL.1
          have n7 : L 7 = false := by
            cases h : L 7
            · rfl
            · rw [q5 h] at n0; cases n0
          rw [n7] at q6
          simp only [Bool.false_eq_true, if_false] at q6
          refine gen_plain rfl ?_
          refine gr_load_row _ rfl rfl q6 Try.underlying28 rfl (rcV_info _ _ _ _ _) ?_
          exact HI.out _ _ _ ⟨q0, q1, q2, kn_known q3 rfl, q4, fun _ => rfl, (show (if L 7 = true then True else Blk w1 G4 28 (rcV R.lim (.slice A1 R.l.length cp1) R.c R.fr R.b)) from by rw [n7]; simp only [Bool.false_eq_true, if_false]; exact q6), q7, q8, q9, qa, qb⟩
        · intro vs
          simp only [Act.put, List.setIfInBounds_toArray, List.set_cons_succ, List.set_cons_zero]
          rfl
        refine gen_cons (A' := ?_) (fun vs L w1 hL hw1 => ?_) ?_ ?_
        rotate_left 1
        · obtain ⟨q0, q1, q2, q3, q4, q5, q6, q7, q8, q9, qa, qb⟩ := HO.out _ _ _ hw1
          refine gen_plain rfl ?_
          go_simp
          exact gr_val (HI.out _ _ _ ⟨q0, q1, q2, kn_known q3 rfl, q4, q5, q6, q7, q8, q9, qa, qb⟩)
        · intro vs
          simp only [Act.put, List.setIfInBounds_toArray, List.set_cons_succ, List.set_cons_zero]
          rfl
        refine gen_cons (A' := ?_) (fun vs L w1 hL hw1 => ?_) ?_ ?_
        rotate_left 1
        · obtain ⟨q0, q1, q2, q3, q4, q5, q6, q7, q8, q9, qa, qb⟩ := HO.out _ _ _ hw1
          have n2 : L 2 = false := hL.1
          have n3 : L 3 = false := by
            cases h : L 3
            · rfl
            · rw [q8 h] at n2; cases n2
          have n4 : L 4 = false := by
            cases h : L 4
            · rfl
            · rw [q9 h] at n3; cases n3
          have n5 : L 5 = false := by
            cases h : L 5
            · rfl
            · rw [qa h] at n4; cases n4
          have n7 : L 7 = false := by
            cases h : L 7
            · rfl
            · rw [qb h] at n5; cases n5
          rw [n7] at q6
          simp only [Bool.false_eq_true, if_false] at q6
          have l1 : L 1 = true := hL.need 1 (by kernel_rfl)
          have e1 := q3 1 _ rfl l1
          rw [n2] at q1
          simp only [Bool.false_eq_true, if_false] at q1
          have hgd := q1.blk.lt
          refine gen_plain rfl ?_
          simp only [e1]
          go_simp
          refine gr_call ?_
          refine (next_any gd A cp l kk 5000 _ q1 (by omega) (by omega)).mono ?_
          rintro e w2 ⟨rfl, hd2, hq⟩
          refine ⟨_, rfl, ?_⟩
          exact HI.out _ _ _ ⟨q0.grown hq q0.size (fun q hq' => by injection hq' with hq'; omega), (show Deck w2 gd A cp l (if true = true then nextK l kk else kk) by rw [if_pos rfl]; exact hd2), q2.grown hq (by intro e; injection e with e; omega), kn_known q3 rfl, gls_grown q4 hq (gls_ne_small q4 q1.blk (by simp)), q5, (show (if L 7 = true then True else Blk w2 G4 28 (rcV R.lim (.slice A1 R.l.length cp1) R.c R.fr R.b)) from by rw [n7]; simp only [Bool.false_eq_true, if_false]; exact q6.grown hq (by intro e; injection e with e; omega)), (fun h => by rw [show L 3 = true from h] at n3; cases n3), fun _ => rfl, q9, qa, qb⟩
        · intro vs
          simp only [Act.put, List.setIfInBounds_toArray, List.set_cons_succ, List.set_cons_zero]
          rfl
        refine gen_cons (A' := ?_) (fun vs L w1 hL hw1 => ?_) ?_ ?_
        rotate_left 1
        · obtain ⟨q0, q1, q2, q3, q4, q5, q6, q7, q8, q9, qa, qb⟩ := HO.out _ _ _ hw1
          have n3 : L 3 = false := hL.1
          have n4 : L 4 = false := by
            cases h : L 4
            · rfl
            · rw [q9 h] at n3; cases n3
          have n5 : L 5 = false := by
            cases h : L 5
            · rfl
            · rw [qa h] at n4; cases n4
          have n7 : L 7 = false := by
            cases h : L 7
            · rfl
            · rw [qb h] at n5; cases n5
          rw [n7] at q6
          simp only [Bool.false_eq_true, if_false] at q6
          have l0 : L 0 = true := hL.need 0 (by kernel_rfl)
          have l2 : L 2 = true := hL.need 2 (by kernel_rfl)
          have e0 := q3 0 _ rfl l0
          have e2 := q3 2 _ rfl l2
          refine gen_plain rfl ?_
          simp only [e0, e2]
          go_simp
          refine gr_call ?_
          refine (hM w1 q4).mono ?_
          rintro e w2 ⟨⟨v2, he, A2, c2, rfl, hgl2⟩, hg⟩
          refine ⟨_, he, ?_⟩
          exact HI.out _ _ _ ⟨below_grows q0 (Nat.le_refl _) hg, q1.grows hg, q2.grows hg, kn_free q3 rfl, q4.grows hg, q5, (show (if L 7 = true then True else Blk w2 G4 28 (rcV R.lim (.slice A1 R.l.length cp1) R.c R.fr R.b)) from by rw [n7]; simp only [Bool.false_eq_true, if_false]; exact q6.grows hg), (fun _ => ⟨A2, c2, hgl2, rfl, (fun h => by rw [show L 4 = true from h] at n4; cases n4), (fun h => by rw [show L 5 = true from h] at n5; cases n5), (fun h => by rw [show L 7 = true from h] at n7; cases n7)⟩), fun _ => l2, fun h => (by rw [show L 4 = true from h] at n4; cases n4), qa, qb⟩
        · intro vs
          simp only [Act.put, List.setIfInBounds_toArray, List.set_cons_succ, List.set_cons_zero]
          rfl
        refine gen_cons (A' := ?_) (fun vs L w1 hL hw1 => ?_) ?_ ?_
        rotate_left 1
        · obtain ⟨q0, q1, q2, q3, q4, q5, q6, q7, q8, q9, qa, qb⟩ := HO.out _ _ _ hw1
          have l3 : L 3 = true := hL.need 3 (by kernel_rfl)
          refine gen_plain rfl ?_
          go_simp
          refine gr_val (HI.out _ _ _ ⟨q0, q1, q2, kn_free q3 rfl, q4, q5, q6, (fun h => ?_), q8, fun _ => l3, fun _ => rfl, qb⟩)
          obtain ⟨A2, c2, r1, r2, r3, r4, r5⟩ := q7 h
          exact ⟨A2, c2, r1, r2, fun _ => rfl, r4, r5⟩
        · intro vs
          simp only [Act.put, List.setIfInBounds_toArray, List.set_cons_succ, List.set_cons_zero]
          rfl
        refine gen_cons (A' := ?_) (fun vs L w1 hL hw1 => ?_) ?_ ?_
        rotate_left 1
        · obtain ⟨q0, q1, q2, q3, q4, q5, q6, q7, q8, q9, qa, qb⟩ := HO.out _ _ _ hw1
          have l3 : L 3 = true := hL.need 3 (by kernel_rfl)
          have l4 : L 4 = true := hL.need 4 (by kernel_rfl)
          refine gen_plain rfl ?_
          obtain ⟨A2, c2, r1, r2, r3, r4, r5⟩ := q7 l3
          have e4 := r3 l4
          simp only [e4, r2]
          go_simp
          exact gr_val (HI.out _ _ _ ⟨q0, q1, q2, kn_free q3 rfl, q4, q5, q6, (fun _ => ⟨A2, c2, r1, r2, r3, fun _ => rfl, r5⟩), q8, q9, fun _ => l4, fun _ => rfl⟩)
        · intro vs
          simp only [Act.put, List.setIfInBounds_toArray, List.set_cons_succ, List.set_cons_zero]
          rfl
        refine gen_cons (A' := ?_) (fun vs L w1 hL hw1 => ?_) ?_ ?_
        rotate_left 1
        · obtain ⟨q0, q1, q2, q3, q4, q5, q6, q7, q8, q9, qa, qb⟩ := HO.out _ _ _ hw1
          have l3 : L 3 = true := hL.need 3 (by kernel_rfl)
          have l4 : L 4 = true := hL.need 4 (by kernel_rfl)
          refine gen_plain rfl ?_
          obtain ⟨A2, c2, r1, r2, r3, r4, r5⟩ := q7 l3
          have e4 := r3 l4
          simp only [e4, r2]
          go_simp
          exact gr_val (HI.out _ _ _ ⟨q0, q1, q2, kn_free q3 rfl, q4, q5, q6, (fun _ => ⟨A2, c2, r1, r2, r3, r4, r5⟩), q8, q9, qa, qb⟩)
        · intro vs
          simp only [Act.put, List.setIfInBounds_toArray, List.set_cons_succ, List.set_cons_zero]
          rfl
        refine gen_cons (A' := ?_) (fun vs L w1 hL hw1 => ?_) ?_ ?_
        rotate_left 1
        · obtain ⟨q0, q1, q2, q3, q4, q5, q6, q7, q8, q9, qa, qb⟩ := HO.out _ _ _ hw1
          have n7 : L 7 = false := hL.1
          have l0 : L 0 = true := hL.need 0 (by kernel_rfl)
          have l3 : L 3 = true := hL.need 3 (by kernel_rfl)
          have l4 : L 4 = true := hL.need 4 (by kernel_rfl)
          have l5 : L 5 = true := hL.need 5 (by kernel_rfl)
          rw [n7] at q6
          simp only [Bool.false_eq_true, if_false] at q6
          refine gen_plain rfl ?_
          obtain ⟨A2, c2, r1, r2, r3, r4, r5⟩ := q7 l3
          have e5 := r4 l5
          refine gr_store_row (cs := (rcV R2.lim (.slice A2 R2.l.length c2) R2.c R2.fr R2.b)) _ _ rfl rfl e5 q6 (rcV_info _ _ _ _ _) rfl (rcV_one _ _ _ _ _ _ _) ?_
          exact HI.out _ _ _ ⟨below_row q0 (by omega) _, deck_row q1 (by omega) _, q2.row_far (by omega), kn_free q3 rfl, gls_row q4 (gls_ne_row q4 q6) _, fun _ => l0, (show (if true = true then True else _) by rw [if_pos rfl]; trivial), (fun _ => ⟨A2, c2, gls_row r1 (gls_ne_row r1 q6) _, r2, r3, r4, fun _ => q6.row⟩), q8, q9, qa, fun _ => l5⟩
        · intro vs
          rfl
        refine gen_nil ?_
        intro vs L w7 hall hS
        obtain ⟨hB, hd, k2, -, -, -, -, q7, -⟩ := HO.out _ _ _ hS
        obtain ⟨A2, c2, hgl, -, -, -, k4⟩ := q7 (hall 3 (by simp))
        replace k4 := k4 (hall 7 (by simp))
        rw [if_pos (hall 2 (by simp))] at hd
        clear hall hS HI HO
        go_wp2
        go_roundw
        case rel => exact ⟨j, _, R2, A2, c2, by go_num, by omega, hB, hd, k2, k4, hgl⟩
        case measure => simp [intOf] <;> omega
      · have hzb : (n3 == 0) = false := by simpa using hz
        obtain ⟨R2, er, hR⟩ : ∃ R2 er, noteF R (glitchV l kk) = (R2, er) := ⟨_, _, rfl⟩
        have hlen2 : R2.l.length ≤ R.l.length + 1 := by have := noteF_len R (glitchV l kk); rw [hR] at this; exact this
        have hM : ∀ (w1 : World), Gls w1 A1 R.l → Calls Try.prog 22 #[.agg (rcV R.lim (.slice A1 R.l.length cp1) R.c R.fr R.b), .agg (glitchV l kk).cs] w1 fun e w' => (∃ v', e = .returned (.tuple #[v', .int .i64 er]) ∧ RecV w' R2 v') ∧ Grows w1 w' := fun w1 h => by
          have := rnoteR R _ (glitchV l kk) w1 ⟨A1, cp1, rfl, h⟩ (by omega)
          rw [hR] at this
          exact this
        clear hR
        go_upto_region 8 with fail
        obtain ⟨S, HI, HO⟩ : ∃ S : Ran → (Nat → Value) → World → Prop, Hid (∀ L vs w', (Below w.heap.size w w' ∧ Deck w' gd A cp l (if L 2 then nextKs l kk 5 else kk) ∧ Blk w' w.heap.size 28 #[.int .i64 0, .slice none 0 0, .int .i64 0, .int .i64 0, .int .i64 0, .int .i64 0, .int .i64 0, .int .i64 0, .int .i64 0, .int .i64 0, .int .i64 0, .int .i64 0, .int .i64 0, .int .i64 0, .int .i64 0, .int .i64 0, .int .i64 0, .int .i64 0, .int .i64 0, .int .i64 0, .int .i64 0, .int .i64 0, .int .i64 0, .int .i64 0, .int .i64 0, .int .i64 0, .int .i64 0, .int .i64 0, .int .i64 0, .int .i64 0, .int .i64 0, .int .i64 0] ∧ KnS [some (.agg (rcV R.lim (.slice A1 R.l.length cp1) R.c R.fr R.b)), some (.pointer (some ⟨gd, 0, none⟩)), some (.agg (glitchV l kk).cs), none, none, none, none, none] L vs ∧ Gls w' A1 R.l ∧ (L 7 = true → L 0 = true) ∧ (if L 7 then True else Blk w' G4 28 (rcV R.lim (.slice A1 R.l.length cp1) R.c R.fr R.b)) ∧ (L 3 = true → ∃ A2 c2, Gls w' A2 R2.l ∧ vs 3 = .tuple #[.agg (rcV R2.lim (.slice A2 R2.l.length c2) R2.c R2.fr R2.b), .int .i64 er] ∧ (L 4 = true → vs 4 = vs 3) ∧ (L 5 = true → vs 5 = .agg (rcV R2.lim (.slice A2 R2.l.length c2) R2.c R2.fr R2.b)) ∧ (L 7 = true → Blk w' G4 28 (rcV R2.lim (.slice A2 R2.l.length c2) R2.c R2.fr R2.b))) ∧ (L 3 = true → L 2 = true) ∧ (L 4 = true → L 3 = true) ∧ (L 5 = true → L 4 = true) ∧ (L 7 = true → L 5 = true)) → S L vs w') ∧ Hid (∀ L vs w', S L vs w' → (Below w.heap.size w w' ∧ Deck w' gd A cp l (if L 2 then nextKs l kk 5 else kk) ∧ Blk w' w.heap.size 28 #[.int .i64 0, .slice none 0 0, .int .i64 0, .int .i64 0, .int .i64 0, .int .i64 0, .int .i64 0, .int .i64 0, .int .i64 0, .int .i64 0, .int .i64 0, .int .i64 0, .int .i64 0, .int .i64 0, .int .i64 0, .int .i64 0, .int .i64 0, .int .i64 0, .int .i64 0, .int .i64 0, .int .i64 0, .int .i64 0, .int .i64 0, .int .i64 0, .int .i64 0, .int .i64 0, .int .i64 0, .int .i64 0, .int .i64 0, .int .i64 0, .int .i64 0, .int .i64 0] ∧ KnS [some (.agg (rcV R.lim (.slice A1 R.l.length cp1) R.c R.fr R.b)), some (.pointer (some ⟨gd, 0, none⟩)), some (.agg (glitchV l kk).cs), none, none, none, none, none] L vs ∧ Gls w' A1 R.l ∧ (L 7 = true → L 0 = true) ∧ (if L 7 then True else Blk w' G4 28 (rcV R.lim (.slice A1 R.l.length cp1) R.c R.fr R.b)) ∧ (L 3 = true → ∃ A2 c2, Gls w' A2 R2.l ∧ vs 3 = .tuple #[.agg (rcV R2.lim (.slice A2 R2.l.length c2) R2.c R2.fr R2.b), .int .i64 er] ∧ (L 4 = true → vs 4 = vs 3) ∧ (L 5 = true → vs 5 = .agg (rcV R2.lim (.slice A2 R2.l.length c2) R2.c R2.fr R2.b)) ∧ (L 7 = true → Blk w' G4 28 (rcV R2.lim (.slice A2 R2.l.length c2) R2.c R2.fr R2.b))) ∧ (L 3 = true → L 2 = true) ∧ (L 4 = true → L 3 = true) ∧ (L 5 = true → L 4 = true) ∧ (L 7 = true → L 5 = true))) := ⟨fun L vs w' => Below w.heap.size w w' ∧ Deck w' gd A cp l (if L 2 then nextKs l kk 5 else kk) ∧ Blk w' w.heap.size 28 #[.int .i64 0, .slice none 0 0, .int .i64 0, .int .i64 0, .int .i64 0, .int .i64 0, .int .i64 0, .int .i64 0, .int .i64 0, .int .i64 0, .int .i64 0, .int .i64 0, .int .i64 0, .int .i64 0, .int .i64 0, .int .i64 0, .int .i64 0, .int .i64 0, .int .i64 0, .int .i64 0, .int .i64 0, .int .i64 0, .int .i64 0, .int .i64 0, .int .i64 0, .int .i64 0, .int .i64 0, .int .i64 0, .int .i64 0, .int .i64 0, .int .i64 0, .int .i64 0] ∧ KnS [some (.agg (rcV R.lim (.slice A1 R.l.length cp1) R.c R.fr R.b)), some (.pointer (some ⟨gd, 0, none⟩)), some (.agg (glitchV l kk).cs), none, none, none, none, none] L vs ∧ Gls w' A1 R.l ∧ (L 7 = true → L 0 = true) ∧ (if L 7 then True else Blk w' G4 28 (rcV R.lim (.slice A1 R.l.length cp1) R.c R.fr R.b)) ∧ (L 3 = true → ∃ A2 c2, Gls w' A2 R2.l ∧ vs 3 = .tuple #[.agg (rcV R2.lim (.slice A2 R2.l.length c2) R2.c R2.fr R2.b), .int .i64 er] ∧ (L 4 = true → vs 4 = vs 3) ∧ (L 5 = true → vs 5 = .agg (rcV R2.lim (.slice A2 R2.l.length c2) R2.c R2.fr R2.b)) ∧ (L 7 = true → Blk w' G4 28 (rcV R2.lim (.slice A2 R2.l.length c2) R2.c R2.fr R2.b))) ∧ (L 3 = true → L 2 = true) ∧ (L 4 = true → L 3 = true) ∧ (L 5 = true → L 4 = true) ∧ (L 7 = true → L 5 = true), fun _ _ _ h => h, fun _ _ _ h => h⟩
        refine wp_region_genW S 39 (by kernel_rfl) (by kernel_rfl) rfl ?_ ?_
        · exact HI.out _ _ _ ⟨below_grows hB (Nat.le_refl _) (Grows.drew' _), by simpa using hd.grows (Grows.drew' _), k2.drew, kn_none _ _, hgl.grows (Grows.drew' _), (fun h => by cases h), by simpa using k4.drew, (fun h => by cases h), (fun h => by cases h), (fun h => by cases h), (fun h => by cases h), (fun h => by cases h)⟩
        refine gen_cons (A' := ?_) (fun vs L w1 hL hw1 => ?_) ?_ ?_
        rotate_left 1
        · obtain ⟨q0, q1, q2, q3, q4, q5, q6, q7, q8, q9, qa, qb⟩ := HO.out _ _ _ hw1
          have n0 : L 0 = false := hL.1
          have n7 : L 7 = false := by
            cases h : L 7
            · rfl
            · rw [q5 h] at n0; cases n0
          rw [n7] at q6
          simp only [Bool.false_eq_true, if_false] at q6
          refine gen_plain rfl ?_
          refine gr_load_row _ rfl rfl q6 Try.underlying28 rfl (rcV_info _ _ _ _ _) ?_
          exact HI.out _ _ _ ⟨q0, q1, q2, kn_known q3 rfl, q4, fun _ => rfl, (show (if L 7 = true then True else Blk w1 G4 28 (rcV R.lim (.slice A1 R.l.length cp1) R.c R.fr R.b)) from by rw [n7]; simp only [Bool.false_eq_true, if_false]; exact q6), q7, q8, q9, qa, qb⟩
        · intro vs
          simp only [Act.put, List.setIfInBounds_toArray, List.set_cons_succ, List.set_cons_zero]
          rfl
        refine gen_cons (A' := ?_) (fun vs L w1 hL hw1 => ?_) ?_ ?_
        rotate_left 1
        · obtain ⟨q0, q1, q2, q3, q4, q5, q6, q7, q8, q9, qa, qb⟩ := HO.out _ _ _ hw1
          refine gen_plain rfl ?_
          go_simp
          exact gr_val (HI.out _ _ _ ⟨q0, q1, q2, kn_known q3 rfl, q4, q5, q6, q7, q8, q9, qa, qb⟩)
        · intro vs
          simp only [Act.put, List.setIfInBounds_toArray, List.set_cons_succ, List.set_cons_zero]
          rfl
        refine gen_cons (A' := ?_) (fun vs L w1 hL hw1 => ?_) ?_ ?_
        rotate_left 1
        · obtain ⟨q0, q1, q2, q3, q4, q5, q6, q7, q8, q9, qa, qb⟩ := HO.out _ _ _ hw1
          have n2 : L 2 = false := hL.1
          have n3 : L 3 = false := by
            cases h : L 3
            · rfl
            · rw [q8 h] at n2; cases n2
          have n4 : L 4 = false := by
            cases h : L 4
            · rfl
            · rw [q9 h] at n3; cases n3
          have n5 : L 5 = false := by
            cases h : L 5
            · rfl
            · rw [qa h] at n4; cases n4
          have n7 : L 7 = false := by
            cases h : L 7
            · rfl
            · rw [qb h] at n5; cases n5
          rw [n7] at q6
          simp only [Bool.false_eq_true, if_false] at q6
          have l1 : L 1 = true := hL.need 1 (by kernel_rfl)
          have e1 := q3 1 _ rfl l1
          rw [n2] at q1
          simp only [Bool.false_eq_true, if_false] at q1
          have hgd := q1.blk.lt
          refine gen_plain rfl ?_
          simp only [e1]
          go_simp
          refine gr_call ?_
          refine (mglitch_any gd A cp l kk _ q1).mono ?_
          rintro e w2 ⟨rfl, hd2, hq⟩
          refine ⟨_, rfl, ?_⟩
          exact HI.out _ _ _ ⟨q0.grown hq q0.size (fun q hq' => by injection hq' with hq'; omega), (show Deck w2 gd A cp l (if true = true then nextKs l kk 5 else kk) by rw [if_pos rfl]; exact hd2), q2.grown hq (by intro e; injection e with e; omega), kn_known q3 rfl, gls_grown q4 hq (gls_ne_small q4 q1.blk (by simp)), q5, (show (if L 7 = true then True else Blk w2 G4 28 (rcV R.lim (.slice A1 R.l.length cp1) R.c R.fr R.b)) from by rw [n7]; simp only [Bool.false_eq_true, if_false]; exact q6.grown hq (by intro e; injection e with e; omega)), (fun h => by rw [show L 3 = true from h] at n3; cases n3), fun _ => rfl, q9, qa, qb⟩
        · intro vs
          simp only [Act.put, List.setIfInBounds_toArray, List.set_cons_succ, List.set_cons_zero]
          rfl
        refine gen_cons (A' := ?_) (fun vs L w1 hL hw1 => ?_) ?_ ?_
        rotate_left 1
        · obtain ⟨q0, q1, q2, q3, q4, q5, q6, q7, q8, q9, qa, qb⟩ := HO.out _ _ _ hw1
          have n3 : L 3 = false := hL.1
          have n4 : L 4 = false := by
            cases h : L 4
            · rfl
            · rw [q9 h] at n3; cases n3
          have n5 : L 5 = false := by
            cases h : L 5
            · rfl
            · rw [qa h] at n4; cases n4
          have n7 : L 7 = false := by
            cases h : L 7
            · rfl
            · rw [qb h] at n5; cases n5
          rw [n7] at q6
          simp only [Bool.false_eq_true, if_false] at q6
          have l0 : L 0 = true := hL.need 0 (by kernel_rfl)
          have l2 : L 2 = true := hL.need 2 (by kernel_rfl)
          have e0 := q3 0 _ rfl l0
          have e2 := q3 2 _ rfl l2
          refine gen_plain rfl ?_
          simp only [e0, e2]
          go_simp
          refine gr_call ?_
          refine (hM w1 q4).mono ?_
          rintro e w2 ⟨⟨v2, he, A2, c2, rfl, hgl2⟩, hg⟩
          refine ⟨_, he, ?_⟩
          exact HI.out _ _ _ ⟨below_grows q0 (Nat.le_refl _) hg, q1.grows hg, q2.grows hg, kn_free q3 rfl, q4.grows hg, q5, (show (if L 7 = true then True else Blk w2 G4 28 (rcV R.lim (.slice A1 R.l.length cp1) R.c R.fr R.b)) from by rw [n7]; simp only [Bool.false_eq_true, if_false]; exact q6.grows hg), (fun _ => ⟨A2, c2, hgl2, rfl, (fun h => by rw [show L 4 = true from h] at n4; cases n4), (fun h => by rw [show L 5 = true from h] at n5; cases n5), (fun h => by rw [show L 7 = true from h] at n7; cases n7)⟩), fun _ => l2, fun h => (by rw [show L 4 = true from h] at n4; cases n4), qa, qb⟩
        · intro vs
          simp only [Act.put, List.setIfInBounds_toArray, List.set_cons_succ, List.set_cons_zero]
          rfl
        refine gen_cons (A' := ?_) (fun vs L w1 hL hw1 => ?_) ?_ ?_
        rotate_left 1
        · obtain ⟨q0, q1, q2, q3, q4, q5, q6, q7, q8, q9, qa, qb⟩ := HO.out _ _ _ hw1
          have l3 : L 3 = true := hL.need 3 (by kernel_rfl)
          refine gen_plain rfl ?_
          go_simp
          refine gr_val (HI.out _ _ _ ⟨q0, q1, q2, kn_free q3 rfl, q4, q5, q6, (fun h => ?_), q8, fun _ => l3, fun _ => rfl, qb⟩)
          obtain ⟨A2, c2, r1, r2, r3, r4, r5⟩ := q7 h
          exact ⟨A2, c2, r1, r2, fun _ => rfl, r4, r5⟩
        · intro vs
          simp only [Act.put, List.setIfInBounds_toArray, List.set_cons_succ, List.set_cons_zero]
          rfl
        refine gen_cons (A' := ?_) (fun vs L w1 hL hw1 => ?_) ?_ ?_
        rotate_left 1
        · obtain ⟨q0, q1, q2, q3, q4, q5, q6, q7, q8, q9, qa, qb⟩ := HO.out _ _ _ hw1
          have l3 : L 3 = true := hL.need 3 (by kernel_rfl)
          have l4 : L 4 = true := hL.need 4 (by kernel_rfl)
          refine gen_plain rfl ?_
          obtain ⟨A2, c2, r1, r2, r3, r4, r5⟩ := q7 l3
          have e4 := r3 l4
          simp only [e4, r2]
          go_simp
          exact gr_val (HI.out _ _ _ ⟨q0, q1, q2, kn_free q3 rfl, q4, q5, q6, (fun _ => ⟨A2, c2, r1, r2, r3, fun _ => rfl, r5⟩), q8, q9, fun _ => l4, fun _ => rfl⟩)
        · intro vs
          simp only [Act.put, List.setIfInBounds_toArray, List.set_cons_succ, List.set_cons_zero]
          rfl
        refine gen_cons (A' := ?_) (fun vs L w1 hL hw1 => ?_) ?_ ?_
        rotate_left 1
        · obtain ⟨q0, q1, q2, q3, q4, q5, q6, q7, q8, q9, qa, qb⟩ := HO.out _ _ _ hw1
          have l3 : L 3 = true := hL.need 3 (by kernel_rfl)
          have l4 : L 4 = true := hL.need 4 (by kernel_rfl)
          refine gen_plain rfl ?_
          obtain ⟨A2, c2, r1, r2, r3, r4, r5⟩ := q7 l3
          have e4 := r3 l4
          simp only [e4, r2]
          go_simp
          exact gr_val (HI.out _ _ _ ⟨q0, q1, q2, kn_free q3 rfl, q4, q5, q6, (fun _ => ⟨A2, c2, r1, r2, r3, r4, r5⟩), q8, q9, qa, qb⟩)
        · intro vs
          simp only [Act.put, List.setIfInBounds_toArray, List.set_cons_succ, List.set_cons_zero]
          rfl
        refine gen_cons (A' := ?_) (fun vs L w1 hL hw1 => ?_) ?_ ?_
        rotate_left 1
        · obtain ⟨q0, q1, q2, q3, q4, q5, q6, q7, q8, q9, qa, qb⟩ := HO.out _ _ _ hw1
          have n7 : L 7 = false := hL.1
          have l0 : L 0 = true := hL.need 0 (by kernel_rfl)
          have l3 : L 3 = true := hL.need 3 (by kernel_rfl)
          have l4 : L 4 = true := hL.need 4 (by kernel_rfl)
          have l5 : L 5 = true := hL.need 5 (by kernel_rfl)
          rw [n7] at q6
          simp only [Bool.false_eq_true, if_false] at q6
          refine gen_plain rfl ?_
          obtain ⟨A2, c2, r1, r2, r3, r4, r5⟩ := q7 l3
          have e5 := r4 l5
          refine gr_store_row (cs := (rcV R2.lim (.slice A2 R2.l.length c2) R2.c R2.fr R2.b)) _ _ rfl rfl e5 q6 (rcV_info _ _ _ _ _) rfl (rcV_one _ _ _ _ _ _ _) ?_
          exact HI.out _ _ _ ⟨below_row q0 (by omega) _, deck_row q1 (by omega) _, q2.row_far (by omega), kn_free q3 rfl, gls_row q4 (gls_ne_row q4 q6) _, fun _ => l0, (show (if true = true then True else _) by rw [if_pos rfl]; trivial), (fun _ => ⟨A2, c2, gls_row r1 (gls_ne_row r1 q6) _, r2, r3, r4, fun _ => q6.row⟩), q8, q9, qa, fun _ => l5⟩
        · intro vs
          rfl
        refine gen_nil ?_
        intro vs L w7 hall hS
        obtain ⟨hB, hd, k2, -, -, -, -, q7, -⟩ := HO.out _ _ _ hS
        obtain ⟨A2, c2, hgl, -, -, -, k4⟩ := q7 (hall 3 (by simp))
        replace k4 := k4 (hall 7 (by simp))
        rw [if_pos (hall 2 (by simp))] at hd
        clear hall hS HI HO
        go_wp2
        go_roundw
        case rel => exact ⟨j, _, R2, A2, c2, by go_num, by omega, hB, hd, k2, k4, hgl⟩
        case measure => simp [intOf] <;> omega
    · obtain rfl : j = 0 := by omega
      clear hpos
      simp only [Int.cast_ofNat_Int]
      go_upto_region 9 with fail
      refine wp_region_lit ?_
      refine wpList_load_row rfl _ rfl rfl k4 Try.underlying28 rfl (rcV_info _ _ _ _ _) ?_
      refine wpList_store_row (cs := (rcV R.lim (.slice A1 R.l.length cp1) R.c R.fr R.b)) rfl _ _ rfl rfl rfl rfl k2 (rcV_info _ _ _ _ _) (hzs _ _ _ _ _) (rcV_one _ _ _ _ _ _ _) ?_
      have hgl2 : Gls (wr.setRow w.heap.size (rcV R.lim (.slice A1 R.l.length cp1) R.c R.fr R.b)) A1 R.l := by
        refine gls_row hgl ?_ _
        intro ad ha hl0 he
        obtain ⟨x, hx⟩ := gls_cell hgl hl0 ha
        have h4 := hx 4 _ rfl
        rw [addr_add ad 4 (by omega), he, k2.cell] at h4
        exact rcV_no 0 none 0 0 (fun _ => 0) 0 (fun _ => 0) _ _ h4
      replace k2 := k2.row (cs := (rcV R.lim (.slice A1 R.l.length cp1) R.c R.fr R.b))
      replace hB := below_row hB (g := w.heap.size) (Nat.le_refl _) (rcV R.lim (.slice A1 R.l.length cp1) R.c R.fr R.b)
      generalize World.setRow _ _ _ = w9 at *
      go_wp2
      have hlo := run_loadVar_row (P := Try.prog) w9 w.heap.size 28 28 (rcV R.lim (.slice A1 R.l.length cp1) R.c R.fr R.b) (0, 0) _ k2 Try.underlying28 rfl (rcV_info _ _ _ _ _)
      refine bodyPost_ret (v := .agg (rcV R.lim (.slice A1 R.l.length cp1) R.c R.fr R.b)) ?_ rfl ⟨⟨R, _, rfl, ⟨A1, cp1, rfl, hgl2⟩, by omega⟩, hB⟩
      unfold results
      simp only [Try.results12]
      simp [asAddr, hlo, Act.put]
end Go.Proofs.Ytbohbapheofpiaa
