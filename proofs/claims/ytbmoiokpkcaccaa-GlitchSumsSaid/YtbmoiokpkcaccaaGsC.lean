/-
  Layer 37: glitches sorted: by the library, Sort of both, the reference's put. Plain contracts.
-/
import Derived.Test.YtbmoiokpkcaccaaGsB
import Derived.Test.YtbmoiokpkcaccaaSortGl
import Derived.Test.YtbmoiokpkcaccaaGenT
import Derived.Shelf.SlSortCmp.NoneTotal
import Derived.Lib.RowBridge
namespace Go.Proofs.Ytbmoiokpkcaccaa
open Go.RowKit Go.Sort Go.Shelf Go.Lib
instance : Inhabited Gl := ⟨⟨0, 0, 0, 0, 0, 0⟩⟩
def encG (x : Gl) : List Value := x.ls
theorem flat_eq (d : Array Gl) : (flatK encG 6 d).toList = gcells d.toList := by
  have hs : (flatK encG 6 d).size = d.size * 6 := size_flatK _ _ _
  apply List.ext_getElem?
  intro t
  by_cases ht : t < d.size * 6
  · have hd : t / 6 < d.size := by omega
    have h1 := get_flatK encG 6 d t ht
    rw [getElem!_pos (flatK encG 6 d) t (by rw [hs]; exact ht)] at h1
    rw [List.getElem?_eq_getElem (by simpa [hs] using ht), Array.getElem_toList, h1, getElem!_pos d _ hd]
    have h2 := gcells_at d.toList (t / 6) d[t / 6] (by rw [Array.getElem?_toList, Array.getElem?_eq_getElem hd]) (t % 6) (by omega)
    rw [show t / 6 * 6 + t % 6 = t by omega] at h2
    rw [h2]
    unfold encG
    have h3 : t % 6 < (d[t / 6].ls).length := by simp [Gl.ls]; omega
    rw [getElem!_pos (d[t / 6].ls) (t % 6) h3, List.getElem?_eq_getElem h3]
  · rw [List.getElem?_eq_none (by simp [hs]; omega), List.getElem?_eq_none (by rw [gcells_len]; simp; omega)]
theorem ltG (x y : Gl) : ltOf cmpG x y = lessG x y := rfl
theorem swoG : SWO (ltOf cmpG) where
  irrefl x := by rw [ltG]; exact lessG_irrefl x
  trans x y z h1 h2 := by rw [ltG] at *; exact lessG_trans h1 h2
  ntrans x y z h1 h2 := by
    rw [ltG] at *
    have a : leG y x = true := by unfold leG; rw [h1]; rfl
    have b : leG z y = true := by unfold leG; rw [h2]; rfl
    have c := leG_trans b a
    unfold leG at c
    rwa [Bool.not_eq_true'] at c
theorem own_setCells {base g cap : Nat} {n : Nat} : ∀ (vs : List Value) (o : Nat) (xs : List Value) (w : World), o + vs.length ≤ xs.length → w.ownsRow base 28 6 (.slice (some ⟨g, 0, none⟩) n cap) n xs →
    (w.setCells g o vs).ownsRow base 28 6 (.slice (some ⟨g, 0, none⟩) n cap) n (xs.take o ++ vs ++ xs.drop (o + vs.length)) := by
  intro vs
  induction vs with
  | nil => intro o xs w _ h; simpa [World.setCells] using h
  | cons v r ih =>
    intro o xs w hl h
    simp only [List.length_cons] at hl
    have h1 := ih (o + 1) (xs.set o v) (w.setCell ⟨g, o, none⟩ v) (by simp; omega) (World.ownsRow.stored h o v).1
    have e : (xs.set o v).take (o + 1) ++ r ++ (xs.set o v).drop (o + 1 + r.length) = xs.take o ++ v :: r ++ xs.drop (o + (v :: r).length) := by
      rw [List.drop_set_of_lt (by omega), List.take_succ_eq_append_getElem (by simp; omega), List.take_set_of_le (Nat.le_refl _)]
      simp [Nat.add_comm, Nat.add_left_comm]
    rw [e] at h1
    exact h1
theorem holds_own {w : World} {base g cap : Nat} {l : List Gl} (d : Array Gl) (hd : d.toList = l) (h : OwnG w base (.slice (some ⟨g, 0, none⟩) l.length cap) l) : HoldsK encG 6 w g 0 d := by
  intro j hj
  have hs : (flatK encG 6 d).size = d.size * 6 := size_flatK _ _ _
  have hr := Reads.of_own h
  have hsz : d.size = l.length := by rw [← hd]; simp
  obtain ⟨ad, e, _, hc⟩ := hr.2 (by omega)
  injection e with e
  subst e
  have ha : (⟨g, 0, none⟩ : Addr).add j = ⟨g, 0 + j, none⟩ := by
    unfold Addr.add
    split
    · simp_all
    · rfl
  refine ⟨?_, by rw [Nat.zero_add]; exact World.ownsRow.frozenAt h j⟩
  rw [← ha]
  refine hc j _ ?_
  rw [← hd, ← flat_eq, Array.getElem?_toList, getElem!_pos (flatK encG 6 d) j hj, Array.getElem?_eq_getElem hj]
  rfl
theorem grown_sort {w : World} {g n : Nat} {d : Array Gl} {os : Array Obj} : w.grownBy (sortWorldK encG 6 w g 0 n d os) (some g) := by
  refine ⟨rfl, rfl, rfl, ?_, fun j hj hne => ?_⟩
  · unfold sortWorldK
    rw [size_grow, size_putRowK]
    exact Nat.le_add_right _ _
  · have hne2 : ¬ g = j := fun e => hne (by rw [e])
    unfold sortWorldK grow putRowK putRow mapBlock
    simp only []
    rw [Array.getElem?_append_left (by simpa using hj), Array.getElem?_modify, if_neg hne2]
    rfl
theorem own_sort {w : World} {base g cap n : Nat} {l : List Gl} {d d' : Array Gl} {os : Array Obj} (hd : d.toList = l) (hs : d'.size = d.size) (h : OwnG w base (.slice (some ⟨g, 0, none⟩) l.length cap) l) :
    OwnG (sortWorldK encG 6 w g 0 n d' os) base (.slice (some ⟨g, 0, none⟩) l.length cap) (d'.toList) := by
  have hH := holds_own d hd h
  have e1 : putRowK encG 6 (Sort.ahead w n) g 0 d' = (w.drewN n).setCells g 0 (gcells (d'.toList)) := by
    have := putRow_eq_setCells id w g 0 (flatK encG 6 d) (flatK encG 6 d').toList n hH (by simp [size_flatK, hs])
    rw [List.map_id, flat_eq] at this
    rw [← this, ← flat_eq]
    rfl
  have hlen : d'.toList.length = l.length := by rw [← hd]; simp [hs]
  unfold sortWorldK
  rw [e1]
  have h2 : (w.drewN n).ownsRow base 28 6 (.slice (some ⟨g, 0, none⟩) l.length cap) l.length (gcells l) := h
  have h3 := own_setCells (gcells (d'.toList)) 0 (gcells l) (w.drewN n) (by rw [gcells_len, gcells_len, hlen]; omega) h2
  rw [List.take_zero, List.nil_append, Nat.zero_add, List.drop_of_length_le (by rw [gcells_len, gcells_len, hlen]; omega), List.append_nil] at h3
  have hg : Grows ((w.drewN n).setCells g 0 (gcells (d'.toList))) (grow ((w.drewN n).setCells g 0 (gcells (d'.toList))) os) := by
    refine ⟨rfl, rfl, rfl, by rw [size_grow]; exact Nat.le_add_right _ _, fun j hj => ?_⟩
    unfold grow
    simp only []
    rw [Array.getElem?_append_left hj]
  have h4 := h3.kept (grown_none hg) (.inr (by simp [Value.ownBlock]))
  unfold OwnG
  rw [hlen]
  exact h4
theorem sort_pos (base g cap : Nat) (l : List Gl) (w : World) (h : OwnG w base (.slice (some ⟨g, 0, none⟩) l.length cap) l) (hg : g < w.heap.size) (hl : l.length ≤ 1000000) :
    Calls Try.prog 24 #[.slice (some ⟨g, 0, none⟩) l.length cap, .func (.func 25) #[] #[]] w fun e w' => e = .returned (.tuple #[]) ∧ ∃ d : List Gl, d.Perm l ∧ SortedG d ∧ OwnG w' base (.slice (some ⟨g, 0, none⟩) l.length cap) d ∧ w.grownBy w' (some g) := by
  obtain ⟨d, hd⟩ : ∃ d : Array Gl, d.toList = l := ⟨l.toArray, rfl⟩
  have hsz : d.size = l.length := by rw [← hd]; simp
  have eg : ∀ args w, (callFunc 25 args).run Try.prog w = .ok (.enter 25 args) w := enters_of Try.func25 (by kernel_rfl) rfl
  have hcon := AnyQ.slices_SortFunc sortGl 6 Try.isAgg28 Try.sizeOf28 encG (fun _ => rfl) (fun x v hv => by simp [encG, Gl.ls] at hv; rcases hv with rfl | rfl | rfl | rfl | rfl | rfl <;> rfl) cmpG swoG 25 #[] g 0 cap d w eg (fun _ _ _ _ x y => gcompare_any x y _) (holds_own d hd h) hg (by omega)
  change Calls Try.prog 24 _ _ _ at hcon
  rw [hsz] at hcon
  refine hcon.mono ?_
  rintro e w' ⟨rfl, d', n, os, hp, hso, rfl⟩
  refine ⟨rfl, d'.toList, ?_, ?_, own_sort hd hp.1 h, grown_sort⟩
  · have := hp.2.2
    rw [← hsz, show d.extract 0 d.size = d by simp, show d'.extract 0 d.size = d' by rw [← hp.1]; simp] at this
    rw [← hd]
    exact this
  · show List.Pairwise _ _
    rw [List.pairwise_iff_getElem]
    intro i j hi hj hij
    have hi' : i < d'.size := by simpa using hi
    have hj' : j < d'.size := by simpa using hj
    have := hso i j (Nat.zero_le _) hij (by have := hp.1; omega)
    rw [ltG, getElem!_pos d' i hi', getElem!_pos d' j hj'] at this
    simp only [Array.getElem_toList]
    unfold leG
    rw [this]
    rfl
theorem gsort_any (base : Nat) (v : Value) (l : List Gl) (w : World) (h : OwnG w base v l) (hl : l.length ≤ 1000000) :
    Calls Try.prog 24 #[v, .func (.func 25) #[] #[]] w fun e w' => e = .returned (.tuple #[]) ∧ ∃ d : List Gl, d.Perm l ∧ SortedG d ∧ OwnG w' base v d ∧ w.grownBy w' v.ownBlock := by
  obtain ⟨A, c, rfl, hc, hr, hge⟩ := h.read
  by_cases h0 : l.length = 0
  · obtain rfl : l = [] := List.length_eq_zero_iff.1 h0
    have hcon := AnyF.slices_SortFunc_none sortGl A c (.func (.func 25) #[] #[]) w
    change Calls Try.prog 24 _ _ _ at hcon
    refine hcon.mono ?_
    rintro e w' ⟨rfl, rfl⟩
    exact ⟨rfl, [], List.Perm.refl _, List.Pairwise.nil, h, World.grownBy.refl _ _⟩
  · obtain ⟨ad, rfl, _⟩ := hr.2 (by omega)
    obtain ⟨g, rfl, _, hg⟩ := own_addr h (by omega) 0
    exact sort_pos base g c l w h (h.lt g rfl).2 hl
theorem gr_append_gl {o : Oper} {ev : Operand → Value} {w : World} {T : Value → World → Prop} (s x : Operand) (ho : o.op = .call { callee := .builtin .append, args := #[s, x], argTypes := #[24, 24] })
    {base : Nat} {v : Value} {l m : List Gl} {A : Option Addr} {c n : Nat} (hn : n = m.length) (hs : ev s = v) (hown : OwnG w base v l) (hx : ev x = .slice A n c) (hr : Gls w A m) (hlen : l.length + m.length ≤ 1000000) (hbase : base ≤ w.heap.size)
    (h : ∀ v' w', OwnG w' base v' (l ++ m) → w.grownBy w' v.ownBlock → T v' w') : genR Try.prog T ((execOp ev o).run Try.prog w) := by
  obtain ⟨i0, hi0, hi1, hi2, hi3, hi4⟩ := ginfo
  subst hn
  obtain ⟨v', w', hrun, h2, h3, h4⟩ := run_append_any (P := Try.prog) w base 24 o.type 28 i0 _ 6 48 Try.underlying24 hi0 hi3 hi1 hi2 hi4 (by omega) v l.length (gcells l) hown w.heap.size A m.length c (gcells m) hr (gcells_one m) (by simp only [maxLen]; omega) (by omega) hbase
  unfold execOp
  simp only [ho, resolve, invoke, builtin, Sem.run_bind, Sem.run_pure, Result.andThen_ok, List.map_toArray, List.map_cons, List.map_nil, hs, hx, hrun]
  refine h v' w' ?_ h3
  unfold OwnG
  rw [gcells_append, List.length_append]
  exact h2
theorem gvalid_g (g : Gl) (w : World) : Calls Try.prog 12 #[.agg #[.int .i64 g.k, .int .i64 g.a, .int .i64 g.q, .int .i64 g.s, .int .u64 g.d, .int .i64 g.f]] w fun e w' => e = .returned (.bool (okG g)) ∧ Grows w w' := gvalid_any g.k g.a g.q g.s g.d g.f w
theorem grvalid_g (g : Gl) (w : World) : Calls Try.prog 8 #[.agg #[.int .i64 g.k, .int .i64 g.a, .int .i64 g.q, .int .i64 g.s, .int .u64 g.d, .int .i64 g.f]] w fun e w' => e = .returned (.bool (okG g)) ∧ Grows w w' := grvalid_any g.k g.a g.q g.s g.d g.f w
theorem below_of_own {base : Nat} {v : Value} {l : List Gl} {W w w' : World} (h : OwnG w base v l) (hb : W.heap.size ≤ base) (q : Grows W w) (hg : w.grownBy w' v.ownBlock) : Grows W w' :=
  q.grown hg q.size fun g hgb => Nat.le_trans hb (h.lt g hgb).1
theorem filter_snoc {l : List Gl} {k : Nat} {g : Gl} (h : l[k]? = some g) : (l.take (k + 1)).filter okG = (l.take k).filter okG ++ (if okG g = true then [g] else []) := by
  rw [take_snoc h, List.filter_append]
  cases e : okG g <;> simp [e]
set_option maxHeartbeats 4000000 in
theorem gsortf_any (A : Option Addr) (c : Nat) (l : List Gl) (w : World) (h : Gls w A l) (hl : l.length ≤ 100000) :
    Calls Try.prog 17 #[.slice A l.length c] w fun e w' => (∃ v, e = .returned v ∧ OwnG w' w.heap.size v (sortG l)) ∧ Grows w w' := by
  go_enter Try.func17, Try.ntmps17
  go_wp2_with fail
  go_loopw [3, 8] (fun v i wr => ∃ k : Nat, k ≤ l.length ∧ i = .int .i64 k ∧ OwnG wr w.heap.size v ((l.take k).filter okG) ∧ Grows w wr) (fun _ i _ => l.length - (intOf i).toNat)
  case atStart => exact ⟨0, by omega, rfl, ownG_nil _ _, Below.refl _ _⟩
  case round =>
    obtain ⟨k, hk, rfl, hown, hB⟩ := hrel
    have hfl : ((l.take k).filter okG).length ≤ 100000 := Nat.le_trans (List.length_filter_le _ _) (by rw [List.length_take]; omega)
    by_cases hlt : k < l.length
    · skip
      obtain ⟨ad, g, rfl, had, hx, c0, c1, c2, c3, c4, c5⟩ := (h.grows hB).elem hlt
      have HX := Lib.hid (filter_snoc hx)
      generalize (l.take k).filter okG = p at *
      clear hx
      have k5 := Blk.new wr 28 #[.int .i64 g.k, .int .i64 g.a, .int .i64 g.q, .int .i64 g.s, .int .u64 g.d, .int .i64 g.f]
      have hq := (Below.refl wr.heap.size wr).alloc (Nat.le_refl _) (Obj.cells #[.int .i64 g.k, .int .i64 g.a, .int .i64 g.q, .int .i64 g.s, .int .u64 g.d, .int .i64 g.f] 28)
      go_upto_region 5 with fail
      clear c0 c1 c2 c3 c4 c5
      replace hown := hown.grows hq
      replace hB := below_grows hB (Nat.le_refl _) hq
      clear hq
      generalize World.alloc wr _ = w4 at *
      generalize wr.heap.size = G5 at *
      have x5 := k5.cell
      go_wp2_with fail
      refine (gvalid_g g _).mono ?_
      rintro e w5 ⟨rfl, hq⟩
      replace hown := hown.grows hq
      replace hB := below_grows hB (Nat.le_refl _) hq
      replace k5 := k5.grows hq
      clear hq x5
      have x5 := k5.cell
      cases hok : okG g
      · have HE : Hid ((l.take (k + 1)).filter okG = p) := Lib.hid (by rw [HX.out, hok]; simp)
        clear HX x5 k5
        go_wp2
        go_roundw
        case rel => exact ⟨k + 1, by omega, by go_num, by rw [HE.out]; exact hown, hB⟩
        case measure => simp [intOf]; omega
      · have HE : Hid ((l.take (k + 1)).filter okG = p ++ [g]) := Lib.hid (by rw [HX.out, hok]; simp)
        clear HX
        clear x5
        go_upto_region 6 with fail
        refine wp_region_lit ?_
        iterate 1
          refine wpList_plain rfl (fun K hK => ?_)
          go_simp
          refine hK _ _ ?_
          clear hK K
        refine wpList_load_row rfl _ rfl rfl k5 Try.underlying28 rfl ginfo6 ?_
        iterate 1
          refine wpList_plain rfl (fun K hK => ?_)
          go_simp
          refine hK _ _ ?_
          clear hK K
        have hq8 := (Below.refl w5.heap.size w5).alloc (Nat.le_refl _) (Obj.cells #[.int .i64 g.k, .int .i64 g.a, .int .i64 g.q, .int .i64 g.s, .int .u64 g.d, .int .i64 g.f] 28)
        replace hown := hown.grows hq8
        replace hB := below_grows hB (Nat.le_refl _) hq8
        refine wpList_append_gl rfl (.tmp 14) (.tmp 16) rfl (m := [g]) rfl rfl hown (gls_lit w5 g) (by simp only [List.length_cons, List.length_nil]; omega) hB.size ?_
        intro v3 w8 hown3 hgr3
        have hB3 := hown.below hB hgr3 hB.size
        clear hown hgr3 hq8 hB
        clear k5
        go_wp2
        go_roundw
        case rel => exact ⟨k + 1, by omega, by go_num, by rw [HE.out]; exact hown3, hB3⟩
        case measure => simp [intOf]; omega
    · skip
      have e : l.take k = l := List.take_of_length_le (by omega)
      rw [e] at hown hfl
      clear e
      have HS : Hid (∀ d : List Gl, d.Perm (l.filter okG) → SortedG d → d = sortG l) := Lib.hid fun d => sortG_eq
      generalize l.filter okG = p at *
      go_wp2_with fail
      refine (gsort_any w.heap.size _ p _ hown (by omega)).mono ?_
      rintro e w2 ⟨rfl, d, hp, hs, hown2, hgr⟩
      have hB2 := hown.below hB hgr hB.size
      obtain rfl := HS.out d hp hs
      clear hown hgr HS
      go_wp2
      go_ret
      exact ⟨⟨_, rfl, hown2⟩, hB2⟩
theorem rless_is (g h : Gl) (w : World) {b : Bool} (hb : lessG g h = b) : Calls Try.prog 16 #[.agg #[.int .i64 g.k, .int .i64 g.a, .int .i64 g.q, .int .i64 g.s, .int .u64 g.d, .int .i64 g.f], .agg #[.int .i64 h.k, .int .i64 h.a, .int .i64 h.q, .int .i64 h.s, .int .u64 h.d, .int .i64 h.f]] w fun e w' => e = .returned (.bool b) ∧ Grows w w' := by rw [← hb]; exact rless_any g h w
/-- A glitch put where it belongs. -/
def PutG (l : List Gl) (g : Gl) (o : List Gl) : Prop := ∃ k ≤ l.length, o = l.take k ++ [g] ++ l.drop k ∧ (∀ x ∈ l.take k, lessG g x = false) ∧ ∀ x, l[k]? = some x → lessG g x = true
theorem put_sorted {l o : List Gl} {g : Gl} (h : PutG l g o) (hs : SortedG l) : SortedG o ∧ o.Perm (g :: l) := by
  obtain ⟨k, hk, rfl, h1, h2⟩ := h
  have hd : l.take k ++ l.drop k = l := List.take_append_drop _ _
  have hs' := hs
  rw [← hd] at hs'
  obtain ⟨s1, s2, s3⟩ := List.pairwise_append.1 hs'
  have hr : ∀ y ∈ l.drop k, leG g y = true := by
    intro y hy
    rcases Nat.lt_or_ge k l.length with hlt | hge
    · have e := List.drop_eq_getElem_cons hlt
      have hx := leG_of_less (h2 l[k] (List.getElem?_eq_getElem hlt))
      rw [e] at hy s2
      rcases List.mem_cons.1 hy with rfl | hy
      · exact hx
      · exact leG_trans hx ((List.pairwise_cons.1 s2).1 y hy)
    · rw [List.drop_of_length_le hge] at hy; cases hy
  refine ⟨?_, ?_⟩
  · rw [List.append_assoc]
    refine List.pairwise_append.2 ⟨s1, ?_, ?_⟩
    · exact List.pairwise_cons.2 ⟨hr, s2⟩
    · intro x hx y hy
      rcases List.mem_cons.1 hy with rfl | hy
      · unfold leG; rw [h1 x hx]; rfl
      · exact s3 x hx y hy
  · rw [List.append_assoc]
    show (l.take k ++ g :: l.drop k).Perm (g :: l)
    exact List.perm_middle.trans (by rw [hd])
set_option maxRecDepth 100000 in
set_option maxHeartbeats 8000000 in
theorem put_any (A : Option Addr) (c : Nat) (l : List Gl) (g : Gl) (w : World) (h : Gls w A l) (hl : l.length ≤ 100000) (hlc : l.length ≤ c) :
    Calls Try.prog 27 #[.slice A l.length c, .agg #[.int .i64 g.k, .int .i64 g.a, .int .i64 g.q, .int .i64 g.s, .int .u64 g.d, .int .i64 g.f]] w fun e w' => (∃ v o, e = .returned v ∧ OwnG w' w.heap.size v o ∧ PutG l g o) ∧ Grows w w' := by
  have kg := Blk.new w 28 #[.int .i64 g.k, .int .i64 g.a, .int .i64 g.q, .int .i64 g.s, .int .u64 g.d, .int .i64 g.f]
  have hB := (Below.refl w.heap.size w).alloc (Nat.le_refl _) (Obj.cells #[.int .i64 g.k, .int .i64 g.a, .int .i64 g.q, .int .i64 g.s, .int .u64 g.d, .int .i64 g.f] 28)
  go_enter Try.func27, Try.ntmps27
  go_upto_region 1 with fail
  have h1 := h.grows hB
  generalize World.alloc w _ = w1 at *
  go_wp2_with fail
  go_loopw [5, 6] (fun v i wr => ∃ k : Nat, k ≤ l.length ∧ i = .int .i64 k ∧ OwnG wr w1.heap.size v (l.take k) ∧ (∀ x ∈ l.take k, lessG g x = false) ∧ Grows w1 wr) (fun _ i _ => l.length - (intOf i).toNat)
  case atStart => exact ⟨0, by omega, rfl, ownG_nil _ _, by simp, Below.refl _ _⟩
  case round =>
    obtain ⟨k, hk, rfl, hown, hless, hg⟩ := hrel
    have HLS := Lib.hid hless
    clear hless
    have kgr := kg.grows hg
    have hr := h1.grows hg
    by_cases hlt : k < l.length
    · obtain ⟨ad, x, rfl, had, hx, hcx0⟩ := hr.elem hlt
      have hcx : ∀ w', Grows wr w' → CellsG w' (ad.add (k * 6)) x := fun w' hg' => by
        have := (hr.grows hg').elem hlt
        obtain ⟨ad', x', e, _, hx', hc'⟩ := this
        injection e with e
        subst e
        rw [hx] at hx'
        injection hx' with hx'
        subst hx'
        exact hc'
      have HX := Lib.hid hx
      have HTS : Hid (l.take (k + 1) = l.take k ++ [x]) := Lib.hid (take_snoc hx)
      have hpl : (l.take k).length = k := by rw [List.length_take]; omega
      have HPL := Lib.hid hpl
      have hk1 : (k : Int) < (l.length : Int) := by omega
      clear hx hcx0 hpl had
      cases hLx : lessG g x
      · skip
        have HL := Lib.hid hLx
        clear hLx
        go_upto_region 3 with fail
        obtain ⟨S, HI, HO⟩ : ∃ S : Ran → (Nat → Value) → World → Prop, Hid (∀ L vs w', (Grows wr w' ∧ KnS [some (.int .i64 (k : Int)), some (.slice (some ad) l.length c), some (.int .i64 (l.length : Int)), some (.bool true), some (.bool true), some (.agg #[.int .i64 g.k, .int .i64 g.a, .int .i64 g.q, .int .i64 g.s, .int .u64 g.d, .int .i64 g.f]), some (.slice (some ad) l.length c), some (.int .i64 (k : Int)), some (.pointer (some (ad.add (k * 6)))), some (.agg #[.int .i64 x.k, .int .i64 x.a, .int .i64 x.q, .int .i64 x.s, .int .u64 x.d, .int .i64 x.f]), some (.bool false), some (.bool true), some (.bool true)] L vs) → S L vs w') ∧ Hid (∀ L vs w', S L vs w' → (Grows wr w' ∧ KnS [some (.int .i64 (k : Int)), some (.slice (some ad) l.length c), some (.int .i64 (l.length : Int)), some (.bool true), some (.bool true), some (.agg #[.int .i64 g.k, .int .i64 g.a, .int .i64 g.q, .int .i64 g.s, .int .u64 g.d, .int .i64 g.f]), some (.slice (some ad) l.length c), some (.int .i64 (k : Int)), some (.pointer (some (ad.add (k * 6)))), some (.agg #[.int .i64 x.k, .int .i64 x.a, .int .i64 x.q, .int .i64 x.s, .int .u64 x.d, .int .i64 x.f]), some (.bool false), some (.bool true), some (.bool true)] L vs)) := ⟨fun L vs w' => Grows wr w' ∧ KnS [some (.int .i64 (k : Int)), some (.slice (some ad) l.length c), some (.int .i64 (l.length : Int)), some (.bool true), some (.bool true), some (.agg #[.int .i64 g.k, .int .i64 g.a, .int .i64 g.q, .int .i64 g.s, .int .u64 g.d, .int .i64 g.f]), some (.slice (some ad) l.length c), some (.int .i64 (k : Int)), some (.pointer (some (ad.add (k * 6)))), some (.agg #[.int .i64 x.k, .int .i64 x.a, .int .i64 x.q, .int .i64 x.s, .int .u64 x.d, .int .i64 x.f]), some (.bool false), some (.bool true), some (.bool true)] L vs, fun _ _ _ h => h, fun _ _ _ h => h⟩
        refine wp_region_genW S 38 (by kernel_rfl) (by kernel_rfl) rfl ?_ ?_
        · exact HI.out _ _ _ ⟨Grows.drew' _, kn_none _ _⟩
        refine gen_cons (A' := ?_) (fun vs L w1 hL hw1 => ?_) ?_ ?_
        rotate_left 1
        · obtain ⟨q0, q1⟩ := HO.out _ _ _ hw1
          refine gen_plain rfl ?_
          go_simp
          exact gr_val (HI.out _ _ _ ⟨q0, kn_known q1 rfl⟩)
        · intro vs
          simp only [Act.put, List.setIfInBounds_toArray, List.set_cons_succ, List.set_cons_zero]
          rfl
        refine gen_cons (A' := ?_) (fun vs L w1 hL hw1 => ?_) ?_ ?_
        rotate_left 1
        · obtain ⟨q0, q1⟩ := HO.out _ _ _ hw1
          refine gen_plain rfl ?_
          go_simp
          exact gr_val (HI.out _ _ _ ⟨q0, kn_known q1 rfl⟩)
        · intro vs
          simp only [Act.put, List.setIfInBounds_toArray, List.set_cons_succ, List.set_cons_zero]
          rfl
        refine gen_cons (A' := ?_) (fun vs L w1 hL hw1 => ?_) ?_ ?_
        rotate_left 1
        · obtain ⟨q0, q1⟩ := HO.out _ _ _ hw1
          refine gen_plain rfl ?_
          have l1 : L 1 = true := hL.need 1 (by kernel_rfl)
          have e1 := q1 1 _ rfl l1
          simp only [e1]
          go_simp
          exact gr_val (HI.out _ _ _ ⟨q0, kn_known q1 rfl⟩)
        · intro vs
          simp only [Act.put, List.setIfInBounds_toArray, List.set_cons_succ, List.set_cons_zero]
          rfl
        refine gen_cons (A' := ?_) (fun vs L w1 hL hw1 => ?_) ?_ ?_
        rotate_left 1
        · obtain ⟨q0, q1⟩ := HO.out _ _ _ hw1
          refine gen_plain rfl ?_
          have l0 : L 0 = true := hL.need 0 (by kernel_rfl)
          have e0 := q1 0 _ rfl l0
          have l2 : L 2 = true := hL.need 2 (by kernel_rfl)
          have e2 := q1 2 _ rfl l2
          simp only [e0, e2]
          go_simp
          exact gr_val (HI.out _ _ _ ⟨q0, kn_known q1 rfl⟩)
        · intro vs
          simp only [Act.put, List.setIfInBounds_toArray, List.set_cons_succ, List.set_cons_zero]
          rfl
        refine gen_cons (A' := ?_) (fun vs L w1 hL hw1 => ?_) ?_ ?_
        rotate_left 1
        · obtain ⟨q0, q1⟩ := HO.out _ _ _ hw1
          refine gen_plain rfl ?_
          have l3 : L 3 = true := hL.need 3 (by kernel_rfl)
          have e3 := q1 3 _ rfl l3
          simp only [e3]
          go_simp
          exact gr_val (HI.out _ _ _ ⟨q0, kn_known q1 rfl⟩)
        · intro vs
          simp only [Act.put, List.setIfInBounds_toArray, List.set_cons_succ, List.set_cons_zero]
          rfl
        refine gen_cons (A' := ?_) (fun vs L w1 hL hw1 => ?_) ?_ ?_
        rotate_left 1
        · obtain ⟨q0, q1⟩ := HO.out _ _ _ hw1
          have l4 : L 4 = true := hL.need 4 (by kernel_rfl)
          have e4 := q1 4 _ rfl l4
          refine gen_yes ?_ ?_
          · simp only [e4]
            rfl
          have y0 := (kgr.grows q0).cell 0
          have y1 := (kgr.grows q0).cell 1
          have y2 := (kgr.grows q0).cell 2
          have y3 := (kgr.grows q0).cell 3
          have y4 := (kgr.grows q0).cell 4
          have y5 := (kgr.grows q0).cell 5
          go_simp
          exact gr_val (HI.out _ _ _ ⟨q0, kn_known q1 rfl⟩)
        · intro vs
          simp only [Act.put, List.setIfInBounds_toArray, List.set_cons_succ, List.set_cons_zero]
          rfl
        refine gen_cons (A' := ?_) (fun vs L w1 hL hw1 => ?_) ?_ ?_
        rotate_left 1
        · obtain ⟨q0, q1⟩ := HO.out _ _ _ hw1
          have l4 : L 4 = true := hL.need 4 (by kernel_rfl)
          have e4 := q1 4 _ rfl l4
          refine gen_yes ?_ ?_
          · simp only [e4]
            rfl
          go_simp
          exact gr_val (HI.out _ _ _ ⟨q0, kn_known q1 rfl⟩)
        · intro vs
          simp only [Act.put, List.setIfInBounds_toArray, List.set_cons_succ, List.set_cons_zero]
          rfl
        refine gen_cons (A' := ?_) (fun vs L w1 hL hw1 => ?_) ?_ ?_
        rotate_left 1
        · obtain ⟨q0, q1⟩ := HO.out _ _ _ hw1
          have l4 : L 4 = true := hL.need 4 (by kernel_rfl)
          have e4 := q1 4 _ rfl l4
          refine gen_yes ?_ ?_
          · simp only [e4]
            rfl
          go_simp
          exact gr_val (HI.out _ _ _ ⟨q0, kn_known q1 rfl⟩)
        · intro vs
          simp only [Act.put, List.setIfInBounds_toArray, List.set_cons_succ, List.set_cons_zero]
          rfl
        refine gen_cons (A' := ?_) (fun vs L w1 hL hw1 => ?_) ?_ ?_
        rotate_left 1
        · obtain ⟨q0, q1⟩ := HO.out _ _ _ hw1
          have l4 : L 4 = true := hL.need 4 (by kernel_rfl)
          have e4 := q1 4 _ rfl l4
          refine gen_yes ?_ ?_
          · simp only [e4]
            rfl
          have l6 : L 6 = true := hL.need 6 (by kernel_rfl)
          have e6 := q1 6 _ rfl l6
          have l7 : L 7 = true := hL.need 7 (by kernel_rfl)
          have e7 := q1 7 _ rfl l7
          simp only [e6, e7]
          go_simp
          exact gr_val (HI.out _ _ _ ⟨q0, kn_known q1 rfl⟩)
        · intro vs
          simp only [Act.put, List.setIfInBounds_toArray, List.set_cons_succ, List.set_cons_zero]
          rfl
        refine gen_cons (A' := ?_) (fun vs L w1 hL hw1 => ?_) ?_ ?_
        rotate_left 1
        · obtain ⟨q0, q1⟩ := HO.out _ _ _ hw1
          have l4 : L 4 = true := hL.need 4 (by kernel_rfl)
          have e4 := q1 4 _ rfl l4
          refine gen_yes ?_ ?_
          · simp only [e4]
            rfl
          have l8 : L 8 = true := hL.need 8 (by kernel_rfl)
          have e8 := q1 8 _ rfl l8
          simp only [e8]
          obtain ⟨y0, y1, y2, y3, y4, y5⟩ := hcx _ q0
          go_simp
          exact gr_val (HI.out _ _ _ ⟨q0, kn_known q1 rfl⟩)
        · intro vs
          simp only [Act.put, List.setIfInBounds_toArray, List.set_cons_succ, List.set_cons_zero]
          rfl
        refine gen_cons (A' := ?_) (fun vs L w1 hL hw1 => ?_) ?_ ?_
        rotate_left 1
        · obtain ⟨q0, q1⟩ := HO.out _ _ _ hw1
          have l4 : L 4 = true := hL.need 4 (by kernel_rfl)
          have e4 := q1 4 _ rfl l4
          refine gen_yes ?_ ?_
          · simp only [e4]
            rfl
          have l5 : L 5 = true := hL.need 5 (by kernel_rfl)
          have e5 := q1 5 _ rfl l5
          have l9 : L 9 = true := hL.need 9 (by kernel_rfl)
          have e9 := q1 9 _ rfl l9
          simp only [e5, e9]
          go_simp
          refine gr_call ?_
          refine (rless_is g x w1 HL.out).mono ?_
          rintro e w2 ⟨rfl, hg⟩
          exact ⟨_, rfl, HI.out _ _ _ ⟨below_grows q0 (Nat.le_refl _) hg, kn_known q1 rfl⟩⟩
        · intro vs
          simp only [Act.put, List.setIfInBounds_toArray, List.set_cons_succ, List.set_cons_zero]
          rfl
        refine gen_cons (A' := ?_) (fun vs L w1 hL hw1 => ?_) ?_ ?_
        rotate_left 1
        · obtain ⟨q0, q1⟩ := HO.out _ _ _ hw1
          have l4 : L 4 = true := hL.need 4 (by kernel_rfl)
          have e4 := q1 4 _ rfl l4
          refine gen_yes ?_ ?_
          · simp only [e4]
            rfl
          have l10 : L 10 = true := hL.need 10 (by kernel_rfl)
          have e10 := q1 10 _ rfl l10
          simp only [e10]
          go_simp
          exact gr_val (HI.out _ _ _ ⟨q0, kn_known q1 rfl⟩)
        · intro vs
          simp only [Act.put, List.setIfInBounds_toArray, List.set_cons_succ, List.set_cons_zero]
          rfl
        refine gen_cons (A' := ?_) (fun vs L w1 hL hw1 => ?_) ?_ ?_
        rotate_left 1
        · obtain ⟨q0, q1⟩ := HO.out _ _ _ hw1
          refine gen_plain rfl ?_
          have l4 : L 4 = true := hL.need 4 (by kernel_rfl)
          have e4 := q1 4 _ rfl l4
          have l11 : L 11 = true := hL.need 11 (by kernel_rfl)
          have e11 := q1 11 _ rfl l11
          simp only [e4, e11]
          go_simp
          exact gr_val (HI.out _ _ _ ⟨q0, kn_known q1 rfl⟩)
        · intro vs
          simp only [Act.put, List.setIfInBounds_toArray, List.set_cons_succ, List.set_cons_zero]
          rfl
        refine gen_nil ?_
        intro vs L W6 hall hS
        obtain ⟨hq, q1⟩ := HO.out _ _ _ hS
        have eX12 := q1 12 _ rfl (hall 12 (by simp))
        clear hall hS HI HO q1
        simp only [eX12]
        replace hg := below_grows hg (Nat.le_refl _) hq
        replace hown := hown.grows hq
        obtain ⟨c0, c1, c2, c3, c4, c5⟩ := hcx _ hq
        clear hq hcx kgr hr
        go_upto_region 5 with fail
        refine wp_region_lit ?_
        iterate 6
          refine wpList_plain rfl (fun K hK => ?_)
          go_simp
          refine hK _ _ ?_
          clear hK K
        have hq8 := (Below.refl W6.heap.size W6).alloc (Nat.le_refl _) (Obj.cells #[.int .i64 x.k, .int .i64 x.a, .int .i64 x.q, .int .i64 x.s, .int .u64 x.d, .int .i64 x.f] 28)
        replace hown := hown.grows hq8
        replace hg := below_grows hg (Nat.le_refl _) hq8
        refine wpList_append_gl rfl (.tmp 22) (.tmp 27) rfl (m := [x]) rfl rfl hown (gls_lit W6 x) (by rw [HPL.out]; simp only [List.length_cons, List.length_nil]; omega) hg.size ?_
        intro v3 w8 hown3 hgr3
        have hg3 := hown.below hg hgr3 hg.size
        clear hown hgr3 hq8 hg c0 c1 c2 c3 c4 c5
        go_wp2
        go_roundw
        case rel => exact ⟨k + 1, by omega, by go_num, by rw [HTS.out]; exact hown3, by
          rw [HTS.out]
          intro y hy
          rcases List.mem_append.1 hy with hy | hy
          · exact HLS.out y hy
          · simp only [List.mem_cons, List.not_mem_nil, or_false] at hy
            rw [hy]; exact HL.out, hg3⟩
        case measure => simp [intOf]; omega
      · skip
        have HL := Lib.hid hLx
        clear hLx
        go_upto_region 3 with fail
        obtain ⟨S, HI, HO⟩ : ∃ S : Ran → (Nat → Value) → World → Prop, Hid (∀ L vs w', (Grows wr w' ∧ KnS [some (.int .i64 (k : Int)), some (.slice (some ad) l.length c), some (.int .i64 (l.length : Int)), some (.bool true), some (.bool true), some (.agg #[.int .i64 g.k, .int .i64 g.a, .int .i64 g.q, .int .i64 g.s, .int .u64 g.d, .int .i64 g.f]), some (.slice (some ad) l.length c), some (.int .i64 (k : Int)), some (.pointer (some (ad.add (k * 6)))), some (.agg #[.int .i64 x.k, .int .i64 x.a, .int .i64 x.q, .int .i64 x.s, .int .u64 x.d, .int .i64 x.f]), some (.bool true), some (.bool false), some (.bool false)] L vs) → S L vs w') ∧ Hid (∀ L vs w', S L vs w' → (Grows wr w' ∧ KnS [some (.int .i64 (k : Int)), some (.slice (some ad) l.length c), some (.int .i64 (l.length : Int)), some (.bool true), some (.bool true), some (.agg #[.int .i64 g.k, .int .i64 g.a, .int .i64 g.q, .int .i64 g.s, .int .u64 g.d, .int .i64 g.f]), some (.slice (some ad) l.length c), some (.int .i64 (k : Int)), some (.pointer (some (ad.add (k * 6)))), some (.agg #[.int .i64 x.k, .int .i64 x.a, .int .i64 x.q, .int .i64 x.s, .int .u64 x.d, .int .i64 x.f]), some (.bool true), some (.bool false), some (.bool false)] L vs)) := ⟨fun L vs w' => Grows wr w' ∧ KnS [some (.int .i64 (k : Int)), some (.slice (some ad) l.length c), some (.int .i64 (l.length : Int)), some (.bool true), some (.bool true), some (.agg #[.int .i64 g.k, .int .i64 g.a, .int .i64 g.q, .int .i64 g.s, .int .u64 g.d, .int .i64 g.f]), some (.slice (some ad) l.length c), some (.int .i64 (k : Int)), some (.pointer (some (ad.add (k * 6)))), some (.agg #[.int .i64 x.k, .int .i64 x.a, .int .i64 x.q, .int .i64 x.s, .int .u64 x.d, .int .i64 x.f]), some (.bool true), some (.bool false), some (.bool false)] L vs, fun _ _ _ h => h, fun _ _ _ h => h⟩
        refine wp_region_genW S 38 (by kernel_rfl) (by kernel_rfl) rfl ?_ ?_
        · exact HI.out _ _ _ ⟨Grows.drew' _, kn_none _ _⟩
        refine gen_cons (A' := ?_) (fun vs L w1 hL hw1 => ?_) ?_ ?_
        rotate_left 1
        · obtain ⟨q0, q1⟩ := HO.out _ _ _ hw1
          refine gen_plain rfl ?_
          go_simp
          exact gr_val (HI.out _ _ _ ⟨q0, kn_known q1 rfl⟩)
        · intro vs
          simp only [Act.put, List.setIfInBounds_toArray, List.set_cons_succ, List.set_cons_zero]
          rfl
        refine gen_cons (A' := ?_) (fun vs L w1 hL hw1 => ?_) ?_ ?_
        rotate_left 1
        · obtain ⟨q0, q1⟩ := HO.out _ _ _ hw1
          refine gen_plain rfl ?_
          go_simp
          exact gr_val (HI.out _ _ _ ⟨q0, kn_known q1 rfl⟩)
        · intro vs
          simp only [Act.put, List.setIfInBounds_toArray, List.set_cons_succ, List.set_cons_zero]
          rfl
        refine gen_cons (A' := ?_) (fun vs L w1 hL hw1 => ?_) ?_ ?_
        rotate_left 1
        · obtain ⟨q0, q1⟩ := HO.out _ _ _ hw1
          refine gen_plain rfl ?_
          have l1 : L 1 = true := hL.need 1 (by kernel_rfl)
          have e1 := q1 1 _ rfl l1
          simp only [e1]
          go_simp
          exact gr_val (HI.out _ _ _ ⟨q0, kn_known q1 rfl⟩)
        · intro vs
          simp only [Act.put, List.setIfInBounds_toArray, List.set_cons_succ, List.set_cons_zero]
          rfl
        refine gen_cons (A' := ?_) (fun vs L w1 hL hw1 => ?_) ?_ ?_
        rotate_left 1
        · obtain ⟨q0, q1⟩ := HO.out _ _ _ hw1
          refine gen_plain rfl ?_
          have l0 : L 0 = true := hL.need 0 (by kernel_rfl)
          have e0 := q1 0 _ rfl l0
          have l2 : L 2 = true := hL.need 2 (by kernel_rfl)
          have e2 := q1 2 _ rfl l2
          simp only [e0, e2]
          go_simp
          exact gr_val (HI.out _ _ _ ⟨q0, kn_known q1 rfl⟩)
        · intro vs
          simp only [Act.put, List.setIfInBounds_toArray, List.set_cons_succ, List.set_cons_zero]
          rfl
        refine gen_cons (A' := ?_) (fun vs L w1 hL hw1 => ?_) ?_ ?_
        rotate_left 1
        · obtain ⟨q0, q1⟩ := HO.out _ _ _ hw1
          refine gen_plain rfl ?_
          have l3 : L 3 = true := hL.need 3 (by kernel_rfl)
          have e3 := q1 3 _ rfl l3
          simp only [e3]
          go_simp
          exact gr_val (HI.out _ _ _ ⟨q0, kn_known q1 rfl⟩)
        · intro vs
          simp only [Act.put, List.setIfInBounds_toArray, List.set_cons_succ, List.set_cons_zero]
          rfl
        refine gen_cons (A' := ?_) (fun vs L w1 hL hw1 => ?_) ?_ ?_
        rotate_left 1
        · obtain ⟨q0, q1⟩ := HO.out _ _ _ hw1
          have l4 : L 4 = true := hL.need 4 (by kernel_rfl)
          have e4 := q1 4 _ rfl l4
          refine gen_yes ?_ ?_
          · simp only [e4]
            rfl
          have y0 := (kgr.grows q0).cell 0
          have y1 := (kgr.grows q0).cell 1
          have y2 := (kgr.grows q0).cell 2
          have y3 := (kgr.grows q0).cell 3
          have y4 := (kgr.grows q0).cell 4
          have y5 := (kgr.grows q0).cell 5
          go_simp
          exact gr_val (HI.out _ _ _ ⟨q0, kn_known q1 rfl⟩)
        · intro vs
          simp only [Act.put, List.setIfInBounds_toArray, List.set_cons_succ, List.set_cons_zero]
          rfl
        refine gen_cons (A' := ?_) (fun vs L w1 hL hw1 => ?_) ?_ ?_
        rotate_left 1
        · obtain ⟨q0, q1⟩ := HO.out _ _ _ hw1
          have l4 : L 4 = true := hL.need 4 (by kernel_rfl)
          have e4 := q1 4 _ rfl l4
          refine gen_yes ?_ ?_
          · simp only [e4]
            rfl
          go_simp
          exact gr_val (HI.out _ _ _ ⟨q0, kn_known q1 rfl⟩)
        · intro vs
          simp only [Act.put, List.setIfInBounds_toArray, List.set_cons_succ, List.set_cons_zero]
          rfl
        refine gen_cons (A' := ?_) (fun vs L w1 hL hw1 => ?_) ?_ ?_
        rotate_left 1
        · obtain ⟨q0, q1⟩ := HO.out _ _ _ hw1
          have l4 : L 4 = true := hL.need 4 (by kernel_rfl)
          have e4 := q1 4 _ rfl l4
          refine gen_yes ?_ ?_
          · simp only [e4]
            rfl
          go_simp
          exact gr_val (HI.out _ _ _ ⟨q0, kn_known q1 rfl⟩)
        · intro vs
          simp only [Act.put, List.setIfInBounds_toArray, List.set_cons_succ, List.set_cons_zero]
          rfl
        refine gen_cons (A' := ?_) (fun vs L w1 hL hw1 => ?_) ?_ ?_
        rotate_left 1
        · obtain ⟨q0, q1⟩ := HO.out _ _ _ hw1
          have l4 : L 4 = true := hL.need 4 (by kernel_rfl)
          have e4 := q1 4 _ rfl l4
          refine gen_yes ?_ ?_
          · simp only [e4]
            rfl
          have l6 : L 6 = true := hL.need 6 (by kernel_rfl)
          have e6 := q1 6 _ rfl l6
          have l7 : L 7 = true := hL.need 7 (by kernel_rfl)
          have e7 := q1 7 _ rfl l7
          simp only [e6, e7]
          go_simp
          exact gr_val (HI.out _ _ _ ⟨q0, kn_known q1 rfl⟩)
        · intro vs
          simp only [Act.put, List.setIfInBounds_toArray, List.set_cons_succ, List.set_cons_zero]
          rfl
        refine gen_cons (A' := ?_) (fun vs L w1 hL hw1 => ?_) ?_ ?_
        rotate_left 1
        · obtain ⟨q0, q1⟩ := HO.out _ _ _ hw1
          have l4 : L 4 = true := hL.need 4 (by kernel_rfl)
          have e4 := q1 4 _ rfl l4
          refine gen_yes ?_ ?_
          · simp only [e4]
            rfl
          have l8 : L 8 = true := hL.need 8 (by kernel_rfl)
          have e8 := q1 8 _ rfl l8
          simp only [e8]
          obtain ⟨y0, y1, y2, y3, y4, y5⟩ := hcx _ q0
          go_simp
          exact gr_val (HI.out _ _ _ ⟨q0, kn_known q1 rfl⟩)
        · intro vs
          simp only [Act.put, List.setIfInBounds_toArray, List.set_cons_succ, List.set_cons_zero]
          rfl
        refine gen_cons (A' := ?_) (fun vs L w1 hL hw1 => ?_) ?_ ?_
        rotate_left 1
        · obtain ⟨q0, q1⟩ := HO.out _ _ _ hw1
          have l4 : L 4 = true := hL.need 4 (by kernel_rfl)
          have e4 := q1 4 _ rfl l4
          refine gen_yes ?_ ?_
          · simp only [e4]
            rfl
          have l5 : L 5 = true := hL.need 5 (by kernel_rfl)
          have e5 := q1 5 _ rfl l5
          have l9 : L 9 = true := hL.need 9 (by kernel_rfl)
          have e9 := q1 9 _ rfl l9
          simp only [e5, e9]
          go_simp
          refine gr_call ?_
          refine (rless_is g x w1 HL.out).mono ?_
          rintro e w2 ⟨rfl, hg⟩
          exact ⟨_, rfl, HI.out _ _ _ ⟨below_grows q0 (Nat.le_refl _) hg, kn_known q1 rfl⟩⟩
        · intro vs
          simp only [Act.put, List.setIfInBounds_toArray, List.set_cons_succ, List.set_cons_zero]
          rfl
        refine gen_cons (A' := ?_) (fun vs L w1 hL hw1 => ?_) ?_ ?_
        rotate_left 1
        · obtain ⟨q0, q1⟩ := HO.out _ _ _ hw1
          have l4 : L 4 = true := hL.need 4 (by kernel_rfl)
          have e4 := q1 4 _ rfl l4
          refine gen_yes ?_ ?_
          · simp only [e4]
            rfl
          have l10 : L 10 = true := hL.need 10 (by kernel_rfl)
          have e10 := q1 10 _ rfl l10
          simp only [e10]
          go_simp
          exact gr_val (HI.out _ _ _ ⟨q0, kn_known q1 rfl⟩)
        · intro vs
          simp only [Act.put, List.setIfInBounds_toArray, List.set_cons_succ, List.set_cons_zero]
          rfl
        refine gen_cons (A' := ?_) (fun vs L w1 hL hw1 => ?_) ?_ ?_
        rotate_left 1
        · obtain ⟨q0, q1⟩ := HO.out _ _ _ hw1
          refine gen_plain rfl ?_
          have l4 : L 4 = true := hL.need 4 (by kernel_rfl)
          have e4 := q1 4 _ rfl l4
          have l11 : L 11 = true := hL.need 11 (by kernel_rfl)
          have e11 := q1 11 _ rfl l11
          simp only [e4, e11]
          go_simp
          exact gr_val (HI.out _ _ _ ⟨q0, kn_known q1 rfl⟩)
        · intro vs
          simp only [Act.put, List.setIfInBounds_toArray, List.set_cons_succ, List.set_cons_zero]
          rfl
        refine gen_nil ?_
        intro vs L W6 hall hS
        obtain ⟨hq, q1⟩ := HO.out _ _ _ hS
        have eX12 := q1 12 _ rfl (hall 12 (by simp))
        clear hall hS HI HO q1
        simp only [eX12]
        have HP : Hid (∀ o, o = l.take k ++ [g] ++ l.drop k → PutG l g o) := Lib.hid fun o e => ⟨k, hk, e, HLS.out, fun y hy => by
          rw [HX.out] at hy
          injection hy with hy
          rw [← hy]; exact HL.out⟩
        clear HX HTS HL HLS hcx
        replace hg := below_grows hg (Nat.le_refl _) hq
        replace hown := hown.grows hq
        clear hq kgr hr
        obtain ⟨A2, c2, ev, hc2, -, -⟩ := hown.read
        have hpl := HPL.out
        rw [hpl] at ev hc2
        subst ev
        go_upto_region 6 with fail
        have hwk : IntKind.i64.wrap (k : Int) = (k : Int) := IntWalk.i64_in _ (by omega)
        generalize l.take k = p at *
        obtain ⟨S, HI, HO⟩ : ∃ S : Ran → (Nat → Value) → World → Prop, Hid (∀ L vs w', (Grows w1 w' ∧ KnS [some (.slice A2 k c2), some (.agg #[.int .i64 g.k, .int .i64 g.a, .int .i64 g.q, .int .i64 g.s, .int .u64 g.d, .int .i64 g.f]), none, none, some (.slice (some ad) l.length c), some (.slice A2 k c2), some (.int .i64 (k : Int)), some (.slice (if c = k then (some ad) else Option.map (fun x => x.add (k * 6)) (some ad)) (l.length - k) (c - k)), none] L vs ∧ (L 3 = false → OwnG w' w1.heap.size (.slice A2 k c2) p) ∧ (L 2 = true → L 3 = false → ∃ gb, vs 2 = .slice (some ⟨gb, 0, none⟩) 1 1 ∧ Gls w' (some ⟨gb, 0, none⟩) [g]) ∧ (L 3 = true → L 8 = false → OwnG w' w1.heap.size (vs 3) (p ++ [g])) ∧ (L 8 = true → OwnG w' w1.heap.size (vs 8) (p ++ [g] ++ l.drop k)) ∧ (L 3 = true → L 2 = true) ∧ (L 8 = true → L 3 = true)) → S L vs w') ∧ Hid (∀ L vs w', S L vs w' → (Grows w1 w' ∧ KnS [some (.slice A2 k c2), some (.agg #[.int .i64 g.k, .int .i64 g.a, .int .i64 g.q, .int .i64 g.s, .int .u64 g.d, .int .i64 g.f]), none, none, some (.slice (some ad) l.length c), some (.slice A2 k c2), some (.int .i64 (k : Int)), some (.slice (if c = k then (some ad) else Option.map (fun x => x.add (k * 6)) (some ad)) (l.length - k) (c - k)), none] L vs ∧ (L 3 = false → OwnG w' w1.heap.size (.slice A2 k c2) p) ∧ (L 2 = true → L 3 = false → ∃ gb, vs 2 = .slice (some ⟨gb, 0, none⟩) 1 1 ∧ Gls w' (some ⟨gb, 0, none⟩) [g]) ∧ (L 3 = true → L 8 = false → OwnG w' w1.heap.size (vs 3) (p ++ [g])) ∧ (L 8 = true → OwnG w' w1.heap.size (vs 8) (p ++ [g] ++ l.drop k)) ∧ (L 3 = true → L 2 = true) ∧ (L 8 = true → L 3 = true))) := ⟨fun L vs w' => Grows w1 w' ∧ KnS [some (.slice A2 k c2), some (.agg #[.int .i64 g.k, .int .i64 g.a, .int .i64 g.q, .int .i64 g.s, .int .u64 g.d, .int .i64 g.f]), none, none, some (.slice (some ad) l.length c), some (.slice A2 k c2), some (.int .i64 (k : Int)), some (.slice (if c = k then (some ad) else Option.map (fun x => x.add (k * 6)) (some ad)) (l.length - k) (c - k)), none] L vs ∧ (L 3 = false → OwnG w' w1.heap.size (.slice A2 k c2) p) ∧ (L 2 = true → L 3 = false → ∃ gb, vs 2 = .slice (some ⟨gb, 0, none⟩) 1 1 ∧ Gls w' (some ⟨gb, 0, none⟩) [g]) ∧ (L 3 = true → L 8 = false → OwnG w' w1.heap.size (vs 3) (p ++ [g])) ∧ (L 8 = true → OwnG w' w1.heap.size (vs 8) (p ++ [g] ++ l.drop k)) ∧ (L 3 = true → L 2 = true) ∧ (L 8 = true → L 3 = true), fun _ _ _ h => h, fun _ _ _ h => h⟩
        refine wp_region_genT S 9 38 (by kernel_rfl) (by kernel_rfl) rfl ?_ ?_
        · exact HI.out _ _ _ ⟨below_grows hg (Nat.le_refl _) (Grows.drew' _), kn_none _ _, (fun _ => hown.grows (Grows.drew' _)), (fun h => by cases h), (fun h => by cases h), (fun h => by cases h), (fun h => by cases h), (fun h => by cases h)⟩
        simp only [List.take_succ_cons, List.take_zero, List.drop_succ_cons, List.drop_zero]
        refine gent_cons (A' := ?_) (fun vs L u1 hL hw1 => ?_) ?_ ?_
        rotate_left 1
        · obtain ⟨q0, q1, qa, q2, q3, q8, h3, h8⟩ := HO.out _ _ _ hw1
          refine gen_plain rfl ?_
          go_simp
          exact gr_val (HI.out _ _ _ ⟨q0, kn_known q1 rfl, qa, q2, q3, q8, h3, h8⟩)
        · intro vs
          simp only [Act.put, List.setIfInBounds_toArray, List.set_cons_succ, List.set_cons_zero]
          rfl
        refine gent_cons (A' := ?_) (fun vs L u1 hL hw1 => ?_) ?_ ?_
        rotate_left 1
        · obtain ⟨q0, q1, qa, q2, q3, q8, h3, h8⟩ := HO.out _ _ _ hw1
          have e0 := (kg.grows q0).cell 0
          have e1 := (kg.grows q0).cell 1
          have e2 := (kg.grows q0).cell 2
          have e3 := (kg.grows q0).cell 3
          have e4 := (kg.grows q0).cell 4
          have e5 := (kg.grows q0).cell 5
          refine gen_plain rfl ?_
          go_simp
          exact gr_val (HI.out _ _ _ ⟨q0, kn_known q1 rfl, qa, q2, q3, q8, h3, h8⟩)
        · intro vs
          simp only [Act.put, List.setIfInBounds_toArray, List.set_cons_succ, List.set_cons_zero]
          rfl
        refine gent_cons (A' := ?_) (fun vs L u1 hL hw1 => ?_) ?_ ?_
        rotate_left 1
        · obtain ⟨q0, q1, qa, q2, q3, q8, h3, h8⟩ := HO.out _ _ _ hw1
          have n2 : L 2 = false := hL.1
          have n3 : L 3 = false := by
            cases h : L 3
            · rfl
            · rw [h3 h] at n2; cases n2
          have n8 : L 8 = false := by
            cases h : L 8
            · rfl
            · rw [h8 h] at n3; cases n3
          have l1 : L 1 = true := hL.need 1 (by kernel_rfl)
          have e1 := q1 1 _ rfl l1
          refine gen_plain rfl ?_
          simp only [e1]
          go_simp
          have hg := (Below.refl u1.heap.size u1).alloc (Nat.le_refl _) (Obj.cells #[.int .i64 g.k, .int .i64 g.a, .int .i64 g.q, .int .i64 g.s, .int .u64 g.d, .int .i64 g.f] 28)
          exact gr_val (HI.out _ _ _ ⟨below_grows q0 (Nat.le_refl _) hg, kn_free q1 rfl, (fun h => (qa h).grows hg), (fun _ _ => ⟨_, rfl, gls_lit u1 g⟩), (fun h _ => by rw [show L 3 = true from h] at n3; cases n3), (fun h => by rw [show L 8 = true from h] at n8; cases n8), (fun h => by rw [show L 3 = true from h] at n3; cases n3), (fun h => by rw [show L 8 = true from h] at n8; cases n8)⟩)
        · intro vs
          simp only [Act.put, List.setIfInBounds_toArray, List.set_cons_succ, List.set_cons_zero]
          rfl
        refine gent_cons (A' := ?_) (fun vs L u1 hL hw1 => ?_) ?_ ?_
        rotate_left 1
        · obtain ⟨q0, q1, qa, q2, q3, q8, h3, h8⟩ := HO.out _ _ _ hw1
          have n3 : L 3 = false := hL.1
          have n8 : L 8 = false := by
            cases h : L 8
            · rfl
            · rw [h8 h] at n3; cases n3
          have l0 : L 0 = true := hL.need 0 (by kernel_rfl)
          have e0 := q1 0 _ rfl l0
          have l2 : L 2 = true := hL.need 2 (by kernel_rfl)
          obtain ⟨gb, e2, s2⟩ := q2 l2 n3
          have o0 := qa n3
          refine gen_plain rfl ?_
          refine gr_append_gl (.tmp 29) (.tmp 31) rfl (l := p) (m := [g]) rfl e0 o0 e2 s2 (by simp only [List.length_cons, List.length_nil]; omega) q0.size ?_
          intro v3 w3 o3 g3
          have hg := o0.below q0 g3 q0.size
          exact HI.out _ _ _ ⟨hg, kn_free q1 rfl, (fun h => by cases h), (fun _ h => by cases h), (fun _ _ => o3), (fun h => by rw [show L 8 = true from h] at n8; cases n8), (fun _ => l2), (fun h => by rw [show L 8 = true from h] at n8; cases n8)⟩
        · intro vs
          simp only [Act.put, List.setIfInBounds_toArray, List.set_cons_succ, List.set_cons_zero]
          rfl
        refine gent_cons (A' := ?_) (fun vs L u1 hL hw1 => ?_) ?_ ?_
        rotate_left 1
        · obtain ⟨q0, q1, qa, q2, q3, q8, h3, h8⟩ := HO.out _ _ _ hw1
          refine gen_plain rfl ?_
          go_simp
          exact gr_val (HI.out _ _ _ ⟨q0, kn_known q1 rfl, qa, q2, q3, q8, h3, h8⟩)
        · intro vs
          simp only [Act.put, List.setIfInBounds_toArray, List.set_cons_succ, List.set_cons_zero]
          rfl
        refine gent_cons (A' := ?_) (fun vs L u1 hL hw1 => ?_) ?_ ?_
        rotate_left 1
        · obtain ⟨q0, q1, qa, q2, q3, q8, h3, h8⟩ := HO.out _ _ _ hw1
          refine gen_plain rfl ?_
          go_simp
          exact gr_val (HI.out _ _ _ ⟨q0, kn_known q1 rfl, qa, q2, q3, q8, h3, h8⟩)
        · intro vs
          simp only [Act.put, List.setIfInBounds_toArray, List.set_cons_succ, List.set_cons_zero]
          rfl
        refine gent_cons (A' := ?_) (fun vs L u1 hL hw1 => ?_) ?_ ?_
        rotate_left 1
        · obtain ⟨q0, q1, qa, q2, q3, q8, h3, h8⟩ := HO.out _ _ _ hw1
          have l5 : L 5 = true := hL.need 5 (by kernel_rfl)
          have e5 := q1 5 _ rfl l5
          refine gen_plain rfl ?_
          simp only [e5]
          go_simp
          exact gr_val (HI.out _ _ _ ⟨q0, kn_known q1 rfl, qa, q2, q3, q8, h3, h8⟩)
        · intro vs
          simp only [Act.put, List.setIfInBounds_toArray, List.set_cons_succ, List.set_cons_zero]
          rfl
        refine gent_cons (A' := ?_) (fun vs L u1 hL hw1 => ?_) ?_ ?_
        rotate_left 1
        · obtain ⟨q0, q1, qa, q2, q3, q8, h3, h8⟩ := HO.out _ _ _ hw1
          have l4 : L 4 = true := hL.need 4 (by kernel_rfl)
          have e4 := q1 4 _ rfl l4
          have l6 : L 6 = true := hL.need 6 (by kernel_rfl)
          have e6 := q1 6 _ rfl l6
          refine gen_plain rfl ?_
          simp only [e4, e6]
          go_simp
          exact gr_val (HI.out _ _ _ ⟨q0, kn_known q1 rfl, qa, q2, q3, q8, h3, h8⟩)
        · intro vs
          simp only [Act.put, List.setIfInBounds_toArray, List.set_cons_succ, List.set_cons_zero]
          rfl
        refine gent_cons (A' := ?_) (fun vs L u1 hL hw1 => ?_) ?_ ?_
        rotate_left 1
        · obtain ⟨q0, q1, qa, q2, q3, q8, h3, h8⟩ := HO.out _ _ _ hw1
          have n8 : L 8 = false := hL.1
          have l3 : L 3 = true := hL.need 3 (by kernel_rfl)
          have o3 := q3 l3 n8
          have l7 : L 7 = true := hL.need 7 (by kernel_rfl)
          have e7 := q1 7 _ rfl l7
          refine gen_plain rfl ?_
          refine gr_append_gl (.tmp 32) (.tmp 36) rfl (l := p ++ [g]) (m := l.drop k) (by rw [List.length_drop]) rfl o3 e7 (gls_drop (h1.grows q0) hk hlc) (by simp only [List.length_append, List.length_drop, List.length_cons, List.length_nil]; omega) q0.size ?_
          intro v3 w3 o8 g3
          have hg := o3.below q0 g3 q0.size
          exact HI.out _ _ _ ⟨hg, kn_free q1 rfl, (fun h => by rw [show L 3 = false from h] at l3; cases l3), (fun _ h => by rw [show L 3 = false from h] at l3; cases l3), (fun _ h => by cases h), (fun _ => o8), h3, (fun _ => l3)⟩
        · intro vs
          simp only [Act.put, List.setIfInBounds_toArray, List.set_cons_succ, List.set_cons_zero]
          rfl
        refine gent_nil ?_
        intro vs L W2 hall hS
        obtain ⟨hg2, -, -, -, -, q8, -, -⟩ := HO.out _ _ _ hS
        have hown2 := q8 (hall 8 (by omega))
        clear hall hS HI HO q8
        have hB2 := below_grows hB (Nat.le_refl _) hg2
        have hown3 := hown2.mono hB.size
        have hput := HP.out _ rfl
        clear hB hg hg2 hown hown2
        go_wp2
        go_ret
        first | exact ⟨⟨_, _, rfl, hown3, hput⟩, hB2⟩ | exact ⟨⟨_, rfl, _, hown3, hput⟩, hB2⟩
    · skip
      have HP : Hid (∀ o, o = l.take k ++ [g] ++ l.drop k → PutG l g o) := Lib.hid fun o e => ⟨k, hk, e, HLS.out, fun y hy => by
        rw [List.getElem?_eq_none (by omega)] at hy
        cases hy⟩
      have hpl : (l.take k).length = k := by rw [List.length_take]; omega
      have HPL := Lib.hid hpl
      have hk1 : ¬ (k : Int) < (l.length : Int) := by omega
      clear hpl HLS
      go_upto_region 3 with fail
      obtain ⟨S, HI, HO⟩ : ∃ S : Ran → (Nat → Value) → World → Prop, Hid (∀ L vs w', (Grows wr w' ∧ KnS [some (.int .i64 (k : Int)), some (.slice A l.length c), some (.int .i64 (l.length : Int)), some (.bool false), some (.bool false), none, none, none, none, none, none, none, some (.bool false)] L vs) → S L vs w') ∧ Hid (∀ L vs w', S L vs w' → (Grows wr w' ∧ KnS [some (.int .i64 (k : Int)), some (.slice A l.length c), some (.int .i64 (l.length : Int)), some (.bool false), some (.bool false), none, none, none, none, none, none, none, some (.bool false)] L vs)) := ⟨fun L vs w' => Grows wr w' ∧ KnS [some (.int .i64 (k : Int)), some (.slice A l.length c), some (.int .i64 (l.length : Int)), some (.bool false), some (.bool false), none, none, none, none, none, none, none, some (.bool false)] L vs, fun _ _ _ h => h, fun _ _ _ h => h⟩
      refine wp_region_genW S 38 (by kernel_rfl) (by kernel_rfl) rfl ?_ ?_
      · exact HI.out _ _ _ ⟨Grows.drew' _, kn_none _ _⟩
      refine gen_cons (A' := ?_) (fun vs L w1 hL hw1 => ?_) ?_ ?_
      rotate_left 1
      · obtain ⟨q0, q1⟩ := HO.out _ _ _ hw1
        refine gen_plain rfl ?_
        go_simp
        exact gr_val (HI.out _ _ _ ⟨q0, kn_known q1 rfl⟩)
      · intro vs
        simp only [Act.put, List.setIfInBounds_toArray, List.set_cons_succ, List.set_cons_zero]
        rfl
      refine gen_cons (A' := ?_) (fun vs L w1 hL hw1 => ?_) ?_ ?_
      rotate_left 1
      · obtain ⟨q0, q1⟩ := HO.out _ _ _ hw1
        refine gen_plain rfl ?_
        go_simp
        exact gr_val (HI.out _ _ _ ⟨q0, kn_known q1 rfl⟩)
      · intro vs
        simp only [Act.put, List.setIfInBounds_toArray, List.set_cons_succ, List.set_cons_zero]
        rfl
      refine gen_cons (A' := ?_) (fun vs L w1 hL hw1 => ?_) ?_ ?_
      rotate_left 1
      · obtain ⟨q0, q1⟩ := HO.out _ _ _ hw1
        refine gen_plain rfl ?_
        have l1 : L 1 = true := hL.need 1 (by kernel_rfl)
        have e1 := q1 1 _ rfl l1
        simp only [e1]
        go_simp
        exact gr_val (HI.out _ _ _ ⟨q0, kn_known q1 rfl⟩)
      · intro vs
        simp only [Act.put, List.setIfInBounds_toArray, List.set_cons_succ, List.set_cons_zero]
        rfl
      refine gen_cons (A' := ?_) (fun vs L w1 hL hw1 => ?_) ?_ ?_
      rotate_left 1
      · obtain ⟨q0, q1⟩ := HO.out _ _ _ hw1
        refine gen_plain rfl ?_
        have l0 : L 0 = true := hL.need 0 (by kernel_rfl)
        have e0 := q1 0 _ rfl l0
        have l2 : L 2 = true := hL.need 2 (by kernel_rfl)
        have e2 := q1 2 _ rfl l2
        simp only [e0, e2]
        go_simp
        exact gr_val (HI.out _ _ _ ⟨q0, kn_known q1 rfl⟩)
      · intro vs
        simp only [Act.put, List.setIfInBounds_toArray, List.set_cons_succ, List.set_cons_zero]
        rfl
      refine gen_cons (A' := ?_) (fun vs L w1 hL hw1 => ?_) ?_ ?_
      rotate_left 1
      · obtain ⟨q0, q1⟩ := HO.out _ _ _ hw1
        refine gen_plain rfl ?_
        have l3 : L 3 = true := hL.need 3 (by kernel_rfl)
        have e3 := q1 3 _ rfl l3
        simp only [e3]
        go_simp
        exact gr_val (HI.out _ _ _ ⟨q0, kn_known q1 rfl⟩)
      · intro vs
        simp only [Act.put, List.setIfInBounds_toArray, List.set_cons_succ, List.set_cons_zero]
        rfl
      refine gen_cons (A' := ?_) (fun vs L w1 hL hw1 => ?_) ?_ ?_
      rotate_left 1
      · obtain ⟨q0, q1⟩ := HO.out _ _ _ hw1
        have l4 : L 4 = true := hL.need 4 (by kernel_rfl)
        have e4 := q1 4 _ rfl l4
        refine gen_no ?_ ?_
        · simp only [e4]
          rfl
        · exact HI.out _ _ _ ⟨q0, kn_free q1 rfl⟩
      · intro vs
        simp only [Act.put, List.setIfInBounds_toArray, List.set_cons_succ, List.set_cons_zero]
        rfl
      refine gen_cons (A' := ?_) (fun vs L w1 hL hw1 => ?_) ?_ ?_
      rotate_left 1
      · obtain ⟨q0, q1⟩ := HO.out _ _ _ hw1
        have l4 : L 4 = true := hL.need 4 (by kernel_rfl)
        have e4 := q1 4 _ rfl l4
        refine gen_no ?_ ?_
        · simp only [e4]
          rfl
        · exact HI.out _ _ _ ⟨q0, kn_free q1 rfl⟩
      · intro vs
        simp only [Act.put, List.setIfInBounds_toArray, List.set_cons_succ, List.set_cons_zero]
        rfl
      refine gen_cons (A' := ?_) (fun vs L w1 hL hw1 => ?_) ?_ ?_
      rotate_left 1
      · obtain ⟨q0, q1⟩ := HO.out _ _ _ hw1
        have l4 : L 4 = true := hL.need 4 (by kernel_rfl)
        have e4 := q1 4 _ rfl l4
        refine gen_no ?_ ?_
        · simp only [e4]
          rfl
        · exact HI.out _ _ _ ⟨q0, kn_free q1 rfl⟩
      · intro vs
        simp only [Act.put, List.setIfInBounds_toArray, List.set_cons_succ, List.set_cons_zero]
        rfl
      refine gen_cons (A' := ?_) (fun vs L w1 hL hw1 => ?_) ?_ ?_
      rotate_left 1
      · obtain ⟨q0, q1⟩ := HO.out _ _ _ hw1
        have l4 : L 4 = true := hL.need 4 (by kernel_rfl)
        have e4 := q1 4 _ rfl l4
        refine gen_no ?_ ?_
        · simp only [e4]
          rfl
        · exact HI.out _ _ _ ⟨q0, kn_free q1 rfl⟩
      · intro vs
        simp only [Act.put, List.setIfInBounds_toArray, List.set_cons_succ, List.set_cons_zero]
        rfl
      refine gen_cons (A' := ?_) (fun vs L w1 hL hw1 => ?_) ?_ ?_
      rotate_left 1
      · obtain ⟨q0, q1⟩ := HO.out _ _ _ hw1
        have l4 : L 4 = true := hL.need 4 (by kernel_rfl)
        have e4 := q1 4 _ rfl l4
        refine gen_no ?_ ?_
        · simp only [e4]
          rfl
        · exact HI.out _ _ _ ⟨q0, kn_free q1 rfl⟩
      · intro vs
        simp only [Act.put, List.setIfInBounds_toArray, List.set_cons_succ, List.set_cons_zero]
        rfl
      refine gen_cons (A' := ?_) (fun vs L w1 hL hw1 => ?_) ?_ ?_
      rotate_left 1
      · obtain ⟨q0, q1⟩ := HO.out _ _ _ hw1
        have l4 : L 4 = true := hL.need 4 (by kernel_rfl)
        have e4 := q1 4 _ rfl l4
        refine gen_no ?_ ?_
        · simp only [e4]
          rfl
        · exact HI.out _ _ _ ⟨q0, kn_free q1 rfl⟩
      · intro vs
        simp only [Act.put, List.setIfInBounds_toArray, List.set_cons_succ, List.set_cons_zero]
        rfl
      refine gen_cons (A' := ?_) (fun vs L w1 hL hw1 => ?_) ?_ ?_
      rotate_left 1
      · obtain ⟨q0, q1⟩ := HO.out _ _ _ hw1
        have l4 : L 4 = true := hL.need 4 (by kernel_rfl)
        have e4 := q1 4 _ rfl l4
        refine gen_no ?_ ?_
        · simp only [e4]
          rfl
        · exact HI.out _ _ _ ⟨q0, kn_free q1 rfl⟩
      · intro vs
        simp only [Act.put, List.setIfInBounds_toArray, List.set_cons_succ, List.set_cons_zero]
        rfl
      refine gen_cons (A' := ?_) (fun vs L w1 hL hw1 => ?_) ?_ ?_
      rotate_left 1
      · obtain ⟨q0, q1⟩ := HO.out _ _ _ hw1
        refine gen_plain rfl ?_
        have l4 : L 4 = true := hL.need 4 (by kernel_rfl)
        have e4 := q1 4 _ rfl l4
        simp only [e4]
        go_simp
        exact gr_val (HI.out _ _ _ ⟨q0, kn_known q1 rfl⟩)
      · intro vs
        simp only [Act.put, List.setIfInBounds_toArray, List.set_cons_succ, List.set_cons_zero]
        rfl
      refine gen_nil ?_
      intro vs L W6 hall hS
      obtain ⟨hq, q1⟩ := HO.out _ _ _ hS
      have eX12 := q1 12 _ rfl (hall 12 (by simp))
      clear hall hS HI HO q1
      simp only [eX12]
      replace hg := below_grows hg (Nat.le_refl _) hq
      replace hown := hown.grows hq
      clear hq kgr hr
      obtain ⟨A2, c2, ev, hc2, -, -⟩ := hown.read
      have hpl := HPL.out
      rw [hpl] at ev hc2
      subst ev
      go_upto_region 6 with fail
      have hwk : IntKind.i64.wrap (k : Int) = (k : Int) := IntWalk.i64_in _ (by omega)
      generalize l.take k = p at *
      obtain ⟨S, HI, HO⟩ : ∃ S : Ran → (Nat → Value) → World → Prop, Hid (∀ L vs w', (Grows w1 w' ∧ KnS [some (.slice A2 k c2), some (.agg #[.int .i64 g.k, .int .i64 g.a, .int .i64 g.q, .int .i64 g.s, .int .u64 g.d, .int .i64 g.f]), none, none, some (.slice A l.length c), some (.slice A2 k c2), some (.int .i64 (k : Int)), some (.slice (if c = k then A else Option.map (fun x => x.add (k * 6)) A) (l.length - k) (c - k)), none] L vs ∧ (L 3 = false → OwnG w' w1.heap.size (.slice A2 k c2) p) ∧ (L 2 = true → L 3 = false → ∃ gb, vs 2 = .slice (some ⟨gb, 0, none⟩) 1 1 ∧ Gls w' (some ⟨gb, 0, none⟩) [g]) ∧ (L 3 = true → L 8 = false → OwnG w' w1.heap.size (vs 3) (p ++ [g])) ∧ (L 8 = true → OwnG w' w1.heap.size (vs 8) (p ++ [g] ++ l.drop k)) ∧ (L 3 = true → L 2 = true) ∧ (L 8 = true → L 3 = true)) → S L vs w') ∧ Hid (∀ L vs w', S L vs w' → (Grows w1 w' ∧ KnS [some (.slice A2 k c2), some (.agg #[.int .i64 g.k, .int .i64 g.a, .int .i64 g.q, .int .i64 g.s, .int .u64 g.d, .int .i64 g.f]), none, none, some (.slice A l.length c), some (.slice A2 k c2), some (.int .i64 (k : Int)), some (.slice (if c = k then A else Option.map (fun x => x.add (k * 6)) A) (l.length - k) (c - k)), none] L vs ∧ (L 3 = false → OwnG w' w1.heap.size (.slice A2 k c2) p) ∧ (L 2 = true → L 3 = false → ∃ gb, vs 2 = .slice (some ⟨gb, 0, none⟩) 1 1 ∧ Gls w' (some ⟨gb, 0, none⟩) [g]) ∧ (L 3 = true → L 8 = false → OwnG w' w1.heap.size (vs 3) (p ++ [g])) ∧ (L 8 = true → OwnG w' w1.heap.size (vs 8) (p ++ [g] ++ l.drop k)) ∧ (L 3 = true → L 2 = true) ∧ (L 8 = true → L 3 = true))) := ⟨fun L vs w' => Grows w1 w' ∧ KnS [some (.slice A2 k c2), some (.agg #[.int .i64 g.k, .int .i64 g.a, .int .i64 g.q, .int .i64 g.s, .int .u64 g.d, .int .i64 g.f]), none, none, some (.slice A l.length c), some (.slice A2 k c2), some (.int .i64 (k : Int)), some (.slice (if c = k then A else Option.map (fun x => x.add (k * 6)) A) (l.length - k) (c - k)), none] L vs ∧ (L 3 = false → OwnG w' w1.heap.size (.slice A2 k c2) p) ∧ (L 2 = true → L 3 = false → ∃ gb, vs 2 = .slice (some ⟨gb, 0, none⟩) 1 1 ∧ Gls w' (some ⟨gb, 0, none⟩) [g]) ∧ (L 3 = true → L 8 = false → OwnG w' w1.heap.size (vs 3) (p ++ [g])) ∧ (L 8 = true → OwnG w' w1.heap.size (vs 8) (p ++ [g] ++ l.drop k)) ∧ (L 3 = true → L 2 = true) ∧ (L 8 = true → L 3 = true), fun _ _ _ h => h, fun _ _ _ h => h⟩
      refine wp_region_genT S 9 38 (by kernel_rfl) (by kernel_rfl) rfl ?_ ?_
      · exact HI.out _ _ _ ⟨below_grows hg (Nat.le_refl _) (Grows.drew' _), kn_none _ _, (fun _ => hown.grows (Grows.drew' _)), (fun h => by cases h), (fun h => by cases h), (fun h => by cases h), (fun h => by cases h), (fun h => by cases h)⟩
      simp only [List.take_succ_cons, List.take_zero, List.drop_succ_cons, List.drop_zero]
      refine gent_cons (A' := ?_) (fun vs L u1 hL hw1 => ?_) ?_ ?_
      rotate_left 1
      · obtain ⟨q0, q1, qa, q2, q3, q8, h3, h8⟩ := HO.out _ _ _ hw1
        refine gen_plain rfl ?_
        go_simp
        exact gr_val (HI.out _ _ _ ⟨q0, kn_known q1 rfl, qa, q2, q3, q8, h3, h8⟩)
      · intro vs
        simp only [Act.put, List.setIfInBounds_toArray, List.set_cons_succ, List.set_cons_zero]
        rfl
      refine gent_cons (A' := ?_) (fun vs L u1 hL hw1 => ?_) ?_ ?_
      rotate_left 1
      · obtain ⟨q0, q1, qa, q2, q3, q8, h3, h8⟩ := HO.out _ _ _ hw1
        have e0 := (kg.grows q0).cell 0
        have e1 := (kg.grows q0).cell 1
        have e2 := (kg.grows q0).cell 2
        have e3 := (kg.grows q0).cell 3
        have e4 := (kg.grows q0).cell 4
        have e5 := (kg.grows q0).cell 5
        refine gen_plain rfl ?_
        go_simp
        exact gr_val (HI.out _ _ _ ⟨q0, kn_known q1 rfl, qa, q2, q3, q8, h3, h8⟩)
      · intro vs
        simp only [Act.put, List.setIfInBounds_toArray, List.set_cons_succ, List.set_cons_zero]
        rfl
      refine gent_cons (A' := ?_) (fun vs L u1 hL hw1 => ?_) ?_ ?_
      rotate_left 1
      · obtain ⟨q0, q1, qa, q2, q3, q8, h3, h8⟩ := HO.out _ _ _ hw1
        have n2 : L 2 = false := hL.1
        have n3 : L 3 = false := by
          cases h : L 3
          · rfl
          · rw [h3 h] at n2; cases n2
        have n8 : L 8 = false := by
          cases h : L 8
          · rfl
          · rw [h8 h] at n3; cases n3
        have l1 : L 1 = true := hL.need 1 (by kernel_rfl)
        have e1 := q1 1 _ rfl l1
        refine gen_plain rfl ?_
        simp only [e1]
        go_simp
        have hg := (Below.refl u1.heap.size u1).alloc (Nat.le_refl _) (Obj.cells #[.int .i64 g.k, .int .i64 g.a, .int .i64 g.q, .int .i64 g.s, .int .u64 g.d, .int .i64 g.f] 28)
        exact gr_val (HI.out _ _ _ ⟨below_grows q0 (Nat.le_refl _) hg, kn_free q1 rfl, (fun h => (qa h).grows hg), (fun _ _ => ⟨_, rfl, gls_lit u1 g⟩), (fun h _ => by rw [show L 3 = true from h] at n3; cases n3), (fun h => by rw [show L 8 = true from h] at n8; cases n8), (fun h => by rw [show L 3 = true from h] at n3; cases n3), (fun h => by rw [show L 8 = true from h] at n8; cases n8)⟩)
      · intro vs
        simp only [Act.put, List.setIfInBounds_toArray, List.set_cons_succ, List.set_cons_zero]
        rfl
      refine gent_cons (A' := ?_) (fun vs L u1 hL hw1 => ?_) ?_ ?_
      rotate_left 1
      · obtain ⟨q0, q1, qa, q2, q3, q8, h3, h8⟩ := HO.out _ _ _ hw1
        have n3 : L 3 = false := hL.1
        have n8 : L 8 = false := by
          cases h : L 8
          · rfl
          · rw [h8 h] at n3; cases n3
        have l0 : L 0 = true := hL.need 0 (by kernel_rfl)
        have e0 := q1 0 _ rfl l0
        have l2 : L 2 = true := hL.need 2 (by kernel_rfl)
        obtain ⟨gb, e2, s2⟩ := q2 l2 n3
        have o0 := qa n3
        refine gen_plain rfl ?_
        refine gr_append_gl (.tmp 29) (.tmp 31) rfl (l := p) (m := [g]) rfl e0 o0 e2 s2 (by simp only [List.length_cons, List.length_nil]; omega) q0.size ?_
        intro v3 w3 o3 g3
        have hg := o0.below q0 g3 q0.size
        exact HI.out _ _ _ ⟨hg, kn_free q1 rfl, (fun h => by cases h), (fun _ h => by cases h), (fun _ _ => o3), (fun h => by rw [show L 8 = true from h] at n8; cases n8), (fun _ => l2), (fun h => by rw [show L 8 = true from h] at n8; cases n8)⟩
      · intro vs
        simp only [Act.put, List.setIfInBounds_toArray, List.set_cons_succ, List.set_cons_zero]
        rfl
      refine gent_cons (A' := ?_) (fun vs L u1 hL hw1 => ?_) ?_ ?_
      rotate_left 1
      · obtain ⟨q0, q1, qa, q2, q3, q8, h3, h8⟩ := HO.out _ _ _ hw1
        refine gen_plain rfl ?_
        go_simp
        exact gr_val (HI.out _ _ _ ⟨q0, kn_known q1 rfl, qa, q2, q3, q8, h3, h8⟩)
      · intro vs
        simp only [Act.put, List.setIfInBounds_toArray, List.set_cons_succ, List.set_cons_zero]
        rfl
      refine gent_cons (A' := ?_) (fun vs L u1 hL hw1 => ?_) ?_ ?_
      rotate_left 1
      · obtain ⟨q0, q1, qa, q2, q3, q8, h3, h8⟩ := HO.out _ _ _ hw1
        refine gen_plain rfl ?_
        go_simp
        exact gr_val (HI.out _ _ _ ⟨q0, kn_known q1 rfl, qa, q2, q3, q8, h3, h8⟩)
      · intro vs
        simp only [Act.put, List.setIfInBounds_toArray, List.set_cons_succ, List.set_cons_zero]
        rfl
      refine gent_cons (A' := ?_) (fun vs L u1 hL hw1 => ?_) ?_ ?_
      rotate_left 1
      · obtain ⟨q0, q1, qa, q2, q3, q8, h3, h8⟩ := HO.out _ _ _ hw1
        have l5 : L 5 = true := hL.need 5 (by kernel_rfl)
        have e5 := q1 5 _ rfl l5
        refine gen_plain rfl ?_
        simp only [e5]
        go_simp
        exact gr_val (HI.out _ _ _ ⟨q0, kn_known q1 rfl, qa, q2, q3, q8, h3, h8⟩)
      · intro vs
        simp only [Act.put, List.setIfInBounds_toArray, List.set_cons_succ, List.set_cons_zero]
        rfl
      refine gent_cons (A' := ?_) (fun vs L u1 hL hw1 => ?_) ?_ ?_
      rotate_left 1
      · obtain ⟨q0, q1, qa, q2, q3, q8, h3, h8⟩ := HO.out _ _ _ hw1
        have l4 : L 4 = true := hL.need 4 (by kernel_rfl)
        have e4 := q1 4 _ rfl l4
        have l6 : L 6 = true := hL.need 6 (by kernel_rfl)
        have e6 := q1 6 _ rfl l6
        refine gen_plain rfl ?_
        simp only [e4, e6]
        go_simp
        exact gr_val (HI.out _ _ _ ⟨q0, kn_known q1 rfl, qa, q2, q3, q8, h3, h8⟩)
      · intro vs
        simp only [Act.put, List.setIfInBounds_toArray, List.set_cons_succ, List.set_cons_zero]
        rfl
      refine gent_cons (A' := ?_) (fun vs L u1 hL hw1 => ?_) ?_ ?_
      rotate_left 1
      · obtain ⟨q0, q1, qa, q2, q3, q8, h3, h8⟩ := HO.out _ _ _ hw1
        have n8 : L 8 = false := hL.1
        have l3 : L 3 = true := hL.need 3 (by kernel_rfl)
        have o3 := q3 l3 n8
        have l7 : L 7 = true := hL.need 7 (by kernel_rfl)
        have e7 := q1 7 _ rfl l7
        refine gen_plain rfl ?_
        refine gr_append_gl (.tmp 32) (.tmp 36) rfl (l := p ++ [g]) (m := l.drop k) (by rw [List.length_drop]) rfl o3 e7 (gls_drop (h1.grows q0) hk hlc) (by simp only [List.length_append, List.length_drop, List.length_cons, List.length_nil]; omega) q0.size ?_
        intro v3 w3 o8 g3
        have hg := o3.below q0 g3 q0.size
        exact HI.out _ _ _ ⟨hg, kn_free q1 rfl, (fun h => by rw [show L 3 = false from h] at l3; cases l3), (fun _ h => by rw [show L 3 = false from h] at l3; cases l3), (fun _ h => by cases h), (fun _ => o8), h3, (fun _ => l3)⟩
      · intro vs
        simp only [Act.put, List.setIfInBounds_toArray, List.set_cons_succ, List.set_cons_zero]
        rfl
      refine gent_nil ?_
      intro vs L W2 hall hS
      obtain ⟨hg2, -, -, -, -, q8, -, -⟩ := HO.out _ _ _ hS
      have hown2 := q8 (hall 8 (by omega))
      clear hall hS HI HO q8
      have hB2 := below_grows hB (Nat.le_refl _) hg2
      have hown3 := hown2.mono hB.size
      have hput := HP.out _ rfl
      clear hB hg hg2 hown hown2
      go_wp2
      go_ret
      first | exact ⟨⟨_, _, rfl, hown3, hput⟩, hB2⟩ | exact ⟨⟨_, rfl, _, hown3, hput⟩, hB2⟩
end Go.Proofs.Ytbmoiokpkcaccaa
