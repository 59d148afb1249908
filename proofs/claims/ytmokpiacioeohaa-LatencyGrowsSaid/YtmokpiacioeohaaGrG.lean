/-
  Graphs: the nodes by their IDs, in a map (the program). Plain contract.
-/
import Derived.Test.YtmokpiacioeohaaGrF
import Derived.Test.YtmokpiacioeohaaMapV
import Derived.Test.YtmokpiacioeohaaOwn
import Derived.DeepKeys4
namespace Go.Proofs.Ytmokpiacioeohaa
open Go.RowKit Go.Maps
theorem lawI : Keyed Try.prog 3 := int_keyed Try.underlying3
abbrev TI : KeyT Try.prog 3 Int := intT Try.underlying3
/-- An integer that a slot can hold. -/
def In64 (i : Int) : Prop := -9223372036854775808 ≤ i ∧ i ≤ 9223372036854775807
theorem in64_ok {i : Int} (h : In64 i) : TI.ok i := by
  exact WalkArith.wf_i64 (by unfold In64 at h; omega)
theorem zeroQ (w : World) : (zeroValue 59).run Try.prog w = .ok (.agg #[.int .i64 0, .int .i64 0, .int .i64 0, .int .i64 0]) w := by kernel_rfl
def nodeM (ns : List Q4) : Int → Option Value := fun id => (lastN ns id).map fun x => Value.agg x.cs
theorem nodeM_snoc (ns : List Q4) (x : Q4) (id : Int) : (if id = x.a then some (Value.agg #[.int .i64 x.a, .int .i64 x.b, .int .i64 x.c, .int .i64 x.d]) else nodeM ns id) = nodeM (ns ++ [x]) id := by
  unfold nodeM lastN
  rw [List.reverse_append]
  simp only [List.reverse_cons, List.reverse_nil, List.nil_append, List.singleton_append, List.find?_cons]
  by_cases e : id = x.a
  · subst e
    simp [Q4.cs]
  · rw [if_neg e]
    have : (x.a == id) = false := by simp; exact fun h => e h.symm
    rw [this]
theorem qinfo4 : (Try.prog.info? 59).map (·.size) = some 4 := by kernel_rfl
set_option maxHeartbeats 4000000 in
theorem find_any (A A2 : Option Addr) (c c2 m : Nat) (ns : List Q4) (w : World) (h : Qs w A ns) (hl : ns.length ≤ 100000) (hr : ∀ n ∈ ns, In64 n.a) :
    Calls Try.prog 45 #[.agg #[.slice A ns.length c, .slice A2 m c2]] w fun e w' => (∃ b n, e = .returned (.map (some b)) ∧ MapT TI w' b n (nodeM ns)) ∧ Grows w w' := by
  have hmm := @run_makeMap Try.prog
  have HR := Lib.hid hr
  clear hr
  have k1 := Blk.new w 40 #[.slice A ns.length c, .slice A2 m c2]
  have hB := (Below.refl w.heap.size w).alloc (Nat.le_refl _) (Obj.cells #[.slice A ns.length c, .slice A2 m c2] 40)
  go_enter Try.func45, Try.ntmps45
  go_upto_region 1 with fail
  generalize World.alloc w _ = w1 at *
  have hm := mapT_made TI w1
  have hq := (Below.refl w1.heap.size w1).alloc (Nat.le_refl _) (Obj.map #[] 0)
  go_upto_region 2 with fail
  have hge : w.heap.size ≤ w1.heap.size := hB.size
  replace hB := below_grows hB (Nat.le_refl _) hq
  replace k1 := k1.grows hq
  clear hq
  generalize World.alloc w1 _ = w2 at *
  generalize w1.heap.size = Bm at *
  have x1 := k1.cell 0
  go_wp2_with fail
  clear x1 k1
  go_loopw [10] (fun i wr => ∃ k : Nat, k ≤ ns.length ∧ i = .int .i64 k ∧ MapT TI wr Bm k (nodeM (ns.take k)) ∧ Below w.heap.size w wr) (fun i _ => ns.length - (intOf i).toNat)
  case atStart => exact ⟨0, by omega, rfl, hm, hB⟩
  case round =>
    clear hm hB
    obtain ⟨k, hk, rfl, hm, hB⟩ := hrel
    by_cases hlt : k < ns.length
    · obtain ⟨ad, x, rfl, had, hx, q0, q1, q2, q3⟩ := (h.grows hB).elem hlt
      have HT := Lib.hid (take_snoc hx)
      have HX : Hid (In64 x.a) := Lib.hid (HR.out x (List.mem_of_getElem? hx))
      clear hx
      have k5 := Blk.new wr 59 #[.int .i64 x.a, .int .i64 x.b, .int .i64 x.c, .int .i64 x.d]
      have hq := (Below.refl wr.heap.size wr).alloc (Nat.le_refl _) (Obj.cells #[.int .i64 x.a, .int .i64 x.b, .int .i64 x.c, .int .i64 x.d] 59)
      go_upto_region 5 with fail
      clear q0 q1 q2 q3
      replace hB := below_grows hB (Nat.le_refl _) hq
      replace hm := hm.grows hq
      clear hq
      generalize World.alloc wr _ = w4 at *
      generalize wr.heap.size = G5 at *
      have x5 := k5.cell 0
      refine wp_region_lit ?_
      iterate 3
        refine wpList_plain rfl (fun K hK => ?_)
        go_simp
        refine hK _ _ ?_
        clear hK K
      refine wpList_load_row rfl _ rfl rfl k5 Try.underlying59 rfl qinfo4 ?_
      refine wpList_storeT rfl (.tmp 14) (.tmp 16) (.tmp 17) 79 rfl rfl hm lawI Try.underlying79 (by simp only [maxLen]; omega) x.a (in64_ok HX.out) (.agg #[.int .i64 x.a, .int .i64 x.b, .int .i64 x.c, .int .i64 x.d]) rfl rfl ?_
      intro w9 hm9 hg9
      replace hm := hm9.ext fun z _ => nodeM_snoc _ x z
      replace hB := hB.grown hg9 hB.size (fun q e => by injection e with e; subst e; exact hge)
      clear hm9 hg9 x5 k5
      go_wp2
      go_roundw
      case rel => exact ⟨k + 1, by omega, by go_num, by rw [HT.out]; exact hm, hB⟩
      case measure => simp [intOf]; omega
    · go_wp2
      go_ret
      refine ⟨⟨Bm, k, rfl, ?_⟩, hB⟩
      have e : ns.take k = ns := List.take_of_length_le (by omega)
      rwa [e] at hm
end Go.Proofs.Ytmokpiacioeohaa
