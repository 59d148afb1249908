/-
  Graphs: the order of the reference. Plain contract.
-/
import Derived.Test.YtmokpiacioeohaaGrI
namespace Go.Proofs.Ytmokpiacioeohaa
open Go.RowKit
def nxt (o : Option Q4) : Int := match o with | some n => n.a | none => 0
def lenV : Value → Nat | .slice _ n _ => n | _ => 0
theorem nxt_up {ns ls : List Q4} {out : List Int} {k : Nat} {x : Q4} (hx : ns[k]? = some x) (h0 : ∀ n ∈ ns, n.a ≠ 0) (hf : freeN ls out x = true) (hn : nxt ((ns.take k).find? (freeN ls out)) = 0) : nxt ((ns.take (k + 1)).find? (freeN ls out)) = x.a := by
  have e : (ns.take k).find? (freeN ls out) = none := by
    cases e : (ns.take k).find? (freeN ls out) with
    | none => rfl
    | some y =>
      rw [e] at hn
      exact absurd hn (h0 y (List.mem_of_mem_take (List.mem_of_find?_eq_some e)))
  rw [take_snoc hx, List.find?_append, e]
  simp [hf, nxt]
theorem nxt_no {ns ls : List Q4} {out : List Int} {k : Nat} {x : Q4} (hx : ns[k]? = some x) (hf : freeN ls out x = false) : (ns.take (k + 1)).find? (freeN ls out) = (ns.take k).find? (freeN ls out) := by
  rw [take_snoc hx, List.find?_append]
  simp [hf]
theorem nxt_old {ns ls : List Q4} {out : List Int} {k : Nat} {x : Q4} (hx : ns[k]? = some x) (hn : nxt ((ns.take k).find? (freeN ls out)) ≠ 0) : nxt ((ns.take (k + 1)).find? (freeN ls out)) = nxt ((ns.take k).find? (freeN ls out)) := by
  rw [take_snoc hx, List.find?_append]
  cases e : (ns.take k).find? (freeN ls out) with
  | none => rw [e] at hn; exact absurd rfl hn
  | some y => simp
/-- Free as far as the links are gone through. -/
def freeK (ls : List Q4) (out : List Int) (x : Q4) (j : Nat) : Bool := !out.contains x.a && (ls.take j).all fun l => l.c != x.a || out.contains l.a
theorem freeK_end (ls : List Q4) (out : List Int) (x : Q4) {j : Nat} (h : ls.length ≤ j) : freeK ls out x j = freeN ls out x := by unfold freeK freeN; rw [List.take_of_length_le h]
theorem freeK_up {ls : List Q4} (out : List Int) (x : Q4) {j : Nat} {l : Q4} (h : ls[j]? = some l) : freeK ls out x (j + 1) = (freeK ls out x j && (l.c != x.a || out.contains l.a)) := by
  unfold freeK
  rw [take_snoc h, List.all_append]
  simp [Bool.and_assoc]
theorem freeK_zero (ls : List Q4) (out : List Int) (x : Q4) : freeK ls out x 0 = !out.contains x.a := by simp [freeK]
set_option maxHeartbeats 8000000 in
theorem rorder_any (A A2 : Option Addr) (c c2 : Nat) (ns ls : List Q4) (w : World) (h : Qs w A ns) (hl : ns.length ≤ 100000) (h2 : Qs w A2 ls) (hl2 : ls.length ≤ 9223372036854775807) (h0 : ∀ n ∈ ns, n.a ≠ 0) :
    Calls Try.prog 43 #[.agg #[.slice A ns.length c, .slice A2 ls.length c2]] w fun e w' => (∃ v, e = .returned v ∧ OwnI w' w.heap.size v (orderL ns ls)) ∧ Grows w w' := by
  have k1 := Blk.new w 40 #[.slice A ns.length c, .slice A2 ls.length c2]
  have hB := (Below.refl w.heap.size w).alloc (Nat.le_refl _) (Obj.cells #[.slice A ns.length c, .slice A2 ls.length c2] 40)
  have H0 := Lib.hid h0
  clear h0
  go_enter Try.func43, Try.ntmps43
  go_upto_region 2 with fail
  generalize World.alloc w _ = w1 at *
  go_loopw [3] (fun v wr => ∃ out : List Int, OwnI wr w.heap.size v out ∧ Hid (runN ns ls (leftN ns out) out = orderL ns ls ∧ out.length + leftN ns out ≤ ns.length) ∧ Below w.heap.size w wr ∧ Blk wr w.heap.size 40 #[.slice A ns.length c, .slice A2 ls.length c2]) (fun v _ => ns.length - lenV v)
  case atStart => exact ⟨[], ownI_nil _ _, Lib.hid ⟨order_nil ns ls, by have := left_nil ns; simp only [List.length_nil]; omega⟩, hB, k1⟩
  case round =>
    clear hB k1
    obtain ⟨out, hown, HR, hB, k1⟩ := hrel
    obtain ⟨A3, c3, rfl, hc3, hi⟩ := hown.read
    have hol : out.length ≤ 100000 := by have := HR.out.2; omega
    have x1 := k1.cell
    go_wp2_with fail
    clear x1
    generalize wr = w0 at *
    go_loopw [4, 13] (fun v i w3 => ∃ k : Nat, k ≤ ns.length ∧ i = .int .i64 k ∧ (∃ z : Int, v = .int .i64 z ∧ Hid (nxt ((ns.take k).find? (freeN ls out)) = z)) ∧ Grows w0 w3) (fun _ i _ => ns.length - (intOf i).toNat)
    case atStart => exact ⟨0, by omega, rfl, ⟨0, rfl, Lib.hid rfl⟩, Below.refl _ _⟩
    case round =>
      obtain ⟨k, hk, rfl, ⟨z, rfl, HZ⟩, hg⟩ := hrel
      by_cases hlt : k < ns.length
      · obtain ⟨ad, x, rfl, had, hx, q0, q1, q2, q3⟩ := ((h.grows hB).grows hg).elem hlt
        have HX := Lib.hid hx
        clear hx
        have k6 := Blk.new wr 59 #[.int .i64 x.a, .int .i64 x.b, .int .i64 x.c, .int .i64 x.d]
        have hq := (Below.refl wr.heap.size wr).alloc (Nat.le_refl _) (Obj.cells #[.int .i64 x.a, .int .i64 x.b, .int .i64 x.c, .int .i64 x.d] 59)
        go_upto_region 6 with fail
        clear q0 q1 q2 q3
        replace hg := below_grows hg (Nat.le_refl _) hq
        clear hq
        generalize World.alloc wr _ = w4 at *
        generalize wr.heap.size = G6 at *
        have x6 := k6.cell
        have x1 := (k1.grows hg).cell
        go_wp2_with fail
        refine (in_any A3 c3 out x.a _ (hi.grows hg) (by omega)).mono ?_
        rintro e w5 ⟨rfl, rfl⟩
        go_wp2_with fail
        clear x6 x1
        skip
        go_loopw [7, 25] (fun v i w5 => ∃ j : Nat, j ≤ ls.length ∧ i = .int .i64 j ∧ (∃ f : Bool, v = .bool f ∧ Hid (freeK ls out x j = f)) ∧ Grows w0 w5 ∧ Blk w5 G6 59 #[.int .i64 x.a, .int .i64 x.b, .int .i64 x.c, .int .i64 x.d]) (fun _ i _ => ls.length - (intOf i).toNat)
        case atStart => exact ⟨0, by omega, rfl, ⟨_, rfl, Lib.hid (by simp [freeK])⟩, hg, k6⟩
        case round =>
          clear hg k6
          obtain ⟨j, hj, rfl, ⟨f, rfl, HF⟩, hg, k6⟩ := hrel
          by_cases hlt2 : j < ls.length
          · obtain ⟨ad2, l, rfl, had2, hx2, q0, q1, q2, q3⟩ := ((h2.grows hB).grows hg).elem hlt2
            have HU := Lib.hid (freeK_up out x hx2)
            clear hx2
            have k9 := Blk.new wr 52 #[.int .i64 l.a, .int .i64 l.b, .int .i64 l.c, .int .i64 l.d]
            have hq := (Below.refl wr.heap.size wr).alloc (Nat.le_refl _) (Obj.cells #[.int .i64 l.a, .int .i64 l.b, .int .i64 l.c, .int .i64 l.d] 52)
            go_upto_region 10 with fail
            clear q0 q1 q2 q3
            replace hg := below_grows hg (Nat.le_refl _) hq
            replace k6 := k6.grows hq
            clear hq
            generalize World.alloc wr _ = w6 at *
            generalize wr.heap.size = G9 at *
            have x6 := k6.cell
            have x9 := k9.cell
            cases f
            · go_wp2
              go_roundw
              case rel => exact ⟨j + 1, by omega, by go_num, ⟨_, rfl, Lib.hid (by rw [HU.out, HF.out]; rfl)⟩, hg, k6⟩
              case measure => simp [intOf]; omega
            · cases e2 : l.c == x.a
              · have e3 : (l.c != x.a) = true := by simp [bne, e2]
                have e4 : ¬ l.c = x.a := by simpa using e2
                go_wp2
                go_roundw
                case rel => exact ⟨j + 1, by omega, by go_num, ⟨_, rfl, Lib.hid (by rw [HU.out, HF.out]; simp_all)⟩, hg, k6⟩
                case measure => simp [intOf]; omega
              · have e3 : (l.c != x.a) = false := by simp [bne, e2]
                go_wp2_with fail
                refine (in_any A3 c3 out l.a _ (hi.grows hg) (by omega)).mono ?_
                rintro e w7 ⟨rfl, rfl⟩
                go_wp2
                go_roundw
                case rel => exact ⟨j + 1, by omega, by go_num, ⟨_, rfl, Lib.hid (by rw [HU.out, HF.out]; simp_all)⟩, hg, k6⟩
                case measure => simp [intOf]; omega
          · have x6 := k6.cell
            have HE := Lib.hid (freeK_end ls out x (Nat.le_of_not_lt hlt2))
            cases f
            · go_wp2
              go_roundw
              case rel => exact ⟨k + 1, by omega, by go_num, ⟨_, rfl, Lib.hid (by rw [nxt_no HX.out (by rw [← HE.out, HF.out])]; exact HZ.out)⟩, hg⟩
              case measure => simp [intOf]; omega
            · by_cases hz : z = 0
              · subst hz
                go_wp2
                go_roundw
                case rel => exact ⟨k + 1, by omega, by go_num, ⟨_, rfl, Lib.hid (nxt_up HX.out H0.out (by rw [← HE.out, HF.out]) HZ.out)⟩, hg⟩
                case measure => simp [intOf]; omega
              · have hz2 : (z == 0) = false := by simp [hz]
                go_wp2
                go_roundw
                case rel => exact ⟨k + 1, by omega, by go_num, ⟨_, rfl, Lib.hid (by rw [nxt_old HX.out (by rw [HZ.out]; exact hz)]; exact HZ.out)⟩, hg⟩
                case measure => simp [intOf]; omega
      · have HN : Hid (nxt (nextN ns ls out) = z) := Lib.hid (by have := HZ.out; rwa [List.take_of_length_le (by omega)] at this)
        clear HZ
        replace hown := hown.grows hg
        replace hi := hi.grows hg
        replace hB := below_grows hB (Nat.le_refl _) hg
        replace k1 := k1.grows hg
        clear hg
        generalize hnx : nextN ns ls out = nx at *
        have HNX := Lib.hid hnx
        clear hnx
        cases nx with
        | none =>
          obtain rfl : z = 0 := HN.out.symm
          have HE := Lib.hid (order_end HNX.out HR.out.1)
          go_wp2
          go_ret
          refine ⟨⟨_, rfl, ?_⟩, hB⟩
          rw [← HE.out]
          exact hown
        | some n =>
          obtain rfl : z = n.a := HN.out.symm
          have hz2 : (n.a == 0) = false := by have := H0.out n (next_some HNX.out).1; simp [this]
          have HS := Lib.hid (order_step HNX.out HR.out.1)
          have HL := Lib.hid (left_lt HNX.out)
          clear HN
          have HM : Hid ((out ++ [n.a]).length + leftN ns (out ++ [n.a]) ≤ ns.length ∧ out.length + 1 ≤ ns.length) := Lib.hid (by have h1 := HR.out.2; have h3 := HL.out; rw [List.length_append]; simp only [List.length_singleton]; omega)
          clear HL HR
          go_upto_region 17 with fail
          refine wp_region_lit ?_
          iterate 3
            refine wpList_plain rfl (fun K hK => ?_)
            go_simp
            refine hK _ _ ?_
            clear hK K
          have hq := (Below.refl wr.heap.size wr).alloc (Nat.le_refl _) (Obj.cells #[.int .i64 n.a] 3)
          replace hB := below_grows hB (Nat.le_refl _) hq
          replace hown := hown.grows hq
          replace k1 := k1.grows hq
          refine wpList_append_int rfl (.tmp 55) (.tmp 57) rfl (m := [n.a]) rfl rfl hown rfl (ints_lit wr n.a) (by simp; omega) hB.size ?_
          intro v3 w8 hown3 hgr3 _
          have hB5 := hown.below hB hgr3 hB.size
          have k15 := k1.grown hgr3 (fun e => own_blk_ne hown k1 (by decide) e.symm)
          clear hown hq hB hgr3 k1 hi
          generalize hol2 : out ++ [n.a] = out2 at *
          have hlen : out2.length = out.length + 1 := by rw [← hol2]; simp
          obtain ⟨A4, c4, rfl, hc4, -⟩ := hown3.read
          have HO2 := Lib.hid hlen
          clear hol2 hlen
          go_wp2
          go_roundw
          case rel => exact ⟨out2, hown3, Lib.hid ⟨HS.out, HM.out.1⟩, hB5, k15⟩
          case measure =>
            have h1 := HM.out
            have h3 := HO2.out
            simp only [lenV]
            omega
end Go.Proofs.Ytmokpiacioeohaa
