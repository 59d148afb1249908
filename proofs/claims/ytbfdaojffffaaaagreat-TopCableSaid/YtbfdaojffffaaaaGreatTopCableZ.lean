/-
  TopCable, for every input: the law returns true, and the argument reads behind the call as it read before. No condition.
-/
import Derived.Test.YtbfdaojffffaaaaGreatTopCableK4
import Derived.Deep.Fields
import Derived.Deep.Slices
namespace Go.Proofs.YtbfdaojffffaaaaGreat
open Go.RowKit
theorem gr_ldpart {P : Program} {o : Oper} {ev : Operand → Value} {w : World} {ty : TypeId} {cs : Array Value} {d : TypeDesc} {T : Value → World → Prop} (p : Operand) (ho : o.op = .load ty p) {A : Addr} (hp : ev p = .pointer (some A)) (hc : ∀ (j : Nat) v, cs[j]? = some v → w.cell? (A.add j) = some v)
 (hu : P.underlying ty = some d) (hd : (match d with | .struct _ | .array _ _ => true | _ => false) = true) (hi : (P.info? ty).map (·.size) = some cs.size) (h : T (.agg cs) w) :
 genR P T ((execOp ev o).run P w) := by
 have hl := run_load_part (P := P) w A ty cs d hc hu hd hi
 unfold execOp
 simp only [ho, Instr.loadAt, Instr.sureAddr, Sem.run_bind, Sem.run_pure, Result.andThen_ok, hp, hl]
 exact gr_val h
theorem OwnS.sabne {w : World} {base n c g : Nat} {A : Option Addr} {l : List Int} (h : OwnS w base (.slice A n c) l) (hne : (Value.slice A n c).ownBlock ≠ some g) : SaB w (fun k => base ≤ k ∧ k ≠ g) A l :=
 ⟨h.sams, fun _ ad e => by subst e; exact ⟨(World.ownsRow.lt h ad.block rfl).1, fun e2 => hne (by simp [Value.ownBlock, e2])⟩⟩
theorem DR.row {w : World} {B g q : Nat} (h : DR w B g) (hq : ¬ (q ≤ g ∧ True)) (cs : Array Value) : DR (w.setRow q cs) B g := h.grown (grown_row w q cs) (fun p e => by injection e with e; subst e; exact Nat.lt_of_not_le (fun h => hq ⟨h, trivial⟩))
theorem DR.drew {w : World} {B g : Nat} (h : DR w B g) : DR w.drew B g := h.grows (Grows.drew' w)
theorem BlkOk.sub {ch fr fr' : Nat} {l m : List Int} (h : BlkOk ch fr l) (hm : ∀ x ∈ m, x ∈ l) (hl : m.length = fr' * ch) (hf : fr' ≤ 65536) : BlkOk ch fr' m := ⟨h.c1, h.c2, hl, hf, fun x hx => h.s x (hm x hx)⟩
theorem SaB.some_ {w : World} {base : Nat → Prop} {A : Option Addr} {l : List Int} (h : SaB w base A l) (hl : 0 < l.length) : ∃ ad, A = some ad := by
 obtain ⟨ad, e, -⟩ := h.1.2 hl
 exact ⟨ad, e⟩
/-- A device holds l and has given y of what was given to it. -/
structure QuI (ch k : Nat) (X Y l : List Int) : Prop where
 e : Y ++ l = List.replicate (13 * ch) 0 ++ X
 y : BlkOk ch (16 * k) Y
 l : BlkOk ch 13 l
 x : BlkOk ch (16 * k) X
theorem QuI.next {ch k : Nat} {X Y l x : List Int} (h : QuI ch k X Y l) (hk : k ≤ 20) (hx : BlkOk ch 16 x) : QuI ch (k + 1) (X ++ x) (Y ++ (l ++ x).take (16 * ch)) ((l ++ x).drop (16 * ch)) := by
 have hlx := h.l.app hx (by omega)
 have hlen : (l ++ x).length = 29 * ch := hlx.len
 have ht : BlkOk ch 16 ((l ++ x).take (16 * ch)) := hlx.sub (fun y hy => List.mem_of_mem_take hy) (by rw [List.length_take, hlen]; omega) (by omega)
 have hd : BlkOk ch 13 ((l ++ x).drop (16 * ch)) := hlx.sub (fun y hy => List.mem_of_mem_drop hy) (by rw [List.length_drop, hlen]; omega) (by omega)
 refine ⟨?_, ?_, hd, ?_⟩
 ·rw [List.append_assoc, List.take_append_drop, ← List.append_assoc, h.e, List.append_assoc]
 ·have := h.y.app ht (by omega)
  rwa [show 16 * k + 16 = 16 * (k + 1) by omega] at this
 ·have := h.x.app hx (by omega)
  rwa [show 16 * k + 16 = 16 * (k + 1) by omega] at this
theorem QuI.zero {ch : Nat} (h1 : 1 ≤ ch) (h2 : ch ≤ 8) : QuI ch 0 [] [] (List.replicate (13 * ch) 0) := ⟨by simp, BlkOk.nil h1 h2, zeros_ok h1 h2 (by omega), BlkOk.nil h1 h2⟩
theorem QuI.begins {ch k : Nat} {X Y Z la lb : List Int} (h : QuI ch k X Y la) (h' : QuI ch k Y Z lb) : (List.replicate (26 * ch) 0 ++ X).take (16 * k * ch) = Z := by
 have e1 : (List.replicate (26 * ch) (0 : Int)) = List.replicate (13 * ch) 0 ++ List.replicate (13 * ch) 0 := by rw [List.replicate_append_replicate]; congr 1; omega
 have e2 : List.replicate (26 * ch) 0 ++ X = Z ++ (lb ++ la) := by rw [e1, List.append_assoc, ← h.e, ← List.append_assoc, ← h'.e, List.append_assoc]
 rw [e2, ← h'.y.len]
 exact List.take_left
set_option maxRecDepth 100000 in
set_option maxHeartbeats 100000000 in
theorem cable_walk (A : Option Addr) (c : Nat) (l : List Int) (q : Int) (w : World) (h : Reads w w.heap.size 1 A l.length (l.map (Value.int .u8))) (hc : l.length ≤ c) (hl : l.length ≤ 9223372036854775807) (hwf : ∀ x ∈ l, 0 ≤ x ∧ x ≤ 255) (hqb : 0 ≤ q ∧ q ≤ 255) : Calls Tryz.prog 4 #[.slice A l.length c, .int .u8 q] w fun e w' => e = .returned (.bool true) ∧ Grows w w' := by
 go_enter Tryz.func4, Tryz.ntmps4
 have hB := Below.refl w.heap.size w
 go_upto_region 1 with fail
 refine wp_region_lit ?_
 refine wpList_plain rfl (fun K hK => ?_)
 go_simp
 refine (aware_any _).mono ?_
 rintro e w1 ⟨rfl, hq⟩
 refine hK _ _ ?_
 clear hK K
 replace hB := below_grows hB (Nat.le_refl _) hq
 have hqs := hq.size
 clear hq
 refine wpList_plain rfl (fun K hK => ?_)
 go_simp
 refine hK _ _ ?_
 clear hK K
 have hz1 := hB.size
 go_upto_region 3 with fail
 refine wp_region_lit ?_
 refine wpList_plain rfl (fun K hK => ?_)
 go_simp
 refine hK _ _ ?_
 clear hK K
 refine wpList_plain rfl (fun K hK => ?_)
 go_simp
 refine (dice_low w.heap.size A c l _ (h.below hB) hB.size hc hl hwf).mono ?_
 rintro e w2 ⟨rfl, hD, hq⟩
 refine hK _ _ ?_
 clear hK K
 replace hB := below_grows hB (Nat.le_refl _) hq
 have hqs := hq.size
 clear hq
 refine wpList_plain rfl (fun K hK => ?_)
 go_simp
 refine hK _ _ ?_
 clear hK K
 generalize hg0 : w1.heap.size = g at *
 have hgl := hD.lt
 clear h hc hl hwf
 go_upto_region 4 with fail
 refine wp_region_lit ?_
 iterate 1
  refine wpList_plain rfl (fun K hK => ?_)
  go_simp
  refine hK _ _ ?_
  clear hK K
 refine wpList_plain rfl (fun K hK => ?_)
 go_simp
 refine (map_any w.heap.size g _ hD).mono ?_
 rintro e w3 ⟨⟨mp, MA, mc, rfl, hmp, hmc, hIm⟩, hD, hgr⟩
 refine hK _ _ ?_
 clear hK K
 have hz3 := hgr.size
 replace hB := hB.grown hgr hB.size (fun p e => by injection e with e; omega)
 replace hIm : InB w3 (fun k => g < k) MA mp := InB.mono hIm (fun k hk => by have hk : w2.heap.size ≤ k := hk; omega)
 have hgl3 := hD.lt
 clear hgr
 obtain ⟨-, -, hm1, hm2⟩ := op_maps mp hmp
 go_upto_region 5 with fail
 refine wp_region_lit ?_
 refine wpList_plain rfl (fun K hK => ?_)
 go_simp
 refine hK _ _ ?_
 clear hK K
 refine wpList_plain rfl (fun K hK => ?_)
 go_simp
 refine (opened_any (.inl rfl) hmp MA mc _ _ hIm hmc).mono ?_
 rintro e w4 ⟨⟨Da, rfl, hma, hia⟩, hq⟩
 refine hK _ _ ?_
 clear hK K
 replace hB := below_grows hB (Nat.le_refl _) hq
 replace hD := hD.grows hq
 replace hIm := InB.grows hIm hq
 have hqs := hq.size
 clear hq
 refine wpList_plain rfl (fun K hK => ?_)
 go_simp
 refine hK _ _ ?_
 clear hK K
 refine wpList_plain rfl (fun K hK => ?_)
 go_simp
 refine hK _ _ ?_
 clear hK K
 refine wpList_plain rfl (fun K hK => ?_)
 go_simp
 refine hK _ _ ?_
 clear hK K
 replace hia := hia.mono (b2 := fun k => g < k) (fun k hk => by
  rcases hk with hk | hk
  ·exact hk
  ·omega)
 replace hia := hia.bd
 replace hIm : InB _ _ MA mp := RdB.bd hIm
 have hzD := hD.lt
 have k7 := Blk.new w4 51 #[.int .u64 0, .string ⟨#[]⟩, .int .i64 0, .int .i64 0, .int .i64 0, .int .i64 0, .int .i64 0, .slice none 0 0, .int .i64 0, .int .i64 0, .slice none 0 0, .int .i64 0, .int .i64 0, .int .i64 0, .slice none 0 0, .bool false, .int .i64 0, .int .i64 0, .int .i64 0, .int .i64 0, .int .i64 0, .int .i64 0, .int .i64 0, .int .i64 0, .int .i64 0, .int .i64 0, .int .i64 0, .int .i64 0, .slice none 0 0, .int .i64 0, .int .i64 0]
 have hq0 := (Below.refl w4.heap.size w4).alloc (Nat.le_refl _) (Obj.cells #[.int .u64 0, .string ⟨#[]⟩, .int .i64 0, .int .i64 0, .int .i64 0, .int .i64 0, .int .i64 0, .slice none 0 0, .int .i64 0, .int .i64 0, .slice none 0 0, .int .i64 0, .int .i64 0, .int .i64 0, .slice none 0 0, .bool false, .int .i64 0, .int .i64 0, .int .i64 0, .int .i64 0, .int .i64 0, .int .i64 0, .int .i64 0, .int .i64 0, .int .i64 0, .int .i64 0, .int .i64 0, .int .i64 0, .slice none 0 0, .int .i64 0, .int .i64 0] 51)
 replace hia := hia.grows hq0
 replace hD := hD.grows hq0
 replace hIm := InB.grows hIm hq0
 replace hB := below_grows hB (Nat.le_refl _) hq0
 clear hq0
 iterate 1
  refine wpList_plain rfl (fun K hK => ?_)
  go_simp
  refine hK _ _ ?_
  clear hK K
 generalize hn7 : w4.heap.size = n7 at *
 generalize World.alloc w4 _ = w5 at *
 refine wpList_store_row rfl _ _ rfl rfl rfl rfl k7 (dinfo _) rfl (dv_one _) ?_
 replace hia := (hia.row (g := n7) (fun hb => absurd hb.2 (by omega)) (dvA Da)).mono (b2 := fun k => (g < k ∧ k ≠ n7)) (fun k hk => ⟨hk.1, by have := hk.2; omega⟩)
 replace hD := hD.grown (grown_row w5 n7 (dvA Da)) (fun p e => by injection e with e; omega)
 replace hB := below_row hB (show w.heap.size ≤ n7 by omega) (dvA Da)
 replace k7 := k7.row (cs := dvA Da)
 replace hIm : InB _ (fun k => (g < k ∧ k ≠ n7)) MA mp := InB.mono (RdB.row hIm (g := n7) (fun hb => absurd hb.2 (by omega)) (dvA Da)) (fun k hk => ⟨hk.1, by have := hk.2; omega⟩)
 generalize World.setRow w5 _ _ = w6 at *
 have hz66 : n7 < w6.heap.size := k7.lt
 have hzD6 : g < w6.heap.size := hD.lt
 go_upto_region 6 with fail
 refine wp_region_lit ?_
 refine wpList_plain rfl (fun K hK => ?_)
 go_simp
 refine hK _ _ ?_
 clear hK K
 refine wpList_plain rfl (fun K hK => ?_)
 go_simp
 refine (opened_any (.inr rfl) hmp MA mc _ _ hIm hmc).mono ?_
 rintro e w7 ⟨⟨Db, rfl, hmb, hib⟩, hq⟩
 refine hK _ _ ?_
 clear hK K
 replace k7 := k7.grows hq
 replace hB := below_grows hB (Nat.le_refl _) hq
 replace hD := hD.grows hq
 replace hia := hia.grows hq
 have hqs := hq.size
 clear hq
 refine wpList_plain rfl (fun K hK => ?_)
 go_simp
 refine hK _ _ ?_
 clear hK K
 refine wpList_plain rfl (fun K hK => ?_)
 go_simp
 refine hK _ _ ?_
 clear hK K
 refine wpList_plain rfl (fun K hK => ?_)
 go_simp
 refine hK _ _ ?_
 clear hK K
 have hz76 := k7.lt
 replace hib := hib.mono (b2 := fun k => (g < k ∧ k ≠ n7)) (fun k hk => by
  rcases hk with hk | hk
  ·exact hk
  ·exact ⟨by omega, by omega⟩)
 replace hib := hib.bd
 replace hia := hia.bd
 have hzD2 := hD.lt
 have k9 := Blk.new w7 51 #[.int .u64 0, .string ⟨#[]⟩, .int .i64 0, .int .i64 0, .int .i64 0, .int .i64 0, .int .i64 0, .slice none 0 0, .int .i64 0, .int .i64 0, .slice none 0 0, .int .i64 0, .int .i64 0, .int .i64 0, .slice none 0 0, .bool false, .int .i64 0, .int .i64 0, .int .i64 0, .int .i64 0, .int .i64 0, .int .i64 0, .int .i64 0, .int .i64 0, .int .i64 0, .int .i64 0, .int .i64 0, .int .i64 0, .slice none 0 0, .int .i64 0, .int .i64 0]
 have hq0 := (Below.refl w7.heap.size w7).alloc (Nat.le_refl _) (Obj.cells #[.int .u64 0, .string ⟨#[]⟩, .int .i64 0, .int .i64 0, .int .i64 0, .int .i64 0, .int .i64 0, .slice none 0 0, .int .i64 0, .int .i64 0, .slice none 0 0, .int .i64 0, .int .i64 0, .int .i64 0, .slice none 0 0, .bool false, .int .i64 0, .int .i64 0, .int .i64 0, .int .i64 0, .int .i64 0, .int .i64 0, .int .i64 0, .int .i64 0, .int .i64 0, .int .i64 0, .int .i64 0, .int .i64 0, .slice none 0 0, .int .i64 0, .int .i64 0] 51)
 replace hia := hia.grows hq0
 replace hib := hib.grows hq0
 replace hD := hD.grows hq0
 replace k7 := k7.grows hq0
 replace hB := below_grows hB (Nat.le_refl _) hq0
 clear hq0 hIm
 iterate 1
  refine wpList_plain rfl (fun K hK => ?_)
  go_simp
  refine hK _ _ ?_
  clear hK K
 generalize hn9 : w7.heap.size = n9 at *
 generalize World.alloc w7 _ = w8 at *
 refine wpList_store_row rfl _ _ rfl rfl rfl rfl k9 (dinfo _) rfl (dv_one _) ?_
 replace hia := (hia.row (g := n9) (fun hb => absurd hb.2 (by omega)) (dvA Db)).mono (b2 := fun k => (g < k ∧ k ≠ n7 ∧ k ≠ n9)) (fun k hk => ⟨hk.1.1, hk.1.2, by have := hk.2; omega⟩)
 replace hib := (hib.row (g := n9) (fun hb => absurd hb.2 (by omega)) (dvA Db)).mono (b2 := fun k => (g < k ∧ k ≠ n7 ∧ k ≠ n9)) (fun k hk => ⟨hk.1.1, hk.1.2, by have := hk.2; omega⟩)
 replace hD := hD.grown (grown_row w8 n9 (dvA Db)) (fun p e => by injection e with e; omega)
 replace hB := below_row hB (show w.heap.size ≤ n9 by omega) (dvA Db)
 replace k7 := k7.row_far (cs' := dvA Db) (show n7 ≠ n9 by omega)
 replace k9 := k9.row (cs := dvA Db)
 generalize World.setRow w8 _ _ = w9 at *
 have z97 : n7 < w9.heap.size := k7.lt
 have z99 : n9 < w9.heap.size := k9.lt
 have z9D : g < w9.heap.size := hD.lt
 have hfa : ∀ w1, Grows w9 w1 → Calls Tryz.prog 15 #[.agg (brA Da)] w1 fun e w' => e = .returned (.int .i64 13) ∧ Grows w1 w' := fun w1 hg => dfill_any Da 13 _ w1 (hia.grows hg) (hma.ok (stD_ok (.inl rfl) hmp (p := 0) (by decide) (l := List.replicate (13 * mp.length) 0) (zeros_ok hm1 hm2 (by decide)))) (by obtain ⟨_, _, _, _, _, _, _, _, rfl⟩ := hma; exact zeros_ok hm1 hm2 (by decide)) (by obtain ⟨_, _, _, _, _, _, _, _, rfl⟩ := hma; exact (show 13 ≤ 37 by omega))
 have hfb : ∀ w1, Grows w9 w1 → Calls Tryz.prog 15 #[.agg (brA Db)] w1 fun e w' => e = .returned (.int .i64 13) ∧ Grows w1 w' := fun w1 hg => dfill_any Db 13 _ w1 (hib.grows hg) (hmb.ok (stD_ok (.inr rfl) hmp (p := 0) (by decide) (l := List.replicate (13 * mp.length) 0) (zeros_ok hm1 hm2 (by decide)))) (by obtain ⟨_, _, _, _, _, _, _, _, rfl⟩ := hmb; exact zeros_ok hm1 hm2 (by decide)) (by obtain ⟨_, _, _, _, _, _, _, _, rfl⟩ := hmb; exact (show 13 ≤ 37 by omega))
 have hg9 := Below.refl w9.heap.size w9
 go_upto_region 9 with fail
 obtain ⟨S, HI, HO⟩ := hideS fun (L : Ran) (vs : Nat → Value) (w' : World) => Below w.heap.size w w' ∧ Blk w' n7 51 (dvA Da) ∧ Blk w' n9 51 (dvA Db) ∧ Below w9.heap.size w9 w' ∧ (L 13 = true → ∃ G, vs 13 = .pointer (some ⟨G, 0, none⟩) ∧ (n7 < G ∧ n9 < G ∧ w9.heap.size ≤ G ∧ w.heap.size ≤ G) ∧ (L 14 = false → Blk w' G 60 #[.int .i64 0, .slice none 0 0]) ∧ (L 14 = true → ∃ C2, Blk w' G 60 #[.int .i64 (mp.length : Int), .slice C2 (26 * mp.length) (26 * mp.length)] ∧ OwnS w' w9.heap.size (.slice C2 (26 * mp.length) (26 * mp.length)) (List.replicate (26 * mp.length) 0))) ∧ (L 14 = true → L 13 = true) ∧ (L 9 = true → ∃ C, vs 9 = .tuple #[.agg #[.int .i64 (mp.length : Int), .slice C (26 * mp.length) (26 * mp.length)], .int .i64 0] ∧ OwnS w' w9.heap.size (.slice C (26 * mp.length) (26 * mp.length)) (List.replicate (26 * mp.length) 0)) ∧ (L 10 = true → ∃ C, vs 10 = .tuple #[.agg #[.int .i64 (mp.length : Int), .slice C (26 * mp.length) (26 * mp.length)], .int .i64 0] ∧ OwnS w' w9.heap.size (.slice C (26 * mp.length) (26 * mp.length)) (List.replicate (26 * mp.length) 0)) ∧ (L 11 = true → ∃ C, vs 11 = .agg #[.int .i64 (mp.length : Int), .slice C (26 * mp.length) (26 * mp.length)] ∧ OwnS w' w9.heap.size (.slice C (26 * mp.length) (26 * mp.length)) (List.replicate (26 * mp.length) 0)) ∧ KnS [some (.slice MA mp.length mc), some (.int .i64 (mp.length : Int)), some (.pointer (some ⟨n7, 17, none⟩)), some (.agg (brA Da)), some (.int .i64 13), some (.pointer (some ⟨n9, 17, none⟩)), some (.agg (brA Db)), some (.int .i64 13), some (.int .i64 26), none, none, none, some (.int .i64 0), none, some (undef), some (.int .i64 0)] L vs
 refine wp_region_genU S 130 (by kernel_rfl) (by kernel_rfl) rfl ?_ ?_
 ·exact HI.out _ _ _ ⟨hB.drew, k7.drew, k9.drew, hg9.drew, (fun e => by cases e), (fun e => by cases e), (fun e => by cases e), (fun e => by cases e), (fun e => by cases e), kn_none _ _⟩
 refine gen_consR (fun vs L w1 hL hw1 => ?_) ?_
 ·obtain ⟨h0, h1, h2, h3, g13, c13, d9, d10, d11, q⟩ := HO.out _ _ _ hw1
  refine gen_plain rfl ?_
  go_simp
  exact gr_val (HI.out _ _ _ ⟨h0, h1, h2, h3, (fun e => by obtain ⟨G, eG, hG, y0, y1⟩ := (g13 (upd_ne e (by decide))); exact ⟨G, eG, hG, fun e => (y0 (upd_ne e (by decide))), (fun e => by obtain ⟨C13, kb13, o13⟩ := (y1 (upd_ne e (by decide))); exact ⟨C13, kb13, o13⟩)⟩), fun e => (c13 (upd_ne e (by decide))), (fun e => by obtain ⟨C9, f9, o9⟩ := (d9 (upd_ne e (by decide))); exact ⟨C9, f9, o9⟩), (fun e => by obtain ⟨C10, f10, o10⟩ := (d10 (upd_ne e (by decide))); exact ⟨C10, f10, o10⟩), (fun e => by obtain ⟨C11, f11, o11⟩ := (d11 (upd_ne e (by decide))); exact ⟨C11, f11, o11⟩), kn_known q rfl⟩)
 refine gen_consR (fun vs L w1 hL hw1 => ?_) ?_
 ·obtain ⟨h0, h1, h2, h3, g13, c13, d9, d10, d11, q⟩ := HO.out _ _ _ hw1
  have l0 : L 0 = true := hL.need 0 (by kernel_rfl)
  have e0 := q 0 _ rfl l0
  refine gen_plain rfl ?_
  simp only [e0]
  go_simp
  exact gr_val (HI.out _ _ _ ⟨h0, h1, h2, h3, (fun e => by obtain ⟨G, eG, hG, y0, y1⟩ := (g13 (upd_ne e (by decide))); exact ⟨G, eG, hG, fun e => (y0 (upd_ne e (by decide))), (fun e => by obtain ⟨C13, kb13, o13⟩ := (y1 (upd_ne e (by decide))); exact ⟨C13, kb13, o13⟩)⟩), fun e => (c13 (upd_ne e (by decide))), (fun e => by obtain ⟨C9, f9, o9⟩ := (d9 (upd_ne e (by decide))); exact ⟨C9, f9, o9⟩), (fun e => by obtain ⟨C10, f10, o10⟩ := (d10 (upd_ne e (by decide))); exact ⟨C10, f10, o10⟩), (fun e => by obtain ⟨C11, f11, o11⟩ := (d11 (upd_ne e (by decide))); exact ⟨C11, f11, o11⟩), kn_known q rfl⟩)
 refine gen_consR (fun vs L w1 hL hw1 => ?_) ?_
 ·obtain ⟨h0, h1, h2, h3, g13, c13, d9, d10, d11, q⟩ := HO.out _ _ _ hw1
  refine gen_plain rfl ?_
  go_simp
  exact gr_val (HI.out _ _ _ ⟨h0, h1, h2, h3, (fun e => by obtain ⟨G, eG, hG, y0, y1⟩ := (g13 (upd_ne e (by decide))); exact ⟨G, eG, hG, fun e => (y0 (upd_ne e (by decide))), (fun e => by obtain ⟨C13, kb13, o13⟩ := (y1 (upd_ne e (by decide))); exact ⟨C13, kb13, o13⟩)⟩), fun e => (c13 (upd_ne e (by decide))), (fun e => by obtain ⟨C9, f9, o9⟩ := (d9 (upd_ne e (by decide))); exact ⟨C9, f9, o9⟩), (fun e => by obtain ⟨C10, f10, o10⟩ := (d10 (upd_ne e (by decide))); exact ⟨C10, f10, o10⟩), (fun e => by obtain ⟨C11, f11, o11⟩ := (d11 (upd_ne e (by decide))); exact ⟨C11, f11, o11⟩), kn_known q rfl⟩)
 refine gen_consR (fun vs L w1 hL hw1 => ?_) ?_
 ·obtain ⟨h0, h1, h2, h3, g13, c13, d9, d10, d11, q⟩ := HO.out _ _ _ hw1
  have l2 : L 2 = true := hL.need 2 (by kernel_rfl)
  have e2 := q 2 _ rfl l2
  refine gen_plain rfl ?_
  simp only [e2]
  refine gr_ldpart (cs := brA Da) (A := ⟨n7, 17, none⟩) _ rfl rfl (h1.part (br_part Da)) Tryz.underlying49 rfl brinfo ?_
  exact HI.out _ _ _ ⟨h0, h1, h2, h3, (fun e => by obtain ⟨G, eG, hG, y0, y1⟩ := (g13 (upd_ne e (by decide))); exact ⟨G, eG, hG, fun e => (y0 (upd_ne e (by decide))), (fun e => by obtain ⟨C13, kb13, o13⟩ := (y1 (upd_ne e (by decide))); exact ⟨C13, kb13, o13⟩)⟩), fun e => (c13 (upd_ne e (by decide))), (fun e => by obtain ⟨C9, f9, o9⟩ := (d9 (upd_ne e (by decide))); exact ⟨C9, f9, o9⟩), (fun e => by obtain ⟨C10, f10, o10⟩ := (d10 (upd_ne e (by decide))); exact ⟨C10, f10, o10⟩), (fun e => by obtain ⟨C11, f11, o11⟩ := (d11 (upd_ne e (by decide))); exact ⟨C11, f11, o11⟩), kn_known q rfl⟩
 refine gen_consR (fun vs L w1 hL hw1 => ?_) ?_
 ·obtain ⟨h0, h1, h2, h3, g13, c13, d9, d10, d11, q⟩ := HO.out _ _ _ hw1
  have l3 : L 3 = true := hL.need 3 (by kernel_rfl)
  have e3 := q 3 _ rfl l3
  refine gen_plain rfl ?_
  simp only [e3]
  go_simp
  refine gr_call ?_
  refine (hfa _ (show Grows w9 w1 from h3)).mono ?_
  rintro e wc ⟨rfl, hg⟩
  exact ⟨_, rfl, HI.out _ _ _ ⟨below_grows h0 (Nat.le_refl _) hg, h1.grows hg, h2.grows hg, below_grows h3 (Nat.le_refl _) hg, (fun e => by obtain ⟨G, eG, hG, y0, y1⟩ := (g13 (upd_ne e (by decide))); exact ⟨G, eG, hG, fun e => (y0 (upd_ne e (by decide))).grows hg, (fun e => by obtain ⟨C13, kb13, o13⟩ := (y1 (upd_ne e (by decide))); exact ⟨C13, kb13.grows hg, o13.grows hg⟩)⟩), fun e => (c13 (upd_ne e (by decide))), (fun e => by obtain ⟨C9, f9, o9⟩ := (d9 (upd_ne e (by decide))); exact ⟨C9, f9, o9.grows hg⟩), (fun e => by obtain ⟨C10, f10, o10⟩ := (d10 (upd_ne e (by decide))); exact ⟨C10, f10, o10.grows hg⟩), (fun e => by obtain ⟨C11, f11, o11⟩ := (d11 (upd_ne e (by decide))); exact ⟨C11, f11, o11.grows hg⟩), kn_known q rfl⟩⟩
 refine gen_consR (fun vs L w1 hL hw1 => ?_) ?_
 ·obtain ⟨h0, h1, h2, h3, g13, c13, d9, d10, d11, q⟩ := HO.out _ _ _ hw1
  refine gen_plain rfl ?_
  go_simp
  exact gr_val (HI.out _ _ _ ⟨h0, h1, h2, h3, (fun e => by obtain ⟨G, eG, hG, y0, y1⟩ := (g13 (upd_ne e (by decide))); exact ⟨G, eG, hG, fun e => (y0 (upd_ne e (by decide))), (fun e => by obtain ⟨C13, kb13, o13⟩ := (y1 (upd_ne e (by decide))); exact ⟨C13, kb13, o13⟩)⟩), fun e => (c13 (upd_ne e (by decide))), (fun e => by obtain ⟨C9, f9, o9⟩ := (d9 (upd_ne e (by decide))); exact ⟨C9, f9, o9⟩), (fun e => by obtain ⟨C10, f10, o10⟩ := (d10 (upd_ne e (by decide))); exact ⟨C10, f10, o10⟩), (fun e => by obtain ⟨C11, f11, o11⟩ := (d11 (upd_ne e (by decide))); exact ⟨C11, f11, o11⟩), kn_known q rfl⟩)
 refine gen_consR (fun vs L w1 hL hw1 => ?_) ?_
 ·obtain ⟨h0, h1, h2, h3, g13, c13, d9, d10, d11, q⟩ := HO.out _ _ _ hw1
  have l5 : L 5 = true := hL.need 5 (by kernel_rfl)
  have e5 := q 5 _ rfl l5
  refine gen_plain rfl ?_
  simp only [e5]
  refine gr_ldpart (cs := brA Db) (A := ⟨n9, 17, none⟩) _ rfl rfl (h2.part (br_part Db)) Tryz.underlying49 rfl brinfo ?_
  exact HI.out _ _ _ ⟨h0, h1, h2, h3, (fun e => by obtain ⟨G, eG, hG, y0, y1⟩ := (g13 (upd_ne e (by decide))); exact ⟨G, eG, hG, fun e => (y0 (upd_ne e (by decide))), (fun e => by obtain ⟨C13, kb13, o13⟩ := (y1 (upd_ne e (by decide))); exact ⟨C13, kb13, o13⟩)⟩), fun e => (c13 (upd_ne e (by decide))), (fun e => by obtain ⟨C9, f9, o9⟩ := (d9 (upd_ne e (by decide))); exact ⟨C9, f9, o9⟩), (fun e => by obtain ⟨C10, f10, o10⟩ := (d10 (upd_ne e (by decide))); exact ⟨C10, f10, o10⟩), (fun e => by obtain ⟨C11, f11, o11⟩ := (d11 (upd_ne e (by decide))); exact ⟨C11, f11, o11⟩), kn_known q rfl⟩
 refine gen_consR (fun vs L w1 hL hw1 => ?_) ?_
 ·obtain ⟨h0, h1, h2, h3, g13, c13, d9, d10, d11, q⟩ := HO.out _ _ _ hw1
  have l6 : L 6 = true := hL.need 6 (by kernel_rfl)
  have e6 := q 6 _ rfl l6
  refine gen_plain rfl ?_
  simp only [e6]
  go_simp
  refine gr_call ?_
  refine (hfb _ (show Grows w9 w1 from h3)).mono ?_
  rintro e wc ⟨rfl, hg⟩
  exact ⟨_, rfl, HI.out _ _ _ ⟨below_grows h0 (Nat.le_refl _) hg, h1.grows hg, h2.grows hg, below_grows h3 (Nat.le_refl _) hg, (fun e => by obtain ⟨G, eG, hG, y0, y1⟩ := (g13 (upd_ne e (by decide))); exact ⟨G, eG, hG, fun e => (y0 (upd_ne e (by decide))).grows hg, (fun e => by obtain ⟨C13, kb13, o13⟩ := (y1 (upd_ne e (by decide))); exact ⟨C13, kb13.grows hg, o13.grows hg⟩)⟩), fun e => (c13 (upd_ne e (by decide))), (fun e => by obtain ⟨C9, f9, o9⟩ := (d9 (upd_ne e (by decide))); exact ⟨C9, f9, o9.grows hg⟩), (fun e => by obtain ⟨C10, f10, o10⟩ := (d10 (upd_ne e (by decide))); exact ⟨C10, f10, o10.grows hg⟩), (fun e => by obtain ⟨C11, f11, o11⟩ := (d11 (upd_ne e (by decide))); exact ⟨C11, f11, o11.grows hg⟩), kn_known q rfl⟩⟩
 refine gen_consR (fun vs L w1 hL hw1 => ?_) ?_
 ·obtain ⟨h0, h1, h2, h3, g13, c13, d9, d10, d11, q⟩ := HO.out _ _ _ hw1
  have l4 : L 4 = true := hL.need 4 (by kernel_rfl)
  have e4 := q 4 _ rfl l4
  have l7 : L 7 = true := hL.need 7 (by kernel_rfl)
  have e7 := q 7 _ rfl l7
  refine gen_plain rfl ?_
  simp only [e4, e7]
  go_simp
  exact gr_val (HI.out _ _ _ ⟨h0, h1, h2, h3, (fun e => by obtain ⟨G, eG, hG, y0, y1⟩ := (g13 (upd_ne e (by decide))); exact ⟨G, eG, hG, fun e => (y0 (upd_ne e (by decide))), (fun e => by obtain ⟨C13, kb13, o13⟩ := (y1 (upd_ne e (by decide))); exact ⟨C13, kb13, o13⟩)⟩), fun e => (c13 (upd_ne e (by decide))), (fun e => by obtain ⟨C9, f9, o9⟩ := (d9 (upd_ne e (by decide))); exact ⟨C9, f9, o9⟩), (fun e => by obtain ⟨C10, f10, o10⟩ := (d10 (upd_ne e (by decide))); exact ⟨C10, f10, o10⟩), (fun e => by obtain ⟨C11, f11, o11⟩ := (d11 (upd_ne e (by decide))); exact ⟨C11, f11, o11⟩), kn_known q rfl⟩)
 refine gen_consR (fun vs L w1 hL hw1 => ?_) ?_
 ·obtain ⟨h0, h1, h2, h3, g13, c13, d9, d10, d11, q⟩ := HO.out _ _ _ hw1
  have l1 : L 1 = true := hL.need 1 (by kernel_rfl)
  have e1 := q 1 _ rfl l1
  have l8 : L 8 = true := hL.need 8 (by kernel_rfl)
  have e8 := q 8 _ rfl l8
  refine gen_plain rfl ?_
  simp only [e1, e8]
  go_simp
  refine gr_call ?_
  refine (r4silence_any mp.length 26 _ hm1 hm2 (by decide)).mono ?_
  rintro e wc ⟨⟨C, rfl, ho⟩, hg⟩
  replace ho := ho.mono (base' := w9.heap.size) h3.size
  exact ⟨_, rfl, HI.out _ _ _ ⟨below_grows h0 (Nat.le_refl _) hg, h1.grows hg, h2.grows hg, below_grows h3 (Nat.le_refl _) hg, (fun e => by obtain ⟨G, eG, hG, y0, y1⟩ := (g13 (upd_ne e (by decide))); exact ⟨G, eG, hG, fun e => (y0 (upd_ne e (by decide))).grows hg, (fun e => by obtain ⟨C13, kb13, o13⟩ := (y1 (upd_ne e (by decide))); exact ⟨C13, kb13.grows hg, o13.grows hg⟩)⟩), fun e => (c13 (upd_ne e (by decide))), (fun _ => ⟨C, rfl, ho⟩), (fun e => by obtain ⟨C10, f10, o10⟩ := (d10 (upd_ne e (by decide))); exact ⟨C10, f10, o10.grows hg⟩), (fun e => by obtain ⟨C11, f11, o11⟩ := (d11 (upd_ne e (by decide))); exact ⟨C11, f11, o11.grows hg⟩), kn_free q rfl⟩⟩
 refine gen_consR (fun vs L w1 hL hw1 => ?_) ?_
 ·obtain ⟨h0, h1, h2, h3, g13, c13, d9, d10, d11, q⟩ := HO.out _ _ _ hw1
  have l9 : L 9 = true := hL.need 9 (by kernel_rfl)
  obtain ⟨C, e9, ho⟩ := d9 l9
  refine gen_plain rfl ?_
  simp only [e9]
  go_simp
  exact gr_val (HI.out _ _ _ ⟨h0, h1, h2, h3, (fun e => by obtain ⟨G, eG, hG, y0, y1⟩ := (g13 (upd_ne e (by decide))); exact ⟨G, eG, hG, fun e => (y0 (upd_ne e (by decide))), (fun e => by obtain ⟨C13, kb13, o13⟩ := (y1 (upd_ne e (by decide))); exact ⟨C13, kb13, o13⟩)⟩), fun e => (c13 (upd_ne e (by decide))), (fun e => by obtain ⟨C9, f9, o9⟩ := (d9 (upd_ne e (by decide))); exact ⟨C9, f9, o9⟩), (fun _ => ⟨C, rfl, ho⟩), (fun e => by obtain ⟨C11, f11, o11⟩ := (d11 (upd_ne e (by decide))); exact ⟨C11, f11, o11⟩), kn_free q rfl⟩)
 refine gen_consR (fun vs L w1 hL hw1 => ?_) ?_
 ·obtain ⟨h0, h1, h2, h3, g13, c13, d9, d10, d11, q⟩ := HO.out _ _ _ hw1
  have l10 : L 10 = true := hL.need 10 (by kernel_rfl)
  obtain ⟨C, e10, ho⟩ := d10 l10
  refine gen_plain rfl ?_
  simp only [e10]
  go_simp
  exact gr_val (HI.out _ _ _ ⟨h0, h1, h2, h3, (fun e => by obtain ⟨G, eG, hG, y0, y1⟩ := (g13 (upd_ne e (by decide))); exact ⟨G, eG, hG, fun e => (y0 (upd_ne e (by decide))), (fun e => by obtain ⟨C13, kb13, o13⟩ := (y1 (upd_ne e (by decide))); exact ⟨C13, kb13, o13⟩)⟩), fun e => (c13 (upd_ne e (by decide))), (fun e => by obtain ⟨C9, f9, o9⟩ := (d9 (upd_ne e (by decide))); exact ⟨C9, f9, o9⟩), (fun e => by obtain ⟨C10, f10, o10⟩ := (d10 (upd_ne e (by decide))); exact ⟨C10, f10, o10⟩), (fun _ => ⟨C, rfl, ho⟩), kn_free q rfl⟩)
 refine gen_consR (fun vs L w1 hL hw1 => ?_) ?_
 ·obtain ⟨h0, h1, h2, h3, g13, c13, d9, d10, d11, q⟩ := HO.out _ _ _ hw1
  have l10 : L 10 = true := hL.need 10 (by kernel_rfl)
  obtain ⟨C, e10, ho⟩ := d10 l10
  refine gen_plain rfl ?_
  simp only [e10]
  go_simp
  exact gr_val (HI.out _ _ _ ⟨h0, h1, h2, h3, (fun e => by obtain ⟨G, eG, hG, y0, y1⟩ := (g13 (upd_ne e (by decide))); exact ⟨G, eG, hG, fun e => (y0 (upd_ne e (by decide))), (fun e => by obtain ⟨C13, kb13, o13⟩ := (y1 (upd_ne e (by decide))); exact ⟨C13, kb13, o13⟩)⟩), fun e => (c13 (upd_ne e (by decide))), (fun e => by obtain ⟨C9, f9, o9⟩ := (d9 (upd_ne e (by decide))); exact ⟨C9, f9, o9⟩), (fun e => by obtain ⟨C10, f10, o10⟩ := (d10 (upd_ne e (by decide))); exact ⟨C10, f10, o10⟩), (fun e => by obtain ⟨C11, f11, o11⟩ := (d11 (upd_ne e (by decide))); exact ⟨C11, f11, o11⟩), kn_known q rfl⟩)
 refine gen_consR (fun vs L w1 hL hw1 => ?_) ?_
 ·obtain ⟨h0, h1, h2, h3, g13, c13, d9, d10, d11, q⟩ := HO.out _ _ _ hw1
  refine gen_plain rfl ?_
  have hg : Grows w1 (w1.alloc (Obj.cells #[.int .i64 0, .slice none 0 0] 60)) := (Below.refl w1.heap.size w1).alloc (Nat.le_refl _) _
  go_simp
  exact gr_val (HI.out _ _ _ ⟨below_grows h0 (Nat.le_refl _) hg, h1.grows hg, h2.grows hg, below_grows h3 (Nat.le_refl _) hg, fun _ => ⟨w1.heap.size, rfl, (by have zh1 := h1.lt; have zh2 := h2.lt; have zh3 := h3.size; have zz := h0.size; omega), fun _ => Blk.new w1 60 #[.int .i64 0, .slice none 0 0], (fun e => by have := (c13 (upd_ne e (by decide))); rw [hL.1] at this; cases this)⟩, fun _ => upd_eq, (fun e => by obtain ⟨C9, f9, o9⟩ := (d9 (upd_ne e (by decide))); exact ⟨C9, f9, o9.grows hg⟩), (fun e => by obtain ⟨C10, f10, o10⟩ := (d10 (upd_ne e (by decide))); exact ⟨C10, f10, o10.grows hg⟩), (fun e => by obtain ⟨C11, f11, o11⟩ := (d11 (upd_ne e (by decide))); exact ⟨C11, f11, o11.grows hg⟩), kn_free q rfl⟩)
 refine gen_consR (fun vs L w1 hL hw1 => ?_) ?_
 ·obtain ⟨h0, h1, h2, h3, g13, c13, d9, d10, d11, q⟩ := HO.out _ _ _ hw1
  have l11 : L 11 = true := hL.need 11 (by kernel_rfl)
  have l13 : L 13 = true := hL.need 13 (by kernel_rfl)
  obtain ⟨C, e11, ho⟩ := d11 l11
  obtain ⟨G, eG, hG, y0, y1⟩ := g13 (hL.need 13 (by kernel_rfl))
  refine gen_plain rfl ?_
  simp only [e11, eG]
  have kk := y0 hL.1
  refine gr_strow (cs := #[.int .i64 (mp.length : Int), .slice C (26 * mp.length) (26 * mp.length)]) _ _ rfl rfl rfl kk b60info rfl (by simp [Value.oneCell']) ?_
  have hnew : ∃ C2, Blk (w1.setRow G #[.int .i64 (mp.length : Int), .slice C (26 * mp.length) (26 * mp.length)]) G 60 #[.int .i64 (mp.length : Int), .slice C2 (26 * mp.length) (26 * mp.length)] ∧ OwnS (w1.setRow G #[.int .i64 (mp.length : Int), .slice C (26 * mp.length) (26 * mp.length)]) w9.heap.size (.slice C2 (26 * mp.length) (26 * mp.length)) (List.replicate (26 * mp.length) 0) := ⟨C, kk.row, ho.row kk (by decide) _⟩
  exact HI.out _ _ _ ⟨below_row h0 (g := G) (by omega) _, h1.row_far (by omega), h2.row_far (by omega), below_row h3 (by omega) _, fun _ => ⟨G, eG, hG, (fun e => by rw [upd_eq] at e; cases e), fun _ => hnew⟩, fun _ => (show L 13 = true from hL.need 13 (by kernel_rfl)), (fun e => by obtain ⟨C9, f9, o9⟩ := (d9 (upd_ne e (by decide))); exact ⟨C9, f9, o9.row kk (by decide) _⟩), (fun e => by obtain ⟨C10, f10, o10⟩ := (d10 (upd_ne e (by decide))); exact ⟨C10, f10, o10.row kk (by decide) _⟩), (fun e => by obtain ⟨C11, f11, o11⟩ := (d11 (upd_ne e (by decide))); exact ⟨C11, f11, o11.row kk (by decide) _⟩), kn_known q rfl⟩
 refine gen_consR (fun vs L w1 hL hw1 => ?_) ?_
 ·obtain ⟨h0, h1, h2, h3, g13, c13, d9, d10, d11, q⟩ := HO.out _ _ _ hw1
  have l12 : L 12 = true := hL.need 12 (by kernel_rfl)
  have e12 := q 12 _ rfl l12
  refine gen_plain rfl ?_
  simp only [e12]
  go_simp
  exact gr_val (HI.out _ _ _ ⟨h0, h1, h2, h3, (fun e => by obtain ⟨G, eG, hG, y0, y1⟩ := (g13 (upd_ne e (by decide))); exact ⟨G, eG, hG, fun e => (y0 (upd_ne e (by decide))), (fun e => by obtain ⟨C13, kb13, o13⟩ := (y1 (upd_ne e (by decide))); exact ⟨C13, kb13, o13⟩)⟩), fun e => (c13 (upd_ne e (by decide))), (fun e => by obtain ⟨C9, f9, o9⟩ := (d9 (upd_ne e (by decide))); exact ⟨C9, f9, o9⟩), (fun e => by obtain ⟨C10, f10, o10⟩ := (d10 (upd_ne e (by decide))); exact ⟨C10, f10, o10⟩), (fun e => by obtain ⟨C11, f11, o11⟩ := (d11 (upd_ne e (by decide))); exact ⟨C11, f11, o11⟩), kn_known q rfl⟩)
 refine gen_nil ?_
 intro vs L w10 hall hS
 obtain ⟨h0, h1, h2, h3, g13, c13, d9, d10, d11, q⟩ := HO.out _ _ _ hS
 obtain ⟨G13, eG13, hG13, -, kG13⟩ := g13 (hall 13 (by simp))
 replace kG13 := kG13 (hall 14 (by simp))
 have e0 := q 0 _ rfl (hall 0 (by simp))
 have e1 := q 1 _ rfl (hall 1 (by simp))
 have e2 := q 2 _ rfl (hall 2 (by simp))
 have e3 := q 3 _ rfl (hall 3 (by simp))
 have e4 := q 4 _ rfl (hall 4 (by simp))
 have e5 := q 5 _ rfl (hall 5 (by simp))
 have e6 := q 6 _ rfl (hall 6 (by simp))
 have e7 := q 7 _ rfl (hall 7 (by simp))
 have e8 := q 8 _ rfl (hall 8 (by simp))
 have e12 := q 12 _ rfl (hall 12 (by simp))
 have e15 := q 15 _ rfl (hall 15 (by simp))
 clear hall hS HI HO q g13 c13 d9 d10 d11
 simp only [e0, e1, e2, e3, e4, e5, e6, e7, e8, e12, e15, eG13]
 clear e0 e1 e2 e3 e4 e5 e6 e7 e8 e12 e15
 generalize vs (0 + 1 + 1 + 1 + 1 + 1 + 1 + 1 + 1 + 1) = yv9
 generalize vs (0 + 1 + 1 + 1 + 1 + 1 + 1 + 1 + 1 + 1 + 1) = yv10
 generalize vs (0 + 1 + 1 + 1 + 1 + 1 + 1 + 1 + 1 + 1 + 1 + 1) = yv11
 clear eG13 vs
 obtain ⟨Cw, k11, ow⟩ := kG13
 have z7 := h1.lt
 have z9 := h2.lt
 have z11 := k11.lt
 have hsw := (ow.sabne (own_blk_ne ow k11 (by decide)))
 replace hia := hia.bd.grows (show Grows w9 w10 from h3)
 replace hib := hib.bd.grows (show Grows w9 w10 from h3)
 replace hD := hD.grows (show Grows w9 w10 from h3)
 have zw9 := h3.size
 have zwD := hD.lt
 clear ow k7 k9 hB hg9 h3 hfa hfb
 have hB := h0
 have k7 := h1
 have k9 := h2
 clear h0 h1 h2
 generalize G13 = n11 at *
 obtain ⟨WL, hWL⟩ : ∃ WL, WL = List.replicate (26 * mp.length) (0 : Int) := ⟨_, rfl⟩
 have hlw : 26 * mp.length = WL.length := by rw [hWL, List.length_replicate]
 rw [hlw] at k11
 rw [← hWL] at hsw
 have HWL : Hid (WL = List.replicate (26 * mp.length) 0 ++ []) := Lib.hid (by rw [hWL, List.append_nil])
 clear hWL hlw
 go_upto_region 11 with fail
 have k13 := Blk.new w10 60 #[.int .i64 (mp.length : Int), .slice none 0 0]
 have hq0 := (Below.refl w10.heap.size w10).alloc (Nat.le_refl _) (Obj.cells #[.int .i64 (mp.length : Int), .slice none 0 0] 60)
 have hsw2 := (RdB.bd hsw).grows hq0
 replace hia := hia.bd.grows hq0
 replace hib := hib.bd.grows hq0
 replace hD := hD.grows hq0
 replace k7 := k7.grows hq0
 replace k9 := k9.grows hq0
 replace k11 := k11.grows hq0
 replace hB := below_grows hB (Nat.le_refl _) hq0
 clear hq0 hsw
 generalize hn13 : w10.heap.size = n13 at *
 generalize World.alloc w10 _ = w11 at *
 replace hia := hia.mono (b2 := (fun k => (k ≠ n7 ∧ k ≠ n9 ∧ k ≠ n11 ∧ k ≠ n13) ∧ g < k)) (fun k hk => by have h1 := hk.1.1; have h2 := hk.1.2; have h3 := hk.2; exact ⟨⟨h1.2.1, h1.2.2, by omega, by omega⟩, h1.1⟩)
 replace hib := hib.mono (b2 := (fun k => (k ≠ n7 ∧ k ≠ n9 ∧ k ≠ n11 ∧ k ≠ n13) ∧ g < k)) (fun k hk => by have h1 := hk.1.1; have h2 := hk.1.2; have h3 := hk.2; exact ⟨⟨h1.2.1, h1.2.2, by omega, by omega⟩, h1.1⟩)
 have hsw : SaB w11 (fun k => (k ≠ n7 ∧ k ≠ n9 ∧ k ≠ n11 ∧ k ≠ n13) ∧ g < k) Cw WL := RdB.mono hsw2 (fun k hk => by have h1 := hk.1.1; have h2 := hk.1.2; have h3 := hk.2; exact ⟨⟨by omega, by omega, h2, by omega⟩, by omega⟩)
 have hgn : g < n7 ∧ g < n9 ∧ g < n11 ∧ g < n13 := ⟨by omega, by omega, by omega, by omega⟩
 have hnn : n7 < n9 ∧ n9 < n11 ∧ n11 < n13 := ⟨by omega, by omega, by omega⟩
 have hwg : w.heap.size ≤ g := by omega
 clear hsw2 z97 z99 z9D zw9 zwD z7 z9 z11
 have H1 := Lib.hid (QuI.zero hm1 hm2)
 have H2 := Lib.hid (QuI.zero hm1 hm2)
 have MV1 : Hid (MovDv (stD 1 mp (16 * ((0 : Nat) : Int)) (List.replicate (13 * mp.length) 0)) Da) := Lib.hid hma
 have MV2 : Hid (MovDv (stD 2 mp (16 * ((0 : Nat) : Int)) (List.replicate (13 * mp.length) 0)) Db) := Lib.hid hmb
 have hsz : SaB w11 (fun k => (k ≠ n7 ∧ k ≠ n9 ∧ k ≠ n11 ∧ k ≠ n13) ∧ g < k) none [] := RdB.nil
 clear hma hmb
 go_wp2_with fail
 go_loopw [14] (fun i wr => ∃ (k : Nat) (X Y Z la lb : List Int) (Da Db : Dv) (Cw Co : Option Addr) (cw co : Nat) (WL : List Int), (k : Int) ≤ q % 14 ∧ i = .int .i64 (k : Int) ∧ Hid (QuI mp.length k X Y la) ∧ Hid (QuI mp.length k Y Z lb) ∧ Hid (MovDv (stD 1 mp (16 * (k : Int)) la) Da) ∧ Hid (MovDv (stD 2 mp (16 * (k : Int)) lb) Db) ∧ InDv wr (fun k => (k ≠ n7 ∧ k ≠ n9 ∧ k ≠ n11 ∧ k ≠ n13) ∧ g < k) Da ∧ InDv wr (fun k => (k ≠ n7 ∧ k ≠ n9 ∧ k ≠ n11 ∧ k ≠ n13) ∧ g < k) Db ∧ Blk wr n7 51 (dvA Da) ∧ Blk wr n9 51 (dvA Db) ∧ Hid (WL = List.replicate (26 * mp.length) 0 ++ X) ∧ Blk wr n11 60 #[.int .i64 (mp.length : Int), .slice Cw WL.length cw] ∧ WL.length ≤ cw ∧ SaB wr (fun k => (k ≠ n7 ∧ k ≠ n9 ∧ k ≠ n11 ∧ k ≠ n13) ∧ g < k) Cw WL ∧ Blk wr n13 60 #[.int .i64 (mp.length : Int), .slice Co Z.length co] ∧ Z.length ≤ co ∧ SaB wr (fun k => (k ≠ n7 ∧ k ≠ n9 ∧ k ≠ n11 ∧ k ≠ n13) ∧ g < k) Co Z ∧ DR wr w.heap.size g ∧ Below w.heap.size w wr) (fun i _ => 14 - (intOf i).toNat)
 case atStart => exact ⟨0, [], [], [], _, _, Da, Db, Cw, none, _, 0, WL, by omega, rfl, H1, H2, MV1, MV2, hia, hib, k7, k9, HWL, k11, Nat.le_refl _, hsw, k13, Nat.le_refl _, hsz, hD, hB⟩
 case round =>
  clear H1 H2 MV1 MV2 hia hib k7 k9 HWL k11 hsw k13 hsz hD hB
  rename World => w12
  obtain ⟨k, X, Y, Z, la, lb, Da, Db, Cw, Co, cw, co, WL, hk, rfl, H1, H2, MV1, MV2, hia, hib, k7, k9, HWL, k11, hcw, hsw, k13, hco, hsz, hD, hB⟩ := hrel
  have hk13 : k ≤ 13 := by omega
  by_cases hlt : (k : Int) < q % 14
  ·have d0 : decide ((k : Int) < q % 14) = true := by simp only [decide_eq_true_iff]; exact hlt
   go_upto_region 14 with fail
   refine wp_region_lit ?_
   iterate 3
    refine wpList_plain rfl (fun K hK => ?_)
    go_simp
    refine hK _ _ ?_
    clear hK K
   refine wpList_plain rfl (fun K hK => ?_)
   go_simp
   refine (mblock_any w.heap.size g mp.length hm1 hm2 _ hD).mono ?_
   rintro e w13 ⟨⟨x, A15, c15, rfl, hx, hc15, ox⟩, hD, hgr⟩
   refine hK _ _ ?_
   clear hK K
   have hx0 : 0 < x.length := by rw [hx.len]; omega
   obtain ⟨S15, rfl⟩ := ox.some_ hx0
   have z7 := k7.lt
   have z13 := k13.lt
   replace hia := (hia.grown hgr (fun p e => by injection e with e; subst e; intro hs; have := hs.2; omega)).bd
   replace hib := (hib.grown hgr (fun p e => by injection e with e; subst e; intro hs; have := hs.2; omega)).bd
   replace hsw : RdB _ _ 1 Cw WL.length (WL.map (Value.int .i32)) := RdB.bd (RdB.grown hsw hgr (fun p e => by injection e with e; subst e; intro hs; have := hs.2; omega))
   replace hsz : RdB _ _ 1 Co Z.length (Z.map (Value.int .i32)) := RdB.bd (RdB.grown hsz hgr (fun p e => by injection e with e; subst e; intro hs; have := hs.2; omega))
   have sx : RdB _ _ 1 (some S15) x.length (x.map (Value.int .i32)) := RdB.bd (SaB.of_own ox (fun k hk => hk))
   have hzg := hgr.size
   replace k7 := k7.grown hgr (fun e => by injection e with e; omega)
   replace k9 := k9.grown hgr (fun e => by injection e with e; omega)
   replace k11 := k11.grown hgr (fun e => by injection e with e; omega)
   replace k13 := k13.grown hgr (fun e => by injection e with e; omega)
   replace hB := hB.grown hgr hB.size (fun p e => by injection e with e; omega)
   clear hgr ox
   have k15 := Blk.new w13 60 #[.int .i64 0, .slice none 0 0]
   have hq0 := (Below.refl w13.heap.size w13).alloc (Nat.le_refl _) (Obj.cells #[.int .i64 0, .slice none 0 0] 60)
   replace hia := hia.grows hq0
   replace hib := hib.grows hq0
   replace hD := hD.grows hq0
   replace k7 := k7.grows hq0
   replace k9 := k9.grows hq0
   replace k11 := k11.grows hq0
   replace k13 := k13.grows hq0
   replace hsw := RdB.grows hsw hq0
   replace hsz := RdB.grows hsz hq0
   replace sx := RdB.grows sx hq0
   replace hB := below_grows hB (Nat.le_refl _) hq0
   clear hq0
   iterate 1
    refine wpList_plain rfl (fun K hK => ?_)
    go_simp
    refine hK _ _ ?_
    clear hK K
   generalize hn15 : w13.heap.size = n15 at *
   generalize World.alloc w13 _ = w14 at *
   have hw15 : w.heap.size ≤ n15 := by omega
   refine wpList_store_row rfl _ _ rfl rfl rfl rfl k15 b60info rfl (by simp [Value.oneCell']) ?_
   replace k7 := k7.row_far (cs' := #[.int .i64 (mp.length : Int), .slice (some S15) x.length c15]) (show n7 ≠ n15 by omega)
   replace k9 := k9.row_far (cs' := #[.int .i64 (mp.length : Int), .slice (some S15) x.length c15]) (show n9 ≠ n15 by omega)
   replace k11 := k11.row_far (cs' := #[.int .i64 (mp.length : Int), .slice (some S15) x.length c15]) (show n11 ≠ n15 by omega)
   replace k13 := k13.row_far (cs' := #[.int .i64 (mp.length : Int), .slice (some S15) x.length c15]) (show n13 ≠ n15 by omega)
   replace hia := hia.row (g := n15) (fun hb => absurd hb.2 (by omega)) (#[.int .i64 (mp.length : Int), .slice (some S15) x.length c15])
   replace hib := hib.row (g := n15) (fun hb => absurd hb.2 (by omega)) (#[.int .i64 (mp.length : Int), .slice (some S15) x.length c15])
   replace hsw := hsw.row (g := n15) (fun hb => absurd hb.2 (by omega)) (#[.int .i64 (mp.length : Int), .slice (some S15) x.length c15])
   replace hsz := hsz.row (g := n15) (fun hb => absurd hb.2 (by omega)) (#[.int .i64 (mp.length : Int), .slice (some S15) x.length c15])
   replace sx := sx.row (g := n15) (fun hb => absurd hb.2 (by omega)) (#[.int .i64 (mp.length : Int), .slice (some S15) x.length c15])
   replace hD := hD.row (q := n15) (fun hb => by have := hb.1; omega) (#[.int .i64 (mp.length : Int), .slice (some S15) x.length c15])
   replace k15 := k15.row (cs := #[.int .i64 (mp.length : Int), .slice (some S15) x.length c15])
   replace hB := below_row hB (show w.heap.size ≤ n15 by omega) (#[.int .i64 (mp.length : Int), .slice (some S15) x.length c15])
   generalize World.setRow w14 _ _ = w15 at *
   have z15w : n15 < w15.heap.size := k15.lt
   have wk16 : IntKind.i64.wrap (16 * (k : Int)) = 16 * (k : Int) := IntWalk.i64_in _ (by omega)
   have wk32 : IntKind.i64.wrap (16 * (k : Int) + 16) = 16 * (k : Int) + 16 := IntWalk.i64_in _ (by omega)
   have hx29 : (la ++ x).length = 29 * mp.length := by rw [List.length_append, H1.out.l.len, hx.len]; omega
   have H1b := Lib.hid (H1.out.next (by omega) hx)
   have hy : BlkOk mp.length 16 ((la ++ x).take (16 * mp.length)) := (H1.out.l.app hx (by omega)).sub (fun y hy => List.mem_of_mem_take hy) (by rw [List.length_take, hx29]; omega) (by omega)
   go_upto_region 15 with fail
   refine wp_region_lit ?_
   refine wpList_load_row rfl _ rfl rfl k7 Tryz.underlying51 rfl (dinfo _) ?_
   refine wpList_load_row rfl _ rfl rfl k15 Tryz.underlying60 rfl b60info ?_
   refine wpList_plain rfl (fun K hK => ?_)
   go_simp
   refine hK _ _ ?_
   clear hK K
   refine wpList_plain rfl (fun K hK => ?_)
   go_simp
   refine hK _ _ ?_
   clear hK K
   refine wpList_plain rfl (fun K hK => ?_)
   go_simp
   refine hK _ _ ?_
   clear hK K
   refine wpList_plain rfl (fun K hK => ?_)
   go_simp
   refine hK _ _ ?_
   clear hK K
   refine wpList_plain rfl (fun K hK => ?_)
   go_simp
   refine hK _ _ ?_
   clear hK K
   refine wpList_plain rfl (fun K hK => ?_)
   go_simp
   refine (play_steady hmp Da _ S15 c15 x la (16 * (k : Int)) (16 * (k : Int)) _ MV1.out hia (by omega) (by omega) H1.out.l hx sx.1 hc15).mono ?_
   rintro e w16 ⟨⟨Bz, bz, Da2, rfl, MV1b, ry, hbz, hia2⟩, hq⟩
   refine hK _ _ ?_
   clear hK K
   replace k7 := k7.grows hq
   replace k9 := k9.grows hq
   replace k11 := k11.grows hq
   replace k13 := k13.grows hq
   replace k15 := k15.grows hq
   replace hia := hia.grows hq
   replace hib := hib.grows hq
   replace hD := hD.grows hq
   replace hB := below_grows hB (Nat.le_refl _) hq
   replace hsw := RdB.grows hsw hq
   replace hsz := RdB.grows hsz hq
   replace sx := RdB.grows sx hq
   have hqs := hq.size
   clear hq
   clear hia
   refine wpList_plain rfl (fun K hK => ?_)
   go_simp
   refine hK _ _ ?_
   clear hK K
   refine wpList_plain rfl (fun K hK => ?_)
   go_simp
   refine hK _ _ ?_
   clear hK K
   refine wpList_plain rfl (fun K hK => ?_)
   go_simp
   refine hK _ _ ?_
   clear hK K
   refine wpList_plain rfl (fun K hK => ?_)
   go_simp
   refine hK _ _ ?_
   clear hK K
   refine wpList_plain rfl (fun K hK => ?_)
   go_simp
   refine hK _ _ ?_
   clear hK K
   refine wpList_plain rfl (fun K hK => ?_)
   go_simp
   refine hK _ _ ?_
   clear hK K
   have HY := Lib.hid hy
   replace MV1b := Lib.hid MV1b
   have hyl : Hid (16 * mp.length = ((la ++ x).take (16 * mp.length)).length) := Lib.hid hy.len.symm
   clear hy hx29 MV1
   generalize (la ++ x).take (16 * mp.length) = y at *
   generalize (la ++ x).drop (16 * mp.length) = la2 at *
   have z15 := k15.lt
   have z16b : n15 < w16.heap.size := z15
   have k16 := (Blk.new w16 60 #[.int .i64 0, .slice none 0 0]).alloc (Obj.cells #[.int .u64 0, .string ⟨#[]⟩, .int .i64 0, .int .i64 0, .int .i64 0, .int .i64 0, .int .i64 0, .slice none 0 0, .int .i64 0, .int .i64 0, .slice none 0 0, .int .i64 0, .int .i64 0, .int .i64 0, .slice none 0 0, .bool false, .int .i64 0, .int .i64 0, .int .i64 0, .int .i64 0, .int .i64 0, .int .i64 0, .int .i64 0, .int .i64 0, .int .i64 0, .int .i64 0, .int .i64 0, .int .i64 0, .slice none 0 0, .int .i64 0, .int .i64 0] 51)
   have k19 := blk_new_at (X := w16.alloc (Obj.cells #[.int .i64 0, .slice none 0 0] 60)) (n := w16.heap.size + 1) (t := 51) (cs := #[.int .u64 0, .string ⟨#[]⟩, .int .i64 0, .int .i64 0, .int .i64 0, .int .i64 0, .int .i64 0, .slice none 0 0, .int .i64 0, .int .i64 0, .slice none 0 0, .int .i64 0, .int .i64 0, .int .i64 0, .slice none 0 0, .bool false, .int .i64 0, .int .i64 0, .int .i64 0, .int .i64 0, .int .i64 0, .int .i64 0, .int .i64 0, .int .i64 0, .int .i64 0, .int .i64 0, .int .i64 0, .int .i64 0, .slice none 0 0, .int .i64 0, .int .i64 0]) (by simp)
   have hq0 := ((Below.refl w16.heap.size w16).alloc (Nat.le_refl _) (Obj.cells #[.int .i64 0, .slice none 0 0] 60)).alloc (by simp) (Obj.cells #[.int .u64 0, .string ⟨#[]⟩, .int .i64 0, .int .i64 0, .int .i64 0, .int .i64 0, .int .i64 0, .slice none 0 0, .int .i64 0, .int .i64 0, .slice none 0 0, .int .i64 0, .int .i64 0, .int .i64 0, .slice none 0 0, .bool false, .int .i64 0, .int .i64 0, .int .i64 0, .int .i64 0, .int .i64 0, .int .i64 0, .int .i64 0, .int .i64 0, .int .i64 0, .int .i64 0, .int .i64 0, .int .i64 0, .slice none 0 0, .int .i64 0, .int .i64 0] 51)
   replace hia2 := hia2.bd.grows hq0
   replace hib := hib.bd.grows hq0
   have hswn := (RdB.bd hsw).grows hq0
   clear hsw
   have hsw := hswn
   clear hswn
   have hszn := (RdB.bd hsz).grows hq0
   clear hsz
   have hsz := hszn
   clear hszn
   have sxn := (RdB.bd sx).grows hq0
   clear sx
   have sx := sxn
   clear sxn
   have ryn := (RdB.bd ry).grows hq0
   clear ry
   have ry := ryn
   clear ryn
   replace hD := hD.grows hq0
   replace k7 := k7.grows hq0
   replace k9 := k9.grows hq0
   replace k11 := k11.grows hq0
   replace k13 := k13.grows hq0
   replace k15 := k15.grows hq0
   have hwz := hB.size
   replace hB := below_grows hB (Nat.le_refl _) hq0
   clear hq0
   iterate 2
    refine wpList_plain rfl (fun K hK => ?_)
    go_simp
    refine hK _ _ ?_
    clear hK K
   generalize hn16 : w16.heap.size = n16 at *
   generalize hn19 : n16 + 1 = n19 at *
   generalize World.alloc (World.alloc w16 _) _ = w17 at *
   refine wpList_store_row rfl _ _ rfl rfl rfl rfl k16 b60info rfl (by simp [Value.oneCell']) ?_
   replace k7 := k7.row_far (cs' := #[.int .i64 (mp.length : Int), .slice Bz (16 * mp.length) bz]) (show n7 ≠ n16 by omega)
   replace k9 := k9.row_far (cs' := #[.int .i64 (mp.length : Int), .slice Bz (16 * mp.length) bz]) (show n9 ≠ n16 by omega)
   replace k11 := k11.row_far (cs' := #[.int .i64 (mp.length : Int), .slice Bz (16 * mp.length) bz]) (show n11 ≠ n16 by omega)
   replace k13 := k13.row_far (cs' := #[.int .i64 (mp.length : Int), .slice Bz (16 * mp.length) bz]) (show n13 ≠ n16 by omega)
   replace k15 := k15.row_far (cs' := #[.int .i64 (mp.length : Int), .slice Bz (16 * mp.length) bz]) (show n15 ≠ n16 by omega)
   replace k19 := k19.row_far (cs' := #[.int .i64 (mp.length : Int), .slice Bz (16 * mp.length) bz]) (show n19 ≠ n16 by omega)
   replace hia2 := hia2.row (g := n16) (fun hb => absurd hb.2 (by omega)) (#[.int .i64 (mp.length : Int), .slice Bz (16 * mp.length) bz])
   replace hib := hib.row (g := n16) (fun hb => absurd hb.2 (by omega)) (#[.int .i64 (mp.length : Int), .slice Bz (16 * mp.length) bz])
   replace hsw := hsw.row (g := n16) (fun hb => absurd hb.2 (by omega)) (#[.int .i64 (mp.length : Int), .slice Bz (16 * mp.length) bz])
   replace hsz := hsz.row (g := n16) (fun hb => absurd hb.2 (by omega)) (#[.int .i64 (mp.length : Int), .slice Bz (16 * mp.length) bz])
   replace sx := sx.row (g := n16) (fun hb => absurd hb.2 (by omega)) (#[.int .i64 (mp.length : Int), .slice Bz (16 * mp.length) bz])
   replace ry := ry.row (g := n16) (fun hb => absurd hb.2 (by omega)) (#[.int .i64 (mp.length : Int), .slice Bz (16 * mp.length) bz])
   replace hD := hD.row (q := n16) (fun hb => by have := hb.1; omega) (#[.int .i64 (mp.length : Int), .slice Bz (16 * mp.length) bz])
   replace k16 := k16.row (cs := #[.int .i64 (mp.length : Int), .slice Bz (16 * mp.length) bz])
   replace hB := below_row hB (show w.heap.size ≤ n16 by omega) (#[.int .i64 (mp.length : Int), .slice Bz (16 * mp.length) bz])
   generalize World.setRow w17 _ _ = w18 at *
   iterate 2
    refine wpList_plain rfl (fun K hK => ?_)
    go_simp
    refine hK _ _ ?_
    clear hK K
   refine wpList_store_row rfl _ _ rfl rfl rfl rfl k19 (dinfo _) rfl (dv_one _) ?_
   replace k7 := k7.row_far (cs' := (dvA Da2)) (show n7 ≠ n19 by omega)
   replace k9 := k9.row_far (cs' := (dvA Da2)) (show n9 ≠ n19 by omega)
   replace k11 := k11.row_far (cs' := (dvA Da2)) (show n11 ≠ n19 by omega)
   replace k13 := k13.row_far (cs' := (dvA Da2)) (show n13 ≠ n19 by omega)
   replace k15 := k15.row_far (cs' := (dvA Da2)) (show n15 ≠ n19 by omega)
   replace k16 := k16.row_far (cs' := (dvA Da2)) (show n16 ≠ n19 by omega)
   replace hia2 := hia2.row (g := n19) (fun hb => absurd hb.2 (by omega)) ((dvA Da2))
   replace hib := hib.row (g := n19) (fun hb => absurd hb.2 (by omega)) ((dvA Da2))
   replace hsw := hsw.row (g := n19) (fun hb => absurd hb.2 (by omega)) ((dvA Da2))
   replace hsz := hsz.row (g := n19) (fun hb => absurd hb.2 (by omega)) ((dvA Da2))
   replace sx := sx.row (g := n19) (fun hb => absurd hb.2 (by omega)) ((dvA Da2))
   replace ry := ry.row (g := n19) (fun hb => absurd hb.2 (by omega)) ((dvA Da2))
   replace hD := hD.row (q := n19) (fun hb => by have := hb.1; omega) ((dvA Da2))
   replace k19 := k19.row (cs := (dvA Da2))
   replace hB := below_row hB (show w.heap.size ≤ n19 by omega) ((dvA Da2))
   generalize World.setRow w18 _ _ = w19 at *
   have z19w : n19 < w19.heap.size := k19.lt
   rw [hyl.out] at k16 hbz
   have hy0 : 0 < y.length := by rw [← hyl.out]; omega
   obtain ⟨S16, rfl⟩ := SaB.some_ ry hy0
   have H2b := Lib.hid (H2.out.next (by omega) HY.out)
   have hz29 : (lb ++ y).length = 29 * mp.length := by rw [List.length_append, H2.out.l.len, HY.out.len]; omega
   have hz : BlkOk mp.length 16 ((lb ++ y).take (16 * mp.length)) := (H2.out.l.app HY.out (by omega)).sub (fun y hy => List.mem_of_mem_take hy) (by rw [List.length_take, hz29]; omega) (by omega)
   go_upto_region 16 with fail
   refine wp_region_lit ?_
   refine wpList_load_row rfl _ rfl rfl k9 Tryz.underlying51 rfl (dinfo _) ?_
   refine wpList_load_row rfl _ rfl rfl k16 Tryz.underlying60 rfl b60info ?_
   refine wpList_plain rfl (fun K hK => ?_)
   go_simp
   refine hK _ _ ?_
   clear hK K
   refine wpList_plain rfl (fun K hK => ?_)
   go_simp
   refine hK _ _ ?_
   clear hK K
   refine wpList_plain rfl (fun K hK => ?_)
   go_simp
   refine hK _ _ ?_
   clear hK K
   refine wpList_plain rfl (fun K hK => ?_)
   go_simp
   refine hK _ _ ?_
   clear hK K
   refine wpList_plain rfl (fun K hK => ?_)
   go_simp
   refine hK _ _ ?_
   clear hK K
   refine wpList_plain rfl (fun K hK => ?_)
   go_simp
   refine (record_steady hmp Db _ S16 bz y lb (16 * (k : Int)) (16 * (k : Int)) _ MV2.out hib (by omega) (by omega) H2.out.l HY.out ry.1 hbz).mono ?_
   rintro e w20 ⟨⟨Bw, bw, Db2, rfl, MV2b, rz, hbw, hib2⟩, hq⟩
   refine hK _ _ ?_
   clear hK K
   replace k7 := k7.grows hq
   replace k9 := k9.grows hq
   replace k11 := k11.grows hq
   replace k13 := k13.grows hq
   replace k15 := k15.grows hq
   replace k16 := k16.grows hq
   replace k19 := k19.grows hq
   replace hia2 := hia2.grows hq
   replace hib := hib.grows hq
   replace hD := hD.grows hq
   replace hB := below_grows hB (Nat.le_refl _) hq
   replace hsw := RdB.grows hsw hq
   replace hsz := RdB.grows hsz hq
   replace sx := RdB.grows sx hq
   replace ry := RdB.grows ry hq
   have hqs := hq.size
   clear hq
   clear hib
   refine wpList_plain rfl (fun K hK => ?_)
   go_simp
   refine hK _ _ ?_
   clear hK K
   refine wpList_plain rfl (fun K hK => ?_)
   go_simp
   refine hK _ _ ?_
   clear hK K
   refine wpList_plain rfl (fun K hK => ?_)
   go_simp
   refine hK _ _ ?_
   clear hK K
   refine wpList_plain rfl (fun K hK => ?_)
   go_simp
   refine hK _ _ ?_
   clear hK K
   refine wpList_plain rfl (fun K hK => ?_)
   go_simp
   refine hK _ _ ?_
   clear hK K
   refine wpList_plain rfl (fun K hK => ?_)
   go_simp
   refine hK _ _ ?_
   clear hK K
   have HZ := Lib.hid hz
   replace MV2b := Lib.hid MV2b
   have hzl : Hid (16 * mp.length = ((lb ++ y).take (16 * mp.length)).length) := Lib.hid hz.len.symm
   clear hz hz29 MV2 hyl
   generalize (lb ++ y).take (16 * mp.length) = z at *
   generalize (lb ++ y).drop (16 * mp.length) = lb2 at *
   have z19 := k19.lt
   have k21 := (Blk.new w20 60 #[.int .i64 0, .slice none 0 0]).alloc (Obj.cells #[.int .u64 0, .string ⟨#[]⟩, .int .i64 0, .int .i64 0, .int .i64 0, .int .i64 0, .int .i64 0, .slice none 0 0, .int .i64 0, .int .i64 0, .slice none 0 0, .int .i64 0, .int .i64 0, .int .i64 0, .slice none 0 0, .bool false, .int .i64 0, .int .i64 0, .int .i64 0, .int .i64 0, .int .i64 0, .int .i64 0, .int .i64 0, .int .i64 0, .int .i64 0, .int .i64 0, .int .i64 0, .int .i64 0, .slice none 0 0, .int .i64 0, .int .i64 0] 51)
   have k24 := blk_new_at (X := w20.alloc (Obj.cells #[.int .i64 0, .slice none 0 0] 60)) (n := w20.heap.size + 1) (t := 51) (cs := #[.int .u64 0, .string ⟨#[]⟩, .int .i64 0, .int .i64 0, .int .i64 0, .int .i64 0, .int .i64 0, .slice none 0 0, .int .i64 0, .int .i64 0, .slice none 0 0, .int .i64 0, .int .i64 0, .int .i64 0, .slice none 0 0, .bool false, .int .i64 0, .int .i64 0, .int .i64 0, .int .i64 0, .int .i64 0, .int .i64 0, .int .i64 0, .int .i64 0, .int .i64 0, .int .i64 0, .int .i64 0, .int .i64 0, .slice none 0 0, .int .i64 0, .int .i64 0]) (by simp)
   have hq0 := ((Below.refl w20.heap.size w20).alloc (Nat.le_refl _) (Obj.cells #[.int .i64 0, .slice none 0 0] 60)).alloc (by simp) (Obj.cells #[.int .u64 0, .string ⟨#[]⟩, .int .i64 0, .int .i64 0, .int .i64 0, .int .i64 0, .int .i64 0, .slice none 0 0, .int .i64 0, .int .i64 0, .slice none 0 0, .int .i64 0, .int .i64 0, .int .i64 0, .slice none 0 0, .bool false, .int .i64 0, .int .i64 0, .int .i64 0, .int .i64 0, .int .i64 0, .int .i64 0, .int .i64 0, .int .i64 0, .int .i64 0, .int .i64 0, .int .i64 0, .int .i64 0, .slice none 0 0, .int .i64 0, .int .i64 0] 51)
   replace hia2 := hia2.bd.grows hq0
   replace hib2 := hib2.bd.grows hq0
   have hswn := (RdB.bd hsw).grows hq0
   clear hsw
   have hsw := hswn
   clear hswn
   have hszn := (RdB.bd hsz).grows hq0
   clear hsz
   have hsz := hszn
   clear hszn
   have sxn := (RdB.bd sx).grows hq0
   clear sx
   have sx := sxn
   clear sxn
   have rzn := (RdB.bd rz).grows hq0
   clear rz
   have rz := rzn
   clear rzn
   replace hD := hD.grows hq0
   replace k7 := k7.grows hq0
   replace k9 := k9.grows hq0
   replace k11 := k11.grows hq0
   replace k13 := k13.grows hq0
   replace k15 := k15.grows hq0
   replace k19 := k19.grows hq0
   have hwz := hB.size
   replace hB := below_grows hB (Nat.le_refl _) hq0
   clear hq0
   iterate 2
    refine wpList_plain rfl (fun K hK => ?_)
    go_simp
    refine hK _ _ ?_
    clear hK K
   generalize hn21 : w20.heap.size = n21 at *
   generalize hn24 : n21 + 1 = n24 at *
   generalize World.alloc (World.alloc w20 _) _ = w21 at *
   refine wpList_store_row rfl _ _ rfl rfl rfl rfl k21 b60info rfl (by simp [Value.oneCell']) ?_
   replace k7 := k7.row_far (cs' := #[.int .i64 (mp.length : Int), .slice Bw (16 * mp.length) bw]) (show n7 ≠ n21 by omega)
   replace k9 := k9.row_far (cs' := #[.int .i64 (mp.length : Int), .slice Bw (16 * mp.length) bw]) (show n9 ≠ n21 by omega)
   replace k11 := k11.row_far (cs' := #[.int .i64 (mp.length : Int), .slice Bw (16 * mp.length) bw]) (show n11 ≠ n21 by omega)
   replace k13 := k13.row_far (cs' := #[.int .i64 (mp.length : Int), .slice Bw (16 * mp.length) bw]) (show n13 ≠ n21 by omega)
   replace k15 := k15.row_far (cs' := #[.int .i64 (mp.length : Int), .slice Bw (16 * mp.length) bw]) (show n15 ≠ n21 by omega)
   replace k19 := k19.row_far (cs' := #[.int .i64 (mp.length : Int), .slice Bw (16 * mp.length) bw]) (show n19 ≠ n21 by omega)
   replace k24 := k24.row_far (cs' := #[.int .i64 (mp.length : Int), .slice Bw (16 * mp.length) bw]) (show n24 ≠ n21 by omega)
   replace hia2 := hia2.row (g := n21) (fun hb => absurd hb.2 (by omega)) (#[.int .i64 (mp.length : Int), .slice Bw (16 * mp.length) bw])
   replace hib2 := hib2.row (g := n21) (fun hb => absurd hb.2 (by omega)) (#[.int .i64 (mp.length : Int), .slice Bw (16 * mp.length) bw])
   replace hsw := hsw.row (g := n21) (fun hb => absurd hb.2 (by omega)) (#[.int .i64 (mp.length : Int), .slice Bw (16 * mp.length) bw])
   replace hsz := hsz.row (g := n21) (fun hb => absurd hb.2 (by omega)) (#[.int .i64 (mp.length : Int), .slice Bw (16 * mp.length) bw])
   replace sx := sx.row (g := n21) (fun hb => absurd hb.2 (by omega)) (#[.int .i64 (mp.length : Int), .slice Bw (16 * mp.length) bw])
   replace rz := rz.row (g := n21) (fun hb => absurd hb.2 (by omega)) (#[.int .i64 (mp.length : Int), .slice Bw (16 * mp.length) bw])
   replace hD := hD.row (q := n21) (fun hb => by have := hb.1; omega) (#[.int .i64 (mp.length : Int), .slice Bw (16 * mp.length) bw])
   replace k21 := k21.row (cs := #[.int .i64 (mp.length : Int), .slice Bw (16 * mp.length) bw])
   replace hB := below_row hB (show w.heap.size ≤ n21 by omega) (#[.int .i64 (mp.length : Int), .slice Bw (16 * mp.length) bw])
   generalize World.setRow w21 _ _ = w22 at *
   iterate 2
    refine wpList_plain rfl (fun K hK => ?_)
    go_simp
    refine hK _ _ ?_
    clear hK K
   refine wpList_store_row rfl _ _ rfl rfl rfl rfl k24 (dinfo _) rfl (dv_one _) ?_
   replace k7 := k7.row_far (cs' := (dvA Db2)) (show n7 ≠ n24 by omega)
   replace k9 := k9.row_far (cs' := (dvA Db2)) (show n9 ≠ n24 by omega)
   replace k11 := k11.row_far (cs' := (dvA Db2)) (show n11 ≠ n24 by omega)
   replace k13 := k13.row_far (cs' := (dvA Db2)) (show n13 ≠ n24 by omega)
   replace k15 := k15.row_far (cs' := (dvA Db2)) (show n15 ≠ n24 by omega)
   replace k19 := k19.row_far (cs' := (dvA Db2)) (show n19 ≠ n24 by omega)
   replace k21 := k21.row_far (cs' := (dvA Db2)) (show n21 ≠ n24 by omega)
   replace hia2 := hia2.row (g := n24) (fun hb => absurd hb.2 (by omega)) ((dvA Db2))
   replace hib2 := hib2.row (g := n24) (fun hb => absurd hb.2 (by omega)) ((dvA Db2))
   replace hsw := hsw.row (g := n24) (fun hb => absurd hb.2 (by omega)) ((dvA Db2))
   replace hsz := hsz.row (g := n24) (fun hb => absurd hb.2 (by omega)) ((dvA Db2))
   replace sx := sx.row (g := n24) (fun hb => absurd hb.2 (by omega)) ((dvA Db2))
   replace rz := rz.row (g := n24) (fun hb => absurd hb.2 (by omega)) ((dvA Db2))
   replace hD := hD.row (q := n24) (fun hb => by have := hb.1; omega) ((dvA Db2))
   replace k24 := k24.row (cs := (dvA Db2))
   replace hB := below_row hB (show w.heap.size ≤ n24 by omega) ((dvA Db2))
   generalize World.setRow w22 _ _ = w23 at *
   rw [hzl.out] at k21 hbw
   clear hzl wk16 wk32
   have hWb : BlkOk mp.length (26 + 16 * k) WL := by rw [HWL.out]; exact (zeros_ok hm1 hm2 (by omega)).app H1.out.x (by omega)
   have hl1 : WL.length ≤ 400000 := by rw [hWb.len]; have := Nat.mul_le_mul (show 26 + 16 * k ≤ 1000 by omega) hm2; omega
   have hl2 : x.length ≤ 400000 := by rw [hx.len]; omega
   have hl3 : Z.length ≤ 400000 := by rw [H2.out.y.len]; have := Nat.mul_le_mul (show 16 * k ≤ 1000 by omega) hm2; omega
   have hl4 : z.length ≤ 400000 := by rw [HZ.out.len]; omega
   obtain ⟨WL2, hWL2⟩ : ∃ L, WL ++ x = L := ⟨_, rfl⟩
   obtain ⟨Z2, hZ2⟩ : ∃ L, Z ++ z = L := ⟨_, rfl⟩
   have HW2 := Lib.hid hWL2
   have HZ2 := Lib.hid hZ2
   clear hWb hWL2 hZ2
   replace hia2 := hia2.mono (b2 := (fun k => (k ≠ n7 ∧ k ≠ n9 ∧ k ≠ n11 ∧ k ≠ n13) ∧ g < k)) (fun p hp => by
    rcases hp.1.1 with h | h
    ·exact h.1
    ·exact ⟨⟨by omega, by omega, by omega, by omega⟩, by omega⟩)
   replace hib2 := hib2.mono (b2 := (fun k => (k ≠ n7 ∧ k ≠ n9 ∧ k ≠ n11 ∧ k ≠ n13) ∧ g < k)) (fun p hp => by
    rcases hp.1 with h | h
    ·exact h.1.1
    ·exact ⟨⟨by omega, by omega, by omega, by omega⟩, by omega⟩)
   replace hsw : RdB _ (fun k => (k ≠ n7 ∧ k ≠ n9 ∧ k ≠ n11 ∧ k ≠ n13) ∧ g < k) 1 Cw WL.length (WL.map (Value.int .i32)) := RdB.mono hsw (fun p hp => hp.1.1.1)
   replace hsz : RdB _ (fun k => (k ≠ n7 ∧ k ≠ n9 ∧ k ≠ n11 ∧ k ≠ n13) ∧ g < k) 1 Co Z.length (Z.map (Value.int .i32)) := RdB.mono hsz (fun p hp => hp.1.1.1)
   replace sx : RdB _ (fun k => (k ≠ n7 ∧ k ≠ n9 ∧ k ≠ n11 ∧ k ≠ n13) ∧ g < k) 1 (some S15) x.length (x.map (Value.int .i32)) := RdB.mono sx (fun p hp => by have h : w12.heap.size ≤ p := hp.1.1.1; exact ⟨⟨by omega, by omega, by omega, by omega⟩, by omega⟩)
   replace rz : RdB _ (fun k => (k ≠ n7 ∧ k ≠ n9 ∧ k ≠ n11 ∧ k ≠ n13) ∧ g < k) 1 Bw z.length (z.map (Value.int .i32)) := RdB.mono rz (fun p hp => by have h : w19.heap.size ≤ p := hp.1; exact ⟨⟨by omega, by omega, by omega, by omega⟩, by omega⟩)
   go_upto_region 19 with fail
   obtain ⟨S, HI, HO⟩ := hideS fun (L : Ran) (vs : Nat → Value) (w' : World) => Below w.heap.size w w' ∧ Blk w' n15 60 #[.int .i64 (mp.length : Int), .slice (some S15) x.length c15] ∧ Blk w' n19 51 (dvA Da2) ∧ Blk w' n21 60 #[.int .i64 (mp.length : Int), .slice Bw z.length bw] ∧ Blk w' n24 51 (dvA Db2) ∧ InDv w' (fun k => (k ≠ n7 ∧ k ≠ n9 ∧ k ≠ n11 ∧ k ≠ n13) ∧ g < k) Da2 ∧ InDv w' (fun k => (k ≠ n7 ∧ k ≠ n9 ∧ k ≠ n11 ∧ k ≠ n13) ∧ g < k) Db2 ∧ DR w' w.heap.size g ∧ RdB w' (fun k => (k ≠ n7 ∧ k ≠ n9 ∧ k ≠ n11 ∧ k ≠ n13) ∧ g < k) 1 Cw WL.length (WL.map (Value.int .i32)) ∧ RdB w' (fun k => (k ≠ n7 ∧ k ≠ n9 ∧ k ≠ n11 ∧ k ≠ n13) ∧ g < k) 1 Co Z.length (Z.map (Value.int .i32)) ∧ RdB w' (fun k => (k ≠ n7 ∧ k ≠ n9 ∧ k ≠ n11 ∧ k ≠ n13) ∧ g < k) 1 (some S15) x.length (x.map (Value.int .i32)) ∧ RdB w' (fun k => (k ≠ n7 ∧ k ≠ n9 ∧ k ≠ n11 ∧ k ≠ n13) ∧ g < k) 1 Bw z.length (z.map (Value.int .i32)) ∧ (L 8 = false → Blk w' n11 60 #[.int .i64 (mp.length : Int), .slice Cw WL.length cw]) ∧ (L 8 = true → ∃ C7 c7, Blk w' n11 60 #[.int .i64 (mp.length : Int), .slice C7 WL2.length c7] ∧ WL2.length ≤ c7 ∧ OwnS w' n24 (.slice C7 WL2.length c7) WL2) ∧ (L 9 = false → Blk w' n13 60 #[.int .i64 (mp.length : Int), .slice Co Z.length co]) ∧ (L 9 = true → ∃ C7 c7, Blk w' n13 60 #[.int .i64 (mp.length : Int), .slice C7 Z2.length c7] ∧ Z2.length ≤ c7 ∧ OwnS w' n24 (.slice C7 Z2.length c7) Z2) ∧ (L 10 = false → Blk w' n7 51 (dvA Da)) ∧ (L 10 = true → Blk w' n7 51 (dvA Da2)) ∧ (L 11 = false → Blk w' n9 51 (dvA Db)) ∧ (L 11 = true → Blk w' n9 51 (dvA Db2)) ∧ (L 8 = true → L 0 = true) ∧ (L 9 = true → L 3 = true) ∧ (L 2 = true → ∃ C c, vs 2 = .agg #[.int .i64 (mp.length : Int), .slice C WL2.length c] ∧ WL2.length ≤ c ∧ OwnS w' n24 (.slice C WL2.length c) WL2) ∧ (L 5 = true → ∃ C c, vs 5 = .agg #[.int .i64 (mp.length : Int), .slice C Z2.length c] ∧ Z2.length ≤ c ∧ OwnS w' n24 (.slice C Z2.length c) Z2) ∧ KnS [some (.agg #[.int .i64 (mp.length : Int), .slice Cw WL.length cw]), some (.agg #[.int .i64 (mp.length : Int), .slice (some S15) x.length c15]), none, some (.agg #[.int .i64 (mp.length : Int), .slice Co Z.length co]), some (.agg #[.int .i64 (mp.length : Int), .slice Bw z.length bw]), none, some (.agg (dvA Da2)), some (.agg (dvA Db2)), some (undef), some (undef), some (undef), some (undef)] L vs
   refine wp_region_genU S 130 (by kernel_rfl) (by kernel_rfl) rfl ?_ ?_
   ·exact HI.out _ _ _ ⟨hB.drew, k15.drew, k19.drew, k21.drew, k24.drew, hia2.drew, hib2.drew, hD.drew, hsw.drew, hsz.drew, sx.drew, rz.drew, fun _ => k11.drew, (fun e => by cases e), fun _ => k13.drew, (fun e => by cases e), fun _ => k7.drew, (fun e => by cases e), fun _ => k9.drew, (fun e => by cases e), (fun e => by cases e), (fun e => by cases e), (fun e => by cases e), (fun e => by cases e), kn_none _ _⟩
   refine gen_consR (fun vs L w1 hL hw1 => ?_) ?_
   ·obtain ⟨h0, h1, h2, h3, h4, h5, h6, h7, h8, h9, h10, h11, a8, b8, a9, b9, a10, b10, a11, b11, o8_0, o9_3, d2, d5, q⟩ := HO.out _ _ _ hw1
    have z8 : L 8 = false := by cases e : L 8 with | false => rfl | true => (have hz := o8_0 e; rw [hL.1] at hz; cases hz)
    refine gen_plain rfl ?_
    refine gr_ldrow (cs := #[.int .i64 (mp.length : Int), .slice Cw WL.length cw]) _ rfl rfl (a8 z8) Tryz.underlying60 rfl b60info ?_
    exact HI.out _ _ _ ⟨h0, h1, h2, h3, h4, h5, h6, h7, h8, h9, h10, h11, fun e => (a8 (upd_ne e (by decide))), (fun e => by obtain ⟨C8, c8, kb8, hc8, oo8⟩ := (b8 (upd_ne e (by decide))); exact ⟨C8, c8, kb8, hc8, oo8⟩), fun e => (a9 (upd_ne e (by decide))), (fun e => by obtain ⟨C9, c9, kb9, hc9, oo9⟩ := (b9 (upd_ne e (by decide))); exact ⟨C9, c9, kb9, hc9, oo9⟩), fun e => (a10 (upd_ne e (by decide))), fun e => (b10 (upd_ne e (by decide))), fun e => (a11 (upd_ne e (by decide))), fun e => (b11 (upd_ne e (by decide))), fun _ => upd_eq, (fun e => (o9_3 (upd_ne e (by decide)))), (fun e => by obtain ⟨C2, c2, f2, hc2, o2⟩ := (d2 (upd_ne e (by decide))); exact ⟨C2, c2, f2, hc2, o2⟩), (fun e => by obtain ⟨C5, c5, f5, hc5, o5⟩ := (d5 (upd_ne e (by decide))); exact ⟨C5, c5, f5, hc5, o5⟩), kn_known q rfl⟩
   refine gen_consR (fun vs L w1 hL hw1 => ?_) ?_
   ·obtain ⟨h0, h1, h2, h3, h4, h5, h6, h7, h8, h9, h10, h11, a8, b8, a9, b9, a10, b10, a11, b11, o8_0, o9_3, d2, d5, q⟩ := HO.out _ _ _ hw1
    refine gen_plain rfl ?_
    refine gr_ldrow (cs := #[.int .i64 (mp.length : Int), .slice (some S15) x.length c15]) _ rfl rfl h1 Tryz.underlying60 rfl b60info ?_
    exact HI.out _ _ _ ⟨h0, h1, h2, h3, h4, h5, h6, h7, h8, h9, h10, h11, fun e => (a8 (upd_ne e (by decide))), (fun e => by obtain ⟨C8, c8, kb8, hc8, oo8⟩ := (b8 (upd_ne e (by decide))); exact ⟨C8, c8, kb8, hc8, oo8⟩), fun e => (a9 (upd_ne e (by decide))), (fun e => by obtain ⟨C9, c9, kb9, hc9, oo9⟩ := (b9 (upd_ne e (by decide))); exact ⟨C9, c9, kb9, hc9, oo9⟩), fun e => (a10 (upd_ne e (by decide))), fun e => (b10 (upd_ne e (by decide))), fun e => (a11 (upd_ne e (by decide))), fun e => (b11 (upd_ne e (by decide))), (fun e => (o8_0 (upd_ne e (by decide)))), (fun e => (o9_3 (upd_ne e (by decide)))), (fun e => by obtain ⟨C2, c2, f2, hc2, o2⟩ := (d2 (upd_ne e (by decide))); exact ⟨C2, c2, f2, hc2, o2⟩), (fun e => by obtain ⟨C5, c5, f5, hc5, o5⟩ := (d5 (upd_ne e (by decide))); exact ⟨C5, c5, f5, hc5, o5⟩), kn_known q rfl⟩
   refine gen_consR (fun vs L w1 hL hw1 => ?_) ?_
   ·obtain ⟨h0, h1, h2, h3, h4, h5, h6, h7, h8, h9, h10, h11, a8, b8, a9, b9, a10, b10, a11, b11, o8_0, o9_3, d2, d5, q⟩ := HO.out _ _ _ hw1
    have l0 : L 0 = true := hL.need 0 (by kernel_rfl)
    have e0 := q 0 _ rfl l0
    have l1 : L 1 = true := hL.need 1 (by kernel_rfl)
    have e1 := q 1 _ rfl l1
    refine gen_plain rfl ?_
    simp only [e0, e1]
    go_simp
    refine gr_call ?_
    refine (r4join_any mp.length mp.length Cw (some S15) cw c15 WL x WL2 HW2.out _ h8.1 h10.1 hl1 hl2).mono ?_
    rintro e wc ⟨⟨C, p, rfl, hp, ho⟩, hg⟩
    replace ho := ho.mono (base' := n24) (by have := h4.lt; omega)
    exact ⟨_, rfl, HI.out _ _ _ ⟨below_grows h0 (Nat.le_refl _) hg, h1.grows hg, h2.grows hg, h3.grows hg, h4.grows hg, h5.grows hg, h6.grows hg, h7.grows hg, h8.grows hg, h9.grows hg, h10.grows hg, h11.grows hg, fun e => (a8 (upd_ne e (by decide))).grows hg, (fun e => by obtain ⟨C8, c8, kb8, hc8, oo8⟩ := (b8 (upd_ne e (by decide))); exact ⟨C8, c8, kb8.grows hg, hc8, oo8.grows hg⟩), fun e => (a9 (upd_ne e (by decide))).grows hg, (fun e => by obtain ⟨C9, c9, kb9, hc9, oo9⟩ := (b9 (upd_ne e (by decide))); exact ⟨C9, c9, kb9.grows hg, hc9, oo9.grows hg⟩), fun e => (a10 (upd_ne e (by decide))).grows hg, fun e => (b10 (upd_ne e (by decide))).grows hg, fun e => (a11 (upd_ne e (by decide))).grows hg, fun e => (b11 (upd_ne e (by decide))).grows hg, (fun e => (o8_0 (upd_ne e (by decide)))), (fun e => (o9_3 (upd_ne e (by decide)))), (fun _ => ⟨C, p, rfl, hp, ho⟩), (fun e => by obtain ⟨C5, c5, f5, hc5, o5⟩ := (d5 (upd_ne e (by decide))); exact ⟨C5, c5, f5, hc5, o5.grows hg⟩), kn_free q rfl⟩⟩
   refine gen_consR (fun vs L w1 hL hw1 => ?_) ?_
   ·obtain ⟨h0, h1, h2, h3, h4, h5, h6, h7, h8, h9, h10, h11, a8, b8, a9, b9, a10, b10, a11, b11, o8_0, o9_3, d2, d5, q⟩ := HO.out _ _ _ hw1
    have z9 : L 9 = false := by cases e : L 9 with | false => rfl | true => (have hz := o9_3 e; rw [hL.1] at hz; cases hz)
    refine gen_plain rfl ?_
    refine gr_ldrow (cs := #[.int .i64 (mp.length : Int), .slice Co Z.length co]) _ rfl rfl (a9 z9) Tryz.underlying60 rfl b60info ?_
    exact HI.out _ _ _ ⟨h0, h1, h2, h3, h4, h5, h6, h7, h8, h9, h10, h11, fun e => (a8 (upd_ne e (by decide))), (fun e => by obtain ⟨C8, c8, kb8, hc8, oo8⟩ := (b8 (upd_ne e (by decide))); exact ⟨C8, c8, kb8, hc8, oo8⟩), fun e => (a9 (upd_ne e (by decide))), (fun e => by obtain ⟨C9, c9, kb9, hc9, oo9⟩ := (b9 (upd_ne e (by decide))); exact ⟨C9, c9, kb9, hc9, oo9⟩), fun e => (a10 (upd_ne e (by decide))), fun e => (b10 (upd_ne e (by decide))), fun e => (a11 (upd_ne e (by decide))), fun e => (b11 (upd_ne e (by decide))), (fun e => (o8_0 (upd_ne e (by decide)))), fun _ => upd_eq, (fun e => by obtain ⟨C2, c2, f2, hc2, o2⟩ := (d2 (upd_ne e (by decide))); exact ⟨C2, c2, f2, hc2, o2⟩), (fun e => by obtain ⟨C5, c5, f5, hc5, o5⟩ := (d5 (upd_ne e (by decide))); exact ⟨C5, c5, f5, hc5, o5⟩), kn_known q rfl⟩
   refine gen_consR (fun vs L w1 hL hw1 => ?_) ?_
   ·obtain ⟨h0, h1, h2, h3, h4, h5, h6, h7, h8, h9, h10, h11, a8, b8, a9, b9, a10, b10, a11, b11, o8_0, o9_3, d2, d5, q⟩ := HO.out _ _ _ hw1
    refine gen_plain rfl ?_
    refine gr_ldrow (cs := #[.int .i64 (mp.length : Int), .slice Bw z.length bw]) _ rfl rfl h3 Tryz.underlying60 rfl b60info ?_
    exact HI.out _ _ _ ⟨h0, h1, h2, h3, h4, h5, h6, h7, h8, h9, h10, h11, fun e => (a8 (upd_ne e (by decide))), (fun e => by obtain ⟨C8, c8, kb8, hc8, oo8⟩ := (b8 (upd_ne e (by decide))); exact ⟨C8, c8, kb8, hc8, oo8⟩), fun e => (a9 (upd_ne e (by decide))), (fun e => by obtain ⟨C9, c9, kb9, hc9, oo9⟩ := (b9 (upd_ne e (by decide))); exact ⟨C9, c9, kb9, hc9, oo9⟩), fun e => (a10 (upd_ne e (by decide))), fun e => (b10 (upd_ne e (by decide))), fun e => (a11 (upd_ne e (by decide))), fun e => (b11 (upd_ne e (by decide))), (fun e => (o8_0 (upd_ne e (by decide)))), (fun e => (o9_3 (upd_ne e (by decide)))), (fun e => by obtain ⟨C2, c2, f2, hc2, o2⟩ := (d2 (upd_ne e (by decide))); exact ⟨C2, c2, f2, hc2, o2⟩), (fun e => by obtain ⟨C5, c5, f5, hc5, o5⟩ := (d5 (upd_ne e (by decide))); exact ⟨C5, c5, f5, hc5, o5⟩), kn_known q rfl⟩
   refine gen_consR (fun vs L w1 hL hw1 => ?_) ?_
   ·obtain ⟨h0, h1, h2, h3, h4, h5, h6, h7, h8, h9, h10, h11, a8, b8, a9, b9, a10, b10, a11, b11, o8_0, o9_3, d2, d5, q⟩ := HO.out _ _ _ hw1
    have l3 : L 3 = true := hL.need 3 (by kernel_rfl)
    have e3 := q 3 _ rfl l3
    have l4 : L 4 = true := hL.need 4 (by kernel_rfl)
    have e4 := q 4 _ rfl l4
    refine gen_plain rfl ?_
    simp only [e3, e4]
    go_simp
    refine gr_call ?_
    refine (r4join_any mp.length mp.length Co Bw co bw Z z Z2 HZ2.out _ h9.1 h11.1 hl3 hl4).mono ?_
    rintro e wc ⟨⟨C, p, rfl, hp, ho⟩, hg⟩
    replace ho := ho.mono (base' := n24) (by have := h4.lt; omega)
    exact ⟨_, rfl, HI.out _ _ _ ⟨below_grows h0 (Nat.le_refl _) hg, h1.grows hg, h2.grows hg, h3.grows hg, h4.grows hg, h5.grows hg, h6.grows hg, h7.grows hg, h8.grows hg, h9.grows hg, h10.grows hg, h11.grows hg, fun e => (a8 (upd_ne e (by decide))).grows hg, (fun e => by obtain ⟨C8, c8, kb8, hc8, oo8⟩ := (b8 (upd_ne e (by decide))); exact ⟨C8, c8, kb8.grows hg, hc8, oo8.grows hg⟩), fun e => (a9 (upd_ne e (by decide))).grows hg, (fun e => by obtain ⟨C9, c9, kb9, hc9, oo9⟩ := (b9 (upd_ne e (by decide))); exact ⟨C9, c9, kb9.grows hg, hc9, oo9.grows hg⟩), fun e => (a10 (upd_ne e (by decide))).grows hg, fun e => (b10 (upd_ne e (by decide))).grows hg, fun e => (a11 (upd_ne e (by decide))).grows hg, fun e => (b11 (upd_ne e (by decide))).grows hg, (fun e => (o8_0 (upd_ne e (by decide)))), (fun e => (o9_3 (upd_ne e (by decide)))), (fun e => by obtain ⟨C2, c2, f2, hc2, o2⟩ := (d2 (upd_ne e (by decide))); exact ⟨C2, c2, f2, hc2, o2.grows hg⟩), (fun _ => ⟨C, p, rfl, hp, ho⟩), kn_free q rfl⟩⟩
   refine gen_consR (fun vs L w1 hL hw1 => ?_) ?_
   ·obtain ⟨h0, h1, h2, h3, h4, h5, h6, h7, h8, h9, h10, h11, a8, b8, a9, b9, a10, b10, a11, b11, o8_0, o9_3, d2, d5, q⟩ := HO.out _ _ _ hw1
    refine gen_plain rfl ?_
    refine gr_ldrow (cs := (dvA Da2)) _ rfl rfl h2 Tryz.underlying51 rfl (dinfo _) ?_
    exact HI.out _ _ _ ⟨h0, h1, h2, h3, h4, h5, h6, h7, h8, h9, h10, h11, fun e => (a8 (upd_ne e (by decide))), (fun e => by obtain ⟨C8, c8, kb8, hc8, oo8⟩ := (b8 (upd_ne e (by decide))); exact ⟨C8, c8, kb8, hc8, oo8⟩), fun e => (a9 (upd_ne e (by decide))), (fun e => by obtain ⟨C9, c9, kb9, hc9, oo9⟩ := (b9 (upd_ne e (by decide))); exact ⟨C9, c9, kb9, hc9, oo9⟩), fun e => (a10 (upd_ne e (by decide))), fun e => (b10 (upd_ne e (by decide))), fun e => (a11 (upd_ne e (by decide))), fun e => (b11 (upd_ne e (by decide))), (fun e => (o8_0 (upd_ne e (by decide)))), (fun e => (o9_3 (upd_ne e (by decide)))), (fun e => by obtain ⟨C2, c2, f2, hc2, o2⟩ := (d2 (upd_ne e (by decide))); exact ⟨C2, c2, f2, hc2, o2⟩), (fun e => by obtain ⟨C5, c5, f5, hc5, o5⟩ := (d5 (upd_ne e (by decide))); exact ⟨C5, c5, f5, hc5, o5⟩), kn_known q rfl⟩
   refine gen_consR (fun vs L w1 hL hw1 => ?_) ?_
   ·obtain ⟨h0, h1, h2, h3, h4, h5, h6, h7, h8, h9, h10, h11, a8, b8, a9, b9, a10, b10, a11, b11, o8_0, o9_3, d2, d5, q⟩ := HO.out _ _ _ hw1
    refine gen_plain rfl ?_
    refine gr_ldrow (cs := (dvA Db2)) _ rfl rfl h4 Tryz.underlying51 rfl (dinfo _) ?_
    exact HI.out _ _ _ ⟨h0, h1, h2, h3, h4, h5, h6, h7, h8, h9, h10, h11, fun e => (a8 (upd_ne e (by decide))), (fun e => by obtain ⟨C8, c8, kb8, hc8, oo8⟩ := (b8 (upd_ne e (by decide))); exact ⟨C8, c8, kb8, hc8, oo8⟩), fun e => (a9 (upd_ne e (by decide))), (fun e => by obtain ⟨C9, c9, kb9, hc9, oo9⟩ := (b9 (upd_ne e (by decide))); exact ⟨C9, c9, kb9, hc9, oo9⟩), fun e => (a10 (upd_ne e (by decide))), fun e => (b10 (upd_ne e (by decide))), fun e => (a11 (upd_ne e (by decide))), fun e => (b11 (upd_ne e (by decide))), (fun e => (o8_0 (upd_ne e (by decide)))), (fun e => (o9_3 (upd_ne e (by decide)))), (fun e => by obtain ⟨C2, c2, f2, hc2, o2⟩ := (d2 (upd_ne e (by decide))); exact ⟨C2, c2, f2, hc2, o2⟩), (fun e => by obtain ⟨C5, c5, f5, hc5, o5⟩ := (d5 (upd_ne e (by decide))); exact ⟨C5, c5, f5, hc5, o5⟩), kn_known q rfl⟩
   refine gen_consR (fun vs L w1 hL hw1 => ?_) ?_
   ·obtain ⟨h0, h1, h2, h3, h4, h5, h6, h7, h8, h9, h10, h11, a8, b8, a9, b9, a10, b10, a11, b11, o8_0, o9_3, d2, d5, q⟩ := HO.out _ _ _ hw1
    have l2 : L 2 = true := hL.need 2 (by kernel_rfl)
    obtain ⟨C, p, e2, hp, ho⟩ := d2 l2
    refine gen_plain rfl ?_
    simp only [e2]
    have kk := a8 hL.1
    refine gr_strow (cs := #[.int .i64 (mp.length : Int), .slice C WL2.length p]) _ _ rfl rfl rfl kk b60info rfl (by simp [Value.oneCell']) ?_
    have hnew : ∃ C7 c7, Blk (w1.setRow n11 #[.int .i64 (mp.length : Int), .slice C WL2.length p]) n11 60 #[.int .i64 (mp.length : Int), .slice C7 WL2.length c7] ∧ WL2.length ≤ c7 ∧ OwnS (w1.setRow n11 #[.int .i64 (mp.length : Int), .slice C WL2.length p]) n24 (.slice C7 WL2.length c7) WL2 := ⟨C, p, kk.row, hp, ho.row kk (by decide) _⟩
    exact HI.out _ _ _ ⟨below_row h0 (g := n11) (by omega) _, h1.row_far (by omega), h2.row_far (by omega), h3.row_far (by omega), h4.row_far (by omega), h5.row (fun hb => by have := hb.1; omega) _, h6.row (fun hb => by have := hb.1; omega) _, h7.row (fun hb => by have := hb.1; omega) _, h8.row (fun hb => by have := hb.1; omega) _, h9.row (fun hb => by have := hb.1; omega) _, h10.row (fun hb => by have := hb.1; omega) _, h11.row (fun hb => by have := hb.1; omega) _, (fun e => by rw [upd_eq] at e; cases e), fun _ => hnew, fun e => (a9 (upd_ne e (by decide))).row_far (by omega), (fun e => by obtain ⟨C9, c9, kb9, hc9, oo9⟩ := (b9 (upd_ne e (by decide))); exact ⟨C9, c9, kb9.row_far (by omega), hc9, oo9.row kk (by decide) _⟩), fun e => (a10 (upd_ne e (by decide))).row_far (by omega), fun e => (b10 (upd_ne e (by decide))).row_far (by omega), fun e => (a11 (upd_ne e (by decide))).row_far (by omega), fun e => (b11 (upd_ne e (by decide))).row_far (by omega), fun _ => (show L 0 = true from hL.need 0 (by kernel_rfl)), (fun e => (o9_3 (upd_ne e (by decide)))), (fun e => by obtain ⟨C2, c2, f2, hc2, o2⟩ := (d2 (upd_ne e (by decide))); exact ⟨C2, c2, f2, hc2, o2.row kk (by decide) _⟩), (fun e => by obtain ⟨C5, c5, f5, hc5, o5⟩ := (d5 (upd_ne e (by decide))); exact ⟨C5, c5, f5, hc5, o5.row kk (by decide) _⟩), kn_known q rfl⟩
   refine gen_consR (fun vs L w1 hL hw1 => ?_) ?_
   ·obtain ⟨h0, h1, h2, h3, h4, h5, h6, h7, h8, h9, h10, h11, a8, b8, a9, b9, a10, b10, a11, b11, o8_0, o9_3, d2, d5, q⟩ := HO.out _ _ _ hw1
    have l5 : L 5 = true := hL.need 5 (by kernel_rfl)
    obtain ⟨C, p, e5, hp, ho⟩ := d5 l5
    refine gen_plain rfl ?_
    simp only [e5]
    have kk := a9 hL.1
    refine gr_strow (cs := #[.int .i64 (mp.length : Int), .slice C Z2.length p]) _ _ rfl rfl rfl kk b60info rfl (by simp [Value.oneCell']) ?_
    have hnew : ∃ C7 c7, Blk (w1.setRow n13 #[.int .i64 (mp.length : Int), .slice C Z2.length p]) n13 60 #[.int .i64 (mp.length : Int), .slice C7 Z2.length c7] ∧ Z2.length ≤ c7 ∧ OwnS (w1.setRow n13 #[.int .i64 (mp.length : Int), .slice C Z2.length p]) n24 (.slice C7 Z2.length c7) Z2 := ⟨C, p, kk.row, hp, ho.row kk (by decide) _⟩
    exact HI.out _ _ _ ⟨below_row h0 (g := n13) (by omega) _, h1.row_far (by omega), h2.row_far (by omega), h3.row_far (by omega), h4.row_far (by omega), h5.row (fun hb => by have := hb.1; omega) _, h6.row (fun hb => by have := hb.1; omega) _, h7.row (fun hb => by have := hb.1; omega) _, h8.row (fun hb => by have := hb.1; omega) _, h9.row (fun hb => by have := hb.1; omega) _, h10.row (fun hb => by have := hb.1; omega) _, h11.row (fun hb => by have := hb.1; omega) _, fun e => (a8 (upd_ne e (by decide))).row_far (by omega), (fun e => by obtain ⟨C8, c8, kb8, hc8, oo8⟩ := (b8 (upd_ne e (by decide))); exact ⟨C8, c8, kb8.row_far (by omega), hc8, oo8.row kk (by decide) _⟩), (fun e => by rw [upd_eq] at e; cases e), fun _ => hnew, fun e => (a10 (upd_ne e (by decide))).row_far (by omega), fun e => (b10 (upd_ne e (by decide))).row_far (by omega), fun e => (a11 (upd_ne e (by decide))).row_far (by omega), fun e => (b11 (upd_ne e (by decide))).row_far (by omega), (fun e => (o8_0 (upd_ne e (by decide)))), fun _ => (show L 3 = true from hL.need 3 (by kernel_rfl)), (fun e => by obtain ⟨C2, c2, f2, hc2, o2⟩ := (d2 (upd_ne e (by decide))); exact ⟨C2, c2, f2, hc2, o2.row kk (by decide) _⟩), (fun e => by obtain ⟨C5, c5, f5, hc5, o5⟩ := (d5 (upd_ne e (by decide))); exact ⟨C5, c5, f5, hc5, o5.row kk (by decide) _⟩), kn_known q rfl⟩
   refine gen_consR (fun vs L w1 hL hw1 => ?_) ?_
   ·obtain ⟨h0, h1, h2, h3, h4, h5, h6, h7, h8, h9, h10, h11, a8, b8, a9, b9, a10, b10, a11, b11, o8_0, o9_3, d2, d5, q⟩ := HO.out _ _ _ hw1
    have l6 : L 6 = true := hL.need 6 (by kernel_rfl)
    have e6 := q 6 _ rfl l6
    refine gen_plain rfl ?_
    simp only [e6]
    have kk := a10 hL.1
    refine gr_strow (cs := (dvA Da2)) _ _ rfl rfl rfl kk (dinfo _) rfl (dv_one _) ?_
    exact HI.out _ _ _ ⟨below_row h0 (g := n7) (by omega) _, h1.row_far (by omega), h2.row_far (by omega), h3.row_far (by omega), h4.row_far (by omega), h5.row (fun hb => by have := hb.1; omega) _, h6.row (fun hb => by have := hb.1; omega) _, h7.row (fun hb => by have := hb.1; omega) _, h8.row (fun hb => by have := hb.1; omega) _, h9.row (fun hb => by have := hb.1; omega) _, h10.row (fun hb => by have := hb.1; omega) _, h11.row (fun hb => by have := hb.1; omega) _, fun e => (a8 (upd_ne e (by decide))).row_far (by omega), (fun e => by obtain ⟨C8, c8, kb8, hc8, oo8⟩ := (b8 (upd_ne e (by decide))); exact ⟨C8, c8, kb8.row_far (by omega), hc8, oo8.row kk (by decide) _⟩), fun e => (a9 (upd_ne e (by decide))).row_far (by omega), (fun e => by obtain ⟨C9, c9, kb9, hc9, oo9⟩ := (b9 (upd_ne e (by decide))); exact ⟨C9, c9, kb9.row_far (by omega), hc9, oo9.row kk (by decide) _⟩), (fun e => by rw [upd_eq] at e; cases e), fun _ => kk.row, fun e => (a11 (upd_ne e (by decide))).row_far (by omega), fun e => (b11 (upd_ne e (by decide))).row_far (by omega), (fun e => (o8_0 (upd_ne e (by decide)))), (fun e => (o9_3 (upd_ne e (by decide)))), (fun e => by obtain ⟨C2, c2, f2, hc2, o2⟩ := (d2 (upd_ne e (by decide))); exact ⟨C2, c2, f2, hc2, o2.row kk (by decide) _⟩), (fun e => by obtain ⟨C5, c5, f5, hc5, o5⟩ := (d5 (upd_ne e (by decide))); exact ⟨C5, c5, f5, hc5, o5.row kk (by decide) _⟩), kn_known q rfl⟩
   refine gen_consR (fun vs L w1 hL hw1 => ?_) ?_
   ·obtain ⟨h0, h1, h2, h3, h4, h5, h6, h7, h8, h9, h10, h11, a8, b8, a9, b9, a10, b10, a11, b11, o8_0, o9_3, d2, d5, q⟩ := HO.out _ _ _ hw1
    have l7 : L 7 = true := hL.need 7 (by kernel_rfl)
    have e7 := q 7 _ rfl l7
    refine gen_plain rfl ?_
    simp only [e7]
    have kk := a11 hL.1
    refine gr_strow (cs := (dvA Db2)) _ _ rfl rfl rfl kk (dinfo _) rfl (dv_one _) ?_
    exact HI.out _ _ _ ⟨below_row h0 (g := n9) (by omega) _, h1.row_far (by omega), h2.row_far (by omega), h3.row_far (by omega), h4.row_far (by omega), h5.row (fun hb => by have := hb.1; omega) _, h6.row (fun hb => by have := hb.1; omega) _, h7.row (fun hb => by have := hb.1; omega) _, h8.row (fun hb => by have := hb.1; omega) _, h9.row (fun hb => by have := hb.1; omega) _, h10.row (fun hb => by have := hb.1; omega) _, h11.row (fun hb => by have := hb.1; omega) _, fun e => (a8 (upd_ne e (by decide))).row_far (by omega), (fun e => by obtain ⟨C8, c8, kb8, hc8, oo8⟩ := (b8 (upd_ne e (by decide))); exact ⟨C8, c8, kb8.row_far (by omega), hc8, oo8.row kk (by decide) _⟩), fun e => (a9 (upd_ne e (by decide))).row_far (by omega), (fun e => by obtain ⟨C9, c9, kb9, hc9, oo9⟩ := (b9 (upd_ne e (by decide))); exact ⟨C9, c9, kb9.row_far (by omega), hc9, oo9.row kk (by decide) _⟩), fun e => (a10 (upd_ne e (by decide))).row_far (by omega), fun e => (b10 (upd_ne e (by decide))).row_far (by omega), (fun e => by rw [upd_eq] at e; cases e), fun _ => kk.row, (fun e => (o8_0 (upd_ne e (by decide)))), (fun e => (o9_3 (upd_ne e (by decide)))), (fun e => by obtain ⟨C2, c2, f2, hc2, o2⟩ := (d2 (upd_ne e (by decide))); exact ⟨C2, c2, f2, hc2, o2.row kk (by decide) _⟩), (fun e => by obtain ⟨C5, c5, f5, hc5, o5⟩ := (d5 (upd_ne e (by decide))); exact ⟨C5, c5, f5, hc5, o5.row kk (by decide) _⟩), kn_known q rfl⟩
   refine gen_nil ?_
   intro vs L w24 hall hS
   obtain ⟨h0, h1, h2, h3, h4, h5, h6, h7, h8, h9, h10, h11, a8, b8, a9, b9, a10, b10, a11, b11, o8_0, o9_3, d2, d5, q⟩ := HO.out _ _ _ hS
   replace b8 := b8 (hall 8 (by simp))
   replace b9 := b9 (hall 9 (by simp))
   replace b10 := b10 (hall 10 (by simp))
   replace b11 := b11 (hall 11 (by simp))
   have e0 := q 0 _ rfl (hall 0 (by simp))
   have e1 := q 1 _ rfl (hall 1 (by simp))
   have e3 := q 3 _ rfl (hall 3 (by simp))
   have e4 := q 4 _ rfl (hall 4 (by simp))
   have e6 := q 6 _ rfl (hall 6 (by simp))
   have e7 := q 7 _ rfl (hall 7 (by simp))
   clear hall hS HI HO q a8 a9 a10 a11 d2 d5 o8_0 o9_3
   simp only [e0, e1, e3, e4, e6, e7]
   clear e0 e1 e3 e4 e6 e7
   obtain ⟨Cw2, cw2, k11, hcw2, ow⟩ := b8
   obtain ⟨Co2, co2, k13, hco2, oz⟩ := b9
   have hsw2 : SaB _ (fun k => (k ≠ n7 ∧ k ≠ n9 ∧ k ≠ n11 ∧ k ≠ n13) ∧ g < k) Cw2 WL2 := SaB.of_own ow (fun p hp => ⟨⟨by omega, by omega, by omega, by omega⟩, by omega⟩)
   have hsz2 : SaB _ (fun k => (k ≠ n7 ∧ k ≠ n9 ∧ k ≠ n11 ∧ k ≠ n13) ∧ g < k) Co2 Z2 := SaB.of_own oz (fun p hp => ⟨⟨by omega, by omega, by omega, by omega⟩, by omega⟩)
   have wk1 : IntKind.i64.wrap ((k : Int) + 1) = (k : Int) + 1 := IntWalk.i64_in _ (by omega)
   have hkc : 16 * ((k + 1 : Nat) : Int) = 16 * (k : Int) + 16 := by omega
   have HWL2 : Hid (WL2 = List.replicate (26 * mp.length) 0 ++ (X ++ x)) := Lib.hid (by rw [← HW2.out, HWL.out, List.append_assoc])
   have MV1c : Hid (MovDv (stD 1 mp (16 * ((k + 1 : Nat) : Int)) la2) Da2) := Lib.hid (by rw [hkc]; exact MV1b.out)
   have MV2c : Hid (MovDv (stD 2 mp (16 * ((k + 1 : Nat) : Int)) lb2) Db2) := Lib.hid (by rw [hkc]; exact MV2b.out)
   have H2c : Hid (QuI mp.length (k + 1) (Y ++ y) Z2 lb2) := Lib.hid (by rw [← HZ2.out]; exact H2b.out)
   clear hkc ow oz
   go_wp2
   go_roundw
   case rel => exact ⟨k + 1, X ++ x, Y ++ y, Z2, la2, lb2, Da2, Db2, Cw2, Co2, cw2, co2, WL2, by omega, by go_num, H1b, H2c, MV1c, MV2c, h5, h6, b10, b11, HWL2, k11, hcw2, hsw2, k13, hco2, hsz2, h7, h0⟩
   case measure => simp [intOf] <;> omega
  ·have d0 : decide ((k : Int) < q % 14) = false := by simp only [decide_eq_false_iff_not]; exact hlt
   have hX := H1.out.x
   have hZ := H2.out.y
   have hWb : BlkOk mp.length (26 + 16 * k) WL := by rw [HWL.out]; exact (zeros_ok hm1 hm2 (by omega)).app hX (by omega)
   have hcut : WL.take (16 * k * mp.length) = Z := by rw [HWL.out]; exact H1.out.begins H2.out
   obtain ⟨ad, rfl⟩ := hsw.some_ (by rw [hWb.len]; exact Nat.mul_pos (by omega) (by omega))
   have hbg := begins_any mp.length (16 * k) (26 + 16 * k) Co ad co cw Z WL w12 hcut hZ hWb (by omega) hsz.1 hsw.1 hco hcw
   clear hX hZ hWb hcut hsw hsz hcw hco
   go_upto_region 20 with fail
   refine wp_region_lit ?_
   refine wpList_load_row rfl _ rfl rfl k13 Tryz.underlying60 rfl b60info ?_
   refine wpList_load_row rfl _ rfl rfl k11 Tryz.underlying60 rfl b60info ?_
   refine wpList_plain rfl (fun K hK => ?_)
   go_simp
   refine (hbg).mono ?_
   rintro e w13 ⟨rfl, hq⟩
   refine hK _ _ ?_
   clear hK K
   replace hB := below_grows hB (Nat.le_refl _) hq
   go_wp2
   go_ret
   exact ⟨rfl, hB⟩
end Go.Proofs.YtbfdaojffffaaaaGreat

namespace Go.Proofs.YtbfdaojffffaaaaGreat
open Go.ChangeShapes Go.WideShapes Go.RowKit Go.Deep
section
variable {H : Type} {enc : TypeId × Value → H} {P : Program} {w : World} {base : Nat} {spare : Nat → Bool} {held : Bool} {r : Reach} {b0 : Nat}
end
end Go.Proofs.YtbfdaojffffaaaaGreat

namespace Go.Proofs.YtbfdaojffffaaaaGreat
open Go.ChangeShapes Go.WideShapes Go.RowKit Go.Deep
set_option maxRecDepth 100000 in
/-- A slice of ints among the arguments. -/
theorem open_slice_kind {H : Type} {enc : TypeId × Value → H} {P : Program} {w : World} {r : Reach} {b0 : Nat} {k : IntKind} {t e : TypeId} {v : Value} {d : DataW H} {p : List MemPlace} (ht : P.underlying t = some (.slice e)) (he : P.underlying e = some (.int k)) (hc : P.cellsOf e = 1)
 (hv : Value.okWide P w r b0 t v) (h : DataW.Trod enc P w 0 (fun _ => true) true t v d p) :
 ∃ (A : Option Addr) (c : Nat) (l : List Int), v = .slice A l.length c ∧ Reads w w.heap.size 1 A l.length (l.map (Value.int k)) ∧ l.length ≤ maxLen ∧ l.length ≤ c ∧ ∀ x ∈ l, (Lit.int k x).wf = true := by
 obtain ⟨a0, len, cap, rfl⟩ := okWide_slice ht hv
 obtain ⟨fuel, hf⟩ := h
 rcases open_ints ht he hc hf with ⟨hcs, _⟩ | ⟨a, len', cap', zs, hcs, _, hl, hm, hz, _, hcell, hwz⟩
 ·simp [Value.cells] at hcs
  obtain ⟨rfl, rfl, rfl⟩ := hcs
  exact ⟨none, 0, [], rfl, ⟨by simp, fun h => absurd h (by simp)⟩, by simp, by simp, by simp⟩
 ·simp [Value.cells] at hcs
  obtain ⟨rfl, rfl, rfl⟩ := hcs
  simp only [if_true] at hz
  have hlen : (zs.take len).length = len := by simp; omega
  refine ⟨some a, cap, zs.take len, by rw [hlen], ⟨by simp, fun _ => ⟨a, rfl, ?_, fun j u hu => ?_⟩⟩, by omega, by omega, fun x hx => hwz x (List.mem_of_mem_take hx)⟩
  ·have h0 : 0 < zs.length := by
    rename_i hpos
    rw [hlen] at hpos
    omega
   have := hcell 0 h0
   have hb : (a.add 0).block = a.block := block_of_add a 0
   rw [← hb]
   exact World.block_lt_of_cell? w _ this
  ·rw [List.getElem?_map] at hu
   obtain ⟨x, hx, rfl⟩ := Option.map_eq_some_iff.1 hu
   have hj : j < len := by
    have := (List.getElem?_eq_some_iff.1 hx).1
    rw [hlen] at this
    exact this
   rw [hcell j (by omega)]
   rw [List.getElem?_take, if_pos hj] at hx
   rw [List.getD_eq_getElem?_getD, hx]
   rfl
set_option maxRecDepth 100000 in
theorem u8_bd {n : Int} (h : (Lit.int .u8 n).wf = true) : 0 ≤ n ∧ n ≤ 255 := by
 simpa [Lit.wf, IntKind.min, IntKind.max, IntKind.signed, IntKind.bits] using h
end Go.Proofs.YtbfdaojffffaaaaGreat

namespace Go.Proofs.YtbfdaojffffaaaaGreat
open Go.ChangeShapes Go.WideShapes Go.ChangeAt Go.RowKit
namespace TopCable
set_option maxRecDepth 100000 in
theorem contract (H : Type) (enc : TypeId × Value → H) (W : World) (base : Nat) (args : Array Value) (ds gs : List (DataW H)) (before : List MemPlace)
    (hval0 : ∀ (j : Nat) t v, Tryz.f4.params[j]? = some t → args[j]? = some v → Value.okWide Tryz.prog W .any base t v)
    (hW : DataW.Whole enc Tryz.prog Tryz.f4.params.toList Rows.topCableSpec.vars false W args.toList ds gs before)
    (hsz0 : (DataW.weightsEach Tryz.prog (Tryz.f4.params.toList ++ Rows.topCableSpec.plain.varTypes Tryz.prog) (ds ++ gs)).all (· ≤ reachBytes) = true) :
    Calls Tryz.prog 4 args W fun e W' => ∃ v, e = .returned v ∧ Rows.topCableSpec.post enc Tryz.prog Tryz.f4 false true false false W args v W' := by
  have key : Calls Tryz.prog 4 args W fun e W' => e = .returned (.bool true) ∧ Below W.heap.size W W' := by
    have hval : ∀ (j : Nat) t v, Tryz.f4.params[j]? = some t → args[j]? = some v → Value.okWide Tryz.prog W .any base t v := hval0
    obtain ⟨p, q, hA0, hV, hbe, hfz, hnd⟩ := hW
    have hA : DataW.TrodAll enc Tryz.prog W 0 (fun _ => true) true Tryz.f4.params.toList args.toList ds p := hA0
    rw [Tryz.params4] at hA hval
    clear hA0 hval0
    obtain ⟨v0, vs0, d0, ds0, p0, q0, hargs, rfl, rfl, h0, r0⟩ := trodAll_cons hA
    obtain ⟨v1, vs1, d1, ds1, p1, q1, rfl, rfl, rfl, h1, r1⟩ := trodAll_cons r0
    obtain ⟨rfl, rfl, rfl⟩ := trodAll_nil r1
    obtain rfl : args = #[v0, v1] := by cases args; simp_all
    obtain ⟨rfl, rfl⟩ := trodVars_none hV
    have hsz : (DataW.weightsEach Tryz.prog (Tryz.f4.params.toList ++ Rows.topCableSpec.plain.varTypes Tryz.prog) ([d0, d1] ++ [])).all (· ≤ reachBytes) = true := hsz0
    rw [Tryz.params4] at hsz
    clear hsz0
    obtain ⟨A, c, l, rfl, hI0, hl0, hlen0, hw0⟩ := open_slice_kind Tryz.underlying22 Tryz.underlying5 (by kernel_rfl) (hval 0 22 v0 rfl rfl) h0
    obtain ⟨a1, rfl, rfl, rfl, w1⟩ := open_int Tryz.underlying5 (hval 1 5 v1 rfl rfl) h1
    exact cable_walk A c l a1 W hI0 hlen0 hl0 (fun x hx => u8_bd (hw0 x hx)) (u8_bd w1)
  refine key.mono fun e W' ⟨he, hb⟩ => ⟨_, he, law_post laid_out hW ?_ rfl (by kernel_rfl) Tryz.underlying4 ?_ hb⟩
  · rw [Tryz.params4]
    intro t ht
    simp only [List.mem_cons, List.not_mem_nil, or_false] at ht
    rcases ht with rfl | rfl <;> exact ⟨by kernel_rfl, of_decide_eq_true (by kernel_rfl)⟩
  · rw [Tryz.params4]
    intro ds hl
    match ds, hl with
    | [_, _], _ => rfl

set_option maxRecDepth 100000 in
theorem lifted (os : Os) (started : os.Started) (H : Type) (enc : TypeId × Value → H) :
    ReturnsInHanded {} Tryz.checked os 4 .any (Rows.topCableSpec.pre6 enc Tryz.prog Tryz.f4 Rows.topCableRow.domain false) (Rows.topCableSpec.post enc Tryz.prog Tryz.f4 false true false false) := by
  refine returnsInHanded_of_change_sized (C := Tryz.checked) own_knob started (by kernel_rfl) Tryz.func4
    (ChangeSpec.witness6 (enc := enc) (C := Tryz.checked) false ⟨#[], #[.slice none 0 0, .int .u8 0], []⟩ 8 (by kernel_rfl) (by kernel_rfl) (by kernel_rfl) (by kernel_rfl)) ?_
  intro W base args ds gs before hval0 hW _ hsz0 _
  exact contract H enc W base args ds gs before hval0 hW hsz0

theorem over : Rows.topCableRow.holds Tryz.pinned (OpenSpec.ofChange Rows.topCableSpec) :=
  OpenClaim.holds_of_wide 4 Tryz.f4 rfl rfl rfl rfl rfl rfl rfl ⟨rfl, rfl, rfl, rfl, rfl⟩ rfl rfl rfl rfl rfl (by kernel_rfl) Tryz.func4 (by kernel_rfl)
    (of_decide_eq_true (by kernel_rfl)) (by unfold Func.isWrapper; first | (rw [if_pos (by decide +kernel)]; kernel_rfl) | (rw [if_neg (by decide +kernel)]; exact ⟨rfl, rfl⟩))
    (fun os started H enc _ => lifted os started H enc)

/-- The given statement. -/
theorem proved : Rows.TopCableSaid := over
end TopCable
#print axioms TopCable.proved
end Go.Proofs.YtbfdaojffffaaaaGreat

