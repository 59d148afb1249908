/-
  Layer 9: the contracts once more, with the result as an equation; described sets.
-/
import Derived.Test.YtejdaodchaeglaaSpU
import Derived.Test.YtejdaodchaeglaaSpQ
import Derived.Test.YtejdaodchaeglaaGenD
namespace Go.Proofs.Ytejdaodchaeglaa
open Go.RowKit
theorem valid_is (A : Option Addr) (c : Nat) (l : List Sp) (w : World) (h : Sps w A l) (hl : l.length ≤ 9223372036854775807) (ho : okS l = true) :
    Calls Try.prog 14 #[.agg #[.slice A l.length c]] w fun e w' => e = .returned (.bool true) ∧ Grows w w' := by rw [← ho]; exact valid_any A c l w h hl
theorem has_is (A : Option Addr) (c : Nat) (l : List Sp) (n : Int) (w : World) (h : Sps w A l) (hl : l.length ≤ 9223372036854775807) {b : Bool} (ho : hasF l n = b) :
    Calls Try.prog 16 #[.agg #[.slice A l.length c], .int .i64 n] w fun e w' => e = .returned (.bool b) ∧ Grows w w' := by rw [← ho]; exact has_any A c l n w h hl
theorem inside_is (A : Option Addr) (c : Nat) (l : List Sp) (B : Option Addr) (cb : Nat) (m : List Sp) (w : World) (h : Sps w A l) (hl : l.length ≤ 9223372036854775807) (hm : Sps w B m) (hml : m.length ≤ 9223372036854775807) (ho : insideF l m = true) :
    Calls Try.prog 24 #[.agg #[.slice A l.length c], .agg #[.slice B m.length cb]] w fun e w' => e = .returned (.bool true) ∧ Grows w w' := by rw [← ho]; exact inside_any A c l B cb m w h hl hm hml
theorem inter_is (A : Option Addr) (c : Nat) (l : List Sp) (B : Option Addr) (cb : Nat) (m o : List Sp) (w : World) (h : Sps w A l) (hl : l.length ≤ 9223372036854775807) (hm : Sps w B m) (hml : m.length ≤ 9223372036854775807) (ho : (interF (spansF l) (spansF m)).take 64 = o) :
    Calls Try.prog 21 #[.agg #[.slice A l.length c], .agg #[.slice B m.length cb]] w fun e w' => (∃ v, e = .returned v ∧ SetV w' o v) ∧ Grows w w' := by rw [← ho]; exact inter_any A c l B cb m w h hl hm hml
theorem union_is (A : Option Addr) (c : Nat) (l : List Sp) (B : Option Addr) (cb : Nat) (m o : List Sp) (w : World) (h : Sps w A l) (hl : l.length ≤ 9223372036854775807) (hm : Sps w B m) (hml : m.length ≤ 9223372036854775807) (ho : uniF l m = (o, 0)) :
    Calls Try.prog 20 #[.agg #[.slice A l.length c], .agg #[.slice B m.length cb]] w fun e w' => (∃ v, e = .returned (.tuple #[v, .int .i64 0]) ∧ SetV w' o v) ∧ Grows w w' := by
  have := union_any A c l B cb m w h hl hm hml
  rw [ho] at this
  exact this
/-- A set that is described. -/
def gSet (l : List Sp) : GP := ⟨fun w v => SetV w l v, fun _ _ _ h g => h.grows g⟩
/-- A made set. -/
def gMade : GP := ⟨fun w v => ∃ s, SetV w s v ∧ s.length ≤ 20, fun _ _ _ ⟨s, h, hl⟩ g => ⟨s, h.grows g, hl⟩⟩
/-- Two sets in a slice. -/
def SetsV (w : World) (v : Value) : Prop := ∃ ad : Addr, v = .slice (some ad) 2 2 ∧ ad.block < w.heap.size ∧ ∀ k < 2, ∃ A c l, w.cell? (ad.add k) = some (.slice A l.length c) ∧ Sps w A l ∧ l.length ≤ 9223372036854775807
theorem SetsV.grows {w w' : World} {v : Value} (h : SetsV w v) (hg : Grows w w') : SetsV w' v := by
  obtain ⟨ad, e, hb, hc⟩ := h
  refine ⟨ad, e, Nat.lt_of_lt_of_le hb hg.size, fun k hk => ?_⟩
  obtain ⟨A, c, l, h1, h2, h3⟩ := hc k hk
  exact ⟨A, c, l, (hg.cell (p := ad.add k) (by rw [block_of_add]; exact hb)).trans h1, h2.grows hg, h3⟩
def gSets : GP := ⟨SetsV, fun _ _ _ h g => h.grows g⟩
theorem sets_lit {w : World} {A B : Option Addr} {c cb : Nat} {l m : List Sp} (h : Sps w A l) (hl : l.length ≤ 9223372036854775807) (hm : Sps w B m) (hml : m.length ≤ 9223372036854775807) :
    SetsV (w.alloc (Obj.cells #[.slice A l.length c, .slice B m.length cb] 24)) (.slice (some ⟨w.heap.size, 0, none⟩) 2 2) := by
  have hg := (Below.refl w.heap.size w).alloc (Nat.le_refl _) (Obj.cells #[.slice A l.length c, .slice B m.length cb] 24)
  have kb := Blk.new w 24 #[.slice A l.length c, .slice B m.length cb]
  refine ⟨_, rfl, kb.lt, fun k hk => ?_⟩
  have ha : (⟨w.heap.size, 0, none⟩ : Addr).add k = ⟨w.heap.size, k, none⟩ := by
    unfold Addr.add
    split
    · simp_all
    · simp
  rw [ha, kb.cell]
  match k, hk with
  | 0, _ => exact ⟨A, c, l, rfl, h.grows hg, hl⟩
  | 1, _ => exact ⟨B, cb, m, rfl, hm.grows hg, hml⟩
end Go.Proofs.Ytejdaodchaeglaa
