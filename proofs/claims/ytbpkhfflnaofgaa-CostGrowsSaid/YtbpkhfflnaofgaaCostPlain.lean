/-
  Plain laws of layer 24: costs grow; a sum does not hang on the order; a share is at most 100 exactly if the cost is at most the capacity. No program in sight.
-/
import Derived.Test.YtbpkhfflnaofgaaCostA
namespace Go.Proofs.Ytbpkhfflnaofgaa

theorem streamF_eq {i o p : Int} (h : 1 ≤ i ∧ i ≤ 8 ∧ 1 ≤ o ∧ o ≤ 8 ∧ 16 ≤ p ∧ p ≤ 8192) : streamF i o p = 300 + (4 * i + i * o + 2 * o) * p := by
  have : okS i o p = true := by simp [okS, inB, h]
  simp [streamF, this]
theorem deviceF_eq {c p : Int} (h : 1 ≤ c ∧ c ≤ 8 ∧ 16 ≤ p ∧ p ≤ 8192) : deviceF c p = 400 + 8 * c * p := by
  have : okS c 1 p = true := by simp [okS, inB, h]
  simp [deviceF, this]
theorem stream_grows {i o p : Int} (h1 : 1 ≤ i) (h2 : i ≤ 7) (h3 : 1 ≤ o) (h4 : o ≤ 7) (h5 : 16 ≤ p) (h6 : p ≤ 8191) :
    1 ≤ streamF i o p ∧ streamF i o p < streamF (i + 1) o p ∧ streamF i o p < streamF i (o + 1) p ∧ streamF i o p < streamF i o (p + 1) := by
  rw [streamF_eq (by omega), streamF_eq (by omega), streamF_eq (by omega), streamF_eq (by omega)]
  have q0 : 0 < i * o := Int.mul_pos (by omega) (by omega)
  have q1 : 0 < (4 * i + i * o + 2 * o) * p := Int.mul_pos (by omega) (by omega)
  have q2 : 0 < (4 + o) * p := Int.mul_pos (by omega) (by omega)
  have q3 : 0 < (i + 2) * p := Int.mul_pos (by omega) (by omega)
  have e1 : (4 * (i + 1) + (i + 1) * o + 2 * o) * p = (4 * i + i * o + 2 * o) * p + (4 + o) * p := by
    rw [← Int.add_mul, Int.add_mul i 1 o]; congr 1; omega
  have e2 : (4 * i + i * (o + 1) + 2 * (o + 1)) * p = (4 * i + i * o + 2 * o) * p + (i + 2) * p := by
    rw [← Int.add_mul, Int.mul_add i o 1]; congr 1; omega
  have e3 : (4 * i + i * o + 2 * o) * (p + 1) = (4 * i + i * o + 2 * o) * p + (4 * i + i * o + 2 * o) := by
    rw [Int.mul_add, Int.mul_one]
  rw [e1, e2, e3]
  omega
theorem device_grows {c p : Int} (h1 : 1 ≤ c) (h2 : c ≤ 7) (h5 : 16 ≤ p) (h6 : p ≤ 8191) :
    1 ≤ deviceF c p ∧ deviceF c p < deviceF (c + 1) p ∧ deviceF c p < deviceF c (p + 1) := by
  rw [deviceF_eq (by omega), deviceF_eq (by omega), deviceF_eq (by omega)]
  have q1 : 0 < 8 * c * p := Int.mul_pos (by omega) (by omega)
  have e1 : 8 * (c + 1) * p = 8 * c * p + 8 * p := by rw [← Int.add_mul]; congr 1; omega
  have e2 : 8 * c * (p + 1) = 8 * c * p + 8 * c := by rw [Int.mul_add, Int.mul_one]
  rw [e1, e2]
  omega
theorem totF_sum : ∀ (l : List Int) (s : Int), 0 ≤ s → s ≤ 1099511627776 → l.foldl (fun s n => min (s + clampF n) 1099511627776) s = min (s + (l.map clampF).sum) 1099511627776
  | [], s, _, h2 => by simp; omega
  | x :: l, s, h1, h2 => by
    have hx := clampF_bd x
    have hs : 0 ≤ (l.map clampF).sum := by
      clear h1 h2
      induction l with
      | nil => simp
      | cons y l ih => have := clampF_bd y; simp only [List.map_cons, List.sum_cons]; omega
    rw [List.foldl_cons, totF_sum l _ (by omega) (by omega), List.map_cons, List.sum_cons]
    omega
theorem totF_reverse (l : List Int) : totF l.reverse = totF l := by
  unfold totF
  rw [totF_sum _ _ (by omega) (by omega), totF_sum _ _ (by omega) (by omega), List.map_reverse, List.sum_reverse]
theorem share_law {c k : Int} (h1 : 0 ≤ c) (h2 : c ≤ 1000000) (h3 : 1 ≤ k) (h4 : k ≤ 1000000) : (shareF c k ≤ 100) ↔ (c ≤ k) := by
  have : okH c k = true := by simp [okH, inB]; omega
  rw [shareF, this, if_pos rfl]
  have : (c * 100 + k - 1) / k < 101 ↔ c * 100 + k - 1 < 101 * k := Int.ediv_lt_iff_lt_mul (by omega)
  omega
end Go.Proofs.Ytbpkhfflnaofgaa
