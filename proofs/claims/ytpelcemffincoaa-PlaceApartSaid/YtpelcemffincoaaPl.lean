/- Plain facts on columns, members and numbers. -/
import Derived.RowKit
namespace Go.Proofs.Ytpelcemffincoaa.Pl
open Go.RowKit

theorem emod_is {a M c q : Int} (h : a = c + M * q) (h0 : 0 ≤ c) (h1 : c < M) : a % M = c := by
  rw [h, Int.add_mul_emod_self_left, Int.emod_eq_of_lt h0 h1]

def colv (M row n : Int) : Int := (n + row) % M
def memv (M row c : Int) : Int := (c + M - row % M) % M

theorem colv_rng {M row n : Int} (h : 0 < M) : 0 ≤ colv M row n ∧ colv M row n < M := ⟨Int.emod_nonneg _ (by omega), Int.emod_lt_of_pos _ h⟩
theorem memv_rng {M row n : Int} (h : 0 < M) : 0 ≤ memv M row n ∧ memv M row n < M := ⟨Int.emod_nonneg _ (by omega), Int.emod_lt_of_pos _ h⟩

theorem colv_memv {M row c : Int} (h0 : 0 ≤ c) (h1 : c < M) : colv M row (memv M row c) = c := by
  unfold colv memv
  have e1 := Int.emod_def row M
  have e2 := Int.emod_def (c + M - row % M) M
  refine emod_is (q := 1 + row / M - (c + M - row % M) / M) ?_ h0 h1
  rw [Int.mul_sub, Int.mul_add, Int.mul_one]
  omega

theorem memv_colv {M row n : Int} (h0 : 0 ≤ n) (h1 : n < M) : memv M row (colv M row n) = n := by
  unfold colv memv
  have e1 := Int.emod_def row M
  have e2 := Int.emod_def (n + row) M
  refine emod_is (q := 1 + row / M - (n + row) / M) ?_ h0 h1
  rw [Int.mul_sub, Int.mul_add, Int.mul_one]
  omega

/-- A number out of a quotient and a rest. -/
theorem div_is {n w q r : Int} (h : n = q * w + r) (h0 : 0 ≤ r) (h1 : r < w) : n / w = q ∧ n % w = r := by
  have e : n = r + w * q := by rw [h, Int.mul_comm]; omega
  refine ⟨?_, ?_⟩
  · rw [e, Int.add_mul_ediv_left _ _ (by omega), Int.ediv_eq_zero_of_lt h0 h1]; omega
  · rw [e, Int.add_mul_emod_self_left, Int.emod_eq_of_lt h0 h1]

theorem div_rng {n w R : Int} (hw : 0 < w) (h0 : 0 ≤ n) (h1 : n < R * w) : 0 ≤ n / w ∧ n / w < R ∧ 0 ≤ n % w ∧ n % w < w ∧ n = (n / w) * w + n % w := by
  refine ⟨Int.ediv_nonneg h0 (by omega), Int.ediv_lt_of_lt_mul hw h1, Int.emod_nonneg _ (by omega), Int.emod_lt_of_pos _ hw, ?_⟩
  have := Int.emod_def n w
  rw [Int.mul_comm]
  omega

theorem mul_rng {a b A B : Int} (h0 : 0 ≤ a) (h1 : a ≤ A) (h2 : 0 ≤ b) (h3 : b ≤ B) : 0 ≤ a * b ∧ a * b ≤ A * B :=
  ⟨Int.mul_nonneg h0 h2, Int.mul_le_mul h1 h3 h2 (by omega)⟩

theorem wr {x : Int} (h0 : -9223372036854775808 ≤ x) (h1 : x < 9223372036854775808) : wrap64 x = x := by unfold wrap64; omega
theorem tmod_pos {a b : Int} (h : 0 ≤ a) : Int.tmod a b = a % b := Int.tmod_eq_emod_of_nonneg h
theorem tdiv_pos {a b : Int} (h : 0 ≤ a) : Int.tdiv a b = a / b := Int.tdiv_eq_ediv_of_nonneg h

/-- A geometry. -/
structure Geo (M R : Int) : Prop where
  m0 : 4 ≤ M
  m1 : M ≤ 64
  r0 : 1 ≤ R
  r1 : R ≤ 64
end Go.Proofs.Ytpelcemffincoaa.Pl
