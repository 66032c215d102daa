/- The document's product and power. -/
import Derived.Test.YtdmcbfmpnakdfaaQk
import Derived.Test.YtdmcbfmpnakdfaaGfRef
namespace Go.Proofs.Ytdmcbfmpnakdfaa.Eng
open Go Go.Proofs Go.Proofs.Ytdmcbfmpnakdfaa.Gf
set_option maxRecDepth 20000
set_option maxHeartbeats 4000000
theorem c123 : Callable Try.prog 123 := ⟨⟨_, Try.func123, by kernel_rfl, by kernel_rfl⟩⟩
theorem c124 : Callable Try.prog 124 := ⟨⟨_, Try.func124, by kernel_rfl, by kernel_rfl⟩⟩
theorem xor64 {a b : Nat} (ha : a < 2 ^ 62) (hb : b < 2 ^ 62) : arithI .xor .i64 (a : Nat) (b : Nat) = some ((a ^^^ b : Nat) : Int) := by
  have hx : a ^^^ b < 2 ^ 62 := Nat.xor_lt_two_pow (n := 62) ha hb
  show some (IntKind.i64.wrap ((BitVec.ofInt 64 (a : Int) ^^^ BitVec.ofInt 64 (b : Int)).toNat : Int)) = _
  rw [BitVec.toNat_xor, BitVec.toNat_ofInt, BitVec.toNat_ofInt]
  have e1 : ((a : Int) % ((2 ^ 64 : Nat) : Int)).toNat = a := by omega
  have e2 : ((b : Int) % ((2 ^ 64 : Nat) : Int)).toNat = b := by omega
  rw [e1, e2, IntWalk.i64_in _ ⟨by omega, by omega⟩]
theorem and64 {a : Nat} (ha : a < 2 ^ 62) : arithI .and .i64 (a : Nat) 1 = some ((a % 2 : Nat) : Int) := by
  show some (IntKind.i64.wrap ((BitVec.ofInt 64 (a : Int) &&& BitVec.ofInt 64 1).toNat : Int)) = _
  rw [BitVec.toNat_and, BitVec.toNat_ofInt]
  have e1 : ((a : Int) % ((2 ^ 64 : Nat) : Int)).toNat = a := by omega
  rw [e1, show (BitVec.ofInt 64 1).toNat = 1 by rfl, Nat.and_one_is_mod, IntWalk.i64_in _ ⟨by omega, by omega⟩]
theorem shrN (k : IntKind) {a i : Nat} (hi : i ≤ k.bits) : shiftI .shr k (a : Nat) (i : Nat) = some ((a / 2 ^ i : Nat) : Int) := by
  show (if (i : Int) < 0 then none else some (((a : Nat) : Int).fdiv (2 ^ (min (i : Int).toNat k.bits)))) = _
  rw [if_neg (by omega), Int.toNat_natCast, Nat.min_eq_left hi, Int.fdiv_eq_ediv_of_nonneg _ (Int.le_of_lt (Int.pow_pos (by decide)))]
  congr 1
theorem shl1i {i : Nat} (hi : i < 15) : shiftI .shl .i64 1 (i : Nat) = some ((2 ^ i : Nat) : Int) := by
  have : ∀ i : Fin 15, shiftI .shl .i64 1 (i.1 : Nat) = some ((2 ^ i.1 : Nat) : Int) := by decide +kernel
  exact this ⟨i, hi⟩
theorem shl285 {i : Nat} (hi : i < 7) : shiftI .shl .i64 285 (i : Nat) = some ((285 * 2 ^ i : Nat) : Int) := by
  have : ∀ i : Fin 7, shiftI .shl .i64 285 (i.1 : Nat) = some ((285 * 2 ^ i.1 : Nat) : Int) := by decide +kernel
  exact this ⟨i, hi⟩
theorem wrap64 {i : Nat} (hi : i < 2 ^ 62) : IntKind.u64.wrap (i : Nat) = (i : Nat) := by
  rw [show IntKind.u64.wrap ((i : Nat) : Int) = ((i : Nat) : Int) % 2 ^ 64 by rfl]
  omega
def innF (a b n i : Nat) : Nat → Nat
  | 0 => n
  | j + 1 => if (a / 2 ^ i) % 2 = 1 then (if (b / 2 ^ j) % 2 = 1 then innF a b n i j ^^^ 2 ^ (i + j) else innF a b n i j) else innF a b n i j
theorem innF_eq (a b n i : Nat) : ∀ d j, inn d a b (innF a b n i j) i j = innF a b n i (j + d)
  | 0, j => rfl
  | d + 1, j => by
    rw [show j + (d + 1) = j + 1 + d by omega, ← innF_eq a b n i d (j + 1)]; rfl
def outF (a b : Nat) : Nat → Nat
  | 0 => 0
  | i + 1 => innF a b (outF a b i) i 8
theorem outF_eq (a b : Nat) : ∀ d i, outr d a b (outF a b i) i = outF a b (i + d)
  | 0, i => rfl
  | d + 1, i => by
    rw [show i + (d + 1) = i + 1 + d by omega, ← outF_eq a b d (i + 1)]
    show outr d a b (inn 8 a b (outF a b i) i 0) (i + 1) = _
    rw [show inn 8 a b (outF a b i) i 0 = outF a b (i + 1) from innF_eq a b (outF a b i) i 8 0]
def redF (n : Nat) : Nat → Nat
  | 0 => n
  | t + 1 => if (redF n t / 2 ^ (14 - t)) % 2 = 1 then redF n t ^^^ 285 * 2 ^ (6 - t) else redF n t
theorem redF_eq (n : Nat) : ∀ d t, d + t = 7 → red d (redF n t) = redF n 7
  | 0, t, h => by rw [show t = 7 by omega]; rfl
  | d + 1, t, h => by
    rw [← redF_eq n d (t + 1) (by omega)]
    show red d (if (redF n t / 2 ^ (d + 8)) % 2 = 1 then redF n t ^^^ 285 * 2 ^ d else redF n t) = red d (redF n (t + 1))
    congr 1
    show _ = if (redF n t / 2 ^ (14 - t)) % 2 = 1 then redF n t ^^^ 285 * 2 ^ (6 - t) else redF n t
    rw [show 14 - t = d + 8 by omega, show 6 - t = d by omega]
theorem innF_lt {a b n i : Nat} (hn : n < 2 ^ 15) (hi : i < 8) : ∀ j, j ≤ 8 → innF a b n i j < 2 ^ 15
  | 0, _ => hn
  | j + 1, hj => by
    have ih := innF_lt (a := a) (b := b) hn hi j (by omega)
    unfold innF
    split
    · split
      · exact Nat.xor_lt_two_pow ih (Nat.pow_lt_pow_right (by decide) (by omega))
      · exact ih
    · exact ih
theorem outF_lt (a b : Nat) : ∀ i, i ≤ 8 → outF a b i < 2 ^ 15
  | 0, _ => show 0 < 2 ^ 15 by decide
  | i + 1, h => innF_lt (outF_lt a b i (by omega)) (by omega) 8 (Nat.le_refl _)
theorem redF_lt {n : Nat} (hn : n < 2 ^ 15) : ∀ t, t ≤ 7 → redF n t < 2 ^ 15
  | 0, _ => hn
  | t + 1, h => by
    have ih := redF_lt hn t (by omega)
    unfold redF
    split
    · have : ∀ d, d < 7 → 285 * 2 ^ d < 2 ^ 15 := by decide
      exact Nat.xor_lt_two_pow ih (this _ (by omega))
    · exact ih
theorem refmulF (a b : Nat) : refmul a b = redF (outF a b 8) 7 % 256 := by
  unfold refmul
  rw [show outr 8 a b 0 0 = outF a b 8 from outF_eq a b 8 0, show red 7 (outF a b 8) = redF (outF a b 8) 7 from redF_eq _ 7 0 rfl]
end Go.Proofs.Ytdmcbfmpnakdfaa.Eng
