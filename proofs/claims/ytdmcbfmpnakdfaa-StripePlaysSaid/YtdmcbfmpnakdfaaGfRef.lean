/- The document's product of bytes (polynomials multiplied, then divided) is the product of the field. -/
import Derived.Test.YtdmcbfmpnakdfaaGf
namespace Go.Proofs.Ytdmcbfmpnakdfaa.Gf

/-- The inner loop of the document's product. -/
def inn : Nat → Nat → Nat → Nat → Nat → Nat → Nat
  | 0, _, _, n, _, _ => n
  | d + 1, a, b, n, i, j => inn d a b (if (a / 2 ^ i) % 2 = 1 then (if (b / 2 ^ j) % 2 = 1 then n ^^^ 2 ^ (i + j) else n) else n) i (j + 1)
/-- The outer loop. -/
def outr : Nat → Nat → Nat → Nat → Nat → Nat
  | 0, _, _, n, _ => n
  | d + 1, a, b, n, i => outr d a b (inn 8 a b n i 0) (i + 1)
/-- The division: from bit 7 + d on downwards. -/
def red : Nat → Nat → Nat
  | 0, n => n
  | d + 1, n => red d (if (n / 2 ^ (d + 8)) % 2 = 1 then n ^^^ 285 * 2 ^ d else n)
def refmul (a b : Nat) : Nat := red 7 (outr 8 a b 0 0) % 256

theorem div_xor (a b i : Nat) : (a ^^^ b) / 2 ^ i % 2 = (a / 2 ^ i % 2) ^^^ (b / 2 ^ i % 2) := by
  have h := Nat.shiftRight_xor_distrib (a := a) (b := b) (i := i)
  rw [Nat.shiftRight_eq_div_pow, Nat.shiftRight_eq_div_pow, Nat.shiftRight_eq_div_pow] at h
  rw [h]
  exact Nat.xor_mod_two_pow (n := 1)

theorem inn_lin (d : Nat) : ∀ a b c n m i j, inn d a (b ^^^ c) (n ^^^ m) i j = inn d a b n i j ^^^ inn d a c m i j := by
  induction d with
  | zero => intro a b c n m i j; rfl
  | succ d ih =>
    intro a b c n m i j
    unfold inn
    rw [← ih]
    congr 1
    rw [div_xor b c j]
    by_cases h : (a / 2 ^ i) % 2 = 1
    · simp only [h, if_true]
      rcases Nat.mod_two_eq_zero_or_one (b / 2 ^ j) with e | e <;> rcases Nat.mod_two_eq_zero_or_one (c / 2 ^ j) with f | f <;> simp [e, f]
      · ac_rfl
      · ac_rfl
      · rw [show n ^^^ 2 ^ (i + j) ^^^ (m ^^^ 2 ^ (i + j)) = n ^^^ m ^^^ (2 ^ (i + j) ^^^ 2 ^ (i + j)) by ac_rfl]; simp
    · simp [h]

theorem outr_lin (d : Nat) : ∀ a b c n m i, outr d a (b ^^^ c) (n ^^^ m) i = outr d a b n i ^^^ outr d a c m i := by
  induction d with
  | zero => intro a b c n m i; rfl
  | succ d ih =>
    intro a b c n m i
    unfold outr
    rw [inn_lin, ih]

theorem red_lin (d : Nat) : ∀ n m, red d (n ^^^ m) = red d n ^^^ red d m := by
  induction d with
  | zero => intro n m; rfl
  | succ d ih =>
    intro n m
    unfold red
    rw [← ih]
    congr 1
    rw [div_xor n m (d + 8)]
    rcases Nat.mod_two_eq_zero_or_one (n / 2 ^ (d + 8)) with e | e <;> rcases Nat.mod_two_eq_zero_or_one (m / 2 ^ (d + 8)) with f | f <;> simp [e, f]
    · ac_rfl
    · ac_rfl
    · rw [show n ^^^ 285 * 2 ^ d ^^^ (m ^^^ 285 * 2 ^ d) = n ^^^ m ^^^ (285 * 2 ^ d ^^^ 285 * 2 ^ d) by ac_rfl]; simp

theorem refmul_lin (a b c : Nat) : refmul a (b ^^^ c) = refmul a b ^^^ refmul a c := by
  unfold refmul
  have h := outr_lin 8 a b c 0 0 0
  rw [Nat.xor_self] at h
  rw [h, red_lin]
  exact Nat.xor_mod_two_pow (n := 8)

theorem top_bit : ∀ n, n < 8 → ∀ b, b < 256 → 2 ^ n ≤ b → b < 2 ^ (n + 1) → b = 2 ^ n ^^^ (b - 2 ^ n) := by decide +kernel

/-- Two sums of bits that agree at each bit agree at each byte. -/
theorem lin_ext (f g : Nat → Nat) (hf : ∀ x y, f (x ^^^ y) = f x ^^^ f y) (hg : ∀ x y, g (x ^^^ y) = g x ^^^ g y)
    (h0 : f 0 = g 0) (h : ∀ n, n < 8 → f (2 ^ n) = g (2 ^ n)) : ∀ b, b < 256 → f b = g b := by
  have key : ∀ n, n ≤ 8 → ∀ b, b < 2 ^ n → f b = g b := by
    intro n
    induction n with
    | zero => intro _ b hb; have : b = 0 := by simp at hb; exact hb
              rw [this, h0]
    | succ n ih =>
      intro hn b hb
      by_cases hlt : b < 2 ^ n
      · exact ih (by omega) b hlt
      · have h256 : b < 256 := Nat.lt_of_lt_of_le hb (Nat.pow_le_pow_right (n := 2) (by decide) (by omega : n + 1 ≤ 8))
        have e := top_bit n (by omega) b h256 (by omega) hb
        rw [e, hf, hg, h n (by omega), ih (by omega) (b - 2 ^ n) (by rw [Nat.pow_succ] at hb; omega)]
  exact key 8 (by decide)

theorem refmul_basis : ∀ a, a < 256 → refmul a 0 = gmul a 0 ∧ (∀ n, n < 8 → refmul a (2 ^ n) = gmul a (2 ^ n)) := by decide +kernel

theorem refmul_gmul {a b : Nat} (ha : a < 256) (hb : b < 256) : refmul a b = gmul a b :=
  lin_ext (refmul a) (gmul a) (refmul_lin a) (fun x y => gmul_xor_right a x y) (refmul_basis a ha).1 (refmul_basis a ha).2 b hb

end Go.Proofs.Ytdmcbfmpnakdfaa.Gf
