/- The square of a sum is the sum of the squares, and each byte is one byte's square: of all bytes, no condition. -/
import Derived.Test.YtdcanfjpnohhjaaPGfSquaresx1
import Derived.Test.YtdcanfjpnohhjaaGf
import Derived.Laws.BitsLemmas
namespace Go.Proofs.Ytdcanfjpnohhjaa.BrGfSquares
open Go.Proofs.YtdcanfjpnohhjaaW.PrintMore Go.RowKit Go.Proofs.Ytdcanfjpnohhjaa.PGfSquares Go.Proofs.YtdcanfjpnohhjaaW.PrintWords Go.Proofs.YtdcanfjpnohhjaaW.PrintLast Go.Proofs.Ytdcanfjpnohhjaa.Gf

theorem xor8 {a b : Nat} (ha : a < 256) (hb : b < 256) : Go.bits .xor .u8 (a : Int) (b : Int) = ((a ^^^ b : Nat) : Int) := by
  have h := xor_lt ha hb
  have e : (BitVec.ofNat 8 a ^^^ BitVec.ofNat 8 b).toNat = a ^^^ b := by
    rw [BitVec.toNat_xor, BitVec.toNat_ofNat, BitVec.toNat_ofNat, Nat.mod_eq_of_lt (by omega), Nat.mod_eq_of_lt (by omega)]
  show IntKind.u8.wrap (((BitVec.ofInt 8 (a : Int) ^^^ BitVec.ofInt 8 (b : Int)).toNat : Nat) : Int) = _
  rw [BitVec.ofInt_natCast, BitVec.ofInt_natCast, e, IntKind.wrap_u8]
  omega

theorem and1_8 {b : Nat} (hb : b < 256) : Go.bits .and .u8 (b : Int) 1 = ((b % 2 : Nat) : Int) := by
  have h := bits_mask .u8 8 (by decide) wraps_u8 1 (by decide) (b : Int) (by omega) (by omega)
  rw [show (1 : Int) = 2 ^ 1 - 1 from rfl, h]; omega

theorem xt8 (a : Nat) : Go.bits .xor .u8 (((a : Int) * 2) % 256) ((((a : Int) / 128) * 29) % 256) = ((xt a : Nat) : Int) := by
  have h := xor8 (a := a * 2 % 256) (b := a / 128 * 29 % 256) (Nat.mod_lt _ (by decide)) (Nat.mod_lt _ (by decide))
  unfold xt
  rw [← h]
  congr 1

theorem mul_l0 (n : Nat) : ∀ (k a b o : Nat) (i : Int), i = 8 - (n : Int) → n ≤ 8 → n < k → a < 256 → b < 256 → o < 256 →
    gf_Mul.l0 k (a : Int) (b : Int) (o : Int) i = some ((mstep n a b o : Nat) : Int) := by
  induction n with
  | zero =>
    intro k a b o i hi _ hk _ _ _
    obtain ⟨k, rfl⟩ : ∃ m, k = m + 1 := ⟨k - 1, by omega⟩
    simp only [gf_Mul.l0]; rw [if_neg (by omega)]; rfl
  | succ n ih =>
    intro k a b o i hi hn hk ha hb ho
    obtain ⟨k, rfl⟩ : ∃ m, k = m + 1 := ⟨k - 1, by omega⟩
    have hw : wrap64 (i + 1) = i + 1 := by unfold wrap64; omega
    have hd : ((b : Int) / 2) = ((b / 2 : Nat) : Int) := by omega
    simp only [gf_Mul.l0]
    rw [if_pos (by omega), and1_8 hb, xt8 a, hw, hd, xor8 ho ha]
    by_cases h : b % 2 = 0
    · rw [if_pos (by omega), ih k _ _ _ _ (by omega) (by omega) (by omega) (xt_lt ha) (by omega) ho]
      simp [mstep, h]
    · rw [if_neg (by omega), ih k _ _ _ _ (by omega) (by omega) (by omega) (xt_lt ha) (by omega) (xor_lt ho ha)]
      simp [mstep, h]

theorem mul_f {k a b : Nat} (hk : 8 < k) (ha : a < 256) (hb : b < 256) : gf_Mul.f k (a : Int) (b : Int) = some ((gmul a b : Nat) : Int) := by
  unfold gf_Mul.f
  exact mul_l0 8 k a b 0 0 (by decide) (by decide) hk ha hb (by decide)

/-- Square and multiply. -/
theorem pow_l0 (d : Nat) : ∀ (k n o s : Nat), n ≤ d → n < 255 → d + 9 < k →
    gf_Pow.l0 k (n : Int) ((pw o : Nat) : Int) ((pw s : Nat) : Int) = some ((pw (o + n * s) : Nat) : Int) := by
  induction d with
  | zero =>
    intro k n o s hn hn' hk
    obtain ⟨k, rfl⟩ : ∃ m, k = m + 1 := ⟨k - 1, by omega⟩
    obtain rfl : n = 0 := by omega
    simp [gf_Pow.l0]
  | succ d ih =>
    intro k n o s hn hn' hk
    obtain ⟨k, rfl⟩ : ∃ m, k = m + 1 := ⟨k - 1, by omega⟩
    by_cases h0 : n = 0
    · subst h0; simp [gf_Pow.l0]
    · have hb : Go.bits .and .i64 (n : Int) 1 = ((n % 2 : Nat) : Int) := by
        have h := bits_mask .i64 63 (by decide) (fun m h0 h1 => by simp [IntKind.wrap, IntKind.bits, IntKind.signed] at *; omega) 1 (by decide) (n : Int) (by omega) (by omega)
        rw [show (1 : Int) = 2 ^ 1 - 1 from rfl, h]; omega
      have hd : ((n : Int) / 2) = ((n / 2 : Nat) : Int) := by omega
      simp only [gf_Pow.l0]
      rw [if_pos (by omega), hb, mul_f (by omega) (pw_lt s) (pw_lt s), mul_f (by omega) (pw_lt o) (pw_lt s), pw_add, pw_add, hd]
      simp only [Option.bind_some]
      by_cases h : n % 2 = 0
      · rw [if_pos (by omega), ih k _ _ _ (by omega) (by omega) (by omega)]
        congr 3
        have : n / 2 * (s + s) = n * s := by
          rw [← Nat.two_mul, ← Nat.mul_assoc, Nat.div_mul_cancel (Nat.dvd_of_mod_eq_zero h)]
        omega
      · rw [if_neg (by omega), ih k _ _ _ (by omega) (by omega) (by omega)]
        congr 3
        have e : n = 2 * (n / 2) + 1 := by omega
        have : n / 2 * (s + s) + s = n * s := by
          conv => rhs; rw [e, Nat.add_mul, Nat.one_mul]
          rw [← Nat.two_mul, ← Nat.mul_assoc, Nat.mul_comm (n/2) 2]
        omega

theorem pow_f {k : Nat} (n : Int) (hk : 300 < k) : gf_Pow.f k n = some ((pwZ n : Nat) : Int) := by
  have hl : ∀ m : Nat, m < 255 → gf_Pow.j0 k (m : Int) = some ((pw m : Nat) : Int) := by
    intro m hm
    obtain ⟨k, rfl⟩ : ∃ j, k = j + 1 := ⟨k - 1, by omega⟩
    simp only [gf_Pow.j0]
    have h := pow_l0 254 k m 0 1 (by omega) hm (by omega)
    rw [show 0 + m * 1 = m by omega] at h
    exact h
  unfold gf_Pow.f
  unfold pwZ
  have h1 := Int.tmod_eq_emod (a := n) (b := 255)
  have h3 : Int.natAbs 255 = 255 := rfl
  by_cases h : Int.tmod n 255 < 0
  · rw [if_pos h]
    have hw : wrap64 (Int.tmod n 255 + 255) = (((n % 255).toNat : Nat) : Int) := by
      unfold wrap64
      have h2 : 0 ≤ n % 255 := Int.emod_nonneg _ (by decide)
      split at h1 <;> omega
    rw [hw, hl _ (by omega)]
  · rw [if_neg h]
    have hw : Int.tmod n 255 = (((n % 255).toNat : Nat) : Int) := by
      have h2 : 0 ≤ n % 255 := Int.emod_nonneg _ (by decide)
      split at h1 <;> omega
    rw [hw, hl _ (by omega)]

theorem awake_f {k : Nat} (hk : 300 < k) : casematelaw01_awake.f k = some true := by
  unfold casematelaw01_awake.f
  have m1 := mul_f (k := k) (a := 2) (b := 128) (by omega) (by decide) (by decide)
  have m2 := mul_f (k := k) (a := 3) (b := 3) (by omega) (by decide) (by decide)
  have e1 : gmul 2 128 = 29 := by decide +kernel
  have e2 : gmul 3 3 = 5 := by decide +kernel
  have e3 : pwZ 8 = 29 := by decide +kernel
  have e4 : pwZ (-255) = 1 := by decide +kernel
  rw [e1] at m1; rw [e2] at m2
  have p1 := pow_f (k := k) 8 hk
  have p2 := pow_f (k := k) (-255) hk
  rw [e3] at p1; rw [e4] at p2
  have q1 : gf_Mul.f k 2 128 = some 29 := m1
  have q2 : gf_Mul.f k 3 3 = some 5 := m2
  have q3 : gf_Pow.f k 8 = some 29 := p1
  have q4 : gf_Pow.f k (-255) = some 1 := p2
  rw [q1, q2, q3, q4]
  rfl

/-- A byte of a row is a number below 256. -/
theorem byte_nat {a : Int} (h : (Lit.int .u8 a).wf = true) : ∃ n : Nat, n < 256 ∧ a = (n : Int) := by
  have h' : 0 ≤ a ∧ a ≤ 255 := by
    simp [Lit.wf, IntKind.min, IntKind.max, IntKind.bits, IntKind.signed] at h
    exact h
  exact ⟨a.toNat, by omega, by omega⟩

/-- A power of two as exponent: so many squares. -/
theorem squares_l0 (d : Nat) : ∀ (k a b x y n i : Nat), i + d = 7 → d + 400 < k → a < 256 → b < 256 → x = gmul a a → y = gmul b b →
    (a = 0 ∧ n = 0 ∨ a ≠ 0 ∧ n = pw (lg a * 2 ^ i)) → casematelaw01_GfSquares.l0 k (a : Int) (b : Int) (x : Int) (y : Int) (n : Int) (i : Int) = some true := by
  induction d with
  | zero =>
    intro k a b x y n i hi hk ha hb hx hy hn
    obtain ⟨k, rfl⟩ : ∃ m, k = m + 1 := ⟨k - 1, by omega⟩
    obtain rfl : i = 7 := by omega
    have hn' : n < 256 := by rcases hn with ⟨_, rfl⟩ | ⟨_, rfl⟩; decide; exact pw_lt _
    have hxl : x < 256 := by rw [hx]; exact gmul_lt ha
    have hyl : y < 256 := by rw [hy]; exact gmul_lt hb
    have h1 : gmul (a ^^^ b) (a ^^^ b) = x ^^^ y := by
      rw [gmul_xor_left _ ha hb, gmul_xor_right, gmul_xor_right, gmul_comm hb ha, hx, hy]
      rw [show gmul a a ^^^ gmul a b ^^^ (gmul a b ^^^ gmul b b) = gmul a a ^^^ gmul b b ^^^ (gmul a b ^^^ gmul a b) by ac_rfl]
      simp
    have h2 : gmul n n = a := by
      rcases hn with ⟨h, rfl⟩ | ⟨h, rfl⟩
      · rw [h]; rfl
      · rw [pw_add]
        have e : lg a * 2 ^ 7 + lg a * 2 ^ 7 = lg a + 255 * lg a := by omega
        rw [e, pw_rounds, pw_lg ha h]
    have h3 : x = y ↔ a = b := by
      constructor
      · intro e
        have h4 : gmul (a ^^^ b) (a ^^^ b) = 0 := by rw [h1, e]; simp
        have h5 := (gmul_eq_zero (xor_lt ha hb) (xor_lt ha hb)).1 h4
        have h6 : a ^^^ b = 0 := by rcases h5 with h | h <;> exact h
        have h7 : (a ^^^ b) ^^^ b = 0 ^^^ b := by rw [h6]
        rw [Nat.xor_assoc, Nat.xor_self, Nat.xor_zero, Nat.zero_xor] at h7
        exact h7
      · intro e; rw [hx, hy, e]
    have h3' : ((((x : Int) == (y : Int)) == ((a : Int) == (b : Int))) : Bool) = true := by
      by_cases e : a = b
      · have e2 := h3.2 e
        rw [e, e2]; simp
      · have e2 : x ≠ y := fun h => e (h3.1 h)
        have e3 : ((x : Int) == (y : Int)) = false := by rw [beq_eq_false_iff_ne]; omega
        have e4 : ((a : Int) == (b : Int)) = false := by rw [beq_eq_false_iff_ne]; omega
        rw [e3, e4]; rfl
    simp only [casematelaw01_GfSquares.l0]
    rw [if_neg (by decide), xor8 ha hb, xor8 hxl hyl, mul_f (by omega) (xor_lt ha hb) (xor_lt ha hb), mul_f (by omega) hn' hn', h1, h2, awake_f (by omega)]
    simp only [Option.bind_some]
    simp only [if_true, h3']
  | succ d ih =>
    intro k a b x y n i hi hk ha hb hx hy hn
    obtain ⟨k, rfl⟩ : ∃ m, k = m + 1 := ⟨k - 1, by omega⟩
    have hw : wrap64 ((i : Int) + 1) = ((i + 1 : Nat) : Int) := by unfold wrap64; omega
    have hn' : n < 256 := by rcases hn with ⟨_, rfl⟩ | ⟨_, rfl⟩; decide; exact pw_lt _
    simp only [casematelaw01_GfSquares.l0]
    rw [if_pos (by omega), mul_f (by omega) hn' hn', hw]
    simp only [Option.bind_some]
    refine ih k a b x y _ (i + 1) (by omega) (by omega) ha hb hx hy ?_
    rcases hn with ⟨h, rfl⟩ | ⟨h, rfl⟩
    · exact Or.inl ⟨h, rfl⟩
    · refine Or.inr ⟨h, ?_⟩
      rw [pw_add, Nat.pow_succ, ← Nat.mul_assoc, Nat.mul_two]

theorem squares_f {k a b : Nat} (hk : 500 < k) (ha : a < 256) (hb : b < 256) : casematelaw01_GfSquares.f k (a : Int) (b : Int) = some true := by
  unfold casematelaw01_GfSquares.f
  rw [mul_f (by omega) ha ha, mul_f (by omega) hb hb]
  simp only [Option.bind_some]
  refine squares_l0 7 k a b _ _ a 0 (by omega) (by omega) ha hb rfl rfl ?_
  by_cases h : a = 0
  · exact Or.inl ⟨h, h⟩
  · refine Or.inr ⟨h, ?_⟩
    rw [Nat.pow_zero, Nat.mul_one, pw_lg ha h]
end Go.Proofs.Ytdcanfjpnohhjaa.BrGfSquares
namespace Go.Proofs.Ytdcanfjpnohhjaa.Pure
open Go.RowKit Go.Proofs.Ytdcanfjpnohhjaa.PGfSquares Go.Proofs.Ytdcanfjpnohhjaa.Gf Go.Proofs.Ytdcanfjpnohhjaa.BrGfSquares
theorem GfSquares : casematelaw01_GfSquares.Pure := by
  intro a b wa wb
  obtain ⟨a, ha, rfl⟩ := byte_nat wa
  obtain ⟨b, hb, rfl⟩ := byte_nat wb
  exact ⟨2000, squares_f (by decide) ha hb⟩

end Go.Proofs.Ytdcanfjpnohhjaa.Pure
